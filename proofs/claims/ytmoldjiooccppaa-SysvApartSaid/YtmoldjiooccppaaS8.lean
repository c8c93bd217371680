/-
  SysvApart's walk of a name, over the law's own blocks.
-/
import Derived.Test.YtmoldjiooccppaaS7
import Derived.Test.YtmoldjiooccppaaA26
namespace Go.Proofs.YtmoldjiooccppaaA
set_option linter.unusedVariables false
open Go Go.RowKit Go.Shelf Go.Proofs
theorem apart_runL {H0 : AHeap} {n0 : Nat} (h0 : H0.length = n0) (PP : AHeap) {m : Nat} (hp : PP.length = m) (s : ByteArray) (hs : s.size ≤ 140737488355328) (B C : List Nat) (vB vC : Value) (hSB : Sl u32v (H0 ++ PP) vB B) (hSC : Sl u32v (H0 ++ PP) vC C) (hB1 : B.length < 4294967296) (hBv : ∀ x ∈ B, x < 4294967296) (hCv : ∀ x ∈ C, x < 4294967296) (hC1 : C.length ≤ 1000) (hW : (walkL B C s).length ≤ 1000) :
    ACalls Try.prog 21 [.func (.func 10) #[] #[.pointer (some ⟨n0 + m + 0, 0, none⟩)], .pointer (some ⟨n0 + m + 1, 0, none⟩), .pointer (some ⟨n0 + m + 2, 0, none⟩)] (H0 ++ (PP ++ [AObj.cells true [.slice none 0 0] 1, .cells true [vB, vC] 1, .cells true [.string s] 1]))
      (fun v H' => v = .tuple #[] ∧ ∃ vW M, H' = H0 ++ ((PP ++ [AObj.cells true [vW] 1, .cells true [vB, vC] 1, .cells true [.string s] 1]) ++ M) ∧ OwnM vW (walkL B C s) M (n0 + m + 3)) := by
  have h := apart_run (loc_len h0 hp : (H0 ++ PP).length = n0 + m) s hs B C vB vC hSB hSC hB1 hBv hCv hC1 hW
  rw [List.append_assoc] at h
  refine h.mono ?_
  rintro v H' ⟨rfl, vW, M, rfl, hO⟩
  exact ⟨rfl, vW, M, by rw [List.append_assoc, List.append_assoc], hO⟩
end Go.Proofs.YtmoldjiooccppaaA
