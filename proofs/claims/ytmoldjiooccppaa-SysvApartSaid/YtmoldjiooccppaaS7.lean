/-
  SysvApart's walk of a name, gathered in a list.
-/
import Derived.Test.YtmoldjiooccppaaS6
import Derived.Test.YtmoldjiooccppaaBk
namespace Go.Proofs.YtmoldjiooccppaaA
set_option linter.unusedVariables false
open Go Go.RowKit Go.Shelf Go.Proofs
/-- The gathered list's slice: none yet, or in a block of M, whose first is named m. -/
def OwnM (vW : Value) (l : List Nat) (M : AHeap) (m : Nat) : Prop :=
  (vW = .slice none 0 0 ∧ l = []) ∨ ∃ j c, vW = .slice (some ⟨m + j, 0, none⟩) l.length c ∧ M[j]? = some (.cells true (l.map i64v) 1)
theorem apart_run {G : AHeap} {g : Nat} (h0 : G.length = g) (s : ByteArray) (hs : s.size ≤ 140737488355328) (B C : List Nat) (vB vC : Value) (hSB : Sl u32v G vB B) (hSC : Sl u32v G vC C) (hB1 : B.length < 4294967296) (hBv : ∀ x ∈ B, x < 4294967296) (hCv : ∀ x ∈ C, x < 4294967296) (hC1 : C.length ≤ 1000) (hW : (walkL B C s).length ≤ 1000) :
    ACalls Try.prog 21 [.func (.func 10) #[] #[.pointer (some ⟨g + 0, 0, none⟩)], .pointer (some ⟨g + 1, 0, none⟩), .pointer (some ⟨g + 2, 0, none⟩)] (G ++ [AObj.cells true [.slice none 0 0] 1, .cells true [vB, vC] 1, .cells true [.string s] 1])
      (fun v H' => v = .tuple #[] ∧ ∃ vW M, H' = G ++ ([AObj.cells true [vW] 1, .cells true [vB, vC] 1, .cells true [.string s] 1] ++ M) ∧ OwnM vW (walkL B C s) M (g + 3)) := by
  refine (walk1_ok (H0 := G ++ [AObj.cells true [.slice none 0 0] 1, .cells true [vB, vC] 1, .cells true [.string s] 1]) rfl s hs B C vB vC hB1 hBv hCv (by omega) _ (g + 1) (g + 2)
    (fun k H => ∃ vW M, H = G ++ ([AObj.cells true [vW] 1, .cells true [vB, vC] 1, .cells true [.string s] 1] ++ M) ∧ OwnM vW ((walkL B C s).take k) M (g + 3)) (fun _ _ => False) ?_ ?_ ?_).mono ?_
  · exact ⟨_, [], rfl, .inl ⟨rfl, by rw [List.take_zero]⟩⟩
  · rintro k H ⟨vW, M, rfl, _⟩
    exact ⟨loc_get h0 rfl, loc_get h0 rfl, hSB.app _, hSC.app _⟩
  · rintro k H x ⟨vW, M, rfl, hO⟩ hx
    have ht : (walkL B C s).take (k + 1) = (walkL B C s).take k ++ [x] := by rw [List.take_add_one, hx]; rfl
    have hlen : (G ++ ([AObj.cells true [vW] 1, .cells true [vB, vC] 1, .cells true [.string s] 1] ++ M)).length = g + 3 + M.length := by simp [h0]; omega
    rcases hO with ⟨rfl, hl⟩ | ⟨j, c, rfl, hM⟩
    · refine ylds_func Try.call10 ((aclos_nil hlen (g + 0) x (loc_get h0 rfl)).mono ?_)
      rintro v H' ⟨rfl, rfl⟩
      refine ⟨true, rfl, fun _ => ⟨.slice (some ⟨g + 3 + (M.length + 1), 0, none⟩) 1 1, M ++ [AObj.cells true [i64v x] 1, .cells true [i64v x] 1], ?_, .inr ⟨M.length + 1, 1, ?_, ?_⟩⟩, fun h => nomatch h⟩
      · rw [loc_set h0, List.append_assoc]; rfl
      · rw [ht, hl]; rfl
      · rw [ht, hl, List.getElem?_append_right (by omega)]
        simp
    · have hj : j < M.length := (List.getElem?_eq_some_iff.1 hM).1
      have hb : (G ++ ([AObj.cells true [.slice (some ⟨g + 3 + j, 0, none⟩) ((walkL B C s).take k).length c] 1, .cells true [vB, vC] 1, .cells true [.string s] 1] ++ M))[g + (3 + j)]? = some (.cells true (((walkL B C s).take k).map i64v) 1) := by
        refine loc_get h0 ?_
        rw [List.getElem?_append_right (by simp), List.length_cons, List.length_cons, List.length_cons, List.length_nil, show 3 + j - (0 + 1 + 1 + 1) = j by omega]
        exact hM
      rw [← Nat.add_assoc] at hb
      refine ylds_func Try.call10 ((aclos_own hlen (g + 0) (g + 3 + j) c ((walkL B C s).take k) x (by rw [List.length_take]; omega) (loc_get h0 rfl) hb (by omega)).mono ?_)
      rintro v H' ⟨rfl, rfl⟩
      refine ⟨true, rfl, fun _ => ⟨.slice (some ⟨g + 3 + (M.length + 1), 0, none⟩) (((walkL B C s).take k).length + 1) (((walkL B C s).take k).length + 1), M.set j .dead ++ [AObj.cells true [i64v x] 1, .cells true (((walkL B C s).take k ++ [x]).map i64v) 1], ?_, .inr ⟨M.length + 1, (((walkL B C s).take k).length + 1), ?_, ?_⟩⟩, fun h => nomatch h⟩
      · rw [show g + 3 + j = g + (3 + j) by omega, loc_set h0, loc_set h0, List.append_assoc]
        rw [List.set_append_right _ _ (by simp)]
        have e : 3 + j - [AObj.cells true [Value.slice (some ⟨g + (3 + j), 0, none⟩) ((walkL B C s).take k).length c] 1, .cells true [vB, vC] 1, .cells true [.string s] 1].length = j := by simp
        rw [e]; rfl
      · rw [ht, List.length_append]; rfl
      · rw [ht, List.getElem?_append_right (by simp)]
        simp
  · rintro v H' ⟨rfl, ⟨vW, M, rfl, hO⟩ | ⟨k, _, h⟩⟩
    · rw [List.take_length] at hO
      exact ⟨rfl, vW, M, rfl, hO⟩
    · exact h.elim
end Go.Proofs.YtmoldjiooccppaaA
