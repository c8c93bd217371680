/-
  Calls of function values in drawn regions; blocks behind a known part.
-/
import Derived.Test.YtbjlabokijchpaaA25
namespace Go.Proofs.YtbjlabokijchpaaA
set_option linter.unusedVariables false
open Go Go.RowKit Go.Shelf
section
variable {F : Fence} {n : Nat} {P : Program} {N0 : AHeap} {ops : Array Oper} {rest : List Oper} {K : ASt → Prop} {nt : Nat} {T : Nat → Value} {H H' : AHeap} {dst : Option Tmp} {ty : TypeId} {pos : String} {af : Array Edge} {g : Option (Nat × Bool)} {tab : List Nat} {i : Nat}
theorem de_callv (hF : Wd F) {f : FuncId} {x : Operand} {xs : Array Operand} {ats : Array TypeId} {cs : Array Value} {args : List Value} {Q : Value → AHeap → Prop} (hcut : cutOk ops tab i = true) (hg : GYes ops ⟨dst, .call { callee := .value x, args := xs, argTypes := ats }, ty, pos, af, g⟩ T) (hE : Enters P f) (hx : ev T x = .func (.func f) #[] cs) (hargs : xs.toList.map (ev T) ++ cs.toList = args)
    (h : ACalls P f args H Q) (hd : dOk nt dst) (hc : ∀ y ∈ #[x] ++ xs, cOk H y) (hk : ∀ v H', Q v H' → dList F n P N0 ops tab (i + 1) rest K ⟨nt, updo T dst v, [], H'⟩) :
    dList F n P N0 ops tab i (⟨dst, .call { callee := .value x, args := xs, argTypes := ats }, ty, pos, af, g⟩ :: rest) K ⟨nt, T, [], H⟩ :=
  de hcut hg (o_callv hF hE hx hargs h hc hd (fun _ _ _ d hd => by simp at hd) fun v H' hq => by rw [put_updo]; exact hk v H' hq)
end
theorem tail_get {H0 L M : AHeap} {n0 m j : Nat} {o : AObj} (h0 : H0.length = n0) (hL : L.length = m) (h : M[j]? = some o) : (H0 ++ (L ++ M))[n0 + m + j]? = some o := by
  subst h0 hL
  rw [← List.append_assoc, List.getElem?_append_right (by simp)]
  rw [List.length_append, show H0.length + L.length + j - (H0.length + L.length) = j by omega]
  exact h
theorem tail_rd {H0 L M : AHeap} {n0 m j : Nat} {w : Bool} {vs : List Value} {sz : Nat} (h0 : H0.length = n0) (hL : L.length = m) (h : M[j]? = some (.cells w vs sz)) : Rd (H0 ++ (L ++ M)) (n0 + m + j) vs sz := .inl ⟨w, tail_get h0 hL h⟩
/-- An element's place in a list that a block holds. -/
theorem get_map1 {α : Type} {f : α → Value} {l : List α} {k : Nat} (h : k < l.length) : (l.map f)[k]? = some (f l[k]) := by simp [h]
end Go.Proofs.YtbjlabokijchpaaA
