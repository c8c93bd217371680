/-
  The steps of a walk.
-/
import Derived.Test.YtdiecgjhmlljmaaA11
namespace Go.Proofs.YtdiecgjhmlljmaaA
set_option linter.unusedVariables false
open Go Go.RowKit Go.Shelf
section
variable {F : Fence} {n : Nat} {P : Program} {N0 : AHeap} {ops : Array Oper} {o : Oper} {rest : List Oper} {K : ASt → Prop} {nt : Nat} {T : Nat → Value} {D : List Nat} {H H' : AHeap} {d : Tmp} {v : Value} {Δ : AHeap}
theorem gyes_none (hg : o.guard = none) : GYes ops o T := fun j want h => by rw [hg] at h; cases h
theorem gyes_some {j : Nat} {want : Bool} (hg : o.guard = some (j, want)) (h : gval ops T j = .bool want) : GYes ops o T := fun j' want' h' => by rw [hg] at h'; cases h'; exact h
/-- A value comes to a slot. -/
theorem sv (hF : Wd F) (hg : GYes ops o T) (hq : OpQ P o T H v []) (hd : o.dst = some d) (hn : d < nt) (hc : ∀ x ∈ o.op.operands, cOk H x) (hk : aList F n P N0 ops rest K ⟨nt, upd T d v, D, H⟩) : aList F n P N0 ops (o :: rest) K ⟨nt, T, D, H⟩ :=
  .inl ⟨hg, hq.ok hF hc (by rw [hd]; exact hn) (by rw [hd]; simpa [ASt.put] using hk)⟩
/-- .. and new blocks. -/
theorem sn (hF : Wd F) (hg : GYes ops o T) (hq : OpQ P o T H v Δ) (hd : o.dst = some d) (hn : d < nt) (hc : ∀ x ∈ o.op.operands, cOk H x) (hH : H ++ Δ = H') (hk : aList F n P N0 ops rest K ⟨nt, upd T d v, D, H'⟩) : aList F n P N0 ops (o :: rest) K ⟨nt, T, D, H⟩ := by
  subst hH
  exact .inl ⟨hg, hq.ok hF hc (by rw [hd]; exact hn) (by rw [hd]; exact hk)⟩
theorem sno {j : Nat} {want : Bool} (hg : o.guard = some (j, want)) (h : gval ops T j = .bool (!want) ∨ gval ops T j = undef) (hd : o.dst = some d) (hn : d < nt) (hk : aList F n P N0 ops rest K ⟨nt, upd T d undef, D, H⟩) : aList F n P N0 ops (o :: rest) K ⟨nt, T, D, H⟩ :=
  .inr ⟨⟨j, want, hg, h⟩, by rw [hd]; exact hn, by rw [hd]; exact hk⟩
/-- A call that yields nothing that is kept. -/
theorem sv0 (hF : Wd F) (hg : GYes ops o T) (hq : OpQ P o T H v []) (hd : o.dst = none) (hc : ∀ x ∈ o.op.operands, cOk H x) (hk : aList F n P N0 ops rest K ⟨nt, T, D, H⟩) : aList F n P N0 ops (o :: rest) K ⟨nt, T, D, H⟩ :=
  .inl ⟨hg, hq.ok hF hc (by rw [hd]; trivial) (by rw [hd]; simpa [ASt.put] using hk)⟩
/-- What turns the heap. -/
theorem se (hg : GYes ops o T) (h : OpOk F n P N0 o (aList F n P N0 ops rest K) ⟨nt, T, D, H⟩) : aList F n P N0 ops (o :: rest) K ⟨nt, T, D, H⟩ := .inl ⟨hg, h⟩
theorem send (h : ∃ s2, Wk N0 ⟨nt, T, D, H⟩ s2 ∧ K s2) : aList F n P N0 ops [] (fun s' => ∃ s2, Wk N0 s' s2 ∧ K s2) ⟨nt, T, D, H⟩ := h
variable {tab : List Nat} {i : Nat}
theorem dv (hg : GYes ops o T) (hq : OpQ P o T H v []) (hd : o.dst = some d) (hn : d < nt) (hc : ∀ x ∈ o.op.operands, cOk H x) (hk : dList F n P N0 ops tab (i + 1) rest K ⟨nt, upd T d v, D, H⟩) : dList F n P N0 ops tab i (o :: rest) K ⟨nt, T, D, H⟩ :=
  .inl ⟨⟨nt, upd T d v, D, H⟩, ⟨v, [], by rw [hd]; exact hn, by rw [hd]; simp [ASt.put], .inl ⟨hg, hq, hc⟩⟩, hk⟩
theorem dn (hg : GYes ops o T) (hq : OpQ P o T H v Δ) (hd : o.dst = some d) (hn : d < nt) (hc : ∀ x ∈ o.op.operands, cOk H x) (hH : H ++ Δ = H') (hk : dList F n P N0 ops tab (i + 1) rest K ⟨nt, upd T d v, D, H'⟩) : dList F n P N0 ops tab i (o :: rest) K ⟨nt, T, D, H⟩ := by
  subst hH
  exact .inl ⟨⟨nt, upd T d v, D, H ++ Δ⟩, ⟨v, Δ, by rw [hd]; exact hn, by rw [hd]; rfl, .inl ⟨hg, hq, hc⟩⟩, hk⟩
theorem dno {j : Nat} {want : Bool} (hg : o.guard = some (j, want)) (h : gval ops T j = .bool (!want) ∨ gval ops T j = undef) (hd : o.dst = some d) (hn : d < nt) (hk : dList F n P N0 ops tab (i + 1) rest K ⟨nt, upd T d undef, D, H⟩) : dList F n P N0 ops tab i (o :: rest) K ⟨nt, T, D, H⟩ :=
  .inl ⟨⟨nt, upd T d undef, D, H⟩, ⟨undef, [], by rw [hd]; exact hn, by rw [hd]; simp [ASt.put], .inr ⟨⟨j, want, hg, h⟩, rfl, rfl⟩⟩, hk⟩
theorem dv0 (hg : GYes ops o T) (hq : OpQ P o T H v []) (hd : o.dst = none) (hc : ∀ x ∈ o.op.operands, cOk H x) (hk : dList F n P N0 ops tab (i + 1) rest K ⟨nt, T, D, H⟩) : dList F n P N0 ops tab i (o :: rest) K ⟨nt, T, D, H⟩ :=
  .inl ⟨⟨nt, T, D, H⟩, ⟨v, [], by rw [hd]; trivial, by rw [hd]; simp [ASt.put], .inl ⟨hg, hq, hc⟩⟩, hk⟩
theorem de (hcut : cutOk ops tab i = true) (hg : GYes ops o T) (h : OpOk F n P N0 o (dList F n P N0 ops tab (i + 1) rest K) ⟨nt, T, D, H⟩) : dList F n P N0 ops tab i (o :: rest) K ⟨nt, T, D, H⟩ := .inr ⟨hcut, hg, h⟩
theorem cok1 {x : Operand} (h : cOk H x) : ∀ y ∈ #[x], cOk H y := fun y hy => by simp at hy; subst hy; exact h
theorem cok2 {x y : Operand} (h : cOk H x) (k : cOk H y) : ∀ z ∈ #[x, y], cOk H z := fun z hz => by
  simp only [List.mem_toArray, List.mem_cons, List.not_mem_nil, or_false] at hz
  rcases hz with rfl | rfl
  · exact h
  · exact k
theorem cconst {v : Value} (h : Scalar v = true) : cOk H (.const v) := fun ρ => .scalar h ρ
/-- All operands are slots, constants or functions. -/
def cAll (xs : List Operand) : Bool := xs.all fun | .tmp _ => true | .const v => Scalar v | .func _ => true | .global _ => false
theorem call_ok {xs : Array Operand} (h : cAll xs.toList = true) : ∀ x ∈ xs, cOk H x := fun x hx => by
  have := List.all_eq_true.1 h x (by simpa using hx)
  cases x with
  | tmp t => trivial
  | const v => exact cconst this
  | func f => trivial
  | «global» g => cases this
end
/-! A heap's own blocks, behind those that were there. -/
section
variable {H0 : AHeap} {n0 : Nat}
theorem loc_get (h0 : H0.length = n0) {L : AHeap} {j : Nat} {o : AObj} (h : L[j]? = some o) : (H0 ++ L)[n0 + j]? = some o := by
  subst h0
  rw [List.getElem?_append_right (by omega)]
  simpa using h
theorem frm_get {L : AHeap} {b : Nat} {o : AObj} (h : H0[b]? = some o) : (H0 ++ L)[b]? = some o := by
  rw [List.getElem?_append_left (List.getElem?_eq_some_iff.1 h).1]; exact h
theorem loc_set (h0 : H0.length = n0) {L : AHeap} {j : Nat} (o : AObj) : (H0 ++ L).set (n0 + j) o = H0 ++ L.set j o := by
  subst h0
  rw [List.set_append_right _ _ (by omega)]
  simp
theorem frm_set (L : AHeap) {b : Nat} (h : b < H0.length) (o : AObj) : (H0 ++ L).set b o = H0.set b o ++ L := List.set_append_left _ _ h
theorem loc_rd (h0 : H0.length = n0) {L : AHeap} {j : Nat} {w : Bool} {vs : List Value} {sz : Nat} (h : L[j]? = some (.cells w vs sz)) : Rd (H0 ++ L) (n0 + j) vs sz := .inl ⟨w, loc_get h0 h⟩
theorem frm_rd {L : AHeap} {b : Nat} {w : Bool} {vs : List Value} {sz : Nat} (h : H0[b]? = some (.cells w vs sz)) : Rd (H0 ++ L) b vs sz := .inl ⟨w, frm_get h⟩
theorem frm_rd' {L : AHeap} {b : Nat} {vs : List Value} {sz : Nat} (h : Rd H0 b vs sz) : Rd (H0 ++ L) b vs sz := by
  rcases h with ⟨w, h⟩ | h
  · exact .inl ⟨w, frm_get h⟩
  · exact .inr (frm_get h)
theorem loc_len (h0 : H0.length = n0) {L : AHeap} {j : Nat} (h : L.length = j) : (H0 ++ L).length = n0 + j := by simp [h0, h]
end
end Go.Proofs.YtdiecgjhmlljmaaA
