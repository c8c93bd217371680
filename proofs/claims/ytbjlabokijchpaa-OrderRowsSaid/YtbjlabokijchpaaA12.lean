/-
  The steps of a walk.
-/
import Derived.Test.YtbjlabokijchpaaA11
namespace Go.Proofs.YtbjlabokijchpaaA
set_option linter.unusedVariables false
open Go Go.RowKit Go.Shelf
section
variable {F : Fence} {n : Nat} {P : Program} {N0 : AHeap} {ops : Array Oper} {o : Oper} {rest : List Oper} {K : ASt → Prop} {nt : Nat} {T : Nat → Value} {D : List Nat} {H H' : AHeap} {d : Tmp} {v : Value} {Δ : AHeap}
theorem gyes_none (hg : o.guard = none) : GYes ops o T := fun j want h => by rw [hg] at h; cases h
theorem gyes_some {j : Nat} {want : Bool} (hg : o.guard = some (j, want)) (h : gval ops T j = .bool want) : GYes ops o T := fun j' want' h' => by rw [hg] at h'; cases h'; exact h
/-- A value comes to a slot. -/
theorem sv (hF : Wd F) (hg : GYes ops o T) (hq : OpQ P o T H v []) (hd : o.dst = some d) (hn : d < nt) (hc : ∀ x ∈ o.op.operands, cOk H x) (hk : aList F n P N0 ops rest K ⟨nt, upd T d v, D, H⟩) : aList F n P N0 ops (o :: rest) K ⟨nt, T, D, H⟩ :=
  .inl ⟨hg, hq.ok hF hc (by rw [hd]; exact hn) (by rw [hd]; simpa [ASt.put] using hk)⟩
/-- .. and new blocks. -/
theorem sn (hF : Wd F) (hg : GYes ops o T) (hq : OpQ P o T H v Δ) (hd : o.dst = some d) (hn : d < nt) (hc : ∀ x ∈ o.op.operands, cOk H x) (hH : H ++ Δ = H') (hk : aList F n P N0 ops rest K ⟨nt, upd T d v, D, H'⟩) : aList F n P N0 ops (o :: rest) K ⟨nt, T, D, H⟩ := by
  subst hH
  exact .inl ⟨hg, hq.ok hF hc (by rw [hd]; exact hn) (by rw [hd]; exact hk)⟩
theorem sno {j : Nat} {want : Bool} (hg : o.guard = some (j, want)) (h : gval ops T j = .bool (!want) ∨ gval ops T j = undef) (hd : o.dst = some d) (hn : d < nt) (hk : aList F n P N0 ops rest K ⟨nt, upd T d undef, D, H⟩) : aList F n P N0 ops (o :: rest) K ⟨nt, T, D, H⟩ :=
  .inr ⟨⟨j, want, hg, h⟩, by rw [hd]; exact hn, by rw [hd]; exact hk⟩
/-- A call that yields nothing that is kept. -/
theorem sv0 (hF : Wd F) (hg : GYes ops o T) (hq : OpQ P o T H v []) (hd : o.dst = none) (hc : ∀ x ∈ o.op.operands, cOk H x) (hk : aList F n P N0 ops rest K ⟨nt, T, D, H⟩) : aList F n P N0 ops (o :: rest) K ⟨nt, T, D, H⟩ :=
  .inl ⟨hg, hq.ok hF hc (by rw [hd]; trivial) (by rw [hd]; simpa [ASt.put] using hk)⟩
/-- What turns the heap. -/
theorem se (hg : GYes ops o T) (h : OpOk F n P N0 o (aList F n P N0 ops rest K) ⟨nt, T, D, H⟩) : aList F n P N0 ops (o :: rest) K ⟨nt, T, D, H⟩ := .inl ⟨hg, h⟩
theorem send (h : ∃ s2, Wk N0 ⟨nt, T, D, H⟩ s2 ∧ K s2) : aList F n P N0 ops [] (fun s' => ∃ s2, Wk N0 s' s2 ∧ K s2) ⟨nt, T, D, H⟩ := h
variable {tab : List Nat} {i : Nat}
theorem dv (hg : GYes ops o T) (hq : OpQ P o T H v []) (hd : o.dst = some d) (hn : d < nt) (hc : ∀ x ∈ o.op.operands, cOk H x) (hk : dList F n P N0 ops tab (i + 1) rest K ⟨nt, upd T d v, D, H⟩) : dList F n P N0 ops tab i (o :: rest) K ⟨nt, T, D, H⟩ :=
  .inl ⟨⟨nt, upd T d v, D, H⟩, ⟨v, [], by rw [hd]; exact hn, by rw [hd]; simp [ASt.put], .inl ⟨hg, hq, hc⟩⟩, hk⟩
theorem dn (hg : GYes ops o T) (hq : OpQ P o T H v Δ) (hd : o.dst = some d) (hn : d < nt) (hc : ∀ x ∈ o.op.operands, cOk H x) (hH : H ++ Δ = H') (hk : dList F n P N0 ops tab (i + 1) rest K ⟨nt, upd T d v, D, H'⟩) : dList F n P N0 ops tab i (o :: rest) K ⟨nt, T, D, H⟩ := by
  subst hH
  exact .inl ⟨⟨nt, upd T d v, D, H ++ Δ⟩, ⟨v, Δ, by rw [hd]; exact hn, by rw [hd]; rfl, .inl ⟨hg, hq, hc⟩⟩, hk⟩
theorem dno {j : Nat} {want : Bool} (hg : o.guard = some (j, want)) (h : gval ops T j = .bool (!want) ∨ gval ops T j = undef) (hd : o.dst = some d) (hn : d < nt) (hk : dList F n P N0 ops tab (i + 1) rest K ⟨nt, upd T d undef, D, H⟩) : dList F n P N0 ops tab i (o :: rest) K ⟨nt, T, D, H⟩ :=
  .inl ⟨⟨nt, upd T d undef, D, H⟩, ⟨undef, [], by rw [hd]; exact hn, by rw [hd]; simp [ASt.put], .inr ⟨⟨j, want, hg, h⟩, rfl, rfl⟩⟩, hk⟩
theorem dv0 (hg : GYes ops o T) (hq : OpQ P o T H v []) (hd : o.dst = none) (hc : ∀ x ∈ o.op.operands, cOk H x) (hk : dList F n P N0 ops tab (i + 1) rest K ⟨nt, T, D, H⟩) : dList F n P N0 ops tab i (o :: rest) K ⟨nt, T, D, H⟩ :=
  .inl ⟨⟨nt, T, D, H⟩, ⟨v, [], by rw [hd]; trivial, by rw [hd]; simp [ASt.put], .inl ⟨hg, hq, hc⟩⟩, hk⟩
theorem de (hcut : cutOk ops tab i = true) (hg : GYes ops o T) (h : OpOk F n P N0 o (dList F n P N0 ops tab (i + 1) rest K) ⟨nt, T, D, H⟩) : dList F n P N0 ops tab i (o :: rest) K ⟨nt, T, D, H⟩ := .inr (.inl ⟨hcut, hg, h⟩)
/-- Late operations, one by one. -/
def PendL (P : Program) (ops : Array Oper) (s : ASt) : List Nat → Prop
  | [] => True
  | j :: l => Pend P ops s j ∧ PendL P ops s l
theorem PendL.all {P : Program} {ops : Array Oper} {s : ASt} : ∀ {l : List Nat}, PendL P ops s l → ∀ j ∈ l, Pend P ops s j
  | [], _, j, h => by simp at h
  | k :: l, ⟨h1, h2⟩, j, h => by
    rcases List.mem_cons.1 h with rfl | h
    · exact h1
    · exact PendL.all h2 j h
theorem pend_yes {j : Nat} (ho : ops[j]? = some o) (hg : GYes ops o T) (hq : OpQ P o T H v []) (hd : o.dst = some d) (hn : d < nt) (hc : ∀ x ∈ o.op.operands, cOk H x) (hv : T d = v) : Pend P ops ⟨nt, T, D, H⟩ j :=
  ⟨o, v, ho, by rw [hd]; exact hn, fun d' h => (by rw [hd] at h; cases h; exact hv), .inl ⟨hg, hq, hc⟩⟩
theorem pend_no {j j' : Nat} {want : Bool} (ho : ops[j]? = some o) (hg : o.guard = some (j', want)) (h : gval ops T j' = .bool (!want) ∨ gval ops T j' = undef) (hd : o.dst = some d) (hn : d < nt) (hv : T d = undef) : Pend P ops ⟨nt, T, D, H⟩ j :=
  ⟨o, undef, ho, by rw [hd]; exact hn, fun d' h => (by rw [hd] at h; cases h; exact hv), .inr ⟨⟨j', want, hg, h⟩, rfl⟩⟩
/-- The operand's slot is none of those. -/
def offF (ops : Array Oper) (fl : List Nat) : Operand → Bool
  | .tmp t => fl.all fun j => match dstOf ops j with | none => true | some d => !Nat.beq d t
  | _ => true
theorem offF_ev {fl : List Nat} {x : Operand} (h : offF ops fl x = true) {T' : Nat → Value} (hT : ∀ t, (∀ j ∈ fl, dstOf ops j ≠ some t) → T' t = T t) : ev T' x = ev T x := by
  cases x with
  | tmp t =>
    refine hT t fun j hj hd => ?_
    have h1 := List.all_eq_true.1 h j hj
    rw [hd] at h1
    have h2 : (!Nat.beq t t) = true := h1
    rw [Nat.beq_refl] at h2
    cases h2
  | _ => rfl
/-- What turns the heap, some operations being late. -/
theorem dfR (fl : List Nat) (R : Value → AHeap → Prop) (hfl : floatOk ops tab i fl = true) (hg : GYes ops o T) (h : EffOk F n P N0 ops fl o ⟨nt, T, D, H⟩ R) (hk : ∀ v H', R v H' → PendL P ops (ASt.put ⟨nt, T, D, H'⟩ o.dst v) fl ∧ dList F n P N0 ops tab (i + 1) rest K (ASt.put ⟨nt, T, D, H'⟩ o.dst v)) :
    dList F n P N0 ops tab i (o :: rest) K ⟨nt, T, D, H⟩ := .inr (.inr ⟨fl, R, hfl, hg, h, fun v H' hR => ⟨(hk v H' hR).1.all, (hk v H' hR).2⟩⟩)
def EffOk1 (F : Fence) (n : Nat) (P : Program) (N0 : AHeap) (ops : Array Oper) (fl : List Nat) (o : Oper) (s : ASt) (v : Value) (H' : AHeap) : Prop :=
  ∀ T', (∀ t, (∀ j ∈ fl, dstOf ops j ≠ some t) → T' t = s.T t) → ∀ K : ASt → Prop, K (ASt.put { s with T := T', H := H' } o.dst v) → OpOk F n P N0 o K { s with T := T' }
theorem df (fl : List Nat) (hfl : floatOk ops tab i fl = true) (hg : GYes ops o T) (h : EffOk1 F n P N0 ops fl o ⟨nt, T, D, H⟩ v H') (hpd : PendL P ops (ASt.put ⟨nt, T, D, H'⟩ o.dst v) fl) (hk : dList F n P N0 ops tab (i + 1) rest K (ASt.put ⟨nt, T, D, H'⟩ o.dst v)) :
    dList F n P N0 ops tab i (o :: rest) K ⟨nt, T, D, H⟩ := dfR fl (fun v' H'' => v' = v ∧ H'' = H') hfl hg (fun T' hT K' hk' => h T' hT K' (hk' v H' ⟨rfl, rfl⟩)) fun v' H'' hR => by
  obtain ⟨rfl, rfl⟩ := hR
  exact ⟨hpd, hk⟩
theorem cok1 {x : Operand} (h : cOk H x) : ∀ y ∈ #[x], cOk H y := fun y hy => by simp at hy; subst hy; exact h
theorem cok2 {x y : Operand} (h : cOk H x) (k : cOk H y) : ∀ z ∈ #[x, y], cOk H z := fun z hz => by
  simp only [List.mem_toArray, List.mem_cons, List.not_mem_nil, or_false] at hz
  rcases hz with rfl | rfl
  · exact h
  · exact k
theorem cconst {v : Value} (h : Scalar v = true) : cOk H (.const v) := fun ρ => .scalar h ρ
/-- All operands are slots, constants or functions. -/
def cAll (xs : List Operand) : Bool := xs.all fun | .tmp _ => true | .const v => Scalar v | .func _ => true | .global _ => false
theorem call_ok {xs : Array Operand} (h : cAll xs.toList = true) : ∀ x ∈ xs, cOk H x := fun x hx => by
  have := List.all_eq_true.1 h x (by simpa using hx)
  cases x with
  | tmp t => trivial
  | const v => exact cconst this
  | func f => trivial
  | «global» g => cases this
end
/-! A heap's own blocks, behind those that were there. -/
section
variable {H0 : AHeap} {n0 : Nat}
theorem loc_get (h0 : H0.length = n0) {L : AHeap} {j : Nat} {o : AObj} (h : L[j]? = some o) : (H0 ++ L)[n0 + j]? = some o := by
  subst h0
  rw [List.getElem?_append_right (by omega)]
  simpa using h
theorem frm_get {L : AHeap} {b : Nat} {o : AObj} (h : H0[b]? = some o) : (H0 ++ L)[b]? = some o := by
  rw [List.getElem?_append_left (List.getElem?_eq_some_iff.1 h).1]; exact h
theorem loc_set (h0 : H0.length = n0) {L : AHeap} {j : Nat} (o : AObj) : (H0 ++ L).set (n0 + j) o = H0 ++ L.set j o := by
  subst h0
  rw [List.set_append_right _ _ (by omega)]
  simp
theorem frm_set (L : AHeap) {b : Nat} (h : b < H0.length) (o : AObj) : (H0 ++ L).set b o = H0.set b o ++ L := List.set_append_left _ _ h
theorem loc_rd (h0 : H0.length = n0) {L : AHeap} {j : Nat} {w : Bool} {vs : List Value} {sz : Nat} (h : L[j]? = some (.cells w vs sz)) : Rd (H0 ++ L) (n0 + j) vs sz := .inl ⟨w, loc_get h0 h⟩
theorem frm_rd {L : AHeap} {b : Nat} {w : Bool} {vs : List Value} {sz : Nat} (h : H0[b]? = some (.cells w vs sz)) : Rd (H0 ++ L) b vs sz := .inl ⟨w, frm_get h⟩
theorem frm_rd' {L : AHeap} {b : Nat} {vs : List Value} {sz : Nat} (h : Rd H0 b vs sz) : Rd (H0 ++ L) b vs sz := by
  rcases h with ⟨w, h⟩ | h | ⟨h, h'⟩
  · exact .inl ⟨w, frm_get h⟩
  · exact .inr (.inl (frm_get h))
  · exact .inr (.inr ⟨frm_get h, h'⟩)
theorem loc_len (h0 : H0.length = n0) {L : AHeap} {j : Nat} (h : L.length = j) : (H0 ++ L).length = n0 + j := by simp [h0, h]
end
end Go.Proofs.YtbjlabokijchpaaA
