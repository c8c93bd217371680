/-
  A region that draws its order: quiet operations in whatever order, between operations that stand behind all before them.
-/
import Derived.Test.YtbjlabokijchpaaA3
namespace Go.Proofs.YtbjlabokijchpaaA
set_option linter.unusedVariables false
open Go Go.RowKit

/-- The names below m. -/
def res (m : Nat) (ρ : Ren) : Ren := fun b => if b < m then ρ b else .none
theorem res_lt {m : Nat} {ρ : Ren} {b : Nat} (h : b < m) : res m ρ b = ρ b := if_pos h
theorem res_ge {m : Nat} {ρ : Ren} {b : Nat} (h : m ≤ b) : res m ρ b = .none := if_neg (by omega)
theorem res_mono {m m' : Nat} {ρ : Ren} (h : m ≤ m') : ∀ b, res m ρ b ≠ .none → res m' ρ b = res m ρ b ∨ res m' ρ b = .dead := fun b hb => by
  by_cases e : b < m
  · exact .inl (by rw [res_lt e, res_lt (by omega)])
  · exact absurd (res_ge (by omega)) hb
theorem fnok_dead {ρ : Ren} {fn : Fn} {fs cs : Array Value} (hf : Fnok fn) : deadOf ρ (.func fn fs cs) → False := by
  cases fn <;> intro h <;> first | exact h | exact hf
theorem VRel.cut {ρ1 ρ2 : Ren} {m : Nat} (hm : ∀ b, m ≤ b → ρ1 b = .none) {v v1 : Value} (h : VRel ρ1 v v1) : ∀ {v2 : Value}, VRel ρ2 v v2 → VRel (res m ρ2) v v2 := by
  have lt : ∀ b, ρ1 b ≠ .none → b < m := fun b hb => by
    by_cases e : b < m
    · exact e
    · exact absurd (hm b (by omega)) hb
  have dd : ∀ {v v2 : Value}, deadOf ρ2 v → (∀ b, (ρ2 b = .dead) → (match v with | .pointer (some a) => a.block = b | .slice (some a) _ _ => a.block = b | .map (some r) => r = b | .func (.yield l) _ _ => l = b | _ => False) → b < m) → VRel (res m ρ2) v v2 := by
    intro v v2 hd hb
    refine .dead ?_
    cases v with
    | pointer a => cases a with | none => exact hd | some a => exact (res_lt (hb _ hd rfl)).trans hd
    | slice a n c => cases a with | none => exact hd | some a => exact (res_lt (hb _ hd rfl)).trans hd
    | map a => cases a with | none => exact hd | some a => exact (res_lt (hb _ hd rfl)).trans hd
    | func fn fs cs => cases fn <;> first | exact hd | exact (res_lt (hb _ hd rfl)).trans hd
    | _ => exact hd
  induction h with
  | bool b => intro v2 h2; cases h2 with | bool => exact .bool b | dead h => exact h.elim
  | int k n => intro v2 h2; cases h2 with | int => exact .int k n | dead h => exact h.elim
  | float k n => intro v2 h2; cases h2 with | float => exact .float k n | dead h => exact h.elim
  | complex k n m => intro v2 h2; cases h2 with | complex => exact .complex k n m | dead h => exact h.elim
  | string s => intro v2 h2; cases h2 with | string => exact .string s | dead h => exact h.elim
  | nilPtr => intro v2 h2; cases h2 with | nilPtr => exact .nilPtr | dead h => exact h.elim
  | @ptr b o l h =>
    intro v2 h2
    have hb := lt b (by rw [h]; simp)
    cases h2 with
    | ptr h' => exact .ptr ((res_lt hb).trans h')
    | dead h' => exact dd h' (fun c _ e => e ▸ hb)
  | nilSlice => intro v2 h2; cases h2 with | nilSlice => exact .nilSlice | dead h => exact h.elim
  | @slice b o n c c' o' l h hn hc ho hr =>
    intro v2 h2
    have hb := lt b (by rw [h]; simp)
    cases h2 with
    | slice h' hn' hc' ho' hr' => exact .slice ((res_lt hb).trans h') hn' hc' ho' hr'
    | empty h' => exact .empty ((res_lt hb).trans h')
    | dead h' => exact dd h' (fun c _ e => e ▸ hb)
  | @empty b o a h =>
    intro v2 h2
    have hb := lt b (by rw [h]; simp)
    cases h2 with
    | slice h' hn' hc' ho' hr' => exact .slice ((res_lt hb).trans h') hn' hc' ho' hr'
    | empty h' => exact .empty ((res_lt hb).trans h')
    | dead h' => exact dd h' (fun c _ e => e ▸ hb)
  | nilMap => intro v2 h2; cases h2 with | nilMap => exact .nilMap | dead h => exact h.elim
  | @map b l h =>
    intro v2 h2
    have hb := lt b (by rw [h]; simp)
    cases h2 with
    | map h' => exact .map ((res_lt hb).trans h')
    | dead h' => exact dd h' (fun c _ e => e ▸ hb)
  | func hf h1 _ h3 _ i2 i4 =>
    intro v2 h2
    cases h2 with
    | func hf' h1' h2' h3' h4' => exact .func hf' h1' (fun i hi => i2 i hi (h2' i hi)) h3' (fun i hi => i4 i hi (h4' i hi))
    | yield h' => exact hf.elim
    | dead h' => exact (fnok_dead hf h').elim
  | @yield b l h =>
    intro v2 h2
    have hb := lt b (by rw [h]; simp)
    cases h2 with
    | yield h' => exact .yield ((res_lt hb).trans h')
    | func hf => exact hf.elim
    | dead h' => exact dd h' (fun c _ e => e ▸ hb)
  | nilFunc => intro v2 h2; cases h2 with | nilFunc => exact .nilFunc | dead h => exact h.elim
  | nilIface => intro v2 h2; cases h2 with | nilIface => exact .nilIface | dead h => exact h.elim
  | iface _ ih => intro v2 h2; cases h2 with | iface h' => exact .iface (ih h') | dead h => exact h.elim
  | agg h1 _ ih => intro v2 h2; cases h2 with | agg h1' h2' => exact .agg h1' (fun i hi => ih i hi (h2' i hi)) | dead h => exact h.elim
  | tuple h1 _ ih => intro v2 h2; cases h2 with | tuple h1' h2' => exact .tuple h1' (fun i hi => ih i hi (h2' i hi)) | dead h => exact h.elim
  | junk r v' => intro v2 h2; exact .junk r v2
  | @dead v v' h =>
    intro v2 h2
    have key : ∀ b, ρ1 b = .dead → b < m := fun b hb => lt b (by rw [hb]; simp)
    cases h2 with
    | ptr h' => exact .ptr ((res_lt (key _ h)).trans h')
    | slice h' hn' hc' ho' hr' => exact .slice ((res_lt (key _ h)).trans h') hn' hc' ho' hr'
    | empty h' => exact .empty ((res_lt (key _ h)).trans h')
    | map h' => exact .map ((res_lt (key _ h)).trans h')
    | yield h' => exact .yield ((res_lt (key _ h)).trans h')
    | dead h' =>
      refine dd h' (fun c _ e => ?_)
      cases v with
      | pointer a => cases a with | none => exact e.elim | some a => exact e ▸ key _ h
      | slice a n c => cases a with | none => exact e.elim | some a => exact e ▸ key _ h
      | map a => cases a with | none => exact e.elim | some a => exact e ▸ key _ h
      | func fn fs cs => cases fn <;> first | exact e.elim | exact e ▸ key _ h
      | _ => exact e.elim
    | bool => exact h.elim
    | int => exact h.elim
    | float => exact h.elim
    | complex => exact h.elim
    | string => exact h.elim
    | nilPtr => exact h.elim
    | nilSlice => exact h.elim
    | nilMap => exact h.elim
    | func hf => exact (fnok_dead hf h).elim
    | nilFunc => exact h.elim
    | nilIface => exact h.elim
    | iface => exact h.elim
    | agg => exact h.elim
    | tuple => exact h.elim
    | junk r => exact .junk r _
theorem ORel.cut {ρ1 ρ2 : Ren} {m : Nat} (hm : ∀ b, m ≤ b → ρ1 b = .none) {l1 l : Loc} {w1 w2 : World} {o : AObj} (h : ORel ρ1 l1 w1 o) (k : ORel ρ2 l w2 o) : ORel (res m ρ2) l w2 o := by
  cases o with
  | none => trivial
  | dead => exact k.elim
  | null => exact k.elim
  | glob vs sz =>
    obtain ⟨_, cs1, _, _, _, _, _, c1⟩ := h
    obtain ⟨h1, cs, T, fr, h2, h3, h4, h5⟩ := k
    exact ⟨h1, cs, T, fr, h2, h3, h4, fun i hi => (c1 i hi).cut hm (h5 i hi)⟩
  | cells wr vs sz =>
    obtain ⟨_, cs1, _, _, _, _, _, c1, _⟩ := h
    obtain ⟨h1, cs, T, fr, h2, h3, h4, h5, h6⟩ := k
    exact ⟨h1, cs, T, fr, h2, h3, h4, fun i hi => (c1 i hi).cut hm (h5 i hi), h6⟩
  | map es c =>
    obtain ⟨es1, _, _, c1⟩ := h
    obtain ⟨es', h1, h2, h3⟩ := k
    exact ⟨es', h1, h2, fun i hi => ⟨(h3 i hi).1, (c1 i hi).2.1.cut hm (h3 i hi).2.1, (h3 i hi).2.2⟩⟩
  | loop st pe fn nt T ps ass bod =>
    obtain ⟨r1, _, _, _, _, c1, _⟩ := h
    obtain ⟨r, h1, h2, h3, h4, h5, h6⟩ := k
    exact ⟨r, h1, h2, h3, h4, ⟨h5.1, fun t => (c1.2 t).cut hm (h5.2 t)⟩, h6⟩
  | mark => exact k

/-! ### The order of a region's operations -/
def dp (ops : Array Oper) (i : Nat) : List Nat := ((ops[i]?).map fun o => o.after.toList.filterMap fun e => if Region.binds .any e then some e.on else none).getD []
/-- What stands ahead of each, by bits: made by a program, and looked at behind it. -/
def tabOf (ops : Array Oper) : List Nat := (List.range ops.size).foldl (fun acc i => acc ++ [(dp ops i).foldl (fun s k => s ||| 2 ^ k ||| acc.getD k 0) 0]) []
def bit (tab : List Nat) (i j : Nat) : Bool := (tab.getD i 0).testBit j
def tabOk (ops : Array Oper) (tab : List Nat) : Bool :=
  (List.range ops.size).all fun i => (dp ops i).all (fun k => k < i) && (List.range ops.size).all fun j => !bit tab i j || (dp ops i).contains j || (dp ops i).any fun k => bit tab k j
def dstOf (ops : Array Oper) (i : Nat) : Option Tmp := (ops[i]?).bind (·.dst)
def readsOf (ops : Array Oper) (i : Nat) : List Tmp := ((ops[i]?).map (·.looksAt ops)).getD []
def ssaOk (ops : Array Oper) (tab : List Nat) : Bool :=
  (List.range ops.size).all fun j => match dstOf ops j with
    | none => true
    | some d => (List.range ops.size).all fun i => (i == j || dstOf ops i != some d) && (!(readsOf ops i).contains d || (i != j && ((decide (j < i) && bit tab i j) || (decide (i < j) && bit tab j i))))
def cutOk (ops : Array Oper) (tab : List Nat) (e : Nat) : Bool := (List.range ops.size).all fun j => (!decide (j < e) || bit tab e j) && (!decide (e < j) || bit tab j e)
def Closed (ops : Array Oper) (L : Nat → Bool) : Prop := ∀ i, L i = true → ∀ k ∈ dp ops i, L k = true
theorem tab_listed {ops : Array Oper} {tab : List Nat} (ht : tabOk ops tab = true) {L : Nat → Bool} (hc : Closed ops L) : ∀ i, i < ops.size → (∀ k ∈ dp ops i, L k = true) → ∀ j, j < ops.size → bit tab i j = true → L j = true := by
  intro i
  induction i using Nat.strongRecOn with
  | _ i ih =>
    intro hi hd j hj hb
    have h1 := List.all_eq_true.1 ht i (List.mem_range.2 hi)
    simp only [Bool.and_eq_true] at h1
    have h2 := List.all_eq_true.1 h1.2 j (List.mem_range.2 hj)
    simp only [hb, Bool.not_true, Bool.false_or, Bool.or_eq_true, List.contains_iff_mem, List.any_eq_true] at h2
    rcases h2 with h2 | ⟨k, hk, hkb⟩
    · exact hd j h2
    · have hki : k < i := by
        have := List.all_eq_true.1 h1.1 k hk
        simpa using this
      exact ih k hki (by omega) (hc k (hd k hk)) j hj hkb

/-! ### The walk of a drawn region -/
section
variable {F : Fence} {n : Nat} {P : Program} {N0 : AHeap}
/-- A quiet step. -/
def QStep (P : Program) (ops : Array Oper) (o : Oper) (s s' : ASt) : Prop :=
  ∃ v Δ, dOk s.nt o.dst ∧ s' = ASt.put { s with H := s.H ++ Δ } o.dst v ∧
    ((GYes ops o s.T ∧ OpQ P o s.T s.H v Δ ∧ ∀ x ∈ o.op.operands, cOk s.H x) ∨ (GNo ops o s.T ∧ v = undef ∧ Δ = []))
/-- A quiet operation that may come late: here it would yield what its slot holds, and make nothing. -/
def Pend (P : Program) (ops : Array Oper) (s : ASt) (i : Nat) : Prop :=
  ∃ o v, ops[i]? = some o ∧ dOk s.nt o.dst ∧ (∀ d, o.dst = some d → s.T d = v) ∧ ((GYes ops o s.T ∧ OpQ P o s.T s.H v [] ∧ ∀ x ∈ o.op.operands, cOk s.H x) ∨ (GNo ops o s.T ∧ v = undef))
/-- What stands neither ahead of an operation nor behind it is listed. -/
def floatOk (ops : Array Oper) (tab : List Nat) (e : Nat) (fl : List Nat) : Bool := (List.range ops.size).all fun j => ((!decide (j < e) || bit tab e j || fl.contains j) && (!decide (e < j) || bit tab j e)) &&
  (List.range ops.size).all fun i => !fl.contains i || !fl.contains j || !decide (i < j) || match dstOf ops j with | none => true | some d => !(readsOf ops i).contains d
/-- What turns the heap: done, whatever the slots of the list hold. -/
def EffOk (F : Fence) (n : Nat) (P : Program) (N0 : AHeap) (ops : Array Oper) (fl : List Nat) (o : Oper) (s : ASt) (R : Value → AHeap → Prop) : Prop :=
  ∀ T', (∀ t, (∀ j ∈ fl, dstOf ops j ≠ some t) → T' t = s.T t) → ∀ K : ASt → Prop, (∀ v H', R v H' → K (ASt.put { s with T := T', H := H' } o.dst v)) → OpOk F n P N0 o K { s with T := T' }
def EffAt (F : Fence) (n : Nat) (P : Program) (N0 : AHeap) (ops : Array Oper) (tab : List Nat) (i : Nat) (o : Oper) (K : ASt → Prop) (s : ASt) : Prop :=
  (cutOk ops tab i = true ∧ GYes ops o s.T ∧ OpOk F n P N0 o K s) ∨
  ∃ fl R, floatOk ops tab i fl = true ∧ GYes ops o s.T ∧ EffOk F n P N0 ops fl o s R ∧ ∀ v H', R v H' → (∀ j ∈ fl, Pend P ops (ASt.put { s with H := H' } o.dst v) j) ∧ K (ASt.put { s with H := H' } o.dst v)
def dList (F : Fence) (n : Nat) (P : Program) (N0 : AHeap) (ops : Array Oper) (tab : List Nat) : Nat → List Oper → (ASt → Prop) → ASt → Prop
  | _, [], K, s => K s
  | i, o :: rest, K, s => (∃ s', QStep P ops o s s' ∧ dList F n P N0 ops tab (i + 1) rest K s') ∨ EffAt F n P N0 ops tab i o (dList F n P N0 ops tab (i + 1) rest K) s
/-- Quiet steps from c to e. -/
def Chain (P : Program) (ops : Array Oper) (st : Nat → ASt) (c e : Nat) : Prop := ∀ i, c ≤ i → i < e → ∃ o, ops[i]? = some o ∧ QStep P ops o (st i) (st (i + 1))
theorem chain_of {ops : Array Oper} {tab : List Nat} {K : ASt → Prop} : ∀ (l : List Oper) (c : Nat) (s : ASt), (∀ j, l[j]? = ops[c + j]?) → dList F n P N0 ops tab c l K s →
    ∃ e st, c ≤ e ∧ st c = s ∧ Chain P ops st c e ∧ ((e = c + l.length ∧ K (st e)) ∨
      (∃ o rest, ops[e]? = some o ∧ (∀ j, rest[j]? = ops[e + 1 + j]?) ∧ e < c + l.length ∧ rest.length < l.length ∧ EffAt F n P N0 ops tab e o (dList F n P N0 ops tab (e + 1) rest K) (st e)))
  | [], c, s, _, h => ⟨c, fun _ => s, Nat.le_refl _, rfl, fun i h1 h2 => by omega, .inl ⟨rfl, h⟩⟩
  | o :: rest, c, s, hl, h => by
    have h0 : ops[c]? = some o := by simpa using (hl 0).symm
    have hr : ∀ j, rest[j]? = ops[c + 1 + j]? := fun j => by have := hl (j + 1); simpa [Nat.add_assoc, Nat.add_comm 1 j] using this
    rcases h with ⟨s', hq, h⟩ | h1
    · obtain ⟨e, st, he, hst, hc, hend⟩ := chain_of rest (c + 1) s' hr h
      refine ⟨e, fun i => if i ≤ c then s else st i, by omega, by simp, fun i hi hie => ?_, ?_⟩
      · by_cases e1 : i = c
        · subst e1
          refine ⟨o, h0, ?_⟩
          simp only [Nat.le_refl, if_true, show ¬ i + 1 ≤ i by omega, if_false, hst]
          exact hq
        · obtain ⟨o', h4, h5⟩ := hc i (by omega) hie
          exact ⟨o', h4, by simpa only [show ¬ i ≤ c by omega, show ¬ i + 1 ≤ c by omega, if_false] using h5⟩
      · simp only [show ¬ e ≤ c by omega, if_false]
        rcases hend with ⟨h4, h5⟩ | ⟨o', r', h4, h5, h6, h7, h8⟩
        · exact .inl ⟨by simp; omega, h5⟩
        · exact .inr ⟨o', r', h4, h5, by simp; omega, by simp; omega, h8⟩
    · exact ⟨c, fun _ => s, Nat.le_refl _, rfl, fun i h1 h2 => by omega, .inr ⟨o, rest, h0, hr, by simp, by simp, h1⟩⟩
theorem QStep.H {ops : Array Oper} {o : Oper} {s s' : ASt} (h : QStep P ops o s s') : ∃ Δ, s'.H = s.H ++ Δ ∧ s'.D = s.D ∧ s'.nt = s.nt := by
  obtain ⟨v, Δ, _, rfl, _⟩ := h
  refine ⟨Δ, ?_, ?_, ?_⟩ <;> cases o.dst <;> rfl
theorem QStep.T {ops : Array Oper} {o : Oper} {s s' : ASt} (h : QStep P ops o s s') {t : Nat} (ht : o.dst ≠ some t) : s'.T t = s.T t := by
  obtain ⟨v, Δ, _, rfl, _⟩ := h
  cases hd : o.dst with
  | none => rfl
  | some d => exact upd_other _ _ (fun e => ht (by rw [hd, e]))
section
variable {ops : Array Oper} {st : Nat → ASt} {c e : Nat} (hch : Chain P ops st c e)
include hch
theorem chain_len {i j : Nat} (hi : c ≤ i) (hij : i ≤ j) (hj : j ≤ e) : ∃ Δ, (st j).H = (st i).H ++ Δ ∧ (st j).D = (st i).D ∧ (st j).nt = (st i).nt := by
  induction j with
  | zero => exact ⟨[], by simp [show i = 0 by omega], by rw [show i = 0 by omega], by rw [show i = 0 by omega]⟩
  | succ j ih =>
    by_cases e1 : i = j + 1
    · subst e1; exact ⟨[], by simp, rfl, rfl⟩
    · obtain ⟨Δ, h1, h2, h3⟩ := ih (by omega) (by omega)
      obtain ⟨o, _, hq⟩ := hch j (by omega) (by omega)
      obtain ⟨Δ', h4, h5, h6⟩ := hq.H
      exact ⟨Δ ++ Δ', by rw [h4, h1, List.append_assoc], h5.trans h2, h6.trans h3⟩
theorem chain_le {i j : Nat} (hi : c ≤ i) (hij : i ≤ j) (hj : j ≤ e) : (st i).H.length ≤ (st j).H.length := by
  obtain ⟨Δ, h, _⟩ := chain_len hch hi hij hj
  rw [h]; simp
theorem chain_get {i j b : Nat} (hi : c ≤ i) (hij : i ≤ j) (hj : j ≤ e) (hb : b < (st i).H.length) : (st j).H[b]? = (st i).H[b]? := by
  obtain ⟨Δ, h, _⟩ := chain_len hch hi hij hj
  rw [h, List.getElem?_append_left hb]
/-- A slot that none of the steps writes. -/
theorem chain_T {i j : Nat} {t : Nat} (hi : c ≤ i) (hij : i ≤ j) (hj : j ≤ e) (ht : ∀ k, i ≤ k → k < j → dstOf ops k ≠ some t) : (st j).T t = (st i).T t := by
  induction j with
  | zero => rw [show i = 0 by omega]
  | succ j ih =>
    by_cases e1 : i = j + 1
    · rw [e1]
    · obtain ⟨o, ho, hq⟩ := hch j (by omega) (by omega)
      have h1 : o.dst ≠ some t := by
        have := ht j (by omega) (by omega)
        simpa [dstOf, ho] using this
      rw [hq.T h1]
      exact ih (by omega) (by omega) (fun k h1 h2 => ht k h1 (by omega))
end
/-- How all stands, some of the steps from c to e taken. -/
structure Mid (P : Program) (N0 : AHeap) (ops : Array Oper) (st : Nat → ASt) (c e : Nat) (L : Nat → Bool) (ρ : Ren) (a : Act) (w : World) : Prop where
  closed : Closed ops L
  pend : ∀ i, i < c → L i = false → Pend P ops (st c) i
  late : ∀ i j, i < j → j < c → L i = false → L j = false → ∀ t, t ∈ readsOf ops i → dstOf ops j ≠ some t
  high : ∀ i, e ≤ i → L i = false
  heap : ∀ i, c ≤ i → i ≤ e → HRel (res (st i).H.length ρ) (st i).H w
  bound : ∀ b, (st e).H.length ≤ b → ρ b = .none
  unl : ∀ j, c ≤ j → j < e → L j = false → ∀ b, (st j).H.length ≤ b → b < (st (j + 1)).H.length → ρ b = .none
  size : a.tmps.size = (st c).nt
  done : ∀ j t, c ≤ j → j < e → L j = true → dstOf ops j = some t → VRel (res (st (j + 1)).H.length ρ) ((st (j + 1)).T t) (a.tmps.getD t undef)
  rest : ∀ t, (∀ j, c ≤ j → j < e → L j = true → dstOf ops j ≠ some t) → (∀ j, j < c → L j = false → dstOf ops j ≠ some t) → VRel (res (st c).H.length ρ) ((st c).T t) (a.tmps.getD t undef)
  defers : DRel (res (st c).H.length ρ) (st c).H (st c).D a.defers
  len : N0.length ≤ (st c).H.length
  entry : Entry N0 ρ
theorem DRel.mono {ρ ρ' : Ren} {H H' : AHeap} (hm : ∀ b, ρ b ≠ .none → ρ' b = ρ b ∧ H'[b]? = H[b]?) : ∀ (D : List Nat) (ds : List Deferred), DRel ρ H D ds → DRel ρ' H' D ds
  | [], [], _ => trivial
  | [], _ :: _, h => h.elim
  | _ :: _, [], h => h.elim
  | d :: D, x :: ds, ⟨⟨l, h1, h2, h3⟩, h4⟩ => ⟨⟨l, (hm d (by rw [h1]; simp)).1.trans h1, (hm d (by rw [h1]; simp)).2.trans h2, h3⟩, DRel.mono hm D ds h4⟩
/-- At the start. -/
theorem Mid.start {ops : Array Oper} {st : Nat → ASt} {c e : Nat} {L : Nat → Bool} {ρ : Ren} {a : Act} {w : World} (hch : Chain P ops st c e) (hce : c ≤ e) (hcl : Closed ops L) (hpd : ∀ i, i < c → L i = false → Pend P ops (st c) i) (hla : ∀ i j, i < j → j < c → L i = false → L j = false → ∀ t, t ∈ readsOf ops i → dstOf ops j ≠ some t) (hhi : ∀ i, c ≤ i → L i = false)
    {T0 : Nat → Value} (hT0 : ∀ t, (∀ j, j < c → L j = false → dstOf ops j ≠ some t) → T0 t = (st c).T t) (hs : SRel N0 ρ { st c with T := T0 } a w) : Mid P N0 ops st c e L ρ a w := by
  have hb : ∀ b, (st c).H.length ≤ b → ρ b = .none := hs.heap.bound
  have hres : ∀ m, (st c).H.length ≤ m → res m ρ = ρ := fun m hm => funext fun b => by
    by_cases e1 : b < m
    · exact res_lt e1
    · rw [res_ge (by omega), hb b (by omega)]
  refine ⟨hcl, hpd, hla, fun i hi => hhi i (by omega), fun i hi hie => ?_, fun b h => hb b (Nat.le_trans (chain_le hch (Nat.le_refl _) hce (Nat.le_refl _)) h), fun j h1 h2 _ b h3 _ => hb b (Nat.le_trans (chain_le hch (Nat.le_refl _) h1 (by omega)) h3), hs.tmps.1, fun j t h1 _ h3 => (by rw [hhi j h1] at h3; cases h3), fun t _ h2 => (by rw [hres _ (Nat.le_refl _), ← hT0 t h2]; exact hs.tmps.2 t), (by rw [hres _ (Nat.le_refl _)]; exact hs.defers), hs.len, hs.entry⟩
  have hle := chain_le hch (Nat.le_refl _) hi hie
  rw [hres _ hle]
  have hg : ∀ b, ρ b ≠ .none → (st i).H[b]? = (st c).H[b]? := fun b hn => chain_get hch (Nat.le_refl _) hi hie (by
    by_cases e1 : b < (st c).H.length
    · exact e1
    · exact absurd (hb b (by omega)) hn)
  refine ⟨fun b h => hb b (by omega), fun b l h => ?_, fun b c' l m h1 h2 h3 h4 => hs.heap.inj b c' l m h1 h2 h3 ?_, fun g vs sz h => ?_, fun b h => (hg b (by rw [h]; simp)).trans (hs.heap.isdead b h)⟩
  · obtain ⟨o, h1, h2, h3⟩ := hs.heap.rel b l h
    exact ⟨o, (hg b (by rw [h]; simp)).trans h1, h2, h3⟩
  · obtain ⟨o, h5, h6⟩ := h4
    exact ⟨o, (hg b (by rw [h2]; simp)).symm.trans h5, h6⟩
  · -- a global lies among the first
    by_cases e1 : g < (st c).H.length
    · rw [chain_get hch (Nat.le_refl _) hi hie e1] at h
      exact hs.heap.glob g vs sz h
    · exfalso
      -- new blocks are writable
      have key : ∀ k, c ≤ k → k ≤ i → ∀ b o, (st c).H.length ≤ b → (st k).H[b]? = some o → o.wr = true := by
        intro k hk
        induction k with
        | zero =>
          intro _ b o hb' ho
          rw [show 0 = c by omega, List.getElem?_eq_none hb'] at ho
          cases ho
        | succ k ih =>
          intro hki b o hb' ho
          by_cases e2 : c = k + 1
          · rw [← e2, List.getElem?_eq_none hb'] at ho; cases ho
          · obtain ⟨op, _, hq⟩ := hch k (by omega) (by omega)
            obtain ⟨v, Δ, _, hst, hor⟩ := hq
            have hH : (st (k + 1)).H = (st k).H ++ Δ := by rw [hst, ASt.put_H]
            rw [hH] at ho
            by_cases e3 : b < (st k).H.length
            · rw [List.getElem?_append_left e3] at ho
              exact ih (by omega) (by omega) b o hb' ho
            · rw [List.getElem?_append_right (by omega)] at ho
              have hmem := List.mem_of_getElem? ho
              rcases hor with ⟨_, hq, _⟩ | ⟨_, _, rfl⟩
              · exact hq.wr o hmem
              · simp at hmem
      have := key i hi (Nat.le_refl _) g _ (by omega) h
      simp [AObj.wr] at this
end
end Go.Proofs.YtbjlabokijchpaaA
