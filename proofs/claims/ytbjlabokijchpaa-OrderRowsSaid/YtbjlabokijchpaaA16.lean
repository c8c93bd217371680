/-
  Ranges over functions.
-/
import Derived.Test.YtbjlabokijchpaaA15
namespace Go.Proofs.YtbjlabokijchpaaA
set_option linter.unusedVariables false
open Go Go.RowKit Go.Shelf
/-- A block of one's own, as something else. -/
theorem put_obj {ρ : Ren} {H : AHeap} {w : World} (hh : HRel ρ H w) {d : Nat} {l : Loc} (hl : ρ d = .at l) (hwr : wr H d) (n : Nat) (ob : Obj) (o : AObj) (hg : ∀ vs sz, o ≠ .glob vs sz) (hO : ORel ρ l (w.putObj l.blk ob) o) (hnd : H[d]? ≠ some .dead) :
    HRel ρ (H.set d o) (w.putObj l.blk ob) ∧ Fr n ρ H w ρ (H.set d o) (w.putObj l.blk ob) := by
  obtain ⟨o0, hH, hw0⟩ := hwr
  have hd : d < H.length := (List.getElem?_eq_some_iff.1 hH).1
  have hwr : wr H d := ⟨o0, hH, hw0⟩
  have hwr' : ∀ c, wr (H.set d o) c → wr H c := fun c ⟨o2, h1, h2⟩ => by
    by_cases e1 : c = d
    · subst e1; exact hwr
    · rw [List.getElem?_set, if_neg (Ne.symm e1)] at h1; exact ⟨o2, h1, h2⟩
  have hsz : (w.putObj l.blk ob).heap.size = w.heap.size := by simp [World.putObj]
  refine ⟨⟨fun c hc => hh.bound c (by simpa using hc), fun c m hm => ?_, fun c e m m' hne hc he hw => hh.inj c e m m' hne hc he (hwr' c hw), fun g vs sz hg' => ?_, fun c hc => ?_⟩,
    ⟨rfl, rfl, rfl, by omega, fun k hk ho => World.putObj_heap_other (fun e => ho ⟨d, l, hl, e.symm, hwr⟩), fun c _ => .inl rfl, fun c m hm hw => .inl ⟨c, m, hm, rfl, hwr' c hw⟩⟩⟩
  · by_cases e1 : c = d
    · subst e1
      rw [hl] at hm; cases hm
      obtain ⟨o', q1, q2, q3⟩ := hh.rel c l hl
      exact ⟨o, by rw [List.getElem?_set, if_pos rfl, if_pos hd], by omega, hO⟩
    · obtain ⟨o', q1, q2, q3⟩ := hh.rel c m hm
      exact ⟨o', by rw [List.getElem?_set, if_neg (Ne.symm e1)]; exact q1, by omega, q3.mono (fun _ _ => .inl rfl) (World.putObj_heap_other (fun e => hh.inj d c l m (Ne.symm e1) hl hm hwr e.symm))⟩
  · by_cases e1 : g = d
    · subst e1; rw [List.getElem?_set, if_pos rfl, if_pos hd] at hg'; cases hg'; exact absurd rfl (hg vs sz)
    · rw [List.getElem?_set, if_neg (Ne.symm e1)] at hg'; exact hh.glob g vs sz hg'
  · have := hh.isdead c hc
    by_cases e1 : d = c
    · subst e1; exact absurd this hnd
    · rw [List.getElem?_set, if_neg e1]; exact this

/-! ### Yield -/
/-- A call of yield answers a bool. -/
def YieldsB (P : Program) (y : Value) (args : Array Value) (W : World) (R : Bool → World → Prop) : Prop :=
  (∃ l fn tmps assign body, y = .func (.yield l) #[] #[] ∧ (Instr.yield l args).run P W = .ok (.round l fn tmps assign body) W ∧ RoundIn Fence.wide 0 P l fn tmps assign body W fun e W' => ∃ b, e = .returned (.bool b) ∧ R b W') ∨
  (∃ g caps, y = .func (.func g) #[] caps ∧ Enters P g ∧ Calls P g (args ++ caps) W fun e W' => ∃ b, e = .returned (.bool b) ∧ R b W')
def Ylds (P : Program) (y : Value) (args : List Value) (H : AHeap) (R : Bool → AHeap → Prop) : Prop :=
  ∀ ρ w y' args', HRel ρ H w → VRel ρ y y' → LRel ρ args args'.toList → YieldsB P y' args' w fun b w' => ∃ H' ρ', R b H' ∧ HRel ρ' H' w' ∧ Fr H.length ρ H w ρ' H' w' ∧ H.length ≤ H'.length
/-- yield is a function's closure. -/
theorem ylds_func {P : Program} {g : FuncId} {caps : Array Value} {args : List Value} {H : AHeap} {R : Bool → AHeap → Prop} (hE : Enters P g) (h : ACalls P g (args ++ caps.toList) H fun v H' => ∃ b, v = .bool b ∧ R b H') : Ylds P (.func (.func g) #[] caps) args H R := by
  intro ρ w y' args' hh hy ha
  obtain ⟨fs', cs', rfl, h3, _, h4, h5⟩ := vrel_func hy
  have hfs : fs' = #[] := Array.eq_empty_of_size_eq_zero (by simpa using h3.symm)
  subst hfs
  have hc : LRel ρ caps.toList cs'.toList := ⟨by simpa using h4, fun i hi => by have := h5 i (by simpa using hi); simpa [List.getD_eq_getElem?_getD] using this⟩
  refine .inr ⟨g, cs', rfl, hE, (h ρ w _ hh (by rw [Array.toList_append]; exact ha.append hc)).mono ?_⟩
  rintro e w' ⟨v, v', H', ρ', rfl, ⟨b, rfl, hR⟩, k1, k2, k3, k4⟩
  exact ⟨b, by rw [vrel_bool k1], H', ρ', hR, k2, k3, k4⟩
theorem round_any {P : Program} {l f : Nat} {tmps : Array Value} {assign body : Code} {w : World} {R : Ending → World → Prop} {m : Nat} (h : RoundIn Fence.wide m P l f tmps assign body w R) (n : Nat) : RoundIn Fence.wide n P l f tmps assign body w R :=
  ⟨h.1, fun c cs _ => h.2 c cs (room_wide _)⟩
section
variable {n : Nat} {P : Program} {N0 : AHeap} {s : ASt} {dst : Option Tmp} {ty : TypeId} {pos : String} {af : Array Edge} {g : Option (Nat × Bool)}
/-- The operation 'yield(..)'. -/
theorem o_yield {K : ASt → Prop} {t : Tmp} {xs : Array Operand} {ats : Array TypeId} {y : Value} {args : List Value} {R : Bool → AHeap → Prop} (hx : s.T t = y) (hargs : xs.toList.map (ev s.T) = args) (h : Ylds P y args s.H R) (hc : ∀ z ∈ xs, cOk s.H z) (hd : dOk s.nt dst) (hD : s.D = [])
    (hk : ∀ b H', R b H' → K (ASt.put { s with H := H' } dst (.bool b))) : OpOk Fence.wide n P N0 ⟨dst, .call { callee := .value (.tmp t), args := xs, argTypes := ats }, ty, pos, af, g⟩ K s := by
  subst hargs
  intro ρ a w hs
  have hh := hs.heap
  have hy := hs.tmps.2 t
  rw [hx] at hy
  have hY := h ρ w (a.tmps.getD t undef) (xs.map a.eval) hh hy (lrel_args xs fun z hz => ev_rel hh hs.tmps (hc z hz))
  have fin : ∀ b w', (∃ H' ρ', R b H' ∧ HRel ρ' H' w' ∧ Fr s.H.length ρ s.H w ρ' H' w' ∧ s.H.length ≤ H'.length) → ∃ s' ρ', K s' ∧ SRel N0 ρ' s' (a.put dst (.bool b)) w' ∧ Fr N0.length ρ s.H w ρ' s'.H w' := by
    rintro b w' ⟨H', ρ', hR, k2, k3, k4⟩
    have hm' : ∀ b, ρ b ≠ .none → ρ' b = ρ b ∨ ρ' b = .dead := fun b hb => by
      rcases k3.old b (by
        by_cases e : b < s.H.length
        · exact e
        · exact absurd (hh.bound b (by omega)) hb) with e | ⟨e, _⟩
      · exact .inl e
      · exact .inr e
    have hs1 : SRel N0 ρ' { s with H := H' } a w' := ⟨k2, hs.tmps.mono hm', by
      have := hs.defers
      rw [hD] at this
      show DRel ρ' H' s.D a.defers
      rw [hD]
      cases hdd : a.defers with
      | nil => trivial
      | cons _ _ => rw [hdd] at this; exact this.elim, by have := hs.len; show N0.length ≤ H'.length; omega, hs.entry.of fun b hb => k3.old b (by have := hs.len; omega)⟩
    refine ⟨_, ρ', hk b H' hR, hs1.put hd (.bool b), ?_⟩
    rw [ASt.put_H]
    exact k3.mono hs.len
  refine ⟨fun _ _ => trivial, ?_⟩
  rw [Oper.semAt_eq _ _ _ (by simp)]
  have hex : ∀ f, (execOp a.eval ⟨dst, .call { callee := .value (.tmp t), args := xs, argTypes := ats }, ty, pos, af, g⟩) = f → f = (do let d ← Deferred.ofValue (a.tmps.getD t undef) (xs.map a.eval); invoke d.target d.args) := fun f h => h ▸ rfl
  rw [hex _ rfl]
  rcases hY with ⟨l, fn, tmps, assign, body, e1, hrun, hR⟩ | ⟨f, caps, e1, hE, hC⟩
  · have h1 : ((do let d ← Deferred.ofValue (a.tmps.getD t undef) (xs.map a.eval); invoke d.target d.args) : Sem Next).run P w = .ok (.round l fn tmps assign body) w := by
      rw [e1]
      simp only [Deferred.ofValue, Sem.run_bind, Sem.run_pure, Result.andThen_ok, invoke]
      simpa using hrun
    rw [h1]
    refine ⟨fun h => by simp [Fence.wide] at h, round_any (hR.mono ?_) _⟩
    rintro e w' ⟨b, rfl, hb⟩
    exact fin b w' hb
  · have h1 : ((do let d ← Deferred.ofValue (a.tmps.getD t undef) (xs.map a.eval); invoke d.target d.args) : Sem Next).run P w = .ok (.enter f (xs.map a.eval ++ caps)) w := by
      rw [e1]
      simp only [Deferred.ofValue, Sem.run_bind, Sem.run_pure, Result.andThen_ok, invoke]
      simpa using hE (xs.map a.eval ++ caps) w
    rw [h1]
    refine ⟨fun h => by simp [Fence.wide] at h, callsIn_wide.2 (hC.mono ?_)⟩
    rintro e w' ⟨b, rfl, hb⟩
    exact fin b w' hb
end
/-! ### A round -/
/-- How a round's body may be left. -/
def RoundQ (l : Nat) (fn : FuncId) (nt : Nat) (T : Nat → Value) (ps : Array Tmp) (assign body : Code) (R : Bool → AHeap → Prop) : AEx → ASt → Prop
  | .normal, s => s.H[l]? = some (.loop .busy none fn nt T ps assign body) ∧ R true (s.H.set l (.loop .ready none fn nt T ps assign body))
  | .ret, s => s.H[l]? = some (.loop .busy none fn nt T ps assign body) ∧ R false (s.H.set l (.loop .done (some .ret) fn nt T ps assign body))
  | .exit id, s => s.H[l]? = some (.loop .busy none fn nt T ps assign body) ∧ R false (s.H.set l (.loop .done (some (.exit id)) fn nt T ps assign body))
  | .goto t, s => s.H[l]? = some (.loop .busy none fn nt T ps assign body) ∧ R false (s.H.set l (.loop .done (some (.goto t)) fn nt T ps assign body))
def setps (T : Nat → Value) : List Tmp → List Value → Nat → Value
  | p :: ps, v :: vs => setps (upd T p v) ps vs
  | _, _ => T
theorem setps_rel {ρ : Ren} {nt : Nat} : ∀ (ps : List Tmp) (vs vs' : List Value) (T : Nat → Value) (ts : Array Value), TRel ρ nt T ts → LRel ρ vs vs' → (∀ p ∈ ps, p < nt) → TRel ρ nt (setps T ps vs) ((ps.zip vs').foldl (fun t (p, v) => t.setIfInBounds p v) ts)
  | [], vs, vs', T, ts, h, _, _ => by cases vs <;> simpa [setps] using h
  | p :: ps, [], [], T, ts, h, _, _ => by simpa [setps] using h
  | p :: ps, [], _ :: _, T, ts, h, hl, _ => by have := hl.1; simp at this
  | p :: ps, _ :: _, [], T, ts, h, hl, _ => by have := hl.1; simp at this
  | p :: ps, v :: vs, v' :: vs', T, ts, h, hl, hp => by
    have h0 : VRel ρ v v' := by simpa using hl.2 0 (by simp)
    have ht : LRel ρ vs vs' := ⟨by simpa using hl.1, fun i hi => by simpa using hl.2 (i + 1) (by simpa using hi)⟩
    exact setps_rel ps vs vs' _ _ (h.upd (hp p (by simp)) h0) ht (fun q hq => hp q (by simp [hq]))
/-- yield is a round of a loop. -/
theorem ylds_round {P : Program} {l : Nat} {fn : FuncId} {nt : Nat} {T : Nat → Value} {ps : Array Tmp} {assign body : Code} {args : List Value} {H : AHeap} {R : Bool → AHeap → Prop} (hl : H[l]? = some (.loop .ready none fn nt T ps assign body)) (hps : ps.size = args.length) (hpn : ∀ p ∈ ps.toList, p < nt)
    (h : ∀ l', awp (Fence.wide.inRound l') 0 P H assign (AEx.then (fun s1 => s1.D = [] ∧ s1.H[l]? = some (.loop .ready none fn nt T ps assign body) ∧ awp (Fence.wide.inRound l') 0 P H body (RoundQ l fn nt T ps assign body R) { s1 with H := s1.H.set l (.loop .busy none fn nt T ps assign body) }) (fun _ _ => False)) ⟨nt, setps T ps.toList args, [], H⟩) :
    Ylds P (.func (.yield l) #[] #[]) args H R := by
  intro ρ w y' args' hh hy ha
  obtain ⟨m, hm, rfl⟩ := vrel_yield hh hy (by rw [hl]; simp)
  obtain ⟨o, q1, q2, q3⟩ := hh.rel l m hm
  rw [hl] at q1; cases q1
  obtain ⟨r, r1, r2, r3, r4, r5, r6, r7, r8⟩ := q3
  have hsz : args'.size = r.params.size := by have := ha.1; simp at this; rw [r6]; omega
  refine .inl ⟨m.blk, r.fn, _, r.assign, r.body, rfl, run_yield r1 hsz, roundIn_of_wpIn trivial ?_⟩
  rw [r7]
  have hs0 : SRel H ρ ⟨nt, setps T ps.toList args, [], H⟩ { tmps := (r.params.zip args').foldl (fun tmps (t, a) => tmps.setIfInBounds t a) r.tmps, defers := [] } w := by
    refine ⟨hh, ?_, trivial, Nat.le_refl _, ⟨ρ, w, hh, fun _ _ => ⟨fun h => h, fun l h h2 => by rw [h] at h2; cases h2⟩⟩⟩
    have := setps_rel ps.toList args args'.toList T r.tmps r5 ha hpn
    rw [r6]
    show TRel ρ nt _ ((ps.zip args').foldl (fun tmps (t, a) => tmps.setIfInBounds t a) r.tmps)
    rw [← Array.foldl_toList, Array.toList_zip]
    exact this
  refine wpIn_mono (h m.blk ρ _ w hs0) ?_
  rintro e a1 w1 ⟨x, s1, ρ1, rfl, h2, h3, h4⟩
  cases x with
  | exit id => exact h2.elim
  | goto t => exact h2.elim
  | ret => exact h2.elim
  | normal =>
    obtain ⟨hD, hl1, hb⟩ := h2
    have hl1' : ρ1 l = .at m := by
      rcases h4.old l (List.getElem?_eq_some_iff.1 hl).1 with e | ⟨e, _⟩
      · exact e.trans hm
      · have := h3.heap.isdead l e
        rw [hl1] at this; cases this
    obtain ⟨o, q1, q2, q3⟩ := h3.heap.rel l m hl1'
    rw [hl1] at q1; cases q1
    obtain ⟨r', t1, t2, t3, t4, t5, t6, t7, t8⟩ := q3
    have hlt : m.blk < w1.heap.size := (Array.getElem?_eq_some_iff.1 t1).1
    obtain ⟨p1, p2⟩ := put_obj h3.heap hl1' ⟨_, hl1, rfl⟩ H.length (.loop { r' with state := .busy }) (.loop .busy none fn nt T ps assign body) (by simp) ⟨_, World.putObj_heap_same hlt, rfl, t3, t4, t5, t6, t7, t8⟩ (by rw [hl1]; simp)
    refine ⟨_, run_beginRound t1 t2, ?_⟩
    rw [r8]
    have hs2 : SRel H ρ1 { s1 with H := s1.H.set l (.loop .busy none fn nt T ps assign body) } a1 (w1.putObj m.blk (.loop { r' with state := .busy })) := by
      refine ⟨p1, h3.tmps, ?_, by simpa using h3.len, h3.entry⟩
      have := h3.defers
      show DRel ρ1 _ s1.D a1.defers
      rw [hD] at this ⊢
      cases hdd : a1.defers with
      | nil => trivial
      | cons _ _ => rw [hdd] at this; exact this.elim
    refine wpIn_mono (hb ρ1 a1 _ hs2) ?_
    rintro e a3 w3 ⟨x, s3, ρ3, rfl, k2, k3, k4⟩
    have fin : ∀ (st : LoopState) (pe : Option Code), s3.H[l]? = some (.loop .busy none fn nt T ps assign body) → ((if pe.isNone then LoopState.ready else .done) = st) → R pe.isNone (s3.H.set l (.loop st pe fn nt T ps assign body)) →
        ∃ v w', (Instr.endRound m.blk pe).run P w3 = .ok v w' ∧ ∃ b, Ending.returned v = .returned (.bool b) ∧ ∃ H' ρ', R b H' ∧ HRel ρ' H' w' ∧ Fr H.length ρ H w ρ' H' w' ∧ H.length ≤ H'.length := by
      intro st pe hl3 hst hR
      have hl3' : ρ3 l = .at m := by
        rcases k4.old l (List.getElem?_eq_some_iff.1 hl).1 with e | ⟨e, _⟩
        · exact e.trans hl1'
        · have := k3.heap.isdead l e
          rw [hl3] at this; cases this
      obtain ⟨o, q1, q2, q3⟩ := k3.heap.rel l m hl3'
      rw [hl3] at q1; cases q1
      obtain ⟨r3, u1, u2, u3, u4, u5, u6, u7, u8⟩ := q3
      have hlt3 : m.blk < w3.heap.size := (Array.getElem?_eq_some_iff.1 u1).1
      obtain ⟨v1, v2⟩ := put_obj k3.heap hl3' ⟨_, hl3, rfl⟩ H.length (.loop { r3 with state := if pe.isNone then .ready else .done, pending := pe }) (.loop st pe fn nt T ps assign body) (by simp) ⟨_, World.putObj_heap_same hlt3, hst, rfl, u4, u5, u6, u7, u8⟩ (by rw [hl3]; simp)
      exact ⟨_, _, run_endRound pe u1, pe.isNone, rfl, _, ρ3, hR, v1, ((h4.trans p2).trans k4).trans v2, by simpa using k3.len⟩
    cases x with
    | normal => obtain ⟨b1, b2⟩ := k2; exact fin .ready none b1 rfl b2
    | ret => obtain ⟨b1, b2⟩ := k2; exact fin .done (some .ret) b1 rfl b2
    | exit id => obtain ⟨b1, b2⟩ := k2; exact fin .done (some (.exit id)) b1 rfl b2
    | goto t => obtain ⟨b1, b2⟩ := k2; exact fin .done (some (.goto t)) b1 rfl b2
/-! ### The statement -/
section
variable {n : Nat} {P : Program} {N0 : AHeap} {Q : AEx → ASt → Prop} {nt : Nat} {T : Nat → Value} {D : List Nat} {H : AHeap}
theorem DRel.frm {ρ ρ' : Ren} {H H' : AHeap} : ∀ (D : List Nat) (ds : List Deferred), (∀ d ∈ D, ∀ l, ρ d = .at l → H[d]? = some .mark → ρ' d = .at l ∧ H'[d]? = some .mark) → DRel ρ H D ds → DRel ρ' H' D ds
  | [], [], _, _ => trivial
  | [], _ :: _, _, h => h.elim
  | _ :: _, [], _, h => h.elim
  | d :: D, x :: ds, hk, ⟨⟨l, h1, h2, h3⟩, h4⟩ => ⟨⟨l, (hk d (by simp) l h1 h2).1, (hk d (by simp) l h1 h2).2, h3⟩, DRel.frm D ds (fun d' hd' => hk d' (by simp [hd'])) h4⟩
theorem range_end {m : Nat} {Hl : AHeap} {l : Nat} {fn : FuncId} {ps : Array Tmp} {assign body : Code} {pe : Option Code} {st : LoopState} {ρ : Ren} {w : World} {lc : Loc} (hh : HRel ρ Hl w) (hl : Hl[l]? = some (.loop st pe fn nt T ps assign body)) (hst : st ≠ .busy) (hlc : ρ l = .at lc) :
    ∃ w', (Instr.endLoop lc.blk).run P w = .ok pe w' ∧ HRel ρ (Hl.set l .none) w' ∧ Fr m ρ Hl w ρ (Hl.set l .none) w' := by
  obtain ⟨o, q1, q2, q3⟩ := hh.rel l lc hlc
  rw [hl] at q1; cases q1
  obtain ⟨r, u1, u2, u3, u4, u5, u6, u7, u8⟩ := q3
  subst u3
  obtain ⟨v1, v2⟩ := put_obj hh hlc ⟨_, hl, rfl⟩ m (.loop { r with state := .exhausted }) .none (by simp) trivial (by rw [hl]; simp)
  refine ⟨_, ?_, v1, v2⟩
  exact run_endLoop (P := P) u1 (by rw [u2]; exact hst)
/-- What the rest of the statement owes, the function that was ranged over having returned. -/
def RangeQ (F : Fence) (n : Nat) (P : Program) (N0 : AHeap) (l : Nat) (fn : FuncId) (nt : Nat) (T : Nat → Value) (ps : Array Tmp) (assign body : Code) (D : List Nat) (Q : AEx → ASt → Prop) (v : Value) (H' : AHeap) : Prop :=
  (∀ d ∈ D, H'[d]? = some .mark) ∧ ((H'[l]? = some (.loop .ready none fn nt T ps assign body) ∧ ∃ s2, Wk N0 ⟨nt, T, D, H'.set l .none⟩ s2 ∧ Q .normal s2) ∨
    ∃ c, H'[l]? = some (.loop .done (some c) fn nt T ps assign body) ∧ awp F n P N0 c Q ⟨nt, T, D, H'.set l .none⟩)
theorem awp_range {t : Tmp} {gf : FuncId} {caps : Array Value} {ps : Array Tmp} {assign body : Code} (hg : T t = .func (.func gf) #[] caps) (hE : Enters P gf)
    (h : ∀ fn, ACalls P gf (.func (.yield (H.length + 1)) #[] #[] :: caps.toList) (H ++ [.mark, .loop .ready none fn nt T ps assign body]) (RangeQ Fence.wide n P N0 (H.length + 1) fn nt T ps assign body (H.length :: D) Q)) :
    awp Fence.wide n P N0 (.rangeFunc (.tmp t) ps assign body) Q ⟨nt, T, D, H⟩ := by
  intro ρ a w hs
  refine wpIn_rangeFunc ?_
  intro fn hfn
  have hh := hs.heap
  have hf := hs.tmps.2 t
  rw [show (⟨nt, T, D, H⟩ : ASt).T t = T t from rfl, hg] at hf
  obtain ⟨fs', cs', e1, h3, _, h4, h5⟩ := vrel_func hf
  have hfs : fs' = #[] := Array.eq_empty_of_size_eq_zero (by simpa using h3.symm)
  subst hfs
  obtain ⟨ρ1, a1, a2, a3, a4⟩ := new_obj (w1 := w.alloc (.deferred (some []))) hh (o := .mark) rfl ⟨w.heap.size, 0, 0, 0⟩ rfl rfl rfl rfl rfl (fun ρ' _ => World.alloc_heap_new w _)
  obtain ⟨ρ2, b1, b2, b3, b4⟩ := new_obj (w1 := (w.alloc (.deferred (some []))).alloc (.loop { state := .ready, pending := none, fn, tmps := a.tmps, params := ps, assign, body, defers := w.heap.size })) a3 (o := .loop .ready none fn nt T ps assign body) rfl ⟨w.heap.size + 1, 0, 0, 0⟩ (by simp) rfl rfl rfl rfl
    (fun ρ' hm => ⟨_, by have := World.alloc_heap_new (w.alloc (.deferred (some []))) (.loop { state := .ready, pending := none, fn, tmps := a.tmps, params := ps, assign, body, defers := w.heap.size }); rwa [World.size_alloc] at this, rfl, rfl, rfl, (hs.tmps.mono a2).mono hm, rfl, rfl, rfl⟩)
  rw [List.append_assoc] at b3
  simp only [List.length_append, List.length_cons, List.length_nil, Nat.zero_add] at b1
  have b1m : ρ2 H.length = .at ⟨w.heap.size, 0, 0, 0⟩ := by
    rcases b2 H.length (by rw [a1]; simp) with e | e
    · exact e.trans a1
    · have := b3.isdead _ e
      simp at this
  have hfr : Fr H.length ρ H w ρ2 (H ++ ([.mark] ++ [.loop .ready none fn nt T ps assign body])) ((w.alloc (.deferred (some []))).alloc (.loop { state := .ready, pending := none, fn, tmps := a.tmps, params := ps, assign, body, defers := w.heap.size })) := by
    have f1 := a4.fr (Δ := [.mark])
    have f2 := (b4.fr (Δ := [.loop .ready none fn nt T ps assign body])).mono (m := H.length) (by simp)
    rw [List.append_assoc] at f2
    exact f1.trans f2
  have hm2 : ∀ b, ρ b ≠ .none → ρ2 b = ρ b ∨ ρ2 b = .dead := fun b hb => by
    rcases a2 b hb with e | e
    · rcases b2 b (by rw [e]; exact hb) with e' | e'
      · exact .inl (e'.trans e)
      · exact .inr e'
    · rcases b2 b (by rw [e]; simp) with e' | e'
      · exact .inr (e'.trans e)
      · exact .inr e'
  have hc : LRel ρ2 caps.toList cs'.toList := LRel.mono (⟨by simpa using h4, fun i hi => by have := h5 i (by simpa using hi); simpa [List.getD_eq_getElem?_getD] using this⟩ : LRel ρ caps.toList cs'.toList) hm2
  refine ⟨w.heap.size + 1, [{ target := .collected w.heap.size, args := #[] }], ((w.alloc (.deferred (some []))).alloc (.loop { state := .ready, pending := none, fn, tmps := a.tmps, params := ps, assign, body, defers := w.heap.size })), { target := .fn (.func gf) cs', args := #[.func (.yield (w.heap.size + 1)) #[] #[]] }, ((w.alloc (.deferred (some []))).alloc (.loop { state := .ready, pending := none, fn, tmps := a.tmps, params := ps, assign, body, defers := w.heap.size })), gf, #[.func (.yield (w.heap.size + 1)) #[] #[]] ++ cs', ((w.alloc (.deferred (some []))).alloc (.loop { state := .ready, pending := none, fn, tmps := a.tmps, params := ps, assign, body, defers := w.heap.size })), run_enterLoop_outer _ _ _ _ _, ?_, fun _ _ => trivial, ?_, fun h => by simp [Fence.wide] at h, ?_⟩
  · simp only [resolve, eval_tmp, e1]
    simp [go_sem]
  · simp [invoke, go_sem, hE _ _]
  · refine callsIn_wide.2 ((h fn ρ2 _ _ b3 (by
      rw [Array.toList_append]
      exact .cons (.yield b1) hc)).mono ?_)
    rintro e w3 ⟨v, v', H', ρ', rfl, hQ, k1, k2, k3, k4⟩
    simp only [List.length_append, List.length_cons, List.length_nil] at k3 k4
    have hat : ∀ b lc, b < H.length + 2 → ρ2 b = .at lc → H'[b]? ≠ some .dead → ρ' b = .at lc := fun b lc hb h1 h2 => by
      rcases k3.old b (by omega) with e | ⟨e, _⟩
      · exact e.trans h1
      · exact absurd (k2.isdead b e) h2
    obtain ⟨hmk, hQ⟩ := hQ
    have hend : ∀ st pe, H'[H.length + 1]? = some (.loop st pe fn nt T ps assign body) → st ≠ .busy → ∃ w', (Instr.endLoop (w.heap.size + 1)).run P w3 = .ok pe w' ∧ SRel N0 ρ' ⟨nt, T, H.length :: D, H'.set (H.length + 1) .none⟩ { a with defers := [{ target := .collected w.heap.size, args := #[] }] ++ a.defers } w' ∧ Fr N0.length ρ H w ρ' (H'.set (H.length + 1) .none) w' := by
      intro st pe hl hst
      have hlc := hat _ _ (by omega) b1 (by rw [hl]; simp)
      obtain ⟨w', c1, c2, c3⟩ := range_end (P := P) (m := N0.length) k2 hl hst hlc
      have hlen : N0.length ≤ H.length := hs.len
      have hm3 : ∀ b, ρ b ≠ .none → ρ' b = ρ b ∨ ρ' b = .dead := fun b hb => by
        have hbl : b < H.length := by
          by_cases e : b < H.length
          · exact e
          · exact absurd (hh.bound b (by show H.length ≤ b; omega)) hb
        rcases hm2 b hb with e | e
        · rcases k3.old b (by omega) with e' | ⟨e', _⟩
          · exact .inl (e'.trans e)
          · exact .inr e'
        · rcases k3.old b (by omega) with e' | ⟨e', _⟩
          · exact .inr (e'.trans e)
          · exact .inr e'
      refine ⟨w', c1, ⟨c2, hs.tmps.mono hm3, ⟨⟨_, hat _ _ (by omega) b1m (by rw [hmk _ (by simp)]; simp), ?_, rfl⟩, ?_⟩, by show N0.length ≤ (H'.set _ _).length; simp; have : N0.length ≤ H.length := hlen; omega, ?_⟩, ?_⟩
      · rw [List.getElem?_set, if_neg (by omega)]; exact hmk _ (by simp)
      · refine DRel.frm _ _ (fun d hdD lc h1 h2 => ?_) hs.defers
        have hd : d < H.length := (List.getElem?_eq_some_iff.1 h2).1
        have h3 : H'[d]? = some .mark := hmk d (by simp [hdD])
        refine ⟨hat d lc (by omega) ?_ (by rw [h3]; simp), by rw [List.getElem?_set, if_neg (by omega)]; exact h3⟩
        rcases hm2 d (by rw [h1]; simp) with e | e
        · exact e.trans h1
        · have := b3.isdead d e
          rw [List.getElem?_append_left hd, h2] at this; cases this
      · exact hs.entry.of ((hfr.mono hlen).trans (k3.mono (m := N0.length) (by have : N0.length ≤ H.length := hlen; omega))).old
      · have := (hfr.mono hlen).trans ((k3.mono (m := N0.length) (by have : N0.length ≤ H.length := hlen; omega)).trans c3)
        exact this
    rcases hQ with ⟨hl, s2, hw, hq⟩ | ⟨c, hl, hq⟩
    · obtain ⟨w', c1, c2, c3⟩ := hend _ _ hl (by simp)
      obtain ⟨ρ4, d1, d2⟩ := hw ρ' _ w' c2
      exact ⟨none, w', c1, ⟨.normal, s2, ρ4, rfl, hq, d1, c3.trans d2⟩⟩
    · obtain ⟨w', c1, c2, c3⟩ := hend _ _ hl (by simp)
      exact ⟨some c, w', c1, wpIn_mono (hq ρ' _ w' c2) fun e a w hp => hp.from c3⟩
end
end Go.Proofs.YtbjlabokijchpaaA
