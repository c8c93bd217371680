/-
  Contracts of functions over abstract states: how they are proved, how they are used.
-/
import Derived.Test.YtbjlabokijchpaaA10
namespace Go.Proofs.YtbjlabokijchpaaA
set_option linter.unusedVariables false
open Go Go.RowKit Go.Shelf

/-- A function's contract: called with these values over this heap it returns, and Q holds of what it returns and of the heap. -/
def ACalls (P : Program) (f : FuncId) (args : List Value) (H : AHeap) (Q : Value → AHeap → Prop) : Prop :=
  ∀ ρ w args', HRel ρ H w → LRel ρ args args'.toList → Calls P f args' w fun e w' => ∃ v v' H' ρ', e = .returned v' ∧ Q v H' ∧ VRel ρ' v v' ∧ HRel ρ' H' w' ∧ Fr H.length ρ H w ρ' H' w' ∧ H.length ≤ H'.length
theorem ACalls.mono {P : Program} {f : FuncId} {args : List Value} {H : AHeap} {Q Q' : Value → AHeap → Prop} (h : ACalls P f args H Q) (hq : ∀ v H', Q v H' → Q' v H') : ACalls P f args H Q' :=
  fun ρ w args' hh ha => (h ρ w args' hh ha).mono fun e w' ⟨v, v', H', ρ', h1, h2, h3⟩ => ⟨v, v', H', ρ', h1, hq _ _ h2, h3⟩
/-- The result is v, and new are the blocks Δ. -/
abbrev Rets (v : Value) (H' : AHeap) : Value → AHeap → Prop := fun u K => u = v ∧ K = H'

/-! ### Results -/
inductive Res (P : Program) (tmps : Array Value) (w : World) : List ResultVar → List Value → Prop where
  | nil : Res P tmps w [] []
  | tmp {u : Tmp} {rs : List ResultVar} {vs : List Value} (h : Res P tmps w rs vs) : Res P tmps w (.tmp u :: rs) (tmps.getD u undef :: vs)
  | cell {p : Tmp} {ty : TypeId} {rs : List ResultVar} {vs : List Value} (a : Addr) (v : Value)
      (hp : tmps.getD p undef = .pointer (some a)) (hr : (loadVar ty a).run P w = .ok v w)
      (h : Res P tmps w rs vs) : Res P tmps w (.cell p ty :: rs) (v :: vs)
theorem res_run {P : Program} {tmps : Array Value} {w : World} {rs : List ResultVar} {vs : List Value} (hv : Res P tmps w rs vs) (f : ResultVar → Sem Value) (hf : ∀ u, f (.tmp u) = pure (tmps.getD u undef)) (hc : ∀ a t, f (.cell a t) = (do loadVar t (← asAddr (tmps.getD a undef)))) :
    (rs.mapM f).run P w = .ok vs w := by
  induction hv with
  | nil => simp
  | tmp h ih => simp [List.mapM_cons, hf, ih]
  | cell a v hp hr h ih =>
    rw [List.mapM_cons, hc, hp]
    simp [asAddr, hr, ih]
def retv : List Value → Value
  | [v] => v
  | vs => .tuple vs.toArray
theorem results_res {P : Program} {tmps : Array Value} {w : World} {fn : Func} {vs : List Value} (hv : Res P tmps w fn.results.toList vs) : (results fn tmps).run P w = .ok (retv vs) w := by
  unfold results
  rw [show fn.results = fn.results.toList.toArray by simp, List.mapM_toArray]
  simp only [Sem.run_bind, Sem.run_map]
  rw [res_run hv]
  · simp only [Result.andThen_ok]
    unfold retv
    match vs with
    | [] => simp
    | [v] => simp
    | v :: u :: vs => simp
  · intro u
    rfl
  · intro a t
    rfl
inductive ARes (P : Program) (s : ASt) : List ResultVar → List Value → Prop where
  | nil : ARes P s [] []
  | tmp {u : Tmp} {v : Value} {rs : List ResultVar} {vs : List Value} (hv : s.T u = v) (h : ARes P s rs vs) : ARes P s (.tmp u :: rs) (v :: vs)
  | cell {p : Tmp} {ty : TypeId} {rs : List ResultVar} {us : List Value} {b o : Nat} {vs : List Value} {sz : Nat} {v : Value} (hp : s.T p = .pointer (some ⟨b, o, none⟩)) (hu : ∀ w, (isAgg ty).run P w = .ok false w)
      (hR : Rd s.H b vs sz) (hv : vs[o]? = some v) (h : ARes P s rs us) : ARes P s (.cell p ty :: rs) (v :: us)
  | agg {p : Tmp} {ty : TypeId} {rs : List ResultVar} {us : List Value} {b o n : Nat} {vs xs : List Value} {sz : Nat} (hp : s.T p = .pointer (some ⟨b, o, none⟩)) (hu : ∀ w, (isAgg ty).run P w = .ok true w) (hn : ∀ w, (sizeOf ty).run P w = .ok n w)
      (hR : Rd s.H b vs sz) (ho : o + n ≤ vs.length) (hv : (vs.drop o).take n = xs) (h : ARes P s rs us) : ARes P s (.cell p ty :: rs) (.agg xs.toArray :: us)
theorem ares_run {P : Program} {s : ASt} {ρ : Ren} {w : World} {ts : Array Value} (hh : HRel ρ s.H w) (ht : TRel ρ s.nt s.T ts) {rs : List ResultVar} {vs : List Value} (h : ARes P s rs vs) : ∃ vs', Res P ts w rs vs' ∧ LRel ρ vs vs' := by
  induction h with
  | nil => exact ⟨[], .nil, .nil ρ⟩
  | @tmp u v rs vs hv h ih =>
    obtain ⟨vs', h1, h2⟩ := ih
    have h3 := ht.2 u
    rw [hv] at h3
    exact ⟨_, .tmp h1, .cons h3 h2⟩
  | @cell p ty rs us b o vs sz v hp hu hR hv h ih =>
    obtain ⟨vs', h1, h2⟩ := ih
    have h3 := ht.2 p
    rw [hp] at h3
    obtain ⟨l, hl, h4⟩ := vrel_ptr hh h3 hR.live
    obtain ⟨_, cs, E, fr, h5, h6, h7, h8⟩ := hR.get hh hl
    have ho := (List.getElem?_eq_some_iff.1 hv).1
    have h9 := h8 o ho
    rw [List.getD_eq_getElem?_getD, hv] at h9
    refine ⟨_, .cell ⟨l.blk, l.base + o, none⟩ _ h4 ?_ h1, .cons h9 h2⟩
    show (Sem.run P (do if ← isAgg ty then pure (.agg (← loadCells ⟨l.blk, l.base + o, none⟩ (← sizeOf ty))) else load ⟨l.blk, l.base + o, none⟩) w) = _
    rw [Sem.run_bind, hu w, Result.andThen_ok]
    simp only [Bool.false_eq_true, if_false]
    rw [run_load, cell_at h5 (by omega)]
  | @agg p ty rs us b o n vs xs sz hp hu hn hR ho hv h ih =>
    obtain ⟨vs', h1, h2⟩ := ih
    have h3 := ht.2 p
    rw [hp] at h3
    obtain ⟨l, hl, h4⟩ := vrel_ptr hh h3 hR.live
    obtain ⟨_, cs, E, fr, h5, h6, h7, h8⟩ := hR.get hh hl
    have hlen : xs.length = n := by rw [← hv]; simp; omega
    refine ⟨_, .cell ⟨l.blk, l.base + o, none⟩ (.agg ((List.range n).map fun j => cs.getD (l.base + o + j) undef).toArray) h4 ?_ h1, .cons ?_ h2⟩
    · show (Sem.run P (do if ← isAgg ty then pure (.agg (← loadCells ⟨l.blk, l.base + o, none⟩ (← sizeOf ty))) else load ⟨l.blk, l.base + o, none⟩) w) = _
      rw [Sem.run_bind, hu w, Result.andThen_ok]
      simp only [if_true, Sem.run_bind, hn w, Result.andThen_ok, run_load_cells h5 (show l.base + o + n ≤ cs.size by omega), Sem.run_pure]
    · refine .agg (by simp [hlen]) fun i hi => ?_
      simp only [List.size_toArray] at hi
      have h9 := h8 (o + i) (by omega)
      have e1 : xs.toArray.getD i undef = vs.getD (o + i) undef := by
        simp only [← hv, List.getD_eq_getElem?_getD, Array.getD_eq_getD_getElem?, List.getElem?_toArray, List.getElem?_take, List.getElem?_drop]
        rw [if_pos (by omega)]
      have e2 : ((List.range n).map fun j => cs.getD (l.base + o + j) undef).toArray.getD i undef = cs.getD (l.base + (o + i)) undef := by
        have : i < n := by omega
        simp [this, Nat.add_assoc]
      rw [e1, e2]
      exact h9
theorem vrel_retv {ρ : Ren} {vs vs' : List Value} (h : LRel ρ vs vs') : VRel ρ (retv vs) (retv vs') := by
  have tup : ∀ {us us' : List Value}, LRel ρ us us' → VRel ρ (.tuple us.toArray) (.tuple us'.toArray) := fun {us us'} h => .tuple (by simpa using h.1) fun i hi => by
    have := h.2 i (by simpa using hi)
    simpa [List.getD_eq_getElem?_getD] using this
  match vs, vs', h with
  | [], [], h => exact tup h
  | [], _ :: _, h => have := h.1; simp at this
  | [v], [v'], h => have := h.2 0 (by simp); simpa [retv] using this
  | [_], [], h => have := h.1; simp at this
  | [_], _ :: _ :: _, h => have := h.1; simp at this
  | _ :: _ :: _, [], h => have := h.1; simp at this
  | _ :: _ :: _, [_], h => have := h.1; simp at this
  | _ :: _ :: _, _ :: _ :: _, h => exact tup h

/-! ### The marks of ranges over functions -/
def unmark (D : List Nat) (H : AHeap) : AHeap := D.foldl (fun H d => H.set d .none) H
theorem unmark_length : ∀ (D : List Nat) (H : AHeap), (unmark D H).length = H.length
  | [], H => rfl
  | d :: D, H => by
    show (unmark D (H.set d .none)).length = _
    rw [unmark_length D]; simp
theorem put_mark {ρ : Ren} {H : AHeap} {w : World} (hh : HRel ρ H w) {d : Nat} {l : Loc} (hl : ρ d = .at l) (hH : H[d]? = some .mark) (n : Nat) (ob : Obj) :
    HRel ρ (H.set d .none) (w.putObj l.blk ob) ∧ Fr n ρ H w ρ (H.set d .none) (w.putObj l.blk ob) := by
  have hd : d < H.length := (List.getElem?_eq_some_iff.1 hH).1
  have hwr : wr H d := ⟨_, hH, rfl⟩
  have hwr' : ∀ c, wr (H.set d .none) c → wr H c := fun c ⟨o2, h1, h2⟩ => by
    by_cases e1 : c = d
    · subst e1; exact hwr
    · rw [List.getElem?_set, if_neg (Ne.symm e1)] at h1; exact ⟨o2, h1, h2⟩
  have hsz : (w.putObj l.blk ob).heap.size = w.heap.size := by simp [World.putObj]
  refine ⟨⟨fun c hc => hh.bound c (by simpa using hc), fun c m hm => ?_, fun c e m m' hne hc he hw => hh.inj c e m m' hne hc he (hwr' c hw), fun g vs sz hg => ?_, fun c hc => ?_⟩,
    ⟨rfl, rfl, rfl, by omega, fun k hk ho => World.putObj_heap_other (fun e => ho ⟨d, l, hl, e.symm, hwr⟩), fun c _ => .inl rfl, fun c m hm hw => .inl ⟨c, m, hm, rfl, hwr' c hw⟩⟩⟩
  · by_cases e1 : c = d
    · subst e1
      rw [hl] at hm; cases hm
      obtain ⟨o, q1, q2, q3⟩ := hh.rel c l hl
      exact ⟨.none, by rw [List.getElem?_set, if_pos rfl, if_pos hd], by omega, trivial⟩
    · obtain ⟨o, q1, q2, q3⟩ := hh.rel c m hm
      exact ⟨o, by rw [List.getElem?_set, if_neg (Ne.symm e1)]; exact q1, by omega, q3.mono (fun _ _ => .inl rfl) (World.putObj_heap_other (fun e => hh.inj d c l m (Ne.symm e1) hl hm hwr e.symm))⟩
  · by_cases e1 : g = d
    · subst e1; rw [List.getElem?_set, if_pos rfl, if_pos hd] at hg; cases hg
    · rw [List.getElem?_set, if_neg (Ne.symm e1)] at hg; exact hh.glob g vs sz hg
  · have := hh.isdead c hc
    by_cases e1 : d = c
    · subst e1; rw [hH] at this; cases this
    · rw [List.getElem?_set, if_neg e1]; exact this
theorem leaves_marks {P : Program} {fn : Func} {ts : Array Value} {R : Ending → World → Prop} {m : Nat} {N : Nat} : ∀ (D : List Nat) (ds : List Deferred) (ρ : Ren) (H : AHeap) (w : World), DRel ρ H D ds → D.Nodup → HRel ρ H w →
    (hend : ∀ w', HRel ρ (unmark D H) w' → Fr N ρ H w ρ (unmark D H) w' → ∃ v, (results fn ts).run P w' = .ok v w' ∧ R (.returned v) w') → LeavesInM Fence.wide m P fn ts R ds .returning w
  | [], [], ρ, H, w, _, _, hh, hend => by
    obtain ⟨v, h1, h2⟩ := hend w hh (.refl _ _ _ _)
    exact ⟨v, h1, h2⟩
  | [], _ :: _, _, _, _, h, _, _, _ => h.elim
  | _ :: _, [], _, _, _, h, _, _, _ => h.elim
  | d :: D, x :: ds, ρ, H, w, ⟨⟨l, h1, h2, h3⟩, h4⟩, hnd, hh, hend => by
    subst h3
    obtain ⟨hx, hnd'⟩ := List.nodup_cons.1 hnd
    obtain ⟨o, q1, q2, q3⟩ := hh.rel d l h1
    rw [h2] at q1; cases q1
    obtain ⟨p1, p2⟩ := put_mark hh h1 h2 N (.deferred none)
    have h5 : DRel ρ (H.set d .none) D ds := by
      have : ∀ (D : List Nat) (ds : List Deferred), d ∉ D → DRel ρ H D ds → DRel ρ (H.set d .none) D ds := by
        intro D
        induction D with
        | nil => intro ds _ h; cases ds with | nil => trivial | cons _ _ => exact h.elim
        | cons c D ih =>
          intro ds hc h
          cases ds with
          | nil => exact h.elim
          | cons y ds =>
            obtain ⟨⟨l', k1, k2, k3⟩, k4⟩ := h
            simp only [List.mem_cons, not_or] at hc
            exact ⟨⟨l', k1, by rw [List.getElem?_set, if_neg hc.1]; exact k2, k3⟩, ih ds hc.2 k4⟩
      exact this D ds hx h4
    refine ⟨by simp, .inl ⟨_, _, rfl, run_takeDeferred q3, leaves_marks D ds ρ _ _ h5 hnd' p1 fun w' k1 k2 => hend w' k1 (p2.trans k2)⟩⟩

/-! ### A function's contract from its body -/
/-- What must hold where a function returns. -/
def Ret (P : Program) (N0 : AHeap) (fn : Func) (Q : Value → AHeap → Prop) (s : ASt) : Prop :=
  s.D.Nodup ∧ ((∃ vs, ARes P { s with H := unmark s.D s.H } fn.results.toList vs ∧ Q (retv vs) (unmark s.D s.H)) ∨ ∃ vs φ v2 H2, ARes P { s with H := unmark s.D s.H } fn.results.toList vs ∧ Gc N0 φ (unmark s.D s.H) H2 ∧ VSub φ v2 (retv vs) ∧ Q v2 H2)
def RetQ (P : Program) (N0 : AHeap) (fn : Func) (Q : Value → AHeap → Prop) : AEx → ASt → Prop
  | .normal, s => Ret P N0 fn Q s
  | .ret, s => Ret P N0 fn Q s
  | _, _ => False
theorem LRel.append_undef {ρ : Ren} {vs vs' : List Value} (h : LRel ρ vs vs') (n : Nat) : LRel ρ (vs ++ List.replicate n undef) (vs' ++ List.replicate n undef) := h.append (.replicate ρ n (.undef ρ))
/-- A function's slots as it begins. -/
def T0 (args : List Value) : Nat → Value := fun t => args.getD t undef
theorem acalls_of {P : Program} {f : FuncId} {fn : Func} {c : Code} {args : List Value} {H : AHeap} {Q : Value → AHeap → Prop} (hf : P.funcs[f]? = some fn) (hb : fn.body = some c) {nt : Nat} (hnt : fn.ntmps = nt) (hn : args.length ≤ nt)
    (h : awp Fence.wide 1 P H c (RetQ P H fn Q) ⟨nt, T0 args, [], H⟩) : ACalls P f args H Q := by
  intro ρ w args' hh ha
  refine callsIn_wide.1 (callsIn_of_wp_marks (n := 1) hf hb trivial ?_)
  have hsz : args'.size = args.length := by have := ha.1; simpa using this.symm
  have hs : SRel H ρ ⟨nt, T0 args, [], H⟩ { tmps := args' ++ Array.replicate (fn.ntmps - args'.size) undef, defers := [] } w := by
    refine ⟨hh, ⟨by simp; omega, fun t => ?_⟩, trivial, Nat.le_refl _, ⟨ρ, w, hh, fun _ _ => ⟨fun h => h, fun l h h2 => by rw [h] at h2; cases h2⟩⟩⟩
    have e1 : (args' ++ Array.replicate (fn.ntmps - args'.size) undef).getD t undef = args'.toList.getD t undef := by
      simp only [Array.getD_eq_getD_getElem?, List.getD_eq_getElem?_getD, Array.getElem?_append, Array.getElem?_replicate, Array.getElem?_toList]
      by_cases h1 : t < args'.size
      · simp [h1]
      · simp only [if_neg h1]
        split <;> simp [Array.getElem?_eq_none (Nat.le_of_not_lt h1)]
    show VRel ρ (args.getD t undef) _
    rw [e1]
    exact ha.at t
  refine wpIn_mono (h ρ _ w hs) ?_
  rintro e a' w' ⟨x, s', ρ', rfl, h2, h3, h4⟩
  have fin : Ret P H fn Q s' → LeavesInM Fence.wide 1 P fn a'.tmps (fun e w' => ∃ v v' H' ρ', e = .returned v' ∧ Q v H' ∧ VRel ρ' v v' ∧ HRel ρ' H' w' ∧ Fr H.length ρ H w ρ' H' w' ∧ H.length ≤ H'.length) a'.defers .returning w' := by
    rintro ⟨hnd, ⟨vs, hr, hQ⟩ | ⟨vs, φ, v2, H2, hr, hg, hv, hQ⟩⟩
    · refine leaves_marks (N := H.length) s'.D a'.defers ρ' s'.H w' h3.defers hnd h3.heap fun w2 k1 k2 => ?_
      obtain ⟨vs', r1, r2⟩ := ares_run (s := { s' with H := unmark s'.D s'.H }) k1 h3.tmps hr
      exact ⟨retv vs', results_res r1, retv vs, _, _, ρ', rfl, hQ, vrel_retv r2, k1, h4.trans k2, by rw [unmark_length]; exact h3.len⟩
    refine leaves_marks (N := H.length) s'.D a'.defers ρ' s'.H w' h3.defers hnd h3.heap fun w2 k1 k2 => ?_
    obtain ⟨vs', r1, r2⟩ := ares_run (s := { s' with H := unmark s'.D s'.H }) k1 h3.tmps hr
    exact ⟨retv vs', results_res r1, v2, _, H2, comp φ ρ', rfl, hQ, hv _ _ (vrel_retv r2), hg.heap k1 h3.entry, (h4.trans k2).trans (hg.fr ρ' w2), hg.len⟩
  cases x with
  | normal => exact fin h2
  | ret => exact fin h2
  | exit id => exact h2.elim
  | goto l => exact h2.elim

/-! ### Calls -/
theorem run_call {P : Program} {f : FuncId} (hE : Enters P f) {e : Operand → Value} {dst : Option Tmp} {xs : Array Operand} {ats : Array TypeId} {ty : TypeId} {pos : String} {af : Array Edge} {g : Option (Nat × Bool)} {x : Operand} {fs cs : Array Value} (hx : e x = .func (.func f) fs cs) (w : World) :
    (execOp e ⟨dst, .call { callee := .value x, args := xs, argTypes := ats }, ty, pos, af, g⟩).run P w = .ok (.enter f (fs ++ xs.map e ++ cs)) w := by
  show (Sem.run P (do let d ← resolve e _ ty; invoke d.target d.args) w) = _
  unfold resolve
  simp only [hx, Deferred.ofValue, Sem.run_bind, Sem.run_pure, Result.andThen_ok, invoke]
  exact hE _ _
section
variable {F : Fence} {n : Nat} {P : Program} {N0 : AHeap} {s : ASt} {T : Nat → Value} {H : AHeap} {dst : Option Tmp} {ty : TypeId} {pos : String} {af : Array Edge} {g : Option (Nat × Bool)}
theorem lrel_args {ρ : Ren} {e : Operand → Value} (xs : Array Operand) (he : ∀ x ∈ xs, VRel ρ (ev T x) (e x)) : LRel ρ (xs.toList.map (ev T)) (xs.map e).toList := by
  refine ⟨by simp, fun i hi => ?_⟩
  have hi' : i < xs.size := by simpa using hi
  have := he xs[i] (by simp)
  simpa [List.getD_eq_getElem?_getD, hi'] using this
/-- A call that leaves the heap as it was, but for new blocks. -/
theorem q_call {f : FuncId} {xs : Array Operand} {ats : Array TypeId} {args : List Value} {v : Value} {Δ : AHeap} (hE : Enters P f) (hargs : xs.toList.map (ev T) = args) (hΔ : ∀ o ∈ Δ, o.wr = true) (h : ACalls P f args H (Rets v (H ++ Δ))) :
    OpQ P ⟨dst, .call { callee := .value (.func f), args := xs, argTypes := ats }, ty, pos, af, g⟩ T H v Δ := by
  subst hargs
  refine ⟨by simp, hΔ, fun ρ e w hh he => ?_⟩
  have hf := he (.func f) (by simp [Op.operands, Call.operands])
  obtain ⟨fs', cs', h2, h3, _, h4, _⟩ := vrel_func (f := f) (fs := #[]) (cs := #[]) hf
  have hfs : fs' = #[] := Array.eq_empty_of_size_eq_zero (by simpa using h3.symm)
  have hcs : cs' = #[] := Array.eq_empty_of_size_eq_zero (by simpa using h4.symm)
  rw [run_call hE h2, hfs, hcs]
  simp only [Array.empty_append, Array.append_empty]
  refine (h ρ w _ hh (lrel_args xs fun x hx => he x (by simp [Op.operands, Call.operands, hx]))).mono ?_
  rintro e' w' ⟨u, v', H', ρ', rfl, ⟨rfl, rfl⟩, k1, k2, k3, k4⟩
  exact ⟨v', rfl, ρ', k1, k2, k3.ext hh k2 hΔ⟩
/-- A call of a function value. -/
theorem q_callv {f : FuncId} {x : Operand} {xs : Array Operand} {ats : Array TypeId} {cs : Array Value} {args : List Value} {v : Value} {Δ : AHeap} (hE : Enters P f) (hx : ev T x = .func (.func f) #[] cs) (hargs : xs.toList.map (ev T) ++ cs.toList = args) (hΔ : ∀ o ∈ Δ, o.wr = true) (h : ACalls P f args H (Rets v (H ++ Δ))) :
    OpQ P ⟨dst, .call { callee := .value x, args := xs, argTypes := ats }, ty, pos, af, g⟩ T H v Δ := by
  subst hargs
  refine ⟨by simp, hΔ, fun ρ e w hh he => ?_⟩
  have hf := he x (by simp [Op.operands, Call.operands])
  rw [hx] at hf
  obtain ⟨fs', cs', h2, h3, _, h4, h5⟩ := vrel_func hf
  have hfs : fs' = #[] := Array.eq_empty_of_size_eq_zero (by simpa using h3.symm)
  rw [run_call hE h2, hfs]
  simp only [Array.empty_append]
  have hc : LRel ρ cs.toList cs'.toList := ⟨by simpa using h4, fun i hi => by have := h5 i (by simpa using hi); simpa [List.getD_eq_getElem?_getD] using this⟩
  refine (h ρ w _ hh (by
    rw [Array.toList_append]
    exact (lrel_args xs fun x hx => he x (by simp [Op.operands, Call.operands, hx])).append hc)).mono ?_
  rintro e' w' ⟨u, v', H', ρ', rfl, ⟨rfl, rfl⟩, k1, k2, k3, k4⟩
  exact ⟨v', rfl, ρ', k1, k2, k3.ext hh k2 hΔ⟩
theorem DRel.fr {ρ ρ' : Ren} {H H' : AHeap} (hk : ∀ d l, ρ d = .at l → H[d]? = some .mark → ρ' d = .at l ∧ H'[d]? = some .mark) : ∀ (D : List Nat) (ds : List Deferred), DRel ρ H D ds → DRel ρ' H' D ds
  | [], [], _ => trivial
  | [], _ :: _, h => h.elim
  | _ :: _, [], h => h.elim
  | d :: D, x :: ds, ⟨⟨l, h1, h2, h3⟩, h4⟩ => ⟨⟨l, (hk d l h1 h2).1, (hk d l h1 h2).2, h3⟩, DRel.fr hk D ds h4⟩
/-- A call that turns the heap. -/
theorem o_callv {K : ASt → Prop} (hF : Wd F) {f : FuncId} {x : Operand} {xs : Array Operand} {ats : Array TypeId} {cs : Array Value} {args : List Value} {Q : Value → AHeap → Prop} (hE : Enters P f) (hx : ev s.T x = .func (.func f) #[] cs) (hargs : xs.toList.map (ev s.T) ++ cs.toList = args)
    (h : ACalls P f args s.H Q) (hc : ∀ y ∈ #[x] ++ xs, cOk s.H y) (hd : dOk s.nt dst) (hm : ∀ v H', Q v H' → ∀ d ∈ s.D, H'[d]? = some .mark)
    (hk : ∀ v H', Q v H' → K (ASt.put { s with H := H' } dst v)) : OpOk F n P N0 ⟨dst, .call { callee := .value x, args := xs, argTypes := ats }, ty, pos, af, g⟩ K s := by
  subst hargs
  intro ρ a w hs
  have hh := hs.heap
  have he : ∀ y ∈ #[x] ++ xs, VRel ρ (ev s.T y) (a.eval y) := fun y hy => ev_rel hh hs.tmps (hc y hy)
  have hf := he x (by simp)
  rw [hx] at hf
  obtain ⟨fs', cs', h2, h3, _, h4, h5⟩ := vrel_func hf
  have hfs : fs' = #[] := Array.eq_empty_of_size_eq_zero (by simpa using h3.symm)
  refine ⟨fun f _ => hF.fn f, ?_⟩
  rw [Oper.semAt_eq _ _ _ (by simp), run_call hE h2, hfs]
  simp only [Array.empty_append]
  have hcr : LRel ρ cs.toList cs'.toList := ⟨by simpa using h4, fun i hi => by have := h5 i (by simpa using hi); simpa [List.getD_eq_getElem?_getD] using this⟩
  refine ⟨fun hd => by rw [hF.depth] at hd; simp at hd, hF.calls (Calls.mono (h ρ w _ hh (by
    rw [Array.toList_append]
    exact (lrel_args xs fun x hx => he x (by simp [hx])).append hcr)) ?_)⟩
  rintro e' w' ⟨u, v', H', ρ', rfl, hq, k1, k2, k3, k4⟩
  have hm' : ∀ b, ρ b ≠ .none → ρ' b = ρ b ∨ ρ' b = .dead := fun b hb => by
    rcases k3.old b (by
      by_cases e : b < s.H.length
      · exact e
      · exact absurd (hh.bound b (by omega)) hb) with e | ⟨e, _⟩
    · exact .inl e
    · exact .inr e
  have hs1 : SRel N0 ρ' { s with H := H' } a w' := by
    refine ⟨k2, hs.tmps.mono hm', ?_, by have := hs.len; show N0.length ≤ H'.length; omega, hs.entry.of fun b hb => k3.old b (by have := hs.len; omega)⟩
    have key : ∀ (D : List Nat) (ds : List Deferred), (∀ d ∈ D, H'[d]? = some .mark) → DRel ρ s.H D ds → DRel ρ' H' D ds := by
      intro D
      induction D with
      | nil => intro ds _ h; cases ds with | nil => trivial | cons _ _ => exact h.elim
      | cons d D ih =>
        intro ds hD h
        cases ds with
        | nil => exact h.elim
        | cons y ds =>
          obtain ⟨⟨l', q1, q2, q3⟩, q4⟩ := h
          refine ⟨⟨l', ?_, hD d (by simp), q3⟩, ih ds (fun d' hd' => hD d' (by simp [hd'])) q4⟩
          rcases k3.old d (List.getElem?_eq_some_iff.1 q2).1 with e | ⟨e, _⟩
          · exact e.trans q1
          · have := k2.isdead d e
            rw [hD d (by simp)] at this; cases this
    exact key _ _ (hm u H' hq) hs.defers
  refine ⟨_, ρ', hk u H' hq, hs1.put hd k1, ?_⟩
  rw [ASt.put_H]
  exact k3.mono hs.len
end
end Go.Proofs.YtbjlabokijchpaaA
