/-
  Walks of functions of the given program, and what they compute.
-/
import Derived.Test.YtbjlabokijchpaaO5
import Derived.Test.YtbjlabokijchpaaProg
import Derived.KernelRfl
namespace Go.Proofs.YtbjlabokijchpaaA
set_option linter.unusedVariables false
open Go Go.RowKit Go.Shelf Go.Proofs
noncomputable def rch (e : List (List Int)) (al : List Int) (a b : Int) : Bool := @decide (Rch e al a b) (Classical.propDecidable _)
theorem rch_iff {e : List (List Int)} {al : List Int} {a b : Int} : rch e al a b = true ↔ Rch e al a b := @decide_eq_true_iff _ (Classical.propDecidable _)
theorem rch_no {e : List (List Int)} {al : List Int} {a b : Int} : rch e al a b = false ↔ ¬ Rch e al a b := by rw [← rch_iff]; simp
theorem rbelow2_ok {H0 : AHeap} (e : List (List Int)) (vE : Value) (hE : Sl2Z intv (Rd H0) vE e) (hr : Sized e) (al : List Int) (vK : Value) (hK : Sl intv H0 vK al) (hk : al.length ≤ 1000000) (a b : Int) (ha : a ∈ al) (hbv : Valid e b) (hsv : ∀ x ∈ al, Valid e x) : ACalls Try.prog 27 [vE, vK, .int .i64 a, .int .i64 b] H0 (Rets (.bool (rch e al a b)) H0) :=
  @rbelow_ok H0 e vE hE hr al vK hK hk a b ha hbv hsv (Rch e al a b) (Classical.propDecidable _) Iff.rfl
noncomputable def nx (e : List (List Int)) (al : List Int) (k n : Int) : Bool := decide (n = k) || !rch e al k n || rch e al n k
theorem nx_t {e : List (List Int)} {al : List Int} {k n : Int} (h : n = k ∨ rch e al k n = false ∨ rch e al n k = true) : nx e al k n = true := by
  unfold nx
  rcases h with h | h | h
  · rw [decide_eq_true h]; rfl
  · rw [h]; simp
  · rw [h]; simp
theorem nx_f {e : List (List Int)} {al : List Int} {k n : Int} (h1 : n ≠ k) (h2 : rch e al k n = true) (h3 : rch e al n k = false) : nx e al k n = false := by
  unfold nx; rw [decide_eq_false h1, h2, h3]; rfl
noncomputable def ok' (e : List (List Int)) (al left : List Int) (k : Int) : Bool := left.all (nx e al k)
theorem all_take {l : List Int} {p : Int → Bool} {i : Nat} (hi : i < l.length) (h : (l.take i).all p = true) (hp : p (nth l i) = true) : (l.take (i + 1)).all p = true := by
  rw [List.take_add_one, List.getElem?_eq_getElem hi, List.all_append, h]
  rw [nth_eq hi] at hp
  simp [hp]
theorem all_end {l : List Int} {p : Int → Bool} {i : Nat} (hi : ¬ i < l.length) (h : (l.take i).all p = true) : l.all p = true := by rwa [List.take_of_length_le (by omega)] at h
theorem all_no {l : List Int} {p : Int → Bool} {i : Nat} (hi : i < l.length) (hp : p (nth l i) = false) : l.all p = false := by
  rw [List.all_eq_false]; exact ⟨_, nthI_mem hi, fun h => by rw [hp] at h; cases h⟩
theorem min_ex {lt : Int → Int → Prop} (irr : ∀ x, ¬ lt x x) (tr : ∀ x y z, lt x y → lt y z → lt x z) : ∀ (l : List Int), l ≠ [] → ∃ x ∈ l, ∀ y ∈ l, ¬ lt y x
  | [], h => absurd rfl h
  | [a], _ => ⟨a, by simp, fun y hy => by rw [List.mem_singleton.1 hy]; exact irr a⟩
  | a :: b :: l, _ => by
    obtain ⟨x, h1, h2⟩ := min_ex irr tr (b :: l) (by simp)
    by_cases h : lt a x
    · refine ⟨a, List.mem_cons_self, fun y hy => ?_⟩
      rcases List.mem_cons.1 hy with rfl | hy
      · exact irr _
      · exact fun h3 => h2 y hy (tr _ _ _ h3 h)
    · refine ⟨x, List.mem_cons_of_mem _ h1, fun y hy => ?_⟩
      rcases List.mem_cons.1 hy with rfl | hy
      · exact h
      · exact h2 y hy
theorem ok_ex (e : List (List Int)) (al left : List Int) (h : left ≠ []) : ∃ k ∈ left, ok' e al left k = true := by
  obtain ⟨k, h1, h2⟩ := min_ex (lt := fun x y => Rch e al y x ∧ ¬ Rch e al x y) (fun x h => h.2 h.1) (fun x y z h k => ⟨k.1.trans h.1, fun r => h.2 (r.trans k.1)⟩) left h
  refine ⟨k, h1, List.all_eq_true.2 fun n hn => ?_⟩
  have h3 := h2 n hn
  by_cases h4 : Rch e al k n
  · exact nx_t (.inr (.inr (rch_iff.2 (Classical.byContradiction fun h5 => h3 ⟨h4, h5⟩))))
  · exact nx_t (.inr (.inl (rch_no.2 h4)))
noncomputable def pick (e : List (List Int)) (al left : List Int) : Int := (left.find? (ok' e al left)).getD 0
noncomputable def fin (e : List (List Int)) (al : List Int) : Nat → List Int → List Int
  | 0, _ => []
  | n + 1, left => pick e al left :: fin e al n (without left (pick e al left))
noncomputable def firstL (e : List (List Int)) (l : List Int) : List Int := fin e (onceL e l) (onceL e l).length (onceL e l)
theorem pick_at {e : List (List Int)} {al left : List Int} {i : Nat} (hi : i < left.length) (h : ok' e al left (nth left i) = true) (hn : ∀ j, j < i → ok' e al left (nth left j) = false) : pick e al left = nth left i := by
  have : left.find? (ok' e al left) = some (nth left i) := by
    rw [List.find?_eq_some_iff_getElem]
    refine ⟨h, i, hi, (nth_eq hi).symm, fun j hj => ?_⟩
    have := hn j hj
    rw [nth_eq (by omega)] at this
    simp [this]
  unfold pick; rw [this]; rfl
theorem pick_mem {e : List (List Int)} {al left : List Int} (h : left ≠ []) : left.find? (ok' e al left) = some (pick e al left) ∧ pick e al left ∈ left := by
  obtain ⟨k, h1, h2⟩ := ok_ex e al left h
  cases h3 : left.find? (ok' e al left) with
  | none => exact absurd h2 (by simpa using List.find?_eq_none.1 h3 k h1)
  | some x =>
    have : pick e al left = x := by unfold pick; rw [h3]; rfl
    rw [this]
    exact ⟨rfl, List.mem_of_find?_eq_some h3⟩
theorem without_erase : ∀ {l : List Int} {i : Nat}, l.Nodup → i < l.length → without l (nth l i) = l.eraseIdx i
  | x :: l, 0, h, _ => by
    have h1 := List.nodup_cons.1 h
    rw [nth_cons0, without, List.filter_cons, if_neg (by simp), List.eraseIdx_zero, List.tail_cons]
    exact List.filter_eq_self.2 fun y hy => decide_eq_true fun e => h1.1 (e ▸ hy)
  | x :: l, i + 1, h, hi => by
    have h1 := List.nodup_cons.1 h
    have hi' : i < l.length := by simpa using hi
    have hx : x ≠ nth l i := fun e => h1.1 (e ▸ nthI_mem hi')
    have := without_erase h1.2 hi'
    rw [nth_cons1, without, List.filter_cons, if_pos (decide_eq_true hx), List.eraseIdx_cons_succ]
    exact congrArg _ this
theorem fin_step {e : List (List Int)} {al left : List Int} {i : Nat} (hn : left.Nodup) (hi : i < left.length) (hp : pick e al left = nth left i) : fin e al left.length left = nth left i :: fin e al (left.eraseIdx i).length (left.eraseIdx i) := by
  have h1 : (left.eraseIdx i).length = left.length - 1 := List.length_eraseIdx_of_lt hi
  rw [h1]
  obtain ⟨m, hm⟩ : ∃ m, left.length = m + 1 := ⟨left.length - 1, by omega⟩
  rw [hm, fin, hp, without_erase hn hi]; rfl
theorem nth_of_mem {l : List Int} {x : Int} (h : x ∈ l) : ∃ i, i < l.length ∧ x = nth l i := by
  obtain ⟨i, hi, rfl⟩ := List.mem_iff_getElem.1 h
  exact ⟨i, hi, (nth_eq hi).symm⟩
theorem fin_step2 {e : List (List Int)} {al left : List Int} (hn : left.Nodup) (h : left ≠ []) : fin e al left.length left = pick e al left :: fin e al (without left (pick e al left)).length (without left (pick e al left)) ∧ (without left (pick e al left)).length + 1 = left.length ∧ (without left (pick e al left)).Nodup := by
  obtain ⟨i, hi, hp⟩ := nth_of_mem (pick_mem (e := e) (al := al) h).2
  have h1 := fin_step hn hi hp
  have h2 : (left.eraseIdx i).length = left.length - 1 := List.length_eraseIdx_of_lt hi
  rw [hp, without_erase hn hi]
  exact ⟨h1, by omega, hn.eraseIdx i⟩
theorem fin_mem {e : List (List Int)} {al : List Int} : ∀ {left : List Int}, left.Nodup → ∀ x, x ∈ fin e al left.length left ↔ x ∈ left := by
  intro left
  generalize hm : left.length = m
  induction m generalizing left with
  | zero => intro _ x; rw [List.length_eq_zero_iff.1 hm]; simp [fin]
  | succ m ih =>
    intro hn x
    have hne : left ≠ [] := fun h => by rw [h] at hm; cases hm
    have h1 := fin_step2 (e := e) (al := al) hn hne
    have hpm := (pick_mem (e := e) (al := al) hne).2
    rw [fin, List.mem_cons, ih (by omega) h1.2.2, without, List.mem_filter]
    by_cases hx : x = pick e al left
    · simp [hx, hpm]
    · simp [hx]
theorem fin_len {e : List (List Int)} {al : List Int} : ∀ (m : Nat) (left : List Int), (fin e al m left).length = m
  | 0, _ => rfl
  | m + 1, left => by rw [fin, List.length_cons, fin_len m]
set_option maxRecDepth 100000 in
set_option maxHeartbeats 4000000 in
theorem next_ok {H0 : AHeap} (e : List (List Int)) (vE : Value) (hE : Sl2Z intv (Rd H0) vE e) (hr : Sized e) (al : List Int) (vK : Value) (hK : Sl intv H0 vK al) (hk : al.length ≤ 1000000) (left : List Int) (vF : Value) (hF_ : Sl intv H0 vF left) (hlf : left.length ≤ 1000000) (k : Int) (hkm : k ∈ al) (hs : ∀ x ∈ left, x ∈ al) (hsv : ∀ x ∈ al, Valid e x) : ACalls Try.prog 21 [vE, vK, vF, .int .i64 k] H0 (Rets (.bool (ok' e al left k)) H0) := by
  have hF : Wd Fence.wide := .inl rfl
  have hM : Try.prog.follows .mixedOrders = true := by kernel_rfl
  have s0 := St.begin H0
  refine acalls_st Try.func21 rfl Try.ntmps21 rfl ?_
  refine awp_seq ?_
  refine awp_regs hF ?_
  refine dv (gyes_none rfl) (q_as (v := .bool false) rfl) rfl (by decide) (cok1 (cconst rfl)) ?_
  refine ⟨_, Wk.refl _ _, ?_⟩
  show awp _ _ _ _ _ _ _
  refine awp_seq ?_
  refine awp_seq ?_
  refine awp_regs hF ?_
  refine dv (gyes_none rfl) (q_as (v := .int .i64 0) rfl) rfl (by decide) (cok1 (cconst rfl)) ?_
  refine ⟨_, Wk.refl _ _, ?_⟩
  show awp _ _ _ _ _ _ _
  refine awp_block ?_
  refine awp_wk (Wk.U [(0, vE), (1, vK), (2, vF), (3, .int .i64 k), (9, .int .i64 0)] ⟨rfl, rfl, rfl, rfl, rfl, trivial⟩) ?_
  refine awp_loop (fun (i : Nat) st => ∃ (H1 : AHeap), st = ⟨43, U [(0, vE), (1, vK), (2, vF), (3, .int .i64 k), (9, .int .i64 ((i : Nat) : Int))], [], H1⟩ ∧ St H0 (none0) (Rd H0) H1 [] ∧ ((left.take i).all (nx e al k) = true)) (fun (i : Nat) => left.length - i) (x0 := (0)) ?h0 ?round
  case h0 =>
    exact ⟨_, rfl, s0, by simp⟩
  case round =>
    rintro i _ ⟨H1, rfl, s2, ha⟩
    refine awp_seq ?_
    refine awp_seq ?_
    refine awp_regs hF ?_
    refine dv (gyes_none rfl) (q_mv (v := .int .i64 ((i : Nat) : Int)) rfl) rfl (by decide) (cok1 trivial) ?_
    refine dv (gyes_none rfl) (q_mv (v := vF) rfl) rfl (by decide) (cok1 trivial) ?_
    refine dv (gyes_none rfl) (q_len_sl (l := left) Try.underlying23 (s2.sl hF_) rfl) rfl (by decide) (cok1 trivial) ?_
    refine dvb (gyes_none rfl) (q_int rfl rfl rfl) rfl (by decide) (cok2 trivial trivial) (fun c1 => ?_) (fun c1 => ?_)
    ·
      replace c1 := of_decide_eq_true c1
      refine ⟨_, Wk.refl _ _, ?_⟩
      show awp _ _ _ _ _ _ _
      refine awp_cond_t rfl ?_
      refine awp_skip_wk ?_
      refine ⟨_, Wk.refl _ _, ?_⟩
      show awp _ _ _ _ _ _ _
      refine awp_seq ?_
      refine awp_block ?_
      refine awp_seq ?_
      refine awp_regs hF ?_
      refine dv (gyes_none rfl) (q_mv (v := vF) rfl) rfl (by decide) (cok1 trivial) ?_
      refine dv (gyes_none rfl) (q_mv (v := .int .i64 ((i : Nat) : Int)) rfl) rfl (by decide) (cok1 trivial) ?_
      refine dv (gyes_none rfl) (q_index_sl (l := left) (i := i) Try.underlying23 Try.sizeOf3 (s2.sl hF_) rfl rfl (by omega)) rfl (by decide) (cok2 trivial trivial) ?_
      refine dv (gyes_none rfl) (q_load_sl (l := left) (i := i) Try.isAgg3 (s2.sl hF_) rfl (by omega)) rfl (by decide) (cok1 trivial) ?_
      refine dv (gyes_none rfl) (q_mv (v := .int .i64 k) rfl) rfl (by decide) (cok1 trivial) ?_
      refine dvb (gyes_none rfl) (q_int rfl rfl rfl) rfl (by decide) (cok2 trivial trivial) (fun c2 => ?_) (fun c2 => ?_)
      ·
        replace c2 := bne_iff_ne.1 c2
        refine dv (gyes_none rfl) (q_mv (v := .bool true) rfl) rfl (by decide) (cok1 trivial) ?_
        refine dv (gyes_some rfl rfl) (q_mv (v := vE) rfl) rfl (by decide) (cok1 trivial) ?_
        refine dv (gyes_some rfl rfl) (q_mv (v := vK) rfl) rfl (by decide) (cok1 trivial) ?_
        refine dv (gyes_some rfl rfl) (q_mv (v := .int .i64 k) rfl) rfl (by decide) (cok1 trivial) ?_
        refine dv (gyes_some rfl rfl) (q_mv (v := vF) rfl) rfl (by decide) (cok1 trivial) ?_
        refine dv (gyes_some rfl rfl) (q_mv (v := .int .i64 ((i : Nat) : Int)) rfl) rfl (by decide) (cok1 trivial) ?_
        refine dv (gyes_some rfl rfl) (q_index_sl (l := left) (i := i) Try.underlying23 Try.sizeOf3 (s2.sl hF_) rfl rfl (by omega)) rfl (by decide) (cok2 trivial trivial) ?_
        refine dv (gyes_some rfl rfl) (q_load_sl (l := left) (i := i) Try.isAgg3 (s2.sl hF_) rfl (by omega)) rfl (by decide) (cok1 trivial) ?_
        refine dvb (gyes_some rfl rfl) (q_call0 Try.call27 rfl (rbelow2_ok e _ (hE.of s2) hr al _ (s2.sl hK) hk k (nth left i) hkm (hsv _ (hs _ (nthI_mem (by omega)))) hsv)) rfl (by decide) (call_ok rfl) (fun c3 => ?_) (fun c3 => ?_)
        ·
          refine dv (gyes_none rfl) (q_pt (v := .bool true) rfl rfl) rfl (by decide) (call_ok rfl) ?_
          refine dv (gyes_none rfl) (q_mv (v := .bool true) rfl) rfl (by decide) (cok1 trivial) ?_
          refine dv (gyes_some rfl rfl) (q_mv (v := vE) rfl) rfl (by decide) (cok1 trivial) ?_
          refine dv (gyes_some rfl rfl) (q_mv (v := vK) rfl) rfl (by decide) (cok1 trivial) ?_
          refine dv (gyes_some rfl rfl) (q_mv (v := vF) rfl) rfl (by decide) (cok1 trivial) ?_
          refine dv (gyes_some rfl rfl) (q_mv (v := .int .i64 ((i : Nat) : Int)) rfl) rfl (by decide) (cok1 trivial) ?_
          refine dv (gyes_some rfl rfl) (q_index_sl (l := left) (i := i) Try.underlying23 Try.sizeOf3 (s2.sl hF_) rfl rfl (by omega)) rfl (by decide) (cok2 trivial trivial) ?_
          refine dv (gyes_some rfl rfl) (q_load_sl (l := left) (i := i) Try.isAgg3 (s2.sl hF_) rfl (by omega)) rfl (by decide) (cok1 trivial) ?_
          refine dv (gyes_some rfl rfl) (q_mv (v := .int .i64 k) rfl) rfl (by decide) (cok1 trivial) ?_
          refine dvb (gyes_some rfl rfl) (q_call0 Try.call27 rfl (rbelow2_ok e _ (hE.of s2) hr al _ (s2.sl hK) hk (nth left i) k (hs _ (nthI_mem (by omega))) (hsv _ hkm) hsv)) rfl (by decide) (call_ok rfl) (fun c4 => ?_) (fun c4 => ?_)
          ·
            refine dv (gyes_some rfl rfl) (q_not (b := true) rfl) rfl (by decide) (cok1 trivial) ?_
            refine dv (gyes_none rfl) (q_pt (v := .bool false) rfl rfl) rfl (by decide) (call_ok rfl) ?_
            refine ⟨_, Wk.refl _ _, ?_⟩
            show awp _ _ _ _ _ _ _
            refine awp_cond_f rfl ?_
            refine awp_skip_wk ?_
            refine ⟨_, Wk.refl _ _, ?_⟩
            show awp _ _ _ _ _ _ _
            refine awp_regs hF ?_
            refine dv (gyes_none rfl) (q_mv (v := .int .i64 ((i : Nat) : Int)) rfl) rfl (by decide) (cok1 trivial) ?_
            refine dv (gyes_none rfl) (OpQ.cast (v' := .int .i64 ((i + 1 : Nat) : Int)) (q_int rfl rfl rfl) (congrArg _ ((i64_in (by omega)).trans (by first | rfl | omega | (push_cast; rfl))))) rfl (by decide) (cok2 trivial (cconst rfl)) ?_
            refine dv (gyes_none rfl) (q_as (v := .int .i64 ((i + 1 : Nat) : Int)) rfl) rfl (by decide) (cok1 trivial) ?_
            refine ⟨_, Wk.U [(0, vE), (1, vK), (2, vF), (3, .int .i64 k), (9, .int .i64 (((i + 1) : Nat) : Int))] ⟨rfl, rfl, rfl, rfl, rfl, trivial⟩, (i + 1), ⟨_, rfl, s2, all_take (by omega) ha (nx_t (by first | exact .inl (by assumption) | exact .inr (.inl (by assumption)) | exact .inr (.inr (by assumption))))⟩, (by omega)⟩
          ·
            refine dv (gyes_some rfl rfl) (q_not (b := false) rfl) rfl (by decide) (cok1 trivial) ?_
            refine dv (gyes_none rfl) (q_pt (v := .bool true) rfl rfl) rfl (by decide) (call_ok rfl) ?_
            refine ⟨_, Wk.refl _ _, ?_⟩
            show awp _ _ _ _ _ _ _
            refine awp_cond_t rfl ?_
            refine awp_seq ?_
            refine awp_regs hF ?_
            refine dv (gyes_none rfl) (q_as (v := .bool false) rfl) rfl (by decide) (cok1 (cconst rfl)) ?_
            refine ⟨_, Wk.refl _ _, ?_⟩
            show awp _ _ _ _ _ _ _
            refine awp_ret_wk ?_
            refine ⟨_, Wk.refl _ _, ?_⟩
            repeat (with_reducible first | refine then_ret ?_ | refine blk_ret ?_ | refine then_exit ?_ | refine blk_exit ?_ | refine blk_exit' (by decide) ?_ | refine blk_normal ?_ | refine then_normal ?_ | refine retq_ret ?_ | refine retq_normal ?_ | refine ng_normal ?_ | refine ng_ret ?_ | refine ng_exit ?_)
            exact ret_none (v := .bool false) rfl s2.kp (.tmp rfl .nil) rfl rfl ⟨congrArg _ (all_no (i := i) (by omega) (nx_f (by assumption) (by assumption) (by assumption))).symm, rfl⟩
        ·
          refine dv (gyes_none rfl) (q_pt (v := .bool false) rfl rfl) rfl (by decide) (call_ok rfl) ?_
          refine dv (gyes_none rfl) (q_mv (v := .bool false) rfl) rfl (by decide) (cok1 trivial) ?_
          refine dno rfl (.inl rfl) rfl (by decide) ?_
          refine dno rfl (.inl rfl) rfl (by decide) ?_
          refine dno rfl (.inl rfl) rfl (by decide) ?_
          refine dno rfl (.inl rfl) rfl (by decide) ?_
          refine dno rfl (.inl rfl) rfl (by decide) ?_
          refine dno rfl (.inl rfl) rfl (by decide) ?_
          refine dno rfl (.inl rfl) rfl (by decide) ?_
          refine dno rfl (.inl rfl) rfl (by decide) ?_
          refine dno rfl (.inl rfl) rfl (by decide) ?_
          refine dv (gyes_none rfl) (q_pf (v := .bool false) rfl rfl) rfl (by decide) (call_ok rfl) ?_
          refine ⟨_, Wk.refl _ _, ?_⟩
          show awp _ _ _ _ _ _ _
          refine awp_cond_f rfl ?_
          refine awp_skip_wk ?_
          refine ⟨_, Wk.refl _ _, ?_⟩
          show awp _ _ _ _ _ _ _
          refine awp_regs hF ?_
          refine dv (gyes_none rfl) (q_mv (v := .int .i64 ((i : Nat) : Int)) rfl) rfl (by decide) (cok1 trivial) ?_
          refine dv (gyes_none rfl) (OpQ.cast (v' := .int .i64 ((i + 1 : Nat) : Int)) (q_int rfl rfl rfl) (congrArg _ ((i64_in (by omega)).trans (by first | rfl | omega | (push_cast; rfl))))) rfl (by decide) (cok2 trivial (cconst rfl)) ?_
          refine dv (gyes_none rfl) (q_as (v := .int .i64 ((i + 1 : Nat) : Int)) rfl) rfl (by decide) (cok1 trivial) ?_
          refine ⟨_, Wk.U [(0, vE), (1, vK), (2, vF), (3, .int .i64 k), (9, .int .i64 (((i + 1) : Nat) : Int))] ⟨rfl, rfl, rfl, rfl, rfl, trivial⟩, (i + 1), ⟨_, rfl, s2, all_take (by omega) ha (nx_t (by first | exact .inl (by assumption) | exact .inr (.inl (by assumption)) | exact .inr (.inr (by assumption))))⟩, (by omega)⟩
      ·
        replace c2 := bne_eq_false_iff_eq.1 c2
        refine dv (gyes_none rfl) (q_mv (v := .bool false) rfl) rfl (by decide) (cok1 trivial) ?_
        refine dno rfl (.inl rfl) rfl (by decide) ?_
        refine dno rfl (.inl rfl) rfl (by decide) ?_
        refine dno rfl (.inl rfl) rfl (by decide) ?_
        refine dno rfl (.inl rfl) rfl (by decide) ?_
        refine dno rfl (.inl rfl) rfl (by decide) ?_
        refine dno rfl (.inl rfl) rfl (by decide) ?_
        refine dno rfl (.inl rfl) rfl (by decide) ?_
        refine dno rfl (.inl rfl) rfl (by decide) ?_
        refine dv (gyes_none rfl) (q_pf (v := .bool false) rfl rfl) rfl (by decide) (call_ok rfl) ?_
        refine dv (gyes_none rfl) (q_mv (v := .bool false) rfl) rfl (by decide) (cok1 trivial) ?_
        refine dno rfl (.inl rfl) rfl (by decide) ?_
        refine dno rfl (.inl rfl) rfl (by decide) ?_
        refine dno rfl (.inl rfl) rfl (by decide) ?_
        refine dno rfl (.inl rfl) rfl (by decide) ?_
        refine dno rfl (.inl rfl) rfl (by decide) ?_
        refine dno rfl (.inl rfl) rfl (by decide) ?_
        refine dno rfl (.inl rfl) rfl (by decide) ?_
        refine dno rfl (.inl rfl) rfl (by decide) ?_
        refine dno rfl (.inl rfl) rfl (by decide) ?_
        refine dv (gyes_none rfl) (q_pf (v := .bool false) rfl rfl) rfl (by decide) (call_ok rfl) ?_
        refine ⟨_, Wk.refl _ _, ?_⟩
        show awp _ _ _ _ _ _ _
        refine awp_cond_f rfl ?_
        refine awp_skip_wk ?_
        refine ⟨_, Wk.refl _ _, ?_⟩
        show awp _ _ _ _ _ _ _
        refine awp_regs hF ?_
        refine dv (gyes_none rfl) (q_mv (v := .int .i64 ((i : Nat) : Int)) rfl) rfl (by decide) (cok1 trivial) ?_
        refine dv (gyes_none rfl) (OpQ.cast (v' := .int .i64 ((i + 1 : Nat) : Int)) (q_int rfl rfl rfl) (congrArg _ ((i64_in (by omega)).trans (by first | rfl | omega | (push_cast; rfl))))) rfl (by decide) (cok2 trivial (cconst rfl)) ?_
        refine dv (gyes_none rfl) (q_as (v := .int .i64 ((i + 1 : Nat) : Int)) rfl) rfl (by decide) (cok1 trivial) ?_
        refine ⟨_, Wk.U [(0, vE), (1, vK), (2, vF), (3, .int .i64 k), (9, .int .i64 (((i + 1) : Nat) : Int))] ⟨rfl, rfl, rfl, rfl, rfl, trivial⟩, (i + 1), ⟨_, rfl, s2, all_take (by omega) ha (nx_t (by first | exact .inl (by assumption) | exact .inr (.inl (by assumption)) | exact .inr (.inr (by assumption))))⟩, (by omega)⟩
    ·
      replace c1 := of_decide_eq_false c1
      refine ⟨_, Wk.refl _ _, ?_⟩
      show awp _ _ _ _ _ _ _
      refine awp_cond_f rfl ?_
      refine awp_exit_wk ?_
      refine ⟨_, Wk.refl _ _, ?_⟩
      show awp _ _ _ _ _ _ _
      refine awp_seq ?_
      refine awp_regs hF ?_
      refine dv (gyes_none rfl) (q_as (v := .bool true) rfl) rfl (by decide) (cok1 (cconst rfl)) ?_
      refine ⟨_, Wk.refl _ _, ?_⟩
      show awp _ _ _ _ _ _ _
      refine awp_ret_wk ?_
      refine ⟨_, Wk.refl _ _, ?_⟩
      repeat (with_reducible first | refine then_ret ?_ | refine blk_ret ?_ | refine then_exit ?_ | refine blk_exit ?_ | refine blk_exit' (by decide) ?_ | refine blk_normal ?_ | refine then_normal ?_ | refine retq_ret ?_ | refine retq_normal ?_ | refine ng_normal ?_ | refine ng_ret ?_ | refine ng_exit ?_)
      exact ret_none (v := .bool true) rfl s2.kp (.tmp rfl .nil) rfl rfl ⟨congrArg _ (all_end (by omega) ha).symm, rfl⟩

end Go.Proofs.YtbjlabokijchpaaA
