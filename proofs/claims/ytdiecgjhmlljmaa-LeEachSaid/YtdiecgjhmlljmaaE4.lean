/-
  Walks of functions of the given program, and what they compute.
-/
import Derived.Test.YtdiecgjhmlljmaaE3
import Derived.Test.YtdiecgjhmlljmaaPAllx3
import Derived.Test.YtdiecgjhmlljmaaA18
import Derived.Test.YtdiecgjhmlljmaaProg
import Derived.KernelRfl
namespace Go.Proofs.YtdiecgjhmlljmaaA
set_option linter.unusedVariables false
open Go Go.RowKit Go.Shelf Go.Proofs

theorem stop_def {s : ByteArray} {z : Nat} {stop : Int} (h : ¬ ((z : Nat) : Int) < 1) : stopAt s z stop = if 1 ≤ stop ∧ stop < ((s.size / z : Nat) : Int) then stop.toNat else s.size / z := by
  unfold stopAt; rw [eachN_nat h]
theorem stop_le {s : ByteArray} {z : Nat} {stop : Int} (h : ¬ ((z : Nat) : Int) < 1) : stopAt s z stop ≤ s.size / z := by
  rw [stop_def h]; split <;> omega
theorem div_min {n z : Nat} : n / min z (n + 1) = n / z := by
  by_cases h : z ≤ n + 1
  · rw [Nat.min_eq_left h]
  · rw [Nat.min_eq_right (by omega), Nat.div_eq_of_lt (by omega), Nat.div_eq_of_lt (by omega)]
theorem stop_min {s : ByteArray} {z : Nat} {stop : Int} (h : ¬ ((z : Nat) : Int) < 1) : stopAt s z stop * min z (s.size + 1) = stopAt s z stop * z := by
  by_cases h1 : z ≤ s.size + 1
  · rw [Nat.min_eq_left h1]
  · have : stopAt s z stop = 0 := by
      have := stop_le (s := s) (stop := stop) h
      rw [Nat.div_eq_of_lt (by omega)] at this
      omega
    rw [this, Nat.zero_mul, Nat.zero_mul]
theorem stop_in {s : ByteArray} {z : Nat} {stop : Int} (h : ¬ ((z : Nat) : Int) < 1) : stopAt s z stop * min z (s.size + 1) ≤ s.size := by
  rw [stop_min h]
  exact Nat.le_trans (Nat.mul_le_mul_right z (stop_le h)) (Nat.div_mul_le_self _ _)
theorem speaks_a (H : AHeap) : ACalls Try.prog 8 [] H (Rets (.bool true) H) :=
  acalls_of_world rfl rfl (fun w => Go.Proofs.Ytdiecgjhmlljmaa.PAll.turnbucklelaw01_speaks.calls 20 true w (by decide +kernel)) H
set_option maxRecDepth 100000 in
set_option maxHeartbeats 2000000 in
theorem leEach_ok {H0 : AHeap} {n0 : Nat} (h0 : H0.length = n0) (s0 : ByteArray) (size stop : Int) (hsz : size ≤ 9223372036854775807) : ACalls Try.prog 7 [.string s0, .int .i64 size, .int .i64 stop] H0 (Rets (.bool true) H0) := by
  have hF : Wd Fence.wide := .inl rfl
  have hM : Try.prog.follows .mixedOrders = true := by kernel_rfl
  refine acalls_begin Try.func7 rfl Try.ntmps7 rfl ?_
  refine awp_seq ?_
  refine awp_reg hF ?_
  refine sn hF (gyes_none rfl) (q_boxN 1 (loc_len h0 rfl) (by conv => lhs; whnf) (by exact trivial) rfl) rfl (by decide) (cok1 trivial) (List.append_assoc _ _ _) ?_
  refine sn hF (gyes_none rfl) (q_boxN 1 (loc_len h0 rfl) (by conv => lhs; whnf) (by exact trivial) rfl) rfl (by decide) (cok1 trivial) (List.append_assoc _ _ _) ?_
  refine sv hF (gyes_none rfl) (q_as (by conv => lhs; whnf)) rfl (by decide) (cok1 (cconst rfl)) ?_
  refine ⟨_, Wk.refl _ _, ?_⟩
  show awp _ _ _ _ _ _ _
  refine awp_seq ?_
  refine awp_seq ?_
  refine awp_reg hF ?_
  refine sv hF (gyes_none rfl) (q_call0 Try.call8 rfl (speaks_a _)) rfl (by decide) (cok1 trivial) ?_
  refine sv hF (gyes_none rfl) (q_not rfl) rfl (by decide) (cok1 trivial) ?_
  refine ⟨_, Wk.refl _ _, ?_⟩
  show awp _ _ _ _ _ _ _
  refine awp_cond_f rfl ?_
  refine awp_skip_wk ?_
  refine ⟨_, Wk.refl _ _, ?_⟩
  show awp _ _ _ _ _ _ _
  refine awp_seq ?_
  refine awp_reg hF ?_
  refine sv hF (gyes_none rfl) (q_mv (by conv => lhs; whnf)) rfl (by decide) (cok1 trivial) ?_
  refine sv hF (gyes_none rfl) (q_mv (by conv => lhs; whnf)) rfl (by decide) (cok1 trivial) ?_
  refine sv hF (gyes_none rfl) (q_len_str Try.underlying9 rfl) rfl (by decide) (cok1 trivial) ?_
  refine sv hF (gyes_none rfl) (OpQ.cast (v' := .int .i64 ((min s0.size 300 : Nat) : Int)) (q_min rfl rfl) (by congr 1; split <;> omega)) rfl (by decide) (call_ok rfl) ?_
  refine sv hF (gyes_none rfl) (q_substr Try.underlying9 rfl rfl ⟨_, rfl⟩ (Nat.zero_le _) (Nat.min_le_left _ _)) rfl (by decide) (call_ok rfl) ?_
  obtain ⟨s, hS⟩ : ∃ s, s = s0.extract 0 (min s0.size 300) := ⟨_, rfl⟩
  have hs3 : s.size ≤ 300 := by rw [hS, ext_size]; omega
  rw [← hS]
  refine sv hF (gyes_none rfl) (q_as (by conv => lhs; whnf)) rfl (by decide) (cok1 trivial) ?_
  refine ⟨_, Wk.refl _ _, ?_⟩
  show awp _ _ _ _ _ _ _
  refine awp_seq ?_
  refine awp_reg hF ?_
  refine sn hF (gyes_none rfl) (q_allocN 1 (loc_len h0 rfl) Try.zeroValue9 (by first | exact flat_scalar rfl | exact flat_agg rfl) rfl) rfl (by decide) (by simp [Op.operands, Call.operands]) (List.append_assoc _ _ _) ?_
  refine sn hF (gyes_none rfl) (q_allocN 1 (loc_len h0 rfl) Try.zeroValue3 (by first | exact flat_scalar rfl | exact flat_agg rfl) rfl) rfl (by decide) (by simp [Op.operands, Call.operands]) (List.append_assoc _ _ _) ?_
  refine se_store1 hF (gyes_none rfl) rfl Try.sizeOf9 rfl (by conv => lhs; whnf) (by first | exact loc_get h0 rfl | exact frm_get (by assumption)) (by first | exact lc_scalar rfl | exact lc_slice (by first | exact loc_rd h0 rfl | exact frm_rd (by assumption) | exact frm_rd' (by assumption) | assumption).live | exact lc_ptr (by first | exact loc_rd h0 rfl | exact frm_rd (by assumption) | exact frm_rd' (by assumption) | assumption).live) (by first | (simp; done) | exact Nat.le_of_ble_eq_true rfl) trivial (cconst rfl) (by first | exact loc_set h0 _ | exact frm_set _ (by assumption) _) ?_
  refine se_store1 hF (gyes_none rfl) rfl Try.sizeOf3 rfl (by conv => lhs; whnf) (by first | exact loc_get h0 rfl | exact frm_get (by assumption)) (by first | exact lc_scalar rfl | exact lc_slice (by first | exact loc_rd h0 rfl | exact frm_rd (by assumption) | exact frm_rd' (by assumption) | assumption).live | exact lc_ptr (by first | exact loc_rd h0 rfl | exact frm_rd (by assumption) | exact frm_rd' (by assumption) | assumption).live) (by first | (simp; done) | exact Nat.le_of_ble_eq_true rfl) trivial (cconst rfl) (by first | exact loc_set h0 _ | exact frm_set _ (by assumption) _) ?_
  refine ⟨_, Wk.refl _ _, ?_⟩
  show awp _ _ _ _ _ _ _
  refine awp_seq ?_
  refine awp_reg hF ?_
  refine sn hF (gyes_none rfl) (q_allocN 1 (loc_len h0 rfl) Try.zeroValue4 (by first | exact flat_scalar rfl | exact flat_agg rfl) rfl) rfl (by decide) (by simp [Op.operands, Call.operands]) (List.append_assoc _ _ _) ?_
  refine se_store1 hF (gyes_none rfl) rfl Try.sizeOf4 rfl (by conv => lhs; whnf) (by first | exact loc_get h0 rfl | exact frm_get (by assumption)) (by first | exact lc_scalar rfl | exact lc_slice (by first | exact loc_rd h0 rfl | exact frm_rd (by assumption) | exact frm_rd' (by assumption) | assumption).live | exact lc_ptr (by first | exact loc_rd h0 rfl | exact frm_rd (by assumption) | exact frm_rd' (by assumption) | assumption).live) (by first | (simp; done) | exact Nat.le_of_ble_eq_true rfl) trivial (cconst rfl) (by first | exact loc_set h0 _ | exact frm_set _ (by assumption) _) ?_
  refine ⟨_, Wk.refl _ _, ?_⟩
  show awp _ _ _ _ _ _ _
  refine awp_seq ?_
  refine awp_reg hF ?_
  refine sv hF (gyes_none rfl) (q_mv (by conv => lhs; whnf)) rfl (by decide) (cok1 trivial) ?_
  refine sv hF (gyes_none rfl) (q_load Try.isAgg3 rfl (by first | exact loc_rd h0 rfl | exact frm_rd (by assumption) | exact frm_rd' (by assumption) | assumption) rfl) rfl (by decide) (cok1 trivial) ?_
  refine sn hF (gyes_none rfl) (q_call Try.call21 rfl (by simp [AObj.wr]) (each_ok (b0 := n0 + 5) (b1 := n0 + 6) (loc_len h0 rfl) s size rfl rfl)) rfl (by decide) (call_ok rfl) (List.append_assoc _ _ _) ?_
  refine sv hF (gyes_none rfl) (q_makeFuncL [_, _, _, _, _] ⟨(by conv => lhs; whnf), (by conv => lhs; whnf), (by conv => lhs; whnf), (by conv => lhs; whnf), (by conv => lhs; whnf), trivial⟩) rfl (by decide) (call_ok rfl) ?_
  refine se_callv hF (gyes_none rfl) Try.call25 rfl rfl (each_run h0 s hs3 size stop hsz) (by first | exact trivial | (show _ < _; decide)) (call_ok rfl) ?_
  rintro v H' ⟨rfl, rfl⟩
  refine ⟨_, Wk.refl _ _, ?_⟩
  show awp _ _ _ _ _ _ _
  refine awp_seq ?_
  refine awp_seq ?_
  refine awp_reg hF ?_
  refine sv hF (gyes_none rfl) (q_load Try.isAgg3 rfl (by first | exact loc_rd h0 rfl | exact frm_rd (by assumption) | exact frm_rd' (by assumption) | assumption) rfl) rfl (by decide) (cok1 trivial) ?_
  refine svb hF (gyes_none rfl) (q_int rfl rfl rfl) rfl (by decide) (cok2 trivial (cconst rfl)) (fun c1 => ?_) (fun c1 => ?_)
  ·
    try simp only [decide_eq_true_eq, decide_eq_false_iff_not, beq_iff_eq, beq_eq_false_iff_ne, Bool.not_eq_true', Bool.not_eq_false'] at c1
    refine ⟨_, Wk.refl _ _, ?_⟩
    show awp _ _ _ _ _ _ _
    refine awp_cond_t rfl ?_
    refine awp_seq ?_
    refine awp_reg hF ?_
    refine sv hF (gyes_none rfl) (q_load Try.isAgg3 rfl (by first | exact loc_rd h0 rfl | exact frm_rd (by assumption) | exact frm_rd' (by assumption) | assumption) rfl) rfl (by decide) (cok1 trivial) ?_
    refine sv hF (gyes_none rfl) (q_int rfl rfl rfl) rfl (by decide) (cok2 trivial (cconst rfl)) ?_
    refine sv hF (gyes_none rfl) (q_as (by conv => lhs; whnf)) rfl (by decide) (cok1 trivial) ?_
    refine ⟨_, Wk.refl _ _, ?_⟩
    show awp _ _ _ _ _ _ _
    refine awp_ret_wk ?_
    refine ⟨_, Wk.refl _ _, ?_⟩
    repeat (with_reducible first | refine then_ret ?_ | refine blk_ret ?_ | refine then_exit ?_ | refine blk_exit ?_ | refine blk_exit' (by decide) ?_ | refine blk_normal ?_ | refine then_normal ?_ | refine retq_ret ?_ | refine retq_normal ?_)
    refine ret_drop1 rfl (.tmp (by conv => lhs; whnf) .nil) rfl ⟨?_, rfl⟩
    first | rfl | (have e : stopAt s size stop = 0 := by unfold stopAt; rw [eachN_lt c1]; split <;> omega
                   rw [e]; rfl)
  ·
    try simp only [decide_eq_true_eq, decide_eq_false_iff_not, beq_iff_eq, beq_eq_false_iff_ne, Bool.not_eq_true', Bool.not_eq_false'] at c1
    obtain ⟨z, rfl⟩ := Int.eq_ofNat_of_zero_le (show 0 ≤ size by omega)
    refine ⟨_, Wk.refl _ _, ?_⟩
    show awp _ _ _ _ _ _ _
    refine awp_cond_f rfl ?_
    refine awp_skip_wk ?_
    refine ⟨_, Wk.refl _ _, ?_⟩
    show awp _ _ _ _ _ _ _
    refine awp_seq ?_
    refine awp_reg hF ?_
    refine sv hF (gyes_none rfl) (q_mv (by conv => lhs; whnf)) rfl (by decide) (cok1 trivial) ?_
    refine sv hF (gyes_none rfl) (q_len_str Try.underlying9 rfl) rfl (by decide) (cok1 trivial) ?_
    refine sv hF (gyes_none rfl) (q_load Try.isAgg3 rfl (by first | exact loc_rd h0 rfl | exact frm_rd (by assumption) | exact frm_rd' (by assumption) | assumption) rfl) rfl (by decide) (cok1 trivial) ?_
    refine sv hF (gyes_none rfl) (q_mv (by conv => lhs; whnf)) rfl (by decide) (cok1 trivial) ?_
    refine sv hF (gyes_none rfl) (q_len_str Try.underlying9 rfl) rfl (by decide) (cok1 trivial) ?_
    refine sv hF (gyes_none rfl) (by first | exact q_add64 rfl rfl (by omega) | exact q_int rfl rfl rfl) rfl (by decide) (cok2 trivial (cconst rfl)) ?_
    refine sv hF (gyes_none rfl) (OpQ.cast (v' := .int .i64 ((min z (s.size + 1) : Nat) : Int)) (q_min rfl rfl) (by congr 1; split <;> omega)) rfl (by decide) (call_ok rfl) ?_
    refine sv hF (gyes_none rfl) (OpQ.cast (v' := .int .i64 ((s.size / z : Nat) : Int)) (q_quoN rfl rfl (by omega) (by omega) (quo_in (by omega))) (congrArg (fun n : Nat => Value.int .i64 (n : Int)) div_min)) rfl (by decide) (call_ok rfl) ?_
    refine sv hF (gyes_none rfl) (q_as (by conv => lhs; whnf)) rfl (by decide) (cok1 trivial) ?_
    refine ⟨_, Wk.refl _ _, ?_⟩
    show awp _ _ _ _ _ _ _
    refine awp_seq ?_
    refine awp_seq ?_
    refine awp_reg hF ?_
    refine sv hF (gyes_none rfl) (q_load Try.isAgg3 rfl (by first | exact loc_rd h0 rfl | exact frm_rd (by assumption) | exact frm_rd' (by assumption) | assumption) rfl) rfl (by decide) (cok1 trivial) ?_
    refine svb hF (gyes_none rfl) (q_int rfl rfl rfl) rfl (by decide) (cok2 trivial (cconst rfl)) (fun c2 => ?_) (fun c2 => ?_)
    ·
      try simp only [decide_eq_true_eq, decide_eq_false_iff_not, beq_iff_eq, beq_eq_false_iff_ne, Bool.not_eq_true', Bool.not_eq_false'] at c2
      refine sv hF (gyes_none rfl) (q_mv (by conv => lhs; whnf)) rfl (by decide) (cok1 trivial) ?_
      refine sv hF (gyes_some rfl rfl) (q_load Try.isAgg3 rfl (by first | exact loc_rd h0 rfl | exact frm_rd (by assumption) | exact frm_rd' (by assumption) | assumption) rfl) rfl (by decide) (cok1 trivial) ?_
      refine sv hF (gyes_some rfl rfl) (q_mv (by conv => lhs; whnf)) rfl (by decide) (cok1 trivial) ?_
      refine svb hF (gyes_some rfl rfl) (q_int rfl rfl rfl) rfl (by decide) (cok2 trivial trivial) (fun c3 => ?_) (fun c3 => ?_)
      ·
        try simp only [decide_eq_true_eq, decide_eq_false_iff_not, beq_iff_eq, beq_eq_false_iff_ne, Bool.not_eq_true', Bool.not_eq_false'] at c3
        refine sv hF (gyes_none rfl) (q_pt rfl (by conv => lhs; whnf)) rfl (by decide) (call_ok rfl) ?_
        refine ⟨_, Wk.refl _ _, ?_⟩
        show awp _ _ _ _ _ _ _
        refine awp_cond_t rfl ?_
        refine awp_reg hF ?_
        refine sv hF (gyes_none rfl) (q_load Try.isAgg3 rfl (by first | exact loc_rd h0 rfl | exact frm_rd (by assumption) | exact frm_rd' (by assumption) | assumption) rfl) rfl (by decide) (cok1 trivial) ?_
        refine sv hF (gyes_none rfl) (q_as (by conv => lhs; whnf)) rfl (by decide) (cok1 trivial) ?_
        refine ⟨_, Wk.refl _ _, ?_⟩
        show awp _ _ _ _ _ _ _
        refine awp_seq ?_
        refine awp_regt hF hM (by kernel_rfl) (by kernel_rfl) ?_
        refine dv (gyes_none rfl) (q_load Try.isAgg4 rfl (loc_rd h0 rfl) rfl) rfl (by decide) (call_ok rfl) ?_
        refine dv (gyes_none rfl) (q_mv (by conv => lhs; whnf)) rfl (by decide) (cok1 trivial) ?_
        refine dv (gyes_some rfl rfl) (q_load Try.isAgg3 rfl (by first | exact loc_rd h0 rfl | exact frm_rd (by assumption) | exact frm_rd' (by assumption) | assumption) rfl) rfl (by decide) (cok1 trivial) ?_
        refine dv (gyes_some rfl rfl) (OpQ.cast (v' := .int .i64 ((stopAt s z stop : Nat) : Int)) (q_mv (by conv => lhs; whnf)) (by first | rfl | (congr 1; rw [stop_def c1]; split <;> omega))) rfl (by decide) (call_ok rfl) ?_
        refine dv (gyes_some rfl rfl) (OpQ.cast (v' := .bool true) (q_int rfl rfl rfl) (by simp)) rfl (by decide) (call_ok rfl) ?_
        refine dv (gyes_none rfl) (q_pt rfl (by conv => lhs; whnf)) rfl (by decide) (call_ok rfl) ?_
        refine dv (gyes_none rfl) (q_mv (by conv => lhs; whnf)) rfl (by decide) (cok1 trivial) ?_
        refine dv (gyes_some rfl rfl) (q_load Try.isAgg9 rfl (by first | exact loc_rd h0 rfl | exact frm_rd (by assumption) | exact frm_rd' (by assumption) | assumption) rfl) rfl (by decide) (cok1 trivial) ?_
        refine dv (gyes_some rfl rfl) (q_mv (by conv => lhs; whnf)) rfl (by decide) (cok1 trivial) ?_
        refine dv (gyes_some rfl rfl) (OpQ.cast (v' := .int .i64 ((stopAt s z stop : Nat) : Int)) (q_mv (by conv => lhs; whnf)) (by first | rfl | (congr 1; rw [stop_def c1]; split <;> omega))) rfl (by decide) (call_ok rfl) ?_
        refine dv (gyes_some rfl rfl) (q_load Try.isAgg3 rfl (by first | exact loc_rd h0 rfl | exact frm_rd (by assumption) | exact frm_rd' (by assumption) | assumption) rfl) rfl (by decide) (cok1 trivial) ?_
        refine dv (gyes_some rfl rfl) (q_mv (by conv => lhs; whnf)) rfl (by decide) (cok1 trivial) ?_
        refine dv (gyes_some rfl rfl) (q_len_str Try.underlying9 rfl) rfl (by decide) (cok1 trivial) ?_
        refine dv (gyes_some rfl rfl) (by first | exact q_add64 rfl rfl (by omega) | exact q_int rfl rfl rfl) rfl (by decide) (cok2 trivial (cconst rfl)) ?_
        refine dv (gyes_some rfl rfl) (OpQ.cast (v' := .int .i64 ((min z (s.size + 1) : Nat) : Int)) (q_min rfl rfl) (by congr 1; split <;> omega)) rfl (by decide) (call_ok rfl) ?_
        refine dv (gyes_some rfl rfl) (OpQ.cast (v' := .int .i64 ((stopAt s z stop * min z (s.size + 1) : Nat) : Int)) (q_mul64 rfl rfl (by rw [← Int.natCast_mul]; have := stop_in (s := s) (stop := stop) c1; omega)) (by rw [Int.natCast_mul])) rfl (by decide) (call_ok rfl) ?_
        refine dv (gyes_some rfl rfl) (q_substr Try.underlying9 rfl rfl ⟨_, rfl⟩ (Nat.zero_le _) (stop_in c1)) rfl (by decide) (call_ok rfl) ?_
        refine dv (gyes_some rfl rfl) (OpQ.cast (v' := .bool true) (q_streq rfl rfl) (by rw [stop_min c1]; simp)) rfl (by decide) (call_ok rfl) ?_
        refine dv (gyes_none rfl) (q_pt rfl (by conv => lhs; whnf)) rfl (by decide) (call_ok rfl) ?_
        refine dv (gyes_none rfl) (q_as (by conv => lhs; whnf)) rfl (by decide) (cok1 trivial) ?_
        refine ⟨_, Wk.refl _ _, ?_⟩
        show awp _ _ _ _ _ _ _
        refine awp_ret_wk ?_
        refine ⟨_, Wk.refl _ _, ?_⟩
        repeat (with_reducible first | refine then_ret ?_ | refine blk_ret ?_ | refine then_exit ?_ | refine blk_exit ?_ | refine blk_exit' (by decide) ?_ | refine blk_normal ?_ | refine then_normal ?_ | refine retq_ret ?_ | refine retq_normal ?_)
        refine ret_drop1 rfl (.tmp (by conv => lhs; whnf) .nil) rfl ⟨?_, rfl⟩
        first | rfl | (have e : stopAt s size stop = 0 := by unfold stopAt; rw [eachN_lt c1]; split <;> omega
                       rw [e]; rfl)
      ·
        try simp only [decide_eq_true_eq, decide_eq_false_iff_not, beq_iff_eq, beq_eq_false_iff_ne, Bool.not_eq_true', Bool.not_eq_false'] at c3
        refine sv hF (gyes_none rfl) (q_pt rfl (by conv => lhs; whnf)) rfl (by decide) (call_ok rfl) ?_
        refine ⟨_, Wk.refl _ _, ?_⟩
        show awp _ _ _ _ _ _ _
        refine awp_cond_f rfl ?_
        refine awp_skip_wk ?_
        refine ⟨_, Wk.refl _ _, ?_⟩
        show awp _ _ _ _ _ _ _
        refine awp_seq ?_
        refine awp_regt hF hM (by kernel_rfl) (by kernel_rfl) ?_
        refine dv (gyes_none rfl) (q_load Try.isAgg4 rfl (loc_rd h0 rfl) rfl) rfl (by decide) (call_ok rfl) ?_
        refine dv (gyes_none rfl) (q_mv (by conv => lhs; whnf)) rfl (by decide) (cok1 trivial) ?_
        refine dv (gyes_some rfl rfl) (q_load Try.isAgg3 rfl (by first | exact loc_rd h0 rfl | exact frm_rd (by assumption) | exact frm_rd' (by assumption) | assumption) rfl) rfl (by decide) (cok1 trivial) ?_
        refine dv (gyes_some rfl rfl) (OpQ.cast (v' := .int .i64 ((stopAt s z stop : Nat) : Int)) (q_mv (by conv => lhs; whnf)) (by first | rfl | (congr 1; rw [stop_def c1]; split <;> omega))) rfl (by decide) (call_ok rfl) ?_
        refine dv (gyes_some rfl rfl) (OpQ.cast (v' := .bool true) (q_int rfl rfl rfl) (by simp)) rfl (by decide) (call_ok rfl) ?_
        refine dv (gyes_none rfl) (q_pt rfl (by conv => lhs; whnf)) rfl (by decide) (call_ok rfl) ?_
        refine dv (gyes_none rfl) (q_mv (by conv => lhs; whnf)) rfl (by decide) (cok1 trivial) ?_
        refine dv (gyes_some rfl rfl) (q_load Try.isAgg9 rfl (by first | exact loc_rd h0 rfl | exact frm_rd (by assumption) | exact frm_rd' (by assumption) | assumption) rfl) rfl (by decide) (cok1 trivial) ?_
        refine dv (gyes_some rfl rfl) (q_mv (by conv => lhs; whnf)) rfl (by decide) (cok1 trivial) ?_
        refine dv (gyes_some rfl rfl) (OpQ.cast (v' := .int .i64 ((stopAt s z stop : Nat) : Int)) (q_mv (by conv => lhs; whnf)) (by first | rfl | (congr 1; rw [stop_def c1]; split <;> omega))) rfl (by decide) (call_ok rfl) ?_
        refine dv (gyes_some rfl rfl) (q_load Try.isAgg3 rfl (by first | exact loc_rd h0 rfl | exact frm_rd (by assumption) | exact frm_rd' (by assumption) | assumption) rfl) rfl (by decide) (cok1 trivial) ?_
        refine dv (gyes_some rfl rfl) (q_mv (by conv => lhs; whnf)) rfl (by decide) (cok1 trivial) ?_
        refine dv (gyes_some rfl rfl) (q_len_str Try.underlying9 rfl) rfl (by decide) (cok1 trivial) ?_
        refine dv (gyes_some rfl rfl) (by first | exact q_add64 rfl rfl (by omega) | exact q_int rfl rfl rfl) rfl (by decide) (cok2 trivial (cconst rfl)) ?_
        refine dv (gyes_some rfl rfl) (OpQ.cast (v' := .int .i64 ((min z (s.size + 1) : Nat) : Int)) (q_min rfl rfl) (by congr 1; split <;> omega)) rfl (by decide) (call_ok rfl) ?_
        refine dv (gyes_some rfl rfl) (OpQ.cast (v' := .int .i64 ((stopAt s z stop * min z (s.size + 1) : Nat) : Int)) (q_mul64 rfl rfl (by rw [← Int.natCast_mul]; have := stop_in (s := s) (stop := stop) c1; omega)) (by rw [Int.natCast_mul])) rfl (by decide) (call_ok rfl) ?_
        refine dv (gyes_some rfl rfl) (q_substr Try.underlying9 rfl rfl ⟨_, rfl⟩ (Nat.zero_le _) (stop_in c1)) rfl (by decide) (call_ok rfl) ?_
        refine dv (gyes_some rfl rfl) (OpQ.cast (v' := .bool true) (q_streq rfl rfl) (by rw [stop_min c1]; simp)) rfl (by decide) (call_ok rfl) ?_
        refine dv (gyes_none rfl) (q_pt rfl (by conv => lhs; whnf)) rfl (by decide) (call_ok rfl) ?_
        refine dv (gyes_none rfl) (q_as (by conv => lhs; whnf)) rfl (by decide) (cok1 trivial) ?_
        refine ⟨_, Wk.refl _ _, ?_⟩
        show awp _ _ _ _ _ _ _
        refine awp_ret_wk ?_
        refine ⟨_, Wk.refl _ _, ?_⟩
        repeat (with_reducible first | refine then_ret ?_ | refine blk_ret ?_ | refine then_exit ?_ | refine blk_exit ?_ | refine blk_exit' (by decide) ?_ | refine blk_normal ?_ | refine then_normal ?_ | refine retq_ret ?_ | refine retq_normal ?_)
        refine ret_drop1 rfl (.tmp (by conv => lhs; whnf) .nil) rfl ⟨?_, rfl⟩
        first | rfl | (have e : stopAt s size stop = 0 := by unfold stopAt; rw [eachN_lt c1]; split <;> omega
                       rw [e]; rfl)
    ·
      try simp only [decide_eq_true_eq, decide_eq_false_iff_not, beq_iff_eq, beq_eq_false_iff_ne, Bool.not_eq_true', Bool.not_eq_false'] at c2
      refine sv hF (gyes_none rfl) (q_mv (by conv => lhs; whnf)) rfl (by decide) (cok1 trivial) ?_
      refine sno rfl (.inl rfl) rfl (by decide) ?_
      refine sno rfl (.inl rfl) rfl (by decide) ?_
      refine sno rfl (.inl rfl) rfl (by decide) ?_
      refine sv hF (gyes_none rfl) (q_pf rfl (by conv => lhs; whnf)) rfl (by decide) (call_ok rfl) ?_
      refine ⟨_, Wk.refl _ _, ?_⟩
      show awp _ _ _ _ _ _ _
      refine awp_cond_f rfl ?_
      refine awp_skip_wk ?_
      refine ⟨_, Wk.refl _ _, ?_⟩
      show awp _ _ _ _ _ _ _
      refine awp_seq ?_
      refine awp_regt hF hM (by kernel_rfl) (by kernel_rfl) ?_
      refine dv (gyes_none rfl) (q_load Try.isAgg4 rfl (loc_rd h0 rfl) rfl) rfl (by decide) (call_ok rfl) ?_
      refine dv (gyes_none rfl) (q_mv (by conv => lhs; whnf)) rfl (by decide) (cok1 trivial) ?_
      refine dv (gyes_some rfl rfl) (q_load Try.isAgg3 rfl (by first | exact loc_rd h0 rfl | exact frm_rd (by assumption) | exact frm_rd' (by assumption) | assumption) rfl) rfl (by decide) (cok1 trivial) ?_
      refine dv (gyes_some rfl rfl) (OpQ.cast (v' := .int .i64 ((stopAt s z stop : Nat) : Int)) (q_mv (by conv => lhs; whnf)) (by first | rfl | (congr 1; rw [stop_def c1]; split <;> omega))) rfl (by decide) (call_ok rfl) ?_
      refine dv (gyes_some rfl rfl) (OpQ.cast (v' := .bool true) (q_int rfl rfl rfl) (by simp)) rfl (by decide) (call_ok rfl) ?_
      refine dv (gyes_none rfl) (q_pt rfl (by conv => lhs; whnf)) rfl (by decide) (call_ok rfl) ?_
      refine dv (gyes_none rfl) (q_mv (by conv => lhs; whnf)) rfl (by decide) (cok1 trivial) ?_
      refine dv (gyes_some rfl rfl) (q_load Try.isAgg9 rfl (by first | exact loc_rd h0 rfl | exact frm_rd (by assumption) | exact frm_rd' (by assumption) | assumption) rfl) rfl (by decide) (cok1 trivial) ?_
      refine dv (gyes_some rfl rfl) (q_mv (by conv => lhs; whnf)) rfl (by decide) (cok1 trivial) ?_
      refine dv (gyes_some rfl rfl) (OpQ.cast (v' := .int .i64 ((stopAt s z stop : Nat) : Int)) (q_mv (by conv => lhs; whnf)) (by first | rfl | (congr 1; rw [stop_def c1]; split <;> omega))) rfl (by decide) (call_ok rfl) ?_
      refine dv (gyes_some rfl rfl) (q_load Try.isAgg3 rfl (by first | exact loc_rd h0 rfl | exact frm_rd (by assumption) | exact frm_rd' (by assumption) | assumption) rfl) rfl (by decide) (cok1 trivial) ?_
      refine dv (gyes_some rfl rfl) (q_mv (by conv => lhs; whnf)) rfl (by decide) (cok1 trivial) ?_
      refine dv (gyes_some rfl rfl) (q_len_str Try.underlying9 rfl) rfl (by decide) (cok1 trivial) ?_
      refine dv (gyes_some rfl rfl) (by first | exact q_add64 rfl rfl (by omega) | exact q_int rfl rfl rfl) rfl (by decide) (cok2 trivial (cconst rfl)) ?_
      refine dv (gyes_some rfl rfl) (OpQ.cast (v' := .int .i64 ((min z (s.size + 1) : Nat) : Int)) (q_min rfl rfl) (by congr 1; split <;> omega)) rfl (by decide) (call_ok rfl) ?_
      refine dv (gyes_some rfl rfl) (OpQ.cast (v' := .int .i64 ((stopAt s z stop * min z (s.size + 1) : Nat) : Int)) (q_mul64 rfl rfl (by rw [← Int.natCast_mul]; have := stop_in (s := s) (stop := stop) c1; omega)) (by rw [Int.natCast_mul])) rfl (by decide) (call_ok rfl) ?_
      refine dv (gyes_some rfl rfl) (q_substr Try.underlying9 rfl rfl ⟨_, rfl⟩ (Nat.zero_le _) (stop_in c1)) rfl (by decide) (call_ok rfl) ?_
      refine dv (gyes_some rfl rfl) (OpQ.cast (v' := .bool true) (q_streq rfl rfl) (by rw [stop_min c1]; simp)) rfl (by decide) (call_ok rfl) ?_
      refine dv (gyes_none rfl) (q_pt rfl (by conv => lhs; whnf)) rfl (by decide) (call_ok rfl) ?_
      refine dv (gyes_none rfl) (q_as (by conv => lhs; whnf)) rfl (by decide) (cok1 trivial) ?_
      refine ⟨_, Wk.refl _ _, ?_⟩
      show awp _ _ _ _ _ _ _
      refine awp_ret_wk ?_
      refine ⟨_, Wk.refl _ _, ?_⟩
      repeat (with_reducible first | refine then_ret ?_ | refine blk_ret ?_ | refine then_exit ?_ | refine blk_exit ?_ | refine blk_exit' (by decide) ?_ | refine blk_normal ?_ | refine then_normal ?_ | refine retq_ret ?_ | refine retq_normal ?_)
      refine ret_drop1 rfl (.tmp (by conv => lhs; whnf) .nil) rfl ⟨?_, rfl⟩
      first | rfl | (have e : stopAt s size stop = 0 := by unfold stopAt; rw [eachN_lt c1]; split <;> omega
                     rw [e]; rfl)

end Go.Proofs.YtdiecgjhmlljmaaA
