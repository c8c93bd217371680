/-
  Walks of functions of the given program, and what they compute.
-/
import Derived.Test.YtdiecgjhmlljmaaE1
import Derived.Test.YtdiecgjhmlljmaaA18
import Derived.Test.YtdiecgjhmlljmaaProg
import Derived.KernelRfl
namespace Go.Proofs.YtdiecgjhmlljmaaA
set_option linter.unusedVariables false
open Go Go.RowKit Go.Shelf Go.Proofs
set_option maxRecDepth 100000 in
set_option maxHeartbeats 2000000 in
theorem clos_ok {H0 : AHeap} {n0 : Nat} (h0 : H0.length = n0) (s got p : ByteArray) (size stop i n : Int) (rt : Bool) (hg : got.size + p.size ≤ 9223372036854775807) (hn : -9223372036854775808 ≤ n + 1 ∧ n + 1 ≤ 9223372036854775807) : ACalls Try.prog 22 [.int .i64 i, .string p, .pointer (some ⟨n0 + 4, 0, none⟩), .pointer (some ⟨n0 + 3, 0, none⟩), .pointer (some ⟨n0 + 0, 0, none⟩), .pointer (some ⟨n0 + 2, 0, none⟩), .pointer (some ⟨n0 + 1, 0, none⟩)] (H0 ++ [.cells true [.int .i64 size] 1, .cells true [.int .i64 stop] 1, .cells true [.string (got)] 1, .cells true [.int .i64 (n)] 1, .cells true [.bool (rt)] 1, .cells true [.string s] 1, .cells true [.int .i64 size] 1]) (Rets (.bool (n + 1 != stop)) (H0 ++ [.cells true [.int .i64 size] 1, .cells true [.int .i64 stop] 1, .cells true [.string (got ++ p)] 1, .cells true [.int .i64 (n + 1)] 1, .cells true [.bool (rt && i == n && (p.size : Int) == size)] 1, .cells true [.string s] 1, .cells true [.int .i64 size] 1])) := by
  have hF : Wd Fence.wide := .inl rfl
  have hM : Try.prog.follows .mixedOrders = true := by kernel_rfl
  refine acalls_of Try.func22 rfl Try.ntmps22 (Nat.le_of_ble_eq_true rfl) ?_
  refine awp_seq ?_
  refine awp_reg hF ?_
  refine sv hF (gyes_none rfl) (q_as (by conv => lhs; whnf)) rfl (by decide) (cok1 (cconst rfl)) ?_
  refine ⟨_, Wk.refl _ _, ?_⟩
  show awp _ _ _ _ _ _ _
  refine awp_seq ?_
  refine awp_reg hF ?_
  refine svb hF (gyes_none rfl) (q_load Try.isAgg4 rfl (by first | exact loc_rd h0 rfl | exact frm_rd (by assumption) | exact frm_rd' (by assumption) | assumption) rfl) rfl (by decide) (cok1 trivial) (fun c1 => ?_) (fun c1 => ?_)
  ·
    try simp only [decide_eq_true_eq, decide_eq_false_iff_not, beq_iff_eq, beq_eq_false_iff_ne, bne_iff_ne, bne_eq_false_iff_eq, Bool.not_eq_true', Bool.not_eq_false', ne_eq] at c1
    refine sv hF (gyes_none rfl) (q_mv (by conv => lhs; whnf)) rfl (by decide) (cok1 trivial) ?_
    refine sv hF (gyes_some rfl rfl) (q_mv (by conv => lhs; whnf)) rfl (by decide) (cok1 trivial) ?_
    refine sv hF (gyes_some rfl rfl) (q_load Try.isAgg3 rfl (by first | exact loc_rd h0 rfl | exact frm_rd (by assumption) | exact frm_rd' (by assumption) | assumption) rfl) rfl (by decide) (cok1 trivial) ?_
    refine svb hF (gyes_some rfl rfl) (q_int rfl rfl rfl) rfl (by decide) (cok2 trivial trivial) (fun c2 => ?_) (fun c2 => ?_)
    ·
      try simp only [decide_eq_true_eq, decide_eq_false_iff_not, beq_iff_eq, beq_eq_false_iff_ne, bne_iff_ne, bne_eq_false_iff_eq, Bool.not_eq_true', Bool.not_eq_false', ne_eq] at c2
      refine sv hF (gyes_none rfl) (q_pt rfl (by conv => lhs; whnf)) rfl (by decide) (call_ok rfl) ?_
      refine sv hF (gyes_none rfl) (q_mv (by conv => lhs; whnf)) rfl (by decide) (cok1 trivial) ?_
      refine sv hF (gyes_some rfl rfl) (q_mv (by conv => lhs; whnf)) rfl (by decide) (cok1 trivial) ?_
      refine sv hF (gyes_some rfl rfl) (q_len_str Try.underlying9 rfl) rfl (by decide) (cok1 trivial) ?_
      refine sv hF (gyes_some rfl rfl) (q_load Try.isAgg3 rfl (by first | exact loc_rd h0 rfl | exact frm_rd (by assumption) | exact frm_rd' (by assumption) | assumption) rfl) rfl (by decide) (cok1 trivial) ?_
      refine sv hF (gyes_some rfl rfl) (q_int rfl rfl rfl) rfl (by decide) (cok2 trivial trivial) ?_
      refine sv hF (gyes_none rfl) (q_pt rfl (by conv => lhs; whnf)) rfl (by decide) (call_ok rfl) ?_
      refine se_store1 hF (gyes_none rfl) rfl Try.sizeOf4 rfl (by conv => lhs; whnf) (by first | exact loc_get h0 rfl | exact frm_get (by assumption)) (by first | exact lc_scalar rfl | exact lc_slice (by first | exact loc_rd h0 rfl | exact frm_rd (by assumption) | exact frm_rd' (by assumption) | assumption).live | exact lc_ptr (by first | exact loc_rd h0 rfl | exact frm_rd (by assumption) | exact frm_rd' (by assumption) | assumption).live) (by first | (simp; done) | exact Nat.le_of_ble_eq_true rfl) trivial trivial (by first | exact loc_set h0 _ | exact frm_set _ (by assumption) _) ?_
      refine ⟨_, Wk.refl _ _, ?_⟩
      show awp _ _ _ _ _ _ _
      refine awp_seq ?_
      refine awp_reg hF ?_
      refine sv hF (gyes_none rfl) (q_load Try.isAgg9 rfl (by first | exact loc_rd h0 rfl | exact frm_rd (by assumption) | exact frm_rd' (by assumption) | assumption) rfl) rfl (by decide) (cok1 trivial) ?_
      refine sv hF (gyes_none rfl) (q_mv (by conv => lhs; whnf)) rfl (by decide) (cok1 trivial) ?_
      refine sv hF (gyes_none rfl) (q_cat rfl rfl (by first | omega | (simp; omega))) rfl (by decide) (cok2 trivial trivial) ?_
      refine se_store1 hF (gyes_none rfl) rfl Try.sizeOf9 rfl (by conv => lhs; whnf) (by first | exact loc_get h0 rfl | exact frm_get (by assumption)) (by first | exact lc_scalar rfl | exact lc_slice (by first | exact loc_rd h0 rfl | exact frm_rd (by assumption) | exact frm_rd' (by assumption) | assumption).live | exact lc_ptr (by first | exact loc_rd h0 rfl | exact frm_rd (by assumption) | exact frm_rd' (by assumption) | assumption).live) (by first | (simp; done) | exact Nat.le_of_ble_eq_true rfl) trivial trivial (by first | exact loc_set h0 _ | exact frm_set _ (by assumption) _) ?_
      refine ⟨_, Wk.refl _ _, ?_⟩
      show awp _ _ _ _ _ _ _
      refine awp_seq ?_
      refine awp_reg hF ?_
      refine sv hF (gyes_none rfl) (q_load Try.isAgg3 rfl (by first | exact loc_rd h0 rfl | exact frm_rd (by assumption) | exact frm_rd' (by assumption) | assumption) rfl) rfl (by decide) (cok1 trivial) ?_
      refine sv hF (gyes_none rfl) (q_add64 rfl rfl hn) rfl (by decide) (call_ok rfl) ?_
      refine se_store1 hF (gyes_none rfl) rfl Try.sizeOf3 rfl (by conv => lhs; whnf) (by first | exact loc_get h0 rfl | exact frm_get (by assumption)) (by first | exact lc_scalar rfl | exact lc_slice (by first | exact loc_rd h0 rfl | exact frm_rd (by assumption) | exact frm_rd' (by assumption) | assumption).live | exact lc_ptr (by first | exact loc_rd h0 rfl | exact frm_rd (by assumption) | exact frm_rd' (by assumption) | assumption).live) (by first | (simp; done) | exact Nat.le_of_ble_eq_true rfl) trivial trivial (by first | exact loc_set h0 _ | exact frm_set _ (by assumption) _) ?_
      refine ⟨_, Wk.refl _ _, ?_⟩
      show awp _ _ _ _ _ _ _
      refine awp_seq ?_
      refine awp_reg hF ?_
      refine sv hF (gyes_none rfl) (q_load Try.isAgg3 rfl (by first | exact loc_rd h0 rfl | exact frm_rd (by assumption) | exact frm_rd' (by assumption) | assumption) rfl) rfl (by decide) (cok1 trivial) ?_
      refine sv hF (gyes_none rfl) (q_load Try.isAgg3 rfl (by first | exact loc_rd h0 rfl | exact frm_rd (by assumption) | exact frm_rd' (by assumption) | assumption) rfl) rfl (by decide) (cok1 trivial) ?_
      refine sv hF (gyes_none rfl) (q_int rfl rfl rfl) rfl (by decide) (cok2 trivial trivial) ?_
      refine sv hF (gyes_none rfl) (q_as (by conv => lhs; whnf)) rfl (by decide) (cok1 trivial) ?_
      refine ⟨_, Wk.refl _ _, ?_⟩
      show awp _ _ _ _ _ _ _
      refine awp_ret_wk ?_
      refine ⟨_, Wk.refl _ _, ?_⟩
      repeat (with_reducible first | refine then_ret ?_ | refine blk_ret ?_ | refine then_exit ?_ | refine blk_exit ?_ | refine blk_exit' (by decide) ?_ | refine blk_normal ?_ | refine then_normal ?_ | refine retq_ret ?_ | refine retq_normal ?_)
      exact ret_same (H := H0 ++ _) (by rw [List.append_nil]; first | done | rfl) (.tmp rfl .nil) rfl ⟨rfl, by first | rfl | (subst_vars; simp_all)⟩
    ·
      try simp only [decide_eq_true_eq, decide_eq_false_iff_not, beq_iff_eq, beq_eq_false_iff_ne, bne_iff_ne, bne_eq_false_iff_eq, Bool.not_eq_true', Bool.not_eq_false', ne_eq] at c2
      refine sv hF (gyes_none rfl) (q_pt rfl (by conv => lhs; whnf)) rfl (by decide) (call_ok rfl) ?_
      refine sv hF (gyes_none rfl) (q_mv (by conv => lhs; whnf)) rfl (by decide) (cok1 trivial) ?_
      refine sno rfl (.inl rfl) rfl (by decide) ?_
      refine sno rfl (.inl rfl) rfl (by decide) ?_
      refine sno rfl (.inl rfl) rfl (by decide) ?_
      refine sno rfl (.inl rfl) rfl (by decide) ?_
      refine sv hF (gyes_none rfl) (q_pf rfl (by conv => lhs; whnf)) rfl (by decide) (call_ok rfl) ?_
      refine se_store1 hF (gyes_none rfl) rfl Try.sizeOf4 rfl (by conv => lhs; whnf) (by first | exact loc_get h0 rfl | exact frm_get (by assumption)) (by first | exact lc_scalar rfl | exact lc_slice (by first | exact loc_rd h0 rfl | exact frm_rd (by assumption) | exact frm_rd' (by assumption) | assumption).live | exact lc_ptr (by first | exact loc_rd h0 rfl | exact frm_rd (by assumption) | exact frm_rd' (by assumption) | assumption).live) (by first | (simp; done) | exact Nat.le_of_ble_eq_true rfl) trivial trivial (by first | exact loc_set h0 _ | exact frm_set _ (by assumption) _) ?_
      refine ⟨_, Wk.refl _ _, ?_⟩
      show awp _ _ _ _ _ _ _
      refine awp_seq ?_
      refine awp_reg hF ?_
      refine sv hF (gyes_none rfl) (q_load Try.isAgg9 rfl (by first | exact loc_rd h0 rfl | exact frm_rd (by assumption) | exact frm_rd' (by assumption) | assumption) rfl) rfl (by decide) (cok1 trivial) ?_
      refine sv hF (gyes_none rfl) (q_mv (by conv => lhs; whnf)) rfl (by decide) (cok1 trivial) ?_
      refine sv hF (gyes_none rfl) (q_cat rfl rfl (by first | omega | (simp; omega))) rfl (by decide) (cok2 trivial trivial) ?_
      refine se_store1 hF (gyes_none rfl) rfl Try.sizeOf9 rfl (by conv => lhs; whnf) (by first | exact loc_get h0 rfl | exact frm_get (by assumption)) (by first | exact lc_scalar rfl | exact lc_slice (by first | exact loc_rd h0 rfl | exact frm_rd (by assumption) | exact frm_rd' (by assumption) | assumption).live | exact lc_ptr (by first | exact loc_rd h0 rfl | exact frm_rd (by assumption) | exact frm_rd' (by assumption) | assumption).live) (by first | (simp; done) | exact Nat.le_of_ble_eq_true rfl) trivial trivial (by first | exact loc_set h0 _ | exact frm_set _ (by assumption) _) ?_
      refine ⟨_, Wk.refl _ _, ?_⟩
      show awp _ _ _ _ _ _ _
      refine awp_seq ?_
      refine awp_reg hF ?_
      refine sv hF (gyes_none rfl) (q_load Try.isAgg3 rfl (by first | exact loc_rd h0 rfl | exact frm_rd (by assumption) | exact frm_rd' (by assumption) | assumption) rfl) rfl (by decide) (cok1 trivial) ?_
      refine sv hF (gyes_none rfl) (q_add64 rfl rfl hn) rfl (by decide) (call_ok rfl) ?_
      refine se_store1 hF (gyes_none rfl) rfl Try.sizeOf3 rfl (by conv => lhs; whnf) (by first | exact loc_get h0 rfl | exact frm_get (by assumption)) (by first | exact lc_scalar rfl | exact lc_slice (by first | exact loc_rd h0 rfl | exact frm_rd (by assumption) | exact frm_rd' (by assumption) | assumption).live | exact lc_ptr (by first | exact loc_rd h0 rfl | exact frm_rd (by assumption) | exact frm_rd' (by assumption) | assumption).live) (by first | (simp; done) | exact Nat.le_of_ble_eq_true rfl) trivial trivial (by first | exact loc_set h0 _ | exact frm_set _ (by assumption) _) ?_
      refine ⟨_, Wk.refl _ _, ?_⟩
      show awp _ _ _ _ _ _ _
      refine awp_seq ?_
      refine awp_reg hF ?_
      refine sv hF (gyes_none rfl) (q_load Try.isAgg3 rfl (by first | exact loc_rd h0 rfl | exact frm_rd (by assumption) | exact frm_rd' (by assumption) | assumption) rfl) rfl (by decide) (cok1 trivial) ?_
      refine sv hF (gyes_none rfl) (q_load Try.isAgg3 rfl (by first | exact loc_rd h0 rfl | exact frm_rd (by assumption) | exact frm_rd' (by assumption) | assumption) rfl) rfl (by decide) (cok1 trivial) ?_
      refine sv hF (gyes_none rfl) (q_int rfl rfl rfl) rfl (by decide) (cok2 trivial trivial) ?_
      refine sv hF (gyes_none rfl) (q_as (by conv => lhs; whnf)) rfl (by decide) (cok1 trivial) ?_
      refine ⟨_, Wk.refl _ _, ?_⟩
      show awp _ _ _ _ _ _ _
      refine awp_ret_wk ?_
      refine ⟨_, Wk.refl _ _, ?_⟩
      repeat (with_reducible first | refine then_ret ?_ | refine blk_ret ?_ | refine then_exit ?_ | refine blk_exit ?_ | refine blk_exit' (by decide) ?_ | refine blk_normal ?_ | refine then_normal ?_ | refine retq_ret ?_ | refine retq_normal ?_)
      exact ret_same (H := H0 ++ _) (by rw [List.append_nil]; first | done | rfl) (.tmp rfl .nil) rfl ⟨rfl, by first | rfl | (subst_vars; simp_all)⟩
  ·
    try simp only [decide_eq_true_eq, decide_eq_false_iff_not, beq_iff_eq, beq_eq_false_iff_ne, bne_iff_ne, bne_eq_false_iff_eq, Bool.not_eq_true', Bool.not_eq_false', ne_eq] at c1
    refine sv hF (gyes_none rfl) (q_mv (by conv => lhs; whnf)) rfl (by decide) (cok1 trivial) ?_
    refine sno rfl (.inl rfl) rfl (by decide) ?_
    refine sno rfl (.inl rfl) rfl (by decide) ?_
    refine sno rfl (.inl rfl) rfl (by decide) ?_
    refine sv hF (gyes_none rfl) (q_pf rfl (by conv => lhs; whnf)) rfl (by decide) (call_ok rfl) ?_
    refine sv hF (gyes_none rfl) (q_mv (by conv => lhs; whnf)) rfl (by decide) (cok1 trivial) ?_
    refine sno rfl (.inl rfl) rfl (by decide) ?_
    refine sno rfl (.inl rfl) rfl (by decide) ?_
    refine sno rfl (.inl rfl) rfl (by decide) ?_
    refine sno rfl (.inl rfl) rfl (by decide) ?_
    refine sv hF (gyes_none rfl) (q_pf rfl (by conv => lhs; whnf)) rfl (by decide) (call_ok rfl) ?_
    refine se_store1 hF (gyes_none rfl) rfl Try.sizeOf4 rfl (by conv => lhs; whnf) (by first | exact loc_get h0 rfl | exact frm_get (by assumption)) (by first | exact lc_scalar rfl | exact lc_slice (by first | exact loc_rd h0 rfl | exact frm_rd (by assumption) | exact frm_rd' (by assumption) | assumption).live | exact lc_ptr (by first | exact loc_rd h0 rfl | exact frm_rd (by assumption) | exact frm_rd' (by assumption) | assumption).live) (by first | (simp; done) | exact Nat.le_of_ble_eq_true rfl) trivial trivial (by first | exact loc_set h0 _ | exact frm_set _ (by assumption) _) ?_
    refine ⟨_, Wk.refl _ _, ?_⟩
    show awp _ _ _ _ _ _ _
    refine awp_seq ?_
    refine awp_reg hF ?_
    refine sv hF (gyes_none rfl) (q_load Try.isAgg9 rfl (by first | exact loc_rd h0 rfl | exact frm_rd (by assumption) | exact frm_rd' (by assumption) | assumption) rfl) rfl (by decide) (cok1 trivial) ?_
    refine sv hF (gyes_none rfl) (q_mv (by conv => lhs; whnf)) rfl (by decide) (cok1 trivial) ?_
    refine sv hF (gyes_none rfl) (q_cat rfl rfl (by first | omega | (simp; omega))) rfl (by decide) (cok2 trivial trivial) ?_
    refine se_store1 hF (gyes_none rfl) rfl Try.sizeOf9 rfl (by conv => lhs; whnf) (by first | exact loc_get h0 rfl | exact frm_get (by assumption)) (by first | exact lc_scalar rfl | exact lc_slice (by first | exact loc_rd h0 rfl | exact frm_rd (by assumption) | exact frm_rd' (by assumption) | assumption).live | exact lc_ptr (by first | exact loc_rd h0 rfl | exact frm_rd (by assumption) | exact frm_rd' (by assumption) | assumption).live) (by first | (simp; done) | exact Nat.le_of_ble_eq_true rfl) trivial trivial (by first | exact loc_set h0 _ | exact frm_set _ (by assumption) _) ?_
    refine ⟨_, Wk.refl _ _, ?_⟩
    show awp _ _ _ _ _ _ _
    refine awp_seq ?_
    refine awp_reg hF ?_
    refine sv hF (gyes_none rfl) (q_load Try.isAgg3 rfl (by first | exact loc_rd h0 rfl | exact frm_rd (by assumption) | exact frm_rd' (by assumption) | assumption) rfl) rfl (by decide) (cok1 trivial) ?_
    refine sv hF (gyes_none rfl) (q_add64 rfl rfl hn) rfl (by decide) (call_ok rfl) ?_
    refine se_store1 hF (gyes_none rfl) rfl Try.sizeOf3 rfl (by conv => lhs; whnf) (by first | exact loc_get h0 rfl | exact frm_get (by assumption)) (by first | exact lc_scalar rfl | exact lc_slice (by first | exact loc_rd h0 rfl | exact frm_rd (by assumption) | exact frm_rd' (by assumption) | assumption).live | exact lc_ptr (by first | exact loc_rd h0 rfl | exact frm_rd (by assumption) | exact frm_rd' (by assumption) | assumption).live) (by first | (simp; done) | exact Nat.le_of_ble_eq_true rfl) trivial trivial (by first | exact loc_set h0 _ | exact frm_set _ (by assumption) _) ?_
    refine ⟨_, Wk.refl _ _, ?_⟩
    show awp _ _ _ _ _ _ _
    refine awp_seq ?_
    refine awp_reg hF ?_
    refine sv hF (gyes_none rfl) (q_load Try.isAgg3 rfl (by first | exact loc_rd h0 rfl | exact frm_rd (by assumption) | exact frm_rd' (by assumption) | assumption) rfl) rfl (by decide) (cok1 trivial) ?_
    refine sv hF (gyes_none rfl) (q_load Try.isAgg3 rfl (by first | exact loc_rd h0 rfl | exact frm_rd (by assumption) | exact frm_rd' (by assumption) | assumption) rfl) rfl (by decide) (cok1 trivial) ?_
    refine sv hF (gyes_none rfl) (q_int rfl rfl rfl) rfl (by decide) (cok2 trivial trivial) ?_
    refine sv hF (gyes_none rfl) (q_as (by conv => lhs; whnf)) rfl (by decide) (cok1 trivial) ?_
    refine ⟨_, Wk.refl _ _, ?_⟩
    show awp _ _ _ _ _ _ _
    refine awp_ret_wk ?_
    refine ⟨_, Wk.refl _ _, ?_⟩
    repeat (with_reducible first | refine then_ret ?_ | refine blk_ret ?_ | refine then_exit ?_ | refine blk_exit ?_ | refine blk_exit' (by decide) ?_ | refine blk_normal ?_ | refine then_normal ?_ | refine retq_ret ?_ | refine retq_normal ?_)
    exact ret_same (H := H0 ++ _) (by rw [List.append_nil]; first | done | rfl) (.tmp rfl .nil) rfl ⟨rfl, by first | rfl | (subst_vars; simp_all)⟩

end Go.Proofs.YtdiecgjhmlljmaaA
