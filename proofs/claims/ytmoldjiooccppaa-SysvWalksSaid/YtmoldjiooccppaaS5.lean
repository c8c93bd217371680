/-
  Walks of functions of the given program, and what they compute.
-/
import Derived.Test.YtmoldjiooccppaaS3
import Derived.Test.YtmoldjiooccppaaS4
import Derived.Test.YtmoldjiooccppaaA19
import Derived.Test.YtmoldjiooccppaaProg
import Derived.KernelRfl
namespace Go.Proofs.YtmoldjiooccppaaA
set_option linter.unusedVariables false
open Go Go.RowKit Go.Shelf Go.Proofs
def spk : List ByteArray := [⟨#[]⟩, ⟨#[97]⟩, ⟨#[98]⟩]
theorem spk_build : buildN spk 1 3 = ([2], [0, 0, 1]) := by decide +kernel
theorem spk_walk : findL (walkL [2] [0, 0, 1] ⟨#[97]⟩) spk ⟨#[97]⟩ = some 1 := by decide +kernel
theorem spk_small : ∀ s ∈ spk, s.size ≤ 140737488355328 := by
  intro s hs
  simp only [spk, List.mem_cons, List.not_mem_nil, or_false] at hs
  rcases hs with rfl | rfl | rfl <;> decide
theorem spk_B {H0 : AHeap} {n0 : Nat} (h0 : H0.length = n0) {b : Nat} (hR : Rd H0 b [.string ⟨#[]⟩, .string ⟨#[97]⟩, .string ⟨#[98]⟩] 1) {b0 b1 : Nat} (e0 : n0 + 0 = b0) (e1 : n0 + 1 = b1) :
    ACalls Try.prog 8 [.slice (some ⟨b, 0, none⟩) 3 3, .int .i64 1] H0 (Rets (buildV b0 b1 1 3) (H0 ++ [.cells true [.int .u32 2] 1, .cells true [.int .u32 0, .int .u32 0, .int .u32 1] 1])) := by
  refine (build_ok h0 spk _ 1 (sl_full (l := spk) (f := strv) hR rfl (Nat.le_refl _)) spk_small e0 e1).mono fun v H' h => ?_
  obtain ⟨h1, h2⟩ := h.1 (by unfold buildOk; decide)
  refine ⟨h1, h2.trans ?_⟩
  show H0 ++ [.cells true ((buildN spk 1 3).1.map u32v) 1, .cells true ((buildN spk 1 3).2.map u32v) 1] = _
  rw [spk_build]; rfl
theorem spk_F {H0 : AHeap} {n0 : Nat} (h0 : H0.length = n0) {b b0 b1 : Nat} (hR : Rd H0 b [.string ⟨#[]⟩, .string ⟨#[97]⟩, .string ⟨#[98]⟩] 1) (hB : Rd H0 b0 [.int .u32 2] 1) (hC : Rd H0 b1 [.int .u32 0, .int .u32 0, .int .u32 1] 1) :
    ACalls Try.prog 13 [.agg #[.slice (some ⟨b0, 0, none⟩) 1 1, .slice (some ⟨b1, 0, none⟩) 3 3], .string ⟨#[97]⟩, .slice (some ⟨b, 0, none⟩) 3 3] H0 (Rets (.tuple #[.int .i64 1, .bool true]) H0) := by
  have h := find_ok h0 ⟨#[97]⟩ (by decide) [2] [0, 0, 1] spk _ _ _ (sl_full (l := [2]) (f := u32v) hB rfl (Nat.le_refl _)) (sl_full (l := [0, 0, 1]) (f := u32v) hC rfl (Nat.le_refl _)) (sl_full (l := spk) (f := strv) hR rfl (Nat.le_refl _)) (by decide) (by decide) (by decide) (by decide)
  rw [spk_walk] at h
  exact h
set_option maxRecDepth 100000 in
set_option maxHeartbeats 2000000 in
theorem speaks_ok {H0 : AHeap} {n0 : Nat} (h0 : H0.length = n0)  : ACalls Try.prog 7 [] H0 (Rets (.bool true) H0) := by
  have hF : Wd Fence.wide := .inl rfl
  have hM : Try.prog.follows .mixedOrders = true := by kernel_rfl
  refine acalls_begin Try.func7 rfl Try.ntmps7 rfl ?_
  refine awp_seq ?_
  refine awp_reg hF ?_
  refine sv hF (gyes_none rfl) (q_as (by conv => lhs; whnf)) rfl (by decide) (cok1 (cconst rfl)) ?_
  refine ⟨_, Wk.refl _ _, ?_⟩
  show awp _ _ _ _ _ _ _
  refine awp_seq ?_
  refine awp_reg hF ?_
  refine sn hF (gyes_none rfl) (q_buildSliceL [_, _, _] (loc_len h0 rfl) Try.underlying22 Try.sizeOf9 Try.zeroValue9 rfl (by decide) (by decide) ⟨(by conv => lhs; whnf), (by conv => lhs; whnf), (by conv => lhs; whnf), trivial⟩ (lvsC (by first | trivial | exact Rd.live (by first | exact loc_rd h0 rfl | exact frm_rd (by assumption) | exact frm_rd' (by assumption) | assumption) | exact (Sl.lc (by assumption)).1) (lvsC (by first | trivial | exact Rd.live (by first | exact loc_rd h0 rfl | exact frm_rd (by assumption) | exact frm_rd' (by assumption) | assumption) | exact (Sl.lc (by assumption)).1) (lvsC (by first | trivial | exact Rd.live (by first | exact loc_rd h0 rfl | exact frm_rd (by assumption) | exact frm_rd' (by assumption) | assumption) | exact (Sl.lc (by assumption)).1) lvs0))) rfl rfl) rfl (by decide) (call_ok rfl) (List.append_assoc _ _ _) ?_
  refine sn hF (gyes_none rfl) (q_call Try.call8 rfl (by simp [AObj.wr]) (spk_B (b0 := n0 + 1) (b1 := n0 + 2) (loc_len h0 rfl) (loc_rd h0 rfl) rfl rfl)) rfl (by decide) (call_ok rfl) (List.append_assoc _ _ _) ?_
  refine sv hF (gyes_none rfl) (q_mv (by conv => lhs; whnf)) rfl (by decide) (cok1 trivial) ?_
  refine sv hF (gyes_none rfl) (q_extract rfl rfl) rfl (by decide) (cok1 trivial) ?_
  refine sv hF (gyes_none rfl) (q_extract rfl rfl) rfl (by decide) (call_ok rfl) ?_
  refine sn hF (gyes_none rfl) (q_allocN 1 (loc_len h0 rfl) Try.zeroValue26 (by first | exact flat_scalar rfl | exact flat_agg rfl) rfl) rfl (by decide) (by simp [Op.operands, Call.operands]) (List.append_assoc _ _ _) ?_
  refine se_store hF (gyes_none rfl) rfl Try.sizeOf26 rfl (by conv => lhs; whnf) (by first | exact loc_get h0 rfl | exact frm_get (by assumption)) rfl rfl (by exact trivial) (by exact (lcs2 (lc_slice (Rd.live (loc_rd h0 rfl))) (lc_slice (Rd.live (loc_rd h0 rfl))))) (by first | (simp; done) | exact Nat.le_of_ble_eq_true rfl) trivial trivial (by first | exact loc_set h0 _ | exact frm_set _ (by assumption) _) ?_
  refine sv hF (gyes_none rfl) (q_as (by conv => lhs; whnf)) rfl (by decide) (cok1 trivial) ?_
  refine ⟨_, Wk.refl _ _, ?_⟩
  show awp _ _ _ _ _ _ _
  refine awp_seq ?_
  refine awp_reg hF ?_
  refine sv hF (gyes_none rfl) (q_loadAgg Try.isAgg26 Try.sizeOf26 rfl (by first | exact loc_rd h0 rfl | exact frm_rd (by assumption) | exact frm_rd' (by assumption) | assumption) (by first | (simp; done) | exact Nat.le_of_ble_eq_true rfl) rfl) rfl (by decide) (cok1 trivial) ?_
  refine sn hF (gyes_none rfl) (q_buildSliceL [_, _, _] (loc_len h0 rfl) Try.underlying22 Try.sizeOf9 Try.zeroValue9 rfl (by decide) (by decide) ⟨(by conv => lhs; whnf), (by conv => lhs; whnf), (by conv => lhs; whnf), trivial⟩ (lvsC (by first | trivial | exact Rd.live (by first | exact loc_rd h0 rfl | exact frm_rd (by assumption) | exact frm_rd' (by assumption) | assumption) | exact (Sl.lc (by assumption)).1) (lvsC (by first | trivial | exact Rd.live (by first | exact loc_rd h0 rfl | exact frm_rd (by assumption) | exact frm_rd' (by assumption) | assumption) | exact (Sl.lc (by assumption)).1) (lvsC (by first | trivial | exact Rd.live (by first | exact loc_rd h0 rfl | exact frm_rd (by assumption) | exact frm_rd' (by assumption) | assumption) | exact (Sl.lc (by assumption)).1) lvs0))) rfl rfl) rfl (by decide) (call_ok rfl) (List.append_assoc _ _ _) ?_
  refine sv hF (gyes_none rfl) (q_call0 Try.call13 rfl (spk_F (loc_len h0 rfl) (loc_rd h0 rfl) (loc_rd h0 rfl) (loc_rd h0 rfl))) rfl (by decide) (call_ok rfl) ?_
  refine sv hF (gyes_none rfl) (q_mv (by conv => lhs; whnf)) rfl (by decide) (cok1 trivial) ?_
  refine sv hF (gyes_none rfl) (q_extract rfl rfl) rfl (by decide) (cok1 trivial) ?_
  refine sv hF (gyes_none rfl) (q_extract rfl rfl) rfl (by decide) (call_ok rfl) ?_
  refine sv hF (gyes_none rfl) (q_as (by conv => lhs; whnf)) rfl (by decide) (cok1 trivial) ?_
  refine sv hF (gyes_none rfl) (q_as (by conv => lhs; whnf)) rfl (by decide) (cok1 trivial) ?_
  refine ⟨_, Wk.refl _ _, ?_⟩
  show awp _ _ _ _ _ _ _
  refine awp_seq ?_
  refine awp_reg hF ?_
  refine sv hF (gyes_none rfl) (q_mv (by conv => lhs; whnf)) rfl (by decide) (cok1 trivial) ?_
  refine sv hF (gyes_none rfl) (q_mv (by conv => lhs; whnf)) rfl (by decide) (cok1 trivial) ?_
  refine sv hF (gyes_some rfl rfl) (q_mv (by conv => lhs; whnf)) rfl (by decide) (cok1 trivial) ?_
  refine sv hF (gyes_none rfl) (q_pt rfl (by conv => lhs; whnf)) rfl (by decide) (call_ok rfl) ?_
  refine sv hF (gyes_none rfl) (q_mv (by conv => lhs; whnf)) rfl (by decide) (cok1 trivial) ?_
  refine sv hF (gyes_some rfl rfl) (q_mv (by conv => lhs; whnf)) rfl (by decide) (cok1 trivial) ?_
  refine sv hF (gyes_some rfl rfl) (OpQ.cast (v' := .bool true) (q_int rfl rfl rfl) rfl) rfl (by decide) (call_ok rfl) ?_
  refine sv hF (gyes_none rfl) (q_pt rfl (by conv => lhs; whnf)) rfl (by decide) (call_ok rfl) ?_
  refine sv hF (gyes_none rfl) (q_mv (by conv => lhs; whnf)) rfl (by decide) (cok1 trivial) ?_
  refine sv hF (gyes_some rfl rfl) (q_field Try.underlying26 rfl Try.sizeOf24 rfl (by first | exact loc_rd h0 rfl | exact frm_rd (by assumption) | exact frm_rd' (by assumption) | assumption)) rfl (by decide) (cok1 trivial) ?_
  refine sv hF (gyes_some rfl rfl) (q_load Try.isAgg24 rfl (by first | exact loc_rd h0 rfl | exact frm_rd (by assumption) | exact frm_rd' (by assumption) | assumption) rfl) rfl (by decide) (cok1 trivial) ?_
  refine sv hF (gyes_some rfl rfl) (by first | exact q_len_slice Try.underlying24 rfl (by first | exact loc_rd h0 rfl | exact frm_rd (by assumption) | exact frm_rd' (by assumption) | assumption) | exact q_len_nil Try.underlying24 rfl) rfl (by decide) (cok1 trivial) ?_
  refine sv hF (gyes_some rfl rfl) (OpQ.cast (v' := .bool true) (q_int rfl rfl rfl) rfl) rfl (by decide) (call_ok rfl) ?_
  refine sv hF (gyes_none rfl) (q_pt rfl (by conv => lhs; whnf)) rfl (by decide) (call_ok rfl) ?_
  refine sv hF (gyes_none rfl) (q_mv (by conv => lhs; whnf)) rfl (by decide) (cok1 trivial) ?_
  refine sv hF (gyes_some rfl rfl) (q_field Try.underlying26 rfl Try.sizeOf24 rfl (by first | exact loc_rd h0 rfl | exact frm_rd (by assumption) | exact frm_rd' (by assumption) | assumption)) rfl (by decide) (cok1 trivial) ?_
  refine sv hF (gyes_some rfl rfl) (q_load Try.isAgg24 rfl (by first | exact loc_rd h0 rfl | exact frm_rd (by assumption) | exact frm_rd' (by assumption) | assumption) rfl) rfl (by decide) (cok1 trivial) ?_
  refine sv hF (gyes_some rfl rfl) (q_index1 (i := 0) Try.underlying24 Try.sizeOf31 rfl rfl (by decide) (loc_rd h0 rfl)) rfl (by decide) (call_ok rfl) ?_
  refine sv hF (gyes_some rfl rfl) (q_load Try.isAgg31 rfl (by first | exact loc_rd h0 rfl | exact frm_rd (by assumption) | exact frm_rd' (by assumption) | assumption) rfl) rfl (by decide) (cok1 trivial) ?_
  refine sv hF (gyes_some rfl rfl) (OpQ.cast (v' := .bool true) (q_int rfl rfl rfl) rfl) rfl (by decide) (call_ok rfl) ?_
  refine sv hF (gyes_none rfl) (q_pt rfl (by conv => lhs; whnf)) rfl (by decide) (call_ok rfl) ?_
  refine sv hF (gyes_none rfl) (q_mv (by conv => lhs; whnf)) rfl (by decide) (cok1 trivial) ?_
  refine sv hF (gyes_some rfl rfl) (q_field Try.underlying26 rfl Try.sizeOf24 rfl (by first | exact loc_rd h0 rfl | exact frm_rd (by assumption) | exact frm_rd' (by assumption) | assumption)) rfl (by decide) (cok1 trivial) ?_
  refine sv hF (gyes_some rfl rfl) (q_load Try.isAgg24 rfl (by first | exact loc_rd h0 rfl | exact frm_rd (by assumption) | exact frm_rd' (by assumption) | assumption) rfl) rfl (by decide) (cok1 trivial) ?_
  refine sv hF (gyes_some rfl rfl) (q_index1 (i := 2) Try.underlying24 Try.sizeOf31 rfl rfl (by decide) (loc_rd h0 rfl)) rfl (by decide) (call_ok rfl) ?_
  refine sv hF (gyes_some rfl rfl) (q_load Try.isAgg31 rfl (by first | exact loc_rd h0 rfl | exact frm_rd (by assumption) | exact frm_rd' (by assumption) | assumption) rfl) rfl (by decide) (cok1 trivial) ?_
  refine sv hF (gyes_some rfl rfl) (OpQ.cast (v' := .bool true) (q_int rfl rfl rfl) rfl) rfl (by decide) (call_ok rfl) ?_
  refine sv hF (gyes_none rfl) (q_pt rfl (by conv => lhs; whnf)) rfl (by decide) (call_ok rfl) ?_
  refine sv hF (gyes_none rfl) (q_as (by conv => lhs; whnf)) rfl (by decide) (cok1 trivial) ?_
  refine ⟨_, Wk.refl _ _, ?_⟩
  show awp _ _ _ _ _ _ _
  refine awp_ret_wk ?_
  refine ⟨_, Wk.refl _ _, ?_⟩
  repeat (with_reducible first | refine then_ret ?_ | refine blk_ret ?_ | refine then_exit ?_ | refine blk_exit ?_ | refine blk_exit' (by decide) ?_ | refine blk_normal ?_ | refine then_normal ?_ | refine retq_ret ?_ | refine retq_normal ?_)
  exact ret_drop1 rfl (.tmp rfl .nil) rfl ⟨rfl, rfl⟩

end Go.Proofs.YtmoldjiooccppaaA
