/-
  Walks of functions of the given program, and what they compute.
-/
import Derived.Test.YtmoldjiooccppaaA24
import Derived.Test.YtmoldjiooccppaaS5
import Derived.Test.YtmoldjiooccppaaA19
import Derived.Test.YtmoldjiooccppaaProg
import Derived.KernelRfl
namespace Go.Proofs.YtmoldjiooccppaaA
set_option linter.unusedVariables false
open Go Go.RowKit Go.Shelf Go.Proofs
/-- A list in a block of one's own, or none yet. -/
def Own {α : Type} (f : α → Value) (H : AHeap) (v : Value) (l : List α) (n0 : Nat) : Prop :=
  (v = .slice none 0 0 ∧ l = []) ∨ ∃ b c, v = .slice (some ⟨b, 0, none⟩) l.length c ∧ n0 ≤ b ∧ H[b]? = some (.cells true (l.map f) 1)
set_option maxRecDepth 100000 in
set_option maxHeartbeats 2000000 in
theorem aclos_nil {H0 : AHeap} {n0 : Nat} (h0 : H0.length = n0) (bw : Nat) (k : Nat) (hw : H0[bw]? = some (.cells true [.slice none 0 0] 1)) : ACalls Try.prog 10 [.int .i64 ((k : Nat) : Int), .pointer (some ⟨bw, 0, none⟩)] H0 (Rets (.bool true) ((H0.set bw (.cells true [.slice (some ⟨n0 + 1, 0, none⟩) 1 1] 1)) ++ [.cells true [i64v k] 1, .cells true [i64v k] 1])) := by
  have hF : Wd Fence.wide := .inl rfl
  have hM : Try.prog.follows .mixedOrders = true := by kernel_rfl
  have hwl : bw < H0.length := (List.getElem?_eq_some_iff.1 hw).1
  refine acalls_begin Try.func10 rfl Try.ntmps10 rfl ?_
  refine awp_seq ?_
  refine awp_reg hF ?_
  refine sv hF (gyes_none rfl) (q_as (by conv => lhs; whnf)) rfl (by decide) (cok1 (cconst rfl)) ?_
  refine ⟨_, Wk.refl _ _, ?_⟩
  show awp _ _ _ _ _ _ _
  refine awp_seq ?_
  refine awp_reg hF ?_
  refine sv hF (gyes_none rfl) (q_load Try.isAgg29 rfl (by first | exact loc_rd h0 rfl | exact frm_rd (by assumption) | exact frm_rd' (by assumption) | assumption) rfl) rfl (by decide) (cok1 trivial) ?_
  refine sv hF (gyes_none rfl) (q_mv (by conv => lhs; whnf)) rfl (by decide) (cok1 trivial) ?_
  refine sn hF (gyes_none rfl) (q_buildSliceL [_] (loc_len h0 rfl) Try.underlying29 Try.sizeOf3 Try.zeroValue3 rfl (by decide) (by decide) ⟨(by conv => lhs; whnf), trivial⟩ (lvsC (by first | trivial | exact Rd.live (by first | exact loc_rd h0 rfl | exact frm_rd (by assumption) | exact frm_rd' (by assumption) | assumption) | exact (Sl.lc (by assumption)).1) lvs0) rfl rfl) rfl (by decide) (cok1 trivial) (List.append_assoc _ _ _) ?_
  refine sn hF (gyes_none rfl) (q_append_nil (N := n0 + 1) (m := 1) (sz := 1) (us := [i64v k]) Try.underlying29 Try.underlying29 Try.type3 rfl rfl (by decide) rfl rfl rfl (loc_rd h0 rfl) (by decide) (by simp) (by show (2 * _ + 1000) * 8 ≤ _; omega) (fun u hu => by simp at hu; subst hu; exact lc_scalar rfl) (loc_len h0 rfl)) rfl (by decide) (call_ok rfl) (List.append_assoc _ _ _) ?_
  refine se_store1 hF (gyes_none rfl) rfl Try.sizeOf29 rfl (by conv => lhs; whnf) (by first | exact loc_get h0 rfl | exact frm_get (by assumption)) (lc_slice (Rd.live (loc_rd h0 rfl))) (by first | (simp; done) | exact Nat.le_of_ble_eq_true rfl) trivial trivial (by first | exact loc_set h0 _ | exact frm_set _ (by assumption) _) ?_
  refine ⟨_, Wk.refl _ _, ?_⟩
  show awp _ _ _ _ _ _ _
  refine awp_seq ?_
  refine awp_reg hF ?_
  refine sv hF (gyes_none rfl) (q_as (by conv => lhs; whnf)) rfl (by decide) (cok1 (cconst rfl)) ?_
  refine ⟨_, Wk.refl _ _, ?_⟩
  show awp _ _ _ _ _ _ _
  refine awp_ret_wk ?_
  refine ⟨_, Wk.refl _ _, ?_⟩
  repeat (with_reducible first | refine then_ret ?_ | refine blk_ret ?_ | refine then_exit ?_ | refine blk_exit ?_ | refine blk_exit' (by decide) ?_ | refine blk_normal ?_ | refine then_normal ?_ | refine retq_ret ?_ | refine retq_normal ?_)
  exact ret_same (H := _ ++ _) (by rw [List.append_nil]; first | done | rfl) (.tmp rfl .nil) rfl ⟨rfl, rfl⟩
set_option maxRecDepth 100000 in
set_option maxHeartbeats 2000000 in
theorem aclos_own {H0 : AHeap} {n0 : Nat} (h0 : H0.length = n0) (bw b c : Nat) (l : List Nat) (k : Nat) (hl : l.length ≤ 1000000) (hw : H0[bw]? = some (.cells true [.slice (some ⟨b, 0, none⟩) l.length c] 1)) (hb : H0[b]? = some (.cells true (l.map i64v) 1)) (hne : b ≠ bw) : ACalls Try.prog 10 [.int .i64 ((k : Nat) : Int), .pointer (some ⟨bw, 0, none⟩)] H0 (Rets (.bool true) (((H0.set b .dead).set bw (.cells true [.slice (some ⟨n0 + 1, 0, none⟩) (l.length + 1) (l.length + 1)] 1)) ++ [.cells true [i64v k] 1, .cells true ((l ++ [k]).map i64v) 1])) := by
  have hF : Wd Fence.wide := .inl rfl
  have hM : Try.prog.follows .mixedOrders = true := by kernel_rfl
  have hbl : b < H0.length := (List.getElem?_eq_some_iff.1 hb).1
  refine acalls_begin Try.func10 rfl Try.ntmps10 rfl ?_
  refine awp_seq ?_
  refine awp_reg hF ?_
  refine sv hF (gyes_none rfl) (q_as (by conv => lhs; whnf)) rfl (by decide) (cok1 (cconst rfl)) ?_
  refine ⟨_, Wk.refl _ _, ?_⟩
  show awp _ _ _ _ _ _ _
  refine awp_seq ?_
  refine awp_reg hF ?_
  refine sv hF (gyes_none rfl) (q_load Try.isAgg29 rfl (by first | exact loc_rd h0 rfl | exact frm_rd (by assumption) | exact frm_rd' (by assumption) | assumption) rfl) rfl (by decide) (cok1 trivial) ?_
  refine sv hF (gyes_none rfl) (q_mv (by conv => lhs; whnf)) rfl (by decide) (cok1 trivial) ?_
  refine sn hF (gyes_none rfl) (q_buildSliceL [_] (loc_len h0 rfl) Try.underlying29 Try.sizeOf3 Try.zeroValue3 rfl (by decide) (by decide) ⟨(by conv => lhs; whnf), trivial⟩ (lvsC (by first | trivial | exact Rd.live (by first | exact loc_rd h0 rfl | exact frm_rd (by assumption) | exact frm_rd' (by assumption) | assumption) | exact (Sl.lc (by assumption)).1) lvs0) rfl rfl) rfl (by decide) (cok1 trivial) (List.append_assoc _ _ _) ?_
  refine se_append (N := n0 + 1) (vs := l.map i64v) (l := [k]) (f := i64v) hF (gyes_none rfl) Try.underlying29 Try.underlying29 Try.type3 rfl rfl (by decide) rfl rfl rfl (frm_get hb) (sl_full (l := [k]) (f := i64v) (loc_rd h0 rfl) rfl (Nat.le_refl _)) (fun x => lc_scalar rfl) (by simp) (by simp only [List.length_cons, List.length_nil]; show (2 * _ + 1000) * 8 ≤ _; omega) trivial trivial (by decide) (loc_len h0 rfl) (show _ = H0.set b .dead ++ [.cells true [i64v k] 1, .cells true ((l ++ [k]).map i64v) 1] from by
    rw [frm_set _ hbl, List.append_assoc, List.map_append]; rfl) ?_
  have h0' : (H0.set b .dead).length = n0 := by rw [List.length_set]; exact h0
  have hw' : (H0.set b .dead)[bw]? = some (.cells true [.slice (some ⟨b, 0, none⟩) l.length c] 1) := by rw [List.getElem?_set, if_neg hne]; exact hw
  have hwl' : bw < (H0.set b .dead).length := (List.getElem?_eq_some_iff.1 hw').1
  refine se_store1 hF (gyes_none rfl) rfl Try.sizeOf29 rfl (by conv => lhs; whnf) (by first | exact loc_get h0 rfl | exact frm_get (by assumption)) (by first | exact lc_scalar rfl | exact lc_slice (Rd.live (loc_rd h0' rfl)) | exact lc_slice (Rd.live (loc_rd h0 rfl))) (by first | (simp; done) | exact Nat.le_of_ble_eq_true rfl) trivial trivial (by first | exact loc_set h0 _ | exact frm_set _ (by assumption) _) ?_
  refine ⟨_, Wk.refl _ _, ?_⟩
  show awp _ _ _ _ _ _ _
  refine awp_seq ?_
  refine awp_reg hF ?_
  refine sv hF (gyes_none rfl) (q_as (by conv => lhs; whnf)) rfl (by decide) (cok1 (cconst rfl)) ?_
  refine ⟨_, Wk.refl _ _, ?_⟩
  show awp _ _ _ _ _ _ _
  refine awp_ret_wk ?_
  refine ⟨_, Wk.refl _ _, ?_⟩
  repeat (with_reducible first | refine then_ret ?_ | refine blk_ret ?_ | refine then_exit ?_ | refine blk_exit ?_ | refine blk_exit' (by decide) ?_ | refine blk_normal ?_ | refine then_normal ?_ | refine retq_ret ?_ | refine retq_normal ?_)
  exact ret_same (H := _ ++ _) (by rw [List.append_nil]; first | done | rfl) (.tmp rfl .nil) rfl ⟨rfl, rfl⟩

end Go.Proofs.YtmoldjiooccppaaA
