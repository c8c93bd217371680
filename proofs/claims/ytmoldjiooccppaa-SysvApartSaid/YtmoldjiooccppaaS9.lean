/-
  Walks of functions of the given program, and what they compute.
-/
import Derived.Test.YtmoldjiooccppaaS8
import Derived.Test.YtmoldjiooccppaaBk2
import Derived.Test.YtmoldjiooccppaaA19
import Derived.Test.YtmoldjiooccppaaProg
import Derived.KernelRfl
namespace Go.Proofs.YtmoldjiooccppaaA
set_option linter.unusedVariables false
open Go Go.RowKit Go.Shelf Go.Proofs
theorem mput_scalar {l : List (Ent Int)} {a : Int} {v : Value} {c : Nat} (h : ∀ p ∈ l, Scalar p.2.1 = true) (hv : Scalar v = true) : ∀ p ∈ mput l a v c, Scalar p.2.1 = true := by
  intro p hp
  unfold mput at hp
  cases hi : idx a l with
  | none =>
    rw [hi] at hp
    rcases List.mem_append.1 hp with h1 | h1
    · exact h p h1
    · simp at h1; subst h1; exact hv
  | some i =>
    rw [hi] at hp
    obtain ⟨j, hj⟩ := List.mem_iff_getElem?.1 hp
    rw [List.getElem?_modify] at hj
    cases hl : l[j]? with
    | none => rw [hl] at hj; simp at hj
    | some q =>
      rw [hl] at hj
      by_cases e : i = j
      · simp [e] at hj; subst hj; exact hv
      · simp [e] at hj; subst hj; exact h q (List.mem_of_getElem? hl)
theorem map_sub {φ : Nat → Option Nat} {l : List (Ent Int)} {c : Nat} (h : ∀ p ∈ l, Scalar p.2.1 = true) : OSub φ (.map (mk (fun a : Int => .int .u32 a) l) c) (.map (mk (fun a : Int => .int .u32 a) l) c) :=
  OSub.map rfl fun i hi => by
    have hi' : i < l.length := by simpa [mk] using hi
    refine ⟨rfl, ?_, rfl⟩
    have e : ((mk (fun a : Int => Value.int .u32 a) l).getD i default).val = l[i].2.1 := by simp [mk, List.getD_eq_getElem?_getD, hi']
    rw [e]
    exact .scalar (h _ (List.getElem_mem hi'))
set_option maxRecDepth 100000 in
set_option maxHeartbeats 2000000 in
theorem sysvApart_ok {H0 : AHeap} {n0 : Nat} (h0 : H0.length = n0) (list : List ByteArray) (vL : Value) (hL : Sl strv H0 vL list) (hLs : ∀ s ∈ list, s.size ≤ 140737488355328) (buckets : Int) : ACalls Try.prog 3 [vL, .int .i64 buckets] H0 (Rets (.bool true) H0) := by
  have hF : Wd Fence.wide := .inl rfl
  have hM : Try.prog.follows .mixedOrders = true := by kernel_rfl
  obtain ⟨m, hm⟩ : ∃ m, m = min list.length 40 := ⟨_, rfl⟩
  obtain ⟨v22, hS22, q22⟩ := slice_sl hL m (by omega)
  obtain ⟨names, hnm⟩ : ∃ names, names = (⟨#[]⟩ : ByteArray) :: list.take m := ⟨_, rfl⟩
  have hnl : names.length = (list.take m).length + 1 := by rw [hnm]; rfl
  have hlt : (list.take m).length = m := by rw [List.length_take]; omega
  have hNs : ∀ s ∈ names, s.size ≤ 140737488355328 := by
    intro s hs
    rw [hnm] at hs
    rcases List.mem_cons.1 hs with rfl | h
    · decide
    · exact hLs s (List.mem_of_mem_take h)
  obtain ⟨r, hr31, hr⟩ := and_mask buckets 31 (by decide)
  have hok : buildOk names ((r + 1 : Nat) : Int) := by unfold buildOk; omega
  have hBt := built_all (names := names) (nb := r + 1) (by omega) names.length (by omega) (Nat.le_refl _)
  have hBl := hBt.lenB
  have hCl := hBt.lenC
  have hsm := built_small (names := names) (r + 1) names.length (Nat.le_refl _)
  refine acalls_begin Try.func3 rfl Try.ntmps3 rfl ?_
  refine awp_seq ?_
  refine awp_reg hF ?_
  refine sv hF (gyes_none rfl) (q_as (by conv => lhs; whnf)) rfl (by decide) (cok1 (cconst rfl)) ?_
  refine ⟨_, Wk.refl _ _, ?_⟩
  show awp _ _ _ _ _ _ _
  refine awp_seq ?_
  refine awp_seq ?_
  refine awp_reg hF ?_
  refine sv hF (gyes_none rfl) (q_call0 Try.call7 rfl (speaks_ok (loc_len h0 rfl))) rfl (by decide) (cok1 trivial) ?_
  refine sv hF (gyes_none rfl) (q_not rfl) rfl (by decide) (cok1 trivial) ?_
  refine ⟨_, Wk.refl _ _, ?_⟩
  show awp _ _ _ _ _ _ _
  refine awp_cond_f rfl ?_
  refine awp_skip_wk ?_
  refine ⟨_, Wk.refl _ _, ?_⟩
  show awp _ _ _ _ _ _ _
  refine awp_seq ?_
  refine awp_reg hF ?_
  refine sn hF (gyes_none rfl) (q_buildSliceL [_] (loc_len h0 rfl) Try.underlying22 Try.sizeOf9 Try.zeroValue9 rfl (by decide) (by decide) ⟨(by conv => lhs; whnf), trivial⟩ (lvsC (by first | trivial | exact Rd.live (by first | exact loc_rd h0 rfl | exact frm_rd (by assumption) | exact frm_rd' (by assumption) | assumption) | exact (Sl.lc (by assumption)).1) lvs0) rfl rfl) rfl (by decide) (cok1 (cconst rfl)) (List.append_assoc _ _ _) ?_
  refine sv hF (gyes_none rfl) (q_mv (by conv => lhs; whnf)) rfl (by decide) (cok1 trivial) ?_
  refine sv hF (gyes_none rfl) (q_mv (by conv => lhs; whnf)) rfl (by decide) (cok1 trivial) ?_
  refine sv hF (gyes_none rfl) (q_len_sl Try.underlying22 (hL.app _) rfl) rfl (by decide) (call_ok rfl) ?_
  refine sv hF (gyes_none rfl) (OpQ.cast (v' := .int .i64 ((m : Nat) : Int)) (q_min rfl rfl) (by congr 1; split <;> omega)) rfl (by decide) (call_ok rfl) ?_
  refine sv hF (gyes_none rfl) (q22 Try.underlying22 Try.sizeOf9 rfl rfl) rfl (by decide) (call_ok rfl) ?_
  refine se_appendN (N := n0 + 1) (vs := [.string ⟨#[]⟩]) (l := list.take m) (f := strv) names.length (by rw [hnl]; omega) hF (gyes_none rfl) Try.underlying22 Try.underlying22 Try.type9 rfl rfl (by decide) rfl rfl rfl (loc_get h0 rfl) (hS22.app _) (fun x => lc_scalar rfl) (by simp) (by show (2 * _ + 1000) * 16 ≤ _; omega) trivial trivial (by decide) (loc_len h0 rfl) (show _ = H0 ++ [AObj.dead, .cells true (names.map strv) 1] from by
    rw [loc_set h0, List.append_assoc, hnm]; rfl) ?_
  refine sv hF (gyes_none rfl) (q_as (by conv => lhs; whnf)) rfl (by decide) (cok1 trivial) ?_
  refine ⟨_, Wk.refl _ _, ?_⟩
  show awp _ _ _ _ _ _ _
  refine awp_seq ?_
  refine awp_reg hF ?_
  refine sv hF (gyes_none rfl) (q_mv (by conv => lhs; whnf)) rfl (by decide) (cok1 trivial) ?_
  refine sv hF (gyes_none rfl) (q_mv (by conv => lhs; whnf)) rfl (by decide) (cok1 trivial) ?_
  refine sv hF (gyes_none rfl) (OpQ.cast (v' := .int .i64 ((r : Nat) : Int)) (q_int rfl rfl rfl) (congrArg _ hr)) rfl (by decide) (call_ok rfl) ?_
  refine sv hF (gyes_none rfl) (OpQ.cast (v' := .int .i64 (((r + 1) : Nat) : Int)) (q_add64 rfl rfl (by omega)) (by congr 1; omega)) rfl (by decide) (call_ok rfl) ?_
  refine sn hF (gyes_none rfl) (q_call Try.call8 rfl (by simp [AObj.wr]) ((build_ok (b0 := n0 + 2) (b1 := n0 + 3) (loc_len h0 rfl) names _ ((r + 1 : Nat) : Int) (sl_full (loc_rd h0 rfl) rfl (Nat.le_refl _)) hNs rfl rfl).mono (fun v H' h => h.1 hok))) rfl (by decide) (call_ok rfl) (List.append_assoc _ _ _) ?_
  refine sv hF (gyes_none rfl) (q_mv (by conv => lhs; whnf)) rfl (by decide) (cok1 trivial) ?_
  refine sv hF (gyes_none rfl) (q_extract rfl rfl) rfl (by decide) (cok1 trivial) ?_
  refine sv hF (gyes_none rfl) (q_extract rfl rfl) rfl (by decide) (call_ok rfl) ?_
  refine sn hF (gyes_none rfl) (q_allocN 1 (loc_len h0 rfl) Try.zeroValue26 (by first | exact flat_scalar rfl | exact flat_agg rfl) rfl) rfl (by decide) (by simp [Op.operands, Call.operands]) (List.append_assoc _ _ _) ?_
  refine se_store hF (gyes_none rfl) rfl Try.sizeOf26 rfl (by conv => lhs; whnf) (by first | exact loc_get h0 rfl | exact frm_get (by assumption)) rfl rfl (by exact trivial) (by exact (lcs2 (lc_slice (Rd.live (loc_rd h0 rfl))) (lc_slice (Rd.live (loc_rd h0 rfl))))) (by first | (simp; done) | exact Nat.le_of_ble_eq_true rfl) trivial trivial (by first | exact loc_set h0 _ | exact frm_set _ (by assumption) _) ?_
  refine sv hF (gyes_none rfl) (q_as (by conv => lhs; whnf)) rfl (by decide) (cok1 trivial) ?_
  refine ⟨_, Wk.refl _ _, ?_⟩
  show awp _ _ _ _ _ _ _
  refine awp_seq ?_
  refine awp_seq ?_
  refine awp_reg hF ?_
  refine sv hF (gyes_none rfl) (q_mv (by conv => lhs; whnf)) rfl (by decide) (cok1 trivial) ?_
  refine sv hF (gyes_none rfl) (q_not rfl) rfl (by decide) (cok1 trivial) ?_
  refine ⟨_, Wk.refl _ _, ?_⟩
  show awp _ _ _ _ _ _ _
  refine awp_cond_f rfl ?_
  refine awp_skip_wk ?_
  refine ⟨_, Wk.refl _ _, ?_⟩
  show awp _ _ _ _ _ _ _
  refine awp_seq ?_
  refine awp_reg hF ?_
  refine sv hF (gyes_none rfl) (q_mv (by conv => lhs; whnf)) rfl (by decide) (cok1 trivial) ?_
  refine sv hF (gyes_none rfl) (by first | exact q_len_slice Try.underlying22 rfl (by first | exact loc_rd h0 rfl | exact frm_rd (by assumption) | exact frm_rd' (by assumption) | assumption) | exact q_len_nil Try.underlying22 rfl) rfl (by decide) (cok1 trivial) ?_
  refine sn hF (gyes_none rfl) (q_makeSlice1 (N := n0 + 5) (loc_len h0 rfl) Try.underlying29 Try.typeInfo3 rfl Try.zeroValue3 rfl rfl rfl rfl (Nat.le_refl _) (by omega) (by show 8 * _ ≤ _; omega) (vs := (List.replicate names.length 0).map i64v) (by simp [i64v])) rfl (by decide) (call_ok rfl) (List.append_assoc _ _ _) ?_
  refine sv hF (gyes_none rfl) (q_as (by conv => lhs; whnf)) rfl (by decide) (cok1 trivial) ?_
  refine ⟨_, Wk.refl _ _, ?_⟩
  show awp _ _ _ _ _ _ _
  refine awp_seq ?_
  refine awp_reg hF ?_
  refine sn hF (gyes_none rfl) (q_makeMap (kf := fun a : Int => .int .u32 a) (loc_len h0 rfl)) rfl (by decide) (call_ok rfl) (List.append_assoc _ _ _) ?_
  refine sv hF (gyes_none rfl) (q_as (by conv => lhs; whnf)) rfl (by decide) (cok1 trivial) ?_
  refine ⟨_, Wk.refl _ _, ?_⟩
  show awp _ _ _ _ _ _ _
  refine awp_seq ?_
  refine awp_seq ?_
  refine awp_reg hF ?_
  refine sv hF (gyes_none rfl) (q_as (by conv => lhs; whnf)) rfl (by decide) (cok1 (cconst rfl)) ?_
  refine ⟨_, Wk.refl _ _, ?_⟩
  show awp _ _ _ _ _ _ _
  refine awp_block ?_
  refine awp_wk (Wk.U [(5, .slice (some ⟨n0 + 1, 0, none⟩) names.length names.length), (6, .pointer (some ⟨n0 + 4, 0, none⟩)), (8, .slice (some ⟨n0 + 5, 0, none⟩) names.length names.length), (9, .map (some (n0 + 6))), (10, .int .i64 ((1 : Nat) : Int))] ⟨rfl, rfl, rfl, rfl, rfl, trivial⟩) ?_
  refine awp_loop (fun (i : Nat) st => 1 ≤ i ∧ i ≤ names.length ∧ ∃ vc ml ck, vc = (cntOf names (r + 1) i).map i64v ∧ (∀ p ∈ ml, Scalar p.2.1 = true) ∧ (∀ x : Nat, mlook ml (x : Int) (.int .i64 0) = i64v (if headB names (r + 1) i x = true then 1 else 0)) ∧ st = ⟨93, U [(5, .slice (some ⟨n0 + 1, 0, none⟩) names.length names.length), (6, .pointer (some ⟨n0 + 4, 0, none⟩)), (8, .slice (some ⟨n0 + 5, 0, none⟩) names.length names.length), (9, .map (some (n0 + 6))), (10, .int .i64 ((i : Nat) : Int))], [], H0 ++ [AObj.dead, .cells true (names.map strv) 1, .cells true ((buildN names (r + 1) names.length).1.map u32v) 1, .cells true ((buildN names (r + 1) names.length).2.map u32v) 1, .cells true [.slice (some ⟨n0 + 2, 0, none⟩) (r + 1) (r + 1), .slice (some ⟨n0 + 3, 0, none⟩) names.length names.length] 1, .cells true (vc) 1, .map (mk (fun a : Int => .int .u32 a) ml) ck]⟩) (fun i => names.length - i) (x0 := 1) ?h0 ?round
  case h0 => exact ⟨Nat.le_refl _, by omega, _, [], 0, (by rw [cnt_start]), (fun p hp => by simp at hp), (fun x => by rw [headB_start]; rfl), rfl⟩
  case round =>
    rintro i _ ⟨hi1, hi2, vc, ml, ck, rfl, hms, hml, rfl⟩
    refine awp_seq ?_
    refine awp_seq ?_
    refine awp_reg hF ?_
    refine sv hF (gyes_none rfl) (q_mv (by conv => lhs; whnf)) rfl (by decide) (cok1 trivial) ?_
    refine sv hF (gyes_none rfl) (q_mv (by conv => lhs; whnf)) rfl (by decide) (cok1 trivial) ?_
    refine sv hF (gyes_none rfl) (by first | exact q_len_slice Try.underlying22 rfl (by first | exact loc_rd h0 rfl | exact frm_rd (by assumption) | exact frm_rd' (by assumption) | assumption) | exact q_len_nil Try.underlying22 rfl) rfl (by decide) (cok1 trivial) ?_
    refine svb hF (gyes_none rfl) (q_int rfl rfl rfl) rfl (by decide) (cok2 trivial trivial) (fun c1 => ?_) (fun c1 => ?_)
    ·
      try simp only [decide_eq_true_eq, decide_eq_false_iff_not, beq_iff_eq, beq_eq_false_iff_ne, Bool.not_eq_true', Bool.not_eq_false', ne_eq] at c1
      have hi : i < names.length := by omega
      have hwb : walkL (buildN names (r + 1) names.length).1 (buildN names (r + 1) names.length).2 names[i] = bl names (r + 1) (bkt names (r + 1) i) names.length := by
        rw [walk_built (by omega) (by omega)]
        unfold bkt
        rw [List.getD_eq_getElem?_getD, List.getElem?_eq_getElem hi]; rfl
      refine ⟨_, Wk.refl _ _, ?_⟩
      show awp _ _ _ _ _ _ _
      refine awp_cond_t rfl ?_
      refine awp_skip_wk ?_
      refine ⟨_, Wk.refl _ _, ?_⟩
      show awp _ _ _ _ _ _ _
      refine awp_seq ?_
      refine awp_block ?_
      refine awp_seq ?_
      refine awp_reg hF ?_
      refine sv hF (gyes_none rfl) (q_as (by conv => lhs; whnf)) rfl (by decide) (cok1 (cconst rfl)) ?_
      refine ⟨_, Wk.refl _ _, ?_⟩
      show awp _ _ _ _ _ _ _
      refine awp_seq ?_
      refine awp_reg hF ?_
      refine sn hF (gyes_none rfl) (q_allocN 1 (loc_len h0 rfl) Try.zeroValue29 (by first | exact flat_scalar rfl | exact flat_agg rfl) rfl) rfl (by decide) (by simp [Op.operands, Call.operands]) (List.append_assoc _ _ _) ?_
      refine ⟨_, Wk.refl _ _, ?_⟩
      show awp _ _ _ _ _ _ _
      refine awp_seq ?_
      refine awp_regt hF hM (by kernel_rfl) (by kernel_rfl) ?_
      refine dv (gyes_none rfl) (q_loadAgg Try.isAgg26 Try.sizeOf26 rfl (by first | exact loc_rd h0 rfl | exact frm_rd (by assumption) | exact frm_rd' (by assumption) | assumption) (by first | (simp; done) | exact Nat.le_of_ble_eq_true rfl) rfl) rfl (by decide) (cok1 trivial) ?_
      refine dv (gyes_none rfl) (q_mv (by conv => lhs; whnf)) rfl (by decide) (cok1 trivial) ?_
      refine dv (gyes_none rfl) (q_mv (by conv => lhs; whnf)) rfl (by decide) (cok1 trivial) ?_
      refine dv (gyes_none rfl) (by first | exact q_index1 Try.underlying22 Try.sizeOf9 rfl rfl (by omega) (by first | exact loc_rd h0 rfl | exact frm_rd (by assumption) | exact frm_rd' (by assumption) | assumption) | exact q_index (u := 0) Try.underlying22 Try.sizeOf9 rfl rfl (by omega) (by first | exact loc_rd h0 rfl | exact frm_rd (by assumption) | exact frm_rd' (by assumption) | assumption) | exact q_indexI Try.underlying22 Try.sizeOf9 rfl rfl (by omega) (by first | exact loc_rd h0 rfl | exact frm_rd (by assumption) | exact frm_rd' (by assumption) | assumption)) rfl (by decide) (cok2 trivial trivial) ?_
      refine dv (gyes_none rfl) (q_load Try.isAgg9 rfl (loc_rd h0 rfl) (get_map hi)) rfl (by decide) (call_ok rfl) ?_
      refine dn (gyes_none rfl) (q_call Try.call9 rfl (by simp [AObj.wr]) (walk_ok (b0 := n0 + 8) (b1 := n0 + 9) (loc_len h0 rfl) names[i] _ _ rfl rfl)) rfl (by decide) (call_ok rfl) (List.append_assoc _ _ _) ?_
      refine dv (gyes_none rfl) (q_makeFuncL [_] ⟨(by conv => lhs; whnf), trivial⟩) rfl (by decide) (cok1 trivial) ?_
      refine de_callv hF (by kernel_rfl) (gyes_none rfl) Try.call21 rfl rfl (apart_runL h0 [AObj.dead, .cells true (names.map strv) 1, .cells true ((buildN names (r + 1) names.length).1.map u32v) 1, .cells true ((buildN names (r + 1) names.length).2.map u32v) 1, .cells true [.slice (some ⟨n0 + 2, 0, none⟩) (r + 1) (r + 1), .slice (some ⟨n0 + 3, 0, none⟩) names.length names.length] 1, .cells true ((cntOf names (r + 1) i).map i64v) 1, .map (mk (fun a : Int => .int .u32 a) ml) ck] (m := 7) rfl names[i] (hNs _ (List.getElem_mem hi)) (buildN names (r + 1) names.length).1 (buildN names (r + 1) names.length).2 _ _ (sl_full (loc_rd h0 rfl) hBl (Nat.le_refl _)) (sl_full (loc_rd h0 rfl) hCl (Nat.le_refl _)) (by omega) (fun x hx => by have := hsm.1 x hx; omega) (fun x hx => by have := hsm.2 x hx; omega) (by omega) (by rw [hwb]; have h9 : (bl names (r + 1) (bkt names (r + 1) i) names.length).length ≤ names.length - 1 := bl_length _; omega)) (by first | exact trivial | (show _ < _; decide)) (call_ok rfl) ?_
      rintro v H' ⟨rfl, vW, M, rfl, hO⟩
      change OwnM _ _ _ (n0 + 10) at hO
      rw [hwb] at hO
      obtain ⟨t, hbl⟩ := bl_ne (nb := r + 1) (by omega) hi
      rcases hO with ⟨_, h⟩ | ⟨j, c, rfl, hM⟩
      · rw [hbl] at h; cases h
      have hh := head_in (nb := r + 1) (by omega) hi
      have hwl : (bl names (r + 1) (bkt names (r + 1) i) names.length).length ≤ names.length - 1 := bl_length _
      refine ⟨_, Wk.refl _ _, ?_⟩
      show awp _ _ _ _ _ _ _
      refine awp_seq ?_
      refine awp_seq ?_
      refine awp_reg hF ?_
      refine sv hF (gyes_none rfl) (q_load Try.isAgg29 rfl (by first | exact loc_rd h0 rfl | exact frm_rd (by assumption) | exact frm_rd' (by assumption) | assumption) rfl) rfl (by decide) (cok1 trivial) ?_
      refine sv hF (gyes_none rfl) (q_len_slice Try.underlying29 rfl (tail_rd h0 rfl hM)) rfl (by decide) (call_ok rfl) ?_
      refine sv hF (gyes_none rfl) (OpQ.cast (v' := .bool false) (q_int rfl rfl rfl) (by rw [hbl, List.length_cons]; exact congrArg _ (beq_false_of_ne (by omega)))) rfl (by decide) (call_ok rfl) ?_
      refine ⟨_, Wk.refl _ _, ?_⟩
      show awp _ _ _ _ _ _ _
      refine awp_cond_f rfl ?_
      refine awp_skip_wk ?_
      refine ⟨_, Wk.refl _ _, ?_⟩
      show awp _ _ _ _ _ _ _
      refine awp_seq ?_
      refine awp_reg hF ?_
      refine sv hF (gyes_none rfl) (q_load Try.isAgg29 rfl (by first | exact loc_rd h0 rfl | exact frm_rd (by assumption) | exact frm_rd' (by assumption) | assumption) rfl) rfl (by decide) (cok1 trivial) ?_
      refine sv hF (gyes_none rfl) (q_index1 (i := 0) Try.underlying29 Try.sizeOf3 rfl rfl (by rw [hbl]; exact Nat.succ_pos _) (tail_rd h0 rfl hM)) rfl (by decide) (call_ok rfl) ?_
      refine sv hF (gyes_none rfl) (q_load (v := i64v (headOf names (r + 1) i)) Try.isAgg3 rfl (tail_rd h0 rfl hM) (by rw [hbl]; rfl)) rfl (by decide) (call_ok rfl) ?_
      refine sv hF (gyes_none rfl) (OpQ.cast (v' := .int .u32 ((headOf names (r + 1) i : Nat) : Int)) (q_convin Try.underlying3 Try.underlying31 rfl (u32_in (by omega))) rfl) rfl (by decide) (call_ok rfl) ?_
      refine sv hF (gyes_none rfl) (q_as (by conv => lhs; whnf)) rfl (by decide) (cok1 trivial) ?_
      refine ⟨_, Wk.refl _ _, ?_⟩
      show awp _ _ _ _ _ _ _
      refine awp_seq ?_
      refine awp_seq ?_
      refine awp_reg hF ?_
      refine sv hF (gyes_none rfl) (q_mv (by conv => lhs; whnf)) rfl (by decide) (cok1 trivial) ?_
      refine sv hF (gyes_none rfl) (q_mv (by conv => lhs; whnf)) rfl (by decide) (cok1 trivial) ?_
      refine sv hF (gyes_none rfl) (q_lookup (kf := fun a : Int => .int .u32 a) (a := ((headOf names (r + 1) i : Nat) : Int)) (z := .int .i64 0) Try.underlying30 (key_int Try.underlying31) Try.zeroValue3 rfl rfl rfl (loc_get h0 rfl) (hml _)) rfl (by decide) (call_ok rfl) ?_
      refine svb hF (gyes_none rfl) (q_int rfl rfl rfl) rfl (by decide) (cok2 trivial (cconst rfl)) (fun c2 => ?_) (fun c2 => ?_)
      ·
        try simp only [decide_eq_true_eq, decide_eq_false_iff_not, beq_iff_eq, beq_eq_false_iff_ne, Bool.not_eq_true', Bool.not_eq_false', ne_eq] at c2
        have hsn : seenB names (r + 1) i (bkt names (r + 1) i) = true := by
          rw [← head_seen (by omega) hi]
          cases h : headB names (r + 1) i (headOf names (r + 1) i) with
          | true => first | rfl | (rw [h] at c2; exact absurd (by decide) c2)
          | false => first | rfl | (rw [h] at c2; exact absurd c2 (by decide))
        refine ⟨_, Wk.refl _ _, ?_⟩
        show awp _ _ _ _ _ _ _
        refine awp_cond_t rfl ?_
        refine awp_exit_wk ?_
        refine ⟨_, Wk.refl _ _, ?_⟩
        show awp _ _ _ _ _ _ _
        refine awp_reg hF ?_
        refine sv hF (gyes_none rfl) (q_mv (by conv => lhs; whnf)) rfl (by decide) (cok1 trivial) ?_
        refine sv hF (gyes_none rfl) (by first | exact q_add64 rfl rfl (by omega) | exact q_int rfl rfl rfl) rfl (by decide) (cok2 trivial (cconst rfl)) ?_
        refine sv hF (gyes_none rfl) (q_as (by conv => lhs; whnf)) rfl (by decide) (cok1 trivial) ?_
        refine ⟨_, Wk.trans (Wk.U [(5, .slice (some ⟨n0 + 1, 0, none⟩) names.length names.length), (6, .pointer (some ⟨n0 + 4, 0, none⟩)), (8, .slice (some ⟨n0 + 5, 0, none⟩) names.length names.length), (9, .map (some (n0 + 6))), (10, .int .i64 (((i + 1) : Nat) : Int))] ⟨rfl, rfl, rfl, rfl, rfl, trivial⟩) (wk_keep (F := Fence.wide) (n := 0) [0, 1, 2, 3, 4, 5, 6] (T2 := U [(5, .slice (some ⟨n0 + 1, 0, none⟩) names.length names.length), (6, .pointer (some ⟨n0 + 4, 0, none⟩)), (8, .slice (some ⟨n0 + 5, 0, none⟩) names.length names.length), (9, .map (some (n0 + 6))), (10, .int .i64 (((i + 1) : Nat) : Int))]) (L2 := [AObj.dead, .cells true (names.map strv) 1, .cells true ((buildN names (r + 1) names.length).1.map u32v) 1, .cells true ((buildN names (r + 1) names.length).2.map u32v) 1, .cells true [.slice (some ⟨n0 + 2, 0, none⟩) (r + 1) (r + 1), .slice (some ⟨n0 + 3, 0, none⟩) names.length names.length] 1, .cells true ((cntOf names (r + 1) i).map i64v) 1, .map (mk (fun a : Int => .int .u32 a) ml) ck]) h0 (by decide) ?_ (U_sub ⟨.slice (keep_new rfl), .ptr (keep_new rfl), .slice (keep_new rfl), .map (keep_new rfl), .scalar rfl, trivial⟩)), i + 1, ⟨by omega, by omega, _, ml, ck, ?_, ?_, ?_, rfl⟩, by omega⟩
        · exact ⟨⟨_, rfl, .deads⟩, by simp, ⟨_, rfl, .cells (.scalars (all_strv _))⟩, by simp, ⟨_, rfl, .cells (.scalars (all_u32v _))⟩, by simp, ⟨_, rfl, .cells (.scalars (all_u32v _))⟩, by simp, ⟨_, rfl, .cells ⟨.slice (keep_new rfl), .slice (keep_new rfl), trivial⟩⟩, by simp, ⟨_, rfl, .cells (.scalars (all_i64v _))⟩, by simp, ⟨_, rfl, map_sub hms⟩, by simp, trivial⟩
        · rw [cnt_seen (by omega) hsn]
        · exact hms
        · intro x
          rw [head_same (by omega) hi hsn]; exact hml x
      ·
        try simp only [decide_eq_true_eq, decide_eq_false_iff_not, beq_iff_eq, beq_eq_false_iff_ne, Bool.not_eq_true', Bool.not_eq_false', ne_eq] at c2
        have hsn : seenB names (r + 1) i (bkt names (r + 1) i) = false := by
          rw [← head_seen (by omega) hi]
          cases h : headB names (r + 1) i (headOf names (r + 1) i) with
          | true => first | rfl | (rw [h] at c2; exact absurd (by decide) c2)
          | false => first | rfl | (rw [h] at c2; exact absurd c2 (by decide))
        have hhb : headB names (r + 1) i (headOf names (r + 1) i) = false := by rw [head_seen (by omega) hi]; exact hsn
        have hml2 : mlook ml ((headOf names (r + 1) i : Nat) : Int) (.int .i64 0) = i64v 0 := by rw [hml, hhb]; rfl
        refine ⟨_, Wk.refl _ _, ?_⟩
        show awp _ _ _ _ _ _ _
        refine awp_cond_f rfl ?_
        refine awp_skip_wk ?_
        refine ⟨_, Wk.refl _ _, ?_⟩
        show awp _ _ _ _ _ _ _
        refine awp_seq ?_
        refine awp_reg hF ?_
        refine sv hF (gyes_none rfl) (q_mv (by conv => lhs; whnf)) rfl (by decide) (cok1 trivial) ?_
        refine sv hF (gyes_none rfl) (q_mv (by conv => lhs; whnf)) rfl (by decide) (cok1 trivial) ?_
        refine sv hF (gyes_none rfl) (q_lookup (kf := fun a : Int => .int .u32 a) (a := ((headOf names (r + 1) i : Nat) : Int)) (z := .int .i64 0) Try.underlying30 (key_int Try.underlying31) Try.zeroValue3 rfl rfl rfl (loc_get h0 rfl) hml2) rfl (by decide) (call_ok rfl) ?_
        refine sv hF (gyes_none rfl) (OpQ.cast (v' := i64v 1) (q_add64 rfl rfl (by decide)) rfl) rfl (by decide) (call_ok rfl) ?_
        refine se_mapUpdate (kf := fun a : Int => .int .u32 a) (l := ml) (c := ck) (a := ((headOf names (r + 1) i : Nat) : Int)) (v := i64v 1) hF (gyes_none rfl) Try.underlying30 (key_int Try.underlying31) rfl rfl rfl (loc_get h0 rfl) trivial trivial trivial (show _ = H0 ++ ([AObj.dead, .cells true (names.map strv) 1, .cells true ((buildN names (r + 1) names.length).1.map u32v) 1, .cells true ((buildN names (r + 1) names.length).2.map u32v) 1, .cells true [.slice (some ⟨n0 + 2, 0, none⟩) (r + 1) (r + 1), .slice (some ⟨n0 + 3, 0, none⟩) names.length names.length] 1, .cells true ((cntOf names (r + 1) i).map i64v) 1, .map (mk (fun a : Int => .int .u32 a) (mput ml ((headOf names (r + 1) i : Nat) : Int) (i64v 1) ck)) (mclk ml ((headOf names (r + 1) i : Nat) : Int) ck), .cells true [.slice (some ⟨n0 + 10 + j, 0, none⟩) (bl names (r + 1) (bkt names (r + 1) i) names.length).length c] 1, .cells true [.slice (some ⟨n0 + 2, 0, none⟩) (r + 1) (r + 1), .slice (some ⟨n0 + 3, 0, none⟩) names.length names.length] 1, .cells true [.string names[i]] 1] ++ M) from loc_set h0 _) ?_
        refine ⟨_, Wk.refl _ _, ?_⟩
        show awp _ _ _ _ _ _ _
        refine awp_seq ?_
        refine awp_reg hF ?_
        refine sv hF (gyes_none rfl) (q_as (by conv => lhs; whnf)) rfl (by decide) (cok1 (cconst rfl)) ?_
        refine ⟨_, Wk.refl _ _, ?_⟩
        show awp _ _ _ _ _ _ _
        refine awp_block ?_
        refine awp_wk (Wk.U [(5, .slice (some ⟨n0 + 1, 0, none⟩) names.length names.length), (6, .pointer (some ⟨n0 + 4, 0, none⟩)), (8, .slice (some ⟨n0 + 5, 0, none⟩) names.length names.length), (9, .map (some (n0 + 6))), (10, .int .i64 ((i : Nat) : Int)), (12, .pointer (some ⟨n0 + 7, 0, none⟩)), (13, .int .i64 ((0 : Nat) : Int))] ⟨rfl, rfl, rfl, rfl, rfl, rfl, rfl, trivial⟩) ?_
        refine awp_loop (fun (k : Nat) st => k ≤ (bl names (r + 1) (bkt names (r + 1) i) names.length).length ∧ ∃ vc, vc = (bump ((bl names (r + 1) (bkt names (r + 1) i) names.length).take k) (cntOf names (r + 1) i)).map i64v ∧ st = ⟨93, U [(5, .slice (some ⟨n0 + 1, 0, none⟩) names.length names.length), (6, .pointer (some ⟨n0 + 4, 0, none⟩)), (8, .slice (some ⟨n0 + 5, 0, none⟩) names.length names.length), (9, .map (some (n0 + 6))), (10, .int .i64 ((i : Nat) : Int)), (12, .pointer (some ⟨n0 + 7, 0, none⟩)), (13, .int .i64 ((k : Nat) : Int))], [], H0 ++ ([AObj.dead, .cells true (names.map strv) 1, .cells true ((buildN names (r + 1) names.length).1.map u32v) 1, .cells true ((buildN names (r + 1) names.length).2.map u32v) 1, .cells true [.slice (some ⟨n0 + 2, 0, none⟩) (r + 1) (r + 1), .slice (some ⟨n0 + 3, 0, none⟩) names.length names.length] 1, .cells true (vc) 1, .map (mk (fun a : Int => .int .u32 a) (mput ml ((headOf names (r + 1) i : Nat) : Int) (i64v 1) ck)) (mclk ml ((headOf names (r + 1) i : Nat) : Int) ck), .cells true [.slice (some ⟨n0 + 10 + j, 0, none⟩) (bl names (r + 1) (bkt names (r + 1) i) names.length).length c] 1, .cells true [.slice (some ⟨n0 + 2, 0, none⟩) (r + 1) (r + 1), .slice (some ⟨n0 + 3, 0, none⟩) names.length names.length] 1, .cells true [.string names[i]] 1] ++ M)⟩) (fun k => (bl names (r + 1) (bkt names (r + 1) i) names.length).length - k) (x0 := 0) ?h0 ?round
        case h0 => exact ⟨Nat.zero_le _, _, rfl, rfl⟩
        case round =>
          rintro k _ ⟨hk, vc, rfl, rfl⟩
          refine awp_seq ?_
          refine awp_seq ?_
          refine awp_reg hF ?_
          refine sv hF (gyes_none rfl) (q_mv (by conv => lhs; whnf)) rfl (by decide) (cok1 trivial) ?_
          refine sv hF (gyes_none rfl) (q_load Try.isAgg29 rfl (by first | exact loc_rd h0 rfl | exact frm_rd (by assumption) | exact frm_rd' (by assumption) | assumption) rfl) rfl (by decide) (cok1 trivial) ?_
          refine sv hF (gyes_none rfl) (q_len_slice Try.underlying29 rfl (tail_rd h0 rfl hM)) rfl (by decide) (call_ok rfl) ?_
          refine svb hF (gyes_none rfl) (q_int rfl rfl rfl) rfl (by decide) (cok2 trivial trivial) (fun c3 => ?_) (fun c3 => ?_)
          ·
            try simp only [decide_eq_true_eq, decide_eq_false_iff_not, beq_iff_eq, beq_eq_false_iff_ne, Bool.not_eq_true', Bool.not_eq_false', ne_eq] at c3
            have hkw : k < (bl names (r + 1) (bkt names (r + 1) i) names.length).length := by omega
            have hwn : (bl names (r + 1) (bkt names (r + 1) i) names.length)[k] < names.length := (bl_mem.1 (List.getElem_mem hkw)).1
            have htk : (bl names (r + 1) (bkt names (r + 1) i) names.length).take (k + 1) = (bl names (r + 1) (bkt names (r + 1) i) names.length).take k ++ [(bl names (r + 1) (bkt names (r + 1) i) names.length)[k]] := by rw [List.take_add_one, List.getElem?_eq_getElem hkw]; rfl
            obtain ⟨hb2, hbl2⟩ := bump_small (names := names) (nb := r + 1) (i := i) (k := k) (bkt names (r + 1) i) _ hwn
            have hwc : (bl names (r + 1) (bkt names (r + 1) i) names.length)[k] < (bump ((bl names (r + 1) (bkt names (r + 1) i) names.length).take k) (cntOf names (r + 1) i)).length := by omega
            have hcx : (bump ((bl names (r + 1) (bkt names (r + 1) i) names.length).take k) (cntOf names (r + 1) i))[(bl names (r + 1) (bkt names (r + 1) i) names.length)[k]] = (bump ((bl names (r + 1) (bkt names (r + 1) i) names.length).take k) (cntOf names (r + 1) i)).getD (bl names (r + 1) (bkt names (r + 1) i) names.length)[k] 0 := by rw [List.getD_eq_getElem?_getD, List.getElem?_eq_getElem hwc]; rfl
            have hcs := hcx ▸ hb2
            refine ⟨_, Wk.refl _ _, ?_⟩
            show awp _ _ _ _ _ _ _
            refine awp_cond_t rfl ?_
            refine awp_skip_wk ?_
            refine ⟨_, Wk.refl _ _, ?_⟩
            show awp _ _ _ _ _ _ _
            refine awp_seq ?_
            refine awp_block ?_
            refine awp_reg hF ?_
            refine sv hF (gyes_none rfl) (q_mv (by conv => lhs; whnf)) rfl (by decide) (cok1 trivial) ?_
            refine sv hF (gyes_none rfl) (q_load Try.isAgg29 rfl (by first | exact loc_rd h0 rfl | exact frm_rd (by assumption) | exact frm_rd' (by assumption) | assumption) rfl) rfl (by decide) (cok1 trivial) ?_
            refine sv hF (gyes_none rfl) (q_mv (by conv => lhs; whnf)) rfl (by decide) (cok1 trivial) ?_
            refine sv hF (gyes_none rfl) (q_index1 Try.underlying29 Try.sizeOf3 rfl rfl hkw (tail_rd h0 rfl hM)) rfl (by decide) (call_ok rfl) ?_
            refine sv hF (gyes_none rfl) (q_load Try.isAgg3 rfl (tail_rd h0 rfl hM) (get_map hkw)) rfl (by decide) (call_ok rfl) ?_
            refine sv hF (gyes_none rfl) (q_index1 Try.underlying29 Try.sizeOf3 rfl rfl hwn (loc_rd h0 rfl)) rfl (by decide) (call_ok rfl) ?_
            refine sv hF (gyes_none rfl) (q_load Try.isAgg3 rfl (loc_rd h0 rfl) (get_map hwc)) rfl (by decide) (call_ok rfl) ?_
            refine sv hF (gyes_none rfl) (OpQ.cast (v' := i64v (_ + 1)) (q_add64 rfl rfl (by omega)) rfl) rfl (by decide) (call_ok rfl) ?_
            refine sv hF (gyes_none rfl) (q_index1 Try.underlying29 Try.sizeOf3 rfl rfl hwn (loc_rd h0 rfl)) rfl (by decide) (call_ok rfl) ?_
            refine se_store1 hF (gyes_none rfl) rfl Try.sizeOf3 rfl (by conv => lhs; whnf) (by first | exact loc_get h0 rfl | exact frm_get (by assumption)) (by first | exact lc_scalar rfl | exact lc_slice (Rd.live (by first | exact loc_rd h0 rfl | exact frm_rd (by assumption) | exact frm_rd' (by assumption) | assumption)) | exact lc_ptr (Rd.live (by first | exact loc_rd h0 rfl | exact frm_rd (by assumption) | exact frm_rd' (by assumption) | assumption))) (by rw [List.length_map]; omega) trivial trivial (by first | exact loc_set h0 _ | exact frm_set _ (by assumption) _) ?_
            refine ⟨_, Wk.refl _ _, ?_⟩
            show awp _ _ _ _ _ _ _
            refine awp_reg hF ?_
            refine sv hF (gyes_none rfl) (q_mv (by conv => lhs; whnf)) rfl (by decide) (cok1 trivial) ?_
            refine sv hF (gyes_none rfl) (by first | exact q_add64 rfl rfl (by omega) | exact q_int rfl rfl rfl) rfl (by decide) (cok2 trivial (cconst rfl)) ?_
            refine sv hF (gyes_none rfl) (q_as (by conv => lhs; whnf)) rfl (by decide) (cok1 trivial) ?_
            refine ⟨_, Wk.U [(5, .slice (some ⟨n0 + 1, 0, none⟩) names.length names.length), (6, .pointer (some ⟨n0 + 4, 0, none⟩)), (8, .slice (some ⟨n0 + 5, 0, none⟩) names.length names.length), (9, .map (some (n0 + 6))), (10, .int .i64 ((i : Nat) : Int)), (12, .pointer (some ⟨n0 + 7, 0, none⟩)), (13, .int .i64 (((k + 1) : Nat) : Int))] ⟨rfl, rfl, rfl, rfl, rfl, rfl, rfl, trivial⟩, k + 1, ⟨hkw, _, ?_, rfl⟩, by omega⟩
            rw [htk, bump_snoc, ← hcx]; exact set_map _ _
          ·
            try simp only [decide_eq_true_eq, decide_eq_false_iff_not, beq_iff_eq, beq_eq_false_iff_ne, Bool.not_eq_true', Bool.not_eq_false', ne_eq] at c3
            refine ⟨_, Wk.refl _ _, ?_⟩
            show awp _ _ _ _ _ _ _
            refine awp_cond_f rfl ?_
            refine awp_exit_wk ?_
            refine ⟨_, Wk.refl _ _, ?_⟩
            show awp _ _ _ _ _ _ _
            refine awp_reg hF ?_
            refine sv hF (gyes_none rfl) (q_mv (by conv => lhs; whnf)) rfl (by decide) (cok1 trivial) ?_
            refine sv hF (gyes_none rfl) (by first | exact q_add64 rfl rfl (by omega) | exact q_int rfl rfl rfl) rfl (by decide) (cok2 trivial (cconst rfl)) ?_
            refine sv hF (gyes_none rfl) (q_as (by conv => lhs; whnf)) rfl (by decide) (cok1 trivial) ?_
            refine ⟨_, Wk.trans (Wk.U [(5, .slice (some ⟨n0 + 1, 0, none⟩) names.length names.length), (6, .pointer (some ⟨n0 + 4, 0, none⟩)), (8, .slice (some ⟨n0 + 5, 0, none⟩) names.length names.length), (9, .map (some (n0 + 6))), (10, .int .i64 (((i + 1) : Nat) : Int))] ⟨rfl, rfl, rfl, rfl, rfl, trivial⟩) (wk_keep (F := Fence.wide) (n := 0) [0, 1, 2, 3, 4, 5, 6] (T2 := U [(5, .slice (some ⟨n0 + 1, 0, none⟩) names.length names.length), (6, .pointer (some ⟨n0 + 4, 0, none⟩)), (8, .slice (some ⟨n0 + 5, 0, none⟩) names.length names.length), (9, .map (some (n0 + 6))), (10, .int .i64 (((i + 1) : Nat) : Int))]) (L2 := [AObj.dead, .cells true (names.map strv) 1, .cells true ((buildN names (r + 1) names.length).1.map u32v) 1, .cells true ((buildN names (r + 1) names.length).2.map u32v) 1, .cells true [.slice (some ⟨n0 + 2, 0, none⟩) (r + 1) (r + 1), .slice (some ⟨n0 + 3, 0, none⟩) names.length names.length] 1, .cells true ((bump ((bl names (r + 1) (bkt names (r + 1) i) names.length).take k) (cntOf names (r + 1) i)).map i64v) 1, .map (mk (fun a : Int => .int .u32 a) (mput ml ((headOf names (r + 1) i : Nat) : Int) (i64v 1) ck)) (mclk ml ((headOf names (r + 1) i : Nat) : Int) ck)]) h0 (by decide) ?_ (U_sub ⟨.slice (keep_new rfl), .ptr (keep_new rfl), .slice (keep_new rfl), .map (keep_new rfl), .scalar rfl, trivial⟩)), i + 1, ⟨by omega, by omega, _, (mput ml ((headOf names (r + 1) i : Nat) : Int) (i64v 1) ck), (mclk ml ((headOf names (r + 1) i : Nat) : Int) ck), ?_, ?_, ?_, rfl⟩, by omega⟩
            · exact ⟨⟨_, rfl, .deads⟩, by simp, ⟨_, rfl, .cells (.scalars (all_strv _))⟩, by simp, ⟨_, rfl, .cells (.scalars (all_u32v _))⟩, by simp, ⟨_, rfl, .cells (.scalars (all_u32v _))⟩, by simp, ⟨_, rfl, .cells ⟨.slice (keep_new rfl), .slice (keep_new rfl), trivial⟩⟩, by simp, ⟨_, rfl, .cells (.scalars (all_i64v _))⟩, by simp, ⟨_, rfl, map_sub (mput_scalar hms rfl)⟩, by simp, trivial⟩
            · rw [cnt_new (by omega) hi hsn, show k = (bl names (r + 1) (bkt names (r + 1) i) names.length).length by omega, List.take_length]
            · exact mput_scalar hms rfl
            · intro x
              rw [mlook_put, headB_succ (by omega), hml x]
              by_cases e : headOf names (r + 1) i = x
              · subst e; simp
              · have e2 : ¬ (x : Int) = ((headOf names (r + 1) i : Nat) : Int) := by omega
                simp [e, e2]
    ·
      try simp only [decide_eq_true_eq, decide_eq_false_iff_not, beq_iff_eq, beq_eq_false_iff_ne, Bool.not_eq_true', Bool.not_eq_false', ne_eq] at c1
      refine ⟨_, Wk.refl _ _, ?_⟩
      show awp _ _ _ _ _ _ _
      refine awp_cond_f rfl ?_
      refine awp_exit_wk ?_
      refine ⟨_, Wk.refl _ _, ?_⟩
      show awp _ _ _ _ _ _ _
      refine awp_seq ?_
      refine awp_seq ?_
      refine awp_reg hF ?_
      refine sv hF (gyes_none rfl) (q_as (by conv => lhs; whnf)) rfl (by decide) (cok1 (cconst rfl)) ?_
      refine ⟨_, Wk.refl _ _, ?_⟩
      show awp _ _ _ _ _ _ _
      refine awp_block ?_
      obtain rfl : i = names.length := by omega
      refine awp_wk (Wk.U [(5, .slice (some ⟨n0 + 1, 0, none⟩) names.length names.length), (8, .slice (some ⟨n0 + 5, 0, none⟩) names.length names.length), (14, .int .i64 ((1 : Nat) : Int))] ⟨rfl, rfl, rfl, trivial⟩) ?_
      refine awp_loop (fun (q : Nat) st => 1 ≤ q ∧ q ≤ names.length ∧ st = ⟨93, U [(5, .slice (some ⟨n0 + 1, 0, none⟩) names.length names.length), (8, .slice (some ⟨n0 + 5, 0, none⟩) names.length names.length), (14, .int .i64 ((q : Nat) : Int))], [], H0 ++ [AObj.dead, .cells true (names.map strv) 1, .cells true ((buildN names (r + 1) names.length).1.map u32v) 1, .cells true ((buildN names (r + 1) names.length).2.map u32v) 1, .cells true [.slice (some ⟨n0 + 2, 0, none⟩) (r + 1) (r + 1), .slice (some ⟨n0 + 3, 0, none⟩) names.length names.length] 1, .cells true ((cntOf names (r + 1) names.length).map i64v) 1, .map (mk (fun a : Int => .int .u32 a) ml) ck]⟩) (fun q => names.length - q) (x0 := 1) ?h0 ?round
      case h0 => exact ⟨Nat.le_refl _, by omega, rfl⟩
      case round =>
        rintro q _ ⟨hq1, hq2, rfl⟩
        refine awp_seq ?_
        refine awp_seq ?_
        refine awp_reg hF ?_
        refine sv hF (gyes_none rfl) (q_mv (by conv => lhs; whnf)) rfl (by decide) (cok1 trivial) ?_
        refine sv hF (gyes_none rfl) (q_mv (by conv => lhs; whnf)) rfl (by decide) (cok1 trivial) ?_
        refine sv hF (gyes_none rfl) (by first | exact q_len_slice Try.underlying22 rfl (by first | exact loc_rd h0 rfl | exact frm_rd (by assumption) | exact frm_rd' (by assumption) | assumption) | exact q_len_nil Try.underlying22 rfl) rfl (by decide) (cok1 trivial) ?_
        refine svb hF (gyes_none rfl) (q_int rfl rfl rfl) rfl (by decide) (cok2 trivial trivial) (fun c4 => ?_) (fun c4 => ?_)
        ·
          try simp only [decide_eq_true_eq, decide_eq_false_iff_not, beq_iff_eq, beq_eq_false_iff_ne, Bool.not_eq_true', Bool.not_eq_false', ne_eq] at c4
          have hql : q < names.length := by omega
          have hc1 : ((cntOf names (r + 1) names.length).map i64v)[0 + q]? = some (i64v 1) := by
            have h8 := cnt_end (names := names) (nb := r + 1) (j := q) (by omega) hql
            have h9 : q < (cntOf names (r + 1) names.length).length := by rw [cnt_length]; exact hql
            rw [List.getD_eq_getElem?_getD, List.getElem?_eq_getElem h9] at h8
            rw [Nat.zero_add, List.getElem?_map, List.getElem?_eq_getElem h9]
            exact congrArg (fun x => some (i64v x)) h8
          refine ⟨_, Wk.refl _ _, ?_⟩
          show awp _ _ _ _ _ _ _
          refine awp_cond_t rfl ?_
          refine awp_skip_wk ?_
          refine ⟨_, Wk.refl _ _, ?_⟩
          show awp _ _ _ _ _ _ _
          refine awp_seq ?_
          refine awp_block ?_
          refine awp_seq ?_
          refine awp_reg hF ?_
          refine sv hF (gyes_none rfl) (q_mv (by conv => lhs; whnf)) rfl (by decide) (cok1 trivial) ?_
          refine sv hF (gyes_none rfl) (q_mv (by conv => lhs; whnf)) rfl (by decide) (cok1 trivial) ?_
          refine sv hF (gyes_none rfl) (by first | exact q_index1 Try.underlying29 Try.sizeOf3 rfl rfl (by omega) (by first | exact loc_rd h0 rfl | exact frm_rd (by assumption) | exact frm_rd' (by assumption) | assumption) | exact q_index (u := 0) Try.underlying29 Try.sizeOf3 rfl rfl (by omega) (by first | exact loc_rd h0 rfl | exact frm_rd (by assumption) | exact frm_rd' (by assumption) | assumption) | exact q_indexI Try.underlying29 Try.sizeOf3 rfl rfl (by omega) (by first | exact loc_rd h0 rfl | exact frm_rd (by assumption) | exact frm_rd' (by assumption) | assumption)) rfl (by decide) (cok2 trivial trivial) ?_
          refine sv hF (gyes_none rfl) (q_load (v := i64v 1) Try.isAgg3 rfl (loc_rd h0 rfl) hc1) rfl (by decide) (call_ok rfl) ?_
          refine sv hF (gyes_none rfl) (OpQ.cast (v' := .bool false) (q_int rfl rfl rfl) rfl) rfl (by decide) (call_ok rfl) ?_
          refine ⟨_, Wk.refl _ _, ?_⟩
          show awp _ _ _ _ _ _ _
          refine awp_cond_f rfl ?_
          refine awp_skip_wk ?_
          refine ⟨_, Wk.refl _ _, ?_⟩
          show awp _ _ _ _ _ _ _
          refine awp_reg hF ?_
          refine sv hF (gyes_none rfl) (q_mv (by conv => lhs; whnf)) rfl (by decide) (cok1 trivial) ?_
          refine sv hF (gyes_none rfl) (by first | exact q_add64 rfl rfl (by omega) | exact q_int rfl rfl rfl) rfl (by decide) (cok2 trivial (cconst rfl)) ?_
          refine sv hF (gyes_none rfl) (q_as (by conv => lhs; whnf)) rfl (by decide) (cok1 trivial) ?_
          refine ⟨_, Wk.U [(5, .slice (some ⟨n0 + 1, 0, none⟩) names.length names.length), (8, .slice (some ⟨n0 + 5, 0, none⟩) names.length names.length), (14, .int .i64 (((q + 1) : Nat) : Int))] ⟨rfl, rfl, rfl, trivial⟩, q + 1, ⟨by omega, by omega, rfl⟩, by omega⟩
        ·
          try simp only [decide_eq_true_eq, decide_eq_false_iff_not, beq_iff_eq, beq_eq_false_iff_ne, Bool.not_eq_true', Bool.not_eq_false', ne_eq] at c4
          refine ⟨_, Wk.refl _ _, ?_⟩
          show awp _ _ _ _ _ _ _
          refine awp_cond_f rfl ?_
          refine awp_exit_wk ?_
          refine ⟨_, Wk.refl _ _, ?_⟩
          show awp _ _ _ _ _ _ _
          refine awp_seq ?_
          refine awp_reg hF ?_
          refine sv hF (gyes_none rfl) (q_as (by conv => lhs; whnf)) rfl (by decide) (cok1 (cconst rfl)) ?_
          refine ⟨_, Wk.refl _ _, ?_⟩
          show awp _ _ _ _ _ _ _
          refine awp_ret_wk ?_
          refine ⟨_, Wk.refl _ _, ?_⟩
          repeat (with_reducible first | refine then_ret ?_ | refine blk_ret ?_ | refine then_exit ?_ | refine blk_exit ?_ | refine blk_exit' (by decide) ?_ | refine blk_normal ?_ | refine then_normal ?_ | refine retq_ret ?_ | refine retq_normal ?_)
          exact ret_drop1 rfl (.tmp rfl .nil) rfl ⟨rfl, rfl⟩

end Go.Proofs.YtmoldjiooccppaaA
