/-
  Walks over abstract states: texts of one claim, merged.
-/
import Derived.Test.YtmoldjiooccppaaM3
import Derived.Test.YtmoldjiooccppaaProg
import Derived.KernelRfl
/-
  Walks of functions of the given program, and what they compute.
-/
namespace Go.Proofs.YtmoldjiooccppaaA
set_option linter.unusedVariables false
open Go Go.RowKit Go.Shelf Go.Proofs
/-- A table that is built: behind so many names. -/
def buildStep (names : List ByteArray) (nb i : Nat) (p : List Nat × List Nat) : List Nat × List Nat :=
  (p.1.set (hash (names.getD i ⟨#[]⟩) % nb) i, p.2.set i (p.1.getD (hash (names.getD i ⟨#[]⟩) % nb) 0))
def buildN (names : List ByteArray) (nb : Nat) : Nat → List Nat × List Nat
  | 0 => (List.replicate nb 0, List.replicate names.length 0)
  | i + 1 => if i = 0 then (List.replicate nb 0, List.replicate names.length 0) else buildStep names nb i (buildN names nb i)
theorem build_step {names : List ByteArray} {B C : List Nat} {i : Nat} (hi : i < names.length) (h1 : 1 ≤ i) (hk : hash names[i] % B.length < B.length) (h : (B, C) = buildN names B.length i) :
    (B.set (hash names[i] % B.length) i, C.set i B[hash names[i] % B.length]) = buildN names B.length (i + 1) := by
  have e : names.getD i ⟨#[]⟩ = names[i] := by rw [List.getD_eq_getElem?_getD, List.getElem?_eq_getElem hi]; rfl
  rw [buildN, if_neg (by omega), ← h]
  unfold buildStep
  rw [e]
  have e2 : B.getD (hash names[i] % B.length) 0 = B[hash names[i] % B.length] := by rw [List.getD_eq_getElem?_getD, List.getElem?_eq_getElem hk]; rfl
  show _ = (B.set _ i, C.set i (B.getD _ 0))
  rw [e2]
def buildOk (names : List ByteArray) (nb : Int) : Prop := 1 ≤ nb ∧ nb ≤ 256 ∧ 1 ≤ names.length ∧ names.length ≤ 256
def buildV (b0 b1 nb nc : Nat) : Value := .tuple #[.agg #[.slice (some ⟨b0, 0, none⟩) nb nb, .slice (some ⟨b1, 0, none⟩) nc nc], .bool true]
def noBuild : Value := .tuple #[.agg #[.slice none 0 0, .slice none 0 0], .bool false]
set_option maxRecDepth 100000 in
set_option maxHeartbeats 2000000 in
theorem build_ok {H0 : AHeap} {n0 : Nat} (h0 : H0.length = n0) (names : List ByteArray) (vN : Value) (buckets : Int) (hN : Sl strv H0 vN names) (hNs : ∀ s ∈ names, s.size ≤ 140737488355328) {b0 b1 : Nat} (e0 : n0 + 0 = b0) (e1 : n0 + 1 = b1) : ACalls Try.prog 8 [vN, .int .i64 buckets] H0 (fun v H' => (buildOk names buckets → v = buildV b0 b1 buckets.toNat names.length ∧ H' = H0 ++ [.cells true ((buildN names buckets.toNat names.length).1.map u32v) 1, .cells true ((buildN names buckets.toNat names.length).2.map u32v) 1]) ∧ (¬ buildOk names buckets → v = noBuild ∧ H' = H0)) := by
  have hF : Wd Fence.wide := .inl rfl
  have hM : Try.prog.follows .mixedOrders = true := by kernel_rfl
  subst e0 e1
  refine acalls_begin Try.func8 rfl Try.ntmps8 rfl ?_
  refine awp_seq ?_
  refine awp_reg hF ?_
  refine sn hF (gyes_none rfl) (q_allocN 1 (loc_len h0 rfl) Try.zeroValue26 (by first | exact flat_scalar rfl | exact flat_agg rfl) rfl) rfl (by decide) (by simp [Op.operands]) (List.append_assoc _ _ _) ?_
  refine sv hF (gyes_none rfl) (q_as (by conv => lhs; whnf)) rfl (by decide) (cok1 (cconst rfl)) ?_
  refine ⟨_, Wk.refl _ _, ?_⟩
  show awp _ _ _ _ _ _ _
  refine awp_seq ?_
  refine awp_seq ?_
  refine awp_reg hF ?_
  refine sv hF (gyes_none rfl) (q_mv (by conv => lhs; whnf)) rfl (by decide) (cok1 trivial) ?_
  refine svb hF (gyes_none rfl) (q_int rfl rfl rfl) rfl (by decide) (cok2 trivial (cconst rfl)) (fun c1 => ?_) (fun c1 => ?_)
  ·
    try simp only [decide_eq_true_eq] at c1
    refine sv hF (gyes_none rfl) (q_mv (by conv => lhs; whnf)) rfl (by decide) (cok1 trivial) ?_
    refine sno rfl (.inl rfl) rfl (by decide) ?_
    refine sno rfl (.inl rfl) rfl (by decide) ?_
    refine sv hF (gyes_none rfl) (q_pt rfl (by conv => lhs; whnf)) rfl (by decide) (call_ok rfl) ?_
    refine sv hF (gyes_none rfl) (q_mv (by conv => lhs; whnf)) rfl (by decide) (cok1 trivial) ?_
    refine sno rfl (.inl rfl) rfl (by decide) ?_
    refine sno rfl (.inl rfl) rfl (by decide) ?_
    refine sno rfl (.inl rfl) rfl (by decide) ?_
    refine sv hF (gyes_none rfl) (q_pt rfl (by conv => lhs; whnf)) rfl (by decide) (call_ok rfl) ?_
    refine sv hF (gyes_none rfl) (q_mv (by conv => lhs; whnf)) rfl (by decide) (cok1 trivial) ?_
    refine sno rfl (.inl rfl) rfl (by decide) ?_
    refine sno rfl (.inl rfl) rfl (by decide) ?_
    refine sno rfl (.inl rfl) rfl (by decide) ?_
    refine sv hF (gyes_none rfl) (q_pt rfl (by conv => lhs; whnf)) rfl (by decide) (call_ok rfl) ?_
    refine ⟨_, Wk.refl _ _, ?_⟩
    show awp _ _ _ _ _ _ _
    refine awp_cond_t rfl ?_
    refine awp_seq ?_
    refine awp_reg hF ?_
    refine sv hF (gyes_none rfl) (q_buildL [(0, 1), (1, 1)] [] Try.underlying26 Try.zeroValue26 (by first | exact flat_agg rfl | exact flat_scalar rfl) (by kernel_rfl) trivial lvs0 rfl) rfl (by decide) (by simp [Op.operands]) ?_
    refine se_store hF (gyes_none rfl) rfl Try.sizeOf26 rfl (by conv => lhs; whnf) (by first | exact loc_get h0 rfl | exact frm_get (by assumption)) rfl rfl (by exact trivial) (by exact (lcs2 (lc_scalar rfl) (lc_scalar rfl))) (by first | (simp; done) | exact Nat.le_of_ble_eq_true rfl) trivial trivial (by first | exact loc_set h0 _ | exact frm_set _ (by assumption) _) ?_
    refine sv hF (gyes_none rfl) (q_as (by conv => lhs; whnf)) rfl (by decide) (cok1 (cconst rfl)) ?_
    refine ⟨_, Wk.refl _ _, ?_⟩
    show awp _ _ _ _ _ _ _
    refine awp_ret_wk ?_
    refine ⟨_, Wk.refl _ _, ?_⟩
    repeat (with_reducible first | refine then_ret ?_ | refine blk_ret ?_ | refine then_exit ?_ | refine blk_exit ?_ | refine blk_exit' (by decide) ?_ | refine blk_normal ?_ | refine then_normal ?_ | refine retq_ret ?_ | refine retq_normal ?_ | refine ng_normal ?_ | refine ng_ret ?_ | refine ng_exit ?_)
    refine ret_drop rfl (.agg rfl Try.isAgg26 Try.sizeOf26 (loc_rd h0 rfl) (by decide) rfl (.tmp rfl .nil)) (v := noBuild) rfl rfl ⟨fun h => ?_, fun _ => ⟨rfl, rfl⟩⟩
    exfalso
    unfold buildOk at h
    omega
  ·
    try simp only [decide_eq_false_iff_not] at c1
    refine sv hF (gyes_none rfl) (q_mv (by conv => lhs; whnf)) rfl (by decide) (cok1 trivial) ?_
    refine sv hF (gyes_some rfl rfl) (q_mv (by conv => lhs; whnf)) rfl (by decide) (cok1 trivial) ?_
    refine svb hF (gyes_some rfl rfl) (q_int rfl rfl rfl) rfl (by decide) (cok2 trivial (cconst rfl)) (fun c2 => ?_) (fun c2 => ?_)
    ·
      try simp only [decide_eq_true_eq] at c2
      refine sv hF (gyes_none rfl) (q_pf rfl (by conv => lhs; whnf)) rfl (by decide) (call_ok rfl) ?_
      refine sv hF (gyes_none rfl) (q_mv (by conv => lhs; whnf)) rfl (by decide) (cok1 trivial) ?_
      refine sno rfl (.inl rfl) rfl (by decide) ?_
      refine sno rfl (.inl rfl) rfl (by decide) ?_
      refine sno rfl (.inl rfl) rfl (by decide) ?_
      refine sv hF (gyes_none rfl) (q_pt rfl (by conv => lhs; whnf)) rfl (by decide) (call_ok rfl) ?_
      refine sv hF (gyes_none rfl) (q_mv (by conv => lhs; whnf)) rfl (by decide) (cok1 trivial) ?_
      refine sno rfl (.inl rfl) rfl (by decide) ?_
      refine sno rfl (.inl rfl) rfl (by decide) ?_
      refine sno rfl (.inl rfl) rfl (by decide) ?_
      refine sv hF (gyes_none rfl) (q_pt rfl (by conv => lhs; whnf)) rfl (by decide) (call_ok rfl) ?_
      refine ⟨_, Wk.refl _ _, ?_⟩
      show awp _ _ _ _ _ _ _
      refine awp_cond_t rfl ?_
      refine awp_seq ?_
      refine awp_reg hF ?_
      refine sv hF (gyes_none rfl) (q_buildL [(0, 1), (1, 1)] [] Try.underlying26 Try.zeroValue26 (by first | exact flat_agg rfl | exact flat_scalar rfl) (by kernel_rfl) trivial lvs0 rfl) rfl (by decide) (by simp [Op.operands]) ?_
      refine se_store hF (gyes_none rfl) rfl Try.sizeOf26 rfl (by conv => lhs; whnf) (by first | exact loc_get h0 rfl | exact frm_get (by assumption)) rfl rfl (by exact trivial) (by exact (lcs2 (lc_scalar rfl) (lc_scalar rfl))) (by first | (simp; done) | exact Nat.le_of_ble_eq_true rfl) trivial trivial (by first | exact loc_set h0 _ | exact frm_set _ (by assumption) _) ?_
      refine sv hF (gyes_none rfl) (q_as (by conv => lhs; whnf)) rfl (by decide) (cok1 (cconst rfl)) ?_
      refine ⟨_, Wk.refl _ _, ?_⟩
      show awp _ _ _ _ _ _ _
      refine awp_ret_wk ?_
      refine ⟨_, Wk.refl _ _, ?_⟩
      repeat (with_reducible first | refine then_ret ?_ | refine blk_ret ?_ | refine then_exit ?_ | refine blk_exit ?_ | refine blk_exit' (by decide) ?_ | refine blk_normal ?_ | refine then_normal ?_ | refine retq_ret ?_ | refine retq_normal ?_ | refine ng_normal ?_ | refine ng_ret ?_ | refine ng_exit ?_)
      refine ret_drop rfl (.agg rfl Try.isAgg26 Try.sizeOf26 (loc_rd h0 rfl) (by decide) rfl (.tmp rfl .nil)) (v := noBuild) rfl rfl ⟨fun h => ?_, fun _ => ⟨rfl, rfl⟩⟩
      exfalso
      unfold buildOk at h
      omega
    ·
      try simp only [decide_eq_false_iff_not] at c2
      refine sv hF (gyes_none rfl) (q_pf rfl (by conv => lhs; whnf)) rfl (by decide) (call_ok rfl) ?_
      refine sv hF (gyes_none rfl) (q_mv (by conv => lhs; whnf)) rfl (by decide) (cok1 trivial) ?_
      refine sv hF (gyes_some rfl rfl) (q_mv (by conv => lhs; whnf)) rfl (by decide) (cok1 trivial) ?_
      refine sv hF (gyes_some rfl rfl) (q_len_sl Try.underlying22 (hN.app _) rfl) rfl (by decide) (call_ok rfl) ?_
      refine svb hF (gyes_some rfl rfl) (q_int rfl rfl rfl) rfl (by decide) (cok2 trivial (cconst rfl)) (fun c3 => ?_) (fun c3 => ?_)
      ·
        try simp only [decide_eq_true_eq] at c3
        refine sv hF (gyes_none rfl) (q_pf rfl (by conv => lhs; whnf)) rfl (by decide) (call_ok rfl) ?_
        refine sv hF (gyes_none rfl) (q_mv (by conv => lhs; whnf)) rfl (by decide) (cok1 trivial) ?_
        refine sno rfl (.inl rfl) rfl (by decide) ?_
        refine sno rfl (.inl rfl) rfl (by decide) ?_
        refine sno rfl (.inl rfl) rfl (by decide) ?_
        refine sv hF (gyes_none rfl) (q_pt rfl (by conv => lhs; whnf)) rfl (by decide) (call_ok rfl) ?_
        refine ⟨_, Wk.refl _ _, ?_⟩
        show awp _ _ _ _ _ _ _
        refine awp_cond_t rfl ?_
        refine awp_seq ?_
        refine awp_reg hF ?_
        refine sv hF (gyes_none rfl) (q_buildL [(0, 1), (1, 1)] [] Try.underlying26 Try.zeroValue26 (by first | exact flat_agg rfl | exact flat_scalar rfl) (by kernel_rfl) trivial lvs0 rfl) rfl (by decide) (by simp [Op.operands]) ?_
        refine se_store hF (gyes_none rfl) rfl Try.sizeOf26 rfl (by conv => lhs; whnf) (by first | exact loc_get h0 rfl | exact frm_get (by assumption)) rfl rfl (by exact trivial) (by exact (lcs2 (lc_scalar rfl) (lc_scalar rfl))) (by first | (simp; done) | exact Nat.le_of_ble_eq_true rfl) trivial trivial (by first | exact loc_set h0 _ | exact frm_set _ (by assumption) _) ?_
        refine sv hF (gyes_none rfl) (q_as (by conv => lhs; whnf)) rfl (by decide) (cok1 (cconst rfl)) ?_
        refine ⟨_, Wk.refl _ _, ?_⟩
        show awp _ _ _ _ _ _ _
        refine awp_ret_wk ?_
        refine ⟨_, Wk.refl _ _, ?_⟩
        repeat (with_reducible first | refine then_ret ?_ | refine blk_ret ?_ | refine then_exit ?_ | refine blk_exit ?_ | refine blk_exit' (by decide) ?_ | refine blk_normal ?_ | refine then_normal ?_ | refine retq_ret ?_ | refine retq_normal ?_ | refine ng_normal ?_ | refine ng_ret ?_ | refine ng_exit ?_)
        refine ret_drop rfl (.agg rfl Try.isAgg26 Try.sizeOf26 (loc_rd h0 rfl) (by decide) rfl (.tmp rfl .nil)) (v := noBuild) rfl rfl ⟨fun h => ?_, fun _ => ⟨rfl, rfl⟩⟩
        exfalso
        unfold buildOk at h
        omega
      ·
        try simp only [decide_eq_false_iff_not] at c3
        refine sv hF (gyes_none rfl) (q_pf rfl (by conv => lhs; whnf)) rfl (by decide) (call_ok rfl) ?_
        refine sv hF (gyes_none rfl) (q_mv (by conv => lhs; whnf)) rfl (by decide) (cok1 trivial) ?_
        refine sv hF (gyes_some rfl rfl) (q_mv (by conv => lhs; whnf)) rfl (by decide) (cok1 trivial) ?_
        refine sv hF (gyes_some rfl rfl) (q_len_sl Try.underlying22 (hN.app _) rfl) rfl (by decide) (call_ok rfl) ?_
        refine svb hF (gyes_some rfl rfl) (q_int rfl rfl rfl) rfl (by decide) (cok2 trivial (cconst rfl)) (fun c4 => ?_) (fun c4 => ?_)
        ·
          try simp only [decide_eq_true_eq] at c4
          refine sv hF (gyes_none rfl) (q_pf rfl (by conv => lhs; whnf)) rfl (by decide) (call_ok rfl) ?_
          refine ⟨_, Wk.refl _ _, ?_⟩
          show awp _ _ _ _ _ _ _
          refine awp_cond_t rfl ?_
          refine awp_seq ?_
          refine awp_reg hF ?_
          refine sv hF (gyes_none rfl) (q_buildL [(0, 1), (1, 1)] [] Try.underlying26 Try.zeroValue26 (by first | exact flat_agg rfl | exact flat_scalar rfl) (by kernel_rfl) trivial lvs0 rfl) rfl (by decide) (by simp [Op.operands]) ?_
          refine se_store hF (gyes_none rfl) rfl Try.sizeOf26 rfl (by conv => lhs; whnf) (by first | exact loc_get h0 rfl | exact frm_get (by assumption)) rfl rfl (by exact trivial) (by exact (lcs2 (lc_scalar rfl) (lc_scalar rfl))) (by first | (simp; done) | exact Nat.le_of_ble_eq_true rfl) trivial trivial (by first | exact loc_set h0 _ | exact frm_set _ (by assumption) _) ?_
          refine sv hF (gyes_none rfl) (q_as (by conv => lhs; whnf)) rfl (by decide) (cok1 (cconst rfl)) ?_
          refine ⟨_, Wk.refl _ _, ?_⟩
          show awp _ _ _ _ _ _ _
          refine awp_ret_wk ?_
          refine ⟨_, Wk.refl _ _, ?_⟩
          repeat (with_reducible first | refine then_ret ?_ | refine blk_ret ?_ | refine then_exit ?_ | refine blk_exit ?_ | refine blk_exit' (by decide) ?_ | refine blk_normal ?_ | refine then_normal ?_ | refine retq_ret ?_ | refine retq_normal ?_ | refine ng_normal ?_ | refine ng_ret ?_ | refine ng_exit ?_)
          refine ret_drop rfl (.agg rfl Try.isAgg26 Try.sizeOf26 (loc_rd h0 rfl) (by decide) rfl (.tmp rfl .nil)) (v := noBuild) rfl rfl ⟨fun h => ?_, fun _ => ⟨rfl, rfl⟩⟩
          exfalso
          unfold buildOk at h
          omega
        ·
          try simp only [decide_eq_false_iff_not] at c4
          obtain ⟨nb, rfl⟩ := Int.eq_ofNat_of_zero_le (show 0 ≤ buckets by omega)
          obtain ⟨bN, oN, cN, vsN, rfl, hRN, hlN, hcN, hgN⟩ := hN.get (i := 0) (by omega)
          refine sv hF (gyes_none rfl) (q_pf rfl (by conv => lhs; whnf)) rfl (by decide) (call_ok rfl) ?_
          refine ⟨_, Wk.refl _ _, ?_⟩
          show awp _ _ _ _ _ _ _
          refine awp_cond_f rfl ?_
          refine awp_skip_wk ?_
          refine ⟨_, Wk.refl _ _, ?_⟩
          show awp _ _ _ _ _ _ _
          refine awp_seq ?_
          refine awp_regt hF hM (by kernel_rfl) (by kernel_rfl) ?_
          refine dv (gyes_none rfl) (q_mv (by conv => lhs; whnf)) rfl (by decide) (cok1 trivial) ?_
          refine dn (gyes_none rfl) (q_makeSlice1 (N := n0 + 1) (loc_len h0 rfl) Try.underlying24 Try.typeInfo31 rfl Try.zeroValue31 rfl rfl rfl rfl (Nat.le_refl _) (by omega) (by show 4 * _ ≤ _; omega) (vs := (List.replicate nb 0).map u32v) (by simp [u32v])) rfl (by decide) (call_ok rfl) (List.append_assoc _ _ _) ?_
          refine dv (gyes_none rfl) (q_mv (by conv => lhs; whnf)) rfl (by decide) (cok1 trivial) ?_
          refine dv (gyes_none rfl) (q_len_sl Try.underlying22 (hN.app _) rfl) rfl (by decide) (call_ok rfl) ?_
          refine dn (gyes_none rfl) (q_makeSlice1 (N := n0 + 2) (loc_len h0 rfl) Try.underlying24 Try.typeInfo31 rfl Try.zeroValue31 rfl rfl rfl rfl (Nat.le_refl _) (by omega) (by show 4 * _ ≤ _; omega) (vs := (List.replicate names.length 0).map u32v) (by simp [u32v])) rfl (by decide) (call_ok rfl) (List.append_assoc _ _ _) ?_
          refine dv (gyes_none rfl) (q_buildL [(0, 1), (1, 1)] [_, _] Try.underlying26 Try.zeroValue26 (by first | exact flat_agg rfl | exact flat_scalar rfl) (by kernel_rfl) ⟨(by conv => lhs; whnf), (by conv => lhs; whnf), trivial⟩ (lvsC (by first | trivial | exact Rd.live (by first | exact loc_rd h0 rfl | exact frm_rd (by assumption) | exact frm_rd' (by assumption) | assumption) | exact (Sl.lc (by assumption)).1) (lvsC (by first | trivial | exact Rd.live (by first | exact loc_rd h0 rfl | exact frm_rd (by assumption) | exact frm_rd' (by assumption) | assumption) | exact (Sl.lc (by assumption)).1) lvs0)) rfl) rfl (by decide) (cok2 trivial trivial) ?_
          refine dn (gyes_none rfl) (q_allocN 1 (loc_len h0 rfl) Try.zeroValue26 (by first | exact flat_scalar rfl | exact flat_agg rfl) rfl) rfl (by decide) (by simp [Op.operands]) (List.append_assoc _ _ _) ?_
          refine de_store hF (by kernel_rfl) (gyes_none rfl) rfl Try.sizeOf26 rfl (by conv => lhs; whnf) (by first | exact loc_get h0 rfl | exact frm_get (by assumption)) rfl rfl (by exact trivial) (by exact (lcs2 (lc_slice (loc_rd h0 rfl).live) (lc_slice (loc_rd h0 rfl).live))) (by first | (simp; done) | exact Nat.le_of_ble_eq_true rfl) trivial trivial (by first | exact loc_set h0 _ | exact frm_set _ (by assumption) _) ?_
          refine ⟨_, Wk.refl _ _, ?_⟩
          show awp _ _ _ _ _ _ _
          refine awp_seq ?_
          refine awp_seq ?_
          refine awp_reg hF ?_
          refine sv hF (gyes_none rfl) (q_as (by conv => lhs; whnf)) rfl (by decide) (cok1 (cconst rfl)) ?_
          refine ⟨_, Wk.refl _ _, ?_⟩
          show awp _ _ _ _ _ _ _
          refine awp_block ?_
          refine awp_wk (Wk.U [(0, .slice (some ⟨bN, oN, none⟩) names.length cN), (4, .pointer (some ⟨n0 + 0, 0, none⟩)), (6, .pointer (some ⟨n0 + 3, 0, none⟩)), (7, .int .i64 ((1 : Nat) : Int))] ⟨rfl, rfl, rfl, rfl, trivial⟩) ?_
          refine awp_loop (fun (p : Nat × List Nat × List Nat) st => 1 ≤ p.1 ∧ p.1 ≤ names.length ∧ (p.2.1, p.2.2) = buildN names nb p.1 ∧ p.2.1.length = nb ∧ p.2.2.length = names.length ∧ ∃ vb vc, vb = p.2.1.map u32v ∧ vc = p.2.2.map u32v ∧ st = ⟨60, U [(0, .slice (some ⟨bN, oN, none⟩) names.length cN), (4, .pointer (some ⟨n0 + 0, 0, none⟩)), (6, .pointer (some ⟨n0 + 3, 0, none⟩)), (7, .int .i64 ((p.1 : Nat) : Int))], [], H0 ++ [.cells true [.slice none 0 0, .slice none 0 0] 1, .cells true vb 1, .cells true vc 1, .cells true [.slice (some ⟨n0 + 1, 0, none⟩) nb nb, .slice (some ⟨n0 + 2, 0, none⟩) names.length names.length] 1]⟩) (fun p => names.length - p.1) (x0 := (1, List.replicate nb 0, List.replicate names.length 0)) ?h0 ?round
          case h0 => exact ⟨Nat.le_refl _, by omega, rfl, List.length_replicate, List.length_replicate, _, _, rfl, rfl, rfl⟩
          case round =>
            rintro ⟨i, B, C⟩ _ ⟨hi1, hi2, hBC, hBl, hCl, vb, vc, rfl, rfl, rfl⟩
            dsimp only at hi1 hi2 hBC hBl hCl
            subst hBl
            show awp _ _ _ _ _ _ (⟨60, U [(0, .slice (some ⟨bN, oN, none⟩) names.length cN), (4, .pointer (some ⟨n0 + 0, 0, none⟩)), (6, .pointer (some ⟨n0 + 3, 0, none⟩)), (7, .int .i64 ((i : Nat) : Int))], [], H0 ++ [.cells true [.slice none 0 0, .slice none 0 0] 1, .cells true (B.map u32v) 1, .cells true (C.map u32v) 1, .cells true [.slice (some ⟨n0 + 1, 0, none⟩) B.length B.length, .slice (some ⟨n0 + 2, 0, none⟩) names.length names.length] 1]⟩ : ASt)
            refine awp_seq ?_
            refine awp_seq ?_
            refine awp_reg hF ?_
            refine sv hF (gyes_none rfl) (q_mv (by conv => lhs; whnf)) rfl (by decide) (cok1 trivial) ?_
            refine sv hF (gyes_none rfl) (q_mv (by conv => lhs; whnf)) rfl (by decide) (cok1 trivial) ?_
            refine sv hF (gyes_none rfl) (q_len_sl Try.underlying22 (hN.app _) rfl) rfl (by decide) (call_ok rfl) ?_
            refine svb hF (gyes_none rfl) (q_int rfl rfl rfl) rfl (by decide) (cok2 trivial trivial) (fun c5 => ?_) (fun c5 => ?_)
            ·
              try simp only [decide_eq_true_eq] at c5
              have hi : i < names.length := by omega
              have hk : hash names[i] % B.length < B.length := Nat.mod_lt _ (by omega)
              refine ⟨_, Wk.refl _ _, ?_⟩
              show awp _ _ _ _ _ _ _
              refine awp_cond_t rfl ?_
              refine awp_skip_wk ?_
              refine ⟨_, Wk.refl _ _, ?_⟩
              show awp _ _ _ _ _ _ _
              refine awp_seq ?_
              refine awp_block ?_
              refine awp_seq ?_
              refine awp_regt hF hM (by kernel_rfl) (by kernel_rfl) ?_
              refine dv (gyes_none rfl) (q_loadAgg Try.isAgg26 Try.sizeOf26 rfl (by first | exact loc_rd h0 rfl | exact frm_rd (by assumption) | exact frm_rd' (by assumption) | assumption) (by first | (simp; done) | exact Nat.le_of_ble_eq_true rfl) rfl) rfl (by decide) (cok1 trivial) ?_
              refine dv (gyes_none rfl) (q_mv (by conv => lhs; whnf)) rfl (by decide) (cok1 trivial) ?_
              refine dv (gyes_none rfl) (q_mv (by conv => lhs; whnf)) rfl (by decide) (cok1 trivial) ?_
              refine dv (gyes_none rfl) (q_index1 Try.underlying22 Try.sizeOf9 rfl rfl hi (frm_rd' hRN)) rfl (by decide) (call_ok rfl) ?_
              refine dv (gyes_none rfl) (q_load Try.isAgg9 rfl (frm_rd' hRN) (hgN _ hi)) rfl (by decide) (call_ok rfl) ?_
              refine dv (gyes_none rfl) (q_call0 Try.call20 rfl (bucket_ok (loc_len h0 rfl) names[i] (hNs _ (List.getElem_mem hi)) B _ _ (sl_full (loc_rd h0 rfl) rfl (Nat.le_refl _)) (by omega) (by omega))) rfl (by decide) (call_ok rfl) ?_
              refine dv (gyes_none rfl) (q_as (by conv => lhs; whnf)) rfl (by decide) (cok1 trivial) ?_
              refine ⟨_, Wk.refl _ _, ?_⟩
              show awp _ _ _ _ _ _ _
              refine awp_regt hF hM (by kernel_rfl) (by kernel_rfl) ?_
              refine dv (gyes_none rfl) (q_field Try.underlying26 rfl Try.sizeOf24 rfl (by first | exact loc_rd h0 rfl | exact frm_rd (by assumption) | exact frm_rd' (by assumption) | assumption)) rfl (by decide) (cok1 trivial) ?_
              refine dv (gyes_none rfl) (q_load Try.isAgg24 rfl (by first | exact loc_rd h0 rfl | exact frm_rd (by assumption) | exact frm_rd' (by assumption) | assumption) rfl) rfl (by decide) (cok1 trivial) ?_
              refine dv (gyes_none rfl) (q_mv (by conv => lhs; whnf)) rfl (by decide) (cok1 trivial) ?_
              refine dv (gyes_none rfl) (q_field Try.underlying26 rfl Try.sizeOf24 rfl (by first | exact loc_rd h0 rfl | exact frm_rd (by assumption) | exact frm_rd' (by assumption) | assumption)) rfl (by decide) (cok1 trivial) ?_
              refine dv (gyes_none rfl) (q_load Try.isAgg24 rfl (by first | exact loc_rd h0 rfl | exact frm_rd (by assumption) | exact frm_rd' (by assumption) | assumption) rfl) rfl (by decide) (cok1 trivial) ?_
              refine dv (gyes_none rfl) (q_mv (by conv => lhs; whnf)) rfl (by decide) (cok1 trivial) ?_
              refine dv (gyes_none rfl) (q_field Try.underlying26 rfl Try.sizeOf24 rfl (by first | exact loc_rd h0 rfl | exact frm_rd (by assumption) | exact frm_rd' (by assumption) | assumption)) rfl (by decide) (cok1 trivial) ?_
              refine dv (gyes_none rfl) (q_load Try.isAgg24 rfl (by first | exact loc_rd h0 rfl | exact frm_rd (by assumption) | exact frm_rd' (by assumption) | assumption) rfl) rfl (by decide) (cok1 trivial) ?_
              refine dv (gyes_none rfl) (q_mv (by conv => lhs; whnf)) rfl (by decide) (cok1 trivial) ?_
              refine dv (gyes_none rfl) (q_index1 Try.underlying24 Try.sizeOf31 rfl rfl hk (loc_rd h0 rfl)) rfl (by decide) (call_ok rfl) ?_
              refine dv (gyes_none rfl) (q_load Try.isAgg31 rfl (loc_rd h0 rfl) (get_map hk)) rfl (by decide) (call_ok rfl) ?_
              refine dv (gyes_none rfl) (q_mv (by conv => lhs; whnf)) rfl (by decide) (cok1 trivial) ?_
              refine dv (gyes_none rfl) (q_convin Try.underlying3 Try.underlying31 rfl (u32_in (by omega))) rfl (by decide) (call_ok rfl) ?_
              refine dv (gyes_none rfl) (q_index1 Try.underlying24 Try.sizeOf31 rfl rfl hi (loc_rd h0 rfl)) rfl (by decide) (call_ok rfl) ?_
              refine df_store1 hF [3, 4, 5, 11, 12] (by kernel_rfl) (gyes_none rfl) rfl Try.sizeOf31 rfl (by conv => lhs; whnf) (by first | exact loc_get h0 rfl | exact frm_get (by assumption)) (by first | exact lc_scalar rfl | exact lc_slice (Rd.live (by first | exact loc_rd h0 rfl | exact frm_rd (by assumption) | exact frm_rd' (by assumption) | assumption)) | exact lc_ptr (Rd.live (by first | exact loc_rd h0 rfl | exact frm_rd (by assumption) | exact frm_rd' (by assumption) | assumption))) (by rw [List.length_map]; omega) trivial trivial (by first | exact loc_set h0 _ | exact frm_set _ (by assumption) _) rfl rfl ⟨pend_yes rfl (gyes_none rfl) (q_field Try.underlying26 rfl Try.sizeOf24 rfl (by first | exact loc_rd h0 rfl | exact frm_rd (by assumption) | exact frm_rd' (by assumption) | assumption)) rfl (by decide) (cok1 trivial) rfl, pend_yes rfl (gyes_none rfl) (q_load Try.isAgg24 rfl (by first | exact loc_rd h0 rfl | exact frm_rd (by assumption) | exact frm_rd' (by assumption) | assumption) rfl) rfl (by decide) (cok1 trivial) rfl, pend_yes rfl (gyes_none rfl) (q_mv rfl) rfl (by decide) (cok1 trivial) rfl, pend_yes rfl (gyes_none rfl) (q_mv rfl) rfl (by decide) (cok1 trivial) rfl, pend_yes rfl (gyes_none rfl) (q_convin Try.underlying3 Try.underlying31 rfl (u32_in (by omega))) rfl (by decide) (call_ok rfl) rfl, trivial⟩ ?_
              refine dv (gyes_none rfl) (q_index1 Try.underlying24 Try.sizeOf31 rfl rfl hk (loc_rd h0 rfl)) rfl (by decide) (call_ok rfl) ?_
              refine de_store1 hF (by kernel_rfl) (gyes_none rfl) rfl Try.sizeOf31 rfl (by conv => lhs; whnf) (by first | exact loc_get h0 rfl | exact frm_get (by assumption)) (by first | exact lc_scalar rfl | exact lc_slice (Rd.live (by first | exact loc_rd h0 rfl | exact frm_rd (by assumption) | exact frm_rd' (by assumption) | assumption)) | exact lc_ptr (Rd.live (by first | exact loc_rd h0 rfl | exact frm_rd (by assumption) | exact frm_rd' (by assumption) | assumption))) (by rw [List.length_map]; omega) trivial trivial (by first | exact loc_set h0 _ | exact frm_set _ (by assumption) _) ?_
              refine ⟨_, Wk.refl _ _, ?_⟩
              show awp _ _ _ _ _ _ _
              refine awp_reg hF ?_
              refine sv hF (gyes_none rfl) (q_mv (by conv => lhs; whnf)) rfl (by decide) (cok1 trivial) ?_
              refine sv hF (gyes_none rfl) (by first | exact q_add64 rfl rfl (by omega) | exact q_int rfl rfl rfl) rfl (by decide) (cok2 trivial (cconst rfl)) ?_
              refine sv hF (gyes_none rfl) (q_as (by conv => lhs; whnf)) rfl (by decide) (cok1 trivial) ?_
              refine ⟨_, Wk.U [(0, .slice (some ⟨bN, oN, none⟩) names.length cN), (4, .pointer (some ⟨n0 + 0, 0, none⟩)), (6, .pointer (some ⟨n0 + 3, 0, none⟩)), (7, .int .i64 (((i + 1) : Nat) : Int))] ⟨rfl, rfl, rfl, rfl, trivial⟩, (i + 1, B.set (hash names[i] % B.length) i, C.set i B[hash names[i] % B.length]), ⟨by show 1 ≤ i + 1; omega, hi, build_step hi hi1 hk hBC, List.length_set, by rw [List.length_set]; exact hCl, _, _, set_map _ _, set_map _ _, rfl⟩, show names.length - (i + 1) < names.length - i by omega⟩
            ·
              try simp only [decide_eq_false_iff_not] at c5
              refine ⟨_, Wk.refl _ _, ?_⟩
              show awp _ _ _ _ _ _ _
              refine awp_cond_f rfl ?_
              refine awp_exit_wk ?_
              refine ⟨_, Wk.refl _ _, ?_⟩
              show awp _ _ _ _ _ _ _
              refine awp_seq ?_
              refine awp_reg hF ?_
              refine sv hF (gyes_none rfl) (q_loadAgg Try.isAgg26 Try.sizeOf26 rfl (by first | exact loc_rd h0 rfl | exact frm_rd (by assumption) | exact frm_rd' (by assumption) | assumption) (by first | (simp; done) | exact Nat.le_of_ble_eq_true rfl) rfl) rfl (by decide) (cok1 trivial) ?_
              refine se_store hF (gyes_none rfl) rfl Try.sizeOf26 rfl (by conv => lhs; whnf) (by first | exact loc_get h0 rfl | exact frm_get (by assumption)) rfl rfl (by exact trivial) (by exact (lcs2 (lc_slice (loc_rd h0 rfl).live) (lc_slice (loc_rd h0 rfl).live))) (by first | (simp; done) | exact Nat.le_of_ble_eq_true rfl) trivial trivial (by first | exact loc_set h0 _ | exact frm_set _ (by assumption) _) ?_
              refine sv hF (gyes_none rfl) (q_as (by conv => lhs; whnf)) rfl (by decide) (cok1 (cconst rfl)) ?_
              refine ⟨_, Wk.refl _ _, ?_⟩
              show awp _ _ _ _ _ _ _
              refine awp_ret_wk ?_
              refine ⟨_, Wk.refl _ _, ?_⟩
              repeat (with_reducible first | refine then_ret ?_ | refine blk_ret ?_ | refine then_exit ?_ | refine blk_exit ?_ | refine blk_exit' (by decide) ?_ | refine blk_normal ?_ | refine then_normal ?_ | refine retq_ret ?_ | refine retq_normal ?_ | refine ng_normal ?_ | refine ng_ret ?_ | refine ng_exit ?_)
              obtain rfl : i = names.length := by omega
              rw [← Int.toNat_natCast B.length] at hBC
              refine ret_keep [1, 2] (L2 := [.cells true (B.map u32v) 1, .cells true (C.map u32v) 1]) rfl h0 (.agg rfl Try.isAgg26 Try.sizeOf26 (loc_rd h0 rfl) (Nat.le_of_ble_eq_true rfl) rfl (.tmp rfl .nil)) (by decide) ⟨⟨_, rfl, .cells (.scalars (all_u32v _))⟩, by simp, ⟨⟨_, rfl, .cells (.scalars (all_u32v _))⟩, by simp, trivial⟩⟩ (v2 := buildV (n0 + 0) (n0 + 1) B.length names.length) ?_ ⟨fun h => ⟨rfl, ?_⟩, fun h => ?_⟩
              · refine .tuple rfl fun j hj => ?_
                match j, hj with
                | 0, _ => exact .agg rfl fun j hj => (match j, hj with | 0, _ => .slice (keep_new rfl) | 1, _ => .slice (keep_new rfl))
                | 1, _ => exact .scalar rfl
              · rw [← hBC]
              · exact absurd ⟨by omega, by omega, by omega, by omega⟩ h

end Go.Proofs.YtmoldjiooccppaaA


/-
  Walks of functions of the given program, and what they compute.
-/
namespace Go.Proofs.YtmoldjiooccppaaA
set_option linter.unusedVariables false
open Go Go.RowKit Go.Shelf Go.Proofs
/-- The walk of a name. -/
def walkGo (C : List Nat) : Nat → Nat → List Nat
  | 0, _ => []
  | n + 1, x => if h : x = 0 ∨ C.length ≤ x then [] else x :: walkGo C n (C[x]'(by omega))
def walkL (B C : List Nat) (s : ByteArray) : List Nat := if h : 0 < B.length then walkGo C C.length (B[hash s % B.length]'(Nat.mod_lt _ h)) else []
theorem go_stop {C : List Nat} {n x : Nat} (h : x = 0 ∨ C.length ≤ x) : walkGo C n x = [] := by
  cases n with
  | zero => rfl
  | succ n => unfold walkGo; rw [dif_pos h]
theorem go_step {C : List Nat} {n x : Nat} (hn : 0 < n) (h0 : x ≠ 0) (h : x < C.length) : walkGo C n x = x :: walkGo C (n - 1) C[x] := by
  cases n with
  | zero => omega
  | succ n => rw [walkGo, dif_neg (by omega)]; rfl
theorem walk_nil {B C : List Nat} {s : ByteArray} (h : B.length = 0) : walkL B C s = [] := by unfold walkL; rw [dif_neg (by omega)]
theorem walk_pos {B C : List Nat} {s : ByteArray} (h : 0 < B.length) : walkL B C s = walkGo C C.length (B[hash s % B.length]'(Nat.mod_lt _ h)) := by unfold walkL; rw [dif_pos h]
theorem drop_end {α : Type} {l : List α} {k : Nat} (h : l.drop k = []) (hk : k ≤ l.length) : k = l.length := by
  have := List.drop_eq_nil_iff.1 h; omega
theorem drop_step {α : Type} {l l' : List α} {k : Nat} {x : α} (h : l.drop k = x :: l') : l[k]? = some x ∧ l.drop (k + 1) = l' ∧ k + 1 ≤ l.length := by
  refine ⟨?_, ?_, ?_⟩
  · have := congrArg (fun l => l[0]?) h
    simpa using this
  · have := congrArg (List.drop 1) h
    rw [List.drop_drop] at this
    simpa [Nat.add_comm] using this
  · have := congrArg List.length h
    simp at this; omega
set_option maxRecDepth 100000 in
set_option maxHeartbeats 2000000 in
theorem walk1_ok {H0 : AHeap} {n0 : Nat} (h0 : H0.length = n0) (s : ByteArray) (hs : s.size ≤ 140737488355328) (B C : List Nat) (vB vC : Value) (hB1 : B.length < 4294967296) (hBv : ∀ x ∈ B, x < 4294967296) (hCv : ∀ x ∈ C, x < 4294967296) (hC1 : C.length ≤ 4294967296) (y : Value) (b1 b2 : Nat) (I E : Nat → AHeap → Prop) (h00 : I 0 H0)
    (hb : ∀ k H, I k H → H[b1]? = some (.cells true [vB, vC] 1) ∧ H[b2]? = some (.cells true [.string s] 1) ∧ Sl u32v H vB B ∧ Sl u32v H vC C)
    (hy : ∀ (k : Nat) H (x : Nat), I k H → (walkL B C s)[k]? = some x → Ylds Try.prog y [.int .i64 ((x : Nat) : Int)] H (fun b H' => (b = true → I (k + 1) H') ∧ (b = false → E (k + 1) H'))) : ACalls Try.prog 21 [y, .pointer (some ⟨b1, 0, none⟩), .pointer (some ⟨b2, 0, none⟩)] H0 (fun v H' => v = .tuple #[] ∧ (I (walkL B C s).length H' ∨ ∃ k, k < (walkL B C s).length ∧ E (k + 1) H')) := by
  have hF : Wd Fence.wide := .inl rfl
  have hM : Try.prog.follows .mixedOrders = true := by kernel_rfl
  obtain ⟨hb01, hb02, hSB0, hSC0⟩ := hb 0 H0 h00
  refine acalls_begin Try.func21 rfl Try.ntmps21 rfl ?_
  refine awp_seq ?_
  refine awp_seq ?_
  refine awp_reg hF ?_
  refine sv hF (gyes_none rfl) (q_field Try.underlying26 rfl Try.sizeOf24 rfl (by first | exact loc_rd h0 rfl | exact frm_rd (by assumption) | exact frm_rd' (by assumption) | assumption)) rfl (by decide) (cok1 trivial) ?_
  refine sv hF (gyes_none rfl) (q_load Try.isAgg24 rfl (by first | exact loc_rd h0 rfl | exact frm_rd (by assumption) | exact frm_rd' (by assumption) | assumption) rfl) rfl (by decide) (cok1 trivial) ?_
  refine sv hF (gyes_none rfl) (q_len_sl Try.underlying24 (Sl.app (hSB0) _) rfl) rfl (by decide) (call_ok rfl) ?_
  refine svb hF (gyes_none rfl) (q_int rfl rfl rfl) rfl (by decide) (cok2 trivial (cconst rfl)) (fun c1 => ?_) (fun c1 => ?_)
  ·
    try simp only [beq_iff_eq] at c1
    refine ⟨_, Wk.refl _ _, ?_⟩
    show awp _ _ _ _ _ _ _
    refine awp_cond_t rfl ?_
    refine awp_ret_wk ?_
    refine ⟨_, Wk.refl _ _, ?_⟩
    repeat (with_reducible first | refine then_ret ?_ | refine blk_ret ?_ | refine then_exit ?_ | refine blk_exit ?_ | refine blk_exit' (by decide) ?_ | refine blk_normal ?_ | refine then_normal ?_ | refine retq_ret ?_ | refine retq_normal ?_ | refine ng_normal ?_ | refine ng_ret ?_ | refine ng_exit ?_)
    exact ret_same rfl .nil rfl ⟨rfl, .inl (by rw [walk_nil (by omega)]; exact h00)⟩
  ·
    try simp only [beq_eq_false_iff_ne, ne_eq] at c1
    have hB0 : 0 < B.length := by omega
    have hm : hash s % B.length < B.length := Nat.mod_lt _ hB0
    obtain ⟨bB, oB, cB, vsB, rfl, hRB, hlB, hcB, hgB⟩ := hSB0.get hB0
    refine ⟨_, Wk.refl _ _, ?_⟩
    show awp _ _ _ _ _ _ _
    refine awp_cond_f rfl ?_
    refine awp_skip_wk ?_
    refine ⟨_, Wk.refl _ _, ?_⟩
    show awp _ _ _ _ _ _ _
    refine awp_seq ?_
    refine awp_regt hF hM (by kernel_rfl) (by kernel_rfl) ?_
    refine dv (gyes_none rfl) (q_field Try.underlying26 rfl Try.sizeOf24 rfl (by first | exact loc_rd h0 rfl | exact frm_rd (by assumption) | exact frm_rd' (by assumption) | assumption)) rfl (by decide) (cok1 trivial) ?_
    refine dv (gyes_none rfl) (q_load Try.isAgg24 rfl (by first | exact loc_rd h0 rfl | exact frm_rd (by assumption) | exact frm_rd' (by assumption) | assumption) rfl) rfl (by decide) (cok1 trivial) ?_
    refine dv (gyes_none rfl) (q_loadAgg Try.isAgg26 Try.sizeOf26 rfl (by first | exact loc_rd h0 rfl | exact frm_rd (by assumption) | exact frm_rd' (by assumption) | assumption) (by first | (simp; done) | exact Nat.le_of_ble_eq_true rfl) rfl) rfl (by decide) (cok1 trivial) ?_
    refine dv (gyes_none rfl) (q_load Try.isAgg9 rfl (by first | exact loc_rd h0 rfl | exact frm_rd (by assumption) | exact frm_rd' (by assumption) | assumption) rfl) rfl (by decide) (cok1 trivial) ?_
    refine dv (gyes_none rfl) (q_call0 Try.call20 rfl (bucket_ok (loc_len h0 rfl) s hs B _ vC (hSB0.app _) hB0 hB1)) rfl (by decide) (call_ok rfl) ?_
    refine dv (gyes_none rfl) (q_index1 Try.underlying24 Try.sizeOf31 rfl rfl hm (frm_rd' hRB)) rfl (by decide) (call_ok rfl) ?_
    refine dv (gyes_none rfl) (q_load Try.isAgg31 rfl (frm_rd' hRB) (hgB _ hm)) rfl (by decide) (call_ok rfl) ?_
    refine dv (gyes_none rfl) (q_as (by conv => lhs; whnf)) rfl (by decide) (cok1 trivial) ?_
    refine ⟨_, Wk.refl _ _, ?_⟩
    show awp _ _ _ _ _ _ _
    refine awp_seq ?_
    refine awp_reg hF ?_
    refine sv hF (gyes_none rfl) (q_field Try.underlying26 rfl Try.sizeOf24 rfl (by first | exact loc_rd h0 rfl | exact frm_rd (by assumption) | exact frm_rd' (by assumption) | assumption)) rfl (by decide) (cok1 trivial) ?_
    refine sv hF (gyes_none rfl) (q_load Try.isAgg24 rfl (by first | exact loc_rd h0 rfl | exact frm_rd (by assumption) | exact frm_rd' (by assumption) | assumption) rfl) rfl (by decide) (cok1 trivial) ?_
    refine sv hF (gyes_none rfl) (q_len_sl Try.underlying24 (Sl.app (hSC0) _) rfl) rfl (by decide) (call_ok rfl) ?_
    refine sv hF (gyes_none rfl) (q_mv (by conv => lhs; whnf)) rfl (by decide) (cok1 (cconst rfl)) ?_
    refine ⟨_, Wk.refl _ _, ?_⟩
    show awp _ _ _ _ _ _ _
    refine awp_block ?_
    refine awp_wk (Wk.U [(0, y), (1, .pointer (some ⟨b1, 0, none⟩)), (2, .pointer (some ⟨b2, 0, none⟩)), (4, .int .u32 ((B[hash s % B.length]'hm : Nat) : Int)), (18, .int .i64 ((C.length : Nat) : Int)), (19, .int .i64 ((0 : Nat) : Int))] ⟨rfl, rfl, rfl, rfl, rfl, rfl, trivial⟩) ?_
    refine awp_loop (fun (p : Nat × Nat × AHeap) st => (walkL B C s).drop p.1 = walkGo C (C.length - p.1) p.2.1 ∧ p.1 ≤ (walkL B C s).length ∧ p.1 ≤ C.length ∧ p.2.1 < 4294967296 ∧ I p.1 p.2.2 ∧ st = ⟨44, U [(0, y), (1, .pointer (some ⟨b1, 0, none⟩)), (2, .pointer (some ⟨b2, 0, none⟩)), (4, .int .u32 ((p.2.1 : Nat) : Int)), (18, .int .i64 ((C.length : Nat) : Int)), (19, .int .i64 ((p.1 : Nat) : Int))], [], p.2.2 ++ []⟩) (fun p => C.length - p.1) (x0 := (0, B[hash s % B.length]'hm, H0)) ?h0 ?round
    case h0 => exact ⟨walk_pos hB0, Nat.zero_le _, Nat.zero_le _, hBv _ (List.getElem_mem hm), h00, rfl⟩
    case round =>
      rintro ⟨k, x, H⟩ _ ⟨hw, hk, hkC, hx, hI, rfl⟩
      dsimp only at hw hk hkC hx hI
      obtain ⟨hb1, hb2, hSB, hSC⟩ := hb k H hI
      show awp _ _ _ _ _ _ (⟨44, U [(0, y), (1, .pointer (some ⟨b1, 0, none⟩)), (2, .pointer (some ⟨b2, 0, none⟩)), (4, .int .u32 ((x : Nat) : Int)), (18, .int .i64 ((C.length : Nat) : Int)), (19, .int .i64 ((k : Nat) : Int))], [], H ++ []⟩ : ASt)
      refine awp_seq ?_
      refine awp_reg hF ?_
      refine svb hF (gyes_none rfl) (q_int rfl rfl rfl) rfl (by decide) (cok2 trivial trivial) (fun c2 => ?_) (fun c2 => ?_)
      ·
        try simp only [decide_eq_true_eq] at c2
        refine ⟨_, Wk.refl _ _, ?_⟩
        show awp _ _ _ _ _ _ _
        refine awp_seq ?_
        refine awp_cond_t rfl ?_
        refine awp_skip_wk ?_
        refine ⟨_, Wk.refl _ _, ?_⟩
        show awp _ _ _ _ _ _ _
        refine awp_seq ?_
        refine awp_block ?_
        refine awp_seq ?_
        refine awp_seq ?_
        refine awp_reg hF ?_
        refine sv hF (gyes_none rfl) (q_mv (by conv => lhs; whnf)) rfl (by decide) (cok1 trivial) ?_
        refine svb hF (gyes_none rfl) (q_int rfl rfl rfl) rfl (by decide) (cok2 trivial (cconst rfl)) (fun c3 => ?_) (fun c3 => ?_)
        ·
          try simp only [beq_iff_eq] at c3
          refine sv hF (gyes_none rfl) (q_mv (by conv => lhs; whnf)) rfl (by decide) (cok1 trivial) ?_
          refine sno rfl (.inl rfl) rfl (by decide) ?_
          refine sno rfl (.inl rfl) rfl (by decide) ?_
          refine sno rfl (.inl rfl) rfl (by decide) ?_
          refine sno rfl (.inl rfl) rfl (by decide) ?_
          refine sno rfl (.inl rfl) rfl (by decide) ?_
          refine sno rfl (.inl rfl) rfl (by decide) ?_
          refine sv hF (gyes_none rfl) (q_pt rfl (by conv => lhs; whnf)) rfl (by decide) (call_ok rfl) ?_
          refine sv hF (gyes_none rfl) (q_mv (by conv => lhs; whnf)) rfl (by decide) (cok1 trivial) ?_
          refine sno rfl (.inl rfl) rfl (by decide) ?_
          refine sno rfl (.inl rfl) rfl (by decide) ?_
          refine sno rfl (.inl rfl) rfl (by decide) ?_
          refine sno rfl (.inl rfl) rfl (by decide) ?_
          refine sno rfl (.inl rfl) rfl (by decide) ?_
          refine sv hF (gyes_none rfl) (q_pt rfl (by conv => lhs; whnf)) rfl (by decide) (call_ok rfl) ?_
          refine ⟨_, Wk.refl _ _, ?_⟩
          show awp _ _ _ _ _ _ _
          refine awp_cond_t rfl ?_
          refine awp_ret_wk ?_
          refine ⟨_, Wk.refl _ _, ?_⟩
          repeat (with_reducible first | refine then_ret ?_ | refine blk_ret ?_ | refine then_exit ?_ | refine blk_exit ?_ | refine blk_exit' (by decide) ?_ | refine blk_normal ?_ | refine then_normal ?_ | refine retq_ret ?_ | refine retq_normal ?_ | refine ng_normal ?_ | refine ng_ret ?_ | refine ng_exit ?_)
          have e := drop_end (hw.trans (go_stop (by omega))) hk
          subst e
          exact ret_same rfl .nil rfl ⟨rfl, .inl hI⟩
        ·
          try simp only [beq_eq_false_iff_ne, ne_eq] at c3
          refine sv hF (gyes_none rfl) (q_mv (by conv => lhs; whnf)) rfl (by decide) (cok1 trivial) ?_
          refine sv hF (gyes_some rfl rfl) (q_mv (by conv => lhs; whnf)) rfl (by decide) (cok1 trivial) ?_
          refine sv hF (gyes_some rfl rfl) (q_convin Try.underlying31 Try.underlying3 rfl (i64_in (by omega))) rfl (by decide) (call_ok rfl) ?_
          refine sv hF (gyes_some rfl rfl) (q_field Try.underlying26 rfl Try.sizeOf24 rfl (by first | exact loc_rd h0 rfl | exact frm_rd (by assumption) | exact frm_rd' (by assumption) | assumption)) rfl (by decide) (cok1 trivial) ?_
          refine sv hF (gyes_some rfl rfl) (q_load Try.isAgg24 rfl (by first | exact loc_rd h0 rfl | exact frm_rd (by assumption) | exact frm_rd' (by assumption) | assumption) rfl) rfl (by decide) (cok1 trivial) ?_
          refine sv hF (gyes_some rfl rfl) (q_len_sl Try.underlying24 (Sl.app (hSC) _) rfl) rfl (by decide) (call_ok rfl) ?_
          refine svb hF (gyes_some rfl rfl) (q_int rfl rfl rfl) rfl (by decide) (cok2 trivial trivial) (fun c4 => ?_) (fun c4 => ?_)
          ·
            try simp only [decide_eq_true_eq] at c4
            refine sv hF (gyes_none rfl) (q_pf rfl (by conv => lhs; whnf)) rfl (by decide) (call_ok rfl) ?_
            refine sv hF (gyes_none rfl) (q_mv (by conv => lhs; whnf)) rfl (by decide) (cok1 trivial) ?_
            refine sno rfl (.inl rfl) rfl (by decide) ?_
            refine sno rfl (.inl rfl) rfl (by decide) ?_
            refine sno rfl (.inl rfl) rfl (by decide) ?_
            refine sno rfl (.inl rfl) rfl (by decide) ?_
            refine sno rfl (.inl rfl) rfl (by decide) ?_
            refine sv hF (gyes_none rfl) (q_pt rfl (by conv => lhs; whnf)) rfl (by decide) (call_ok rfl) ?_
            refine ⟨_, Wk.refl _ _, ?_⟩
            show awp _ _ _ _ _ _ _
            refine awp_cond_t rfl ?_
            refine awp_ret_wk ?_
            refine ⟨_, Wk.refl _ _, ?_⟩
            repeat (with_reducible first | refine then_ret ?_ | refine blk_ret ?_ | refine then_exit ?_ | refine blk_exit ?_ | refine blk_exit' (by decide) ?_ | refine blk_normal ?_ | refine then_normal ?_ | refine retq_ret ?_ | refine retq_normal ?_ | refine ng_normal ?_ | refine ng_ret ?_ | refine ng_exit ?_)
            have e := drop_end (hw.trans (go_stop (by omega))) hk
            subst e
            exact ret_same rfl .nil rfl ⟨rfl, .inl hI⟩
          ·
            try simp only [decide_eq_false_iff_not] at c4
            have hxC : x < C.length := by omega
            obtain ⟨hd1, hd2, hd3⟩ := drop_step (hw.trans (go_step (by omega) (by omega) hxC))
            refine sv hF (gyes_none rfl) (q_pf rfl (by conv => lhs; whnf)) rfl (by decide) (call_ok rfl) ?_
            refine sv hF (gyes_none rfl) (q_mv (by conv => lhs; whnf)) rfl (by decide) (cok1 trivial) ?_
            refine sv hF (gyes_some rfl rfl) (q_mv (by conv => lhs; whnf)) rfl (by decide) (cok1 trivial) ?_
            refine sv hF (gyes_some rfl rfl) (q_mv (by conv => lhs; whnf)) rfl (by decide) (cok1 trivial) ?_
            refine sv hF (gyes_some rfl rfl) (q_convin Try.underlying31 Try.underlying3 rfl (i64_in (by omega))) rfl (by decide) (call_ok rfl) ?_
            refine se_yield (gyes_some rfl rfl) rfl rfl (hy k H x hI hd1) (by first | exact trivial | (show _ < _; decide)) (call_ok rfl) ?_
            intro b H' hR
            refine svb hF (gyes_some rfl rfl) (q_not rfl) rfl (by decide) (cok1 trivial) (fun c5 => ?_) (fun c5 => ?_)
            ·
              try simp only [Bool.not_eq_true'] at c5
              refine sv hF (gyes_none rfl) (q_pf rfl (by conv => lhs; whnf)) rfl (by decide) (call_ok rfl) ?_
              refine ⟨_, Wk.refl _ _, ?_⟩
              show awp _ _ _ _ _ _ _
              refine awp_cond_t rfl ?_
              refine awp_ret_wk ?_
              refine ⟨_, Wk.refl _ _, ?_⟩
              repeat (with_reducible first | refine then_ret ?_ | refine blk_ret ?_ | refine then_exit ?_ | refine blk_exit ?_ | refine blk_exit' (by decide) ?_ | refine blk_normal ?_ | refine then_normal ?_ | refine retq_ret ?_ | refine retq_normal ?_ | refine ng_normal ?_ | refine ng_ret ?_ | refine ng_exit ?_)
              exact ret_same rfl .nil rfl ⟨rfl, .inr ⟨k, by omega, hR.2 c5⟩⟩
            ·
              try simp only [Bool.not_eq_false'] at c5
              have hI2 := hR.1 c5
              obtain ⟨hb1', hb2', hSB', hSC'⟩ := hb (k + 1) H' hI2
              obtain ⟨bC, oC, cC, vsC, rfl, hRC, hlC, hcC, hgC⟩ := hSC'.get hxC
              refine sv hF (gyes_none rfl) (q_pf rfl (by conv => lhs; whnf)) rfl (by decide) (call_ok rfl) ?_
              refine ⟨_, Wk.refl _ _, ?_⟩
              show awp _ _ _ _ _ _ _
              refine awp_cond_f rfl ?_
              refine awp_skip_wk ?_
              refine ⟨_, Wk.refl _ _, ?_⟩
              show awp _ _ _ _ _ _ _
              refine awp_reg hF ?_
              refine sv hF (gyes_none rfl) (q_field Try.underlying26 rfl Try.sizeOf24 rfl (by first | exact loc_rd h0 rfl | exact frm_rd (by assumption) | exact frm_rd' (by assumption) | assumption)) rfl (by decide) (cok1 trivial) ?_
              refine sv hF (gyes_none rfl) (q_load Try.isAgg24 rfl (by first | exact loc_rd h0 rfl | exact frm_rd (by assumption) | exact frm_rd' (by assumption) | assumption) rfl) rfl (by decide) (cok1 trivial) ?_
              refine sv hF (gyes_none rfl) (q_mv (by conv => lhs; whnf)) rfl (by decide) (cok1 trivial) ?_
              refine sv hF (gyes_none rfl) (q_index1 Try.underlying24 Try.sizeOf31 rfl rfl hxC (frm_rd' hRC)) rfl (by decide) (call_ok rfl) ?_
              refine sv hF (gyes_none rfl) (q_load Try.isAgg31 rfl (frm_rd' hRC) (hgC _ hxC)) rfl (by decide) (call_ok rfl) ?_
              refine sv hF (gyes_none rfl) (q_as (by conv => lhs; whnf)) rfl (by decide) (cok1 trivial) ?_
              refine ⟨_, Wk.refl _ _, ?_⟩
              show awp _ _ _ _ _ _ _
              refine awp_reg hF ?_
              refine sv hF (gyes_none rfl) (by first | exact q_add64 rfl rfl (by omega) | exact q_int rfl rfl rfl) rfl (by decide) (cok2 trivial (cconst rfl)) ?_
              refine sv hF (gyes_none rfl) (q_mv (by conv => lhs; whnf)) rfl (by decide) (cok1 trivial) ?_
              refine ⟨_, Wk.U [(0, y), (1, .pointer (some ⟨b1, 0, none⟩)), (2, .pointer (some ⟨b2, 0, none⟩)), (4, .int .u32 ((C[x] : Nat) : Int)), (18, .int .i64 ((C.length : Nat) : Int)), (19, .int .i64 (((k + 1) : Nat) : Int))] ⟨rfl, rfl, rfl, rfl, rfl, rfl, trivial⟩, (k + 1, C[x], H'), ⟨by rw [hd2, show C.length - (k + 1) = C.length - k - 1 by omega], hd3, by omega, hCv _ (List.getElem_mem hxC), hI2, rfl⟩, show C.length - (k + 1) < C.length - k by omega⟩
      ·
        try simp only [decide_eq_false_iff_not] at c2
        refine ⟨_, Wk.refl _ _, ?_⟩
        show awp _ _ _ _ _ _ _
        refine awp_seq ?_
        refine awp_cond_f rfl ?_
        refine awp_exit_wk ?_
        refine ⟨_, Wk.refl _ _, ?_⟩
        repeat (with_reducible first | refine then_ret ?_ | refine blk_ret ?_ | refine then_exit ?_ | refine blk_exit ?_ | refine blk_exit' (by decide) ?_ | refine blk_normal ?_ | refine then_normal ?_ | refine retq_ret ?_ | refine retq_normal ?_ | refine ng_normal ?_ | refine ng_ret ?_ | refine ng_exit ?_)
        have e := drop_end (hw.trans (by rw [show C.length - k = 0 by omega]; rfl)) hk
        subst e
        exact ret_same rfl .nil rfl ⟨rfl, .inl hI⟩

end Go.Proofs.YtmoldjiooccppaaA


/-
  Walks of functions of the given program, and what they compute.
-/
namespace Go.Proofs.YtmoldjiooccppaaA
set_option linter.unusedVariables false
open Go Go.RowKit Go.Shelf Go.Proofs
/-- The first of some that has the name. -/
def hasName (names : List ByteArray) (s : ByteArray) (x : Nat) : Prop := names[x]? = some s
instance (names : List ByteArray) (s : ByteArray) (x : Nat) : Decidable (hasName names s x) := inferInstanceAs (Decidable (names[x]? = some s))
def findL (l : List Nat) (names : List ByteArray) (s : ByteArray) : Option Nat := l.find? fun x => decide (hasName names s x)
def findV : Option Nat → Value
  | some x => .tuple #[.int .i64 (x : Nat), .bool true]
  | none => .tuple #[.int .i64 0, .bool false]
theorem take_all {l : List Nat} {k x : Nat} {p : Nat → Prop} (hx : l[k]? = some x) (h : ∀ y ∈ l.take k, ¬ p y) (hn : ¬ p x) : ∀ y ∈ l.take (k + 1), ¬ p y := by
  intro y hy
  rw [List.take_add_one, hx] at hy
  rcases List.mem_append.1 hy with h1 | h1
  · exact h y h1
  · simp at h1; subst h1; exact hn
theorem find_yes {l : List Nat} {k x : Nat} {p : Nat → Prop} [DecidablePred p] (hx : l[k]? = some x) (h : ∀ y ∈ l.take k, ¬ p y) (hp : p x) : l.find? (fun x => decide (p x)) = some x := by
  obtain ⟨hk, rfl⟩ := List.getElem?_eq_some_iff.1 hx
  rw [List.find?_eq_some_iff_append]
  refine ⟨by simpa using hp, l.take k, l.drop (k + 1), by simp, fun y hy => by simpa using h y hy⟩
theorem find_no {l : List Nat} {p : Nat → Prop} [DecidablePred p] (h : ∀ y ∈ l.take l.length, ¬ p y) : l.find? (fun x => decide (p x)) = none := by
  rw [List.find?_eq_none]
  intro y hy
  rw [List.take_length] at h
  simpa using h y hy
theorem has_yes {names : List ByteArray} {s : ByteArray} {x : Nat} (hx : x < names.length) (h : names[x] = s) : hasName names s x := by
  unfold hasName; rw [List.getElem?_eq_getElem hx, h]
theorem has_no {names : List ByteArray} {s : ByteArray} {x : Nat} (hx : x < names.length) (h : ¬ names[x] = s) : ¬ hasName names s x := by
  unfold hasName; rw [List.getElem?_eq_getElem hx]; simpa using h
theorem has_out {names : List ByteArray} {s : ByteArray} {x : Nat} (hx : ¬ x < names.length) : ¬ hasName names s x := by
  unfold hasName; rw [List.getElem?_eq_none (by omega)]; simp
set_option maxRecDepth 100000 in
set_option maxHeartbeats 2000000 in
theorem find_ok {H0 : AHeap} {n0 : Nat} (h0 : H0.length = n0) (s : ByteArray) (hs : s.size ≤ 140737488355328) (B C : List Nat) (names : List ByteArray) (vB vC vN : Value) (hSB : Sl u32v H0 vB B) (hSC : Sl u32v H0 vC C) (hN : Sl strv H0 vN names) (hB1 : B.length < 4294967296) (hBv : ∀ x ∈ B, x < 4294967296) (hCv : ∀ x ∈ C, x < 4294967296) (hC1 : C.length ≤ 4294967296) : ACalls Try.prog 13 [.agg #[vB, vC], .string s, vN] H0 (Rets (findV (findL (walkL B C s) names s)) H0) := by
  have hF : Wd Fence.wide := .inl rfl
  have hM : Try.prog.follows .mixedOrders = true := by kernel_rfl
  refine acalls_begin Try.func13 rfl Try.ntmps13 rfl ?_
  refine awp_seq ?_
  refine awp_reg hF ?_
  refine sn hF (gyes_none rfl) (q_boxN 1 (loc_len h0 rfl) (by conv => lhs; whnf) (by first | exact trivial | exact (Sl.lc (Sl.app (by assumption) _)).1) rfl) rfl (by decide) (cok1 trivial) (List.append_assoc _ _ _) ?_
  refine sn hF (gyes_none rfl) (q_boxN 1 (loc_len h0 rfl) (by conv => lhs; whnf) (by first | exact trivial | exact (Sl.lc (Sl.app (by assumption) _)).1) rfl) rfl (by decide) (cok1 trivial) (List.append_assoc _ _ _) ?_
  refine sn hF (gyes_none rfl) (q_boxN 1 (loc_len h0 rfl) (by conv => lhs; whnf) (by first | exact trivial | exact (Sl.lc (Sl.app (by assumption) _)).1) hN.cells) rfl (by decide) (cok1 trivial) (List.append_assoc _ _ _) ?_
  refine sn hF (gyes_none rfl) (q_allocN 1 (loc_len h0 rfl) Try.zeroValue3 (by first | exact flat_scalar rfl | exact flat_agg rfl) rfl) rfl (by decide) (by simp [Op.operands]) (List.append_assoc _ _ _) ?_
  refine sn hF (gyes_none rfl) (q_allocN 1 (loc_len h0 rfl) Try.zeroValue4 (by first | exact flat_scalar rfl | exact flat_agg rfl) rfl) rfl (by decide) (by simp [Op.operands]) (List.append_assoc _ _ _) ?_
  refine ⟨_, Wk.refl _ _, ?_⟩
  show awp _ _ _ _ _ _ _
  refine awp_seq ?_
  refine awp_seq ?_
  refine awp_reg hF ?_
  refine sv hF (gyes_none rfl) (q_loadAgg Try.isAgg26 Try.sizeOf26 rfl (by first | exact loc_rd h0 rfl | exact frm_rd (by assumption) | exact frm_rd' (by assumption) | assumption) (by first | (simp; done) | exact Nat.le_of_ble_eq_true rfl) rfl) rfl (by decide) (cok1 trivial) ?_
  refine sv hF (gyes_none rfl) (q_load Try.isAgg9 rfl (by first | exact loc_rd h0 rfl | exact frm_rd (by assumption) | exact frm_rd' (by assumption) | assumption) rfl) rfl (by decide) (cok1 trivial) ?_
  refine sn hF (gyes_none rfl) (q_call Try.call9 rfl (by simp [AObj.wr]) (walk_ok (b0 := n0 + 5) (b1 := n0 + 6) (loc_len h0 rfl) s vB vC rfl rfl)) rfl (by decide) (call_ok rfl) (List.append_assoc _ _ _) ?_
  refine ⟨_, Wk.refl _ _, ?_⟩
  show awp _ _ _ _ _ _ _
  refine awp_block ?_
  refine range_begin h0 (m := 7) rfl rfl Try.call21 (fun fn lp hlp => ?_)
  refine (walk1_ok (H0 := H0 ++ [.cells true [vB, vC] 1, .cells true [.string s] 1, .cells true [vN] 1, .cells true [.int .i64 0] 1, .cells true [.bool false] 1, .cells true [vB, vC] 1, .cells true [.string s] 1, .mark, lp .ready none]) rfl s hs B C vB vC hB1 hBv hCv hC1 _ (n0 + 5) (n0 + 6) (fun k H => H = H0 ++ [.cells true [vB, vC] 1, .cells true [.string s] 1, .cells true [vN] 1, .cells true [.int .i64 0] 1, .cells true [.bool false] 1, .cells true [vB, vC] 1, .cells true [.string s] 1, .mark, lp .ready none] ∧ ∀ y ∈ (walkL B C s).take k, ¬ hasName names s y)
    (fun k' H => ∃ k x, k' = k + 1 ∧ (walkL B C s)[k]? = some x ∧ hasName names s x ∧ (∀ y ∈ (walkL B C s).take k, ¬ hasName names s y) ∧ H = H0 ++ [.cells true [vB, vC] 1, .cells true [.string s] 1, .cells true [vN] 1, .cells true [.int .i64 ((x : Nat) : Int)] 1, .cells true [.bool true] 1, .cells true [vB, vC] 1, .cells true [.string s] 1, .mark, lp .done (some .ret)]) ?h00 ?hb ?round).mono ?after
  case h00 => exact ⟨rfl, fun y hy => by simp at hy⟩
  case hb =>
    rintro k H ⟨rfl, _⟩
    exact ⟨loc_get h0 rfl, loc_get h0 rfl, hSB.app _, hSC.app _⟩
  case round =>
    rintro k H x ⟨rfl, hk⟩ hx
    refine ylds_roundL hlp h0 rfl rfl rfl (fun l' hF => ?_)
    refine awp_reg hF ?_
    refine sv hF (gyes_none rfl) (q_as (by conv => lhs; whnf)) rfl (by decide) (cok1 trivial) ?_
    refine ⟨_, Wk.refl _ _, ?_⟩
    refine then_normal ?_
    refine ⟨_, _, rfl, rfl, ?body⟩
    case body =>
      show awp _ _ _ _ _ _ _
      refine awp_block ?_
      refine awp_seq ?_
      refine awp_regt hF hM (by kernel_rfl) (by kernel_rfl) ?_
      refine dv (gyes_none rfl) (q_mv (by conv => lhs; whnf)) rfl (by decide) (cok1 trivial) ?_
      refine dv (gyes_none rfl) (q_load Try.isAgg22 rfl (by first | exact loc_rd h0 rfl | exact frm_rd (by assumption) | exact frm_rd' (by assumption) | assumption) rfl) rfl (by decide) (cok1 trivial) ?_
      refine dv (gyes_none rfl) (q_len_sl Try.underlying22 (hN.app _) rfl) rfl (by decide) (call_ok rfl) ?_
      refine dvb (gyes_none rfl) (q_int rfl rfl rfl) rfl (by decide) (cok2 trivial trivial) (fun c1 => ?_) (fun c1 => ?_)
      ·
        try simp only [decide_eq_true_eq] at c1
        have hxl : x < names.length := by omega
        obtain ⟨bN, oN, cN, vsN, rfl, hRN, hlN, hcN, hgN⟩ := hN.get hxl
        refine dv (gyes_none rfl) (q_mv (by conv => lhs; whnf)) rfl (by decide) (cok1 trivial) ?_
        refine dv (gyes_some rfl rfl) (q_load Try.isAgg22 rfl (by first | exact loc_rd h0 rfl | exact frm_rd (by assumption) | exact frm_rd' (by assumption) | assumption) rfl) rfl (by decide) (cok1 trivial) ?_
        refine dv (gyes_some rfl rfl) (q_mv (by conv => lhs; whnf)) rfl (by decide) (cok1 trivial) ?_
        refine dv (gyes_some rfl rfl) (q_index1 Try.underlying22 Try.sizeOf9 rfl rfl hxl (frm_rd' hRN)) rfl (by decide) (call_ok rfl) ?_
        refine dv (gyes_some rfl rfl) (q_load Try.isAgg9 rfl (frm_rd' hRN) (hgN _ hxl)) rfl (by decide) (call_ok rfl) ?_
        refine dv (gyes_some rfl rfl) (q_load Try.isAgg9 rfl (by first | exact loc_rd h0 rfl | exact frm_rd (by assumption) | exact frm_rd' (by assumption) | assumption) rfl) rfl (by decide) (cok1 trivial) ?_
        refine dvb (gyes_some rfl rfl) (q_streq rfl rfl) rfl (by decide) (cok2 trivial trivial) (fun c2 => ?_) (fun c2 => ?_)
        ·
          try simp only [decide_eq_true_eq] at c2
          refine dv (gyes_none rfl) (q_pt rfl (by conv => lhs; whnf)) rfl (by decide) (call_ok rfl) ?_
          refine ⟨_, Wk.refl _ _, ?_⟩
          show awp _ _ _ _ _ _ _
          refine awp_cond_t rfl ?_
          refine awp_seq ?_
          refine awp_reg hF ?_
          refine sv hF (gyes_none rfl) (q_mv (by conv => lhs; whnf)) rfl (by decide) (cok1 trivial) ?_
          refine se_store1 hF (gyes_none rfl) rfl Try.sizeOf3 rfl (by conv => lhs; whnf) (by first | exact loc_get h0 rfl | exact frm_get (by assumption)) (by first | exact lc_scalar rfl | exact lc_slice (Rd.live (by first | exact loc_rd h0 rfl | exact frm_rd (by assumption) | exact frm_rd' (by assumption) | assumption)) | exact lc_ptr (Rd.live (by first | exact loc_rd h0 rfl | exact frm_rd (by assumption) | exact frm_rd' (by assumption) | assumption))) (by first | (simp; done) | exact Nat.le_of_ble_eq_true rfl) trivial trivial (by first | exact loc_set h0 _ | exact frm_set _ (by assumption) _) ?_
          refine se_store1 hF (gyes_none rfl) rfl Try.sizeOf4 rfl (by conv => lhs; whnf) (by first | exact loc_get h0 rfl | exact frm_get (by assumption)) (by first | exact lc_scalar rfl | exact lc_slice (Rd.live (by first | exact loc_rd h0 rfl | exact frm_rd (by assumption) | exact frm_rd' (by assumption) | assumption)) | exact lc_ptr (Rd.live (by first | exact loc_rd h0 rfl | exact frm_rd (by assumption) | exact frm_rd' (by assumption) | assumption))) (by first | (simp; done) | exact Nat.le_of_ble_eq_true rfl) trivial (cconst rfl) (by first | exact loc_set h0 _ | exact frm_set _ (by assumption) _) ?_
          refine ⟨_, Wk.refl _ _, ?_⟩
          show awp _ _ _ _ _ _ _
          refine awp_ret_wk ?_
          refine ⟨_, Wk.refl _ _, ?_⟩
          repeat (with_reducible first | refine then_ret ?_ | refine blk_ret ?_ | refine then_exit ?_ | refine blk_exit ?_ | refine blk_exit' (by decide) ?_ | refine blk_normal ?_ | refine then_normal ?_ | refine retq_ret ?_ | refine retq_normal ?_ | refine ng_normal ?_ | refine ng_ret ?_ | refine ng_exit ?_)
          exact ⟨_, rfl, rfl, (fun h => nomatch h), (fun _ => ⟨k, x, rfl, hx, has_yes hxl (by assumption), hk, rfl⟩)⟩
        ·
          try simp only [decide_eq_false_iff_not] at c2
          refine dv (gyes_none rfl) (q_pt rfl (by conv => lhs; whnf)) rfl (by decide) (call_ok rfl) ?_
          refine ⟨_, Wk.refl _ _, ?_⟩
          show awp _ _ _ _ _ _ _
          refine awp_cond_f rfl ?_
          refine awp_skip_wk ?_
          refine ⟨_, Wk.refl _ _, ?_⟩
          repeat (with_reducible first | refine then_ret ?_ | refine blk_ret ?_ | refine then_exit ?_ | refine blk_exit ?_ | refine blk_exit' (by decide) ?_ | refine blk_normal ?_ | refine then_normal ?_ | refine retq_ret ?_ | refine retq_normal ?_ | refine ng_normal ?_ | refine ng_ret ?_ | refine ng_exit ?_)
          exact ⟨_, rfl, rfl, (fun _ => ⟨rfl, take_all hx hk (by first | exact has_out (by omega) | exact has_no hxl (by assumption))⟩), (fun h => nomatch h)⟩
      ·
        try simp only [decide_eq_false_iff_not] at c1
        refine dv (gyes_none rfl) (q_mv (by conv => lhs; whnf)) rfl (by decide) (cok1 trivial) ?_
        refine dno rfl (.inl rfl) rfl (by decide) ?_
        refine dno rfl (.inl rfl) rfl (by decide) ?_
        refine dno rfl (.inl rfl) rfl (by decide) ?_
        refine dno rfl (.inl rfl) rfl (by decide) ?_
        refine dno rfl (.inl rfl) rfl (by decide) ?_
        refine dno rfl (.inl rfl) rfl (by decide) ?_
        refine dv (gyes_none rfl) (q_pf rfl (by conv => lhs; whnf)) rfl (by decide) (call_ok rfl) ?_
        refine ⟨_, Wk.refl _ _, ?_⟩
        show awp _ _ _ _ _ _ _
        refine awp_cond_f rfl ?_
        refine awp_skip_wk ?_
        refine ⟨_, Wk.refl _ _, ?_⟩
        repeat (with_reducible first | refine then_ret ?_ | refine blk_ret ?_ | refine then_exit ?_ | refine blk_exit ?_ | refine blk_exit' (by decide) ?_ | refine blk_normal ?_ | refine then_normal ?_ | refine retq_ret ?_ | refine retq_normal ?_ | refine ng_normal ?_ | refine ng_ret ?_ | refine ng_exit ?_)
        exact ⟨_, rfl, rfl, (fun _ => ⟨rfl, take_all hx hk (by first | exact has_out (by omega) | exact has_no hxl (by assumption))⟩), (fun h => nomatch h)⟩
  case after =>
    rintro v H' ⟨rfl, ⟨rfl, hno⟩ | ⟨_, _, k, x, _, hx, hp, hno, rfl⟩⟩
    ·
      refine ⟨_, rfl, rfl, .inl ⟨rfl, ?_⟩⟩
      refine ⟨_, Wk.refl _ _, ?_⟩
      show awp _ _ _ _ _ _ _
      refine awp_seq ?_
      refine awp_reg hF ?_
      refine se_store1 hF (gyes_none rfl) rfl Try.sizeOf3 rfl (by conv => lhs; whnf) (by first | exact loc_get h0 rfl | exact frm_get (by assumption)) (by first | exact lc_scalar rfl | exact lc_slice (Rd.live (by first | exact loc_rd h0 rfl | exact frm_rd (by assumption) | exact frm_rd' (by assumption) | assumption)) | exact lc_ptr (Rd.live (by first | exact loc_rd h0 rfl | exact frm_rd (by assumption) | exact frm_rd' (by assumption) | assumption))) (by first | (simp; done) | exact Nat.le_of_ble_eq_true rfl) trivial (cconst rfl) (by first | exact loc_set h0 _ | exact frm_set _ (by assumption) _) ?_
      refine se_store1 hF (gyes_none rfl) rfl Try.sizeOf4 rfl (by conv => lhs; whnf) (by first | exact loc_get h0 rfl | exact frm_get (by assumption)) (by first | exact lc_scalar rfl | exact lc_slice (Rd.live (by first | exact loc_rd h0 rfl | exact frm_rd (by assumption) | exact frm_rd' (by assumption) | assumption)) | exact lc_ptr (Rd.live (by first | exact loc_rd h0 rfl | exact frm_rd (by assumption) | exact frm_rd' (by assumption) | assumption))) (by first | (simp; done) | exact Nat.le_of_ble_eq_true rfl) trivial (cconst rfl) (by first | exact loc_set h0 _ | exact frm_set _ (by assumption) _) ?_
      refine ⟨_, Wk.refl _ _, ?_⟩
      show awp _ _ _ _ _ _ _
      refine awp_ret_wk ?_
      refine ⟨_, Wk.refl _ _, ?_⟩
      repeat (with_reducible first | refine then_ret ?_ | refine blk_ret ?_ | refine then_exit ?_ | refine blk_exit ?_ | refine blk_exit' (by decide) ?_ | refine blk_normal ?_ | refine then_normal ?_ | refine retq_ret ?_ | refine retq_normal ?_ | refine ng_normal ?_ | refine ng_ret ?_ | refine ng_exit ?_)
      refine ret_dropD 7 rfl h0 (.cell rfl Try.isAgg3 (loc_rd h0 rfl) rfl (.cell rfl Try.isAgg4 (loc_rd h0 rfl) rfl .nil)) rfl rfl ⟨?_, rfl⟩
      unfold findL; rw [find_no hno]; rfl
    ·
      refine ⟨_, rfl, rfl, .inr ⟨_, rfl, ?_⟩⟩
      refine awp_ret_wk ?_
      refine ⟨_, Wk.refl _ _, ?_⟩
      repeat (with_reducible first | refine then_ret ?_ | refine blk_ret ?_ | refine then_exit ?_ | refine blk_exit ?_ | refine blk_exit' (by decide) ?_ | refine blk_normal ?_ | refine then_normal ?_ | refine retq_ret ?_ | refine retq_normal ?_ | refine ng_normal ?_ | refine ng_ret ?_ | refine ng_exit ?_)
      refine ret_dropD 7 rfl h0 (.cell rfl Try.isAgg3 (loc_rd h0 rfl) rfl (.cell rfl Try.isAgg4 (loc_rd h0 rfl) rfl .nil)) rfl rfl ⟨?_, rfl⟩
      unfold findL; rw [find_yes hx hno hp]; rfl

end Go.Proofs.YtmoldjiooccppaaA


/-
  Walks of functions of the given program, and what they compute.
-/
namespace Go.Proofs.YtmoldjiooccppaaA
set_option linter.unusedVariables false
open Go Go.RowKit Go.Shelf Go.Proofs
def spk : List ByteArray := [⟨#[]⟩, ⟨#[97]⟩, ⟨#[98]⟩]
theorem spk_build : buildN spk 1 3 = ([2], [0, 0, 1]) := by decide +kernel
theorem spk_walk : findL (walkL [2] [0, 0, 1] ⟨#[97]⟩) spk ⟨#[97]⟩ = some 1 := by decide +kernel
theorem spk_small : ∀ s ∈ spk, s.size ≤ 140737488355328 := by
  intro s hs
  simp only [spk, List.mem_cons, List.not_mem_nil, or_false] at hs
  rcases hs with rfl | rfl | rfl <;> decide
theorem spk_B {H0 : AHeap} {n0 : Nat} (h0 : H0.length = n0) {b : Nat} (hR : Rd H0 b [.string ⟨#[]⟩, .string ⟨#[97]⟩, .string ⟨#[98]⟩] 1) {b0 b1 : Nat} (e0 : n0 + 0 = b0) (e1 : n0 + 1 = b1) :
    ACalls Try.prog 8 [.slice (some ⟨b, 0, none⟩) 3 3, .int .i64 1] H0 (Rets (buildV b0 b1 1 3) (H0 ++ [.cells true [.int .u32 2] 1, .cells true [.int .u32 0, .int .u32 0, .int .u32 1] 1])) := by
  refine (build_ok h0 spk _ 1 (sl_full (l := spk) (f := strv) hR rfl (Nat.le_refl _)) spk_small e0 e1).mono fun v H' h => ?_
  obtain ⟨h1, h2⟩ := h.1 (by unfold buildOk; decide)
  refine ⟨h1, h2.trans ?_⟩
  show H0 ++ [.cells true ((buildN spk 1 3).1.map u32v) 1, .cells true ((buildN spk 1 3).2.map u32v) 1] = _
  rw [spk_build]; rfl
theorem spk_F {H0 : AHeap} {n0 : Nat} (h0 : H0.length = n0) {b b0 b1 : Nat} (hR : Rd H0 b [.string ⟨#[]⟩, .string ⟨#[97]⟩, .string ⟨#[98]⟩] 1) (hB : Rd H0 b0 [.int .u32 2] 1) (hC : Rd H0 b1 [.int .u32 0, .int .u32 0, .int .u32 1] 1) :
    ACalls Try.prog 13 [.agg #[.slice (some ⟨b0, 0, none⟩) 1 1, .slice (some ⟨b1, 0, none⟩) 3 3], .string ⟨#[97]⟩, .slice (some ⟨b, 0, none⟩) 3 3] H0 (Rets (.tuple #[.int .i64 1, .bool true]) H0) := by
  have h := find_ok h0 ⟨#[97]⟩ (by decide) [2] [0, 0, 1] spk _ _ _ (sl_full (l := [2]) (f := u32v) hB rfl (Nat.le_refl _)) (sl_full (l := [0, 0, 1]) (f := u32v) hC rfl (Nat.le_refl _)) (sl_full (l := spk) (f := strv) hR rfl (Nat.le_refl _)) (by decide) (by decide) (by decide) (by decide)
  rw [spk_walk] at h
  exact h
set_option maxRecDepth 100000 in
set_option maxHeartbeats 2000000 in
theorem speaks_ok {H0 : AHeap} {n0 : Nat} (h0 : H0.length = n0)  : ACalls Try.prog 7 [] H0 (Rets (.bool true) H0) := by
  have hF : Wd Fence.wide := .inl rfl
  have hM : Try.prog.follows .mixedOrders = true := by kernel_rfl
  refine acalls_begin Try.func7 rfl Try.ntmps7 rfl ?_
  refine awp_seq ?_
  refine awp_reg hF ?_
  refine sv hF (gyes_none rfl) (q_as (by conv => lhs; whnf)) rfl (by decide) (cok1 (cconst rfl)) ?_
  refine ⟨_, Wk.refl _ _, ?_⟩
  show awp _ _ _ _ _ _ _
  refine awp_seq ?_
  refine awp_reg hF ?_
  refine sn hF (gyes_none rfl) (q_buildSliceL [_, _, _] (loc_len h0 rfl) Try.underlying22 Try.sizeOf9 Try.zeroValue9 rfl (by decide) (by decide) ⟨(by conv => lhs; whnf), (by conv => lhs; whnf), (by conv => lhs; whnf), trivial⟩ (lvsC (by first | trivial | exact Rd.live (by first | exact loc_rd h0 rfl | exact frm_rd (by assumption) | exact frm_rd' (by assumption) | assumption) | exact (Sl.lc (by assumption)).1) (lvsC (by first | trivial | exact Rd.live (by first | exact loc_rd h0 rfl | exact frm_rd (by assumption) | exact frm_rd' (by assumption) | assumption) | exact (Sl.lc (by assumption)).1) (lvsC (by first | trivial | exact Rd.live (by first | exact loc_rd h0 rfl | exact frm_rd (by assumption) | exact frm_rd' (by assumption) | assumption) | exact (Sl.lc (by assumption)).1) lvs0))) rfl rfl) rfl (by decide) (call_ok rfl) (List.append_assoc _ _ _) ?_
  refine sn hF (gyes_none rfl) (q_call Try.call8 rfl (by simp [AObj.wr]) (spk_B (b0 := n0 + 1) (b1 := n0 + 2) (loc_len h0 rfl) (loc_rd h0 rfl) rfl rfl)) rfl (by decide) (call_ok rfl) (List.append_assoc _ _ _) ?_
  refine sv hF (gyes_none rfl) (q_mv (by conv => lhs; whnf)) rfl (by decide) (cok1 trivial) ?_
  refine sv hF (gyes_none rfl) (q_extract rfl rfl) rfl (by decide) (cok1 trivial) ?_
  refine sv hF (gyes_none rfl) (q_extract rfl rfl) rfl (by decide) (call_ok rfl) ?_
  refine sn hF (gyes_none rfl) (q_allocN 1 (loc_len h0 rfl) Try.zeroValue26 (by first | exact flat_scalar rfl | exact flat_agg rfl) rfl) rfl (by decide) (by simp [Op.operands]) (List.append_assoc _ _ _) ?_
  refine se_store hF (gyes_none rfl) rfl Try.sizeOf26 rfl (by conv => lhs; whnf) (by first | exact loc_get h0 rfl | exact frm_get (by assumption)) rfl rfl (by exact trivial) (by exact (lcs2 (lc_slice (Rd.live (loc_rd h0 rfl))) (lc_slice (Rd.live (loc_rd h0 rfl))))) (by first | (simp; done) | exact Nat.le_of_ble_eq_true rfl) trivial trivial (by first | exact loc_set h0 _ | exact frm_set _ (by assumption) _) ?_
  refine sv hF (gyes_none rfl) (q_as (by conv => lhs; whnf)) rfl (by decide) (cok1 trivial) ?_
  refine ⟨_, Wk.refl _ _, ?_⟩
  show awp _ _ _ _ _ _ _
  refine awp_seq ?_
  refine awp_reg hF ?_
  refine sv hF (gyes_none rfl) (q_loadAgg Try.isAgg26 Try.sizeOf26 rfl (by first | exact loc_rd h0 rfl | exact frm_rd (by assumption) | exact frm_rd' (by assumption) | assumption) (by first | (simp; done) | exact Nat.le_of_ble_eq_true rfl) rfl) rfl (by decide) (cok1 trivial) ?_
  refine sn hF (gyes_none rfl) (q_buildSliceL [_, _, _] (loc_len h0 rfl) Try.underlying22 Try.sizeOf9 Try.zeroValue9 rfl (by decide) (by decide) ⟨(by conv => lhs; whnf), (by conv => lhs; whnf), (by conv => lhs; whnf), trivial⟩ (lvsC (by first | trivial | exact Rd.live (by first | exact loc_rd h0 rfl | exact frm_rd (by assumption) | exact frm_rd' (by assumption) | assumption) | exact (Sl.lc (by assumption)).1) (lvsC (by first | trivial | exact Rd.live (by first | exact loc_rd h0 rfl | exact frm_rd (by assumption) | exact frm_rd' (by assumption) | assumption) | exact (Sl.lc (by assumption)).1) (lvsC (by first | trivial | exact Rd.live (by first | exact loc_rd h0 rfl | exact frm_rd (by assumption) | exact frm_rd' (by assumption) | assumption) | exact (Sl.lc (by assumption)).1) lvs0))) rfl rfl) rfl (by decide) (call_ok rfl) (List.append_assoc _ _ _) ?_
  refine sv hF (gyes_none rfl) (q_call0 Try.call13 rfl (spk_F (loc_len h0 rfl) (loc_rd h0 rfl) (loc_rd h0 rfl) (loc_rd h0 rfl))) rfl (by decide) (call_ok rfl) ?_
  refine sv hF (gyes_none rfl) (q_mv (by conv => lhs; whnf)) rfl (by decide) (cok1 trivial) ?_
  refine sv hF (gyes_none rfl) (q_extract rfl rfl) rfl (by decide) (cok1 trivial) ?_
  refine sv hF (gyes_none rfl) (q_extract rfl rfl) rfl (by decide) (call_ok rfl) ?_
  refine sv hF (gyes_none rfl) (q_as (by conv => lhs; whnf)) rfl (by decide) (cok1 trivial) ?_
  refine sv hF (gyes_none rfl) (q_as (by conv => lhs; whnf)) rfl (by decide) (cok1 trivial) ?_
  refine ⟨_, Wk.refl _ _, ?_⟩
  show awp _ _ _ _ _ _ _
  refine awp_seq ?_
  refine awp_reg hF ?_
  refine sv hF (gyes_none rfl) (q_mv (by conv => lhs; whnf)) rfl (by decide) (cok1 trivial) ?_
  refine sv hF (gyes_none rfl) (q_mv (by conv => lhs; whnf)) rfl (by decide) (cok1 trivial) ?_
  refine sv hF (gyes_some rfl rfl) (q_mv (by conv => lhs; whnf)) rfl (by decide) (cok1 trivial) ?_
  refine sv hF (gyes_none rfl) (q_pt rfl (by conv => lhs; whnf)) rfl (by decide) (call_ok rfl) ?_
  refine sv hF (gyes_none rfl) (q_mv (by conv => lhs; whnf)) rfl (by decide) (cok1 trivial) ?_
  refine sv hF (gyes_some rfl rfl) (q_mv (by conv => lhs; whnf)) rfl (by decide) (cok1 trivial) ?_
  refine sv hF (gyes_some rfl rfl) (OpQ.cast (v' := .bool true) (q_int rfl rfl rfl) rfl) rfl (by decide) (call_ok rfl) ?_
  refine sv hF (gyes_none rfl) (q_pt rfl (by conv => lhs; whnf)) rfl (by decide) (call_ok rfl) ?_
  refine sv hF (gyes_none rfl) (q_mv (by conv => lhs; whnf)) rfl (by decide) (cok1 trivial) ?_
  refine sv hF (gyes_some rfl rfl) (q_field Try.underlying26 rfl Try.sizeOf24 rfl (by first | exact loc_rd h0 rfl | exact frm_rd (by assumption) | exact frm_rd' (by assumption) | assumption)) rfl (by decide) (cok1 trivial) ?_
  refine sv hF (gyes_some rfl rfl) (q_load Try.isAgg24 rfl (by first | exact loc_rd h0 rfl | exact frm_rd (by assumption) | exact frm_rd' (by assumption) | assumption) rfl) rfl (by decide) (cok1 trivial) ?_
  refine sv hF (gyes_some rfl rfl) (by first | exact q_len_slice Try.underlying24 rfl (by first | exact loc_rd h0 rfl | exact frm_rd (by assumption) | exact frm_rd' (by assumption) | assumption) | exact q_len_nil Try.underlying24 rfl) rfl (by decide) (cok1 trivial) ?_
  refine sv hF (gyes_some rfl rfl) (OpQ.cast (v' := .bool true) (q_int rfl rfl rfl) rfl) rfl (by decide) (call_ok rfl) ?_
  refine sv hF (gyes_none rfl) (q_pt rfl (by conv => lhs; whnf)) rfl (by decide) (call_ok rfl) ?_
  refine sv hF (gyes_none rfl) (q_mv (by conv => lhs; whnf)) rfl (by decide) (cok1 trivial) ?_
  refine sv hF (gyes_some rfl rfl) (q_field Try.underlying26 rfl Try.sizeOf24 rfl (by first | exact loc_rd h0 rfl | exact frm_rd (by assumption) | exact frm_rd' (by assumption) | assumption)) rfl (by decide) (cok1 trivial) ?_
  refine sv hF (gyes_some rfl rfl) (q_load Try.isAgg24 rfl (by first | exact loc_rd h0 rfl | exact frm_rd (by assumption) | exact frm_rd' (by assumption) | assumption) rfl) rfl (by decide) (cok1 trivial) ?_
  refine sv hF (gyes_some rfl rfl) (q_index1 (i := 0) Try.underlying24 Try.sizeOf31 rfl rfl (by decide) (loc_rd h0 rfl)) rfl (by decide) (call_ok rfl) ?_
  refine sv hF (gyes_some rfl rfl) (q_load Try.isAgg31 rfl (by first | exact loc_rd h0 rfl | exact frm_rd (by assumption) | exact frm_rd' (by assumption) | assumption) rfl) rfl (by decide) (cok1 trivial) ?_
  refine sv hF (gyes_some rfl rfl) (OpQ.cast (v' := .bool true) (q_int rfl rfl rfl) rfl) rfl (by decide) (call_ok rfl) ?_
  refine sv hF (gyes_none rfl) (q_pt rfl (by conv => lhs; whnf)) rfl (by decide) (call_ok rfl) ?_
  refine sv hF (gyes_none rfl) (q_mv (by conv => lhs; whnf)) rfl (by decide) (cok1 trivial) ?_
  refine sv hF (gyes_some rfl rfl) (q_field Try.underlying26 rfl Try.sizeOf24 rfl (by first | exact loc_rd h0 rfl | exact frm_rd (by assumption) | exact frm_rd' (by assumption) | assumption)) rfl (by decide) (cok1 trivial) ?_
  refine sv hF (gyes_some rfl rfl) (q_load Try.isAgg24 rfl (by first | exact loc_rd h0 rfl | exact frm_rd (by assumption) | exact frm_rd' (by assumption) | assumption) rfl) rfl (by decide) (cok1 trivial) ?_
  refine sv hF (gyes_some rfl rfl) (q_index1 (i := 2) Try.underlying24 Try.sizeOf31 rfl rfl (by decide) (loc_rd h0 rfl)) rfl (by decide) (call_ok rfl) ?_
  refine sv hF (gyes_some rfl rfl) (q_load Try.isAgg31 rfl (by first | exact loc_rd h0 rfl | exact frm_rd (by assumption) | exact frm_rd' (by assumption) | assumption) rfl) rfl (by decide) (cok1 trivial) ?_
  refine sv hF (gyes_some rfl rfl) (OpQ.cast (v' := .bool true) (q_int rfl rfl rfl) rfl) rfl (by decide) (call_ok rfl) ?_
  refine sv hF (gyes_none rfl) (q_pt rfl (by conv => lhs; whnf)) rfl (by decide) (call_ok rfl) ?_
  refine sv hF (gyes_none rfl) (q_as (by conv => lhs; whnf)) rfl (by decide) (cok1 trivial) ?_
  refine ⟨_, Wk.refl _ _, ?_⟩
  show awp _ _ _ _ _ _ _
  refine awp_ret_wk ?_
  refine ⟨_, Wk.refl _ _, ?_⟩
  repeat (with_reducible first | refine then_ret ?_ | refine blk_ret ?_ | refine then_exit ?_ | refine blk_exit ?_ | refine blk_exit' (by decide) ?_ | refine blk_normal ?_ | refine then_normal ?_ | refine retq_ret ?_ | refine retq_normal ?_ | refine ng_normal ?_ | refine ng_ret ?_ | refine ng_exit ?_)
  exact ret_drop1 rfl (.tmp rfl .nil) rfl ⟨rfl, rfl⟩

end Go.Proofs.YtmoldjiooccppaaA

