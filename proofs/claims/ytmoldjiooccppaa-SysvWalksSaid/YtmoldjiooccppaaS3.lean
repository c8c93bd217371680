/-
  Walks of functions of the given program, and what they compute.
-/
import Derived.Test.YtmoldjiooccppaaS1
import Derived.Test.YtmoldjiooccppaaA19
import Derived.Test.YtmoldjiooccppaaProg
import Derived.KernelRfl
namespace Go.Proofs.YtmoldjiooccppaaA
set_option linter.unusedVariables false
open Go Go.RowKit Go.Shelf Go.Proofs
/-- A table that is built: behind so many names. -/
def buildStep (names : List ByteArray) (nb i : Nat) (p : List Nat × List Nat) : List Nat × List Nat :=
  (p.1.set (hash (names.getD i ⟨#[]⟩) % nb) i, p.2.set i (p.1.getD (hash (names.getD i ⟨#[]⟩) % nb) 0))
def buildN (names : List ByteArray) (nb : Nat) : Nat → List Nat × List Nat
  | 0 => (List.replicate nb 0, List.replicate names.length 0)
  | i + 1 => if i = 0 then (List.replicate nb 0, List.replicate names.length 0) else buildStep names nb i (buildN names nb i)
theorem build_step {names : List ByteArray} {B C : List Nat} {i : Nat} (hi : i < names.length) (h1 : 1 ≤ i) (hk : hash names[i] % B.length < B.length) (h : (B, C) = buildN names B.length i) :
    (B.set (hash names[i] % B.length) i, C.set i B[hash names[i] % B.length]) = buildN names B.length (i + 1) := by
  have e : names.getD i ⟨#[]⟩ = names[i] := by rw [List.getD_eq_getElem?_getD, List.getElem?_eq_getElem hi]; rfl
  rw [buildN, if_neg (by omega), ← h]
  unfold buildStep
  rw [e]
  have e2 : B.getD (hash names[i] % B.length) 0 = B[hash names[i] % B.length] := by rw [List.getD_eq_getElem?_getD, List.getElem?_eq_getElem hk]; rfl
  show _ = (B.set _ i, C.set i (B.getD _ 0))
  rw [e2]
def buildOk (names : List ByteArray) (nb : Int) : Prop := 1 ≤ nb ∧ nb ≤ 256 ∧ 1 ≤ names.length ∧ names.length ≤ 256
def buildV (b0 b1 nb nc : Nat) : Value := .tuple #[.agg #[.slice (some ⟨b0, 0, none⟩) nb nb, .slice (some ⟨b1, 0, none⟩) nc nc], .bool true]
def noBuild : Value := .tuple #[.agg #[.slice none 0 0, .slice none 0 0], .bool false]
set_option maxRecDepth 100000 in
set_option maxHeartbeats 2000000 in
theorem build_ok {H0 : AHeap} {n0 : Nat} (h0 : H0.length = n0) (names : List ByteArray) (vN : Value) (buckets : Int) (hN : Sl strv H0 vN names) (hNs : ∀ s ∈ names, s.size ≤ 140737488355328) {b0 b1 : Nat} (e0 : n0 + 0 = b0) (e1 : n0 + 1 = b1) : ACalls Try.prog 8 [vN, .int .i64 buckets] H0 (fun v H' => (buildOk names buckets → v = buildV b0 b1 buckets.toNat names.length ∧ H' = H0 ++ [.cells true ((buildN names buckets.toNat names.length).1.map u32v) 1, .cells true ((buildN names buckets.toNat names.length).2.map u32v) 1]) ∧ (¬ buildOk names buckets → v = noBuild ∧ H' = H0)) := by
  have hF : Wd Fence.wide := .inl rfl
  have hM : Try.prog.follows .mixedOrders = true := by kernel_rfl
  subst e0 e1
  refine acalls_begin Try.func8 rfl Try.ntmps8 rfl ?_
  refine awp_seq ?_
  refine awp_reg hF ?_
  refine sn hF (gyes_none rfl) (q_allocN 1 (loc_len h0 rfl) Try.zeroValue26 (by first | exact flat_scalar rfl | exact flat_agg rfl) rfl) rfl (by decide) (by simp [Op.operands, Call.operands]) (List.append_assoc _ _ _) ?_
  refine sv hF (gyes_none rfl) (q_as (by conv => lhs; whnf)) rfl (by decide) (cok1 (cconst rfl)) ?_
  refine ⟨_, Wk.refl _ _, ?_⟩
  show awp _ _ _ _ _ _ _
  refine awp_seq ?_
  refine awp_seq ?_
  refine awp_reg hF ?_
  refine sv hF (gyes_none rfl) (q_mv (by conv => lhs; whnf)) rfl (by decide) (cok1 trivial) ?_
  refine svb hF (gyes_none rfl) (q_int rfl rfl rfl) rfl (by decide) (cok2 trivial (cconst rfl)) (fun c1 => ?_) (fun c1 => ?_)
  ·
    try simp only [decide_eq_true_eq, decide_eq_false_iff_not, beq_iff_eq, beq_eq_false_iff_ne, Bool.not_eq_true', Bool.not_eq_false', ne_eq] at c1
    refine sv hF (gyes_none rfl) (q_mv (by conv => lhs; whnf)) rfl (by decide) (cok1 trivial) ?_
    refine sno rfl (.inl rfl) rfl (by decide) ?_
    refine sno rfl (.inl rfl) rfl (by decide) ?_
    refine sv hF (gyes_none rfl) (q_pt rfl (by conv => lhs; whnf)) rfl (by decide) (call_ok rfl) ?_
    refine sv hF (gyes_none rfl) (q_mv (by conv => lhs; whnf)) rfl (by decide) (cok1 trivial) ?_
    refine sno rfl (.inl rfl) rfl (by decide) ?_
    refine sno rfl (.inl rfl) rfl (by decide) ?_
    refine sno rfl (.inl rfl) rfl (by decide) ?_
    refine sv hF (gyes_none rfl) (q_pt rfl (by conv => lhs; whnf)) rfl (by decide) (call_ok rfl) ?_
    refine sv hF (gyes_none rfl) (q_mv (by conv => lhs; whnf)) rfl (by decide) (cok1 trivial) ?_
    refine sno rfl (.inl rfl) rfl (by decide) ?_
    refine sno rfl (.inl rfl) rfl (by decide) ?_
    refine sno rfl (.inl rfl) rfl (by decide) ?_
    refine sv hF (gyes_none rfl) (q_pt rfl (by conv => lhs; whnf)) rfl (by decide) (call_ok rfl) ?_
    refine ⟨_, Wk.refl _ _, ?_⟩
    show awp _ _ _ _ _ _ _
    refine awp_cond_t rfl ?_
    refine awp_seq ?_
    refine awp_reg hF ?_
    refine sv hF (gyes_none rfl) (q_buildL [(0, 1), (1, 1)] [] Try.underlying26 Try.zeroValue26 (by first | exact flat_agg rfl | exact flat_scalar rfl) (by kernel_rfl) trivial lvs0 rfl) rfl (by decide) (by simp [Op.operands, Call.operands]) ?_
    refine se_store hF (gyes_none rfl) rfl Try.sizeOf26 rfl (by conv => lhs; whnf) (by first | exact loc_get h0 rfl | exact frm_get (by assumption)) rfl rfl (by exact trivial) (by exact (lcs2 (lc_scalar rfl) (lc_scalar rfl))) (by first | (simp; done) | exact Nat.le_of_ble_eq_true rfl) trivial trivial (by first | exact loc_set h0 _ | exact frm_set _ (by assumption) _) ?_
    refine sv hF (gyes_none rfl) (q_as (by conv => lhs; whnf)) rfl (by decide) (cok1 (cconst rfl)) ?_
    refine ⟨_, Wk.refl _ _, ?_⟩
    show awp _ _ _ _ _ _ _
    refine awp_ret_wk ?_
    refine ⟨_, Wk.refl _ _, ?_⟩
    repeat (with_reducible first | refine then_ret ?_ | refine blk_ret ?_ | refine then_exit ?_ | refine blk_exit ?_ | refine blk_exit' (by decide) ?_ | refine blk_normal ?_ | refine then_normal ?_ | refine retq_ret ?_ | refine retq_normal ?_)
    refine ret_drop rfl (.agg rfl Try.isAgg26 Try.sizeOf26 (loc_rd h0 rfl) (by decide) rfl (.tmp rfl .nil)) (v := noBuild) rfl rfl ⟨fun h => ?_, fun _ => ⟨rfl, rfl⟩⟩
    exfalso
    unfold buildOk at h
    omega
  ·
    try simp only [decide_eq_true_eq, decide_eq_false_iff_not, beq_iff_eq, beq_eq_false_iff_ne, Bool.not_eq_true', Bool.not_eq_false', ne_eq] at c1
    refine sv hF (gyes_none rfl) (q_mv (by conv => lhs; whnf)) rfl (by decide) (cok1 trivial) ?_
    refine sv hF (gyes_some rfl rfl) (q_mv (by conv => lhs; whnf)) rfl (by decide) (cok1 trivial) ?_
    refine svb hF (gyes_some rfl rfl) (q_int rfl rfl rfl) rfl (by decide) (cok2 trivial (cconst rfl)) (fun c2 => ?_) (fun c2 => ?_)
    ·
      try simp only [decide_eq_true_eq, decide_eq_false_iff_not, beq_iff_eq, beq_eq_false_iff_ne, Bool.not_eq_true', Bool.not_eq_false', ne_eq] at c2
      refine sv hF (gyes_none rfl) (q_pf rfl (by conv => lhs; whnf)) rfl (by decide) (call_ok rfl) ?_
      refine sv hF (gyes_none rfl) (q_mv (by conv => lhs; whnf)) rfl (by decide) (cok1 trivial) ?_
      refine sno rfl (.inl rfl) rfl (by decide) ?_
      refine sno rfl (.inl rfl) rfl (by decide) ?_
      refine sno rfl (.inl rfl) rfl (by decide) ?_
      refine sv hF (gyes_none rfl) (q_pt rfl (by conv => lhs; whnf)) rfl (by decide) (call_ok rfl) ?_
      refine sv hF (gyes_none rfl) (q_mv (by conv => lhs; whnf)) rfl (by decide) (cok1 trivial) ?_
      refine sno rfl (.inl rfl) rfl (by decide) ?_
      refine sno rfl (.inl rfl) rfl (by decide) ?_
      refine sno rfl (.inl rfl) rfl (by decide) ?_
      refine sv hF (gyes_none rfl) (q_pt rfl (by conv => lhs; whnf)) rfl (by decide) (call_ok rfl) ?_
      refine ⟨_, Wk.refl _ _, ?_⟩
      show awp _ _ _ _ _ _ _
      refine awp_cond_t rfl ?_
      refine awp_seq ?_
      refine awp_reg hF ?_
      refine sv hF (gyes_none rfl) (q_buildL [(0, 1), (1, 1)] [] Try.underlying26 Try.zeroValue26 (by first | exact flat_agg rfl | exact flat_scalar rfl) (by kernel_rfl) trivial lvs0 rfl) rfl (by decide) (by simp [Op.operands, Call.operands]) ?_
      refine se_store hF (gyes_none rfl) rfl Try.sizeOf26 rfl (by conv => lhs; whnf) (by first | exact loc_get h0 rfl | exact frm_get (by assumption)) rfl rfl (by exact trivial) (by exact (lcs2 (lc_scalar rfl) (lc_scalar rfl))) (by first | (simp; done) | exact Nat.le_of_ble_eq_true rfl) trivial trivial (by first | exact loc_set h0 _ | exact frm_set _ (by assumption) _) ?_
      refine sv hF (gyes_none rfl) (q_as (by conv => lhs; whnf)) rfl (by decide) (cok1 (cconst rfl)) ?_
      refine ⟨_, Wk.refl _ _, ?_⟩
      show awp _ _ _ _ _ _ _
      refine awp_ret_wk ?_
      refine ⟨_, Wk.refl _ _, ?_⟩
      repeat (with_reducible first | refine then_ret ?_ | refine blk_ret ?_ | refine then_exit ?_ | refine blk_exit ?_ | refine blk_exit' (by decide) ?_ | refine blk_normal ?_ | refine then_normal ?_ | refine retq_ret ?_ | refine retq_normal ?_)
      refine ret_drop rfl (.agg rfl Try.isAgg26 Try.sizeOf26 (loc_rd h0 rfl) (by decide) rfl (.tmp rfl .nil)) (v := noBuild) rfl rfl ⟨fun h => ?_, fun _ => ⟨rfl, rfl⟩⟩
      exfalso
      unfold buildOk at h
      omega
    ·
      try simp only [decide_eq_true_eq, decide_eq_false_iff_not, beq_iff_eq, beq_eq_false_iff_ne, Bool.not_eq_true', Bool.not_eq_false', ne_eq] at c2
      refine sv hF (gyes_none rfl) (q_pf rfl (by conv => lhs; whnf)) rfl (by decide) (call_ok rfl) ?_
      refine sv hF (gyes_none rfl) (q_mv (by conv => lhs; whnf)) rfl (by decide) (cok1 trivial) ?_
      refine sv hF (gyes_some rfl rfl) (q_mv (by conv => lhs; whnf)) rfl (by decide) (cok1 trivial) ?_
      refine sv hF (gyes_some rfl rfl) (q_len_sl Try.underlying22 (hN.app _) rfl) rfl (by decide) (call_ok rfl) ?_
      refine svb hF (gyes_some rfl rfl) (q_int rfl rfl rfl) rfl (by decide) (cok2 trivial (cconst rfl)) (fun c3 => ?_) (fun c3 => ?_)
      ·
        try simp only [decide_eq_true_eq, decide_eq_false_iff_not, beq_iff_eq, beq_eq_false_iff_ne, Bool.not_eq_true', Bool.not_eq_false', ne_eq] at c3
        refine sv hF (gyes_none rfl) (q_pf rfl (by conv => lhs; whnf)) rfl (by decide) (call_ok rfl) ?_
        refine sv hF (gyes_none rfl) (q_mv (by conv => lhs; whnf)) rfl (by decide) (cok1 trivial) ?_
        refine sno rfl (.inl rfl) rfl (by decide) ?_
        refine sno rfl (.inl rfl) rfl (by decide) ?_
        refine sno rfl (.inl rfl) rfl (by decide) ?_
        refine sv hF (gyes_none rfl) (q_pt rfl (by conv => lhs; whnf)) rfl (by decide) (call_ok rfl) ?_
        refine ⟨_, Wk.refl _ _, ?_⟩
        show awp _ _ _ _ _ _ _
        refine awp_cond_t rfl ?_
        refine awp_seq ?_
        refine awp_reg hF ?_
        refine sv hF (gyes_none rfl) (q_buildL [(0, 1), (1, 1)] [] Try.underlying26 Try.zeroValue26 (by first | exact flat_agg rfl | exact flat_scalar rfl) (by kernel_rfl) trivial lvs0 rfl) rfl (by decide) (by simp [Op.operands, Call.operands]) ?_
        refine se_store hF (gyes_none rfl) rfl Try.sizeOf26 rfl (by conv => lhs; whnf) (by first | exact loc_get h0 rfl | exact frm_get (by assumption)) rfl rfl (by exact trivial) (by exact (lcs2 (lc_scalar rfl) (lc_scalar rfl))) (by first | (simp; done) | exact Nat.le_of_ble_eq_true rfl) trivial trivial (by first | exact loc_set h0 _ | exact frm_set _ (by assumption) _) ?_
        refine sv hF (gyes_none rfl) (q_as (by conv => lhs; whnf)) rfl (by decide) (cok1 (cconst rfl)) ?_
        refine ⟨_, Wk.refl _ _, ?_⟩
        show awp _ _ _ _ _ _ _
        refine awp_ret_wk ?_
        refine ⟨_, Wk.refl _ _, ?_⟩
        repeat (with_reducible first | refine then_ret ?_ | refine blk_ret ?_ | refine then_exit ?_ | refine blk_exit ?_ | refine blk_exit' (by decide) ?_ | refine blk_normal ?_ | refine then_normal ?_ | refine retq_ret ?_ | refine retq_normal ?_)
        refine ret_drop rfl (.agg rfl Try.isAgg26 Try.sizeOf26 (loc_rd h0 rfl) (by decide) rfl (.tmp rfl .nil)) (v := noBuild) rfl rfl ⟨fun h => ?_, fun _ => ⟨rfl, rfl⟩⟩
        exfalso
        unfold buildOk at h
        omega
      ·
        try simp only [decide_eq_true_eq, decide_eq_false_iff_not, beq_iff_eq, beq_eq_false_iff_ne, Bool.not_eq_true', Bool.not_eq_false', ne_eq] at c3
        refine sv hF (gyes_none rfl) (q_pf rfl (by conv => lhs; whnf)) rfl (by decide) (call_ok rfl) ?_
        refine sv hF (gyes_none rfl) (q_mv (by conv => lhs; whnf)) rfl (by decide) (cok1 trivial) ?_
        refine sv hF (gyes_some rfl rfl) (q_mv (by conv => lhs; whnf)) rfl (by decide) (cok1 trivial) ?_
        refine sv hF (gyes_some rfl rfl) (q_len_sl Try.underlying22 (hN.app _) rfl) rfl (by decide) (call_ok rfl) ?_
        refine svb hF (gyes_some rfl rfl) (q_int rfl rfl rfl) rfl (by decide) (cok2 trivial (cconst rfl)) (fun c4 => ?_) (fun c4 => ?_)
        ·
          try simp only [decide_eq_true_eq, decide_eq_false_iff_not, beq_iff_eq, beq_eq_false_iff_ne, Bool.not_eq_true', Bool.not_eq_false', ne_eq] at c4
          refine sv hF (gyes_none rfl) (q_pf rfl (by conv => lhs; whnf)) rfl (by decide) (call_ok rfl) ?_
          refine ⟨_, Wk.refl _ _, ?_⟩
          show awp _ _ _ _ _ _ _
          refine awp_cond_t rfl ?_
          refine awp_seq ?_
          refine awp_reg hF ?_
          refine sv hF (gyes_none rfl) (q_buildL [(0, 1), (1, 1)] [] Try.underlying26 Try.zeroValue26 (by first | exact flat_agg rfl | exact flat_scalar rfl) (by kernel_rfl) trivial lvs0 rfl) rfl (by decide) (by simp [Op.operands, Call.operands]) ?_
          refine se_store hF (gyes_none rfl) rfl Try.sizeOf26 rfl (by conv => lhs; whnf) (by first | exact loc_get h0 rfl | exact frm_get (by assumption)) rfl rfl (by exact trivial) (by exact (lcs2 (lc_scalar rfl) (lc_scalar rfl))) (by first | (simp; done) | exact Nat.le_of_ble_eq_true rfl) trivial trivial (by first | exact loc_set h0 _ | exact frm_set _ (by assumption) _) ?_
          refine sv hF (gyes_none rfl) (q_as (by conv => lhs; whnf)) rfl (by decide) (cok1 (cconst rfl)) ?_
          refine ⟨_, Wk.refl _ _, ?_⟩
          show awp _ _ _ _ _ _ _
          refine awp_ret_wk ?_
          refine ⟨_, Wk.refl _ _, ?_⟩
          repeat (with_reducible first | refine then_ret ?_ | refine blk_ret ?_ | refine then_exit ?_ | refine blk_exit ?_ | refine blk_exit' (by decide) ?_ | refine blk_normal ?_ | refine then_normal ?_ | refine retq_ret ?_ | refine retq_normal ?_)
          refine ret_drop rfl (.agg rfl Try.isAgg26 Try.sizeOf26 (loc_rd h0 rfl) (by decide) rfl (.tmp rfl .nil)) (v := noBuild) rfl rfl ⟨fun h => ?_, fun _ => ⟨rfl, rfl⟩⟩
          exfalso
          unfold buildOk at h
          omega
        ·
          try simp only [decide_eq_true_eq, decide_eq_false_iff_not, beq_iff_eq, beq_eq_false_iff_ne, Bool.not_eq_true', Bool.not_eq_false', ne_eq] at c4
          obtain ⟨nb, rfl⟩ := Int.eq_ofNat_of_zero_le (show 0 ≤ buckets by omega)
          obtain ⟨bN, oN, cN, vsN, rfl, hRN, hlN, hcN, hgN⟩ := hN.get (i := 0) (by omega)
          refine sv hF (gyes_none rfl) (q_pf rfl (by conv => lhs; whnf)) rfl (by decide) (call_ok rfl) ?_
          refine ⟨_, Wk.refl _ _, ?_⟩
          show awp _ _ _ _ _ _ _
          refine awp_cond_f rfl ?_
          refine awp_skip_wk ?_
          refine ⟨_, Wk.refl _ _, ?_⟩
          show awp _ _ _ _ _ _ _
          refine awp_seq ?_
          refine awp_regt hF hM (by kernel_rfl) (by kernel_rfl) ?_
          refine dv (gyes_none rfl) (q_mv (by conv => lhs; whnf)) rfl (by decide) (cok1 trivial) ?_
          refine dn (gyes_none rfl) (q_makeSlice1 (N := n0 + 1) (loc_len h0 rfl) Try.underlying24 Try.typeInfo31 rfl Try.zeroValue31 rfl rfl rfl rfl (Nat.le_refl _) (by omega) (by show 4 * _ ≤ _; omega) (vs := (List.replicate nb 0).map u32v) (by simp [u32v])) rfl (by decide) (call_ok rfl) (List.append_assoc _ _ _) ?_
          refine dv (gyes_none rfl) (q_mv (by conv => lhs; whnf)) rfl (by decide) (cok1 trivial) ?_
          refine dv (gyes_none rfl) (q_len_sl Try.underlying22 (hN.app _) rfl) rfl (by decide) (call_ok rfl) ?_
          refine dn (gyes_none rfl) (q_makeSlice1 (N := n0 + 2) (loc_len h0 rfl) Try.underlying24 Try.typeInfo31 rfl Try.zeroValue31 rfl rfl rfl rfl (Nat.le_refl _) (by omega) (by show 4 * _ ≤ _; omega) (vs := (List.replicate names.length 0).map u32v) (by simp [u32v])) rfl (by decide) (call_ok rfl) (List.append_assoc _ _ _) ?_
          refine dv (gyes_none rfl) (q_buildL [(0, 1), (1, 1)] [_, _] Try.underlying26 Try.zeroValue26 (by first | exact flat_agg rfl | exact flat_scalar rfl) (by kernel_rfl) ⟨(by conv => lhs; whnf), (by conv => lhs; whnf), trivial⟩ (lvsC (by first | trivial | exact Rd.live (by first | exact loc_rd h0 rfl | exact frm_rd (by assumption) | exact frm_rd' (by assumption) | assumption) | exact (Sl.lc (by assumption)).1) (lvsC (by first | trivial | exact Rd.live (by first | exact loc_rd h0 rfl | exact frm_rd (by assumption) | exact frm_rd' (by assumption) | assumption) | exact (Sl.lc (by assumption)).1) lvs0)) rfl) rfl (by decide) (cok2 trivial trivial) ?_
          refine dn (gyes_none rfl) (q_allocN 1 (loc_len h0 rfl) Try.zeroValue26 (by first | exact flat_scalar rfl | exact flat_agg rfl) rfl) rfl (by decide) (by simp [Op.operands, Call.operands]) (List.append_assoc _ _ _) ?_
          refine de_store hF (by kernel_rfl) (gyes_none rfl) rfl Try.sizeOf26 rfl (by conv => lhs; whnf) (by first | exact loc_get h0 rfl | exact frm_get (by assumption)) rfl rfl (by exact trivial) (by exact (lcs2 (lc_slice (loc_rd h0 rfl).live) (lc_slice (loc_rd h0 rfl).live))) (by first | (simp; done) | exact Nat.le_of_ble_eq_true rfl) trivial trivial (by first | exact loc_set h0 _ | exact frm_set _ (by assumption) _) ?_
          refine ⟨_, Wk.refl _ _, ?_⟩
          show awp _ _ _ _ _ _ _
          refine awp_seq ?_
          refine awp_seq ?_
          refine awp_reg hF ?_
          refine sv hF (gyes_none rfl) (q_as (by conv => lhs; whnf)) rfl (by decide) (cok1 (cconst rfl)) ?_
          refine ⟨_, Wk.refl _ _, ?_⟩
          show awp _ _ _ _ _ _ _
          refine awp_block ?_
          refine awp_wk (Wk.U [(0, .slice (some ⟨bN, oN, none⟩) names.length cN), (4, .pointer (some ⟨n0 + 0, 0, none⟩)), (6, .pointer (some ⟨n0 + 3, 0, none⟩)), (7, .int .i64 ((1 : Nat) : Int))] ⟨rfl, rfl, rfl, rfl, trivial⟩) ?_
          refine awp_loop (fun (p : Nat × List Nat × List Nat) st => 1 ≤ p.1 ∧ p.1 ≤ names.length ∧ (p.2.1, p.2.2) = buildN names nb p.1 ∧ p.2.1.length = nb ∧ p.2.2.length = names.length ∧ ∃ vb vc, vb = p.2.1.map u32v ∧ vc = p.2.2.map u32v ∧ st = ⟨60, U [(0, .slice (some ⟨bN, oN, none⟩) names.length cN), (4, .pointer (some ⟨n0 + 0, 0, none⟩)), (6, .pointer (some ⟨n0 + 3, 0, none⟩)), (7, .int .i64 ((p.1 : Nat) : Int))], [], H0 ++ [.cells true [.slice none 0 0, .slice none 0 0] 1, .cells true vb 1, .cells true vc 1, .cells true [.slice (some ⟨n0 + 1, 0, none⟩) nb nb, .slice (some ⟨n0 + 2, 0, none⟩) names.length names.length] 1]⟩) (fun p => names.length - p.1) (x0 := (1, List.replicate nb 0, List.replicate names.length 0)) ?h0 ?round
          case h0 => exact ⟨Nat.le_refl _, by omega, rfl, List.length_replicate, List.length_replicate, _, _, rfl, rfl, rfl⟩
          case round =>
            rintro ⟨i, B, C⟩ _ ⟨hi1, hi2, hBC, hBl, hCl, vb, vc, rfl, rfl, rfl⟩
            dsimp only at hi1 hi2 hBC hBl hCl
            subst hBl
            show awp _ _ _ _ _ _ (⟨60, U [(0, .slice (some ⟨bN, oN, none⟩) names.length cN), (4, .pointer (some ⟨n0 + 0, 0, none⟩)), (6, .pointer (some ⟨n0 + 3, 0, none⟩)), (7, .int .i64 ((i : Nat) : Int))], [], H0 ++ [.cells true [.slice none 0 0, .slice none 0 0] 1, .cells true (B.map u32v) 1, .cells true (C.map u32v) 1, .cells true [.slice (some ⟨n0 + 1, 0, none⟩) B.length B.length, .slice (some ⟨n0 + 2, 0, none⟩) names.length names.length] 1]⟩ : ASt)
            refine awp_seq ?_
            refine awp_seq ?_
            refine awp_reg hF ?_
            refine sv hF (gyes_none rfl) (q_mv (by conv => lhs; whnf)) rfl (by decide) (cok1 trivial) ?_
            refine sv hF (gyes_none rfl) (q_mv (by conv => lhs; whnf)) rfl (by decide) (cok1 trivial) ?_
            refine sv hF (gyes_none rfl) (q_len_sl Try.underlying22 (hN.app _) rfl) rfl (by decide) (call_ok rfl) ?_
            refine svb hF (gyes_none rfl) (q_int rfl rfl rfl) rfl (by decide) (cok2 trivial trivial) (fun c5 => ?_) (fun c5 => ?_)
            ·
              try simp only [decide_eq_true_eq, decide_eq_false_iff_not, beq_iff_eq, beq_eq_false_iff_ne, Bool.not_eq_true', Bool.not_eq_false', ne_eq] at c5
              have hi : i < names.length := by omega
              have hk : hash names[i] % B.length < B.length := Nat.mod_lt _ (by omega)
              refine ⟨_, Wk.refl _ _, ?_⟩
              show awp _ _ _ _ _ _ _
              refine awp_cond_t rfl ?_
              refine awp_skip_wk ?_
              refine ⟨_, Wk.refl _ _, ?_⟩
              show awp _ _ _ _ _ _ _
              refine awp_seq ?_
              refine awp_block ?_
              refine awp_seq ?_
              refine awp_regt hF hM (by kernel_rfl) (by kernel_rfl) ?_
              refine dv (gyes_none rfl) (q_loadAgg Try.isAgg26 Try.sizeOf26 rfl (by first | exact loc_rd h0 rfl | exact frm_rd (by assumption) | exact frm_rd' (by assumption) | assumption) (by first | (simp; done) | exact Nat.le_of_ble_eq_true rfl) rfl) rfl (by decide) (cok1 trivial) ?_
              refine dv (gyes_none rfl) (q_mv (by conv => lhs; whnf)) rfl (by decide) (cok1 trivial) ?_
              refine dv (gyes_none rfl) (q_mv (by conv => lhs; whnf)) rfl (by decide) (cok1 trivial) ?_
              refine dv (gyes_none rfl) (q_index1 Try.underlying22 Try.sizeOf9 rfl rfl hi (frm_rd' hRN)) rfl (by decide) (call_ok rfl) ?_
              refine dv (gyes_none rfl) (q_load Try.isAgg9 rfl (frm_rd' hRN) (hgN _ hi)) rfl (by decide) (call_ok rfl) ?_
              refine dv (gyes_none rfl) (q_call0 Try.call20 rfl (bucket_ok (loc_len h0 rfl) names[i] (hNs _ (List.getElem_mem hi)) B _ _ (sl_full (loc_rd h0 rfl) rfl (Nat.le_refl _)) (by omega) (by omega))) rfl (by decide) (call_ok rfl) ?_
              refine dv (gyes_none rfl) (q_as (by conv => lhs; whnf)) rfl (by decide) (cok1 trivial) ?_
              refine ⟨_, Wk.refl _ _, ?_⟩
              show awp _ _ _ _ _ _ _
              refine awp_regt hF hM (by kernel_rfl) (by kernel_rfl) ?_
              refine dv (gyes_none rfl) (q_field Try.underlying26 rfl Try.sizeOf24 rfl (by first | exact loc_rd h0 rfl | exact frm_rd (by assumption) | exact frm_rd' (by assumption) | assumption)) rfl (by decide) (cok1 trivial) ?_
              refine dv (gyes_none rfl) (q_load Try.isAgg24 rfl (by first | exact loc_rd h0 rfl | exact frm_rd (by assumption) | exact frm_rd' (by assumption) | assumption) rfl) rfl (by decide) (cok1 trivial) ?_
              refine dv (gyes_none rfl) (q_mv (by conv => lhs; whnf)) rfl (by decide) (cok1 trivial) ?_
              refine dv (gyes_none rfl) (q_field Try.underlying26 rfl Try.sizeOf24 rfl (by first | exact loc_rd h0 rfl | exact frm_rd (by assumption) | exact frm_rd' (by assumption) | assumption)) rfl (by decide) (cok1 trivial) ?_
              refine dv (gyes_none rfl) (q_load Try.isAgg24 rfl (by first | exact loc_rd h0 rfl | exact frm_rd (by assumption) | exact frm_rd' (by assumption) | assumption) rfl) rfl (by decide) (cok1 trivial) ?_
              refine dv (gyes_none rfl) (q_mv (by conv => lhs; whnf)) rfl (by decide) (cok1 trivial) ?_
              refine dv (gyes_none rfl) (q_field Try.underlying26 rfl Try.sizeOf24 rfl (by first | exact loc_rd h0 rfl | exact frm_rd (by assumption) | exact frm_rd' (by assumption) | assumption)) rfl (by decide) (cok1 trivial) ?_
              refine dv (gyes_none rfl) (q_load Try.isAgg24 rfl (by first | exact loc_rd h0 rfl | exact frm_rd (by assumption) | exact frm_rd' (by assumption) | assumption) rfl) rfl (by decide) (cok1 trivial) ?_
              refine dv (gyes_none rfl) (q_mv (by conv => lhs; whnf)) rfl (by decide) (cok1 trivial) ?_
              refine dv (gyes_none rfl) (q_index1 Try.underlying24 Try.sizeOf31 rfl rfl hk (loc_rd h0 rfl)) rfl (by decide) (call_ok rfl) ?_
              refine dv (gyes_none rfl) (q_load Try.isAgg31 rfl (loc_rd h0 rfl) (get_map hk)) rfl (by decide) (call_ok rfl) ?_
              refine dv (gyes_none rfl) (q_mv (by conv => lhs; whnf)) rfl (by decide) (cok1 trivial) ?_
              refine dv (gyes_none rfl) (q_convin Try.underlying3 Try.underlying31 rfl (u32_in (by omega))) rfl (by decide) (call_ok rfl) ?_
              refine dv (gyes_none rfl) (q_index1 Try.underlying24 Try.sizeOf31 rfl rfl hi (loc_rd h0 rfl)) rfl (by decide) (call_ok rfl) ?_
              refine df_store1 hF [3, 4, 5, 11, 12] (by kernel_rfl) (gyes_none rfl) rfl Try.sizeOf31 rfl (by conv => lhs; whnf) (by first | exact loc_get h0 rfl | exact frm_get (by assumption)) (by first | exact lc_scalar rfl | exact lc_slice (Rd.live (by first | exact loc_rd h0 rfl | exact frm_rd (by assumption) | exact frm_rd' (by assumption) | assumption)) | exact lc_ptr (Rd.live (by first | exact loc_rd h0 rfl | exact frm_rd (by assumption) | exact frm_rd' (by assumption) | assumption))) (by rw [List.length_map]; omega) trivial trivial (by first | exact loc_set h0 _ | exact frm_set _ (by assumption) _) rfl rfl ⟨pend_yes rfl (gyes_none rfl) (q_field Try.underlying26 rfl Try.sizeOf24 rfl (by first | exact loc_rd h0 rfl | exact frm_rd (by assumption) | exact frm_rd' (by assumption) | assumption)) rfl (by decide) (cok1 trivial) rfl, pend_yes rfl (gyes_none rfl) (q_load Try.isAgg24 rfl (by first | exact loc_rd h0 rfl | exact frm_rd (by assumption) | exact frm_rd' (by assumption) | assumption) rfl) rfl (by decide) (cok1 trivial) rfl, pend_yes rfl (gyes_none rfl) (q_mv rfl) rfl (by decide) (cok1 trivial) rfl, pend_yes rfl (gyes_none rfl) (q_mv rfl) rfl (by decide) (cok1 trivial) rfl, pend_yes rfl (gyes_none rfl) (q_convin Try.underlying3 Try.underlying31 rfl (u32_in (by omega))) rfl (by decide) (call_ok rfl) rfl, trivial⟩ ?_
              refine dv (gyes_none rfl) (q_index1 Try.underlying24 Try.sizeOf31 rfl rfl hk (loc_rd h0 rfl)) rfl (by decide) (call_ok rfl) ?_
              refine de_store1 hF (by kernel_rfl) (gyes_none rfl) rfl Try.sizeOf31 rfl (by conv => lhs; whnf) (by first | exact loc_get h0 rfl | exact frm_get (by assumption)) (by first | exact lc_scalar rfl | exact lc_slice (Rd.live (by first | exact loc_rd h0 rfl | exact frm_rd (by assumption) | exact frm_rd' (by assumption) | assumption)) | exact lc_ptr (Rd.live (by first | exact loc_rd h0 rfl | exact frm_rd (by assumption) | exact frm_rd' (by assumption) | assumption))) (by rw [List.length_map]; omega) trivial trivial (by first | exact loc_set h0 _ | exact frm_set _ (by assumption) _) ?_
              refine ⟨_, Wk.refl _ _, ?_⟩
              show awp _ _ _ _ _ _ _
              refine awp_reg hF ?_
              refine sv hF (gyes_none rfl) (q_mv (by conv => lhs; whnf)) rfl (by decide) (cok1 trivial) ?_
              refine sv hF (gyes_none rfl) (by first | exact q_add64 rfl rfl (by omega) | exact q_int rfl rfl rfl) rfl (by decide) (cok2 trivial (cconst rfl)) ?_
              refine sv hF (gyes_none rfl) (q_as (by conv => lhs; whnf)) rfl (by decide) (cok1 trivial) ?_
              refine ⟨_, Wk.U [(0, .slice (some ⟨bN, oN, none⟩) names.length cN), (4, .pointer (some ⟨n0 + 0, 0, none⟩)), (6, .pointer (some ⟨n0 + 3, 0, none⟩)), (7, .int .i64 (((i + 1) : Nat) : Int))] ⟨rfl, rfl, rfl, rfl, trivial⟩, (i + 1, B.set (hash names[i] % B.length) i, C.set i B[hash names[i] % B.length]), ⟨by show 1 ≤ i + 1; omega, hi, build_step hi hi1 hk hBC, List.length_set, by rw [List.length_set]; exact hCl, _, _, set_map _ _, set_map _ _, rfl⟩, show names.length - (i + 1) < names.length - i by omega⟩
            ·
              try simp only [decide_eq_true_eq, decide_eq_false_iff_not, beq_iff_eq, beq_eq_false_iff_ne, Bool.not_eq_true', Bool.not_eq_false', ne_eq] at c5
              refine ⟨_, Wk.refl _ _, ?_⟩
              show awp _ _ _ _ _ _ _
              refine awp_cond_f rfl ?_
              refine awp_exit_wk ?_
              refine ⟨_, Wk.refl _ _, ?_⟩
              show awp _ _ _ _ _ _ _
              refine awp_seq ?_
              refine awp_reg hF ?_
              refine sv hF (gyes_none rfl) (q_loadAgg Try.isAgg26 Try.sizeOf26 rfl (by first | exact loc_rd h0 rfl | exact frm_rd (by assumption) | exact frm_rd' (by assumption) | assumption) (by first | (simp; done) | exact Nat.le_of_ble_eq_true rfl) rfl) rfl (by decide) (cok1 trivial) ?_
              refine se_store hF (gyes_none rfl) rfl Try.sizeOf26 rfl (by conv => lhs; whnf) (by first | exact loc_get h0 rfl | exact frm_get (by assumption)) rfl rfl (by exact trivial) (by exact (lcs2 (lc_slice (loc_rd h0 rfl).live) (lc_slice (loc_rd h0 rfl).live))) (by first | (simp; done) | exact Nat.le_of_ble_eq_true rfl) trivial trivial (by first | exact loc_set h0 _ | exact frm_set _ (by assumption) _) ?_
              refine sv hF (gyes_none rfl) (q_as (by conv => lhs; whnf)) rfl (by decide) (cok1 (cconst rfl)) ?_
              refine ⟨_, Wk.refl _ _, ?_⟩
              show awp _ _ _ _ _ _ _
              refine awp_ret_wk ?_
              refine ⟨_, Wk.refl _ _, ?_⟩
              repeat (with_reducible first | refine then_ret ?_ | refine blk_ret ?_ | refine then_exit ?_ | refine blk_exit ?_ | refine blk_exit' (by decide) ?_ | refine blk_normal ?_ | refine then_normal ?_ | refine retq_ret ?_ | refine retq_normal ?_)
              obtain rfl : i = names.length := by omega
              rw [← Int.toNat_natCast B.length] at hBC
              refine ret_keep [1, 2] (L2 := [.cells true (B.map u32v) 1, .cells true (C.map u32v) 1]) rfl h0 (.agg rfl Try.isAgg26 Try.sizeOf26 (loc_rd h0 rfl) (Nat.le_of_ble_eq_true rfl) rfl (.tmp rfl .nil)) (by decide) ⟨⟨_, rfl, .cells (.scalars (all_u32v _))⟩, by simp, ⟨⟨_, rfl, .cells (.scalars (all_u32v _))⟩, by simp, trivial⟩⟩ (v2 := buildV (n0 + 0) (n0 + 1) B.length names.length) ?_ ⟨fun h => ⟨rfl, ?_⟩, fun h => ?_⟩
              · refine .tuple rfl fun j hj => ?_
                match j, hj with
                | 0, _ => exact .agg rfl fun j hj => (match j, hj with | 0, _ => .slice (keep_new rfl) | 1, _ => .slice (keep_new rfl))
                | 1, _ => exact .scalar rfl
              · rw [← hBC]
              · exact absurd ⟨by omega, by omega, by omega, by omega⟩ h

end Go.Proofs.YtmoldjiooccppaaA
