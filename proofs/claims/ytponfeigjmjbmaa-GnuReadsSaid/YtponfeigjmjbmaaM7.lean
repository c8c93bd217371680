/-
  Walks over abstract states: texts of one claim, merged.
-/
import Derived.Test.YtponfeigjmjbmaaM6
import Derived.Test.YtponfeigjmjbmaaProg
import Derived.KernelRfl
import Derived.ChangeSlices
import Derived.SliceStrings
import Derived.WideShapes
import Derived.SizedLaws
import Derived.OpenShut
import Derived.Deep.Slices
/-
  Walks of functions of the given program, and what they compute.
-/
namespace Go.Proofs.YtponfeigjmjbmaaA
set_option linter.unusedVariables false
open Go Go.RowKit Go.Shelf Go.Proofs
theorem tk_succ {l : List Nat} {i : Nat} (h : i < l.length) : l.take i ++ [nth l i] = l.take (i + 1) := by
  rw [List.take_succ_eq_append_getElem h, nth_eq h]
theorem numE_nth {w : ByteArray} {sz k i : Nat} (h : i < k) : nth (numE w sz k) i = getB (w.extract (i * sz) ((i + 1) * sz)) := by
  rw [nth_eq (by rw [numE_len]; exact h)]; simp [numE]
theorem gBl_at {B : ByteArray} {i : Nat} (h : gA0 B ≤ B.size) (hi : i < gM B) : getB (B.extract (16 + 8 * i) (24 + 8 * i)) = nth (gBl B) i := by
  unfold gA0 at h
  rw [gBl, numE_nth hi, partV_in (by omega), ByteArray.extract_extract]; congr 2 <;> omega
theorem gBk_at {B : ByteArray} {i : Nat} (h : gA0 B ≤ B.size) (hi : i < gN B) : atV B (16 + 8 * gM B + 4 * i) 4 = nth (gBk B) i := by
  unfold gA0 at h
  rw [gBk, numE_nth hi, partV_in (by omega), atV_in (by omega), ByteArray.extract_extract]; congr 2 <;> omega
set_option maxRecDepth 100000 in
set_option maxHeartbeats 4000000 in
theorem rnum_ok {H0 : AHeap} (B : ByteArray) (a : Nat) (hB : B.size ≤ 140737488355328) (h : a + 4 ≤ B.size) : ACalls Try.prog 33 [.string B, .int .i64 ((a : Nat) : Int)] H0 (Rets (.int .i64 ((atV B a 4 : Nat) : Int)) H0) := by
  have hF : Wd Fence.wide := .inl rfl
  have hM : Try.prog.follows .mixedOrders = true := by kernel_rfl
  have s0 := St.begin H0
  refine acalls_st Try.func33 rfl Try.ntmps33 rfl ?_
  refine awp_seq ?_
  refine awp_regs hF ?_
  refine dv (gyes_none rfl) (q_as (v := .int .i64 0) rfl) rfl (by decide) (cok1 (cconst rfl)) ?_
  refine ⟨_, Wk.refl _ _, ?_⟩
  show awp _ _ _ _ _ _ _
  refine awp_seq ?_
  refine awp_regs hF ?_
  refine dv (gyes_none rfl) (q_mv (v := .string B) rfl) rfl (by decide) (cok1 trivial) ?_
  refine dv (gyes_none rfl) (q_mv (v := .int .i64 ((a : Nat) : Int)) rfl) rfl (by decide) (cok1 trivial) ?_
  refine dv (gyes_none rfl) (q_mv (v := .int .i64 ((a : Nat) : Int)) rfl) rfl (by decide) (cok1 trivial) ?_
  refine dv (gyes_none rfl) (OpQ.cast (v' := .int .i64 ((a + 4 : Nat) : Int)) (q_int rfl rfl rfl) (congrArg _ ((i64_in (by omega)).trans (by first | rfl | omega | (push_cast; rfl))))) rfl (by decide) (cok2 trivial (cconst rfl)) ?_
  refine dv (gyes_none rfl) (q_substr (i := a) (j := (a + 4)) Try.underlying9 rfl ⟨_, rfl⟩ ⟨_, rfl⟩ (by omega) (by omega)) rfl (by decide) (call_ok rfl) ?_
  refine dv (gyes_none rfl) (q_call0 Try.call34 rfl (rget_ok (B.extract a (a + 4)) (by rw [size_extract (by omega)]; omega))) rfl (by decide) (cok2 trivial trivial) ?_
  refine dv (gyes_none rfl) (q_convin (a := ((getB (B.extract a (a + 4)) : Nat) : Int)) Try.underlying45 Try.underlying3 rfl (i64_in (by have := atV_lt4 B a; rw [atV_in h] at this; omega))) rfl (by decide) (cok1 trivial) ?_
  refine dv (gyes_none rfl) (q_as (v := .int .i64 ((getB (B.extract a (a + 4)) : Nat) : Int)) rfl) rfl (by decide) (cok1 trivial) ?_
  refine ⟨_, Wk.refl _ _, ?_⟩
  show awp _ _ _ _ _ _ _
  refine awp_ret_wk ?_
  refine ⟨_, Wk.refl _ _, ?_⟩
  repeat (with_reducible first | refine then_ret ?_ | refine blk_ret ?_ | refine then_exit ?_ | refine blk_exit ?_ | refine blk_exit' (by decide) ?_ | refine blk_normal ?_ | refine then_normal ?_ | refine retq_ret ?_ | refine retq_normal ?_ | refine ng_normal ?_ | refine ng_ret ?_ | refine ng_exit ?_)
  exact ret_none (v := .int .i64 ((getB (B.extract a (a + 4)) : Nat) : Int)) rfl s0.kp (.tmp rfl .nil) rfl rfl ⟨by rw [atV_in h], rfl⟩
set_option maxRecDepth 100000 in
set_option maxHeartbeats 4000000 in
theorem rgread_ok {H0 : AHeap} (B : ByteArray) (hB : B.size ≤ 140737488355328) : ACalls Try.prog 16 [.string B] H0 (fun v H' => (gC B ≠ 0 ∧ v = .tuple #[.agg #[.int .u32 0, .int .u32 0, .slice none 0 0, .slice none 0 0, .slice none 0 0], .int .i64 ((gC B : Nat) : Int), .int .u64 ((gAt B : Nat) : Int)] ∧ K0 H0 H') ∨ (gC B = 0 ∧ ∃ b1 b2 b3, v = .tuple #[.agg #[.int .u32 ((gF0 B : Nat) : Int), .int .u32 ((gSh B : Nat) : Int), .slice (some ⟨b1, 0, none⟩) (gM B) (gM B), .slice (some ⟨b2, 0, none⟩) (gN B) (gN B), .slice (some ⟨b3, 0, none⟩) (gK B) (gK B)], .int .i64 0, .int .u64 0] ∧ NewL H0 H' [(b3, .cells true ((chL B (gA0 B) (gK B)).map u32v) 1), (b2, .cells true ((gBk B).map u32v) 1), (b1, .cells true ((gBl B).map u64v) 1)])) := by
  have hF : Wd Fence.wide := .inl rfl
  have hM : Try.prog.follows .mixedOrders = true := by kernel_rfl
  have hn4 : gN B < 4294967296 := atV_lt4 B 0
  have hf4 : gF0 B < 4294967296 := atV_lt4 B 4
  have hm4 : gM B < 4294967296 := atV_lt4 B 8
  have hs4 : gSh B < 4294967296 := atV_lt4 B 12
  have hgA : gA0 B = 16 + gM B * 8 + gN B * 4 := rfl
  have s0 := St.begin H0
  refine acalls_st Try.func16 rfl Try.ntmps16 rfl ?_
  refine awp_seq ?_
  refine awp_regs hF ?_
  refine x_new (fun b => .pointer (some ⟨b, 0, none⟩)) s0 (gyes_none rfl) (q_alloc (vs := [.int .u32 0, .int .u32 0, .slice none 0 0, .slice none 0 0, .slice none 0 0]) 5 Try.zeroValue35 (by first | exact flat_scalar rfl | exact flat_agg rfl) rfl) rfl (by decide) (by simp [Op.operands, Call.operands]) (fun b1 H2 hb4 s3 => ?_)
  refine dv (gyes_none rfl) (q_as (v := .int .i64 0) rfl) rfl (by decide) (cok1 (cconst rfl)) ?_
  refine dv (gyes_none rfl) (q_as (v := .int .u64 0) rfl) rfl (by decide) (cok1 (cconst rfl)) ?_
  refine ⟨_, Wk.refl _ _, ?_⟩
  show awp _ _ _ _ _ _ _
  refine awp_seq ?_
  refine awp_seq ?_
  refine awp_regs hF ?_
  refine dv (gyes_none rfl) (q_mv (v := .string B) rfl) rfl (by decide) (cok1 trivial) ?_
  refine dv (gyes_none rfl) (q_len_str Try.underlying9 rfl) rfl (by decide) (cok1 trivial) ?_
  refine dvb (gyes_none rfl) (q_int rfl rfl rfl) rfl (by decide) (cok2 trivial (cconst rfl)) (fun c1 => ?_) (fun c1 => ?_)
  ·
    replace c1 := of_decide_eq_true c1
    refine ⟨_, Wk.refl _ _, ?_⟩
    show awp _ _ _ _ _ _ _
    refine awp_cond_t rfl ?_
    refine awp_seq ?_
    refine awp_regs hF ?_
    refine dv (gyes_none rfl) (q_buildL (ds := [.int .u32 0, .int .u32 0, .slice none 0 0, .slice none 0 0, .slice none 0 0]) [(0, 1), (1, 1), (2, 1), (3, 1), (4, 1)] [] Try.underlying35 Try.zeroValue35 (by first | exact flat_agg rfl | exact flat_scalar rfl) (by kernel_rfl) trivial lvs0 rfl) rfl (by decide) (by simp [Op.operands, Call.operands]) ?_
    refine x_store [] hF s3 (by kernel_rfl) (gyes_none rfl) (j := 0) (v := .agg #[.int .u32 0, .int .u32 0, .slice none 0 0, .slice none 0 0, .slice none 0 0]) rfl Try.sizeOf35 rfl rfl rfl rfl rfl trivial (lcsA ⟨(lc_scalar rfl), (lc_scalar rfl), (lc_scalar rfl), (lc_scalar rfl), (lc_scalar rfl), trivial⟩) (Nat.le_of_ble_eq_true rfl) trivial trivial rfl rfl (F' := [(b1, .cells true [.int .u32 0, .int .u32 0, .slice none 0 0, .slice none 0 0, .slice none 0 0] 5)]) rfl (fun H5 s6 => ⟨?_, ?_⟩)
    · exact trivial
    refine dv (gyes_none rfl) (q_as (v := .int .i64 2) rfl) rfl (by decide) (cok1 (cconst rfl)) ?_
    refine dv (gyes_none rfl) (q_as (v := .int .u64 0) rfl) rfl (by decide) (cok1 (cconst rfl)) ?_
    refine ⟨_, Wk.refl _ _, ?_⟩
    show awp _ _ _ _ _ _ _
    refine awp_ret_wk ?_
    obtain ⟨e1, e2⟩ := gc_short (B := B) (by omega)
    refine ⟨_, Wk.refl _ _, ?_⟩
    repeat (with_reducible first | refine then_ret ?_ | refine blk_ret ?_ | refine then_exit ?_ | refine blk_exit ?_ | refine blk_exit' (by decide) ?_ | refine blk_normal ?_ | refine then_normal ?_ | refine retq_ret ?_ | refine retq_normal ?_ | refine ng_normal ?_ | refine ng_ret ?_ | refine ng_exit ?_)
    refine ret_is (v := .tuple #[.agg #[.int .u32 0, .int .u32 0, .slice none 0 0, .slice none 0 0, .slice none 0 0], .int .i64 2, .int .u64 0]) rfl (.agg rfl Try.isAgg35 Try.sizeOf35 (s6.rd (j := 0) rfl) (Nat.le_of_ble_eq_true rfl) rfl (.tmp rfl (.tmp rfl .nil))) rfl ?_
    exact .inl ⟨by rw [e1]; decide, by rw [e1, e2]; first | done | rfl | (congr 5; omega), s6.kp⟩
  ·
    replace c1 := of_decide_eq_false c1
    refine ⟨_, Wk.refl _ _, ?_⟩
    show awp _ _ _ _ _ _ _
    refine awp_cond_f rfl ?_
    refine awp_skip_wk ?_
    refine ⟨_, Wk.refl _ _, ?_⟩
    show awp _ _ _ _ _ _ _
    refine awp_seq ?_
    refine awp_regs hF ?_
    refine dv (gyes_none rfl) (q_mv (v := .string B) rfl) rfl (by decide) (cok1 trivial) ?_
    refine dv (gyes_none rfl) (q_call0 Try.call33 rfl (rnum_ok B 0 hB (by omega))) rfl (by decide) (call_ok rfl) ?_
    refine dv (gyes_none rfl) (q_mv (v := .string B) rfl) rfl (by decide) (cok1 trivial) ?_
    refine dv (gyes_none rfl) (q_call0 Try.call33 rfl (rnum_ok B 4 hB (by omega))) rfl (by decide) (call_ok rfl) ?_
    refine dv (gyes_none rfl) (q_mv (v := .string B) rfl) rfl (by decide) (cok1 trivial) ?_
    refine dv (gyes_none rfl) (q_call0 Try.call33 rfl (rnum_ok B 8 hB (by omega))) rfl (by decide) (call_ok rfl) ?_
    refine dv (gyes_none rfl) (q_as (v := .int .i64 ((gN B : Nat) : Int)) rfl) rfl (by decide) (cok1 trivial) ?_
    refine dv (gyes_none rfl) (q_as (v := .int .i64 ((gF0 B : Nat) : Int)) rfl) rfl (by decide) (cok1 trivial) ?_
    refine dv (gyes_none rfl) (q_as (v := .int .i64 ((gM B : Nat) : Int)) rfl) rfl (by decide) (cok1 trivial) ?_
    refine ⟨_, Wk.refl _ _, ?_⟩
    show awp _ _ _ _ _ _ _
    refine awp_seq ?_
    refine awp_seq ?_
    refine awp_regs hF ?_
    refine dv (gyes_none rfl) (q_mv (v := .int .i64 ((gN B : Nat) : Int)) rfl) rfl (by decide) (cok1 trivial) ?_
    refine dvb (gyes_none rfl) (q_int rfl rfl rfl) rfl (by decide) (cok2 trivial (cconst rfl)) (fun c2 => ?_) (fun c2 => ?_)
    ·
      replace c2 := eq_of_beq c2
      refine dv (gyes_none rfl) (q_mv (v := .bool true) rfl) rfl (by decide) (cok1 trivial) ?_
      refine dno rfl (.inl rfl) rfl (by decide) ?_
      refine dno rfl (.inl rfl) rfl (by decide) ?_
      refine dv (gyes_none rfl) (q_pt (v := .bool true) rfl rfl) rfl (by decide) (call_ok rfl) ?_
      refine ⟨_, Wk.refl _ _, ?_⟩
      show awp _ _ _ _ _ _ _
      refine awp_cond_t rfl ?_
      refine awp_seq ?_
      refine awp_regs hF ?_
      refine dv (gyes_none rfl) (q_buildL (ds := [.int .u32 0, .int .u32 0, .slice none 0 0, .slice none 0 0, .slice none 0 0]) [(0, 1), (1, 1), (2, 1), (3, 1), (4, 1)] [] Try.underlying35 Try.zeroValue35 (by first | exact flat_agg rfl | exact flat_scalar rfl) (by kernel_rfl) trivial lvs0 rfl) rfl (by decide) (by simp [Op.operands, Call.operands]) ?_
      refine x_store [] hF s3 (by kernel_rfl) (gyes_none rfl) (j := 0) (v := .agg #[.int .u32 0, .int .u32 0, .slice none 0 0, .slice none 0 0, .slice none 0 0]) rfl Try.sizeOf35 rfl rfl rfl rfl rfl trivial (lcsA ⟨(lc_scalar rfl), (lc_scalar rfl), (lc_scalar rfl), (lc_scalar rfl), (lc_scalar rfl), trivial⟩) (Nat.le_of_ble_eq_true rfl) trivial trivial rfl rfl (F' := [(b1, .cells true [.int .u32 0, .int .u32 0, .slice none 0 0, .slice none 0 0, .slice none 0 0] 5)]) rfl (fun H7 s8 => ⟨?_, ?_⟩)
      · exact trivial
      refine dv (gyes_none rfl) (q_as (v := .int .i64 4) rfl) rfl (by decide) (cok1 (cconst rfl)) ?_
      refine dv (gyes_none rfl) (q_as (v := .int .u64 0) rfl) rfl (by decide) (cok1 (cconst rfl)) ?_
      refine ⟨_, Wk.refl _ _, ?_⟩
      show awp _ _ _ _ _ _ _
      refine awp_ret_wk ?_
      obtain ⟨e1, e2⟩ := gc_zero (B := B) (by omega) (by omega)
      refine ⟨_, Wk.refl _ _, ?_⟩
      repeat (with_reducible first | refine then_ret ?_ | refine blk_ret ?_ | refine then_exit ?_ | refine blk_exit ?_ | refine blk_exit' (by decide) ?_ | refine blk_normal ?_ | refine then_normal ?_ | refine retq_ret ?_ | refine retq_normal ?_ | refine ng_normal ?_ | refine ng_ret ?_ | refine ng_exit ?_)
      refine ret_is (v := .tuple #[.agg #[.int .u32 0, .int .u32 0, .slice none 0 0, .slice none 0 0, .slice none 0 0], .int .i64 4, .int .u64 0]) rfl (.agg rfl Try.isAgg35 Try.sizeOf35 (s8.rd (j := 0) rfl) (Nat.le_of_ble_eq_true rfl) rfl (.tmp rfl (.tmp rfl .nil))) rfl ?_
      exact .inl ⟨by rw [e1]; decide, by rw [e1, e2]; first | done | rfl | (congr 5; omega), s8.kp⟩
    ·
      replace c2 := ne_of_beq_false c2
      refine dv (gyes_none rfl) (q_mv (v := .bool false) rfl) rfl (by decide) (cok1 trivial) ?_
      refine dv (gyes_some rfl rfl) (q_mv (v := .int .i64 ((gM B : Nat) : Int)) rfl) rfl (by decide) (cok1 trivial) ?_
      refine dvb (gyes_some rfl rfl) (q_int rfl rfl rfl) rfl (by decide) (cok2 trivial (cconst rfl)) (fun c3 => ?_) (fun c3 => ?_)
      ·
        replace c3 := eq_of_beq c3
        refine dv (gyes_none rfl) (q_pf (v := .bool true) rfl rfl) rfl (by decide) (call_ok rfl) ?_
        refine ⟨_, Wk.refl _ _, ?_⟩
        show awp _ _ _ _ _ _ _
        refine awp_cond_t rfl ?_
        refine awp_seq ?_
        refine awp_regs hF ?_
        refine dv (gyes_none rfl) (q_buildL (ds := [.int .u32 0, .int .u32 0, .slice none 0 0, .slice none 0 0, .slice none 0 0]) [(0, 1), (1, 1), (2, 1), (3, 1), (4, 1)] [] Try.underlying35 Try.zeroValue35 (by first | exact flat_agg rfl | exact flat_scalar rfl) (by kernel_rfl) trivial lvs0 rfl) rfl (by decide) (by simp [Op.operands, Call.operands]) ?_
        refine x_store [] hF s3 (by kernel_rfl) (gyes_none rfl) (j := 0) (v := .agg #[.int .u32 0, .int .u32 0, .slice none 0 0, .slice none 0 0, .slice none 0 0]) rfl Try.sizeOf35 rfl rfl rfl rfl rfl trivial (lcsA ⟨(lc_scalar rfl), (lc_scalar rfl), (lc_scalar rfl), (lc_scalar rfl), (lc_scalar rfl), trivial⟩) (Nat.le_of_ble_eq_true rfl) trivial trivial rfl rfl (F' := [(b1, .cells true [.int .u32 0, .int .u32 0, .slice none 0 0, .slice none 0 0, .slice none 0 0] 5)]) rfl (fun H9 s10 => ⟨?_, ?_⟩)
        · exact trivial
        refine dv (gyes_none rfl) (q_as (v := .int .i64 4) rfl) rfl (by decide) (cok1 (cconst rfl)) ?_
        refine dv (gyes_none rfl) (q_as (v := .int .u64 0) rfl) rfl (by decide) (cok1 (cconst rfl)) ?_
        refine ⟨_, Wk.refl _ _, ?_⟩
        show awp _ _ _ _ _ _ _
        refine awp_ret_wk ?_
        obtain ⟨e1, e2⟩ := gc_zero (B := B) (by omega) (by omega)
        refine ⟨_, Wk.refl _ _, ?_⟩
        repeat (with_reducible first | refine then_ret ?_ | refine blk_ret ?_ | refine then_exit ?_ | refine blk_exit ?_ | refine blk_exit' (by decide) ?_ | refine blk_normal ?_ | refine then_normal ?_ | refine retq_ret ?_ | refine retq_normal ?_ | refine ng_normal ?_ | refine ng_ret ?_ | refine ng_exit ?_)
        refine ret_is (v := .tuple #[.agg #[.int .u32 0, .int .u32 0, .slice none 0 0, .slice none 0 0, .slice none 0 0], .int .i64 4, .int .u64 0]) rfl (.agg rfl Try.isAgg35 Try.sizeOf35 (s10.rd (j := 0) rfl) (Nat.le_of_ble_eq_true rfl) rfl (.tmp rfl (.tmp rfl .nil))) rfl ?_
        exact .inl ⟨by rw [e1]; decide, by rw [e1, e2]; first | done | rfl | (congr 5; omega), s10.kp⟩
      ·
        replace c3 := ne_of_beq_false c3
        refine dv (gyes_none rfl) (q_pf (v := .bool false) rfl rfl) rfl (by decide) (call_ok rfl) ?_
        refine ⟨_, Wk.refl _ _, ?_⟩
        show awp _ _ _ _ _ _ _
        refine awp_cond_f rfl ?_
        refine awp_skip_wk ?_
        refine ⟨_, Wk.refl _ _, ?_⟩
        show awp _ _ _ _ _ _ _
        refine awp_seq ?_
        refine awp_seq ?_
        refine awp_regs hF ?_
        refine dv (gyes_none rfl) (q_mv (v := .int .i64 ((gN B : Nat) : Int)) rfl) rfl (by decide) (cok1 trivial) ?_
        refine dvb (gyes_none rfl) (q_int rfl rfl rfl) rfl (by decide) (cok2 trivial (cconst rfl)) (fun c4 => ?_) (fun c4 => ?_)
        ·
          replace c4 := of_decide_eq_true c4
          refine dv (gyes_none rfl) (q_mv (v := .bool true) rfl) rfl (by decide) (cok1 trivial) ?_
          refine dno rfl (.inl rfl) rfl (by decide) ?_
          refine dno rfl (.inl rfl) rfl (by decide) ?_
          refine dv (gyes_none rfl) (q_pt (v := .bool true) rfl rfl) rfl (by decide) (call_ok rfl) ?_
          refine dv (gyes_none rfl) (q_mv (v := .bool true) rfl) rfl (by decide) (cok1 trivial) ?_
          refine dno rfl (.inl rfl) rfl (by decide) ?_
          refine dno rfl (.inl rfl) rfl (by decide) ?_
          refine dv (gyes_none rfl) (q_pt (v := .bool true) rfl rfl) rfl (by decide) (call_ok rfl) ?_
          refine ⟨_, Wk.refl _ _, ?_⟩
          show awp _ _ _ _ _ _ _
          refine awp_cond_t rfl ?_
          refine awp_seq ?_
          refine awp_regs hF ?_
          refine dv (gyes_none rfl) (q_buildL (ds := [.int .u32 0, .int .u32 0, .slice none 0 0, .slice none 0 0, .slice none 0 0]) [(0, 1), (1, 1), (2, 1), (3, 1), (4, 1)] [] Try.underlying35 Try.zeroValue35 (by first | exact flat_agg rfl | exact flat_scalar rfl) (by kernel_rfl) trivial lvs0 rfl) rfl (by decide) (by simp [Op.operands, Call.operands]) ?_
          refine x_store [] hF s3 (by kernel_rfl) (gyes_none rfl) (j := 0) (v := .agg #[.int .u32 0, .int .u32 0, .slice none 0 0, .slice none 0 0, .slice none 0 0]) rfl Try.sizeOf35 rfl rfl rfl rfl rfl trivial (lcsA ⟨(lc_scalar rfl), (lc_scalar rfl), (lc_scalar rfl), (lc_scalar rfl), (lc_scalar rfl), trivial⟩) (Nat.le_of_ble_eq_true rfl) trivial trivial rfl rfl (F' := [(b1, .cells true [.int .u32 0, .int .u32 0, .slice none 0 0, .slice none 0 0, .slice none 0 0] 5)]) rfl (fun H11 s12 => ⟨?_, ?_⟩)
          · exact trivial
          refine dv (gyes_none rfl) (q_as (v := .int .i64 6) rfl) rfl (by decide) (cok1 (cconst rfl)) ?_
          refine dv (gyes_none rfl) (q_as (v := .int .u64 0) rfl) rfl (by decide) (cok1 (cconst rfl)) ?_
          refine ⟨_, Wk.refl _ _, ?_⟩
          show awp _ _ _ _ _ _ _
          refine awp_ret_wk ?_
          obtain ⟨e1, e2⟩ := gc_many (B := B) (by omega) (by omega) (by omega)
          refine ⟨_, Wk.refl _ _, ?_⟩
          repeat (with_reducible first | refine then_ret ?_ | refine blk_ret ?_ | refine then_exit ?_ | refine blk_exit ?_ | refine blk_exit' (by decide) ?_ | refine blk_normal ?_ | refine then_normal ?_ | refine retq_ret ?_ | refine retq_normal ?_ | refine ng_normal ?_ | refine ng_ret ?_ | refine ng_exit ?_)
          refine ret_is (v := .tuple #[.agg #[.int .u32 0, .int .u32 0, .slice none 0 0, .slice none 0 0, .slice none 0 0], .int .i64 6, .int .u64 0]) rfl (.agg rfl Try.isAgg35 Try.sizeOf35 (s12.rd (j := 0) rfl) (Nat.le_of_ble_eq_true rfl) rfl (.tmp rfl (.tmp rfl .nil))) rfl ?_
          exact .inl ⟨by rw [e1]; decide, by rw [e1, e2]; first | done | rfl | (congr 5; omega), s12.kp⟩
        ·
          replace c4 := of_decide_eq_false c4
          refine dv (gyes_none rfl) (q_mv (v := .bool false) rfl) rfl (by decide) (cok1 trivial) ?_
          refine dv (gyes_some rfl rfl) (q_mv (v := .int .i64 ((gM B : Nat) : Int)) rfl) rfl (by decide) (cok1 trivial) ?_
          refine dvb (gyes_some rfl rfl) (q_int rfl rfl rfl) rfl (by decide) (cok2 trivial (cconst rfl)) (fun c5 => ?_) (fun c5 => ?_)
          ·
            replace c5 := of_decide_eq_true c5
            refine dv (gyes_none rfl) (q_pf (v := .bool true) rfl rfl) rfl (by decide) (call_ok rfl) ?_
            refine dv (gyes_none rfl) (q_mv (v := .bool true) rfl) rfl (by decide) (cok1 trivial) ?_
            refine dno rfl (.inl rfl) rfl (by decide) ?_
            refine dno rfl (.inl rfl) rfl (by decide) ?_
            refine dv (gyes_none rfl) (q_pt (v := .bool true) rfl rfl) rfl (by decide) (call_ok rfl) ?_
            refine ⟨_, Wk.refl _ _, ?_⟩
            show awp _ _ _ _ _ _ _
            refine awp_cond_t rfl ?_
            refine awp_seq ?_
            refine awp_regs hF ?_
            refine dv (gyes_none rfl) (q_buildL (ds := [.int .u32 0, .int .u32 0, .slice none 0 0, .slice none 0 0, .slice none 0 0]) [(0, 1), (1, 1), (2, 1), (3, 1), (4, 1)] [] Try.underlying35 Try.zeroValue35 (by first | exact flat_agg rfl | exact flat_scalar rfl) (by kernel_rfl) trivial lvs0 rfl) rfl (by decide) (by simp [Op.operands, Call.operands]) ?_
            refine x_store [] hF s3 (by kernel_rfl) (gyes_none rfl) (j := 0) (v := .agg #[.int .u32 0, .int .u32 0, .slice none 0 0, .slice none 0 0, .slice none 0 0]) rfl Try.sizeOf35 rfl rfl rfl rfl rfl trivial (lcsA ⟨(lc_scalar rfl), (lc_scalar rfl), (lc_scalar rfl), (lc_scalar rfl), (lc_scalar rfl), trivial⟩) (Nat.le_of_ble_eq_true rfl) trivial trivial rfl rfl (F' := [(b1, .cells true [.int .u32 0, .int .u32 0, .slice none 0 0, .slice none 0 0, .slice none 0 0] 5)]) rfl (fun H13 s14 => ⟨?_, ?_⟩)
            · exact trivial
            refine dv (gyes_none rfl) (q_as (v := .int .i64 6) rfl) rfl (by decide) (cok1 (cconst rfl)) ?_
            refine dv (gyes_none rfl) (q_as (v := .int .u64 0) rfl) rfl (by decide) (cok1 (cconst rfl)) ?_
            refine ⟨_, Wk.refl _ _, ?_⟩
            show awp _ _ _ _ _ _ _
            refine awp_ret_wk ?_
            obtain ⟨e1, e2⟩ := gc_many (B := B) (by omega) (by omega) (by omega)
            refine ⟨_, Wk.refl _ _, ?_⟩
            repeat (with_reducible first | refine then_ret ?_ | refine blk_ret ?_ | refine then_exit ?_ | refine blk_exit ?_ | refine blk_exit' (by decide) ?_ | refine blk_normal ?_ | refine then_normal ?_ | refine retq_ret ?_ | refine retq_normal ?_ | refine ng_normal ?_ | refine ng_ret ?_ | refine ng_exit ?_)
            refine ret_is (v := .tuple #[.agg #[.int .u32 0, .int .u32 0, .slice none 0 0, .slice none 0 0, .slice none 0 0], .int .i64 6, .int .u64 0]) rfl (.agg rfl Try.isAgg35 Try.sizeOf35 (s14.rd (j := 0) rfl) (Nat.le_of_ble_eq_true rfl) rfl (.tmp rfl (.tmp rfl .nil))) rfl ?_
            exact .inl ⟨by rw [e1]; decide, by rw [e1, e2]; first | done | rfl | (congr 5; omega), s14.kp⟩
          ·
            replace c5 := of_decide_eq_false c5
            refine dv (gyes_none rfl) (q_pf (v := .bool false) rfl rfl) rfl (by decide) (call_ok rfl) ?_
            refine dv (gyes_none rfl) (q_mv (v := .bool false) rfl) rfl (by decide) (cok1 trivial) ?_
            refine dv (gyes_some rfl rfl) (q_mv (v := .int .i64 ((gF0 B : Nat) : Int)) rfl) rfl (by decide) (cok1 trivial) ?_
            refine dvb (gyes_some rfl rfl) (q_int rfl rfl rfl) rfl (by decide) (cok2 trivial (cconst rfl)) (fun c6 => ?_) (fun c6 => ?_)
            ·
              replace c6 := of_decide_eq_true c6
              refine dv (gyes_none rfl) (q_pf (v := .bool true) rfl rfl) rfl (by decide) (call_ok rfl) ?_
              refine ⟨_, Wk.refl _ _, ?_⟩
              show awp _ _ _ _ _ _ _
              refine awp_cond_t rfl ?_
              refine awp_seq ?_
              refine awp_regs hF ?_
              refine dv (gyes_none rfl) (q_buildL (ds := [.int .u32 0, .int .u32 0, .slice none 0 0, .slice none 0 0, .slice none 0 0]) [(0, 1), (1, 1), (2, 1), (3, 1), (4, 1)] [] Try.underlying35 Try.zeroValue35 (by first | exact flat_agg rfl | exact flat_scalar rfl) (by kernel_rfl) trivial lvs0 rfl) rfl (by decide) (by simp [Op.operands, Call.operands]) ?_
              refine x_store [] hF s3 (by kernel_rfl) (gyes_none rfl) (j := 0) (v := .agg #[.int .u32 0, .int .u32 0, .slice none 0 0, .slice none 0 0, .slice none 0 0]) rfl Try.sizeOf35 rfl rfl rfl rfl rfl trivial (lcsA ⟨(lc_scalar rfl), (lc_scalar rfl), (lc_scalar rfl), (lc_scalar rfl), (lc_scalar rfl), trivial⟩) (Nat.le_of_ble_eq_true rfl) trivial trivial rfl rfl (F' := [(b1, .cells true [.int .u32 0, .int .u32 0, .slice none 0 0, .slice none 0 0, .slice none 0 0] 5)]) rfl (fun H15 s16 => ⟨?_, ?_⟩)
              · exact trivial
              refine dv (gyes_none rfl) (q_as (v := .int .i64 6) rfl) rfl (by decide) (cok1 (cconst rfl)) ?_
              refine dv (gyes_none rfl) (q_as (v := .int .u64 0) rfl) rfl (by decide) (cok1 (cconst rfl)) ?_
              refine ⟨_, Wk.refl _ _, ?_⟩
              show awp _ _ _ _ _ _ _
              refine awp_ret_wk ?_
              obtain ⟨e1, e2⟩ := gc_many (B := B) (by omega) (by omega) (by omega)
              refine ⟨_, Wk.refl _ _, ?_⟩
              repeat (with_reducible first | refine then_ret ?_ | refine blk_ret ?_ | refine then_exit ?_ | refine blk_exit ?_ | refine blk_exit' (by decide) ?_ | refine blk_normal ?_ | refine then_normal ?_ | refine retq_ret ?_ | refine retq_normal ?_ | refine ng_normal ?_ | refine ng_ret ?_ | refine ng_exit ?_)
              refine ret_is (v := .tuple #[.agg #[.int .u32 0, .int .u32 0, .slice none 0 0, .slice none 0 0, .slice none 0 0], .int .i64 6, .int .u64 0]) rfl (.agg rfl Try.isAgg35 Try.sizeOf35 (s16.rd (j := 0) rfl) (Nat.le_of_ble_eq_true rfl) rfl (.tmp rfl (.tmp rfl .nil))) rfl ?_
              exact .inl ⟨by rw [e1]; decide, by rw [e1, e2]; first | done | rfl | (congr 5; omega), s16.kp⟩
            ·
              replace c6 := of_decide_eq_false c6
              refine dv (gyes_none rfl) (q_pf (v := .bool false) rfl rfl) rfl (by decide) (call_ok rfl) ?_
              refine ⟨_, Wk.refl _ _, ?_⟩
              show awp _ _ _ _ _ _ _
              refine awp_cond_f rfl ?_
              refine awp_skip_wk ?_
              refine ⟨_, Wk.refl _ _, ?_⟩
              show awp _ _ _ _ _ _ _
              refine awp_seq ?_
              refine awp_regs hF ?_
              refine dv (gyes_none rfl) (q_mv (v := .int .i64 ((gM B : Nat) : Int)) rfl) rfl (by decide) (cok1 trivial) ?_
              refine dv (gyes_none rfl) (OpQ.cast (v' := .int .i64 ((8 * (gM B) : Nat) : Int)) (q_int rfl rfl rfl) (congrArg _ ((i64_in (by omega)).trans (by first | rfl | omega | (push_cast; rfl))))) rfl (by decide) (cok2 (cconst rfl) trivial) ?_
              refine dv (gyes_none rfl) (OpQ.cast (v' := .int .i64 ((16 + (8 * (gM B)) : Nat) : Int)) (q_int rfl rfl rfl) (congrArg _ ((i64_in (by omega)).trans (by first | rfl | omega | (push_cast; rfl))))) rfl (by decide) (cok2 (cconst rfl) trivial) ?_
              refine dv (gyes_none rfl) (q_as (v := .int .i64 ((16 + (8 * (gM B)) : Nat) : Int)) rfl) rfl (by decide) (cok1 trivial) ?_
              refine ⟨_, Wk.refl _ _, ?_⟩
              show awp _ _ _ _ _ _ _
              refine awp_seq ?_
              refine awp_seq ?_
              refine awp_regs hF ?_
              refine dv (gyes_none rfl) (q_mv (v := .string B) rfl) rfl (by decide) (cok1 trivial) ?_
              refine dv (gyes_none rfl) (q_len_str Try.underlying9 rfl) rfl (by decide) (cok1 trivial) ?_
              refine dv (gyes_none rfl) (q_mv (v := .int .i64 ((16 + (8 * (gM B)) : Nat) : Int)) rfl) rfl (by decide) (cok1 trivial) ?_
              refine dv (gyes_none rfl) (q_mv (v := .int .i64 ((gN B : Nat) : Int)) rfl) rfl (by decide) (cok1 trivial) ?_
              refine dv (gyes_none rfl) (OpQ.cast (v' := .int .i64 ((4 * (gN B) : Nat) : Int)) (q_int rfl rfl rfl) (congrArg _ ((i64_in (by omega)).trans (by first | rfl | omega | (push_cast; rfl))))) rfl (by decide) (cok2 (cconst rfl) trivial) ?_
              refine dv (gyes_none rfl) (OpQ.cast (v' := .int .i64 ((16 + (8 * (gM B)) + (4 * (gN B)) : Nat) : Int)) (q_int rfl rfl rfl) (congrArg _ ((i64_in (by omega)).trans (by first | rfl | omega | (push_cast; rfl))))) rfl (by decide) (cok2 trivial trivial) ?_
              refine dvb (gyes_none rfl) (q_int rfl rfl rfl) rfl (by decide) (cok2 trivial trivial) (fun c7 => ?_) (fun c7 => ?_)
              ·
                replace c7 := of_decide_eq_true c7
                refine ⟨_, Wk.refl _ _, ?_⟩
                show awp _ _ _ _ _ _ _
                refine awp_cond_t rfl ?_
                refine awp_seq ?_
                refine awp_regs hF ?_
                refine dv (gyes_none rfl) (q_buildL (ds := [.int .u32 0, .int .u32 0, .slice none 0 0, .slice none 0 0, .slice none 0 0]) [(0, 1), (1, 1), (2, 1), (3, 1), (4, 1)] [] Try.underlying35 Try.zeroValue35 (by first | exact flat_agg rfl | exact flat_scalar rfl) (by kernel_rfl) trivial lvs0 rfl) rfl (by decide) (by simp [Op.operands, Call.operands]) ?_
                refine x_store [] hF s3 (by kernel_rfl) (gyes_none rfl) (j := 0) (v := .agg #[.int .u32 0, .int .u32 0, .slice none 0 0, .slice none 0 0, .slice none 0 0]) rfl Try.sizeOf35 rfl rfl rfl rfl rfl trivial (lcsA ⟨(lc_scalar rfl), (lc_scalar rfl), (lc_scalar rfl), (lc_scalar rfl), (lc_scalar rfl), trivial⟩) (Nat.le_of_ble_eq_true rfl) trivial trivial rfl rfl (F' := [(b1, .cells true [.int .u32 0, .int .u32 0, .slice none 0 0, .slice none 0 0, .slice none 0 0] 5)]) rfl (fun H17 s18 => ⟨?_, ?_⟩)
                · exact trivial
                refine dv (gyes_none rfl) (q_as (v := .int .i64 2) rfl) rfl (by decide) (cok1 (cconst rfl)) ?_
                refine dv (gyes_none rfl) (q_as (v := .int .u64 0) rfl) rfl (by decide) (cok1 (cconst rfl)) ?_
                refine ⟨_, Wk.refl _ _, ?_⟩
                show awp _ _ _ _ _ _ _
                refine awp_ret_wk ?_
                obtain ⟨e1, e2⟩ := gc_out (B := B) (by omega) (by omega) (by omega) (by omega)
                refine ⟨_, Wk.refl _ _, ?_⟩
                repeat (with_reducible first | refine then_ret ?_ | refine blk_ret ?_ | refine then_exit ?_ | refine blk_exit ?_ | refine blk_exit' (by decide) ?_ | refine blk_normal ?_ | refine then_normal ?_ | refine retq_ret ?_ | refine retq_normal ?_ | refine ng_normal ?_ | refine ng_ret ?_ | refine ng_exit ?_)
                refine ret_is (v := .tuple #[.agg #[.int .u32 0, .int .u32 0, .slice none 0 0, .slice none 0 0, .slice none 0 0], .int .i64 2, .int .u64 0]) rfl (.agg rfl Try.isAgg35 Try.sizeOf35 (s18.rd (j := 0) rfl) (Nat.le_of_ble_eq_true rfl) rfl (.tmp rfl (.tmp rfl .nil))) rfl ?_
                exact .inl ⟨by rw [e1]; decide, by rw [e1, e2]; first | done | rfl | (congr 5; omega), s18.kp⟩
              ·
                replace c7 := of_decide_eq_false c7
                refine ⟨_, Wk.refl _ _, ?_⟩
                show awp _ _ _ _ _ _ _
                refine awp_cond_f rfl ?_
                refine awp_skip_wk ?_
                refine ⟨_, Wk.refl _ _, ?_⟩
                show awp _ _ _ _ _ _ _
                refine awp_seq ?_
                refine awp_regs hF ?_
                refine dv (gyes_none rfl) (q_mv (v := .int .i64 ((gF0 B : Nat) : Int)) rfl) rfl (by decide) (cok1 trivial) ?_
                refine dv (gyes_none rfl) (q_convin (a := ((gF0 B : Nat) : Int)) Try.underlying3 Try.underlying27 rfl (u32_in (by omega))) rfl (by decide) (cok1 trivial) ?_
                refine dv (gyes_none rfl) (q_mv (v := .string B) rfl) rfl (by decide) (cok1 trivial) ?_
                refine dv (gyes_none rfl) (q_call0 Try.call33 rfl (rnum_ok B 12 hB (by omega))) rfl (by decide) (call_ok rfl) ?_
                refine dv (gyes_none rfl) (q_convin (a := ((gSh B : Nat) : Int)) Try.underlying3 Try.underlying27 rfl (u32_in (by omega))) rfl (by decide) (cok1 trivial) ?_
                refine dv (gyes_none rfl) (q_buildL (ds := [.int .u32 ((gF0 B : Nat) : Int), .int .u32 ((gSh B : Nat) : Int), .slice none 0 0, .slice none 0 0, .slice none 0 0]) [(0, 1), (1, 1), (2, 1), (3, 1), (4, 1)] [.int .u32 ((gF0 B : Nat) : Int), .int .u32 ((gSh B : Nat) : Int)] Try.underlying35 Try.zeroValue35 (by first | exact flat_agg rfl | exact flat_scalar rfl) (by kernel_rfl) ⟨rfl, rfl, trivial⟩ (lvsC (by exact trivial) (lvsC (by exact trivial) lvs0)) rfl) rfl (by decide) (cok2 trivial trivial) ?_
                refine x_new (fun b => .pointer (some ⟨b, 0, none⟩)) s3 (gyes_none rfl) (q_alloc (vs := [.int .u32 0, .int .u32 0, .slice none 0 0, .slice none 0 0, .slice none 0 0]) 5 Try.zeroValue35 (by first | exact flat_scalar rfl | exact flat_agg rfl) rfl) rfl (by decide) (by simp [Op.operands, Call.operands]) (fun b19 H20 hb22 s21 => ?_)
                refine x_store [] hF s21 (by kernel_rfl) (gyes_none rfl) (j := 0) (v := .agg #[.int .u32 ((gF0 B : Nat) : Int), .int .u32 ((gSh B : Nat) : Int), .slice none 0 0, .slice none 0 0, .slice none 0 0]) rfl Try.sizeOf35 rfl rfl rfl rfl rfl trivial (lcsA ⟨(lc_scalar rfl), (lc_scalar rfl), (lc_scalar rfl), (lc_scalar rfl), (lc_scalar rfl), trivial⟩) (Nat.le_of_ble_eq_true rfl) trivial trivial rfl rfl (F' := [(b19, .cells true [.int .u32 ((gF0 B : Nat) : Int), .int .u32 ((gSh B : Nat) : Int), .slice none 0 0, .slice none 0 0, .slice none 0 0] 5), (b1, .cells true [.int .u32 0, .int .u32 0, .slice none 0 0, .slice none 0 0, .slice none 0 0] 5)]) rfl (fun H23 s24 => ⟨?_, ?_⟩)
                · exact trivial
                refine ⟨_, Wk.refl _ _, ?_⟩
                show awp _ _ _ _ _ _ _
                refine awp_seq ?_
                refine awp_seq ?_
                refine awp_regs hF ?_
                refine dv (gyes_none rfl) (q_as (v := .int .i64 0) rfl) rfl (by decide) (cok1 (cconst rfl)) ?_
                refine ⟨_, Wk.refl _ _, ?_⟩
                show awp _ _ _ _ _ _ _
                refine awp_block ?_
                refine awp_nilc s24 (j := 0) (o := 2) (sz' := 1) rfl rfl (fun b25 H26 hb28 s27 => ?_)
                refine awp_wk (Wk.U [(0, .string B), (2, .pointer (some ⟨b1, 0, none⟩)), (3, .int .i64 0), (4, .int .u64 0), (5, .int .i64 ((gN B : Nat) : Int)), (6, .int .i64 ((gF0 B : Nat) : Int)), (7, .int .i64 ((gM B : Nat) : Int)), (8, .int .i64 ((16 + (8 * (gM B)) : Nat) : Int)), (9, .pointer (some ⟨b19, 0, none⟩)), (10, .int .i64 0)] ⟨rfl, rfl, rfl, rfl, rfl, rfl, rfl, rfl, rfl, rfl, trivial⟩) ?_
                refine awp_loop (fun (qa : Nat) st => ∃ (H29 : AHeap) (y1 : Nat), st = ⟨157, U [(0, .string B), (2, .pointer (some ⟨b1, 0, none⟩)), (3, .int .i64 0), (4, .int .u64 0), (5, .int .i64 ((gN B : Nat) : Int)), (6, .int .i64 ((gF0 B : Nat) : Int)), (7, .int .i64 ((gM B : Nat) : Int)), (8, .int .i64 ((16 + (8 * (gM B)) : Nat) : Int)), (9, .pointer (some ⟨b19, 0, none⟩)), (10, .int .i64 ((qa : Nat) : Int))], [], H29⟩ ∧ St H0 (none0) (Rd H0) H29 [(y1, .cells true (((gBl B).take qa).map u64v) 1), (b19, .cells true [.int .u32 ((gF0 B : Nat) : Int), .int .u32 ((gSh B : Nat) : Int), .slice (some ⟨y1, 0, none⟩) qa qa, .slice none 0 0, .slice none 0 0] 5), (b1, .cells true [.int .u32 0, .int .u32 0, .slice none 0 0, .slice none 0 0, .slice none 0 0] 5)] ∧ (qa ≤ gM B)) (fun (qa : Nat) => gM B - qa) (x0 := (0)) ?h0 ?round
                case h0 =>
                  exact ⟨_, _, rfl, s27, Nat.zero_le _⟩
                case round =>
                  rintro qa _ ⟨H29, y1, rfl, s30, ha⟩
                  refine awp_seq ?_
                  refine awp_seq ?_
                  refine awp_regs hF ?_
                  refine dv (gyes_none rfl) (q_mv (v := .int .i64 ((qa : Nat) : Int)) rfl) rfl (by decide) (cok1 trivial) ?_
                  refine dv (gyes_none rfl) (q_mv (v := .int .i64 ((gM B : Nat) : Int)) rfl) rfl (by decide) (cok1 trivial) ?_
                  refine dvb (gyes_none rfl) (q_int rfl rfl rfl) rfl (by decide) (cok2 trivial trivial) (fun c8 => ?_) (fun c8 => ?_)
                  ·
                    replace c8 := of_decide_eq_true c8
                    refine ⟨_, Wk.refl _ _, ?_⟩
                    show awp _ _ _ _ _ _ _
                    refine awp_cond_t rfl ?_
                    refine awp_skip_wk ?_
                    refine ⟨_, Wk.refl _ _, ?_⟩
                    show awp _ _ _ _ _ _ _
                    refine awp_seq ?_
                    refine awp_block ?_
                    refine awp_regt hF hM (by kernel_rfl) (by kernel_rfl) ?_
                    refine dv (gyes_none rfl) (q_field Try.underlying35 rfl Try.sizeOf28 rfl (s30.rd (j := 1) rfl)) rfl (by decide) (cok1 trivial) ?_
                    refine dv (gyes_none rfl) (q_load (v := .slice (some ⟨y1, 0, none⟩) qa qa) Try.isAgg28 rfl (s30.rd (j := 1) rfl) rfl) rfl (by decide) (cok1 trivial) ?_
                    refine dv (gyes_none rfl) (q_mv (v := .string B) rfl) rfl (by decide) (cok1 trivial) ?_
                    refine dv (gyes_none rfl) (q_mv (v := .int .i64 ((qa : Nat) : Int)) rfl) rfl (by decide) (cok1 trivial) ?_
                    refine dv (gyes_none rfl) (OpQ.cast (v' := .int .i64 ((8 * qa : Nat) : Int)) (q_int rfl rfl rfl) (congrArg _ ((i64_in (by omega)).trans (by first | rfl | omega | (push_cast; rfl))))) rfl (by decide) (cok2 (cconst rfl) trivial) ?_
                    refine dv (gyes_none rfl) (OpQ.cast (v' := .int .i64 ((16 + (8 * qa) : Nat) : Int)) (q_int rfl rfl rfl) (congrArg _ ((i64_in (by omega)).trans (by first | rfl | omega | (push_cast; rfl))))) rfl (by decide) (cok2 (cconst rfl) trivial) ?_
                    refine dv (gyes_none rfl) (q_mv (v := .int .i64 ((qa : Nat) : Int)) rfl) rfl (by decide) (cok1 trivial) ?_
                    refine dv (gyes_none rfl) (OpQ.cast (v' := .int .i64 ((8 * qa : Nat) : Int)) (q_int rfl rfl rfl) (congrArg _ ((i64_in (by omega)).trans (by first | rfl | omega | (push_cast; rfl))))) rfl (by decide) (cok2 (cconst rfl) trivial) ?_
                    refine dv (gyes_none rfl) (OpQ.cast (v' := .int .i64 ((24 + (8 * qa) : Nat) : Int)) (q_int rfl rfl rfl) (congrArg _ ((i64_in (by omega)).trans (by first | rfl | omega | (push_cast; rfl))))) rfl (by decide) (cok2 (cconst rfl) trivial) ?_
                    refine dv (gyes_none rfl) (q_substr (i := (16 + (8 * qa))) (j := (24 + (8 * qa))) Try.underlying9 rfl ⟨_, rfl⟩ ⟨_, rfl⟩ (by omega) (by omega)) rfl (by decide) (call_ok rfl) ?_
                    refine dv (gyes_none rfl) (q_call0 Try.call34 rfl (ACalls.castV (v' := .int .u64 ((nth (gBl B) qa : Nat) : Int)) (rget_ok (B.extract (16 + (8 * qa)) (24 + (8 * qa))) (by rw [size_extract (by omega)]; omega)) (by rw [gBl_at (B := B) (by omega) (by omega)]))) rfl (by decide) (cok2 trivial trivial) ?_
                    refine x_new (fun b => .slice (some ⟨b, 0, none⟩) 1 1) s30 (gyes_none rfl) (q_buildSliceL (ds := [.int .u64 ((nth (gBl B) qa : Nat) : Int)]) [.int .u64 ((nth (gBl B) qa : Nat) : Int)] rfl Try.underlying28 Try.sizeOf45 Try.zeroValue45 rfl (by decide) (by decide) ⟨rfl, trivial⟩ (lvsC (by exact trivial) lvs0) rfl rfl) rfl (by decide) (cok1 trivial) (fun b31 H32 hb34 s33 => ?_)
                    refine x_append (l := [(nth (gBl B) qa)]) (f := u64v) [] hF s33 (by kernel_rfl) (j := 1) (qa + 1) rfl (gyes_none rfl) Try.underlying28 Try.underlying28 Try.type45 rfl rfl (by decide) rfl rfl rfl rfl (s33.slj (l := [(nth (gBl B) qa)]) (f := u64v) (j := 0) rfl rfl (Nat.le_refl _)) (fun x => lc_scalar rfl) (by rw [List.length_map, List.length_take, gBl_len, Nat.zero_add]; omega) (by show (2 * (qa + 1) + 1000) * 8 ≤ _; omega) trivial trivial (by decide) rfl rfl (vs' := ((gBl B).take (qa + 1)).map u64v) (by rw [← tk_succ (by rw [gBl_len]; omega), List.map_append]; rfl) (fun b35 H36 hb38 s37 => ⟨?_, ?_⟩)
                    · exact trivial
                    refine dv (gyes_none rfl) (q_field Try.underlying35 rfl Try.sizeOf28 rfl (s37.rd (j := 2) rfl)) rfl (by decide) (cok1 trivial) ?_
                    refine x_store1 [] hF s37 (by kernel_rfl) (gyes_none rfl) (j := 2) (v := .slice (some ⟨b35, 0, none⟩) (qa + 1) (qa + 1)) rfl Try.sizeOf28 rfl rfl rfl (lc_slice (s37.live (j := 1) rfl)) (Nat.le_of_ble_eq_true rfl) trivial trivial rfl rfl (F' := [(b31, .cells true [.int .u64 ((nth (gBl B) qa : Nat) : Int)] 1), (b35, .cells true (((gBl B).take (qa + 1)).map u64v) 1), (b19, .cells true [.int .u32 ((gF0 B : Nat) : Int), .int .u32 ((gSh B : Nat) : Int), .slice (some ⟨b35, 0, none⟩) (qa + 1) (qa + 1), .slice none 0 0, .slice none 0 0] 5), (b1, .cells true [.int .u32 0, .int .u32 0, .slice none 0 0, .slice none 0 0, .slice none 0 0] 5)]) rfl (fun H39 s40 => ⟨?_, ?_⟩)
                    · exact trivial
                    refine ⟨_, Wk.refl _ _, ?_⟩
                    show awp _ _ _ _ _ _ _
                    refine awp_regs hF ?_
                    refine dv (gyes_none rfl) (q_mv (v := .int .i64 ((qa : Nat) : Int)) rfl) rfl (by decide) (cok1 trivial) ?_
                    refine dv (gyes_none rfl) (OpQ.cast (v' := .int .i64 ((qa + 1 : Nat) : Int)) (q_int rfl rfl rfl) (congrArg _ ((i64_in (by omega)).trans (by first | rfl | omega | (push_cast; rfl))))) rfl (by decide) (cok2 trivial (cconst rfl)) ?_
                    refine dv (gyes_none rfl) (q_as (v := .int .i64 ((qa + 1 : Nat) : Int)) rfl) rfl (by decide) (cok1 trivial) ?_
                    refine ⟨_, Wk.U [(0, .string B), (2, .pointer (some ⟨b1, 0, none⟩)), (3, .int .i64 0), (4, .int .u64 0), (5, .int .i64 ((gN B : Nat) : Int)), (6, .int .i64 ((gF0 B : Nat) : Int)), (7, .int .i64 ((gM B : Nat) : Int)), (8, .int .i64 ((16 + (8 * (gM B)) : Nat) : Int)), (9, .pointer (some ⟨b19, 0, none⟩)), (10, .int .i64 (((qa + 1) : Nat) : Int))] ⟨rfl, rfl, rfl, rfl, rfl, rfl, rfl, rfl, rfl, rfl, trivial⟩, (qa + 1), ⟨_, _, rfl, (s40.sub (.cons _ (.cons_cons _ (.cons_cons _ (.cons_cons _ (.refl _)))))), (by omega)⟩, (by omega)⟩
                  ·
                    replace c8 := of_decide_eq_false c8
                    refine ⟨_, Wk.refl _ _, ?_⟩
                    show awp _ _ _ _ _ _ _
                    refine awp_cond_f rfl ?_
                    refine awp_exit_wk ?_
                    refine ⟨_, Wk.refl _ _, ?_⟩
                    show awp _ _ _ _ _ _ _
                    refine awp_seq ?_
                    obtain rfl : qa = gM B := by omega
                    refine awp_regs hF ?_
                    refine dv (gyes_none rfl) (q_as (v := .int .i64 0) rfl) rfl (by decide) (cok1 (cconst rfl)) ?_
                    refine ⟨_, Wk.refl _ _, ?_⟩
                    show awp _ _ _ _ _ _ _
                    refine awp_seq ?_
                    refine awp_seq ?_
                    refine awp_regs hF ?_
                    refine dv (gyes_none rfl) (q_as (v := .int .i64 0) rfl) rfl (by decide) (cok1 (cconst rfl)) ?_
                    refine ⟨_, Wk.refl _ _, ?_⟩
                    show awp _ _ _ _ _ _ _
                    refine awp_block ?_
                    refine awp_nilc s30 (j := 1) (o := 3) (sz' := 1) rfl rfl (fun b41 H42 hb44 s43 => ?_)
                    refine awp_wk (Wk.U [(0, .string B), (2, .pointer (some ⟨b1, 0, none⟩)), (3, .int .i64 0), (4, .int .u64 0), (5, .int .i64 ((gN B : Nat) : Int)), (6, .int .i64 ((gF0 B : Nat) : Int)), (7, .int .i64 ((gM B : Nat) : Int)), (8, .int .i64 ((16 + (8 * (gM B)) : Nat) : Int)), (9, .pointer (some ⟨b19, 0, none⟩)), (11, .int .i64 0), (12, .int .i64 0)] ⟨rfl, rfl, rfl, rfl, rfl, rfl, rfl, rfl, rfl, rfl, rfl, trivial⟩) ?_
                    refine awp_loop (fun ((qb, m) : Nat × Nat) st => ∃ (H45 : AHeap) (y0 : Nat), st = ⟨157, U [(0, .string B), (2, .pointer (some ⟨b1, 0, none⟩)), (3, .int .i64 0), (4, .int .u64 0), (5, .int .i64 ((gN B : Nat) : Int)), (6, .int .i64 ((gF0 B : Nat) : Int)), (7, .int .i64 ((gM B : Nat) : Int)), (8, .int .i64 ((16 + (8 * (gM B)) : Nat) : Int)), (9, .pointer (some ⟨b19, 0, none⟩)), (11, .int .i64 ((m : Nat) : Int)), (12, .int .i64 ((qb : Nat) : Int))], [], H45⟩ ∧ St H0 (none0) (Rd H0) H45 [(y0, .cells true (((gBk B).take qb).map u32v) 1), (y1, .cells true (((gBl B).take (gM B)).map u64v) 1), (b19, .cells true [.int .u32 ((gF0 B : Nat) : Int), .int .u32 ((gSh B : Nat) : Int), .slice (some ⟨y1, 0, none⟩) (gM B) (gM B), .slice (some ⟨y0, 0, none⟩) qb qb, .slice none 0 0] 5), (b1, .cells true [.int .u32 0, .int .u32 0, .slice none 0 0, .slice none 0 0, .slice none 0 0] 5)] ∧ (qb ≤ gN B ∧ m = maxL ((gBk B).take qb) ∧ ∀ j, j < qb → gBad B j = false)) (fun ((qb, m) : Nat × Nat) => gN B - qb) (x0 := (0, 0)) ?h0 ?round
                    case h0 =>
                      exact ⟨_, _, rfl, s43, ⟨Nat.zero_le _, rfl, fun j h => absurd h (Nat.not_lt_zero _)⟩⟩
                    case round =>
                      rintro ⟨qb, m⟩ _ ⟨H45, y0, rfl, s46, hm⟩
                      dsimp only at *
                      refine awp_seq ?_
                      refine awp_seq ?_
                      refine awp_regs hF ?_
                      refine dv (gyes_none rfl) (q_mv (v := .int .i64 ((qb : Nat) : Int)) rfl) rfl (by decide) (cok1 trivial) ?_
                      refine dv (gyes_none rfl) (q_mv (v := .int .i64 ((gN B : Nat) : Int)) rfl) rfl (by decide) (cok1 trivial) ?_
                      refine dvb (gyes_none rfl) (q_int rfl rfl rfl) rfl (by decide) (cok2 trivial trivial) (fun c9 => ?_) (fun c9 => ?_)
                      ·
                        replace c9 := of_decide_eq_true c9
                        refine ⟨_, Wk.refl _ _, ?_⟩
                        show awp _ _ _ _ _ _ _
                        refine awp_cond_t rfl ?_
                        refine awp_skip_wk ?_
                        refine ⟨_, Wk.refl _ _, ?_⟩
                        show awp _ _ _ _ _ _ _
                        refine awp_seq ?_
                        refine awp_block ?_
                        refine awp_seq ?_
                        refine awp_regs hF ?_
                        refine dv (gyes_none rfl) (q_mv (v := .string B) rfl) rfl (by decide) (cok1 trivial) ?_
                        refine dv (gyes_none rfl) (q_mv (v := .int .i64 ((16 + (8 * (gM B)) : Nat) : Int)) rfl) rfl (by decide) (cok1 trivial) ?_
                        refine dv (gyes_none rfl) (q_mv (v := .int .i64 ((qb : Nat) : Int)) rfl) rfl (by decide) (cok1 trivial) ?_
                        refine dv (gyes_none rfl) (OpQ.cast (v' := .int .i64 ((4 * qb : Nat) : Int)) (q_int rfl rfl rfl) (congrArg _ ((i64_in (by omega)).trans (by first | rfl | omega | (push_cast; rfl))))) rfl (by decide) (cok2 (cconst rfl) trivial) ?_
                        refine dv (gyes_none rfl) (OpQ.cast (v' := .int .i64 ((16 + (8 * (gM B)) + (4 * qb) : Nat) : Int)) (q_int rfl rfl rfl) (congrArg _ ((i64_in (by omega)).trans (by first | rfl | omega | (push_cast; rfl))))) rfl (by decide) (cok2 trivial trivial) ?_
                        refine dv (gyes_none rfl) (q_call0 Try.call33 rfl (ACalls.castV (v' := .int .i64 ((nth (gBk B) qb : Nat) : Int)) (rnum_ok B (16 + (8 * (gM B)) + (4 * qb)) hB (by omega)) (by rw [gBk_at (B := B) (by omega) (by omega)]))) rfl (by decide) (call_ok rfl) ?_
                        refine dv (gyes_none rfl) (q_as (v := .int .i64 ((nth (gBk B) qb : Nat) : Int)) rfl) rfl (by decide) (cok1 trivial) ?_
                        refine ⟨_, Wk.refl _ _, ?_⟩
                        show awp _ _ _ _ _ _ _
                        refine awp_seq ?_
                        refine awp_seq ?_
                        have hvl : nth (gBk B) qb < 4294967296 := gBk_w _ (nthS_mem (by rw [gBk_len]; omega))
                        refine awp_regs hF ?_
                        refine dv (gyes_none rfl) (q_mv (v := .int .i64 ((nth (gBk B) qb : Nat) : Int)) rfl) rfl (by decide) (cok1 trivial) ?_
                        refine dvb (gyes_none rfl) (q_int rfl rfl rfl) rfl (by decide) (cok2 trivial (cconst rfl)) (fun c10 => ?_) (fun c10 => ?_)
                        ·
                          replace c10 := of_decide_eq_true c10
                          refine dv (gyes_none rfl) (q_mv (v := .bool true) rfl) rfl (by decide) (cok1 trivial) ?_
                          refine dv (gyes_some rfl rfl) (q_mv (v := .int .i64 ((nth (gBk B) qb : Nat) : Int)) rfl) rfl (by decide) (cok1 trivial) ?_
                          refine dv (gyes_some rfl rfl) (q_mv (v := .int .i64 ((gF0 B : Nat) : Int)) rfl) rfl (by decide) (cok1 trivial) ?_
                          refine dvb (gyes_some rfl rfl) (q_int rfl rfl rfl) rfl (by decide) (cok2 trivial trivial) (fun c11 => ?_) (fun c11 => ?_)
                          ·
                            replace c11 := of_decide_eq_true c11
                            refine dv (gyes_some rfl rfl) (q_mv (v := .bool true) rfl) rfl (by decide) (cok1 trivial) ?_
                            refine dno rfl (.inl rfl) rfl (by decide) ?_
                            refine dno rfl (.inl rfl) rfl (by decide) ?_
                            refine dv (gyes_some rfl rfl) (q_pt (v := .bool true) rfl rfl) rfl (by decide) (call_ok rfl) ?_
                            refine dv (gyes_none rfl) (q_pt (v := .bool true) rfl rfl) rfl (by decide) (call_ok rfl) ?_
                            refine ⟨_, Wk.refl _ _, ?_⟩
                            show awp _ _ _ _ _ _ _
                            refine awp_cond_t rfl ?_
                            refine awp_seq ?_
                            refine awp_regs hF ?_
                            refine dv (gyes_none rfl) (q_buildL (ds := [.int .u32 0, .int .u32 0, .slice none 0 0, .slice none 0 0, .slice none 0 0]) [(0, 1), (1, 1), (2, 1), (3, 1), (4, 1)] [] Try.underlying35 Try.zeroValue35 (by first | exact flat_agg rfl | exact flat_scalar rfl) (by kernel_rfl) trivial lvs0 rfl) rfl (by decide) (by simp [Op.operands, Call.operands]) ?_
                            refine dv (gyes_none rfl) (q_mv (v := .int .i64 ((16 + (8 * (gM B)) : Nat) : Int)) rfl) rfl (by decide) (cok1 trivial) ?_
                            refine dv (gyes_none rfl) (q_mv (v := .int .i64 ((qb : Nat) : Int)) rfl) rfl (by decide) (cok1 trivial) ?_
                            refine dv (gyes_none rfl) (OpQ.cast (v' := .int .i64 ((4 * qb : Nat) : Int)) (q_int rfl rfl rfl) (congrArg _ ((i64_in (by omega)).trans (by first | rfl | omega | (push_cast; rfl))))) rfl (by decide) (cok2 (cconst rfl) trivial) ?_
                            refine dv (gyes_none rfl) (OpQ.cast (v' := .int .i64 ((16 + (8 * (gM B)) + (4 * qb) : Nat) : Int)) (q_int rfl rfl rfl) (congrArg _ ((i64_in (by omega)).trans (by first | rfl | omega | (push_cast; rfl))))) rfl (by decide) (cok2 trivial trivial) ?_
                            refine dv (gyes_none rfl) (q_convin (a := ((16 + (8 * (gM B)) + (4 * qb) : Nat) : Int)) Try.underlying3 Try.underlying45 rfl (u64_in (by omega))) rfl (by decide) (cok1 trivial) ?_
                            refine x_store [] hF s46 (by kernel_rfl) (gyes_none rfl) (j := 3) (v := .agg #[.int .u32 0, .int .u32 0, .slice none 0 0, .slice none 0 0, .slice none 0 0]) rfl Try.sizeOf35 rfl rfl rfl rfl rfl trivial (lcsA ⟨(lc_scalar rfl), (lc_scalar rfl), (lc_scalar rfl), (lc_scalar rfl), (lc_scalar rfl), trivial⟩) (Nat.le_of_ble_eq_true rfl) trivial trivial rfl rfl (F' := [(y0, .cells true (((gBk B).take qb).map u32v) 1), (y1, .cells true (((gBl B).take (gM B)).map u64v) 1), (b19, .cells true [.int .u32 ((gF0 B : Nat) : Int), .int .u32 ((gSh B : Nat) : Int), .slice (some ⟨y1, 0, none⟩) (gM B) (gM B), .slice (some ⟨y0, 0, none⟩) qb qb, .slice none 0 0] 5), (b1, .cells true [.int .u32 0, .int .u32 0, .slice none 0 0, .slice none 0 0, .slice none 0 0] 5)]) rfl (fun H47 s48 => ⟨?_, ?_⟩)
                            · exact trivial
                            refine dv (gyes_none rfl) (q_as (v := .int .i64 5) rfl) rfl (by decide) (cok1 (cconst rfl)) ?_
                            refine dv (gyes_none rfl) (q_as (v := .int .u64 ((16 + (8 * (gM B)) + (4 * qb) : Nat) : Int)) rfl) rfl (by decide) (cok1 trivial) ?_
                            refine ⟨_, Wk.refl _ _, ?_⟩
                            show awp _ _ _ _ _ _ _
                            refine awp_ret_wk ?_
                            obtain ⟨e1, e2⟩ := gc_bad (B := B) (i := qb) (by omega) (by omega) (by omega) (by omega) (by omega) (gBad_y (by omega) (by omega)) hm.2.2
                            have e3 : 16 + 8 * gM B + 4 * qb = gAt B := by omega
                            refine ⟨_, Wk.refl _ _, ?_⟩
                            repeat (with_reducible first | refine then_ret ?_ | refine blk_ret ?_ | refine then_exit ?_ | refine blk_exit ?_ | refine blk_exit' (by decide) ?_ | refine blk_normal ?_ | refine then_normal ?_ | refine retq_ret ?_ | refine retq_normal ?_ | refine ng_normal ?_ | refine ng_ret ?_ | refine ng_exit ?_)
                            refine ret_is (v := .tuple #[.agg #[.int .u32 0, .int .u32 0, .slice none 0 0, .slice none 0 0, .slice none 0 0], .int .i64 5, .int .u64 ((16 + (8 * (gM B)) + (4 * qb) : Nat) : Int)]) rfl (.agg rfl Try.isAgg35 Try.sizeOf35 (s48.rd (j := 3) rfl) (Nat.le_of_ble_eq_true rfl) rfl (.tmp rfl (.tmp rfl .nil))) rfl ?_
                            exact .inl ⟨by rw [e1]; decide, by rw [e1, ← e3]; rfl, s48.kp⟩
                          ·
                            replace c11 := of_decide_eq_false c11
                            refine dv (gyes_some rfl rfl) (q_mv (v := .bool false) rfl) rfl (by decide) (cok1 trivial) ?_
                            refine dv (gyes_some rfl rfl) (q_mv (v := .int .i64 ((nth (gBk B) qb : Nat) : Int)) rfl) rfl (by decide) (cok1 trivial) ?_
                            refine dvb (gyes_some rfl rfl) (q_int rfl rfl rfl) rfl (by decide) (cok2 trivial (cconst rfl)) (fun c12 => ?_) (fun c12 => ?_)
                            ·
                              replace c12 := of_decide_eq_true c12
                              refine dv (gyes_some rfl rfl) (q_pf (v := .bool true) rfl rfl) rfl (by decide) (call_ok rfl) ?_
                              refine dv (gyes_none rfl) (q_pt (v := .bool true) rfl rfl) rfl (by decide) (call_ok rfl) ?_
                              refine ⟨_, Wk.refl _ _, ?_⟩
                              show awp _ _ _ _ _ _ _
                              refine awp_cond_t rfl ?_
                              refine awp_seq ?_
                              refine awp_regs hF ?_
                              refine dv (gyes_none rfl) (q_buildL (ds := [.int .u32 0, .int .u32 0, .slice none 0 0, .slice none 0 0, .slice none 0 0]) [(0, 1), (1, 1), (2, 1), (3, 1), (4, 1)] [] Try.underlying35 Try.zeroValue35 (by first | exact flat_agg rfl | exact flat_scalar rfl) (by kernel_rfl) trivial lvs0 rfl) rfl (by decide) (by simp [Op.operands, Call.operands]) ?_
                              refine dv (gyes_none rfl) (q_mv (v := .int .i64 ((16 + (8 * (gM B)) : Nat) : Int)) rfl) rfl (by decide) (cok1 trivial) ?_
                              refine dv (gyes_none rfl) (q_mv (v := .int .i64 ((qb : Nat) : Int)) rfl) rfl (by decide) (cok1 trivial) ?_
                              refine dv (gyes_none rfl) (OpQ.cast (v' := .int .i64 ((4 * qb : Nat) : Int)) (q_int rfl rfl rfl) (congrArg _ ((i64_in (by omega)).trans (by first | rfl | omega | (push_cast; rfl))))) rfl (by decide) (cok2 (cconst rfl) trivial) ?_
                              refine dv (gyes_none rfl) (OpQ.cast (v' := .int .i64 ((16 + (8 * (gM B)) + (4 * qb) : Nat) : Int)) (q_int rfl rfl rfl) (congrArg _ ((i64_in (by omega)).trans (by first | rfl | omega | (push_cast; rfl))))) rfl (by decide) (cok2 trivial trivial) ?_
                              refine dv (gyes_none rfl) (q_convin (a := ((16 + (8 * (gM B)) + (4 * qb) : Nat) : Int)) Try.underlying3 Try.underlying45 rfl (u64_in (by omega))) rfl (by decide) (cok1 trivial) ?_
                              refine x_store [] hF s46 (by kernel_rfl) (gyes_none rfl) (j := 3) (v := .agg #[.int .u32 0, .int .u32 0, .slice none 0 0, .slice none 0 0, .slice none 0 0]) rfl Try.sizeOf35 rfl rfl rfl rfl rfl trivial (lcsA ⟨(lc_scalar rfl), (lc_scalar rfl), (lc_scalar rfl), (lc_scalar rfl), (lc_scalar rfl), trivial⟩) (Nat.le_of_ble_eq_true rfl) trivial trivial rfl rfl (F' := [(y0, .cells true (((gBk B).take qb).map u32v) 1), (y1, .cells true (((gBl B).take (gM B)).map u64v) 1), (b19, .cells true [.int .u32 ((gF0 B : Nat) : Int), .int .u32 ((gSh B : Nat) : Int), .slice (some ⟨y1, 0, none⟩) (gM B) (gM B), .slice (some ⟨y0, 0, none⟩) qb qb, .slice none 0 0] 5), (b1, .cells true [.int .u32 0, .int .u32 0, .slice none 0 0, .slice none 0 0, .slice none 0 0] 5)]) rfl (fun H49 s50 => ⟨?_, ?_⟩)
                              · exact trivial
                              refine dv (gyes_none rfl) (q_as (v := .int .i64 5) rfl) rfl (by decide) (cok1 (cconst rfl)) ?_
                              refine dv (gyes_none rfl) (q_as (v := .int .u64 ((16 + (8 * (gM B)) + (4 * qb) : Nat) : Int)) rfl) rfl (by decide) (cok1 trivial) ?_
                              refine ⟨_, Wk.refl _ _, ?_⟩
                              show awp _ _ _ _ _ _ _
                              refine awp_ret_wk ?_
                              obtain ⟨e1, e2⟩ := gc_bad (B := B) (i := qb) (by omega) (by omega) (by omega) (by omega) (by omega) (gBad_y (by omega) (by omega)) hm.2.2
                              have e3 : 16 + 8 * gM B + 4 * qb = gAt B := by omega
                              refine ⟨_, Wk.refl _ _, ?_⟩
                              repeat (with_reducible first | refine then_ret ?_ | refine blk_ret ?_ | refine then_exit ?_ | refine blk_exit ?_ | refine blk_exit' (by decide) ?_ | refine blk_normal ?_ | refine then_normal ?_ | refine retq_ret ?_ | refine retq_normal ?_ | refine ng_normal ?_ | refine ng_ret ?_ | refine ng_exit ?_)
                              refine ret_is (v := .tuple #[.agg #[.int .u32 0, .int .u32 0, .slice none 0 0, .slice none 0 0, .slice none 0 0], .int .i64 5, .int .u64 ((16 + (8 * (gM B)) + (4 * qb) : Nat) : Int)]) rfl (.agg rfl Try.isAgg35 Try.sizeOf35 (s50.rd (j := 3) rfl) (Nat.le_of_ble_eq_true rfl) rfl (.tmp rfl (.tmp rfl .nil))) rfl ?_
                              exact .inl ⟨by rw [e1]; decide, by rw [e1, ← e3]; rfl, s50.kp⟩
                            ·
                              replace c12 := of_decide_eq_false c12
                              refine dv (gyes_some rfl rfl) (q_pf (v := .bool false) rfl rfl) rfl (by decide) (call_ok rfl) ?_
                              refine dv (gyes_none rfl) (q_pt (v := .bool false) rfl rfl) rfl (by decide) (call_ok rfl) ?_
                              refine ⟨_, Wk.refl _ _, ?_⟩
                              show awp _ _ _ _ _ _ _
                              refine awp_cond_f rfl ?_
                              refine awp_skip_wk ?_
                              refine ⟨_, Wk.refl _ _, ?_⟩
                              show awp _ _ _ _ _ _ _
                              refine awp_seq ?_
                              refine awp_regs hF ?_
                              refine dv (gyes_none rfl) (q_mv (v := .int .i64 ((m : Nat) : Int)) rfl) rfl (by decide) (cok1 trivial) ?_
                              refine dv (gyes_none rfl) (q_mv (v := .int .i64 ((nth (gBk B) qb : Nat) : Int)) rfl) rfl (by decide) (cok1 trivial) ?_
                              refine dv (gyes_none rfl) (OpQ.cast (v' := .int .i64 ((max m (nth (gBk B) qb) : Nat) : Int)) (q_max rfl rfl) (by congr 1; split <;> omega)) rfl (by decide) (cok2 trivial trivial) ?_
                              refine dv (gyes_none rfl) (q_as (v := .int .i64 ((max m (nth (gBk B) qb) : Nat) : Int)) rfl) rfl (by decide) (cok1 trivial) ?_
                              refine ⟨_, Wk.refl _ _, ?_⟩
                              show awp _ _ _ _ _ _ _
                              refine awp_regs hF ?_
                              refine dv (gyes_none rfl) (q_field Try.underlying35 rfl Try.sizeOf29 rfl (s46.rd (j := 2) rfl)) rfl (by decide) (cok1 trivial) ?_
                              refine dv (gyes_none rfl) (q_load (v := .slice (some ⟨y0, 0, none⟩) qb qb) Try.isAgg29 rfl (s46.rd (j := 2) rfl) rfl) rfl (by decide) (cok1 trivial) ?_
                              refine dv (gyes_none rfl) (q_mv (v := .int .i64 ((nth (gBk B) qb : Nat) : Int)) rfl) rfl (by decide) (cok1 trivial) ?_
                              refine dv (gyes_none rfl) (q_convin (a := ((nth (gBk B) qb : Nat) : Int)) Try.underlying3 Try.underlying27 rfl (u32_in (by omega))) rfl (by decide) (cok1 trivial) ?_
                              refine x_new (fun b => .slice (some ⟨b, 0, none⟩) 1 1) s46 (gyes_none rfl) (q_buildSliceL (ds := [.int .u32 ((nth (gBk B) qb : Nat) : Int)]) [.int .u32 ((nth (gBk B) qb : Nat) : Int)] rfl Try.underlying29 Try.sizeOf27 Try.zeroValue27 rfl (by decide) (by decide) ⟨rfl, trivial⟩ (lvsC (by exact trivial) lvs0) rfl rfl) rfl (by decide) (cok1 trivial) (fun b51 H52 hb54 s53 => ?_)
                              refine x_append (l := [(nth (gBk B) qb)]) (f := u32v) [] hF s53 (by kernel_rfl) (j := 1) (qb + 1) rfl (gyes_none rfl) Try.underlying29 Try.underlying29 Try.type27 rfl rfl (by decide) rfl rfl rfl rfl (s53.slj (l := [(nth (gBk B) qb)]) (f := u32v) (j := 0) rfl rfl (Nat.le_refl _)) (fun x => lc_scalar rfl) (by rw [List.length_map, List.length_take, gBk_len, Nat.zero_add]; omega) (by show (2 * (qb + 1) + 1000) * 4 ≤ _; omega) trivial trivial (by decide) rfl rfl (vs' := ((gBk B).take (qb + 1)).map u32v) (by rw [← tk_succ (by rw [gBk_len]; omega), List.map_append]; rfl) (fun b55 H56 hb58 s57 => ⟨?_, ?_⟩)
                              · exact trivial
                              refine dv (gyes_none rfl) (q_field Try.underlying35 rfl Try.sizeOf29 rfl (s57.rd (j := 3) rfl)) rfl (by decide) (cok1 trivial) ?_
                              refine x_store1 [] hF s57 (by kernel_rfl) (gyes_none rfl) (j := 3) (v := .slice (some ⟨b55, 0, none⟩) (qb + 1) (qb + 1)) rfl Try.sizeOf29 rfl rfl rfl (lc_slice (s57.live (j := 1) rfl)) (Nat.le_of_ble_eq_true rfl) trivial trivial rfl rfl (F' := [(b51, .cells true [.int .u32 ((nth (gBk B) qb : Nat) : Int)] 1), (b55, .cells true (((gBk B).take (qb + 1)).map u32v) 1), (y1, .cells true (((gBl B).take (gM B)).map u64v) 1), (b19, .cells true [.int .u32 ((gF0 B : Nat) : Int), .int .u32 ((gSh B : Nat) : Int), .slice (some ⟨y1, 0, none⟩) (gM B) (gM B), .slice (some ⟨b55, 0, none⟩) (qb + 1) (qb + 1), .slice none 0 0] 5), (b1, .cells true [.int .u32 0, .int .u32 0, .slice none 0 0, .slice none 0 0, .slice none 0 0] 5)]) rfl (fun H59 s60 => ⟨?_, ?_⟩)
                              · exact trivial
                              refine ⟨_, Wk.refl _ _, ?_⟩
                              show awp _ _ _ _ _ _ _
                              refine awp_regs hF ?_
                              refine dv (gyes_none rfl) (q_mv (v := .int .i64 ((qb : Nat) : Int)) rfl) rfl (by decide) (cok1 trivial) ?_
                              refine dv (gyes_none rfl) (OpQ.cast (v' := .int .i64 ((qb + 1 : Nat) : Int)) (q_int rfl rfl rfl) (congrArg _ ((i64_in (by omega)).trans (by first | rfl | omega | (push_cast; rfl))))) rfl (by decide) (cok2 trivial (cconst rfl)) ?_
                              refine dv (gyes_none rfl) (q_as (v := .int .i64 ((qb + 1 : Nat) : Int)) rfl) rfl (by decide) (cok1 trivial) ?_
                              refine ⟨_, Wk.U [(0, .string B), (2, .pointer (some ⟨b1, 0, none⟩)), (3, .int .i64 0), (4, .int .u64 0), (5, .int .i64 ((gN B : Nat) : Int)), (6, .int .i64 ((gF0 B : Nat) : Int)), (7, .int .i64 ((gM B : Nat) : Int)), (8, .int .i64 ((16 + (8 * (gM B)) : Nat) : Int)), (9, .pointer (some ⟨b19, 0, none⟩)), (11, .int .i64 (((max m (nth (gBk B) qb)) : Nat) : Int)), (12, .int .i64 (((qb + 1) : Nat) : Int))] ⟨rfl, rfl, rfl, rfl, rfl, rfl, rfl, rfl, rfl, rfl, rfl, trivial⟩, ((qb + 1), (max m (nth (gBk B) qb))), ⟨_, _, rfl, (s60.sub (.cons _ (.cons_cons _ (.cons_cons _ (.cons_cons _ (.cons_cons _ (.refl _))))))), ⟨by omega, by rw [hm.2.1]; exact maxL_succ (by rw [gBk_len]; omega), lt_succ_casesN hm.2.2 (gBad_n (by omega))⟩⟩, (by omega)⟩
                        ·
                          replace c10 := of_decide_eq_false c10
                          refine dv (gyes_none rfl) (q_mv (v := .bool false) rfl) rfl (by decide) (cok1 trivial) ?_
                          refine dno rfl (.inl rfl) rfl (by decide) ?_
                          refine dno rfl (.inl rfl) rfl (by decide) ?_
                          refine dno rfl (.inl rfl) rfl (by decide) ?_
                          refine dno rfl (.inl rfl) rfl (by decide) ?_
                          refine dno rfl (.inr rfl) rfl (by decide) ?_
                          refine dno rfl (.inr rfl) rfl (by decide) ?_
                          refine dno rfl (.inl rfl) rfl (by decide) ?_
                          refine dv (gyes_none rfl) (q_pf (v := .bool false) rfl rfl) rfl (by decide) (call_ok rfl) ?_
                          refine ⟨_, Wk.refl _ _, ?_⟩
                          show awp _ _ _ _ _ _ _
                          refine awp_cond_f rfl ?_
                          refine awp_skip_wk ?_
                          refine ⟨_, Wk.refl _ _, ?_⟩
                          show awp _ _ _ _ _ _ _
                          refine awp_seq ?_
                          refine awp_regs hF ?_
                          refine dv (gyes_none rfl) (q_mv (v := .int .i64 ((m : Nat) : Int)) rfl) rfl (by decide) (cok1 trivial) ?_
                          refine dv (gyes_none rfl) (q_mv (v := .int .i64 ((nth (gBk B) qb : Nat) : Int)) rfl) rfl (by decide) (cok1 trivial) ?_
                          refine dv (gyes_none rfl) (OpQ.cast (v' := .int .i64 ((max m (nth (gBk B) qb) : Nat) : Int)) (q_max rfl rfl) (by congr 1; split <;> omega)) rfl (by decide) (cok2 trivial trivial) ?_
                          refine dv (gyes_none rfl) (q_as (v := .int .i64 ((max m (nth (gBk B) qb) : Nat) : Int)) rfl) rfl (by decide) (cok1 trivial) ?_
                          refine ⟨_, Wk.refl _ _, ?_⟩
                          show awp _ _ _ _ _ _ _
                          refine awp_regs hF ?_
                          refine dv (gyes_none rfl) (q_field Try.underlying35 rfl Try.sizeOf29 rfl (s46.rd (j := 2) rfl)) rfl (by decide) (cok1 trivial) ?_
                          refine dv (gyes_none rfl) (q_load (v := .slice (some ⟨y0, 0, none⟩) qb qb) Try.isAgg29 rfl (s46.rd (j := 2) rfl) rfl) rfl (by decide) (cok1 trivial) ?_
                          refine dv (gyes_none rfl) (q_mv (v := .int .i64 ((nth (gBk B) qb : Nat) : Int)) rfl) rfl (by decide) (cok1 trivial) ?_
                          refine dv (gyes_none rfl) (q_convin (a := ((nth (gBk B) qb : Nat) : Int)) Try.underlying3 Try.underlying27 rfl (u32_in (by omega))) rfl (by decide) (cok1 trivial) ?_
                          refine x_new (fun b => .slice (some ⟨b, 0, none⟩) 1 1) s46 (gyes_none rfl) (q_buildSliceL (ds := [.int .u32 ((nth (gBk B) qb : Nat) : Int)]) [.int .u32 ((nth (gBk B) qb : Nat) : Int)] rfl Try.underlying29 Try.sizeOf27 Try.zeroValue27 rfl (by decide) (by decide) ⟨rfl, trivial⟩ (lvsC (by exact trivial) lvs0) rfl rfl) rfl (by decide) (cok1 trivial) (fun b61 H62 hb64 s63 => ?_)
                          refine x_append (l := [(nth (gBk B) qb)]) (f := u32v) [] hF s63 (by kernel_rfl) (j := 1) (qb + 1) rfl (gyes_none rfl) Try.underlying29 Try.underlying29 Try.type27 rfl rfl (by decide) rfl rfl rfl rfl (s63.slj (l := [(nth (gBk B) qb)]) (f := u32v) (j := 0) rfl rfl (Nat.le_refl _)) (fun x => lc_scalar rfl) (by rw [List.length_map, List.length_take, gBk_len, Nat.zero_add]; omega) (by show (2 * (qb + 1) + 1000) * 4 ≤ _; omega) trivial trivial (by decide) rfl rfl (vs' := ((gBk B).take (qb + 1)).map u32v) (by rw [← tk_succ (by rw [gBk_len]; omega), List.map_append]; rfl) (fun b65 H66 hb68 s67 => ⟨?_, ?_⟩)
                          · exact trivial
                          refine dv (gyes_none rfl) (q_field Try.underlying35 rfl Try.sizeOf29 rfl (s67.rd (j := 3) rfl)) rfl (by decide) (cok1 trivial) ?_
                          refine x_store1 [] hF s67 (by kernel_rfl) (gyes_none rfl) (j := 3) (v := .slice (some ⟨b65, 0, none⟩) (qb + 1) (qb + 1)) rfl Try.sizeOf29 rfl rfl rfl (lc_slice (s67.live (j := 1) rfl)) (Nat.le_of_ble_eq_true rfl) trivial trivial rfl rfl (F' := [(b61, .cells true [.int .u32 ((nth (gBk B) qb : Nat) : Int)] 1), (b65, .cells true (((gBk B).take (qb + 1)).map u32v) 1), (y1, .cells true (((gBl B).take (gM B)).map u64v) 1), (b19, .cells true [.int .u32 ((gF0 B : Nat) : Int), .int .u32 ((gSh B : Nat) : Int), .slice (some ⟨y1, 0, none⟩) (gM B) (gM B), .slice (some ⟨b65, 0, none⟩) (qb + 1) (qb + 1), .slice none 0 0] 5), (b1, .cells true [.int .u32 0, .int .u32 0, .slice none 0 0, .slice none 0 0, .slice none 0 0] 5)]) rfl (fun H69 s70 => ⟨?_, ?_⟩)
                          · exact trivial
                          refine ⟨_, Wk.refl _ _, ?_⟩
                          show awp _ _ _ _ _ _ _
                          refine awp_regs hF ?_
                          refine dv (gyes_none rfl) (q_mv (v := .int .i64 ((qb : Nat) : Int)) rfl) rfl (by decide) (cok1 trivial) ?_
                          refine dv (gyes_none rfl) (OpQ.cast (v' := .int .i64 ((qb + 1 : Nat) : Int)) (q_int rfl rfl rfl) (congrArg _ ((i64_in (by omega)).trans (by first | rfl | omega | (push_cast; rfl))))) rfl (by decide) (cok2 trivial (cconst rfl)) ?_
                          refine dv (gyes_none rfl) (q_as (v := .int .i64 ((qb + 1 : Nat) : Int)) rfl) rfl (by decide) (cok1 trivial) ?_
                          refine ⟨_, Wk.U [(0, .string B), (2, .pointer (some ⟨b1, 0, none⟩)), (3, .int .i64 0), (4, .int .u64 0), (5, .int .i64 ((gN B : Nat) : Int)), (6, .int .i64 ((gF0 B : Nat) : Int)), (7, .int .i64 ((gM B : Nat) : Int)), (8, .int .i64 ((16 + (8 * (gM B)) : Nat) : Int)), (9, .pointer (some ⟨b19, 0, none⟩)), (11, .int .i64 (((max m (nth (gBk B) qb)) : Nat) : Int)), (12, .int .i64 (((qb + 1) : Nat) : Int))] ⟨rfl, rfl, rfl, rfl, rfl, rfl, rfl, rfl, rfl, rfl, rfl, trivial⟩, ((qb + 1), (max m (nth (gBk B) qb))), ⟨_, _, rfl, (s70.sub (.cons _ (.cons_cons _ (.cons_cons _ (.cons_cons _ (.cons_cons _ (.refl _))))))), ⟨by omega, by rw [hm.2.1]; exact maxL_succ (by rw [gBk_len]; omega), lt_succ_casesN hm.2.2 (gBad_n (by omega))⟩⟩, (by omega)⟩
                      ·
                        replace c9 := of_decide_eq_false c9
                        refine ⟨_, Wk.refl _ _, ?_⟩
                        show awp _ _ _ _ _ _ _
                        refine awp_cond_f rfl ?_
                        refine awp_exit_wk ?_
                        refine ⟨_, Wk.refl _ _, ?_⟩
                        show awp _ _ _ _ _ _ _
                        refine awp_seq ?_
                        obtain rfl : qb = gN B := by omega
                        have hme : m = maxL (gBk B) := by rw [hm.2.1, List.take_of_length_le (by rw [gBk_len]; exact Nat.le_refl _)]
                        refine awp_regs hF ?_
                        refine dv (gyes_none rfl) (q_mv (v := .int .i64 ((16 + (8 * (gM B)) : Nat) : Int)) rfl) rfl (by decide) (cok1 trivial) ?_
                        refine dv (gyes_none rfl) (q_mv (v := .int .i64 ((gN B : Nat) : Int)) rfl) rfl (by decide) (cok1 trivial) ?_
                        refine dv (gyes_none rfl) (OpQ.cast (v' := .int .i64 ((4 * (gN B) : Nat) : Int)) (q_int rfl rfl rfl) (congrArg _ ((i64_in (by omega)).trans (by first | rfl | omega | (push_cast; rfl))))) rfl (by decide) (cok2 (cconst rfl) trivial) ?_
                        refine dv (gyes_none rfl) (OpQ.cast (v' := .int .i64 ((16 + (8 * (gM B)) + (4 * (gN B)) : Nat) : Int)) (q_int rfl rfl rfl) (congrArg _ ((i64_in (by omega)).trans (by first | rfl | omega | (push_cast; rfl))))) rfl (by decide) (cok2 trivial trivial) ?_
                        refine dv (gyes_none rfl) (q_as (v := .int .i64 ((16 + (8 * (gM B)) + (4 * (gN B)) : Nat) : Int)) rfl) rfl (by decide) (cok1 trivial) ?_
                        refine ⟨_, Wk.refl _ _, ?_⟩
                        show awp _ _ _ _ _ _ _
                        refine awp_seq ?_
                        refine awp_seq ?_
                        refine awp_regs hF ?_
                        refine dv (gyes_none rfl) (q_mv (v := .int .i64 ((gF0 B : Nat) : Int)) rfl) rfl (by decide) (cok1 trivial) ?_
                        refine dv (gyes_none rfl) (q_as (v := .int .i64 ((gF0 B : Nat) : Int)) rfl) rfl (by decide) (cok1 trivial) ?_
                        refine ⟨_, Wk.refl _ _, ?_⟩
                        show awp _ _ _ _ _ _ _
                        refine awp_block ?_
                        refine awp_nilc s46 (j := 2) (o := 4) (sz' := 1) rfl rfl (fun b71 H72 hb74 s73 => ?_)
                        refine awp_wk (Wk.U [(0, .string B), (2, .pointer (some ⟨b1, 0, none⟩)), (3, .int .i64 0), (4, .int .u64 0), (5, .int .i64 ((gN B : Nat) : Int)), (6, .int .i64 ((gF0 B : Nat) : Int)), (7, .int .i64 ((gM B : Nat) : Int)), (8, .int .i64 (((16 + (8 * (gM B)) + (4 * (gN B))) : Nat) : Int)), (9, .pointer (some ⟨b19, 0, none⟩)), (11, .int .i64 ((m : Nat) : Int)), (14, .int .i64 ((gF0 B + 0 : Nat) : Int))] ⟨rfl, rfl, rfl, rfl, rfl, rfl, rfl, rfl, rfl, rfl, rfl, trivial⟩) ?_
                        refine awp_loop (fun ((qc, la, p) : Nat × Nat × Nat) st => ∃ (H75 : AHeap) (y3 : Nat), st = ⟨157, U [(0, .string B), (2, .pointer (some ⟨b1, 0, none⟩)), (3, .int .i64 0), (4, .int .u64 0), (5, .int .i64 ((gN B : Nat) : Int)), (6, .int .i64 ((gF0 B : Nat) : Int)), (7, .int .i64 ((gM B : Nat) : Int)), (8, .int .i64 ((p : Nat) : Int)), (9, .pointer (some ⟨b19, 0, none⟩)), (11, .int .i64 ((la : Nat) : Int)), (14, .int .i64 ((gF0 B + qc : Nat) : Int))], [], H75⟩ ∧ St H0 (none0) (Rd H0) H75 [(y3, .cells true ((chL B (gA0 B) qc).map u32v) 1), (y0, .cells true (((gBk B).take (gN B)).map u32v) 1), (y1, .cells true (((gBl B).take (gM B)).map u64v) 1), (b19, .cells true [.int .u32 ((gF0 B : Nat) : Int), .int .u32 ((gSh B : Nat) : Int), .slice (some ⟨y1, 0, none⟩) (gM B) (gM B), .slice (some ⟨y0, 0, none⟩) (gN B) (gN B), .slice (some ⟨y3, 0, none⟩) qc qc] 5), (b1, .cells true [.int .u32 0, .int .u32 0, .slice none 0 0, .slice none 0 0, .slice none 0 0] 5)] ∧ (p = gA0 B + 4 * qc ∧ gF0 B + qc ≤ 256 ∧ (la = maxL (gBk B) ∧ (la = 0 → qc = 0) ∧ (∀ i, i < qc → chStop B (gF0 B) (maxL (gBk B)) (gA0 B) i = false) ∨ la = 0 ∧ maxL (gBk B) ≠ 0 ∧ chC B (gF0 B) (maxL (gBk B)) (gA0 B) = 0 ∧ qc = chJ B (gF0 B) (maxL (gBk B)) (gA0 B) + 1))) (fun ((qc, la, p) : Nat × Nat × Nat) => 257 - qc) (x0 := (0, m, (16 + (8 * (gM B)) + (4 * (gN B))))) ?h0 ?round
                        case h0 =>
                          exact ⟨_, _, rfl, s73, ⟨by omega, by omega, .inl ⟨hme, fun _ => rfl, fun i h => absurd h (Nat.not_lt_zero _)⟩⟩⟩
                        case round =>
                          rintro ⟨qc, la, p⟩ _ ⟨H75, y3, rfl, s76, hj⟩
                          dsimp only at *
                          refine awp_seq ?_
                          refine awp_seq ?_
                          refine awp_regs hF ?_
                          refine dv (gyes_none rfl) (q_mv (v := .int .i64 ((la : Nat) : Int)) rfl) rfl (by decide) (cok1 trivial) ?_
                          refine dvb (gyes_none rfl) (q_int rfl rfl rfl) rfl (by decide) (cok2 trivial (cconst rfl)) (fun c13 => ?_) (fun c13 => ?_)
                          ·
                            replace c13 := of_decide_eq_true c13
                            obtain ⟨hla, -, hst⟩ := hj.2.2.resolve_right (fun h => by omega)
                            have h4 := atV_lt4 B (gA0 B + 4 * qc)
                            refine ⟨_, Wk.refl _ _, ?_⟩
                            show awp _ _ _ _ _ _ _
                            refine awp_cond_t rfl ?_
                            refine awp_skip_wk ?_
                            refine ⟨_, Wk.refl _ _, ?_⟩
                            show awp _ _ _ _ _ _ _
                            refine awp_seq ?_
                            refine awp_block ?_
                            refine awp_seq ?_
                            refine awp_seq ?_
                            refine awp_regs hF ?_
                            refine dv (gyes_none rfl) (q_mv (v := .int .i64 ((gF0 B + qc : Nat) : Int)) rfl) rfl (by decide) (cok1 trivial) ?_
                            refine dvb (gyes_none rfl) (q_int rfl rfl rfl) rfl (by decide) (cok2 trivial (cconst rfl)) (fun c14 => ?_) (fun c14 => ?_)
                            ·
                              replace c14 := of_decide_eq_true c14
                              refine ⟨_, Wk.refl _ _, ?_⟩
                              show awp _ _ _ _ _ _ _
                              refine awp_cond_t rfl ?_
                              refine awp_seq ?_
                              refine awp_regs hF ?_
                              refine dv (gyes_none rfl) (q_buildL (ds := [.int .u32 0, .int .u32 0, .slice none 0 0, .slice none 0 0, .slice none 0 0]) [(0, 1), (1, 1), (2, 1), (3, 1), (4, 1)] [] Try.underlying35 Try.zeroValue35 (by first | exact flat_agg rfl | exact flat_scalar rfl) (by kernel_rfl) trivial lvs0 rfl) rfl (by decide) (by simp [Op.operands, Call.operands]) ?_
                              refine x_store [] hF s76 (by kernel_rfl) (gyes_none rfl) (j := 4) (v := .agg #[.int .u32 0, .int .u32 0, .slice none 0 0, .slice none 0 0, .slice none 0 0]) rfl Try.sizeOf35 rfl rfl rfl rfl rfl trivial (lcsA ⟨(lc_scalar rfl), (lc_scalar rfl), (lc_scalar rfl), (lc_scalar rfl), (lc_scalar rfl), trivial⟩) (Nat.le_of_ble_eq_true rfl) trivial trivial rfl rfl (F' := [(y3, .cells true ((chL B (gA0 B) qc).map u32v) 1), (y0, .cells true (((gBk B).take (gN B)).map u32v) 1), (y1, .cells true (((gBl B).take (gM B)).map u64v) 1), (b19, .cells true [.int .u32 ((gF0 B : Nat) : Int), .int .u32 ((gSh B : Nat) : Int), .slice (some ⟨y1, 0, none⟩) (gM B) (gM B), .slice (some ⟨y0, 0, none⟩) (gN B) (gN B), .slice (some ⟨y3, 0, none⟩) qc qc] 5), (b1, .cells true [.int .u32 0, .int .u32 0, .slice none 0 0, .slice none 0 0, .slice none 0 0] 5)]) rfl (fun H77 s78 => ⟨?_, ?_⟩)
                              · exact trivial
                              refine dv (gyes_none rfl) (q_as (v := .int .i64 6) rfl) rfl (by decide) (cok1 (cconst rfl)) ?_
                              refine dv (gyes_none rfl) (q_as (v := .int .u64 0) rfl) rfl (by decide) (cok1 (cconst rfl)) ?_
                              refine ⟨_, Wk.refl _ _, ?_⟩
                              show awp _ _ _ _ _ _ _
                              refine awp_ret_wk ?_
                              obtain ⟨e1, e2, e3⟩ := gc_chn (B := B) (by omega) (by omega) (by omega) (by omega) (fun j hj => hm.2.2 j hj) (by omega)
                              have hJ : chJ B (gF0 B) (maxL (gBk B)) (gA0 B) = qc := chJ_of (decide_eq_true (.inl (by omega))) (by omega) hst
                              have hC : chC B (gF0 B) (maxL (gBk B)) (gA0 B) = 6 := by unfold chC; rw [hJ]; first | rw [if_pos (by omega)] | rw [if_neg (by omega), if_pos (by omega)]
                              rw [hC] at e1
                              refine ⟨_, Wk.refl _ _, ?_⟩
                              repeat (with_reducible first | refine then_ret ?_ | refine blk_ret ?_ | refine then_exit ?_ | refine blk_exit ?_ | refine blk_exit' (by decide) ?_ | refine blk_normal ?_ | refine then_normal ?_ | refine retq_ret ?_ | refine retq_normal ?_ | refine ng_normal ?_ | refine ng_ret ?_ | refine ng_exit ?_)
                              refine ret_is (v := .tuple #[.agg #[.int .u32 0, .int .u32 0, .slice none 0 0, .slice none 0 0, .slice none 0 0], .int .i64 6, .int .u64 0]) rfl (.agg rfl Try.isAgg35 Try.sizeOf35 (s78.rd (j := 4) rfl) (Nat.le_of_ble_eq_true rfl) rfl (.tmp rfl (.tmp rfl .nil))) rfl ?_
                              exact .inl ⟨by rw [e1]; decide, by rw [e1, e2]; first | done | rfl, s78.kp⟩
                            ·
                              replace c14 := of_decide_eq_false c14
                              refine ⟨_, Wk.refl _ _, ?_⟩
                              show awp _ _ _ _ _ _ _
                              refine awp_cond_f rfl ?_
                              refine awp_skip_wk ?_
                              refine ⟨_, Wk.refl _ _, ?_⟩
                              show awp _ _ _ _ _ _ _
                              refine awp_seq ?_
                              refine awp_seq ?_
                              refine awp_regs hF ?_
                              refine dv (gyes_none rfl) (q_mv (v := .int .i64 ((p : Nat) : Int)) rfl) rfl (by decide) (cok1 trivial) ?_
                              refine dv (gyes_none rfl) (OpQ.cast (v' := .int .i64 ((p + 4 : Nat) : Int)) (q_int rfl rfl rfl) (congrArg _ ((i64_in (by omega)).trans (by first | rfl | omega | (push_cast; rfl))))) rfl (by decide) (cok2 trivial (cconst rfl)) ?_
                              refine dv (gyes_none rfl) (q_mv (v := .string B) rfl) rfl (by decide) (cok1 trivial) ?_
                              refine dv (gyes_none rfl) (q_len_str Try.underlying9 rfl) rfl (by decide) (cok1 trivial) ?_
                              refine dvb (gyes_none rfl) (q_int rfl rfl rfl) rfl (by decide) (cok2 trivial trivial) (fun c15 => ?_) (fun c15 => ?_)
                              ·
                                replace c15 := of_decide_eq_true c15
                                refine ⟨_, Wk.refl _ _, ?_⟩
                                show awp _ _ _ _ _ _ _
                                refine awp_cond_t rfl ?_
                                refine awp_seq ?_
                                refine awp_regs hF ?_
                                refine dv (gyes_none rfl) (q_buildL (ds := [.int .u32 0, .int .u32 0, .slice none 0 0, .slice none 0 0, .slice none 0 0]) [(0, 1), (1, 1), (2, 1), (3, 1), (4, 1)] [] Try.underlying35 Try.zeroValue35 (by first | exact flat_agg rfl | exact flat_scalar rfl) (by kernel_rfl) trivial lvs0 rfl) rfl (by decide) (by simp [Op.operands, Call.operands]) ?_
                                refine x_store [] hF s76 (by kernel_rfl) (gyes_none rfl) (j := 4) (v := .agg #[.int .u32 0, .int .u32 0, .slice none 0 0, .slice none 0 0, .slice none 0 0]) rfl Try.sizeOf35 rfl rfl rfl rfl rfl trivial (lcsA ⟨(lc_scalar rfl), (lc_scalar rfl), (lc_scalar rfl), (lc_scalar rfl), (lc_scalar rfl), trivial⟩) (Nat.le_of_ble_eq_true rfl) trivial trivial rfl rfl (F' := [(y3, .cells true ((chL B (gA0 B) qc).map u32v) 1), (y0, .cells true (((gBk B).take (gN B)).map u32v) 1), (y1, .cells true (((gBl B).take (gM B)).map u64v) 1), (b19, .cells true [.int .u32 ((gF0 B : Nat) : Int), .int .u32 ((gSh B : Nat) : Int), .slice (some ⟨y1, 0, none⟩) (gM B) (gM B), .slice (some ⟨y0, 0, none⟩) (gN B) (gN B), .slice (some ⟨y3, 0, none⟩) qc qc] 5), (b1, .cells true [.int .u32 0, .int .u32 0, .slice none 0 0, .slice none 0 0, .slice none 0 0] 5)]) rfl (fun H79 s80 => ⟨?_, ?_⟩)
                                · exact trivial
                                refine dv (gyes_none rfl) (q_as (v := .int .i64 2) rfl) rfl (by decide) (cok1 (cconst rfl)) ?_
                                refine dv (gyes_none rfl) (q_as (v := .int .u64 0) rfl) rfl (by decide) (cok1 (cconst rfl)) ?_
                                refine ⟨_, Wk.refl _ _, ?_⟩
                                show awp _ _ _ _ _ _ _
                                refine awp_ret_wk ?_
                                obtain ⟨e1, e2, e3⟩ := gc_chn (B := B) (by omega) (by omega) (by omega) (by omega) (fun j hj => hm.2.2 j hj) (by omega)
                                have hJ : chJ B (gF0 B) (maxL (gBk B)) (gA0 B) = qc := chJ_of (decide_eq_true (.inr (.inl (by omega)))) (by omega) hst
                                have hC : chC B (gF0 B) (maxL (gBk B)) (gA0 B) = 2 := by unfold chC; rw [hJ]; first | rw [if_pos (by omega)] | rw [if_neg (by omega), if_pos (by omega)]
                                rw [hC] at e1
                                refine ⟨_, Wk.refl _ _, ?_⟩
                                repeat (with_reducible first | refine then_ret ?_ | refine blk_ret ?_ | refine then_exit ?_ | refine blk_exit ?_ | refine blk_exit' (by decide) ?_ | refine blk_normal ?_ | refine then_normal ?_ | refine retq_ret ?_ | refine retq_normal ?_ | refine ng_normal ?_ | refine ng_ret ?_ | refine ng_exit ?_)
                                refine ret_is (v := .tuple #[.agg #[.int .u32 0, .int .u32 0, .slice none 0 0, .slice none 0 0, .slice none 0 0], .int .i64 2, .int .u64 0]) rfl (.agg rfl Try.isAgg35 Try.sizeOf35 (s80.rd (j := 4) rfl) (Nat.le_of_ble_eq_true rfl) rfl (.tmp rfl (.tmp rfl .nil))) rfl ?_
                                exact .inl ⟨by rw [e1]; decide, by rw [e1, e2]; first | done | rfl, s80.kp⟩
                              ·
                                replace c15 := of_decide_eq_false c15
                                refine ⟨_, Wk.refl _ _, ?_⟩
                                show awp _ _ _ _ _ _ _
                                refine awp_cond_f rfl ?_
                                refine awp_skip_wk ?_
                                refine ⟨_, Wk.refl _ _, ?_⟩
                                show awp _ _ _ _ _ _ _
                                refine awp_seq ?_
                                refine awp_regs hF ?_
                                refine dv (gyes_none rfl) (q_mv (v := .string B) rfl) rfl (by decide) (cok1 trivial) ?_
                                refine dv (gyes_none rfl) (q_mv (v := .int .i64 ((p : Nat) : Int)) rfl) rfl (by decide) (cok1 trivial) ?_
                                refine dv (gyes_none rfl) (q_call0 Try.call33 rfl (ACalls.castV (v' := .int .i64 ((atV B (gA0 B + 4 * qc) 4 : Nat) : Int)) (rnum_ok B (p) hB (by omega)) (by rw [hj.1]))) rfl (by decide) (call_ok rfl) ?_
                                refine dv (gyes_none rfl) (q_as (v := .int .i64 ((atV B (gA0 B + 4 * qc) 4 : Nat) : Int)) rfl) rfl (by decide) (cok1 trivial) ?_
                                refine ⟨_, Wk.refl _ _, ?_⟩
                                show awp _ _ _ _ _ _ _
                                refine awp_seq ?_
                                refine awp_regs hF ?_
                                refine dv (gyes_none rfl) (q_field Try.underlying35 rfl Try.sizeOf29 rfl (s76.rd (j := 3) rfl)) rfl (by decide) (cok1 trivial) ?_
                                refine dv (gyes_none rfl) (q_load (v := .slice (some ⟨y3, 0, none⟩) qc qc) Try.isAgg29 rfl (s76.rd (j := 3) rfl) rfl) rfl (by decide) (cok1 trivial) ?_
                                refine dv (gyes_none rfl) (q_mv (v := .int .i64 ((atV B (gA0 B + 4 * qc) 4 : Nat) : Int)) rfl) rfl (by decide) (cok1 trivial) ?_
                                refine dv (gyes_none rfl) (q_convin (a := ((atV B (gA0 B + 4 * qc) 4 : Nat) : Int)) Try.underlying3 Try.underlying27 rfl (u32_in (by omega))) rfl (by decide) (cok1 trivial) ?_
                                refine x_new (fun b => .slice (some ⟨b, 0, none⟩) 1 1) s76 (gyes_none rfl) (q_buildSliceL (ds := [.int .u32 ((atV B (gA0 B + 4 * qc) 4 : Nat) : Int)]) [.int .u32 ((atV B (gA0 B + 4 * qc) 4 : Nat) : Int)] rfl Try.underlying29 Try.sizeOf27 Try.zeroValue27 rfl (by decide) (by decide) ⟨rfl, trivial⟩ (lvsC (by exact trivial) lvs0) rfl rfl) rfl (by decide) (cok1 trivial) (fun b81 H82 hb84 s83 => ?_)
                                refine x_append (l := [(atV B (gA0 B + 4 * qc) 4)]) (f := u32v) [] hF s83 (by kernel_rfl) (j := 1) (qc + 1) rfl (gyes_none rfl) Try.underlying29 Try.underlying29 Try.type27 rfl rfl (by decide) rfl rfl rfl rfl (s83.slj (l := [(atV B (gA0 B + 4 * qc) 4)]) (f := u32v) (j := 0) rfl rfl (Nat.le_refl _)) (fun x => lc_scalar rfl) (by rw [List.length_map, chL_len, Nat.zero_add]) (by show (2 * (qc + 1) + 1000) * 4 ≤ _; omega) trivial trivial (by decide) rfl rfl (vs' := (chL B (gA0 B) (qc + 1)).map u32v) (by rw [← chL_succ, List.map_append]; rfl) (fun b85 H86 hb88 s87 => ⟨?_, ?_⟩)
                                · exact trivial
                                refine dv (gyes_none rfl) (q_field Try.underlying35 rfl Try.sizeOf29 rfl (s87.rd (j := 4) rfl)) rfl (by decide) (cok1 trivial) ?_
                                refine x_store1 [] hF s87 (by kernel_rfl) (gyes_none rfl) (j := 4) (v := .slice (some ⟨b85, 0, none⟩) (qc + 1) (qc + 1)) rfl Try.sizeOf29 rfl rfl rfl (lc_slice (s87.live (j := 1) rfl)) (Nat.le_of_ble_eq_true rfl) trivial trivial rfl rfl (F' := [(b81, .cells true [.int .u32 ((atV B (gA0 B + 4 * qc) 4 : Nat) : Int)] 1), (b85, .cells true ((chL B (gA0 B) (qc + 1)).map u32v) 1), (y0, .cells true (((gBk B).take (gN B)).map u32v) 1), (y1, .cells true (((gBl B).take (gM B)).map u64v) 1), (b19, .cells true [.int .u32 ((gF0 B : Nat) : Int), .int .u32 ((gSh B : Nat) : Int), .slice (some ⟨y1, 0, none⟩) (gM B) (gM B), .slice (some ⟨y0, 0, none⟩) (gN B) (gN B), .slice (some ⟨b85, 0, none⟩) (qc + 1) (qc + 1)] 5), (b1, .cells true [.int .u32 0, .int .u32 0, .slice none 0 0, .slice none 0 0, .slice none 0 0] 5)]) rfl (fun H89 s90 => ⟨?_, ?_⟩)
                                · exact trivial
                                refine ⟨_, Wk.refl _ _, ?_⟩
                                show awp _ _ _ _ _ _ _
                                refine awp_seq ?_
                                refine awp_regs hF ?_
                                refine dv (gyes_none rfl) (q_mv (v := .int .i64 ((p : Nat) : Int)) rfl) rfl (by decide) (cok1 trivial) ?_
                                refine dv (gyes_none rfl) (OpQ.cast (v' := .int .i64 ((p + 4 : Nat) : Int)) (q_int rfl rfl rfl) (congrArg _ ((i64_in (by omega)).trans (by first | rfl | omega | (push_cast; rfl))))) rfl (by decide) (cok2 trivial (cconst rfl)) ?_
                                refine dv (gyes_none rfl) (q_as (v := .int .i64 ((p + 4 : Nat) : Int)) rfl) rfl (by decide) (cok1 trivial) ?_
                                refine ⟨_, Wk.refl _ _, ?_⟩
                                show awp _ _ _ _ _ _ _
                                refine awp_seq ?_
                                refine awp_regs hF ?_
                                refine dv (gyes_none rfl) (q_mv (v := .int .i64 ((gF0 B + qc : Nat) : Int)) rfl) rfl (by decide) (cok1 trivial) ?_
                                refine dv (gyes_none rfl) (q_mv (v := .int .i64 ((la : Nat) : Int)) rfl) rfl (by decide) (cok1 trivial) ?_
                                refine dvb (gyes_none rfl) (q_int rfl rfl rfl) rfl (by decide) (cok2 trivial trivial) (fun c16 => ?_) (fun c16 => ?_)
                                ·
                                  replace c16 := of_decide_eq_true c16
                                  refine dv (gyes_none rfl) (q_mv (v := .bool true) rfl) rfl (by decide) (cok1 trivial) ?_
                                  refine dv (gyes_some rfl rfl) (q_mv (v := .int .i64 ((atV B (gA0 B + 4 * qc) 4 : Nat) : Int)) rfl) rfl (by decide) (cok1 trivial) ?_
                                  refine dv (gyes_some rfl rfl) (q_remM (a := (atV B (gA0 B + 4 * qc) 4)) (b := 2) rfl rfl (by first | decide | omega)) rfl (by decide) (cok2 trivial (cconst rfl)) ?_
                                  refine dvb (gyes_some rfl rfl) (q_int rfl rfl rfl) rfl (by decide) (cok2 trivial (cconst rfl)) (fun c17 => ?_) (fun c17 => ?_)
                                  ·
                                    replace c17 := eq_of_beq c17
                                    refine dv (gyes_none rfl) (q_pt (v := .bool true) rfl rfl) rfl (by decide) (call_ok rfl) ?_
                                    refine ⟨_, Wk.refl _ _, ?_⟩
                                    show awp _ _ _ _ _ _ _
                                    refine awp_cond_t rfl ?_
                                    refine awp_regs hF ?_
                                    refine dv (gyes_none rfl) (q_as (v := .int .i64 0) rfl) rfl (by decide) (cok1 (cconst rfl)) ?_
                                    refine ⟨_, Wk.refl _ _, ?_⟩
                                    show awp _ _ _ _ _ _ _
                                    refine awp_regs hF ?_
                                    refine dv (gyes_none rfl) (q_mv (v := .int .i64 ((gF0 B + qc : Nat) : Int)) rfl) rfl (by decide) (cok1 trivial) ?_
                                    refine dv (gyes_none rfl) (OpQ.cast (v' := .int .i64 ((gF0 B + qc + 1 : Nat) : Int)) (q_int rfl rfl rfl) (congrArg _ ((i64_in (by omega)).trans (by first | rfl | omega | (push_cast; rfl))))) rfl (by decide) (cok2 trivial (cconst rfl)) ?_
                                    refine dv (gyes_none rfl) (q_as (v := .int .i64 ((gF0 B + qc + 1 : Nat) : Int)) rfl) rfl (by decide) (cok1 trivial) ?_
                                    have hJ : chJ B (gF0 B) (maxL (gBk B)) (gA0 B) = qc := chJ_of (decide_eq_true (.inr (.inr ⟨by omega, by omega⟩))) (by omega) hst
                                    have hC : chC B (gF0 B) (maxL (gBk B)) (gA0 B) = 0 := by unfold chC; rw [hJ, if_neg (by omega), if_neg (by omega)]
                                    refine ⟨_, Wk.U [(0, .string B), (2, .pointer (some ⟨b1, 0, none⟩)), (3, .int .i64 0), (4, .int .u64 0), (5, .int .i64 ((gN B : Nat) : Int)), (6, .int .i64 ((gF0 B : Nat) : Int)), (7, .int .i64 ((gM B : Nat) : Int)), (8, .int .i64 (((p + 4) : Nat) : Int)), (9, .pointer (some ⟨b19, 0, none⟩)), (11, .int .i64 0), (14, .int .i64 ((gF0 B + (qc + 1) : Nat) : Int))] ⟨rfl, rfl, rfl, rfl, rfl, rfl, rfl, rfl, rfl, rfl, rfl, trivial⟩, ((qc + 1), 0, (p + 4)), ⟨_, _, rfl, (s90.sub (.cons _ (.cons_cons _ (.cons_cons _ (.cons_cons _ (.cons_cons _ (.cons_cons _ (.refl _)))))))), ⟨by dsimp only; omega, by dsimp only; omega, .inr ⟨rfl, by omega, hC, by dsimp only; omega⟩⟩⟩, (by omega)⟩
                                  ·
                                    replace c17 := ne_of_beq_false c17
                                    refine dv (gyes_none rfl) (q_pt (v := .bool false) rfl rfl) rfl (by decide) (call_ok rfl) ?_
                                    refine ⟨_, Wk.refl _ _, ?_⟩
                                    show awp _ _ _ _ _ _ _
                                    refine awp_cond_f rfl ?_
                                    refine awp_skip_wk ?_
                                    refine ⟨_, Wk.refl _ _, ?_⟩
                                    show awp _ _ _ _ _ _ _
                                    refine awp_regs hF ?_
                                    refine dv (gyes_none rfl) (q_mv (v := .int .i64 ((gF0 B + qc : Nat) : Int)) rfl) rfl (by decide) (cok1 trivial) ?_
                                    refine dv (gyes_none rfl) (OpQ.cast (v' := .int .i64 ((gF0 B + qc + 1 : Nat) : Int)) (q_int rfl rfl rfl) (congrArg _ ((i64_in (by omega)).trans (by first | rfl | omega | (push_cast; rfl))))) rfl (by decide) (cok2 trivial (cconst rfl)) ?_
                                    refine dv (gyes_none rfl) (q_as (v := .int .i64 ((gF0 B + qc + 1 : Nat) : Int)) rfl) rfl (by decide) (cok1 trivial) ?_
                                    have hns : chStop B (gF0 B) (maxL (gBk B)) (gA0 B) qc = false := decide_eq_false (by omega)
                                    refine ⟨_, Wk.U [(0, .string B), (2, .pointer (some ⟨b1, 0, none⟩)), (3, .int .i64 0), (4, .int .u64 0), (5, .int .i64 ((gN B : Nat) : Int)), (6, .int .i64 ((gF0 B : Nat) : Int)), (7, .int .i64 ((gM B : Nat) : Int)), (8, .int .i64 (((p + 4) : Nat) : Int)), (9, .pointer (some ⟨b19, 0, none⟩)), (11, .int .i64 ((la : Nat) : Int)), (14, .int .i64 ((gF0 B + (qc + 1) : Nat) : Int))] ⟨rfl, rfl, rfl, rfl, rfl, rfl, rfl, rfl, rfl, rfl, rfl, trivial⟩, ((qc + 1), la, (p + 4)), ⟨_, _, rfl, (s90.sub (.cons _ (.cons_cons _ (.cons_cons _ (.cons_cons _ (.cons_cons _ (.cons_cons _ (.refl _)))))))), ⟨by dsimp only; omega, by dsimp only; omega, .inl ⟨hla, fun h => by dsimp only at h; omega, lt_succ_casesN hst hns⟩⟩⟩, (by omega)⟩
                                ·
                                  replace c16 := of_decide_eq_false c16
                                  refine dv (gyes_none rfl) (q_mv (v := .bool false) rfl) rfl (by decide) (cok1 trivial) ?_
                                  refine dno rfl (.inl rfl) rfl (by decide) ?_
                                  refine dno rfl (.inl rfl) rfl (by decide) ?_
                                  refine dno rfl (.inl rfl) rfl (by decide) ?_
                                  refine dv (gyes_none rfl) (q_pf (v := .bool false) rfl rfl) rfl (by decide) (call_ok rfl) ?_
                                  refine ⟨_, Wk.refl _ _, ?_⟩
                                  show awp _ _ _ _ _ _ _
                                  refine awp_cond_f rfl ?_
                                  refine awp_skip_wk ?_
                                  refine ⟨_, Wk.refl _ _, ?_⟩
                                  show awp _ _ _ _ _ _ _
                                  refine awp_regs hF ?_
                                  refine dv (gyes_none rfl) (q_mv (v := .int .i64 ((gF0 B + qc : Nat) : Int)) rfl) rfl (by decide) (cok1 trivial) ?_
                                  refine dv (gyes_none rfl) (OpQ.cast (v' := .int .i64 ((gF0 B + qc + 1 : Nat) : Int)) (q_int rfl rfl rfl) (congrArg _ ((i64_in (by omega)).trans (by first | rfl | omega | (push_cast; rfl))))) rfl (by decide) (cok2 trivial (cconst rfl)) ?_
                                  refine dv (gyes_none rfl) (q_as (v := .int .i64 ((gF0 B + qc + 1 : Nat) : Int)) rfl) rfl (by decide) (cok1 trivial) ?_
                                  have hns : chStop B (gF0 B) (maxL (gBk B)) (gA0 B) qc = false := decide_eq_false (by omega)
                                  refine ⟨_, Wk.U [(0, .string B), (2, .pointer (some ⟨b1, 0, none⟩)), (3, .int .i64 0), (4, .int .u64 0), (5, .int .i64 ((gN B : Nat) : Int)), (6, .int .i64 ((gF0 B : Nat) : Int)), (7, .int .i64 ((gM B : Nat) : Int)), (8, .int .i64 (((p + 4) : Nat) : Int)), (9, .pointer (some ⟨b19, 0, none⟩)), (11, .int .i64 ((la : Nat) : Int)), (14, .int .i64 ((gF0 B + (qc + 1) : Nat) : Int))] ⟨rfl, rfl, rfl, rfl, rfl, rfl, rfl, rfl, rfl, rfl, rfl, trivial⟩, ((qc + 1), la, (p + 4)), ⟨_, _, rfl, (s90.sub (.cons _ (.cons_cons _ (.cons_cons _ (.cons_cons _ (.cons_cons _ (.cons_cons _ (.refl _)))))))), ⟨by dsimp only; omega, by dsimp only; omega, .inl ⟨hla, fun h => by dsimp only at h; omega, lt_succ_casesN hst hns⟩⟩⟩, (by omega)⟩
                          ·
                            replace c13 := of_decide_eq_false c13
                            refine ⟨_, Wk.refl _ _, ?_⟩
                            show awp _ _ _ _ _ _ _
                            refine awp_cond_f rfl ?_
                            refine awp_exit_wk ?_
                            refine ⟨_, Wk.refl _ _, ?_⟩
                            show awp _ _ _ _ _ _ _
                            refine awp_seq ?_
                            refine awp_regs hF ?_
                            refine dv (gyes_none rfl) (q_loadAgg Try.isAgg35 Try.sizeOf35 rfl (s76.rd (j := 3) rfl) (Nat.le_of_ble_eq_true rfl) rfl) rfl (by decide) (cok1 trivial) ?_
                            refine x_store [] hF s76 (by kernel_rfl) (gyes_none rfl) (j := 4) (v := .agg #[.int .u32 ((gF0 B : Nat) : Int), .int .u32 ((gSh B : Nat) : Int), .slice (some ⟨y1, 0, none⟩) (gM B) (gM B), .slice (some ⟨y0, 0, none⟩) (gN B) (gN B), .slice (some ⟨y3, 0, none⟩) qc qc]) rfl Try.sizeOf35 rfl rfl rfl rfl rfl trivial (lcsA ⟨(lc_scalar rfl), (lc_scalar rfl), (lc_slice (s76.live (j := 2) rfl)), (lc_slice (s76.live (j := 1) rfl)), (lc_slice (s76.live (j := 0) rfl)), trivial⟩) (Nat.le_of_ble_eq_true rfl) trivial trivial rfl rfl (F' := [(y3, .cells true ((chL B (gA0 B) qc).map u32v) 1), (y0, .cells true (((gBk B).take (gN B)).map u32v) 1), (y1, .cells true (((gBl B).take (gM B)).map u64v) 1), (b19, .cells true [.int .u32 ((gF0 B : Nat) : Int), .int .u32 ((gSh B : Nat) : Int), .slice (some ⟨y1, 0, none⟩) (gM B) (gM B), .slice (some ⟨y0, 0, none⟩) (gN B) (gN B), .slice (some ⟨y3, 0, none⟩) qc qc] 5), (b1, .cells true [.int .u32 ((gF0 B : Nat) : Int), .int .u32 ((gSh B : Nat) : Int), .slice (some ⟨y1, 0, none⟩) (gM B) (gM B), .slice (some ⟨y0, 0, none⟩) (gN B) (gN B), .slice (some ⟨y3, 0, none⟩) qc qc] 5)]) rfl (fun H91 s92 => ⟨?_, ?_⟩)
                            · exact trivial
                            refine dv (gyes_none rfl) (q_as (v := .int .i64 0) rfl) rfl (by decide) (cok1 (cconst rfl)) ?_
                            refine dv (gyes_none rfl) (q_as (v := .int .u64 0) rfl) rfl (by decide) (cok1 (cconst rfl)) ?_
                            refine ⟨_, Wk.refl _ _, ?_⟩
                            show awp _ _ _ _ _ _ _
                            refine awp_ret_wk ?_
                            obtain ⟨e1, e2, e3⟩ : gC B = 0 ∧ gAt B = 0 ∧ gK B = qc := by
                              rcases hj.2.2 with ⟨q1, q2, _⟩ | ⟨_, q1, q2, q3⟩
                              · obtain ⟨e1, e2, e3⟩ := gc_max (B := B) (by omega) (by omega) (by omega) (by omega) (fun j hj => hm.2.2 j hj) (by omega)
                                exact ⟨e1, e2, e3.trans (q2 (by omega)).symm⟩
                              · obtain ⟨e1, e2, e3⟩ := gc_chn (B := B) (by omega) (by omega) (by omega) (by omega) (fun j hj => hm.2.2 j hj) q1
                                exact ⟨e1.trans q2, e2, e3.trans q3.symm⟩
                            have hs9 := (s92.sub (.cons_cons _ (.cons_cons _ (.cons_cons _ (.cons _ (.cons _ (.refl _)))))))
                            rw [List.take_of_length_le (l := gBl B) (by rw [gBl_len]; exact Nat.le_refl _), List.take_of_length_le (l := gBk B) (by rw [gBk_len]; exact Nat.le_refl _)] at hs9
                            refine ⟨_, Wk.refl _ _, ?_⟩
                            repeat (with_reducible first | refine then_ret ?_ | refine blk_ret ?_ | refine then_exit ?_ | refine blk_exit ?_ | refine blk_exit' (by decide) ?_ | refine blk_normal ?_ | refine then_normal ?_ | refine retq_ret ?_ | refine retq_normal ?_ | refine ng_normal ?_ | refine ng_ret ?_ | refine ng_exit ?_)
                            refine ret_is (v := .tuple #[.agg #[.int .u32 ((gF0 B : Nat) : Int), .int .u32 ((gSh B : Nat) : Int), .slice (some ⟨y1, 0, none⟩) (gM B) (gM B), .slice (some ⟨y0, 0, none⟩) (gN B) (gN B), .slice (some ⟨y3, 0, none⟩) qc qc], .int .i64 0, .int .u64 0]) rfl (.agg rfl Try.isAgg35 Try.sizeOf35 (s92.rd (j := 4) rfl) (Nat.le_of_ble_eq_true rfl) rfl (.tmp rfl (.tmp rfl .nil))) rfl ?_
                            exact .inr ⟨e1, y1, y0, y3, by rw [e3], by rw [e3]; exact hs9.newL⟩

end Go.Proofs.YtponfeigjmjbmaaA


/-
  From a law's arguments, slices among them, to abstract states.
-/
namespace Go.Proofs.YtponfeigjmjbmaaA
set_option linter.unusedVariables false
open Go Go.RowKit Go.Shelf
/-- The places of the arguments' blocks. -/
def rhoOf (ls : List (Option Loc)) : Ren := fun b => match ls[b]? with | some (some l) => .at l | _ => .none
/-- A block of an argument, or none. -/
def ArgO (W : World) (ol : Option Loc) (o : AObj) : Prop :=
  (ol = none ∧ o = .none) ∨ ∃ lc vs, ol = some lc ∧ o = .cells false vs 1 ∧ lc.blk < W.heap.size ∧ ∀ ρ, ORel ρ lc W (.cells false vs 1)
def ArgOs (W : World) : List (Option Loc) → AHeap → Prop
  | [], [] => True
  | ol :: ls, o :: H => ArgO W ol o ∧ ArgOs W ls H
  | _, _ => False
theorem ArgOs.at {W : World} : ∀ {ls : List (Option Loc)} {H : AHeap}, ArgOs W ls H → ∀ (b : Nat) (ol : Option Loc), ls[b]? = some ol → ∃ o : AObj, H[b]? = some o ∧ ArgO W ol o
  | [], [], _, b, ol, h => by simp at h
  | [], _ :: _, h, _, _, _ => h.elim
  | _ :: _, [], h, _, _, _ => h.elim
  | x :: ls, o :: H, ⟨h1, h2⟩, b, ol, h => by
    cases b with
    | zero => simp at h; subst h; exact ⟨o, by simp, h1⟩
    | succ b => simpa using ArgOs.at h2 b ol (by simpa using h)
theorem ArgOs.len {W : World} : ∀ {ls : List (Option Loc)} {H : AHeap}, ArgOs W ls H → ls.length = H.length
  | [], [], _ => rfl
  | [], _ :: _, h => h.elim
  | _ :: _, [], h => h.elim
  | x :: ls, o' :: H, ⟨h1, h2⟩ => by simp [ArgOs.len h2]
/-- A slice that came as an argument: its block, its value. -/
structure SArg {α : Type} (f : α → Value) (w : World) (v : Value) (l : List α) (b : Nat) (ol : Option Loc) (o : AObj) (va : Value) : Prop where
  obj : ArgO w ol o
  val : ∀ ρ : Ren, (∀ lc, ol = some lc → ρ b = .at lc) → VRel ρ va v
  sl : ∀ H : AHeap, H[b]? = some o → Sl f H va l
end Go.Proofs.YtponfeigjmjbmaaA


/-
  Slices among a law's arguments, as the row's facts tell of them.
-/
namespace Go.Proofs.YtponfeigjmjbmaaA
set_option linter.unusedVariables false
open Go Go.RowKit Go.Shelf Go.ChangeShapes
def RowF {α : Type} (f : α → Value) (w : World) (a : Option Addr) (len cap : Nat) (zs : List α) : Prop :=
  (a = none ∧ len = 0 ∧ cap = 0) ∨ ∃ x, a = some x ∧ x.spot = none ∧ len ≤ cap ∧ zs.length = cap ∧ (∃ cs T fr, w.heap[x.block]? = some (.cells cs T fr)) ∧ ∀ i (h : i < zs.length), w.cell? (x.add i) = some (f zs[i])
end Go.Proofs.YtponfeigjmjbmaaA


/-
  A law's arguments, slices and slices of slices among them, as blocks.
-/
namespace Go.Proofs.YtponfeigjmjbmaaA
set_option linter.unusedVariables false
open Go Go.RowKit Go.Shelf Go.ChangeShapes
def rhoP (ls : List Plc) : Ren := fun b => ls.getD b .none
def AtOff (ρ : Ren) (off : Nat) (ls : List Plc) : Prop := ∀ (i : Nat) (p : Plc), ls[i]? = some p → ρ (off + i) = p
def InH (H : AHeap) (off : Nat) (L : AHeap) : Prop := ∀ (i : Nat) (o : AObj), L[i]? = some o → H[off + i]? = some o
theorem InH.refl (H : AHeap) : InH H 0 H := fun i o h => by rw [Nat.zero_add]; exact h
def ArgP (ρ : Ren) (w : World) (p : Plc) (o : AObj) : Prop :=
  (p = .none ∧ o = .none) ∨ (p = .null ∧ o = .null) ∨ ∃ lc vs sz, p = .at lc ∧ o = .cells false vs sz ∧ lc.blk < w.heap.size ∧ ORel ρ lc w (.cells false vs sz)
structure PArg (w : World) (v : Value) (off : Nat) (ls : List Plc) (L : AHeap) (va : Value) : Prop where
  len : ls.length = L.length
  obj : ∀ ρ : Ren, AtOff ρ off ls → ∀ (i : Nat) (p : Plc), ls[i]? = some p → ∃ o : AObj, L[i]? = some o ∧ ArgP ρ w p o
  val : ∀ ρ, AtOff ρ off ls → VRel ρ va v
inductive PAll (w : World) : Nat → List Value → List Plc → AHeap → List Value → Prop
  | nil (off : Nat) : PAll w off [] [] [] []
  | cons {off : Nat} {v va : Value} {vs vas : List Value} {ls ls' : List Plc} {L L' : AHeap} (h : PArg w v off ls L va) (k : PAll w (off + ls.length) vs ls' L' vas) : PAll w off (v :: vs) (ls ++ ls') (L ++ L') (va :: vas)
theorem PArg.scalar {w : World} {v : Value} (off : Nat) (h : Scalar v = true) : PArg w v off [] [] v := ⟨rfl, fun ρ _ i p h => by simp at h, fun ρ _ => .scalar h ρ⟩
/-! ### Slices that came in -/
/-- A slice in the world: its elements, of one cell each. -/
def SlC {α : Type} (f : α → Value) (w : World) (u : Value) (r : List α) : Prop :=
  (u = .slice none 0 0 ∧ r = []) ∨ ∃ x l c, u = .slice (some x) l c ∧ l ≤ c ∧ r.length = l ∧ (c = 0 ∨ (x.spot = none ∧ ∃ cs T fr, w.heap[x.block]? = some (.cells cs T fr) ∧ x.off + c ≤ cs.size ∧ ∀ i (h : i < r.length), cs[x.off + i]? = some (f r[i])))
theorem AtOff.one {ρ : Ren} {off : Nat} {p : Plc} (h : AtOff ρ off [p]) : ρ off = p := h 0 p rfl
/-- A slice of slices. -/
structure Sl2C {α : Type} (f : α → Value) (w : World) (u : Value) (us : List Value) (rs : List (List α)) : Prop where
  out : SlC (fun v : Value => v) w u us
  len : us.length = rs.length
  row : ∀ i (h : i < us.length), SlC f w us[i] (nth rs i)
/-! ### From the row's facts -/
/-! ### Arrays that came in -/
end Go.Proofs.YtponfeigjmjbmaaA


/-
  A law's arguments: slices whose elements are structs or arrays, and arrays of numbers.
-/
namespace Go.Proofs.YtponfeigjmjbmaaA
set_option linter.unusedVariables false
open Go Go.RowKit Go.Shelf Go.ChangeShapes Go.WideShapes
section
variable {α : Type} [Inhabited α] {f : α → List Value} {m : Nat}
def SlCm (f : α → List Value) (m : Nat) (w : World) (u : Value) (r : List α) : Prop :=
  (u = .slice none 0 0 ∧ r = []) ∨ ∃ x l c, u = .slice (some x) l c ∧ l ≤ c ∧ r.length = l ∧ (c = 0 ∨ (x.spot = none ∧ ∃ cs T fr, w.heap[x.block]? = some (.cells cs T fr) ∧ x.off + c * m ≤ cs.size ∧ ∀ i (h : i < r.length), ∀ j, j < m → cs[x.off + i * m + j]? = (f (nth r i))[j]?))
def ElemOk (P : Program) (e : TypeId) (f : α → List Value) (ok : α → Prop) : Prop := ∀ (H : Type) (enc : TypeId × Value → H) (w : World) (base fuel : Nat) (cs : List Value) (x : DataW H × List MemPlace), DataW.trod enc P w base (fun _ => true) true fuel e cs = some x → ∃ a, cs = f a ∧ ok a
end
section
variable {H : Type} {enc : TypeId × Value → H} {P : Program} {w : World} {base fuel : Nat} {t e : TypeId} {cs : List Value} {x : DataW H × List MemPlace}
end
end Go.Proofs.YtponfeigjmjbmaaA


/-
  A law's arguments: arrays of whole numbers of a sign.
-/
namespace Go.Proofs.YtponfeigjmjbmaaA
set_option linter.unusedVariables false
open Go Go.RowKit Go.Proofs
section
variable {P : Program} {e : TypeId} {H : Type} {enc : TypeId × Value → H} {w : World} {base fuel : Nat} {cs : List Value} {x : DataW H × List MemPlace}
end
end Go.Proofs.YtponfeigjmjbmaaA


/-
  Walks of functions of the given program, and what they compute.
-/
namespace Go.Proofs.YtponfeigjmjbmaaA
set_option linter.unusedVariables false
open Go Go.RowKit Go.Shelf Go.Proofs
theorem ext_catG {B : ByteArray} {i j k : Nat} (h1 : i ≤ j) (h2 : j ≤ k) : bl (B.extract i k) = bl (B.extract i j) ++ bl (B.extract j k) := by
  rw [← bl_append, ByteArray.extract_append_extract, Nat.min_eq_left h1, Nat.max_eq_right h2]
theorem putL_extG {B : ByteArray} {i j k : Nat} (h : j ≤ B.size) (h4 : j - i = k) : putL (getB (B.extract i j)) k = bl (B.extract i j) := by
  have h1 := put_getB (B.extract i j)
  rw [size_extract h, h4] at h1
  rw [← bl_putB, h1]
theorem bytk_rng {B : ByteArray} {k a : Nat} (f : Nat → Nat) : ∀ n, (∀ i, i < n → f i = getB (B.extract (a + k * i) (a + k * i + k))) → a + k * n ≤ B.size → bytk k ((List.range n).map f) = bl (B.extract a (a + k * n))
  | 0, _, _ => by rw [bl_extract]; simp [bytk]
  | n + 1, hf, h => by
    rw [Nat.mul_succ, ← Nat.add_assoc] at h
    rw [List.range_succ, List.map_append, bytk_app, bytk_rng f n (fun i hi => hf i (by omega)) (by omega), Nat.mul_succ, ← Nat.add_assoc, ext_catG (i := a) (j := a + k * n) (k := a + k * n + k) (by omega) (by omega)]
    congr 1
    rw [show List.map f [n] = [f n] from rfl, show bytk k [f n] = putL (f n) k by simp [bytk], hf n (by omega)]
    exact putL_extG h (by omega)
theorem gc_yes {B : ByteArray} (h : gC B = 0) : 16 ≤ B.size ∧ 1 ≤ gN B ∧ gN B ≤ 256 ∧ 1 ≤ gM B ∧ gM B ≤ 256 ∧ gF0 B ≤ 256 ∧ gA0 B + 4 * gK B ≤ B.size ∧ gF0 B + gK B ≤ 256 ∧ gX B = gN B := by
  have hxl : gX B ≤ gN B := firstK_le _ _
  unfold gC at h
  split at h
  · exact absurd h (by decide)
  split at h
  · exact absurd h (by decide)
  split at h
  · exact absurd h (by decide)
  split at h
  · exact absurd h (by decide)
  split at h
  · exact absurd h (by decide)
  split at h
  · rename_i h0
    have hk : gK B = 0 := if_pos h0
    rw [hk]; refine ⟨?_, ?_, ?_, ?_, ?_, ?_, ?_, ?_, ?_⟩ <;> omega
  · rename_i h0
    have hk : gK B = chJ B (gF0 B) (maxL (gBk B)) (gA0 B) + 1 := if_neg h0
    unfold chC at h
    split at h
    · exact absurd h (by decide)
    split at h
    · exact absurd h (by decide)
    rw [hk]; refine ⟨?_, ?_, ?_, ?_, ?_, ?_, ?_, ?_, ?_⟩ <;> omega
theorem putG_bl (lb lk lc : List Nat) (f sh : Nat) : bl (putG lb lk lc f sh) = bytk 4 (hdG lb lk f sh) ++ bytk 8 lb ++ bytk 4 (lk ++ lc) := rfl
theorem putG_size (lb lk lc : List Nat) (f sh : Nat) : (putG lb lk lc f sh).size = 16 + 8 * lb.length + 4 * lk.length + 4 * lc.length := by
  rw [← bl_length, putG_bl, List.length_append, List.length_append, bytk_len, bytk_len, bytk_len, List.length_append]; show 4 * 4 + _ + _ = _; omega
abbrev gPut (B : ByteArray) : ByteArray := putG (gBl B) (gBk B) (chL B (gA0 B) (gK B)) (gF0 B) (gSh B)
theorem gPut_size (B : ByteArray) : (gPut B).size = gA0 B + 4 * gK B := by
  rw [putG_size, gBl_len, gBk_len, chL_len]; unfold gA0; omega
theorem gPut_eq {B : ByteArray} (h : gC B = 0) : gPut B = B.extract 0 (gA0 B + 4 * gK B) := by
  obtain ⟨h1, h2, h3, h4, h5, h6, h7, h8, -⟩ := gc_yes h
  have hA : gA0 B = 16 + gM B * 8 + gN B * 4 := rfl
  refine bl_inj ?_
  have e0 : hdG (gBl B) (gBk B) (gF0 B) (gSh B) = (List.range 4).map fun i => atV B (4 * i) 4 := by unfold hdG; rw [gBl_len, gBk_len]; rfl
  rw [putG_bl, bytk_app, e0,
    bytk_rng (B := B) (a := 0) _ 4 (fun i hi => by rw [atV_in (by omega), Nat.zero_add]) (by omega),
    show gBl B = (List.range (gM B)).map _ from rfl, bytk_rng (B := B) (a := 16) (k := 8) _ (gM B) (fun i hi => by
      have := gBl_at (B := B) (by omega) hi
      rw [gBl, numE_nth hi] at this; rw [← this]; congr 2; omega) (by omega),
    show gBk B = (List.range (gN B)).map _ from rfl, bytk_rng (B := B) (a := 16 + 8 * gM B) (k := 4) _ (gN B) (fun i hi => by
      have := gBk_at (B := B) (by omega) hi
      rw [gBk, numE_nth hi, atV_in (by omega)] at this; exact this.symm) (by omega),
    chL, bytk_rng (B := B) (a := gA0 B) (k := 4) _ (gK B) (fun i hi => atV_in (by omega)) h7,
    ← List.append_assoc, ← ext_catG (by omega) (by omega), ← ext_catG (by omega) (by omega),
    show gA0 B = 16 + 8 * gM B + 4 * gN B by omega, ← ext_catG (by omega) (by omega)]
theorem chL_w {B : ByteArray} {a k : Nat} : ∀ x ∈ chL B a k, x < 4294967296 := fun x hx => by
  obtain ⟨i, _, rfl⟩ := List.mem_map.1 hx
  exact atV_lt4 _ _
set_option maxRecDepth 100000 in
set_option maxHeartbeats 4000000 in
theorem gnuReads_good {H0 : AHeap} (B : ByteArray) (hB : B.size ≤ 140737488355328) (h : gC B = 0) : ACalls Try.prog 5 [.string B] H0 (Rets (.bool true) H0) := by
  have hF : Wd Fence.wide := .inl rfl
  have hM : Try.prog.follows .mixedOrders = true := by kernel_rfl
  obtain ⟨hz1, hz2, hz3, hz4, hz5, hz6, hz7, hz8, -⟩ := gc_yes h
  have hps : (putG (gBl B) (gBk B) (chL B (gA0 B) (gK B)) (gF0 B) (gSh B)).size = gA0 B + 4 * gK B := gPut_size B
  have hsh4 : gSh B < 4294967296 := atV_lt4 B 12
  have s0 := St.begin H0
  refine acalls_st Try.func5 rfl Try.ntmps5 rfl ?_
  refine awp_seq ?_
  refine awp_regs hF ?_
  refine dv (gyes_none rfl) (q_as (v := .bool false) rfl) rfl (by decide) (cok1 (cconst rfl)) ?_
  refine ⟨_, Wk.refl _ _, ?_⟩
  show awp _ _ _ _ _ _ _
  refine awp_seq ?_
  refine awp_seq ?_
  refine awp_regs hF ?_
  refine dv (gyes_none rfl) (q_call0 Try.call7 rfl (speaks_ok)) rfl (by decide) (cok1 trivial) ?_
  refine dv (gyes_none rfl) (q_not (b := true) rfl) rfl (by decide) (cok1 trivial) ?_
  refine ⟨_, Wk.refl _ _, ?_⟩
  show awp _ _ _ _ _ _ _
  refine awp_cond_f rfl ?_
  refine awp_skip_wk ?_
  refine ⟨_, Wk.refl _ _, ?_⟩
  show awp _ _ _ _ _ _ _
  refine awp_seq ?_
  refine awp_regs hF ?_
  refine dv (gyes_none rfl) (q_mv (v := .string B) rfl) rfl (by decide) (cok1 trivial) ?_
  refine x_call [] hF (by kernel_rfl) (gyes_none rfl) Try.call15 rfl (args := [.string B]) rfl (gread_ok B hB) (show _ < _ by decide) (call_ok rfl) rfl rfl (fun _ _ _ _ hd => by cases hd) ?_
  rintro _ H4 (⟨hq, _⟩ | ⟨_, b1, b2, b3, rfl, hn5⟩)
  · exact absurd h hq
  have s6 := s0.callL hn5
  refine ⟨trivial, ?_⟩
  show dList _ _ _ _ _ _ _ _ _ _
  refine dv (gyes_none rfl) (q_mv (v := .tuple #[.agg #[.int .u32 ((gF0 B : Nat) : Int), .int .u32 ((gSh B : Nat) : Int), .slice (some ⟨b1, 0, none⟩) (gM B) (gM B), .slice (some ⟨b2, 0, none⟩) (gN B) (gN B), .slice (some ⟨b3, 0, none⟩) (gK B) (gK B)], .agg #[.int .i64 0, .int .u64 0, .string (⟨#[]⟩ : ByteArray)]]) rfl) rfl (by decide) (cok1 trivial) ?_
  refine dv (gyes_none rfl) (q_extract (v := .agg #[.int .u32 ((gF0 B : Nat) : Int), .int .u32 ((gSh B : Nat) : Int), .slice (some ⟨b1, 0, none⟩) (gM B) (gM B), .slice (some ⟨b2, 0, none⟩) (gN B) (gN B), .slice (some ⟨b3, 0, none⟩) (gK B) (gK B)]) rfl rfl) rfl (by decide) (cok1 trivial) ?_
  refine dv (gyes_none rfl) (q_extract (v := .agg #[.int .i64 0, .int .u64 0, .string (⟨#[]⟩ : ByteArray)]) rfl rfl) rfl (by decide) (cok1 trivial) ?_
  refine x_new (fun b => .pointer (some ⟨b, 0, none⟩)) s6 (gyes_none rfl) (q_alloc (vs := [.int .u32 0, .int .u32 0, .slice none 0 0, .slice none 0 0, .slice none 0 0]) 5 Try.zeroValue31 (by first | exact flat_scalar rfl | exact flat_agg rfl) rfl) rfl (by decide) (by simp [Op.operands, Call.operands]) (fun b7 H8 hb10 s9 => ?_)
  refine x_new (fun b => .pointer (some ⟨b, 0, none⟩)) s9 (gyes_none rfl) (q_alloc (vs := [.int .i64 0, .int .u64 0, .string ⟨#[]⟩]) 3 Try.zeroValue47 (by first | exact flat_scalar rfl | exact flat_agg rfl) rfl) rfl (by decide) (by simp [Op.operands, Call.operands]) (fun b11 H12 hb14 s13 => ?_)
  refine x_store [] hF s13 (by kernel_rfl) (gyes_none rfl) (j := 1) (v := .agg #[.int .u32 ((gF0 B : Nat) : Int), .int .u32 ((gSh B : Nat) : Int), .slice (some ⟨b1, 0, none⟩) (gM B) (gM B), .slice (some ⟨b2, 0, none⟩) (gN B) (gN B), .slice (some ⟨b3, 0, none⟩) (gK B) (gK B)]) rfl Try.sizeOf31 rfl rfl rfl rfl rfl trivial (lcsA ⟨(lc_scalar rfl), (lc_scalar rfl), (lc_slice (s13.live (j := 4) rfl)), (lc_slice (s13.live (j := 3) rfl)), (lc_slice (s13.live (j := 2) rfl)), trivial⟩) (Nat.le_of_ble_eq_true rfl) trivial trivial rfl rfl (F' := [(b11, .cells true [.int .i64 0, .int .u64 0, .string ⟨#[]⟩] 3), (b7, .cells true [.int .u32 ((gF0 B : Nat) : Int), .int .u32 ((gSh B : Nat) : Int), .slice (some ⟨b1, 0, none⟩) (gM B) (gM B), .slice (some ⟨b2, 0, none⟩) (gN B) (gN B), .slice (some ⟨b3, 0, none⟩) (gK B) (gK B)] 5), (b3, .cells true ((chL B (gA0 B) (gK B)).map u32v) 1), (b2, .cells true ((gBk B).map u32v) 1), (b1, .cells true ((gBl B).map u64v) 1)]) rfl (fun H15 s16 => ⟨?_, ?_⟩)
  · exact trivial
  refine x_store [] hF s16 (by kernel_rfl) (gyes_none rfl) (j := 0) (v := .agg #[.int .i64 0, .int .u64 0, .string (⟨#[]⟩ : ByteArray)]) rfl Try.sizeOf47 rfl rfl rfl rfl rfl trivial (lcsA ⟨(lc_scalar rfl), (lc_scalar rfl), (lc_scalar rfl), trivial⟩) (Nat.le_of_ble_eq_true rfl) trivial trivial rfl rfl (F' := [(b11, .cells true [.int .i64 0, .int .u64 0, .string (⟨#[]⟩ : ByteArray)] 3), (b7, .cells true [.int .u32 ((gF0 B : Nat) : Int), .int .u32 ((gSh B : Nat) : Int), .slice (some ⟨b1, 0, none⟩) (gM B) (gM B), .slice (some ⟨b2, 0, none⟩) (gN B) (gN B), .slice (some ⟨b3, 0, none⟩) (gK B) (gK B)] 5), (b3, .cells true ((chL B (gA0 B) (gK B)).map u32v) 1), (b2, .cells true ((gBk B).map u32v) 1), (b1, .cells true ((gBl B).map u64v) 1)]) rfl (fun H17 s18 => ⟨?_, ?_⟩)
  · exact trivial
  refine ⟨_, Wk.refl _ _, ?_⟩
  show awp _ _ _ _ _ _ _
  refine awp_seq ?_
  refine awp_regs hF ?_
  refine dv (gyes_none rfl) (q_mv (v := .string B) rfl) rfl (by decide) (cok1 trivial) ?_
  refine x_call [] hF (by kernel_rfl) (gyes_none rfl) Try.call16 rfl (args := [.string B]) rfl (rgread_ok B hB) (show _ < _ by decide) (call_ok rfl) rfl rfl (fun _ _ _ _ hd => by cases hd) ?_
  rintro _ H22 (⟨hq, _⟩ | ⟨_, b19, b20, b21, rfl, hn23⟩)
  · exact absurd h hq
  have s24 := s18.callL hn23
  refine ⟨trivial, ?_⟩
  show dList _ _ _ _ _ _ _ _ _ _
  refine dv (gyes_none rfl) (q_mv (v := .tuple #[.agg #[.int .u32 ((gF0 B : Nat) : Int), .int .u32 ((gSh B : Nat) : Int), .slice (some ⟨b19, 0, none⟩) (gM B) (gM B), .slice (some ⟨b20, 0, none⟩) (gN B) (gN B), .slice (some ⟨b21, 0, none⟩) (gK B) (gK B)], .int .i64 0, .int .u64 0]) rfl) rfl (by decide) (cok1 trivial) ?_
  refine dv (gyes_none rfl) (q_extract (v := .agg #[.int .u32 ((gF0 B : Nat) : Int), .int .u32 ((gSh B : Nat) : Int), .slice (some ⟨b19, 0, none⟩) (gM B) (gM B), .slice (some ⟨b20, 0, none⟩) (gN B) (gN B), .slice (some ⟨b21, 0, none⟩) (gK B) (gK B)]) rfl rfl) rfl (by decide) (cok1 trivial) ?_
  refine dv (gyes_none rfl) (q_extract (v := .int .i64 0) rfl rfl) rfl (by decide) (cok1 trivial) ?_
  refine dv (gyes_none rfl) (q_extract (v := .int .u64 0) rfl rfl) rfl (by decide) (cok1 trivial) ?_
  refine x_new (fun b => .pointer (some ⟨b, 0, none⟩)) s24 (gyes_none rfl) (q_alloc (vs := [.int .u32 0, .int .u32 0, .slice none 0 0, .slice none 0 0, .slice none 0 0]) 5 Try.zeroValue35 (by first | exact flat_scalar rfl | exact flat_agg rfl) rfl) rfl (by decide) (by simp [Op.operands, Call.operands]) (fun b25 H26 hb28 s27 => ?_)
  refine x_store [] hF s27 (by kernel_rfl) (gyes_none rfl) (j := 0) (v := .agg #[.int .u32 ((gF0 B : Nat) : Int), .int .u32 ((gSh B : Nat) : Int), .slice (some ⟨b19, 0, none⟩) (gM B) (gM B), .slice (some ⟨b20, 0, none⟩) (gN B) (gN B), .slice (some ⟨b21, 0, none⟩) (gK B) (gK B)]) rfl Try.sizeOf35 rfl rfl rfl rfl rfl trivial (lcsA ⟨(lc_scalar rfl), (lc_scalar rfl), (lc_slice (s27.live (j := 3) rfl)), (lc_slice (s27.live (j := 2) rfl)), (lc_slice (s27.live (j := 1) rfl)), trivial⟩) (Nat.le_of_ble_eq_true rfl) trivial trivial rfl rfl (F' := [(b25, .cells true [.int .u32 ((gF0 B : Nat) : Int), .int .u32 ((gSh B : Nat) : Int), .slice (some ⟨b19, 0, none⟩) (gM B) (gM B), .slice (some ⟨b20, 0, none⟩) (gN B) (gN B), .slice (some ⟨b21, 0, none⟩) (gK B) (gK B)] 5), (b21, .cells true ((chL B (gA0 B) (gK B)).map u32v) 1), (b20, .cells true ((gBk B).map u32v) 1), (b19, .cells true ((gBl B).map u64v) 1), (b11, .cells true [.int .i64 0, .int .u64 0, .string (⟨#[]⟩ : ByteArray)] 3), (b7, .cells true [.int .u32 ((gF0 B : Nat) : Int), .int .u32 ((gSh B : Nat) : Int), .slice (some ⟨b1, 0, none⟩) (gM B) (gM B), .slice (some ⟨b2, 0, none⟩) (gN B) (gN B), .slice (some ⟨b3, 0, none⟩) (gK B) (gK B)] 5), (b3, .cells true ((chL B (gA0 B) (gK B)).map u32v) 1), (b2, .cells true ((gBk B).map u32v) 1), (b1, .cells true ((gBl B).map u64v) 1)]) rfl (fun H29 s30 => ⟨?_, ?_⟩)
  · exact trivial
  refine dv (gyes_none rfl) (q_as (v := .int .i64 0) rfl) rfl (by decide) (cok1 trivial) ?_
  refine dv (gyes_none rfl) (q_as (v := .int .u64 0) rfl) rfl (by decide) (cok1 trivial) ?_
  refine ⟨_, Wk.refl _ _, ?_⟩
  show awp _ _ _ _ _ _ _
  refine awp_seq ?_
  refine awp_seq ?_
  refine awp_regt hF hM (by kernel_rfl) (by kernel_rfl) ?_
  refine dv (gyes_none rfl) (q_field Try.underlying47 rfl Try.sizeOf44 rfl (s30.rd (j := 4) rfl)) rfl (by decide) (cok1 trivial) ?_
  refine dv (gyes_none rfl) (q_load (v := .int .i64 0) Try.isAgg44 rfl (s30.rd (j := 4) rfl) rfl) rfl (by decide) (cok1 trivial) ?_
  refine dv (gyes_none rfl) (q_mv (v := .int .i64 0) rfl) rfl (by decide) (cok1 trivial) ?_
  refine dv (gyes_none rfl) (OpQ.cast (v' := .bool false) (q_int rfl rfl rfl) (congrArg Value.bool (bne_self_eq_false _))) rfl (by decide) (cok2 trivial trivial) ?_
  refine dv (gyes_none rfl) (q_mv (v := .bool false) rfl) rfl (by decide) (cok1 trivial) ?_
  refine dv (gyes_some rfl rfl) (q_field Try.underlying47 rfl Try.sizeOf45 rfl (s30.rd (j := 4) rfl)) rfl (by decide) (cok1 trivial) ?_
  refine dv (gyes_some rfl rfl) (q_load (v := .int .u64 0) Try.isAgg45 rfl (s30.rd (j := 4) rfl) rfl) rfl (by decide) (cok1 trivial) ?_
  refine dv (gyes_some rfl rfl) (q_mv (v := .int .u64 0) rfl) rfl (by decide) (cok1 trivial) ?_
  refine dv (gyes_some rfl rfl) (OpQ.cast (v' := .bool false) (q_int rfl rfl rfl) (congrArg Value.bool (bne_self_eq_false _))) rfl (by decide) (cok2 trivial trivial) ?_
  refine dv (gyes_none rfl) (q_pf (v := .bool false) rfl rfl) rfl (by decide) (call_ok rfl) ?_
  refine dv (gyes_none rfl) (q_mv (v := .bool false) rfl) rfl (by decide) (cok1 trivial) ?_
  refine dv (gyes_some rfl rfl) (q_loadAgg Try.isAgg31 Try.sizeOf31 rfl (s30.rd (j := 5) rfl) (Nat.le_of_ble_eq_true rfl) rfl) rfl (by decide) (cok1 trivial) ?_
  refine dv (gyes_some rfl rfl) (q_call0 Try.call11 rfl (plain_ok (gF0 B) (gSh B) _ _ _ (gBl B) (gBk B) (chL B (gA0 B) (gK B)) (s30.slj (j := 8) rfl (by first | with_reducible exact gBl_len | with_reducible exact gBk_len | with_reducible exact chL_len _ _ _ | rfl | (simp; done) | omega) (by first | exact Nat.le_refl _ | omega)) (s30.slj (j := 7) rfl (by first | with_reducible exact gBl_len | with_reducible exact gBk_len | with_reducible exact chL_len _ _ _ | rfl | (simp; done) | omega) (by first | exact Nat.le_refl _ | omega)) (s30.slj (j := 6) rfl (by first | with_reducible exact gBl_len | with_reducible exact gBk_len | with_reducible exact chL_len _ _ _ | rfl | (simp; done) | omega) (by first | exact Nat.le_refl _ | omega)))) rfl (by decide) (cok2 trivial trivial) ?_
  refine dv (gyes_some rfl rfl) (q_loadAgg Try.isAgg35 Try.sizeOf35 rfl (s30.rd (j := 0) rfl) (Nat.le_of_ble_eq_true rfl) rfl) rfl (by decide) (cok1 trivial) ?_
  refine dv (gyes_some rfl rfl) (q_call0 Try.call10 rfl (same_ok (gF0 B) (gSh B) _ _ _ (gBl B) (gBk B) (chL B (gA0 B) (gK B)) (s30.slj (j := 8) rfl (by first | with_reducible exact gBl_len | with_reducible exact gBk_len | with_reducible exact chL_len _ _ _ | rfl | (simp; done) | omega) (by first | exact Nat.le_refl _ | omega)) (s30.slj (j := 7) rfl (by first | with_reducible exact gBl_len | with_reducible exact gBk_len | with_reducible exact chL_len _ _ _ | rfl | (simp; done) | omega) (by first | exact Nat.le_refl _ | omega)) (s30.slj (j := 6) rfl (by first | with_reducible exact gBl_len | with_reducible exact gBk_len | with_reducible exact chL_len _ _ _ | rfl | (simp; done) | omega) (by first | exact Nat.le_refl _ | omega)) _ _ _ (s30.slj (j := 3) rfl (by first | with_reducible exact gBl_len | with_reducible exact gBk_len | with_reducible exact chL_len _ _ _ | rfl | (simp; done) | omega) (by first | exact Nat.le_refl _ | omega)) (s30.slj (j := 2) rfl (by first | with_reducible exact gBl_len | with_reducible exact gBk_len | with_reducible exact chL_len _ _ _ | rfl | (simp; done) | omega) (by first | exact Nat.le_refl _ | omega)) (s30.slj (j := 1) rfl (by first | with_reducible exact gBl_len | with_reducible exact gBk_len | with_reducible exact chL_len _ _ _ | rfl | (simp; done) | omega) (by first | exact Nat.le_refl _ | omega)) (by first | (rw [gBl_len]; omega) | (rw [gBk_len]; omega) | (rw [chL_len]; omega) | decide) (by first | (rw [gBl_len]; omega) | (rw [gBk_len]; omega) | (rw [chL_len]; omega) | decide) (by first | (rw [gBl_len]; omega) | (rw [gBk_len]; omega) | (rw [chL_len]; omega) | decide))) rfl (by decide) (call_ok rfl) ?_
  refine dv (gyes_some rfl rfl) (q_not (b := true) rfl) rfl (by decide) (cok1 trivial) ?_
  refine dv (gyes_none rfl) (q_pf (v := .bool false) rfl rfl) rfl (by decide) (call_ok rfl) ?_
  refine ⟨_, Wk.refl _ _, ?_⟩
  show awp _ _ _ _ _ _ _
  refine awp_cond_f rfl ?_
  refine awp_skip_wk ?_
  refine ⟨_, Wk.refl _ _, ?_⟩
  show awp _ _ _ _ _ _ _
  refine awp_seq ?_
  refine awp_regs hF ?_
  refine dv (gyes_none rfl) (q_loadAgg Try.isAgg31 Try.sizeOf31 rfl (s30.rd (j := 5) rfl) (Nat.le_of_ble_eq_true rfl) rfl) rfl (by decide) (cok1 trivial) ?_
  refine dv (gyes_none rfl) (q_call0 Try.call17 rfl (gput_ok (gF0 B) (gSh B) _ _ _ (gBl B) (gBk B) (chL B (gA0 B) (gK B)) (s30.slj (j := 8) rfl (by first | with_reducible exact gBl_len | with_reducible exact gBk_len | with_reducible exact chL_len _ _ _ | rfl | (simp; done) | omega) (by first | exact Nat.le_refl _ | omega)) (s30.slj (j := 7) rfl (by first | with_reducible exact gBl_len | with_reducible exact gBk_len | with_reducible exact chL_len _ _ _ | rfl | (simp; done) | omega) (by first | exact Nat.le_refl _ | omega)) (s30.slj (j := 6) rfl (by first | with_reducible exact gBl_len | with_reducible exact gBk_len | with_reducible exact chL_len _ _ _ | rfl | (simp; done) | omega) (by first | exact Nat.le_refl _ | omega)) (by omega) (by omega) (by first | (rw [gBl_len]; omega) | (rw [gBk_len]; omega) | (rw [chL_len]; omega) | decide) (by first | (rw [gBl_len]; omega) | (rw [gBk_len]; omega) | (rw [chL_len]; omega) | decide) (by first | (rw [gBl_len]; omega) | (rw [gBk_len]; omega) | (rw [chL_len]; omega) | decide) (by first | with_reducible exact gBl_w | with_reducible exact gBk_w | with_reducible exact chL_w | (intro x hx; exact nomatch hx)) (by first | with_reducible exact gBl_w | with_reducible exact gBk_w | with_reducible exact chL_w | (intro x hx; exact nomatch hx)) (by first | with_reducible exact gBl_w | with_reducible exact gBk_w | with_reducible exact chL_w | (intro x hx; exact nomatch hx)))) rfl (by decide) (cok2 trivial trivial) ?_
  refine dv (gyes_none rfl) (q_as (v := .string (putG (gBl B) (gBk B) (chL B (gA0 B) (gK B)) (gF0 B) (gSh B))) rfl) rfl (by decide) (cok1 trivial) ?_
  refine ⟨_, Wk.refl _ _, ?_⟩
  show awp _ _ _ _ _ _ _
  refine awp_seq ?_
  refine awp_regt hF hM (by kernel_rfl) (by kernel_rfl) ?_
  refine dv (gyes_none rfl) (q_mv (v := .int .i64 0) rfl) rfl (by decide) (cok1 trivial) ?_
  refine dv (gyes_none rfl) (OpQ.cast (v' := .bool false) (q_int rfl rfl rfl) (congrArg Value.bool (bne_self_eq_false _))) rfl (by decide) (cok2 trivial (cconst rfl)) ?_
  refine dv (gyes_none rfl) (q_mv (v := .bool false) rfl) rfl (by decide) (cok1 trivial) ?_
  refine dv (gyes_some rfl rfl) (q_mv (v := .string (putG (gBl B) (gBk B) (chL B (gA0 B) (gK B)) (gF0 B) (gSh B))) rfl) rfl (by decide) (cok1 trivial) ?_
  refine dv (gyes_some rfl rfl) (q_len_str Try.underlying9 rfl) rfl (by decide) (cok1 trivial) ?_
  refine dv (gyes_some rfl rfl) (q_mv (v := .string B) rfl) rfl (by decide) (cok1 trivial) ?_
  refine dv (gyes_some rfl rfl) (q_len_str Try.underlying9 rfl) rfl (by decide) (cok1 trivial) ?_
  refine dv (gyes_some rfl rfl) (OpQ.cast (v' := .bool true) (q_int rfl rfl rfl) (congrArg Value.bool (decide_eq_true (by omega)))) rfl (by decide) (cok2 trivial trivial) ?_
  refine dv (gyes_some rfl rfl) (q_mv (v := .bool true) rfl) rfl (by decide) (cok1 trivial) ?_
  refine dv (gyes_some rfl rfl) (q_mv (v := .string (putG (gBl B) (gBk B) (chL B (gA0 B) (gK B)) (gF0 B) (gSh B))) rfl) rfl (by decide) (cok1 trivial) ?_
  refine dv (gyes_some rfl rfl) (q_mv (v := .string B) rfl) rfl (by decide) (cok1 trivial) ?_
  refine dv (gyes_some rfl rfl) (q_mv (v := .string (putG (gBl B) (gBk B) (chL B (gA0 B) (gK B)) (gF0 B) (gSh B))) rfl) rfl (by decide) (cok1 trivial) ?_
  refine dv (gyes_some rfl rfl) (q_len_str Try.underlying9 rfl) rfl (by decide) (cok1 trivial) ?_
  refine dv (gyes_some rfl rfl) (q_substr (i := 0) (j := ((putG (gBl B) (gBk B) (chL B (gA0 B) (gK B)) (gF0 B) (gSh B)).size)) Try.underlying9 rfl rfl ⟨_, rfl⟩ (by omega) (by omega)) rfl (by decide) (cok2 trivial trivial) ?_
  refine dv (gyes_some rfl rfl) (OpQ.cast (v' := .bool true) (q_streq rfl rfl) (congrArg Value.bool (decide_eq_true (by rw [hps]; exact gPut_eq h)))) rfl (by decide) (cok2 trivial trivial) ?_
  refine dv (gyes_some rfl rfl) (q_pt (v := .bool true) rfl rfl) rfl (by decide) (call_ok rfl) ?_
  refine dv (gyes_some rfl rfl) (q_mv (v := .bool true) rfl) rfl (by decide) (cok1 trivial) ?_
  refine dv (gyes_some rfl rfl) (q_loadAgg Try.isAgg31 Try.sizeOf31 rfl (s30.rd (j := 5) rfl) (Nat.le_of_ble_eq_true rfl) rfl) rfl (by decide) (cok1 trivial) ?_
  refine dv (gyes_some rfl rfl) (q_call0 Try.call18 rfl (symbols_ok (gF0 B) (gSh B) _ _ _ (gBl B) (gBk B) (chL B (gA0 B) (gK B)) (s30.slj (j := 8) rfl (by first | with_reducible exact gBl_len | with_reducible exact gBk_len | with_reducible exact chL_len _ _ _ | rfl | (simp; done) | omega) (by first | exact Nat.le_refl _ | omega)) (s30.slj (j := 7) rfl (by first | with_reducible exact gBl_len | with_reducible exact gBk_len | with_reducible exact chL_len _ _ _ | rfl | (simp; done) | omega) (by first | exact Nat.le_refl _ | omega)) (s30.slj (j := 6) rfl (by first | with_reducible exact gBl_len | with_reducible exact gBk_len | with_reducible exact chL_len _ _ _ | rfl | (simp; done) | omega) (by first | exact Nat.le_refl _ | omega)) (by omega) (by rw [chL_len]; omega))) rfl (by decide) (cok2 trivial trivial) ?_
  refine dv (gyes_some rfl rfl) (q_field Try.underlying35 rfl Try.sizeOf27 rfl (s30.rd (j := 0) rfl)) rfl (by decide) (cok1 trivial) ?_
  refine dv (gyes_some rfl rfl) (q_load (v := .int .u32 ((gF0 B : Nat) : Int)) Try.isAgg27 rfl (s30.rd (j := 0) rfl) rfl) rfl (by decide) (cok1 trivial) ?_
  refine dv (gyes_some rfl rfl) (q_convin (a := ((gF0 B : Nat) : Int)) Try.underlying27 Try.underlying3 rfl (i64_in (by omega))) rfl (by decide) (cok1 trivial) ?_
  refine dv (gyes_some rfl rfl) (q_field Try.underlying35 rfl Try.sizeOf29 rfl (s30.rd (j := 0) rfl)) rfl (by decide) (cok1 trivial) ?_
  refine dv (gyes_some rfl rfl) (q_load (v := .slice (some ⟨b21, 0, none⟩) (gK B) (gK B)) Try.isAgg29 rfl (s30.rd (j := 0) rfl) rfl) rfl (by decide) (cok1 trivial) ?_
  refine dv (gyes_some rfl rfl) (q_len_slice Try.underlying29 rfl (s30.rd (j := 1) rfl)) rfl (by decide) (cok1 trivial) ?_
  refine dv (gyes_some rfl rfl) (OpQ.cast (v' := .int .i64 ((gF0 B + (gK B) : Nat) : Int)) (q_int rfl rfl rfl) (congrArg _ ((i64_in (by omega)).trans (by first | rfl | omega | (push_cast; rfl))))) rfl (by decide) (cok2 trivial trivial) ?_
  refine dv (gyes_some rfl rfl) (OpQ.cast (v' := .bool true) (q_int rfl rfl rfl) (congrArg Value.bool (beq_iff_eq.2 (by rw [chL_len])))) rfl (by decide) (cok2 trivial trivial) ?_
  refine dv (gyes_some rfl rfl) (q_pt (v := .bool true) rfl rfl) rfl (by decide) (call_ok rfl) ?_
  refine dv (gyes_none rfl) (q_pf (v := .bool true) rfl rfl) rfl (by decide) (call_ok rfl) ?_
  refine dv (gyes_none rfl) (q_as (v := .bool true) rfl) rfl (by decide) (cok1 trivial) ?_
  refine ⟨_, Wk.refl _ _, ?_⟩
  show awp _ _ _ _ _ _ _
  refine awp_ret_wk ?_
  refine ⟨_, Wk.refl _ _, ?_⟩
  repeat (with_reducible first | refine then_ret ?_ | refine blk_ret ?_ | refine then_exit ?_ | refine blk_exit ?_ | refine blk_exit' (by decide) ?_ | refine blk_normal ?_ | refine then_normal ?_ | refine retq_ret ?_ | refine retq_normal ?_ | refine ng_normal ?_ | refine ng_ret ?_ | refine ng_exit ?_)
  exact ret_none (v := .bool true) rfl s30.kp (.tmp rfl .nil) rfl rfl ⟨rfl, rfl⟩
set_option maxRecDepth 100000 in
set_option maxHeartbeats 4000000 in
theorem gnuReads_bad {H0 : AHeap} (B : ByteArray) (hB : B.size ≤ 140737488355328) (h : gC B ≠ 0) : ACalls Try.prog 5 [.string B] H0 (Rets (.bool true) H0) := by
  have hF : Wd Fence.wide := .inl rfl
  have hM : Try.prog.follows .mixedOrders = true := by kernel_rfl
  have s0 := St.begin H0
  refine acalls_st Try.func5 rfl Try.ntmps5 rfl ?_
  refine awp_seq ?_
  refine awp_regs hF ?_
  refine dv (gyes_none rfl) (q_as (v := .bool false) rfl) rfl (by decide) (cok1 (cconst rfl)) ?_
  refine ⟨_, Wk.refl _ _, ?_⟩
  show awp _ _ _ _ _ _ _
  refine awp_seq ?_
  refine awp_seq ?_
  refine awp_regs hF ?_
  refine dv (gyes_none rfl) (q_call0 Try.call7 rfl (speaks_ok)) rfl (by decide) (cok1 trivial) ?_
  refine dv (gyes_none rfl) (q_not (b := true) rfl) rfl (by decide) (cok1 trivial) ?_
  refine ⟨_, Wk.refl _ _, ?_⟩
  show awp _ _ _ _ _ _ _
  refine awp_cond_f rfl ?_
  refine awp_skip_wk ?_
  refine ⟨_, Wk.refl _ _, ?_⟩
  show awp _ _ _ _ _ _ _
  refine awp_seq ?_
  refine awp_regs hF ?_
  refine dv (gyes_none rfl) (q_mv (v := .string B) rfl) rfl (by decide) (cok1 trivial) ?_
  refine x_call [] hF (by kernel_rfl) (gyes_none rfl) Try.call15 rfl (args := [.string B]) rfl (gread_ok B hB) (show _ < _ by decide) (call_ok rfl) rfl rfl (fun _ _ _ _ hd => by cases hd) ?_
  rintro _ H4 (⟨_, rfl, hn5⟩ | ⟨hq, _⟩)
  rotate_left
  · exact absurd hq h
  have s6 := s0.call0 hn5
  refine ⟨trivial, ?_⟩
  show dList _ _ _ _ _ _ _ _ _ _
  refine dv (gyes_none rfl) (q_mv (v := .tuple #[.agg #[.int .u32 0, .int .u32 0, .slice none 0 0, .slice none 0 0, .slice none 0 0], .agg #[.int .i64 ((gC B : Nat) : Int), .int .u64 ((gAt B : Nat) : Int), .string (⟨#[]⟩ : ByteArray)]]) rfl) rfl (by decide) (cok1 trivial) ?_
  refine dv (gyes_none rfl) (q_extract (v := .agg #[.int .u32 0, .int .u32 0, .slice none 0 0, .slice none 0 0, .slice none 0 0]) rfl rfl) rfl (by decide) (cok1 trivial) ?_
  refine dv (gyes_none rfl) (q_extract (v := .agg #[.int .i64 ((gC B : Nat) : Int), .int .u64 ((gAt B : Nat) : Int), .string (⟨#[]⟩ : ByteArray)]) rfl rfl) rfl (by decide) (cok1 trivial) ?_
  refine x_new (fun b => .pointer (some ⟨b, 0, none⟩)) s6 (gyes_none rfl) (q_alloc (vs := [.int .u32 0, .int .u32 0, .slice none 0 0, .slice none 0 0, .slice none 0 0]) 5 Try.zeroValue31 (by first | exact flat_scalar rfl | exact flat_agg rfl) rfl) rfl (by decide) (by simp [Op.operands, Call.operands]) (fun b7 H8 hb10 s9 => ?_)
  refine x_new (fun b => .pointer (some ⟨b, 0, none⟩)) s9 (gyes_none rfl) (q_alloc (vs := [.int .i64 0, .int .u64 0, .string ⟨#[]⟩]) 3 Try.zeroValue47 (by first | exact flat_scalar rfl | exact flat_agg rfl) rfl) rfl (by decide) (by simp [Op.operands, Call.operands]) (fun b11 H12 hb14 s13 => ?_)
  refine x_store [] hF s13 (by kernel_rfl) (gyes_none rfl) (j := 1) (v := .agg #[.int .u32 0, .int .u32 0, .slice none 0 0, .slice none 0 0, .slice none 0 0]) rfl Try.sizeOf31 rfl rfl rfl rfl rfl trivial (lcsA ⟨(lc_scalar rfl), (lc_scalar rfl), (lc_scalar rfl), (lc_scalar rfl), (lc_scalar rfl), trivial⟩) (Nat.le_of_ble_eq_true rfl) trivial trivial rfl rfl (F' := [(b11, .cells true [.int .i64 0, .int .u64 0, .string ⟨#[]⟩] 3), (b7, .cells true [.int .u32 0, .int .u32 0, .slice none 0 0, .slice none 0 0, .slice none 0 0] 5)]) rfl (fun H15 s16 => ⟨?_, ?_⟩)
  · exact trivial
  refine x_store [] hF s16 (by kernel_rfl) (gyes_none rfl) (j := 0) (v := .agg #[.int .i64 ((gC B : Nat) : Int), .int .u64 ((gAt B : Nat) : Int), .string (⟨#[]⟩ : ByteArray)]) rfl Try.sizeOf47 rfl rfl rfl rfl rfl trivial (lcsA ⟨(lc_scalar rfl), (lc_scalar rfl), (lc_scalar rfl), trivial⟩) (Nat.le_of_ble_eq_true rfl) trivial trivial rfl rfl (F' := [(b11, .cells true [.int .i64 ((gC B : Nat) : Int), .int .u64 ((gAt B : Nat) : Int), .string (⟨#[]⟩ : ByteArray)] 3), (b7, .cells true [.int .u32 0, .int .u32 0, .slice none 0 0, .slice none 0 0, .slice none 0 0] 5)]) rfl (fun H17 s18 => ⟨?_, ?_⟩)
  · exact trivial
  refine ⟨_, Wk.refl _ _, ?_⟩
  show awp _ _ _ _ _ _ _
  refine awp_seq ?_
  refine awp_regs hF ?_
  refine dv (gyes_none rfl) (q_mv (v := .string B) rfl) rfl (by decide) (cok1 trivial) ?_
  refine x_call [] hF (by kernel_rfl) (gyes_none rfl) Try.call16 rfl (args := [.string B]) rfl (rgread_ok B hB) (show _ < _ by decide) (call_ok rfl) rfl rfl (fun _ _ _ _ hd => by cases hd) ?_
  rintro _ H22 (⟨_, rfl, hn23⟩ | ⟨hq, _⟩)
  rotate_left
  · exact absurd hq h
  have s24 := s18.call0 hn23
  refine ⟨trivial, ?_⟩
  show dList _ _ _ _ _ _ _ _ _ _
  refine dv (gyes_none rfl) (q_mv (v := .tuple #[.agg #[.int .u32 0, .int .u32 0, .slice none 0 0, .slice none 0 0, .slice none 0 0], .int .i64 ((gC B : Nat) : Int), .int .u64 ((gAt B : Nat) : Int)]) rfl) rfl (by decide) (cok1 trivial) ?_
  refine dv (gyes_none rfl) (q_extract (v := .agg #[.int .u32 0, .int .u32 0, .slice none 0 0, .slice none 0 0, .slice none 0 0]) rfl rfl) rfl (by decide) (cok1 trivial) ?_
  refine dv (gyes_none rfl) (q_extract (v := .int .i64 ((gC B : Nat) : Int)) rfl rfl) rfl (by decide) (cok1 trivial) ?_
  refine dv (gyes_none rfl) (q_extract (v := .int .u64 ((gAt B : Nat) : Int)) rfl rfl) rfl (by decide) (cok1 trivial) ?_
  refine x_new (fun b => .pointer (some ⟨b, 0, none⟩)) s24 (gyes_none rfl) (q_alloc (vs := [.int .u32 0, .int .u32 0, .slice none 0 0, .slice none 0 0, .slice none 0 0]) 5 Try.zeroValue35 (by first | exact flat_scalar rfl | exact flat_agg rfl) rfl) rfl (by decide) (by simp [Op.operands, Call.operands]) (fun b25 H26 hb28 s27 => ?_)
  refine x_store [] hF s27 (by kernel_rfl) (gyes_none rfl) (j := 0) (v := .agg #[.int .u32 0, .int .u32 0, .slice none 0 0, .slice none 0 0, .slice none 0 0]) rfl Try.sizeOf35 rfl rfl rfl rfl rfl trivial (lcsA ⟨(lc_scalar rfl), (lc_scalar rfl), (lc_scalar rfl), (lc_scalar rfl), (lc_scalar rfl), trivial⟩) (Nat.le_of_ble_eq_true rfl) trivial trivial rfl rfl (F' := [(b25, .cells true [.int .u32 0, .int .u32 0, .slice none 0 0, .slice none 0 0, .slice none 0 0] 5), (b11, .cells true [.int .i64 ((gC B : Nat) : Int), .int .u64 ((gAt B : Nat) : Int), .string (⟨#[]⟩ : ByteArray)] 3), (b7, .cells true [.int .u32 0, .int .u32 0, .slice none 0 0, .slice none 0 0, .slice none 0 0] 5)]) rfl (fun H29 s30 => ⟨?_, ?_⟩)
  · exact trivial
  refine dv (gyes_none rfl) (q_as (v := .int .i64 ((gC B : Nat) : Int)) rfl) rfl (by decide) (cok1 trivial) ?_
  refine dv (gyes_none rfl) (q_as (v := .int .u64 ((gAt B : Nat) : Int)) rfl) rfl (by decide) (cok1 trivial) ?_
  refine ⟨_, Wk.refl _ _, ?_⟩
  show awp _ _ _ _ _ _ _
  refine awp_seq ?_
  refine awp_seq ?_
  refine awp_regt hF hM (by kernel_rfl) (by kernel_rfl) ?_
  refine dv (gyes_none rfl) (q_field Try.underlying47 rfl Try.sizeOf44 rfl (s30.rd (j := 1) rfl)) rfl (by decide) (cok1 trivial) ?_
  refine dv (gyes_none rfl) (q_load (v := .int .i64 ((gC B : Nat) : Int)) Try.isAgg44 rfl (s30.rd (j := 1) rfl) rfl) rfl (by decide) (cok1 trivial) ?_
  refine dv (gyes_none rfl) (q_mv (v := .int .i64 ((gC B : Nat) : Int)) rfl) rfl (by decide) (cok1 trivial) ?_
  refine dv (gyes_none rfl) (OpQ.cast (v' := .bool false) (q_int rfl rfl rfl) (congrArg Value.bool (bne_self_eq_false _))) rfl (by decide) (cok2 trivial trivial) ?_
  refine dv (gyes_none rfl) (q_mv (v := .bool false) rfl) rfl (by decide) (cok1 trivial) ?_
  refine dv (gyes_some rfl rfl) (q_field Try.underlying47 rfl Try.sizeOf45 rfl (s30.rd (j := 1) rfl)) rfl (by decide) (cok1 trivial) ?_
  refine dv (gyes_some rfl rfl) (q_load (v := .int .u64 ((gAt B : Nat) : Int)) Try.isAgg45 rfl (s30.rd (j := 1) rfl) rfl) rfl (by decide) (cok1 trivial) ?_
  refine dv (gyes_some rfl rfl) (q_mv (v := .int .u64 ((gAt B : Nat) : Int)) rfl) rfl (by decide) (cok1 trivial) ?_
  refine dv (gyes_some rfl rfl) (OpQ.cast (v' := .bool false) (q_int rfl rfl rfl) (congrArg Value.bool (bne_self_eq_false _))) rfl (by decide) (cok2 trivial trivial) ?_
  refine dv (gyes_none rfl) (q_pf (v := .bool false) rfl rfl) rfl (by decide) (call_ok rfl) ?_
  refine dv (gyes_none rfl) (q_mv (v := .bool false) rfl) rfl (by decide) (cok1 trivial) ?_
  refine dv (gyes_some rfl rfl) (q_loadAgg Try.isAgg31 Try.sizeOf31 rfl (s30.rd (j := 2) rfl) (Nat.le_of_ble_eq_true rfl) rfl) rfl (by decide) (cok1 trivial) ?_
  refine dv (gyes_some rfl rfl) (q_call0 Try.call11 rfl (plain_ok 0 0 _ _ _ ([]) ([]) ([]) Sl.nil Sl.nil Sl.nil)) rfl (by decide) (cok2 trivial trivial) ?_
  refine dv (gyes_some rfl rfl) (q_loadAgg Try.isAgg35 Try.sizeOf35 rfl (s30.rd (j := 0) rfl) (Nat.le_of_ble_eq_true rfl) rfl) rfl (by decide) (cok1 trivial) ?_
  refine dv (gyes_some rfl rfl) (q_call0 Try.call10 rfl (same_ok 0 0 _ _ _ ([]) ([]) ([]) Sl.nil Sl.nil Sl.nil _ _ _ Sl.nil Sl.nil Sl.nil (by first | (rw [gBl_len]; omega) | (rw [gBk_len]; omega) | (rw [chL_len]; omega) | decide) (by first | (rw [gBl_len]; omega) | (rw [gBk_len]; omega) | (rw [chL_len]; omega) | decide) (by first | (rw [gBl_len]; omega) | (rw [gBk_len]; omega) | (rw [chL_len]; omega) | decide))) rfl (by decide) (call_ok rfl) ?_
  refine dv (gyes_some rfl rfl) (q_not (b := true) rfl) rfl (by decide) (cok1 trivial) ?_
  refine dv (gyes_none rfl) (q_pf (v := .bool false) rfl rfl) rfl (by decide) (call_ok rfl) ?_
  refine ⟨_, Wk.refl _ _, ?_⟩
  show awp _ _ _ _ _ _ _
  refine awp_cond_f rfl ?_
  refine awp_skip_wk ?_
  refine ⟨_, Wk.refl _ _, ?_⟩
  show awp _ _ _ _ _ _ _
  refine awp_seq ?_
  refine awp_regs hF ?_
  refine dv (gyes_none rfl) (q_loadAgg Try.isAgg31 Try.sizeOf31 rfl (s30.rd (j := 2) rfl) (Nat.le_of_ble_eq_true rfl) rfl) rfl (by decide) (cok1 trivial) ?_
  refine dv (gyes_none rfl) (q_call0 Try.call17 rfl (gput_ok 0 0 _ _ _ ([]) ([]) ([]) Sl.nil Sl.nil Sl.nil (by omega) (by omega) (by first | (rw [gBl_len]; omega) | (rw [gBk_len]; omega) | (rw [chL_len]; omega) | decide) (by first | (rw [gBl_len]; omega) | (rw [gBk_len]; omega) | (rw [chL_len]; omega) | decide) (by first | (rw [gBl_len]; omega) | (rw [gBk_len]; omega) | (rw [chL_len]; omega) | decide) (by first | with_reducible exact gBl_w | with_reducible exact gBk_w | with_reducible exact chL_w | (intro x hx; exact nomatch hx)) (by first | with_reducible exact gBl_w | with_reducible exact gBk_w | with_reducible exact chL_w | (intro x hx; exact nomatch hx)) (by first | with_reducible exact gBl_w | with_reducible exact gBk_w | with_reducible exact chL_w | (intro x hx; exact nomatch hx)))) rfl (by decide) (cok2 trivial trivial) ?_
  refine dv (gyes_none rfl) (q_as (v := .string (putG ([]) ([]) ([]) 0 0)) rfl) rfl (by decide) (cok1 trivial) ?_
  refine ⟨_, Wk.refl _ _, ?_⟩
  show awp _ _ _ _ _ _ _
  refine awp_seq ?_
  refine awp_regt hF hM (by kernel_rfl) (by kernel_rfl) ?_
  refine dv (gyes_none rfl) (q_mv (v := .int .i64 ((gC B : Nat) : Int)) rfl) rfl (by decide) (cok1 trivial) ?_
  refine dv (gyes_none rfl) (OpQ.cast (v' := .bool true) (q_int rfl rfl rfl) (congrArg Value.bool (bne_iff_ne.2 (by omega)))) rfl (by decide) (cok2 trivial (cconst rfl)) ?_
  refine dv (gyes_none rfl) (q_mv (v := .bool true) rfl) rfl (by decide) (cok1 trivial) ?_
  refine dno rfl (.inl rfl) rfl (by decide) ?_
  refine dno rfl (.inl rfl) rfl (by decide) ?_
  refine dno rfl (.inl rfl) rfl (by decide) ?_
  refine dno rfl (.inl rfl) rfl (by decide) ?_
  refine dno rfl (.inl rfl) rfl (by decide) ?_
  refine dno rfl (.inl rfl) rfl (by decide) ?_
  refine dno rfl (.inr rfl) rfl (by decide) ?_
  refine dno rfl (.inr rfl) rfl (by decide) ?_
  refine dno rfl (.inr rfl) rfl (by decide) ?_
  refine dno rfl (.inr rfl) rfl (by decide) ?_
  refine dno rfl (.inr rfl) rfl (by decide) ?_
  refine dno rfl (.inr rfl) rfl (by decide) ?_
  refine dno rfl (.inl rfl) rfl (by decide) ?_
  refine dno rfl (.inl rfl) rfl (by decide) ?_
  refine dno rfl (.inr rfl) rfl (by decide) ?_
  refine dno rfl (.inr rfl) rfl (by decide) ?_
  refine dno rfl (.inr rfl) rfl (by decide) ?_
  refine dno rfl (.inr rfl) rfl (by decide) ?_
  refine dno rfl (.inr rfl) rfl (by decide) ?_
  refine dno rfl (.inr rfl) rfl (by decide) ?_
  refine dno rfl (.inr rfl) rfl (by decide) ?_
  refine dno rfl (.inr rfl) rfl (by decide) ?_
  refine dno rfl (.inr rfl) rfl (by decide) ?_
  refine dno rfl (.inr rfl) rfl (by decide) ?_
  refine dno rfl (.inl rfl) rfl (by decide) ?_
  refine dv (gyes_none rfl) (q_pt (v := .bool true) rfl rfl) rfl (by decide) (call_ok rfl) ?_
  refine dv (gyes_none rfl) (q_as (v := .bool true) rfl) rfl (by decide) (cok1 trivial) ?_
  refine ⟨_, Wk.refl _ _, ?_⟩
  show awp _ _ _ _ _ _ _
  refine awp_ret_wk ?_
  refine ⟨_, Wk.refl _ _, ?_⟩
  repeat (with_reducible first | refine then_ret ?_ | refine blk_ret ?_ | refine then_exit ?_ | refine blk_exit ?_ | refine blk_exit' (by decide) ?_ | refine blk_normal ?_ | refine then_normal ?_ | refine retq_ret ?_ | refine retq_normal ?_ | refine ng_normal ?_ | refine ng_ret ?_ | refine ng_exit ?_)
  exact ret_none (v := .bool true) rfl s30.kp (.tmp rfl .nil) rfl rfl ⟨rfl, rfl⟩
theorem gnuReads_ok {H0 : AHeap} (B : ByteArray) (hB : B.size ≤ 140737488355328) : ACalls Try.prog 5 [.string B] H0 (Rets (.bool true) H0) := by
  by_cases h : gC B = 0
  · exact gnuReads_good B hB h
  · exact gnuReads_bad B hB h

end Go.Proofs.YtponfeigjmjbmaaA

