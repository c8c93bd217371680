/-
  Walks over abstract states: texts of one claim, merged.
-/
import Derived.Test.YtmoldjiooccppaaM3
import Derived.Test.YtmoldjiooccppaaProg
import Derived.KernelRfl
import Derived.ChangeSlices
import Derived.SliceStrings
import Derived.WideShapes
import Derived.SizedLaws
/-
  Walks of functions of the given program, and what they compute.
-/
namespace Go.Proofs.YtmoldjiooccppaaA
set_option linter.unusedVariables false
open Go Go.RowKit Go.Shelf Go.Proofs
theorem ACalls.castV {P : Program} {f : FuncId} {a : List Value} {H : AHeap} {H' : AHeap} {v v' : Value} (h : ACalls P f a H (Rets v H')) (e : v = v') : ACalls P f a H (Rets v' H') := e ▸ h
set_option maxRecDepth 100000 in
set_option maxHeartbeats 4000000 in
theorem failOf_ok {H0 : AHeap} (c : Nat) : ACalls Try.prog 24 [.int .i64 ((c : Nat) : Int)] H0 (Rets (.agg #[.int .i64 ((c : Nat) : Int), .int .u64 0, .string ⟨#[]⟩]) H0) := by
  have hF : Wd Fence.wide := .inl rfl
  have hM : Try.prog.follows .mixedOrders = true := by kernel_rfl
  have s0 := St.begin H0
  refine acalls_st Try.func24 rfl Try.ntmps24 rfl ?_
  refine awp_seq ?_
  refine awp_regs hF ?_
  refine x_new (fun b => .pointer (some ⟨b, 0, none⟩)) s0 (gyes_none rfl) (q_alloc (vs := [.int .i64 0, .int .u64 0, .string ⟨#[]⟩]) 3 Try.zeroValue44 (by first | exact flat_scalar rfl | exact flat_agg rfl) rfl) rfl (by decide) (by simp [Op.operands]) (fun b1 H2 hb4 s3 => ?_)
  refine ⟨_, Wk.refl _ _, ?_⟩
  show awp _ _ _ _ _ _ _
  refine awp_seq ?_
  refine awp_regs hF ?_
  refine dv (gyes_none rfl) (q_mv (v := .int .i64 ((c : Nat) : Int)) rfl) rfl (by decide) (cok1 trivial) ?_
  refine dv (gyes_none rfl) (q_buildL (ds := [.int .i64 ((c : Nat) : Int), .int .u64 0, .string ⟨#[]⟩]) [(0, 1), (1, 1), (2, 1)] [.int .i64 ((c : Nat) : Int)] Try.underlying44 Try.zeroValue44 (by first | exact flat_agg rfl | exact flat_scalar rfl) (by kernel_rfl) ⟨rfl, trivial⟩ (lvsC (by exact trivial) lvs0) rfl) rfl (by decide) (cok1 trivial) ?_
  refine x_store [] hF s3 (by kernel_rfl) (gyes_none rfl) (j := 0) (v := .agg #[.int .i64 ((c : Nat) : Int), .int .u64 0, .string ⟨#[]⟩]) rfl Try.sizeOf44 rfl rfl rfl rfl rfl trivial (lcsA ⟨(lc_scalar rfl), (lc_scalar rfl), (lc_scalar rfl), trivial⟩) (Nat.le_of_ble_eq_true rfl) trivial trivial rfl rfl (F' := [(b1, .cells true [.int .i64 ((c : Nat) : Int), .int .u64 0, .string ⟨#[]⟩] 3)]) rfl (fun H5 s6 => ⟨?_, ?_⟩)
  · exact trivial
  refine ⟨_, Wk.refl _ _, ?_⟩
  show awp _ _ _ _ _ _ _
  refine awp_ret_wk ?_
  refine ⟨_, Wk.refl _ _, ?_⟩
  repeat (with_reducible first | refine then_ret ?_ | refine blk_ret ?_ | refine then_exit ?_ | refine blk_exit ?_ | refine blk_exit' (by decide) ?_ | refine blk_normal ?_ | refine then_normal ?_ | refine retq_ret ?_ | refine retq_normal ?_ | refine ng_normal ?_ | refine ng_ret ?_ | refine ng_exit ?_)
  exact ret_none (v := .agg #[.int .i64 ((c : Nat) : Int), .int .u64 0, .string ⟨#[]⟩]) rfl s6.kp (.agg rfl Try.isAgg44 Try.sizeOf44 (s6.rd (j := 0) rfl) (Nat.le_of_ble_eq_true rfl) rfl .nil) rfl rfl ⟨rfl, rfl⟩
set_option maxRecDepth 100000 in
set_option maxHeartbeats 4000000 in
theorem failAt_ok {H0 : AHeap} (c a : Nat) : ACalls Try.prog 27 [.int .i64 ((c : Nat) : Int), .int .u64 ((a : Nat) : Int)] H0 (Rets (.agg #[.int .i64 ((c : Nat) : Int), .int .u64 ((a : Nat) : Int), .string ⟨#[]⟩]) H0) := by
  have hF : Wd Fence.wide := .inl rfl
  have hM : Try.prog.follows .mixedOrders = true := by kernel_rfl
  have s0 := St.begin H0
  refine acalls_st Try.func27 rfl Try.ntmps27 rfl ?_
  refine awp_seq ?_
  refine awp_regs hF ?_
  refine x_new (fun b => .pointer (some ⟨b, 0, none⟩)) s0 (gyes_none rfl) (q_alloc (vs := [.int .i64 0, .int .u64 0, .string ⟨#[]⟩]) 3 Try.zeroValue44 (by first | exact flat_scalar rfl | exact flat_agg rfl) rfl) rfl (by decide) (by simp [Op.operands]) (fun b1 H2 hb4 s3 => ?_)
  refine ⟨_, Wk.refl _ _, ?_⟩
  show awp _ _ _ _ _ _ _
  refine awp_seq ?_
  refine awp_regs hF ?_
  refine dv (gyes_none rfl) (q_mv (v := .int .i64 ((c : Nat) : Int)) rfl) rfl (by decide) (cok1 trivial) ?_
  refine dv (gyes_none rfl) (q_mv (v := .int .u64 ((a : Nat) : Int)) rfl) rfl (by decide) (cok1 trivial) ?_
  refine dv (gyes_none rfl) (q_buildL (ds := [.int .i64 ((c : Nat) : Int), .int .u64 ((a : Nat) : Int), .string ⟨#[]⟩]) [(0, 1), (1, 1), (2, 1)] [.int .i64 ((c : Nat) : Int), .int .u64 ((a : Nat) : Int)] Try.underlying44 Try.zeroValue44 (by first | exact flat_agg rfl | exact flat_scalar rfl) (by kernel_rfl) ⟨rfl, rfl, trivial⟩ (lvsC (by exact trivial) (lvsC (by exact trivial) lvs0)) rfl) rfl (by decide) (cok2 trivial trivial) ?_
  refine x_store [] hF s3 (by kernel_rfl) (gyes_none rfl) (j := 0) (v := .agg #[.int .i64 ((c : Nat) : Int), .int .u64 ((a : Nat) : Int), .string ⟨#[]⟩]) rfl Try.sizeOf44 rfl rfl rfl rfl rfl trivial (lcsA ⟨(lc_scalar rfl), (lc_scalar rfl), (lc_scalar rfl), trivial⟩) (Nat.le_of_ble_eq_true rfl) trivial trivial rfl rfl (F' := [(b1, .cells true [.int .i64 ((c : Nat) : Int), .int .u64 ((a : Nat) : Int), .string ⟨#[]⟩] 3)]) rfl (fun H5 s6 => ⟨?_, ?_⟩)
  · exact trivial
  refine ⟨_, Wk.refl _ _, ?_⟩
  show awp _ _ _ _ _ _ _
  refine awp_ret_wk ?_
  refine ⟨_, Wk.refl _ _, ?_⟩
  repeat (with_reducible first | refine then_ret ?_ | refine blk_ret ?_ | refine then_exit ?_ | refine blk_exit ?_ | refine blk_exit' (by decide) ?_ | refine blk_normal ?_ | refine then_normal ?_ | refine retq_ret ?_ | refine retq_normal ?_ | refine ng_normal ?_ | refine ng_ret ?_ | refine ng_exit ?_)
  exact ret_none (v := .agg #[.int .i64 ((c : Nat) : Int), .int .u64 ((a : Nat) : Int), .string ⟨#[]⟩]) rfl s6.kp (.agg rfl Try.isAgg44 Try.sizeOf44 (s6.rd (j := 0) rfl) (Nat.le_of_ble_eq_true rfl) rfl .nil) rfl rfl ⟨rfl, rfl⟩
set_option maxRecDepth 100000 in
set_option maxHeartbeats 4000000 in
theorem sread_ok {H0 : AHeap} (B : ByteArray) (hB : B.size ≤ 140737488355328) : ACalls Try.prog 15 [.string B] H0 (fun v H' => (syC B ≠ 0 ∧ v = .tuple #[.agg #[.slice none 0 0, .slice none 0 0], .agg #[.int .i64 ((syC B : Nat) : Int), .int .u64 ((syA B : Nat) : Int), .string ⟨#[]⟩]] ∧ K0 H0 H') ∨ (syC B = 0 ∧ ∃ b, K0 H0 H' ∧ H0.length ≤ b ∧ v = .tuple #[.agg #[.slice (some ⟨b, 0, none⟩) (atV B 0 4) (atV B 0 4), .slice (some ⟨b, atV B 0 4, none⟩) ((allL B (nmS B)).length - (atV B 0 4)) ((allL B (nmS B)).length - (atV B 0 4))], .agg #[.int .i64 0, .int .u64 0, .string ⟨#[]⟩]] ∧ H'[b]? = some (.cells true ((allL B (nmS B)).map u32v) 1))) := by
  have hF : Wd Fence.wide := .inl rfl
  have hM : Try.prog.follows .mixedOrders = true := by kernel_rfl
  have hn4 : atV B 0 4 < 4294967296 := atV_lt B 0 4
  have hm4 : atV B 4 4 < 4294967296 := atV_lt B 4 4
  have s0 := St.begin H0
  refine acalls_st Try.func15 rfl Try.ntmps15 rfl ?_
  refine awp_seq ?_
  refine awp_regs hF ?_
  refine x_new (fun b => .pointer (some ⟨b, 0, none⟩)) s0 (gyes_none rfl) (q_alloc (vs := [.slice none 0 0, .slice none 0 0]) 2 Try.zeroValue26 (by first | exact flat_scalar rfl | exact flat_agg rfl) rfl) rfl (by decide) (by simp [Op.operands]) (fun b1 H2 hb4 s3 => ?_)
  refine x_new (fun b => .pointer (some ⟨b, 0, none⟩)) s3 (gyes_none rfl) (q_alloc (vs := [.int .i64 0, .int .u64 0, .string ⟨#[]⟩]) 3 Try.zeroValue44 (by first | exact flat_scalar rfl | exact flat_agg rfl) rfl) rfl (by decide) (by simp [Op.operands]) (fun b5 H6 hb8 s7 => ?_)
  refine ⟨_, Wk.refl _ _, ?_⟩
  show awp _ _ _ _ _ _ _
  refine awp_seq ?_
  refine awp_regs hF ?_
  refine dv (gyes_none rfl) (q_mv (v := .string B) rfl) rfl (by decide) (cok1 trivial) ?_
  refine dv (gyes_none rfl) (q_call0 Try.call23 rfl (at_ok B 0 4 (by first | assumption | omega) (by omega) (by omega) (by omega))) rfl (by decide) (call_ok rfl) ?_
  refine dv (gyes_none rfl) (q_mv (v := .tuple #[.int .u64 ((atV B 0 4 : Nat) : Int), .bool (decide (0 + 4 ≤ B.size))]) rfl) rfl (by decide) (cok1 trivial) ?_
  refine dv (gyes_none rfl) (q_extract (v := .int .u64 ((atV B 0 4 : Nat) : Int)) rfl rfl) rfl (by decide) (cok1 trivial) ?_
  refine dv (gyes_none rfl) (q_extract (v := .bool (decide (0 + 4 ≤ B.size))) rfl rfl) rfl (by decide) (cok1 trivial) ?_
  refine dv (gyes_none rfl) (q_as (v := .int .u64 ((atV B 0 4 : Nat) : Int)) rfl) rfl (by decide) (cok1 trivial) ?_
  refine dv (gyes_none rfl) (q_as (v := .bool (decide (0 + 4 ≤ B.size))) rfl) rfl (by decide) (cok1 trivial) ?_
  refine ⟨_, Wk.refl _ _, ?_⟩
  show awp _ _ _ _ _ _ _
  refine awp_seq ?_
  refine awp_regs hF ?_
  refine dv (gyes_none rfl) (q_mv (v := .string B) rfl) rfl (by decide) (cok1 trivial) ?_
  refine dv (gyes_none rfl) (q_call0 Try.call23 rfl (at_ok B 4 4 (by first | assumption | omega) (by omega) (by omega) (by omega))) rfl (by decide) (call_ok rfl) ?_
  refine dv (gyes_none rfl) (q_mv (v := .tuple #[.int .u64 ((atV B 4 4 : Nat) : Int), .bool (decide (4 + 4 ≤ B.size))]) rfl) rfl (by decide) (cok1 trivial) ?_
  refine dv (gyes_none rfl) (q_extract (v := .int .u64 ((atV B 4 4 : Nat) : Int)) rfl rfl) rfl (by decide) (cok1 trivial) ?_
  refine dvb (gyes_none rfl) (q_extract (v := .bool (decide (4 + 4 ≤ B.size))) rfl rfl) rfl (by decide) (cok1 trivial) (fun c1 => ?_) (fun c1 => ?_)
  ·
    replace c1 := of_decide_eq_true c1
    refine dv (gyes_none rfl) (q_as (v := .int .u64 ((atV B 4 4 : Nat) : Int)) rfl) rfl (by decide) (cok1 trivial) ?_
    refine dv (gyes_none rfl) (q_as (v := .bool true) rfl) rfl (by decide) (cok1 trivial) ?_
    refine ⟨_, Wk.refl _ _, ?_⟩
    show awp _ _ _ _ _ _ _
    refine awp_seq ?_
    refine awp_block ?_
    refine awp_seq ?_
    refine awp_regs hF ?_
    refine dv (gyes_none rfl) (q_mv (v := .bool true) rfl) rfl (by decide) (cok1 trivial) ?_
    refine dv (gyes_none rfl) (q_not (b := true) rfl) rfl (by decide) (cok1 trivial) ?_
    refine dv (gyes_none rfl) (q_as (v := .bool false) rfl) rfl (by decide) (cok1 trivial) ?_
    refine ⟨_, Wk.refl _ _, ?_⟩
    show awp _ _ _ _ _ _ _
    refine awp_cond_f rfl ?_
    refine awp_seq ?_
    refine awp_regs hF ?_
    refine dv (gyes_none rfl) (q_mv (v := .int .u64 ((atV B 0 4 : Nat) : Int)) rfl) rfl (by decide) (cok1 trivial) ?_
    refine dvb (gyes_none rfl) (q_int rfl rfl rfl) rfl (by decide) (cok2 trivial (cconst rfl)) (fun c2 => ?_) (fun c2 => ?_)
    ·
      replace c2 := eq_of_beq c2
      refine dv (gyes_none rfl) (q_as (v := .bool true) rfl) rfl (by decide) (cok1 trivial) ?_
      refine ⟨_, Wk.refl _ _, ?_⟩
      show awp _ _ _ _ _ _ _
      refine awp_cond_t rfl ?_
      refine awp_seq ?_
      refine awp_regs hF ?_
      refine dv (gyes_none rfl) (q_buildL (ds := [.slice none 0 0, .slice none 0 0]) [(0, 1), (1, 1)] [] Try.underlying26 Try.zeroValue26 (by first | exact flat_agg rfl | exact flat_scalar rfl) (by kernel_rfl) trivial lvs0 rfl) rfl (by decide) (by simp [Op.operands]) ?_
      refine dv (gyes_none rfl) (q_call0 Try.call24 rfl (failOf_ok 4)) rfl (by decide) (cok2 trivial (cconst rfl)) ?_
      refine x_store [] hF s7 (by kernel_rfl) (gyes_none rfl) (j := 1) (v := .agg #[.slice none 0 0, .slice none 0 0]) rfl Try.sizeOf26 rfl rfl rfl rfl rfl trivial (lcsA ⟨(lc_scalar rfl), (lc_scalar rfl), trivial⟩) (Nat.le_of_ble_eq_true rfl) trivial trivial rfl rfl (F' := [(b5, .cells true [.int .i64 0, .int .u64 0, .string ⟨#[]⟩] 3), (b1, .cells true [.slice none 0 0, .slice none 0 0] 2)]) rfl (fun H9 s10 => ⟨?_, ?_⟩)
      · exact trivial
      refine x_store [] hF s10 (by kernel_rfl) (gyes_none rfl) (j := 0) (v := .agg #[.int .i64 4, .int .u64 0, .string (⟨#[]⟩ : ByteArray)]) rfl Try.sizeOf44 rfl rfl rfl rfl rfl trivial (lcsA ⟨(lc_scalar rfl), (lc_scalar rfl), (lc_scalar rfl), trivial⟩) (Nat.le_of_ble_eq_true rfl) trivial trivial rfl rfl (F' := [(b5, .cells true [.int .i64 4, .int .u64 0, .string (⟨#[]⟩ : ByteArray)] 3), (b1, .cells true [.slice none 0 0, .slice none 0 0] 2)]) rfl (fun H11 s12 => ⟨?_, ?_⟩)
      · exact trivial
      refine ⟨_, Wk.refl _ _, ?_⟩
      show awp _ _ _ _ _ _ _
      refine awp_ret_wk ?_
      obtain ⟨e1, e2⟩ := sy_zero (B := B) (by omega) (by omega)
      refine ⟨_, Wk.refl _ _, ?_⟩
      repeat (with_reducible first | refine then_ret ?_ | refine blk_ret ?_ | refine then_exit ?_ | refine blk_exit ?_ | refine blk_exit' (by decide) ?_ | refine blk_normal ?_ | refine then_normal ?_ | refine retq_ret ?_ | refine retq_normal ?_ | refine ng_normal ?_ | refine ng_ret ?_ | refine ng_exit ?_)
      refine ret_is (v := .tuple #[.agg #[.slice none 0 0, .slice none 0 0], .agg #[.int .i64 4, .int .u64 0, .string (⟨#[]⟩ : ByteArray)]]) rfl (.agg rfl Try.isAgg26 Try.sizeOf26 (s12.rd (j := 1) rfl) (Nat.le_of_ble_eq_true rfl) rfl (.agg rfl Try.isAgg44 Try.sizeOf44 (s12.rd (j := 0) rfl) (Nat.le_of_ble_eq_true rfl) rfl .nil)) rfl ?_
      exact .inl ⟨by rw [e1]; decide, by rw [e1, e2]; first | done | rfl | (rw [Nat.mul_comm 4 i]; rfl), s12.kp⟩
    ·
      replace c2 := ne_of_beq_false c2
      refine dv (gyes_none rfl) (q_as (v := .bool false) rfl) rfl (by decide) (cok1 trivial) ?_
      refine ⟨_, Wk.refl _ _, ?_⟩
      show awp _ _ _ _ _ _ _
      refine awp_cond_f rfl ?_
      refine awp_seq ?_
      refine awp_regs hF ?_
      refine dv (gyes_none rfl) (q_mv (v := .int .u64 ((atV B 0 4 : Nat) : Int)) rfl) rfl (by decide) (cok1 trivial) ?_
      refine dvb (gyes_none rfl) (q_int rfl rfl rfl) rfl (by decide) (cok2 trivial (cconst rfl)) (fun c3 => ?_) (fun c3 => ?_)
      ·
        replace c3 := of_decide_eq_true c3
        refine dv (gyes_none rfl) (q_mv (v := .bool true) rfl) rfl (by decide) (cok1 trivial) ?_
        refine dno rfl (.inl rfl) rfl (by decide) ?_
        refine dno rfl (.inl rfl) rfl (by decide) ?_
        refine dv (gyes_none rfl) (q_pt (v := .bool true) rfl rfl) rfl (by decide) (call_ok rfl) ?_
        refine dv (gyes_none rfl) (q_as (v := .bool true) rfl) rfl (by decide) (cok1 trivial) ?_
        refine ⟨_, Wk.refl _ _, ?_⟩
        show awp _ _ _ _ _ _ _
        refine awp_cond_t rfl ?_
        refine awp_seq ?_
        refine awp_regs hF ?_
        refine dv (gyes_none rfl) (q_buildL (ds := [.slice none 0 0, .slice none 0 0]) [(0, 1), (1, 1)] [] Try.underlying26 Try.zeroValue26 (by first | exact flat_agg rfl | exact flat_scalar rfl) (by kernel_rfl) trivial lvs0 rfl) rfl (by decide) (by simp [Op.operands]) ?_
        refine dv (gyes_none rfl) (q_call0 Try.call24 rfl (failOf_ok 6)) rfl (by decide) (cok2 trivial (cconst rfl)) ?_
        refine x_store [] hF s7 (by kernel_rfl) (gyes_none rfl) (j := 1) (v := .agg #[.slice none 0 0, .slice none 0 0]) rfl Try.sizeOf26 rfl rfl rfl rfl rfl trivial (lcsA ⟨(lc_scalar rfl), (lc_scalar rfl), trivial⟩) (Nat.le_of_ble_eq_true rfl) trivial trivial rfl rfl (F' := [(b5, .cells true [.int .i64 0, .int .u64 0, .string ⟨#[]⟩] 3), (b1, .cells true [.slice none 0 0, .slice none 0 0] 2)]) rfl (fun H13 s14 => ⟨?_, ?_⟩)
        · exact trivial
        refine x_store [] hF s14 (by kernel_rfl) (gyes_none rfl) (j := 0) (v := .agg #[.int .i64 6, .int .u64 0, .string (⟨#[]⟩ : ByteArray)]) rfl Try.sizeOf44 rfl rfl rfl rfl rfl trivial (lcsA ⟨(lc_scalar rfl), (lc_scalar rfl), (lc_scalar rfl), trivial⟩) (Nat.le_of_ble_eq_true rfl) trivial trivial rfl rfl (F' := [(b5, .cells true [.int .i64 6, .int .u64 0, .string (⟨#[]⟩ : ByteArray)] 3), (b1, .cells true [.slice none 0 0, .slice none 0 0] 2)]) rfl (fun H15 s16 => ⟨?_, ?_⟩)
        · exact trivial
        refine ⟨_, Wk.refl _ _, ?_⟩
        show awp _ _ _ _ _ _ _
        refine awp_ret_wk ?_
        obtain ⟨e1, e2⟩ := sy_many (B := B) (by omega) (by omega) (by omega)
        refine ⟨_, Wk.refl _ _, ?_⟩
        repeat (with_reducible first | refine then_ret ?_ | refine blk_ret ?_ | refine then_exit ?_ | refine blk_exit ?_ | refine blk_exit' (by decide) ?_ | refine blk_normal ?_ | refine then_normal ?_ | refine retq_ret ?_ | refine retq_normal ?_ | refine ng_normal ?_ | refine ng_ret ?_ | refine ng_exit ?_)
        refine ret_is (v := .tuple #[.agg #[.slice none 0 0, .slice none 0 0], .agg #[.int .i64 6, .int .u64 0, .string (⟨#[]⟩ : ByteArray)]]) rfl (.agg rfl Try.isAgg26 Try.sizeOf26 (s16.rd (j := 1) rfl) (Nat.le_of_ble_eq_true rfl) rfl (.agg rfl Try.isAgg44 Try.sizeOf44 (s16.rd (j := 0) rfl) (Nat.le_of_ble_eq_true rfl) rfl .nil)) rfl ?_
        exact .inl ⟨by rw [e1]; decide, by rw [e1, e2]; first | done | rfl | (rw [Nat.mul_comm 4 i]; rfl), s16.kp⟩
      ·
        replace c3 := of_decide_eq_false c3
        refine dv (gyes_none rfl) (q_mv (v := .bool false) rfl) rfl (by decide) (cok1 trivial) ?_
        refine dv (gyes_some rfl rfl) (q_mv (v := .int .u64 ((atV B 4 4 : Nat) : Int)) rfl) rfl (by decide) (cok1 trivial) ?_
        refine dvb (gyes_some rfl rfl) (q_int rfl rfl rfl) rfl (by decide) (cok2 trivial (cconst rfl)) (fun c4 => ?_) (fun c4 => ?_)
        ·
          replace c4 := of_decide_eq_true c4
          refine dv (gyes_none rfl) (q_pf (v := .bool true) rfl rfl) rfl (by decide) (call_ok rfl) ?_
          refine dv (gyes_none rfl) (q_as (v := .bool true) rfl) rfl (by decide) (cok1 trivial) ?_
          refine ⟨_, Wk.refl _ _, ?_⟩
          show awp _ _ _ _ _ _ _
          refine awp_cond_t rfl ?_
          refine awp_seq ?_
          refine awp_regs hF ?_
          refine dv (gyes_none rfl) (q_buildL (ds := [.slice none 0 0, .slice none 0 0]) [(0, 1), (1, 1)] [] Try.underlying26 Try.zeroValue26 (by first | exact flat_agg rfl | exact flat_scalar rfl) (by kernel_rfl) trivial lvs0 rfl) rfl (by decide) (by simp [Op.operands]) ?_
          refine dv (gyes_none rfl) (q_call0 Try.call24 rfl (failOf_ok 6)) rfl (by decide) (cok2 trivial (cconst rfl)) ?_
          refine x_store [] hF s7 (by kernel_rfl) (gyes_none rfl) (j := 1) (v := .agg #[.slice none 0 0, .slice none 0 0]) rfl Try.sizeOf26 rfl rfl rfl rfl rfl trivial (lcsA ⟨(lc_scalar rfl), (lc_scalar rfl), trivial⟩) (Nat.le_of_ble_eq_true rfl) trivial trivial rfl rfl (F' := [(b5, .cells true [.int .i64 0, .int .u64 0, .string ⟨#[]⟩] 3), (b1, .cells true [.slice none 0 0, .slice none 0 0] 2)]) rfl (fun H17 s18 => ⟨?_, ?_⟩)
          · exact trivial
          refine x_store [] hF s18 (by kernel_rfl) (gyes_none rfl) (j := 0) (v := .agg #[.int .i64 6, .int .u64 0, .string (⟨#[]⟩ : ByteArray)]) rfl Try.sizeOf44 rfl rfl rfl rfl rfl trivial (lcsA ⟨(lc_scalar rfl), (lc_scalar rfl), (lc_scalar rfl), trivial⟩) (Nat.le_of_ble_eq_true rfl) trivial trivial rfl rfl (F' := [(b5, .cells true [.int .i64 6, .int .u64 0, .string (⟨#[]⟩ : ByteArray)] 3), (b1, .cells true [.slice none 0 0, .slice none 0 0] 2)]) rfl (fun H19 s20 => ⟨?_, ?_⟩)
          · exact trivial
          refine ⟨_, Wk.refl _ _, ?_⟩
          show awp _ _ _ _ _ _ _
          refine awp_ret_wk ?_
          obtain ⟨e1, e2⟩ := sy_many (B := B) (by omega) (by omega) (by omega)
          refine ⟨_, Wk.refl _ _, ?_⟩
          repeat (with_reducible first | refine then_ret ?_ | refine blk_ret ?_ | refine then_exit ?_ | refine blk_exit ?_ | refine blk_exit' (by decide) ?_ | refine blk_normal ?_ | refine then_normal ?_ | refine retq_ret ?_ | refine retq_normal ?_ | refine ng_normal ?_ | refine ng_ret ?_ | refine ng_exit ?_)
          refine ret_is (v := .tuple #[.agg #[.slice none 0 0, .slice none 0 0], .agg #[.int .i64 6, .int .u64 0, .string (⟨#[]⟩ : ByteArray)]]) rfl (.agg rfl Try.isAgg26 Try.sizeOf26 (s20.rd (j := 1) rfl) (Nat.le_of_ble_eq_true rfl) rfl (.agg rfl Try.isAgg44 Try.sizeOf44 (s20.rd (j := 0) rfl) (Nat.le_of_ble_eq_true rfl) rfl .nil)) rfl ?_
          exact .inl ⟨by rw [e1]; decide, by rw [e1, e2]; first | done | rfl | (rw [Nat.mul_comm 4 i]; rfl), s20.kp⟩
        ·
          replace c4 := of_decide_eq_false c4
          refine dv (gyes_none rfl) (q_pf (v := .bool false) rfl rfl) rfl (by decide) (call_ok rfl) ?_
          refine dv (gyes_none rfl) (q_as (v := .bool false) rfl) rfl (by decide) (cok1 trivial) ?_
          refine ⟨_, Wk.refl _ _, ?_⟩
          show awp _ _ _ _ _ _ _
          refine awp_cond_f rfl ?_
          refine awp_skip_wk ?_
          refine ⟨_, Wk.refl _ _, ?_⟩
          show awp _ _ _ _ _ _ _
          refine awp_seq ?_
          refine awp_regs hF ?_
          refine dv (gyes_none rfl) (q_mv (v := .string B) rfl) rfl (by decide) (cok1 trivial) ?_
          refine dv (gyes_none rfl) (q_mv (v := .int .u64 ((atV B 0 4 : Nat) : Int)) rfl) rfl (by decide) (cok1 trivial) ?_
          refine dv (gyes_none rfl) (q_mv (v := .int .u64 ((atV B 4 4 : Nat) : Int)) rfl) rfl (by decide) (cok1 trivial) ?_
          refine dv (gyes_none rfl) (OpQ.cast (v' := .int .u64 ((atV B 0 4 + (atV B 4 4) : Nat) : Int)) (q_int rfl rfl rfl) (congrArg _ ((u64_in (by omega)).trans (by first | rfl | omega | (push_cast; rfl))))) rfl (by decide) (cok2 trivial trivial) ?_
          refine dv (gyes_none rfl) (OpQ.cast (v' := .int .u64 (((atV B 0 4 + (atV B 4 4)) * 4 : Nat) : Int)) (q_int rfl rfl rfl) (congrArg _ ((u64_in (by omega)).trans (by first | rfl | omega | (push_cast; rfl))))) rfl (by decide) (cok2 trivial (cconst rfl)) ?_
          refine dv (gyes_none rfl) (q_call0 Try.call25 rfl (part_ok B 8 ((atV B 0 4 + (atV B 4 4)) * 4) (by first | assumption | omega) (by omega) (by omega))) rfl (by decide) (call_ok rfl) ?_
          refine dv (gyes_none rfl) (q_mv (v := .tuple #[.string (partV B 8 ((atV B 0 4 + (atV B 4 4)) * 4)), .bool (decide (8 + (atV B 0 4 + (atV B 4 4)) * 4 ≤ B.size))]) rfl) rfl (by decide) (cok1 trivial) ?_
          refine dv (gyes_none rfl) (q_extract (v := .string (partV B 8 ((atV B 0 4 + (atV B 4 4)) * 4))) rfl rfl) rfl (by decide) (cok1 trivial) ?_
          refine dvb (gyes_none rfl) (q_extract (v := .bool (decide (8 + (atV B 0 4 + (atV B 4 4)) * 4 ≤ B.size))) rfl rfl) rfl (by decide) (cok1 trivial) (fun c5 => ?_) (fun c5 => ?_)
          ·
            replace c5 := of_decide_eq_true c5
            refine dv (gyes_none rfl) (q_as (v := .string (partV B 8 ((atV B 0 4 + (atV B 4 4)) * 4))) rfl) rfl (by decide) (cok1 trivial) ?_
            refine dv (gyes_none rfl) (q_as (v := .bool true) rfl) rfl (by decide) (cok1 trivial) ?_
            refine ⟨_, Wk.refl _ _, ?_⟩
            show awp _ _ _ _ _ _ _
            refine awp_seq ?_
            refine awp_seq ?_
            refine awp_regs hF ?_
            refine dv (gyes_none rfl) (q_mv (v := .bool true) rfl) rfl (by decide) (cok1 trivial) ?_
            refine dv (gyes_none rfl) (q_not (b := true) rfl) rfl (by decide) (cok1 trivial) ?_
            refine ⟨_, Wk.refl _ _, ?_⟩
            show awp _ _ _ _ _ _ _
            refine awp_cond_f rfl ?_
            refine awp_skip_wk ?_
            refine ⟨_, Wk.refl _ _, ?_⟩
            show awp _ _ _ _ _ _ _
            refine awp_seq ?_
            refine awp_regs hF ?_
            refine dv (gyes_none rfl) (q_mv (v := .string (partV B 8 ((atV B 0 4 + (atV B 4 4)) * 4))) rfl) rfl (by decide) (cok1 trivial) ?_
            refine x_new (fun b => .slice (some ⟨b, 0, none⟩) (numL (partV B 8 ((atV B 0 4 + (atV B 4 4)) * 4))).length (numL (partV B 8 ((atV B 0 4 + (atV B 4 4)) * 4))).length) s7 (gyes_none rfl) (q_call (Δ := [.cells true ((numL (partV B 8 ((atV B 0 4 + (atV B 4 4)) * 4))).map u32v) 1]) Try.call26 rfl (by simp [AObj.wr]) (acalls_fresh u32v_sc (numbers_ok (partV B 8 ((atV B 0 4 + (atV B 4 4)) * 4)) (by rw [partV_in (by omega), size_extract (by omega)]; omega)))) rfl (by decide) (cok2 trivial trivial) (fun b21 H22 hb24 s23 => ?_)
            refine dv (gyes_none rfl) (q_as (v := .slice (some ⟨b21, 0, none⟩) ((numL (partV B 8 ((atV B 0 4 + (atV B 4 4)) * 4))).length) ((numL (partV B 8 ((atV B 0 4 + (atV B 4 4)) * 4))).length)) rfl) rfl (by decide) (cok1 trivial) ?_
            refine ⟨_, Wk.refl _ _, ?_⟩
            show awp _ _ _ _ _ _ _
            refine awp_seq ?_
            refine awp_seq ?_
            have hall : numL (partV B 8 ((atV B 0 4 + atV B 4 4) * 4)) = allL B (nmS B) := num_all (by show 8 + (atV B 0 4 + atV B 4 4) * 4 ≤ _; omega)
            have hnmE : nmS B = atV B 0 4 + atV B 4 4 := rfl
            have hln := allL_len B (nmS B)
            rw [hall] at s23
            try rw [hall]
            refine awp_regs hF ?_
            refine dv (gyes_none rfl) (q_mv (v := .slice (some ⟨b21, 0, none⟩) ((allL B (nmS B)).length) ((allL B (nmS B)).length)) rfl) rfl (by decide) (cok1 trivial) ?_
            refine dv (gyes_none rfl) (q_len_slice Try.underlying24 rfl (s23.rd (j := 0) rfl)) rfl (by decide) (cok1 trivial) ?_
            refine dv (gyes_none rfl) (q_mv (v := .int .i64 0) rfl) rfl (by decide) (cok1 (cconst rfl)) ?_
            refine ⟨_, Wk.refl _ _, ?_⟩
            show awp _ _ _ _ _ _ _
            refine awp_block ?_
            refine awp_wk (Wk.U [(0, .string B), (2, .pointer (some ⟨b1, 0, none⟩)), (3, .pointer (some ⟨b5, 0, none⟩)), (4, .int .u64 ((atV B 0 4 : Nat) : Int)), (6, .int .u64 ((atV B 4 4 : Nat) : Int)), (9, .slice (some ⟨b21, 0, none⟩) ((allL B (nmS B)).length) ((allL B (nmS B)).length)), (56, .slice (some ⟨b21, 0, none⟩) ((allL B (nmS B)).length) ((allL B (nmS B)).length)), (57, .int .i64 (((allL B (nmS B)).length : Nat) : Int)), (58, .int .i64 0)] ⟨rfl, rfl, rfl, rfl, rfl, rfl, rfl, rfl, rfl, trivial⟩) ?_
            refine awp_loop (fun (i : Nat) st => ∃ (H25 : AHeap), st = ⟨87, U [(0, .string B), (2, .pointer (some ⟨b1, 0, none⟩)), (3, .pointer (some ⟨b5, 0, none⟩)), (4, .int .u64 ((atV B 0 4 : Nat) : Int)), (6, .int .u64 ((atV B 4 4 : Nat) : Int)), (9, .slice (some ⟨b21, 0, none⟩) ((allL B (nmS B)).length) ((allL B (nmS B)).length)), (56, .slice (some ⟨b21, 0, none⟩) ((allL B (nmS B)).length) ((allL B (nmS B)).length)), (57, .int .i64 (((allL B (nmS B)).length : Nat) : Int)), (58, .int .i64 ((i : Nat) : Int))], [], H25⟩ ∧ St H0 (none0) (Rd H0) H25 [(b21, .cells true ((allL B (nmS B)).map u32v) 1), (b5, .cells true [.int .i64 0, .int .u64 0, .string ⟨#[]⟩] 3), (b1, .cells true [.slice none 0 0, .slice none 0 0] 2)] ∧ (∀ j, j < i → badV B j = false)) (fun (i : Nat) => nmS B - i) (x0 := (0)) ?h0 ?round
            case h0 =>
              exact ⟨_, rfl, s23, fun j h => absurd h (Nat.not_lt_zero _)⟩
            case round =>
              rintro i _ ⟨H25, rfl, s26, hi⟩
              refine awp_seq ?_
              refine awp_regs hF ?_
              refine dvb (gyes_none rfl) (q_int rfl rfl rfl) rfl (by decide) (cok2 trivial trivial) (fun c6 => ?_) (fun c6 => ?_)
              ·
                replace c6 := of_decide_eq_true c6
                refine ⟨_, Wk.refl _ _, ?_⟩
                show awp _ _ _ _ _ _ _
                refine awp_seq ?_
                refine awp_cond_t rfl ?_
                refine awp_skip_wk ?_
                refine ⟨_, Wk.refl _ _, ?_⟩
                show awp _ _ _ _ _ _ _
                refine awp_seq ?_
                refine awp_block ?_
                refine awp_seq ?_
                refine awp_regs hF ?_
                refine dv (gyes_none rfl) (q_mv (v := .int .i64 ((i : Nat) : Int)) rfl) rfl (by decide) (cok1 trivial) ?_
                refine dv (gyes_none rfl) (OpQ.cast (v' := .pointer (some ⟨b21, i, none⟩)) (q_index1 (i := i) Try.underlying24 Try.sizeOf31 rfl rfl (by omega) (s26.rd (j := 0) rfl)) (by rw [Nat.zero_add])) rfl (by decide) (cok2 trivial trivial) ?_
                refine dv (gyes_none rfl) (q_load (v := u32v (nth (allL B (nmS B)) i)) Try.isAgg31 rfl (s26.rd (j := 0) rfl) (get_nth (w := 0) (by omega))) rfl (by decide) (cok1 trivial) ?_
                refine dv (gyes_none rfl) (q_as (v := .int .i64 ((i : Nat) : Int)) rfl) rfl (by decide) (cok1 trivial) ?_
                refine dv (gyes_none rfl) (q_as (v := .int .u32 ((nth (allL B (nmS B)) i : Nat) : Int)) rfl) rfl (by decide) (cok1 trivial) ?_
                refine ⟨_, Wk.refl _ _, ?_⟩
                show awp _ _ _ _ _ _ _
                refine awp_seq ?_
                have hv : nth (allL B (nmS B)) i = vN B i := allL_nth (by omega)
                have hvl := vN_lt B i
                rw [← hv] at hvl
                refine awp_regs hF ?_
                refine dv (gyes_none rfl) (q_mv (v := .int .u32 ((nth (allL B (nmS B)) i : Nat) : Int)) rfl) rfl (by decide) (cok1 trivial) ?_
                refine dvb (gyes_none rfl) (q_int rfl rfl rfl) rfl (by decide) (cok2 trivial (cconst rfl)) (fun c7 => ?_) (fun c7 => ?_)
                ·
                  replace c7 := bne_iff_ne.1 c7
                  refine dv (gyes_none rfl) (q_mv (v := .bool true) rfl) rfl (by decide) (cok1 trivial) ?_
                  refine dv (gyes_some rfl rfl) (q_mv (v := .int .u32 ((nth (allL B (nmS B)) i : Nat) : Int)) rfl) rfl (by decide) (cok1 trivial) ?_
                  refine dv (gyes_some rfl rfl) (q_convin (a := ((nth (allL B (nmS B)) i : Nat) : Int)) Try.underlying31 Try.underlying42 rfl (u64_in (by omega))) rfl (by decide) (cok1 trivial) ?_
                  refine dv (gyes_some rfl rfl) (q_mv (v := .int .u64 ((atV B 4 4 : Nat) : Int)) rfl) rfl (by decide) (cok1 trivial) ?_
                  refine dvb (gyes_some rfl rfl) (q_int rfl rfl rfl) rfl (by decide) (cok2 trivial trivial) (fun c8 => ?_) (fun c8 => ?_)
                  ·
                    replace c8 := of_decide_eq_true c8
                    refine dv (gyes_none rfl) (q_pt (v := .bool true) rfl rfl) rfl (by decide) (call_ok rfl) ?_
                    refine ⟨_, Wk.refl _ _, ?_⟩
                    show awp _ _ _ _ _ _ _
                    refine awp_cond_t rfl ?_
                    refine awp_seq ?_
                    refine awp_regs hF ?_
                    refine dv (gyes_none rfl) (q_buildL (ds := [.slice none 0 0, .slice none 0 0]) [(0, 1), (1, 1)] [] Try.underlying26 Try.zeroValue26 (by first | exact flat_agg rfl | exact flat_scalar rfl) (by kernel_rfl) trivial lvs0 rfl) rfl (by decide) (by simp [Op.operands]) ?_
                    refine dv (gyes_none rfl) (q_mv (v := .int .i64 ((i : Nat) : Int)) rfl) rfl (by decide) (cok1 trivial) ?_
                    refine dv (gyes_none rfl) (q_convin (a := ((i : Nat) : Int)) Try.underlying3 Try.underlying42 rfl (u64_in (by omega))) rfl (by decide) (cok1 trivial) ?_
                    refine dv (gyes_none rfl) (OpQ.cast (v' := .int .u64 ((i * 4 : Nat) : Int)) (q_int rfl rfl rfl) (congrArg _ ((u64_in (by omega)).trans (by first | rfl | omega | (push_cast; rfl))))) rfl (by decide) (cok2 trivial (cconst rfl)) ?_
                    refine dv (gyes_none rfl) (OpQ.cast (v' := .int .u64 ((8 + (i * 4) : Nat) : Int)) (q_int rfl rfl rfl) (congrArg _ ((u64_in (by omega)).trans (by first | rfl | omega | (push_cast; rfl))))) rfl (by decide) (cok2 (cconst rfl) trivial) ?_
                    refine dv (gyes_none rfl) (q_call0 Try.call27 rfl (failAt_ok 5 (8 + (i * 4)))) rfl (by decide) (call_ok rfl) ?_
                    refine x_store [] hF s26 (by kernel_rfl) (gyes_none rfl) (j := 2) (v := .agg #[.slice none 0 0, .slice none 0 0]) rfl Try.sizeOf26 rfl rfl rfl rfl rfl trivial (lcsA ⟨(lc_scalar rfl), (lc_scalar rfl), trivial⟩) (Nat.le_of_ble_eq_true rfl) trivial trivial rfl rfl (F' := [(b21, .cells true ((allL B (nmS B)).map u32v) 1), (b5, .cells true [.int .i64 0, .int .u64 0, .string ⟨#[]⟩] 3), (b1, .cells true [.slice none 0 0, .slice none 0 0] 2)]) rfl (fun H27 s28 => ⟨?_, ?_⟩)
                    · exact trivial
                    refine x_store [] hF s28 (by kernel_rfl) (gyes_none rfl) (j := 1) (v := .agg #[.int .i64 5, .int .u64 ((8 + (i * 4) : Nat) : Int), .string (⟨#[]⟩ : ByteArray)]) rfl Try.sizeOf44 rfl rfl rfl rfl rfl trivial (lcsA ⟨(lc_scalar rfl), (lc_scalar rfl), (lc_scalar rfl), trivial⟩) (Nat.le_of_ble_eq_true rfl) trivial trivial rfl rfl (F' := [(b21, .cells true ((allL B (nmS B)).map u32v) 1), (b5, .cells true [.int .i64 5, .int .u64 ((8 + (i * 4) : Nat) : Int), .string (⟨#[]⟩ : ByteArray)] 3), (b1, .cells true [.slice none 0 0, .slice none 0 0] 2)]) rfl (fun H29 s30 => ⟨?_, ?_⟩)
                    · exact trivial
                    refine ⟨_, Wk.refl _ _, ?_⟩
                    show awp _ _ _ _ _ _ _
                    refine awp_ret_wk ?_
                    obtain ⟨e1, e2⟩ := sy_bad (B := B) (i := i) (by omega) (by omega) (by omega) (by show 8 + (atV B 0 4 + atV B 4 4) * 4 ≤ _; omega) (by omega) (badV_y (by rw [← hv]; omega) (by rw [← hv]; omega)) hi
                    refine ⟨_, Wk.refl _ _, ?_⟩
                    repeat (with_reducible first | refine then_ret ?_ | refine blk_ret ?_ | refine then_exit ?_ | refine blk_exit ?_ | refine blk_exit' (by decide) ?_ | refine blk_normal ?_ | refine then_normal ?_ | refine retq_ret ?_ | refine retq_normal ?_ | refine ng_normal ?_ | refine ng_ret ?_ | refine ng_exit ?_)
                    refine ret_is (v := .tuple #[.agg #[.slice none 0 0, .slice none 0 0], .agg #[.int .i64 5, .int .u64 ((8 + (i * 4) : Nat) : Int), .string (⟨#[]⟩ : ByteArray)]]) rfl (.agg rfl Try.isAgg26 Try.sizeOf26 (s30.rd (j := 2) rfl) (Nat.le_of_ble_eq_true rfl) rfl (.agg rfl Try.isAgg44 Try.sizeOf44 (s30.rd (j := 1) rfl) (Nat.le_of_ble_eq_true rfl) rfl .nil)) rfl ?_
                    exact .inl ⟨by rw [e1]; decide, by rw [e1, e2]; first | done | rfl | (rw [Nat.mul_comm 4 i]; rfl), s30.kp⟩
                  ·
                    replace c8 := of_decide_eq_false c8
                    refine dv (gyes_none rfl) (q_pt (v := .bool false) rfl rfl) rfl (by decide) (call_ok rfl) ?_
                    refine ⟨_, Wk.refl _ _, ?_⟩
                    show awp _ _ _ _ _ _ _
                    refine awp_cond_f rfl ?_
                    refine awp_skip_wk ?_
                    refine ⟨_, Wk.refl _ _, ?_⟩
                    show awp _ _ _ _ _ _ _
                    refine awp_regs hF ?_
                    refine dv (gyes_none rfl) (OpQ.cast (v' := .int .i64 ((i + 1 : Nat) : Int)) (q_int rfl rfl rfl) (congrArg _ ((i64_in (by omega)).trans (by first | rfl | omega | (push_cast; rfl))))) rfl (by decide) (cok2 trivial (cconst rfl)) ?_
                    refine dv (gyes_none rfl) (q_mv (v := .int .i64 ((i + 1 : Nat) : Int)) rfl) rfl (by decide) (cok1 trivial) ?_
                    refine ⟨_, Wk.U [(0, .string B), (2, .pointer (some ⟨b1, 0, none⟩)), (3, .pointer (some ⟨b5, 0, none⟩)), (4, .int .u64 ((atV B 0 4 : Nat) : Int)), (6, .int .u64 ((atV B 4 4 : Nat) : Int)), (9, .slice (some ⟨b21, 0, none⟩) ((allL B (nmS B)).length) ((allL B (nmS B)).length)), (56, .slice (some ⟨b21, 0, none⟩) ((allL B (nmS B)).length) ((allL B (nmS B)).length)), (57, .int .i64 (((allL B (nmS B)).length : Nat) : Int)), (58, .int .i64 (((i + 1) : Nat) : Int))] ⟨rfl, rfl, rfl, rfl, rfl, rfl, rfl, rfl, rfl, trivial⟩, (i + 1), ⟨_, rfl, s26, lt_succ_casesN hi (badV_n (by rw [← hv]; omega))⟩, (by omega)⟩
                ·
                  replace c7 := bne_eq_false_iff_eq.1 c7
                  refine dv (gyes_none rfl) (q_mv (v := .bool false) rfl) rfl (by decide) (cok1 trivial) ?_
                  refine dno rfl (.inl rfl) rfl (by decide) ?_
                  refine dno rfl (.inl rfl) rfl (by decide) ?_
                  refine dno rfl (.inl rfl) rfl (by decide) ?_
                  refine dno rfl (.inl rfl) rfl (by decide) ?_
                  refine dv (gyes_none rfl) (q_pf (v := .bool false) rfl rfl) rfl (by decide) (call_ok rfl) ?_
                  refine ⟨_, Wk.refl _ _, ?_⟩
                  show awp _ _ _ _ _ _ _
                  refine awp_cond_f rfl ?_
                  refine awp_skip_wk ?_
                  refine ⟨_, Wk.refl _ _, ?_⟩
                  show awp _ _ _ _ _ _ _
                  refine awp_regs hF ?_
                  refine dv (gyes_none rfl) (OpQ.cast (v' := .int .i64 ((i + 1 : Nat) : Int)) (q_int rfl rfl rfl) (congrArg _ ((i64_in (by omega)).trans (by first | rfl | omega | (push_cast; rfl))))) rfl (by decide) (cok2 trivial (cconst rfl)) ?_
                  refine dv (gyes_none rfl) (q_mv (v := .int .i64 ((i + 1 : Nat) : Int)) rfl) rfl (by decide) (cok1 trivial) ?_
                  refine ⟨_, Wk.U [(0, .string B), (2, .pointer (some ⟨b1, 0, none⟩)), (3, .pointer (some ⟨b5, 0, none⟩)), (4, .int .u64 ((atV B 0 4 : Nat) : Int)), (6, .int .u64 ((atV B 4 4 : Nat) : Int)), (9, .slice (some ⟨b21, 0, none⟩) ((allL B (nmS B)).length) ((allL B (nmS B)).length)), (56, .slice (some ⟨b21, 0, none⟩) ((allL B (nmS B)).length) ((allL B (nmS B)).length)), (57, .int .i64 (((allL B (nmS B)).length : Nat) : Int)), (58, .int .i64 (((i + 1) : Nat) : Int))] ⟨rfl, rfl, rfl, rfl, rfl, rfl, rfl, rfl, rfl, trivial⟩, (i + 1), ⟨_, rfl, s26, lt_succ_casesN hi (badV_n (by rw [← hv]; omega))⟩, (by omega)⟩
              ·
                replace c6 := of_decide_eq_false c6
                refine ⟨_, Wk.refl _ _, ?_⟩
                show awp _ _ _ _ _ _ _
                refine awp_seq ?_
                refine awp_cond_f rfl ?_
                refine awp_exit_wk ?_
                refine ⟨_, Wk.refl _ _, ?_⟩
                show awp _ _ _ _ _ _ _
                refine awp_seq ?_
                refine awp_regt hF hM (by kernel_rfl) (by kernel_rfl) ?_
                refine dv (gyes_none rfl) (q_mv (v := .slice (some ⟨b21, 0, none⟩) ((allL B (nmS B)).length) ((allL B (nmS B)).length)) rfl) rfl (by decide) (cok1 trivial) ?_
                refine dv (gyes_none rfl) (q_mv (v := .int .u64 ((atV B 0 4 : Nat) : Int)) rfl) rfl (by decide) (cok1 trivial) ?_
                refine dv (gyes_none rfl) (q_mv (v := .int .u64 ((atV B 0 4 : Nat) : Int)) rfl) rfl (by decide) (cok1 trivial) ?_
                refine dv (gyes_none rfl) (OpQ.cast (v' := .slice (some ⟨b21, 0, none⟩) (atV B 0 4) (atV B 0 4)) (q_slice (i := 0) (j := (atV B 0 4)) (m := (atV B 0 4)) Try.underlying24 Try.sizeOf31 rfl (s26.rd (j := 0) rfl) rfl ⟨_, rfl⟩ ⟨_, rfl⟩ (by omega) (by omega) (by omega)) (by simp)) rfl (by decide) (call_ok rfl) ?_
                refine dv (gyes_none rfl) (q_mv (v := .slice (some ⟨b21, 0, none⟩) ((allL B (nmS B)).length) ((allL B (nmS B)).length)) rfl) rfl (by decide) (cok1 trivial) ?_
                refine dv (gyes_none rfl) (q_mv (v := .int .u64 ((atV B 0 4 : Nat) : Int)) rfl) rfl (by decide) (cok1 trivial) ?_
                refine dv (gyes_none rfl) (OpQ.cast (v' := .slice (some ⟨b21, atV B 0 4, none⟩) (((allL B (nmS B)).length) - (atV B 0 4)) (((allL B (nmS B)).length) - (atV B 0 4))) (q_slice (i := (atV B 0 4)) (j := ((allL B (nmS B)).length)) (m := ((allL B (nmS B)).length)) Try.underlying24 Try.sizeOf31 rfl (s26.rd (j := 0) rfl) ⟨_, rfl⟩ ⟨rfl, rfl⟩ rfl (by omega) (by omega) (by omega)) (by simp)) rfl (by decide) (cok2 trivial trivial) ?_
                refine dv (gyes_none rfl) (q_buildL (ds := [.slice (some ⟨b21, 0, none⟩) (atV B 0 4) (atV B 0 4), .slice (some ⟨b21, atV B 0 4, none⟩) (((allL B (nmS B)).length) - (atV B 0 4)) (((allL B (nmS B)).length) - (atV B 0 4))]) [(0, 1), (1, 1)] [.slice (some ⟨b21, 0, none⟩) (atV B 0 4) (atV B 0 4), .slice (some ⟨b21, atV B 0 4, none⟩) (((allL B (nmS B)).length) - (atV B 0 4)) (((allL B (nmS B)).length) - (atV B 0 4))] Try.underlying26 Try.zeroValue26 (by first | exact flat_agg rfl | exact flat_scalar rfl) (by kernel_rfl) ⟨rfl, rfl, trivial⟩ (lvsC (s26.live (j := 0) rfl) (lvsC (s26.live (j := 0) rfl) lvs0)) rfl) rfl (by decide) (cok2 trivial trivial) ?_
                refine dv (gyes_none rfl) (q_buildL (ds := [.int .i64 0, .int .u64 0, .string ⟨#[]⟩]) [(0, 1), (1, 1), (2, 1)] [] Try.underlying44 Try.zeroValue44 (by first | exact flat_agg rfl | exact flat_scalar rfl) (by kernel_rfl) trivial lvs0 rfl) rfl (by decide) (by simp [Op.operands]) ?_
                refine x_store [8] hF s26 (by kernel_rfl) (gyes_none rfl) (j := 2) (v := .agg #[.slice (some ⟨b21, 0, none⟩) (atV B 0 4) (atV B 0 4), .slice (some ⟨b21, atV B 0 4, none⟩) (((allL B (nmS B)).length) - (atV B 0 4)) (((allL B (nmS B)).length) - (atV B 0 4))]) rfl Try.sizeOf26 rfl rfl rfl rfl rfl trivial (lcsA ⟨(lc_slice (s26.live (j := 0) rfl)), (lc_slice (s26.live (j := 0) rfl)), trivial⟩) (Nat.le_of_ble_eq_true rfl) trivial trivial rfl rfl (F' := [(b21, .cells true ((allL B (nmS B)).map u32v) 1), (b5, .cells true [.int .i64 0, .int .u64 0, .string ⟨#[]⟩] 3), (b1, .cells true [.slice (some ⟨b21, 0, none⟩) (atV B 0 4) (atV B 0 4), .slice (some ⟨b21, atV B 0 4, none⟩) (((allL B (nmS B)).length) - (atV B 0 4)) (((allL B (nmS B)).length) - (atV B 0 4))] 2)]) rfl (fun H31 s32 => ⟨?_, ?_⟩)
                · exact ⟨pend_yes rfl (gyes_none rfl) (q_buildL (ds := [.int .i64 0, .int .u64 0, .string ⟨#[]⟩]) [(0, 1), (1, 1), (2, 1)] [] Try.underlying44 Try.zeroValue44 (by first | exact flat_agg rfl | exact flat_scalar rfl) (by kernel_rfl) trivial lvs0 rfl) rfl (by decide) (by simp [Op.operands]) rfl, trivial⟩
                refine x_store [] hF s32 (by kernel_rfl) (gyes_none rfl) (j := 1) (v := .agg #[.int .i64 0, .int .u64 0, .string ⟨#[]⟩]) rfl Try.sizeOf44 rfl rfl rfl rfl rfl trivial (lcsA ⟨(lc_scalar rfl), (lc_scalar rfl), (lc_scalar rfl), trivial⟩) (Nat.le_of_ble_eq_true rfl) trivial trivial rfl rfl (F' := [(b21, .cells true ((allL B (nmS B)).map u32v) 1), (b5, .cells true [.int .i64 0, .int .u64 0, .string ⟨#[]⟩] 3), (b1, .cells true [.slice (some ⟨b21, 0, none⟩) (atV B 0 4) (atV B 0 4), .slice (some ⟨b21, atV B 0 4, none⟩) (((allL B (nmS B)).length) - (atV B 0 4)) (((allL B (nmS B)).length) - (atV B 0 4))] 2)]) rfl (fun H33 s34 => ⟨?_, ?_⟩)
                · exact trivial
                refine ⟨_, Wk.refl _ _, ?_⟩
                show awp _ _ _ _ _ _ _
                refine awp_ret_wk ?_
                obtain ⟨e1, e2⟩ := sy_good (B := B) (by omega) (by omega) (by omega) (by show 8 + (atV B 0 4 + atV B 4 4) * 4 ≤ _; omega) (fun j hj => hi j (by omega))
                refine ⟨_, Wk.refl _ _, ?_⟩
                repeat (with_reducible first | refine then_ret ?_ | refine blk_ret ?_ | refine then_exit ?_ | refine blk_exit ?_ | refine blk_exit' (by decide) ?_ | refine blk_normal ?_ | refine then_normal ?_ | refine retq_ret ?_ | refine retq_normal ?_ | refine ng_normal ?_ | refine ng_ret ?_ | refine ng_exit ?_)
                refine ret_is (v := .tuple #[.agg #[.slice (some ⟨b21, 0, none⟩) (atV B 0 4) (atV B 0 4), .slice (some ⟨b21, atV B 0 4, none⟩) (((allL B (nmS B)).length) - (atV B 0 4)) (((allL B (nmS B)).length) - (atV B 0 4))], .agg #[.int .i64 0, .int .u64 0, .string ⟨#[]⟩]]) rfl (.agg rfl Try.isAgg26 Try.sizeOf26 (s34.rd (j := 2) rfl) (Nat.le_of_ble_eq_true rfl) rfl (.agg rfl Try.isAgg44 Try.sizeOf44 (s34.rd (j := 1) rfl) (Nat.le_of_ble_eq_true rfl) rfl .nil)) rfl ?_
                exact .inr ⟨e1, _, s34.kp, s34.out (j := 0) rfl, rfl, s34.getj (j := 0) rfl⟩
          ·
            replace c5 := of_decide_eq_false c5
            refine dv (gyes_none rfl) (q_as (v := .string (partV B 8 ((atV B 0 4 + (atV B 4 4)) * 4))) rfl) rfl (by decide) (cok1 trivial) ?_
            refine dv (gyes_none rfl) (q_as (v := .bool false) rfl) rfl (by decide) (cok1 trivial) ?_
            refine ⟨_, Wk.refl _ _, ?_⟩
            show awp _ _ _ _ _ _ _
            refine awp_seq ?_
            refine awp_seq ?_
            refine awp_regs hF ?_
            refine dv (gyes_none rfl) (q_mv (v := .bool false) rfl) rfl (by decide) (cok1 trivial) ?_
            refine dv (gyes_none rfl) (q_not (b := false) rfl) rfl (by decide) (cok1 trivial) ?_
            refine ⟨_, Wk.refl _ _, ?_⟩
            show awp _ _ _ _ _ _ _
            refine awp_cond_t rfl ?_
            refine awp_seq ?_
            refine awp_regs hF ?_
            refine dv (gyes_none rfl) (q_buildL (ds := [.slice none 0 0, .slice none 0 0]) [(0, 1), (1, 1)] [] Try.underlying26 Try.zeroValue26 (by first | exact flat_agg rfl | exact flat_scalar rfl) (by kernel_rfl) trivial lvs0 rfl) rfl (by decide) (by simp [Op.operands]) ?_
            refine dv (gyes_none rfl) (q_call0 Try.call24 rfl (failOf_ok 2)) rfl (by decide) (cok2 trivial (cconst rfl)) ?_
            refine x_store [] hF s7 (by kernel_rfl) (gyes_none rfl) (j := 1) (v := .agg #[.slice none 0 0, .slice none 0 0]) rfl Try.sizeOf26 rfl rfl rfl rfl rfl trivial (lcsA ⟨(lc_scalar rfl), (lc_scalar rfl), trivial⟩) (Nat.le_of_ble_eq_true rfl) trivial trivial rfl rfl (F' := [(b5, .cells true [.int .i64 0, .int .u64 0, .string ⟨#[]⟩] 3), (b1, .cells true [.slice none 0 0, .slice none 0 0] 2)]) rfl (fun H35 s36 => ⟨?_, ?_⟩)
            · exact trivial
            refine x_store [] hF s36 (by kernel_rfl) (gyes_none rfl) (j := 0) (v := .agg #[.int .i64 2, .int .u64 0, .string (⟨#[]⟩ : ByteArray)]) rfl Try.sizeOf44 rfl rfl rfl rfl rfl trivial (lcsA ⟨(lc_scalar rfl), (lc_scalar rfl), (lc_scalar rfl), trivial⟩) (Nat.le_of_ble_eq_true rfl) trivial trivial rfl rfl (F' := [(b5, .cells true [.int .i64 2, .int .u64 0, .string (⟨#[]⟩ : ByteArray)] 3), (b1, .cells true [.slice none 0 0, .slice none 0 0] 2)]) rfl (fun H37 s38 => ⟨?_, ?_⟩)
            · exact trivial
            refine ⟨_, Wk.refl _ _, ?_⟩
            show awp _ _ _ _ _ _ _
            refine awp_ret_wk ?_
            obtain ⟨e1, e2⟩ := sy_out (B := B) (by omega) (by omega) (by omega) (by show ¬ (8 + (atV B 0 4 + atV B 4 4) * 4 ≤ _); omega)
            refine ⟨_, Wk.refl _ _, ?_⟩
            repeat (with_reducible first | refine then_ret ?_ | refine blk_ret ?_ | refine then_exit ?_ | refine blk_exit ?_ | refine blk_exit' (by decide) ?_ | refine blk_normal ?_ | refine then_normal ?_ | refine retq_ret ?_ | refine retq_normal ?_ | refine ng_normal ?_ | refine ng_ret ?_ | refine ng_exit ?_)
            refine ret_is (v := .tuple #[.agg #[.slice none 0 0, .slice none 0 0], .agg #[.int .i64 2, .int .u64 0, .string (⟨#[]⟩ : ByteArray)]]) rfl (.agg rfl Try.isAgg26 Try.sizeOf26 (s38.rd (j := 1) rfl) (Nat.le_of_ble_eq_true rfl) rfl (.agg rfl Try.isAgg44 Try.sizeOf44 (s38.rd (j := 0) rfl) (Nat.le_of_ble_eq_true rfl) rfl .nil)) rfl ?_
            exact .inl ⟨by rw [e1]; decide, by rw [e1, e2]; first | done | rfl | (rw [Nat.mul_comm 4 i]; rfl), s38.kp⟩
  ·
    replace c1 := of_decide_eq_false c1
    refine dv (gyes_none rfl) (q_as (v := .int .u64 ((atV B 4 4 : Nat) : Int)) rfl) rfl (by decide) (cok1 trivial) ?_
    refine dv (gyes_none rfl) (q_as (v := .bool false) rfl) rfl (by decide) (cok1 trivial) ?_
    refine ⟨_, Wk.refl _ _, ?_⟩
    show awp _ _ _ _ _ _ _
    refine awp_seq ?_
    refine awp_block ?_
    refine awp_seq ?_
    refine awp_regs hF ?_
    refine dv (gyes_none rfl) (q_mv (v := .bool false) rfl) rfl (by decide) (cok1 trivial) ?_
    refine dv (gyes_none rfl) (q_not (b := false) rfl) rfl (by decide) (cok1 trivial) ?_
    refine dv (gyes_none rfl) (q_as (v := .bool true) rfl) rfl (by decide) (cok1 trivial) ?_
    refine ⟨_, Wk.refl _ _, ?_⟩
    show awp _ _ _ _ _ _ _
    refine awp_cond_t rfl ?_
    refine awp_seq ?_
    refine awp_regs hF ?_
    refine dv (gyes_none rfl) (q_buildL (ds := [.slice none 0 0, .slice none 0 0]) [(0, 1), (1, 1)] [] Try.underlying26 Try.zeroValue26 (by first | exact flat_agg rfl | exact flat_scalar rfl) (by kernel_rfl) trivial lvs0 rfl) rfl (by decide) (by simp [Op.operands]) ?_
    refine dv (gyes_none rfl) (q_call0 Try.call24 rfl (failOf_ok 2)) rfl (by decide) (cok2 trivial (cconst rfl)) ?_
    refine x_store [] hF s7 (by kernel_rfl) (gyes_none rfl) (j := 1) (v := .agg #[.slice none 0 0, .slice none 0 0]) rfl Try.sizeOf26 rfl rfl rfl rfl rfl trivial (lcsA ⟨(lc_scalar rfl), (lc_scalar rfl), trivial⟩) (Nat.le_of_ble_eq_true rfl) trivial trivial rfl rfl (F' := [(b5, .cells true [.int .i64 0, .int .u64 0, .string ⟨#[]⟩] 3), (b1, .cells true [.slice none 0 0, .slice none 0 0] 2)]) rfl (fun H39 s40 => ⟨?_, ?_⟩)
    · exact trivial
    refine x_store [] hF s40 (by kernel_rfl) (gyes_none rfl) (j := 0) (v := .agg #[.int .i64 2, .int .u64 0, .string (⟨#[]⟩ : ByteArray)]) rfl Try.sizeOf44 rfl rfl rfl rfl rfl trivial (lcsA ⟨(lc_scalar rfl), (lc_scalar rfl), (lc_scalar rfl), trivial⟩) (Nat.le_of_ble_eq_true rfl) trivial trivial rfl rfl (F' := [(b5, .cells true [.int .i64 2, .int .u64 0, .string (⟨#[]⟩ : ByteArray)] 3), (b1, .cells true [.slice none 0 0, .slice none 0 0] 2)]) rfl (fun H41 s42 => ⟨?_, ?_⟩)
    · exact trivial
    refine ⟨_, Wk.refl _ _, ?_⟩
    show awp _ _ _ _ _ _ _
    refine awp_ret_wk ?_
    obtain ⟨e1, e2⟩ := sy_short (B := B) (by omega)
    refine ⟨_, Wk.refl _ _, ?_⟩
    repeat (with_reducible first | refine then_ret ?_ | refine blk_ret ?_ | refine then_exit ?_ | refine blk_exit ?_ | refine blk_exit' (by decide) ?_ | refine blk_normal ?_ | refine then_normal ?_ | refine retq_ret ?_ | refine retq_normal ?_ | refine ng_normal ?_ | refine ng_ret ?_ | refine ng_exit ?_)
    refine ret_is (v := .tuple #[.agg #[.slice none 0 0, .slice none 0 0], .agg #[.int .i64 2, .int .u64 0, .string (⟨#[]⟩ : ByteArray)]]) rfl (.agg rfl Try.isAgg26 Try.sizeOf26 (s42.rd (j := 1) rfl) (Nat.le_of_ble_eq_true rfl) rfl (.agg rfl Try.isAgg44 Try.sizeOf44 (s42.rd (j := 0) rfl) (Nat.le_of_ble_eq_true rfl) rfl .nil)) rfl ?_
    exact .inl ⟨by rw [e1]; decide, by rw [e1, e2]; first | done | rfl | (rw [Nat.mul_comm 4 i]; rfl), s42.kp⟩

end Go.Proofs.YtmoldjiooccppaaA


/-
  Walks of functions of the given program, and what they compute.
-/
namespace Go.Proofs.YtmoldjiooccppaaA
set_option linter.unusedVariables false
open Go Go.RowKit Go.Shelf Go.Proofs
end Go.Proofs.YtmoldjiooccppaaA


/-
  Walks of functions of the given program, and what they compute.
-/
namespace Go.Proofs.YtmoldjiooccppaaA
set_option linter.unusedVariables false
open Go Go.RowKit Go.Shelf Go.Proofs
theorem putT_size (X Y : List Nat) : (putT X Y).size = 8 + 4 * (X.length + Y.length) := by
  show (putL _ 4 ++ putL _ 4 ++ bytL _ : List UInt8).toArray.size = _
  rw [List.size_toArray, List.length_append, List.length_append, putL_length, putL_length, bytL_len, List.length_append]
end Go.Proofs.YtmoldjiooccppaaA


/-
  The walks of a table that was built: of each name the symbols of its bucket, the last one first. No program in sight.
-/
namespace Go.Proofs.YtmoldjiooccppaaA
set_option linter.unusedVariables false
open Go
def bkt (names : List ByteArray) (nb x : Nat) : Nat := hash (names.getD x ⟨#[]⟩) % nb
/-- The symbols below n in a bucket, the last one first. -/
def bkl (names : List ByteArray) (nb h : Nat) : Nat → List Nat
  | 0 => []
  | n + 1 => if n ≠ 0 ∧ bkt names nb n = h then n :: bkl names nb h n else bkl names nb h n
section
variable {names : List ByteArray} {nb h : Nat}
theorem bkl_cons : ∀ {n y : Nat} {t : List Nat}, bkl names nb h n = y :: t → y < n ∧ y ≠ 0 ∧ bkt names nb y = h ∧ t = bkl names nb h y
  | 0, y, t, e => by cases e
  | n + 1, y, t, e => by
    unfold bkl at e
    split at e
    · rename_i hh
      cases e
      exact ⟨Nat.lt_succ_self _, hh.1, hh.2, rfl⟩
    · obtain ⟨h1, h2⟩ := bkl_cons e
      exact ⟨by omega, h2⟩
theorem bkl_length : ∀ n, (bkl names nb h n).length ≤ n - 1
  | 0 => by simp [bkl]
  | n + 1 => by
    unfold bkl
    have h0 : (bkl names nb h n).length ≤ n - 1 := bkl_length n
    split
    · rename_i hh
      have := hh.1
      simp; omega
    · omega
theorem bkl_mem : ∀ {n x : Nat}, x ∈ bkl names nb h n ↔ x < n ∧ x ≠ 0 ∧ bkt names nb x = h
  | 0, x => by simp [bkl]
  | n + 1, x => by
    unfold bkl
    split
    · rename_i hh
      rw [List.mem_cons, bkl_mem]
      constructor
      · rintro (rfl | ⟨h1, h2⟩)
        · exact ⟨Nat.lt_succ_self _, hh⟩
        · exact ⟨by omega, h2⟩
      · rintro ⟨h1, h2⟩
        by_cases e : x = n
        · exact .inl e
        · exact .inr ⟨by omega, h2⟩
    · rename_i hh
      rw [bkl_mem]
      constructor
      · rintro ⟨h1, h2⟩; exact ⟨by omega, h2⟩
      · rintro ⟨h1, h2⟩
        refine ⟨?_, h2⟩
        by_cases e : x = n
        · subst e; exact absurd h2 hh
        · omega
/-- What a table that is being built holds. -/
structure Built (names : List ByteArray) (nb n : Nat) (p : List Nat × List Nat) : Prop where
  lenB : p.1.length = nb
  lenC : p.2.length = names.length
  heads : ∀ h, h < nb → p.1.getD h 0 = (bkl names nb h n).headD 0
  next : ∀ x, x ≠ 0 → x < n → p.2.getD x 0 = (bkl names nb (bkt names nb x) x).headD 0
theorem getD_set (l : List Nat) (i j v : Nat) : (l.set i v).getD j 0 = if i = j ∧ j < l.length then v else l.getD j 0 := by
  rw [List.getD_eq_getElem?_getD, List.getElem?_set]
  by_cases e : i = j
  · subst e
    by_cases hl : i < l.length
    · simp [hl]
    · simp [hl]
  · simp [e]
theorem built_one (hnb : 0 < nb) : Built names nb 1 (buildN names nb 1) := by
  refine ⟨by simp [buildN], by simp [buildN], fun h hh => ?_, fun x h1 h2 => by omega⟩
  show (List.replicate nb 0).getD h 0 = _
  have : bkl names nb h 1 = [] := by simp [bkl]
  rw [this]
  simp [List.getD_eq_getElem?_getD, hh]
theorem built_step {n : Nat} (hnb : 0 < nb) (hn : 1 ≤ n) (hlt : n < names.length) (hB : Built names nb n (buildN names nb n)) : Built names nb (n + 1) (buildN names nb (n + 1)) := by
  have e : buildN names nb (n + 1) = buildStep names nb n (buildN names nb n) := by rw [buildN, if_neg (by omega)]
  rw [e]
  obtain ⟨h1, h2, h3, h4⟩ := hB
  have hb : bkt names nb n < nb := Nat.mod_lt _ hnb
  refine ⟨by simpa [buildStep] using h1, by simpa [buildStep] using h2, fun h hh => ?_, fun x hx0 hx => ?_⟩
  · show ((buildN names nb n).1.set (bkt names nb n) n).getD h 0 = _
    rw [getD_set]
    unfold bkl
    by_cases e1 : bkt names nb n = h
    · rw [if_pos ⟨e1, by omega⟩, if_pos ⟨by omega, e1⟩]; rfl
    · rw [if_neg (fun x => e1 x.1), if_neg (fun x => e1 x.2)]
      exact h3 h hh
  · show ((buildN names nb n).2.set n ((buildN names nb n).1.getD (bkt names nb n) 0)).getD x 0 = _
    rw [getD_set]
    by_cases e1 : n = x
    · subst e1
      rw [if_pos ⟨rfl, by omega⟩]
      exact h3 _ hb
    · rw [if_neg (fun y => e1 y.1)]
      exact h4 x hx0 (by omega)
theorem built_all (hnb : 0 < nb) : ∀ n, 1 ≤ n → n ≤ names.length → Built names nb n (buildN names nb n)
  | 0, h, _ => by omega
  | n + 1, _, h => by
    by_cases e : n = 0
    · subst e; exact built_one hnb
    · exact built_step hnb (by omega) (by omega) (built_all hnb n (by omega) (by omega))
theorem walk_bkl {C : List Nat} (hnext : ∀ x, x ≠ 0 → x < C.length → C.getD x 0 = (bkl names nb (bkt names nb x) x).headD 0) : ∀ (n fuel : Nat), n ≤ C.length → (bkl names nb h n).length ≤ fuel → walkGo C fuel ((bkl names nb h n).headD 0) = bkl names nb h n := by
  intro n
  induction n using Nat.strongRecOn with
  | _ n ih =>
    intro fuel hn hf
    cases hb : bkl names nb h n with
    | nil => exact go_stop (.inl rfl)
    | cons y t =>
      obtain ⟨h1, h2, h3, h4⟩ := bkl_cons hb
      subst h4
      rw [hb] at hf
      simp only [List.length_cons] at hf
      show walkGo C fuel y = _
      have hy : y < C.length := by omega
      rw [go_step (by omega) h2 hy]
      have e : C[y] = (bkl names nb h y).headD 0 := by
        have := hnext y h2 hy
        rw [List.getD_eq_getElem?_getD, List.getElem?_eq_getElem hy] at this
        rw [h3] at this
        simpa using this
      rw [e, ih y h1 (fuel - 1) (by omega) (by omega)]
/-- The walk of a name over a table that was built. -/
theorem walk_built (hnb : 0 < nb) (hl : 1 ≤ names.length) (s : ByteArray) : walkL (buildN names nb names.length).1 (buildN names nb names.length).2 s = bkl names nb (hash s % nb) names.length := by
  obtain ⟨h1, h2, h3, h4⟩ := built_all (names := names) hnb names.length hl (Nat.le_refl _)
  have hs : hash s % nb < nb := Nat.mod_lt _ hnb
  rw [walk_pos (by omega)]
  have e : (buildN names nb names.length).1[hash s % (buildN names nb names.length).1.length]'(Nat.mod_lt _ (by omega)) = (bkl names nb (hash s % nb) names.length).headD 0 := by
    have := h3 _ hs
    have hs' : hash s % nb < (buildN names nb names.length).1.length := by omega
    rw [List.getD_eq_getElem?_getD, List.getElem?_eq_getElem hs'] at this
    rw [← this]
    simp [h1]
  rw [e]
  exact walk_bkl (fun x hx0 hx => h4 x hx0 (by omega)) _ _ (by omega) (by have h9 : (bkl names nb (hash s % nb) names.length).length ≤ names.length - 1 := bkl_length _; omega)
end
end Go.Proofs.YtmoldjiooccppaaA


/-
  Walks of functions of the given program, and what they compute.
-/
namespace Go.Proofs.YtmoldjiooccppaaA
set_option linter.unusedVariables false
open Go Go.RowKit Go.Shelf Go.Proofs
section
variable {names : List ByteArray}
theorem built_len (nb : Nat) : ∀ n, (buildN names nb n).1.length = nb ∧ (buildN names nb n).2.length = names.length
  | 0 => ⟨by simp [buildN], by simp [buildN]⟩
  | n + 1 => by
    rw [buildN]
    split
    · simp
    · have := built_len nb n
      unfold buildStep
      simp [this]
theorem built_lt (nb : Nat) : ∀ n, (∀ x ∈ (buildN names nb (n + 1)).1, x < n + 1) ∧ ∀ x ∈ (buildN names nb (n + 1)).2, x < n + 1
  | 0 => by
    rw [buildN, if_pos rfl]
    refine ⟨fun x hx => ?_, fun x hx => ?_⟩
    · have := List.eq_of_mem_replicate (show x ∈ List.replicate nb 0 from hx); omega
    · have := List.eq_of_mem_replicate (show x ∈ List.replicate names.length 0 from hx); omega
  | n + 1 => by
    obtain ⟨h1, h2⟩ := built_lt nb n
    rw [buildN, if_neg (by omega)]
    unfold buildStep
    refine ⟨fun x hx => ?_, fun x hx => ?_⟩
    · rcases List.mem_or_eq_of_mem_set hx with hx | rfl
      · have := h1 x hx; omega
      · omega
    · rcases List.mem_or_eq_of_mem_set hx with hx | hx
      · have := h2 x hx; omega
      · rw [hx, List.getD_eq_getElem?_getD]
        cases e : (buildN names nb (n + 1)).1[hash (names.getD (n + 1) ⟨#[]⟩) % nb]? with
        | none => show 0 < _; omega
        | some y => have := h1 y (List.mem_of_getElem? e); show y < _; omega
def lastX (names : List ByteArray) (s : ByteArray) : Nat → Nat
  | 0 => 0
  | n + 1 => if n ≠ 0 ∧ nth names n = s then n else lastX names s n
theorem lastX_y {s : ByteArray} {n : Nat} (h0 : n ≠ 0) (h : nth names n = s) : lastX names s (n + 1) = n := if_pos ⟨h0, h⟩
theorem lastX_n {s : ByteArray} {n : Nat} (h : ¬ nth names n = s) : lastX names s (n + 1) = lastX names s n := if_neg fun q => h q.2
theorem lastX_lt {s : ByteArray} : ∀ n, lastX names s n ≤ n
  | 0 => Nat.le_refl _
  | n + 1 => by unfold lastX; split; exact Nat.le_succ _; exact Nat.le_succ_of_le (lastX_lt n)
theorem lastX_in {s : ByteArray} : ∀ n, 0 < n → lastX names s n < n
  | 0, h => absurd h (Nat.not_lt_zero _)
  | n + 1, _ => by
    unfold lastX
    split
    · exact Nat.lt_succ_self _
    · exact Nat.lt_succ_of_le (lastX_lt n)
theorem lastX_is {s : ByteArray} : ∀ n, lastX names s n ≠ 0 → nth names (lastX names s n) = s
  | 0, h => absurd rfl h
  | n + 1, h => by
    unfold lastX at h ⊢
    by_cases q : n ≠ 0 ∧ nth names n = s
    · rw [if_pos q]; exact q.2
    · rw [if_neg q] at h ⊢; exact lastX_is n h
theorem lastX_ge {s : ByteArray} {i : Nat} (h0 : i ≠ 0) (hs : nth names i = s) : ∀ n, i < n → i ≤ lastX names s n
  | 0, h => absurd h (Nat.not_lt_zero _)
  | n + 1, h => by
    unfold lastX
    by_cases q : n ≠ 0 ∧ nth names n = s
    · rw [if_pos q]; omega
    · rw [if_neg q]
      refine lastX_ge h0 hs n ?_
      rcases Nat.lt_or_ge i n with q2 | q2
      · exact q2
      · obtain rfl : i = n := by omega
        exact absurd ⟨h0, hs⟩ q
theorem find_bkl {nb : Nat} {s : ByteArray} : ∀ n, n ≤ names.length → findL (bkl names nb (hash s % nb) n) names s = if lastX names s n = 0 then none else some (lastX names s n)
  | 0, _ => rfl
  | n + 1, hn => by
    have hg : names.getD n ⟨#[]⟩ = nth names n := by
      rw [nth_eq (by omega), List.getD_eq_getElem?_getD, List.getElem?_eq_getElem (by omega)]; rfl
    have ih := find_bkl (nb := nb) (s := s) n (by omega)
    by_cases q : n ≠ 0 ∧ nth names n = s
    · have e1 : bkl names nb (hash s % nb) (n + 1) = n :: bkl names nb (hash s % nb) n := by
        show (if _ then _ else _) = _
        rw [if_pos ⟨q.1, by unfold bkt; rw [hg, q.2]⟩]
      rw [e1, lastX_y q.1 q.2, if_neg q.1]
      unfold findL
      rw [List.find?_cons, decide_eq_true]
      unfold hasName
      rw [List.getElem?_eq_getElem (by omega), ← nth_eq (by omega), q.2]
    · have e2 : lastX names s (n + 1) = lastX names s n := if_neg q
      rw [e2, ← ih]
      show findL (if _ then _ else _) names s = _
      split
      · rename_i h9
        unfold findL
        rw [List.find?_cons, decide_eq_false]
        unfold hasName
        rw [List.getElem?_eq_getElem (by omega), ← nth_eq (by omega)]
        intro e
        exact q ⟨h9.1, Option.some.inj e⟩
      · rfl
end
theorem bytL_at : ∀ {l : List Nat} {i : Nat}, i < l.length → ((bytL l).drop (4 * i)).take 4 = putL (nth l i) 4
  | [], i, h => absurd h (Nat.not_lt_zero _)
  | x :: l, 0, _ => by
    rw [show x :: l = [x] ++ l from rfl, bytL_app, bytL_one, Nat.mul_zero, List.drop_zero, List.take_append_of_le_length (by rw [putL_length]; exact Nat.le_refl _), List.take_of_length_le (by rw [putL_length]; exact Nat.le_refl _)]
    rfl
  | x :: l, i + 1, h => by
    have h' : i < l.length := by simpa using h
    rw [show x :: l = [x] ++ l from rfl, bytL_app, bytL_one, List.drop_append, List.drop_of_length_le (by rw [putL_length]; omega), List.nil_append, putL_length, show 4 * (i + 1) - 4 = 4 * i by omega, bytL_at h']
    rfl
theorem putT_bl (X Y : List Nat) : bl (putT X Y) = putL X.length 4 ++ (putL Y.length 4 ++ bytL (X ++ Y)) := List.append_assoc _ _ _
theorem putT_at0 {X Y : List Nat} (h : X.length ≤ 256) : atV (putT X Y) 0 4 = X.length := by
  rw [atV_in (by rw [putT_size]; omega)]
  unfold getB
  rw [bl_extract, putT_bl, List.drop_zero, List.take_append_of_le_length (by rw [putL_length]; exact Nat.le_refl _), List.take_of_length_le (by rw [putL_length]; exact Nat.le_refl _), getN_put, Nat.mod_eq_of_lt (by show _ < 4294967296; omega)]
theorem putT_at4 {X Y : List Nat} (h : Y.length ≤ 256) : atV (putT X Y) 4 4 = Y.length := by
  rw [atV_in (by rw [putT_size]; omega)]
  unfold getB
  rw [bl_extract, putT_bl, List.drop_append, List.drop_of_length_le (by rw [putL_length]; exact Nat.le_refl _), List.nil_append, putL_length, List.drop_zero, List.take_append_of_le_length (by rw [putL_length]; exact Nat.le_refl _), List.take_of_length_le (by rw [putL_length]; exact Nat.le_refl _), getN_put, Nat.mod_eq_of_lt (by show _ < 4294967296; omega)]
theorem putT_vN {X Y : List Nat} {i : Nat} (hi : i < X.length + Y.length) (hw : nth (X ++ Y) i < 4294967296) : vN (putT X Y) i = nth (X ++ Y) i := by
  unfold vN getB
  rw [bl_extract, putT_bl, List.drop_append, List.drop_of_length_le (by rw [putL_length]; omega), List.nil_append, putL_length, List.drop_append, List.drop_of_length_le (by rw [putL_length]; omega), List.nil_append, putL_length, show 12 + 4 * i - (8 + 4 * i) = 4 by omega, show 8 + 4 * i - 4 - 4 = 4 * i by omega, bytL_at (by rw [List.length_append]; exact hi), getN_put, Nat.mod_eq_of_lt hw]
structure Small (X Y : List Nat) : Prop where
  x1 : 1 ≤ X.length
  x2 : X.length ≤ 256
  y2 : Y.length ≤ 256
  lt : ∀ v ∈ X ++ Y, v < Y.length
theorem Small.w {X Y : List Nat} (h : Small X Y) {i : Nat} (hi : i < X.length + Y.length) : nth (X ++ Y) i < Y.length := by
  rw [nth_eq (by rw [List.length_append]; exact hi)]
  exact h.lt _ (List.getElem_mem _)
theorem putT_nm {X Y : List Nat} (h : Small X Y) : nmS (putT X Y) = X.length + Y.length := by unfold nmS; rw [putT_at0 h.x2, putT_at4 h.y2]
theorem putT_all {X Y : List Nat} (h : Small X Y) : allL (putT X Y) (nmS (putT X Y)) = X ++ Y := by
  rw [putT_nm h]
  refine List.ext_getElem (by rw [allL_len, List.length_append]) fun i h1 h2 => ?_
  rw [allL_len] at h1
  rw [← nth_eq, ← nth_eq, allL_nth h1, putT_vN h1 (by have := h.w h1; have := h.y2; omega)]
theorem putT_sy {X Y : List Nat} (h : Small X Y) : syC (putT X Y) = 0 := by
  have h1 := h.x1; have h2 := h.x2; have h3 := h.y2
  refine (sy_good (by rw [putT_size]; omega) (by rw [putT_at0 h.x2]; omega) (by rw [putT_at0 h.x2, putT_at4 h.y2]; omega) (by rw [putT_nm h, putT_size]; omega) fun j hj => ?_).1
  rw [putT_nm h] at hj
  refine badV_n ?_
  have := h.w hj
  rw [putT_vN hj (by omega), putT_at4 h.y2]
  omega
theorem rput_ok2 {H0 : AHeap} (X Y : List Nat) (h : Small X Y) : ACalls Try.prog 15 [.string (putT X Y)] H0 (fun v H' => ∃ b, K0 H0 H' ∧ H0.length ≤ b ∧ v = .tuple #[.agg #[.slice (some ⟨b, 0, none⟩) X.length X.length, .slice (some ⟨b, X.length, none⟩) Y.length Y.length], .agg #[.int .i64 0, .int .u64 0, .string ⟨#[]⟩]] ∧ H'[b]? = some (.cells true ((X ++ Y).map u32v) 1)) := by
  refine (sread_ok (putT X Y) (by rw [putT_size]; have := h.x2; have := h.y2; omega)).mono ?_
  rintro v H' (⟨hq, _⟩ | ⟨_, b, k1, k2, rfl, k3⟩)
  · exact absurd (putT_sy h) hq
  · refine ⟨b, k1, k2, ?_, by rw [← putT_all h]; exact k3⟩
    rw [putT_all h, putT_at0 h.x2, List.length_append, Nat.add_sub_cancel_left]
theorem built_sm {names : List ByteArray} {nb : Nat} (h1 : 1 ≤ nb) (h2 : nb ≤ 256) (h3 : 1 ≤ names.length) (h4 : names.length ≤ 256) : Small (buildN names nb names.length).1 (buildN names nb names.length).2 := by
  obtain ⟨l1, l2⟩ := built_len (names := names) nb names.length
  refine ⟨by omega, by omega, by omega, fun v hv => ?_⟩
  obtain ⟨b1, b2⟩ := built_lt (names := names) nb (names.length - 1)
  rw [show names.length - 1 + 1 = names.length by omega] at b1 b2
  rw [l2]
  rcases List.mem_append.1 hv with hv | hv
  · exact b1 v hv
  · exact b2 v hv
theorem built_chk {names : List ByteArray} {nb : Nat} (h1 : 1 ≤ nb) (h3 : 1 ≤ names.length) : chkO (buildN names nb names.length).1 (buildN names nb names.length).2 names = none := by
  refine chk_none (n := names.length) (by omega) fun j hj1 hj2 => ?_
  rw [walk_built (by omega) h3, bkl_mem]
  refine ⟨hj2, by omega, ?_⟩
  unfold bkt
  rw [nth_eq hj2, List.getD_eq_getElem?_getD, List.getElem?_eq_getElem hj2]; rfl
theorem built_find {names : List ByteArray} {nb : Nat} (h1 : 1 ≤ nb) (h3 : 1 ≤ names.length) (s : ByteArray) : findV (findL (walkL (buildN names nb names.length).1 (buildN names nb names.length).2 s) names s) = .tuple #[.int .i64 ((lastX names s names.length : Nat) : Int), .bool (decide (lastX names s names.length ≠ 0))] := by
  rw [walk_built (by omega) h3, find_bkl _ (Nat.le_refl _)]
  by_cases h : lastX names s names.length = 0
  · rw [if_pos h, h]; rfl
  · rw [if_neg h, decide_eq_true h]; rfl
theorem bgood_ok {H0 : AHeap} (names : List ByteArray) (vN : Value) (nb : Nat) (hN : Sl strv H0 vN names) (hNs : ∀ s ∈ names, s.size ≤ 140737488355328) (h1 : 1 ≤ nb) (h2 : nb ≤ 256) (h3 : 1 ≤ names.length) (h4 : names.length ≤ 256) :
    ACalls Try.prog 8 [vN, .int .i64 ((nb : Nat) : Int)] H0 (Rets (buildV H0.length (H0.length + 1) nb names.length) (H0 ++ [.cells true ((buildN names nb names.length).1.map u32v) 1, .cells true ((buildN names nb names.length).2.map u32v) 1])) :=
  (build_ok rfl names vN ((nb : Nat) : Int) hN hNs rfl rfl).mono fun v H' h => h.1 ⟨by omega, by omega, h3, h4⟩
theorem bbad_ok {H0 : AHeap} (names : List ByteArray) (vN : Value) (z : Int) (hN : Sl strv H0 vN names) (hNs : ∀ s ∈ names, s.size ≤ 140737488355328) (h : ¬ (1 ≤ z ∧ z ≤ 256)) : ACalls Try.prog 8 [vN, .int .i64 z] H0 (Rets noBuild H0) :=
  (build_ok rfl names vN z hN hNs rfl rfl).mono fun v H' q => q.2 fun ⟨a, b, _⟩ => h ⟨a, b⟩

end Go.Proofs.YtmoldjiooccppaaA


/-
  Walks of functions of the given program, and what they compute.
-/
namespace Go.Proofs.YtmoldjiooccppaaA
set_option linter.unusedVariables false
open Go Go.RowKit Go.Shelf Go.Proofs
set_option maxRecDepth 100000 in
set_option maxHeartbeats 4000000 in
theorem faultOK_ok {H0 : AHeap} (c : Int) (a : Nat) (n : ByteArray) : ACalls Try.prog 19 [.agg #[.int .i64 c, .int .u64 ((a : Nat) : Int), .string n]] H0 (Rets (.bool (c == 0)) H0) := by
  have hF : Wd Fence.wide := .inl rfl
  have hM : Try.prog.follows .mixedOrders = true := by kernel_rfl
  have s0 := St.begin H0
  refine acalls_st Try.func19 rfl Try.ntmps19 rfl ?_
  refine awp_seq ?_
  refine awp_regs hF ?_
  refine x_new (fun b => .pointer (some ⟨b, 0, none⟩)) s0 (gyes_none rfl) (q_box (v := .agg #[.int .i64 c, .int .u64 ((a : Nat) : Int), .string n]) (vs := [.int .i64 c, .int .u64 ((a : Nat) : Int), .string n]) 3 rfl (by exact trivial) rfl) rfl (by decide) (cok1 trivial) (fun b1 H2 hb4 s3 => ?_)
  refine dv (gyes_none rfl) (q_as (v := .bool false) rfl) rfl (by decide) (cok1 (cconst rfl)) ?_
  refine ⟨_, Wk.refl _ _, ?_⟩
  show awp _ _ _ _ _ _ _
  refine awp_seq ?_
  refine awp_regs hF ?_
  refine dv (gyes_none rfl) (q_field Try.underlying44 rfl Try.sizeOf41 rfl (s3.rd (j := 0) rfl)) rfl (by decide) (cok1 trivial) ?_
  refine dv (gyes_none rfl) (q_load (v := .int .i64 c) Try.isAgg41 rfl (s3.rd (j := 0) rfl) rfl) rfl (by decide) (cok1 trivial) ?_
  refine dv (gyes_none rfl) (q_int rfl rfl rfl) rfl (by decide) (cok2 trivial (cconst rfl)) ?_
  refine dv (gyes_none rfl) (q_as (v := .bool ((c : Int) == 0)) rfl) rfl (by decide) (cok1 trivial) ?_
  refine ⟨_, Wk.refl _ _, ?_⟩
  show awp _ _ _ _ _ _ _
  refine awp_ret_wk ?_
  refine ⟨_, Wk.refl _ _, ?_⟩
  repeat (with_reducible first | refine then_ret ?_ | refine blk_ret ?_ | refine then_exit ?_ | refine blk_exit ?_ | refine blk_exit' (by decide) ?_ | refine blk_normal ?_ | refine then_normal ?_ | refine retq_ret ?_ | refine retq_normal ?_ | refine ng_normal ?_ | refine ng_ret ?_ | refine ng_exit ?_)
  exact ret_none (v := .bool ((c : Int) == 0)) rfl s3.kp (.tmp rfl .nil) rfl rfl ⟨rfl, rfl⟩
set_option maxRecDepth 100000 in
set_option maxHeartbeats 4000000 in
theorem sysvBuilds_good {H0 : AHeap} (va : Value) (z : List ByteArray) (hz : Sl strv H0 va z) (hzs : ∀ x ∈ z, x.size ≤ 140737488355328) (o : ByteArray) (hos : o.size ≤ 140737488355328) (nb : Nat) (h1 : 1 ≤ nb) (h2 : nb ≤ 256) : ACalls Try.prog 6 [va, .int .i64 ((nb : Nat) : Int), .string o] H0 (Rets (.bool true) H0) := by
  have hF : Wd Fence.wide := .inl rfl
  have hM : Try.prog.follows .mixedOrders = true := by kernel_rfl
  have s0 := St.begin H0
  refine acalls_st Try.func6 rfl Try.ntmps6 rfl ?_
  refine awp_seq ?_
  refine awp_regs hF ?_
  refine dv (gyes_none rfl) (q_as (v := .bool false) rfl) rfl (by decide) (cok1 (cconst rfl)) ?_
  refine ⟨_, Wk.refl _ _, ?_⟩
  show awp _ _ _ _ _ _ _
  refine awp_seq ?_
  refine awp_seq ?_
  refine awp_regs hF ?_
  refine dv (gyes_none rfl) (q_call0 Try.call7 rfl (speaks_ok rfl)) rfl (by decide) (cok1 trivial) ?_
  refine dv (gyes_none rfl) (q_not (b := true) rfl) rfl (by decide) (cok1 trivial) ?_
  refine ⟨_, Wk.refl _ _, ?_⟩
  show awp _ _ _ _ _ _ _
  refine awp_cond_f rfl ?_
  refine awp_skip_wk ?_
  refine ⟨_, Wk.refl _ _, ?_⟩
  show awp _ _ _ _ _ _ _
  refine awp_seq ?_
  refine awp_regs hF ?_
  refine x_new (fun b => .slice (some ⟨b, 0, none⟩) 1 1) s0 (gyes_none rfl) (q_buildSliceL (ds := [.string (⟨#[]⟩ : ByteArray)]) [.string (⟨#[]⟩ : ByteArray)] rfl Try.underlying22 Try.sizeOf9 Try.zeroValue9 rfl (by decide) (by decide) ⟨rfl, trivial⟩ (lvsC (by exact trivial) lvs0) rfl rfl) rfl (by decide) (cok1 (cconst rfl)) (fun b1 H2 hb4 s3 => ?_)
  refine dv (gyes_none rfl) (q_mv (v := va) rfl) rfl (by decide) (cok1 trivial) ?_
  refine dv (gyes_none rfl) (q_mv (v := va) rfl) rfl (by decide) (cok1 trivial) ?_
  refine dv (gyes_none rfl) (q_len_sl (l := z) Try.underlying22 (s3.sl hz) rfl) rfl (by decide) (cok1 trivial) ?_
  refine dv (gyes_none rfl) (OpQ.cast (v' := .int .i64 ((min z.length 60 : Nat) : Int)) (q_min rfl rfl) (by congr 1; split <;> omega)) rfl (by decide) (cok2 trivial (cconst rfl)) ?_
  obtain ⟨w5, hw5, qw5⟩ := slice_z hz (min z.length 60) (by omega)
  refine dv (gyes_none rfl) (qw5 s3 Try.underlying22 Try.sizeOf9 rfl rfl) rfl (by decide) (cok2 trivial trivial) ?_
  refine x_append (l := (z.take (min z.length 60))) (f := strv) [] hF s3 (by kernel_rfl) (j := 0) (1 + ((z.take (min z.length 60)).length)) (by simp) (gyes_none rfl) Try.underlying22 Try.underlying22 Try.type9 rfl rfl (by decide) rfl rfl rfl rfl (s3.sl hw5) (fun x => lc_scalar rfl) (by simp) (by show (2 * _ + 1000) * 16 ≤ _; first | omega | (simp only [List.length_take]; omega)) trivial trivial (by decide) rfl rfl (vs' := (([(⟨#[]⟩ : ByteArray)]) ++ (z.take (min z.length 60))).map strv) (by rw [List.map_append]; rfl) (fun b6 H7 hb9 s8 => ⟨?_, ?_⟩)
  · exact trivial
  refine dv (gyes_none rfl) (q_as (v := .slice (some ⟨b6, 0, none⟩) (1 + ((z.take (min z.length 60)).length)) (1 + ((z.take (min z.length 60)).length))) rfl) rfl (by decide) (cok1 trivial) ?_
  refine ⟨_, Wk.refl _ _, ?_⟩
  show awp _ _ _ _ _ _ _
  refine awp_seq ?_
  obtain ⟨nm, hnm⟩ : ∃ nm, nm = ([(⟨#[]⟩ : ByteArray)]) ++ (z.take (min z.length 60)) := ⟨_, rfl⟩
  have hnl : 1 ≤ nm.length ∧ nm.length ≤ 61 := by
    rw [hnm, List.length_append, List.length_take]
    show 1 ≤ 1 + _ ∧ 1 + _ ≤ 61
    omega
  have hnn : 1 + ((z.take (min z.length 60)).length) = nm.length := by rw [hnm]; first | rfl | (rw [List.length_append, List.length_take]; show _ = 1 + _; omega) | omega
  have hns : ∀ x ∈ nm, x.size ≤ 140737488355328 := by
    intro x hx
    rw [hnm] at hx
    rcases List.mem_append.1 hx with hx | hx
    · rw [List.mem_singleton.1 hx]; decide
    · exact hzs x (List.mem_of_mem_take hx)
  rw [← hnm] at s8
  refine awp_regs hF ?_
  refine dv (gyes_none rfl) (q_mv (v := .slice (some ⟨b6, 0, none⟩) (1 + ((z.take (min z.length 60)).length)) (1 + ((z.take (min z.length 60)).length))) rfl) rfl (by decide) (cok1 trivial) ?_
  refine dv (gyes_none rfl) (q_mv (v := .int .i64 ((nb : Nat) : Int)) rfl) rfl (by decide) (cok1 trivial) ?_
  refine x_new2 (fun b c => .tuple #[.agg #[.slice (some ⟨b, 0, none⟩) nb nb, .slice (some ⟨c, 0, none⟩) nm.length nm.length], .bool true]) s8 (gyes_none rfl) (q_call Try.call8 rfl (by simp [AObj.wr]) (bgood_ok nm _ nb (s8.slj (j := 0) rfl hnn.symm (Nat.le_refl _)) hns h1 h2 hnl.1 (by omega))) rfl (by decide) (call_ok rfl) (fun b10 b11 H12 hb14 hb15 s13 => ?_)
  refine dv (gyes_none rfl) (q_mv (v := .tuple #[.agg #[.slice (some ⟨b10, 0, none⟩) nb nb, .slice (some ⟨b11, 0, none⟩) nm.length nm.length], .bool true]) rfl) rfl (by decide) (cok1 trivial) ?_
  refine dv (gyes_none rfl) (q_extract (v := .agg #[.slice (some ⟨b10, 0, none⟩) nb nb, .slice (some ⟨b11, 0, none⟩) nm.length nm.length]) rfl rfl) rfl (by decide) (cok1 trivial) ?_
  refine dv (gyes_none rfl) (q_extract (v := .bool true) rfl rfl) rfl (by decide) (cok1 trivial) ?_
  refine x_new (fun b => .pointer (some ⟨b, 0, none⟩)) s13 (gyes_none rfl) (q_alloc (vs := [.slice none 0 0, .slice none 0 0]) 2 Try.zeroValue26 (by first | exact flat_scalar rfl | exact flat_agg rfl) rfl) rfl (by decide) (by simp [Op.operands]) (fun b16 H17 hb19 s18 => ?_)
  refine x_store [] hF s18 (by kernel_rfl) (gyes_none rfl) (j := 0) (v := .agg #[.slice (some ⟨b10, 0, none⟩) nb nb, .slice (some ⟨b11, 0, none⟩) nm.length nm.length]) rfl Try.sizeOf26 rfl rfl rfl rfl rfl trivial (lcsA ⟨(lc_slice (s18.live (j := 1) rfl)), (lc_slice (s18.live (j := 2) rfl)), trivial⟩) (Nat.le_of_ble_eq_true rfl) trivial trivial rfl rfl (F' := [(b16, .cells true [.slice (some ⟨b10, 0, none⟩) nb nb, .slice (some ⟨b11, 0, none⟩) nm.length nm.length] 2), (b10, .cells true (((buildN nm nb nm.length).1).map u32v) 1), (b11, .cells true (((buildN nm nb nm.length).2).map u32v) 1), (b6, .cells true (nm.map strv) 1)]) rfl (fun H20 s21 => ⟨?_, ?_⟩)
  · exact trivial
  refine dv (gyes_none rfl) (q_as (v := .bool true) rfl) rfl (by decide) (cok1 trivial) ?_
  refine ⟨_, Wk.refl _ _, ?_⟩
  show awp _ _ _ _ _ _ _
  refine awp_seq ?_
  refine awp_seq ?_
  refine awp_regs hF ?_
  refine dv (gyes_none rfl) (q_mv (v := .int .i64 ((nb : Nat) : Int)) rfl) rfl (by decide) (cok1 trivial) ?_
  refine dv (gyes_none rfl) (OpQ.cast (v' := .bool false) (q_int rfl rfl rfl) (congrArg Value.bool (decide_eq_false (by omega)))) rfl (by decide) (cok2 trivial (cconst rfl)) ?_
  refine dv (gyes_none rfl) (q_mv (v := .bool false) rfl) rfl (by decide) (cok1 trivial) ?_
  refine dv (gyes_some rfl rfl) (q_mv (v := .int .i64 ((nb : Nat) : Int)) rfl) rfl (by decide) (cok1 trivial) ?_
  refine dv (gyes_some rfl rfl) (OpQ.cast (v' := .bool false) (q_int rfl rfl rfl) (congrArg Value.bool (decide_eq_false (by omega)))) rfl (by decide) (cok2 trivial (cconst rfl)) ?_
  refine dv (gyes_none rfl) (q_pf (v := .bool false) rfl rfl) rfl (by decide) (call_ok rfl) ?_
  refine ⟨_, Wk.refl _ _, ?_⟩
  show awp _ _ _ _ _ _ _
  refine awp_cond_f rfl ?_
  refine awp_skip_wk ?_
  refine ⟨_, Wk.refl _ _, ?_⟩
  show awp _ _ _ _ _ _ _
  refine awp_seq ?_
  have hbl := built_len (names := nm) nb nm.length
  have hsm := built_sm h1 h2 hnl.1 (show nm.length ≤ 256 by omega)
  have hwX : ∀ x ∈ (buildN nm nb nm.length).1, x < 4294967296 := fun x hx => by have q := hsm.lt x (List.mem_append_left _ hx); omega
  have hwY : ∀ x ∈ (buildN nm nb nm.length).2, x < 4294967296 := fun x hx => by have q := hsm.lt x (List.mem_append_right _ hx); omega
  have hq1 := hbl.1
  have hq2 := hbl.2
  refine awp_regs hF ?_
  refine dv (gyes_none rfl) (q_loadAgg Try.isAgg26 Try.sizeOf26 rfl (s21.rd (j := 0) rfl) (Nat.le_of_ble_eq_true rfl) rfl) rfl (by decide) (cok1 trivial) ?_
  refine dv (gyes_none rfl) (q_call0 Try.call18 rfl (tput_ok _ _ (buildN nm nb nm.length).1 (buildN nm nb nm.length).2 (s21.slj (j := 1) rfl hbl.1 (Nat.le_refl _)) (s21.slj (j := 2) rfl hbl.2 (Nat.le_refl _)) (by omega) (by omega) hwX hwY)) rfl (by decide) (cok2 trivial trivial) ?_
  refine x_call [] hF (by kernel_rfl) (gyes_none rfl) Try.call15 rfl (args := [.string (putT (buildN nm nb nm.length).1 (buildN nm nb nm.length).2)]) rfl (rput_ok2 (buildN nm nb nm.length).1 (buildN nm nb nm.length).2 hsm) (show _ < _ by decide) (call_ok rfl) rfl rfl (fun _ _ _ _ hd => by cases hd) ?_
  rintro _ H23 ⟨b22, hk24, hb25, rfl, hg26⟩
  have s27 := s21.callN hk24 hb25 hg26
  refine ⟨trivial, ?_⟩
  show dList _ _ _ _ _ _ _ _ _ _
  refine dv (gyes_none rfl) (q_mv (v := .tuple #[.agg #[.slice (some ⟨b22, 0, none⟩) ((buildN nm nb nm.length).1.length) ((buildN nm nb nm.length).1.length), .slice (some ⟨b22, (buildN nm nb nm.length).1.length, none⟩) ((buildN nm nb nm.length).2.length) ((buildN nm nb nm.length).2.length)], .agg #[.int .i64 0, .int .u64 0, .string (⟨#[]⟩ : ByteArray)]]) rfl) rfl (by decide) (cok1 trivial) ?_
  refine dv (gyes_none rfl) (q_extract (v := .agg #[.slice (some ⟨b22, 0, none⟩) ((buildN nm nb nm.length).1.length) ((buildN nm nb nm.length).1.length), .slice (some ⟨b22, (buildN nm nb nm.length).1.length, none⟩) ((buildN nm nb nm.length).2.length) ((buildN nm nb nm.length).2.length)]) rfl rfl) rfl (by decide) (cok1 trivial) ?_
  refine dv (gyes_none rfl) (q_extract (v := .agg #[.int .i64 0, .int .u64 0, .string (⟨#[]⟩ : ByteArray)]) rfl rfl) rfl (by decide) (cok1 trivial) ?_
  refine x_new (fun b => .pointer (some ⟨b, 0, none⟩)) s27 (gyes_none rfl) (q_alloc (vs := [.slice none 0 0, .slice none 0 0]) 2 Try.zeroValue26 (by first | exact flat_scalar rfl | exact flat_agg rfl) rfl) rfl (by decide) (by simp [Op.operands]) (fun b28 H29 hb31 s30 => ?_)
  refine x_new (fun b => .pointer (some ⟨b, 0, none⟩)) s30 (gyes_none rfl) (q_alloc (vs := [.int .i64 0, .int .u64 0, .string ⟨#[]⟩]) 3 Try.zeroValue44 (by first | exact flat_scalar rfl | exact flat_agg rfl) rfl) rfl (by decide) (by simp [Op.operands]) (fun b32 H33 hb35 s34 => ?_)
  refine x_store [] hF s34 (by kernel_rfl) (gyes_none rfl) (j := 1) (v := .agg #[.slice (some ⟨b22, 0, none⟩) ((buildN nm nb nm.length).1.length) ((buildN nm nb nm.length).1.length), .slice (some ⟨b22, (buildN nm nb nm.length).1.length, none⟩) ((buildN nm nb nm.length).2.length) ((buildN nm nb nm.length).2.length)]) rfl Try.sizeOf26 rfl rfl rfl rfl rfl trivial (lcsA ⟨(lc_slice (s34.live (j := 2) rfl)), (lc_slice (s34.live (j := 2) rfl)), trivial⟩) (Nat.le_of_ble_eq_true rfl) trivial trivial rfl rfl (F' := [(b32, .cells true [.int .i64 0, .int .u64 0, .string ⟨#[]⟩] 3), (b28, .cells true [.slice (some ⟨b22, 0, none⟩) ((buildN nm nb nm.length).1.length) ((buildN nm nb nm.length).1.length), .slice (some ⟨b22, (buildN nm nb nm.length).1.length, none⟩) ((buildN nm nb nm.length).2.length) ((buildN nm nb nm.length).2.length)] 2), (b22, .cells true (((buildN nm nb nm.length).1 ++ (buildN nm nb nm.length).2).map u32v) 1), (b16, .cells true [.slice (some ⟨b10, 0, none⟩) nb nb, .slice (some ⟨b11, 0, none⟩) nm.length nm.length] 2), (b10, .cells true (((buildN nm nb nm.length).1).map u32v) 1), (b11, .cells true (((buildN nm nb nm.length).2).map u32v) 1), (b6, .cells true (nm.map strv) 1)]) rfl (fun H36 s37 => ⟨?_, ?_⟩)
  · exact trivial
  refine x_store [] hF s37 (by kernel_rfl) (gyes_none rfl) (j := 0) (v := .agg #[.int .i64 0, .int .u64 0, .string (⟨#[]⟩ : ByteArray)]) rfl Try.sizeOf44 rfl rfl rfl rfl rfl trivial (lcsA ⟨(lc_scalar rfl), (lc_scalar rfl), (lc_scalar rfl), trivial⟩) (Nat.le_of_ble_eq_true rfl) trivial trivial rfl rfl (F' := [(b32, .cells true [.int .i64 0, .int .u64 0, .string (⟨#[]⟩ : ByteArray)] 3), (b28, .cells true [.slice (some ⟨b22, 0, none⟩) ((buildN nm nb nm.length).1.length) ((buildN nm nb nm.length).1.length), .slice (some ⟨b22, (buildN nm nb nm.length).1.length, none⟩) ((buildN nm nb nm.length).2.length) ((buildN nm nb nm.length).2.length)] 2), (b22, .cells true (((buildN nm nb nm.length).1 ++ (buildN nm nb nm.length).2).map u32v) 1), (b16, .cells true [.slice (some ⟨b10, 0, none⟩) nb nb, .slice (some ⟨b11, 0, none⟩) nm.length nm.length] 2), (b10, .cells true (((buildN nm nb nm.length).1).map u32v) 1), (b11, .cells true (((buildN nm nb nm.length).2).map u32v) 1), (b6, .cells true (nm.map strv) 1)]) rfl (fun H38 s39 => ⟨?_, ?_⟩)
  · exact trivial
  refine ⟨_, Wk.refl _ _, ?_⟩
  show awp _ _ _ _ _ _ _
  refine awp_seq ?_
  refine awp_regs hF ?_
  refine dv (gyes_none rfl) (q_loadAgg Try.isAgg26 Try.sizeOf26 rfl (s39.rd (j := 3) rfl) (Nat.le_of_ble_eq_true rfl) rfl) rfl (by decide) (cok1 trivial) ?_
  refine dv (gyes_none rfl) (q_mv (v := .slice (some ⟨b6, 0, none⟩) (1 + ((z.take (min z.length 60)).length)) (1 + ((z.take (min z.length 60)).length))) rfl) rfl (by decide) (cok1 trivial) ?_
  refine dv (gyes_none rfl) (q_call0 Try.call14 rfl (ACalls.castV (v' := .tuple #[.int .i64 0, .bool true]) (check_ok (buildN nm nb nm.length).1 (buildN nm nb nm.length).2 nm _ _ _ (s39.slj (j := 4) rfl hbl.1 (Nat.le_refl _)) (s39.slj (j := 5) rfl hbl.2 (Nat.le_refl _)) (s39.slj (j := 6) rfl hnn.symm (Nat.le_refl _)) hns (by omega) hwX hwY (by omega) (by omega)) (by rw [built_chk h1 hnl.1]; rfl))) rfl (by decide) (call_ok rfl) ?_
  refine dv (gyes_none rfl) (q_mv (v := .tuple #[.int .i64 0, .bool true]) rfl) rfl (by decide) (cok1 trivial) ?_
  refine dv (gyes_none rfl) (q_extract (v := .int .i64 0) rfl rfl) rfl (by decide) (cok1 trivial) ?_
  refine dv (gyes_none rfl) (q_extract (v := .bool true) rfl rfl) rfl (by decide) (cok1 trivial) ?_
  refine dv (gyes_none rfl) (q_as (v := .int .i64 0) rfl) rfl (by decide) (cok1 trivial) ?_
  refine dv (gyes_none rfl) (q_as (v := .bool true) rfl) rfl (by decide) (cok1 trivial) ?_
  refine ⟨_, Wk.refl _ _, ?_⟩
  show awp _ _ _ _ _ _ _
  refine awp_seq ?_
  refine awp_seq ?_
  refine awp_regs hF ?_
  refine dv (gyes_none rfl) (q_mv (v := .bool true) rfl) rfl (by decide) (cok1 trivial) ?_
  refine dv (gyes_none rfl) (q_not (b := true) rfl) rfl (by decide) (cok1 trivial) ?_
  refine dv (gyes_none rfl) (q_mv (v := .bool false) rfl) rfl (by decide) (cok1 trivial) ?_
  refine dv (gyes_some rfl rfl) (q_loadAgg Try.isAgg44 Try.sizeOf44 rfl (s39.rd (j := 0) rfl) (Nat.le_of_ble_eq_true rfl) rfl) rfl (by decide) (cok1 trivial) ?_
  refine dv (gyes_some rfl rfl) (q_call0 Try.call19 rfl (faultOK_ok 0 0 ⟨#[]⟩)) rfl (by decide) (cok2 trivial trivial) ?_
  refine dv (gyes_some rfl rfl) (q_not (b := true) rfl) rfl (by decide) (cok1 trivial) ?_
  refine dv (gyes_none rfl) (q_pf (v := .bool false) rfl rfl) rfl (by decide) (call_ok rfl) ?_
  refine dv (gyes_none rfl) (q_mv (v := .bool false) rfl) rfl (by decide) (cok1 trivial) ?_
  refine dv (gyes_some rfl rfl) (q_field Try.underlying26 rfl Try.sizeOf24 rfl (s39.rd (j := 3) rfl)) rfl (by decide) (cok1 trivial) ?_
  refine dv (gyes_some rfl rfl) (q_load (v := .slice (some ⟨b10, 0, none⟩) nb nb) Try.isAgg24 rfl (s39.rd (j := 3) rfl) rfl) rfl (by decide) (cok1 trivial) ?_
  refine dv (gyes_some rfl rfl) (q_field Try.underlying26 rfl Try.sizeOf24 rfl (s39.rd (j := 1) rfl)) rfl (by decide) (cok1 trivial) ?_
  refine dv (gyes_some rfl rfl) (q_load (v := .slice (some ⟨b22, 0, none⟩) ((buildN nm nb nm.length).1.length) ((buildN nm nb nm.length).1.length)) Try.isAgg24 rfl (s39.rd (j := 1) rfl) rfl) rfl (by decide) (cok1 trivial) ?_
  refine dv (gyes_some rfl rfl) (q_call0 Try.call17 rfl (same_ok _ _ (buildN nm nb nm.length).1 (s39.slj (j := 4) rfl hbl.1 (Nat.le_refl _)) (by have q := sl_part (s39.rd (j := 2) rfl) (j := 0) (n := (buildN nm nb nm.length).1.length) (c := (buildN nm nb nm.length).1.length) (by rw [List.length_append]; omega) (Nat.le_refl _); rwa [List.drop_zero, List.take_left] at q) (by omega))) rfl (by decide) (call_ok rfl) ?_
  refine dv (gyes_some rfl rfl) (q_not (b := true) rfl) rfl (by decide) (cok1 trivial) ?_
  refine dv (gyes_none rfl) (q_pf (v := .bool false) rfl rfl) rfl (by decide) (call_ok rfl) ?_
  refine dv (gyes_none rfl) (q_mv (v := .bool false) rfl) rfl (by decide) (cok1 trivial) ?_
  refine dv (gyes_some rfl rfl) (q_field Try.underlying26 rfl Try.sizeOf24 rfl (s39.rd (j := 3) rfl)) rfl (by decide) (cok1 trivial) ?_
  refine dv (gyes_some rfl rfl) (q_load (v := .slice (some ⟨b11, 0, none⟩) nm.length nm.length) Try.isAgg24 rfl (s39.rd (j := 3) rfl) rfl) rfl (by decide) (cok1 trivial) ?_
  refine dv (gyes_some rfl rfl) (q_field Try.underlying26 rfl Try.sizeOf24 rfl (s39.rd (j := 1) rfl)) rfl (by decide) (cok1 trivial) ?_
  refine dv (gyes_some rfl rfl) (q_load (v := .slice (some ⟨b22, (buildN nm nb nm.length).1.length, none⟩) ((buildN nm nb nm.length).2.length) ((buildN nm nb nm.length).2.length)) Try.isAgg24 rfl (s39.rd (j := 1) rfl) rfl) rfl (by decide) (cok1 trivial) ?_
  refine dv (gyes_some rfl rfl) (q_call0 Try.call17 rfl (same_ok _ _ (buildN nm nb nm.length).2 (s39.slj (j := 5) rfl hbl.2 (Nat.le_refl _)) (by have q := sl_drop (s39.rd (j := 2) rfl) (j := (buildN nm nb nm.length).1.length) (n := (buildN nm nb nm.length).2.length) (c := (buildN nm nb nm.length).2.length) (by rw [List.length_append]; omega) (by rw [List.length_append]; omega) (Nat.le_refl _); rwa [List.drop_left] at q) (by omega))) rfl (by decide) (call_ok rfl) ?_
  refine dv (gyes_some rfl rfl) (q_not (b := true) rfl) rfl (by decide) (cok1 trivial) ?_
  refine dv (gyes_none rfl) (q_pf (v := .bool false) rfl rfl) rfl (by decide) (call_ok rfl) ?_
  refine dv (gyes_none rfl) (q_mv (v := .bool false) rfl) rfl (by decide) (cok1 trivial) ?_
  refine dv (gyes_some rfl rfl) (q_mv (v := .bool true) rfl) rfl (by decide) (cok1 trivial) ?_
  refine dv (gyes_some rfl rfl) (q_not (b := true) rfl) rfl (by decide) (cok1 trivial) ?_
  refine dv (gyes_none rfl) (q_pf (v := .bool false) rfl rfl) rfl (by decide) (call_ok rfl) ?_
  refine dv (gyes_none rfl) (q_mv (v := .bool false) rfl) rfl (by decide) (cok1 trivial) ?_
  refine dv (gyes_some rfl rfl) (q_mv (v := .int .i64 0) rfl) rfl (by decide) (cok1 trivial) ?_
  refine dv (gyes_some rfl rfl) (OpQ.cast (v' := .bool false) (q_int rfl rfl rfl) (congrArg Value.bool (bne_self_eq_false _))) rfl (by decide) (cok2 trivial (cconst rfl)) ?_
  refine dv (gyes_none rfl) (q_pf (v := .bool false) rfl rfl) rfl (by decide) (call_ok rfl) ?_
  refine dv (gyes_none rfl) (q_mv (v := .bool false) rfl) rfl (by decide) (cok1 trivial) ?_
  refine dv (gyes_some rfl rfl) (q_field Try.underlying26 rfl Try.sizeOf24 rfl (s39.rd (j := 3) rfl)) rfl (by decide) (cok1 trivial) ?_
  refine dv (gyes_some rfl rfl) (q_load (v := .slice (some ⟨b10, 0, none⟩) nb nb) Try.isAgg24 rfl (s39.rd (j := 3) rfl) rfl) rfl (by decide) (cok1 trivial) ?_
  refine dv (gyes_some rfl rfl) (q_len_slice Try.underlying24 rfl (s39.rd (j := 4) rfl)) rfl (by decide) (cok1 trivial) ?_
  refine dv (gyes_some rfl rfl) (q_mv (v := .int .i64 ((nb : Nat) : Int)) rfl) rfl (by decide) (cok1 trivial) ?_
  refine dv (gyes_some rfl rfl) (OpQ.cast (v' := .bool false) (q_int rfl rfl rfl) (congrArg Value.bool (bne_self_eq_false _))) rfl (by decide) (cok2 trivial trivial) ?_
  refine dv (gyes_none rfl) (q_pf (v := .bool false) rfl rfl) rfl (by decide) (call_ok rfl) ?_
  refine dv (gyes_none rfl) (q_mv (v := .bool false) rfl) rfl (by decide) (cok1 trivial) ?_
  refine dv (gyes_some rfl rfl) (q_field Try.underlying26 rfl Try.sizeOf24 rfl (s39.rd (j := 3) rfl)) rfl (by decide) (cok1 trivial) ?_
  refine dv (gyes_some rfl rfl) (q_load (v := .slice (some ⟨b11, 0, none⟩) nm.length nm.length) Try.isAgg24 rfl (s39.rd (j := 3) rfl) rfl) rfl (by decide) (cok1 trivial) ?_
  refine dv (gyes_some rfl rfl) (q_len_slice Try.underlying24 rfl (s39.rd (j := 5) rfl)) rfl (by decide) (cok1 trivial) ?_
  refine dv (gyes_some rfl rfl) (q_mv (v := .slice (some ⟨b6, 0, none⟩) (1 + ((z.take (min z.length 60)).length)) (1 + ((z.take (min z.length 60)).length))) rfl) rfl (by decide) (cok1 trivial) ?_
  refine dv (gyes_some rfl rfl) (q_len_slice Try.underlying22 rfl (s39.rd (j := 6) rfl)) rfl (by decide) (cok1 trivial) ?_
  refine dv (gyes_some rfl rfl) (OpQ.cast (v' := .bool false) (q_int rfl rfl rfl) (congrArg Value.bool (bne_eq_false_iff_eq.2 (by omega)))) rfl (by decide) (cok2 trivial trivial) ?_
  refine dv (gyes_none rfl) (q_pf (v := .bool false) rfl rfl) rfl (by decide) (call_ok rfl) ?_
  refine ⟨_, Wk.refl _ _, ?_⟩
  show awp _ _ _ _ _ _ _
  refine awp_cond_f rfl ?_
  refine awp_skip_wk ?_
  refine ⟨_, Wk.refl _ _, ?_⟩
  show awp _ _ _ _ _ _ _
  refine awp_seq ?_
  refine awp_regs hF ?_
  refine dv (gyes_none rfl) (q_as (v := .int .i64 0) rfl) rfl (by decide) (cok1 (cconst rfl)) ?_
  refine ⟨_, Wk.refl _ _, ?_⟩
  show awp _ _ _ _ _ _ _
  refine awp_seq ?_
  refine awp_seq ?_
  refine awp_regs hF ?_
  refine dv (gyes_none rfl) (q_as (v := .int .i64 1) rfl) rfl (by decide) (cok1 (cconst rfl)) ?_
  refine ⟨_, Wk.refl _ _, ?_⟩
  show awp _ _ _ _ _ _ _
  refine awp_block ?_
  refine awp_wk (Wk.U [(2, .string o), (6, .bool false), (7, .slice (some ⟨b6, 0, none⟩) (1 + ((z.take (min z.length 60)).length)) (1 + ((z.take (min z.length 60)).length))), (8, .pointer (some ⟨b16, 0, none⟩)), (14, .int .i64 0), (15, .int .i64 1)] ⟨rfl, rfl, rfl, rfl, rfl, rfl, trivial⟩) ?_
  refine awp_loop (fun ((i, la) : Nat × Nat) st => ∃ (H40 : AHeap), st = ⟨168, U [(2, .string o), (6, .bool false), (7, .slice (some ⟨b6, 0, none⟩) (1 + ((z.take (min z.length 60)).length)) (1 + ((z.take (min z.length 60)).length))), (8, .pointer (some ⟨b16, 0, none⟩)), (14, .int .i64 ((la : Nat) : Int)), (15, .int .i64 ((i : Nat) : Int))], [], H40⟩ ∧ St H0 (none0) (Rd H0) H40 [(b32, .cells true [.int .i64 0, .int .u64 0, .string (⟨#[]⟩ : ByteArray)] 3), (b28, .cells true [.slice (some ⟨b22, 0, none⟩) ((buildN nm nb nm.length).1.length) ((buildN nm nb nm.length).1.length), .slice (some ⟨b22, (buildN nm nb nm.length).1.length, none⟩) ((buildN nm nb nm.length).2.length) ((buildN nm nb nm.length).2.length)] 2), (b22, .cells true (((buildN nm nb nm.length).1 ++ (buildN nm nb nm.length).2).map u32v) 1), (b16, .cells true [.slice (some ⟨b10, 0, none⟩) nb nb, .slice (some ⟨b11, 0, none⟩) nm.length nm.length] 2), (b10, .cells true (((buildN nm nb nm.length).1).map u32v) 1), (b11, .cells true (((buildN nm nb nm.length).2).map u32v) 1), (b6, .cells true (nm.map strv) 1)] ∧ (1 ≤ i ∧ i ≤ nm.length ∧ la = lastX nm o i)) (fun ((i, la) : Nat × Nat) => nm.length - i) (x0 := (1, 0)) ?h0 ?round
  case h0 =>
    exact ⟨_, rfl, s39, ⟨Nat.le_refl _, hnl.1, by unfold lastX; rw [if_neg (fun h => h.1 rfl)]; rfl⟩⟩
  case round =>
    rintro ⟨i, la⟩ _ ⟨H40, rfl, s41, hi⟩
    dsimp only at *
    refine awp_seq ?_
    refine awp_seq ?_
    refine awp_regs hF ?_
    refine dv (gyes_none rfl) (q_mv (v := .int .i64 ((i : Nat) : Int)) rfl) rfl (by decide) (cok1 trivial) ?_
    refine dv (gyes_none rfl) (q_mv (v := .slice (some ⟨b6, 0, none⟩) (1 + ((z.take (min z.length 60)).length)) (1 + ((z.take (min z.length 60)).length))) rfl) rfl (by decide) (cok1 trivial) ?_
    refine dv (gyes_none rfl) (q_len_slice Try.underlying22 rfl (s41.rd (j := 6) rfl)) rfl (by decide) (cok1 trivial) ?_
    refine dvb (gyes_none rfl) (q_int rfl rfl rfl) rfl (by decide) (cok2 trivial trivial) (fun c1 => ?_) (fun c1 => ?_)
    ·
      replace c1 := of_decide_eq_true c1
      refine ⟨_, Wk.refl _ _, ?_⟩
      show awp _ _ _ _ _ _ _
      refine awp_cond_t rfl ?_
      refine awp_skip_wk ?_
      refine ⟨_, Wk.refl _ _, ?_⟩
      show awp _ _ _ _ _ _ _
      refine awp_seq ?_
      refine awp_block ?_
      refine awp_seq ?_
      refine awp_seq ?_
      have him : nth nm i ∈ nm := nthS_mem (by omega)
      have hk1 := lastX_ge (names := nm) (i := i) (by omega) rfl nm.length (by omega)
      have hk0 : lastX nm (nth nm i) nm.length ≠ 0 := by omega
      have hk2 := lastX_in (names := nm) (s := nth nm i) nm.length (by omega)
      have hk3 := lastX_is (names := nm) nm.length hk0
      refine awp_regs hF ?_
      refine dv (gyes_none rfl) (q_mv (v := .slice (some ⟨b6, 0, none⟩) (1 + ((z.take (min z.length 60)).length)) (1 + ((z.take (min z.length 60)).length))) rfl) rfl (by decide) (cok1 trivial) ?_
      refine dv (gyes_none rfl) (q_mv (v := .int .i64 ((i : Nat) : Int)) rfl) rfl (by decide) (cok1 trivial) ?_
      refine dv (gyes_none rfl) (OpQ.cast (v' := .pointer (some ⟨b6, i, none⟩)) (q_index1 (i := i) Try.underlying22 Try.sizeOf9 rfl rfl (by omega) (s41.rd (j := 6) rfl)) (by rw [Nat.zero_add])) rfl (by decide) (cok2 trivial trivial) ?_
      refine dv (gyes_none rfl) (q_load (v := strv (nth nm i)) Try.isAgg9 rfl (s41.rd (j := 6) rfl) (get_nth (w := 0) (by omega))) rfl (by decide) (cok1 trivial) ?_
      refine dv (gyes_none rfl) (q_mv (v := .string o) rfl) rfl (by decide) (cok1 trivial) ?_
      refine dvb (gyes_none rfl) (q_streq rfl rfl) rfl (by decide) (cok2 trivial trivial) (fun c2 => ?_) (fun c2 => ?_)
      ·
        replace c2 := of_decide_eq_true c2
        refine ⟨_, Wk.refl _ _, ?_⟩
        show awp _ _ _ _ _ _ _
        refine awp_cond_t rfl ?_
        refine awp_regs hF ?_
        refine dv (gyes_none rfl) (q_mv (v := .int .i64 ((i : Nat) : Int)) rfl) rfl (by decide) (cok1 trivial) ?_
        refine dv (gyes_none rfl) (q_as (v := .int .i64 ((i : Nat) : Int)) rfl) rfl (by decide) (cok1 trivial) ?_
        refine ⟨_, Wk.refl _ _, ?_⟩
        show awp _ _ _ _ _ _ _
        refine awp_seq ?_
        refine awp_regt hF hM (by kernel_rfl) (by kernel_rfl) ?_
        refine dv (gyes_none rfl) (q_loadAgg Try.isAgg26 Try.sizeOf26 rfl (s41.rd (j := 3) rfl) (Nat.le_of_ble_eq_true rfl) rfl) rfl (by decide) (cok1 trivial) ?_
        refine dv (gyes_none rfl) (q_mv (v := .slice (some ⟨b6, 0, none⟩) (1 + ((z.take (min z.length 60)).length)) (1 + ((z.take (min z.length 60)).length))) rfl) rfl (by decide) (cok1 trivial) ?_
        refine dv (gyes_none rfl) (q_mv (v := .int .i64 ((i : Nat) : Int)) rfl) rfl (by decide) (cok1 trivial) ?_
        refine dv (gyes_none rfl) (OpQ.cast (v' := .pointer (some ⟨b6, i, none⟩)) (q_index1 (i := i) Try.underlying22 Try.sizeOf9 rfl rfl (by omega) (s41.rd (j := 6) rfl)) (by rw [Nat.zero_add])) rfl (by decide) (cok2 trivial trivial) ?_
        refine dv (gyes_none rfl) (q_load (v := strv (nth nm i)) Try.isAgg9 rfl (s41.rd (j := 6) rfl) (get_nth (w := 0) (by omega))) rfl (by decide) (cok1 trivial) ?_
        refine dv (gyes_none rfl) (q_mv (v := .slice (some ⟨b6, 0, none⟩) (1 + ((z.take (min z.length 60)).length)) (1 + ((z.take (min z.length 60)).length))) rfl) rfl (by decide) (cok1 trivial) ?_
        refine dv (gyes_none rfl) (q_call0 Try.call13 rfl (ACalls.castV (v' := .tuple #[.int .i64 ((lastX nm (nth nm i) nm.length : Nat) : Int), .bool true]) (find_ok rfl (nth nm i) (hns _ him) (buildN nm nb nm.length).1 (buildN nm nb nm.length).2 nm _ _ _ (s41.slj (j := 4) rfl hbl.1 (Nat.le_refl _)) (s41.slj (j := 5) rfl hbl.2 (Nat.le_refl _)) (s41.slj (j := 6) rfl hnn.symm (Nat.le_refl _)) (by omega) hwX hwY (by omega)) (by rw [built_find h1 hnl.1]; exact congrArg (fun b => Value.tuple #[_, Value.bool b]) (decide_eq_true hk0)))) rfl (by decide) (call_ok rfl) ?_
        refine dv (gyes_none rfl) (q_mv (v := .tuple #[.int .i64 ((lastX nm (nth nm i) nm.length : Nat) : Int), .bool true]) rfl) rfl (by decide) (cok1 trivial) ?_
        refine dv (gyes_none rfl) (q_extract (v := .int .i64 ((lastX nm (nth nm i) nm.length : Nat) : Int)) rfl rfl) rfl (by decide) (cok1 trivial) ?_
        refine dv (gyes_none rfl) (q_extract (v := .bool true) rfl rfl) rfl (by decide) (cok1 trivial) ?_
        refine dv (gyes_none rfl) (q_as (v := .int .i64 ((lastX nm (nth nm i) nm.length : Nat) : Int)) rfl) rfl (by decide) (cok1 trivial) ?_
        refine dv (gyes_none rfl) (q_as (v := .bool true) rfl) rfl (by decide) (cok1 trivial) ?_
        refine ⟨_, Wk.refl _ _, ?_⟩
        show awp _ _ _ _ _ _ _
        refine awp_seq ?_
        refine awp_regt hF hM (by kernel_rfl) (by kernel_rfl) ?_
        refine dv (gyes_none rfl) (q_mv (v := .bool true) rfl) rfl (by decide) (cok1 trivial) ?_
        refine dv (gyes_none rfl) (q_not (b := true) rfl) rfl (by decide) (cok1 trivial) ?_
        refine dv (gyes_none rfl) (q_mv (v := .bool false) rfl) rfl (by decide) (cok1 trivial) ?_
        refine dv (gyes_some rfl rfl) (q_mv (v := .slice (some ⟨b6, 0, none⟩) (1 + ((z.take (min z.length 60)).length)) (1 + ((z.take (min z.length 60)).length))) rfl) rfl (by decide) (cok1 trivial) ?_
        refine dv (gyes_some rfl rfl) (q_mv (v := .int .i64 ((lastX nm (nth nm i) nm.length : Nat) : Int)) rfl) rfl (by decide) (cok1 trivial) ?_
        refine dv (gyes_some rfl rfl) (OpQ.cast (v' := .pointer (some ⟨b6, lastX nm (nth nm i) nm.length, none⟩)) (q_index1 (i := (lastX nm (nth nm i) nm.length)) Try.underlying22 Try.sizeOf9 rfl rfl (by omega) (s41.rd (j := 6) rfl)) (by rw [Nat.zero_add])) rfl (by decide) (cok2 trivial trivial) ?_
        refine dv (gyes_some rfl rfl) (q_load (v := strv (nth nm (lastX nm (nth nm i) nm.length))) Try.isAgg9 rfl (s41.rd (j := 6) rfl) (get_nth (w := 0) (by omega))) rfl (by decide) (cok1 trivial) ?_
        refine dv (gyes_some rfl rfl) (q_mv (v := .slice (some ⟨b6, 0, none⟩) (1 + ((z.take (min z.length 60)).length)) (1 + ((z.take (min z.length 60)).length))) rfl) rfl (by decide) (cok1 trivial) ?_
        refine dv (gyes_some rfl rfl) (q_mv (v := .int .i64 ((i : Nat) : Int)) rfl) rfl (by decide) (cok1 trivial) ?_
        refine dv (gyes_some rfl rfl) (OpQ.cast (v' := .pointer (some ⟨b6, i, none⟩)) (q_index1 (i := i) Try.underlying22 Try.sizeOf9 rfl rfl (by omega) (s41.rd (j := 6) rfl)) (by rw [Nat.zero_add])) rfl (by decide) (cok2 trivial trivial) ?_
        refine dv (gyes_some rfl rfl) (q_load (v := strv (nth nm i)) Try.isAgg9 rfl (s41.rd (j := 6) rfl) (get_nth (w := 0) (by omega))) rfl (by decide) (cok1 trivial) ?_
        refine dv (gyes_some rfl rfl) (OpQ.cast (v' := .bool false) (q_strne rfl rfl) (congrArg Value.bool (by rw [hk3]; simp))) rfl (by decide) (cok2 trivial trivial) ?_
        refine dv (gyes_none rfl) (q_pf (v := .bool false) rfl rfl) rfl (by decide) (call_ok rfl) ?_
        refine dv (gyes_none rfl) (q_mv (v := .bool false) rfl) rfl (by decide) (cok1 trivial) ?_
        refine dv (gyes_some rfl rfl) (q_mv (v := .int .i64 ((lastX nm (nth nm i) nm.length : Nat) : Int)) rfl) rfl (by decide) (cok1 trivial) ?_
        refine dv (gyes_some rfl rfl) (q_mv (v := .int .i64 ((i : Nat) : Int)) rfl) rfl (by decide) (cok1 trivial) ?_
        refine dv (gyes_some rfl rfl) (OpQ.cast (v' := .bool false) (q_int rfl rfl rfl) (congrArg Value.bool (decide_eq_false (by omega)))) rfl (by decide) (cok2 trivial trivial) ?_
        refine dv (gyes_none rfl) (q_pf (v := .bool false) rfl rfl) rfl (by decide) (call_ok rfl) ?_
        refine ⟨_, Wk.refl _ _, ?_⟩
        show awp _ _ _ _ _ _ _
        refine awp_cond_f rfl ?_
        refine awp_skip_wk ?_
        refine ⟨_, Wk.refl _ _, ?_⟩
        show awp _ _ _ _ _ _ _
        refine awp_regs hF ?_
        refine dv (gyes_none rfl) (q_mv (v := .int .i64 ((i : Nat) : Int)) rfl) rfl (by decide) (cok1 trivial) ?_
        refine dv (gyes_none rfl) (OpQ.cast (v' := .int .i64 ((i + 1 : Nat) : Int)) (q_int rfl rfl rfl) (congrArg _ ((i64_in (by omega)).trans (by first | rfl | omega | (push_cast; rfl))))) rfl (by decide) (cok2 trivial (cconst rfl)) ?_
        refine dv (gyes_none rfl) (q_as (v := .int .i64 ((i + 1 : Nat) : Int)) rfl) rfl (by decide) (cok1 trivial) ?_
        refine ⟨_, Wk.U [(2, .string o), (6, .bool false), (7, .slice (some ⟨b6, 0, none⟩) (1 + ((z.take (min z.length 60)).length)) (1 + ((z.take (min z.length 60)).length))), (8, .pointer (some ⟨b16, 0, none⟩)), (14, .int .i64 ((i : Nat) : Int)), (15, .int .i64 (((i + 1) : Nat) : Int))] ⟨rfl, rfl, rfl, rfl, rfl, rfl, trivial⟩, ((i + 1), i), ⟨_, rfl, s41, ⟨by dsimp only; omega, by dsimp only; omega, by dsimp only; exact (lastX_y (by omega) (by assumption)).symm⟩⟩, (by omega)⟩
      ·
        replace c2 := of_decide_eq_false c2
        refine ⟨_, Wk.refl _ _, ?_⟩
        show awp _ _ _ _ _ _ _
        refine awp_cond_f rfl ?_
        refine awp_skip_wk ?_
        refine ⟨_, Wk.refl _ _, ?_⟩
        show awp _ _ _ _ _ _ _
        refine awp_seq ?_
        refine awp_regt hF hM (by kernel_rfl) (by kernel_rfl) ?_
        refine dv (gyes_none rfl) (q_loadAgg Try.isAgg26 Try.sizeOf26 rfl (s41.rd (j := 3) rfl) (Nat.le_of_ble_eq_true rfl) rfl) rfl (by decide) (cok1 trivial) ?_
        refine dv (gyes_none rfl) (q_mv (v := .slice (some ⟨b6, 0, none⟩) (1 + ((z.take (min z.length 60)).length)) (1 + ((z.take (min z.length 60)).length))) rfl) rfl (by decide) (cok1 trivial) ?_
        refine dv (gyes_none rfl) (q_mv (v := .int .i64 ((i : Nat) : Int)) rfl) rfl (by decide) (cok1 trivial) ?_
        refine dv (gyes_none rfl) (OpQ.cast (v' := .pointer (some ⟨b6, i, none⟩)) (q_index1 (i := i) Try.underlying22 Try.sizeOf9 rfl rfl (by omega) (s41.rd (j := 6) rfl)) (by rw [Nat.zero_add])) rfl (by decide) (cok2 trivial trivial) ?_
        refine dv (gyes_none rfl) (q_load (v := strv (nth nm i)) Try.isAgg9 rfl (s41.rd (j := 6) rfl) (get_nth (w := 0) (by omega))) rfl (by decide) (cok1 trivial) ?_
        refine dv (gyes_none rfl) (q_mv (v := .slice (some ⟨b6, 0, none⟩) (1 + ((z.take (min z.length 60)).length)) (1 + ((z.take (min z.length 60)).length))) rfl) rfl (by decide) (cok1 trivial) ?_
        refine dv (gyes_none rfl) (q_call0 Try.call13 rfl (ACalls.castV (v' := .tuple #[.int .i64 ((lastX nm (nth nm i) nm.length : Nat) : Int), .bool true]) (find_ok rfl (nth nm i) (hns _ him) (buildN nm nb nm.length).1 (buildN nm nb nm.length).2 nm _ _ _ (s41.slj (j := 4) rfl hbl.1 (Nat.le_refl _)) (s41.slj (j := 5) rfl hbl.2 (Nat.le_refl _)) (s41.slj (j := 6) rfl hnn.symm (Nat.le_refl _)) (by omega) hwX hwY (by omega)) (by rw [built_find h1 hnl.1]; exact congrArg (fun b => Value.tuple #[_, Value.bool b]) (decide_eq_true hk0)))) rfl (by decide) (call_ok rfl) ?_
        refine dv (gyes_none rfl) (q_mv (v := .tuple #[.int .i64 ((lastX nm (nth nm i) nm.length : Nat) : Int), .bool true]) rfl) rfl (by decide) (cok1 trivial) ?_
        refine dv (gyes_none rfl) (q_extract (v := .int .i64 ((lastX nm (nth nm i) nm.length : Nat) : Int)) rfl rfl) rfl (by decide) (cok1 trivial) ?_
        refine dv (gyes_none rfl) (q_extract (v := .bool true) rfl rfl) rfl (by decide) (cok1 trivial) ?_
        refine dv (gyes_none rfl) (q_as (v := .int .i64 ((lastX nm (nth nm i) nm.length : Nat) : Int)) rfl) rfl (by decide) (cok1 trivial) ?_
        refine dv (gyes_none rfl) (q_as (v := .bool true) rfl) rfl (by decide) (cok1 trivial) ?_
        refine ⟨_, Wk.refl _ _, ?_⟩
        show awp _ _ _ _ _ _ _
        refine awp_seq ?_
        refine awp_regt hF hM (by kernel_rfl) (by kernel_rfl) ?_
        refine dv (gyes_none rfl) (q_mv (v := .bool true) rfl) rfl (by decide) (cok1 trivial) ?_
        refine dv (gyes_none rfl) (q_not (b := true) rfl) rfl (by decide) (cok1 trivial) ?_
        refine dv (gyes_none rfl) (q_mv (v := .bool false) rfl) rfl (by decide) (cok1 trivial) ?_
        refine dv (gyes_some rfl rfl) (q_mv (v := .slice (some ⟨b6, 0, none⟩) (1 + ((z.take (min z.length 60)).length)) (1 + ((z.take (min z.length 60)).length))) rfl) rfl (by decide) (cok1 trivial) ?_
        refine dv (gyes_some rfl rfl) (q_mv (v := .int .i64 ((lastX nm (nth nm i) nm.length : Nat) : Int)) rfl) rfl (by decide) (cok1 trivial) ?_
        refine dv (gyes_some rfl rfl) (OpQ.cast (v' := .pointer (some ⟨b6, lastX nm (nth nm i) nm.length, none⟩)) (q_index1 (i := (lastX nm (nth nm i) nm.length)) Try.underlying22 Try.sizeOf9 rfl rfl (by omega) (s41.rd (j := 6) rfl)) (by rw [Nat.zero_add])) rfl (by decide) (cok2 trivial trivial) ?_
        refine dv (gyes_some rfl rfl) (q_load (v := strv (nth nm (lastX nm (nth nm i) nm.length))) Try.isAgg9 rfl (s41.rd (j := 6) rfl) (get_nth (w := 0) (by omega))) rfl (by decide) (cok1 trivial) ?_
        refine dv (gyes_some rfl rfl) (q_mv (v := .slice (some ⟨b6, 0, none⟩) (1 + ((z.take (min z.length 60)).length)) (1 + ((z.take (min z.length 60)).length))) rfl) rfl (by decide) (cok1 trivial) ?_
        refine dv (gyes_some rfl rfl) (q_mv (v := .int .i64 ((i : Nat) : Int)) rfl) rfl (by decide) (cok1 trivial) ?_
        refine dv (gyes_some rfl rfl) (OpQ.cast (v' := .pointer (some ⟨b6, i, none⟩)) (q_index1 (i := i) Try.underlying22 Try.sizeOf9 rfl rfl (by omega) (s41.rd (j := 6) rfl)) (by rw [Nat.zero_add])) rfl (by decide) (cok2 trivial trivial) ?_
        refine dv (gyes_some rfl rfl) (q_load (v := strv (nth nm i)) Try.isAgg9 rfl (s41.rd (j := 6) rfl) (get_nth (w := 0) (by omega))) rfl (by decide) (cok1 trivial) ?_
        refine dv (gyes_some rfl rfl) (OpQ.cast (v' := .bool false) (q_strne rfl rfl) (congrArg Value.bool (by rw [hk3]; simp))) rfl (by decide) (cok2 trivial trivial) ?_
        refine dv (gyes_none rfl) (q_pf (v := .bool false) rfl rfl) rfl (by decide) (call_ok rfl) ?_
        refine dv (gyes_none rfl) (q_mv (v := .bool false) rfl) rfl (by decide) (cok1 trivial) ?_
        refine dv (gyes_some rfl rfl) (q_mv (v := .int .i64 ((lastX nm (nth nm i) nm.length : Nat) : Int)) rfl) rfl (by decide) (cok1 trivial) ?_
        refine dv (gyes_some rfl rfl) (q_mv (v := .int .i64 ((i : Nat) : Int)) rfl) rfl (by decide) (cok1 trivial) ?_
        refine dv (gyes_some rfl rfl) (OpQ.cast (v' := .bool false) (q_int rfl rfl rfl) (congrArg Value.bool (decide_eq_false (by omega)))) rfl (by decide) (cok2 trivial trivial) ?_
        refine dv (gyes_none rfl) (q_pf (v := .bool false) rfl rfl) rfl (by decide) (call_ok rfl) ?_
        refine ⟨_, Wk.refl _ _, ?_⟩
        show awp _ _ _ _ _ _ _
        refine awp_cond_f rfl ?_
        refine awp_skip_wk ?_
        refine ⟨_, Wk.refl _ _, ?_⟩
        show awp _ _ _ _ _ _ _
        refine awp_regs hF ?_
        refine dv (gyes_none rfl) (q_mv (v := .int .i64 ((i : Nat) : Int)) rfl) rfl (by decide) (cok1 trivial) ?_
        refine dv (gyes_none rfl) (OpQ.cast (v' := .int .i64 ((i + 1 : Nat) : Int)) (q_int rfl rfl rfl) (congrArg _ ((i64_in (by omega)).trans (by first | rfl | omega | (push_cast; rfl))))) rfl (by decide) (cok2 trivial (cconst rfl)) ?_
        refine dv (gyes_none rfl) (q_as (v := .int .i64 ((i + 1 : Nat) : Int)) rfl) rfl (by decide) (cok1 trivial) ?_
        refine ⟨_, Wk.U [(2, .string o), (6, .bool false), (7, .slice (some ⟨b6, 0, none⟩) (1 + ((z.take (min z.length 60)).length)) (1 + ((z.take (min z.length 60)).length))), (8, .pointer (some ⟨b16, 0, none⟩)), (14, .int .i64 ((la : Nat) : Int)), (15, .int .i64 (((i + 1) : Nat) : Int))] ⟨rfl, rfl, rfl, rfl, rfl, rfl, trivial⟩, ((i + 1), la), ⟨_, rfl, s41, ⟨by dsimp only; omega, by dsimp only; omega, by dsimp only; exact hi.2.2.trans (lastX_n (by assumption)).symm⟩⟩, (by omega)⟩
    ·
      replace c1 := of_decide_eq_false c1
      refine ⟨_, Wk.refl _ _, ?_⟩
      show awp _ _ _ _ _ _ _
      refine awp_cond_f rfl ?_
      refine awp_exit_wk ?_
      refine ⟨_, Wk.refl _ _, ?_⟩
      show awp _ _ _ _ _ _ _
      refine awp_seq ?_
      have hie : i = nm.length := by omega
      have hla : la = lastX nm o nm.length := by rw [← hie]; exact hi.2.2
      refine awp_regs hF ?_
      refine dv (gyes_none rfl) (q_loadAgg Try.isAgg26 Try.sizeOf26 rfl (s41.rd (j := 3) rfl) (Nat.le_of_ble_eq_true rfl) rfl) rfl (by decide) (cok1 trivial) ?_
      refine dv (gyes_none rfl) (q_mv (v := .string o) rfl) rfl (by decide) (cok1 trivial) ?_
      refine dv (gyes_none rfl) (q_mv (v := .slice (some ⟨b6, 0, none⟩) (1 + ((z.take (min z.length 60)).length)) (1 + ((z.take (min z.length 60)).length))) rfl) rfl (by decide) (cok1 trivial) ?_
      refine dv (gyes_none rfl) (q_call0 Try.call13 rfl (ACalls.castV (v' := .tuple #[.int .i64 ((lastX nm o nm.length : Nat) : Int), .bool (decide (lastX nm o nm.length ≠ 0))]) (find_ok rfl o hos (buildN nm nb nm.length).1 (buildN nm nb nm.length).2 nm _ _ _ (s41.slj (j := 4) rfl hbl.1 (Nat.le_refl _)) (s41.slj (j := 5) rfl hbl.2 (Nat.le_refl _)) (s41.slj (j := 6) rfl hnn.symm (Nat.le_refl _)) (by omega) hwX hwY (by omega)) (by rw [built_find h1 hnl.1]))) rfl (by decide) (call_ok rfl) ?_
      refine dv (gyes_none rfl) (q_mv (v := .tuple #[.int .i64 ((lastX nm o nm.length : Nat) : Int), .bool (decide (lastX nm o nm.length ≠ 0))]) rfl) rfl (by decide) (cok1 trivial) ?_
      refine dv (gyes_none rfl) (q_extract (v := .int .i64 ((lastX nm o nm.length : Nat) : Int)) rfl rfl) rfl (by decide) (cok1 trivial) ?_
      refine dv (gyes_none rfl) (q_extract (v := .bool (decide (lastX nm o nm.length ≠ 0))) rfl rfl) rfl (by decide) (cok1 trivial) ?_
      refine dv (gyes_none rfl) (q_as (v := .int .i64 ((lastX nm o nm.length : Nat) : Int)) rfl) rfl (by decide) (cok1 trivial) ?_
      refine dv (gyes_none rfl) (q_as (v := .bool (decide (lastX nm o nm.length ≠ 0))) rfl) rfl (by decide) (cok1 trivial) ?_
      refine ⟨_, Wk.refl _ _, ?_⟩
      show awp _ _ _ _ _ _ _
      refine awp_seq ?_
      refine awp_regs hF ?_
      refine dv (gyes_none rfl) (q_mv (v := .bool (decide (lastX nm o nm.length ≠ 0))) rfl) rfl (by decide) (cok1 trivial) ?_
      refine dv (gyes_none rfl) (q_mv (v := .int .i64 ((la : Nat) : Int)) rfl) rfl (by decide) (cok1 trivial) ?_
      refine dv (gyes_none rfl) (q_int rfl rfl rfl) rfl (by decide) (cok2 trivial (cconst rfl)) ?_
      refine dv (gyes_none rfl) (OpQ.cast (v' := .bool true) (q_booleq Try.underlying4 rfl rfl) (congrArg Value.bool (by rw [← hla]; exact beq_iff_eq.2 (decide_eq_decide.2 (by omega))))) rfl (by decide) (cok2 trivial trivial) ?_
      refine dv (gyes_none rfl) (q_mv (v := .bool true) rfl) rfl (by decide) (cok1 trivial) ?_
      refine dv (gyes_some rfl rfl) (q_mv (v := .int .i64 ((lastX nm o nm.length : Nat) : Int)) rfl) rfl (by decide) (cok1 trivial) ?_
      refine dv (gyes_some rfl rfl) (q_mv (v := .int .i64 ((la : Nat) : Int)) rfl) rfl (by decide) (cok1 trivial) ?_
      refine dv (gyes_some rfl rfl) (OpQ.cast (v' := .bool true) (q_int rfl rfl rfl) (congrArg Value.bool (beq_iff_eq.2 (by omega)))) rfl (by decide) (cok2 trivial trivial) ?_
      refine dv (gyes_none rfl) (q_pt (v := .bool true) rfl rfl) rfl (by decide) (call_ok rfl) ?_
      refine dv (gyes_none rfl) (q_as (v := .bool true) rfl) rfl (by decide) (cok1 trivial) ?_
      refine ⟨_, Wk.refl _ _, ?_⟩
      show awp _ _ _ _ _ _ _
      refine awp_ret_wk ?_
      refine ⟨_, Wk.refl _ _, ?_⟩
      repeat (with_reducible first | refine then_ret ?_ | refine blk_ret ?_ | refine then_exit ?_ | refine blk_exit ?_ | refine blk_exit' (by decide) ?_ | refine blk_normal ?_ | refine then_normal ?_ | refine retq_ret ?_ | refine retq_normal ?_ | refine ng_normal ?_ | refine ng_ret ?_ | refine ng_exit ?_)
      exact ret_none (v := .bool true) rfl s41.kp (.tmp rfl .nil) rfl rfl ⟨rfl, rfl⟩
set_option maxRecDepth 100000 in
set_option maxHeartbeats 4000000 in
theorem sysvBuilds_bad {H0 : AHeap} (va : Value) (z : List ByteArray) (hz : Sl strv H0 va z) (hzs : ∀ x ∈ z, x.size ≤ 140737488355328) (o : ByteArray) (hos : o.size ≤ 140737488355328) (bk : Int) (h : ¬ (1 ≤ bk ∧ bk ≤ 256)) : ACalls Try.prog 6 [va, .int .i64 bk, .string o] H0 (Rets (.bool true) H0) := by
  have hF : Wd Fence.wide := .inl rfl
  have hM : Try.prog.follows .mixedOrders = true := by kernel_rfl
  have s0 := St.begin H0
  refine acalls_st Try.func6 rfl Try.ntmps6 rfl ?_
  refine awp_seq ?_
  refine awp_regs hF ?_
  refine dv (gyes_none rfl) (q_as (v := .bool false) rfl) rfl (by decide) (cok1 (cconst rfl)) ?_
  refine ⟨_, Wk.refl _ _, ?_⟩
  show awp _ _ _ _ _ _ _
  refine awp_seq ?_
  refine awp_seq ?_
  refine awp_regs hF ?_
  refine dv (gyes_none rfl) (q_call0 Try.call7 rfl (speaks_ok rfl)) rfl (by decide) (cok1 trivial) ?_
  refine dv (gyes_none rfl) (q_not (b := true) rfl) rfl (by decide) (cok1 trivial) ?_
  refine ⟨_, Wk.refl _ _, ?_⟩
  show awp _ _ _ _ _ _ _
  refine awp_cond_f rfl ?_
  refine awp_skip_wk ?_
  refine ⟨_, Wk.refl _ _, ?_⟩
  show awp _ _ _ _ _ _ _
  refine awp_seq ?_
  refine awp_regs hF ?_
  refine x_new (fun b => .slice (some ⟨b, 0, none⟩) 1 1) s0 (gyes_none rfl) (q_buildSliceL (ds := [.string (⟨#[]⟩ : ByteArray)]) [.string (⟨#[]⟩ : ByteArray)] rfl Try.underlying22 Try.sizeOf9 Try.zeroValue9 rfl (by decide) (by decide) ⟨rfl, trivial⟩ (lvsC (by exact trivial) lvs0) rfl rfl) rfl (by decide) (cok1 (cconst rfl)) (fun b1 H2 hb4 s3 => ?_)
  refine dv (gyes_none rfl) (q_mv (v := va) rfl) rfl (by decide) (cok1 trivial) ?_
  refine dv (gyes_none rfl) (q_mv (v := va) rfl) rfl (by decide) (cok1 trivial) ?_
  refine dv (gyes_none rfl) (q_len_sl (l := z) Try.underlying22 (s3.sl hz) rfl) rfl (by decide) (cok1 trivial) ?_
  refine dv (gyes_none rfl) (OpQ.cast (v' := .int .i64 ((min z.length 60 : Nat) : Int)) (q_min rfl rfl) (by congr 1; split <;> omega)) rfl (by decide) (cok2 trivial (cconst rfl)) ?_
  obtain ⟨w5, hw5, qw5⟩ := slice_z hz (min z.length 60) (by omega)
  refine dv (gyes_none rfl) (qw5 s3 Try.underlying22 Try.sizeOf9 rfl rfl) rfl (by decide) (cok2 trivial trivial) ?_
  refine x_append (l := (z.take (min z.length 60))) (f := strv) [] hF s3 (by kernel_rfl) (j := 0) (1 + ((z.take (min z.length 60)).length)) (by simp) (gyes_none rfl) Try.underlying22 Try.underlying22 Try.type9 rfl rfl (by decide) rfl rfl rfl rfl (s3.sl hw5) (fun x => lc_scalar rfl) (by simp) (by show (2 * _ + 1000) * 16 ≤ _; first | omega | (simp only [List.length_take]; omega)) trivial trivial (by decide) rfl rfl (vs' := (([(⟨#[]⟩ : ByteArray)]) ++ (z.take (min z.length 60))).map strv) (by rw [List.map_append]; rfl) (fun b6 H7 hb9 s8 => ⟨?_, ?_⟩)
  · exact trivial
  refine dv (gyes_none rfl) (q_as (v := .slice (some ⟨b6, 0, none⟩) (1 + ((z.take (min z.length 60)).length)) (1 + ((z.take (min z.length 60)).length))) rfl) rfl (by decide) (cok1 trivial) ?_
  refine ⟨_, Wk.refl _ _, ?_⟩
  show awp _ _ _ _ _ _ _
  refine awp_seq ?_
  obtain ⟨nm, hnm⟩ : ∃ nm, nm = ([(⟨#[]⟩ : ByteArray)]) ++ (z.take (min z.length 60)) := ⟨_, rfl⟩
  have hnl : 1 ≤ nm.length ∧ nm.length ≤ 61 := by
    rw [hnm, List.length_append, List.length_take]
    show 1 ≤ 1 + _ ∧ 1 + _ ≤ 61
    omega
  have hnn : 1 + ((z.take (min z.length 60)).length) = nm.length := by rw [hnm]; first | rfl | (rw [List.length_append, List.length_take]; show _ = 1 + _; omega) | omega
  have hns : ∀ x ∈ nm, x.size ≤ 140737488355328 := by
    intro x hx
    rw [hnm] at hx
    rcases List.mem_append.1 hx with hx | hx
    · rw [List.mem_singleton.1 hx]; decide
    · exact hzs x (List.mem_of_mem_take hx)
  rw [← hnm] at s8
  refine awp_regs hF ?_
  refine dv (gyes_none rfl) (q_mv (v := .slice (some ⟨b6, 0, none⟩) (1 + ((z.take (min z.length 60)).length)) (1 + ((z.take (min z.length 60)).length))) rfl) rfl (by decide) (cok1 trivial) ?_
  refine dv (gyes_none rfl) (q_mv (v := .int .i64 bk) rfl) rfl (by decide) (cok1 trivial) ?_
  refine dv (gyes_none rfl) (q_call0 Try.call8 rfl (bbad_ok nm _ bk (s8.slj (j := 0) rfl hnn.symm (Nat.le_refl _)) hns h)) rfl (by decide) (call_ok rfl) ?_
  refine dv (gyes_none rfl) (q_mv (v := .tuple #[.agg #[.slice none 0 0, .slice none 0 0], .bool false]) rfl) rfl (by decide) (cok1 trivial) ?_
  refine dv (gyes_none rfl) (q_extract (v := .agg #[.slice none 0 0, .slice none 0 0]) rfl rfl) rfl (by decide) (cok1 trivial) ?_
  refine dv (gyes_none rfl) (q_extract (v := .bool false) rfl rfl) rfl (by decide) (cok1 trivial) ?_
  refine x_new (fun b => .pointer (some ⟨b, 0, none⟩)) s8 (gyes_none rfl) (q_alloc (vs := [.slice none 0 0, .slice none 0 0]) 2 Try.zeroValue26 (by first | exact flat_scalar rfl | exact flat_agg rfl) rfl) rfl (by decide) (by simp [Op.operands]) (fun b10 H11 hb13 s12 => ?_)
  refine x_store [] hF s12 (by kernel_rfl) (gyes_none rfl) (j := 0) (v := .agg #[.slice none 0 0, .slice none 0 0]) rfl Try.sizeOf26 rfl rfl rfl rfl rfl trivial (lcsA ⟨(lc_scalar rfl), (lc_scalar rfl), trivial⟩) (Nat.le_of_ble_eq_true rfl) trivial trivial rfl rfl (F' := [(b10, .cells true [.slice none 0 0, .slice none 0 0] 2), (b6, .cells true (nm.map strv) 1)]) rfl (fun H14 s15 => ⟨?_, ?_⟩)
  · exact trivial
  refine dv (gyes_none rfl) (q_as (v := .bool false) rfl) rfl (by decide) (cok1 trivial) ?_
  refine ⟨_, Wk.refl _ _, ?_⟩
  show awp _ _ _ _ _ _ _
  refine awp_seq ?_
  refine awp_seq ?_
  refine awp_regs hF ?_
  refine dv (gyes_none rfl) (q_mv (v := .int .i64 bk) rfl) rfl (by decide) (cok1 trivial) ?_
  refine dvb (gyes_none rfl) (q_int rfl rfl rfl) rfl (by decide) (cok2 trivial (cconst rfl)) (fun c1 => ?_) (fun c1 => ?_)
  ·
    replace c1 := of_decide_eq_true c1
    refine dv (gyes_none rfl) (q_mv (v := .bool true) rfl) rfl (by decide) (cok1 trivial) ?_
    refine dno rfl (.inl rfl) rfl (by decide) ?_
    refine dno rfl (.inl rfl) rfl (by decide) ?_
    refine dv (gyes_none rfl) (q_pt (v := .bool true) rfl rfl) rfl (by decide) (call_ok rfl) ?_
    refine ⟨_, Wk.refl _ _, ?_⟩
    show awp _ _ _ _ _ _ _
    refine awp_cond_t rfl ?_
    refine awp_seq ?_
    refine awp_regs hF ?_
    refine dv (gyes_none rfl) (q_mv (v := .bool false) rfl) rfl (by decide) (cok1 trivial) ?_
    refine dv (gyes_none rfl) (q_not (b := false) rfl) rfl (by decide) (cok1 trivial) ?_
    refine dv (gyes_none rfl) (q_mv (v := .bool true) rfl) rfl (by decide) (cok1 trivial) ?_
    refine dv (gyes_some rfl rfl) (q_field Try.underlying26 rfl Try.sizeOf24 rfl (s15.rd (j := 0) rfl)) rfl (by decide) (cok1 trivial) ?_
    refine dv (gyes_some rfl rfl) (q_load (v := .slice none 0 0) Try.isAgg24 rfl (s15.rd (j := 0) rfl) rfl) rfl (by decide) (cok1 trivial) ?_
    refine dv (gyes_some rfl rfl) (q_len_nil Try.underlying24 rfl) rfl (by decide) (cok1 trivial) ?_
    refine dv (gyes_some rfl rfl) (q_field Try.underlying26 rfl Try.sizeOf24 rfl (s15.rd (j := 0) rfl)) rfl (by decide) (cok1 trivial) ?_
    refine dv (gyes_some rfl rfl) (q_load (v := .slice none 0 0) Try.isAgg24 rfl (s15.rd (j := 0) rfl) rfl) rfl (by decide) (cok1 trivial) ?_
    refine dv (gyes_some rfl rfl) (q_len_nil Try.underlying24 rfl) rfl (by decide) (cok1 trivial) ?_
    refine dv (gyes_some rfl rfl) (OpQ.cast (v' := .int .i64 0) (q_int rfl rfl rfl) (congrArg _ ((i64_in (by omega)).trans (by first | rfl | omega | (push_cast; rfl))))) rfl (by decide) (cok2 trivial trivial) ?_
    refine dv (gyes_some rfl rfl) (OpQ.cast (v' := .bool true) (q_int rfl rfl rfl) (congrArg Value.bool (beq_self_eq_true _))) rfl (by decide) (cok2 trivial (cconst rfl)) ?_
    refine dv (gyes_none rfl) (q_pt (v := .bool true) rfl rfl) rfl (by decide) (call_ok rfl) ?_
    refine dv (gyes_none rfl) (q_as (v := .bool true) rfl) rfl (by decide) (cok1 trivial) ?_
    refine ⟨_, Wk.refl _ _, ?_⟩
    show awp _ _ _ _ _ _ _
    refine awp_ret_wk ?_
    refine ⟨_, Wk.refl _ _, ?_⟩
    repeat (with_reducible first | refine then_ret ?_ | refine blk_ret ?_ | refine then_exit ?_ | refine blk_exit ?_ | refine blk_exit' (by decide) ?_ | refine blk_normal ?_ | refine then_normal ?_ | refine retq_ret ?_ | refine retq_normal ?_ | refine ng_normal ?_ | refine ng_ret ?_ | refine ng_exit ?_)
    exact ret_none (v := .bool true) rfl s15.kp (.tmp rfl .nil) rfl rfl ⟨rfl, rfl⟩
  ·
    replace c1 := of_decide_eq_false c1
    refine dv (gyes_none rfl) (q_mv (v := .bool false) rfl) rfl (by decide) (cok1 trivial) ?_
    refine dv (gyes_some rfl rfl) (q_mv (v := .int .i64 bk) rfl) rfl (by decide) (cok1 trivial) ?_
    refine dvb (gyes_some rfl rfl) (q_int rfl rfl rfl) rfl (by decide) (cok2 trivial (cconst rfl)) (fun c2 => ?_) (fun c2 => ?_)
    ·
      replace c2 := of_decide_eq_true c2
      refine dv (gyes_none rfl) (q_pf (v := .bool true) rfl rfl) rfl (by decide) (call_ok rfl) ?_
      refine ⟨_, Wk.refl _ _, ?_⟩
      show awp _ _ _ _ _ _ _
      refine awp_cond_t rfl ?_
      refine awp_seq ?_
      refine awp_regs hF ?_
      refine dv (gyes_none rfl) (q_mv (v := .bool false) rfl) rfl (by decide) (cok1 trivial) ?_
      refine dv (gyes_none rfl) (q_not (b := false) rfl) rfl (by decide) (cok1 trivial) ?_
      refine dv (gyes_none rfl) (q_mv (v := .bool true) rfl) rfl (by decide) (cok1 trivial) ?_
      refine dv (gyes_some rfl rfl) (q_field Try.underlying26 rfl Try.sizeOf24 rfl (s15.rd (j := 0) rfl)) rfl (by decide) (cok1 trivial) ?_
      refine dv (gyes_some rfl rfl) (q_load (v := .slice none 0 0) Try.isAgg24 rfl (s15.rd (j := 0) rfl) rfl) rfl (by decide) (cok1 trivial) ?_
      refine dv (gyes_some rfl rfl) (q_len_nil Try.underlying24 rfl) rfl (by decide) (cok1 trivial) ?_
      refine dv (gyes_some rfl rfl) (q_field Try.underlying26 rfl Try.sizeOf24 rfl (s15.rd (j := 0) rfl)) rfl (by decide) (cok1 trivial) ?_
      refine dv (gyes_some rfl rfl) (q_load (v := .slice none 0 0) Try.isAgg24 rfl (s15.rd (j := 0) rfl) rfl) rfl (by decide) (cok1 trivial) ?_
      refine dv (gyes_some rfl rfl) (q_len_nil Try.underlying24 rfl) rfl (by decide) (cok1 trivial) ?_
      refine dv (gyes_some rfl rfl) (OpQ.cast (v' := .int .i64 0) (q_int rfl rfl rfl) (congrArg _ ((i64_in (by omega)).trans (by first | rfl | omega | (push_cast; rfl))))) rfl (by decide) (cok2 trivial trivial) ?_
      refine dv (gyes_some rfl rfl) (OpQ.cast (v' := .bool true) (q_int rfl rfl rfl) (congrArg Value.bool (beq_self_eq_true _))) rfl (by decide) (cok2 trivial (cconst rfl)) ?_
      refine dv (gyes_none rfl) (q_pt (v := .bool true) rfl rfl) rfl (by decide) (call_ok rfl) ?_
      refine dv (gyes_none rfl) (q_as (v := .bool true) rfl) rfl (by decide) (cok1 trivial) ?_
      refine ⟨_, Wk.refl _ _, ?_⟩
      show awp _ _ _ _ _ _ _
      refine awp_ret_wk ?_
      refine ⟨_, Wk.refl _ _, ?_⟩
      repeat (with_reducible first | refine then_ret ?_ | refine blk_ret ?_ | refine then_exit ?_ | refine blk_exit ?_ | refine blk_exit' (by decide) ?_ | refine blk_normal ?_ | refine then_normal ?_ | refine retq_ret ?_ | refine retq_normal ?_ | refine ng_normal ?_ | refine ng_ret ?_ | refine ng_exit ?_)
      exact ret_none (v := .bool true) rfl s15.kp (.tmp rfl .nil) rfl rfl ⟨rfl, rfl⟩
    ·
      replace c2 := of_decide_eq_false c2
      exfalso; omega
theorem sysvBuilds_ok {H0 : AHeap} (va : Value) (z : List ByteArray) (hz : Sl strv H0 va z) (hzs : ∀ x ∈ z, x.size ≤ 140737488355328) (bk : Int) (o : ByteArray) (hos : o.size ≤ 140737488355328) : ACalls Try.prog 6 [va, .int .i64 bk, .string o] H0 (Rets (.bool true) H0) := by
  by_cases h : 1 ≤ bk ∧ bk ≤ 256
  · have e : bk = ((bk.toNat : Nat) : Int) := by omega
    rw [e]
    exact sysvBuilds_good va z hz hzs o hos bk.toNat (by omega) (by omega)
  · exact sysvBuilds_bad va z hz hzs o hos bk h

end Go.Proofs.YtmoldjiooccppaaA


/-
  From a law's arguments, slices among them, to abstract states.
-/
namespace Go.Proofs.YtmoldjiooccppaaA
set_option linter.unusedVariables false
open Go Go.RowKit Go.Shelf
/-- The places of the arguments' blocks. -/
def rhoOf (ls : List (Option Loc)) : Ren := fun b => match ls[b]? with | some (some l) => .at l | _ => .none
theorem rhoOf_at {ls : List (Option Loc)} {b : Nat} {l : Loc} (h : rhoOf ls b = .at l) : ls[b]? = some (some l) := by
  unfold rhoOf at h
  split at h
  · cases h; assumption
  · cases h
theorem rhoOf_some {ls : List (Option Loc)} {b : Nat} {l : Loc} (h : ls[b]? = some (some l)) : rhoOf ls b = .at l := by unfold rhoOf; rw [h]
/-- A block of an argument, or none. -/
def ArgO (W : World) (ol : Option Loc) (o : AObj) : Prop :=
  (ol = none ∧ o = .none) ∨ ∃ lc vs, ol = some lc ∧ o = .cells false vs 1 ∧ lc.blk < W.heap.size ∧ ∀ ρ, ORel ρ lc W (.cells false vs 1)
def ArgOs (W : World) : List (Option Loc) → AHeap → Prop
  | [], [] => True
  | ol :: ls, o :: H => ArgO W ol o ∧ ArgOs W ls H
  | _, _ => False
theorem ArgOs.at {W : World} : ∀ {ls : List (Option Loc)} {H : AHeap}, ArgOs W ls H → ∀ (b : Nat) (ol : Option Loc), ls[b]? = some ol → ∃ o : AObj, H[b]? = some o ∧ ArgO W ol o
  | [], [], _, b, ol, h => by simp at h
  | [], _ :: _, h, _, _, _ => h.elim
  | _ :: _, [], h, _, _, _ => h.elim
  | x :: ls, o :: H, ⟨h1, h2⟩, b, ol, h => by
    cases b with
    | zero => simp at h; subst h; exact ⟨o, by simp, h1⟩
    | succ b => simpa using ArgOs.at h2 b ol (by simpa using h)
theorem ArgOs.at' {W : World} : ∀ {ls : List (Option Loc)} {H : AHeap}, ArgOs W ls H → ∀ (b : Nat) (o : AObj), H[b]? = some o → ∃ ol : Option Loc, ls[b]? = some ol ∧ ArgO W ol o
  | [], [], _, b, o, h => by simp at h
  | [], _ :: _, h, _, _, _ => h.elim
  | _ :: _, [], h, _, _, _ => h.elim
  | x :: ls, o' :: H, ⟨h1, h2⟩, b, o, h => by
    cases b with
    | zero => simp at h; subst h; exact ⟨x, by simp, h1⟩
    | succ b => simpa using ArgOs.at' h2 b o (by simpa using h)
theorem ArgOs.len {W : World} : ∀ {ls : List (Option Loc)} {H : AHeap}, ArgOs W ls H → ls.length = H.length
  | [], [], _ => rfl
  | [], _ :: _, h => h.elim
  | _ :: _, [], h => h.elim
  | x :: ls, o' :: H, ⟨h1, h2⟩ => by simp [ArgOs.len h2]
theorem ArgO.nwr {W : World} {ol : Option Loc} {o : AObj} (h : ArgO W ol o) : o.wr = false := by
  rcases h with ⟨_, rfl⟩ | ⟨lc, vs, _, rfl, _⟩ <;> rfl
theorem world_of_acallsN {P : Program} {f : FuncId} {args : List Value} {args' : Array Value} {H : AHeap} {ls : List (Option Loc)} {v : Value} {w : World} (hA : ArgOs w ls H) (ha : LRel (rhoOf ls) args args'.toList) (hv : Scalar v = true) (h : ACalls P f args H (Rets v H)) :
    Calls P f args' w fun e w' => e = .returned v ∧ Below w.heap.size w w' := by
  have hnw : ∀ b, ¬ wr H b := fun b ⟨o, h1, h2⟩ => by
    obtain ⟨ol, _, h3⟩ := hA.at' b o h1
    rw [h3.nwr] at h2; cases h2
  have hh : HRel (rhoOf ls) H w := by
    refine ⟨fun b hb => ?_, fun b l hb => ?_, fun b c l m _ _ _ hw => absurd hw (hnw b), fun g vs sz hg => ?_, fun b hb => ?_⟩
    · unfold rhoOf
      rw [List.getElem?_eq_none (by rw [hA.len]; exact hb)]
    · obtain ⟨o, h1, h2⟩ := hA.at b _ (rhoOf_at hb)
      rcases h2 with ⟨h3, _⟩ | ⟨lc, vs, h3, rfl, h4, h5⟩
      · cases h3
      · cases h3; exact ⟨_, h1, h4, h5 _⟩
    · obtain ⟨ol, _, h3⟩ := hA.at' g _ hg
      rcases h3 with ⟨_, h3⟩ | ⟨lc, vs, _, h3, _⟩ <;> cases h3
    · unfold rhoOf at hb
      split at hb <;> cases hb
  refine (h _ w args' hh ha).mono ?_
  rintro e w' ⟨v1, v', H', ρ', rfl, ⟨rfl, rfl⟩, k1, k2, k3, k4⟩
  rw [k1.scalar_eq hv]
  exact ⟨rfl, k3.os, k3.tape, k3.output, k3.size, fun k hk => k3.keep k hk fun ⟨b, l, _, _, hw⟩ => hnw b hw⟩
/-- A slice that came as an argument: its block, its value. -/
structure SArg {α : Type} (f : α → Value) (w : World) (v : Value) (l : List α) (b : Nat) (ol : Option Loc) (o : AObj) (va : Value) : Prop where
  obj : ArgO w ol o
  val : ∀ ρ : Ren, (∀ lc, ol = some lc → ρ b = .at lc) → VRel ρ va v
  sl : ∀ H : AHeap, H[b]? = some o → Sl f H va l
theorem sarg_of {α : Type} (f : α → Value) (hf : ∀ x, Scalar (f x) = true) {w : World} {a : Option Addr} {len cap : Nat} {zs : List α} (b : Nat)
    (hrow : (a = none ∧ len = 0 ∧ cap = 0) ∨ ∃ x, a = some x ∧ x.spot = none ∧ len ≤ cap ∧ zs.length = cap ∧ (∃ cs T fr, w.heap[x.block]? = some (.cells cs T fr)) ∧ ∀ i (h : i < zs.length), w.cell? (x.add i) = some (f zs[i])) :
    ∃ ol o va, SArg f w (.slice a len cap) (zs.take len) b ol o va := by
  rcases hrow with ⟨rfl, rfl, rfl⟩ | ⟨x, rfl, hsp, hl, hz, ⟨cs, T, fr, hb⟩, hcell⟩
  · exact ⟨none, .none, .slice none 0 0, .inl ⟨rfl, rfl⟩, fun ρ _ => .nilSlice, fun H _ => by rw [List.take_zero]; exact .nil⟩
  · have hlt : x.block < w.heap.size := (Array.getElem?_eq_some_iff.1 hb).1
    have hx : x = ⟨x.block, x.off, none⟩ := by cases x; simp at hsp; subst hsp; rfl
    have hc : ∀ i (h : i < zs.length), cs[x.off + i]? = some (f zs[i]) := fun i h => by
      have := hcell i h
      have e1 : x.add i = ⟨x.block, x.off + i, none⟩ := by
        rw [hx]
        unfold Addr.add
        split
        · subst i; rfl
        · rfl
      rw [e1] at this
      unfold World.cell? at this
      simp only [hb, Option.isSome_none, Bool.false_eq_true, if_false] at this
      exact this
    by_cases h0 : cap = 0
    · subst h0
      obtain rfl : len = 0 := by omega
      refine ⟨some ⟨x.block, 0, 0, 1⟩, .cells false [] 1, .slice (some ⟨b, 0, none⟩) 0 0, .inr ⟨_, [], rfl, rfl, hlt, fun ρ => ⟨rfl, cs, T, fr, hb, by simp, by simp, fun i hi => by simp at hi, fun h => by cases h⟩⟩, fun ρ hρ => ?_, fun H hH => ?_⟩
      · rw [hx]
        exact .slice (hρ _ rfl) (Nat.le_refl _) (Nat.le_refl _) (.inr rfl) (by simp)
      · rw [List.take_zero]
        exact .inr ⟨b, 0, 0, [], rfl, .inl ⟨false, hH⟩, by simp, by simp, fun i h => by simp at h⟩
    · have hsz : x.off + cap ≤ cs.size := by
        have := hc (cap - 1) (by omega)
        have := (Array.getElem?_eq_some_iff.1 this).1
        omega
      refine ⟨some ⟨x.block, x.off, x.off + cap, 1⟩, .cells false (zs.map f) 1, .slice (some ⟨b, 0, none⟩) len cap, .inr ⟨_, _, rfl, rfl, hlt, fun ρ => ⟨rfl, cs, T, fr, hb, by simp [hz], hsz, fun i hi => ?_, fun h => by cases h⟩⟩, fun ρ hρ => ?_, fun H hH => ?_⟩
      · have hi' : i < zs.length := by simpa using hi
        have h1 := hc i hi'
        have e1 : (zs.map f).getD i undef = f zs[i] := by simp [hi']
        have e2 : cs.getD (x.off + i) undef = f zs[i] := by rw [Array.getD_eq_getD_getElem?, h1]; rfl
        rw [e1]
        show VRel ρ (f zs[i]) (cs.getD (x.off + i) undef)
        rw [e2]
        exact .scalar (hf _) ρ
      · rw [hx]
        exact .slice (hρ _ rfl) hl (Nat.le_refl _) (.inl rfl) (by simp)
      · have hll : (zs.take len).length = len := by rw [List.length_take]; omega
        refine .inr ⟨b, 0, cap, zs.map f, by rw [hll], .inl ⟨false, hH⟩, by rw [hll]; simp; omega, by rw [hll]; exact hl, fun i h => ?_⟩
        rw [hll] at h
        simp [show i < zs.length by omega]
end Go.Proofs.YtmoldjiooccppaaA


/-
  Slices among a law's arguments, as the row's facts tell of them.
-/
namespace Go.Proofs.YtmoldjiooccppaaA
set_option linter.unusedVariables false
open Go Go.RowKit Go.Shelf Go.ChangeShapes
/-- A slice that came in lies in a block of cells. -/
theorem arg_block {P : Program} {w : World} {b0 : Nat} {t e : TypeId} {x : Addr} {len cap : Nat} (ht : P.underlying t = some (.slice e)) (hval : Value.okWide P w .any b0 t (.slice (some x) len cap)) : x.spot = none ∧ ∃ cs T fr, w.heap[x.block]? = some (.cells cs T fr) := by
  simp only [Value.okWide, ht, Cell.okWide, Cell.ok] at hval
  obtain ⟨_, _, _, h2, row, cells, h3, _⟩ := hval
  refine ⟨h2, ?_⟩
  unfold World.shape? at h3
  split at h3
  · exact ⟨_, _, _, by assumption⟩
  · cases h3
theorem weightsAll_mem {H : Type} {P : Program} {e : TypeId} {n : Nat} : ∀ {ds : List (DataW H)} {d : DataW H}, d ∈ ds → n ∈ d.weights P e → n ∈ DataW.weightsAll P e ds
  | [], d, h, _ => by simp at h
  | d' :: ds, d, h, hn => by
    simp only [DataW.weightsAll, List.mem_append]
    rcases List.mem_cons.1 h with rfl | h
    · exact .inl hn
    · exact .inr (weightsAll_mem h hn)
def RowF {α : Type} (f : α → Value) (w : World) (a : Option Addr) (len cap : Nat) (zs : List α) : Prop :=
  (a = none ∧ len = 0 ∧ cap = 0) ∨ ∃ x, a = some x ∧ x.spot = none ∧ len ≤ cap ∧ zs.length = cap ∧ (∃ cs T fr, w.heap[x.block]? = some (.cells cs T fr)) ∧ ∀ i (h : i < zs.length), w.cell? (x.add i) = some (f zs[i])
theorem arg_strs {H : Type} {enc : TypeId × Value → H} {P : Program} {w : World} {base b0 : Nat} {t e : TypeId} {a : Option Addr} {len cap : Nat} {d : DataW H} {ps : List MemPlace} (ht : P.underlying t = some (.slice e)) (he : P.underlying e = some .string) (hc : P.cellsOf e = 1)
    (hby : 0 < P.bytesOf e) {ts : List TypeId} {ds : List (DataW H)} {j : Nat} (hsz : (DataW.weightsEach P ts ds).all (· ≤ reachBytes) = true) (hts : ts[j]? = some t) (hds : ds[j]? = some d)
    (hval : Value.okWide P w .any b0 t (.slice a len cap)) (h : DataW.Trod enc P w base (fun _ => true) true t (.slice a len cap) d ps) : ∃ zs : List ByteArray, RowF strv w a len cap zs ∧ (∀ s ∈ zs, s.size ≤ 140737488355328) ∧ zs.length ≤ 140737488355328 := by
  obtain ⟨fuel, hf⟩ := h
  rcases open_strings ht he hc hf with ⟨hcs, _⟩ | ⟨x, l, c, zs, hcs, _, hl, hm, hz, hd, hcell, hwz⟩
  · simp [Value.cells] at hcs
    obtain ⟨rfl, rfl, rfl⟩ := hcs
    exact ⟨[], .inl ⟨rfl, rfl, rfl⟩, by simp, by simp⟩
  · simp [Value.cells] at hcs
    obtain ⟨rfl, rfl, rfl⟩ := hcs
    obtain ⟨h1, h2⟩ := arg_block ht hval
    have hr : reachBytes ≤ 140737488355328 := by decide
    simp only [Prod.mk.injEq] at hd
    obtain ⟨rfl, _⟩ := hd
    refine ⟨zs, .inr ⟨x, rfl, h1, hl, by simpa using hz, h2, fun i hi => ?_⟩, fun s hs => ?_, ?_⟩
    · have := hcell i hi
      rw [this]
      simp [strv, List.getD_eq_getElem?_getD, hi]
    · have hm : s.size ∈ DataW.weightsEach P ts ds := by
        refine DataW.weights_mem_each hts hds _ ?_
        simp only [DataW.weights, ht, List.mem_cons, List.mem_append]
        have hs' : s ∈ zs.take len ∨ s ∈ zs.drop len := by rw [← List.mem_append, List.take_append_drop]; exact hs
        have key : ∀ l : List ByteArray, s ∈ l → s.size ∈ DataW.weightsAll P e (strs l : List (DataW H)) := fun l hl => by
          refine weightsAll_mem (d := .lit (.string s.data.toList)) ?_ (by simp [DataW.weights])
          unfold strs
          exact List.mem_map.2 ⟨s, hl, rfl⟩
        rcases hs' with h | h
        · exact .inr (.inl (key _ h))
        · exact .inr (.inr (key _ h))
      have := List.all_eq_true.1 hsz _ hm
      simp at this
      omega
    · have h3 := sized_slice hsz hts hds ht
      simp only [strs, List.length_map, List.length_take, List.length_drop] at h3
      have h4 := Nat.le_mul_of_pos_right (min len zs.length + (zs.length - len)) hby
      omega
end Go.Proofs.YtmoldjiooccppaaA

