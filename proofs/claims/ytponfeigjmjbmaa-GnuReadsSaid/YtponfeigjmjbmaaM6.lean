/-
  Walks over abstract states: texts of one claim, merged.
-/
import Derived.Test.YtponfeigjmjbmaaM5
import Derived.Test.YtponfeigjmjbmaaProg
import Derived.KernelRfl
/-
  Walks of functions of the given program, and what they compute.
-/
namespace Go.Proofs.YtponfeigjmjbmaaA
set_option linter.unusedVariables false
open Go Go.RowKit Go.Shelf Go.Proofs
def gN (B : ByteArray) : Nat := atV B 0 4
def gF0 (B : ByteArray) : Nat := atV B 4 4
def gM (B : ByteArray) : Nat := atV B 8 4
def gSh (B : ByteArray) : Nat := atV B 12 4
def gA0 (B : ByteArray) : Nat := 16 + gM B * 8 + gN B * 4
def gBl (B : ByteArray) : List Nat := numE (partV B 16 (gM B * 8)) 8 (gM B)
def gBk (B : ByteArray) : List Nat := numE (partV B (16 + gM B * 8) (gN B * 4)) 4 (gN B)
def gBad (B : ByteArray) (i : Nat) : Bool := decide (nth (gBk B) i ≠ 0 ∧ (nth (gBk B) i < gF0 B ∨ 256 ≤ nth (gBk B) i))
def gX (B : ByteArray) : Nat := firstK (gBad B) (gN B)
def gC (B : ByteArray) : Nat := if B.size < 16 then 2 else if gN B = 0 ∨ gM B = 0 then 4 else if 256 < gN B ∨ 256 < gM B ∨ 256 < gF0 B then 6 else if ¬ gA0 B ≤ B.size then 2 else if gX B < gN B then 5 else if maxL (gBk B) = 0 then 0 else chC B (gF0 B) (maxL (gBk B)) (gA0 B)
def gAt (B : ByteArray) : Nat := if gC B = 5 then 16 + gM B * 8 + gX B * 4 else 0
def gK (B : ByteArray) : Nat := if maxL (gBk B) = 0 then 0 else chJ B (gF0 B) (maxL (gBk B)) (gA0 B) + 1
section
variable {B : ByteArray}
theorem chC_cases (B : ByteArray) (f last a : Nat) : chC B f last a = 6 ∨ chC B f last a = 2 ∨ chC B f last a = 0 := by unfold chC; split; exact .inl rfl; split; exact .inr (.inl rfl); exact .inr (.inr rfl)
theorem gc_err {c : Nat} (e : gC B = c) (h5 : c ≠ 5) : gC B = c ∧ gAt B = 0 := ⟨e, by unfold gAt; rw [if_neg (by rw [e]; exact h5)]⟩
theorem gc_short (h : B.size < 16) : gC B = 2 ∧ gAt B = 0 := gc_err (if_pos h) (by decide)
theorem gc_zero (h1 : ¬ B.size < 16) (h : gN B = 0 ∨ gM B = 0) : gC B = 4 ∧ gAt B = 0 := gc_err (by unfold gC; rw [if_neg h1, if_pos h]) (by decide)
theorem gc_many (h1 : ¬ B.size < 16) (h2 : ¬ (gN B = 0 ∨ gM B = 0)) (h : 256 < gN B ∨ 256 < gM B ∨ 256 < gF0 B) : gC B = 6 ∧ gAt B = 0 := gc_err (by unfold gC; rw [if_neg h1, if_neg h2, if_pos h]) (by decide)
theorem gc_out (h1 : ¬ B.size < 16) (h2 : ¬ (gN B = 0 ∨ gM B = 0)) (h3 : ¬ (256 < gN B ∨ 256 < gM B ∨ 256 < gF0 B)) (h : ¬ gA0 B ≤ B.size) : gC B = 2 ∧ gAt B = 0 := gc_err (by unfold gC; rw [if_neg h1, if_neg h2, if_neg h3, if_pos h]) (by decide)
theorem gc_bad (h1 : ¬ B.size < 16) (h2 : ¬ (gN B = 0 ∨ gM B = 0)) (h3 : ¬ (256 < gN B ∨ 256 < gM B ∨ 256 < gF0 B)) (h4 : gA0 B ≤ B.size) {i : Nat} (hi : i < gN B) (h : gBad B i = true) (hn : ∀ j, j < i → gBad B j = false) : gC B = 5 ∧ gAt B = 16 + gM B * 8 + i * 4 := by
  have ex : gX B = i := firstK_yes hi h hn
  have e : gC B = 5 := by unfold gC; rw [if_neg h1, if_neg h2, if_neg h3, if_neg (fun h => h h4), ex, if_pos hi]
  exact ⟨e, by unfold gAt; rw [if_pos e, ex]⟩
theorem gc_max (h1 : ¬ B.size < 16) (h2 : ¬ (gN B = 0 ∨ gM B = 0)) (h3 : ¬ (256 < gN B ∨ 256 < gM B ∨ 256 < gF0 B)) (h4 : gA0 B ≤ B.size) (hn : ∀ j, j < gN B → gBad B j = false) (h : maxL (gBk B) = 0) : gC B = 0 ∧ gAt B = 0 ∧ gK B = 0 := by
  have ex : gX B = gN B := firstK_no hn
  have e : gC B = 0 := by unfold gC; rw [if_neg h1, if_neg h2, if_neg h3, if_neg (fun h => h h4), ex, if_neg (Nat.lt_irrefl _), if_pos h]
  exact ⟨e, (gc_err e (by decide)).2, if_pos h⟩
theorem gc_chn (h1 : ¬ B.size < 16) (h2 : ¬ (gN B = 0 ∨ gM B = 0)) (h3 : ¬ (256 < gN B ∨ 256 < gM B ∨ 256 < gF0 B)) (h4 : gA0 B ≤ B.size) (hn : ∀ j, j < gN B → gBad B j = false) (h : ¬ maxL (gBk B) = 0) : gC B = chC B (gF0 B) (maxL (gBk B)) (gA0 B) ∧ gAt B = 0 ∧ gK B = chJ B (gF0 B) (maxL (gBk B)) (gA0 B) + 1 := by
  have ex : gX B = gN B := firstK_no hn
  have e : gC B = chC B (gF0 B) (maxL (gBk B)) (gA0 B) := by unfold gC; rw [if_neg h1, if_neg h2, if_neg h3, if_neg (fun h => h h4), ex, if_neg (Nat.lt_irrefl _), if_neg h]
  refine ⟨e, (gc_err e ?_).2, if_neg h⟩
  rcases chC_cases B (gF0 B) (maxL (gBk B)) (gA0 B) with h | h | h <;> rw [h] <;> decide
theorem gBad_y {i : Nat} (h : nth (gBk B) i ≠ 0) (h2 : nth (gBk B) i < gF0 B ∨ 256 ≤ nth (gBk B) i) : gBad B i = true := decide_eq_true ⟨h, h2⟩
theorem gBad_n {i : Nat} (h : ¬ (nth (gBk B) i ≠ 0 ∧ (nth (gBk B) i < gF0 B ∨ 256 ≤ nth (gBk B) i))) : gBad B i = false := decide_eq_false h
theorem numE_w {w : ByteArray} {sz k M : Nat} (h : ∀ i, i < k → (w.extract (i * sz) ((i + 1) * sz)).size ≤ sz) (hM : 256 ^ sz = M) : ∀ x ∈ numE w sz k, x < M := fun x hx => by
  obtain ⟨i, hi, rfl⟩ := List.mem_map.1 hx
  rw [← hM]
  exact getB_lt (h i (List.mem_range.1 hi))
theorem ext_le (w : ByteArray) (i sz : Nat) : (w.extract (i * sz) ((i + 1) * sz)).size ≤ sz := by rw [ByteArray.size_extract, Nat.add_mul, Nat.one_mul]; omega
theorem gBk_w : ∀ x ∈ gBk B, x < 4294967296 := numE_w (fun i _ => ext_le _ _ _) rfl
theorem gBl_w : ∀ x ∈ gBl B, x < 18446744073709551616 := numE_w (fun i _ => ext_le _ _ _) rfl
theorem gBk_len : (gBk B).length = gN B := numE_len _ _ _
theorem gBl_len : (gBl B).length = gM B := numE_len _ _ _
end
set_option maxRecDepth 100000 in
set_option maxHeartbeats 4000000 in
theorem failOf_ok {H0 : AHeap} (c : Nat) : ACalls Try.prog 29 [.int .i64 ((c : Nat) : Int)] H0 (Rets (.agg #[.int .i64 ((c : Nat) : Int), .int .u64 0, .string ⟨#[]⟩]) H0) := by
  have hF : Wd Fence.wide := .inl rfl
  have hM : Try.prog.follows .mixedOrders = true := by kernel_rfl
  have s0 := St.begin H0
  refine acalls_st Try.func29 rfl Try.ntmps29 rfl ?_
  refine awp_seq ?_
  refine awp_regs hF ?_
  refine x_new (fun b => .pointer (some ⟨b, 0, none⟩)) s0 (gyes_none rfl) (q_alloc (vs := [.int .i64 0, .int .u64 0, .string ⟨#[]⟩]) 3 Try.zeroValue47 (by first | exact flat_scalar rfl | exact flat_agg rfl) rfl) rfl (by decide) (by simp [Op.operands, Call.operands]) (fun b1 H2 hb4 s3 => ?_)
  refine ⟨_, Wk.refl _ _, ?_⟩
  show awp _ _ _ _ _ _ _
  refine awp_seq ?_
  refine awp_regs hF ?_
  refine dv (gyes_none rfl) (q_mv (v := .int .i64 ((c : Nat) : Int)) rfl) rfl (by decide) (cok1 trivial) ?_
  refine dv (gyes_none rfl) (q_buildL (ds := [.int .i64 ((c : Nat) : Int), .int .u64 0, .string ⟨#[]⟩]) [(0, 1), (1, 1), (2, 1)] [.int .i64 ((c : Nat) : Int)] Try.underlying47 Try.zeroValue47 (by first | exact flat_agg rfl | exact flat_scalar rfl) (by kernel_rfl) ⟨rfl, trivial⟩ (lvsC (by exact trivial) lvs0) rfl) rfl (by decide) (cok1 trivial) ?_
  refine x_store [] hF s3 (by kernel_rfl) (gyes_none rfl) (j := 0) (v := .agg #[.int .i64 ((c : Nat) : Int), .int .u64 0, .string ⟨#[]⟩]) rfl Try.sizeOf47 rfl rfl rfl rfl rfl trivial (lcsA ⟨(lc_scalar rfl), (lc_scalar rfl), (lc_scalar rfl), trivial⟩) (Nat.le_of_ble_eq_true rfl) trivial trivial rfl rfl (F' := [(b1, .cells true [.int .i64 ((c : Nat) : Int), .int .u64 0, .string ⟨#[]⟩] 3)]) rfl (fun H5 s6 => ⟨?_, ?_⟩)
  · exact trivial
  refine ⟨_, Wk.refl _ _, ?_⟩
  show awp _ _ _ _ _ _ _
  refine awp_ret_wk ?_
  refine ⟨_, Wk.refl _ _, ?_⟩
  repeat (with_reducible first | refine then_ret ?_ | refine blk_ret ?_ | refine then_exit ?_ | refine blk_exit ?_ | refine blk_exit' (by decide) ?_ | refine blk_normal ?_ | refine then_normal ?_ | refine retq_ret ?_ | refine retq_normal ?_ | refine ng_normal ?_ | refine ng_ret ?_ | refine ng_exit ?_)
  exact ret_none (v := .agg #[.int .i64 ((c : Nat) : Int), .int .u64 0, .string ⟨#[]⟩]) rfl s6.kp (.agg rfl Try.isAgg47 Try.sizeOf47 (s6.rd (j := 0) rfl) (Nat.le_of_ble_eq_true rfl) rfl .nil) rfl rfl ⟨rfl, rfl⟩
set_option maxRecDepth 100000 in
set_option maxHeartbeats 4000000 in
theorem failAt_ok {H0 : AHeap} (c a : Nat) : ACalls Try.prog 31 [.int .i64 ((c : Nat) : Int), .int .u64 ((a : Nat) : Int)] H0 (Rets (.agg #[.int .i64 ((c : Nat) : Int), .int .u64 ((a : Nat) : Int), .string ⟨#[]⟩]) H0) := by
  have hF : Wd Fence.wide := .inl rfl
  have hM : Try.prog.follows .mixedOrders = true := by kernel_rfl
  have s0 := St.begin H0
  refine acalls_st Try.func31 rfl Try.ntmps31 rfl ?_
  refine awp_seq ?_
  refine awp_regs hF ?_
  refine x_new (fun b => .pointer (some ⟨b, 0, none⟩)) s0 (gyes_none rfl) (q_alloc (vs := [.int .i64 0, .int .u64 0, .string ⟨#[]⟩]) 3 Try.zeroValue47 (by first | exact flat_scalar rfl | exact flat_agg rfl) rfl) rfl (by decide) (by simp [Op.operands, Call.operands]) (fun b1 H2 hb4 s3 => ?_)
  refine ⟨_, Wk.refl _ _, ?_⟩
  show awp _ _ _ _ _ _ _
  refine awp_seq ?_
  refine awp_regs hF ?_
  refine dv (gyes_none rfl) (q_mv (v := .int .i64 ((c : Nat) : Int)) rfl) rfl (by decide) (cok1 trivial) ?_
  refine dv (gyes_none rfl) (q_mv (v := .int .u64 ((a : Nat) : Int)) rfl) rfl (by decide) (cok1 trivial) ?_
  refine dv (gyes_none rfl) (q_buildL (ds := [.int .i64 ((c : Nat) : Int), .int .u64 ((a : Nat) : Int), .string ⟨#[]⟩]) [(0, 1), (1, 1), (2, 1)] [.int .i64 ((c : Nat) : Int), .int .u64 ((a : Nat) : Int)] Try.underlying47 Try.zeroValue47 (by first | exact flat_agg rfl | exact flat_scalar rfl) (by kernel_rfl) ⟨rfl, rfl, trivial⟩ (lvsC (by exact trivial) (lvsC (by exact trivial) lvs0)) rfl) rfl (by decide) (cok2 trivial trivial) ?_
  refine x_store [] hF s3 (by kernel_rfl) (gyes_none rfl) (j := 0) (v := .agg #[.int .i64 ((c : Nat) : Int), .int .u64 ((a : Nat) : Int), .string ⟨#[]⟩]) rfl Try.sizeOf47 rfl rfl rfl rfl rfl trivial (lcsA ⟨(lc_scalar rfl), (lc_scalar rfl), (lc_scalar rfl), trivial⟩) (Nat.le_of_ble_eq_true rfl) trivial trivial rfl rfl (F' := [(b1, .cells true [.int .i64 ((c : Nat) : Int), .int .u64 ((a : Nat) : Int), .string ⟨#[]⟩] 3)]) rfl (fun H5 s6 => ⟨?_, ?_⟩)
  · exact trivial
  refine ⟨_, Wk.refl _ _, ?_⟩
  show awp _ _ _ _ _ _ _
  refine awp_ret_wk ?_
  refine ⟨_, Wk.refl _ _, ?_⟩
  repeat (with_reducible first | refine then_ret ?_ | refine blk_ret ?_ | refine then_exit ?_ | refine blk_exit ?_ | refine blk_exit' (by decide) ?_ | refine blk_normal ?_ | refine then_normal ?_ | refine retq_ret ?_ | refine retq_normal ?_ | refine ng_normal ?_ | refine ng_ret ?_ | refine ng_exit ?_)
  exact ret_none (v := .agg #[.int .i64 ((c : Nat) : Int), .int .u64 ((a : Nat) : Int), .string ⟨#[]⟩]) rfl s6.kp (.agg rfl Try.isAgg47 Try.sizeOf47 (s6.rd (j := 0) rfl) (Nat.le_of_ble_eq_true rfl) rfl .nil) rfl rfl ⟨rfl, rfl⟩
set_option maxRecDepth 100000 in
set_option maxHeartbeats 4000000 in
theorem number_ok {H0 : AHeap} (B : ByteArray) (a : Nat) (hB : B.size ≤ 140737488355328) (ha : a < 1000) : ACalls Try.prog 28 [.string B, .int .u64 ((a : Nat) : Int)] H0 (Rets (.int .u64 ((atV B a 4 : Nat) : Int)) H0) := by
  have hF : Wd Fence.wide := .inl rfl
  have hM : Try.prog.follows .mixedOrders = true := by kernel_rfl
  have s0 := St.begin H0
  refine acalls_st Try.func28 rfl Try.ntmps28 rfl ?_
  refine awp_seq ?_
  refine awp_regs hF ?_
  refine dv (gyes_none rfl) (q_as (v := .int .u64 0) rfl) rfl (by decide) (cok1 (cconst rfl)) ?_
  refine ⟨_, Wk.refl _ _, ?_⟩
  show awp _ _ _ _ _ _ _
  refine awp_seq ?_
  refine awp_regs hF ?_
  refine dv (gyes_none rfl) (q_mv (v := .string B) rfl) rfl (by decide) (cok1 trivial) ?_
  refine dv (gyes_none rfl) (q_mv (v := .int .u64 ((a : Nat) : Int)) rfl) rfl (by decide) (cok1 trivial) ?_
  refine dv (gyes_none rfl) (q_call0 Try.call43 rfl (at_ok B a 4 (by first | assumption | omega) (by omega) (by omega) (by omega))) rfl (by decide) (call_ok rfl) ?_
  refine dv (gyes_none rfl) (q_mv (v := .tuple #[.int .u64 ((atV B a 4 : Nat) : Int), .bool (decide (a + 4 ≤ B.size))]) rfl) rfl (by decide) (cok1 trivial) ?_
  refine dv (gyes_none rfl) (q_extract (v := .int .u64 ((atV B a 4 : Nat) : Int)) rfl rfl) rfl (by decide) (cok1 trivial) ?_
  refine dv (gyes_none rfl) (q_extract (v := .bool (decide (a + 4 ≤ B.size))) rfl rfl) rfl (by decide) (cok1 trivial) ?_
  refine dv (gyes_none rfl) (q_as (v := .int .u64 ((atV B a 4 : Nat) : Int)) rfl) rfl (by decide) (cok1 trivial) ?_
  refine dv (gyes_none rfl) (q_as (v := .bool (decide (a + 4 ≤ B.size))) rfl) rfl (by decide) (cok1 trivial) ?_
  refine ⟨_, Wk.refl _ _, ?_⟩
  show awp _ _ _ _ _ _ _
  refine awp_seq ?_
  refine awp_regs hF ?_
  refine dv (gyes_none rfl) (q_mv (v := .int .u64 ((atV B a 4 : Nat) : Int)) rfl) rfl (by decide) (cok1 trivial) ?_
  refine dv (gyes_none rfl) (q_as (v := .int .u64 ((atV B a 4 : Nat) : Int)) rfl) rfl (by decide) (cok1 trivial) ?_
  refine ⟨_, Wk.refl _ _, ?_⟩
  show awp _ _ _ _ _ _ _
  refine awp_ret_wk ?_
  refine ⟨_, Wk.refl _ _, ?_⟩
  repeat (with_reducible first | refine then_ret ?_ | refine blk_ret ?_ | refine then_exit ?_ | refine blk_exit ?_ | refine blk_exit' (by decide) ?_ | refine blk_normal ?_ | refine then_normal ?_ | refine retq_ret ?_ | refine retq_normal ?_ | refine ng_normal ?_ | refine ng_ret ?_ | refine ng_exit ?_)
  exact ret_none (v := .int .u64 ((atV B a 4 : Nat) : Int)) rfl s0.kp (.tmp rfl .nil) rfl rfl ⟨rfl, rfl⟩
set_option maxRecDepth 100000 in
set_option maxHeartbeats 4000000 in
theorem read_no {H0 : AHeap} (B : ByteArray) (hB : B.size ≤ 140737488355328) (hno : ¬ gA0 B ≤ B.size) : ACalls Try.prog 15 [.string B] H0 (fun v H' => (gC B ≠ 0 ∧ v = .tuple #[.agg #[.int .u32 0, .int .u32 0, .slice none 0 0, .slice none 0 0, .slice none 0 0], .agg #[.int .i64 ((gC B : Nat) : Int), .int .u64 ((gAt B : Nat) : Int), .string ⟨#[]⟩]] ∧ K0 H0 H') ∨ (gC B = 0 ∧ ∃ b1 b2 b3, v = .tuple #[.agg #[.int .u32 ((gF0 B : Nat) : Int), .int .u32 ((gSh B : Nat) : Int), .slice (some ⟨b1, 0, none⟩) (gM B) (gM B), .slice (some ⟨b2, 0, none⟩) (gN B) (gN B), .slice (some ⟨b3, 0, none⟩) (gK B) (gK B)], .agg #[.int .i64 0, .int .u64 0, .string ⟨#[]⟩]] ∧ NewL H0 H' [(b3, .cells true ((chL B (gA0 B) (gK B)).map u32v) 1), (b2, .cells true ((gBk B).map u32v) 1), (b1, .cells true ((gBl B).map u64v) 1)])) := by
  have hF : Wd Fence.wide := .inl rfl
  have hM : Try.prog.follows .mixedOrders = true := by kernel_rfl
  have hn4 : gN B < 4294967296 := atV_lt4 B 0
  have hf4 : gF0 B < 4294967296 := atV_lt4 B 4
  have hm4 : gM B < 4294967296 := atV_lt4 B 8
  have hs4 : gSh B < 4294967296 := atV_lt4 B 12
  have hbl := gBk_len (B := B)
  have hgA : gA0 B = 16 + gM B * 8 + gN B * 4 := rfl
  have s0 := St.begin H0
  refine acalls_st Try.func15 rfl Try.ntmps15 rfl ?_
  refine awp_seq ?_
  refine awp_regs hF ?_
  refine x_new (fun b => .pointer (some ⟨b, 0, none⟩)) s0 (gyes_none rfl) (q_alloc (vs := [.int .u32 0, .int .u32 0, .slice none 0 0, .slice none 0 0, .slice none 0 0]) 5 Try.zeroValue31 (by first | exact flat_scalar rfl | exact flat_agg rfl) rfl) rfl (by decide) (by simp [Op.operands, Call.operands]) (fun b1 H2 hb4 s3 => ?_)
  refine x_new (fun b => .pointer (some ⟨b, 0, none⟩)) s3 (gyes_none rfl) (q_alloc (vs := [.int .i64 0, .int .u64 0, .string ⟨#[]⟩]) 3 Try.zeroValue47 (by first | exact flat_scalar rfl | exact flat_agg rfl) rfl) rfl (by decide) (by simp [Op.operands, Call.operands]) (fun b5 H6 hb8 s7 => ?_)
  refine ⟨_, Wk.refl _ _, ?_⟩
  show awp _ _ _ _ _ _ _
  refine awp_seq ?_
  refine awp_regs hF ?_
  refine dv (gyes_none rfl) (q_mv (v := .string B) rfl) rfl (by decide) (cok1 trivial) ?_
  refine dv (gyes_none rfl) (q_call0 Try.call28 rfl (number_ok B 0 hB (by decide))) rfl (by decide) (call_ok rfl) ?_
  refine dv (gyes_none rfl) (q_mv (v := .string B) rfl) rfl (by decide) (cok1 trivial) ?_
  refine dv (gyes_none rfl) (q_call0 Try.call28 rfl (number_ok B 4 hB (by decide))) rfl (by decide) (call_ok rfl) ?_
  refine dv (gyes_none rfl) (q_mv (v := .string B) rfl) rfl (by decide) (cok1 trivial) ?_
  refine dv (gyes_none rfl) (q_call0 Try.call28 rfl (number_ok B 8 hB (by decide))) rfl (by decide) (call_ok rfl) ?_
  refine dv (gyes_none rfl) (q_mv (v := .string B) rfl) rfl (by decide) (cok1 trivial) ?_
  refine dv (gyes_none rfl) (q_call0 Try.call28 rfl (number_ok B 12 hB (by decide))) rfl (by decide) (call_ok rfl) ?_
  refine dv (gyes_none rfl) (q_as (v := .int .u64 ((gN B : Nat) : Int)) rfl) rfl (by decide) (cok1 trivial) ?_
  refine dv (gyes_none rfl) (q_as (v := .int .u64 ((gF0 B : Nat) : Int)) rfl) rfl (by decide) (cok1 trivial) ?_
  refine dv (gyes_none rfl) (q_as (v := .int .u64 ((gM B : Nat) : Int)) rfl) rfl (by decide) (cok1 trivial) ?_
  refine dv (gyes_none rfl) (q_as (v := .int .u64 ((gSh B : Nat) : Int)) rfl) rfl (by decide) (cok1 trivial) ?_
  refine ⟨_, Wk.refl _ _, ?_⟩
  show awp _ _ _ _ _ _ _
  refine awp_seq ?_
  refine awp_regs hF ?_
  refine dv (gyes_none rfl) (q_mv (v := .int .u64 ((gF0 B : Nat) : Int)) rfl) rfl (by decide) (cok1 trivial) ?_
  refine dv (gyes_none rfl) (q_convin (a := ((gF0 B : Nat) : Int)) Try.underlying45 Try.underlying27 rfl (u32_in (by omega))) rfl (by decide) (cok1 trivial) ?_
  refine dv (gyes_none rfl) (q_mv (v := .int .u64 ((gSh B : Nat) : Int)) rfl) rfl (by decide) (cok1 trivial) ?_
  refine dv (gyes_none rfl) (q_convin (a := ((gSh B : Nat) : Int)) Try.underlying45 Try.underlying27 rfl (u32_in (by omega))) rfl (by decide) (cok1 trivial) ?_
  refine dv (gyes_none rfl) (q_buildL (ds := [.int .u32 ((gF0 B : Nat) : Int), .int .u32 ((gSh B : Nat) : Int), .slice none 0 0, .slice none 0 0, .slice none 0 0]) [(0, 1), (1, 1), (2, 1), (3, 1), (4, 1)] [.int .u32 ((gF0 B : Nat) : Int), .int .u32 ((gSh B : Nat) : Int)] Try.underlying31 Try.zeroValue31 (by first | exact flat_agg rfl | exact flat_scalar rfl) (by kernel_rfl) ⟨rfl, rfl, trivial⟩ (lvsC (by exact trivial) (lvsC (by exact trivial) lvs0)) rfl) rfl (by decide) (cok2 trivial trivial) ?_
  refine x_new (fun b => .pointer (some ⟨b, 0, none⟩)) s7 (gyes_none rfl) (q_alloc (vs := [.int .u32 0, .int .u32 0, .slice none 0 0, .slice none 0 0, .slice none 0 0]) 5 Try.zeroValue31 (by first | exact flat_scalar rfl | exact flat_agg rfl) rfl) rfl (by decide) (by simp [Op.operands, Call.operands]) (fun b9 H10 hb12 s11 => ?_)
  refine x_store [] hF s11 (by kernel_rfl) (gyes_none rfl) (j := 0) (v := .agg #[.int .u32 ((gF0 B : Nat) : Int), .int .u32 ((gSh B : Nat) : Int), .slice none 0 0, .slice none 0 0, .slice none 0 0]) rfl Try.sizeOf31 rfl rfl rfl rfl rfl trivial (lcsA ⟨(lc_scalar rfl), (lc_scalar rfl), (lc_scalar rfl), (lc_scalar rfl), (lc_scalar rfl), trivial⟩) (Nat.le_of_ble_eq_true rfl) trivial trivial rfl rfl (F' := [(b9, .cells true [.int .u32 ((gF0 B : Nat) : Int), .int .u32 ((gSh B : Nat) : Int), .slice none 0 0, .slice none 0 0, .slice none 0 0] 5), (b5, .cells true [.int .i64 0, .int .u64 0, .string ⟨#[]⟩] 3), (b1, .cells true [.int .u32 0, .int .u32 0, .slice none 0 0, .slice none 0 0, .slice none 0 0] 5)]) rfl (fun H13 s14 => ⟨?_, ?_⟩)
  · exact trivial
  refine ⟨_, Wk.refl _ _, ?_⟩
  show awp _ _ _ _ _ _ _
  refine awp_seq ?_
  refine awp_block ?_
  refine awp_seq ?_
  refine awp_regs hF ?_
  refine dv (gyes_none rfl) (q_mv (v := .string B) rfl) rfl (by decide) (cok1 trivial) ?_
  refine dv (gyes_none rfl) (q_len_str Try.underlying9 rfl) rfl (by decide) (cok1 trivial) ?_
  refine dvb (gyes_none rfl) (q_int rfl rfl rfl) rfl (by decide) (cok2 trivial (cconst rfl)) (fun c1 => ?_) (fun c1 => ?_)
  ·
    replace c1 := of_decide_eq_true c1
    refine dv (gyes_none rfl) (q_as (v := .bool true) rfl) rfl (by decide) (cok1 trivial) ?_
    refine ⟨_, Wk.refl _ _, ?_⟩
    show awp _ _ _ _ _ _ _
    refine awp_cond_t rfl ?_
    refine awp_seq ?_
    refine awp_regs hF ?_
    refine dv (gyes_none rfl) (q_buildL (ds := [.int .u32 0, .int .u32 0, .slice none 0 0, .slice none 0 0, .slice none 0 0]) [(0, 1), (1, 1), (2, 1), (3, 1), (4, 1)] [] Try.underlying31 Try.zeroValue31 (by first | exact flat_agg rfl | exact flat_scalar rfl) (by kernel_rfl) trivial lvs0 rfl) rfl (by decide) (by simp [Op.operands, Call.operands]) ?_
    refine dv (gyes_none rfl) (q_call0 Try.call29 rfl (failOf_ok 2)) rfl (by decide) (cok2 trivial (cconst rfl)) ?_
    refine x_store [] hF s14 (by kernel_rfl) (gyes_none rfl) (j := 2) (v := .agg #[.int .u32 0, .int .u32 0, .slice none 0 0, .slice none 0 0, .slice none 0 0]) rfl Try.sizeOf31 rfl rfl rfl rfl rfl trivial (lcsA ⟨(lc_scalar rfl), (lc_scalar rfl), (lc_scalar rfl), (lc_scalar rfl), (lc_scalar rfl), trivial⟩) (Nat.le_of_ble_eq_true rfl) trivial trivial rfl rfl (F' := [(b9, .cells true [.int .u32 ((gF0 B : Nat) : Int), .int .u32 ((gSh B : Nat) : Int), .slice none 0 0, .slice none 0 0, .slice none 0 0] 5), (b5, .cells true [.int .i64 0, .int .u64 0, .string ⟨#[]⟩] 3), (b1, .cells true [.int .u32 0, .int .u32 0, .slice none 0 0, .slice none 0 0, .slice none 0 0] 5)]) rfl (fun H15 s16 => ⟨?_, ?_⟩)
    · exact trivial
    refine x_store [] hF s16 (by kernel_rfl) (gyes_none rfl) (j := 1) (v := .agg #[.int .i64 2, .int .u64 0, .string (⟨#[]⟩ : ByteArray)]) rfl Try.sizeOf47 rfl rfl rfl rfl rfl trivial (lcsA ⟨(lc_scalar rfl), (lc_scalar rfl), (lc_scalar rfl), trivial⟩) (Nat.le_of_ble_eq_true rfl) trivial trivial rfl rfl (F' := [(b9, .cells true [.int .u32 ((gF0 B : Nat) : Int), .int .u32 ((gSh B : Nat) : Int), .slice none 0 0, .slice none 0 0, .slice none 0 0] 5), (b5, .cells true [.int .i64 2, .int .u64 0, .string (⟨#[]⟩ : ByteArray)] 3), (b1, .cells true [.int .u32 0, .int .u32 0, .slice none 0 0, .slice none 0 0, .slice none 0 0] 5)]) rfl (fun H17 s18 => ⟨?_, ?_⟩)
    · exact trivial
    refine ⟨_, Wk.refl _ _, ?_⟩
    show awp _ _ _ _ _ _ _
    refine awp_ret_wk ?_
    obtain ⟨e1, e2⟩ := gc_short (B := B) (by omega)
    refine ⟨_, Wk.refl _ _, ?_⟩
    repeat (with_reducible first | refine then_ret ?_ | refine blk_ret ?_ | refine then_exit ?_ | refine blk_exit ?_ | refine blk_exit' (by decide) ?_ | refine blk_normal ?_ | refine then_normal ?_ | refine retq_ret ?_ | refine retq_normal ?_ | refine ng_normal ?_ | refine ng_ret ?_ | refine ng_exit ?_)
    refine ret_is (v := .tuple #[.agg #[.int .u32 0, .int .u32 0, .slice none 0 0, .slice none 0 0, .slice none 0 0], .agg #[.int .i64 2, .int .u64 0, .string (⟨#[]⟩ : ByteArray)]]) rfl (.agg rfl Try.isAgg31 Try.sizeOf31 (s18.rd (j := 2) rfl) (Nat.le_of_ble_eq_true rfl) rfl (.agg rfl Try.isAgg47 Try.sizeOf47 (s18.rd (j := 1) rfl) (Nat.le_of_ble_eq_true rfl) rfl .nil)) rfl ?_
    exact .inl ⟨by rw [e1]; decide, by rw [e1, e2]; first | done | rfl, s18.kp⟩
  ·
    replace c1 := of_decide_eq_false c1
    refine dv (gyes_none rfl) (q_as (v := .bool false) rfl) rfl (by decide) (cok1 trivial) ?_
    refine ⟨_, Wk.refl _ _, ?_⟩
    show awp _ _ _ _ _ _ _
    refine awp_cond_f rfl ?_
    refine awp_seq ?_
    refine awp_regs hF ?_
    refine dv (gyes_none rfl) (q_mv (v := .int .u64 ((gN B : Nat) : Int)) rfl) rfl (by decide) (cok1 trivial) ?_
    refine dvb (gyes_none rfl) (q_int rfl rfl rfl) rfl (by decide) (cok2 trivial (cconst rfl)) (fun c2 => ?_) (fun c2 => ?_)
    ·
      replace c2 := eq_of_beq c2
      refine dv (gyes_none rfl) (q_mv (v := .bool true) rfl) rfl (by decide) (cok1 trivial) ?_
      refine dno rfl (.inl rfl) rfl (by decide) ?_
      refine dno rfl (.inl rfl) rfl (by decide) ?_
      refine dv (gyes_none rfl) (q_pt (v := .bool true) rfl rfl) rfl (by decide) (call_ok rfl) ?_
      refine dv (gyes_none rfl) (q_as (v := .bool true) rfl) rfl (by decide) (cok1 trivial) ?_
      refine ⟨_, Wk.refl _ _, ?_⟩
      show awp _ _ _ _ _ _ _
      refine awp_cond_t rfl ?_
      refine awp_seq ?_
      refine awp_regs hF ?_
      refine dv (gyes_none rfl) (q_buildL (ds := [.int .u32 0, .int .u32 0, .slice none 0 0, .slice none 0 0, .slice none 0 0]) [(0, 1), (1, 1), (2, 1), (3, 1), (4, 1)] [] Try.underlying31 Try.zeroValue31 (by first | exact flat_agg rfl | exact flat_scalar rfl) (by kernel_rfl) trivial lvs0 rfl) rfl (by decide) (by simp [Op.operands, Call.operands]) ?_
      refine dv (gyes_none rfl) (q_call0 Try.call29 rfl (failOf_ok 4)) rfl (by decide) (cok2 trivial (cconst rfl)) ?_
      refine x_store [] hF s14 (by kernel_rfl) (gyes_none rfl) (j := 2) (v := .agg #[.int .u32 0, .int .u32 0, .slice none 0 0, .slice none 0 0, .slice none 0 0]) rfl Try.sizeOf31 rfl rfl rfl rfl rfl trivial (lcsA ⟨(lc_scalar rfl), (lc_scalar rfl), (lc_scalar rfl), (lc_scalar rfl), (lc_scalar rfl), trivial⟩) (Nat.le_of_ble_eq_true rfl) trivial trivial rfl rfl (F' := [(b9, .cells true [.int .u32 ((gF0 B : Nat) : Int), .int .u32 ((gSh B : Nat) : Int), .slice none 0 0, .slice none 0 0, .slice none 0 0] 5), (b5, .cells true [.int .i64 0, .int .u64 0, .string ⟨#[]⟩] 3), (b1, .cells true [.int .u32 0, .int .u32 0, .slice none 0 0, .slice none 0 0, .slice none 0 0] 5)]) rfl (fun H19 s20 => ⟨?_, ?_⟩)
      · exact trivial
      refine x_store [] hF s20 (by kernel_rfl) (gyes_none rfl) (j := 1) (v := .agg #[.int .i64 4, .int .u64 0, .string (⟨#[]⟩ : ByteArray)]) rfl Try.sizeOf47 rfl rfl rfl rfl rfl trivial (lcsA ⟨(lc_scalar rfl), (lc_scalar rfl), (lc_scalar rfl), trivial⟩) (Nat.le_of_ble_eq_true rfl) trivial trivial rfl rfl (F' := [(b9, .cells true [.int .u32 ((gF0 B : Nat) : Int), .int .u32 ((gSh B : Nat) : Int), .slice none 0 0, .slice none 0 0, .slice none 0 0] 5), (b5, .cells true [.int .i64 4, .int .u64 0, .string (⟨#[]⟩ : ByteArray)] 3), (b1, .cells true [.int .u32 0, .int .u32 0, .slice none 0 0, .slice none 0 0, .slice none 0 0] 5)]) rfl (fun H21 s22 => ⟨?_, ?_⟩)
      · exact trivial
      refine ⟨_, Wk.refl _ _, ?_⟩
      show awp _ _ _ _ _ _ _
      refine awp_ret_wk ?_
      obtain ⟨e1, e2⟩ := gc_zero (B := B) (by omega) (by omega)
      refine ⟨_, Wk.refl _ _, ?_⟩
      repeat (with_reducible first | refine then_ret ?_ | refine blk_ret ?_ | refine then_exit ?_ | refine blk_exit ?_ | refine blk_exit' (by decide) ?_ | refine blk_normal ?_ | refine then_normal ?_ | refine retq_ret ?_ | refine retq_normal ?_ | refine ng_normal ?_ | refine ng_ret ?_ | refine ng_exit ?_)
      refine ret_is (v := .tuple #[.agg #[.int .u32 0, .int .u32 0, .slice none 0 0, .slice none 0 0, .slice none 0 0], .agg #[.int .i64 4, .int .u64 0, .string (⟨#[]⟩ : ByteArray)]]) rfl (.agg rfl Try.isAgg31 Try.sizeOf31 (s22.rd (j := 2) rfl) (Nat.le_of_ble_eq_true rfl) rfl (.agg rfl Try.isAgg47 Try.sizeOf47 (s22.rd (j := 1) rfl) (Nat.le_of_ble_eq_true rfl) rfl .nil)) rfl ?_
      exact .inl ⟨by rw [e1]; decide, by rw [e1, e2]; first | done | rfl, s22.kp⟩
    ·
      replace c2 := ne_of_beq_false c2
      refine dv (gyes_none rfl) (q_mv (v := .bool false) rfl) rfl (by decide) (cok1 trivial) ?_
      refine dv (gyes_some rfl rfl) (q_mv (v := .int .u64 ((gM B : Nat) : Int)) rfl) rfl (by decide) (cok1 trivial) ?_
      refine dvb (gyes_some rfl rfl) (q_int rfl rfl rfl) rfl (by decide) (cok2 trivial (cconst rfl)) (fun c3 => ?_) (fun c3 => ?_)
      ·
        replace c3 := eq_of_beq c3
        refine dv (gyes_none rfl) (q_pf (v := .bool true) rfl rfl) rfl (by decide) (call_ok rfl) ?_
        refine dv (gyes_none rfl) (q_as (v := .bool true) rfl) rfl (by decide) (cok1 trivial) ?_
        refine ⟨_, Wk.refl _ _, ?_⟩
        show awp _ _ _ _ _ _ _
        refine awp_cond_t rfl ?_
        refine awp_seq ?_
        refine awp_regs hF ?_
        refine dv (gyes_none rfl) (q_buildL (ds := [.int .u32 0, .int .u32 0, .slice none 0 0, .slice none 0 0, .slice none 0 0]) [(0, 1), (1, 1), (2, 1), (3, 1), (4, 1)] [] Try.underlying31 Try.zeroValue31 (by first | exact flat_agg rfl | exact flat_scalar rfl) (by kernel_rfl) trivial lvs0 rfl) rfl (by decide) (by simp [Op.operands, Call.operands]) ?_
        refine dv (gyes_none rfl) (q_call0 Try.call29 rfl (failOf_ok 4)) rfl (by decide) (cok2 trivial (cconst rfl)) ?_
        refine x_store [] hF s14 (by kernel_rfl) (gyes_none rfl) (j := 2) (v := .agg #[.int .u32 0, .int .u32 0, .slice none 0 0, .slice none 0 0, .slice none 0 0]) rfl Try.sizeOf31 rfl rfl rfl rfl rfl trivial (lcsA ⟨(lc_scalar rfl), (lc_scalar rfl), (lc_scalar rfl), (lc_scalar rfl), (lc_scalar rfl), trivial⟩) (Nat.le_of_ble_eq_true rfl) trivial trivial rfl rfl (F' := [(b9, .cells true [.int .u32 ((gF0 B : Nat) : Int), .int .u32 ((gSh B : Nat) : Int), .slice none 0 0, .slice none 0 0, .slice none 0 0] 5), (b5, .cells true [.int .i64 0, .int .u64 0, .string ⟨#[]⟩] 3), (b1, .cells true [.int .u32 0, .int .u32 0, .slice none 0 0, .slice none 0 0, .slice none 0 0] 5)]) rfl (fun H23 s24 => ⟨?_, ?_⟩)
        · exact trivial
        refine x_store [] hF s24 (by kernel_rfl) (gyes_none rfl) (j := 1) (v := .agg #[.int .i64 4, .int .u64 0, .string (⟨#[]⟩ : ByteArray)]) rfl Try.sizeOf47 rfl rfl rfl rfl rfl trivial (lcsA ⟨(lc_scalar rfl), (lc_scalar rfl), (lc_scalar rfl), trivial⟩) (Nat.le_of_ble_eq_true rfl) trivial trivial rfl rfl (F' := [(b9, .cells true [.int .u32 ((gF0 B : Nat) : Int), .int .u32 ((gSh B : Nat) : Int), .slice none 0 0, .slice none 0 0, .slice none 0 0] 5), (b5, .cells true [.int .i64 4, .int .u64 0, .string (⟨#[]⟩ : ByteArray)] 3), (b1, .cells true [.int .u32 0, .int .u32 0, .slice none 0 0, .slice none 0 0, .slice none 0 0] 5)]) rfl (fun H25 s26 => ⟨?_, ?_⟩)
        · exact trivial
        refine ⟨_, Wk.refl _ _, ?_⟩
        show awp _ _ _ _ _ _ _
        refine awp_ret_wk ?_
        obtain ⟨e1, e2⟩ := gc_zero (B := B) (by omega) (by omega)
        refine ⟨_, Wk.refl _ _, ?_⟩
        repeat (with_reducible first | refine then_ret ?_ | refine blk_ret ?_ | refine then_exit ?_ | refine blk_exit ?_ | refine blk_exit' (by decide) ?_ | refine blk_normal ?_ | refine then_normal ?_ | refine retq_ret ?_ | refine retq_normal ?_ | refine ng_normal ?_ | refine ng_ret ?_ | refine ng_exit ?_)
        refine ret_is (v := .tuple #[.agg #[.int .u32 0, .int .u32 0, .slice none 0 0, .slice none 0 0, .slice none 0 0], .agg #[.int .i64 4, .int .u64 0, .string (⟨#[]⟩ : ByteArray)]]) rfl (.agg rfl Try.isAgg31 Try.sizeOf31 (s26.rd (j := 2) rfl) (Nat.le_of_ble_eq_true rfl) rfl (.agg rfl Try.isAgg47 Try.sizeOf47 (s26.rd (j := 1) rfl) (Nat.le_of_ble_eq_true rfl) rfl .nil)) rfl ?_
        exact .inl ⟨by rw [e1]; decide, by rw [e1, e2]; first | done | rfl, s26.kp⟩
      ·
        replace c3 := ne_of_beq_false c3
        refine dv (gyes_none rfl) (q_pf (v := .bool false) rfl rfl) rfl (by decide) (call_ok rfl) ?_
        refine dv (gyes_none rfl) (q_as (v := .bool false) rfl) rfl (by decide) (cok1 trivial) ?_
        refine ⟨_, Wk.refl _ _, ?_⟩
        show awp _ _ _ _ _ _ _
        refine awp_cond_f rfl ?_
        refine awp_seq ?_
        refine awp_regs hF ?_
        refine dv (gyes_none rfl) (q_mv (v := .int .u64 ((gN B : Nat) : Int)) rfl) rfl (by decide) (cok1 trivial) ?_
        refine dvb (gyes_none rfl) (q_int rfl rfl rfl) rfl (by decide) (cok2 trivial (cconst rfl)) (fun c4 => ?_) (fun c4 => ?_)
        ·
          replace c4 := of_decide_eq_true c4
          refine dv (gyes_none rfl) (q_mv (v := .bool true) rfl) rfl (by decide) (cok1 trivial) ?_
          refine dno rfl (.inl rfl) rfl (by decide) ?_
          refine dno rfl (.inl rfl) rfl (by decide) ?_
          refine dv (gyes_none rfl) (q_pt (v := .bool true) rfl rfl) rfl (by decide) (call_ok rfl) ?_
          refine dv (gyes_none rfl) (q_mv (v := .bool true) rfl) rfl (by decide) (cok1 trivial) ?_
          refine dno rfl (.inl rfl) rfl (by decide) ?_
          refine dno rfl (.inl rfl) rfl (by decide) ?_
          refine dv (gyes_none rfl) (q_pt (v := .bool true) rfl rfl) rfl (by decide) (call_ok rfl) ?_
          refine dv (gyes_none rfl) (q_as (v := .bool true) rfl) rfl (by decide) (cok1 trivial) ?_
          refine ⟨_, Wk.refl _ _, ?_⟩
          show awp _ _ _ _ _ _ _
          refine awp_cond_t rfl ?_
          refine awp_seq ?_
          refine awp_regs hF ?_
          refine dv (gyes_none rfl) (q_buildL (ds := [.int .u32 0, .int .u32 0, .slice none 0 0, .slice none 0 0, .slice none 0 0]) [(0, 1), (1, 1), (2, 1), (3, 1), (4, 1)] [] Try.underlying31 Try.zeroValue31 (by first | exact flat_agg rfl | exact flat_scalar rfl) (by kernel_rfl) trivial lvs0 rfl) rfl (by decide) (by simp [Op.operands, Call.operands]) ?_
          refine dv (gyes_none rfl) (q_call0 Try.call29 rfl (failOf_ok 6)) rfl (by decide) (cok2 trivial (cconst rfl)) ?_
          refine x_store [] hF s14 (by kernel_rfl) (gyes_none rfl) (j := 2) (v := .agg #[.int .u32 0, .int .u32 0, .slice none 0 0, .slice none 0 0, .slice none 0 0]) rfl Try.sizeOf31 rfl rfl rfl rfl rfl trivial (lcsA ⟨(lc_scalar rfl), (lc_scalar rfl), (lc_scalar rfl), (lc_scalar rfl), (lc_scalar rfl), trivial⟩) (Nat.le_of_ble_eq_true rfl) trivial trivial rfl rfl (F' := [(b9, .cells true [.int .u32 ((gF0 B : Nat) : Int), .int .u32 ((gSh B : Nat) : Int), .slice none 0 0, .slice none 0 0, .slice none 0 0] 5), (b5, .cells true [.int .i64 0, .int .u64 0, .string ⟨#[]⟩] 3), (b1, .cells true [.int .u32 0, .int .u32 0, .slice none 0 0, .slice none 0 0, .slice none 0 0] 5)]) rfl (fun H27 s28 => ⟨?_, ?_⟩)
          · exact trivial
          refine x_store [] hF s28 (by kernel_rfl) (gyes_none rfl) (j := 1) (v := .agg #[.int .i64 6, .int .u64 0, .string (⟨#[]⟩ : ByteArray)]) rfl Try.sizeOf47 rfl rfl rfl rfl rfl trivial (lcsA ⟨(lc_scalar rfl), (lc_scalar rfl), (lc_scalar rfl), trivial⟩) (Nat.le_of_ble_eq_true rfl) trivial trivial rfl rfl (F' := [(b9, .cells true [.int .u32 ((gF0 B : Nat) : Int), .int .u32 ((gSh B : Nat) : Int), .slice none 0 0, .slice none 0 0, .slice none 0 0] 5), (b5, .cells true [.int .i64 6, .int .u64 0, .string (⟨#[]⟩ : ByteArray)] 3), (b1, .cells true [.int .u32 0, .int .u32 0, .slice none 0 0, .slice none 0 0, .slice none 0 0] 5)]) rfl (fun H29 s30 => ⟨?_, ?_⟩)
          · exact trivial
          refine ⟨_, Wk.refl _ _, ?_⟩
          show awp _ _ _ _ _ _ _
          refine awp_ret_wk ?_
          obtain ⟨e1, e2⟩ := gc_many (B := B) (by omega) (by omega) (by omega)
          refine ⟨_, Wk.refl _ _, ?_⟩
          repeat (with_reducible first | refine then_ret ?_ | refine blk_ret ?_ | refine then_exit ?_ | refine blk_exit ?_ | refine blk_exit' (by decide) ?_ | refine blk_normal ?_ | refine then_normal ?_ | refine retq_ret ?_ | refine retq_normal ?_ | refine ng_normal ?_ | refine ng_ret ?_ | refine ng_exit ?_)
          refine ret_is (v := .tuple #[.agg #[.int .u32 0, .int .u32 0, .slice none 0 0, .slice none 0 0, .slice none 0 0], .agg #[.int .i64 6, .int .u64 0, .string (⟨#[]⟩ : ByteArray)]]) rfl (.agg rfl Try.isAgg31 Try.sizeOf31 (s30.rd (j := 2) rfl) (Nat.le_of_ble_eq_true rfl) rfl (.agg rfl Try.isAgg47 Try.sizeOf47 (s30.rd (j := 1) rfl) (Nat.le_of_ble_eq_true rfl) rfl .nil)) rfl ?_
          exact .inl ⟨by rw [e1]; decide, by rw [e1, e2]; first | done | rfl, s30.kp⟩
        ·
          replace c4 := of_decide_eq_false c4
          refine dv (gyes_none rfl) (q_mv (v := .bool false) rfl) rfl (by decide) (cok1 trivial) ?_
          refine dv (gyes_some rfl rfl) (q_mv (v := .int .u64 ((gM B : Nat) : Int)) rfl) rfl (by decide) (cok1 trivial) ?_
          refine dvb (gyes_some rfl rfl) (q_int rfl rfl rfl) rfl (by decide) (cok2 trivial (cconst rfl)) (fun c5 => ?_) (fun c5 => ?_)
          ·
            replace c5 := of_decide_eq_true c5
            refine dv (gyes_none rfl) (q_pf (v := .bool true) rfl rfl) rfl (by decide) (call_ok rfl) ?_
            refine dv (gyes_none rfl) (q_mv (v := .bool true) rfl) rfl (by decide) (cok1 trivial) ?_
            refine dno rfl (.inl rfl) rfl (by decide) ?_
            refine dno rfl (.inl rfl) rfl (by decide) ?_
            refine dv (gyes_none rfl) (q_pt (v := .bool true) rfl rfl) rfl (by decide) (call_ok rfl) ?_
            refine dv (gyes_none rfl) (q_as (v := .bool true) rfl) rfl (by decide) (cok1 trivial) ?_
            refine ⟨_, Wk.refl _ _, ?_⟩
            show awp _ _ _ _ _ _ _
            refine awp_cond_t rfl ?_
            refine awp_seq ?_
            refine awp_regs hF ?_
            refine dv (gyes_none rfl) (q_buildL (ds := [.int .u32 0, .int .u32 0, .slice none 0 0, .slice none 0 0, .slice none 0 0]) [(0, 1), (1, 1), (2, 1), (3, 1), (4, 1)] [] Try.underlying31 Try.zeroValue31 (by first | exact flat_agg rfl | exact flat_scalar rfl) (by kernel_rfl) trivial lvs0 rfl) rfl (by decide) (by simp [Op.operands, Call.operands]) ?_
            refine dv (gyes_none rfl) (q_call0 Try.call29 rfl (failOf_ok 6)) rfl (by decide) (cok2 trivial (cconst rfl)) ?_
            refine x_store [] hF s14 (by kernel_rfl) (gyes_none rfl) (j := 2) (v := .agg #[.int .u32 0, .int .u32 0, .slice none 0 0, .slice none 0 0, .slice none 0 0]) rfl Try.sizeOf31 rfl rfl rfl rfl rfl trivial (lcsA ⟨(lc_scalar rfl), (lc_scalar rfl), (lc_scalar rfl), (lc_scalar rfl), (lc_scalar rfl), trivial⟩) (Nat.le_of_ble_eq_true rfl) trivial trivial rfl rfl (F' := [(b9, .cells true [.int .u32 ((gF0 B : Nat) : Int), .int .u32 ((gSh B : Nat) : Int), .slice none 0 0, .slice none 0 0, .slice none 0 0] 5), (b5, .cells true [.int .i64 0, .int .u64 0, .string ⟨#[]⟩] 3), (b1, .cells true [.int .u32 0, .int .u32 0, .slice none 0 0, .slice none 0 0, .slice none 0 0] 5)]) rfl (fun H31 s32 => ⟨?_, ?_⟩)
            · exact trivial
            refine x_store [] hF s32 (by kernel_rfl) (gyes_none rfl) (j := 1) (v := .agg #[.int .i64 6, .int .u64 0, .string (⟨#[]⟩ : ByteArray)]) rfl Try.sizeOf47 rfl rfl rfl rfl rfl trivial (lcsA ⟨(lc_scalar rfl), (lc_scalar rfl), (lc_scalar rfl), trivial⟩) (Nat.le_of_ble_eq_true rfl) trivial trivial rfl rfl (F' := [(b9, .cells true [.int .u32 ((gF0 B : Nat) : Int), .int .u32 ((gSh B : Nat) : Int), .slice none 0 0, .slice none 0 0, .slice none 0 0] 5), (b5, .cells true [.int .i64 6, .int .u64 0, .string (⟨#[]⟩ : ByteArray)] 3), (b1, .cells true [.int .u32 0, .int .u32 0, .slice none 0 0, .slice none 0 0, .slice none 0 0] 5)]) rfl (fun H33 s34 => ⟨?_, ?_⟩)
            · exact trivial
            refine ⟨_, Wk.refl _ _, ?_⟩
            show awp _ _ _ _ _ _ _
            refine awp_ret_wk ?_
            obtain ⟨e1, e2⟩ := gc_many (B := B) (by omega) (by omega) (by omega)
            refine ⟨_, Wk.refl _ _, ?_⟩
            repeat (with_reducible first | refine then_ret ?_ | refine blk_ret ?_ | refine then_exit ?_ | refine blk_exit ?_ | refine blk_exit' (by decide) ?_ | refine blk_normal ?_ | refine then_normal ?_ | refine retq_ret ?_ | refine retq_normal ?_ | refine ng_normal ?_ | refine ng_ret ?_ | refine ng_exit ?_)
            refine ret_is (v := .tuple #[.agg #[.int .u32 0, .int .u32 0, .slice none 0 0, .slice none 0 0, .slice none 0 0], .agg #[.int .i64 6, .int .u64 0, .string (⟨#[]⟩ : ByteArray)]]) rfl (.agg rfl Try.isAgg31 Try.sizeOf31 (s34.rd (j := 2) rfl) (Nat.le_of_ble_eq_true rfl) rfl (.agg rfl Try.isAgg47 Try.sizeOf47 (s34.rd (j := 1) rfl) (Nat.le_of_ble_eq_true rfl) rfl .nil)) rfl ?_
            exact .inl ⟨by rw [e1]; decide, by rw [e1, e2]; first | done | rfl, s34.kp⟩
          ·
            replace c5 := of_decide_eq_false c5
            refine dv (gyes_none rfl) (q_pf (v := .bool false) rfl rfl) rfl (by decide) (call_ok rfl) ?_
            refine dv (gyes_none rfl) (q_mv (v := .bool false) rfl) rfl (by decide) (cok1 trivial) ?_
            refine dv (gyes_some rfl rfl) (q_mv (v := .int .u64 ((gF0 B : Nat) : Int)) rfl) rfl (by decide) (cok1 trivial) ?_
            refine dvb (gyes_some rfl rfl) (q_int rfl rfl rfl) rfl (by decide) (cok2 trivial (cconst rfl)) (fun c6 => ?_) (fun c6 => ?_)
            ·
              replace c6 := of_decide_eq_true c6
              refine dv (gyes_none rfl) (q_pf (v := .bool true) rfl rfl) rfl (by decide) (call_ok rfl) ?_
              refine dv (gyes_none rfl) (q_as (v := .bool true) rfl) rfl (by decide) (cok1 trivial) ?_
              refine ⟨_, Wk.refl _ _, ?_⟩
              show awp _ _ _ _ _ _ _
              refine awp_cond_t rfl ?_
              refine awp_seq ?_
              refine awp_regs hF ?_
              refine dv (gyes_none rfl) (q_buildL (ds := [.int .u32 0, .int .u32 0, .slice none 0 0, .slice none 0 0, .slice none 0 0]) [(0, 1), (1, 1), (2, 1), (3, 1), (4, 1)] [] Try.underlying31 Try.zeroValue31 (by first | exact flat_agg rfl | exact flat_scalar rfl) (by kernel_rfl) trivial lvs0 rfl) rfl (by decide) (by simp [Op.operands, Call.operands]) ?_
              refine dv (gyes_none rfl) (q_call0 Try.call29 rfl (failOf_ok 6)) rfl (by decide) (cok2 trivial (cconst rfl)) ?_
              refine x_store [] hF s14 (by kernel_rfl) (gyes_none rfl) (j := 2) (v := .agg #[.int .u32 0, .int .u32 0, .slice none 0 0, .slice none 0 0, .slice none 0 0]) rfl Try.sizeOf31 rfl rfl rfl rfl rfl trivial (lcsA ⟨(lc_scalar rfl), (lc_scalar rfl), (lc_scalar rfl), (lc_scalar rfl), (lc_scalar rfl), trivial⟩) (Nat.le_of_ble_eq_true rfl) trivial trivial rfl rfl (F' := [(b9, .cells true [.int .u32 ((gF0 B : Nat) : Int), .int .u32 ((gSh B : Nat) : Int), .slice none 0 0, .slice none 0 0, .slice none 0 0] 5), (b5, .cells true [.int .i64 0, .int .u64 0, .string ⟨#[]⟩] 3), (b1, .cells true [.int .u32 0, .int .u32 0, .slice none 0 0, .slice none 0 0, .slice none 0 0] 5)]) rfl (fun H35 s36 => ⟨?_, ?_⟩)
              · exact trivial
              refine x_store [] hF s36 (by kernel_rfl) (gyes_none rfl) (j := 1) (v := .agg #[.int .i64 6, .int .u64 0, .string (⟨#[]⟩ : ByteArray)]) rfl Try.sizeOf47 rfl rfl rfl rfl rfl trivial (lcsA ⟨(lc_scalar rfl), (lc_scalar rfl), (lc_scalar rfl), trivial⟩) (Nat.le_of_ble_eq_true rfl) trivial trivial rfl rfl (F' := [(b9, .cells true [.int .u32 ((gF0 B : Nat) : Int), .int .u32 ((gSh B : Nat) : Int), .slice none 0 0, .slice none 0 0, .slice none 0 0] 5), (b5, .cells true [.int .i64 6, .int .u64 0, .string (⟨#[]⟩ : ByteArray)] 3), (b1, .cells true [.int .u32 0, .int .u32 0, .slice none 0 0, .slice none 0 0, .slice none 0 0] 5)]) rfl (fun H37 s38 => ⟨?_, ?_⟩)
              · exact trivial
              refine ⟨_, Wk.refl _ _, ?_⟩
              show awp _ _ _ _ _ _ _
              refine awp_ret_wk ?_
              obtain ⟨e1, e2⟩ := gc_many (B := B) (by omega) (by omega) (by omega)
              refine ⟨_, Wk.refl _ _, ?_⟩
              repeat (with_reducible first | refine then_ret ?_ | refine blk_ret ?_ | refine then_exit ?_ | refine blk_exit ?_ | refine blk_exit' (by decide) ?_ | refine blk_normal ?_ | refine then_normal ?_ | refine retq_ret ?_ | refine retq_normal ?_ | refine ng_normal ?_ | refine ng_ret ?_ | refine ng_exit ?_)
              refine ret_is (v := .tuple #[.agg #[.int .u32 0, .int .u32 0, .slice none 0 0, .slice none 0 0, .slice none 0 0], .agg #[.int .i64 6, .int .u64 0, .string (⟨#[]⟩ : ByteArray)]]) rfl (.agg rfl Try.isAgg31 Try.sizeOf31 (s38.rd (j := 2) rfl) (Nat.le_of_ble_eq_true rfl) rfl (.agg rfl Try.isAgg47 Try.sizeOf47 (s38.rd (j := 1) rfl) (Nat.le_of_ble_eq_true rfl) rfl .nil)) rfl ?_
              exact .inl ⟨by rw [e1]; decide, by rw [e1, e2]; first | done | rfl, s38.kp⟩
            ·
              replace c6 := of_decide_eq_false c6
              refine dv (gyes_none rfl) (q_pf (v := .bool false) rfl rfl) rfl (by decide) (call_ok rfl) ?_
              refine dv (gyes_none rfl) (q_as (v := .bool false) rfl) rfl (by decide) (cok1 trivial) ?_
              refine ⟨_, Wk.refl _ _, ?_⟩
              show awp _ _ _ _ _ _ _
              refine awp_cond_f rfl ?_
              refine awp_skip_wk ?_
              refine ⟨_, Wk.refl _ _, ?_⟩
              show awp _ _ _ _ _ _ _
              refine awp_seq ?_
              refine awp_regs hF ?_
              refine dv (gyes_none rfl) (q_mv (v := .string B) rfl) rfl (by decide) (cok1 trivial) ?_
              refine dv (gyes_none rfl) (q_mv (v := .int .u64 ((gN B : Nat) : Int)) rfl) rfl (by decide) (cok1 trivial) ?_
              refine dv (gyes_none rfl) (q_mv (v := .int .u64 ((gM B : Nat) : Int)) rfl) rfl (by decide) (cok1 trivial) ?_
              refine dv (gyes_none rfl) (q_call0 Try.call30 rfl (body_no b9 (gF0 B) (gSh B) B hB (gN B) (gM B) ⟨by omega, by omega⟩ ⟨by omega, by omega⟩ hno (s14.rd (j := 0) rfl))) rfl (by decide) (call_ok rfl) ?_
              refine dv (gyes_none rfl) (q_mv (v := .tuple #[.int .u64 0, .bool false]) rfl) rfl (by decide) (cok1 trivial) ?_
              refine dv (gyes_none rfl) (q_extract (v := .int .u64 0) rfl rfl) rfl (by decide) (cok1 trivial) ?_
              refine dv (gyes_none rfl) (q_extract (v := .bool false) rfl rfl) rfl (by decide) (cok1 trivial) ?_
              refine dv (gyes_none rfl) (q_as (v := .int .u64 0) rfl) rfl (by decide) (cok1 trivial) ?_
              refine dv (gyes_none rfl) (q_as (v := .bool false) rfl) rfl (by decide) (cok1 trivial) ?_
              refine ⟨_, Wk.refl _ _, ?_⟩
              show awp _ _ _ _ _ _ _
              refine awp_seq ?_
              refine awp_seq ?_
              refine awp_regs hF ?_
              refine dv (gyes_none rfl) (q_mv (v := .bool false) rfl) rfl (by decide) (cok1 trivial) ?_
              refine dv (gyes_none rfl) (q_not (b := false) rfl) rfl (by decide) (cok1 trivial) ?_
              refine ⟨_, Wk.refl _ _, ?_⟩
              show awp _ _ _ _ _ _ _
              refine awp_cond_t rfl ?_
              refine awp_seq ?_
              refine awp_regs hF ?_
              refine dv (gyes_none rfl) (q_buildL (ds := [.int .u32 0, .int .u32 0, .slice none 0 0, .slice none 0 0, .slice none 0 0]) [(0, 1), (1, 1), (2, 1), (3, 1), (4, 1)] [] Try.underlying31 Try.zeroValue31 (by first | exact flat_agg rfl | exact flat_scalar rfl) (by kernel_rfl) trivial lvs0 rfl) rfl (by decide) (by simp [Op.operands, Call.operands]) ?_
              refine dv (gyes_none rfl) (q_call0 Try.call29 rfl (failOf_ok 2)) rfl (by decide) (cok2 trivial (cconst rfl)) ?_
              refine x_store [] hF s14 (by kernel_rfl) (gyes_none rfl) (j := 2) (v := .agg #[.int .u32 0, .int .u32 0, .slice none 0 0, .slice none 0 0, .slice none 0 0]) rfl Try.sizeOf31 rfl rfl rfl rfl rfl trivial (lcsA ⟨(lc_scalar rfl), (lc_scalar rfl), (lc_scalar rfl), (lc_scalar rfl), (lc_scalar rfl), trivial⟩) (Nat.le_of_ble_eq_true rfl) trivial trivial rfl rfl (F' := [(b9, .cells true [.int .u32 ((gF0 B : Nat) : Int), .int .u32 ((gSh B : Nat) : Int), .slice none 0 0, .slice none 0 0, .slice none 0 0] 5), (b5, .cells true [.int .i64 0, .int .u64 0, .string ⟨#[]⟩] 3), (b1, .cells true [.int .u32 0, .int .u32 0, .slice none 0 0, .slice none 0 0, .slice none 0 0] 5)]) rfl (fun H39 s40 => ⟨?_, ?_⟩)
              · exact trivial
              refine x_store [] hF s40 (by kernel_rfl) (gyes_none rfl) (j := 1) (v := .agg #[.int .i64 2, .int .u64 0, .string (⟨#[]⟩ : ByteArray)]) rfl Try.sizeOf47 rfl rfl rfl rfl rfl trivial (lcsA ⟨(lc_scalar rfl), (lc_scalar rfl), (lc_scalar rfl), trivial⟩) (Nat.le_of_ble_eq_true rfl) trivial trivial rfl rfl (F' := [(b9, .cells true [.int .u32 ((gF0 B : Nat) : Int), .int .u32 ((gSh B : Nat) : Int), .slice none 0 0, .slice none 0 0, .slice none 0 0] 5), (b5, .cells true [.int .i64 2, .int .u64 0, .string (⟨#[]⟩ : ByteArray)] 3), (b1, .cells true [.int .u32 0, .int .u32 0, .slice none 0 0, .slice none 0 0, .slice none 0 0] 5)]) rfl (fun H41 s42 => ⟨?_, ?_⟩)
              · exact trivial
              refine ⟨_, Wk.refl _ _, ?_⟩
              show awp _ _ _ _ _ _ _
              refine awp_ret_wk ?_
              obtain ⟨e1, e2⟩ := gc_out (B := B) (by omega) (by omega) (by omega) hno
              refine ⟨_, Wk.refl _ _, ?_⟩
              repeat (with_reducible first | refine then_ret ?_ | refine blk_ret ?_ | refine then_exit ?_ | refine blk_exit ?_ | refine blk_exit' (by decide) ?_ | refine blk_normal ?_ | refine then_normal ?_ | refine retq_ret ?_ | refine retq_normal ?_ | refine ng_normal ?_ | refine ng_ret ?_ | refine ng_exit ?_)
              refine ret_is (v := .tuple #[.agg #[.int .u32 0, .int .u32 0, .slice none 0 0, .slice none 0 0, .slice none 0 0], .agg #[.int .i64 2, .int .u64 0, .string (⟨#[]⟩ : ByteArray)]]) rfl (.agg rfl Try.isAgg31 Try.sizeOf31 (s42.rd (j := 2) rfl) (Nat.le_of_ble_eq_true rfl) rfl (.agg rfl Try.isAgg47 Try.sizeOf47 (s42.rd (j := 1) rfl) (Nat.le_of_ble_eq_true rfl) rfl .nil)) rfl ?_
              exact .inl ⟨by rw [e1]; decide, by rw [e1, e2]; first | done | rfl, s42.kp⟩
set_option maxRecDepth 100000 in
set_option maxHeartbeats 4000000 in
theorem read_mz {H0 : AHeap} (B : ByteArray) (hB : B.size ≤ 140737488355328) (hyes : gA0 B ≤ B.size) (hmz : maxL (gBk B) = 0) : ACalls Try.prog 15 [.string B] H0 (fun v H' => (gC B ≠ 0 ∧ v = .tuple #[.agg #[.int .u32 0, .int .u32 0, .slice none 0 0, .slice none 0 0, .slice none 0 0], .agg #[.int .i64 ((gC B : Nat) : Int), .int .u64 ((gAt B : Nat) : Int), .string ⟨#[]⟩]] ∧ K0 H0 H') ∨ (gC B = 0 ∧ ∃ b1 b2 b3, v = .tuple #[.agg #[.int .u32 ((gF0 B : Nat) : Int), .int .u32 ((gSh B : Nat) : Int), .slice (some ⟨b1, 0, none⟩) (gM B) (gM B), .slice (some ⟨b2, 0, none⟩) (gN B) (gN B), .slice (some ⟨b3, 0, none⟩) (gK B) (gK B)], .agg #[.int .i64 0, .int .u64 0, .string ⟨#[]⟩]] ∧ NewL H0 H' [(b3, .cells true ((chL B (gA0 B) (gK B)).map u32v) 1), (b2, .cells true ((gBk B).map u32v) 1), (b1, .cells true ((gBl B).map u64v) 1)])) := by
  have hF : Wd Fence.wide := .inl rfl
  have hM : Try.prog.follows .mixedOrders = true := by kernel_rfl
  have hn4 : gN B < 4294967296 := atV_lt4 B 0
  have hf4 : gF0 B < 4294967296 := atV_lt4 B 4
  have hm4 : gM B < 4294967296 := atV_lt4 B 8
  have hs4 : gSh B < 4294967296 := atV_lt4 B 12
  have hbl := gBk_len (B := B)
  have hgA : gA0 B = 16 + gM B * 8 + gN B * 4 := rfl
  have s0 := St.begin H0
  refine acalls_st Try.func15 rfl Try.ntmps15 rfl ?_
  refine awp_seq ?_
  refine awp_regs hF ?_
  refine x_new (fun b => .pointer (some ⟨b, 0, none⟩)) s0 (gyes_none rfl) (q_alloc (vs := [.int .u32 0, .int .u32 0, .slice none 0 0, .slice none 0 0, .slice none 0 0]) 5 Try.zeroValue31 (by first | exact flat_scalar rfl | exact flat_agg rfl) rfl) rfl (by decide) (by simp [Op.operands, Call.operands]) (fun b1 H2 hb4 s3 => ?_)
  refine x_new (fun b => .pointer (some ⟨b, 0, none⟩)) s3 (gyes_none rfl) (q_alloc (vs := [.int .i64 0, .int .u64 0, .string ⟨#[]⟩]) 3 Try.zeroValue47 (by first | exact flat_scalar rfl | exact flat_agg rfl) rfl) rfl (by decide) (by simp [Op.operands, Call.operands]) (fun b5 H6 hb8 s7 => ?_)
  refine ⟨_, Wk.refl _ _, ?_⟩
  show awp _ _ _ _ _ _ _
  refine awp_seq ?_
  refine awp_regs hF ?_
  refine dv (gyes_none rfl) (q_mv (v := .string B) rfl) rfl (by decide) (cok1 trivial) ?_
  refine dv (gyes_none rfl) (q_call0 Try.call28 rfl (number_ok B 0 hB (by decide))) rfl (by decide) (call_ok rfl) ?_
  refine dv (gyes_none rfl) (q_mv (v := .string B) rfl) rfl (by decide) (cok1 trivial) ?_
  refine dv (gyes_none rfl) (q_call0 Try.call28 rfl (number_ok B 4 hB (by decide))) rfl (by decide) (call_ok rfl) ?_
  refine dv (gyes_none rfl) (q_mv (v := .string B) rfl) rfl (by decide) (cok1 trivial) ?_
  refine dv (gyes_none rfl) (q_call0 Try.call28 rfl (number_ok B 8 hB (by decide))) rfl (by decide) (call_ok rfl) ?_
  refine dv (gyes_none rfl) (q_mv (v := .string B) rfl) rfl (by decide) (cok1 trivial) ?_
  refine dv (gyes_none rfl) (q_call0 Try.call28 rfl (number_ok B 12 hB (by decide))) rfl (by decide) (call_ok rfl) ?_
  refine dv (gyes_none rfl) (q_as (v := .int .u64 ((gN B : Nat) : Int)) rfl) rfl (by decide) (cok1 trivial) ?_
  refine dv (gyes_none rfl) (q_as (v := .int .u64 ((gF0 B : Nat) : Int)) rfl) rfl (by decide) (cok1 trivial) ?_
  refine dv (gyes_none rfl) (q_as (v := .int .u64 ((gM B : Nat) : Int)) rfl) rfl (by decide) (cok1 trivial) ?_
  refine dv (gyes_none rfl) (q_as (v := .int .u64 ((gSh B : Nat) : Int)) rfl) rfl (by decide) (cok1 trivial) ?_
  refine ⟨_, Wk.refl _ _, ?_⟩
  show awp _ _ _ _ _ _ _
  refine awp_seq ?_
  refine awp_regs hF ?_
  refine dv (gyes_none rfl) (q_mv (v := .int .u64 ((gF0 B : Nat) : Int)) rfl) rfl (by decide) (cok1 trivial) ?_
  refine dv (gyes_none rfl) (q_convin (a := ((gF0 B : Nat) : Int)) Try.underlying45 Try.underlying27 rfl (u32_in (by omega))) rfl (by decide) (cok1 trivial) ?_
  refine dv (gyes_none rfl) (q_mv (v := .int .u64 ((gSh B : Nat) : Int)) rfl) rfl (by decide) (cok1 trivial) ?_
  refine dv (gyes_none rfl) (q_convin (a := ((gSh B : Nat) : Int)) Try.underlying45 Try.underlying27 rfl (u32_in (by omega))) rfl (by decide) (cok1 trivial) ?_
  refine dv (gyes_none rfl) (q_buildL (ds := [.int .u32 ((gF0 B : Nat) : Int), .int .u32 ((gSh B : Nat) : Int), .slice none 0 0, .slice none 0 0, .slice none 0 0]) [(0, 1), (1, 1), (2, 1), (3, 1), (4, 1)] [.int .u32 ((gF0 B : Nat) : Int), .int .u32 ((gSh B : Nat) : Int)] Try.underlying31 Try.zeroValue31 (by first | exact flat_agg rfl | exact flat_scalar rfl) (by kernel_rfl) ⟨rfl, rfl, trivial⟩ (lvsC (by exact trivial) (lvsC (by exact trivial) lvs0)) rfl) rfl (by decide) (cok2 trivial trivial) ?_
  refine x_new (fun b => .pointer (some ⟨b, 0, none⟩)) s7 (gyes_none rfl) (q_alloc (vs := [.int .u32 0, .int .u32 0, .slice none 0 0, .slice none 0 0, .slice none 0 0]) 5 Try.zeroValue31 (by first | exact flat_scalar rfl | exact flat_agg rfl) rfl) rfl (by decide) (by simp [Op.operands, Call.operands]) (fun b9 H10 hb12 s11 => ?_)
  refine x_store [] hF s11 (by kernel_rfl) (gyes_none rfl) (j := 0) (v := .agg #[.int .u32 ((gF0 B : Nat) : Int), .int .u32 ((gSh B : Nat) : Int), .slice none 0 0, .slice none 0 0, .slice none 0 0]) rfl Try.sizeOf31 rfl rfl rfl rfl rfl trivial (lcsA ⟨(lc_scalar rfl), (lc_scalar rfl), (lc_scalar rfl), (lc_scalar rfl), (lc_scalar rfl), trivial⟩) (Nat.le_of_ble_eq_true rfl) trivial trivial rfl rfl (F' := [(b9, .cells true [.int .u32 ((gF0 B : Nat) : Int), .int .u32 ((gSh B : Nat) : Int), .slice none 0 0, .slice none 0 0, .slice none 0 0] 5), (b5, .cells true [.int .i64 0, .int .u64 0, .string ⟨#[]⟩] 3), (b1, .cells true [.int .u32 0, .int .u32 0, .slice none 0 0, .slice none 0 0, .slice none 0 0] 5)]) rfl (fun H13 s14 => ⟨?_, ?_⟩)
  · exact trivial
  refine ⟨_, Wk.refl _ _, ?_⟩
  show awp _ _ _ _ _ _ _
  refine awp_seq ?_
  refine awp_block ?_
  refine awp_seq ?_
  refine awp_regs hF ?_
  refine dv (gyes_none rfl) (q_mv (v := .string B) rfl) rfl (by decide) (cok1 trivial) ?_
  refine dv (gyes_none rfl) (q_len_str Try.underlying9 rfl) rfl (by decide) (cok1 trivial) ?_
  refine dvb (gyes_none rfl) (q_int rfl rfl rfl) rfl (by decide) (cok2 trivial (cconst rfl)) (fun c1 => ?_) (fun c1 => ?_)
  ·
    replace c1 := of_decide_eq_true c1
    refine dv (gyes_none rfl) (q_as (v := .bool true) rfl) rfl (by decide) (cok1 trivial) ?_
    refine ⟨_, Wk.refl _ _, ?_⟩
    show awp _ _ _ _ _ _ _
    refine awp_cond_t rfl ?_
    refine awp_seq ?_
    refine awp_regs hF ?_
    refine dv (gyes_none rfl) (q_buildL (ds := [.int .u32 0, .int .u32 0, .slice none 0 0, .slice none 0 0, .slice none 0 0]) [(0, 1), (1, 1), (2, 1), (3, 1), (4, 1)] [] Try.underlying31 Try.zeroValue31 (by first | exact flat_agg rfl | exact flat_scalar rfl) (by kernel_rfl) trivial lvs0 rfl) rfl (by decide) (by simp [Op.operands, Call.operands]) ?_
    refine dv (gyes_none rfl) (q_call0 Try.call29 rfl (failOf_ok 2)) rfl (by decide) (cok2 trivial (cconst rfl)) ?_
    refine x_store [] hF s14 (by kernel_rfl) (gyes_none rfl) (j := 2) (v := .agg #[.int .u32 0, .int .u32 0, .slice none 0 0, .slice none 0 0, .slice none 0 0]) rfl Try.sizeOf31 rfl rfl rfl rfl rfl trivial (lcsA ⟨(lc_scalar rfl), (lc_scalar rfl), (lc_scalar rfl), (lc_scalar rfl), (lc_scalar rfl), trivial⟩) (Nat.le_of_ble_eq_true rfl) trivial trivial rfl rfl (F' := [(b9, .cells true [.int .u32 ((gF0 B : Nat) : Int), .int .u32 ((gSh B : Nat) : Int), .slice none 0 0, .slice none 0 0, .slice none 0 0] 5), (b5, .cells true [.int .i64 0, .int .u64 0, .string ⟨#[]⟩] 3), (b1, .cells true [.int .u32 0, .int .u32 0, .slice none 0 0, .slice none 0 0, .slice none 0 0] 5)]) rfl (fun H15 s16 => ⟨?_, ?_⟩)
    · exact trivial
    refine x_store [] hF s16 (by kernel_rfl) (gyes_none rfl) (j := 1) (v := .agg #[.int .i64 2, .int .u64 0, .string (⟨#[]⟩ : ByteArray)]) rfl Try.sizeOf47 rfl rfl rfl rfl rfl trivial (lcsA ⟨(lc_scalar rfl), (lc_scalar rfl), (lc_scalar rfl), trivial⟩) (Nat.le_of_ble_eq_true rfl) trivial trivial rfl rfl (F' := [(b9, .cells true [.int .u32 ((gF0 B : Nat) : Int), .int .u32 ((gSh B : Nat) : Int), .slice none 0 0, .slice none 0 0, .slice none 0 0] 5), (b5, .cells true [.int .i64 2, .int .u64 0, .string (⟨#[]⟩ : ByteArray)] 3), (b1, .cells true [.int .u32 0, .int .u32 0, .slice none 0 0, .slice none 0 0, .slice none 0 0] 5)]) rfl (fun H17 s18 => ⟨?_, ?_⟩)
    · exact trivial
    refine ⟨_, Wk.refl _ _, ?_⟩
    show awp _ _ _ _ _ _ _
    refine awp_ret_wk ?_
    obtain ⟨e1, e2⟩ := gc_short (B := B) (by omega)
    refine ⟨_, Wk.refl _ _, ?_⟩
    repeat (with_reducible first | refine then_ret ?_ | refine blk_ret ?_ | refine then_exit ?_ | refine blk_exit ?_ | refine blk_exit' (by decide) ?_ | refine blk_normal ?_ | refine then_normal ?_ | refine retq_ret ?_ | refine retq_normal ?_ | refine ng_normal ?_ | refine ng_ret ?_ | refine ng_exit ?_)
    refine ret_is (v := .tuple #[.agg #[.int .u32 0, .int .u32 0, .slice none 0 0, .slice none 0 0, .slice none 0 0], .agg #[.int .i64 2, .int .u64 0, .string (⟨#[]⟩ : ByteArray)]]) rfl (.agg rfl Try.isAgg31 Try.sizeOf31 (s18.rd (j := 2) rfl) (Nat.le_of_ble_eq_true rfl) rfl (.agg rfl Try.isAgg47 Try.sizeOf47 (s18.rd (j := 1) rfl) (Nat.le_of_ble_eq_true rfl) rfl .nil)) rfl ?_
    exact .inl ⟨by rw [e1]; decide, by rw [e1, e2]; first | done | rfl, s18.kp⟩
  ·
    replace c1 := of_decide_eq_false c1
    refine dv (gyes_none rfl) (q_as (v := .bool false) rfl) rfl (by decide) (cok1 trivial) ?_
    refine ⟨_, Wk.refl _ _, ?_⟩
    show awp _ _ _ _ _ _ _
    refine awp_cond_f rfl ?_
    refine awp_seq ?_
    refine awp_regs hF ?_
    refine dv (gyes_none rfl) (q_mv (v := .int .u64 ((gN B : Nat) : Int)) rfl) rfl (by decide) (cok1 trivial) ?_
    refine dvb (gyes_none rfl) (q_int rfl rfl rfl) rfl (by decide) (cok2 trivial (cconst rfl)) (fun c2 => ?_) (fun c2 => ?_)
    ·
      replace c2 := eq_of_beq c2
      refine dv (gyes_none rfl) (q_mv (v := .bool true) rfl) rfl (by decide) (cok1 trivial) ?_
      refine dno rfl (.inl rfl) rfl (by decide) ?_
      refine dno rfl (.inl rfl) rfl (by decide) ?_
      refine dv (gyes_none rfl) (q_pt (v := .bool true) rfl rfl) rfl (by decide) (call_ok rfl) ?_
      refine dv (gyes_none rfl) (q_as (v := .bool true) rfl) rfl (by decide) (cok1 trivial) ?_
      refine ⟨_, Wk.refl _ _, ?_⟩
      show awp _ _ _ _ _ _ _
      refine awp_cond_t rfl ?_
      refine awp_seq ?_
      refine awp_regs hF ?_
      refine dv (gyes_none rfl) (q_buildL (ds := [.int .u32 0, .int .u32 0, .slice none 0 0, .slice none 0 0, .slice none 0 0]) [(0, 1), (1, 1), (2, 1), (3, 1), (4, 1)] [] Try.underlying31 Try.zeroValue31 (by first | exact flat_agg rfl | exact flat_scalar rfl) (by kernel_rfl) trivial lvs0 rfl) rfl (by decide) (by simp [Op.operands, Call.operands]) ?_
      refine dv (gyes_none rfl) (q_call0 Try.call29 rfl (failOf_ok 4)) rfl (by decide) (cok2 trivial (cconst rfl)) ?_
      refine x_store [] hF s14 (by kernel_rfl) (gyes_none rfl) (j := 2) (v := .agg #[.int .u32 0, .int .u32 0, .slice none 0 0, .slice none 0 0, .slice none 0 0]) rfl Try.sizeOf31 rfl rfl rfl rfl rfl trivial (lcsA ⟨(lc_scalar rfl), (lc_scalar rfl), (lc_scalar rfl), (lc_scalar rfl), (lc_scalar rfl), trivial⟩) (Nat.le_of_ble_eq_true rfl) trivial trivial rfl rfl (F' := [(b9, .cells true [.int .u32 ((gF0 B : Nat) : Int), .int .u32 ((gSh B : Nat) : Int), .slice none 0 0, .slice none 0 0, .slice none 0 0] 5), (b5, .cells true [.int .i64 0, .int .u64 0, .string ⟨#[]⟩] 3), (b1, .cells true [.int .u32 0, .int .u32 0, .slice none 0 0, .slice none 0 0, .slice none 0 0] 5)]) rfl (fun H19 s20 => ⟨?_, ?_⟩)
      · exact trivial
      refine x_store [] hF s20 (by kernel_rfl) (gyes_none rfl) (j := 1) (v := .agg #[.int .i64 4, .int .u64 0, .string (⟨#[]⟩ : ByteArray)]) rfl Try.sizeOf47 rfl rfl rfl rfl rfl trivial (lcsA ⟨(lc_scalar rfl), (lc_scalar rfl), (lc_scalar rfl), trivial⟩) (Nat.le_of_ble_eq_true rfl) trivial trivial rfl rfl (F' := [(b9, .cells true [.int .u32 ((gF0 B : Nat) : Int), .int .u32 ((gSh B : Nat) : Int), .slice none 0 0, .slice none 0 0, .slice none 0 0] 5), (b5, .cells true [.int .i64 4, .int .u64 0, .string (⟨#[]⟩ : ByteArray)] 3), (b1, .cells true [.int .u32 0, .int .u32 0, .slice none 0 0, .slice none 0 0, .slice none 0 0] 5)]) rfl (fun H21 s22 => ⟨?_, ?_⟩)
      · exact trivial
      refine ⟨_, Wk.refl _ _, ?_⟩
      show awp _ _ _ _ _ _ _
      refine awp_ret_wk ?_
      obtain ⟨e1, e2⟩ := gc_zero (B := B) (by omega) (by omega)
      refine ⟨_, Wk.refl _ _, ?_⟩
      repeat (with_reducible first | refine then_ret ?_ | refine blk_ret ?_ | refine then_exit ?_ | refine blk_exit ?_ | refine blk_exit' (by decide) ?_ | refine blk_normal ?_ | refine then_normal ?_ | refine retq_ret ?_ | refine retq_normal ?_ | refine ng_normal ?_ | refine ng_ret ?_ | refine ng_exit ?_)
      refine ret_is (v := .tuple #[.agg #[.int .u32 0, .int .u32 0, .slice none 0 0, .slice none 0 0, .slice none 0 0], .agg #[.int .i64 4, .int .u64 0, .string (⟨#[]⟩ : ByteArray)]]) rfl (.agg rfl Try.isAgg31 Try.sizeOf31 (s22.rd (j := 2) rfl) (Nat.le_of_ble_eq_true rfl) rfl (.agg rfl Try.isAgg47 Try.sizeOf47 (s22.rd (j := 1) rfl) (Nat.le_of_ble_eq_true rfl) rfl .nil)) rfl ?_
      exact .inl ⟨by rw [e1]; decide, by rw [e1, e2]; first | done | rfl, s22.kp⟩
    ·
      replace c2 := ne_of_beq_false c2
      refine dv (gyes_none rfl) (q_mv (v := .bool false) rfl) rfl (by decide) (cok1 trivial) ?_
      refine dv (gyes_some rfl rfl) (q_mv (v := .int .u64 ((gM B : Nat) : Int)) rfl) rfl (by decide) (cok1 trivial) ?_
      refine dvb (gyes_some rfl rfl) (q_int rfl rfl rfl) rfl (by decide) (cok2 trivial (cconst rfl)) (fun c3 => ?_) (fun c3 => ?_)
      ·
        replace c3 := eq_of_beq c3
        refine dv (gyes_none rfl) (q_pf (v := .bool true) rfl rfl) rfl (by decide) (call_ok rfl) ?_
        refine dv (gyes_none rfl) (q_as (v := .bool true) rfl) rfl (by decide) (cok1 trivial) ?_
        refine ⟨_, Wk.refl _ _, ?_⟩
        show awp _ _ _ _ _ _ _
        refine awp_cond_t rfl ?_
        refine awp_seq ?_
        refine awp_regs hF ?_
        refine dv (gyes_none rfl) (q_buildL (ds := [.int .u32 0, .int .u32 0, .slice none 0 0, .slice none 0 0, .slice none 0 0]) [(0, 1), (1, 1), (2, 1), (3, 1), (4, 1)] [] Try.underlying31 Try.zeroValue31 (by first | exact flat_agg rfl | exact flat_scalar rfl) (by kernel_rfl) trivial lvs0 rfl) rfl (by decide) (by simp [Op.operands, Call.operands]) ?_
        refine dv (gyes_none rfl) (q_call0 Try.call29 rfl (failOf_ok 4)) rfl (by decide) (cok2 trivial (cconst rfl)) ?_
        refine x_store [] hF s14 (by kernel_rfl) (gyes_none rfl) (j := 2) (v := .agg #[.int .u32 0, .int .u32 0, .slice none 0 0, .slice none 0 0, .slice none 0 0]) rfl Try.sizeOf31 rfl rfl rfl rfl rfl trivial (lcsA ⟨(lc_scalar rfl), (lc_scalar rfl), (lc_scalar rfl), (lc_scalar rfl), (lc_scalar rfl), trivial⟩) (Nat.le_of_ble_eq_true rfl) trivial trivial rfl rfl (F' := [(b9, .cells true [.int .u32 ((gF0 B : Nat) : Int), .int .u32 ((gSh B : Nat) : Int), .slice none 0 0, .slice none 0 0, .slice none 0 0] 5), (b5, .cells true [.int .i64 0, .int .u64 0, .string ⟨#[]⟩] 3), (b1, .cells true [.int .u32 0, .int .u32 0, .slice none 0 0, .slice none 0 0, .slice none 0 0] 5)]) rfl (fun H23 s24 => ⟨?_, ?_⟩)
        · exact trivial
        refine x_store [] hF s24 (by kernel_rfl) (gyes_none rfl) (j := 1) (v := .agg #[.int .i64 4, .int .u64 0, .string (⟨#[]⟩ : ByteArray)]) rfl Try.sizeOf47 rfl rfl rfl rfl rfl trivial (lcsA ⟨(lc_scalar rfl), (lc_scalar rfl), (lc_scalar rfl), trivial⟩) (Nat.le_of_ble_eq_true rfl) trivial trivial rfl rfl (F' := [(b9, .cells true [.int .u32 ((gF0 B : Nat) : Int), .int .u32 ((gSh B : Nat) : Int), .slice none 0 0, .slice none 0 0, .slice none 0 0] 5), (b5, .cells true [.int .i64 4, .int .u64 0, .string (⟨#[]⟩ : ByteArray)] 3), (b1, .cells true [.int .u32 0, .int .u32 0, .slice none 0 0, .slice none 0 0, .slice none 0 0] 5)]) rfl (fun H25 s26 => ⟨?_, ?_⟩)
        · exact trivial
        refine ⟨_, Wk.refl _ _, ?_⟩
        show awp _ _ _ _ _ _ _
        refine awp_ret_wk ?_
        obtain ⟨e1, e2⟩ := gc_zero (B := B) (by omega) (by omega)
        refine ⟨_, Wk.refl _ _, ?_⟩
        repeat (with_reducible first | refine then_ret ?_ | refine blk_ret ?_ | refine then_exit ?_ | refine blk_exit ?_ | refine blk_exit' (by decide) ?_ | refine blk_normal ?_ | refine then_normal ?_ | refine retq_ret ?_ | refine retq_normal ?_ | refine ng_normal ?_ | refine ng_ret ?_ | refine ng_exit ?_)
        refine ret_is (v := .tuple #[.agg #[.int .u32 0, .int .u32 0, .slice none 0 0, .slice none 0 0, .slice none 0 0], .agg #[.int .i64 4, .int .u64 0, .string (⟨#[]⟩ : ByteArray)]]) rfl (.agg rfl Try.isAgg31 Try.sizeOf31 (s26.rd (j := 2) rfl) (Nat.le_of_ble_eq_true rfl) rfl (.agg rfl Try.isAgg47 Try.sizeOf47 (s26.rd (j := 1) rfl) (Nat.le_of_ble_eq_true rfl) rfl .nil)) rfl ?_
        exact .inl ⟨by rw [e1]; decide, by rw [e1, e2]; first | done | rfl, s26.kp⟩
      ·
        replace c3 := ne_of_beq_false c3
        refine dv (gyes_none rfl) (q_pf (v := .bool false) rfl rfl) rfl (by decide) (call_ok rfl) ?_
        refine dv (gyes_none rfl) (q_as (v := .bool false) rfl) rfl (by decide) (cok1 trivial) ?_
        refine ⟨_, Wk.refl _ _, ?_⟩
        show awp _ _ _ _ _ _ _
        refine awp_cond_f rfl ?_
        refine awp_seq ?_
        refine awp_regs hF ?_
        refine dv (gyes_none rfl) (q_mv (v := .int .u64 ((gN B : Nat) : Int)) rfl) rfl (by decide) (cok1 trivial) ?_
        refine dvb (gyes_none rfl) (q_int rfl rfl rfl) rfl (by decide) (cok2 trivial (cconst rfl)) (fun c4 => ?_) (fun c4 => ?_)
        ·
          replace c4 := of_decide_eq_true c4
          refine dv (gyes_none rfl) (q_mv (v := .bool true) rfl) rfl (by decide) (cok1 trivial) ?_
          refine dno rfl (.inl rfl) rfl (by decide) ?_
          refine dno rfl (.inl rfl) rfl (by decide) ?_
          refine dv (gyes_none rfl) (q_pt (v := .bool true) rfl rfl) rfl (by decide) (call_ok rfl) ?_
          refine dv (gyes_none rfl) (q_mv (v := .bool true) rfl) rfl (by decide) (cok1 trivial) ?_
          refine dno rfl (.inl rfl) rfl (by decide) ?_
          refine dno rfl (.inl rfl) rfl (by decide) ?_
          refine dv (gyes_none rfl) (q_pt (v := .bool true) rfl rfl) rfl (by decide) (call_ok rfl) ?_
          refine dv (gyes_none rfl) (q_as (v := .bool true) rfl) rfl (by decide) (cok1 trivial) ?_
          refine ⟨_, Wk.refl _ _, ?_⟩
          show awp _ _ _ _ _ _ _
          refine awp_cond_t rfl ?_
          refine awp_seq ?_
          refine awp_regs hF ?_
          refine dv (gyes_none rfl) (q_buildL (ds := [.int .u32 0, .int .u32 0, .slice none 0 0, .slice none 0 0, .slice none 0 0]) [(0, 1), (1, 1), (2, 1), (3, 1), (4, 1)] [] Try.underlying31 Try.zeroValue31 (by first | exact flat_agg rfl | exact flat_scalar rfl) (by kernel_rfl) trivial lvs0 rfl) rfl (by decide) (by simp [Op.operands, Call.operands]) ?_
          refine dv (gyes_none rfl) (q_call0 Try.call29 rfl (failOf_ok 6)) rfl (by decide) (cok2 trivial (cconst rfl)) ?_
          refine x_store [] hF s14 (by kernel_rfl) (gyes_none rfl) (j := 2) (v := .agg #[.int .u32 0, .int .u32 0, .slice none 0 0, .slice none 0 0, .slice none 0 0]) rfl Try.sizeOf31 rfl rfl rfl rfl rfl trivial (lcsA ⟨(lc_scalar rfl), (lc_scalar rfl), (lc_scalar rfl), (lc_scalar rfl), (lc_scalar rfl), trivial⟩) (Nat.le_of_ble_eq_true rfl) trivial trivial rfl rfl (F' := [(b9, .cells true [.int .u32 ((gF0 B : Nat) : Int), .int .u32 ((gSh B : Nat) : Int), .slice none 0 0, .slice none 0 0, .slice none 0 0] 5), (b5, .cells true [.int .i64 0, .int .u64 0, .string ⟨#[]⟩] 3), (b1, .cells true [.int .u32 0, .int .u32 0, .slice none 0 0, .slice none 0 0, .slice none 0 0] 5)]) rfl (fun H27 s28 => ⟨?_, ?_⟩)
          · exact trivial
          refine x_store [] hF s28 (by kernel_rfl) (gyes_none rfl) (j := 1) (v := .agg #[.int .i64 6, .int .u64 0, .string (⟨#[]⟩ : ByteArray)]) rfl Try.sizeOf47 rfl rfl rfl rfl rfl trivial (lcsA ⟨(lc_scalar rfl), (lc_scalar rfl), (lc_scalar rfl), trivial⟩) (Nat.le_of_ble_eq_true rfl) trivial trivial rfl rfl (F' := [(b9, .cells true [.int .u32 ((gF0 B : Nat) : Int), .int .u32 ((gSh B : Nat) : Int), .slice none 0 0, .slice none 0 0, .slice none 0 0] 5), (b5, .cells true [.int .i64 6, .int .u64 0, .string (⟨#[]⟩ : ByteArray)] 3), (b1, .cells true [.int .u32 0, .int .u32 0, .slice none 0 0, .slice none 0 0, .slice none 0 0] 5)]) rfl (fun H29 s30 => ⟨?_, ?_⟩)
          · exact trivial
          refine ⟨_, Wk.refl _ _, ?_⟩
          show awp _ _ _ _ _ _ _
          refine awp_ret_wk ?_
          obtain ⟨e1, e2⟩ := gc_many (B := B) (by omega) (by omega) (by omega)
          refine ⟨_, Wk.refl _ _, ?_⟩
          repeat (with_reducible first | refine then_ret ?_ | refine blk_ret ?_ | refine then_exit ?_ | refine blk_exit ?_ | refine blk_exit' (by decide) ?_ | refine blk_normal ?_ | refine then_normal ?_ | refine retq_ret ?_ | refine retq_normal ?_ | refine ng_normal ?_ | refine ng_ret ?_ | refine ng_exit ?_)
          refine ret_is (v := .tuple #[.agg #[.int .u32 0, .int .u32 0, .slice none 0 0, .slice none 0 0, .slice none 0 0], .agg #[.int .i64 6, .int .u64 0, .string (⟨#[]⟩ : ByteArray)]]) rfl (.agg rfl Try.isAgg31 Try.sizeOf31 (s30.rd (j := 2) rfl) (Nat.le_of_ble_eq_true rfl) rfl (.agg rfl Try.isAgg47 Try.sizeOf47 (s30.rd (j := 1) rfl) (Nat.le_of_ble_eq_true rfl) rfl .nil)) rfl ?_
          exact .inl ⟨by rw [e1]; decide, by rw [e1, e2]; first | done | rfl, s30.kp⟩
        ·
          replace c4 := of_decide_eq_false c4
          refine dv (gyes_none rfl) (q_mv (v := .bool false) rfl) rfl (by decide) (cok1 trivial) ?_
          refine dv (gyes_some rfl rfl) (q_mv (v := .int .u64 ((gM B : Nat) : Int)) rfl) rfl (by decide) (cok1 trivial) ?_
          refine dvb (gyes_some rfl rfl) (q_int rfl rfl rfl) rfl (by decide) (cok2 trivial (cconst rfl)) (fun c5 => ?_) (fun c5 => ?_)
          ·
            replace c5 := of_decide_eq_true c5
            refine dv (gyes_none rfl) (q_pf (v := .bool true) rfl rfl) rfl (by decide) (call_ok rfl) ?_
            refine dv (gyes_none rfl) (q_mv (v := .bool true) rfl) rfl (by decide) (cok1 trivial) ?_
            refine dno rfl (.inl rfl) rfl (by decide) ?_
            refine dno rfl (.inl rfl) rfl (by decide) ?_
            refine dv (gyes_none rfl) (q_pt (v := .bool true) rfl rfl) rfl (by decide) (call_ok rfl) ?_
            refine dv (gyes_none rfl) (q_as (v := .bool true) rfl) rfl (by decide) (cok1 trivial) ?_
            refine ⟨_, Wk.refl _ _, ?_⟩
            show awp _ _ _ _ _ _ _
            refine awp_cond_t rfl ?_
            refine awp_seq ?_
            refine awp_regs hF ?_
            refine dv (gyes_none rfl) (q_buildL (ds := [.int .u32 0, .int .u32 0, .slice none 0 0, .slice none 0 0, .slice none 0 0]) [(0, 1), (1, 1), (2, 1), (3, 1), (4, 1)] [] Try.underlying31 Try.zeroValue31 (by first | exact flat_agg rfl | exact flat_scalar rfl) (by kernel_rfl) trivial lvs0 rfl) rfl (by decide) (by simp [Op.operands, Call.operands]) ?_
            refine dv (gyes_none rfl) (q_call0 Try.call29 rfl (failOf_ok 6)) rfl (by decide) (cok2 trivial (cconst rfl)) ?_
            refine x_store [] hF s14 (by kernel_rfl) (gyes_none rfl) (j := 2) (v := .agg #[.int .u32 0, .int .u32 0, .slice none 0 0, .slice none 0 0, .slice none 0 0]) rfl Try.sizeOf31 rfl rfl rfl rfl rfl trivial (lcsA ⟨(lc_scalar rfl), (lc_scalar rfl), (lc_scalar rfl), (lc_scalar rfl), (lc_scalar rfl), trivial⟩) (Nat.le_of_ble_eq_true rfl) trivial trivial rfl rfl (F' := [(b9, .cells true [.int .u32 ((gF0 B : Nat) : Int), .int .u32 ((gSh B : Nat) : Int), .slice none 0 0, .slice none 0 0, .slice none 0 0] 5), (b5, .cells true [.int .i64 0, .int .u64 0, .string ⟨#[]⟩] 3), (b1, .cells true [.int .u32 0, .int .u32 0, .slice none 0 0, .slice none 0 0, .slice none 0 0] 5)]) rfl (fun H31 s32 => ⟨?_, ?_⟩)
            · exact trivial
            refine x_store [] hF s32 (by kernel_rfl) (gyes_none rfl) (j := 1) (v := .agg #[.int .i64 6, .int .u64 0, .string (⟨#[]⟩ : ByteArray)]) rfl Try.sizeOf47 rfl rfl rfl rfl rfl trivial (lcsA ⟨(lc_scalar rfl), (lc_scalar rfl), (lc_scalar rfl), trivial⟩) (Nat.le_of_ble_eq_true rfl) trivial trivial rfl rfl (F' := [(b9, .cells true [.int .u32 ((gF0 B : Nat) : Int), .int .u32 ((gSh B : Nat) : Int), .slice none 0 0, .slice none 0 0, .slice none 0 0] 5), (b5, .cells true [.int .i64 6, .int .u64 0, .string (⟨#[]⟩ : ByteArray)] 3), (b1, .cells true [.int .u32 0, .int .u32 0, .slice none 0 0, .slice none 0 0, .slice none 0 0] 5)]) rfl (fun H33 s34 => ⟨?_, ?_⟩)
            · exact trivial
            refine ⟨_, Wk.refl _ _, ?_⟩
            show awp _ _ _ _ _ _ _
            refine awp_ret_wk ?_
            obtain ⟨e1, e2⟩ := gc_many (B := B) (by omega) (by omega) (by omega)
            refine ⟨_, Wk.refl _ _, ?_⟩
            repeat (with_reducible first | refine then_ret ?_ | refine blk_ret ?_ | refine then_exit ?_ | refine blk_exit ?_ | refine blk_exit' (by decide) ?_ | refine blk_normal ?_ | refine then_normal ?_ | refine retq_ret ?_ | refine retq_normal ?_ | refine ng_normal ?_ | refine ng_ret ?_ | refine ng_exit ?_)
            refine ret_is (v := .tuple #[.agg #[.int .u32 0, .int .u32 0, .slice none 0 0, .slice none 0 0, .slice none 0 0], .agg #[.int .i64 6, .int .u64 0, .string (⟨#[]⟩ : ByteArray)]]) rfl (.agg rfl Try.isAgg31 Try.sizeOf31 (s34.rd (j := 2) rfl) (Nat.le_of_ble_eq_true rfl) rfl (.agg rfl Try.isAgg47 Try.sizeOf47 (s34.rd (j := 1) rfl) (Nat.le_of_ble_eq_true rfl) rfl .nil)) rfl ?_
            exact .inl ⟨by rw [e1]; decide, by rw [e1, e2]; first | done | rfl, s34.kp⟩
          ·
            replace c5 := of_decide_eq_false c5
            refine dv (gyes_none rfl) (q_pf (v := .bool false) rfl rfl) rfl (by decide) (call_ok rfl) ?_
            refine dv (gyes_none rfl) (q_mv (v := .bool false) rfl) rfl (by decide) (cok1 trivial) ?_
            refine dv (gyes_some rfl rfl) (q_mv (v := .int .u64 ((gF0 B : Nat) : Int)) rfl) rfl (by decide) (cok1 trivial) ?_
            refine dvb (gyes_some rfl rfl) (q_int rfl rfl rfl) rfl (by decide) (cok2 trivial (cconst rfl)) (fun c6 => ?_) (fun c6 => ?_)
            ·
              replace c6 := of_decide_eq_true c6
              refine dv (gyes_none rfl) (q_pf (v := .bool true) rfl rfl) rfl (by decide) (call_ok rfl) ?_
              refine dv (gyes_none rfl) (q_as (v := .bool true) rfl) rfl (by decide) (cok1 trivial) ?_
              refine ⟨_, Wk.refl _ _, ?_⟩
              show awp _ _ _ _ _ _ _
              refine awp_cond_t rfl ?_
              refine awp_seq ?_
              refine awp_regs hF ?_
              refine dv (gyes_none rfl) (q_buildL (ds := [.int .u32 0, .int .u32 0, .slice none 0 0, .slice none 0 0, .slice none 0 0]) [(0, 1), (1, 1), (2, 1), (3, 1), (4, 1)] [] Try.underlying31 Try.zeroValue31 (by first | exact flat_agg rfl | exact flat_scalar rfl) (by kernel_rfl) trivial lvs0 rfl) rfl (by decide) (by simp [Op.operands, Call.operands]) ?_
              refine dv (gyes_none rfl) (q_call0 Try.call29 rfl (failOf_ok 6)) rfl (by decide) (cok2 trivial (cconst rfl)) ?_
              refine x_store [] hF s14 (by kernel_rfl) (gyes_none rfl) (j := 2) (v := .agg #[.int .u32 0, .int .u32 0, .slice none 0 0, .slice none 0 0, .slice none 0 0]) rfl Try.sizeOf31 rfl rfl rfl rfl rfl trivial (lcsA ⟨(lc_scalar rfl), (lc_scalar rfl), (lc_scalar rfl), (lc_scalar rfl), (lc_scalar rfl), trivial⟩) (Nat.le_of_ble_eq_true rfl) trivial trivial rfl rfl (F' := [(b9, .cells true [.int .u32 ((gF0 B : Nat) : Int), .int .u32 ((gSh B : Nat) : Int), .slice none 0 0, .slice none 0 0, .slice none 0 0] 5), (b5, .cells true [.int .i64 0, .int .u64 0, .string ⟨#[]⟩] 3), (b1, .cells true [.int .u32 0, .int .u32 0, .slice none 0 0, .slice none 0 0, .slice none 0 0] 5)]) rfl (fun H35 s36 => ⟨?_, ?_⟩)
              · exact trivial
              refine x_store [] hF s36 (by kernel_rfl) (gyes_none rfl) (j := 1) (v := .agg #[.int .i64 6, .int .u64 0, .string (⟨#[]⟩ : ByteArray)]) rfl Try.sizeOf47 rfl rfl rfl rfl rfl trivial (lcsA ⟨(lc_scalar rfl), (lc_scalar rfl), (lc_scalar rfl), trivial⟩) (Nat.le_of_ble_eq_true rfl) trivial trivial rfl rfl (F' := [(b9, .cells true [.int .u32 ((gF0 B : Nat) : Int), .int .u32 ((gSh B : Nat) : Int), .slice none 0 0, .slice none 0 0, .slice none 0 0] 5), (b5, .cells true [.int .i64 6, .int .u64 0, .string (⟨#[]⟩ : ByteArray)] 3), (b1, .cells true [.int .u32 0, .int .u32 0, .slice none 0 0, .slice none 0 0, .slice none 0 0] 5)]) rfl (fun H37 s38 => ⟨?_, ?_⟩)
              · exact trivial
              refine ⟨_, Wk.refl _ _, ?_⟩
              show awp _ _ _ _ _ _ _
              refine awp_ret_wk ?_
              obtain ⟨e1, e2⟩ := gc_many (B := B) (by omega) (by omega) (by omega)
              refine ⟨_, Wk.refl _ _, ?_⟩
              repeat (with_reducible first | refine then_ret ?_ | refine blk_ret ?_ | refine then_exit ?_ | refine blk_exit ?_ | refine blk_exit' (by decide) ?_ | refine blk_normal ?_ | refine then_normal ?_ | refine retq_ret ?_ | refine retq_normal ?_ | refine ng_normal ?_ | refine ng_ret ?_ | refine ng_exit ?_)
              refine ret_is (v := .tuple #[.agg #[.int .u32 0, .int .u32 0, .slice none 0 0, .slice none 0 0, .slice none 0 0], .agg #[.int .i64 6, .int .u64 0, .string (⟨#[]⟩ : ByteArray)]]) rfl (.agg rfl Try.isAgg31 Try.sizeOf31 (s38.rd (j := 2) rfl) (Nat.le_of_ble_eq_true rfl) rfl (.agg rfl Try.isAgg47 Try.sizeOf47 (s38.rd (j := 1) rfl) (Nat.le_of_ble_eq_true rfl) rfl .nil)) rfl ?_
              exact .inl ⟨by rw [e1]; decide, by rw [e1, e2]; first | done | rfl, s38.kp⟩
            ·
              replace c6 := of_decide_eq_false c6
              refine dv (gyes_none rfl) (q_pf (v := .bool false) rfl rfl) rfl (by decide) (call_ok rfl) ?_
              refine dv (gyes_none rfl) (q_as (v := .bool false) rfl) rfl (by decide) (cok1 trivial) ?_
              refine ⟨_, Wk.refl _ _, ?_⟩
              show awp _ _ _ _ _ _ _
              refine awp_cond_f rfl ?_
              refine awp_skip_wk ?_
              refine ⟨_, Wk.refl _ _, ?_⟩
              show awp _ _ _ _ _ _ _
              refine awp_seq ?_
              refine awp_regs hF ?_
              refine dv (gyes_none rfl) (q_mv (v := .string B) rfl) rfl (by decide) (cok1 trivial) ?_
              refine dv (gyes_none rfl) (q_mv (v := .int .u64 ((gN B : Nat) : Int)) rfl) rfl (by decide) (cok1 trivial) ?_
              refine dv (gyes_none rfl) (q_mv (v := .int .u64 ((gM B : Nat) : Int)) rfl) rfl (by decide) (cok1 trivial) ?_
              refine x_call [] hF (by kernel_rfl) (gyes_none rfl) Try.call30 rfl (args := [.pointer (some ⟨b9, 0, none⟩), .string B, .int .u64 ((gN B : Nat) : Int), .int .u64 ((gM B : Nat) : Int)]) rfl (body_yes b9 (gF0 B) (gSh B) B hB (gN B) (gM B) ⟨by omega, by omega⟩ ⟨by omega, by omega⟩ hyes (s14.getj (j := 0) rfl)) (show _ < _ by decide) (call_ok rfl) rfl rfl (fun _ _ _ _ hd => by cases hd) ?_
              rintro _ H41 ⟨rfl, hk42, b39, b40, hl43, hl44, hn45, h46, h47, h48⟩
              have s49 := s14.turn1L (j := 0) rfl hk42 h46 [(b39, .cells true ((gBl B).map u64v) 1), (b40, .cells true ((gBk B).map u32v) 1)] (nod2 hn45) (by intro p hp; rcases List.mem_cons.1 hp with rfl | hp; exact hl43; rw [List.mem_singleton.1 hp]; exact hl44) ⟨h47, h48, trivial⟩
              refine ⟨trivial, ?_⟩
              show dList _ _ _ _ _ _ _ _ _ _
              refine dv (gyes_none rfl) (q_mv (v := .tuple #[.int .u64 ((gA0 B : Nat) : Int), .bool true]) rfl) rfl (by decide) (cok1 trivial) ?_
              refine dv (gyes_none rfl) (q_extract (v := .int .u64 ((gA0 B : Nat) : Int)) rfl rfl) rfl (by decide) (cok1 trivial) ?_
              refine dv (gyes_none rfl) (q_extract (v := .bool true) rfl rfl) rfl (by decide) (cok1 trivial) ?_
              refine dv (gyes_none rfl) (q_as (v := .int .u64 ((gA0 B : Nat) : Int)) rfl) rfl (by decide) (cok1 trivial) ?_
              refine dv (gyes_none rfl) (q_as (v := .bool true) rfl) rfl (by decide) (cok1 trivial) ?_
              refine ⟨_, Wk.refl _ _, ?_⟩
              show awp _ _ _ _ _ _ _
              refine awp_seq ?_
              refine awp_seq ?_
              refine awp_regs hF ?_
              refine dv (gyes_none rfl) (q_mv (v := .bool true) rfl) rfl (by decide) (cok1 trivial) ?_
              refine dv (gyes_none rfl) (q_not (b := true) rfl) rfl (by decide) (cok1 trivial) ?_
              refine ⟨_, Wk.refl _ _, ?_⟩
              show awp _ _ _ _ _ _ _
              refine awp_cond_f rfl ?_
              refine awp_skip_wk ?_
              refine ⟨_, Wk.refl _ _, ?_⟩
              show awp _ _ _ _ _ _ _
              refine awp_seq ?_
              refine awp_seq ?_
              refine awp_regs hF ?_
              refine dv (gyes_none rfl) (q_field Try.underlying31 rfl Try.sizeOf29 rfl (s49.rd (j := 2) rfl)) rfl (by decide) (cok1 trivial) ?_
              refine dv (gyes_none rfl) (q_load (v := .slice (some ⟨b40, 0, none⟩) (gN B) (gN B)) Try.isAgg29 rfl (s49.rd (j := 2) rfl) rfl) rfl (by decide) (cok1 trivial) ?_
              refine dv (gyes_none rfl) (q_len_slice Try.underlying29 rfl (s49.rd (j := 1) rfl)) rfl (by decide) (cok1 trivial) ?_
              refine dv (gyes_none rfl) (q_mv (v := .int .i64 0) rfl) rfl (by decide) (cok1 (cconst rfl)) ?_
              refine ⟨_, Wk.refl _ _, ?_⟩
              show awp _ _ _ _ _ _ _
              refine awp_block ?_
              refine awp_wk (Wk.U [(0, .string B), (2, .pointer (some ⟨b1, 0, none⟩)), (3, .pointer (some ⟨b5, 0, none⟩)), (4, .int .u64 ((gN B : Nat) : Int)), (5, .int .u64 ((gF0 B : Nat) : Int)), (6, .int .u64 ((gM B : Nat) : Int)), (7, .int .u64 ((gSh B : Nat) : Int)), (8, .pointer (some ⟨b9, 0, none⟩)), (9, .int .u64 ((gA0 B : Nat) : Int)), (67, .slice (some ⟨b40, 0, none⟩) (gN B) (gN B)), (68, .int .i64 ((gN B : Nat) : Int)), (69, .int .i64 0)] ⟨rfl, rfl, rfl, rfl, rfl, rfl, rfl, rfl, rfl, rfl, rfl, rfl, trivial⟩) ?_
              refine awp_loop (fun (i : Nat) st => ∃ (H50 : AHeap), st = ⟨106, U [(0, .string B), (2, .pointer (some ⟨b1, 0, none⟩)), (3, .pointer (some ⟨b5, 0, none⟩)), (4, .int .u64 ((gN B : Nat) : Int)), (5, .int .u64 ((gF0 B : Nat) : Int)), (6, .int .u64 ((gM B : Nat) : Int)), (7, .int .u64 ((gSh B : Nat) : Int)), (8, .pointer (some ⟨b9, 0, none⟩)), (9, .int .u64 ((gA0 B : Nat) : Int)), (67, .slice (some ⟨b40, 0, none⟩) (gN B) (gN B)), (68, .int .i64 ((gN B : Nat) : Int)), (69, .int .i64 ((i : Nat) : Int))], [], H50⟩ ∧ St H0 (none0) (Rd H0) H50 [(b39, .cells true ((gBl B).map u64v) 1), (b40, .cells true ((gBk B).map u32v) 1), (b9, .cells true [.int .u32 ((gF0 B : Nat) : Int), .int .u32 ((gSh B : Nat) : Int), .slice (some ⟨b39, 0, none⟩) (gM B) (gM B), .slice (some ⟨b40, 0, none⟩) (gN B) (gN B), .slice none 0 0] 5), (b5, .cells true [.int .i64 0, .int .u64 0, .string ⟨#[]⟩] 3), (b1, .cells true [.int .u32 0, .int .u32 0, .slice none 0 0, .slice none 0 0, .slice none 0 0] 5)] ∧ (i ≤ gN B ∧ ∀ j, j < i → gBad B j = false)) (fun (i : Nat) => gN B - i) (x0 := (0)) ?h0 ?round
              case h0 =>
                exact ⟨_, rfl, s49, ⟨Nat.zero_le _, fun j h => absurd h (Nat.not_lt_zero _)⟩⟩
              case round =>
                rintro i _ ⟨H50, rfl, s51, hi⟩
                refine awp_seq ?_
                refine awp_regs hF ?_
                refine dvb (gyes_none rfl) (q_int rfl rfl rfl) rfl (by decide) (cok2 trivial trivial) (fun c7 => ?_) (fun c7 => ?_)
                ·
                  replace c7 := of_decide_eq_true c7
                  refine ⟨_, Wk.refl _ _, ?_⟩
                  show awp _ _ _ _ _ _ _
                  refine awp_seq ?_
                  refine awp_cond_t rfl ?_
                  refine awp_skip_wk ?_
                  refine ⟨_, Wk.refl _ _, ?_⟩
                  show awp _ _ _ _ _ _ _
                  refine awp_seq ?_
                  refine awp_block ?_
                  refine awp_seq ?_
                  refine awp_regs hF ?_
                  refine dv (gyes_none rfl) (q_mv (v := .int .i64 ((i : Nat) : Int)) rfl) rfl (by decide) (cok1 trivial) ?_
                  refine dv (gyes_none rfl) (OpQ.cast (v' := .pointer (some ⟨b40, i, none⟩)) (q_index1 (i := i) Try.underlying29 Try.sizeOf27 rfl rfl (by omega) (s51.rd (j := 1) rfl)) (by rw [Nat.zero_add])) rfl (by decide) (cok2 trivial trivial) ?_
                  refine dv (gyes_none rfl) (q_load (v := u32v (nth (gBk B) i)) Try.isAgg27 rfl (s51.rd (j := 1) rfl) (get_nth (w := 0) (by omega))) rfl (by decide) (cok1 trivial) ?_
                  refine dv (gyes_none rfl) (q_as (v := .int .i64 ((i : Nat) : Int)) rfl) rfl (by decide) (cok1 trivial) ?_
                  refine dv (gyes_none rfl) (q_as (v := .int .u32 ((nth (gBk B) i : Nat) : Int)) rfl) rfl (by decide) (cok1 trivial) ?_
                  refine ⟨_, Wk.refl _ _, ?_⟩
                  show awp _ _ _ _ _ _ _
                  refine awp_seq ?_
                  refine awp_regs hF ?_
                  refine dv (gyes_none rfl) (q_mv (v := .int .u32 ((nth (gBk B) i : Nat) : Int)) rfl) rfl (by decide) (cok1 trivial) ?_
                  refine dvb (gyes_none rfl) (q_int rfl rfl rfl) rfl (by decide) (cok2 trivial (cconst rfl)) (fun c8 => ?_) (fun c8 => ?_)
                  ·
                    replace c8 := bne_iff_ne.1 c8
                    refine dv (gyes_none rfl) (q_mv (v := .bool true) rfl) rfl (by decide) (cok1 trivial) ?_
                    refine dv (gyes_some rfl rfl) (q_mv (v := .int .u32 ((nth (gBk B) i : Nat) : Int)) rfl) rfl (by decide) (cok1 trivial) ?_
                    refine dv (gyes_some rfl rfl) (q_field Try.underlying31 rfl Try.sizeOf27 rfl (s51.rd (j := 2) rfl)) rfl (by decide) (cok1 trivial) ?_
                    refine dv (gyes_some rfl rfl) (q_load (v := .int .u32 ((gF0 B : Nat) : Int)) Try.isAgg27 rfl (s51.rd (j := 2) rfl) rfl) rfl (by decide) (cok1 trivial) ?_
                    refine dvb (gyes_some rfl rfl) (q_int rfl rfl rfl) rfl (by decide) (cok2 trivial trivial) (fun c9 => ?_) (fun c9 => ?_)
                    ·
                      replace c9 := of_decide_eq_true c9
                      refine dv (gyes_some rfl rfl) (q_mv (v := .bool true) rfl) rfl (by decide) (cok1 trivial) ?_
                      refine dno rfl (.inl rfl) rfl (by decide) ?_
                      refine dno rfl (.inl rfl) rfl (by decide) ?_
                      refine dv (gyes_some rfl rfl) (q_pt (v := .bool true) rfl rfl) rfl (by decide) (call_ok rfl) ?_
                      refine dv (gyes_none rfl) (q_pt (v := .bool true) rfl rfl) rfl (by decide) (call_ok rfl) ?_
                      refine ⟨_, Wk.refl _ _, ?_⟩
                      show awp _ _ _ _ _ _ _
                      refine awp_cond_t rfl ?_
                      refine awp_seq ?_
                      refine awp_regs hF ?_
                      refine dv (gyes_none rfl) (q_buildL (ds := [.int .u32 0, .int .u32 0, .slice none 0 0, .slice none 0 0, .slice none 0 0]) [(0, 1), (1, 1), (2, 1), (3, 1), (4, 1)] [] Try.underlying31 Try.zeroValue31 (by first | exact flat_agg rfl | exact flat_scalar rfl) (by kernel_rfl) trivial lvs0 rfl) rfl (by decide) (by simp [Op.operands, Call.operands]) ?_
                      refine dv (gyes_none rfl) (q_mv (v := .int .u64 ((gM B : Nat) : Int)) rfl) rfl (by decide) (cok1 trivial) ?_
                      refine dv (gyes_none rfl) (OpQ.cast (v' := .int .u64 (((gM B) * 8 : Nat) : Int)) (q_int rfl rfl rfl) (congrArg _ ((u64_in (by omega)).trans (by first | rfl | omega | (push_cast; rfl))))) rfl (by decide) (cok2 trivial (cconst rfl)) ?_
                      refine dv (gyes_none rfl) (OpQ.cast (v' := .int .u64 ((16 + ((gM B) * 8) : Nat) : Int)) (q_int rfl rfl rfl) (congrArg _ ((u64_in (by omega)).trans (by first | rfl | omega | (push_cast; rfl))))) rfl (by decide) (cok2 (cconst rfl) trivial) ?_
                      refine dv (gyes_none rfl) (q_mv (v := .int .i64 ((i : Nat) : Int)) rfl) rfl (by decide) (cok1 trivial) ?_
                      refine dv (gyes_none rfl) (q_convin (a := ((i : Nat) : Int)) Try.underlying3 Try.underlying45 rfl (u64_in (by omega))) rfl (by decide) (cok1 trivial) ?_
                      refine dv (gyes_none rfl) (OpQ.cast (v' := .int .u64 ((i * 4 : Nat) : Int)) (q_int rfl rfl rfl) (congrArg _ ((u64_in (by omega)).trans (by first | rfl | omega | (push_cast; rfl))))) rfl (by decide) (cok2 trivial (cconst rfl)) ?_
                      refine dv (gyes_none rfl) (OpQ.cast (v' := .int .u64 ((16 + ((gM B) * 8) + (i * 4) : Nat) : Int)) (q_int rfl rfl rfl) (congrArg _ ((u64_in (by omega)).trans (by first | rfl | omega | (push_cast; rfl))))) rfl (by decide) (cok2 trivial trivial) ?_
                      refine dv (gyes_none rfl) (q_call0 Try.call31 rfl (failAt_ok 5 (16 + ((gM B) * 8) + (i * 4)))) rfl (by decide) (call_ok rfl) ?_
                      refine x_store [] hF s51 (by kernel_rfl) (gyes_none rfl) (j := 4) (v := .agg #[.int .u32 0, .int .u32 0, .slice none 0 0, .slice none 0 0, .slice none 0 0]) rfl Try.sizeOf31 rfl rfl rfl rfl rfl trivial (lcsA ⟨(lc_scalar rfl), (lc_scalar rfl), (lc_scalar rfl), (lc_scalar rfl), (lc_scalar rfl), trivial⟩) (Nat.le_of_ble_eq_true rfl) trivial trivial rfl rfl (F' := [(b39, .cells true ((gBl B).map u64v) 1), (b40, .cells true ((gBk B).map u32v) 1), (b9, .cells true [.int .u32 ((gF0 B : Nat) : Int), .int .u32 ((gSh B : Nat) : Int), .slice (some ⟨b39, 0, none⟩) (gM B) (gM B), .slice (some ⟨b40, 0, none⟩) (gN B) (gN B), .slice none 0 0] 5), (b5, .cells true [.int .i64 0, .int .u64 0, .string ⟨#[]⟩] 3), (b1, .cells true [.int .u32 0, .int .u32 0, .slice none 0 0, .slice none 0 0, .slice none 0 0] 5)]) rfl (fun H52 s53 => ⟨?_, ?_⟩)
                      · exact trivial
                      refine x_store [] hF s53 (by kernel_rfl) (gyes_none rfl) (j := 3) (v := .agg #[.int .i64 5, .int .u64 ((16 + ((gM B) * 8) + (i * 4) : Nat) : Int), .string (⟨#[]⟩ : ByteArray)]) rfl Try.sizeOf47 rfl rfl rfl rfl rfl trivial (lcsA ⟨(lc_scalar rfl), (lc_scalar rfl), (lc_scalar rfl), trivial⟩) (Nat.le_of_ble_eq_true rfl) trivial trivial rfl rfl (F' := [(b39, .cells true ((gBl B).map u64v) 1), (b40, .cells true ((gBk B).map u32v) 1), (b9, .cells true [.int .u32 ((gF0 B : Nat) : Int), .int .u32 ((gSh B : Nat) : Int), .slice (some ⟨b39, 0, none⟩) (gM B) (gM B), .slice (some ⟨b40, 0, none⟩) (gN B) (gN B), .slice none 0 0] 5), (b5, .cells true [.int .i64 5, .int .u64 ((16 + ((gM B) * 8) + (i * 4) : Nat) : Int), .string (⟨#[]⟩ : ByteArray)] 3), (b1, .cells true [.int .u32 0, .int .u32 0, .slice none 0 0, .slice none 0 0, .slice none 0 0] 5)]) rfl (fun H54 s55 => ⟨?_, ?_⟩)
                      · exact trivial
                      refine ⟨_, Wk.refl _ _, ?_⟩
                      show awp _ _ _ _ _ _ _
                      refine awp_ret_wk ?_
                      obtain ⟨e1, e2⟩ := gc_bad (B := B) (i := i) (by omega) (by omega) (by omega) hyes (by omega) (gBad_y (by omega) (by omega)) hi.2
                      refine ⟨_, Wk.refl _ _, ?_⟩
                      repeat (with_reducible first | refine then_ret ?_ | refine blk_ret ?_ | refine then_exit ?_ | refine blk_exit ?_ | refine blk_exit' (by decide) ?_ | refine blk_normal ?_ | refine then_normal ?_ | refine retq_ret ?_ | refine retq_normal ?_ | refine ng_normal ?_ | refine ng_ret ?_ | refine ng_exit ?_)
                      refine ret_is (v := .tuple #[.agg #[.int .u32 0, .int .u32 0, .slice none 0 0, .slice none 0 0, .slice none 0 0], .agg #[.int .i64 5, .int .u64 ((16 + ((gM B) * 8) + (i * 4) : Nat) : Int), .string (⟨#[]⟩ : ByteArray)]]) rfl (.agg rfl Try.isAgg31 Try.sizeOf31 (s55.rd (j := 4) rfl) (Nat.le_of_ble_eq_true rfl) rfl (.agg rfl Try.isAgg47 Try.sizeOf47 (s55.rd (j := 3) rfl) (Nat.le_of_ble_eq_true rfl) rfl .nil)) rfl ?_
                      exact .inl ⟨by rw [e1]; decide, by rw [e1, e2]; first | done | rfl, s55.kp⟩
                    ·
                      replace c9 := of_decide_eq_false c9
                      refine dv (gyes_some rfl rfl) (q_mv (v := .bool false) rfl) rfl (by decide) (cok1 trivial) ?_
                      refine dv (gyes_some rfl rfl) (q_mv (v := .int .u32 ((nth (gBk B) i : Nat) : Int)) rfl) rfl (by decide) (cok1 trivial) ?_
                      refine dvb (gyes_some rfl rfl) (q_int rfl rfl rfl) rfl (by decide) (cok2 trivial (cconst rfl)) (fun c10 => ?_) (fun c10 => ?_)
                      ·
                        replace c10 := of_decide_eq_true c10
                        refine dv (gyes_some rfl rfl) (q_pf (v := .bool true) rfl rfl) rfl (by decide) (call_ok rfl) ?_
                        refine dv (gyes_none rfl) (q_pt (v := .bool true) rfl rfl) rfl (by decide) (call_ok rfl) ?_
                        refine ⟨_, Wk.refl _ _, ?_⟩
                        show awp _ _ _ _ _ _ _
                        refine awp_cond_t rfl ?_
                        refine awp_seq ?_
                        refine awp_regs hF ?_
                        refine dv (gyes_none rfl) (q_buildL (ds := [.int .u32 0, .int .u32 0, .slice none 0 0, .slice none 0 0, .slice none 0 0]) [(0, 1), (1, 1), (2, 1), (3, 1), (4, 1)] [] Try.underlying31 Try.zeroValue31 (by first | exact flat_agg rfl | exact flat_scalar rfl) (by kernel_rfl) trivial lvs0 rfl) rfl (by decide) (by simp [Op.operands, Call.operands]) ?_
                        refine dv (gyes_none rfl) (q_mv (v := .int .u64 ((gM B : Nat) : Int)) rfl) rfl (by decide) (cok1 trivial) ?_
                        refine dv (gyes_none rfl) (OpQ.cast (v' := .int .u64 (((gM B) * 8 : Nat) : Int)) (q_int rfl rfl rfl) (congrArg _ ((u64_in (by omega)).trans (by first | rfl | omega | (push_cast; rfl))))) rfl (by decide) (cok2 trivial (cconst rfl)) ?_
                        refine dv (gyes_none rfl) (OpQ.cast (v' := .int .u64 ((16 + ((gM B) * 8) : Nat) : Int)) (q_int rfl rfl rfl) (congrArg _ ((u64_in (by omega)).trans (by first | rfl | omega | (push_cast; rfl))))) rfl (by decide) (cok2 (cconst rfl) trivial) ?_
                        refine dv (gyes_none rfl) (q_mv (v := .int .i64 ((i : Nat) : Int)) rfl) rfl (by decide) (cok1 trivial) ?_
                        refine dv (gyes_none rfl) (q_convin (a := ((i : Nat) : Int)) Try.underlying3 Try.underlying45 rfl (u64_in (by omega))) rfl (by decide) (cok1 trivial) ?_
                        refine dv (gyes_none rfl) (OpQ.cast (v' := .int .u64 ((i * 4 : Nat) : Int)) (q_int rfl rfl rfl) (congrArg _ ((u64_in (by omega)).trans (by first | rfl | omega | (push_cast; rfl))))) rfl (by decide) (cok2 trivial (cconst rfl)) ?_
                        refine dv (gyes_none rfl) (OpQ.cast (v' := .int .u64 ((16 + ((gM B) * 8) + (i * 4) : Nat) : Int)) (q_int rfl rfl rfl) (congrArg _ ((u64_in (by omega)).trans (by first | rfl | omega | (push_cast; rfl))))) rfl (by decide) (cok2 trivial trivial) ?_
                        refine dv (gyes_none rfl) (q_call0 Try.call31 rfl (failAt_ok 5 (16 + ((gM B) * 8) + (i * 4)))) rfl (by decide) (call_ok rfl) ?_
                        refine x_store [] hF s51 (by kernel_rfl) (gyes_none rfl) (j := 4) (v := .agg #[.int .u32 0, .int .u32 0, .slice none 0 0, .slice none 0 0, .slice none 0 0]) rfl Try.sizeOf31 rfl rfl rfl rfl rfl trivial (lcsA ⟨(lc_scalar rfl), (lc_scalar rfl), (lc_scalar rfl), (lc_scalar rfl), (lc_scalar rfl), trivial⟩) (Nat.le_of_ble_eq_true rfl) trivial trivial rfl rfl (F' := [(b39, .cells true ((gBl B).map u64v) 1), (b40, .cells true ((gBk B).map u32v) 1), (b9, .cells true [.int .u32 ((gF0 B : Nat) : Int), .int .u32 ((gSh B : Nat) : Int), .slice (some ⟨b39, 0, none⟩) (gM B) (gM B), .slice (some ⟨b40, 0, none⟩) (gN B) (gN B), .slice none 0 0] 5), (b5, .cells true [.int .i64 0, .int .u64 0, .string ⟨#[]⟩] 3), (b1, .cells true [.int .u32 0, .int .u32 0, .slice none 0 0, .slice none 0 0, .slice none 0 0] 5)]) rfl (fun H56 s57 => ⟨?_, ?_⟩)
                        · exact trivial
                        refine x_store [] hF s57 (by kernel_rfl) (gyes_none rfl) (j := 3) (v := .agg #[.int .i64 5, .int .u64 ((16 + ((gM B) * 8) + (i * 4) : Nat) : Int), .string (⟨#[]⟩ : ByteArray)]) rfl Try.sizeOf47 rfl rfl rfl rfl rfl trivial (lcsA ⟨(lc_scalar rfl), (lc_scalar rfl), (lc_scalar rfl), trivial⟩) (Nat.le_of_ble_eq_true rfl) trivial trivial rfl rfl (F' := [(b39, .cells true ((gBl B).map u64v) 1), (b40, .cells true ((gBk B).map u32v) 1), (b9, .cells true [.int .u32 ((gF0 B : Nat) : Int), .int .u32 ((gSh B : Nat) : Int), .slice (some ⟨b39, 0, none⟩) (gM B) (gM B), .slice (some ⟨b40, 0, none⟩) (gN B) (gN B), .slice none 0 0] 5), (b5, .cells true [.int .i64 5, .int .u64 ((16 + ((gM B) * 8) + (i * 4) : Nat) : Int), .string (⟨#[]⟩ : ByteArray)] 3), (b1, .cells true [.int .u32 0, .int .u32 0, .slice none 0 0, .slice none 0 0, .slice none 0 0] 5)]) rfl (fun H58 s59 => ⟨?_, ?_⟩)
                        · exact trivial
                        refine ⟨_, Wk.refl _ _, ?_⟩
                        show awp _ _ _ _ _ _ _
                        refine awp_ret_wk ?_
                        obtain ⟨e1, e2⟩ := gc_bad (B := B) (i := i) (by omega) (by omega) (by omega) hyes (by omega) (gBad_y (by omega) (by omega)) hi.2
                        refine ⟨_, Wk.refl _ _, ?_⟩
                        repeat (with_reducible first | refine then_ret ?_ | refine blk_ret ?_ | refine then_exit ?_ | refine blk_exit ?_ | refine blk_exit' (by decide) ?_ | refine blk_normal ?_ | refine then_normal ?_ | refine retq_ret ?_ | refine retq_normal ?_ | refine ng_normal ?_ | refine ng_ret ?_ | refine ng_exit ?_)
                        refine ret_is (v := .tuple #[.agg #[.int .u32 0, .int .u32 0, .slice none 0 0, .slice none 0 0, .slice none 0 0], .agg #[.int .i64 5, .int .u64 ((16 + ((gM B) * 8) + (i * 4) : Nat) : Int), .string (⟨#[]⟩ : ByteArray)]]) rfl (.agg rfl Try.isAgg31 Try.sizeOf31 (s59.rd (j := 4) rfl) (Nat.le_of_ble_eq_true rfl) rfl (.agg rfl Try.isAgg47 Try.sizeOf47 (s59.rd (j := 3) rfl) (Nat.le_of_ble_eq_true rfl) rfl .nil)) rfl ?_
                        exact .inl ⟨by rw [e1]; decide, by rw [e1, e2]; first | done | rfl, s59.kp⟩
                      ·
                        replace c10 := of_decide_eq_false c10
                        refine dv (gyes_some rfl rfl) (q_pf (v := .bool false) rfl rfl) rfl (by decide) (call_ok rfl) ?_
                        refine dv (gyes_none rfl) (q_pt (v := .bool false) rfl rfl) rfl (by decide) (call_ok rfl) ?_
                        refine ⟨_, Wk.refl _ _, ?_⟩
                        show awp _ _ _ _ _ _ _
                        refine awp_cond_f rfl ?_
                        refine awp_skip_wk ?_
                        refine ⟨_, Wk.refl _ _, ?_⟩
                        show awp _ _ _ _ _ _ _
                        refine awp_regs hF ?_
                        refine dv (gyes_none rfl) (OpQ.cast (v' := .int .i64 ((i + 1 : Nat) : Int)) (q_int rfl rfl rfl) (congrArg _ ((i64_in (by omega)).trans (by first | rfl | omega | (push_cast; rfl))))) rfl (by decide) (cok2 trivial (cconst rfl)) ?_
                        refine dv (gyes_none rfl) (q_mv (v := .int .i64 ((i + 1 : Nat) : Int)) rfl) rfl (by decide) (cok1 trivial) ?_
                        refine ⟨_, Wk.U [(0, .string B), (2, .pointer (some ⟨b1, 0, none⟩)), (3, .pointer (some ⟨b5, 0, none⟩)), (4, .int .u64 ((gN B : Nat) : Int)), (5, .int .u64 ((gF0 B : Nat) : Int)), (6, .int .u64 ((gM B : Nat) : Int)), (7, .int .u64 ((gSh B : Nat) : Int)), (8, .pointer (some ⟨b9, 0, none⟩)), (9, .int .u64 ((gA0 B : Nat) : Int)), (67, .slice (some ⟨b40, 0, none⟩) (gN B) (gN B)), (68, .int .i64 ((gN B : Nat) : Int)), (69, .int .i64 (((i + 1) : Nat) : Int))] ⟨rfl, rfl, rfl, rfl, rfl, rfl, rfl, rfl, rfl, rfl, rfl, rfl, trivial⟩, (i + 1), ⟨_, rfl, s51, ⟨by omega, lt_succ_casesN hi.2 (gBad_n (by omega))⟩⟩, (by omega)⟩
                  ·
                    replace c8 := bne_eq_false_iff_eq.1 c8
                    refine dv (gyes_none rfl) (q_mv (v := .bool false) rfl) rfl (by decide) (cok1 trivial) ?_
                    refine dno rfl (.inl rfl) rfl (by decide) ?_
                    refine dno rfl (.inl rfl) rfl (by decide) ?_
                    refine dno rfl (.inl rfl) rfl (by decide) ?_
                    refine dno rfl (.inl rfl) rfl (by decide) ?_
                    refine dno rfl (.inl rfl) rfl (by decide) ?_
                    refine dno rfl (.inr rfl) rfl (by decide) ?_
                    refine dno rfl (.inr rfl) rfl (by decide) ?_
                    refine dno rfl (.inl rfl) rfl (by decide) ?_
                    refine dv (gyes_none rfl) (q_pf (v := .bool false) rfl rfl) rfl (by decide) (call_ok rfl) ?_
                    refine ⟨_, Wk.refl _ _, ?_⟩
                    show awp _ _ _ _ _ _ _
                    refine awp_cond_f rfl ?_
                    refine awp_skip_wk ?_
                    refine ⟨_, Wk.refl _ _, ?_⟩
                    show awp _ _ _ _ _ _ _
                    refine awp_regs hF ?_
                    refine dv (gyes_none rfl) (OpQ.cast (v' := .int .i64 ((i + 1 : Nat) : Int)) (q_int rfl rfl rfl) (congrArg _ ((i64_in (by omega)).trans (by first | rfl | omega | (push_cast; rfl))))) rfl (by decide) (cok2 trivial (cconst rfl)) ?_
                    refine dv (gyes_none rfl) (q_mv (v := .int .i64 ((i + 1 : Nat) : Int)) rfl) rfl (by decide) (cok1 trivial) ?_
                    refine ⟨_, Wk.U [(0, .string B), (2, .pointer (some ⟨b1, 0, none⟩)), (3, .pointer (some ⟨b5, 0, none⟩)), (4, .int .u64 ((gN B : Nat) : Int)), (5, .int .u64 ((gF0 B : Nat) : Int)), (6, .int .u64 ((gM B : Nat) : Int)), (7, .int .u64 ((gSh B : Nat) : Int)), (8, .pointer (some ⟨b9, 0, none⟩)), (9, .int .u64 ((gA0 B : Nat) : Int)), (67, .slice (some ⟨b40, 0, none⟩) (gN B) (gN B)), (68, .int .i64 ((gN B : Nat) : Int)), (69, .int .i64 (((i + 1) : Nat) : Int))] ⟨rfl, rfl, rfl, rfl, rfl, rfl, rfl, rfl, rfl, rfl, rfl, rfl, trivial⟩, (i + 1), ⟨_, rfl, s51, ⟨by omega, lt_succ_casesN hi.2 (gBad_n (by omega))⟩⟩, (by omega)⟩
                ·
                  replace c7 := of_decide_eq_false c7
                  refine ⟨_, Wk.refl _ _, ?_⟩
                  show awp _ _ _ _ _ _ _
                  refine awp_seq ?_
                  refine awp_cond_f rfl ?_
                  refine awp_exit_wk ?_
                  refine ⟨_, Wk.refl _ _, ?_⟩
                  show awp _ _ _ _ _ _ _
                  refine awp_seq ?_
                  refine awp_seq ?_
                  refine awp_regs hF ?_
                  refine dv (gyes_none rfl) (q_mv (v := .string B) rfl) rfl (by decide) (cok1 trivial) ?_
                  refine dv (gyes_none rfl) (q_mv (v := .int .u64 ((gA0 B : Nat) : Int)) rfl) rfl (by decide) (cok1 trivial) ?_
                  refine x_call [] hF (by kernel_rfl) (gyes_none rfl) Try.call32 rfl (args := [.pointer (some ⟨b9, 0, none⟩), .string B, .int .u64 ((gA0 B : Nat) : Int)]) rfl (chains_zero b9 (gF0 B) (gSh B) _ _ (gBl B) (gBk B) B (gA0 B) hB (by unfold gA0; omega) (by omega) (by rw [gBk_len]; omega) (by rw [gBk_len]; omega) (slz_full (Z := Off _ [b9]) ⟨s51.rd (j := 0) rfl, (nin1 (s51.nej (i := 0) (j := 2) rfl rfl (by decide)))⟩ gBl_len (Nat.le_refl _)) (slz_full (Z := Off _ [b9]) ⟨s51.rd (j := 1) rfl, (nin1 (s51.nej (i := 1) (j := 2) rfl rfl (by decide)))⟩ gBk_len (Nat.le_refl _)) gBk_w (s51.getj (j := 2) rfl) hmz) (show _ < _ by decide) (call_ok rfl) rfl rfl (fun _ _ _ _ hd => by cases hd) ?_
                  rintro _ H60 ⟨rfl, hk61, h62⟩
                  have s63 := s51.turn1 (j := 2) rfl hk61 h62
                  refine ⟨trivial, ?_⟩
                  show dList _ _ _ _ _ _ _ _ _ _
                  refine dv (gyes_none rfl) (q_as (v := .int .i64 0) rfl) rfl (by decide) (cok1 trivial) ?_
                  refine ⟨_, Wk.refl _ _, ?_⟩
                  show awp _ _ _ _ _ _ _
                  refine awp_seq ?_
                  refine awp_regs hF ?_
                  refine dv (gyes_none rfl) (q_mv (v := .int .i64 0) rfl) rfl (by decide) (cok1 trivial) ?_
                  refine dv (gyes_none rfl) (OpQ.cast (v' := .bool false) (q_int rfl rfl rfl) (congrArg Value.bool (bne_self_eq_false _))) rfl (by decide) (cok2 trivial (cconst rfl)) ?_
                  refine ⟨_, Wk.refl _ _, ?_⟩
                  show awp _ _ _ _ _ _ _
                  refine awp_cond_f rfl ?_
                  refine awp_skip_wk ?_
                  refine ⟨_, Wk.refl _ _, ?_⟩
                  show awp _ _ _ _ _ _ _
                  refine awp_seq ?_
                  refine awp_regs hF ?_
                  refine dv (gyes_none rfl) (q_loadAgg Try.isAgg31 Try.sizeOf31 rfl (s63.rd (j := 2) rfl) (Nat.le_of_ble_eq_true rfl) rfl) rfl (by decide) (cok1 trivial) ?_
                  refine dv (gyes_none rfl) (q_buildL (ds := [.int .i64 0, .int .u64 0, .string ⟨#[]⟩]) [(0, 1), (1, 1), (2, 1)] [] Try.underlying47 Try.zeroValue47 (by first | exact flat_agg rfl | exact flat_scalar rfl) (by kernel_rfl) trivial lvs0 rfl) rfl (by decide) (by simp [Op.operands, Call.operands]) ?_
                  refine x_store [] hF s63 (by kernel_rfl) (gyes_none rfl) (j := 4) (v := .agg #[.int .u32 ((gF0 B : Nat) : Int), .int .u32 ((gSh B : Nat) : Int), .slice (some ⟨b39, 0, none⟩) (gM B) (gM B), .slice (some ⟨b40, 0, none⟩) (gN B) (gN B), .slice none 0 0]) rfl Try.sizeOf31 rfl rfl rfl rfl rfl trivial (lcsA ⟨(lc_scalar rfl), (lc_scalar rfl), (lc_slice (s63.live (j := 0) rfl)), (lc_slice (s63.live (j := 1) rfl)), (lc_scalar rfl), trivial⟩) (Nat.le_of_ble_eq_true rfl) trivial trivial rfl rfl (F' := [(b39, .cells true ((gBl B).map u64v) 1), (b40, .cells true ((gBk B).map u32v) 1), (b9, .cells true [.int .u32 ((gF0 B : Nat) : Int), .int .u32 ((gSh B : Nat) : Int), .slice (some ⟨b39, 0, none⟩) (gM B) (gM B), .slice (some ⟨b40, 0, none⟩) (gN B) (gN B), .slice none 0 0] 5), (b5, .cells true [.int .i64 0, .int .u64 0, .string ⟨#[]⟩] 3), (b1, .cells true [.int .u32 ((gF0 B : Nat) : Int), .int .u32 ((gSh B : Nat) : Int), .slice (some ⟨b39, 0, none⟩) (gM B) (gM B), .slice (some ⟨b40, 0, none⟩) (gN B) (gN B), .slice none 0 0] 5)]) rfl (fun H64 s65 => ⟨?_, ?_⟩)
                  · exact trivial
                  refine x_store [] hF s65 (by kernel_rfl) (gyes_none rfl) (j := 3) (v := .agg #[.int .i64 0, .int .u64 0, .string ⟨#[]⟩]) rfl Try.sizeOf47 rfl rfl rfl rfl rfl trivial (lcsA ⟨(lc_scalar rfl), (lc_scalar rfl), (lc_scalar rfl), trivial⟩) (Nat.le_of_ble_eq_true rfl) trivial trivial rfl rfl (F' := [(b39, .cells true ((gBl B).map u64v) 1), (b40, .cells true ((gBk B).map u32v) 1), (b9, .cells true [.int .u32 ((gF0 B : Nat) : Int), .int .u32 ((gSh B : Nat) : Int), .slice (some ⟨b39, 0, none⟩) (gM B) (gM B), .slice (some ⟨b40, 0, none⟩) (gN B) (gN B), .slice none 0 0] 5), (b5, .cells true [.int .i64 0, .int .u64 0, .string ⟨#[]⟩] 3), (b1, .cells true [.int .u32 ((gF0 B : Nat) : Int), .int .u32 ((gSh B : Nat) : Int), .slice (some ⟨b39, 0, none⟩) (gM B) (gM B), .slice (some ⟨b40, 0, none⟩) (gN B) (gN B), .slice none 0 0] 5)]) rfl (fun H66 s67 => ⟨?_, ?_⟩)
                  · exact trivial
                  refine ⟨_, Wk.refl _ _, ?_⟩
                  show awp _ _ _ _ _ _ _
                  refine awp_nilc s67 (j := 4) (o := 4) (sz' := 1) rfl rfl (fun b68 H69 hb71 s70 => ?_)
                  refine awp_ret_wk ?_
                  obtain ⟨e1, e2, e3⟩ := gc_max (B := B) (by omega) (by omega) (by omega) hyes (fun j hj => hi.2 j (by omega)) hmz
                  refine ⟨_, Wk.refl _ _, ?_⟩
                  repeat (with_reducible first | refine then_ret ?_ | refine blk_ret ?_ | refine then_exit ?_ | refine blk_exit ?_ | refine blk_exit' (by decide) ?_ | refine blk_normal ?_ | refine then_normal ?_ | refine retq_ret ?_ | refine retq_normal ?_ | refine ng_normal ?_ | refine ng_ret ?_ | refine ng_exit ?_)
                  refine ret_is (v := .tuple #[.agg #[.int .u32 ((gF0 B : Nat) : Int), .int .u32 ((gSh B : Nat) : Int), .slice (some ⟨b39, 0, none⟩) (gM B) (gM B), .slice (some ⟨b40, 0, none⟩) (gN B) (gN B), .slice (some ⟨b68, 0, none⟩) 0 0], .agg #[.int .i64 0, .int .u64 0, .string ⟨#[]⟩]]) rfl (.agg rfl Try.isAgg31 Try.sizeOf31 (s70.rd (j := 5) rfl) (Nat.le_of_ble_eq_true rfl) rfl (.agg rfl Try.isAgg47 Try.sizeOf47 (s70.rd (j := 4) rfl) (Nat.le_of_ble_eq_true rfl) rfl .nil)) rfl ?_
                  refine .inr ⟨e1, b39, b40, b68, ?_, ?_⟩
                  · rw [e3]
                  · rw [e3]; exact ((s70.sub (.cons_cons _ (.cons_cons _ (.cons_cons _ (.cons _ (.cons _ (.cons _ (.refl _)))))))).perm (List.Perm.cons _ (((List.Perm.cons _ (List.Perm.refl _)).trans (List.perm_middle (l₁ := [_])).symm)))).newL
set_option maxRecDepth 100000 in
set_option maxHeartbeats 4000000 in
theorem read_ch {H0 : AHeap} (B : ByteArray) (hB : B.size ≤ 140737488355328) (hyes : gA0 B ≤ B.size) (hmz : ¬ maxL (gBk B) = 0) (hmxl : maxL (gBk B) < 4294967296) : ACalls Try.prog 15 [.string B] H0 (fun v H' => (gC B ≠ 0 ∧ v = .tuple #[.agg #[.int .u32 0, .int .u32 0, .slice none 0 0, .slice none 0 0, .slice none 0 0], .agg #[.int .i64 ((gC B : Nat) : Int), .int .u64 ((gAt B : Nat) : Int), .string ⟨#[]⟩]] ∧ K0 H0 H') ∨ (gC B = 0 ∧ ∃ b1 b2 b3, v = .tuple #[.agg #[.int .u32 ((gF0 B : Nat) : Int), .int .u32 ((gSh B : Nat) : Int), .slice (some ⟨b1, 0, none⟩) (gM B) (gM B), .slice (some ⟨b2, 0, none⟩) (gN B) (gN B), .slice (some ⟨b3, 0, none⟩) (gK B) (gK B)], .agg #[.int .i64 0, .int .u64 0, .string ⟨#[]⟩]] ∧ NewL H0 H' [(b3, .cells true ((chL B (gA0 B) (gK B)).map u32v) 1), (b2, .cells true ((gBk B).map u32v) 1), (b1, .cells true ((gBl B).map u64v) 1)])) := by
  have hF : Wd Fence.wide := .inl rfl
  have hM : Try.prog.follows .mixedOrders = true := by kernel_rfl
  have hn4 : gN B < 4294967296 := atV_lt4 B 0
  have hf4 : gF0 B < 4294967296 := atV_lt4 B 4
  have hm4 : gM B < 4294967296 := atV_lt4 B 8
  have hs4 : gSh B < 4294967296 := atV_lt4 B 12
  have hbl := gBk_len (B := B)
  have hgA : gA0 B = 16 + gM B * 8 + gN B * 4 := rfl
  have s0 := St.begin H0
  refine acalls_st Try.func15 rfl Try.ntmps15 rfl ?_
  refine awp_seq ?_
  refine awp_regs hF ?_
  refine x_new (fun b => .pointer (some ⟨b, 0, none⟩)) s0 (gyes_none rfl) (q_alloc (vs := [.int .u32 0, .int .u32 0, .slice none 0 0, .slice none 0 0, .slice none 0 0]) 5 Try.zeroValue31 (by first | exact flat_scalar rfl | exact flat_agg rfl) rfl) rfl (by decide) (by simp [Op.operands, Call.operands]) (fun b1 H2 hb4 s3 => ?_)
  refine x_new (fun b => .pointer (some ⟨b, 0, none⟩)) s3 (gyes_none rfl) (q_alloc (vs := [.int .i64 0, .int .u64 0, .string ⟨#[]⟩]) 3 Try.zeroValue47 (by first | exact flat_scalar rfl | exact flat_agg rfl) rfl) rfl (by decide) (by simp [Op.operands, Call.operands]) (fun b5 H6 hb8 s7 => ?_)
  refine ⟨_, Wk.refl _ _, ?_⟩
  show awp _ _ _ _ _ _ _
  refine awp_seq ?_
  refine awp_regs hF ?_
  refine dv (gyes_none rfl) (q_mv (v := .string B) rfl) rfl (by decide) (cok1 trivial) ?_
  refine dv (gyes_none rfl) (q_call0 Try.call28 rfl (number_ok B 0 hB (by decide))) rfl (by decide) (call_ok rfl) ?_
  refine dv (gyes_none rfl) (q_mv (v := .string B) rfl) rfl (by decide) (cok1 trivial) ?_
  refine dv (gyes_none rfl) (q_call0 Try.call28 rfl (number_ok B 4 hB (by decide))) rfl (by decide) (call_ok rfl) ?_
  refine dv (gyes_none rfl) (q_mv (v := .string B) rfl) rfl (by decide) (cok1 trivial) ?_
  refine dv (gyes_none rfl) (q_call0 Try.call28 rfl (number_ok B 8 hB (by decide))) rfl (by decide) (call_ok rfl) ?_
  refine dv (gyes_none rfl) (q_mv (v := .string B) rfl) rfl (by decide) (cok1 trivial) ?_
  refine dv (gyes_none rfl) (q_call0 Try.call28 rfl (number_ok B 12 hB (by decide))) rfl (by decide) (call_ok rfl) ?_
  refine dv (gyes_none rfl) (q_as (v := .int .u64 ((gN B : Nat) : Int)) rfl) rfl (by decide) (cok1 trivial) ?_
  refine dv (gyes_none rfl) (q_as (v := .int .u64 ((gF0 B : Nat) : Int)) rfl) rfl (by decide) (cok1 trivial) ?_
  refine dv (gyes_none rfl) (q_as (v := .int .u64 ((gM B : Nat) : Int)) rfl) rfl (by decide) (cok1 trivial) ?_
  refine dv (gyes_none rfl) (q_as (v := .int .u64 ((gSh B : Nat) : Int)) rfl) rfl (by decide) (cok1 trivial) ?_
  refine ⟨_, Wk.refl _ _, ?_⟩
  show awp _ _ _ _ _ _ _
  refine awp_seq ?_
  refine awp_regs hF ?_
  refine dv (gyes_none rfl) (q_mv (v := .int .u64 ((gF0 B : Nat) : Int)) rfl) rfl (by decide) (cok1 trivial) ?_
  refine dv (gyes_none rfl) (q_convin (a := ((gF0 B : Nat) : Int)) Try.underlying45 Try.underlying27 rfl (u32_in (by omega))) rfl (by decide) (cok1 trivial) ?_
  refine dv (gyes_none rfl) (q_mv (v := .int .u64 ((gSh B : Nat) : Int)) rfl) rfl (by decide) (cok1 trivial) ?_
  refine dv (gyes_none rfl) (q_convin (a := ((gSh B : Nat) : Int)) Try.underlying45 Try.underlying27 rfl (u32_in (by omega))) rfl (by decide) (cok1 trivial) ?_
  refine dv (gyes_none rfl) (q_buildL (ds := [.int .u32 ((gF0 B : Nat) : Int), .int .u32 ((gSh B : Nat) : Int), .slice none 0 0, .slice none 0 0, .slice none 0 0]) [(0, 1), (1, 1), (2, 1), (3, 1), (4, 1)] [.int .u32 ((gF0 B : Nat) : Int), .int .u32 ((gSh B : Nat) : Int)] Try.underlying31 Try.zeroValue31 (by first | exact flat_agg rfl | exact flat_scalar rfl) (by kernel_rfl) ⟨rfl, rfl, trivial⟩ (lvsC (by exact trivial) (lvsC (by exact trivial) lvs0)) rfl) rfl (by decide) (cok2 trivial trivial) ?_
  refine x_new (fun b => .pointer (some ⟨b, 0, none⟩)) s7 (gyes_none rfl) (q_alloc (vs := [.int .u32 0, .int .u32 0, .slice none 0 0, .slice none 0 0, .slice none 0 0]) 5 Try.zeroValue31 (by first | exact flat_scalar rfl | exact flat_agg rfl) rfl) rfl (by decide) (by simp [Op.operands, Call.operands]) (fun b9 H10 hb12 s11 => ?_)
  refine x_store [] hF s11 (by kernel_rfl) (gyes_none rfl) (j := 0) (v := .agg #[.int .u32 ((gF0 B : Nat) : Int), .int .u32 ((gSh B : Nat) : Int), .slice none 0 0, .slice none 0 0, .slice none 0 0]) rfl Try.sizeOf31 rfl rfl rfl rfl rfl trivial (lcsA ⟨(lc_scalar rfl), (lc_scalar rfl), (lc_scalar rfl), (lc_scalar rfl), (lc_scalar rfl), trivial⟩) (Nat.le_of_ble_eq_true rfl) trivial trivial rfl rfl (F' := [(b9, .cells true [.int .u32 ((gF0 B : Nat) : Int), .int .u32 ((gSh B : Nat) : Int), .slice none 0 0, .slice none 0 0, .slice none 0 0] 5), (b5, .cells true [.int .i64 0, .int .u64 0, .string ⟨#[]⟩] 3), (b1, .cells true [.int .u32 0, .int .u32 0, .slice none 0 0, .slice none 0 0, .slice none 0 0] 5)]) rfl (fun H13 s14 => ⟨?_, ?_⟩)
  · exact trivial
  refine ⟨_, Wk.refl _ _, ?_⟩
  show awp _ _ _ _ _ _ _
  refine awp_seq ?_
  refine awp_block ?_
  refine awp_seq ?_
  refine awp_regs hF ?_
  refine dv (gyes_none rfl) (q_mv (v := .string B) rfl) rfl (by decide) (cok1 trivial) ?_
  refine dv (gyes_none rfl) (q_len_str Try.underlying9 rfl) rfl (by decide) (cok1 trivial) ?_
  refine dvb (gyes_none rfl) (q_int rfl rfl rfl) rfl (by decide) (cok2 trivial (cconst rfl)) (fun c1 => ?_) (fun c1 => ?_)
  ·
    replace c1 := of_decide_eq_true c1
    refine dv (gyes_none rfl) (q_as (v := .bool true) rfl) rfl (by decide) (cok1 trivial) ?_
    refine ⟨_, Wk.refl _ _, ?_⟩
    show awp _ _ _ _ _ _ _
    refine awp_cond_t rfl ?_
    refine awp_seq ?_
    refine awp_regs hF ?_
    refine dv (gyes_none rfl) (q_buildL (ds := [.int .u32 0, .int .u32 0, .slice none 0 0, .slice none 0 0, .slice none 0 0]) [(0, 1), (1, 1), (2, 1), (3, 1), (4, 1)] [] Try.underlying31 Try.zeroValue31 (by first | exact flat_agg rfl | exact flat_scalar rfl) (by kernel_rfl) trivial lvs0 rfl) rfl (by decide) (by simp [Op.operands, Call.operands]) ?_
    refine dv (gyes_none rfl) (q_call0 Try.call29 rfl (failOf_ok 2)) rfl (by decide) (cok2 trivial (cconst rfl)) ?_
    refine x_store [] hF s14 (by kernel_rfl) (gyes_none rfl) (j := 2) (v := .agg #[.int .u32 0, .int .u32 0, .slice none 0 0, .slice none 0 0, .slice none 0 0]) rfl Try.sizeOf31 rfl rfl rfl rfl rfl trivial (lcsA ⟨(lc_scalar rfl), (lc_scalar rfl), (lc_scalar rfl), (lc_scalar rfl), (lc_scalar rfl), trivial⟩) (Nat.le_of_ble_eq_true rfl) trivial trivial rfl rfl (F' := [(b9, .cells true [.int .u32 ((gF0 B : Nat) : Int), .int .u32 ((gSh B : Nat) : Int), .slice none 0 0, .slice none 0 0, .slice none 0 0] 5), (b5, .cells true [.int .i64 0, .int .u64 0, .string ⟨#[]⟩] 3), (b1, .cells true [.int .u32 0, .int .u32 0, .slice none 0 0, .slice none 0 0, .slice none 0 0] 5)]) rfl (fun H15 s16 => ⟨?_, ?_⟩)
    · exact trivial
    refine x_store [] hF s16 (by kernel_rfl) (gyes_none rfl) (j := 1) (v := .agg #[.int .i64 2, .int .u64 0, .string (⟨#[]⟩ : ByteArray)]) rfl Try.sizeOf47 rfl rfl rfl rfl rfl trivial (lcsA ⟨(lc_scalar rfl), (lc_scalar rfl), (lc_scalar rfl), trivial⟩) (Nat.le_of_ble_eq_true rfl) trivial trivial rfl rfl (F' := [(b9, .cells true [.int .u32 ((gF0 B : Nat) : Int), .int .u32 ((gSh B : Nat) : Int), .slice none 0 0, .slice none 0 0, .slice none 0 0] 5), (b5, .cells true [.int .i64 2, .int .u64 0, .string (⟨#[]⟩ : ByteArray)] 3), (b1, .cells true [.int .u32 0, .int .u32 0, .slice none 0 0, .slice none 0 0, .slice none 0 0] 5)]) rfl (fun H17 s18 => ⟨?_, ?_⟩)
    · exact trivial
    refine ⟨_, Wk.refl _ _, ?_⟩
    show awp _ _ _ _ _ _ _
    refine awp_ret_wk ?_
    obtain ⟨e1, e2⟩ := gc_short (B := B) (by omega)
    refine ⟨_, Wk.refl _ _, ?_⟩
    repeat (with_reducible first | refine then_ret ?_ | refine blk_ret ?_ | refine then_exit ?_ | refine blk_exit ?_ | refine blk_exit' (by decide) ?_ | refine blk_normal ?_ | refine then_normal ?_ | refine retq_ret ?_ | refine retq_normal ?_ | refine ng_normal ?_ | refine ng_ret ?_ | refine ng_exit ?_)
    refine ret_is (v := .tuple #[.agg #[.int .u32 0, .int .u32 0, .slice none 0 0, .slice none 0 0, .slice none 0 0], .agg #[.int .i64 2, .int .u64 0, .string (⟨#[]⟩ : ByteArray)]]) rfl (.agg rfl Try.isAgg31 Try.sizeOf31 (s18.rd (j := 2) rfl) (Nat.le_of_ble_eq_true rfl) rfl (.agg rfl Try.isAgg47 Try.sizeOf47 (s18.rd (j := 1) rfl) (Nat.le_of_ble_eq_true rfl) rfl .nil)) rfl ?_
    exact .inl ⟨by rw [e1]; decide, by rw [e1, e2]; first | done | rfl, s18.kp⟩
  ·
    replace c1 := of_decide_eq_false c1
    refine dv (gyes_none rfl) (q_as (v := .bool false) rfl) rfl (by decide) (cok1 trivial) ?_
    refine ⟨_, Wk.refl _ _, ?_⟩
    show awp _ _ _ _ _ _ _
    refine awp_cond_f rfl ?_
    refine awp_seq ?_
    refine awp_regs hF ?_
    refine dv (gyes_none rfl) (q_mv (v := .int .u64 ((gN B : Nat) : Int)) rfl) rfl (by decide) (cok1 trivial) ?_
    refine dvb (gyes_none rfl) (q_int rfl rfl rfl) rfl (by decide) (cok2 trivial (cconst rfl)) (fun c2 => ?_) (fun c2 => ?_)
    ·
      replace c2 := eq_of_beq c2
      refine dv (gyes_none rfl) (q_mv (v := .bool true) rfl) rfl (by decide) (cok1 trivial) ?_
      refine dno rfl (.inl rfl) rfl (by decide) ?_
      refine dno rfl (.inl rfl) rfl (by decide) ?_
      refine dv (gyes_none rfl) (q_pt (v := .bool true) rfl rfl) rfl (by decide) (call_ok rfl) ?_
      refine dv (gyes_none rfl) (q_as (v := .bool true) rfl) rfl (by decide) (cok1 trivial) ?_
      refine ⟨_, Wk.refl _ _, ?_⟩
      show awp _ _ _ _ _ _ _
      refine awp_cond_t rfl ?_
      refine awp_seq ?_
      refine awp_regs hF ?_
      refine dv (gyes_none rfl) (q_buildL (ds := [.int .u32 0, .int .u32 0, .slice none 0 0, .slice none 0 0, .slice none 0 0]) [(0, 1), (1, 1), (2, 1), (3, 1), (4, 1)] [] Try.underlying31 Try.zeroValue31 (by first | exact flat_agg rfl | exact flat_scalar rfl) (by kernel_rfl) trivial lvs0 rfl) rfl (by decide) (by simp [Op.operands, Call.operands]) ?_
      refine dv (gyes_none rfl) (q_call0 Try.call29 rfl (failOf_ok 4)) rfl (by decide) (cok2 trivial (cconst rfl)) ?_
      refine x_store [] hF s14 (by kernel_rfl) (gyes_none rfl) (j := 2) (v := .agg #[.int .u32 0, .int .u32 0, .slice none 0 0, .slice none 0 0, .slice none 0 0]) rfl Try.sizeOf31 rfl rfl rfl rfl rfl trivial (lcsA ⟨(lc_scalar rfl), (lc_scalar rfl), (lc_scalar rfl), (lc_scalar rfl), (lc_scalar rfl), trivial⟩) (Nat.le_of_ble_eq_true rfl) trivial trivial rfl rfl (F' := [(b9, .cells true [.int .u32 ((gF0 B : Nat) : Int), .int .u32 ((gSh B : Nat) : Int), .slice none 0 0, .slice none 0 0, .slice none 0 0] 5), (b5, .cells true [.int .i64 0, .int .u64 0, .string ⟨#[]⟩] 3), (b1, .cells true [.int .u32 0, .int .u32 0, .slice none 0 0, .slice none 0 0, .slice none 0 0] 5)]) rfl (fun H19 s20 => ⟨?_, ?_⟩)
      · exact trivial
      refine x_store [] hF s20 (by kernel_rfl) (gyes_none rfl) (j := 1) (v := .agg #[.int .i64 4, .int .u64 0, .string (⟨#[]⟩ : ByteArray)]) rfl Try.sizeOf47 rfl rfl rfl rfl rfl trivial (lcsA ⟨(lc_scalar rfl), (lc_scalar rfl), (lc_scalar rfl), trivial⟩) (Nat.le_of_ble_eq_true rfl) trivial trivial rfl rfl (F' := [(b9, .cells true [.int .u32 ((gF0 B : Nat) : Int), .int .u32 ((gSh B : Nat) : Int), .slice none 0 0, .slice none 0 0, .slice none 0 0] 5), (b5, .cells true [.int .i64 4, .int .u64 0, .string (⟨#[]⟩ : ByteArray)] 3), (b1, .cells true [.int .u32 0, .int .u32 0, .slice none 0 0, .slice none 0 0, .slice none 0 0] 5)]) rfl (fun H21 s22 => ⟨?_, ?_⟩)
      · exact trivial
      refine ⟨_, Wk.refl _ _, ?_⟩
      show awp _ _ _ _ _ _ _
      refine awp_ret_wk ?_
      obtain ⟨e1, e2⟩ := gc_zero (B := B) (by omega) (by omega)
      refine ⟨_, Wk.refl _ _, ?_⟩
      repeat (with_reducible first | refine then_ret ?_ | refine blk_ret ?_ | refine then_exit ?_ | refine blk_exit ?_ | refine blk_exit' (by decide) ?_ | refine blk_normal ?_ | refine then_normal ?_ | refine retq_ret ?_ | refine retq_normal ?_ | refine ng_normal ?_ | refine ng_ret ?_ | refine ng_exit ?_)
      refine ret_is (v := .tuple #[.agg #[.int .u32 0, .int .u32 0, .slice none 0 0, .slice none 0 0, .slice none 0 0], .agg #[.int .i64 4, .int .u64 0, .string (⟨#[]⟩ : ByteArray)]]) rfl (.agg rfl Try.isAgg31 Try.sizeOf31 (s22.rd (j := 2) rfl) (Nat.le_of_ble_eq_true rfl) rfl (.agg rfl Try.isAgg47 Try.sizeOf47 (s22.rd (j := 1) rfl) (Nat.le_of_ble_eq_true rfl) rfl .nil)) rfl ?_
      exact .inl ⟨by rw [e1]; decide, by rw [e1, e2]; first | done | rfl, s22.kp⟩
    ·
      replace c2 := ne_of_beq_false c2
      refine dv (gyes_none rfl) (q_mv (v := .bool false) rfl) rfl (by decide) (cok1 trivial) ?_
      refine dv (gyes_some rfl rfl) (q_mv (v := .int .u64 ((gM B : Nat) : Int)) rfl) rfl (by decide) (cok1 trivial) ?_
      refine dvb (gyes_some rfl rfl) (q_int rfl rfl rfl) rfl (by decide) (cok2 trivial (cconst rfl)) (fun c3 => ?_) (fun c3 => ?_)
      ·
        replace c3 := eq_of_beq c3
        refine dv (gyes_none rfl) (q_pf (v := .bool true) rfl rfl) rfl (by decide) (call_ok rfl) ?_
        refine dv (gyes_none rfl) (q_as (v := .bool true) rfl) rfl (by decide) (cok1 trivial) ?_
        refine ⟨_, Wk.refl _ _, ?_⟩
        show awp _ _ _ _ _ _ _
        refine awp_cond_t rfl ?_
        refine awp_seq ?_
        refine awp_regs hF ?_
        refine dv (gyes_none rfl) (q_buildL (ds := [.int .u32 0, .int .u32 0, .slice none 0 0, .slice none 0 0, .slice none 0 0]) [(0, 1), (1, 1), (2, 1), (3, 1), (4, 1)] [] Try.underlying31 Try.zeroValue31 (by first | exact flat_agg rfl | exact flat_scalar rfl) (by kernel_rfl) trivial lvs0 rfl) rfl (by decide) (by simp [Op.operands, Call.operands]) ?_
        refine dv (gyes_none rfl) (q_call0 Try.call29 rfl (failOf_ok 4)) rfl (by decide) (cok2 trivial (cconst rfl)) ?_
        refine x_store [] hF s14 (by kernel_rfl) (gyes_none rfl) (j := 2) (v := .agg #[.int .u32 0, .int .u32 0, .slice none 0 0, .slice none 0 0, .slice none 0 0]) rfl Try.sizeOf31 rfl rfl rfl rfl rfl trivial (lcsA ⟨(lc_scalar rfl), (lc_scalar rfl), (lc_scalar rfl), (lc_scalar rfl), (lc_scalar rfl), trivial⟩) (Nat.le_of_ble_eq_true rfl) trivial trivial rfl rfl (F' := [(b9, .cells true [.int .u32 ((gF0 B : Nat) : Int), .int .u32 ((gSh B : Nat) : Int), .slice none 0 0, .slice none 0 0, .slice none 0 0] 5), (b5, .cells true [.int .i64 0, .int .u64 0, .string ⟨#[]⟩] 3), (b1, .cells true [.int .u32 0, .int .u32 0, .slice none 0 0, .slice none 0 0, .slice none 0 0] 5)]) rfl (fun H23 s24 => ⟨?_, ?_⟩)
        · exact trivial
        refine x_store [] hF s24 (by kernel_rfl) (gyes_none rfl) (j := 1) (v := .agg #[.int .i64 4, .int .u64 0, .string (⟨#[]⟩ : ByteArray)]) rfl Try.sizeOf47 rfl rfl rfl rfl rfl trivial (lcsA ⟨(lc_scalar rfl), (lc_scalar rfl), (lc_scalar rfl), trivial⟩) (Nat.le_of_ble_eq_true rfl) trivial trivial rfl rfl (F' := [(b9, .cells true [.int .u32 ((gF0 B : Nat) : Int), .int .u32 ((gSh B : Nat) : Int), .slice none 0 0, .slice none 0 0, .slice none 0 0] 5), (b5, .cells true [.int .i64 4, .int .u64 0, .string (⟨#[]⟩ : ByteArray)] 3), (b1, .cells true [.int .u32 0, .int .u32 0, .slice none 0 0, .slice none 0 0, .slice none 0 0] 5)]) rfl (fun H25 s26 => ⟨?_, ?_⟩)
        · exact trivial
        refine ⟨_, Wk.refl _ _, ?_⟩
        show awp _ _ _ _ _ _ _
        refine awp_ret_wk ?_
        obtain ⟨e1, e2⟩ := gc_zero (B := B) (by omega) (by omega)
        refine ⟨_, Wk.refl _ _, ?_⟩
        repeat (with_reducible first | refine then_ret ?_ | refine blk_ret ?_ | refine then_exit ?_ | refine blk_exit ?_ | refine blk_exit' (by decide) ?_ | refine blk_normal ?_ | refine then_normal ?_ | refine retq_ret ?_ | refine retq_normal ?_ | refine ng_normal ?_ | refine ng_ret ?_ | refine ng_exit ?_)
        refine ret_is (v := .tuple #[.agg #[.int .u32 0, .int .u32 0, .slice none 0 0, .slice none 0 0, .slice none 0 0], .agg #[.int .i64 4, .int .u64 0, .string (⟨#[]⟩ : ByteArray)]]) rfl (.agg rfl Try.isAgg31 Try.sizeOf31 (s26.rd (j := 2) rfl) (Nat.le_of_ble_eq_true rfl) rfl (.agg rfl Try.isAgg47 Try.sizeOf47 (s26.rd (j := 1) rfl) (Nat.le_of_ble_eq_true rfl) rfl .nil)) rfl ?_
        exact .inl ⟨by rw [e1]; decide, by rw [e1, e2]; first | done | rfl, s26.kp⟩
      ·
        replace c3 := ne_of_beq_false c3
        refine dv (gyes_none rfl) (q_pf (v := .bool false) rfl rfl) rfl (by decide) (call_ok rfl) ?_
        refine dv (gyes_none rfl) (q_as (v := .bool false) rfl) rfl (by decide) (cok1 trivial) ?_
        refine ⟨_, Wk.refl _ _, ?_⟩
        show awp _ _ _ _ _ _ _
        refine awp_cond_f rfl ?_
        refine awp_seq ?_
        refine awp_regs hF ?_
        refine dv (gyes_none rfl) (q_mv (v := .int .u64 ((gN B : Nat) : Int)) rfl) rfl (by decide) (cok1 trivial) ?_
        refine dvb (gyes_none rfl) (q_int rfl rfl rfl) rfl (by decide) (cok2 trivial (cconst rfl)) (fun c4 => ?_) (fun c4 => ?_)
        ·
          replace c4 := of_decide_eq_true c4
          refine dv (gyes_none rfl) (q_mv (v := .bool true) rfl) rfl (by decide) (cok1 trivial) ?_
          refine dno rfl (.inl rfl) rfl (by decide) ?_
          refine dno rfl (.inl rfl) rfl (by decide) ?_
          refine dv (gyes_none rfl) (q_pt (v := .bool true) rfl rfl) rfl (by decide) (call_ok rfl) ?_
          refine dv (gyes_none rfl) (q_mv (v := .bool true) rfl) rfl (by decide) (cok1 trivial) ?_
          refine dno rfl (.inl rfl) rfl (by decide) ?_
          refine dno rfl (.inl rfl) rfl (by decide) ?_
          refine dv (gyes_none rfl) (q_pt (v := .bool true) rfl rfl) rfl (by decide) (call_ok rfl) ?_
          refine dv (gyes_none rfl) (q_as (v := .bool true) rfl) rfl (by decide) (cok1 trivial) ?_
          refine ⟨_, Wk.refl _ _, ?_⟩
          show awp _ _ _ _ _ _ _
          refine awp_cond_t rfl ?_
          refine awp_seq ?_
          refine awp_regs hF ?_
          refine dv (gyes_none rfl) (q_buildL (ds := [.int .u32 0, .int .u32 0, .slice none 0 0, .slice none 0 0, .slice none 0 0]) [(0, 1), (1, 1), (2, 1), (3, 1), (4, 1)] [] Try.underlying31 Try.zeroValue31 (by first | exact flat_agg rfl | exact flat_scalar rfl) (by kernel_rfl) trivial lvs0 rfl) rfl (by decide) (by simp [Op.operands, Call.operands]) ?_
          refine dv (gyes_none rfl) (q_call0 Try.call29 rfl (failOf_ok 6)) rfl (by decide) (cok2 trivial (cconst rfl)) ?_
          refine x_store [] hF s14 (by kernel_rfl) (gyes_none rfl) (j := 2) (v := .agg #[.int .u32 0, .int .u32 0, .slice none 0 0, .slice none 0 0, .slice none 0 0]) rfl Try.sizeOf31 rfl rfl rfl rfl rfl trivial (lcsA ⟨(lc_scalar rfl), (lc_scalar rfl), (lc_scalar rfl), (lc_scalar rfl), (lc_scalar rfl), trivial⟩) (Nat.le_of_ble_eq_true rfl) trivial trivial rfl rfl (F' := [(b9, .cells true [.int .u32 ((gF0 B : Nat) : Int), .int .u32 ((gSh B : Nat) : Int), .slice none 0 0, .slice none 0 0, .slice none 0 0] 5), (b5, .cells true [.int .i64 0, .int .u64 0, .string ⟨#[]⟩] 3), (b1, .cells true [.int .u32 0, .int .u32 0, .slice none 0 0, .slice none 0 0, .slice none 0 0] 5)]) rfl (fun H27 s28 => ⟨?_, ?_⟩)
          · exact trivial
          refine x_store [] hF s28 (by kernel_rfl) (gyes_none rfl) (j := 1) (v := .agg #[.int .i64 6, .int .u64 0, .string (⟨#[]⟩ : ByteArray)]) rfl Try.sizeOf47 rfl rfl rfl rfl rfl trivial (lcsA ⟨(lc_scalar rfl), (lc_scalar rfl), (lc_scalar rfl), trivial⟩) (Nat.le_of_ble_eq_true rfl) trivial trivial rfl rfl (F' := [(b9, .cells true [.int .u32 ((gF0 B : Nat) : Int), .int .u32 ((gSh B : Nat) : Int), .slice none 0 0, .slice none 0 0, .slice none 0 0] 5), (b5, .cells true [.int .i64 6, .int .u64 0, .string (⟨#[]⟩ : ByteArray)] 3), (b1, .cells true [.int .u32 0, .int .u32 0, .slice none 0 0, .slice none 0 0, .slice none 0 0] 5)]) rfl (fun H29 s30 => ⟨?_, ?_⟩)
          · exact trivial
          refine ⟨_, Wk.refl _ _, ?_⟩
          show awp _ _ _ _ _ _ _
          refine awp_ret_wk ?_
          obtain ⟨e1, e2⟩ := gc_many (B := B) (by omega) (by omega) (by omega)
          refine ⟨_, Wk.refl _ _, ?_⟩
          repeat (with_reducible first | refine then_ret ?_ | refine blk_ret ?_ | refine then_exit ?_ | refine blk_exit ?_ | refine blk_exit' (by decide) ?_ | refine blk_normal ?_ | refine then_normal ?_ | refine retq_ret ?_ | refine retq_normal ?_ | refine ng_normal ?_ | refine ng_ret ?_ | refine ng_exit ?_)
          refine ret_is (v := .tuple #[.agg #[.int .u32 0, .int .u32 0, .slice none 0 0, .slice none 0 0, .slice none 0 0], .agg #[.int .i64 6, .int .u64 0, .string (⟨#[]⟩ : ByteArray)]]) rfl (.agg rfl Try.isAgg31 Try.sizeOf31 (s30.rd (j := 2) rfl) (Nat.le_of_ble_eq_true rfl) rfl (.agg rfl Try.isAgg47 Try.sizeOf47 (s30.rd (j := 1) rfl) (Nat.le_of_ble_eq_true rfl) rfl .nil)) rfl ?_
          exact .inl ⟨by rw [e1]; decide, by rw [e1, e2]; first | done | rfl, s30.kp⟩
        ·
          replace c4 := of_decide_eq_false c4
          refine dv (gyes_none rfl) (q_mv (v := .bool false) rfl) rfl (by decide) (cok1 trivial) ?_
          refine dv (gyes_some rfl rfl) (q_mv (v := .int .u64 ((gM B : Nat) : Int)) rfl) rfl (by decide) (cok1 trivial) ?_
          refine dvb (gyes_some rfl rfl) (q_int rfl rfl rfl) rfl (by decide) (cok2 trivial (cconst rfl)) (fun c5 => ?_) (fun c5 => ?_)
          ·
            replace c5 := of_decide_eq_true c5
            refine dv (gyes_none rfl) (q_pf (v := .bool true) rfl rfl) rfl (by decide) (call_ok rfl) ?_
            refine dv (gyes_none rfl) (q_mv (v := .bool true) rfl) rfl (by decide) (cok1 trivial) ?_
            refine dno rfl (.inl rfl) rfl (by decide) ?_
            refine dno rfl (.inl rfl) rfl (by decide) ?_
            refine dv (gyes_none rfl) (q_pt (v := .bool true) rfl rfl) rfl (by decide) (call_ok rfl) ?_
            refine dv (gyes_none rfl) (q_as (v := .bool true) rfl) rfl (by decide) (cok1 trivial) ?_
            refine ⟨_, Wk.refl _ _, ?_⟩
            show awp _ _ _ _ _ _ _
            refine awp_cond_t rfl ?_
            refine awp_seq ?_
            refine awp_regs hF ?_
            refine dv (gyes_none rfl) (q_buildL (ds := [.int .u32 0, .int .u32 0, .slice none 0 0, .slice none 0 0, .slice none 0 0]) [(0, 1), (1, 1), (2, 1), (3, 1), (4, 1)] [] Try.underlying31 Try.zeroValue31 (by first | exact flat_agg rfl | exact flat_scalar rfl) (by kernel_rfl) trivial lvs0 rfl) rfl (by decide) (by simp [Op.operands, Call.operands]) ?_
            refine dv (gyes_none rfl) (q_call0 Try.call29 rfl (failOf_ok 6)) rfl (by decide) (cok2 trivial (cconst rfl)) ?_
            refine x_store [] hF s14 (by kernel_rfl) (gyes_none rfl) (j := 2) (v := .agg #[.int .u32 0, .int .u32 0, .slice none 0 0, .slice none 0 0, .slice none 0 0]) rfl Try.sizeOf31 rfl rfl rfl rfl rfl trivial (lcsA ⟨(lc_scalar rfl), (lc_scalar rfl), (lc_scalar rfl), (lc_scalar rfl), (lc_scalar rfl), trivial⟩) (Nat.le_of_ble_eq_true rfl) trivial trivial rfl rfl (F' := [(b9, .cells true [.int .u32 ((gF0 B : Nat) : Int), .int .u32 ((gSh B : Nat) : Int), .slice none 0 0, .slice none 0 0, .slice none 0 0] 5), (b5, .cells true [.int .i64 0, .int .u64 0, .string ⟨#[]⟩] 3), (b1, .cells true [.int .u32 0, .int .u32 0, .slice none 0 0, .slice none 0 0, .slice none 0 0] 5)]) rfl (fun H31 s32 => ⟨?_, ?_⟩)
            · exact trivial
            refine x_store [] hF s32 (by kernel_rfl) (gyes_none rfl) (j := 1) (v := .agg #[.int .i64 6, .int .u64 0, .string (⟨#[]⟩ : ByteArray)]) rfl Try.sizeOf47 rfl rfl rfl rfl rfl trivial (lcsA ⟨(lc_scalar rfl), (lc_scalar rfl), (lc_scalar rfl), trivial⟩) (Nat.le_of_ble_eq_true rfl) trivial trivial rfl rfl (F' := [(b9, .cells true [.int .u32 ((gF0 B : Nat) : Int), .int .u32 ((gSh B : Nat) : Int), .slice none 0 0, .slice none 0 0, .slice none 0 0] 5), (b5, .cells true [.int .i64 6, .int .u64 0, .string (⟨#[]⟩ : ByteArray)] 3), (b1, .cells true [.int .u32 0, .int .u32 0, .slice none 0 0, .slice none 0 0, .slice none 0 0] 5)]) rfl (fun H33 s34 => ⟨?_, ?_⟩)
            · exact trivial
            refine ⟨_, Wk.refl _ _, ?_⟩
            show awp _ _ _ _ _ _ _
            refine awp_ret_wk ?_
            obtain ⟨e1, e2⟩ := gc_many (B := B) (by omega) (by omega) (by omega)
            refine ⟨_, Wk.refl _ _, ?_⟩
            repeat (with_reducible first | refine then_ret ?_ | refine blk_ret ?_ | refine then_exit ?_ | refine blk_exit ?_ | refine blk_exit' (by decide) ?_ | refine blk_normal ?_ | refine then_normal ?_ | refine retq_ret ?_ | refine retq_normal ?_ | refine ng_normal ?_ | refine ng_ret ?_ | refine ng_exit ?_)
            refine ret_is (v := .tuple #[.agg #[.int .u32 0, .int .u32 0, .slice none 0 0, .slice none 0 0, .slice none 0 0], .agg #[.int .i64 6, .int .u64 0, .string (⟨#[]⟩ : ByteArray)]]) rfl (.agg rfl Try.isAgg31 Try.sizeOf31 (s34.rd (j := 2) rfl) (Nat.le_of_ble_eq_true rfl) rfl (.agg rfl Try.isAgg47 Try.sizeOf47 (s34.rd (j := 1) rfl) (Nat.le_of_ble_eq_true rfl) rfl .nil)) rfl ?_
            exact .inl ⟨by rw [e1]; decide, by rw [e1, e2]; first | done | rfl, s34.kp⟩
          ·
            replace c5 := of_decide_eq_false c5
            refine dv (gyes_none rfl) (q_pf (v := .bool false) rfl rfl) rfl (by decide) (call_ok rfl) ?_
            refine dv (gyes_none rfl) (q_mv (v := .bool false) rfl) rfl (by decide) (cok1 trivial) ?_
            refine dv (gyes_some rfl rfl) (q_mv (v := .int .u64 ((gF0 B : Nat) : Int)) rfl) rfl (by decide) (cok1 trivial) ?_
            refine dvb (gyes_some rfl rfl) (q_int rfl rfl rfl) rfl (by decide) (cok2 trivial (cconst rfl)) (fun c6 => ?_) (fun c6 => ?_)
            ·
              replace c6 := of_decide_eq_true c6
              refine dv (gyes_none rfl) (q_pf (v := .bool true) rfl rfl) rfl (by decide) (call_ok rfl) ?_
              refine dv (gyes_none rfl) (q_as (v := .bool true) rfl) rfl (by decide) (cok1 trivial) ?_
              refine ⟨_, Wk.refl _ _, ?_⟩
              show awp _ _ _ _ _ _ _
              refine awp_cond_t rfl ?_
              refine awp_seq ?_
              refine awp_regs hF ?_
              refine dv (gyes_none rfl) (q_buildL (ds := [.int .u32 0, .int .u32 0, .slice none 0 0, .slice none 0 0, .slice none 0 0]) [(0, 1), (1, 1), (2, 1), (3, 1), (4, 1)] [] Try.underlying31 Try.zeroValue31 (by first | exact flat_agg rfl | exact flat_scalar rfl) (by kernel_rfl) trivial lvs0 rfl) rfl (by decide) (by simp [Op.operands, Call.operands]) ?_
              refine dv (gyes_none rfl) (q_call0 Try.call29 rfl (failOf_ok 6)) rfl (by decide) (cok2 trivial (cconst rfl)) ?_
              refine x_store [] hF s14 (by kernel_rfl) (gyes_none rfl) (j := 2) (v := .agg #[.int .u32 0, .int .u32 0, .slice none 0 0, .slice none 0 0, .slice none 0 0]) rfl Try.sizeOf31 rfl rfl rfl rfl rfl trivial (lcsA ⟨(lc_scalar rfl), (lc_scalar rfl), (lc_scalar rfl), (lc_scalar rfl), (lc_scalar rfl), trivial⟩) (Nat.le_of_ble_eq_true rfl) trivial trivial rfl rfl (F' := [(b9, .cells true [.int .u32 ((gF0 B : Nat) : Int), .int .u32 ((gSh B : Nat) : Int), .slice none 0 0, .slice none 0 0, .slice none 0 0] 5), (b5, .cells true [.int .i64 0, .int .u64 0, .string ⟨#[]⟩] 3), (b1, .cells true [.int .u32 0, .int .u32 0, .slice none 0 0, .slice none 0 0, .slice none 0 0] 5)]) rfl (fun H35 s36 => ⟨?_, ?_⟩)
              · exact trivial
              refine x_store [] hF s36 (by kernel_rfl) (gyes_none rfl) (j := 1) (v := .agg #[.int .i64 6, .int .u64 0, .string (⟨#[]⟩ : ByteArray)]) rfl Try.sizeOf47 rfl rfl rfl rfl rfl trivial (lcsA ⟨(lc_scalar rfl), (lc_scalar rfl), (lc_scalar rfl), trivial⟩) (Nat.le_of_ble_eq_true rfl) trivial trivial rfl rfl (F' := [(b9, .cells true [.int .u32 ((gF0 B : Nat) : Int), .int .u32 ((gSh B : Nat) : Int), .slice none 0 0, .slice none 0 0, .slice none 0 0] 5), (b5, .cells true [.int .i64 6, .int .u64 0, .string (⟨#[]⟩ : ByteArray)] 3), (b1, .cells true [.int .u32 0, .int .u32 0, .slice none 0 0, .slice none 0 0, .slice none 0 0] 5)]) rfl (fun H37 s38 => ⟨?_, ?_⟩)
              · exact trivial
              refine ⟨_, Wk.refl _ _, ?_⟩
              show awp _ _ _ _ _ _ _
              refine awp_ret_wk ?_
              obtain ⟨e1, e2⟩ := gc_many (B := B) (by omega) (by omega) (by omega)
              refine ⟨_, Wk.refl _ _, ?_⟩
              repeat (with_reducible first | refine then_ret ?_ | refine blk_ret ?_ | refine then_exit ?_ | refine blk_exit ?_ | refine blk_exit' (by decide) ?_ | refine blk_normal ?_ | refine then_normal ?_ | refine retq_ret ?_ | refine retq_normal ?_ | refine ng_normal ?_ | refine ng_ret ?_ | refine ng_exit ?_)
              refine ret_is (v := .tuple #[.agg #[.int .u32 0, .int .u32 0, .slice none 0 0, .slice none 0 0, .slice none 0 0], .agg #[.int .i64 6, .int .u64 0, .string (⟨#[]⟩ : ByteArray)]]) rfl (.agg rfl Try.isAgg31 Try.sizeOf31 (s38.rd (j := 2) rfl) (Nat.le_of_ble_eq_true rfl) rfl (.agg rfl Try.isAgg47 Try.sizeOf47 (s38.rd (j := 1) rfl) (Nat.le_of_ble_eq_true rfl) rfl .nil)) rfl ?_
              exact .inl ⟨by rw [e1]; decide, by rw [e1, e2]; first | done | rfl, s38.kp⟩
            ·
              replace c6 := of_decide_eq_false c6
              refine dv (gyes_none rfl) (q_pf (v := .bool false) rfl rfl) rfl (by decide) (call_ok rfl) ?_
              refine dv (gyes_none rfl) (q_as (v := .bool false) rfl) rfl (by decide) (cok1 trivial) ?_
              refine ⟨_, Wk.refl _ _, ?_⟩
              show awp _ _ _ _ _ _ _
              refine awp_cond_f rfl ?_
              refine awp_skip_wk ?_
              refine ⟨_, Wk.refl _ _, ?_⟩
              show awp _ _ _ _ _ _ _
              refine awp_seq ?_
              refine awp_regs hF ?_
              refine dv (gyes_none rfl) (q_mv (v := .string B) rfl) rfl (by decide) (cok1 trivial) ?_
              refine dv (gyes_none rfl) (q_mv (v := .int .u64 ((gN B : Nat) : Int)) rfl) rfl (by decide) (cok1 trivial) ?_
              refine dv (gyes_none rfl) (q_mv (v := .int .u64 ((gM B : Nat) : Int)) rfl) rfl (by decide) (cok1 trivial) ?_
              refine x_call [] hF (by kernel_rfl) (gyes_none rfl) Try.call30 rfl (args := [.pointer (some ⟨b9, 0, none⟩), .string B, .int .u64 ((gN B : Nat) : Int), .int .u64 ((gM B : Nat) : Int)]) rfl (body_yes b9 (gF0 B) (gSh B) B hB (gN B) (gM B) ⟨by omega, by omega⟩ ⟨by omega, by omega⟩ hyes (s14.getj (j := 0) rfl)) (show _ < _ by decide) (call_ok rfl) rfl rfl (fun _ _ _ _ hd => by cases hd) ?_
              rintro _ H41 ⟨rfl, hk42, b39, b40, hl43, hl44, hn45, h46, h47, h48⟩
              have s49 := s14.turn1L (j := 0) rfl hk42 h46 [(b39, .cells true ((gBl B).map u64v) 1), (b40, .cells true ((gBk B).map u32v) 1)] (nod2 hn45) (by intro p hp; rcases List.mem_cons.1 hp with rfl | hp; exact hl43; rw [List.mem_singleton.1 hp]; exact hl44) ⟨h47, h48, trivial⟩
              refine ⟨trivial, ?_⟩
              show dList _ _ _ _ _ _ _ _ _ _
              refine dv (gyes_none rfl) (q_mv (v := .tuple #[.int .u64 ((gA0 B : Nat) : Int), .bool true]) rfl) rfl (by decide) (cok1 trivial) ?_
              refine dv (gyes_none rfl) (q_extract (v := .int .u64 ((gA0 B : Nat) : Int)) rfl rfl) rfl (by decide) (cok1 trivial) ?_
              refine dv (gyes_none rfl) (q_extract (v := .bool true) rfl rfl) rfl (by decide) (cok1 trivial) ?_
              refine dv (gyes_none rfl) (q_as (v := .int .u64 ((gA0 B : Nat) : Int)) rfl) rfl (by decide) (cok1 trivial) ?_
              refine dv (gyes_none rfl) (q_as (v := .bool true) rfl) rfl (by decide) (cok1 trivial) ?_
              refine ⟨_, Wk.refl _ _, ?_⟩
              show awp _ _ _ _ _ _ _
              refine awp_seq ?_
              refine awp_seq ?_
              refine awp_regs hF ?_
              refine dv (gyes_none rfl) (q_mv (v := .bool true) rfl) rfl (by decide) (cok1 trivial) ?_
              refine dv (gyes_none rfl) (q_not (b := true) rfl) rfl (by decide) (cok1 trivial) ?_
              refine ⟨_, Wk.refl _ _, ?_⟩
              show awp _ _ _ _ _ _ _
              refine awp_cond_f rfl ?_
              refine awp_skip_wk ?_
              refine ⟨_, Wk.refl _ _, ?_⟩
              show awp _ _ _ _ _ _ _
              refine awp_seq ?_
              refine awp_seq ?_
              refine awp_regs hF ?_
              refine dv (gyes_none rfl) (q_field Try.underlying31 rfl Try.sizeOf29 rfl (s49.rd (j := 2) rfl)) rfl (by decide) (cok1 trivial) ?_
              refine dv (gyes_none rfl) (q_load (v := .slice (some ⟨b40, 0, none⟩) (gN B) (gN B)) Try.isAgg29 rfl (s49.rd (j := 2) rfl) rfl) rfl (by decide) (cok1 trivial) ?_
              refine dv (gyes_none rfl) (q_len_slice Try.underlying29 rfl (s49.rd (j := 1) rfl)) rfl (by decide) (cok1 trivial) ?_
              refine dv (gyes_none rfl) (q_mv (v := .int .i64 0) rfl) rfl (by decide) (cok1 (cconst rfl)) ?_
              refine ⟨_, Wk.refl _ _, ?_⟩
              show awp _ _ _ _ _ _ _
              refine awp_block ?_
              refine awp_wk (Wk.U [(0, .string B), (2, .pointer (some ⟨b1, 0, none⟩)), (3, .pointer (some ⟨b5, 0, none⟩)), (4, .int .u64 ((gN B : Nat) : Int)), (5, .int .u64 ((gF0 B : Nat) : Int)), (6, .int .u64 ((gM B : Nat) : Int)), (7, .int .u64 ((gSh B : Nat) : Int)), (8, .pointer (some ⟨b9, 0, none⟩)), (9, .int .u64 ((gA0 B : Nat) : Int)), (67, .slice (some ⟨b40, 0, none⟩) (gN B) (gN B)), (68, .int .i64 ((gN B : Nat) : Int)), (69, .int .i64 0)] ⟨rfl, rfl, rfl, rfl, rfl, rfl, rfl, rfl, rfl, rfl, rfl, rfl, trivial⟩) ?_
              refine awp_loop (fun (i : Nat) st => ∃ (H50 : AHeap), st = ⟨106, U [(0, .string B), (2, .pointer (some ⟨b1, 0, none⟩)), (3, .pointer (some ⟨b5, 0, none⟩)), (4, .int .u64 ((gN B : Nat) : Int)), (5, .int .u64 ((gF0 B : Nat) : Int)), (6, .int .u64 ((gM B : Nat) : Int)), (7, .int .u64 ((gSh B : Nat) : Int)), (8, .pointer (some ⟨b9, 0, none⟩)), (9, .int .u64 ((gA0 B : Nat) : Int)), (67, .slice (some ⟨b40, 0, none⟩) (gN B) (gN B)), (68, .int .i64 ((gN B : Nat) : Int)), (69, .int .i64 ((i : Nat) : Int))], [], H50⟩ ∧ St H0 (none0) (Rd H0) H50 [(b39, .cells true ((gBl B).map u64v) 1), (b40, .cells true ((gBk B).map u32v) 1), (b9, .cells true [.int .u32 ((gF0 B : Nat) : Int), .int .u32 ((gSh B : Nat) : Int), .slice (some ⟨b39, 0, none⟩) (gM B) (gM B), .slice (some ⟨b40, 0, none⟩) (gN B) (gN B), .slice none 0 0] 5), (b5, .cells true [.int .i64 0, .int .u64 0, .string ⟨#[]⟩] 3), (b1, .cells true [.int .u32 0, .int .u32 0, .slice none 0 0, .slice none 0 0, .slice none 0 0] 5)] ∧ (i ≤ gN B ∧ ∀ j, j < i → gBad B j = false)) (fun (i : Nat) => gN B - i) (x0 := (0)) ?h0 ?round
              case h0 =>
                exact ⟨_, rfl, s49, ⟨Nat.zero_le _, fun j h => absurd h (Nat.not_lt_zero _)⟩⟩
              case round =>
                rintro i _ ⟨H50, rfl, s51, hi⟩
                refine awp_seq ?_
                refine awp_regs hF ?_
                refine dvb (gyes_none rfl) (q_int rfl rfl rfl) rfl (by decide) (cok2 trivial trivial) (fun c7 => ?_) (fun c7 => ?_)
                ·
                  replace c7 := of_decide_eq_true c7
                  refine ⟨_, Wk.refl _ _, ?_⟩
                  show awp _ _ _ _ _ _ _
                  refine awp_seq ?_
                  refine awp_cond_t rfl ?_
                  refine awp_skip_wk ?_
                  refine ⟨_, Wk.refl _ _, ?_⟩
                  show awp _ _ _ _ _ _ _
                  refine awp_seq ?_
                  refine awp_block ?_
                  refine awp_seq ?_
                  refine awp_regs hF ?_
                  refine dv (gyes_none rfl) (q_mv (v := .int .i64 ((i : Nat) : Int)) rfl) rfl (by decide) (cok1 trivial) ?_
                  refine dv (gyes_none rfl) (OpQ.cast (v' := .pointer (some ⟨b40, i, none⟩)) (q_index1 (i := i) Try.underlying29 Try.sizeOf27 rfl rfl (by omega) (s51.rd (j := 1) rfl)) (by rw [Nat.zero_add])) rfl (by decide) (cok2 trivial trivial) ?_
                  refine dv (gyes_none rfl) (q_load (v := u32v (nth (gBk B) i)) Try.isAgg27 rfl (s51.rd (j := 1) rfl) (get_nth (w := 0) (by omega))) rfl (by decide) (cok1 trivial) ?_
                  refine dv (gyes_none rfl) (q_as (v := .int .i64 ((i : Nat) : Int)) rfl) rfl (by decide) (cok1 trivial) ?_
                  refine dv (gyes_none rfl) (q_as (v := .int .u32 ((nth (gBk B) i : Nat) : Int)) rfl) rfl (by decide) (cok1 trivial) ?_
                  refine ⟨_, Wk.refl _ _, ?_⟩
                  show awp _ _ _ _ _ _ _
                  refine awp_seq ?_
                  refine awp_regs hF ?_
                  refine dv (gyes_none rfl) (q_mv (v := .int .u32 ((nth (gBk B) i : Nat) : Int)) rfl) rfl (by decide) (cok1 trivial) ?_
                  refine dvb (gyes_none rfl) (q_int rfl rfl rfl) rfl (by decide) (cok2 trivial (cconst rfl)) (fun c8 => ?_) (fun c8 => ?_)
                  ·
                    replace c8 := bne_iff_ne.1 c8
                    refine dv (gyes_none rfl) (q_mv (v := .bool true) rfl) rfl (by decide) (cok1 trivial) ?_
                    refine dv (gyes_some rfl rfl) (q_mv (v := .int .u32 ((nth (gBk B) i : Nat) : Int)) rfl) rfl (by decide) (cok1 trivial) ?_
                    refine dv (gyes_some rfl rfl) (q_field Try.underlying31 rfl Try.sizeOf27 rfl (s51.rd (j := 2) rfl)) rfl (by decide) (cok1 trivial) ?_
                    refine dv (gyes_some rfl rfl) (q_load (v := .int .u32 ((gF0 B : Nat) : Int)) Try.isAgg27 rfl (s51.rd (j := 2) rfl) rfl) rfl (by decide) (cok1 trivial) ?_
                    refine dvb (gyes_some rfl rfl) (q_int rfl rfl rfl) rfl (by decide) (cok2 trivial trivial) (fun c9 => ?_) (fun c9 => ?_)
                    ·
                      replace c9 := of_decide_eq_true c9
                      refine dv (gyes_some rfl rfl) (q_mv (v := .bool true) rfl) rfl (by decide) (cok1 trivial) ?_
                      refine dno rfl (.inl rfl) rfl (by decide) ?_
                      refine dno rfl (.inl rfl) rfl (by decide) ?_
                      refine dv (gyes_some rfl rfl) (q_pt (v := .bool true) rfl rfl) rfl (by decide) (call_ok rfl) ?_
                      refine dv (gyes_none rfl) (q_pt (v := .bool true) rfl rfl) rfl (by decide) (call_ok rfl) ?_
                      refine ⟨_, Wk.refl _ _, ?_⟩
                      show awp _ _ _ _ _ _ _
                      refine awp_cond_t rfl ?_
                      refine awp_seq ?_
                      refine awp_regs hF ?_
                      refine dv (gyes_none rfl) (q_buildL (ds := [.int .u32 0, .int .u32 0, .slice none 0 0, .slice none 0 0, .slice none 0 0]) [(0, 1), (1, 1), (2, 1), (3, 1), (4, 1)] [] Try.underlying31 Try.zeroValue31 (by first | exact flat_agg rfl | exact flat_scalar rfl) (by kernel_rfl) trivial lvs0 rfl) rfl (by decide) (by simp [Op.operands, Call.operands]) ?_
                      refine dv (gyes_none rfl) (q_mv (v := .int .u64 ((gM B : Nat) : Int)) rfl) rfl (by decide) (cok1 trivial) ?_
                      refine dv (gyes_none rfl) (OpQ.cast (v' := .int .u64 (((gM B) * 8 : Nat) : Int)) (q_int rfl rfl rfl) (congrArg _ ((u64_in (by omega)).trans (by first | rfl | omega | (push_cast; rfl))))) rfl (by decide) (cok2 trivial (cconst rfl)) ?_
                      refine dv (gyes_none rfl) (OpQ.cast (v' := .int .u64 ((16 + ((gM B) * 8) : Nat) : Int)) (q_int rfl rfl rfl) (congrArg _ ((u64_in (by omega)).trans (by first | rfl | omega | (push_cast; rfl))))) rfl (by decide) (cok2 (cconst rfl) trivial) ?_
                      refine dv (gyes_none rfl) (q_mv (v := .int .i64 ((i : Nat) : Int)) rfl) rfl (by decide) (cok1 trivial) ?_
                      refine dv (gyes_none rfl) (q_convin (a := ((i : Nat) : Int)) Try.underlying3 Try.underlying45 rfl (u64_in (by omega))) rfl (by decide) (cok1 trivial) ?_
                      refine dv (gyes_none rfl) (OpQ.cast (v' := .int .u64 ((i * 4 : Nat) : Int)) (q_int rfl rfl rfl) (congrArg _ ((u64_in (by omega)).trans (by first | rfl | omega | (push_cast; rfl))))) rfl (by decide) (cok2 trivial (cconst rfl)) ?_
                      refine dv (gyes_none rfl) (OpQ.cast (v' := .int .u64 ((16 + ((gM B) * 8) + (i * 4) : Nat) : Int)) (q_int rfl rfl rfl) (congrArg _ ((u64_in (by omega)).trans (by first | rfl | omega | (push_cast; rfl))))) rfl (by decide) (cok2 trivial trivial) ?_
                      refine dv (gyes_none rfl) (q_call0 Try.call31 rfl (failAt_ok 5 (16 + ((gM B) * 8) + (i * 4)))) rfl (by decide) (call_ok rfl) ?_
                      refine x_store [] hF s51 (by kernel_rfl) (gyes_none rfl) (j := 4) (v := .agg #[.int .u32 0, .int .u32 0, .slice none 0 0, .slice none 0 0, .slice none 0 0]) rfl Try.sizeOf31 rfl rfl rfl rfl rfl trivial (lcsA ⟨(lc_scalar rfl), (lc_scalar rfl), (lc_scalar rfl), (lc_scalar rfl), (lc_scalar rfl), trivial⟩) (Nat.le_of_ble_eq_true rfl) trivial trivial rfl rfl (F' := [(b39, .cells true ((gBl B).map u64v) 1), (b40, .cells true ((gBk B).map u32v) 1), (b9, .cells true [.int .u32 ((gF0 B : Nat) : Int), .int .u32 ((gSh B : Nat) : Int), .slice (some ⟨b39, 0, none⟩) (gM B) (gM B), .slice (some ⟨b40, 0, none⟩) (gN B) (gN B), .slice none 0 0] 5), (b5, .cells true [.int .i64 0, .int .u64 0, .string ⟨#[]⟩] 3), (b1, .cells true [.int .u32 0, .int .u32 0, .slice none 0 0, .slice none 0 0, .slice none 0 0] 5)]) rfl (fun H52 s53 => ⟨?_, ?_⟩)
                      · exact trivial
                      refine x_store [] hF s53 (by kernel_rfl) (gyes_none rfl) (j := 3) (v := .agg #[.int .i64 5, .int .u64 ((16 + ((gM B) * 8) + (i * 4) : Nat) : Int), .string (⟨#[]⟩ : ByteArray)]) rfl Try.sizeOf47 rfl rfl rfl rfl rfl trivial (lcsA ⟨(lc_scalar rfl), (lc_scalar rfl), (lc_scalar rfl), trivial⟩) (Nat.le_of_ble_eq_true rfl) trivial trivial rfl rfl (F' := [(b39, .cells true ((gBl B).map u64v) 1), (b40, .cells true ((gBk B).map u32v) 1), (b9, .cells true [.int .u32 ((gF0 B : Nat) : Int), .int .u32 ((gSh B : Nat) : Int), .slice (some ⟨b39, 0, none⟩) (gM B) (gM B), .slice (some ⟨b40, 0, none⟩) (gN B) (gN B), .slice none 0 0] 5), (b5, .cells true [.int .i64 5, .int .u64 ((16 + ((gM B) * 8) + (i * 4) : Nat) : Int), .string (⟨#[]⟩ : ByteArray)] 3), (b1, .cells true [.int .u32 0, .int .u32 0, .slice none 0 0, .slice none 0 0, .slice none 0 0] 5)]) rfl (fun H54 s55 => ⟨?_, ?_⟩)
                      · exact trivial
                      refine ⟨_, Wk.refl _ _, ?_⟩
                      show awp _ _ _ _ _ _ _
                      refine awp_ret_wk ?_
                      obtain ⟨e1, e2⟩ := gc_bad (B := B) (i := i) (by omega) (by omega) (by omega) hyes (by omega) (gBad_y (by omega) (by omega)) hi.2
                      refine ⟨_, Wk.refl _ _, ?_⟩
                      repeat (with_reducible first | refine then_ret ?_ | refine blk_ret ?_ | refine then_exit ?_ | refine blk_exit ?_ | refine blk_exit' (by decide) ?_ | refine blk_normal ?_ | refine then_normal ?_ | refine retq_ret ?_ | refine retq_normal ?_ | refine ng_normal ?_ | refine ng_ret ?_ | refine ng_exit ?_)
                      refine ret_is (v := .tuple #[.agg #[.int .u32 0, .int .u32 0, .slice none 0 0, .slice none 0 0, .slice none 0 0], .agg #[.int .i64 5, .int .u64 ((16 + ((gM B) * 8) + (i * 4) : Nat) : Int), .string (⟨#[]⟩ : ByteArray)]]) rfl (.agg rfl Try.isAgg31 Try.sizeOf31 (s55.rd (j := 4) rfl) (Nat.le_of_ble_eq_true rfl) rfl (.agg rfl Try.isAgg47 Try.sizeOf47 (s55.rd (j := 3) rfl) (Nat.le_of_ble_eq_true rfl) rfl .nil)) rfl ?_
                      exact .inl ⟨by rw [e1]; decide, by rw [e1, e2]; first | done | rfl, s55.kp⟩
                    ·
                      replace c9 := of_decide_eq_false c9
                      refine dv (gyes_some rfl rfl) (q_mv (v := .bool false) rfl) rfl (by decide) (cok1 trivial) ?_
                      refine dv (gyes_some rfl rfl) (q_mv (v := .int .u32 ((nth (gBk B) i : Nat) : Int)) rfl) rfl (by decide) (cok1 trivial) ?_
                      refine dvb (gyes_some rfl rfl) (q_int rfl rfl rfl) rfl (by decide) (cok2 trivial (cconst rfl)) (fun c10 => ?_) (fun c10 => ?_)
                      ·
                        replace c10 := of_decide_eq_true c10
                        refine dv (gyes_some rfl rfl) (q_pf (v := .bool true) rfl rfl) rfl (by decide) (call_ok rfl) ?_
                        refine dv (gyes_none rfl) (q_pt (v := .bool true) rfl rfl) rfl (by decide) (call_ok rfl) ?_
                        refine ⟨_, Wk.refl _ _, ?_⟩
                        show awp _ _ _ _ _ _ _
                        refine awp_cond_t rfl ?_
                        refine awp_seq ?_
                        refine awp_regs hF ?_
                        refine dv (gyes_none rfl) (q_buildL (ds := [.int .u32 0, .int .u32 0, .slice none 0 0, .slice none 0 0, .slice none 0 0]) [(0, 1), (1, 1), (2, 1), (3, 1), (4, 1)] [] Try.underlying31 Try.zeroValue31 (by first | exact flat_agg rfl | exact flat_scalar rfl) (by kernel_rfl) trivial lvs0 rfl) rfl (by decide) (by simp [Op.operands, Call.operands]) ?_
                        refine dv (gyes_none rfl) (q_mv (v := .int .u64 ((gM B : Nat) : Int)) rfl) rfl (by decide) (cok1 trivial) ?_
                        refine dv (gyes_none rfl) (OpQ.cast (v' := .int .u64 (((gM B) * 8 : Nat) : Int)) (q_int rfl rfl rfl) (congrArg _ ((u64_in (by omega)).trans (by first | rfl | omega | (push_cast; rfl))))) rfl (by decide) (cok2 trivial (cconst rfl)) ?_
                        refine dv (gyes_none rfl) (OpQ.cast (v' := .int .u64 ((16 + ((gM B) * 8) : Nat) : Int)) (q_int rfl rfl rfl) (congrArg _ ((u64_in (by omega)).trans (by first | rfl | omega | (push_cast; rfl))))) rfl (by decide) (cok2 (cconst rfl) trivial) ?_
                        refine dv (gyes_none rfl) (q_mv (v := .int .i64 ((i : Nat) : Int)) rfl) rfl (by decide) (cok1 trivial) ?_
                        refine dv (gyes_none rfl) (q_convin (a := ((i : Nat) : Int)) Try.underlying3 Try.underlying45 rfl (u64_in (by omega))) rfl (by decide) (cok1 trivial) ?_
                        refine dv (gyes_none rfl) (OpQ.cast (v' := .int .u64 ((i * 4 : Nat) : Int)) (q_int rfl rfl rfl) (congrArg _ ((u64_in (by omega)).trans (by first | rfl | omega | (push_cast; rfl))))) rfl (by decide) (cok2 trivial (cconst rfl)) ?_
                        refine dv (gyes_none rfl) (OpQ.cast (v' := .int .u64 ((16 + ((gM B) * 8) + (i * 4) : Nat) : Int)) (q_int rfl rfl rfl) (congrArg _ ((u64_in (by omega)).trans (by first | rfl | omega | (push_cast; rfl))))) rfl (by decide) (cok2 trivial trivial) ?_
                        refine dv (gyes_none rfl) (q_call0 Try.call31 rfl (failAt_ok 5 (16 + ((gM B) * 8) + (i * 4)))) rfl (by decide) (call_ok rfl) ?_
                        refine x_store [] hF s51 (by kernel_rfl) (gyes_none rfl) (j := 4) (v := .agg #[.int .u32 0, .int .u32 0, .slice none 0 0, .slice none 0 0, .slice none 0 0]) rfl Try.sizeOf31 rfl rfl rfl rfl rfl trivial (lcsA ⟨(lc_scalar rfl), (lc_scalar rfl), (lc_scalar rfl), (lc_scalar rfl), (lc_scalar rfl), trivial⟩) (Nat.le_of_ble_eq_true rfl) trivial trivial rfl rfl (F' := [(b39, .cells true ((gBl B).map u64v) 1), (b40, .cells true ((gBk B).map u32v) 1), (b9, .cells true [.int .u32 ((gF0 B : Nat) : Int), .int .u32 ((gSh B : Nat) : Int), .slice (some ⟨b39, 0, none⟩) (gM B) (gM B), .slice (some ⟨b40, 0, none⟩) (gN B) (gN B), .slice none 0 0] 5), (b5, .cells true [.int .i64 0, .int .u64 0, .string ⟨#[]⟩] 3), (b1, .cells true [.int .u32 0, .int .u32 0, .slice none 0 0, .slice none 0 0, .slice none 0 0] 5)]) rfl (fun H56 s57 => ⟨?_, ?_⟩)
                        · exact trivial
                        refine x_store [] hF s57 (by kernel_rfl) (gyes_none rfl) (j := 3) (v := .agg #[.int .i64 5, .int .u64 ((16 + ((gM B) * 8) + (i * 4) : Nat) : Int), .string (⟨#[]⟩ : ByteArray)]) rfl Try.sizeOf47 rfl rfl rfl rfl rfl trivial (lcsA ⟨(lc_scalar rfl), (lc_scalar rfl), (lc_scalar rfl), trivial⟩) (Nat.le_of_ble_eq_true rfl) trivial trivial rfl rfl (F' := [(b39, .cells true ((gBl B).map u64v) 1), (b40, .cells true ((gBk B).map u32v) 1), (b9, .cells true [.int .u32 ((gF0 B : Nat) : Int), .int .u32 ((gSh B : Nat) : Int), .slice (some ⟨b39, 0, none⟩) (gM B) (gM B), .slice (some ⟨b40, 0, none⟩) (gN B) (gN B), .slice none 0 0] 5), (b5, .cells true [.int .i64 5, .int .u64 ((16 + ((gM B) * 8) + (i * 4) : Nat) : Int), .string (⟨#[]⟩ : ByteArray)] 3), (b1, .cells true [.int .u32 0, .int .u32 0, .slice none 0 0, .slice none 0 0, .slice none 0 0] 5)]) rfl (fun H58 s59 => ⟨?_, ?_⟩)
                        · exact trivial
                        refine ⟨_, Wk.refl _ _, ?_⟩
                        show awp _ _ _ _ _ _ _
                        refine awp_ret_wk ?_
                        obtain ⟨e1, e2⟩ := gc_bad (B := B) (i := i) (by omega) (by omega) (by omega) hyes (by omega) (gBad_y (by omega) (by omega)) hi.2
                        refine ⟨_, Wk.refl _ _, ?_⟩
                        repeat (with_reducible first | refine then_ret ?_ | refine blk_ret ?_ | refine then_exit ?_ | refine blk_exit ?_ | refine blk_exit' (by decide) ?_ | refine blk_normal ?_ | refine then_normal ?_ | refine retq_ret ?_ | refine retq_normal ?_ | refine ng_normal ?_ | refine ng_ret ?_ | refine ng_exit ?_)
                        refine ret_is (v := .tuple #[.agg #[.int .u32 0, .int .u32 0, .slice none 0 0, .slice none 0 0, .slice none 0 0], .agg #[.int .i64 5, .int .u64 ((16 + ((gM B) * 8) + (i * 4) : Nat) : Int), .string (⟨#[]⟩ : ByteArray)]]) rfl (.agg rfl Try.isAgg31 Try.sizeOf31 (s59.rd (j := 4) rfl) (Nat.le_of_ble_eq_true rfl) rfl (.agg rfl Try.isAgg47 Try.sizeOf47 (s59.rd (j := 3) rfl) (Nat.le_of_ble_eq_true rfl) rfl .nil)) rfl ?_
                        exact .inl ⟨by rw [e1]; decide, by rw [e1, e2]; first | done | rfl, s59.kp⟩
                      ·
                        replace c10 := of_decide_eq_false c10
                        refine dv (gyes_some rfl rfl) (q_pf (v := .bool false) rfl rfl) rfl (by decide) (call_ok rfl) ?_
                        refine dv (gyes_none rfl) (q_pt (v := .bool false) rfl rfl) rfl (by decide) (call_ok rfl) ?_
                        refine ⟨_, Wk.refl _ _, ?_⟩
                        show awp _ _ _ _ _ _ _
                        refine awp_cond_f rfl ?_
                        refine awp_skip_wk ?_
                        refine ⟨_, Wk.refl _ _, ?_⟩
                        show awp _ _ _ _ _ _ _
                        refine awp_regs hF ?_
                        refine dv (gyes_none rfl) (OpQ.cast (v' := .int .i64 ((i + 1 : Nat) : Int)) (q_int rfl rfl rfl) (congrArg _ ((i64_in (by omega)).trans (by first | rfl | omega | (push_cast; rfl))))) rfl (by decide) (cok2 trivial (cconst rfl)) ?_
                        refine dv (gyes_none rfl) (q_mv (v := .int .i64 ((i + 1 : Nat) : Int)) rfl) rfl (by decide) (cok1 trivial) ?_
                        refine ⟨_, Wk.U [(0, .string B), (2, .pointer (some ⟨b1, 0, none⟩)), (3, .pointer (some ⟨b5, 0, none⟩)), (4, .int .u64 ((gN B : Nat) : Int)), (5, .int .u64 ((gF0 B : Nat) : Int)), (6, .int .u64 ((gM B : Nat) : Int)), (7, .int .u64 ((gSh B : Nat) : Int)), (8, .pointer (some ⟨b9, 0, none⟩)), (9, .int .u64 ((gA0 B : Nat) : Int)), (67, .slice (some ⟨b40, 0, none⟩) (gN B) (gN B)), (68, .int .i64 ((gN B : Nat) : Int)), (69, .int .i64 (((i + 1) : Nat) : Int))] ⟨rfl, rfl, rfl, rfl, rfl, rfl, rfl, rfl, rfl, rfl, rfl, rfl, trivial⟩, (i + 1), ⟨_, rfl, s51, ⟨by omega, lt_succ_casesN hi.2 (gBad_n (by omega))⟩⟩, (by omega)⟩
                  ·
                    replace c8 := bne_eq_false_iff_eq.1 c8
                    refine dv (gyes_none rfl) (q_mv (v := .bool false) rfl) rfl (by decide) (cok1 trivial) ?_
                    refine dno rfl (.inl rfl) rfl (by decide) ?_
                    refine dno rfl (.inl rfl) rfl (by decide) ?_
                    refine dno rfl (.inl rfl) rfl (by decide) ?_
                    refine dno rfl (.inl rfl) rfl (by decide) ?_
                    refine dno rfl (.inl rfl) rfl (by decide) ?_
                    refine dno rfl (.inr rfl) rfl (by decide) ?_
                    refine dno rfl (.inr rfl) rfl (by decide) ?_
                    refine dno rfl (.inl rfl) rfl (by decide) ?_
                    refine dv (gyes_none rfl) (q_pf (v := .bool false) rfl rfl) rfl (by decide) (call_ok rfl) ?_
                    refine ⟨_, Wk.refl _ _, ?_⟩
                    show awp _ _ _ _ _ _ _
                    refine awp_cond_f rfl ?_
                    refine awp_skip_wk ?_
                    refine ⟨_, Wk.refl _ _, ?_⟩
                    show awp _ _ _ _ _ _ _
                    refine awp_regs hF ?_
                    refine dv (gyes_none rfl) (OpQ.cast (v' := .int .i64 ((i + 1 : Nat) : Int)) (q_int rfl rfl rfl) (congrArg _ ((i64_in (by omega)).trans (by first | rfl | omega | (push_cast; rfl))))) rfl (by decide) (cok2 trivial (cconst rfl)) ?_
                    refine dv (gyes_none rfl) (q_mv (v := .int .i64 ((i + 1 : Nat) : Int)) rfl) rfl (by decide) (cok1 trivial) ?_
                    refine ⟨_, Wk.U [(0, .string B), (2, .pointer (some ⟨b1, 0, none⟩)), (3, .pointer (some ⟨b5, 0, none⟩)), (4, .int .u64 ((gN B : Nat) : Int)), (5, .int .u64 ((gF0 B : Nat) : Int)), (6, .int .u64 ((gM B : Nat) : Int)), (7, .int .u64 ((gSh B : Nat) : Int)), (8, .pointer (some ⟨b9, 0, none⟩)), (9, .int .u64 ((gA0 B : Nat) : Int)), (67, .slice (some ⟨b40, 0, none⟩) (gN B) (gN B)), (68, .int .i64 ((gN B : Nat) : Int)), (69, .int .i64 (((i + 1) : Nat) : Int))] ⟨rfl, rfl, rfl, rfl, rfl, rfl, rfl, rfl, rfl, rfl, rfl, rfl, trivial⟩, (i + 1), ⟨_, rfl, s51, ⟨by omega, lt_succ_casesN hi.2 (gBad_n (by omega))⟩⟩, (by omega)⟩
                ·
                  replace c7 := of_decide_eq_false c7
                  refine ⟨_, Wk.refl _ _, ?_⟩
                  show awp _ _ _ _ _ _ _
                  refine awp_seq ?_
                  refine awp_cond_f rfl ?_
                  refine awp_exit_wk ?_
                  refine ⟨_, Wk.refl _ _, ?_⟩
                  show awp _ _ _ _ _ _ _
                  refine awp_seq ?_
                  refine awp_seq ?_
                  refine awp_regs hF ?_
                  refine dv (gyes_none rfl) (q_mv (v := .string B) rfl) rfl (by decide) (cok1 trivial) ?_
                  refine dv (gyes_none rfl) (q_mv (v := .int .u64 ((gA0 B : Nat) : Int)) rfl) rfl (by decide) (cok1 trivial) ?_
                  refine x_call [] hF (by kernel_rfl) (gyes_none rfl) Try.call32 rfl (args := [.pointer (some ⟨b9, 0, none⟩), .string B, .int .u64 ((gA0 B : Nat) : Int)]) rfl (chains_ok b9 (gF0 B) (gSh B) _ _ (gBl B) (gBk B) B (gA0 B) hB (by unfold gA0; omega) (by omega) (by rw [gBk_len]; omega) (by rw [gBk_len]; omega) (slz_full (Z := Off _ [b9]) ⟨s51.rd (j := 0) rfl, (nin1 (s51.nej (i := 0) (j := 2) rfl rfl (by decide)))⟩ gBl_len (Nat.le_refl _)) (slz_full (Z := Off _ [b9]) ⟨s51.rd (j := 1) rfl, (nin1 (s51.nej (i := 1) (j := 2) rfl rfl (by decide)))⟩ gBk_len (Nat.le_refl _)) gBk_w (s51.getj (j := 2) rfl) hmz hmxl) (show _ < _ by decide) (call_ok rfl) rfl rfl (fun _ _ _ _ hd => by cases hd) ?_
                  rintro _ H62 ⟨rfl, hk63, b60, k61, hl64, h65, h66, hq67⟩
                  have s68 := s51.turn1L (j := 2) rfl hk63 h65 [(b60, .cells true ((chL B (gA0 B) k61).map u32v) 1)] (by simp) (by intro p hp; rw [List.mem_singleton.1 hp]; exact hl64) ⟨h66, trivial⟩
                  refine ⟨trivial, ?_⟩
                  show dList _ _ _ _ _ _ _ _ _ _
                  refine dv (gyes_none rfl) (q_as (v := .int .i64 ((chC B (gF0 B) (maxL (gBk B)) (gA0 B) : Nat) : Int)) rfl) rfl (by decide) (cok1 trivial) ?_
                  refine ⟨_, Wk.refl _ _, ?_⟩
                  show awp _ _ _ _ _ _ _
                  refine awp_seq ?_
                  refine awp_regs hF ?_
                  refine dv (gyes_none rfl) (q_mv (v := .int .i64 ((chC B (gF0 B) (maxL (gBk B)) (gA0 B) : Nat) : Int)) rfl) rfl (by decide) (cok1 trivial) ?_
                  refine dvb (gyes_none rfl) (q_int rfl rfl rfl) rfl (by decide) (cok2 trivial (cconst rfl)) (fun c11 => ?_) (fun c11 => ?_)
                  ·
                    replace c11 := bne_iff_ne.1 c11
                    refine ⟨_, Wk.refl _ _, ?_⟩
                    show awp _ _ _ _ _ _ _
                    refine awp_cond_t rfl ?_
                    refine awp_seq ?_
                    refine awp_regs hF ?_
                    refine dv (gyes_none rfl) (q_buildL (ds := [.int .u32 0, .int .u32 0, .slice none 0 0, .slice none 0 0, .slice none 0 0]) [(0, 1), (1, 1), (2, 1), (3, 1), (4, 1)] [] Try.underlying31 Try.zeroValue31 (by first | exact flat_agg rfl | exact flat_scalar rfl) (by kernel_rfl) trivial lvs0 rfl) rfl (by decide) (by simp [Op.operands, Call.operands]) ?_
                    refine dv (gyes_none rfl) (q_mv (v := .int .i64 ((chC B (gF0 B) (maxL (gBk B)) (gA0 B) : Nat) : Int)) rfl) rfl (by decide) (cok1 trivial) ?_
                    refine dv (gyes_none rfl) (q_call0 Try.call29 rfl (failOf_ok (chC B (gF0 B) (maxL (gBk B)) (gA0 B)))) rfl (by decide) (cok2 trivial trivial) ?_
                    refine x_store [] hF s68 (by kernel_rfl) (gyes_none rfl) (j := 5) (v := .agg #[.int .u32 0, .int .u32 0, .slice none 0 0, .slice none 0 0, .slice none 0 0]) rfl Try.sizeOf31 rfl rfl rfl rfl rfl trivial (lcsA ⟨(lc_scalar rfl), (lc_scalar rfl), (lc_scalar rfl), (lc_scalar rfl), (lc_scalar rfl), trivial⟩) (Nat.le_of_ble_eq_true rfl) trivial trivial rfl rfl (F' := [(b60, .cells true ((chL B (gA0 B) k61).map u32v) 1), (b39, .cells true ((gBl B).map u64v) 1), (b40, .cells true ((gBk B).map u32v) 1), (b9, .cells true [.int .u32 ((gF0 B : Nat) : Int), .int .u32 ((gSh B : Nat) : Int), .slice (some ⟨b39, 0, none⟩) (gM B) (gM B), .slice (some ⟨b40, 0, none⟩) (gN B) (gN B), .slice (some ⟨b60, 0, none⟩) k61 k61] 5), (b5, .cells true [.int .i64 0, .int .u64 0, .string ⟨#[]⟩] 3), (b1, .cells true [.int .u32 0, .int .u32 0, .slice none 0 0, .slice none 0 0, .slice none 0 0] 5)]) rfl (fun H69 s70 => ⟨?_, ?_⟩)
                    · exact trivial
                    refine x_store [] hF s70 (by kernel_rfl) (gyes_none rfl) (j := 4) (v := .agg #[.int .i64 ((chC B (gF0 B) (maxL (gBk B)) (gA0 B) : Nat) : Int), .int .u64 0, .string (⟨#[]⟩ : ByteArray)]) rfl Try.sizeOf47 rfl rfl rfl rfl rfl trivial (lcsA ⟨(lc_scalar rfl), (lc_scalar rfl), (lc_scalar rfl), trivial⟩) (Nat.le_of_ble_eq_true rfl) trivial trivial rfl rfl (F' := [(b60, .cells true ((chL B (gA0 B) k61).map u32v) 1), (b39, .cells true ((gBl B).map u64v) 1), (b40, .cells true ((gBk B).map u32v) 1), (b9, .cells true [.int .u32 ((gF0 B : Nat) : Int), .int .u32 ((gSh B : Nat) : Int), .slice (some ⟨b39, 0, none⟩) (gM B) (gM B), .slice (some ⟨b40, 0, none⟩) (gN B) (gN B), .slice (some ⟨b60, 0, none⟩) k61 k61] 5), (b5, .cells true [.int .i64 ((chC B (gF0 B) (maxL (gBk B)) (gA0 B) : Nat) : Int), .int .u64 0, .string (⟨#[]⟩ : ByteArray)] 3), (b1, .cells true [.int .u32 0, .int .u32 0, .slice none 0 0, .slice none 0 0, .slice none 0 0] 5)]) rfl (fun H71 s72 => ⟨?_, ?_⟩)
                    · exact trivial
                    refine ⟨_, Wk.refl _ _, ?_⟩
                    show awp _ _ _ _ _ _ _
                    refine awp_ret_wk ?_
                    obtain ⟨e1, e2, _⟩ := gc_chn (B := B) (by omega) (by omega) (by omega) hyes (fun j hj => hi.2 j (by omega)) hmz
                    refine ⟨_, Wk.refl _ _, ?_⟩
                    repeat (with_reducible first | refine then_ret ?_ | refine blk_ret ?_ | refine then_exit ?_ | refine blk_exit ?_ | refine blk_exit' (by decide) ?_ | refine blk_normal ?_ | refine then_normal ?_ | refine retq_ret ?_ | refine retq_normal ?_ | refine ng_normal ?_ | refine ng_ret ?_ | refine ng_exit ?_)
                    refine ret_is (v := .tuple #[.agg #[.int .u32 0, .int .u32 0, .slice none 0 0, .slice none 0 0, .slice none 0 0], .agg #[.int .i64 ((chC B (gF0 B) (maxL (gBk B)) (gA0 B) : Nat) : Int), .int .u64 0, .string (⟨#[]⟩ : ByteArray)]]) rfl (.agg rfl Try.isAgg31 Try.sizeOf31 (s72.rd (j := 5) rfl) (Nat.le_of_ble_eq_true rfl) rfl (.agg rfl Try.isAgg47 Try.sizeOf47 (s72.rd (j := 4) rfl) (Nat.le_of_ble_eq_true rfl) rfl .nil)) rfl ?_
                    exact .inl ⟨by rw [e1]; intro h9; omega, by rw [e1, e2]; first | done | rfl, s72.kp⟩
                  ·
                    replace c11 := bne_eq_false_iff_eq.1 c11
                    refine ⟨_, Wk.refl _ _, ?_⟩
                    show awp _ _ _ _ _ _ _
                    refine awp_cond_f rfl ?_
                    refine awp_skip_wk ?_
                    refine ⟨_, Wk.refl _ _, ?_⟩
                    show awp _ _ _ _ _ _ _
                    refine awp_seq ?_
                    refine awp_regs hF ?_
                    refine dv (gyes_none rfl) (q_loadAgg Try.isAgg31 Try.sizeOf31 rfl (s68.rd (j := 3) rfl) (Nat.le_of_ble_eq_true rfl) rfl) rfl (by decide) (cok1 trivial) ?_
                    refine dv (gyes_none rfl) (q_buildL (ds := [.int .i64 0, .int .u64 0, .string ⟨#[]⟩]) [(0, 1), (1, 1), (2, 1)] [] Try.underlying47 Try.zeroValue47 (by first | exact flat_agg rfl | exact flat_scalar rfl) (by kernel_rfl) trivial lvs0 rfl) rfl (by decide) (by simp [Op.operands, Call.operands]) ?_
                    refine x_store [] hF s68 (by kernel_rfl) (gyes_none rfl) (j := 5) (v := .agg #[.int .u32 ((gF0 B : Nat) : Int), .int .u32 ((gSh B : Nat) : Int), .slice (some ⟨b39, 0, none⟩) (gM B) (gM B), .slice (some ⟨b40, 0, none⟩) (gN B) (gN B), .slice (some ⟨b60, 0, none⟩) k61 k61]) rfl Try.sizeOf31 rfl rfl rfl rfl rfl trivial (lcsA ⟨(lc_scalar rfl), (lc_scalar rfl), (lc_slice (s68.live (j := 1) rfl)), (lc_slice (s68.live (j := 2) rfl)), (lc_slice (s68.live (j := 0) rfl)), trivial⟩) (Nat.le_of_ble_eq_true rfl) trivial trivial rfl rfl (F' := [(b60, .cells true ((chL B (gA0 B) k61).map u32v) 1), (b39, .cells true ((gBl B).map u64v) 1), (b40, .cells true ((gBk B).map u32v) 1), (b9, .cells true [.int .u32 ((gF0 B : Nat) : Int), .int .u32 ((gSh B : Nat) : Int), .slice (some ⟨b39, 0, none⟩) (gM B) (gM B), .slice (some ⟨b40, 0, none⟩) (gN B) (gN B), .slice (some ⟨b60, 0, none⟩) k61 k61] 5), (b5, .cells true [.int .i64 0, .int .u64 0, .string ⟨#[]⟩] 3), (b1, .cells true [.int .u32 ((gF0 B : Nat) : Int), .int .u32 ((gSh B : Nat) : Int), .slice (some ⟨b39, 0, none⟩) (gM B) (gM B), .slice (some ⟨b40, 0, none⟩) (gN B) (gN B), .slice (some ⟨b60, 0, none⟩) k61 k61] 5)]) rfl (fun H73 s74 => ⟨?_, ?_⟩)
                    · exact trivial
                    refine x_store [] hF s74 (by kernel_rfl) (gyes_none rfl) (j := 4) (v := .agg #[.int .i64 0, .int .u64 0, .string ⟨#[]⟩]) rfl Try.sizeOf47 rfl rfl rfl rfl rfl trivial (lcsA ⟨(lc_scalar rfl), (lc_scalar rfl), (lc_scalar rfl), trivial⟩) (Nat.le_of_ble_eq_true rfl) trivial trivial rfl rfl (F' := [(b60, .cells true ((chL B (gA0 B) k61).map u32v) 1), (b39, .cells true ((gBl B).map u64v) 1), (b40, .cells true ((gBk B).map u32v) 1), (b9, .cells true [.int .u32 ((gF0 B : Nat) : Int), .int .u32 ((gSh B : Nat) : Int), .slice (some ⟨b39, 0, none⟩) (gM B) (gM B), .slice (some ⟨b40, 0, none⟩) (gN B) (gN B), .slice (some ⟨b60, 0, none⟩) k61 k61] 5), (b5, .cells true [.int .i64 0, .int .u64 0, .string ⟨#[]⟩] 3), (b1, .cells true [.int .u32 ((gF0 B : Nat) : Int), .int .u32 ((gSh B : Nat) : Int), .slice (some ⟨b39, 0, none⟩) (gM B) (gM B), .slice (some ⟨b40, 0, none⟩) (gN B) (gN B), .slice (some ⟨b60, 0, none⟩) k61 k61] 5)]) rfl (fun H75 s76 => ⟨?_, ?_⟩)
                    · exact trivial
                    refine ⟨_, Wk.refl _ _, ?_⟩
                    show awp _ _ _ _ _ _ _
                    refine awp_ret_wk ?_
                    obtain ⟨e1, e2, e3⟩ := gc_chn (B := B) (by omega) (by omega) (by omega) hyes (fun j hj => hi.2 j (by omega)) hmz
                    have hc0 : chC B (gF0 B) (maxL (gBk B)) (gA0 B) = 0 := by omega
                    have hkk := hq67 hc0
                    rw [← hkk] at e3
                    rw [hc0] at e1
                    refine ⟨_, Wk.refl _ _, ?_⟩
                    repeat (with_reducible first | refine then_ret ?_ | refine blk_ret ?_ | refine then_exit ?_ | refine blk_exit ?_ | refine blk_exit' (by decide) ?_ | refine blk_normal ?_ | refine then_normal ?_ | refine retq_ret ?_ | refine retq_normal ?_ | refine ng_normal ?_ | refine ng_ret ?_ | refine ng_exit ?_)
                    refine ret_is (v := .tuple #[.agg #[.int .u32 ((gF0 B : Nat) : Int), .int .u32 ((gSh B : Nat) : Int), .slice (some ⟨b39, 0, none⟩) (gM B) (gM B), .slice (some ⟨b40, 0, none⟩) (gN B) (gN B), .slice (some ⟨b60, 0, none⟩) k61 k61], .agg #[.int .i64 0, .int .u64 0, .string ⟨#[]⟩]]) rfl (.agg rfl Try.isAgg31 Try.sizeOf31 (s76.rd (j := 5) rfl) (Nat.le_of_ble_eq_true rfl) rfl (.agg rfl Try.isAgg47 Try.sizeOf47 (s76.rd (j := 4) rfl) (Nat.le_of_ble_eq_true rfl) rfl .nil)) rfl ?_
                    refine .inr ⟨e1, b39, b40, b60, ?_, ?_⟩
                    · rw [e3]
                    · rw [e3]; exact ((s76.sub (.cons_cons _ (.cons_cons _ (.cons_cons _ (.cons _ (.cons _ (.cons _ (.refl _)))))))).perm (List.Perm.cons _ (((List.Perm.cons _ (List.Perm.refl _)).trans (List.perm_middle (l₁ := [_])).symm)))).newL
theorem maxL_lt {M : Nat} (h0 : 0 < M) : ∀ (l : List Nat) (a : Nat), a < M → (∀ x ∈ l, x < M) → l.foldl max a < M
  | [], a, ha, _ => ha
  | x :: l, a, ha, h => maxL_lt h0 l (max a x) (by have := h x List.mem_cons_self; omega) fun y hy => h y (List.mem_cons_of_mem _ hy)
theorem gread_ok {H0 : AHeap} (B : ByteArray) (hB : B.size ≤ 140737488355328) : ACalls Try.prog 15 [.string B] H0 (fun v H' => (gC B ≠ 0 ∧ v = .tuple #[.agg #[.int .u32 0, .int .u32 0, .slice none 0 0, .slice none 0 0, .slice none 0 0], .agg #[.int .i64 ((gC B : Nat) : Int), .int .u64 ((gAt B : Nat) : Int), .string ⟨#[]⟩]] ∧ K0 H0 H') ∨ (gC B = 0 ∧ ∃ b1 b2 b3, v = .tuple #[.agg #[.int .u32 ((gF0 B : Nat) : Int), .int .u32 ((gSh B : Nat) : Int), .slice (some ⟨b1, 0, none⟩) (gM B) (gM B), .slice (some ⟨b2, 0, none⟩) (gN B) (gN B), .slice (some ⟨b3, 0, none⟩) (gK B) (gK B)], .agg #[.int .i64 0, .int .u64 0, .string ⟨#[]⟩]] ∧ NewL H0 H' [(b3, .cells true ((chL B (gA0 B) (gK B)).map u32v) 1), (b2, .cells true ((gBk B).map u32v) 1), (b1, .cells true ((gBl B).map u64v) 1)])) := by
  by_cases h : gA0 B ≤ B.size
  · by_cases hz : maxL (gBk B) = 0
    · exact read_mz B hB h hz
    · exact read_ch B hB h hz (maxL_lt (by decide) _ 0 (by decide) gBk_w)
  · exact read_no B hB h

end Go.Proofs.YtponfeigjmjbmaaA

