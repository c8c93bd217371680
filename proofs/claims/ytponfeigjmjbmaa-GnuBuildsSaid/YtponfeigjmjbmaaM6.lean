/-
  Walks over abstract states: texts of one claim, merged.
-/
import Derived.Test.YtponfeigjmjbmaaM5
import Derived.Test.YtponfeigjmjbmaaProg
import Derived.KernelRfl
import Derived.ChangeSlices
import Derived.SliceStrings
import Derived.WideShapes
import Derived.SizedLaws
import Derived.OpenShut
import Derived.Deep.Slices
/-
  Walks of functions of the given program, and what they compute.
-/
namespace Go.Proofs.YtponfeigjmjbmaaA
set_option linter.unusedVariables false
open Go Go.RowKit Go.Shelf Go.Proofs
def gN (B : ByteArray) : Nat := atV B 0 4
def gF0 (B : ByteArray) : Nat := atV B 4 4
def gM (B : ByteArray) : Nat := atV B 8 4
def gSh (B : ByteArray) : Nat := atV B 12 4
def gA0 (B : ByteArray) : Nat := 16 + gM B * 8 + gN B * 4
def gBl (B : ByteArray) : List Nat := numE (partV B 16 (gM B * 8)) 8 (gM B)
def gBk (B : ByteArray) : List Nat := numE (partV B (16 + gM B * 8) (gN B * 4)) 4 (gN B)
def gBad (B : ByteArray) (i : Nat) : Bool := decide (nth (gBk B) i ≠ 0 ∧ (nth (gBk B) i < gF0 B ∨ 256 ≤ nth (gBk B) i))
def gX (B : ByteArray) : Nat := firstK (gBad B) (gN B)
def gC (B : ByteArray) : Nat := if B.size < 16 then 2 else if gN B = 0 ∨ gM B = 0 then 4 else if 256 < gN B ∨ 256 < gM B ∨ 256 < gF0 B then 6 else if ¬ gA0 B ≤ B.size then 2 else if gX B < gN B then 5 else if maxL (gBk B) = 0 then 0 else chC B (gF0 B) (maxL (gBk B)) (gA0 B)
def gAt (B : ByteArray) : Nat := if gC B = 5 then 16 + gM B * 8 + gX B * 4 else 0
def gK (B : ByteArray) : Nat := if maxL (gBk B) = 0 then 0 else chJ B (gF0 B) (maxL (gBk B)) (gA0 B) + 1
section
variable {B : ByteArray}
theorem chC_cases (B : ByteArray) (f last a : Nat) : chC B f last a = 6 ∨ chC B f last a = 2 ∨ chC B f last a = 0 := by unfold chC; split; exact .inl rfl; split; exact .inr (.inl rfl); exact .inr (.inr rfl)
theorem gc_err {c : Nat} (e : gC B = c) (h5 : c ≠ 5) : gC B = c ∧ gAt B = 0 := ⟨e, by unfold gAt; rw [if_neg (by rw [e]; exact h5)]⟩
theorem gc_short (h : B.size < 16) : gC B = 2 ∧ gAt B = 0 := gc_err (if_pos h) (by decide)
theorem gc_zero (h1 : ¬ B.size < 16) (h : gN B = 0 ∨ gM B = 0) : gC B = 4 ∧ gAt B = 0 := gc_err (by unfold gC; rw [if_neg h1, if_pos h]) (by decide)
theorem gc_many (h1 : ¬ B.size < 16) (h2 : ¬ (gN B = 0 ∨ gM B = 0)) (h : 256 < gN B ∨ 256 < gM B ∨ 256 < gF0 B) : gC B = 6 ∧ gAt B = 0 := gc_err (by unfold gC; rw [if_neg h1, if_neg h2, if_pos h]) (by decide)
theorem gc_out (h1 : ¬ B.size < 16) (h2 : ¬ (gN B = 0 ∨ gM B = 0)) (h3 : ¬ (256 < gN B ∨ 256 < gM B ∨ 256 < gF0 B)) (h : ¬ gA0 B ≤ B.size) : gC B = 2 ∧ gAt B = 0 := gc_err (by unfold gC; rw [if_neg h1, if_neg h2, if_neg h3, if_pos h]) (by decide)
theorem gc_bad (h1 : ¬ B.size < 16) (h2 : ¬ (gN B = 0 ∨ gM B = 0)) (h3 : ¬ (256 < gN B ∨ 256 < gM B ∨ 256 < gF0 B)) (h4 : gA0 B ≤ B.size) {i : Nat} (hi : i < gN B) (h : gBad B i = true) (hn : ∀ j, j < i → gBad B j = false) : gC B = 5 ∧ gAt B = 16 + gM B * 8 + i * 4 := by
  have ex : gX B = i := firstK_yes hi h hn
  have e : gC B = 5 := by unfold gC; rw [if_neg h1, if_neg h2, if_neg h3, if_neg (fun h => h h4), ex, if_pos hi]
  exact ⟨e, by unfold gAt; rw [if_pos e, ex]⟩
theorem gc_max (h1 : ¬ B.size < 16) (h2 : ¬ (gN B = 0 ∨ gM B = 0)) (h3 : ¬ (256 < gN B ∨ 256 < gM B ∨ 256 < gF0 B)) (h4 : gA0 B ≤ B.size) (hn : ∀ j, j < gN B → gBad B j = false) (h : maxL (gBk B) = 0) : gC B = 0 ∧ gAt B = 0 ∧ gK B = 0 := by
  have ex : gX B = gN B := firstK_no hn
  have e : gC B = 0 := by unfold gC; rw [if_neg h1, if_neg h2, if_neg h3, if_neg (fun h => h h4), ex, if_neg (Nat.lt_irrefl _), if_pos h]
  exact ⟨e, (gc_err e (by decide)).2, if_pos h⟩
theorem gc_chn (h1 : ¬ B.size < 16) (h2 : ¬ (gN B = 0 ∨ gM B = 0)) (h3 : ¬ (256 < gN B ∨ 256 < gM B ∨ 256 < gF0 B)) (h4 : gA0 B ≤ B.size) (hn : ∀ j, j < gN B → gBad B j = false) (h : ¬ maxL (gBk B) = 0) : gC B = chC B (gF0 B) (maxL (gBk B)) (gA0 B) ∧ gAt B = 0 ∧ gK B = chJ B (gF0 B) (maxL (gBk B)) (gA0 B) + 1 := by
  have ex : gX B = gN B := firstK_no hn
  have e : gC B = chC B (gF0 B) (maxL (gBk B)) (gA0 B) := by unfold gC; rw [if_neg h1, if_neg h2, if_neg h3, if_neg (fun h => h h4), ex, if_neg (Nat.lt_irrefl _), if_neg h]
  refine ⟨e, (gc_err e ?_).2, if_neg h⟩
  rcases chC_cases B (gF0 B) (maxL (gBk B)) (gA0 B) with h | h | h <;> rw [h] <;> decide
theorem gBad_y {i : Nat} (h : nth (gBk B) i ≠ 0) (h2 : nth (gBk B) i < gF0 B ∨ 256 ≤ nth (gBk B) i) : gBad B i = true := decide_eq_true ⟨h, h2⟩
theorem gBad_n {i : Nat} (h : ¬ (nth (gBk B) i ≠ 0 ∧ (nth (gBk B) i < gF0 B ∨ 256 ≤ nth (gBk B) i))) : gBad B i = false := decide_eq_false h
theorem numE_w {w : ByteArray} {sz k M : Nat} (h : ∀ i, i < k → (w.extract (i * sz) ((i + 1) * sz)).size ≤ sz) (hM : 256 ^ sz = M) : ∀ x ∈ numE w sz k, x < M := fun x hx => by
  obtain ⟨i, hi, rfl⟩ := List.mem_map.1 hx
  rw [← hM]
  exact getB_lt (h i (List.mem_range.1 hi))
theorem ext_le (w : ByteArray) (i sz : Nat) : (w.extract (i * sz) ((i + 1) * sz)).size ≤ sz := by rw [ByteArray.size_extract, Nat.add_mul, Nat.one_mul]; omega
theorem gBk_w : ∀ x ∈ gBk B, x < 4294967296 := numE_w (fun i _ => ext_le _ _ _) rfl
theorem gBk_len : (gBk B).length = gN B := numE_len _ _ _
theorem gBl_len : (gBl B).length = gM B := numE_len _ _ _
end
set_option maxRecDepth 100000 in
set_option maxHeartbeats 4000000 in
theorem failOf_ok {H0 : AHeap} (c : Nat) : ACalls Try.prog 29 [.int .i64 ((c : Nat) : Int)] H0 (Rets (.agg #[.int .i64 ((c : Nat) : Int), .int .u64 0, .string ⟨#[]⟩]) H0) := by
  have hF : Wd Fence.wide := .inl rfl
  have hM : Try.prog.follows .mixedOrders = true := by kernel_rfl
  have s0 := St.begin H0
  refine acalls_st Try.func29 rfl Try.ntmps29 rfl ?_
  refine awp_seq ?_
  refine awp_regs hF ?_
  refine x_new (fun b => .pointer (some ⟨b, 0, none⟩)) s0 (gyes_none rfl) (q_alloc (vs := [.int .i64 0, .int .u64 0, .string ⟨#[]⟩]) 3 Try.zeroValue47 (by first | exact flat_scalar rfl | exact flat_agg rfl) rfl) rfl (by decide) (by simp [Op.operands, Call.operands]) (fun b1 H2 hb4 s3 => ?_)
  refine ⟨_, Wk.refl _ _, ?_⟩
  show awp _ _ _ _ _ _ _
  refine awp_seq ?_
  refine awp_regs hF ?_
  refine dv (gyes_none rfl) (q_mv (v := .int .i64 ((c : Nat) : Int)) rfl) rfl (by decide) (cok1 trivial) ?_
  refine dv (gyes_none rfl) (q_buildL (ds := [.int .i64 ((c : Nat) : Int), .int .u64 0, .string ⟨#[]⟩]) [(0, 1), (1, 1), (2, 1)] [.int .i64 ((c : Nat) : Int)] Try.underlying47 Try.zeroValue47 (by first | exact flat_agg rfl | exact flat_scalar rfl) (by kernel_rfl) ⟨rfl, trivial⟩ (lvsC (by exact trivial) lvs0) rfl) rfl (by decide) (cok1 trivial) ?_
  refine x_store [] hF s3 (by kernel_rfl) (gyes_none rfl) (j := 0) (v := .agg #[.int .i64 ((c : Nat) : Int), .int .u64 0, .string ⟨#[]⟩]) rfl Try.sizeOf47 rfl rfl rfl rfl rfl trivial (lcsA ⟨(lc_scalar rfl), (lc_scalar rfl), (lc_scalar rfl), trivial⟩) (Nat.le_of_ble_eq_true rfl) trivial trivial rfl rfl (F' := [(b1, .cells true [.int .i64 ((c : Nat) : Int), .int .u64 0, .string ⟨#[]⟩] 3)]) rfl (fun H5 s6 => ⟨?_, ?_⟩)
  · exact trivial
  refine ⟨_, Wk.refl _ _, ?_⟩
  show awp _ _ _ _ _ _ _
  refine awp_ret_wk ?_
  refine ⟨_, Wk.refl _ _, ?_⟩
  repeat (with_reducible first | refine then_ret ?_ | refine blk_ret ?_ | refine then_exit ?_ | refine blk_exit ?_ | refine blk_exit' (by decide) ?_ | refine blk_normal ?_ | refine then_normal ?_ | refine retq_ret ?_ | refine retq_normal ?_ | refine ng_normal ?_ | refine ng_ret ?_ | refine ng_exit ?_)
  exact ret_none (v := .agg #[.int .i64 ((c : Nat) : Int), .int .u64 0, .string ⟨#[]⟩]) rfl s6.kp (.agg rfl Try.isAgg47 Try.sizeOf47 (s6.rd (j := 0) rfl) (Nat.le_of_ble_eq_true rfl) rfl .nil) rfl rfl ⟨rfl, rfl⟩
set_option maxRecDepth 100000 in
set_option maxHeartbeats 4000000 in
theorem failAt_ok {H0 : AHeap} (c a : Nat) : ACalls Try.prog 31 [.int .i64 ((c : Nat) : Int), .int .u64 ((a : Nat) : Int)] H0 (Rets (.agg #[.int .i64 ((c : Nat) : Int), .int .u64 ((a : Nat) : Int), .string ⟨#[]⟩]) H0) := by
  have hF : Wd Fence.wide := .inl rfl
  have hM : Try.prog.follows .mixedOrders = true := by kernel_rfl
  have s0 := St.begin H0
  refine acalls_st Try.func31 rfl Try.ntmps31 rfl ?_
  refine awp_seq ?_
  refine awp_regs hF ?_
  refine x_new (fun b => .pointer (some ⟨b, 0, none⟩)) s0 (gyes_none rfl) (q_alloc (vs := [.int .i64 0, .int .u64 0, .string ⟨#[]⟩]) 3 Try.zeroValue47 (by first | exact flat_scalar rfl | exact flat_agg rfl) rfl) rfl (by decide) (by simp [Op.operands, Call.operands]) (fun b1 H2 hb4 s3 => ?_)
  refine ⟨_, Wk.refl _ _, ?_⟩
  show awp _ _ _ _ _ _ _
  refine awp_seq ?_
  refine awp_regs hF ?_
  refine dv (gyes_none rfl) (q_mv (v := .int .i64 ((c : Nat) : Int)) rfl) rfl (by decide) (cok1 trivial) ?_
  refine dv (gyes_none rfl) (q_mv (v := .int .u64 ((a : Nat) : Int)) rfl) rfl (by decide) (cok1 trivial) ?_
  refine dv (gyes_none rfl) (q_buildL (ds := [.int .i64 ((c : Nat) : Int), .int .u64 ((a : Nat) : Int), .string ⟨#[]⟩]) [(0, 1), (1, 1), (2, 1)] [.int .i64 ((c : Nat) : Int), .int .u64 ((a : Nat) : Int)] Try.underlying47 Try.zeroValue47 (by first | exact flat_agg rfl | exact flat_scalar rfl) (by kernel_rfl) ⟨rfl, rfl, trivial⟩ (lvsC (by exact trivial) (lvsC (by exact trivial) lvs0)) rfl) rfl (by decide) (cok2 trivial trivial) ?_
  refine x_store [] hF s3 (by kernel_rfl) (gyes_none rfl) (j := 0) (v := .agg #[.int .i64 ((c : Nat) : Int), .int .u64 ((a : Nat) : Int), .string ⟨#[]⟩]) rfl Try.sizeOf47 rfl rfl rfl rfl rfl trivial (lcsA ⟨(lc_scalar rfl), (lc_scalar rfl), (lc_scalar rfl), trivial⟩) (Nat.le_of_ble_eq_true rfl) trivial trivial rfl rfl (F' := [(b1, .cells true [.int .i64 ((c : Nat) : Int), .int .u64 ((a : Nat) : Int), .string ⟨#[]⟩] 3)]) rfl (fun H5 s6 => ⟨?_, ?_⟩)
  · exact trivial
  refine ⟨_, Wk.refl _ _, ?_⟩
  show awp _ _ _ _ _ _ _
  refine awp_ret_wk ?_
  refine ⟨_, Wk.refl _ _, ?_⟩
  repeat (with_reducible first | refine then_ret ?_ | refine blk_ret ?_ | refine then_exit ?_ | refine blk_exit ?_ | refine blk_exit' (by decide) ?_ | refine blk_normal ?_ | refine then_normal ?_ | refine retq_ret ?_ | refine retq_normal ?_ | refine ng_normal ?_ | refine ng_ret ?_ | refine ng_exit ?_)
  exact ret_none (v := .agg #[.int .i64 ((c : Nat) : Int), .int .u64 ((a : Nat) : Int), .string ⟨#[]⟩]) rfl s6.kp (.agg rfl Try.isAgg47 Try.sizeOf47 (s6.rd (j := 0) rfl) (Nat.le_of_ble_eq_true rfl) rfl .nil) rfl rfl ⟨rfl, rfl⟩
set_option maxRecDepth 100000 in
set_option maxHeartbeats 4000000 in
theorem faultOK_ok {H0 : AHeap} (c : Nat) (a : Nat) (n : ByteArray) : ACalls Try.prog 20 [.agg #[.int .i64 ((c : Nat) : Int), .int .u64 ((a : Nat) : Int), .string n]] H0 (Rets (.bool (((c : Nat) : Int) == 0)) H0) := by
  have hF : Wd Fence.wide := .inl rfl
  have hM : Try.prog.follows .mixedOrders = true := by kernel_rfl
  have s0 := St.begin H0
  refine acalls_st Try.func20 rfl Try.ntmps20 rfl ?_
  refine awp_seq ?_
  refine awp_regs hF ?_
  refine x_new (fun b => .pointer (some ⟨b, 0, none⟩)) s0 (gyes_none rfl) (q_box (v := .agg #[.int .i64 ((c : Nat) : Int), .int .u64 ((a : Nat) : Int), .string n]) (vs := [.int .i64 ((c : Nat) : Int), .int .u64 ((a : Nat) : Int), .string n]) 3 rfl (by exact trivial) rfl) rfl (by decide) (cok1 trivial) (fun b1 H2 hb4 s3 => ?_)
  refine dv (gyes_none rfl) (q_as (v := .bool false) rfl) rfl (by decide) (cok1 (cconst rfl)) ?_
  refine ⟨_, Wk.refl _ _, ?_⟩
  show awp _ _ _ _ _ _ _
  refine awp_seq ?_
  refine awp_regs hF ?_
  refine dv (gyes_none rfl) (q_field Try.underlying47 rfl Try.sizeOf44 rfl (s3.rd (j := 0) rfl)) rfl (by decide) (cok1 trivial) ?_
  refine dv (gyes_none rfl) (q_load (v := .int .i64 ((c : Nat) : Int)) Try.isAgg44 rfl (s3.rd (j := 0) rfl) rfl) rfl (by decide) (cok1 trivial) ?_
  refine dv (gyes_none rfl) (q_int rfl rfl rfl) rfl (by decide) (cok2 trivial (cconst rfl)) ?_
  refine dv (gyes_none rfl) (q_as (v := .bool ((((c : Nat) : Int) : Int) == 0)) rfl) rfl (by decide) (cok1 trivial) ?_
  refine ⟨_, Wk.refl _ _, ?_⟩
  show awp _ _ _ _ _ _ _
  refine awp_ret_wk ?_
  refine ⟨_, Wk.refl _ _, ?_⟩
  repeat (with_reducible first | refine then_ret ?_ | refine blk_ret ?_ | refine then_exit ?_ | refine blk_exit ?_ | refine blk_exit' (by decide) ?_ | refine blk_normal ?_ | refine then_normal ?_ | refine retq_ret ?_ | refine retq_normal ?_ | refine ng_normal ?_ | refine ng_ret ?_ | refine ng_exit ?_)
  exact ret_none (v := .bool ((((c : Nat) : Int) : Int) == 0)) rfl s3.kp (.tmp rfl .nil) rfl rfl ⟨rfl, rfl⟩
set_option maxRecDepth 100000 in
set_option maxHeartbeats 4000000 in
theorem number_ok {H0 : AHeap} (B : ByteArray) (a : Nat) (hB : B.size ≤ 140737488355328) (ha : a < 1000) : ACalls Try.prog 28 [.string B, .int .u64 ((a : Nat) : Int)] H0 (Rets (.int .u64 ((atV B a 4 : Nat) : Int)) H0) := by
  have hF : Wd Fence.wide := .inl rfl
  have hM : Try.prog.follows .mixedOrders = true := by kernel_rfl
  have s0 := St.begin H0
  refine acalls_st Try.func28 rfl Try.ntmps28 rfl ?_
  refine awp_seq ?_
  refine awp_regs hF ?_
  refine dv (gyes_none rfl) (q_as (v := .int .u64 0) rfl) rfl (by decide) (cok1 (cconst rfl)) ?_
  refine ⟨_, Wk.refl _ _, ?_⟩
  show awp _ _ _ _ _ _ _
  refine awp_seq ?_
  refine awp_regs hF ?_
  refine dv (gyes_none rfl) (q_mv (v := .string B) rfl) rfl (by decide) (cok1 trivial) ?_
  refine dv (gyes_none rfl) (q_mv (v := .int .u64 ((a : Nat) : Int)) rfl) rfl (by decide) (cok1 trivial) ?_
  refine dv (gyes_none rfl) (q_call0 Try.call43 rfl (at_ok B a 4 (by first | assumption | omega) (by omega) (by omega) (by omega))) rfl (by decide) (call_ok rfl) ?_
  refine dv (gyes_none rfl) (q_mv (v := .tuple #[.int .u64 ((atV B a 4 : Nat) : Int), .bool (decide (a + 4 ≤ B.size))]) rfl) rfl (by decide) (cok1 trivial) ?_
  refine dv (gyes_none rfl) (q_extract (v := .int .u64 ((atV B a 4 : Nat) : Int)) rfl rfl) rfl (by decide) (cok1 trivial) ?_
  refine dv (gyes_none rfl) (q_extract (v := .bool (decide (a + 4 ≤ B.size))) rfl rfl) rfl (by decide) (cok1 trivial) ?_
  refine dv (gyes_none rfl) (q_as (v := .int .u64 ((atV B a 4 : Nat) : Int)) rfl) rfl (by decide) (cok1 trivial) ?_
  refine dv (gyes_none rfl) (q_as (v := .bool (decide (a + 4 ≤ B.size))) rfl) rfl (by decide) (cok1 trivial) ?_
  refine ⟨_, Wk.refl _ _, ?_⟩
  show awp _ _ _ _ _ _ _
  refine awp_seq ?_
  refine awp_regs hF ?_
  refine dv (gyes_none rfl) (q_mv (v := .int .u64 ((atV B a 4 : Nat) : Int)) rfl) rfl (by decide) (cok1 trivial) ?_
  refine dv (gyes_none rfl) (q_as (v := .int .u64 ((atV B a 4 : Nat) : Int)) rfl) rfl (by decide) (cok1 trivial) ?_
  refine ⟨_, Wk.refl _ _, ?_⟩
  show awp _ _ _ _ _ _ _
  refine awp_ret_wk ?_
  refine ⟨_, Wk.refl _ _, ?_⟩
  repeat (with_reducible first | refine then_ret ?_ | refine blk_ret ?_ | refine then_exit ?_ | refine blk_exit ?_ | refine blk_exit' (by decide) ?_ | refine blk_normal ?_ | refine then_normal ?_ | refine retq_ret ?_ | refine retq_normal ?_ | refine ng_normal ?_ | refine ng_ret ?_ | refine ng_exit ?_)
  exact ret_none (v := .int .u64 ((atV B a 4 : Nat) : Int)) rfl s0.kp (.tmp rfl .nil) rfl rfl ⟨rfl, rfl⟩
set_option maxRecDepth 100000 in
set_option maxHeartbeats 4000000 in
theorem read_no {H0 : AHeap} (B : ByteArray) (hB : B.size ≤ 140737488355328) (hno : ¬ gA0 B ≤ B.size) : ACalls Try.prog 15 [.string B] H0 (fun v H' => (gC B ≠ 0 ∧ v = .tuple #[.agg #[.int .u32 0, .int .u32 0, .slice none 0 0, .slice none 0 0, .slice none 0 0], .agg #[.int .i64 ((gC B : Nat) : Int), .int .u64 ((gAt B : Nat) : Int), .string ⟨#[]⟩]] ∧ K0 H0 H') ∨ (gC B = 0 ∧ ∃ b1 b2 b3, v = .tuple #[.agg #[.int .u32 ((gF0 B : Nat) : Int), .int .u32 ((gSh B : Nat) : Int), .slice (some ⟨b1, 0, none⟩) (gM B) (gM B), .slice (some ⟨b2, 0, none⟩) (gN B) (gN B), .slice (some ⟨b3, 0, none⟩) (gK B) (gK B)], .agg #[.int .i64 0, .int .u64 0, .string ⟨#[]⟩]] ∧ NewL H0 H' [(b3, .cells true ((chL B (gA0 B) (gK B)).map u32v) 1), (b2, .cells true ((gBk B).map u32v) 1), (b1, .cells true ((gBl B).map u64v) 1)])) := by
  have hF : Wd Fence.wide := .inl rfl
  have hM : Try.prog.follows .mixedOrders = true := by kernel_rfl
  have hn4 : gN B < 4294967296 := atV_lt4 B 0
  have hf4 : gF0 B < 4294967296 := atV_lt4 B 4
  have hm4 : gM B < 4294967296 := atV_lt4 B 8
  have hs4 : gSh B < 4294967296 := atV_lt4 B 12
  have hbl := gBk_len (B := B)
  have hgA : gA0 B = 16 + gM B * 8 + gN B * 4 := rfl
  have s0 := St.begin H0
  refine acalls_st Try.func15 rfl Try.ntmps15 rfl ?_
  refine awp_seq ?_
  refine awp_regs hF ?_
  refine x_new (fun b => .pointer (some ⟨b, 0, none⟩)) s0 (gyes_none rfl) (q_alloc (vs := [.int .u32 0, .int .u32 0, .slice none 0 0, .slice none 0 0, .slice none 0 0]) 5 Try.zeroValue31 (by first | exact flat_scalar rfl | exact flat_agg rfl) rfl) rfl (by decide) (by simp [Op.operands, Call.operands]) (fun b1 H2 hb4 s3 => ?_)
  refine x_new (fun b => .pointer (some ⟨b, 0, none⟩)) s3 (gyes_none rfl) (q_alloc (vs := [.int .i64 0, .int .u64 0, .string ⟨#[]⟩]) 3 Try.zeroValue47 (by first | exact flat_scalar rfl | exact flat_agg rfl) rfl) rfl (by decide) (by simp [Op.operands, Call.operands]) (fun b5 H6 hb8 s7 => ?_)
  refine ⟨_, Wk.refl _ _, ?_⟩
  show awp _ _ _ _ _ _ _
  refine awp_seq ?_
  refine awp_regs hF ?_
  refine dv (gyes_none rfl) (q_mv (v := .string B) rfl) rfl (by decide) (cok1 trivial) ?_
  refine dv (gyes_none rfl) (q_call0 Try.call28 rfl (number_ok B 0 hB (by decide))) rfl (by decide) (call_ok rfl) ?_
  refine dv (gyes_none rfl) (q_mv (v := .string B) rfl) rfl (by decide) (cok1 trivial) ?_
  refine dv (gyes_none rfl) (q_call0 Try.call28 rfl (number_ok B 4 hB (by decide))) rfl (by decide) (call_ok rfl) ?_
  refine dv (gyes_none rfl) (q_mv (v := .string B) rfl) rfl (by decide) (cok1 trivial) ?_
  refine dv (gyes_none rfl) (q_call0 Try.call28 rfl (number_ok B 8 hB (by decide))) rfl (by decide) (call_ok rfl) ?_
  refine dv (gyes_none rfl) (q_mv (v := .string B) rfl) rfl (by decide) (cok1 trivial) ?_
  refine dv (gyes_none rfl) (q_call0 Try.call28 rfl (number_ok B 12 hB (by decide))) rfl (by decide) (call_ok rfl) ?_
  refine dv (gyes_none rfl) (q_as (v := .int .u64 ((gN B : Nat) : Int)) rfl) rfl (by decide) (cok1 trivial) ?_
  refine dv (gyes_none rfl) (q_as (v := .int .u64 ((gF0 B : Nat) : Int)) rfl) rfl (by decide) (cok1 trivial) ?_
  refine dv (gyes_none rfl) (q_as (v := .int .u64 ((gM B : Nat) : Int)) rfl) rfl (by decide) (cok1 trivial) ?_
  refine dv (gyes_none rfl) (q_as (v := .int .u64 ((gSh B : Nat) : Int)) rfl) rfl (by decide) (cok1 trivial) ?_
  refine ⟨_, Wk.refl _ _, ?_⟩
  show awp _ _ _ _ _ _ _
  refine awp_seq ?_
  refine awp_regs hF ?_
  refine dv (gyes_none rfl) (q_mv (v := .int .u64 ((gF0 B : Nat) : Int)) rfl) rfl (by decide) (cok1 trivial) ?_
  refine dv (gyes_none rfl) (q_convin (a := ((gF0 B : Nat) : Int)) Try.underlying45 Try.underlying27 rfl (u32_in (by omega))) rfl (by decide) (cok1 trivial) ?_
  refine dv (gyes_none rfl) (q_mv (v := .int .u64 ((gSh B : Nat) : Int)) rfl) rfl (by decide) (cok1 trivial) ?_
  refine dv (gyes_none rfl) (q_convin (a := ((gSh B : Nat) : Int)) Try.underlying45 Try.underlying27 rfl (u32_in (by omega))) rfl (by decide) (cok1 trivial) ?_
  refine dv (gyes_none rfl) (q_buildL (ds := [.int .u32 ((gF0 B : Nat) : Int), .int .u32 ((gSh B : Nat) : Int), .slice none 0 0, .slice none 0 0, .slice none 0 0]) [(0, 1), (1, 1), (2, 1), (3, 1), (4, 1)] [.int .u32 ((gF0 B : Nat) : Int), .int .u32 ((gSh B : Nat) : Int)] Try.underlying31 Try.zeroValue31 (by first | exact flat_agg rfl | exact flat_scalar rfl) (by kernel_rfl) ⟨rfl, rfl, trivial⟩ (lvsC (by exact trivial) (lvsC (by exact trivial) lvs0)) rfl) rfl (by decide) (cok2 trivial trivial) ?_
  refine x_new (fun b => .pointer (some ⟨b, 0, none⟩)) s7 (gyes_none rfl) (q_alloc (vs := [.int .u32 0, .int .u32 0, .slice none 0 0, .slice none 0 0, .slice none 0 0]) 5 Try.zeroValue31 (by first | exact flat_scalar rfl | exact flat_agg rfl) rfl) rfl (by decide) (by simp [Op.operands, Call.operands]) (fun b9 H10 hb12 s11 => ?_)
  refine x_store [] hF s11 (by kernel_rfl) (gyes_none rfl) (j := 0) (v := .agg #[.int .u32 ((gF0 B : Nat) : Int), .int .u32 ((gSh B : Nat) : Int), .slice none 0 0, .slice none 0 0, .slice none 0 0]) rfl Try.sizeOf31 rfl rfl rfl rfl rfl trivial (lcsA ⟨(lc_scalar rfl), (lc_scalar rfl), (lc_scalar rfl), (lc_scalar rfl), (lc_scalar rfl), trivial⟩) (Nat.le_of_ble_eq_true rfl) trivial trivial rfl rfl (F' := [(b9, .cells true [.int .u32 ((gF0 B : Nat) : Int), .int .u32 ((gSh B : Nat) : Int), .slice none 0 0, .slice none 0 0, .slice none 0 0] 5), (b5, .cells true [.int .i64 0, .int .u64 0, .string ⟨#[]⟩] 3), (b1, .cells true [.int .u32 0, .int .u32 0, .slice none 0 0, .slice none 0 0, .slice none 0 0] 5)]) rfl (fun H13 s14 => ⟨?_, ?_⟩)
  · exact trivial
  refine ⟨_, Wk.refl _ _, ?_⟩
  show awp _ _ _ _ _ _ _
  refine awp_seq ?_
  refine awp_block ?_
  refine awp_seq ?_
  refine awp_regs hF ?_
  refine dv (gyes_none rfl) (q_mv (v := .string B) rfl) rfl (by decide) (cok1 trivial) ?_
  refine dv (gyes_none rfl) (q_len_str Try.underlying9 rfl) rfl (by decide) (cok1 trivial) ?_
  refine dvb (gyes_none rfl) (q_int rfl rfl rfl) rfl (by decide) (cok2 trivial (cconst rfl)) (fun c1 => ?_) (fun c1 => ?_)
  ·
    replace c1 := of_decide_eq_true c1
    refine dv (gyes_none rfl) (q_as (v := .bool true) rfl) rfl (by decide) (cok1 trivial) ?_
    refine ⟨_, Wk.refl _ _, ?_⟩
    show awp _ _ _ _ _ _ _
    refine awp_cond_t rfl ?_
    refine awp_seq ?_
    refine awp_regs hF ?_
    refine dv (gyes_none rfl) (q_buildL (ds := [.int .u32 0, .int .u32 0, .slice none 0 0, .slice none 0 0, .slice none 0 0]) [(0, 1), (1, 1), (2, 1), (3, 1), (4, 1)] [] Try.underlying31 Try.zeroValue31 (by first | exact flat_agg rfl | exact flat_scalar rfl) (by kernel_rfl) trivial lvs0 rfl) rfl (by decide) (by simp [Op.operands, Call.operands]) ?_
    refine dv (gyes_none rfl) (q_call0 Try.call29 rfl (failOf_ok 2)) rfl (by decide) (cok2 trivial (cconst rfl)) ?_
    refine x_store [] hF s14 (by kernel_rfl) (gyes_none rfl) (j := 2) (v := .agg #[.int .u32 0, .int .u32 0, .slice none 0 0, .slice none 0 0, .slice none 0 0]) rfl Try.sizeOf31 rfl rfl rfl rfl rfl trivial (lcsA ⟨(lc_scalar rfl), (lc_scalar rfl), (lc_scalar rfl), (lc_scalar rfl), (lc_scalar rfl), trivial⟩) (Nat.le_of_ble_eq_true rfl) trivial trivial rfl rfl (F' := [(b9, .cells true [.int .u32 ((gF0 B : Nat) : Int), .int .u32 ((gSh B : Nat) : Int), .slice none 0 0, .slice none 0 0, .slice none 0 0] 5), (b5, .cells true [.int .i64 0, .int .u64 0, .string ⟨#[]⟩] 3), (b1, .cells true [.int .u32 0, .int .u32 0, .slice none 0 0, .slice none 0 0, .slice none 0 0] 5)]) rfl (fun H15 s16 => ⟨?_, ?_⟩)
    · exact trivial
    refine x_store [] hF s16 (by kernel_rfl) (gyes_none rfl) (j := 1) (v := .agg #[.int .i64 2, .int .u64 0, .string (⟨#[]⟩ : ByteArray)]) rfl Try.sizeOf47 rfl rfl rfl rfl rfl trivial (lcsA ⟨(lc_scalar rfl), (lc_scalar rfl), (lc_scalar rfl), trivial⟩) (Nat.le_of_ble_eq_true rfl) trivial trivial rfl rfl (F' := [(b9, .cells true [.int .u32 ((gF0 B : Nat) : Int), .int .u32 ((gSh B : Nat) : Int), .slice none 0 0, .slice none 0 0, .slice none 0 0] 5), (b5, .cells true [.int .i64 2, .int .u64 0, .string (⟨#[]⟩ : ByteArray)] 3), (b1, .cells true [.int .u32 0, .int .u32 0, .slice none 0 0, .slice none 0 0, .slice none 0 0] 5)]) rfl (fun H17 s18 => ⟨?_, ?_⟩)
    · exact trivial
    refine ⟨_, Wk.refl _ _, ?_⟩
    show awp _ _ _ _ _ _ _
    refine awp_ret_wk ?_
    obtain ⟨e1, e2⟩ := gc_short (B := B) (by omega)
    refine ⟨_, Wk.refl _ _, ?_⟩
    repeat (with_reducible first | refine then_ret ?_ | refine blk_ret ?_ | refine then_exit ?_ | refine blk_exit ?_ | refine blk_exit' (by decide) ?_ | refine blk_normal ?_ | refine then_normal ?_ | refine retq_ret ?_ | refine retq_normal ?_ | refine ng_normal ?_ | refine ng_ret ?_ | refine ng_exit ?_)
    refine ret_is (v := .tuple #[.agg #[.int .u32 0, .int .u32 0, .slice none 0 0, .slice none 0 0, .slice none 0 0], .agg #[.int .i64 2, .int .u64 0, .string (⟨#[]⟩ : ByteArray)]]) rfl (.agg rfl Try.isAgg31 Try.sizeOf31 (s18.rd (j := 2) rfl) (Nat.le_of_ble_eq_true rfl) rfl (.agg rfl Try.isAgg47 Try.sizeOf47 (s18.rd (j := 1) rfl) (Nat.le_of_ble_eq_true rfl) rfl .nil)) rfl ?_
    exact .inl ⟨by rw [e1]; decide, by rw [e1, e2]; first | done | rfl, s18.kp⟩
  ·
    replace c1 := of_decide_eq_false c1
    refine dv (gyes_none rfl) (q_as (v := .bool false) rfl) rfl (by decide) (cok1 trivial) ?_
    refine ⟨_, Wk.refl _ _, ?_⟩
    show awp _ _ _ _ _ _ _
    refine awp_cond_f rfl ?_
    refine awp_seq ?_
    refine awp_regs hF ?_
    refine dv (gyes_none rfl) (q_mv (v := .int .u64 ((gN B : Nat) : Int)) rfl) rfl (by decide) (cok1 trivial) ?_
    refine dvb (gyes_none rfl) (q_int rfl rfl rfl) rfl (by decide) (cok2 trivial (cconst rfl)) (fun c2 => ?_) (fun c2 => ?_)
    ·
      replace c2 := eq_of_beq c2
      refine dv (gyes_none rfl) (q_mv (v := .bool true) rfl) rfl (by decide) (cok1 trivial) ?_
      refine dno rfl (.inl rfl) rfl (by decide) ?_
      refine dno rfl (.inl rfl) rfl (by decide) ?_
      refine dv (gyes_none rfl) (q_pt (v := .bool true) rfl rfl) rfl (by decide) (call_ok rfl) ?_
      refine dv (gyes_none rfl) (q_as (v := .bool true) rfl) rfl (by decide) (cok1 trivial) ?_
      refine ⟨_, Wk.refl _ _, ?_⟩
      show awp _ _ _ _ _ _ _
      refine awp_cond_t rfl ?_
      refine awp_seq ?_
      refine awp_regs hF ?_
      refine dv (gyes_none rfl) (q_buildL (ds := [.int .u32 0, .int .u32 0, .slice none 0 0, .slice none 0 0, .slice none 0 0]) [(0, 1), (1, 1), (2, 1), (3, 1), (4, 1)] [] Try.underlying31 Try.zeroValue31 (by first | exact flat_agg rfl | exact flat_scalar rfl) (by kernel_rfl) trivial lvs0 rfl) rfl (by decide) (by simp [Op.operands, Call.operands]) ?_
      refine dv (gyes_none rfl) (q_call0 Try.call29 rfl (failOf_ok 4)) rfl (by decide) (cok2 trivial (cconst rfl)) ?_
      refine x_store [] hF s14 (by kernel_rfl) (gyes_none rfl) (j := 2) (v := .agg #[.int .u32 0, .int .u32 0, .slice none 0 0, .slice none 0 0, .slice none 0 0]) rfl Try.sizeOf31 rfl rfl rfl rfl rfl trivial (lcsA ⟨(lc_scalar rfl), (lc_scalar rfl), (lc_scalar rfl), (lc_scalar rfl), (lc_scalar rfl), trivial⟩) (Nat.le_of_ble_eq_true rfl) trivial trivial rfl rfl (F' := [(b9, .cells true [.int .u32 ((gF0 B : Nat) : Int), .int .u32 ((gSh B : Nat) : Int), .slice none 0 0, .slice none 0 0, .slice none 0 0] 5), (b5, .cells true [.int .i64 0, .int .u64 0, .string ⟨#[]⟩] 3), (b1, .cells true [.int .u32 0, .int .u32 0, .slice none 0 0, .slice none 0 0, .slice none 0 0] 5)]) rfl (fun H19 s20 => ⟨?_, ?_⟩)
      · exact trivial
      refine x_store [] hF s20 (by kernel_rfl) (gyes_none rfl) (j := 1) (v := .agg #[.int .i64 4, .int .u64 0, .string (⟨#[]⟩ : ByteArray)]) rfl Try.sizeOf47 rfl rfl rfl rfl rfl trivial (lcsA ⟨(lc_scalar rfl), (lc_scalar rfl), (lc_scalar rfl), trivial⟩) (Nat.le_of_ble_eq_true rfl) trivial trivial rfl rfl (F' := [(b9, .cells true [.int .u32 ((gF0 B : Nat) : Int), .int .u32 ((gSh B : Nat) : Int), .slice none 0 0, .slice none 0 0, .slice none 0 0] 5), (b5, .cells true [.int .i64 4, .int .u64 0, .string (⟨#[]⟩ : ByteArray)] 3), (b1, .cells true [.int .u32 0, .int .u32 0, .slice none 0 0, .slice none 0 0, .slice none 0 0] 5)]) rfl (fun H21 s22 => ⟨?_, ?_⟩)
      · exact trivial
      refine ⟨_, Wk.refl _ _, ?_⟩
      show awp _ _ _ _ _ _ _
      refine awp_ret_wk ?_
      obtain ⟨e1, e2⟩ := gc_zero (B := B) (by omega) (by omega)
      refine ⟨_, Wk.refl _ _, ?_⟩
      repeat (with_reducible first | refine then_ret ?_ | refine blk_ret ?_ | refine then_exit ?_ | refine blk_exit ?_ | refine blk_exit' (by decide) ?_ | refine blk_normal ?_ | refine then_normal ?_ | refine retq_ret ?_ | refine retq_normal ?_ | refine ng_normal ?_ | refine ng_ret ?_ | refine ng_exit ?_)
      refine ret_is (v := .tuple #[.agg #[.int .u32 0, .int .u32 0, .slice none 0 0, .slice none 0 0, .slice none 0 0], .agg #[.int .i64 4, .int .u64 0, .string (⟨#[]⟩ : ByteArray)]]) rfl (.agg rfl Try.isAgg31 Try.sizeOf31 (s22.rd (j := 2) rfl) (Nat.le_of_ble_eq_true rfl) rfl (.agg rfl Try.isAgg47 Try.sizeOf47 (s22.rd (j := 1) rfl) (Nat.le_of_ble_eq_true rfl) rfl .nil)) rfl ?_
      exact .inl ⟨by rw [e1]; decide, by rw [e1, e2]; first | done | rfl, s22.kp⟩
    ·
      replace c2 := ne_of_beq_false c2
      refine dv (gyes_none rfl) (q_mv (v := .bool false) rfl) rfl (by decide) (cok1 trivial) ?_
      refine dv (gyes_some rfl rfl) (q_mv (v := .int .u64 ((gM B : Nat) : Int)) rfl) rfl (by decide) (cok1 trivial) ?_
      refine dvb (gyes_some rfl rfl) (q_int rfl rfl rfl) rfl (by decide) (cok2 trivial (cconst rfl)) (fun c3 => ?_) (fun c3 => ?_)
      ·
        replace c3 := eq_of_beq c3
        refine dv (gyes_none rfl) (q_pf (v := .bool true) rfl rfl) rfl (by decide) (call_ok rfl) ?_
        refine dv (gyes_none rfl) (q_as (v := .bool true) rfl) rfl (by decide) (cok1 trivial) ?_
        refine ⟨_, Wk.refl _ _, ?_⟩
        show awp _ _ _ _ _ _ _
        refine awp_cond_t rfl ?_
        refine awp_seq ?_
        refine awp_regs hF ?_
        refine dv (gyes_none rfl) (q_buildL (ds := [.int .u32 0, .int .u32 0, .slice none 0 0, .slice none 0 0, .slice none 0 0]) [(0, 1), (1, 1), (2, 1), (3, 1), (4, 1)] [] Try.underlying31 Try.zeroValue31 (by first | exact flat_agg rfl | exact flat_scalar rfl) (by kernel_rfl) trivial lvs0 rfl) rfl (by decide) (by simp [Op.operands, Call.operands]) ?_
        refine dv (gyes_none rfl) (q_call0 Try.call29 rfl (failOf_ok 4)) rfl (by decide) (cok2 trivial (cconst rfl)) ?_
        refine x_store [] hF s14 (by kernel_rfl) (gyes_none rfl) (j := 2) (v := .agg #[.int .u32 0, .int .u32 0, .slice none 0 0, .slice none 0 0, .slice none 0 0]) rfl Try.sizeOf31 rfl rfl rfl rfl rfl trivial (lcsA ⟨(lc_scalar rfl), (lc_scalar rfl), (lc_scalar rfl), (lc_scalar rfl), (lc_scalar rfl), trivial⟩) (Nat.le_of_ble_eq_true rfl) trivial trivial rfl rfl (F' := [(b9, .cells true [.int .u32 ((gF0 B : Nat) : Int), .int .u32 ((gSh B : Nat) : Int), .slice none 0 0, .slice none 0 0, .slice none 0 0] 5), (b5, .cells true [.int .i64 0, .int .u64 0, .string ⟨#[]⟩] 3), (b1, .cells true [.int .u32 0, .int .u32 0, .slice none 0 0, .slice none 0 0, .slice none 0 0] 5)]) rfl (fun H23 s24 => ⟨?_, ?_⟩)
        · exact trivial
        refine x_store [] hF s24 (by kernel_rfl) (gyes_none rfl) (j := 1) (v := .agg #[.int .i64 4, .int .u64 0, .string (⟨#[]⟩ : ByteArray)]) rfl Try.sizeOf47 rfl rfl rfl rfl rfl trivial (lcsA ⟨(lc_scalar rfl), (lc_scalar rfl), (lc_scalar rfl), trivial⟩) (Nat.le_of_ble_eq_true rfl) trivial trivial rfl rfl (F' := [(b9, .cells true [.int .u32 ((gF0 B : Nat) : Int), .int .u32 ((gSh B : Nat) : Int), .slice none 0 0, .slice none 0 0, .slice none 0 0] 5), (b5, .cells true [.int .i64 4, .int .u64 0, .string (⟨#[]⟩ : ByteArray)] 3), (b1, .cells true [.int .u32 0, .int .u32 0, .slice none 0 0, .slice none 0 0, .slice none 0 0] 5)]) rfl (fun H25 s26 => ⟨?_, ?_⟩)
        · exact trivial
        refine ⟨_, Wk.refl _ _, ?_⟩
        show awp _ _ _ _ _ _ _
        refine awp_ret_wk ?_
        obtain ⟨e1, e2⟩ := gc_zero (B := B) (by omega) (by omega)
        refine ⟨_, Wk.refl _ _, ?_⟩
        repeat (with_reducible first | refine then_ret ?_ | refine blk_ret ?_ | refine then_exit ?_ | refine blk_exit ?_ | refine blk_exit' (by decide) ?_ | refine blk_normal ?_ | refine then_normal ?_ | refine retq_ret ?_ | refine retq_normal ?_ | refine ng_normal ?_ | refine ng_ret ?_ | refine ng_exit ?_)
        refine ret_is (v := .tuple #[.agg #[.int .u32 0, .int .u32 0, .slice none 0 0, .slice none 0 0, .slice none 0 0], .agg #[.int .i64 4, .int .u64 0, .string (⟨#[]⟩ : ByteArray)]]) rfl (.agg rfl Try.isAgg31 Try.sizeOf31 (s26.rd (j := 2) rfl) (Nat.le_of_ble_eq_true rfl) rfl (.agg rfl Try.isAgg47 Try.sizeOf47 (s26.rd (j := 1) rfl) (Nat.le_of_ble_eq_true rfl) rfl .nil)) rfl ?_
        exact .inl ⟨by rw [e1]; decide, by rw [e1, e2]; first | done | rfl, s26.kp⟩
      ·
        replace c3 := ne_of_beq_false c3
        refine dv (gyes_none rfl) (q_pf (v := .bool false) rfl rfl) rfl (by decide) (call_ok rfl) ?_
        refine dv (gyes_none rfl) (q_as (v := .bool false) rfl) rfl (by decide) (cok1 trivial) ?_
        refine ⟨_, Wk.refl _ _, ?_⟩
        show awp _ _ _ _ _ _ _
        refine awp_cond_f rfl ?_
        refine awp_seq ?_
        refine awp_regs hF ?_
        refine dv (gyes_none rfl) (q_mv (v := .int .u64 ((gN B : Nat) : Int)) rfl) rfl (by decide) (cok1 trivial) ?_
        refine dvb (gyes_none rfl) (q_int rfl rfl rfl) rfl (by decide) (cok2 trivial (cconst rfl)) (fun c4 => ?_) (fun c4 => ?_)
        ·
          replace c4 := of_decide_eq_true c4
          refine dv (gyes_none rfl) (q_mv (v := .bool true) rfl) rfl (by decide) (cok1 trivial) ?_
          refine dno rfl (.inl rfl) rfl (by decide) ?_
          refine dno rfl (.inl rfl) rfl (by decide) ?_
          refine dv (gyes_none rfl) (q_pt (v := .bool true) rfl rfl) rfl (by decide) (call_ok rfl) ?_
          refine dv (gyes_none rfl) (q_mv (v := .bool true) rfl) rfl (by decide) (cok1 trivial) ?_
          refine dno rfl (.inl rfl) rfl (by decide) ?_
          refine dno rfl (.inl rfl) rfl (by decide) ?_
          refine dv (gyes_none rfl) (q_pt (v := .bool true) rfl rfl) rfl (by decide) (call_ok rfl) ?_
          refine dv (gyes_none rfl) (q_as (v := .bool true) rfl) rfl (by decide) (cok1 trivial) ?_
          refine ⟨_, Wk.refl _ _, ?_⟩
          show awp _ _ _ _ _ _ _
          refine awp_cond_t rfl ?_
          refine awp_seq ?_
          refine awp_regs hF ?_
          refine dv (gyes_none rfl) (q_buildL (ds := [.int .u32 0, .int .u32 0, .slice none 0 0, .slice none 0 0, .slice none 0 0]) [(0, 1), (1, 1), (2, 1), (3, 1), (4, 1)] [] Try.underlying31 Try.zeroValue31 (by first | exact flat_agg rfl | exact flat_scalar rfl) (by kernel_rfl) trivial lvs0 rfl) rfl (by decide) (by simp [Op.operands, Call.operands]) ?_
          refine dv (gyes_none rfl) (q_call0 Try.call29 rfl (failOf_ok 6)) rfl (by decide) (cok2 trivial (cconst rfl)) ?_
          refine x_store [] hF s14 (by kernel_rfl) (gyes_none rfl) (j := 2) (v := .agg #[.int .u32 0, .int .u32 0, .slice none 0 0, .slice none 0 0, .slice none 0 0]) rfl Try.sizeOf31 rfl rfl rfl rfl rfl trivial (lcsA ⟨(lc_scalar rfl), (lc_scalar rfl), (lc_scalar rfl), (lc_scalar rfl), (lc_scalar rfl), trivial⟩) (Nat.le_of_ble_eq_true rfl) trivial trivial rfl rfl (F' := [(b9, .cells true [.int .u32 ((gF0 B : Nat) : Int), .int .u32 ((gSh B : Nat) : Int), .slice none 0 0, .slice none 0 0, .slice none 0 0] 5), (b5, .cells true [.int .i64 0, .int .u64 0, .string ⟨#[]⟩] 3), (b1, .cells true [.int .u32 0, .int .u32 0, .slice none 0 0, .slice none 0 0, .slice none 0 0] 5)]) rfl (fun H27 s28 => ⟨?_, ?_⟩)
          · exact trivial
          refine x_store [] hF s28 (by kernel_rfl) (gyes_none rfl) (j := 1) (v := .agg #[.int .i64 6, .int .u64 0, .string (⟨#[]⟩ : ByteArray)]) rfl Try.sizeOf47 rfl rfl rfl rfl rfl trivial (lcsA ⟨(lc_scalar rfl), (lc_scalar rfl), (lc_scalar rfl), trivial⟩) (Nat.le_of_ble_eq_true rfl) trivial trivial rfl rfl (F' := [(b9, .cells true [.int .u32 ((gF0 B : Nat) : Int), .int .u32 ((gSh B : Nat) : Int), .slice none 0 0, .slice none 0 0, .slice none 0 0] 5), (b5, .cells true [.int .i64 6, .int .u64 0, .string (⟨#[]⟩ : ByteArray)] 3), (b1, .cells true [.int .u32 0, .int .u32 0, .slice none 0 0, .slice none 0 0, .slice none 0 0] 5)]) rfl (fun H29 s30 => ⟨?_, ?_⟩)
          · exact trivial
          refine ⟨_, Wk.refl _ _, ?_⟩
          show awp _ _ _ _ _ _ _
          refine awp_ret_wk ?_
          obtain ⟨e1, e2⟩ := gc_many (B := B) (by omega) (by omega) (by omega)
          refine ⟨_, Wk.refl _ _, ?_⟩
          repeat (with_reducible first | refine then_ret ?_ | refine blk_ret ?_ | refine then_exit ?_ | refine blk_exit ?_ | refine blk_exit' (by decide) ?_ | refine blk_normal ?_ | refine then_normal ?_ | refine retq_ret ?_ | refine retq_normal ?_ | refine ng_normal ?_ | refine ng_ret ?_ | refine ng_exit ?_)
          refine ret_is (v := .tuple #[.agg #[.int .u32 0, .int .u32 0, .slice none 0 0, .slice none 0 0, .slice none 0 0], .agg #[.int .i64 6, .int .u64 0, .string (⟨#[]⟩ : ByteArray)]]) rfl (.agg rfl Try.isAgg31 Try.sizeOf31 (s30.rd (j := 2) rfl) (Nat.le_of_ble_eq_true rfl) rfl (.agg rfl Try.isAgg47 Try.sizeOf47 (s30.rd (j := 1) rfl) (Nat.le_of_ble_eq_true rfl) rfl .nil)) rfl ?_
          exact .inl ⟨by rw [e1]; decide, by rw [e1, e2]; first | done | rfl, s30.kp⟩
        ·
          replace c4 := of_decide_eq_false c4
          refine dv (gyes_none rfl) (q_mv (v := .bool false) rfl) rfl (by decide) (cok1 trivial) ?_
          refine dv (gyes_some rfl rfl) (q_mv (v := .int .u64 ((gM B : Nat) : Int)) rfl) rfl (by decide) (cok1 trivial) ?_
          refine dvb (gyes_some rfl rfl) (q_int rfl rfl rfl) rfl (by decide) (cok2 trivial (cconst rfl)) (fun c5 => ?_) (fun c5 => ?_)
          ·
            replace c5 := of_decide_eq_true c5
            refine dv (gyes_none rfl) (q_pf (v := .bool true) rfl rfl) rfl (by decide) (call_ok rfl) ?_
            refine dv (gyes_none rfl) (q_mv (v := .bool true) rfl) rfl (by decide) (cok1 trivial) ?_
            refine dno rfl (.inl rfl) rfl (by decide) ?_
            refine dno rfl (.inl rfl) rfl (by decide) ?_
            refine dv (gyes_none rfl) (q_pt (v := .bool true) rfl rfl) rfl (by decide) (call_ok rfl) ?_
            refine dv (gyes_none rfl) (q_as (v := .bool true) rfl) rfl (by decide) (cok1 trivial) ?_
            refine ⟨_, Wk.refl _ _, ?_⟩
            show awp _ _ _ _ _ _ _
            refine awp_cond_t rfl ?_
            refine awp_seq ?_
            refine awp_regs hF ?_
            refine dv (gyes_none rfl) (q_buildL (ds := [.int .u32 0, .int .u32 0, .slice none 0 0, .slice none 0 0, .slice none 0 0]) [(0, 1), (1, 1), (2, 1), (3, 1), (4, 1)] [] Try.underlying31 Try.zeroValue31 (by first | exact flat_agg rfl | exact flat_scalar rfl) (by kernel_rfl) trivial lvs0 rfl) rfl (by decide) (by simp [Op.operands, Call.operands]) ?_
            refine dv (gyes_none rfl) (q_call0 Try.call29 rfl (failOf_ok 6)) rfl (by decide) (cok2 trivial (cconst rfl)) ?_
            refine x_store [] hF s14 (by kernel_rfl) (gyes_none rfl) (j := 2) (v := .agg #[.int .u32 0, .int .u32 0, .slice none 0 0, .slice none 0 0, .slice none 0 0]) rfl Try.sizeOf31 rfl rfl rfl rfl rfl trivial (lcsA ⟨(lc_scalar rfl), (lc_scalar rfl), (lc_scalar rfl), (lc_scalar rfl), (lc_scalar rfl), trivial⟩) (Nat.le_of_ble_eq_true rfl) trivial trivial rfl rfl (F' := [(b9, .cells true [.int .u32 ((gF0 B : Nat) : Int), .int .u32 ((gSh B : Nat) : Int), .slice none 0 0, .slice none 0 0, .slice none 0 0] 5), (b5, .cells true [.int .i64 0, .int .u64 0, .string ⟨#[]⟩] 3), (b1, .cells true [.int .u32 0, .int .u32 0, .slice none 0 0, .slice none 0 0, .slice none 0 0] 5)]) rfl (fun H31 s32 => ⟨?_, ?_⟩)
            · exact trivial
            refine x_store [] hF s32 (by kernel_rfl) (gyes_none rfl) (j := 1) (v := .agg #[.int .i64 6, .int .u64 0, .string (⟨#[]⟩ : ByteArray)]) rfl Try.sizeOf47 rfl rfl rfl rfl rfl trivial (lcsA ⟨(lc_scalar rfl), (lc_scalar rfl), (lc_scalar rfl), trivial⟩) (Nat.le_of_ble_eq_true rfl) trivial trivial rfl rfl (F' := [(b9, .cells true [.int .u32 ((gF0 B : Nat) : Int), .int .u32 ((gSh B : Nat) : Int), .slice none 0 0, .slice none 0 0, .slice none 0 0] 5), (b5, .cells true [.int .i64 6, .int .u64 0, .string (⟨#[]⟩ : ByteArray)] 3), (b1, .cells true [.int .u32 0, .int .u32 0, .slice none 0 0, .slice none 0 0, .slice none 0 0] 5)]) rfl (fun H33 s34 => ⟨?_, ?_⟩)
            · exact trivial
            refine ⟨_, Wk.refl _ _, ?_⟩
            show awp _ _ _ _ _ _ _
            refine awp_ret_wk ?_
            obtain ⟨e1, e2⟩ := gc_many (B := B) (by omega) (by omega) (by omega)
            refine ⟨_, Wk.refl _ _, ?_⟩
            repeat (with_reducible first | refine then_ret ?_ | refine blk_ret ?_ | refine then_exit ?_ | refine blk_exit ?_ | refine blk_exit' (by decide) ?_ | refine blk_normal ?_ | refine then_normal ?_ | refine retq_ret ?_ | refine retq_normal ?_ | refine ng_normal ?_ | refine ng_ret ?_ | refine ng_exit ?_)
            refine ret_is (v := .tuple #[.agg #[.int .u32 0, .int .u32 0, .slice none 0 0, .slice none 0 0, .slice none 0 0], .agg #[.int .i64 6, .int .u64 0, .string (⟨#[]⟩ : ByteArray)]]) rfl (.agg rfl Try.isAgg31 Try.sizeOf31 (s34.rd (j := 2) rfl) (Nat.le_of_ble_eq_true rfl) rfl (.agg rfl Try.isAgg47 Try.sizeOf47 (s34.rd (j := 1) rfl) (Nat.le_of_ble_eq_true rfl) rfl .nil)) rfl ?_
            exact .inl ⟨by rw [e1]; decide, by rw [e1, e2]; first | done | rfl, s34.kp⟩
          ·
            replace c5 := of_decide_eq_false c5
            refine dv (gyes_none rfl) (q_pf (v := .bool false) rfl rfl) rfl (by decide) (call_ok rfl) ?_
            refine dv (gyes_none rfl) (q_mv (v := .bool false) rfl) rfl (by decide) (cok1 trivial) ?_
            refine dv (gyes_some rfl rfl) (q_mv (v := .int .u64 ((gF0 B : Nat) : Int)) rfl) rfl (by decide) (cok1 trivial) ?_
            refine dvb (gyes_some rfl rfl) (q_int rfl rfl rfl) rfl (by decide) (cok2 trivial (cconst rfl)) (fun c6 => ?_) (fun c6 => ?_)
            ·
              replace c6 := of_decide_eq_true c6
              refine dv (gyes_none rfl) (q_pf (v := .bool true) rfl rfl) rfl (by decide) (call_ok rfl) ?_
              refine dv (gyes_none rfl) (q_as (v := .bool true) rfl) rfl (by decide) (cok1 trivial) ?_
              refine ⟨_, Wk.refl _ _, ?_⟩
              show awp _ _ _ _ _ _ _
              refine awp_cond_t rfl ?_
              refine awp_seq ?_
              refine awp_regs hF ?_
              refine dv (gyes_none rfl) (q_buildL (ds := [.int .u32 0, .int .u32 0, .slice none 0 0, .slice none 0 0, .slice none 0 0]) [(0, 1), (1, 1), (2, 1), (3, 1), (4, 1)] [] Try.underlying31 Try.zeroValue31 (by first | exact flat_agg rfl | exact flat_scalar rfl) (by kernel_rfl) trivial lvs0 rfl) rfl (by decide) (by simp [Op.operands, Call.operands]) ?_
              refine dv (gyes_none rfl) (q_call0 Try.call29 rfl (failOf_ok 6)) rfl (by decide) (cok2 trivial (cconst rfl)) ?_
              refine x_store [] hF s14 (by kernel_rfl) (gyes_none rfl) (j := 2) (v := .agg #[.int .u32 0, .int .u32 0, .slice none 0 0, .slice none 0 0, .slice none 0 0]) rfl Try.sizeOf31 rfl rfl rfl rfl rfl trivial (lcsA ⟨(lc_scalar rfl), (lc_scalar rfl), (lc_scalar rfl), (lc_scalar rfl), (lc_scalar rfl), trivial⟩) (Nat.le_of_ble_eq_true rfl) trivial trivial rfl rfl (F' := [(b9, .cells true [.int .u32 ((gF0 B : Nat) : Int), .int .u32 ((gSh B : Nat) : Int), .slice none 0 0, .slice none 0 0, .slice none 0 0] 5), (b5, .cells true [.int .i64 0, .int .u64 0, .string ⟨#[]⟩] 3), (b1, .cells true [.int .u32 0, .int .u32 0, .slice none 0 0, .slice none 0 0, .slice none 0 0] 5)]) rfl (fun H35 s36 => ⟨?_, ?_⟩)
              · exact trivial
              refine x_store [] hF s36 (by kernel_rfl) (gyes_none rfl) (j := 1) (v := .agg #[.int .i64 6, .int .u64 0, .string (⟨#[]⟩ : ByteArray)]) rfl Try.sizeOf47 rfl rfl rfl rfl rfl trivial (lcsA ⟨(lc_scalar rfl), (lc_scalar rfl), (lc_scalar rfl), trivial⟩) (Nat.le_of_ble_eq_true rfl) trivial trivial rfl rfl (F' := [(b9, .cells true [.int .u32 ((gF0 B : Nat) : Int), .int .u32 ((gSh B : Nat) : Int), .slice none 0 0, .slice none 0 0, .slice none 0 0] 5), (b5, .cells true [.int .i64 6, .int .u64 0, .string (⟨#[]⟩ : ByteArray)] 3), (b1, .cells true [.int .u32 0, .int .u32 0, .slice none 0 0, .slice none 0 0, .slice none 0 0] 5)]) rfl (fun H37 s38 => ⟨?_, ?_⟩)
              · exact trivial
              refine ⟨_, Wk.refl _ _, ?_⟩
              show awp _ _ _ _ _ _ _
              refine awp_ret_wk ?_
              obtain ⟨e1, e2⟩ := gc_many (B := B) (by omega) (by omega) (by omega)
              refine ⟨_, Wk.refl _ _, ?_⟩
              repeat (with_reducible first | refine then_ret ?_ | refine blk_ret ?_ | refine then_exit ?_ | refine blk_exit ?_ | refine blk_exit' (by decide) ?_ | refine blk_normal ?_ | refine then_normal ?_ | refine retq_ret ?_ | refine retq_normal ?_ | refine ng_normal ?_ | refine ng_ret ?_ | refine ng_exit ?_)
              refine ret_is (v := .tuple #[.agg #[.int .u32 0, .int .u32 0, .slice none 0 0, .slice none 0 0, .slice none 0 0], .agg #[.int .i64 6, .int .u64 0, .string (⟨#[]⟩ : ByteArray)]]) rfl (.agg rfl Try.isAgg31 Try.sizeOf31 (s38.rd (j := 2) rfl) (Nat.le_of_ble_eq_true rfl) rfl (.agg rfl Try.isAgg47 Try.sizeOf47 (s38.rd (j := 1) rfl) (Nat.le_of_ble_eq_true rfl) rfl .nil)) rfl ?_
              exact .inl ⟨by rw [e1]; decide, by rw [e1, e2]; first | done | rfl, s38.kp⟩
            ·
              replace c6 := of_decide_eq_false c6
              refine dv (gyes_none rfl) (q_pf (v := .bool false) rfl rfl) rfl (by decide) (call_ok rfl) ?_
              refine dv (gyes_none rfl) (q_as (v := .bool false) rfl) rfl (by decide) (cok1 trivial) ?_
              refine ⟨_, Wk.refl _ _, ?_⟩
              show awp _ _ _ _ _ _ _
              refine awp_cond_f rfl ?_
              refine awp_skip_wk ?_
              refine ⟨_, Wk.refl _ _, ?_⟩
              show awp _ _ _ _ _ _ _
              refine awp_seq ?_
              refine awp_regs hF ?_
              refine dv (gyes_none rfl) (q_mv (v := .string B) rfl) rfl (by decide) (cok1 trivial) ?_
              refine dv (gyes_none rfl) (q_mv (v := .int .u64 ((gN B : Nat) : Int)) rfl) rfl (by decide) (cok1 trivial) ?_
              refine dv (gyes_none rfl) (q_mv (v := .int .u64 ((gM B : Nat) : Int)) rfl) rfl (by decide) (cok1 trivial) ?_
              refine dv (gyes_none rfl) (q_call0 Try.call30 rfl (body_no b9 (gF0 B) (gSh B) B hB (gN B) (gM B) ⟨by omega, by omega⟩ ⟨by omega, by omega⟩ hno (s14.rd (j := 0) rfl))) rfl (by decide) (call_ok rfl) ?_
              refine dv (gyes_none rfl) (q_mv (v := .tuple #[.int .u64 0, .bool false]) rfl) rfl (by decide) (cok1 trivial) ?_
              refine dv (gyes_none rfl) (q_extract (v := .int .u64 0) rfl rfl) rfl (by decide) (cok1 trivial) ?_
              refine dv (gyes_none rfl) (q_extract (v := .bool false) rfl rfl) rfl (by decide) (cok1 trivial) ?_
              refine dv (gyes_none rfl) (q_as (v := .int .u64 0) rfl) rfl (by decide) (cok1 trivial) ?_
              refine dv (gyes_none rfl) (q_as (v := .bool false) rfl) rfl (by decide) (cok1 trivial) ?_
              refine ⟨_, Wk.refl _ _, ?_⟩
              show awp _ _ _ _ _ _ _
              refine awp_seq ?_
              refine awp_seq ?_
              refine awp_regs hF ?_
              refine dv (gyes_none rfl) (q_mv (v := .bool false) rfl) rfl (by decide) (cok1 trivial) ?_
              refine dv (gyes_none rfl) (q_not (b := false) rfl) rfl (by decide) (cok1 trivial) ?_
              refine ⟨_, Wk.refl _ _, ?_⟩
              show awp _ _ _ _ _ _ _
              refine awp_cond_t rfl ?_
              refine awp_seq ?_
              refine awp_regs hF ?_
              refine dv (gyes_none rfl) (q_buildL (ds := [.int .u32 0, .int .u32 0, .slice none 0 0, .slice none 0 0, .slice none 0 0]) [(0, 1), (1, 1), (2, 1), (3, 1), (4, 1)] [] Try.underlying31 Try.zeroValue31 (by first | exact flat_agg rfl | exact flat_scalar rfl) (by kernel_rfl) trivial lvs0 rfl) rfl (by decide) (by simp [Op.operands, Call.operands]) ?_
              refine dv (gyes_none rfl) (q_call0 Try.call29 rfl (failOf_ok 2)) rfl (by decide) (cok2 trivial (cconst rfl)) ?_
              refine x_store [] hF s14 (by kernel_rfl) (gyes_none rfl) (j := 2) (v := .agg #[.int .u32 0, .int .u32 0, .slice none 0 0, .slice none 0 0, .slice none 0 0]) rfl Try.sizeOf31 rfl rfl rfl rfl rfl trivial (lcsA ⟨(lc_scalar rfl), (lc_scalar rfl), (lc_scalar rfl), (lc_scalar rfl), (lc_scalar rfl), trivial⟩) (Nat.le_of_ble_eq_true rfl) trivial trivial rfl rfl (F' := [(b9, .cells true [.int .u32 ((gF0 B : Nat) : Int), .int .u32 ((gSh B : Nat) : Int), .slice none 0 0, .slice none 0 0, .slice none 0 0] 5), (b5, .cells true [.int .i64 0, .int .u64 0, .string ⟨#[]⟩] 3), (b1, .cells true [.int .u32 0, .int .u32 0, .slice none 0 0, .slice none 0 0, .slice none 0 0] 5)]) rfl (fun H39 s40 => ⟨?_, ?_⟩)
              · exact trivial
              refine x_store [] hF s40 (by kernel_rfl) (gyes_none rfl) (j := 1) (v := .agg #[.int .i64 2, .int .u64 0, .string (⟨#[]⟩ : ByteArray)]) rfl Try.sizeOf47 rfl rfl rfl rfl rfl trivial (lcsA ⟨(lc_scalar rfl), (lc_scalar rfl), (lc_scalar rfl), trivial⟩) (Nat.le_of_ble_eq_true rfl) trivial trivial rfl rfl (F' := [(b9, .cells true [.int .u32 ((gF0 B : Nat) : Int), .int .u32 ((gSh B : Nat) : Int), .slice none 0 0, .slice none 0 0, .slice none 0 0] 5), (b5, .cells true [.int .i64 2, .int .u64 0, .string (⟨#[]⟩ : ByteArray)] 3), (b1, .cells true [.int .u32 0, .int .u32 0, .slice none 0 0, .slice none 0 0, .slice none 0 0] 5)]) rfl (fun H41 s42 => ⟨?_, ?_⟩)
              · exact trivial
              refine ⟨_, Wk.refl _ _, ?_⟩
              show awp _ _ _ _ _ _ _
              refine awp_ret_wk ?_
              obtain ⟨e1, e2⟩ := gc_out (B := B) (by omega) (by omega) (by omega) hno
              refine ⟨_, Wk.refl _ _, ?_⟩
              repeat (with_reducible first | refine then_ret ?_ | refine blk_ret ?_ | refine then_exit ?_ | refine blk_exit ?_ | refine blk_exit' (by decide) ?_ | refine blk_normal ?_ | refine then_normal ?_ | refine retq_ret ?_ | refine retq_normal ?_ | refine ng_normal ?_ | refine ng_ret ?_ | refine ng_exit ?_)
              refine ret_is (v := .tuple #[.agg #[.int .u32 0, .int .u32 0, .slice none 0 0, .slice none 0 0, .slice none 0 0], .agg #[.int .i64 2, .int .u64 0, .string (⟨#[]⟩ : ByteArray)]]) rfl (.agg rfl Try.isAgg31 Try.sizeOf31 (s42.rd (j := 2) rfl) (Nat.le_of_ble_eq_true rfl) rfl (.agg rfl Try.isAgg47 Try.sizeOf47 (s42.rd (j := 1) rfl) (Nat.le_of_ble_eq_true rfl) rfl .nil)) rfl ?_
              exact .inl ⟨by rw [e1]; decide, by rw [e1, e2]; first | done | rfl, s42.kp⟩
set_option maxRecDepth 100000 in
set_option maxHeartbeats 4000000 in
theorem read_mz {H0 : AHeap} (B : ByteArray) (hB : B.size ≤ 140737488355328) (hyes : gA0 B ≤ B.size) (hmz : maxL (gBk B) = 0) : ACalls Try.prog 15 [.string B] H0 (fun v H' => (gC B ≠ 0 ∧ v = .tuple #[.agg #[.int .u32 0, .int .u32 0, .slice none 0 0, .slice none 0 0, .slice none 0 0], .agg #[.int .i64 ((gC B : Nat) : Int), .int .u64 ((gAt B : Nat) : Int), .string ⟨#[]⟩]] ∧ K0 H0 H') ∨ (gC B = 0 ∧ ∃ b1 b2 b3, v = .tuple #[.agg #[.int .u32 ((gF0 B : Nat) : Int), .int .u32 ((gSh B : Nat) : Int), .slice (some ⟨b1, 0, none⟩) (gM B) (gM B), .slice (some ⟨b2, 0, none⟩) (gN B) (gN B), .slice (some ⟨b3, 0, none⟩) (gK B) (gK B)], .agg #[.int .i64 0, .int .u64 0, .string ⟨#[]⟩]] ∧ NewL H0 H' [(b3, .cells true ((chL B (gA0 B) (gK B)).map u32v) 1), (b2, .cells true ((gBk B).map u32v) 1), (b1, .cells true ((gBl B).map u64v) 1)])) := by
  have hF : Wd Fence.wide := .inl rfl
  have hM : Try.prog.follows .mixedOrders = true := by kernel_rfl
  have hn4 : gN B < 4294967296 := atV_lt4 B 0
  have hf4 : gF0 B < 4294967296 := atV_lt4 B 4
  have hm4 : gM B < 4294967296 := atV_lt4 B 8
  have hs4 : gSh B < 4294967296 := atV_lt4 B 12
  have hbl := gBk_len (B := B)
  have hgA : gA0 B = 16 + gM B * 8 + gN B * 4 := rfl
  have s0 := St.begin H0
  refine acalls_st Try.func15 rfl Try.ntmps15 rfl ?_
  refine awp_seq ?_
  refine awp_regs hF ?_
  refine x_new (fun b => .pointer (some ⟨b, 0, none⟩)) s0 (gyes_none rfl) (q_alloc (vs := [.int .u32 0, .int .u32 0, .slice none 0 0, .slice none 0 0, .slice none 0 0]) 5 Try.zeroValue31 (by first | exact flat_scalar rfl | exact flat_agg rfl) rfl) rfl (by decide) (by simp [Op.operands, Call.operands]) (fun b1 H2 hb4 s3 => ?_)
  refine x_new (fun b => .pointer (some ⟨b, 0, none⟩)) s3 (gyes_none rfl) (q_alloc (vs := [.int .i64 0, .int .u64 0, .string ⟨#[]⟩]) 3 Try.zeroValue47 (by first | exact flat_scalar rfl | exact flat_agg rfl) rfl) rfl (by decide) (by simp [Op.operands, Call.operands]) (fun b5 H6 hb8 s7 => ?_)
  refine ⟨_, Wk.refl _ _, ?_⟩
  show awp _ _ _ _ _ _ _
  refine awp_seq ?_
  refine awp_regs hF ?_
  refine dv (gyes_none rfl) (q_mv (v := .string B) rfl) rfl (by decide) (cok1 trivial) ?_
  refine dv (gyes_none rfl) (q_call0 Try.call28 rfl (number_ok B 0 hB (by decide))) rfl (by decide) (call_ok rfl) ?_
  refine dv (gyes_none rfl) (q_mv (v := .string B) rfl) rfl (by decide) (cok1 trivial) ?_
  refine dv (gyes_none rfl) (q_call0 Try.call28 rfl (number_ok B 4 hB (by decide))) rfl (by decide) (call_ok rfl) ?_
  refine dv (gyes_none rfl) (q_mv (v := .string B) rfl) rfl (by decide) (cok1 trivial) ?_
  refine dv (gyes_none rfl) (q_call0 Try.call28 rfl (number_ok B 8 hB (by decide))) rfl (by decide) (call_ok rfl) ?_
  refine dv (gyes_none rfl) (q_mv (v := .string B) rfl) rfl (by decide) (cok1 trivial) ?_
  refine dv (gyes_none rfl) (q_call0 Try.call28 rfl (number_ok B 12 hB (by decide))) rfl (by decide) (call_ok rfl) ?_
  refine dv (gyes_none rfl) (q_as (v := .int .u64 ((gN B : Nat) : Int)) rfl) rfl (by decide) (cok1 trivial) ?_
  refine dv (gyes_none rfl) (q_as (v := .int .u64 ((gF0 B : Nat) : Int)) rfl) rfl (by decide) (cok1 trivial) ?_
  refine dv (gyes_none rfl) (q_as (v := .int .u64 ((gM B : Nat) : Int)) rfl) rfl (by decide) (cok1 trivial) ?_
  refine dv (gyes_none rfl) (q_as (v := .int .u64 ((gSh B : Nat) : Int)) rfl) rfl (by decide) (cok1 trivial) ?_
  refine ⟨_, Wk.refl _ _, ?_⟩
  show awp _ _ _ _ _ _ _
  refine awp_seq ?_
  refine awp_regs hF ?_
  refine dv (gyes_none rfl) (q_mv (v := .int .u64 ((gF0 B : Nat) : Int)) rfl) rfl (by decide) (cok1 trivial) ?_
  refine dv (gyes_none rfl) (q_convin (a := ((gF0 B : Nat) : Int)) Try.underlying45 Try.underlying27 rfl (u32_in (by omega))) rfl (by decide) (cok1 trivial) ?_
  refine dv (gyes_none rfl) (q_mv (v := .int .u64 ((gSh B : Nat) : Int)) rfl) rfl (by decide) (cok1 trivial) ?_
  refine dv (gyes_none rfl) (q_convin (a := ((gSh B : Nat) : Int)) Try.underlying45 Try.underlying27 rfl (u32_in (by omega))) rfl (by decide) (cok1 trivial) ?_
  refine dv (gyes_none rfl) (q_buildL (ds := [.int .u32 ((gF0 B : Nat) : Int), .int .u32 ((gSh B : Nat) : Int), .slice none 0 0, .slice none 0 0, .slice none 0 0]) [(0, 1), (1, 1), (2, 1), (3, 1), (4, 1)] [.int .u32 ((gF0 B : Nat) : Int), .int .u32 ((gSh B : Nat) : Int)] Try.underlying31 Try.zeroValue31 (by first | exact flat_agg rfl | exact flat_scalar rfl) (by kernel_rfl) ⟨rfl, rfl, trivial⟩ (lvsC (by exact trivial) (lvsC (by exact trivial) lvs0)) rfl) rfl (by decide) (cok2 trivial trivial) ?_
  refine x_new (fun b => .pointer (some ⟨b, 0, none⟩)) s7 (gyes_none rfl) (q_alloc (vs := [.int .u32 0, .int .u32 0, .slice none 0 0, .slice none 0 0, .slice none 0 0]) 5 Try.zeroValue31 (by first | exact flat_scalar rfl | exact flat_agg rfl) rfl) rfl (by decide) (by simp [Op.operands, Call.operands]) (fun b9 H10 hb12 s11 => ?_)
  refine x_store [] hF s11 (by kernel_rfl) (gyes_none rfl) (j := 0) (v := .agg #[.int .u32 ((gF0 B : Nat) : Int), .int .u32 ((gSh B : Nat) : Int), .slice none 0 0, .slice none 0 0, .slice none 0 0]) rfl Try.sizeOf31 rfl rfl rfl rfl rfl trivial (lcsA ⟨(lc_scalar rfl), (lc_scalar rfl), (lc_scalar rfl), (lc_scalar rfl), (lc_scalar rfl), trivial⟩) (Nat.le_of_ble_eq_true rfl) trivial trivial rfl rfl (F' := [(b9, .cells true [.int .u32 ((gF0 B : Nat) : Int), .int .u32 ((gSh B : Nat) : Int), .slice none 0 0, .slice none 0 0, .slice none 0 0] 5), (b5, .cells true [.int .i64 0, .int .u64 0, .string ⟨#[]⟩] 3), (b1, .cells true [.int .u32 0, .int .u32 0, .slice none 0 0, .slice none 0 0, .slice none 0 0] 5)]) rfl (fun H13 s14 => ⟨?_, ?_⟩)
  · exact trivial
  refine ⟨_, Wk.refl _ _, ?_⟩
  show awp _ _ _ _ _ _ _
  refine awp_seq ?_
  refine awp_block ?_
  refine awp_seq ?_
  refine awp_regs hF ?_
  refine dv (gyes_none rfl) (q_mv (v := .string B) rfl) rfl (by decide) (cok1 trivial) ?_
  refine dv (gyes_none rfl) (q_len_str Try.underlying9 rfl) rfl (by decide) (cok1 trivial) ?_
  refine dvb (gyes_none rfl) (q_int rfl rfl rfl) rfl (by decide) (cok2 trivial (cconst rfl)) (fun c1 => ?_) (fun c1 => ?_)
  ·
    replace c1 := of_decide_eq_true c1
    refine dv (gyes_none rfl) (q_as (v := .bool true) rfl) rfl (by decide) (cok1 trivial) ?_
    refine ⟨_, Wk.refl _ _, ?_⟩
    show awp _ _ _ _ _ _ _
    refine awp_cond_t rfl ?_
    refine awp_seq ?_
    refine awp_regs hF ?_
    refine dv (gyes_none rfl) (q_buildL (ds := [.int .u32 0, .int .u32 0, .slice none 0 0, .slice none 0 0, .slice none 0 0]) [(0, 1), (1, 1), (2, 1), (3, 1), (4, 1)] [] Try.underlying31 Try.zeroValue31 (by first | exact flat_agg rfl | exact flat_scalar rfl) (by kernel_rfl) trivial lvs0 rfl) rfl (by decide) (by simp [Op.operands, Call.operands]) ?_
    refine dv (gyes_none rfl) (q_call0 Try.call29 rfl (failOf_ok 2)) rfl (by decide) (cok2 trivial (cconst rfl)) ?_
    refine x_store [] hF s14 (by kernel_rfl) (gyes_none rfl) (j := 2) (v := .agg #[.int .u32 0, .int .u32 0, .slice none 0 0, .slice none 0 0, .slice none 0 0]) rfl Try.sizeOf31 rfl rfl rfl rfl rfl trivial (lcsA ⟨(lc_scalar rfl), (lc_scalar rfl), (lc_scalar rfl), (lc_scalar rfl), (lc_scalar rfl), trivial⟩) (Nat.le_of_ble_eq_true rfl) trivial trivial rfl rfl (F' := [(b9, .cells true [.int .u32 ((gF0 B : Nat) : Int), .int .u32 ((gSh B : Nat) : Int), .slice none 0 0, .slice none 0 0, .slice none 0 0] 5), (b5, .cells true [.int .i64 0, .int .u64 0, .string ⟨#[]⟩] 3), (b1, .cells true [.int .u32 0, .int .u32 0, .slice none 0 0, .slice none 0 0, .slice none 0 0] 5)]) rfl (fun H15 s16 => ⟨?_, ?_⟩)
    · exact trivial
    refine x_store [] hF s16 (by kernel_rfl) (gyes_none rfl) (j := 1) (v := .agg #[.int .i64 2, .int .u64 0, .string (⟨#[]⟩ : ByteArray)]) rfl Try.sizeOf47 rfl rfl rfl rfl rfl trivial (lcsA ⟨(lc_scalar rfl), (lc_scalar rfl), (lc_scalar rfl), trivial⟩) (Nat.le_of_ble_eq_true rfl) trivial trivial rfl rfl (F' := [(b9, .cells true [.int .u32 ((gF0 B : Nat) : Int), .int .u32 ((gSh B : Nat) : Int), .slice none 0 0, .slice none 0 0, .slice none 0 0] 5), (b5, .cells true [.int .i64 2, .int .u64 0, .string (⟨#[]⟩ : ByteArray)] 3), (b1, .cells true [.int .u32 0, .int .u32 0, .slice none 0 0, .slice none 0 0, .slice none 0 0] 5)]) rfl (fun H17 s18 => ⟨?_, ?_⟩)
    · exact trivial
    refine ⟨_, Wk.refl _ _, ?_⟩
    show awp _ _ _ _ _ _ _
    refine awp_ret_wk ?_
    obtain ⟨e1, e2⟩ := gc_short (B := B) (by omega)
    refine ⟨_, Wk.refl _ _, ?_⟩
    repeat (with_reducible first | refine then_ret ?_ | refine blk_ret ?_ | refine then_exit ?_ | refine blk_exit ?_ | refine blk_exit' (by decide) ?_ | refine blk_normal ?_ | refine then_normal ?_ | refine retq_ret ?_ | refine retq_normal ?_ | refine ng_normal ?_ | refine ng_ret ?_ | refine ng_exit ?_)
    refine ret_is (v := .tuple #[.agg #[.int .u32 0, .int .u32 0, .slice none 0 0, .slice none 0 0, .slice none 0 0], .agg #[.int .i64 2, .int .u64 0, .string (⟨#[]⟩ : ByteArray)]]) rfl (.agg rfl Try.isAgg31 Try.sizeOf31 (s18.rd (j := 2) rfl) (Nat.le_of_ble_eq_true rfl) rfl (.agg rfl Try.isAgg47 Try.sizeOf47 (s18.rd (j := 1) rfl) (Nat.le_of_ble_eq_true rfl) rfl .nil)) rfl ?_
    exact .inl ⟨by rw [e1]; decide, by rw [e1, e2]; first | done | rfl, s18.kp⟩
  ·
    replace c1 := of_decide_eq_false c1
    refine dv (gyes_none rfl) (q_as (v := .bool false) rfl) rfl (by decide) (cok1 trivial) ?_
    refine ⟨_, Wk.refl _ _, ?_⟩
    show awp _ _ _ _ _ _ _
    refine awp_cond_f rfl ?_
    refine awp_seq ?_
    refine awp_regs hF ?_
    refine dv (gyes_none rfl) (q_mv (v := .int .u64 ((gN B : Nat) : Int)) rfl) rfl (by decide) (cok1 trivial) ?_
    refine dvb (gyes_none rfl) (q_int rfl rfl rfl) rfl (by decide) (cok2 trivial (cconst rfl)) (fun c2 => ?_) (fun c2 => ?_)
    ·
      replace c2 := eq_of_beq c2
      refine dv (gyes_none rfl) (q_mv (v := .bool true) rfl) rfl (by decide) (cok1 trivial) ?_
      refine dno rfl (.inl rfl) rfl (by decide) ?_
      refine dno rfl (.inl rfl) rfl (by decide) ?_
      refine dv (gyes_none rfl) (q_pt (v := .bool true) rfl rfl) rfl (by decide) (call_ok rfl) ?_
      refine dv (gyes_none rfl) (q_as (v := .bool true) rfl) rfl (by decide) (cok1 trivial) ?_
      refine ⟨_, Wk.refl _ _, ?_⟩
      show awp _ _ _ _ _ _ _
      refine awp_cond_t rfl ?_
      refine awp_seq ?_
      refine awp_regs hF ?_
      refine dv (gyes_none rfl) (q_buildL (ds := [.int .u32 0, .int .u32 0, .slice none 0 0, .slice none 0 0, .slice none 0 0]) [(0, 1), (1, 1), (2, 1), (3, 1), (4, 1)] [] Try.underlying31 Try.zeroValue31 (by first | exact flat_agg rfl | exact flat_scalar rfl) (by kernel_rfl) trivial lvs0 rfl) rfl (by decide) (by simp [Op.operands, Call.operands]) ?_
      refine dv (gyes_none rfl) (q_call0 Try.call29 rfl (failOf_ok 4)) rfl (by decide) (cok2 trivial (cconst rfl)) ?_
      refine x_store [] hF s14 (by kernel_rfl) (gyes_none rfl) (j := 2) (v := .agg #[.int .u32 0, .int .u32 0, .slice none 0 0, .slice none 0 0, .slice none 0 0]) rfl Try.sizeOf31 rfl rfl rfl rfl rfl trivial (lcsA ⟨(lc_scalar rfl), (lc_scalar rfl), (lc_scalar rfl), (lc_scalar rfl), (lc_scalar rfl), trivial⟩) (Nat.le_of_ble_eq_true rfl) trivial trivial rfl rfl (F' := [(b9, .cells true [.int .u32 ((gF0 B : Nat) : Int), .int .u32 ((gSh B : Nat) : Int), .slice none 0 0, .slice none 0 0, .slice none 0 0] 5), (b5, .cells true [.int .i64 0, .int .u64 0, .string ⟨#[]⟩] 3), (b1, .cells true [.int .u32 0, .int .u32 0, .slice none 0 0, .slice none 0 0, .slice none 0 0] 5)]) rfl (fun H19 s20 => ⟨?_, ?_⟩)
      · exact trivial
      refine x_store [] hF s20 (by kernel_rfl) (gyes_none rfl) (j := 1) (v := .agg #[.int .i64 4, .int .u64 0, .string (⟨#[]⟩ : ByteArray)]) rfl Try.sizeOf47 rfl rfl rfl rfl rfl trivial (lcsA ⟨(lc_scalar rfl), (lc_scalar rfl), (lc_scalar rfl), trivial⟩) (Nat.le_of_ble_eq_true rfl) trivial trivial rfl rfl (F' := [(b9, .cells true [.int .u32 ((gF0 B : Nat) : Int), .int .u32 ((gSh B : Nat) : Int), .slice none 0 0, .slice none 0 0, .slice none 0 0] 5), (b5, .cells true [.int .i64 4, .int .u64 0, .string (⟨#[]⟩ : ByteArray)] 3), (b1, .cells true [.int .u32 0, .int .u32 0, .slice none 0 0, .slice none 0 0, .slice none 0 0] 5)]) rfl (fun H21 s22 => ⟨?_, ?_⟩)
      · exact trivial
      refine ⟨_, Wk.refl _ _, ?_⟩
      show awp _ _ _ _ _ _ _
      refine awp_ret_wk ?_
      obtain ⟨e1, e2⟩ := gc_zero (B := B) (by omega) (by omega)
      refine ⟨_, Wk.refl _ _, ?_⟩
      repeat (with_reducible first | refine then_ret ?_ | refine blk_ret ?_ | refine then_exit ?_ | refine blk_exit ?_ | refine blk_exit' (by decide) ?_ | refine blk_normal ?_ | refine then_normal ?_ | refine retq_ret ?_ | refine retq_normal ?_ | refine ng_normal ?_ | refine ng_ret ?_ | refine ng_exit ?_)
      refine ret_is (v := .tuple #[.agg #[.int .u32 0, .int .u32 0, .slice none 0 0, .slice none 0 0, .slice none 0 0], .agg #[.int .i64 4, .int .u64 0, .string (⟨#[]⟩ : ByteArray)]]) rfl (.agg rfl Try.isAgg31 Try.sizeOf31 (s22.rd (j := 2) rfl) (Nat.le_of_ble_eq_true rfl) rfl (.agg rfl Try.isAgg47 Try.sizeOf47 (s22.rd (j := 1) rfl) (Nat.le_of_ble_eq_true rfl) rfl .nil)) rfl ?_
      exact .inl ⟨by rw [e1]; decide, by rw [e1, e2]; first | done | rfl, s22.kp⟩
    ·
      replace c2 := ne_of_beq_false c2
      refine dv (gyes_none rfl) (q_mv (v := .bool false) rfl) rfl (by decide) (cok1 trivial) ?_
      refine dv (gyes_some rfl rfl) (q_mv (v := .int .u64 ((gM B : Nat) : Int)) rfl) rfl (by decide) (cok1 trivial) ?_
      refine dvb (gyes_some rfl rfl) (q_int rfl rfl rfl) rfl (by decide) (cok2 trivial (cconst rfl)) (fun c3 => ?_) (fun c3 => ?_)
      ·
        replace c3 := eq_of_beq c3
        refine dv (gyes_none rfl) (q_pf (v := .bool true) rfl rfl) rfl (by decide) (call_ok rfl) ?_
        refine dv (gyes_none rfl) (q_as (v := .bool true) rfl) rfl (by decide) (cok1 trivial) ?_
        refine ⟨_, Wk.refl _ _, ?_⟩
        show awp _ _ _ _ _ _ _
        refine awp_cond_t rfl ?_
        refine awp_seq ?_
        refine awp_regs hF ?_
        refine dv (gyes_none rfl) (q_buildL (ds := [.int .u32 0, .int .u32 0, .slice none 0 0, .slice none 0 0, .slice none 0 0]) [(0, 1), (1, 1), (2, 1), (3, 1), (4, 1)] [] Try.underlying31 Try.zeroValue31 (by first | exact flat_agg rfl | exact flat_scalar rfl) (by kernel_rfl) trivial lvs0 rfl) rfl (by decide) (by simp [Op.operands, Call.operands]) ?_
        refine dv (gyes_none rfl) (q_call0 Try.call29 rfl (failOf_ok 4)) rfl (by decide) (cok2 trivial (cconst rfl)) ?_
        refine x_store [] hF s14 (by kernel_rfl) (gyes_none rfl) (j := 2) (v := .agg #[.int .u32 0, .int .u32 0, .slice none 0 0, .slice none 0 0, .slice none 0 0]) rfl Try.sizeOf31 rfl rfl rfl rfl rfl trivial (lcsA ⟨(lc_scalar rfl), (lc_scalar rfl), (lc_scalar rfl), (lc_scalar rfl), (lc_scalar rfl), trivial⟩) (Nat.le_of_ble_eq_true rfl) trivial trivial rfl rfl (F' := [(b9, .cells true [.int .u32 ((gF0 B : Nat) : Int), .int .u32 ((gSh B : Nat) : Int), .slice none 0 0, .slice none 0 0, .slice none 0 0] 5), (b5, .cells true [.int .i64 0, .int .u64 0, .string ⟨#[]⟩] 3), (b1, .cells true [.int .u32 0, .int .u32 0, .slice none 0 0, .slice none 0 0, .slice none 0 0] 5)]) rfl (fun H23 s24 => ⟨?_, ?_⟩)
        · exact trivial
        refine x_store [] hF s24 (by kernel_rfl) (gyes_none rfl) (j := 1) (v := .agg #[.int .i64 4, .int .u64 0, .string (⟨#[]⟩ : ByteArray)]) rfl Try.sizeOf47 rfl rfl rfl rfl rfl trivial (lcsA ⟨(lc_scalar rfl), (lc_scalar rfl), (lc_scalar rfl), trivial⟩) (Nat.le_of_ble_eq_true rfl) trivial trivial rfl rfl (F' := [(b9, .cells true [.int .u32 ((gF0 B : Nat) : Int), .int .u32 ((gSh B : Nat) : Int), .slice none 0 0, .slice none 0 0, .slice none 0 0] 5), (b5, .cells true [.int .i64 4, .int .u64 0, .string (⟨#[]⟩ : ByteArray)] 3), (b1, .cells true [.int .u32 0, .int .u32 0, .slice none 0 0, .slice none 0 0, .slice none 0 0] 5)]) rfl (fun H25 s26 => ⟨?_, ?_⟩)
        · exact trivial
        refine ⟨_, Wk.refl _ _, ?_⟩
        show awp _ _ _ _ _ _ _
        refine awp_ret_wk ?_
        obtain ⟨e1, e2⟩ := gc_zero (B := B) (by omega) (by omega)
        refine ⟨_, Wk.refl _ _, ?_⟩
        repeat (with_reducible first | refine then_ret ?_ | refine blk_ret ?_ | refine then_exit ?_ | refine blk_exit ?_ | refine blk_exit' (by decide) ?_ | refine blk_normal ?_ | refine then_normal ?_ | refine retq_ret ?_ | refine retq_normal ?_ | refine ng_normal ?_ | refine ng_ret ?_ | refine ng_exit ?_)
        refine ret_is (v := .tuple #[.agg #[.int .u32 0, .int .u32 0, .slice none 0 0, .slice none 0 0, .slice none 0 0], .agg #[.int .i64 4, .int .u64 0, .string (⟨#[]⟩ : ByteArray)]]) rfl (.agg rfl Try.isAgg31 Try.sizeOf31 (s26.rd (j := 2) rfl) (Nat.le_of_ble_eq_true rfl) rfl (.agg rfl Try.isAgg47 Try.sizeOf47 (s26.rd (j := 1) rfl) (Nat.le_of_ble_eq_true rfl) rfl .nil)) rfl ?_
        exact .inl ⟨by rw [e1]; decide, by rw [e1, e2]; first | done | rfl, s26.kp⟩
      ·
        replace c3 := ne_of_beq_false c3
        refine dv (gyes_none rfl) (q_pf (v := .bool false) rfl rfl) rfl (by decide) (call_ok rfl) ?_
        refine dv (gyes_none rfl) (q_as (v := .bool false) rfl) rfl (by decide) (cok1 trivial) ?_
        refine ⟨_, Wk.refl _ _, ?_⟩
        show awp _ _ _ _ _ _ _
        refine awp_cond_f rfl ?_
        refine awp_seq ?_
        refine awp_regs hF ?_
        refine dv (gyes_none rfl) (q_mv (v := .int .u64 ((gN B : Nat) : Int)) rfl) rfl (by decide) (cok1 trivial) ?_
        refine dvb (gyes_none rfl) (q_int rfl rfl rfl) rfl (by decide) (cok2 trivial (cconst rfl)) (fun c4 => ?_) (fun c4 => ?_)
        ·
          replace c4 := of_decide_eq_true c4
          refine dv (gyes_none rfl) (q_mv (v := .bool true) rfl) rfl (by decide) (cok1 trivial) ?_
          refine dno rfl (.inl rfl) rfl (by decide) ?_
          refine dno rfl (.inl rfl) rfl (by decide) ?_
          refine dv (gyes_none rfl) (q_pt (v := .bool true) rfl rfl) rfl (by decide) (call_ok rfl) ?_
          refine dv (gyes_none rfl) (q_mv (v := .bool true) rfl) rfl (by decide) (cok1 trivial) ?_
          refine dno rfl (.inl rfl) rfl (by decide) ?_
          refine dno rfl (.inl rfl) rfl (by decide) ?_
          refine dv (gyes_none rfl) (q_pt (v := .bool true) rfl rfl) rfl (by decide) (call_ok rfl) ?_
          refine dv (gyes_none rfl) (q_as (v := .bool true) rfl) rfl (by decide) (cok1 trivial) ?_
          refine ⟨_, Wk.refl _ _, ?_⟩
          show awp _ _ _ _ _ _ _
          refine awp_cond_t rfl ?_
          refine awp_seq ?_
          refine awp_regs hF ?_
          refine dv (gyes_none rfl) (q_buildL (ds := [.int .u32 0, .int .u32 0, .slice none 0 0, .slice none 0 0, .slice none 0 0]) [(0, 1), (1, 1), (2, 1), (3, 1), (4, 1)] [] Try.underlying31 Try.zeroValue31 (by first | exact flat_agg rfl | exact flat_scalar rfl) (by kernel_rfl) trivial lvs0 rfl) rfl (by decide) (by simp [Op.operands, Call.operands]) ?_
          refine dv (gyes_none rfl) (q_call0 Try.call29 rfl (failOf_ok 6)) rfl (by decide) (cok2 trivial (cconst rfl)) ?_
          refine x_store [] hF s14 (by kernel_rfl) (gyes_none rfl) (j := 2) (v := .agg #[.int .u32 0, .int .u32 0, .slice none 0 0, .slice none 0 0, .slice none 0 0]) rfl Try.sizeOf31 rfl rfl rfl rfl rfl trivial (lcsA ⟨(lc_scalar rfl), (lc_scalar rfl), (lc_scalar rfl), (lc_scalar rfl), (lc_scalar rfl), trivial⟩) (Nat.le_of_ble_eq_true rfl) trivial trivial rfl rfl (F' := [(b9, .cells true [.int .u32 ((gF0 B : Nat) : Int), .int .u32 ((gSh B : Nat) : Int), .slice none 0 0, .slice none 0 0, .slice none 0 0] 5), (b5, .cells true [.int .i64 0, .int .u64 0, .string ⟨#[]⟩] 3), (b1, .cells true [.int .u32 0, .int .u32 0, .slice none 0 0, .slice none 0 0, .slice none 0 0] 5)]) rfl (fun H27 s28 => ⟨?_, ?_⟩)
          · exact trivial
          refine x_store [] hF s28 (by kernel_rfl) (gyes_none rfl) (j := 1) (v := .agg #[.int .i64 6, .int .u64 0, .string (⟨#[]⟩ : ByteArray)]) rfl Try.sizeOf47 rfl rfl rfl rfl rfl trivial (lcsA ⟨(lc_scalar rfl), (lc_scalar rfl), (lc_scalar rfl), trivial⟩) (Nat.le_of_ble_eq_true rfl) trivial trivial rfl rfl (F' := [(b9, .cells true [.int .u32 ((gF0 B : Nat) : Int), .int .u32 ((gSh B : Nat) : Int), .slice none 0 0, .slice none 0 0, .slice none 0 0] 5), (b5, .cells true [.int .i64 6, .int .u64 0, .string (⟨#[]⟩ : ByteArray)] 3), (b1, .cells true [.int .u32 0, .int .u32 0, .slice none 0 0, .slice none 0 0, .slice none 0 0] 5)]) rfl (fun H29 s30 => ⟨?_, ?_⟩)
          · exact trivial
          refine ⟨_, Wk.refl _ _, ?_⟩
          show awp _ _ _ _ _ _ _
          refine awp_ret_wk ?_
          obtain ⟨e1, e2⟩ := gc_many (B := B) (by omega) (by omega) (by omega)
          refine ⟨_, Wk.refl _ _, ?_⟩
          repeat (with_reducible first | refine then_ret ?_ | refine blk_ret ?_ | refine then_exit ?_ | refine blk_exit ?_ | refine blk_exit' (by decide) ?_ | refine blk_normal ?_ | refine then_normal ?_ | refine retq_ret ?_ | refine retq_normal ?_ | refine ng_normal ?_ | refine ng_ret ?_ | refine ng_exit ?_)
          refine ret_is (v := .tuple #[.agg #[.int .u32 0, .int .u32 0, .slice none 0 0, .slice none 0 0, .slice none 0 0], .agg #[.int .i64 6, .int .u64 0, .string (⟨#[]⟩ : ByteArray)]]) rfl (.agg rfl Try.isAgg31 Try.sizeOf31 (s30.rd (j := 2) rfl) (Nat.le_of_ble_eq_true rfl) rfl (.agg rfl Try.isAgg47 Try.sizeOf47 (s30.rd (j := 1) rfl) (Nat.le_of_ble_eq_true rfl) rfl .nil)) rfl ?_
          exact .inl ⟨by rw [e1]; decide, by rw [e1, e2]; first | done | rfl, s30.kp⟩
        ·
          replace c4 := of_decide_eq_false c4
          refine dv (gyes_none rfl) (q_mv (v := .bool false) rfl) rfl (by decide) (cok1 trivial) ?_
          refine dv (gyes_some rfl rfl) (q_mv (v := .int .u64 ((gM B : Nat) : Int)) rfl) rfl (by decide) (cok1 trivial) ?_
          refine dvb (gyes_some rfl rfl) (q_int rfl rfl rfl) rfl (by decide) (cok2 trivial (cconst rfl)) (fun c5 => ?_) (fun c5 => ?_)
          ·
            replace c5 := of_decide_eq_true c5
            refine dv (gyes_none rfl) (q_pf (v := .bool true) rfl rfl) rfl (by decide) (call_ok rfl) ?_
            refine dv (gyes_none rfl) (q_mv (v := .bool true) rfl) rfl (by decide) (cok1 trivial) ?_
            refine dno rfl (.inl rfl) rfl (by decide) ?_
            refine dno rfl (.inl rfl) rfl (by decide) ?_
            refine dv (gyes_none rfl) (q_pt (v := .bool true) rfl rfl) rfl (by decide) (call_ok rfl) ?_
            refine dv (gyes_none rfl) (q_as (v := .bool true) rfl) rfl (by decide) (cok1 trivial) ?_
            refine ⟨_, Wk.refl _ _, ?_⟩
            show awp _ _ _ _ _ _ _
            refine awp_cond_t rfl ?_
            refine awp_seq ?_
            refine awp_regs hF ?_
            refine dv (gyes_none rfl) (q_buildL (ds := [.int .u32 0, .int .u32 0, .slice none 0 0, .slice none 0 0, .slice none 0 0]) [(0, 1), (1, 1), (2, 1), (3, 1), (4, 1)] [] Try.underlying31 Try.zeroValue31 (by first | exact flat_agg rfl | exact flat_scalar rfl) (by kernel_rfl) trivial lvs0 rfl) rfl (by decide) (by simp [Op.operands, Call.operands]) ?_
            refine dv (gyes_none rfl) (q_call0 Try.call29 rfl (failOf_ok 6)) rfl (by decide) (cok2 trivial (cconst rfl)) ?_
            refine x_store [] hF s14 (by kernel_rfl) (gyes_none rfl) (j := 2) (v := .agg #[.int .u32 0, .int .u32 0, .slice none 0 0, .slice none 0 0, .slice none 0 0]) rfl Try.sizeOf31 rfl rfl rfl rfl rfl trivial (lcsA ⟨(lc_scalar rfl), (lc_scalar rfl), (lc_scalar rfl), (lc_scalar rfl), (lc_scalar rfl), trivial⟩) (Nat.le_of_ble_eq_true rfl) trivial trivial rfl rfl (F' := [(b9, .cells true [.int .u32 ((gF0 B : Nat) : Int), .int .u32 ((gSh B : Nat) : Int), .slice none 0 0, .slice none 0 0, .slice none 0 0] 5), (b5, .cells true [.int .i64 0, .int .u64 0, .string ⟨#[]⟩] 3), (b1, .cells true [.int .u32 0, .int .u32 0, .slice none 0 0, .slice none 0 0, .slice none 0 0] 5)]) rfl (fun H31 s32 => ⟨?_, ?_⟩)
            · exact trivial
            refine x_store [] hF s32 (by kernel_rfl) (gyes_none rfl) (j := 1) (v := .agg #[.int .i64 6, .int .u64 0, .string (⟨#[]⟩ : ByteArray)]) rfl Try.sizeOf47 rfl rfl rfl rfl rfl trivial (lcsA ⟨(lc_scalar rfl), (lc_scalar rfl), (lc_scalar rfl), trivial⟩) (Nat.le_of_ble_eq_true rfl) trivial trivial rfl rfl (F' := [(b9, .cells true [.int .u32 ((gF0 B : Nat) : Int), .int .u32 ((gSh B : Nat) : Int), .slice none 0 0, .slice none 0 0, .slice none 0 0] 5), (b5, .cells true [.int .i64 6, .int .u64 0, .string (⟨#[]⟩ : ByteArray)] 3), (b1, .cells true [.int .u32 0, .int .u32 0, .slice none 0 0, .slice none 0 0, .slice none 0 0] 5)]) rfl (fun H33 s34 => ⟨?_, ?_⟩)
            · exact trivial
            refine ⟨_, Wk.refl _ _, ?_⟩
            show awp _ _ _ _ _ _ _
            refine awp_ret_wk ?_
            obtain ⟨e1, e2⟩ := gc_many (B := B) (by omega) (by omega) (by omega)
            refine ⟨_, Wk.refl _ _, ?_⟩
            repeat (with_reducible first | refine then_ret ?_ | refine blk_ret ?_ | refine then_exit ?_ | refine blk_exit ?_ | refine blk_exit' (by decide) ?_ | refine blk_normal ?_ | refine then_normal ?_ | refine retq_ret ?_ | refine retq_normal ?_ | refine ng_normal ?_ | refine ng_ret ?_ | refine ng_exit ?_)
            refine ret_is (v := .tuple #[.agg #[.int .u32 0, .int .u32 0, .slice none 0 0, .slice none 0 0, .slice none 0 0], .agg #[.int .i64 6, .int .u64 0, .string (⟨#[]⟩ : ByteArray)]]) rfl (.agg rfl Try.isAgg31 Try.sizeOf31 (s34.rd (j := 2) rfl) (Nat.le_of_ble_eq_true rfl) rfl (.agg rfl Try.isAgg47 Try.sizeOf47 (s34.rd (j := 1) rfl) (Nat.le_of_ble_eq_true rfl) rfl .nil)) rfl ?_
            exact .inl ⟨by rw [e1]; decide, by rw [e1, e2]; first | done | rfl, s34.kp⟩
          ·
            replace c5 := of_decide_eq_false c5
            refine dv (gyes_none rfl) (q_pf (v := .bool false) rfl rfl) rfl (by decide) (call_ok rfl) ?_
            refine dv (gyes_none rfl) (q_mv (v := .bool false) rfl) rfl (by decide) (cok1 trivial) ?_
            refine dv (gyes_some rfl rfl) (q_mv (v := .int .u64 ((gF0 B : Nat) : Int)) rfl) rfl (by decide) (cok1 trivial) ?_
            refine dvb (gyes_some rfl rfl) (q_int rfl rfl rfl) rfl (by decide) (cok2 trivial (cconst rfl)) (fun c6 => ?_) (fun c6 => ?_)
            ·
              replace c6 := of_decide_eq_true c6
              refine dv (gyes_none rfl) (q_pf (v := .bool true) rfl rfl) rfl (by decide) (call_ok rfl) ?_
              refine dv (gyes_none rfl) (q_as (v := .bool true) rfl) rfl (by decide) (cok1 trivial) ?_
              refine ⟨_, Wk.refl _ _, ?_⟩
              show awp _ _ _ _ _ _ _
              refine awp_cond_t rfl ?_
              refine awp_seq ?_
              refine awp_regs hF ?_
              refine dv (gyes_none rfl) (q_buildL (ds := [.int .u32 0, .int .u32 0, .slice none 0 0, .slice none 0 0, .slice none 0 0]) [(0, 1), (1, 1), (2, 1), (3, 1), (4, 1)] [] Try.underlying31 Try.zeroValue31 (by first | exact flat_agg rfl | exact flat_scalar rfl) (by kernel_rfl) trivial lvs0 rfl) rfl (by decide) (by simp [Op.operands, Call.operands]) ?_
              refine dv (gyes_none rfl) (q_call0 Try.call29 rfl (failOf_ok 6)) rfl (by decide) (cok2 trivial (cconst rfl)) ?_
              refine x_store [] hF s14 (by kernel_rfl) (gyes_none rfl) (j := 2) (v := .agg #[.int .u32 0, .int .u32 0, .slice none 0 0, .slice none 0 0, .slice none 0 0]) rfl Try.sizeOf31 rfl rfl rfl rfl rfl trivial (lcsA ⟨(lc_scalar rfl), (lc_scalar rfl), (lc_scalar rfl), (lc_scalar rfl), (lc_scalar rfl), trivial⟩) (Nat.le_of_ble_eq_true rfl) trivial trivial rfl rfl (F' := [(b9, .cells true [.int .u32 ((gF0 B : Nat) : Int), .int .u32 ((gSh B : Nat) : Int), .slice none 0 0, .slice none 0 0, .slice none 0 0] 5), (b5, .cells true [.int .i64 0, .int .u64 0, .string ⟨#[]⟩] 3), (b1, .cells true [.int .u32 0, .int .u32 0, .slice none 0 0, .slice none 0 0, .slice none 0 0] 5)]) rfl (fun H35 s36 => ⟨?_, ?_⟩)
              · exact trivial
              refine x_store [] hF s36 (by kernel_rfl) (gyes_none rfl) (j := 1) (v := .agg #[.int .i64 6, .int .u64 0, .string (⟨#[]⟩ : ByteArray)]) rfl Try.sizeOf47 rfl rfl rfl rfl rfl trivial (lcsA ⟨(lc_scalar rfl), (lc_scalar rfl), (lc_scalar rfl), trivial⟩) (Nat.le_of_ble_eq_true rfl) trivial trivial rfl rfl (F' := [(b9, .cells true [.int .u32 ((gF0 B : Nat) : Int), .int .u32 ((gSh B : Nat) : Int), .slice none 0 0, .slice none 0 0, .slice none 0 0] 5), (b5, .cells true [.int .i64 6, .int .u64 0, .string (⟨#[]⟩ : ByteArray)] 3), (b1, .cells true [.int .u32 0, .int .u32 0, .slice none 0 0, .slice none 0 0, .slice none 0 0] 5)]) rfl (fun H37 s38 => ⟨?_, ?_⟩)
              · exact trivial
              refine ⟨_, Wk.refl _ _, ?_⟩
              show awp _ _ _ _ _ _ _
              refine awp_ret_wk ?_
              obtain ⟨e1, e2⟩ := gc_many (B := B) (by omega) (by omega) (by omega)
              refine ⟨_, Wk.refl _ _, ?_⟩
              repeat (with_reducible first | refine then_ret ?_ | refine blk_ret ?_ | refine then_exit ?_ | refine blk_exit ?_ | refine blk_exit' (by decide) ?_ | refine blk_normal ?_ | refine then_normal ?_ | refine retq_ret ?_ | refine retq_normal ?_ | refine ng_normal ?_ | refine ng_ret ?_ | refine ng_exit ?_)
              refine ret_is (v := .tuple #[.agg #[.int .u32 0, .int .u32 0, .slice none 0 0, .slice none 0 0, .slice none 0 0], .agg #[.int .i64 6, .int .u64 0, .string (⟨#[]⟩ : ByteArray)]]) rfl (.agg rfl Try.isAgg31 Try.sizeOf31 (s38.rd (j := 2) rfl) (Nat.le_of_ble_eq_true rfl) rfl (.agg rfl Try.isAgg47 Try.sizeOf47 (s38.rd (j := 1) rfl) (Nat.le_of_ble_eq_true rfl) rfl .nil)) rfl ?_
              exact .inl ⟨by rw [e1]; decide, by rw [e1, e2]; first | done | rfl, s38.kp⟩
            ·
              replace c6 := of_decide_eq_false c6
              refine dv (gyes_none rfl) (q_pf (v := .bool false) rfl rfl) rfl (by decide) (call_ok rfl) ?_
              refine dv (gyes_none rfl) (q_as (v := .bool false) rfl) rfl (by decide) (cok1 trivial) ?_
              refine ⟨_, Wk.refl _ _, ?_⟩
              show awp _ _ _ _ _ _ _
              refine awp_cond_f rfl ?_
              refine awp_skip_wk ?_
              refine ⟨_, Wk.refl _ _, ?_⟩
              show awp _ _ _ _ _ _ _
              refine awp_seq ?_
              refine awp_regs hF ?_
              refine dv (gyes_none rfl) (q_mv (v := .string B) rfl) rfl (by decide) (cok1 trivial) ?_
              refine dv (gyes_none rfl) (q_mv (v := .int .u64 ((gN B : Nat) : Int)) rfl) rfl (by decide) (cok1 trivial) ?_
              refine dv (gyes_none rfl) (q_mv (v := .int .u64 ((gM B : Nat) : Int)) rfl) rfl (by decide) (cok1 trivial) ?_
              refine x_call [] hF (by kernel_rfl) (gyes_none rfl) Try.call30 rfl (args := [.pointer (some ⟨b9, 0, none⟩), .string B, .int .u64 ((gN B : Nat) : Int), .int .u64 ((gM B : Nat) : Int)]) rfl (body_yes b9 (gF0 B) (gSh B) B hB (gN B) (gM B) ⟨by omega, by omega⟩ ⟨by omega, by omega⟩ hyes (s14.getj (j := 0) rfl)) (show _ < _ by decide) (call_ok rfl) rfl rfl (fun _ _ _ _ hd => by cases hd) ?_
              rintro _ H41 ⟨rfl, hk42, b39, b40, hl43, hl44, hn45, h46, h47, h48⟩
              have s49 := s14.turn1L (j := 0) rfl hk42 h46 [(b39, .cells true ((gBl B).map u64v) 1), (b40, .cells true ((gBk B).map u32v) 1)] (nod2 hn45) (by intro p hp; rcases List.mem_cons.1 hp with rfl | hp; exact hl43; rw [List.mem_singleton.1 hp]; exact hl44) ⟨h47, h48, trivial⟩
              refine ⟨trivial, ?_⟩
              show dList _ _ _ _ _ _ _ _ _ _
              refine dv (gyes_none rfl) (q_mv (v := .tuple #[.int .u64 ((gA0 B : Nat) : Int), .bool true]) rfl) rfl (by decide) (cok1 trivial) ?_
              refine dv (gyes_none rfl) (q_extract (v := .int .u64 ((gA0 B : Nat) : Int)) rfl rfl) rfl (by decide) (cok1 trivial) ?_
              refine dv (gyes_none rfl) (q_extract (v := .bool true) rfl rfl) rfl (by decide) (cok1 trivial) ?_
              refine dv (gyes_none rfl) (q_as (v := .int .u64 ((gA0 B : Nat) : Int)) rfl) rfl (by decide) (cok1 trivial) ?_
              refine dv (gyes_none rfl) (q_as (v := .bool true) rfl) rfl (by decide) (cok1 trivial) ?_
              refine ⟨_, Wk.refl _ _, ?_⟩
              show awp _ _ _ _ _ _ _
              refine awp_seq ?_
              refine awp_seq ?_
              refine awp_regs hF ?_
              refine dv (gyes_none rfl) (q_mv (v := .bool true) rfl) rfl (by decide) (cok1 trivial) ?_
              refine dv (gyes_none rfl) (q_not (b := true) rfl) rfl (by decide) (cok1 trivial) ?_
              refine ⟨_, Wk.refl _ _, ?_⟩
              show awp _ _ _ _ _ _ _
              refine awp_cond_f rfl ?_
              refine awp_skip_wk ?_
              refine ⟨_, Wk.refl _ _, ?_⟩
              show awp _ _ _ _ _ _ _
              refine awp_seq ?_
              refine awp_seq ?_
              refine awp_regs hF ?_
              refine dv (gyes_none rfl) (q_field Try.underlying31 rfl Try.sizeOf29 rfl (s49.rd (j := 2) rfl)) rfl (by decide) (cok1 trivial) ?_
              refine dv (gyes_none rfl) (q_load (v := .slice (some ⟨b40, 0, none⟩) (gN B) (gN B)) Try.isAgg29 rfl (s49.rd (j := 2) rfl) rfl) rfl (by decide) (cok1 trivial) ?_
              refine dv (gyes_none rfl) (q_len_slice Try.underlying29 rfl (s49.rd (j := 1) rfl)) rfl (by decide) (cok1 trivial) ?_
              refine dv (gyes_none rfl) (q_mv (v := .int .i64 0) rfl) rfl (by decide) (cok1 (cconst rfl)) ?_
              refine ⟨_, Wk.refl _ _, ?_⟩
              show awp _ _ _ _ _ _ _
              refine awp_block ?_
              refine awp_wk (Wk.U [(0, .string B), (2, .pointer (some ⟨b1, 0, none⟩)), (3, .pointer (some ⟨b5, 0, none⟩)), (4, .int .u64 ((gN B : Nat) : Int)), (5, .int .u64 ((gF0 B : Nat) : Int)), (6, .int .u64 ((gM B : Nat) : Int)), (7, .int .u64 ((gSh B : Nat) : Int)), (8, .pointer (some ⟨b9, 0, none⟩)), (9, .int .u64 ((gA0 B : Nat) : Int)), (67, .slice (some ⟨b40, 0, none⟩) (gN B) (gN B)), (68, .int .i64 ((gN B : Nat) : Int)), (69, .int .i64 0)] ⟨rfl, rfl, rfl, rfl, rfl, rfl, rfl, rfl, rfl, rfl, rfl, rfl, trivial⟩) ?_
              refine awp_loop (fun (i : Nat) st => ∃ (H50 : AHeap), st = ⟨106, U [(0, .string B), (2, .pointer (some ⟨b1, 0, none⟩)), (3, .pointer (some ⟨b5, 0, none⟩)), (4, .int .u64 ((gN B : Nat) : Int)), (5, .int .u64 ((gF0 B : Nat) : Int)), (6, .int .u64 ((gM B : Nat) : Int)), (7, .int .u64 ((gSh B : Nat) : Int)), (8, .pointer (some ⟨b9, 0, none⟩)), (9, .int .u64 ((gA0 B : Nat) : Int)), (67, .slice (some ⟨b40, 0, none⟩) (gN B) (gN B)), (68, .int .i64 ((gN B : Nat) : Int)), (69, .int .i64 ((i : Nat) : Int))], [], H50⟩ ∧ St H0 (none0) (Rd H0) H50 [(b39, .cells true ((gBl B).map u64v) 1), (b40, .cells true ((gBk B).map u32v) 1), (b9, .cells true [.int .u32 ((gF0 B : Nat) : Int), .int .u32 ((gSh B : Nat) : Int), .slice (some ⟨b39, 0, none⟩) (gM B) (gM B), .slice (some ⟨b40, 0, none⟩) (gN B) (gN B), .slice none 0 0] 5), (b5, .cells true [.int .i64 0, .int .u64 0, .string ⟨#[]⟩] 3), (b1, .cells true [.int .u32 0, .int .u32 0, .slice none 0 0, .slice none 0 0, .slice none 0 0] 5)] ∧ (i ≤ gN B ∧ ∀ j, j < i → gBad B j = false)) (fun (i : Nat) => gN B - i) (x0 := (0)) ?h0 ?round
              case h0 =>
                exact ⟨_, rfl, s49, ⟨Nat.zero_le _, fun j h => absurd h (Nat.not_lt_zero _)⟩⟩
              case round =>
                rintro i _ ⟨H50, rfl, s51, hi⟩
                refine awp_seq ?_
                refine awp_regs hF ?_
                refine dvb (gyes_none rfl) (q_int rfl rfl rfl) rfl (by decide) (cok2 trivial trivial) (fun c7 => ?_) (fun c7 => ?_)
                ·
                  replace c7 := of_decide_eq_true c7
                  refine ⟨_, Wk.refl _ _, ?_⟩
                  show awp _ _ _ _ _ _ _
                  refine awp_seq ?_
                  refine awp_cond_t rfl ?_
                  refine awp_skip_wk ?_
                  refine ⟨_, Wk.refl _ _, ?_⟩
                  show awp _ _ _ _ _ _ _
                  refine awp_seq ?_
                  refine awp_block ?_
                  refine awp_seq ?_
                  refine awp_regs hF ?_
                  refine dv (gyes_none rfl) (q_mv (v := .int .i64 ((i : Nat) : Int)) rfl) rfl (by decide) (cok1 trivial) ?_
                  refine dv (gyes_none rfl) (OpQ.cast (v' := .pointer (some ⟨b40, i, none⟩)) (q_index1 (i := i) Try.underlying29 Try.sizeOf27 rfl rfl (by omega) (s51.rd (j := 1) rfl)) (by rw [Nat.zero_add])) rfl (by decide) (cok2 trivial trivial) ?_
                  refine dv (gyes_none rfl) (q_load (v := u32v (nth (gBk B) i)) Try.isAgg27 rfl (s51.rd (j := 1) rfl) (get_nth (w := 0) (by omega))) rfl (by decide) (cok1 trivial) ?_
                  refine dv (gyes_none rfl) (q_as (v := .int .i64 ((i : Nat) : Int)) rfl) rfl (by decide) (cok1 trivial) ?_
                  refine dv (gyes_none rfl) (q_as (v := .int .u32 ((nth (gBk B) i : Nat) : Int)) rfl) rfl (by decide) (cok1 trivial) ?_
                  refine ⟨_, Wk.refl _ _, ?_⟩
                  show awp _ _ _ _ _ _ _
                  refine awp_seq ?_
                  refine awp_regs hF ?_
                  refine dv (gyes_none rfl) (q_mv (v := .int .u32 ((nth (gBk B) i : Nat) : Int)) rfl) rfl (by decide) (cok1 trivial) ?_
                  refine dvb (gyes_none rfl) (q_int rfl rfl rfl) rfl (by decide) (cok2 trivial (cconst rfl)) (fun c8 => ?_) (fun c8 => ?_)
                  ·
                    replace c8 := bne_iff_ne.1 c8
                    refine dv (gyes_none rfl) (q_mv (v := .bool true) rfl) rfl (by decide) (cok1 trivial) ?_
                    refine dv (gyes_some rfl rfl) (q_mv (v := .int .u32 ((nth (gBk B) i : Nat) : Int)) rfl) rfl (by decide) (cok1 trivial) ?_
                    refine dv (gyes_some rfl rfl) (q_field Try.underlying31 rfl Try.sizeOf27 rfl (s51.rd (j := 2) rfl)) rfl (by decide) (cok1 trivial) ?_
                    refine dv (gyes_some rfl rfl) (q_load (v := .int .u32 ((gF0 B : Nat) : Int)) Try.isAgg27 rfl (s51.rd (j := 2) rfl) rfl) rfl (by decide) (cok1 trivial) ?_
                    refine dvb (gyes_some rfl rfl) (q_int rfl rfl rfl) rfl (by decide) (cok2 trivial trivial) (fun c9 => ?_) (fun c9 => ?_)
                    ·
                      replace c9 := of_decide_eq_true c9
                      refine dv (gyes_some rfl rfl) (q_mv (v := .bool true) rfl) rfl (by decide) (cok1 trivial) ?_
                      refine dno rfl (.inl rfl) rfl (by decide) ?_
                      refine dno rfl (.inl rfl) rfl (by decide) ?_
                      refine dv (gyes_some rfl rfl) (q_pt (v := .bool true) rfl rfl) rfl (by decide) (call_ok rfl) ?_
                      refine dv (gyes_none rfl) (q_pt (v := .bool true) rfl rfl) rfl (by decide) (call_ok rfl) ?_
                      refine ⟨_, Wk.refl _ _, ?_⟩
                      show awp _ _ _ _ _ _ _
                      refine awp_cond_t rfl ?_
                      refine awp_seq ?_
                      refine awp_regs hF ?_
                      refine dv (gyes_none rfl) (q_buildL (ds := [.int .u32 0, .int .u32 0, .slice none 0 0, .slice none 0 0, .slice none 0 0]) [(0, 1), (1, 1), (2, 1), (3, 1), (4, 1)] [] Try.underlying31 Try.zeroValue31 (by first | exact flat_agg rfl | exact flat_scalar rfl) (by kernel_rfl) trivial lvs0 rfl) rfl (by decide) (by simp [Op.operands, Call.operands]) ?_
                      refine dv (gyes_none rfl) (q_mv (v := .int .u64 ((gM B : Nat) : Int)) rfl) rfl (by decide) (cok1 trivial) ?_
                      refine dv (gyes_none rfl) (OpQ.cast (v' := .int .u64 (((gM B) * 8 : Nat) : Int)) (q_int rfl rfl rfl) (congrArg _ ((u64_in (by omega)).trans (by first | rfl | omega | (push_cast; rfl))))) rfl (by decide) (cok2 trivial (cconst rfl)) ?_
                      refine dv (gyes_none rfl) (OpQ.cast (v' := .int .u64 ((16 + ((gM B) * 8) : Nat) : Int)) (q_int rfl rfl rfl) (congrArg _ ((u64_in (by omega)).trans (by first | rfl | omega | (push_cast; rfl))))) rfl (by decide) (cok2 (cconst rfl) trivial) ?_
                      refine dv (gyes_none rfl) (q_mv (v := .int .i64 ((i : Nat) : Int)) rfl) rfl (by decide) (cok1 trivial) ?_
                      refine dv (gyes_none rfl) (q_convin (a := ((i : Nat) : Int)) Try.underlying3 Try.underlying45 rfl (u64_in (by omega))) rfl (by decide) (cok1 trivial) ?_
                      refine dv (gyes_none rfl) (OpQ.cast (v' := .int .u64 ((i * 4 : Nat) : Int)) (q_int rfl rfl rfl) (congrArg _ ((u64_in (by omega)).trans (by first | rfl | omega | (push_cast; rfl))))) rfl (by decide) (cok2 trivial (cconst rfl)) ?_
                      refine dv (gyes_none rfl) (OpQ.cast (v' := .int .u64 ((16 + ((gM B) * 8) + (i * 4) : Nat) : Int)) (q_int rfl rfl rfl) (congrArg _ ((u64_in (by omega)).trans (by first | rfl | omega | (push_cast; rfl))))) rfl (by decide) (cok2 trivial trivial) ?_
                      refine dv (gyes_none rfl) (q_call0 Try.call31 rfl (failAt_ok 5 (16 + ((gM B) * 8) + (i * 4)))) rfl (by decide) (call_ok rfl) ?_
                      refine x_store [] hF s51 (by kernel_rfl) (gyes_none rfl) (j := 4) (v := .agg #[.int .u32 0, .int .u32 0, .slice none 0 0, .slice none 0 0, .slice none 0 0]) rfl Try.sizeOf31 rfl rfl rfl rfl rfl trivial (lcsA ⟨(lc_scalar rfl), (lc_scalar rfl), (lc_scalar rfl), (lc_scalar rfl), (lc_scalar rfl), trivial⟩) (Nat.le_of_ble_eq_true rfl) trivial trivial rfl rfl (F' := [(b39, .cells true ((gBl B).map u64v) 1), (b40, .cells true ((gBk B).map u32v) 1), (b9, .cells true [.int .u32 ((gF0 B : Nat) : Int), .int .u32 ((gSh B : Nat) : Int), .slice (some ⟨b39, 0, none⟩) (gM B) (gM B), .slice (some ⟨b40, 0, none⟩) (gN B) (gN B), .slice none 0 0] 5), (b5, .cells true [.int .i64 0, .int .u64 0, .string ⟨#[]⟩] 3), (b1, .cells true [.int .u32 0, .int .u32 0, .slice none 0 0, .slice none 0 0, .slice none 0 0] 5)]) rfl (fun H52 s53 => ⟨?_, ?_⟩)
                      · exact trivial
                      refine x_store [] hF s53 (by kernel_rfl) (gyes_none rfl) (j := 3) (v := .agg #[.int .i64 5, .int .u64 ((16 + ((gM B) * 8) + (i * 4) : Nat) : Int), .string (⟨#[]⟩ : ByteArray)]) rfl Try.sizeOf47 rfl rfl rfl rfl rfl trivial (lcsA ⟨(lc_scalar rfl), (lc_scalar rfl), (lc_scalar rfl), trivial⟩) (Nat.le_of_ble_eq_true rfl) trivial trivial rfl rfl (F' := [(b39, .cells true ((gBl B).map u64v) 1), (b40, .cells true ((gBk B).map u32v) 1), (b9, .cells true [.int .u32 ((gF0 B : Nat) : Int), .int .u32 ((gSh B : Nat) : Int), .slice (some ⟨b39, 0, none⟩) (gM B) (gM B), .slice (some ⟨b40, 0, none⟩) (gN B) (gN B), .slice none 0 0] 5), (b5, .cells true [.int .i64 5, .int .u64 ((16 + ((gM B) * 8) + (i * 4) : Nat) : Int), .string (⟨#[]⟩ : ByteArray)] 3), (b1, .cells true [.int .u32 0, .int .u32 0, .slice none 0 0, .slice none 0 0, .slice none 0 0] 5)]) rfl (fun H54 s55 => ⟨?_, ?_⟩)
                      · exact trivial
                      refine ⟨_, Wk.refl _ _, ?_⟩
                      show awp _ _ _ _ _ _ _
                      refine awp_ret_wk ?_
                      obtain ⟨e1, e2⟩ := gc_bad (B := B) (i := i) (by omega) (by omega) (by omega) hyes (by omega) (gBad_y (by omega) (by omega)) hi.2
                      refine ⟨_, Wk.refl _ _, ?_⟩
                      repeat (with_reducible first | refine then_ret ?_ | refine blk_ret ?_ | refine then_exit ?_ | refine blk_exit ?_ | refine blk_exit' (by decide) ?_ | refine blk_normal ?_ | refine then_normal ?_ | refine retq_ret ?_ | refine retq_normal ?_ | refine ng_normal ?_ | refine ng_ret ?_ | refine ng_exit ?_)
                      refine ret_is (v := .tuple #[.agg #[.int .u32 0, .int .u32 0, .slice none 0 0, .slice none 0 0, .slice none 0 0], .agg #[.int .i64 5, .int .u64 ((16 + ((gM B) * 8) + (i * 4) : Nat) : Int), .string (⟨#[]⟩ : ByteArray)]]) rfl (.agg rfl Try.isAgg31 Try.sizeOf31 (s55.rd (j := 4) rfl) (Nat.le_of_ble_eq_true rfl) rfl (.agg rfl Try.isAgg47 Try.sizeOf47 (s55.rd (j := 3) rfl) (Nat.le_of_ble_eq_true rfl) rfl .nil)) rfl ?_
                      exact .inl ⟨by rw [e1]; decide, by rw [e1, e2]; first | done | rfl, s55.kp⟩
                    ·
                      replace c9 := of_decide_eq_false c9
                      refine dv (gyes_some rfl rfl) (q_mv (v := .bool false) rfl) rfl (by decide) (cok1 trivial) ?_
                      refine dv (gyes_some rfl rfl) (q_mv (v := .int .u32 ((nth (gBk B) i : Nat) : Int)) rfl) rfl (by decide) (cok1 trivial) ?_
                      refine dvb (gyes_some rfl rfl) (q_int rfl rfl rfl) rfl (by decide) (cok2 trivial (cconst rfl)) (fun c10 => ?_) (fun c10 => ?_)
                      ·
                        replace c10 := of_decide_eq_true c10
                        refine dv (gyes_some rfl rfl) (q_pf (v := .bool true) rfl rfl) rfl (by decide) (call_ok rfl) ?_
                        refine dv (gyes_none rfl) (q_pt (v := .bool true) rfl rfl) rfl (by decide) (call_ok rfl) ?_
                        refine ⟨_, Wk.refl _ _, ?_⟩
                        show awp _ _ _ _ _ _ _
                        refine awp_cond_t rfl ?_
                        refine awp_seq ?_
                        refine awp_regs hF ?_
                        refine dv (gyes_none rfl) (q_buildL (ds := [.int .u32 0, .int .u32 0, .slice none 0 0, .slice none 0 0, .slice none 0 0]) [(0, 1), (1, 1), (2, 1), (3, 1), (4, 1)] [] Try.underlying31 Try.zeroValue31 (by first | exact flat_agg rfl | exact flat_scalar rfl) (by kernel_rfl) trivial lvs0 rfl) rfl (by decide) (by simp [Op.operands, Call.operands]) ?_
                        refine dv (gyes_none rfl) (q_mv (v := .int .u64 ((gM B : Nat) : Int)) rfl) rfl (by decide) (cok1 trivial) ?_
                        refine dv (gyes_none rfl) (OpQ.cast (v' := .int .u64 (((gM B) * 8 : Nat) : Int)) (q_int rfl rfl rfl) (congrArg _ ((u64_in (by omega)).trans (by first | rfl | omega | (push_cast; rfl))))) rfl (by decide) (cok2 trivial (cconst rfl)) ?_
                        refine dv (gyes_none rfl) (OpQ.cast (v' := .int .u64 ((16 + ((gM B) * 8) : Nat) : Int)) (q_int rfl rfl rfl) (congrArg _ ((u64_in (by omega)).trans (by first | rfl | omega | (push_cast; rfl))))) rfl (by decide) (cok2 (cconst rfl) trivial) ?_
                        refine dv (gyes_none rfl) (q_mv (v := .int .i64 ((i : Nat) : Int)) rfl) rfl (by decide) (cok1 trivial) ?_
                        refine dv (gyes_none rfl) (q_convin (a := ((i : Nat) : Int)) Try.underlying3 Try.underlying45 rfl (u64_in (by omega))) rfl (by decide) (cok1 trivial) ?_
                        refine dv (gyes_none rfl) (OpQ.cast (v' := .int .u64 ((i * 4 : Nat) : Int)) (q_int rfl rfl rfl) (congrArg _ ((u64_in (by omega)).trans (by first | rfl | omega | (push_cast; rfl))))) rfl (by decide) (cok2 trivial (cconst rfl)) ?_
                        refine dv (gyes_none rfl) (OpQ.cast (v' := .int .u64 ((16 + ((gM B) * 8) + (i * 4) : Nat) : Int)) (q_int rfl rfl rfl) (congrArg _ ((u64_in (by omega)).trans (by first | rfl | omega | (push_cast; rfl))))) rfl (by decide) (cok2 trivial trivial) ?_
                        refine dv (gyes_none rfl) (q_call0 Try.call31 rfl (failAt_ok 5 (16 + ((gM B) * 8) + (i * 4)))) rfl (by decide) (call_ok rfl) ?_
                        refine x_store [] hF s51 (by kernel_rfl) (gyes_none rfl) (j := 4) (v := .agg #[.int .u32 0, .int .u32 0, .slice none 0 0, .slice none 0 0, .slice none 0 0]) rfl Try.sizeOf31 rfl rfl rfl rfl rfl trivial (lcsA ⟨(lc_scalar rfl), (lc_scalar rfl), (lc_scalar rfl), (lc_scalar rfl), (lc_scalar rfl), trivial⟩) (Nat.le_of_ble_eq_true rfl) trivial trivial rfl rfl (F' := [(b39, .cells true ((gBl B).map u64v) 1), (b40, .cells true ((gBk B).map u32v) 1), (b9, .cells true [.int .u32 ((gF0 B : Nat) : Int), .int .u32 ((gSh B : Nat) : Int), .slice (some ⟨b39, 0, none⟩) (gM B) (gM B), .slice (some ⟨b40, 0, none⟩) (gN B) (gN B), .slice none 0 0] 5), (b5, .cells true [.int .i64 0, .int .u64 0, .string ⟨#[]⟩] 3), (b1, .cells true [.int .u32 0, .int .u32 0, .slice none 0 0, .slice none 0 0, .slice none 0 0] 5)]) rfl (fun H56 s57 => ⟨?_, ?_⟩)
                        · exact trivial
                        refine x_store [] hF s57 (by kernel_rfl) (gyes_none rfl) (j := 3) (v := .agg #[.int .i64 5, .int .u64 ((16 + ((gM B) * 8) + (i * 4) : Nat) : Int), .string (⟨#[]⟩ : ByteArray)]) rfl Try.sizeOf47 rfl rfl rfl rfl rfl trivial (lcsA ⟨(lc_scalar rfl), (lc_scalar rfl), (lc_scalar rfl), trivial⟩) (Nat.le_of_ble_eq_true rfl) trivial trivial rfl rfl (F' := [(b39, .cells true ((gBl B).map u64v) 1), (b40, .cells true ((gBk B).map u32v) 1), (b9, .cells true [.int .u32 ((gF0 B : Nat) : Int), .int .u32 ((gSh B : Nat) : Int), .slice (some ⟨b39, 0, none⟩) (gM B) (gM B), .slice (some ⟨b40, 0, none⟩) (gN B) (gN B), .slice none 0 0] 5), (b5, .cells true [.int .i64 5, .int .u64 ((16 + ((gM B) * 8) + (i * 4) : Nat) : Int), .string (⟨#[]⟩ : ByteArray)] 3), (b1, .cells true [.int .u32 0, .int .u32 0, .slice none 0 0, .slice none 0 0, .slice none 0 0] 5)]) rfl (fun H58 s59 => ⟨?_, ?_⟩)
                        · exact trivial
                        refine ⟨_, Wk.refl _ _, ?_⟩
                        show awp _ _ _ _ _ _ _
                        refine awp_ret_wk ?_
                        obtain ⟨e1, e2⟩ := gc_bad (B := B) (i := i) (by omega) (by omega) (by omega) hyes (by omega) (gBad_y (by omega) (by omega)) hi.2
                        refine ⟨_, Wk.refl _ _, ?_⟩
                        repeat (with_reducible first | refine then_ret ?_ | refine blk_ret ?_ | refine then_exit ?_ | refine blk_exit ?_ | refine blk_exit' (by decide) ?_ | refine blk_normal ?_ | refine then_normal ?_ | refine retq_ret ?_ | refine retq_normal ?_ | refine ng_normal ?_ | refine ng_ret ?_ | refine ng_exit ?_)
                        refine ret_is (v := .tuple #[.agg #[.int .u32 0, .int .u32 0, .slice none 0 0, .slice none 0 0, .slice none 0 0], .agg #[.int .i64 5, .int .u64 ((16 + ((gM B) * 8) + (i * 4) : Nat) : Int), .string (⟨#[]⟩ : ByteArray)]]) rfl (.agg rfl Try.isAgg31 Try.sizeOf31 (s59.rd (j := 4) rfl) (Nat.le_of_ble_eq_true rfl) rfl (.agg rfl Try.isAgg47 Try.sizeOf47 (s59.rd (j := 3) rfl) (Nat.le_of_ble_eq_true rfl) rfl .nil)) rfl ?_
                        exact .inl ⟨by rw [e1]; decide, by rw [e1, e2]; first | done | rfl, s59.kp⟩
                      ·
                        replace c10 := of_decide_eq_false c10
                        refine dv (gyes_some rfl rfl) (q_pf (v := .bool false) rfl rfl) rfl (by decide) (call_ok rfl) ?_
                        refine dv (gyes_none rfl) (q_pt (v := .bool false) rfl rfl) rfl (by decide) (call_ok rfl) ?_
                        refine ⟨_, Wk.refl _ _, ?_⟩
                        show awp _ _ _ _ _ _ _
                        refine awp_cond_f rfl ?_
                        refine awp_skip_wk ?_
                        refine ⟨_, Wk.refl _ _, ?_⟩
                        show awp _ _ _ _ _ _ _
                        refine awp_regs hF ?_
                        refine dv (gyes_none rfl) (OpQ.cast (v' := .int .i64 ((i + 1 : Nat) : Int)) (q_int rfl rfl rfl) (congrArg _ ((i64_in (by omega)).trans (by first | rfl | omega | (push_cast; rfl))))) rfl (by decide) (cok2 trivial (cconst rfl)) ?_
                        refine dv (gyes_none rfl) (q_mv (v := .int .i64 ((i + 1 : Nat) : Int)) rfl) rfl (by decide) (cok1 trivial) ?_
                        refine ⟨_, Wk.U [(0, .string B), (2, .pointer (some ⟨b1, 0, none⟩)), (3, .pointer (some ⟨b5, 0, none⟩)), (4, .int .u64 ((gN B : Nat) : Int)), (5, .int .u64 ((gF0 B : Nat) : Int)), (6, .int .u64 ((gM B : Nat) : Int)), (7, .int .u64 ((gSh B : Nat) : Int)), (8, .pointer (some ⟨b9, 0, none⟩)), (9, .int .u64 ((gA0 B : Nat) : Int)), (67, .slice (some ⟨b40, 0, none⟩) (gN B) (gN B)), (68, .int .i64 ((gN B : Nat) : Int)), (69, .int .i64 (((i + 1) : Nat) : Int))] ⟨rfl, rfl, rfl, rfl, rfl, rfl, rfl, rfl, rfl, rfl, rfl, rfl, trivial⟩, (i + 1), ⟨_, rfl, s51, ⟨by omega, lt_succ_casesN hi.2 (gBad_n (by omega))⟩⟩, (by omega)⟩
                  ·
                    replace c8 := bne_eq_false_iff_eq.1 c8
                    refine dv (gyes_none rfl) (q_mv (v := .bool false) rfl) rfl (by decide) (cok1 trivial) ?_
                    refine dno rfl (.inl rfl) rfl (by decide) ?_
                    refine dno rfl (.inl rfl) rfl (by decide) ?_
                    refine dno rfl (.inl rfl) rfl (by decide) ?_
                    refine dno rfl (.inl rfl) rfl (by decide) ?_
                    refine dno rfl (.inl rfl) rfl (by decide) ?_
                    refine dno rfl (.inr rfl) rfl (by decide) ?_
                    refine dno rfl (.inr rfl) rfl (by decide) ?_
                    refine dno rfl (.inl rfl) rfl (by decide) ?_
                    refine dv (gyes_none rfl) (q_pf (v := .bool false) rfl rfl) rfl (by decide) (call_ok rfl) ?_
                    refine ⟨_, Wk.refl _ _, ?_⟩
                    show awp _ _ _ _ _ _ _
                    refine awp_cond_f rfl ?_
                    refine awp_skip_wk ?_
                    refine ⟨_, Wk.refl _ _, ?_⟩
                    show awp _ _ _ _ _ _ _
                    refine awp_regs hF ?_
                    refine dv (gyes_none rfl) (OpQ.cast (v' := .int .i64 ((i + 1 : Nat) : Int)) (q_int rfl rfl rfl) (congrArg _ ((i64_in (by omega)).trans (by first | rfl | omega | (push_cast; rfl))))) rfl (by decide) (cok2 trivial (cconst rfl)) ?_
                    refine dv (gyes_none rfl) (q_mv (v := .int .i64 ((i + 1 : Nat) : Int)) rfl) rfl (by decide) (cok1 trivial) ?_
                    refine ⟨_, Wk.U [(0, .string B), (2, .pointer (some ⟨b1, 0, none⟩)), (3, .pointer (some ⟨b5, 0, none⟩)), (4, .int .u64 ((gN B : Nat) : Int)), (5, .int .u64 ((gF0 B : Nat) : Int)), (6, .int .u64 ((gM B : Nat) : Int)), (7, .int .u64 ((gSh B : Nat) : Int)), (8, .pointer (some ⟨b9, 0, none⟩)), (9, .int .u64 ((gA0 B : Nat) : Int)), (67, .slice (some ⟨b40, 0, none⟩) (gN B) (gN B)), (68, .int .i64 ((gN B : Nat) : Int)), (69, .int .i64 (((i + 1) : Nat) : Int))] ⟨rfl, rfl, rfl, rfl, rfl, rfl, rfl, rfl, rfl, rfl, rfl, rfl, trivial⟩, (i + 1), ⟨_, rfl, s51, ⟨by omega, lt_succ_casesN hi.2 (gBad_n (by omega))⟩⟩, (by omega)⟩
                ·
                  replace c7 := of_decide_eq_false c7
                  refine ⟨_, Wk.refl _ _, ?_⟩
                  show awp _ _ _ _ _ _ _
                  refine awp_seq ?_
                  refine awp_cond_f rfl ?_
                  refine awp_exit_wk ?_
                  refine ⟨_, Wk.refl _ _, ?_⟩
                  show awp _ _ _ _ _ _ _
                  refine awp_seq ?_
                  refine awp_seq ?_
                  refine awp_regs hF ?_
                  refine dv (gyes_none rfl) (q_mv (v := .string B) rfl) rfl (by decide) (cok1 trivial) ?_
                  refine dv (gyes_none rfl) (q_mv (v := .int .u64 ((gA0 B : Nat) : Int)) rfl) rfl (by decide) (cok1 trivial) ?_
                  refine x_call [] hF (by kernel_rfl) (gyes_none rfl) Try.call32 rfl (args := [.pointer (some ⟨b9, 0, none⟩), .string B, .int .u64 ((gA0 B : Nat) : Int)]) rfl (chains_zero b9 (gF0 B) (gSh B) _ _ (gBl B) (gBk B) B (gA0 B) hB (by unfold gA0; omega) (by omega) (by rw [gBk_len]; omega) (by rw [gBk_len]; omega) (slz_full (Z := Off _ [b9]) ⟨s51.rd (j := 0) rfl, (nin1 (s51.nej (i := 0) (j := 2) rfl rfl (by decide)))⟩ gBl_len (Nat.le_refl _)) (slz_full (Z := Off _ [b9]) ⟨s51.rd (j := 1) rfl, (nin1 (s51.nej (i := 1) (j := 2) rfl rfl (by decide)))⟩ gBk_len (Nat.le_refl _)) gBk_w (s51.getj (j := 2) rfl) hmz) (show _ < _ by decide) (call_ok rfl) rfl rfl (fun _ _ _ _ hd => by cases hd) ?_
                  rintro _ H60 ⟨rfl, hk61, h62⟩
                  have s63 := s51.turn1 (j := 2) rfl hk61 h62
                  refine ⟨trivial, ?_⟩
                  show dList _ _ _ _ _ _ _ _ _ _
                  refine dv (gyes_none rfl) (q_as (v := .int .i64 0) rfl) rfl (by decide) (cok1 trivial) ?_
                  refine ⟨_, Wk.refl _ _, ?_⟩
                  show awp _ _ _ _ _ _ _
                  refine awp_seq ?_
                  refine awp_regs hF ?_
                  refine dv (gyes_none rfl) (q_mv (v := .int .i64 0) rfl) rfl (by decide) (cok1 trivial) ?_
                  refine dv (gyes_none rfl) (OpQ.cast (v' := .bool false) (q_int rfl rfl rfl) (congrArg Value.bool (bne_self_eq_false _))) rfl (by decide) (cok2 trivial (cconst rfl)) ?_
                  refine ⟨_, Wk.refl _ _, ?_⟩
                  show awp _ _ _ _ _ _ _
                  refine awp_cond_f rfl ?_
                  refine awp_skip_wk ?_
                  refine ⟨_, Wk.refl _ _, ?_⟩
                  show awp _ _ _ _ _ _ _
                  refine awp_seq ?_
                  refine awp_regs hF ?_
                  refine dv (gyes_none rfl) (q_loadAgg Try.isAgg31 Try.sizeOf31 rfl (s63.rd (j := 2) rfl) (Nat.le_of_ble_eq_true rfl) rfl) rfl (by decide) (cok1 trivial) ?_
                  refine dv (gyes_none rfl) (q_buildL (ds := [.int .i64 0, .int .u64 0, .string ⟨#[]⟩]) [(0, 1), (1, 1), (2, 1)] [] Try.underlying47 Try.zeroValue47 (by first | exact flat_agg rfl | exact flat_scalar rfl) (by kernel_rfl) trivial lvs0 rfl) rfl (by decide) (by simp [Op.operands, Call.operands]) ?_
                  refine x_store [] hF s63 (by kernel_rfl) (gyes_none rfl) (j := 4) (v := .agg #[.int .u32 ((gF0 B : Nat) : Int), .int .u32 ((gSh B : Nat) : Int), .slice (some ⟨b39, 0, none⟩) (gM B) (gM B), .slice (some ⟨b40, 0, none⟩) (gN B) (gN B), .slice none 0 0]) rfl Try.sizeOf31 rfl rfl rfl rfl rfl trivial (lcsA ⟨(lc_scalar rfl), (lc_scalar rfl), (lc_slice (s63.live (j := 0) rfl)), (lc_slice (s63.live (j := 1) rfl)), (lc_scalar rfl), trivial⟩) (Nat.le_of_ble_eq_true rfl) trivial trivial rfl rfl (F' := [(b39, .cells true ((gBl B).map u64v) 1), (b40, .cells true ((gBk B).map u32v) 1), (b9, .cells true [.int .u32 ((gF0 B : Nat) : Int), .int .u32 ((gSh B : Nat) : Int), .slice (some ⟨b39, 0, none⟩) (gM B) (gM B), .slice (some ⟨b40, 0, none⟩) (gN B) (gN B), .slice none 0 0] 5), (b5, .cells true [.int .i64 0, .int .u64 0, .string ⟨#[]⟩] 3), (b1, .cells true [.int .u32 ((gF0 B : Nat) : Int), .int .u32 ((gSh B : Nat) : Int), .slice (some ⟨b39, 0, none⟩) (gM B) (gM B), .slice (some ⟨b40, 0, none⟩) (gN B) (gN B), .slice none 0 0] 5)]) rfl (fun H64 s65 => ⟨?_, ?_⟩)
                  · exact trivial
                  refine x_store [] hF s65 (by kernel_rfl) (gyes_none rfl) (j := 3) (v := .agg #[.int .i64 0, .int .u64 0, .string ⟨#[]⟩]) rfl Try.sizeOf47 rfl rfl rfl rfl rfl trivial (lcsA ⟨(lc_scalar rfl), (lc_scalar rfl), (lc_scalar rfl), trivial⟩) (Nat.le_of_ble_eq_true rfl) trivial trivial rfl rfl (F' := [(b39, .cells true ((gBl B).map u64v) 1), (b40, .cells true ((gBk B).map u32v) 1), (b9, .cells true [.int .u32 ((gF0 B : Nat) : Int), .int .u32 ((gSh B : Nat) : Int), .slice (some ⟨b39, 0, none⟩) (gM B) (gM B), .slice (some ⟨b40, 0, none⟩) (gN B) (gN B), .slice none 0 0] 5), (b5, .cells true [.int .i64 0, .int .u64 0, .string ⟨#[]⟩] 3), (b1, .cells true [.int .u32 ((gF0 B : Nat) : Int), .int .u32 ((gSh B : Nat) : Int), .slice (some ⟨b39, 0, none⟩) (gM B) (gM B), .slice (some ⟨b40, 0, none⟩) (gN B) (gN B), .slice none 0 0] 5)]) rfl (fun H66 s67 => ⟨?_, ?_⟩)
                  · exact trivial
                  refine ⟨_, Wk.refl _ _, ?_⟩
                  show awp _ _ _ _ _ _ _
                  refine awp_nilc s67 (j := 4) (o := 4) (sz' := 1) rfl rfl (fun b68 H69 hb71 s70 => ?_)
                  refine awp_ret_wk ?_
                  obtain ⟨e1, e2, e3⟩ := gc_max (B := B) (by omega) (by omega) (by omega) hyes (fun j hj => hi.2 j (by omega)) hmz
                  refine ⟨_, Wk.refl _ _, ?_⟩
                  repeat (with_reducible first | refine then_ret ?_ | refine blk_ret ?_ | refine then_exit ?_ | refine blk_exit ?_ | refine blk_exit' (by decide) ?_ | refine blk_normal ?_ | refine then_normal ?_ | refine retq_ret ?_ | refine retq_normal ?_ | refine ng_normal ?_ | refine ng_ret ?_ | refine ng_exit ?_)
                  refine ret_is (v := .tuple #[.agg #[.int .u32 ((gF0 B : Nat) : Int), .int .u32 ((gSh B : Nat) : Int), .slice (some ⟨b39, 0, none⟩) (gM B) (gM B), .slice (some ⟨b40, 0, none⟩) (gN B) (gN B), .slice (some ⟨b68, 0, none⟩) 0 0], .agg #[.int .i64 0, .int .u64 0, .string ⟨#[]⟩]]) rfl (.agg rfl Try.isAgg31 Try.sizeOf31 (s70.rd (j := 5) rfl) (Nat.le_of_ble_eq_true rfl) rfl (.agg rfl Try.isAgg47 Try.sizeOf47 (s70.rd (j := 4) rfl) (Nat.le_of_ble_eq_true rfl) rfl .nil)) rfl ?_
                  refine .inr ⟨e1, b39, b40, b68, ?_, ?_⟩
                  · rw [e3]
                  · rw [e3]; exact ((s70.sub (.cons_cons _ (.cons_cons _ (.cons_cons _ (.cons _ (.cons _ (.cons _ (.refl _)))))))).perm (List.Perm.cons _ (((List.Perm.cons _ (List.Perm.refl _)).trans (List.perm_middle (l₁ := [_])).symm)))).newL
set_option maxRecDepth 100000 in
set_option maxHeartbeats 4000000 in
theorem read_ch {H0 : AHeap} (B : ByteArray) (hB : B.size ≤ 140737488355328) (hyes : gA0 B ≤ B.size) (hmz : ¬ maxL (gBk B) = 0) (hmxl : maxL (gBk B) < 4294967296) : ACalls Try.prog 15 [.string B] H0 (fun v H' => (gC B ≠ 0 ∧ v = .tuple #[.agg #[.int .u32 0, .int .u32 0, .slice none 0 0, .slice none 0 0, .slice none 0 0], .agg #[.int .i64 ((gC B : Nat) : Int), .int .u64 ((gAt B : Nat) : Int), .string ⟨#[]⟩]] ∧ K0 H0 H') ∨ (gC B = 0 ∧ ∃ b1 b2 b3, v = .tuple #[.agg #[.int .u32 ((gF0 B : Nat) : Int), .int .u32 ((gSh B : Nat) : Int), .slice (some ⟨b1, 0, none⟩) (gM B) (gM B), .slice (some ⟨b2, 0, none⟩) (gN B) (gN B), .slice (some ⟨b3, 0, none⟩) (gK B) (gK B)], .agg #[.int .i64 0, .int .u64 0, .string ⟨#[]⟩]] ∧ NewL H0 H' [(b3, .cells true ((chL B (gA0 B) (gK B)).map u32v) 1), (b2, .cells true ((gBk B).map u32v) 1), (b1, .cells true ((gBl B).map u64v) 1)])) := by
  have hF : Wd Fence.wide := .inl rfl
  have hM : Try.prog.follows .mixedOrders = true := by kernel_rfl
  have hn4 : gN B < 4294967296 := atV_lt4 B 0
  have hf4 : gF0 B < 4294967296 := atV_lt4 B 4
  have hm4 : gM B < 4294967296 := atV_lt4 B 8
  have hs4 : gSh B < 4294967296 := atV_lt4 B 12
  have hbl := gBk_len (B := B)
  have hgA : gA0 B = 16 + gM B * 8 + gN B * 4 := rfl
  have s0 := St.begin H0
  refine acalls_st Try.func15 rfl Try.ntmps15 rfl ?_
  refine awp_seq ?_
  refine awp_regs hF ?_
  refine x_new (fun b => .pointer (some ⟨b, 0, none⟩)) s0 (gyes_none rfl) (q_alloc (vs := [.int .u32 0, .int .u32 0, .slice none 0 0, .slice none 0 0, .slice none 0 0]) 5 Try.zeroValue31 (by first | exact flat_scalar rfl | exact flat_agg rfl) rfl) rfl (by decide) (by simp [Op.operands, Call.operands]) (fun b1 H2 hb4 s3 => ?_)
  refine x_new (fun b => .pointer (some ⟨b, 0, none⟩)) s3 (gyes_none rfl) (q_alloc (vs := [.int .i64 0, .int .u64 0, .string ⟨#[]⟩]) 3 Try.zeroValue47 (by first | exact flat_scalar rfl | exact flat_agg rfl) rfl) rfl (by decide) (by simp [Op.operands, Call.operands]) (fun b5 H6 hb8 s7 => ?_)
  refine ⟨_, Wk.refl _ _, ?_⟩
  show awp _ _ _ _ _ _ _
  refine awp_seq ?_
  refine awp_regs hF ?_
  refine dv (gyes_none rfl) (q_mv (v := .string B) rfl) rfl (by decide) (cok1 trivial) ?_
  refine dv (gyes_none rfl) (q_call0 Try.call28 rfl (number_ok B 0 hB (by decide))) rfl (by decide) (call_ok rfl) ?_
  refine dv (gyes_none rfl) (q_mv (v := .string B) rfl) rfl (by decide) (cok1 trivial) ?_
  refine dv (gyes_none rfl) (q_call0 Try.call28 rfl (number_ok B 4 hB (by decide))) rfl (by decide) (call_ok rfl) ?_
  refine dv (gyes_none rfl) (q_mv (v := .string B) rfl) rfl (by decide) (cok1 trivial) ?_
  refine dv (gyes_none rfl) (q_call0 Try.call28 rfl (number_ok B 8 hB (by decide))) rfl (by decide) (call_ok rfl) ?_
  refine dv (gyes_none rfl) (q_mv (v := .string B) rfl) rfl (by decide) (cok1 trivial) ?_
  refine dv (gyes_none rfl) (q_call0 Try.call28 rfl (number_ok B 12 hB (by decide))) rfl (by decide) (call_ok rfl) ?_
  refine dv (gyes_none rfl) (q_as (v := .int .u64 ((gN B : Nat) : Int)) rfl) rfl (by decide) (cok1 trivial) ?_
  refine dv (gyes_none rfl) (q_as (v := .int .u64 ((gF0 B : Nat) : Int)) rfl) rfl (by decide) (cok1 trivial) ?_
  refine dv (gyes_none rfl) (q_as (v := .int .u64 ((gM B : Nat) : Int)) rfl) rfl (by decide) (cok1 trivial) ?_
  refine dv (gyes_none rfl) (q_as (v := .int .u64 ((gSh B : Nat) : Int)) rfl) rfl (by decide) (cok1 trivial) ?_
  refine ⟨_, Wk.refl _ _, ?_⟩
  show awp _ _ _ _ _ _ _
  refine awp_seq ?_
  refine awp_regs hF ?_
  refine dv (gyes_none rfl) (q_mv (v := .int .u64 ((gF0 B : Nat) : Int)) rfl) rfl (by decide) (cok1 trivial) ?_
  refine dv (gyes_none rfl) (q_convin (a := ((gF0 B : Nat) : Int)) Try.underlying45 Try.underlying27 rfl (u32_in (by omega))) rfl (by decide) (cok1 trivial) ?_
  refine dv (gyes_none rfl) (q_mv (v := .int .u64 ((gSh B : Nat) : Int)) rfl) rfl (by decide) (cok1 trivial) ?_
  refine dv (gyes_none rfl) (q_convin (a := ((gSh B : Nat) : Int)) Try.underlying45 Try.underlying27 rfl (u32_in (by omega))) rfl (by decide) (cok1 trivial) ?_
  refine dv (gyes_none rfl) (q_buildL (ds := [.int .u32 ((gF0 B : Nat) : Int), .int .u32 ((gSh B : Nat) : Int), .slice none 0 0, .slice none 0 0, .slice none 0 0]) [(0, 1), (1, 1), (2, 1), (3, 1), (4, 1)] [.int .u32 ((gF0 B : Nat) : Int), .int .u32 ((gSh B : Nat) : Int)] Try.underlying31 Try.zeroValue31 (by first | exact flat_agg rfl | exact flat_scalar rfl) (by kernel_rfl) ⟨rfl, rfl, trivial⟩ (lvsC (by exact trivial) (lvsC (by exact trivial) lvs0)) rfl) rfl (by decide) (cok2 trivial trivial) ?_
  refine x_new (fun b => .pointer (some ⟨b, 0, none⟩)) s7 (gyes_none rfl) (q_alloc (vs := [.int .u32 0, .int .u32 0, .slice none 0 0, .slice none 0 0, .slice none 0 0]) 5 Try.zeroValue31 (by first | exact flat_scalar rfl | exact flat_agg rfl) rfl) rfl (by decide) (by simp [Op.operands, Call.operands]) (fun b9 H10 hb12 s11 => ?_)
  refine x_store [] hF s11 (by kernel_rfl) (gyes_none rfl) (j := 0) (v := .agg #[.int .u32 ((gF0 B : Nat) : Int), .int .u32 ((gSh B : Nat) : Int), .slice none 0 0, .slice none 0 0, .slice none 0 0]) rfl Try.sizeOf31 rfl rfl rfl rfl rfl trivial (lcsA ⟨(lc_scalar rfl), (lc_scalar rfl), (lc_scalar rfl), (lc_scalar rfl), (lc_scalar rfl), trivial⟩) (Nat.le_of_ble_eq_true rfl) trivial trivial rfl rfl (F' := [(b9, .cells true [.int .u32 ((gF0 B : Nat) : Int), .int .u32 ((gSh B : Nat) : Int), .slice none 0 0, .slice none 0 0, .slice none 0 0] 5), (b5, .cells true [.int .i64 0, .int .u64 0, .string ⟨#[]⟩] 3), (b1, .cells true [.int .u32 0, .int .u32 0, .slice none 0 0, .slice none 0 0, .slice none 0 0] 5)]) rfl (fun H13 s14 => ⟨?_, ?_⟩)
  · exact trivial
  refine ⟨_, Wk.refl _ _, ?_⟩
  show awp _ _ _ _ _ _ _
  refine awp_seq ?_
  refine awp_block ?_
  refine awp_seq ?_
  refine awp_regs hF ?_
  refine dv (gyes_none rfl) (q_mv (v := .string B) rfl) rfl (by decide) (cok1 trivial) ?_
  refine dv (gyes_none rfl) (q_len_str Try.underlying9 rfl) rfl (by decide) (cok1 trivial) ?_
  refine dvb (gyes_none rfl) (q_int rfl rfl rfl) rfl (by decide) (cok2 trivial (cconst rfl)) (fun c1 => ?_) (fun c1 => ?_)
  ·
    replace c1 := of_decide_eq_true c1
    refine dv (gyes_none rfl) (q_as (v := .bool true) rfl) rfl (by decide) (cok1 trivial) ?_
    refine ⟨_, Wk.refl _ _, ?_⟩
    show awp _ _ _ _ _ _ _
    refine awp_cond_t rfl ?_
    refine awp_seq ?_
    refine awp_regs hF ?_
    refine dv (gyes_none rfl) (q_buildL (ds := [.int .u32 0, .int .u32 0, .slice none 0 0, .slice none 0 0, .slice none 0 0]) [(0, 1), (1, 1), (2, 1), (3, 1), (4, 1)] [] Try.underlying31 Try.zeroValue31 (by first | exact flat_agg rfl | exact flat_scalar rfl) (by kernel_rfl) trivial lvs0 rfl) rfl (by decide) (by simp [Op.operands, Call.operands]) ?_
    refine dv (gyes_none rfl) (q_call0 Try.call29 rfl (failOf_ok 2)) rfl (by decide) (cok2 trivial (cconst rfl)) ?_
    refine x_store [] hF s14 (by kernel_rfl) (gyes_none rfl) (j := 2) (v := .agg #[.int .u32 0, .int .u32 0, .slice none 0 0, .slice none 0 0, .slice none 0 0]) rfl Try.sizeOf31 rfl rfl rfl rfl rfl trivial (lcsA ⟨(lc_scalar rfl), (lc_scalar rfl), (lc_scalar rfl), (lc_scalar rfl), (lc_scalar rfl), trivial⟩) (Nat.le_of_ble_eq_true rfl) trivial trivial rfl rfl (F' := [(b9, .cells true [.int .u32 ((gF0 B : Nat) : Int), .int .u32 ((gSh B : Nat) : Int), .slice none 0 0, .slice none 0 0, .slice none 0 0] 5), (b5, .cells true [.int .i64 0, .int .u64 0, .string ⟨#[]⟩] 3), (b1, .cells true [.int .u32 0, .int .u32 0, .slice none 0 0, .slice none 0 0, .slice none 0 0] 5)]) rfl (fun H15 s16 => ⟨?_, ?_⟩)
    · exact trivial
    refine x_store [] hF s16 (by kernel_rfl) (gyes_none rfl) (j := 1) (v := .agg #[.int .i64 2, .int .u64 0, .string (⟨#[]⟩ : ByteArray)]) rfl Try.sizeOf47 rfl rfl rfl rfl rfl trivial (lcsA ⟨(lc_scalar rfl), (lc_scalar rfl), (lc_scalar rfl), trivial⟩) (Nat.le_of_ble_eq_true rfl) trivial trivial rfl rfl (F' := [(b9, .cells true [.int .u32 ((gF0 B : Nat) : Int), .int .u32 ((gSh B : Nat) : Int), .slice none 0 0, .slice none 0 0, .slice none 0 0] 5), (b5, .cells true [.int .i64 2, .int .u64 0, .string (⟨#[]⟩ : ByteArray)] 3), (b1, .cells true [.int .u32 0, .int .u32 0, .slice none 0 0, .slice none 0 0, .slice none 0 0] 5)]) rfl (fun H17 s18 => ⟨?_, ?_⟩)
    · exact trivial
    refine ⟨_, Wk.refl _ _, ?_⟩
    show awp _ _ _ _ _ _ _
    refine awp_ret_wk ?_
    obtain ⟨e1, e2⟩ := gc_short (B := B) (by omega)
    refine ⟨_, Wk.refl _ _, ?_⟩
    repeat (with_reducible first | refine then_ret ?_ | refine blk_ret ?_ | refine then_exit ?_ | refine blk_exit ?_ | refine blk_exit' (by decide) ?_ | refine blk_normal ?_ | refine then_normal ?_ | refine retq_ret ?_ | refine retq_normal ?_ | refine ng_normal ?_ | refine ng_ret ?_ | refine ng_exit ?_)
    refine ret_is (v := .tuple #[.agg #[.int .u32 0, .int .u32 0, .slice none 0 0, .slice none 0 0, .slice none 0 0], .agg #[.int .i64 2, .int .u64 0, .string (⟨#[]⟩ : ByteArray)]]) rfl (.agg rfl Try.isAgg31 Try.sizeOf31 (s18.rd (j := 2) rfl) (Nat.le_of_ble_eq_true rfl) rfl (.agg rfl Try.isAgg47 Try.sizeOf47 (s18.rd (j := 1) rfl) (Nat.le_of_ble_eq_true rfl) rfl .nil)) rfl ?_
    exact .inl ⟨by rw [e1]; decide, by rw [e1, e2]; first | done | rfl, s18.kp⟩
  ·
    replace c1 := of_decide_eq_false c1
    refine dv (gyes_none rfl) (q_as (v := .bool false) rfl) rfl (by decide) (cok1 trivial) ?_
    refine ⟨_, Wk.refl _ _, ?_⟩
    show awp _ _ _ _ _ _ _
    refine awp_cond_f rfl ?_
    refine awp_seq ?_
    refine awp_regs hF ?_
    refine dv (gyes_none rfl) (q_mv (v := .int .u64 ((gN B : Nat) : Int)) rfl) rfl (by decide) (cok1 trivial) ?_
    refine dvb (gyes_none rfl) (q_int rfl rfl rfl) rfl (by decide) (cok2 trivial (cconst rfl)) (fun c2 => ?_) (fun c2 => ?_)
    ·
      replace c2 := eq_of_beq c2
      refine dv (gyes_none rfl) (q_mv (v := .bool true) rfl) rfl (by decide) (cok1 trivial) ?_
      refine dno rfl (.inl rfl) rfl (by decide) ?_
      refine dno rfl (.inl rfl) rfl (by decide) ?_
      refine dv (gyes_none rfl) (q_pt (v := .bool true) rfl rfl) rfl (by decide) (call_ok rfl) ?_
      refine dv (gyes_none rfl) (q_as (v := .bool true) rfl) rfl (by decide) (cok1 trivial) ?_
      refine ⟨_, Wk.refl _ _, ?_⟩
      show awp _ _ _ _ _ _ _
      refine awp_cond_t rfl ?_
      refine awp_seq ?_
      refine awp_regs hF ?_
      refine dv (gyes_none rfl) (q_buildL (ds := [.int .u32 0, .int .u32 0, .slice none 0 0, .slice none 0 0, .slice none 0 0]) [(0, 1), (1, 1), (2, 1), (3, 1), (4, 1)] [] Try.underlying31 Try.zeroValue31 (by first | exact flat_agg rfl | exact flat_scalar rfl) (by kernel_rfl) trivial lvs0 rfl) rfl (by decide) (by simp [Op.operands, Call.operands]) ?_
      refine dv (gyes_none rfl) (q_call0 Try.call29 rfl (failOf_ok 4)) rfl (by decide) (cok2 trivial (cconst rfl)) ?_
      refine x_store [] hF s14 (by kernel_rfl) (gyes_none rfl) (j := 2) (v := .agg #[.int .u32 0, .int .u32 0, .slice none 0 0, .slice none 0 0, .slice none 0 0]) rfl Try.sizeOf31 rfl rfl rfl rfl rfl trivial (lcsA ⟨(lc_scalar rfl), (lc_scalar rfl), (lc_scalar rfl), (lc_scalar rfl), (lc_scalar rfl), trivial⟩) (Nat.le_of_ble_eq_true rfl) trivial trivial rfl rfl (F' := [(b9, .cells true [.int .u32 ((gF0 B : Nat) : Int), .int .u32 ((gSh B : Nat) : Int), .slice none 0 0, .slice none 0 0, .slice none 0 0] 5), (b5, .cells true [.int .i64 0, .int .u64 0, .string ⟨#[]⟩] 3), (b1, .cells true [.int .u32 0, .int .u32 0, .slice none 0 0, .slice none 0 0, .slice none 0 0] 5)]) rfl (fun H19 s20 => ⟨?_, ?_⟩)
      · exact trivial
      refine x_store [] hF s20 (by kernel_rfl) (gyes_none rfl) (j := 1) (v := .agg #[.int .i64 4, .int .u64 0, .string (⟨#[]⟩ : ByteArray)]) rfl Try.sizeOf47 rfl rfl rfl rfl rfl trivial (lcsA ⟨(lc_scalar rfl), (lc_scalar rfl), (lc_scalar rfl), trivial⟩) (Nat.le_of_ble_eq_true rfl) trivial trivial rfl rfl (F' := [(b9, .cells true [.int .u32 ((gF0 B : Nat) : Int), .int .u32 ((gSh B : Nat) : Int), .slice none 0 0, .slice none 0 0, .slice none 0 0] 5), (b5, .cells true [.int .i64 4, .int .u64 0, .string (⟨#[]⟩ : ByteArray)] 3), (b1, .cells true [.int .u32 0, .int .u32 0, .slice none 0 0, .slice none 0 0, .slice none 0 0] 5)]) rfl (fun H21 s22 => ⟨?_, ?_⟩)
      · exact trivial
      refine ⟨_, Wk.refl _ _, ?_⟩
      show awp _ _ _ _ _ _ _
      refine awp_ret_wk ?_
      obtain ⟨e1, e2⟩ := gc_zero (B := B) (by omega) (by omega)
      refine ⟨_, Wk.refl _ _, ?_⟩
      repeat (with_reducible first | refine then_ret ?_ | refine blk_ret ?_ | refine then_exit ?_ | refine blk_exit ?_ | refine blk_exit' (by decide) ?_ | refine blk_normal ?_ | refine then_normal ?_ | refine retq_ret ?_ | refine retq_normal ?_ | refine ng_normal ?_ | refine ng_ret ?_ | refine ng_exit ?_)
      refine ret_is (v := .tuple #[.agg #[.int .u32 0, .int .u32 0, .slice none 0 0, .slice none 0 0, .slice none 0 0], .agg #[.int .i64 4, .int .u64 0, .string (⟨#[]⟩ : ByteArray)]]) rfl (.agg rfl Try.isAgg31 Try.sizeOf31 (s22.rd (j := 2) rfl) (Nat.le_of_ble_eq_true rfl) rfl (.agg rfl Try.isAgg47 Try.sizeOf47 (s22.rd (j := 1) rfl) (Nat.le_of_ble_eq_true rfl) rfl .nil)) rfl ?_
      exact .inl ⟨by rw [e1]; decide, by rw [e1, e2]; first | done | rfl, s22.kp⟩
    ·
      replace c2 := ne_of_beq_false c2
      refine dv (gyes_none rfl) (q_mv (v := .bool false) rfl) rfl (by decide) (cok1 trivial) ?_
      refine dv (gyes_some rfl rfl) (q_mv (v := .int .u64 ((gM B : Nat) : Int)) rfl) rfl (by decide) (cok1 trivial) ?_
      refine dvb (gyes_some rfl rfl) (q_int rfl rfl rfl) rfl (by decide) (cok2 trivial (cconst rfl)) (fun c3 => ?_) (fun c3 => ?_)
      ·
        replace c3 := eq_of_beq c3
        refine dv (gyes_none rfl) (q_pf (v := .bool true) rfl rfl) rfl (by decide) (call_ok rfl) ?_
        refine dv (gyes_none rfl) (q_as (v := .bool true) rfl) rfl (by decide) (cok1 trivial) ?_
        refine ⟨_, Wk.refl _ _, ?_⟩
        show awp _ _ _ _ _ _ _
        refine awp_cond_t rfl ?_
        refine awp_seq ?_
        refine awp_regs hF ?_
        refine dv (gyes_none rfl) (q_buildL (ds := [.int .u32 0, .int .u32 0, .slice none 0 0, .slice none 0 0, .slice none 0 0]) [(0, 1), (1, 1), (2, 1), (3, 1), (4, 1)] [] Try.underlying31 Try.zeroValue31 (by first | exact flat_agg rfl | exact flat_scalar rfl) (by kernel_rfl) trivial lvs0 rfl) rfl (by decide) (by simp [Op.operands, Call.operands]) ?_
        refine dv (gyes_none rfl) (q_call0 Try.call29 rfl (failOf_ok 4)) rfl (by decide) (cok2 trivial (cconst rfl)) ?_
        refine x_store [] hF s14 (by kernel_rfl) (gyes_none rfl) (j := 2) (v := .agg #[.int .u32 0, .int .u32 0, .slice none 0 0, .slice none 0 0, .slice none 0 0]) rfl Try.sizeOf31 rfl rfl rfl rfl rfl trivial (lcsA ⟨(lc_scalar rfl), (lc_scalar rfl), (lc_scalar rfl), (lc_scalar rfl), (lc_scalar rfl), trivial⟩) (Nat.le_of_ble_eq_true rfl) trivial trivial rfl rfl (F' := [(b9, .cells true [.int .u32 ((gF0 B : Nat) : Int), .int .u32 ((gSh B : Nat) : Int), .slice none 0 0, .slice none 0 0, .slice none 0 0] 5), (b5, .cells true [.int .i64 0, .int .u64 0, .string ⟨#[]⟩] 3), (b1, .cells true [.int .u32 0, .int .u32 0, .slice none 0 0, .slice none 0 0, .slice none 0 0] 5)]) rfl (fun H23 s24 => ⟨?_, ?_⟩)
        · exact trivial
        refine x_store [] hF s24 (by kernel_rfl) (gyes_none rfl) (j := 1) (v := .agg #[.int .i64 4, .int .u64 0, .string (⟨#[]⟩ : ByteArray)]) rfl Try.sizeOf47 rfl rfl rfl rfl rfl trivial (lcsA ⟨(lc_scalar rfl), (lc_scalar rfl), (lc_scalar rfl), trivial⟩) (Nat.le_of_ble_eq_true rfl) trivial trivial rfl rfl (F' := [(b9, .cells true [.int .u32 ((gF0 B : Nat) : Int), .int .u32 ((gSh B : Nat) : Int), .slice none 0 0, .slice none 0 0, .slice none 0 0] 5), (b5, .cells true [.int .i64 4, .int .u64 0, .string (⟨#[]⟩ : ByteArray)] 3), (b1, .cells true [.int .u32 0, .int .u32 0, .slice none 0 0, .slice none 0 0, .slice none 0 0] 5)]) rfl (fun H25 s26 => ⟨?_, ?_⟩)
        · exact trivial
        refine ⟨_, Wk.refl _ _, ?_⟩
        show awp _ _ _ _ _ _ _
        refine awp_ret_wk ?_
        obtain ⟨e1, e2⟩ := gc_zero (B := B) (by omega) (by omega)
        refine ⟨_, Wk.refl _ _, ?_⟩
        repeat (with_reducible first | refine then_ret ?_ | refine blk_ret ?_ | refine then_exit ?_ | refine blk_exit ?_ | refine blk_exit' (by decide) ?_ | refine blk_normal ?_ | refine then_normal ?_ | refine retq_ret ?_ | refine retq_normal ?_ | refine ng_normal ?_ | refine ng_ret ?_ | refine ng_exit ?_)
        refine ret_is (v := .tuple #[.agg #[.int .u32 0, .int .u32 0, .slice none 0 0, .slice none 0 0, .slice none 0 0], .agg #[.int .i64 4, .int .u64 0, .string (⟨#[]⟩ : ByteArray)]]) rfl (.agg rfl Try.isAgg31 Try.sizeOf31 (s26.rd (j := 2) rfl) (Nat.le_of_ble_eq_true rfl) rfl (.agg rfl Try.isAgg47 Try.sizeOf47 (s26.rd (j := 1) rfl) (Nat.le_of_ble_eq_true rfl) rfl .nil)) rfl ?_
        exact .inl ⟨by rw [e1]; decide, by rw [e1, e2]; first | done | rfl, s26.kp⟩
      ·
        replace c3 := ne_of_beq_false c3
        refine dv (gyes_none rfl) (q_pf (v := .bool false) rfl rfl) rfl (by decide) (call_ok rfl) ?_
        refine dv (gyes_none rfl) (q_as (v := .bool false) rfl) rfl (by decide) (cok1 trivial) ?_
        refine ⟨_, Wk.refl _ _, ?_⟩
        show awp _ _ _ _ _ _ _
        refine awp_cond_f rfl ?_
        refine awp_seq ?_
        refine awp_regs hF ?_
        refine dv (gyes_none rfl) (q_mv (v := .int .u64 ((gN B : Nat) : Int)) rfl) rfl (by decide) (cok1 trivial) ?_
        refine dvb (gyes_none rfl) (q_int rfl rfl rfl) rfl (by decide) (cok2 trivial (cconst rfl)) (fun c4 => ?_) (fun c4 => ?_)
        ·
          replace c4 := of_decide_eq_true c4
          refine dv (gyes_none rfl) (q_mv (v := .bool true) rfl) rfl (by decide) (cok1 trivial) ?_
          refine dno rfl (.inl rfl) rfl (by decide) ?_
          refine dno rfl (.inl rfl) rfl (by decide) ?_
          refine dv (gyes_none rfl) (q_pt (v := .bool true) rfl rfl) rfl (by decide) (call_ok rfl) ?_
          refine dv (gyes_none rfl) (q_mv (v := .bool true) rfl) rfl (by decide) (cok1 trivial) ?_
          refine dno rfl (.inl rfl) rfl (by decide) ?_
          refine dno rfl (.inl rfl) rfl (by decide) ?_
          refine dv (gyes_none rfl) (q_pt (v := .bool true) rfl rfl) rfl (by decide) (call_ok rfl) ?_
          refine dv (gyes_none rfl) (q_as (v := .bool true) rfl) rfl (by decide) (cok1 trivial) ?_
          refine ⟨_, Wk.refl _ _, ?_⟩
          show awp _ _ _ _ _ _ _
          refine awp_cond_t rfl ?_
          refine awp_seq ?_
          refine awp_regs hF ?_
          refine dv (gyes_none rfl) (q_buildL (ds := [.int .u32 0, .int .u32 0, .slice none 0 0, .slice none 0 0, .slice none 0 0]) [(0, 1), (1, 1), (2, 1), (3, 1), (4, 1)] [] Try.underlying31 Try.zeroValue31 (by first | exact flat_agg rfl | exact flat_scalar rfl) (by kernel_rfl) trivial lvs0 rfl) rfl (by decide) (by simp [Op.operands, Call.operands]) ?_
          refine dv (gyes_none rfl) (q_call0 Try.call29 rfl (failOf_ok 6)) rfl (by decide) (cok2 trivial (cconst rfl)) ?_
          refine x_store [] hF s14 (by kernel_rfl) (gyes_none rfl) (j := 2) (v := .agg #[.int .u32 0, .int .u32 0, .slice none 0 0, .slice none 0 0, .slice none 0 0]) rfl Try.sizeOf31 rfl rfl rfl rfl rfl trivial (lcsA ⟨(lc_scalar rfl), (lc_scalar rfl), (lc_scalar rfl), (lc_scalar rfl), (lc_scalar rfl), trivial⟩) (Nat.le_of_ble_eq_true rfl) trivial trivial rfl rfl (F' := [(b9, .cells true [.int .u32 ((gF0 B : Nat) : Int), .int .u32 ((gSh B : Nat) : Int), .slice none 0 0, .slice none 0 0, .slice none 0 0] 5), (b5, .cells true [.int .i64 0, .int .u64 0, .string ⟨#[]⟩] 3), (b1, .cells true [.int .u32 0, .int .u32 0, .slice none 0 0, .slice none 0 0, .slice none 0 0] 5)]) rfl (fun H27 s28 => ⟨?_, ?_⟩)
          · exact trivial
          refine x_store [] hF s28 (by kernel_rfl) (gyes_none rfl) (j := 1) (v := .agg #[.int .i64 6, .int .u64 0, .string (⟨#[]⟩ : ByteArray)]) rfl Try.sizeOf47 rfl rfl rfl rfl rfl trivial (lcsA ⟨(lc_scalar rfl), (lc_scalar rfl), (lc_scalar rfl), trivial⟩) (Nat.le_of_ble_eq_true rfl) trivial trivial rfl rfl (F' := [(b9, .cells true [.int .u32 ((gF0 B : Nat) : Int), .int .u32 ((gSh B : Nat) : Int), .slice none 0 0, .slice none 0 0, .slice none 0 0] 5), (b5, .cells true [.int .i64 6, .int .u64 0, .string (⟨#[]⟩ : ByteArray)] 3), (b1, .cells true [.int .u32 0, .int .u32 0, .slice none 0 0, .slice none 0 0, .slice none 0 0] 5)]) rfl (fun H29 s30 => ⟨?_, ?_⟩)
          · exact trivial
          refine ⟨_, Wk.refl _ _, ?_⟩
          show awp _ _ _ _ _ _ _
          refine awp_ret_wk ?_
          obtain ⟨e1, e2⟩ := gc_many (B := B) (by omega) (by omega) (by omega)
          refine ⟨_, Wk.refl _ _, ?_⟩
          repeat (with_reducible first | refine then_ret ?_ | refine blk_ret ?_ | refine then_exit ?_ | refine blk_exit ?_ | refine blk_exit' (by decide) ?_ | refine blk_normal ?_ | refine then_normal ?_ | refine retq_ret ?_ | refine retq_normal ?_ | refine ng_normal ?_ | refine ng_ret ?_ | refine ng_exit ?_)
          refine ret_is (v := .tuple #[.agg #[.int .u32 0, .int .u32 0, .slice none 0 0, .slice none 0 0, .slice none 0 0], .agg #[.int .i64 6, .int .u64 0, .string (⟨#[]⟩ : ByteArray)]]) rfl (.agg rfl Try.isAgg31 Try.sizeOf31 (s30.rd (j := 2) rfl) (Nat.le_of_ble_eq_true rfl) rfl (.agg rfl Try.isAgg47 Try.sizeOf47 (s30.rd (j := 1) rfl) (Nat.le_of_ble_eq_true rfl) rfl .nil)) rfl ?_
          exact .inl ⟨by rw [e1]; decide, by rw [e1, e2]; first | done | rfl, s30.kp⟩
        ·
          replace c4 := of_decide_eq_false c4
          refine dv (gyes_none rfl) (q_mv (v := .bool false) rfl) rfl (by decide) (cok1 trivial) ?_
          refine dv (gyes_some rfl rfl) (q_mv (v := .int .u64 ((gM B : Nat) : Int)) rfl) rfl (by decide) (cok1 trivial) ?_
          refine dvb (gyes_some rfl rfl) (q_int rfl rfl rfl) rfl (by decide) (cok2 trivial (cconst rfl)) (fun c5 => ?_) (fun c5 => ?_)
          ·
            replace c5 := of_decide_eq_true c5
            refine dv (gyes_none rfl) (q_pf (v := .bool true) rfl rfl) rfl (by decide) (call_ok rfl) ?_
            refine dv (gyes_none rfl) (q_mv (v := .bool true) rfl) rfl (by decide) (cok1 trivial) ?_
            refine dno rfl (.inl rfl) rfl (by decide) ?_
            refine dno rfl (.inl rfl) rfl (by decide) ?_
            refine dv (gyes_none rfl) (q_pt (v := .bool true) rfl rfl) rfl (by decide) (call_ok rfl) ?_
            refine dv (gyes_none rfl) (q_as (v := .bool true) rfl) rfl (by decide) (cok1 trivial) ?_
            refine ⟨_, Wk.refl _ _, ?_⟩
            show awp _ _ _ _ _ _ _
            refine awp_cond_t rfl ?_
            refine awp_seq ?_
            refine awp_regs hF ?_
            refine dv (gyes_none rfl) (q_buildL (ds := [.int .u32 0, .int .u32 0, .slice none 0 0, .slice none 0 0, .slice none 0 0]) [(0, 1), (1, 1), (2, 1), (3, 1), (4, 1)] [] Try.underlying31 Try.zeroValue31 (by first | exact flat_agg rfl | exact flat_scalar rfl) (by kernel_rfl) trivial lvs0 rfl) rfl (by decide) (by simp [Op.operands, Call.operands]) ?_
            refine dv (gyes_none rfl) (q_call0 Try.call29 rfl (failOf_ok 6)) rfl (by decide) (cok2 trivial (cconst rfl)) ?_
            refine x_store [] hF s14 (by kernel_rfl) (gyes_none rfl) (j := 2) (v := .agg #[.int .u32 0, .int .u32 0, .slice none 0 0, .slice none 0 0, .slice none 0 0]) rfl Try.sizeOf31 rfl rfl rfl rfl rfl trivial (lcsA ⟨(lc_scalar rfl), (lc_scalar rfl), (lc_scalar rfl), (lc_scalar rfl), (lc_scalar rfl), trivial⟩) (Nat.le_of_ble_eq_true rfl) trivial trivial rfl rfl (F' := [(b9, .cells true [.int .u32 ((gF0 B : Nat) : Int), .int .u32 ((gSh B : Nat) : Int), .slice none 0 0, .slice none 0 0, .slice none 0 0] 5), (b5, .cells true [.int .i64 0, .int .u64 0, .string ⟨#[]⟩] 3), (b1, .cells true [.int .u32 0, .int .u32 0, .slice none 0 0, .slice none 0 0, .slice none 0 0] 5)]) rfl (fun H31 s32 => ⟨?_, ?_⟩)
            · exact trivial
            refine x_store [] hF s32 (by kernel_rfl) (gyes_none rfl) (j := 1) (v := .agg #[.int .i64 6, .int .u64 0, .string (⟨#[]⟩ : ByteArray)]) rfl Try.sizeOf47 rfl rfl rfl rfl rfl trivial (lcsA ⟨(lc_scalar rfl), (lc_scalar rfl), (lc_scalar rfl), trivial⟩) (Nat.le_of_ble_eq_true rfl) trivial trivial rfl rfl (F' := [(b9, .cells true [.int .u32 ((gF0 B : Nat) : Int), .int .u32 ((gSh B : Nat) : Int), .slice none 0 0, .slice none 0 0, .slice none 0 0] 5), (b5, .cells true [.int .i64 6, .int .u64 0, .string (⟨#[]⟩ : ByteArray)] 3), (b1, .cells true [.int .u32 0, .int .u32 0, .slice none 0 0, .slice none 0 0, .slice none 0 0] 5)]) rfl (fun H33 s34 => ⟨?_, ?_⟩)
            · exact trivial
            refine ⟨_, Wk.refl _ _, ?_⟩
            show awp _ _ _ _ _ _ _
            refine awp_ret_wk ?_
            obtain ⟨e1, e2⟩ := gc_many (B := B) (by omega) (by omega) (by omega)
            refine ⟨_, Wk.refl _ _, ?_⟩
            repeat (with_reducible first | refine then_ret ?_ | refine blk_ret ?_ | refine then_exit ?_ | refine blk_exit ?_ | refine blk_exit' (by decide) ?_ | refine blk_normal ?_ | refine then_normal ?_ | refine retq_ret ?_ | refine retq_normal ?_ | refine ng_normal ?_ | refine ng_ret ?_ | refine ng_exit ?_)
            refine ret_is (v := .tuple #[.agg #[.int .u32 0, .int .u32 0, .slice none 0 0, .slice none 0 0, .slice none 0 0], .agg #[.int .i64 6, .int .u64 0, .string (⟨#[]⟩ : ByteArray)]]) rfl (.agg rfl Try.isAgg31 Try.sizeOf31 (s34.rd (j := 2) rfl) (Nat.le_of_ble_eq_true rfl) rfl (.agg rfl Try.isAgg47 Try.sizeOf47 (s34.rd (j := 1) rfl) (Nat.le_of_ble_eq_true rfl) rfl .nil)) rfl ?_
            exact .inl ⟨by rw [e1]; decide, by rw [e1, e2]; first | done | rfl, s34.kp⟩
          ·
            replace c5 := of_decide_eq_false c5
            refine dv (gyes_none rfl) (q_pf (v := .bool false) rfl rfl) rfl (by decide) (call_ok rfl) ?_
            refine dv (gyes_none rfl) (q_mv (v := .bool false) rfl) rfl (by decide) (cok1 trivial) ?_
            refine dv (gyes_some rfl rfl) (q_mv (v := .int .u64 ((gF0 B : Nat) : Int)) rfl) rfl (by decide) (cok1 trivial) ?_
            refine dvb (gyes_some rfl rfl) (q_int rfl rfl rfl) rfl (by decide) (cok2 trivial (cconst rfl)) (fun c6 => ?_) (fun c6 => ?_)
            ·
              replace c6 := of_decide_eq_true c6
              refine dv (gyes_none rfl) (q_pf (v := .bool true) rfl rfl) rfl (by decide) (call_ok rfl) ?_
              refine dv (gyes_none rfl) (q_as (v := .bool true) rfl) rfl (by decide) (cok1 trivial) ?_
              refine ⟨_, Wk.refl _ _, ?_⟩
              show awp _ _ _ _ _ _ _
              refine awp_cond_t rfl ?_
              refine awp_seq ?_
              refine awp_regs hF ?_
              refine dv (gyes_none rfl) (q_buildL (ds := [.int .u32 0, .int .u32 0, .slice none 0 0, .slice none 0 0, .slice none 0 0]) [(0, 1), (1, 1), (2, 1), (3, 1), (4, 1)] [] Try.underlying31 Try.zeroValue31 (by first | exact flat_agg rfl | exact flat_scalar rfl) (by kernel_rfl) trivial lvs0 rfl) rfl (by decide) (by simp [Op.operands, Call.operands]) ?_
              refine dv (gyes_none rfl) (q_call0 Try.call29 rfl (failOf_ok 6)) rfl (by decide) (cok2 trivial (cconst rfl)) ?_
              refine x_store [] hF s14 (by kernel_rfl) (gyes_none rfl) (j := 2) (v := .agg #[.int .u32 0, .int .u32 0, .slice none 0 0, .slice none 0 0, .slice none 0 0]) rfl Try.sizeOf31 rfl rfl rfl rfl rfl trivial (lcsA ⟨(lc_scalar rfl), (lc_scalar rfl), (lc_scalar rfl), (lc_scalar rfl), (lc_scalar rfl), trivial⟩) (Nat.le_of_ble_eq_true rfl) trivial trivial rfl rfl (F' := [(b9, .cells true [.int .u32 ((gF0 B : Nat) : Int), .int .u32 ((gSh B : Nat) : Int), .slice none 0 0, .slice none 0 0, .slice none 0 0] 5), (b5, .cells true [.int .i64 0, .int .u64 0, .string ⟨#[]⟩] 3), (b1, .cells true [.int .u32 0, .int .u32 0, .slice none 0 0, .slice none 0 0, .slice none 0 0] 5)]) rfl (fun H35 s36 => ⟨?_, ?_⟩)
              · exact trivial
              refine x_store [] hF s36 (by kernel_rfl) (gyes_none rfl) (j := 1) (v := .agg #[.int .i64 6, .int .u64 0, .string (⟨#[]⟩ : ByteArray)]) rfl Try.sizeOf47 rfl rfl rfl rfl rfl trivial (lcsA ⟨(lc_scalar rfl), (lc_scalar rfl), (lc_scalar rfl), trivial⟩) (Nat.le_of_ble_eq_true rfl) trivial trivial rfl rfl (F' := [(b9, .cells true [.int .u32 ((gF0 B : Nat) : Int), .int .u32 ((gSh B : Nat) : Int), .slice none 0 0, .slice none 0 0, .slice none 0 0] 5), (b5, .cells true [.int .i64 6, .int .u64 0, .string (⟨#[]⟩ : ByteArray)] 3), (b1, .cells true [.int .u32 0, .int .u32 0, .slice none 0 0, .slice none 0 0, .slice none 0 0] 5)]) rfl (fun H37 s38 => ⟨?_, ?_⟩)
              · exact trivial
              refine ⟨_, Wk.refl _ _, ?_⟩
              show awp _ _ _ _ _ _ _
              refine awp_ret_wk ?_
              obtain ⟨e1, e2⟩ := gc_many (B := B) (by omega) (by omega) (by omega)
              refine ⟨_, Wk.refl _ _, ?_⟩
              repeat (with_reducible first | refine then_ret ?_ | refine blk_ret ?_ | refine then_exit ?_ | refine blk_exit ?_ | refine blk_exit' (by decide) ?_ | refine blk_normal ?_ | refine then_normal ?_ | refine retq_ret ?_ | refine retq_normal ?_ | refine ng_normal ?_ | refine ng_ret ?_ | refine ng_exit ?_)
              refine ret_is (v := .tuple #[.agg #[.int .u32 0, .int .u32 0, .slice none 0 0, .slice none 0 0, .slice none 0 0], .agg #[.int .i64 6, .int .u64 0, .string (⟨#[]⟩ : ByteArray)]]) rfl (.agg rfl Try.isAgg31 Try.sizeOf31 (s38.rd (j := 2) rfl) (Nat.le_of_ble_eq_true rfl) rfl (.agg rfl Try.isAgg47 Try.sizeOf47 (s38.rd (j := 1) rfl) (Nat.le_of_ble_eq_true rfl) rfl .nil)) rfl ?_
              exact .inl ⟨by rw [e1]; decide, by rw [e1, e2]; first | done | rfl, s38.kp⟩
            ·
              replace c6 := of_decide_eq_false c6
              refine dv (gyes_none rfl) (q_pf (v := .bool false) rfl rfl) rfl (by decide) (call_ok rfl) ?_
              refine dv (gyes_none rfl) (q_as (v := .bool false) rfl) rfl (by decide) (cok1 trivial) ?_
              refine ⟨_, Wk.refl _ _, ?_⟩
              show awp _ _ _ _ _ _ _
              refine awp_cond_f rfl ?_
              refine awp_skip_wk ?_
              refine ⟨_, Wk.refl _ _, ?_⟩
              show awp _ _ _ _ _ _ _
              refine awp_seq ?_
              refine awp_regs hF ?_
              refine dv (gyes_none rfl) (q_mv (v := .string B) rfl) rfl (by decide) (cok1 trivial) ?_
              refine dv (gyes_none rfl) (q_mv (v := .int .u64 ((gN B : Nat) : Int)) rfl) rfl (by decide) (cok1 trivial) ?_
              refine dv (gyes_none rfl) (q_mv (v := .int .u64 ((gM B : Nat) : Int)) rfl) rfl (by decide) (cok1 trivial) ?_
              refine x_call [] hF (by kernel_rfl) (gyes_none rfl) Try.call30 rfl (args := [.pointer (some ⟨b9, 0, none⟩), .string B, .int .u64 ((gN B : Nat) : Int), .int .u64 ((gM B : Nat) : Int)]) rfl (body_yes b9 (gF0 B) (gSh B) B hB (gN B) (gM B) ⟨by omega, by omega⟩ ⟨by omega, by omega⟩ hyes (s14.getj (j := 0) rfl)) (show _ < _ by decide) (call_ok rfl) rfl rfl (fun _ _ _ _ hd => by cases hd) ?_
              rintro _ H41 ⟨rfl, hk42, b39, b40, hl43, hl44, hn45, h46, h47, h48⟩
              have s49 := s14.turn1L (j := 0) rfl hk42 h46 [(b39, .cells true ((gBl B).map u64v) 1), (b40, .cells true ((gBk B).map u32v) 1)] (nod2 hn45) (by intro p hp; rcases List.mem_cons.1 hp with rfl | hp; exact hl43; rw [List.mem_singleton.1 hp]; exact hl44) ⟨h47, h48, trivial⟩
              refine ⟨trivial, ?_⟩
              show dList _ _ _ _ _ _ _ _ _ _
              refine dv (gyes_none rfl) (q_mv (v := .tuple #[.int .u64 ((gA0 B : Nat) : Int), .bool true]) rfl) rfl (by decide) (cok1 trivial) ?_
              refine dv (gyes_none rfl) (q_extract (v := .int .u64 ((gA0 B : Nat) : Int)) rfl rfl) rfl (by decide) (cok1 trivial) ?_
              refine dv (gyes_none rfl) (q_extract (v := .bool true) rfl rfl) rfl (by decide) (cok1 trivial) ?_
              refine dv (gyes_none rfl) (q_as (v := .int .u64 ((gA0 B : Nat) : Int)) rfl) rfl (by decide) (cok1 trivial) ?_
              refine dv (gyes_none rfl) (q_as (v := .bool true) rfl) rfl (by decide) (cok1 trivial) ?_
              refine ⟨_, Wk.refl _ _, ?_⟩
              show awp _ _ _ _ _ _ _
              refine awp_seq ?_
              refine awp_seq ?_
              refine awp_regs hF ?_
              refine dv (gyes_none rfl) (q_mv (v := .bool true) rfl) rfl (by decide) (cok1 trivial) ?_
              refine dv (gyes_none rfl) (q_not (b := true) rfl) rfl (by decide) (cok1 trivial) ?_
              refine ⟨_, Wk.refl _ _, ?_⟩
              show awp _ _ _ _ _ _ _
              refine awp_cond_f rfl ?_
              refine awp_skip_wk ?_
              refine ⟨_, Wk.refl _ _, ?_⟩
              show awp _ _ _ _ _ _ _
              refine awp_seq ?_
              refine awp_seq ?_
              refine awp_regs hF ?_
              refine dv (gyes_none rfl) (q_field Try.underlying31 rfl Try.sizeOf29 rfl (s49.rd (j := 2) rfl)) rfl (by decide) (cok1 trivial) ?_
              refine dv (gyes_none rfl) (q_load (v := .slice (some ⟨b40, 0, none⟩) (gN B) (gN B)) Try.isAgg29 rfl (s49.rd (j := 2) rfl) rfl) rfl (by decide) (cok1 trivial) ?_
              refine dv (gyes_none rfl) (q_len_slice Try.underlying29 rfl (s49.rd (j := 1) rfl)) rfl (by decide) (cok1 trivial) ?_
              refine dv (gyes_none rfl) (q_mv (v := .int .i64 0) rfl) rfl (by decide) (cok1 (cconst rfl)) ?_
              refine ⟨_, Wk.refl _ _, ?_⟩
              show awp _ _ _ _ _ _ _
              refine awp_block ?_
              refine awp_wk (Wk.U [(0, .string B), (2, .pointer (some ⟨b1, 0, none⟩)), (3, .pointer (some ⟨b5, 0, none⟩)), (4, .int .u64 ((gN B : Nat) : Int)), (5, .int .u64 ((gF0 B : Nat) : Int)), (6, .int .u64 ((gM B : Nat) : Int)), (7, .int .u64 ((gSh B : Nat) : Int)), (8, .pointer (some ⟨b9, 0, none⟩)), (9, .int .u64 ((gA0 B : Nat) : Int)), (67, .slice (some ⟨b40, 0, none⟩) (gN B) (gN B)), (68, .int .i64 ((gN B : Nat) : Int)), (69, .int .i64 0)] ⟨rfl, rfl, rfl, rfl, rfl, rfl, rfl, rfl, rfl, rfl, rfl, rfl, trivial⟩) ?_
              refine awp_loop (fun (i : Nat) st => ∃ (H50 : AHeap), st = ⟨106, U [(0, .string B), (2, .pointer (some ⟨b1, 0, none⟩)), (3, .pointer (some ⟨b5, 0, none⟩)), (4, .int .u64 ((gN B : Nat) : Int)), (5, .int .u64 ((gF0 B : Nat) : Int)), (6, .int .u64 ((gM B : Nat) : Int)), (7, .int .u64 ((gSh B : Nat) : Int)), (8, .pointer (some ⟨b9, 0, none⟩)), (9, .int .u64 ((gA0 B : Nat) : Int)), (67, .slice (some ⟨b40, 0, none⟩) (gN B) (gN B)), (68, .int .i64 ((gN B : Nat) : Int)), (69, .int .i64 ((i : Nat) : Int))], [], H50⟩ ∧ St H0 (none0) (Rd H0) H50 [(b39, .cells true ((gBl B).map u64v) 1), (b40, .cells true ((gBk B).map u32v) 1), (b9, .cells true [.int .u32 ((gF0 B : Nat) : Int), .int .u32 ((gSh B : Nat) : Int), .slice (some ⟨b39, 0, none⟩) (gM B) (gM B), .slice (some ⟨b40, 0, none⟩) (gN B) (gN B), .slice none 0 0] 5), (b5, .cells true [.int .i64 0, .int .u64 0, .string ⟨#[]⟩] 3), (b1, .cells true [.int .u32 0, .int .u32 0, .slice none 0 0, .slice none 0 0, .slice none 0 0] 5)] ∧ (i ≤ gN B ∧ ∀ j, j < i → gBad B j = false)) (fun (i : Nat) => gN B - i) (x0 := (0)) ?h0 ?round
              case h0 =>
                exact ⟨_, rfl, s49, ⟨Nat.zero_le _, fun j h => absurd h (Nat.not_lt_zero _)⟩⟩
              case round =>
                rintro i _ ⟨H50, rfl, s51, hi⟩
                refine awp_seq ?_
                refine awp_regs hF ?_
                refine dvb (gyes_none rfl) (q_int rfl rfl rfl) rfl (by decide) (cok2 trivial trivial) (fun c7 => ?_) (fun c7 => ?_)
                ·
                  replace c7 := of_decide_eq_true c7
                  refine ⟨_, Wk.refl _ _, ?_⟩
                  show awp _ _ _ _ _ _ _
                  refine awp_seq ?_
                  refine awp_cond_t rfl ?_
                  refine awp_skip_wk ?_
                  refine ⟨_, Wk.refl _ _, ?_⟩
                  show awp _ _ _ _ _ _ _
                  refine awp_seq ?_
                  refine awp_block ?_
                  refine awp_seq ?_
                  refine awp_regs hF ?_
                  refine dv (gyes_none rfl) (q_mv (v := .int .i64 ((i : Nat) : Int)) rfl) rfl (by decide) (cok1 trivial) ?_
                  refine dv (gyes_none rfl) (OpQ.cast (v' := .pointer (some ⟨b40, i, none⟩)) (q_index1 (i := i) Try.underlying29 Try.sizeOf27 rfl rfl (by omega) (s51.rd (j := 1) rfl)) (by rw [Nat.zero_add])) rfl (by decide) (cok2 trivial trivial) ?_
                  refine dv (gyes_none rfl) (q_load (v := u32v (nth (gBk B) i)) Try.isAgg27 rfl (s51.rd (j := 1) rfl) (get_nth (w := 0) (by omega))) rfl (by decide) (cok1 trivial) ?_
                  refine dv (gyes_none rfl) (q_as (v := .int .i64 ((i : Nat) : Int)) rfl) rfl (by decide) (cok1 trivial) ?_
                  refine dv (gyes_none rfl) (q_as (v := .int .u32 ((nth (gBk B) i : Nat) : Int)) rfl) rfl (by decide) (cok1 trivial) ?_
                  refine ⟨_, Wk.refl _ _, ?_⟩
                  show awp _ _ _ _ _ _ _
                  refine awp_seq ?_
                  refine awp_regs hF ?_
                  refine dv (gyes_none rfl) (q_mv (v := .int .u32 ((nth (gBk B) i : Nat) : Int)) rfl) rfl (by decide) (cok1 trivial) ?_
                  refine dvb (gyes_none rfl) (q_int rfl rfl rfl) rfl (by decide) (cok2 trivial (cconst rfl)) (fun c8 => ?_) (fun c8 => ?_)
                  ·
                    replace c8 := bne_iff_ne.1 c8
                    refine dv (gyes_none rfl) (q_mv (v := .bool true) rfl) rfl (by decide) (cok1 trivial) ?_
                    refine dv (gyes_some rfl rfl) (q_mv (v := .int .u32 ((nth (gBk B) i : Nat) : Int)) rfl) rfl (by decide) (cok1 trivial) ?_
                    refine dv (gyes_some rfl rfl) (q_field Try.underlying31 rfl Try.sizeOf27 rfl (s51.rd (j := 2) rfl)) rfl (by decide) (cok1 trivial) ?_
                    refine dv (gyes_some rfl rfl) (q_load (v := .int .u32 ((gF0 B : Nat) : Int)) Try.isAgg27 rfl (s51.rd (j := 2) rfl) rfl) rfl (by decide) (cok1 trivial) ?_
                    refine dvb (gyes_some rfl rfl) (q_int rfl rfl rfl) rfl (by decide) (cok2 trivial trivial) (fun c9 => ?_) (fun c9 => ?_)
                    ·
                      replace c9 := of_decide_eq_true c9
                      refine dv (gyes_some rfl rfl) (q_mv (v := .bool true) rfl) rfl (by decide) (cok1 trivial) ?_
                      refine dno rfl (.inl rfl) rfl (by decide) ?_
                      refine dno rfl (.inl rfl) rfl (by decide) ?_
                      refine dv (gyes_some rfl rfl) (q_pt (v := .bool true) rfl rfl) rfl (by decide) (call_ok rfl) ?_
                      refine dv (gyes_none rfl) (q_pt (v := .bool true) rfl rfl) rfl (by decide) (call_ok rfl) ?_
                      refine ⟨_, Wk.refl _ _, ?_⟩
                      show awp _ _ _ _ _ _ _
                      refine awp_cond_t rfl ?_
                      refine awp_seq ?_
                      refine awp_regs hF ?_
                      refine dv (gyes_none rfl) (q_buildL (ds := [.int .u32 0, .int .u32 0, .slice none 0 0, .slice none 0 0, .slice none 0 0]) [(0, 1), (1, 1), (2, 1), (3, 1), (4, 1)] [] Try.underlying31 Try.zeroValue31 (by first | exact flat_agg rfl | exact flat_scalar rfl) (by kernel_rfl) trivial lvs0 rfl) rfl (by decide) (by simp [Op.operands, Call.operands]) ?_
                      refine dv (gyes_none rfl) (q_mv (v := .int .u64 ((gM B : Nat) : Int)) rfl) rfl (by decide) (cok1 trivial) ?_
                      refine dv (gyes_none rfl) (OpQ.cast (v' := .int .u64 (((gM B) * 8 : Nat) : Int)) (q_int rfl rfl rfl) (congrArg _ ((u64_in (by omega)).trans (by first | rfl | omega | (push_cast; rfl))))) rfl (by decide) (cok2 trivial (cconst rfl)) ?_
                      refine dv (gyes_none rfl) (OpQ.cast (v' := .int .u64 ((16 + ((gM B) * 8) : Nat) : Int)) (q_int rfl rfl rfl) (congrArg _ ((u64_in (by omega)).trans (by first | rfl | omega | (push_cast; rfl))))) rfl (by decide) (cok2 (cconst rfl) trivial) ?_
                      refine dv (gyes_none rfl) (q_mv (v := .int .i64 ((i : Nat) : Int)) rfl) rfl (by decide) (cok1 trivial) ?_
                      refine dv (gyes_none rfl) (q_convin (a := ((i : Nat) : Int)) Try.underlying3 Try.underlying45 rfl (u64_in (by omega))) rfl (by decide) (cok1 trivial) ?_
                      refine dv (gyes_none rfl) (OpQ.cast (v' := .int .u64 ((i * 4 : Nat) : Int)) (q_int rfl rfl rfl) (congrArg _ ((u64_in (by omega)).trans (by first | rfl | omega | (push_cast; rfl))))) rfl (by decide) (cok2 trivial (cconst rfl)) ?_
                      refine dv (gyes_none rfl) (OpQ.cast (v' := .int .u64 ((16 + ((gM B) * 8) + (i * 4) : Nat) : Int)) (q_int rfl rfl rfl) (congrArg _ ((u64_in (by omega)).trans (by first | rfl | omega | (push_cast; rfl))))) rfl (by decide) (cok2 trivial trivial) ?_
                      refine dv (gyes_none rfl) (q_call0 Try.call31 rfl (failAt_ok 5 (16 + ((gM B) * 8) + (i * 4)))) rfl (by decide) (call_ok rfl) ?_
                      refine x_store [] hF s51 (by kernel_rfl) (gyes_none rfl) (j := 4) (v := .agg #[.int .u32 0, .int .u32 0, .slice none 0 0, .slice none 0 0, .slice none 0 0]) rfl Try.sizeOf31 rfl rfl rfl rfl rfl trivial (lcsA ⟨(lc_scalar rfl), (lc_scalar rfl), (lc_scalar rfl), (lc_scalar rfl), (lc_scalar rfl), trivial⟩) (Nat.le_of_ble_eq_true rfl) trivial trivial rfl rfl (F' := [(b39, .cells true ((gBl B).map u64v) 1), (b40, .cells true ((gBk B).map u32v) 1), (b9, .cells true [.int .u32 ((gF0 B : Nat) : Int), .int .u32 ((gSh B : Nat) : Int), .slice (some ⟨b39, 0, none⟩) (gM B) (gM B), .slice (some ⟨b40, 0, none⟩) (gN B) (gN B), .slice none 0 0] 5), (b5, .cells true [.int .i64 0, .int .u64 0, .string ⟨#[]⟩] 3), (b1, .cells true [.int .u32 0, .int .u32 0, .slice none 0 0, .slice none 0 0, .slice none 0 0] 5)]) rfl (fun H52 s53 => ⟨?_, ?_⟩)
                      · exact trivial
                      refine x_store [] hF s53 (by kernel_rfl) (gyes_none rfl) (j := 3) (v := .agg #[.int .i64 5, .int .u64 ((16 + ((gM B) * 8) + (i * 4) : Nat) : Int), .string (⟨#[]⟩ : ByteArray)]) rfl Try.sizeOf47 rfl rfl rfl rfl rfl trivial (lcsA ⟨(lc_scalar rfl), (lc_scalar rfl), (lc_scalar rfl), trivial⟩) (Nat.le_of_ble_eq_true rfl) trivial trivial rfl rfl (F' := [(b39, .cells true ((gBl B).map u64v) 1), (b40, .cells true ((gBk B).map u32v) 1), (b9, .cells true [.int .u32 ((gF0 B : Nat) : Int), .int .u32 ((gSh B : Nat) : Int), .slice (some ⟨b39, 0, none⟩) (gM B) (gM B), .slice (some ⟨b40, 0, none⟩) (gN B) (gN B), .slice none 0 0] 5), (b5, .cells true [.int .i64 5, .int .u64 ((16 + ((gM B) * 8) + (i * 4) : Nat) : Int), .string (⟨#[]⟩ : ByteArray)] 3), (b1, .cells true [.int .u32 0, .int .u32 0, .slice none 0 0, .slice none 0 0, .slice none 0 0] 5)]) rfl (fun H54 s55 => ⟨?_, ?_⟩)
                      · exact trivial
                      refine ⟨_, Wk.refl _ _, ?_⟩
                      show awp _ _ _ _ _ _ _
                      refine awp_ret_wk ?_
                      obtain ⟨e1, e2⟩ := gc_bad (B := B) (i := i) (by omega) (by omega) (by omega) hyes (by omega) (gBad_y (by omega) (by omega)) hi.2
                      refine ⟨_, Wk.refl _ _, ?_⟩
                      repeat (with_reducible first | refine then_ret ?_ | refine blk_ret ?_ | refine then_exit ?_ | refine blk_exit ?_ | refine blk_exit' (by decide) ?_ | refine blk_normal ?_ | refine then_normal ?_ | refine retq_ret ?_ | refine retq_normal ?_ | refine ng_normal ?_ | refine ng_ret ?_ | refine ng_exit ?_)
                      refine ret_is (v := .tuple #[.agg #[.int .u32 0, .int .u32 0, .slice none 0 0, .slice none 0 0, .slice none 0 0], .agg #[.int .i64 5, .int .u64 ((16 + ((gM B) * 8) + (i * 4) : Nat) : Int), .string (⟨#[]⟩ : ByteArray)]]) rfl (.agg rfl Try.isAgg31 Try.sizeOf31 (s55.rd (j := 4) rfl) (Nat.le_of_ble_eq_true rfl) rfl (.agg rfl Try.isAgg47 Try.sizeOf47 (s55.rd (j := 3) rfl) (Nat.le_of_ble_eq_true rfl) rfl .nil)) rfl ?_
                      exact .inl ⟨by rw [e1]; decide, by rw [e1, e2]; first | done | rfl, s55.kp⟩
                    ·
                      replace c9 := of_decide_eq_false c9
                      refine dv (gyes_some rfl rfl) (q_mv (v := .bool false) rfl) rfl (by decide) (cok1 trivial) ?_
                      refine dv (gyes_some rfl rfl) (q_mv (v := .int .u32 ((nth (gBk B) i : Nat) : Int)) rfl) rfl (by decide) (cok1 trivial) ?_
                      refine dvb (gyes_some rfl rfl) (q_int rfl rfl rfl) rfl (by decide) (cok2 trivial (cconst rfl)) (fun c10 => ?_) (fun c10 => ?_)
                      ·
                        replace c10 := of_decide_eq_true c10
                        refine dv (gyes_some rfl rfl) (q_pf (v := .bool true) rfl rfl) rfl (by decide) (call_ok rfl) ?_
                        refine dv (gyes_none rfl) (q_pt (v := .bool true) rfl rfl) rfl (by decide) (call_ok rfl) ?_
                        refine ⟨_, Wk.refl _ _, ?_⟩
                        show awp _ _ _ _ _ _ _
                        refine awp_cond_t rfl ?_
                        refine awp_seq ?_
                        refine awp_regs hF ?_
                        refine dv (gyes_none rfl) (q_buildL (ds := [.int .u32 0, .int .u32 0, .slice none 0 0, .slice none 0 0, .slice none 0 0]) [(0, 1), (1, 1), (2, 1), (3, 1), (4, 1)] [] Try.underlying31 Try.zeroValue31 (by first | exact flat_agg rfl | exact flat_scalar rfl) (by kernel_rfl) trivial lvs0 rfl) rfl (by decide) (by simp [Op.operands, Call.operands]) ?_
                        refine dv (gyes_none rfl) (q_mv (v := .int .u64 ((gM B : Nat) : Int)) rfl) rfl (by decide) (cok1 trivial) ?_
                        refine dv (gyes_none rfl) (OpQ.cast (v' := .int .u64 (((gM B) * 8 : Nat) : Int)) (q_int rfl rfl rfl) (congrArg _ ((u64_in (by omega)).trans (by first | rfl | omega | (push_cast; rfl))))) rfl (by decide) (cok2 trivial (cconst rfl)) ?_
                        refine dv (gyes_none rfl) (OpQ.cast (v' := .int .u64 ((16 + ((gM B) * 8) : Nat) : Int)) (q_int rfl rfl rfl) (congrArg _ ((u64_in (by omega)).trans (by first | rfl | omega | (push_cast; rfl))))) rfl (by decide) (cok2 (cconst rfl) trivial) ?_
                        refine dv (gyes_none rfl) (q_mv (v := .int .i64 ((i : Nat) : Int)) rfl) rfl (by decide) (cok1 trivial) ?_
                        refine dv (gyes_none rfl) (q_convin (a := ((i : Nat) : Int)) Try.underlying3 Try.underlying45 rfl (u64_in (by omega))) rfl (by decide) (cok1 trivial) ?_
                        refine dv (gyes_none rfl) (OpQ.cast (v' := .int .u64 ((i * 4 : Nat) : Int)) (q_int rfl rfl rfl) (congrArg _ ((u64_in (by omega)).trans (by first | rfl | omega | (push_cast; rfl))))) rfl (by decide) (cok2 trivial (cconst rfl)) ?_
                        refine dv (gyes_none rfl) (OpQ.cast (v' := .int .u64 ((16 + ((gM B) * 8) + (i * 4) : Nat) : Int)) (q_int rfl rfl rfl) (congrArg _ ((u64_in (by omega)).trans (by first | rfl | omega | (push_cast; rfl))))) rfl (by decide) (cok2 trivial trivial) ?_
                        refine dv (gyes_none rfl) (q_call0 Try.call31 rfl (failAt_ok 5 (16 + ((gM B) * 8) + (i * 4)))) rfl (by decide) (call_ok rfl) ?_
                        refine x_store [] hF s51 (by kernel_rfl) (gyes_none rfl) (j := 4) (v := .agg #[.int .u32 0, .int .u32 0, .slice none 0 0, .slice none 0 0, .slice none 0 0]) rfl Try.sizeOf31 rfl rfl rfl rfl rfl trivial (lcsA ⟨(lc_scalar rfl), (lc_scalar rfl), (lc_scalar rfl), (lc_scalar rfl), (lc_scalar rfl), trivial⟩) (Nat.le_of_ble_eq_true rfl) trivial trivial rfl rfl (F' := [(b39, .cells true ((gBl B).map u64v) 1), (b40, .cells true ((gBk B).map u32v) 1), (b9, .cells true [.int .u32 ((gF0 B : Nat) : Int), .int .u32 ((gSh B : Nat) : Int), .slice (some ⟨b39, 0, none⟩) (gM B) (gM B), .slice (some ⟨b40, 0, none⟩) (gN B) (gN B), .slice none 0 0] 5), (b5, .cells true [.int .i64 0, .int .u64 0, .string ⟨#[]⟩] 3), (b1, .cells true [.int .u32 0, .int .u32 0, .slice none 0 0, .slice none 0 0, .slice none 0 0] 5)]) rfl (fun H56 s57 => ⟨?_, ?_⟩)
                        · exact trivial
                        refine x_store [] hF s57 (by kernel_rfl) (gyes_none rfl) (j := 3) (v := .agg #[.int .i64 5, .int .u64 ((16 + ((gM B) * 8) + (i * 4) : Nat) : Int), .string (⟨#[]⟩ : ByteArray)]) rfl Try.sizeOf47 rfl rfl rfl rfl rfl trivial (lcsA ⟨(lc_scalar rfl), (lc_scalar rfl), (lc_scalar rfl), trivial⟩) (Nat.le_of_ble_eq_true rfl) trivial trivial rfl rfl (F' := [(b39, .cells true ((gBl B).map u64v) 1), (b40, .cells true ((gBk B).map u32v) 1), (b9, .cells true [.int .u32 ((gF0 B : Nat) : Int), .int .u32 ((gSh B : Nat) : Int), .slice (some ⟨b39, 0, none⟩) (gM B) (gM B), .slice (some ⟨b40, 0, none⟩) (gN B) (gN B), .slice none 0 0] 5), (b5, .cells true [.int .i64 5, .int .u64 ((16 + ((gM B) * 8) + (i * 4) : Nat) : Int), .string (⟨#[]⟩ : ByteArray)] 3), (b1, .cells true [.int .u32 0, .int .u32 0, .slice none 0 0, .slice none 0 0, .slice none 0 0] 5)]) rfl (fun H58 s59 => ⟨?_, ?_⟩)
                        · exact trivial
                        refine ⟨_, Wk.refl _ _, ?_⟩
                        show awp _ _ _ _ _ _ _
                        refine awp_ret_wk ?_
                        obtain ⟨e1, e2⟩ := gc_bad (B := B) (i := i) (by omega) (by omega) (by omega) hyes (by omega) (gBad_y (by omega) (by omega)) hi.2
                        refine ⟨_, Wk.refl _ _, ?_⟩
                        repeat (with_reducible first | refine then_ret ?_ | refine blk_ret ?_ | refine then_exit ?_ | refine blk_exit ?_ | refine blk_exit' (by decide) ?_ | refine blk_normal ?_ | refine then_normal ?_ | refine retq_ret ?_ | refine retq_normal ?_ | refine ng_normal ?_ | refine ng_ret ?_ | refine ng_exit ?_)
                        refine ret_is (v := .tuple #[.agg #[.int .u32 0, .int .u32 0, .slice none 0 0, .slice none 0 0, .slice none 0 0], .agg #[.int .i64 5, .int .u64 ((16 + ((gM B) * 8) + (i * 4) : Nat) : Int), .string (⟨#[]⟩ : ByteArray)]]) rfl (.agg rfl Try.isAgg31 Try.sizeOf31 (s59.rd (j := 4) rfl) (Nat.le_of_ble_eq_true rfl) rfl (.agg rfl Try.isAgg47 Try.sizeOf47 (s59.rd (j := 3) rfl) (Nat.le_of_ble_eq_true rfl) rfl .nil)) rfl ?_
                        exact .inl ⟨by rw [e1]; decide, by rw [e1, e2]; first | done | rfl, s59.kp⟩
                      ·
                        replace c10 := of_decide_eq_false c10
                        refine dv (gyes_some rfl rfl) (q_pf (v := .bool false) rfl rfl) rfl (by decide) (call_ok rfl) ?_
                        refine dv (gyes_none rfl) (q_pt (v := .bool false) rfl rfl) rfl (by decide) (call_ok rfl) ?_
                        refine ⟨_, Wk.refl _ _, ?_⟩
                        show awp _ _ _ _ _ _ _
                        refine awp_cond_f rfl ?_
                        refine awp_skip_wk ?_
                        refine ⟨_, Wk.refl _ _, ?_⟩
                        show awp _ _ _ _ _ _ _
                        refine awp_regs hF ?_
                        refine dv (gyes_none rfl) (OpQ.cast (v' := .int .i64 ((i + 1 : Nat) : Int)) (q_int rfl rfl rfl) (congrArg _ ((i64_in (by omega)).trans (by first | rfl | omega | (push_cast; rfl))))) rfl (by decide) (cok2 trivial (cconst rfl)) ?_
                        refine dv (gyes_none rfl) (q_mv (v := .int .i64 ((i + 1 : Nat) : Int)) rfl) rfl (by decide) (cok1 trivial) ?_
                        refine ⟨_, Wk.U [(0, .string B), (2, .pointer (some ⟨b1, 0, none⟩)), (3, .pointer (some ⟨b5, 0, none⟩)), (4, .int .u64 ((gN B : Nat) : Int)), (5, .int .u64 ((gF0 B : Nat) : Int)), (6, .int .u64 ((gM B : Nat) : Int)), (7, .int .u64 ((gSh B : Nat) : Int)), (8, .pointer (some ⟨b9, 0, none⟩)), (9, .int .u64 ((gA0 B : Nat) : Int)), (67, .slice (some ⟨b40, 0, none⟩) (gN B) (gN B)), (68, .int .i64 ((gN B : Nat) : Int)), (69, .int .i64 (((i + 1) : Nat) : Int))] ⟨rfl, rfl, rfl, rfl, rfl, rfl, rfl, rfl, rfl, rfl, rfl, rfl, trivial⟩, (i + 1), ⟨_, rfl, s51, ⟨by omega, lt_succ_casesN hi.2 (gBad_n (by omega))⟩⟩, (by omega)⟩
                  ·
                    replace c8 := bne_eq_false_iff_eq.1 c8
                    refine dv (gyes_none rfl) (q_mv (v := .bool false) rfl) rfl (by decide) (cok1 trivial) ?_
                    refine dno rfl (.inl rfl) rfl (by decide) ?_
                    refine dno rfl (.inl rfl) rfl (by decide) ?_
                    refine dno rfl (.inl rfl) rfl (by decide) ?_
                    refine dno rfl (.inl rfl) rfl (by decide) ?_
                    refine dno rfl (.inl rfl) rfl (by decide) ?_
                    refine dno rfl (.inr rfl) rfl (by decide) ?_
                    refine dno rfl (.inr rfl) rfl (by decide) ?_
                    refine dno rfl (.inl rfl) rfl (by decide) ?_
                    refine dv (gyes_none rfl) (q_pf (v := .bool false) rfl rfl) rfl (by decide) (call_ok rfl) ?_
                    refine ⟨_, Wk.refl _ _, ?_⟩
                    show awp _ _ _ _ _ _ _
                    refine awp_cond_f rfl ?_
                    refine awp_skip_wk ?_
                    refine ⟨_, Wk.refl _ _, ?_⟩
                    show awp _ _ _ _ _ _ _
                    refine awp_regs hF ?_
                    refine dv (gyes_none rfl) (OpQ.cast (v' := .int .i64 ((i + 1 : Nat) : Int)) (q_int rfl rfl rfl) (congrArg _ ((i64_in (by omega)).trans (by first | rfl | omega | (push_cast; rfl))))) rfl (by decide) (cok2 trivial (cconst rfl)) ?_
                    refine dv (gyes_none rfl) (q_mv (v := .int .i64 ((i + 1 : Nat) : Int)) rfl) rfl (by decide) (cok1 trivial) ?_
                    refine ⟨_, Wk.U [(0, .string B), (2, .pointer (some ⟨b1, 0, none⟩)), (3, .pointer (some ⟨b5, 0, none⟩)), (4, .int .u64 ((gN B : Nat) : Int)), (5, .int .u64 ((gF0 B : Nat) : Int)), (6, .int .u64 ((gM B : Nat) : Int)), (7, .int .u64 ((gSh B : Nat) : Int)), (8, .pointer (some ⟨b9, 0, none⟩)), (9, .int .u64 ((gA0 B : Nat) : Int)), (67, .slice (some ⟨b40, 0, none⟩) (gN B) (gN B)), (68, .int .i64 ((gN B : Nat) : Int)), (69, .int .i64 (((i + 1) : Nat) : Int))] ⟨rfl, rfl, rfl, rfl, rfl, rfl, rfl, rfl, rfl, rfl, rfl, rfl, trivial⟩, (i + 1), ⟨_, rfl, s51, ⟨by omega, lt_succ_casesN hi.2 (gBad_n (by omega))⟩⟩, (by omega)⟩
                ·
                  replace c7 := of_decide_eq_false c7
                  refine ⟨_, Wk.refl _ _, ?_⟩
                  show awp _ _ _ _ _ _ _
                  refine awp_seq ?_
                  refine awp_cond_f rfl ?_
                  refine awp_exit_wk ?_
                  refine ⟨_, Wk.refl _ _, ?_⟩
                  show awp _ _ _ _ _ _ _
                  refine awp_seq ?_
                  refine awp_seq ?_
                  refine awp_regs hF ?_
                  refine dv (gyes_none rfl) (q_mv (v := .string B) rfl) rfl (by decide) (cok1 trivial) ?_
                  refine dv (gyes_none rfl) (q_mv (v := .int .u64 ((gA0 B : Nat) : Int)) rfl) rfl (by decide) (cok1 trivial) ?_
                  refine x_call [] hF (by kernel_rfl) (gyes_none rfl) Try.call32 rfl (args := [.pointer (some ⟨b9, 0, none⟩), .string B, .int .u64 ((gA0 B : Nat) : Int)]) rfl (chains_ok b9 (gF0 B) (gSh B) _ _ (gBl B) (gBk B) B (gA0 B) hB (by unfold gA0; omega) (by omega) (by rw [gBk_len]; omega) (by rw [gBk_len]; omega) (slz_full (Z := Off _ [b9]) ⟨s51.rd (j := 0) rfl, (nin1 (s51.nej (i := 0) (j := 2) rfl rfl (by decide)))⟩ gBl_len (Nat.le_refl _)) (slz_full (Z := Off _ [b9]) ⟨s51.rd (j := 1) rfl, (nin1 (s51.nej (i := 1) (j := 2) rfl rfl (by decide)))⟩ gBk_len (Nat.le_refl _)) gBk_w (s51.getj (j := 2) rfl) hmz hmxl) (show _ < _ by decide) (call_ok rfl) rfl rfl (fun _ _ _ _ hd => by cases hd) ?_
                  rintro _ H62 ⟨rfl, hk63, b60, k61, hl64, h65, h66, hq67⟩
                  have s68 := s51.turn1L (j := 2) rfl hk63 h65 [(b60, .cells true ((chL B (gA0 B) k61).map u32v) 1)] (by simp) (by intro p hp; rw [List.mem_singleton.1 hp]; exact hl64) ⟨h66, trivial⟩
                  refine ⟨trivial, ?_⟩
                  show dList _ _ _ _ _ _ _ _ _ _
                  refine dv (gyes_none rfl) (q_as (v := .int .i64 ((chC B (gF0 B) (maxL (gBk B)) (gA0 B) : Nat) : Int)) rfl) rfl (by decide) (cok1 trivial) ?_
                  refine ⟨_, Wk.refl _ _, ?_⟩
                  show awp _ _ _ _ _ _ _
                  refine awp_seq ?_
                  refine awp_regs hF ?_
                  refine dv (gyes_none rfl) (q_mv (v := .int .i64 ((chC B (gF0 B) (maxL (gBk B)) (gA0 B) : Nat) : Int)) rfl) rfl (by decide) (cok1 trivial) ?_
                  refine dvb (gyes_none rfl) (q_int rfl rfl rfl) rfl (by decide) (cok2 trivial (cconst rfl)) (fun c11 => ?_) (fun c11 => ?_)
                  ·
                    replace c11 := bne_iff_ne.1 c11
                    refine ⟨_, Wk.refl _ _, ?_⟩
                    show awp _ _ _ _ _ _ _
                    refine awp_cond_t rfl ?_
                    refine awp_seq ?_
                    refine awp_regs hF ?_
                    refine dv (gyes_none rfl) (q_buildL (ds := [.int .u32 0, .int .u32 0, .slice none 0 0, .slice none 0 0, .slice none 0 0]) [(0, 1), (1, 1), (2, 1), (3, 1), (4, 1)] [] Try.underlying31 Try.zeroValue31 (by first | exact flat_agg rfl | exact flat_scalar rfl) (by kernel_rfl) trivial lvs0 rfl) rfl (by decide) (by simp [Op.operands, Call.operands]) ?_
                    refine dv (gyes_none rfl) (q_mv (v := .int .i64 ((chC B (gF0 B) (maxL (gBk B)) (gA0 B) : Nat) : Int)) rfl) rfl (by decide) (cok1 trivial) ?_
                    refine dv (gyes_none rfl) (q_call0 Try.call29 rfl (failOf_ok (chC B (gF0 B) (maxL (gBk B)) (gA0 B)))) rfl (by decide) (cok2 trivial trivial) ?_
                    refine x_store [] hF s68 (by kernel_rfl) (gyes_none rfl) (j := 5) (v := .agg #[.int .u32 0, .int .u32 0, .slice none 0 0, .slice none 0 0, .slice none 0 0]) rfl Try.sizeOf31 rfl rfl rfl rfl rfl trivial (lcsA ⟨(lc_scalar rfl), (lc_scalar rfl), (lc_scalar rfl), (lc_scalar rfl), (lc_scalar rfl), trivial⟩) (Nat.le_of_ble_eq_true rfl) trivial trivial rfl rfl (F' := [(b60, .cells true ((chL B (gA0 B) k61).map u32v) 1), (b39, .cells true ((gBl B).map u64v) 1), (b40, .cells true ((gBk B).map u32v) 1), (b9, .cells true [.int .u32 ((gF0 B : Nat) : Int), .int .u32 ((gSh B : Nat) : Int), .slice (some ⟨b39, 0, none⟩) (gM B) (gM B), .slice (some ⟨b40, 0, none⟩) (gN B) (gN B), .slice (some ⟨b60, 0, none⟩) k61 k61] 5), (b5, .cells true [.int .i64 0, .int .u64 0, .string ⟨#[]⟩] 3), (b1, .cells true [.int .u32 0, .int .u32 0, .slice none 0 0, .slice none 0 0, .slice none 0 0] 5)]) rfl (fun H69 s70 => ⟨?_, ?_⟩)
                    · exact trivial
                    refine x_store [] hF s70 (by kernel_rfl) (gyes_none rfl) (j := 4) (v := .agg #[.int .i64 ((chC B (gF0 B) (maxL (gBk B)) (gA0 B) : Nat) : Int), .int .u64 0, .string (⟨#[]⟩ : ByteArray)]) rfl Try.sizeOf47 rfl rfl rfl rfl rfl trivial (lcsA ⟨(lc_scalar rfl), (lc_scalar rfl), (lc_scalar rfl), trivial⟩) (Nat.le_of_ble_eq_true rfl) trivial trivial rfl rfl (F' := [(b60, .cells true ((chL B (gA0 B) k61).map u32v) 1), (b39, .cells true ((gBl B).map u64v) 1), (b40, .cells true ((gBk B).map u32v) 1), (b9, .cells true [.int .u32 ((gF0 B : Nat) : Int), .int .u32 ((gSh B : Nat) : Int), .slice (some ⟨b39, 0, none⟩) (gM B) (gM B), .slice (some ⟨b40, 0, none⟩) (gN B) (gN B), .slice (some ⟨b60, 0, none⟩) k61 k61] 5), (b5, .cells true [.int .i64 ((chC B (gF0 B) (maxL (gBk B)) (gA0 B) : Nat) : Int), .int .u64 0, .string (⟨#[]⟩ : ByteArray)] 3), (b1, .cells true [.int .u32 0, .int .u32 0, .slice none 0 0, .slice none 0 0, .slice none 0 0] 5)]) rfl (fun H71 s72 => ⟨?_, ?_⟩)
                    · exact trivial
                    refine ⟨_, Wk.refl _ _, ?_⟩
                    show awp _ _ _ _ _ _ _
                    refine awp_ret_wk ?_
                    obtain ⟨e1, e2, _⟩ := gc_chn (B := B) (by omega) (by omega) (by omega) hyes (fun j hj => hi.2 j (by omega)) hmz
                    refine ⟨_, Wk.refl _ _, ?_⟩
                    repeat (with_reducible first | refine then_ret ?_ | refine blk_ret ?_ | refine then_exit ?_ | refine blk_exit ?_ | refine blk_exit' (by decide) ?_ | refine blk_normal ?_ | refine then_normal ?_ | refine retq_ret ?_ | refine retq_normal ?_ | refine ng_normal ?_ | refine ng_ret ?_ | refine ng_exit ?_)
                    refine ret_is (v := .tuple #[.agg #[.int .u32 0, .int .u32 0, .slice none 0 0, .slice none 0 0, .slice none 0 0], .agg #[.int .i64 ((chC B (gF0 B) (maxL (gBk B)) (gA0 B) : Nat) : Int), .int .u64 0, .string (⟨#[]⟩ : ByteArray)]]) rfl (.agg rfl Try.isAgg31 Try.sizeOf31 (s72.rd (j := 5) rfl) (Nat.le_of_ble_eq_true rfl) rfl (.agg rfl Try.isAgg47 Try.sizeOf47 (s72.rd (j := 4) rfl) (Nat.le_of_ble_eq_true rfl) rfl .nil)) rfl ?_
                    exact .inl ⟨by rw [e1]; intro h9; omega, by rw [e1, e2]; first | done | rfl, s72.kp⟩
                  ·
                    replace c11 := bne_eq_false_iff_eq.1 c11
                    refine ⟨_, Wk.refl _ _, ?_⟩
                    show awp _ _ _ _ _ _ _
                    refine awp_cond_f rfl ?_
                    refine awp_skip_wk ?_
                    refine ⟨_, Wk.refl _ _, ?_⟩
                    show awp _ _ _ _ _ _ _
                    refine awp_seq ?_
                    refine awp_regs hF ?_
                    refine dv (gyes_none rfl) (q_loadAgg Try.isAgg31 Try.sizeOf31 rfl (s68.rd (j := 3) rfl) (Nat.le_of_ble_eq_true rfl) rfl) rfl (by decide) (cok1 trivial) ?_
                    refine dv (gyes_none rfl) (q_buildL (ds := [.int .i64 0, .int .u64 0, .string ⟨#[]⟩]) [(0, 1), (1, 1), (2, 1)] [] Try.underlying47 Try.zeroValue47 (by first | exact flat_agg rfl | exact flat_scalar rfl) (by kernel_rfl) trivial lvs0 rfl) rfl (by decide) (by simp [Op.operands, Call.operands]) ?_
                    refine x_store [] hF s68 (by kernel_rfl) (gyes_none rfl) (j := 5) (v := .agg #[.int .u32 ((gF0 B : Nat) : Int), .int .u32 ((gSh B : Nat) : Int), .slice (some ⟨b39, 0, none⟩) (gM B) (gM B), .slice (some ⟨b40, 0, none⟩) (gN B) (gN B), .slice (some ⟨b60, 0, none⟩) k61 k61]) rfl Try.sizeOf31 rfl rfl rfl rfl rfl trivial (lcsA ⟨(lc_scalar rfl), (lc_scalar rfl), (lc_slice (s68.live (j := 1) rfl)), (lc_slice (s68.live (j := 2) rfl)), (lc_slice (s68.live (j := 0) rfl)), trivial⟩) (Nat.le_of_ble_eq_true rfl) trivial trivial rfl rfl (F' := [(b60, .cells true ((chL B (gA0 B) k61).map u32v) 1), (b39, .cells true ((gBl B).map u64v) 1), (b40, .cells true ((gBk B).map u32v) 1), (b9, .cells true [.int .u32 ((gF0 B : Nat) : Int), .int .u32 ((gSh B : Nat) : Int), .slice (some ⟨b39, 0, none⟩) (gM B) (gM B), .slice (some ⟨b40, 0, none⟩) (gN B) (gN B), .slice (some ⟨b60, 0, none⟩) k61 k61] 5), (b5, .cells true [.int .i64 0, .int .u64 0, .string ⟨#[]⟩] 3), (b1, .cells true [.int .u32 ((gF0 B : Nat) : Int), .int .u32 ((gSh B : Nat) : Int), .slice (some ⟨b39, 0, none⟩) (gM B) (gM B), .slice (some ⟨b40, 0, none⟩) (gN B) (gN B), .slice (some ⟨b60, 0, none⟩) k61 k61] 5)]) rfl (fun H73 s74 => ⟨?_, ?_⟩)
                    · exact trivial
                    refine x_store [] hF s74 (by kernel_rfl) (gyes_none rfl) (j := 4) (v := .agg #[.int .i64 0, .int .u64 0, .string ⟨#[]⟩]) rfl Try.sizeOf47 rfl rfl rfl rfl rfl trivial (lcsA ⟨(lc_scalar rfl), (lc_scalar rfl), (lc_scalar rfl), trivial⟩) (Nat.le_of_ble_eq_true rfl) trivial trivial rfl rfl (F' := [(b60, .cells true ((chL B (gA0 B) k61).map u32v) 1), (b39, .cells true ((gBl B).map u64v) 1), (b40, .cells true ((gBk B).map u32v) 1), (b9, .cells true [.int .u32 ((gF0 B : Nat) : Int), .int .u32 ((gSh B : Nat) : Int), .slice (some ⟨b39, 0, none⟩) (gM B) (gM B), .slice (some ⟨b40, 0, none⟩) (gN B) (gN B), .slice (some ⟨b60, 0, none⟩) k61 k61] 5), (b5, .cells true [.int .i64 0, .int .u64 0, .string ⟨#[]⟩] 3), (b1, .cells true [.int .u32 ((gF0 B : Nat) : Int), .int .u32 ((gSh B : Nat) : Int), .slice (some ⟨b39, 0, none⟩) (gM B) (gM B), .slice (some ⟨b40, 0, none⟩) (gN B) (gN B), .slice (some ⟨b60, 0, none⟩) k61 k61] 5)]) rfl (fun H75 s76 => ⟨?_, ?_⟩)
                    · exact trivial
                    refine ⟨_, Wk.refl _ _, ?_⟩
                    show awp _ _ _ _ _ _ _
                    refine awp_ret_wk ?_
                    obtain ⟨e1, e2, e3⟩ := gc_chn (B := B) (by omega) (by omega) (by omega) hyes (fun j hj => hi.2 j (by omega)) hmz
                    have hc0 : chC B (gF0 B) (maxL (gBk B)) (gA0 B) = 0 := by omega
                    have hkk := hq67 hc0
                    rw [← hkk] at e3
                    rw [hc0] at e1
                    refine ⟨_, Wk.refl _ _, ?_⟩
                    repeat (with_reducible first | refine then_ret ?_ | refine blk_ret ?_ | refine then_exit ?_ | refine blk_exit ?_ | refine blk_exit' (by decide) ?_ | refine blk_normal ?_ | refine then_normal ?_ | refine retq_ret ?_ | refine retq_normal ?_ | refine ng_normal ?_ | refine ng_ret ?_ | refine ng_exit ?_)
                    refine ret_is (v := .tuple #[.agg #[.int .u32 ((gF0 B : Nat) : Int), .int .u32 ((gSh B : Nat) : Int), .slice (some ⟨b39, 0, none⟩) (gM B) (gM B), .slice (some ⟨b40, 0, none⟩) (gN B) (gN B), .slice (some ⟨b60, 0, none⟩) k61 k61], .agg #[.int .i64 0, .int .u64 0, .string ⟨#[]⟩]]) rfl (.agg rfl Try.isAgg31 Try.sizeOf31 (s76.rd (j := 5) rfl) (Nat.le_of_ble_eq_true rfl) rfl (.agg rfl Try.isAgg47 Try.sizeOf47 (s76.rd (j := 4) rfl) (Nat.le_of_ble_eq_true rfl) rfl .nil)) rfl ?_
                    refine .inr ⟨e1, b39, b40, b60, ?_, ?_⟩
                    · rw [e3]
                    · rw [e3]; exact ((s76.sub (.cons_cons _ (.cons_cons _ (.cons_cons _ (.cons _ (.cons _ (.cons _ (.refl _)))))))).perm (List.Perm.cons _ (((List.Perm.cons _ (List.Perm.refl _)).trans (List.perm_middle (l₁ := [_])).symm)))).newL
theorem maxL_lt {M : Nat} (h0 : 0 < M) : ∀ (l : List Nat) (a : Nat), a < M → (∀ x ∈ l, x < M) → l.foldl max a < M
  | [], a, ha, _ => ha
  | x :: l, a, ha, h => maxL_lt h0 l (max a x) (by have := h x List.mem_cons_self; omega) fun y hy => h y (List.mem_cons_of_mem _ hy)
theorem gread_ok {H0 : AHeap} (B : ByteArray) (hB : B.size ≤ 140737488355328) : ACalls Try.prog 15 [.string B] H0 (fun v H' => (gC B ≠ 0 ∧ v = .tuple #[.agg #[.int .u32 0, .int .u32 0, .slice none 0 0, .slice none 0 0, .slice none 0 0], .agg #[.int .i64 ((gC B : Nat) : Int), .int .u64 ((gAt B : Nat) : Int), .string ⟨#[]⟩]] ∧ K0 H0 H') ∨ (gC B = 0 ∧ ∃ b1 b2 b3, v = .tuple #[.agg #[.int .u32 ((gF0 B : Nat) : Int), .int .u32 ((gSh B : Nat) : Int), .slice (some ⟨b1, 0, none⟩) (gM B) (gM B), .slice (some ⟨b2, 0, none⟩) (gN B) (gN B), .slice (some ⟨b3, 0, none⟩) (gK B) (gK B)], .agg #[.int .i64 0, .int .u64 0, .string ⟨#[]⟩]] ∧ NewL H0 H' [(b3, .cells true ((chL B (gA0 B) (gK B)).map u32v) 1), (b2, .cells true ((gBk B).map u32v) 1), (b1, .cells true ((gBl B).map u64v) 1)])) := by
  by_cases h : gA0 B ≤ B.size
  · by_cases hz : maxL (gBk B) = 0
    · exact read_mz B hB h hz
    · exact read_ch B hB h hz (maxL_lt (by decide) _ 0 (by decide) gBk_w)
  · exact read_no B hB h

end Go.Proofs.YtponfeigjmjbmaaA


/-
  Walks of functions of the given program, and what they compute.
-/
namespace Go.Proofs.YtponfeigjmjbmaaA
set_option linter.unusedVariables false
open Go Go.RowKit Go.Shelf Go.Proofs
theorem numE_nth {w : ByteArray} {sz k i : Nat} (h : i < k) : nth (numE w sz k) i = getB (w.extract (i * sz) ((i + 1) * sz)) := by
  rw [nth_eq (by rw [numE_len]; exact h)]; simp [numE]
theorem gBl_at {B : ByteArray} {i : Nat} (h : gA0 B ≤ B.size) (hi : i < gM B) : getB (B.extract (16 + 8 * i) (24 + 8 * i)) = nth (gBl B) i := by
  unfold gA0 at h
  rw [gBl, numE_nth hi, partV_in (by omega), ByteArray.extract_extract]; congr 2 <;> omega
theorem gBk_at {B : ByteArray} {i : Nat} (h : gA0 B ≤ B.size) (hi : i < gN B) : atV B (16 + 8 * gM B + 4 * i) 4 = nth (gBk B) i := by
  unfold gA0 at h
  rw [gBk, numE_nth hi, partV_in (by omega), atV_in (by omega), ByteArray.extract_extract]; congr 2 <;> omega
end Go.Proofs.YtponfeigjmjbmaaA


/-
  From a law's arguments, slices among them, to abstract states.
-/
namespace Go.Proofs.YtponfeigjmjbmaaA
set_option linter.unusedVariables false
open Go Go.RowKit Go.Shelf
/-- The places of the arguments' blocks. -/
def rhoOf (ls : List (Option Loc)) : Ren := fun b => match ls[b]? with | some (some l) => .at l | _ => .none
/-- A block of an argument, or none. -/
def ArgO (W : World) (ol : Option Loc) (o : AObj) : Prop :=
  (ol = none ∧ o = .none) ∨ ∃ lc vs, ol = some lc ∧ o = .cells false vs 1 ∧ lc.blk < W.heap.size ∧ ∀ ρ, ORel ρ lc W (.cells false vs 1)
def ArgOs (W : World) : List (Option Loc) → AHeap → Prop
  | [], [] => True
  | ol :: ls, o :: H => ArgO W ol o ∧ ArgOs W ls H
  | _, _ => False
theorem ArgOs.at {W : World} : ∀ {ls : List (Option Loc)} {H : AHeap}, ArgOs W ls H → ∀ (b : Nat) (ol : Option Loc), ls[b]? = some ol → ∃ o : AObj, H[b]? = some o ∧ ArgO W ol o
  | [], [], _, b, ol, h => by simp at h
  | [], _ :: _, h, _, _, _ => h.elim
  | _ :: _, [], h, _, _, _ => h.elim
  | x :: ls, o :: H, ⟨h1, h2⟩, b, ol, h => by
    cases b with
    | zero => simp at h; subst h; exact ⟨o, by simp, h1⟩
    | succ b => simpa using ArgOs.at h2 b ol (by simpa using h)
theorem ArgOs.at' {W : World} : ∀ {ls : List (Option Loc)} {H : AHeap}, ArgOs W ls H → ∀ (b : Nat) (o : AObj), H[b]? = some o → ∃ ol : Option Loc, ls[b]? = some ol ∧ ArgO W ol o
  | [], [], _, b, o, h => by simp at h
  | [], _ :: _, h, _, _, _ => h.elim
  | _ :: _, [], h, _, _, _ => h.elim
  | x :: ls, o' :: H, ⟨h1, h2⟩, b, o, h => by
    cases b with
    | zero => simp at h; subst h; exact ⟨x, by simp, h1⟩
    | succ b => simpa using ArgOs.at' h2 b o (by simpa using h)
theorem ArgOs.len {W : World} : ∀ {ls : List (Option Loc)} {H : AHeap}, ArgOs W ls H → ls.length = H.length
  | [], [], _ => rfl
  | [], _ :: _, h => h.elim
  | _ :: _, [], h => h.elim
  | x :: ls, o' :: H, ⟨h1, h2⟩ => by simp [ArgOs.len h2]
/-- A slice that came as an argument: its block, its value. -/
structure SArg {α : Type} (f : α → Value) (w : World) (v : Value) (l : List α) (b : Nat) (ol : Option Loc) (o : AObj) (va : Value) : Prop where
  obj : ArgO w ol o
  val : ∀ ρ : Ren, (∀ lc, ol = some lc → ρ b = .at lc) → VRel ρ va v
  sl : ∀ H : AHeap, H[b]? = some o → Sl f H va l
end Go.Proofs.YtponfeigjmjbmaaA


/-
  Slices among a law's arguments, as the row's facts tell of them.
-/
namespace Go.Proofs.YtponfeigjmjbmaaA
set_option linter.unusedVariables false
open Go Go.RowKit Go.Shelf Go.ChangeShapes
/-- A slice that came in lies in a block of cells. -/
theorem arg_block {P : Program} {w : World} {b0 : Nat} {t e : TypeId} {x : Addr} {len cap : Nat} (ht : P.underlying t = some (.slice e)) (hval : Value.okWide P w .any b0 t (.slice (some x) len cap)) : x.spot = none ∧ ∃ cs T fr, w.heap[x.block]? = some (.cells cs T fr) := by
  simp only [Value.okWide, ht, Cell.okWide, Cell.ok] at hval
  obtain ⟨_, _, _, h2, row, cells, h3, _⟩ := hval
  refine ⟨h2, ?_⟩
  unfold World.shape? at h3
  split at h3
  · exact ⟨_, _, _, by assumption⟩
  · cases h3
theorem weightsAll_mem {H : Type} {P : Program} {e : TypeId} {n : Nat} : ∀ {ds : List (DataW H)} {d : DataW H}, d ∈ ds → n ∈ d.weights P e → n ∈ DataW.weightsAll P e ds
  | [], d, h, _ => by simp at h
  | d' :: ds, d, h, hn => by
    simp only [DataW.weightsAll, List.mem_append]
    rcases List.mem_cons.1 h with rfl | h
    · exact .inl hn
    · exact .inr (weightsAll_mem h hn)
def RowF {α : Type} (f : α → Value) (w : World) (a : Option Addr) (len cap : Nat) (zs : List α) : Prop :=
  (a = none ∧ len = 0 ∧ cap = 0) ∨ ∃ x, a = some x ∧ x.spot = none ∧ len ≤ cap ∧ zs.length = cap ∧ (∃ cs T fr, w.heap[x.block]? = some (.cells cs T fr)) ∧ ∀ i (h : i < zs.length), w.cell? (x.add i) = some (f zs[i])
theorem arg_strs {H : Type} {enc : TypeId × Value → H} {P : Program} {w : World} {base b0 : Nat} {t e : TypeId} {a : Option Addr} {len cap : Nat} {d : DataW H} {ps : List MemPlace} (ht : P.underlying t = some (.slice e)) (he : P.underlying e = some .string) (hc : P.cellsOf e = 1)
    (hby : 0 < P.bytesOf e) {ts : List TypeId} {ds : List (DataW H)} {j : Nat} (hsz : (DataW.weightsEach P ts ds).all (· ≤ reachBytes) = true) (hts : ts[j]? = some t) (hds : ds[j]? = some d)
    (hval : Value.okWide P w .any b0 t (.slice a len cap)) (h : DataW.Trod enc P w base (fun _ => true) true t (.slice a len cap) d ps) : ∃ zs : List ByteArray, RowF strv w a len cap zs ∧ (∀ s ∈ zs, s.size ≤ 140737488355328) ∧ zs.length ≤ 140737488355328 := by
  obtain ⟨fuel, hf⟩ := h
  rcases open_strings ht he hc hf with ⟨hcs, _⟩ | ⟨x, l, c, zs, hcs, _, hl, hm, hz, hd, hcell, hwz⟩
  · simp [Value.cells] at hcs
    obtain ⟨rfl, rfl, rfl⟩ := hcs
    exact ⟨[], .inl ⟨rfl, rfl, rfl⟩, by simp, by simp⟩
  · simp [Value.cells] at hcs
    obtain ⟨rfl, rfl, rfl⟩ := hcs
    obtain ⟨h1, h2⟩ := arg_block ht hval
    have hr : reachBytes ≤ 140737488355328 := by decide
    simp only [Prod.mk.injEq] at hd
    obtain ⟨rfl, _⟩ := hd
    refine ⟨zs, .inr ⟨x, rfl, h1, hl, by simpa using hz, h2, fun i hi => ?_⟩, fun s hs => ?_, ?_⟩
    · have := hcell i hi
      rw [this]
      simp [strv, List.getD_eq_getElem?_getD, hi]
    · have hm : s.size ∈ DataW.weightsEach P ts ds := by
        refine DataW.weights_mem_each hts hds _ ?_
        simp only [DataW.weights, ht, List.mem_cons, List.mem_append]
        have hs' : s ∈ zs.take len ∨ s ∈ zs.drop len := by rw [← List.mem_append, List.take_append_drop]; exact hs
        have key : ∀ l : List ByteArray, s ∈ l → s.size ∈ DataW.weightsAll P e (strs l : List (DataW H)) := fun l hl => by
          refine weightsAll_mem (d := .lit (.string s.data.toList)) ?_ (by simp [DataW.weights])
          unfold strs
          exact List.mem_map.2 ⟨s, hl, rfl⟩
        rcases hs' with h | h
        · exact .inr (.inl (key _ h))
        · exact .inr (.inr (key _ h))
      have := List.all_eq_true.1 hsz _ hm
      simp at this
      omega
    · have h3 := sized_slice hsz hts hds ht
      simp only [strs, List.length_map, List.length_take, List.length_drop] at h3
      have h4 := Nat.le_mul_of_pos_right (min len zs.length + (zs.length - len)) hby
      omega
end Go.Proofs.YtponfeigjmjbmaaA


/-
  A law's arguments, slices and slices of slices among them, as blocks.
-/
namespace Go.Proofs.YtponfeigjmjbmaaA
set_option linter.unusedVariables false
open Go Go.RowKit Go.Shelf Go.ChangeShapes
def rhoP (ls : List Plc) : Ren := fun b => ls.getD b .none
def AtOff (ρ : Ren) (off : Nat) (ls : List Plc) : Prop := ∀ (i : Nat) (p : Plc), ls[i]? = some p → ρ (off + i) = p
def InH (H : AHeap) (off : Nat) (L : AHeap) : Prop := ∀ (i : Nat) (o : AObj), L[i]? = some o → H[off + i]? = some o
theorem AtOff.app {ρ : Ren} {off : Nat} {a b : List Plc} (h : AtOff ρ off (a ++ b)) : AtOff ρ off a ∧ AtOff ρ (off + a.length) b := by
  refine ⟨fun i p hi => h i p ?_, fun i p hi => ?_⟩
  · rw [List.getElem?_append_left (List.getElem?_eq_some_iff.1 hi).1]; exact hi
  · have := h (a.length + i) p (by rw [List.getElem?_append_right (by omega)]; simpa using hi)
    rw [Nat.add_assoc]; exact this
theorem InH.app {H : AHeap} {off : Nat} {a b : AHeap} (h : InH H off (a ++ b)) : InH H off a ∧ InH H (off + a.length) b := by
  refine ⟨fun i p hi => h i p ?_, fun i p hi => ?_⟩
  · rw [List.getElem?_append_left (List.getElem?_eq_some_iff.1 hi).1]; exact hi
  · have := h (a.length + i) p (by rw [List.getElem?_append_right (by omega)]; simpa using hi)
    rw [Nat.add_assoc]; exact this
theorem InH.refl (H : AHeap) : InH H 0 H := fun i o h => by rw [Nat.zero_add]; exact h
def ArgP (ρ : Ren) (w : World) (p : Plc) (o : AObj) : Prop :=
  (p = .none ∧ o = .none) ∨ (p = .null ∧ o = .null) ∨ ∃ lc vs sz, p = .at lc ∧ o = .cells false vs sz ∧ lc.blk < w.heap.size ∧ ORel ρ lc w (.cells false vs sz)
structure PArg (w : World) (v : Value) (off : Nat) (ls : List Plc) (L : AHeap) (va : Value) : Prop where
  len : ls.length = L.length
  obj : ∀ ρ : Ren, AtOff ρ off ls → ∀ (i : Nat) (p : Plc), ls[i]? = some p → ∃ o : AObj, L[i]? = some o ∧ ArgP ρ w p o
  val : ∀ ρ, AtOff ρ off ls → VRel ρ va v
inductive PAll (w : World) : Nat → List Value → List Plc → AHeap → List Value → Prop
  | nil (off : Nat) : PAll w off [] [] [] []
  | cons {off : Nat} {v va : Value} {vs vas : List Value} {ls ls' : List Plc} {L L' : AHeap} (h : PArg w v off ls L va) (k : PAll w (off + ls.length) vs ls' L' vas) : PAll w off (v :: vs) (ls ++ ls') (L ++ L') (va :: vas)
theorem PArg.scalar {w : World} {v : Value} (off : Nat) (h : Scalar v = true) : PArg w v off [] [] v := ⟨rfl, fun ρ _ i p h => by simp at h, fun ρ _ => .scalar h ρ⟩
theorem PAll.sum {w : World} : ∀ {off : Nat} {vs vas : List Value} {ls : List Plc} {L : AHeap}, PAll w off vs ls L vas → ls.length = L.length ∧ (∀ ρ : Ren, AtOff ρ off ls → (∀ (i : Nat) (p : Plc), ls[i]? = some p → ∃ o : AObj, L[i]? = some o ∧ ArgP ρ w p o) ∧ LRel ρ vas vs) := by
  intro off vs vas ls L h
  induction h with
  | nil off => exact ⟨rfl, fun ρ _ => ⟨fun i p h => by simp at h, .nil ρ⟩⟩
  | @cons off v va vs vas ls ls' L L' h k ih =>
    refine ⟨by rw [List.length_append, List.length_append, h.len, ih.1], fun ρ hρ => ?_⟩
    obtain ⟨h1, h2⟩ := hρ.app
    obtain ⟨h3, h4⟩ := ih.2 ρ h2
    refine ⟨fun i p hi => ?_, .cons (h.val ρ h1) h4⟩
    by_cases e : i < ls.length
    · rw [List.getElem?_append_left e] at hi
      obtain ⟨o, k1, k2⟩ := h.obj ρ h1 i p hi
      exact ⟨o, by rw [List.getElem?_append_left (by rw [← h.len]; exact e)]; exact k1, k2⟩
    · rw [List.getElem?_append_right (by omega)] at hi
      obtain ⟨o, k1, k2⟩ := h3 _ p hi
      exact ⟨o, by rw [List.getElem?_append_right (by rw [← h.len]; omega), ← h.len]; exact k1, k2⟩
theorem world_of_acallsP {P : Program} {f : FuncId} {args : List Value} {args' : Array Value} {H : AHeap} {ls : List Plc} {v : Value} {w : World} (hA : PAll w 0 args'.toList ls H args) (hv : Scalar v = true) (h : ACalls P f args H (Rets v H)) :
    Calls P f args' w fun e w' => e = .returned v ∧ Below w.heap.size w w' := by
  obtain ⟨hlen, hs⟩ := hA.sum
  have hat : AtOff (rhoP ls) 0 ls := fun i p hi => by
    rw [Nat.zero_add]; unfold rhoP; rw [List.getD_eq_getElem?_getD, hi]; rfl
  obtain ⟨hob, hval⟩ := hs _ hat
  have hrev : ∀ (b : Nat) (o : AObj), H[b]? = some o → ∃ p, ls[b]? = some p ∧ ArgP (rhoP ls) w p o := fun b o hb => by
    have hbl := (List.getElem?_eq_some_iff.1 hb).1
    obtain ⟨o', h1, h2⟩ := hob b _ (List.getElem?_eq_getElem (by rw [hlen]; exact hbl))
    rw [hb] at h1; cases h1
    exact ⟨_, List.getElem?_eq_getElem (by rw [hlen]; exact hbl), h2⟩
  have hget : ∀ b p, rhoP ls b = p → p ≠ .none → ls[b]? = some p := fun b p hb hn => by
    unfold rhoP at hb
    rw [List.getD_eq_getElem?_getD] at hb
    cases e : ls[b]? with
    | none => rw [e] at hb; exact absurd hb.symm hn
    | some q => rw [e] at hb; exact congrArg some hb
  have hnw : ∀ b l, rhoP ls b = .at l → ¬ wr H b := fun b l hb ⟨o, h1, h2⟩ => by
    obtain ⟨o', h3, h4⟩ := hob b _ (hget b _ hb (by simp))
    rw [h1] at h3; cases h3
    rcases h4 with ⟨h3, _⟩ | ⟨h3, _⟩ | ⟨lc, vs, sz, h3, rfl, _⟩
    · cases h3
    · cases h3
    · cases h2
  have hh : HRel (rhoP ls) H w := by
    refine ⟨fun b hb => ?_, fun b l hb => ?_, fun b c l m _ hb _ hw => absurd hw (hnw b l hb), fun g vs sz hg => ?_, fun b hb => ?_⟩
    · unfold rhoP
      rw [List.getD_eq_getElem?_getD, List.getElem?_eq_none (by rw [hlen]; exact hb)]; rfl
    · obtain ⟨o, h1, h2⟩ := hob b _ (hget b _ hb (by simp))
      rcases h2 with ⟨h3, _⟩ | ⟨h3, _⟩ | ⟨lc, vs, sz, h3, rfl, h4, h5⟩
      · cases h3
      · cases h3
      · cases h3; exact ⟨_, h1, h4, h5⟩
    · obtain ⟨p, _, h3⟩ := hrev g _ hg
      rcases h3 with ⟨_, h3⟩ | ⟨_, h3⟩ | ⟨lc, vs, sz, _, h3, _⟩ <;> cases h3
    · obtain ⟨o, h1, h2⟩ := hob b _ (hget b _ hb (by simp))
      rcases h2 with ⟨h3, _⟩ | ⟨h3, _⟩ | ⟨lc, vs, sz, h3, _⟩ <;> cases h3
  refine (h _ w args' hh hval).mono ?_
  rintro e w' ⟨v1, v', H', ρ', rfl, ⟨rfl, rfl⟩, k1, k2, k3, k4⟩
  rw [k1.scalar_eq hv]
  exact ⟨rfl, k3.os, k3.tape, k3.output, k3.size, fun k hk => k3.keep k hk fun ⟨b, l, hb, _, hw⟩ => hnw b l hb hw⟩
/-! ### Slices that came in -/
/-- A slice in the world: its elements, of one cell each. -/
def SlC {α : Type} (f : α → Value) (w : World) (u : Value) (r : List α) : Prop :=
  (u = .slice none 0 0 ∧ r = []) ∨ ∃ x l c, u = .slice (some x) l c ∧ l ≤ c ∧ r.length = l ∧ (c = 0 ∨ (x.spot = none ∧ ∃ cs T fr, w.heap[x.block]? = some (.cells cs T fr) ∧ x.off + c ≤ cs.size ∧ ∀ i (h : i < r.length), cs[x.off + i]? = some (f r[i])))
theorem AtOff.one {ρ : Ren} {off : Nat} {p : Plc} (h : AtOff ρ off [p]) : ρ off = p := h 0 p rfl
theorem parg_one {w : World} {v va : Value} {off : Nat} {p : Plc} {o : AObj} (h1 : ∀ ρ, ρ off = p → ArgP ρ w p o) (h2 : ∀ ρ, ρ off = p → VRel ρ va v) : PArg w v off [p] [o] va :=
  ⟨rfl, fun ρ hρ i q hi => by
    cases i with
    | zero => simp at hi; subst hi; exact ⟨o, rfl, h1 ρ hρ.one⟩
    | succ i => simp at hi, fun ρ hρ => h2 ρ hρ.one⟩
theorem parg_row {α : Type} {f : α → Value} (hf : ∀ x, Scalar (f x) = true) {w : World} {u : Value} {r : List α} (h : SlC f w u r) (off : Nat) : ∃ p o va, PArg w u off [p] [o] va ∧ ∀ H, InH H off [o] → Sl f H va r := by
  rcases h with ⟨rfl, rfl⟩ | ⟨x, l, c, rfl, hl, hr, h⟩
  · exact ⟨.none, .none, .slice none 0 0, parg_one (fun ρ _ => .inl ⟨rfl, rfl⟩) (fun ρ _ => .nilSlice), fun H _ => .nil⟩
  · by_cases h0 : c = 0
    · subst h0
      obtain rfl : l = 0 := by omega
      obtain rfl : r = [] := List.length_eq_zero_iff.1 hr
      exact ⟨.null, .null, .slice (some ⟨off, 0, none⟩) 0 0, parg_one (fun ρ _ => .inr (.inl ⟨rfl, rfl⟩)) (fun ρ h => .empty h), fun H hH => .inr ⟨off, 0, 0, [], rfl, .inr (.inr (.inl ⟨hH 0 _ rfl, rfl⟩)), by simp, by simp, fun i h => by simp at h⟩⟩
    · obtain ⟨hsp, cs, T, fr, hb, hsz, hc⟩ := h.resolve_left h0
      have hlt : x.block < w.heap.size := (Array.getElem?_eq_some_iff.1 hb).1
      have hx : x = ⟨x.block, x.off, none⟩ := by cases x; simp at hsp; subst hsp; rfl
      refine ⟨.at ⟨x.block, x.off, x.off + c, 1⟩, .cells false (r.map f) 1, .slice (some ⟨off, 0, none⟩) l c, parg_one (fun ρ hρ => .inr (.inr ⟨_, _, _, rfl, rfl, hlt, rfl, cs, T, fr, hb, by simp; omega, hsz, fun i hi => ?_, fun h => by cases h⟩)) (fun ρ hρ => ?_), fun H hH => ?_⟩
      · have hi' : i < r.length := by simpa using hi
        have h1 := hc i hi'
        have e1 : (r.map f).getD i undef = f r[i] := by simp [hi']
        have e2 : cs.getD (x.off + i) undef = f r[i] := by rw [Array.getD_eq_getD_getElem?, h1]; rfl
        rw [e1]
        show VRel ρ (f r[i]) (cs.getD (x.off + i) undef)
        rw [e2]
        exact .scalar (hf _) ρ
      · rw [hx]
        exact .slice hρ hl (Nat.le_refl _) (.inl rfl) (by simp)
      · exact .inr ⟨off, 0, c, r.map f, by rw [hr], .inl ⟨false, hH 0 _ rfl⟩, by simp, by omega, fun i h => by simp [h]⟩
/-- A slice of slices. -/
structure Sl2C {α : Type} (f : α → Value) (w : World) (u : Value) (us : List Value) (rs : List (List α)) : Prop where
  out : SlC (fun v : Value => v) w u us
  len : us.length = rs.length
  row : ∀ i (h : i < us.length), SlC f w us[i] (nth rs i)
/-! ### From the row's facts -/
theorem addr_at {x : Addr} (hsp : x.spot = none) (i : Nat) : x.add i = ⟨x.block, x.off + i, none⟩ := by
  have hx : x = ⟨x.block, x.off, none⟩ := by cases x; simp at hsp; subst hsp; rfl
  rw [hx]
  unfold Addr.add
  split
  · subst i; rfl
  · rfl
theorem cell_some {w : World} {a : Addr} {v : Value} (h : w.cell? a = some v) : a.spot = none ∧ ∃ cs T fr, w.heap[a.block]? = some (.cells cs T fr) ∧ cs[a.off]? = some v := by
  unfold World.cell? at h
  split at h
  · rename_i c T fr hb
    split at h
    · cases h
    · rename_i hs
      exact ⟨by simpa using hs, c, T, fr, hb, h⟩
  · cases h
theorem slc_of {α : Type} {f : α → Value} {w : World} {x : Addr} {l c : Nat} {r : List α} (hl : l ≤ c) (hr : r.length = l) (hc : ∀ i, i < c → ∃ v, w.cell? (x.add i) = some v) (hv : ∀ i (h : i < r.length), w.cell? (x.add i) = some (f r[i])) : SlC f w (.slice (some x) l c) r := by
  refine .inr ⟨x, l, c, rfl, hl, hr, ?_⟩
  by_cases h0 : c = 0
  · exact .inl h0
  · right
    obtain ⟨v0, h1⟩ := hc 0 (by omega)
    have e0 : x.add 0 = x := by unfold Addr.add; rw [if_pos rfl]
    rw [e0] at h1
    obtain ⟨hsp, cs, T, fr, hb, _⟩ := cell_some h1
    have at' : ∀ i v, w.cell? (x.add i) = some v → cs[x.off + i]? = some v := fun i v h => by
      rw [addr_at hsp] at h
      obtain ⟨_, cs', T', fr', hb', h2⟩ := cell_some h
      simp only at hb' h2
      rw [hb] at hb'; cases hb'
      exact h2
    refine ⟨hsp, cs, T, fr, hb, ?_, fun i h => at' i _ (hv i h)⟩
    obtain ⟨v, h2⟩ := hc (c - 1) (by omega)
    have := (Array.getElem?_eq_some_iff.1 (at' _ _ h2)).1
    omega
/-! ### Arrays that came in -/
theorem okWide_array {P : Program} {w : World} {r : Reach} {base : Nat} {t e : TypeId} {n : Nat} {v : Value} (ht : P.underlying t = some (.array n e)) (h : Value.okWide P w r base t v) : ∃ cs, v = .agg cs ∧ cs.size = P.cellsOf t := by
  simp only [Value.okWide, ht] at h
  obtain ⟨cs, h1, h2, _⟩ := h
  exact ⟨cs, h1, h2⟩
end Go.Proofs.YtponfeigjmjbmaaA


/-
  A law's arguments: slices whose elements are structs or arrays, and arrays of numbers.
-/
namespace Go.Proofs.YtponfeigjmjbmaaA
set_option linter.unusedVariables false
open Go Go.RowKit Go.Shelf Go.ChangeShapes Go.WideShapes
section
variable {α : Type} [Inhabited α] {f : α → List Value} {m : Nat}
def SlCm (f : α → List Value) (m : Nat) (w : World) (u : Value) (r : List α) : Prop :=
  (u = .slice none 0 0 ∧ r = []) ∨ ∃ x l c, u = .slice (some x) l c ∧ l ≤ c ∧ r.length = l ∧ (c = 0 ∨ (x.spot = none ∧ ∃ cs T fr, w.heap[x.block]? = some (.cells cs T fr) ∧ x.off + c * m ≤ cs.size ∧ ∀ i (h : i < r.length), ∀ j, j < m → cs[x.off + i * m + j]? = (f (nth r i))[j]?))
def ElemOk (P : Program) (e : TypeId) (f : α → List Value) (ok : α → Prop) : Prop := ∀ (H : Type) (enc : TypeId × Value → H) (w : World) (base fuel : Nat) (cs : List Value) (x : DataW H × List MemPlace), DataW.trod enc P w base (fun _ => true) true fuel e cs = some x → ∃ a, cs = f a ∧ ok a
end
section
variable {H : Type} {enc : TypeId × Value → H} {P : Program} {w : World} {base fuel : Nat} {t e : TypeId} {cs : List Value} {x : DataW H × List MemPlace}
theorem take1 {o : Nat} {v : Value} (h : (cs.drop o).take 1 = [v]) : cs[o]? = some v := by
  have h1 : ((cs.drop o).take 1)[0]? = some v := by rw [h]; rfl
  rw [List.getElem?_take, if_pos (by decide), List.getElem?_drop] at h1
  exact h1
theorem bnd_i64 {n : Int} (hw : (Lit.int .i64 n).wf = true) : -9223372036854775808 ≤ n ∧ n ≤ 9223372036854775807 := by
  simp [Lit.wf, IntKind.min, IntKind.max, IntKind.signed, IntKind.bits] at hw
  omega
end
theorem parg_sc {w : World} {vs : List Value} (h : ∀ v ∈ vs, Scalar v = true) (off : Nat) : PArg w (.agg vs.toArray) off [] [] (.agg vs.toArray) := by
  refine ⟨rfl, fun ρ _ i p h => by simp at h, fun ρ _ => .agg rfl fun i hi => ?_⟩
  have hi' : i < vs.length := by simpa using hi
  have : (vs.toArray.getD i undef) = vs[i] := by rw [Array.getD_eq_getD_getElem?]; simp [hi']
  rw [this]
  exact .scalar (h _ (List.getElem_mem hi')) ρ
end Go.Proofs.YtponfeigjmjbmaaA


/-
  A law's arguments: arrays of whole numbers of a sign.
-/
namespace Go.Proofs.YtponfeigjmjbmaaA
set_option linter.unusedVariables false
open Go Go.RowKit Go.Proofs
section
variable {P : Program} {e : TypeId} {H : Type} {enc : TypeId × Value → H} {w : World} {base fuel : Nat} {cs : List Value} {x : DataW H × List MemPlace}
theorem arr_i64 {n : Nat} {el : TypeId} (hs : P.underlying e = some (.array n el)) (hc : P.cellsOf el = 1) (hu : P.underlying el = some (.int .i64)) (h : DataW.trod enc P w base (fun _ => true) true fuel e cs = some x) {i : Nat} (hi : i < n) : ∃ k : Int, cs[i]? = some (.int .i64 k) ∧ -9223372036854775808 ≤ k ∧ k ≤ 9223372036854775807 := by
  obtain ⟨xs, m, _, _, _, hl, hx⟩ := DataW.trod_array hs h
  have h1 := hx i hi
  rw [hc, Nat.mul_one, List.getElem?_eq_getElem (by omega)] at h1
  obtain ⟨z, e1, _, hw⟩ := DataW.trod_int hu h1
  exact ⟨z, take1 e1, bnd_i64 hw⟩
end
theorem arr_four {cs : Array Value} (h : cs.size = 4) : ∃ a b c d, cs = #[a, b, c, d] := by
  obtain ⟨l⟩ := cs
  match l, h with
  | [a, b, c, d], _ => exact ⟨a, b, c, d, rfl⟩
theorem slc_of_rowf {α : Type} {f : α → Value} {w : World} {a : Option Addr} {len cap : Nat} {zs : List α} (h : RowF f w a len cap zs) : SlC f w (.slice a len cap) (zs.take len) := by
  rcases h with ⟨rfl, rfl, rfl⟩ | ⟨x, rfl, hsp, hl, hz, hb, hc⟩
  · exact .inl ⟨rfl, by simp⟩
  · refine slc_of hl (by rw [List.length_take]; omega) (fun i hi => ⟨_, hc i (by omega)⟩) (fun i hi => ?_)
    rw [List.length_take] at hi
    rw [hc i (by omega), List.getElem_take]
end Go.Proofs.YtponfeigjmjbmaaA


/-
  Walks of functions of the given program, and what they compute.
-/
namespace Go.Proofs.YtponfeigjmjbmaaA
set_option linter.unusedVariables false
open Go Go.RowKit Go.Shelf Go.Proofs
theorem putG_bl (lb lk lc : List Nat) (f sh : Nat) : bl (putG lb lk lc f sh) = bytk 4 (hdG lb lk f sh) ++ bytk 8 lb ++ bytk 4 (lk ++ lc) := rfl
theorem putG_size (lb lk lc : List Nat) (f sh : Nat) : (putG lb lk lc f sh).size = 16 + 8 * lb.length + 4 * lk.length + 4 * lc.length := by
  rw [← bl_length, putG_bl, List.length_append, List.length_append, bytk_len, bytk_len, bytk_len, List.length_append]; show 4 * 4 + _ + _ = _; omega
abbrev gPut (B : ByteArray) : ByteArray := putG (gBl B) (gBk B) (chL B (gA0 B) (gK B)) (gF0 B) (gSh B)
end Go.Proofs.YtponfeigjmjbmaaA


/-
  Walks of functions of the given program, and what they compute.
-/
namespace Go.Proofs.YtponfeigjmjbmaaA
set_option linter.unusedVariables false
open Go Go.RowKit Go.Shelf Go.Proofs
theorem or_has {a b c : Nat} (h : a &&& b = b) : (a ||| c) &&& b = b := by
  refine Nat.eq_of_testBit_eq fun i => ?_
  have h1 := congrArg (fun x => x.testBit i) h
  simp only [Nat.testBit_and, Nat.testBit_or] at h1 ⊢
  cases ha : a.testBit i <;> cases hb : b.testBit i <;> simp_all
theorem or_own (a b : Nat) : (a ||| b) &&& b = b := by
  refine Nat.eq_of_testBit_eq fun i => ?_
  simp only [Nat.testBit_and, Nat.testBit_or]
  cases a.testBit i <;> cases b.testBit i <;> rfl
theorem bl_has {names : List ByteArray} {nw sh : Nat} (hw : 0 < nw) : ∀ i j, j < i → nth (blN names nw sh i) (gh (nth names j) / 64 % nw) &&& bitV (gh (nth names j)) sh = bitV (gh (nth names j)) sh
  | 0, j, h => absurd h (Nat.not_lt_zero _)
  | i + 1, j, h => by
    have hl := blN_len (names := names) (nw := nw) (sh := sh) i
    have hm := Nat.mod_lt (gh (nth names i) / 64) hw
    rw [blN, nth_setN]
    by_cases e : gh (nth names i) / 64 % nw = gh (nth names j) / 64 % nw
    · rw [if_pos ⟨e, by rw [hl, ← e]; exact hm⟩]
      by_cases ej : j = i
      · subst ej; exact or_own _ _
      · rw [e]; exact or_has (bl_has hw i j (by omega))
    · rw [if_neg (fun q => e q.1)]
      by_cases ej : j = i
      · subst ej; exact absurd rfl e
      · exact bl_has hw i j (by omega)
theorem may_in {names : List ByteArray} {nw sh j : Nat} (hw : 0 < nw) (hj : j < names.length) : mayV (blN names nw sh names.length) sh (gh (nth names j)) = true := by
  have hl := blN_len (names := names) (nw := nw) (sh := sh) names.length
  unfold mayV
  rw [if_neg (by omega), hl]
  exact decide_eq_true (bl_has hw names.length j hj)
/-- The names in order. -/
def srtL (nm : List ByteArray) (l : List Nat) : List ByteArray := l.map fun x => nth nm x
theorem srtL_nth {nm : List ByteArray} {l : List Nat} {i : Nat} (h : i < l.length) : nth (srtL nm l) i = nth nm (nth l i) := by
  rw [nth_eq (by rw [srtL, List.length_map]; exact h), nth_eq h]
  simp [srtL]
theorem srtL_snoc {nm : List ByteArray} {l : List Nat} {i : Nat} (h : i < l.length) : srtL nm (l.take i) ++ [nth nm (nth l i)] = srtL nm (l.take (i + 1)) := by
  rw [List.take_succ_eq_append_getElem h, srtL, srtL, List.map_append, nth_eq h]; rfl
theorem srtL_key {nm : List ByteArray} {l : List Nat} {nb q : Nat} (h : q < l.length) : gkey (srtL nm l) nb q = gkey nm nb (nth l q) := by unfold gkey; rw [srtL_nth h]
theorem srtL_sorted {nm : List ByteArray} {l : List Nat} {nb : Nat} (h : OrdL (gkey nm nb) l nm.length) : sortedK (srtL nm l) nb = true := by
  have hl := h.len
  refine sortedK_iff.2 fun q hq => ?_
  have hq' : q + 1 < l.length := by rw [srtL, List.length_map] at hq; exact hq
  rw [srtL_key (by omega), srtL_key hq']
  exact (h.srt q (q + 1) (Nat.zero_le _) (Nat.lt_succ_self _) (by omega)).le
theorem srtL_mem {nm : List ByteArray} {l : List Nat} (h : ∀ x ∈ l, x < nm.length) : ∀ s ∈ srtL nm l, s ∈ nm := fun s hs => by
  obtain ⟨x, hx, rfl⟩ := List.mem_map.1 hs
  exact nthS_mem (h x hx)
end Go.Proofs.YtponfeigjmjbmaaA


/-
  Walks of functions of the given program, and what they compute.
-/
namespace Go.Proofs.YtponfeigjmjbmaaA
set_option linter.unusedVariables false
open Go Go.RowKit Go.Shelf Go.Proofs
section
variable {S : List ByteArray} {nb f nw sh : Nat}
theorem gkey_lt (hb : 0 < nb) (i : Nat) : gkey S nb i < nb := Nat.mod_lt _ hb
theorem bk_spec (hf : 1 ≤ f) : ∀ i b, b < nb → (nth (bkN S nb f i) b = 0 ∧ ∀ j, j < i → gkey S nb j ≠ b) ∨ ∃ q, q < i ∧ nth (bkN S nb f i) b = f + q ∧ gkey S nb q = b ∧ ∀ j, j < q → gkey S nb j ≠ b
  | 0, b, hb => .inl ⟨by rw [bkN, nth_eq (by rw [List.length_replicate]; exact hb)]; simp, fun j h => absurd h (Nat.not_lt_zero _)⟩
  | i + 1, b, hb => by
    have hl := bkN_len (names := S) (nb := nb) (f := f) i
    rw [bkN]
    split
    · rename_i h0
      rw [nth_setN]
      by_cases e : gkey S nb i = b
      · rw [if_pos ⟨e, by omega⟩]
        rcases bk_spec hf i b hb with ⟨h1, h2⟩ | ⟨q, h1, h2, h3⟩
        · exact .inr ⟨i, by omega, rfl, e, h2⟩
        · rw [e] at h0; omega
      · rw [if_neg (fun q => e q.1)]
        rcases bk_spec hf i b hb with ⟨h1, h2⟩ | ⟨q, h1, h2, h3, h4⟩
        · refine .inl ⟨h1, fun j hj => ?_⟩
          by_cases ej : j = i
          · subst ej; exact e
          · exact h2 j (by omega)
        · exact .inr ⟨q, by omega, h2, h3, h4⟩
    · rename_i h0
      rcases bk_spec hf i b hb with ⟨h1, h2⟩ | ⟨q, h1, h2, h3, h4⟩
      · refine .inl ⟨h1, fun j hj => ?_⟩
        by_cases ej : j = i
        · subst ej; intro e; rw [e] at h0; exact h0 h1
        · exact h2 j (by omega)
      · exact .inr ⟨q, by omega, h2, h3, h4⟩
theorem foldl_max_le {M : Nat} : ∀ (l : List Nat) (a : Nat), a ≤ M → (∀ x ∈ l, x ≤ M) → l.foldl max a ≤ M
  | [], _, ha, _ => ha
  | x :: l, a, ha, h => foldl_max_le l (max a x) (by have := h x List.mem_cons_self; omega) fun y hy => h y (List.mem_cons_of_mem _ hy)
theorem foldl_max_ge : ∀ (l : List Nat) (a : Nat), a ≤ l.foldl max a ∧ ∀ x ∈ l, x ≤ l.foldl max a
  | [], a => ⟨Nat.le_refl _, fun x hx => nomatch hx⟩
  | x :: l, a => by
    obtain ⟨h1, h2⟩ := foldl_max_ge l (max a x)
    rw [List.foldl_cons]
    refine ⟨by omega, fun y hy => ?_⟩
    rcases List.mem_cons.1 hy with rfl | hy
    · omega
    · exact h2 y hy
theorem maxL_eq {l : List Nat} {m : Nat} (h1 : m ∈ l) (h2 : ∀ x ∈ l, x ≤ m) : maxL l = m := Nat.le_antisymm (foldl_max_le l 0 (Nat.zero_le _) h2) ((foldl_max_ge l 0).2 m h1)
theorem key_mono (hs : sortedK S nb = true) : ∀ {q p}, p ≤ q → q < S.length → gkey S nb p ≤ gkey S nb q
  | 0, p, h, _ => by rw [Nat.le_zero.1 h]; exact Nat.le_refl _
  | q + 1, p, h, hq => by
    by_cases e : p = q + 1
    · subst e; exact Nat.le_refl _
    · exact Nat.le_trans (key_mono hs (by omega) (by omega)) (sortedK_iff.1 hs q hq)
theorem bk_head (hf : 1 ≤ f) (hb : 0 < nb) {i : Nat} (hi : i < S.length) : ∃ q, q ≤ i ∧ nth (bkN S nb f S.length) (gkey S nb i) = f + q ∧ gkey S nb q = gkey S nb i ∧ ∀ j, j < q → gkey S nb j ≠ gkey S nb i := by
  rcases bk_spec (S := S) hf S.length _ (gkey_lt (S := S) hb i) with ⟨h1, h2⟩ | ⟨q, h1, h2, h3, h4⟩
  · exact absurd rfl (h2 i hi)
  · refine ⟨q, ?_, h2, h3, h4⟩
    by_cases e : q ≤ i
    · exact e
    · exact absurd rfl (h4 i (by omega))
theorem ch_nth : ∀ k i, i < k → k ≤ S.length → nth (chN S nb k) i = chV S nb i
  | 0, i, h, _ => absurd h (Nat.not_lt_zero _)
  | k + 1, i, h, hk => by
    have hl := chN_len (names := S) (nb := nb) k
    rw [chN, nth_setN]
    by_cases e : k = i
    · rw [if_pos ⟨e, by omega⟩, e]
    · rw [if_neg (fun q => e q.1)]; exact ch_nth k i (by omega) (by omega)
theorem chV_odd {i : Nat} (h : lastB S nb i) : chV S nb i % 2 = 1 := by unfold chV; rw [if_pos h]; omega
theorem chV_even {i : Nat} (h : ¬ lastB S nb i) : chV S nb i % 2 = 0 := by unfold chV; rw [if_neg h]; omega
theorem chV_half (i : Nat) : chV S nb i / 2 = gh (nth S i) / 2 := by unfold chV; split <;> omega
theorem lastB_no {i : Nat} (h1 : i + 1 < S.length) (h2 : gkey S nb (i + 1) = gkey S nb i) : ¬ lastB S nb i := fun h => by
  rcases h with h | h
  · omega
  · exact h h2
theorem bk_max (hs : sortedK S nb = true) (hf : 1 ≤ f) (hb : 0 < nb) (h0 : 0 < S.length) : ∃ q, q < S.length ∧ maxL (bkN S nb f S.length) = f + q ∧ ∀ j, q ≤ j → j < S.length → gkey S nb j = gkey S nb (S.length - 1) := by
  obtain ⟨q, h1, h2, h3, h4⟩ := bk_head (S := S) hf hb (show S.length - 1 < S.length by omega)
  have hl := bkN_len (names := S) (nb := nb) (f := f) S.length
  refine ⟨q, by omega, maxL_eq ?_ fun x hx => ?_, fun j hj1 hj2 => ?_⟩
  · rw [← h2]; exact nthS_mem (by rw [hl]; exact gkey_lt hb _)
  · obtain ⟨b, hb1, rfl⟩ := List.getElem_of_mem hx
    rw [← nth_eq hb1]
    rcases bk_spec (S := S) (nb := nb) hf S.length b (by omega) with ⟨g1, _⟩ | ⟨q', g1, g2, g3, g4⟩
    · omega
    · by_cases e : b = gkey S nb (S.length - 1)
      · rw [e] at g2 ⊢; omega
      · rw [g2]
        by_cases e2 : q' ≤ q
        · omega
        · have k1 := key_mono hs (show q ≤ q' by omega) g1
          have k2 := key_mono hs (show q' ≤ S.length - 1 by omega) (by omega)
          omega
  · have k1 := key_mono hs hj1 hj2
    have k2 := key_mono hs (show j ≤ S.length - 1 by omega) (by omega)
    omega
end
theorem bytk_at {k : Nat} : ∀ {l : List Nat} {i : Nat}, i < l.length → ((bytk k l).drop (k * i)).take k = putL (nth l i) k
  | [], i, h => absurd h (Nat.not_lt_zero _)
  | x :: l, 0, _ => by
    rw [show x :: l = [x] ++ l from rfl, bytk_app, Nat.mul_zero, List.drop_zero, show bytk k [x] = putL x k by simp [bytk], List.take_append_of_le_length (by rw [putL_length]; exact Nat.le_refl _), List.take_of_length_le (by rw [putL_length]; exact Nat.le_refl _)]; rfl
  | x :: l, i + 1, h => by
    have h' : i < l.length := by simpa using h
    rw [show x :: l = [x] ++ l from rfl, bytk_app, show bytk k [x] = putL x k by simp [bytk], List.drop_append, List.drop_of_length_le (by rw [putL_length, Nat.mul_succ]; omega), List.nil_append, putL_length, show k * (i + 1) - k = k * i by rw [Nat.mul_succ]; omega, bytk_at h']; rfl
theorem get_at {B : ByteArray} {P Q : List UInt8} {k a i : Nat} {l : List Nat} (hB : bl B = P ++ (bytk k l ++ Q)) (ha : P.length = a) (hi : i < l.length) (hw : nth l i < 256 ^ k) : getB (B.extract (a + k * i) (a + k * i + k)) = nth l i := by
  have hki : k * i + k ≤ (bytk k l).length := by rw [bytk_len, ← Nat.mul_succ]; exact Nat.mul_le_mul_left _ hi
  unfold getB
  rw [bl_extract, hB, List.drop_append, List.drop_of_length_le (by omega), List.nil_append, ha, show a + k * i + k - (a + k * i) = k by omega, show a + k * i - a = k * i by omega, List.drop_append_of_le_length (by omega), List.take_append_of_le_length (by rw [List.length_drop]; omega), bytk_at hi, getN_put, Nat.mod_eq_of_lt hw]
theorem ext_nth {l m : List Nat} (hl : l.length = m.length) (h : ∀ i, i < l.length → nth l i = nth m i) : l = m := List.ext_getElem hl fun i h1 h2 => by rw [← nth_eq h1, ← nth_eq h2]; exact h i h1
theorem nth_appL {α : Type} [Inhabited α] {l m : List α} {i : Nat} (h : i < l.length) : nth (l ++ m) i = nth l i := by
  rw [nth_eq (by rw [List.length_append]; omega), nth_eq h, List.getElem_append_left h]
theorem nth_appR {α : Type} [Inhabited α] {l m : List α} {i : Nat} (h : i < m.length) : nth (l ++ m) (l.length + i) = nth m i := by
  rw [nth_eq (by rw [List.length_append]; omega), nth_eq h, List.getElem_append_right (by omega)]; simp
structure GBt (S : List ByteArray) (nb f nw sh : Nat) : Prop where
  s : sortedK S nb = true
  b1 : 1 ≤ nb
  b2 : nb ≤ 256
  f1 : 1 ≤ f
  f2 : f + S.length ≤ 256
  w1 : 1 ≤ nw
  w2 : nw ≤ 256
  sh : sh ≤ 63
abbrev bB (S : List ByteArray) (nb f nw sh : Nat) : ByteArray := putG (blN S nw sh S.length) (bkN S nb f S.length) (chN S nb S.length) f sh
section
variable {S : List ByteArray} {nb f nw sh : Nat}
theorem bB_size : (bB S nb f nw sh).size = 16 + 8 * nw + 4 * nb + 4 * S.length := by rw [putG_size, blN_len, bkN_len, chN_len]
theorem bB_hd (g : GBt S nb f nw sh) {i : Nat} (hi : i < 4) : atV (bB S nb f nw sh) (4 * i) 4 = nth [nb, f, nw, sh] i := by
  have h1 := g.b2; have h2 := g.f2; have h3 := g.w2; have h4 := g.sh
  have e : hdG (blN S nw sh S.length) (bkN S nb f S.length) f sh = [nb, f, nw, sh] := by unfold hdG; rw [blN_len, bkN_len]
  rw [atV_in (by rw [bB_size]; omega)]
  have := get_at (B := bB S nb f nw sh) (P := []) (k := 4) (a := 0) (i := i) (l := [nb, f, nw, sh]) (Q := bytk 8 (blN S nw sh S.length) ++ bytk 4 (bkN S nb f S.length ++ chN S nb S.length)) (by rw [putG_bl, e, List.append_assoc]; rfl) rfl hi (by show _ < 4294967296; rcases (show i = 0 ∨ i = 1 ∨ i = 2 ∨ i = 3 by omega) with rfl | rfl | rfl | rfl <;> show _ < _ <;> simp [nth] <;> omega)
  rw [Nat.zero_add] at this; exact this
theorem bB_N (g : GBt S nb f nw sh) : gN (bB S nb f nw sh) = nb := bB_hd g (i := 0) (by decide)
theorem bB_F (g : GBt S nb f nw sh) : gF0 (bB S nb f nw sh) = f := bB_hd g (i := 1) (by decide)
theorem bB_M (g : GBt S nb f nw sh) : gM (bB S nb f nw sh) = nw := bB_hd g (i := 2) (by decide)
theorem bB_S (g : GBt S nb f nw sh) : gSh (bB S nb f nw sh) = sh := bB_hd g (i := 3) (by decide)
theorem bB_A (g : GBt S nb f nw sh) : gA0 (bB S nb f nw sh) = 16 + 8 * nw + 4 * nb := by unfold gA0; rw [bB_N g, bB_M g]; omega
theorem bB_bl (g : GBt S nb f nw sh) : gBl (bB S nb f nw sh) = blN S nw sh S.length := by
  refine ext_nth (by rw [gBl_len, bB_M g, blN_len]) fun i hi => ?_
  rw [gBl_len] at hi
  rw [← gBl_at (by rw [bB_A g, bB_size]; omega) hi]
  rw [bB_M g] at hi
  have := get_at (B := bB S nb f nw sh) (P := bytk 4 (hdG (blN S nw sh S.length) (bkN S nb f S.length) f sh)) (k := 8) (a := 16) (i := i) (l := blN S nw sh S.length) (Q := bytk 4 (bkN S nb f S.length ++ chN S nb S.length)) (by rw [putG_bl, List.append_assoc]) (by rw [bytk_len]; rfl) (by rw [blN_len]; exact hi) (blN_w _ _ (nthS_mem (by rw [blN_len]; exact hi)))
  rw [← this]; congr 2; omega
theorem bB_kc (g : GBt S nb f nw sh) {i : Nat} (hi : i < nb + S.length) : atV (bB S nb f nw sh) (16 + 8 * nw + 4 * i) 4 = nth (bkN S nb f S.length ++ chN S nb S.length) i := by
  have hl : (bkN S nb f S.length ++ chN S nb S.length).length = nb + S.length := by rw [List.length_append, bkN_len, chN_len]
  have h2 := g.f2
  rw [atV_in (by rw [bB_size]; omega)]
  exact get_at (P := bytk 4 (hdG (blN S nw sh S.length) (bkN S nb f S.length) f sh) ++ bytk 8 (blN S nw sh S.length)) (k := 4) (a := 16 + 8 * nw) (i := i) (l := bkN S nb f S.length ++ chN S nb S.length) (Q := []) (by rw [putG_bl, List.append_nil]) (by rw [List.length_append, bytk_len, bytk_len, blN_len]; rfl) (by omega) (by
    show _ < 4294967296
    rcases List.mem_append.1 (nthS_mem (show i < (bkN S nb f S.length ++ chN S nb S.length).length by omega)) with h | h
    · have := bkN_w (by omega) _ h; omega
    · exact chN_w _ _ h)
theorem bB_bk (g : GBt S nb f nw sh) : gBk (bB S nb f nw sh) = bkN S nb f S.length := by
  refine ext_nth (by rw [gBk_len, bB_N g, bkN_len]) fun i hi => ?_
  rw [gBk_len] at hi
  rw [← gBk_at (by rw [bB_A g, bB_size]; omega) hi]
  rw [bB_N g] at hi
  rw [bB_M g, bB_kc g (by omega), nth_appL (by rw [bkN_len]; exact hi)]
theorem bB_ch (g : GBt S nb f nw sh) {i : Nat} (hi : i < S.length) : atV (bB S nb f nw sh) (gA0 (bB S nb f nw sh) + 4 * i) 4 = chV S nb i := by
  rw [bB_A g, show 16 + 8 * nw + 4 * nb + 4 * i = 16 + 8 * nw + 4 * (nb + i) by omega, bB_kc g (by omega)]
  have := nth_appR (l := bkN S nb f S.length) (m := chN S nb S.length) (i := i) (by rw [chN_len]; exact hi)
  rw [bkN_len] at this
  rw [this, ch_nth _ _ hi (Nat.le_refl _)]
theorem bB_chL (g : GBt S nb f nw sh) : chL (bB S nb f nw sh) (gA0 (bB S nb f nw sh)) S.length = chN S nb S.length := by
  refine ext_nth (by rw [chL_len, chN_len]) fun i hi => ?_
  rw [chL_len] at hi
  rw [ch_nth _ _ hi (Nat.le_refl _), ← bB_ch g hi, nth_eq (by rw [chL_len]; exact hi)]; simp [chL]
theorem bB_gc (g : GBt S nb f nw sh) : gC (bB S nb f nw sh) = 0 ∧ gK (bB S nb f nw sh) = S.length := by
  have h1 := g.b1; have h2 := g.b2; have h3 := g.f1; have h4 := g.f2; have h5 := g.w1; have h6 := g.w2
  have hz : (bB S nb f nw sh).size = 16 + 8 * nw + 4 * nb + 4 * S.length := bB_size
  have hA := bB_A g
  have hbad : ∀ j, j < gN (bB S nb f nw sh) → gBad (bB S nb f nw sh) j = false := fun j hj => by
    rw [bB_N g] at hj
    refine gBad_n ?_
    rw [bB_bk g, bB_F g]
    rcases bk_spec (S := S) h3 S.length j hj with ⟨q1, _⟩ | ⟨q, q1, q2, _⟩ <;> omega
  by_cases h0 : S.length = 0
  · have hm : maxL (gBk (bB S nb f nw sh)) = 0 := by
      rw [bB_bk g]
      refine Nat.le_zero.1 (foldl_max_le _ 0 (Nat.le_refl _) fun x hx => ?_)
      obtain ⟨b, hb1, rfl⟩ := List.getElem_of_mem hx
      rw [← nth_eq hb1]
      rw [bkN_len] at hb1
      rcases bk_spec (S := S) h3 S.length b hb1 with ⟨g1, _⟩ | ⟨q', g1, _⟩ <;> omega
    obtain ⟨e1, _, e3⟩ := gc_max (B := bB S nb f nw sh) (by omega) (by rw [bB_N g, bB_M g]; omega) (by rw [bB_N g, bB_M g, bB_F g]; omega) (by omega) hbad hm
    exact ⟨e1, by rw [e3, h0]⟩
  · obtain ⟨q, k1, k2, k3⟩ := bk_max (f := f) g.s h3 h1 (by omega)
    have hm : maxL (gBk (bB S nb f nw sh)) = f + q := by rw [bB_bk g]; exact k2
    obtain ⟨e1, _, e3⟩ := gc_chn (B := bB S nb f nw sh) (by omega) (by rw [bB_N g, bB_M g]; omega) (by rw [bB_N g, bB_M g, bB_F g]; omega) (by omega) hbad (by omega)
    rw [hm, bB_F g] at e1 e3
    have hst : chStop (bB S nb f nw sh) f (f + q) (gA0 (bB S nb f nw sh)) (S.length - 1) = true := decide_eq_true (.inr (.inr ⟨by omega, by
      rw [bB_ch g (by omega)]; exact chV_odd (.inl (by omega))⟩))
    have hns : ∀ i, i < S.length - 1 → chStop (bB S nb f nw sh) f (f + q) (gA0 (bB S nb f nw sh)) i = false := fun i hi => decide_eq_false (by
      rintro (h | h | ⟨h, h'⟩)
      · omega
      · omega
      · rw [bB_ch g (by omega), chV_even (lastB_no (by omega) (by rw [k3 (i + 1) (by omega) (by omega), k3 i (by omega) (by omega)]))] at h'
        exact absurd h' (by decide))
    have hJ := chJ_of hst (by omega) hns
    refine ⟨?_, by rw [e3, hJ]; omega⟩
    rw [e1]; unfold chC; rw [hJ, if_neg (by omega), if_neg (by omega)]
/-- What is found. -/
theorem find_has (g : GBt S nb f nw sh) {i : Nat} (hi : i < S.length) : ∃ k, gFV (blN S nw sh S.length) (bkN S nb f S.length) (chN S nb S.length) sh f (List.replicate f (⟨#[]⟩ : ByteArray) ++ S) (nth S i) = (k + f, true) ∧ k ≤ i ∧ nth (List.replicate f (⟨#[]⟩ : ByteArray) ++ S) (k + f) = nth S i := by
  have h1 := g.b1
  obtain ⟨q, q1, q2, q3, q4⟩ := bk_head (S := S) g.f1 h1 hi
  have hk := bkN_len (names := S) (nb := nb) (f := f) S.length
  have hc := chN_len (names := S) (nb := nb) S.length
  have hS : gS (bkN S nb f S.length) f (gh (nth S i)) = q := by unfold gS; rw [hk, show gh (nth S i) % nb = gkey S nb i from rfl, q2]; omega
  have ho : gOk (blN S nw sh S.length) (bkN S nb f S.length) sh f (gh (nth S i)) := ⟨may_in g.w1 hi, by omega, by rw [hk, show gh (nth S i) % nb = gkey S nb i from rfl, q2]; omega⟩
  have he := gE_ends (lc := chN S nb S.length) ho
  rw [hS] at he
  have hiE : i < gE (blN S nw sh S.length) (bkN S nb f S.length) (chN S nb S.length) sh f (gh (nth S i)) := by
    refine Decidable.byContradiction fun hn => ?_
    obtain ⟨p1, p2⟩ := he.fin (by omega)
    generalize gE (blN S nw sh S.length) (bkN S nb f S.length) (chN S nb S.length) sh f (gh (nth S i)) = E at *
    have m1 := key_mono g.s (show q ≤ E - 1 by omega) (by omega)
    have m2 := key_mono g.s (show E - 1 ≤ E - 1 + 1 by omega) (by omega)
    have m3 := key_mono g.s (show E - 1 + 1 ≤ i by omega) hi
    rw [ch_nth _ _ (by omega) (Nat.le_refl _), chV_even (lastB_no (by omega) (by omega))] at p2
    exact absurd p2 (by decide)
  have hP : gP (List.replicate f (⟨#[]⟩ : ByteArray) ++ S) (chN S nb S.length) f (nth S i) i := ⟨by rw [ch_nth _ _ hi (Nat.le_refl _), chV_half], by rw [List.length_append, List.length_replicate]; omega, by
    have := nth_appR (l := List.replicate f (⟨#[]⟩ : ByteArray)) (m := S) hi
    rw [List.length_replicate] at this; rw [Nat.add_comm]; exact this⟩
  have hle : gF (blN S nw sh S.length) (bkN S nb f S.length) (chN S nb S.length) sh f (List.replicate f (⟨#[]⟩ : ByteArray) ++ S) (nth S i) ≤ i := by
    refine Decidable.byContradiction fun hn => ?_
    have := firstK_min i (show i < gF (blN S nw sh S.length) (bkN S nb f S.length) (chN S nb S.length) sh f (List.replicate f (⟨#[]⟩ : ByteArray) ++ S) (nth S i) by omega)
    rw [hS, decide_eq_true q1, decide_eq_true hP] at this
    exact nomatch this
  have hlt := Nat.lt_of_le_of_lt hle hiE
  have hp := firstK_is (show firstK _ _ < _ from hlt)
  rw [Bool.and_eq_true, decide_eq_true_iff, decide_eq_true_iff] at hp
  exact ⟨_, by unfold gFV; rw [if_pos hlt], hle, hp.2.2.2⟩
theorem find_none {s : ByteArray} (hn : ∀ j, j < S.length → nth S j ≠ s) : gFV (blN S nw sh S.length) (bkN S nb f S.length) (chN S nb S.length) sh f (List.replicate f (⟨#[]⟩ : ByteArray) ++ S) s = (0, false) := gF_no fun j _ _ h => by
  obtain ⟨_, h2, h3⟩ := h
  rw [List.length_append, List.length_replicate] at h2
  have := nth_appR (l := List.replicate f (⟨#[]⟩ : ByteArray)) (m := S) (i := j) (by omega)
  rw [List.length_replicate] at this
  rw [Nat.add_comm, this] at h3
  exact hn j (by omega) h3
def inL (S : List ByteArray) (o : ByteArray) (i : Nat) : Bool := (List.range i).any fun j => decide (nth S j = o)
theorem inL_succ (o : ByteArray) (i : Nat) : inL S o (i + 1) = (inL S o i || decide (nth S i = o)) := by simp [inL, List.range_succ]
theorem find_in (g : GBt S nb f nw sh) (o : ByteArray) : (gFV (blN S nw sh S.length) (bkN S nb f S.length) (chN S nb S.length) sh f (List.replicate f (⟨#[]⟩ : ByteArray) ++ S) o).2 = inL S o S.length := by
  by_cases h : ∃ j, j < S.length ∧ nth S j = o
  · obtain ⟨j, hj, rfl⟩ := h
    obtain ⟨k, e, _⟩ := find_has g hj
    rw [e]
    exact (List.any_eq_true.2 ⟨j, List.mem_range.2 hj, decide_eq_true rfl⟩).symm
  · rw [find_none fun j hj e => h ⟨j, hj, e⟩]
    exact (List.any_eq_false.2 fun j hj => by rw [decide_eq_true_iff]; exact fun e => h ⟨j, List.mem_range.1 hj, e⟩).symm
end
theorem ord_step {key : Nat → Nat} {l : List Nat} {n i : Nat} (h : OrdL key l n) (h0 : 0 < i) (hi : i < n) : key (nth l (i - 1)) < key (nth l i) ∨ (key (nth l (i - 1)) = key (nth l i) ∧ nth l (i - 1) < nth l i) := h.srt (i - 1) i (Nat.zero_le _) (by omega) hi
theorem bread_ok {H0 : AHeap} {S : List ByteArray} {nb f nw sh : Nat} (g : GBt S nb f nw sh) : ACalls Try.prog 15 [.string (bB S nb f nw sh)] H0 (fun v H' => ∃ b1 b2 b3, v = .tuple #[.agg #[.int .u32 ((f : Nat) : Int), .int .u32 ((sh : Nat) : Int), .slice (some ⟨b1, 0, none⟩) nw nw, .slice (some ⟨b2, 0, none⟩) nb nb, .slice (some ⟨b3, 0, none⟩) S.length S.length], .agg #[.int .i64 0, .int .u64 0, .string ⟨#[]⟩]] ∧ NewL H0 H' [(b3, .cells true ((chN S nb S.length).map u32v) 1), (b2, .cells true ((bkN S nb f S.length).map u32v) 1), (b1, .cells true ((blN S nw sh S.length).map u64v) 1)]) := by
  have h1 := g.b2; have h2 := g.f2; have h3 := g.w2
  refine (gread_ok _ (by rw [bB_size]; omega)).mono ?_
  rintro v H' (⟨hq, _⟩ | ⟨_, b1, b2, b3, rfl, hn⟩)
  · exact absurd (bB_gc g).1 hq
  · rw [(bB_gc g).2, bB_chL g, bB_bk g, bB_bl g] at hn
    exact ⟨b1, b2, b3, by rw [(bB_gc g).2, bB_N g, bB_F g, bB_M g, bB_S g], hn⟩

end Go.Proofs.YtponfeigjmjbmaaA

