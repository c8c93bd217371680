/-
  Walks over abstract states: texts of one claim, merged.
-/
import Derived.Test.YthfndghgfabbjaaM2
import Derived.Test.YthfndghgfabbjaaProg
import Derived.KernelRfl
/-
  Walks of functions of the given program, and what they compute.
-/
namespace Go.Proofs.YthfndghgfabbjaaA
set_option linter.unusedVariables false
open Go Go.RowKit Go.Shelf Go.Proofs
abbrev Sg := Nat × Nat × Nat × Nat × Nat × Nat
def segc (x : Sg) : List Value := [.int .u32 ((x.1 : Nat) : Int), .int .i64 ((x.2.1 : Nat) : Int), .int .u64 ((x.2.2.1 : Nat) : Int), .int .u64 ((x.2.2.2.1 : Nat) : Int), .int .u64 ((x.2.2.2.2.1 : Nat) : Int), .int .u64 ((x.2.2.2.2.2 : Nat) : Int)]
def segr (x : Sg) : List Value := [.int .u64 ((x.1 : Nat) : Int), .int .u64 ((x.2.1 : Nat) : Int), .int .u64 ((x.2.2.1 : Nat) : Int), .int .u64 ((x.2.2.2.1 : Nat) : Int), .int .u64 ((x.2.2.2.2.1 : Nat) : Int), .int .u64 ((x.2.2.2.2.2 : Nat) : Int)]
theorem segc_w : Wm segc 6 := fun _ => rfl
theorem segr_w : Wm segr 6 := fun _ => rfl
theorem segc_sc : ∀ x, ∀ u ∈ segc x, Scalar u = true := fun x u hu => by simp [segc] at hu; rcases hu with rfl | rfl | rfl | rfl | rfl | rfl <;> rfl
theorem segr_sc : ∀ x, ∀ u ∈ segr x, Scalar u = true := fun x u hu => by simp [segr] at hu; rcases hu with rfl | rfl | rfl | rfl | rfl | rfl <;> rfl
def magicB : ByteArray := ⟨#[127, 69, 76, 70, 2, 1, 1]⟩
def hA (i : Nat) : Nat := nth [16, 18, 20, 52, 54] i
def hB (i : Nat) : Nat := nth [2, 2, 4, 2, 2] i
def hC (i : Nat) : Nat := nth [3, 243, 1, 64, 56] i
theorem hABC : ∀ i, i < 5 → hA i ≤ 54 ∧ 1 ≤ hB i ∧ hB i ≤ 8 ∧ hC i ≤ 243 := by decide
theorem hX : ∀ i, i < 5 → (#[.int .u64 16, .int .i64 2, .int .u64 3, .int .u64 18, .int .i64 2, .int .u64 243, .int .u64 20, .int .i64 4, .int .u64 1, .int .u64 52, .int .i64 2, .int .u64 64, .int .u64 54, .int .i64 2, .int .u64 56] : Array Value).extract (i * 3) (i * 3 + 3) = #[.int .u64 ((hA i : Nat) : Int), .int .i64 ((hB i : Nat) : Int), .int .u64 ((hC i : Nat) : Int)]
  | 0, _ => rfl
  | 1, _ => rfl
  | 2, _ => rfl
  | 3, _ => rfl
  | 4, _ => rfl
  | n + 5, h => by omega
def hForm (s : ByteArray) : Bool := (List.range 5).all fun i => atV s (hA i) (hB i) == hC i
theorem hForm_iff {s : ByteArray} : hForm s = true ↔ ∀ i, i < 5 → atV s (hA i) (hB i) = hC i := by
  unfold hForm
  rw [List.all_eq_true]
  exact ⟨fun h i hi => eq_of_beq (h i (List.mem_range.2 hi)), fun h i hi => beq_iff_eq.2 (h i (List.mem_range.1 hi))⟩
theorem hForm_not {s : ByteArray} (h : ¬ ∀ i, i < 5 → atV s (hA i) (hB i) = hC i) : hForm s = false := by
  cases e : hForm s
  · rfl
  · exact absurd (hForm_iff.1 e) h
theorem hForm_yes {s : ByteArray} (h : ∀ i, i < 5 → atV s (hA i) (hB i) = hC i) : ¬ hForm s = false := by rw [hForm_iff.2 h]; exact fun h => nomatch h
def hdE (s : ByteArray) : Nat := if 65536 < s.size then 6 else if s.size < 64 then 2 else if s.extract 0 7 ≠ magicB then 3 else if hForm s = false then 4 else if 16 < atV s 56 2 then 6 else if ¬ (atV s 32 8 + atV s 56 2 * 56 ≤ s.size) then 2 else 0
def hdN (s : ByteArray) : Nat := if hdE s = 0 then atV s 56 2 else 0
section
variable {s : ByteArray}
theorem hd_big (h : 65536 < s.size) : hdE s = 6 := if_pos h
theorem hd_short (h : s.size < 64) : hdE s = 2 := by unfold hdE; rw [if_neg (by omega), if_pos h]
theorem hd_magic (h1 : ¬ 65536 < s.size) (h2 : ¬ s.size < 64) (h : s.extract 0 7 ≠ magicB) : hdE s = 3 := by unfold hdE; rw [if_neg h1, if_neg h2, if_pos h]
theorem hd_form (h1 : ¬ 65536 < s.size) (h2 : ¬ s.size < 64) (h3 : s.extract 0 7 = magicB) (h : ¬ (∀ i, i < 5 → atV s (hA i) (hB i) = hC i)) : hdE s = 4 := by unfold hdE; rw [if_neg h1, if_neg h2, if_neg (fun h => h h3), if_pos (hForm_not h)]
theorem hd_many (h1 : ¬ 65536 < s.size) (h2 : ¬ s.size < 64) (h3 : s.extract 0 7 = magicB) (h4 : ∀ i, i < 5 → atV s (hA i) (hB i) = hC i) (h : 16 < atV s 56 2) : hdE s = 6 := by unfold hdE; rw [if_neg h1, if_neg h2, if_neg (fun h => h h3), if_neg (hForm_yes h4), if_pos h]
theorem hd_out (h1 : ¬ 65536 < s.size) (h2 : ¬ s.size < 64) (h3 : s.extract 0 7 = magicB) (h4 : ∀ i, i < 5 → atV s (hA i) (hB i) = hC i) (h5 : ¬ 16 < atV s 56 2) (h : ¬ (atV s 32 8 + atV s 56 2 * 56 ≤ s.size)) : hdE s = 2 := by unfold hdE; rw [if_neg h1, if_neg h2, if_neg (fun h => h h3), if_neg (hForm_yes h4), if_neg h5, if_pos h]
theorem hd_ok (h1 : ¬ 65536 < s.size) (h2 : ¬ s.size < 64) (h3 : s.extract 0 7 = magicB) (h4 : ∀ i, i < 5 → atV s (hA i) (hB i) = hC i) (h5 : ¬ 16 < atV s 56 2) (h : atV s 32 8 + atV s 56 2 * 56 ≤ s.size) : hdE s = 0 := by unfold hdE; rw [if_neg h1, if_neg h2, if_neg (fun h => h h3), if_neg (hForm_yes h4), if_neg h5, if_neg (fun h' => h' h)]
theorem hd_yes (h : hdE s = 0) : s.size ≤ 65536 ∧ 64 ≤ s.size ∧ atV s 56 2 ≤ 16 ∧ atV s 32 8 + atV s 56 2 * 56 ≤ s.size := by
  unfold hdE at h
  split at h; · cases h
  split at h; · cases h
  split at h; · cases h
  split at h; · cases h
  split at h; · cases h
  split at h; · cases h
  rename_i h6
  exact ⟨by omega, by omega, by omega, Decidable.of_not_not h6⟩
end
def segAt (s : ByteArray) (a : Nat) : Sg := (atV s a 4, atV s (a + 4) 4 % 8, atV s (a + 8) 8, atV s (a + 16) 8, atV s (a + 32) 8, atV s (a + 40) 8)
theorem and7 (n : Nat) : n &&& 7 = n % 8 := Nat.and_two_pow_sub_one_eq_mod n 3
theorem lt4 (s : ByteArray) (a : Nat) : atV s a 4 < 4294967296 := atV_lt s a 4
theorem lt8 (s : ByteArray) (a : Nat) : atV s a 8 < 18446744073709551616 := atV_lt s a 8
theorem lt2 (s : ByteArray) (a : Nat) : atV s a 2 < 65536 := atV_lt s a 2
def SgB (x : Sg) : Prop := x.2.2.1 < 18446744073709551616 ∧ x.2.2.2.1 < 18446744073709551616 ∧ x.2.2.2.2.1 < 18446744073709551616 ∧ x.2.2.2.2.2 < 18446744073709551616
theorem segAt_b (s : ByteArray) (a : Nat) : SgB (segAt s a) := ⟨lt8 s _, lt8 s _, lt8 s _, lt8 s _⟩
def wrongC (s : ByteArray) (x : Sg) (e : Nat) : Nat :=
  if x.1 = 1 ∧ x.2.2.2.1 % 256 ≠ 0 then 13 else if x.1 = 1 ∧ (x.2.2.2.2.2 = 0 ∨ x.2.2.2.2.2 < x.2.2.2.2.1) then 4 else if x.1 = 1 ∧ (1073741824 < x.2.2.2.1 ∨ 1073741824 - x.2.2.2.1 < x.2.2.2.2.2) then 5 else if ¬ (x.2.2.1 + x.2.2.2.2.1 ≤ s.size) then 2 else if x.1 = 1 ∧ x.2.2.2.1 < e then 8 else 0
set_option maxRecDepth 100000 in
set_option maxHeartbeats 4000000 in
theorem hasPrefix2_ok {H0 : AHeap} (s p : ByteArray) (hp : p.size ≤ s.size) (hs : s.size ≤ 140737488355328) : ACalls Try.prog 49 [.string s, .string p] H0 (Rets (.bool (decide (s.extract 0 p.size = p))) H0) := by
  have hF : Wd Fence.wide := .inl rfl
  have hM : Try.prog.follows .mixedOrders = true := by kernel_rfl
  have s0 := St.begin H0
  refine acalls_st Try.func49 rfl Try.ntmps49 rfl ?_
  refine awp_seq ?_
  refine awp_regs hF ?_
  refine dv (gyes_none rfl) (q_as (v := .bool false) rfl) rfl (by decide) (cok1 (cconst rfl)) ?_
  refine ⟨_, Wk.refl _ _, ?_⟩
  show awp _ _ _ _ _ _ _
  refine awp_seq ?_
  refine awp_regs hF ?_
  refine dv (gyes_none rfl) (q_mv (v := .string s) rfl) rfl (by decide) (cok1 trivial) ?_
  refine dv (gyes_none rfl) (q_len_str Try.underlying9 rfl) rfl (by decide) (cok1 trivial) ?_
  refine dv (gyes_none rfl) (q_mv (v := .string p) rfl) rfl (by decide) (cok1 trivial) ?_
  refine dv (gyes_none rfl) (q_len_str Try.underlying9 rfl) rfl (by decide) (cok1 trivial) ?_
  refine dv (gyes_none rfl) (OpQ.cast (v' := .bool true) (q_int rfl rfl rfl) (congrArg Value.bool (decide_eq_true (by omega)))) rfl (by decide) (cok2 trivial trivial) ?_
  refine dv (gyes_none rfl) (q_mv (v := .bool true) rfl) rfl (by decide) (cok1 trivial) ?_
  refine dv (gyes_some rfl rfl) (q_mv (v := .string s) rfl) rfl (by decide) (cok1 trivial) ?_
  refine dv (gyes_some rfl rfl) (q_mv (v := .string p) rfl) rfl (by decide) (cok1 trivial) ?_
  refine dv (gyes_some rfl rfl) (q_len_str Try.underlying9 rfl) rfl (by decide) (cok1 trivial) ?_
  refine dv (gyes_some rfl rfl) (q_substr (i := 0) (j := p.size) Try.underlying9 rfl rfl ⟨_, rfl⟩ (by omega) (by omega)) rfl (by decide) (cok2 trivial trivial) ?_
  refine dv (gyes_some rfl rfl) (q_mv (v := .string p) rfl) rfl (by decide) (cok1 trivial) ?_
  refine dv (gyes_some rfl rfl) (q_streq rfl rfl) rfl (by decide) (cok2 trivial trivial) ?_
  refine dv (gyes_none rfl) (q_pt (v := .bool (decide (s.extract 0 p.size = p))) rfl rfl) rfl (by decide) (call_ok rfl) ?_
  refine dv (gyes_none rfl) (q_as (v := .bool (decide (s.extract 0 p.size = p))) rfl) rfl (by decide) (cok1 trivial) ?_
  refine ⟨_, Wk.refl _ _, ?_⟩
  show awp _ _ _ _ _ _ _
  refine awp_ret_wk ?_
  refine ⟨_, Wk.refl _ _, ?_⟩
  repeat (with_reducible first | refine then_ret ?_ | refine blk_ret ?_ | refine then_exit ?_ | refine blk_exit ?_ | refine blk_exit' (by decide) ?_ | refine blk_normal ?_ | refine then_normal ?_ | refine retq_ret ?_ | refine retq_normal ?_ | refine ng_normal ?_ | refine ng_ret ?_ | refine ng_exit ?_)
  exact ret_none (v := .bool (decide (s.extract 0 p.size = p))) rfl s0.kp (.tmp rfl .nil) rfl rfl ⟨rfl, rfl⟩
set_option maxRecDepth 100000 in
set_option maxHeartbeats 4000000 in
theorem hasPrefix_ok {H0 : AHeap} (s p : ByteArray) (hp : p.size ≤ s.size) (hs : s.size ≤ 140737488355328) : ACalls Try.prog 42 [.string s, .string p] H0 (Rets (.bool (decide (s.extract 0 p.size = p))) H0) := by
  have hF : Wd Fence.wide := .inl rfl
  have hM : Try.prog.follows .mixedOrders = true := by kernel_rfl
  have s0 := St.begin H0
  refine acalls_st Try.func42 rfl Try.ntmps42 rfl ?_
  refine awp_seq ?_
  refine awp_regs hF ?_
  refine dv (gyes_none rfl) (q_as (v := .bool false) rfl) rfl (by decide) (cok1 (cconst rfl)) ?_
  refine ⟨_, Wk.refl _ _, ?_⟩
  show awp _ _ _ _ _ _ _
  refine awp_seq ?_
  refine awp_regs hF ?_
  refine dv (gyes_none rfl) (q_mv (v := .string s) rfl) rfl (by decide) (cok1 trivial) ?_
  refine dv (gyes_none rfl) (q_mv (v := .string p) rfl) rfl (by decide) (cok1 trivial) ?_
  refine dv (gyes_none rfl) (q_call0 Try.call49 rfl (hasPrefix2_ok s p hp hs)) rfl (by decide) (call_ok rfl) ?_
  refine dv (gyes_none rfl) (q_as (v := .bool (decide (s.extract 0 p.size = p))) rfl) rfl (by decide) (cok1 trivial) ?_
  refine ⟨_, Wk.refl _ _, ?_⟩
  show awp _ _ _ _ _ _ _
  refine awp_ret_wk ?_
  refine ⟨_, Wk.refl _ _, ?_⟩
  repeat (with_reducible first | refine then_ret ?_ | refine blk_ret ?_ | refine then_exit ?_ | refine blk_exit ?_ | refine blk_exit' (by decide) ?_ | refine blk_normal ?_ | refine then_normal ?_ | refine retq_ret ?_ | refine retq_normal ?_ | refine ng_normal ?_ | refine ng_ret ?_ | refine ng_exit ?_)
  exact ret_none (v := .bool (decide (s.extract 0 p.size = p))) rfl s0.kp (.tmp rfl .nil) rfl rfl ⟨rfl, rfl⟩
theorem lt_succ_casesN {p : Nat → Prop} {i : Nat} (h : ∀ j, j < i → p j) (hi : p i) : ∀ j, j < i + 1 → p j := fun j hj => by
  by_cases e : j = i
  · subst e; exact hi
  · exact h j (by omega)
set_option maxRecDepth 100000 in
set_option maxHeartbeats 4000000 in
theorem header_ok {H0 : AHeap} (s : ByteArray) (hs : s.size ≤ 140737488355328) : ACalls Try.prog 26 [.string s] H0 (Rets (.tuple #[.int .i64 ((hdN s : Nat) : Int), .agg #[.int .i64 ((hdE s : Nat) : Int), .int .u64 0, .string ⟨#[]⟩]]) H0) := by
  have hF : Wd Fence.wide := .inl rfl
  have hM : Try.prog.follows .mixedOrders = true := by kernel_rfl
  have h28 := lt8 s 32
  have h56 := lt2 s 56
  have s0 := St.begin H0
  refine acalls_st Try.func26 rfl Try.ntmps26 rfl ?_
  refine awp_seq ?_
  refine awp_regs hF ?_
  refine dv (gyes_none rfl) (q_as (v := .int .i64 0) rfl) rfl (by decide) (cok1 (cconst rfl)) ?_
  refine x_new (fun b => .pointer (some ⟨b, 0, none⟩)) s0 (gyes_none rfl) (q_alloc (vs := [.int .i64 0, .int .u64 0, .string ⟨#[]⟩]) 3 Try.zeroValue36 (by first | exact flat_scalar rfl | exact flat_agg rfl) rfl) rfl (by decide) (by simp [Op.operands, Call.operands]) (fun b1 H2 hb4 s3 => ?_)
  refine ⟨_, Wk.refl _ _, ?_⟩
  show awp _ _ _ _ _ _ _
  refine awp_seq ?_
  refine awp_block ?_
  refine awp_seq ?_
  refine awp_regs hF ?_
  refine dv (gyes_none rfl) (q_mv (v := .string s) rfl) rfl (by decide) (cok1 trivial) ?_
  refine dv (gyes_none rfl) (q_len_str Try.underlying9 rfl) rfl (by decide) (cok1 trivial) ?_
  refine dvb (gyes_none rfl) (q_int rfl rfl rfl) rfl (by decide) (cok2 trivial (cconst rfl)) (fun c1 => ?_) (fun c1 => ?_)
  ·
    replace c1 := of_decide_eq_true c1
    refine dv (gyes_none rfl) (q_as (v := .bool true) rfl) rfl (by decide) (cok1 trivial) ?_
    refine ⟨_, Wk.refl _ _, ?_⟩
    show awp _ _ _ _ _ _ _
    refine awp_cond_t rfl ?_
    refine awp_seq ?_
    refine awp_regs hF ?_
    refine dv (gyes_none rfl) (q_call0 Try.call32 rfl (failOf_ok 6)) rfl (by decide) (cok2 trivial (cconst rfl)) ?_
    refine dv (gyes_none rfl) (q_as (v := .int .i64 0) rfl) rfl (by decide) (cok1 (cconst rfl)) ?_
    refine x_store [] hF s3 (by kernel_rfl) (gyes_none rfl) (j := 0) (v := .agg #[.int .i64 6, .int .u64 0, .string ⟨#[]⟩]) rfl Try.sizeOf36 rfl rfl rfl rfl rfl trivial (lcsA ⟨(lc_scalar rfl), (lc_scalar rfl), (lc_scalar rfl), trivial⟩) (Nat.le_of_ble_eq_true rfl) trivial trivial rfl rfl (F' := [(b1, .cells true [.int .i64 6, .int .u64 0, .string ⟨#[]⟩] 3)]) rfl (fun H5 s6 => ⟨?_, ?_⟩)
    · exact trivial
    refine ⟨_, Wk.refl _ _, ?_⟩
    show awp _ _ _ _ _ _ _
    refine awp_ret_wk ?_
    refine ⟨_, Wk.refl _ _, ?_⟩
    repeat (with_reducible first | refine then_ret ?_ | refine blk_ret ?_ | refine then_exit ?_ | refine blk_exit ?_ | refine blk_exit' (by decide) ?_ | refine blk_normal ?_ | refine then_normal ?_ | refine retq_ret ?_ | refine retq_normal ?_ | refine ng_normal ?_ | refine ng_ret ?_ | refine ng_exit ?_)
    exact ret_none (v := .tuple #[.int .i64 0, .agg #[.int .i64 6, .int .u64 0, .string ⟨#[]⟩]]) rfl s6.kp (.tmp rfl (.agg rfl Try.isAgg36 Try.sizeOf36 (s6.rd (j := 0) rfl) (Nat.le_of_ble_eq_true rfl) rfl .nil)) rfl rfl ⟨by rw [hdN, hd_big (by omega)]; first | done | rfl, rfl⟩
  ·
    replace c1 := of_decide_eq_false c1
    refine dv (gyes_none rfl) (q_as (v := .bool false) rfl) rfl (by decide) (cok1 trivial) ?_
    refine ⟨_, Wk.refl _ _, ?_⟩
    show awp _ _ _ _ _ _ _
    refine awp_cond_f rfl ?_
    refine awp_seq ?_
    refine awp_regs hF ?_
    refine dv (gyes_none rfl) (q_mv (v := .string s) rfl) rfl (by decide) (cok1 trivial) ?_
    refine dv (gyes_none rfl) (q_len_str Try.underlying9 rfl) rfl (by decide) (cok1 trivial) ?_
    refine dvb (gyes_none rfl) (q_int rfl rfl rfl) rfl (by decide) (cok2 trivial (cconst rfl)) (fun c2 => ?_) (fun c2 => ?_)
    ·
      replace c2 := of_decide_eq_true c2
      refine dv (gyes_none rfl) (q_as (v := .bool true) rfl) rfl (by decide) (cok1 trivial) ?_
      refine ⟨_, Wk.refl _ _, ?_⟩
      show awp _ _ _ _ _ _ _
      refine awp_cond_t rfl ?_
      refine awp_seq ?_
      refine awp_regs hF ?_
      refine dv (gyes_none rfl) (q_call0 Try.call32 rfl (failOf_ok 2)) rfl (by decide) (cok2 trivial (cconst rfl)) ?_
      refine dv (gyes_none rfl) (q_as (v := .int .i64 0) rfl) rfl (by decide) (cok1 (cconst rfl)) ?_
      refine x_store [] hF s3 (by kernel_rfl) (gyes_none rfl) (j := 0) (v := .agg #[.int .i64 2, .int .u64 0, .string ⟨#[]⟩]) rfl Try.sizeOf36 rfl rfl rfl rfl rfl trivial (lcsA ⟨(lc_scalar rfl), (lc_scalar rfl), (lc_scalar rfl), trivial⟩) (Nat.le_of_ble_eq_true rfl) trivial trivial rfl rfl (F' := [(b1, .cells true [.int .i64 2, .int .u64 0, .string ⟨#[]⟩] 3)]) rfl (fun H7 s8 => ⟨?_, ?_⟩)
      · exact trivial
      refine ⟨_, Wk.refl _ _, ?_⟩
      show awp _ _ _ _ _ _ _
      refine awp_ret_wk ?_
      refine ⟨_, Wk.refl _ _, ?_⟩
      repeat (with_reducible first | refine then_ret ?_ | refine blk_ret ?_ | refine then_exit ?_ | refine blk_exit ?_ | refine blk_exit' (by decide) ?_ | refine blk_normal ?_ | refine then_normal ?_ | refine retq_ret ?_ | refine retq_normal ?_ | refine ng_normal ?_ | refine ng_ret ?_ | refine ng_exit ?_)
      exact ret_none (v := .tuple #[.int .i64 0, .agg #[.int .i64 2, .int .u64 0, .string ⟨#[]⟩]]) rfl s8.kp (.tmp rfl (.agg rfl Try.isAgg36 Try.sizeOf36 (s8.rd (j := 0) rfl) (Nat.le_of_ble_eq_true rfl) rfl .nil)) rfl rfl ⟨by rw [hdN, hd_short (by omega)]; first | done | rfl, rfl⟩
    ·
      replace c2 := of_decide_eq_false c2
      refine dv (gyes_none rfl) (q_as (v := .bool false) rfl) rfl (by decide) (cok1 trivial) ?_
      refine ⟨_, Wk.refl _ _, ?_⟩
      show awp _ _ _ _ _ _ _
      refine awp_cond_f rfl ?_
      refine awp_seq ?_
      refine awp_regs hF ?_
      refine dv (gyes_none rfl) (q_mv (v := .string s) rfl) rfl (by decide) (cok1 trivial) ?_
      refine dvb (gyes_none rfl) (q_call0 Try.call42 rfl (hasPrefix_ok s (⟨#[127, 69, 76, 70, 2, 1, 1]⟩ : ByteArray) (by show 7 ≤ _; omega) hs)) rfl (by decide) (call_ok rfl) (fun c3 => ?_) (fun c3 => ?_)
      ·
        replace c3 := of_decide_eq_true c3
        have h3 := c3
        refine dv (gyes_none rfl) (q_not (b := true) rfl) rfl (by decide) (cok1 trivial) ?_
        refine dv (gyes_none rfl) (q_as (v := .bool false) rfl) rfl (by decide) (cok1 trivial) ?_
        refine ⟨_, Wk.refl _ _, ?_⟩
        show awp _ _ _ _ _ _ _
        refine awp_cond_f rfl ?_
        refine awp_skip_wk ?_
        refine ⟨_, Wk.refl _ _, ?_⟩
        show awp _ _ _ _ _ _ _
        refine awp_seq ?_
        refine awp_seq ?_
        refine awp_regs hF ?_
        refine dv (gyes_none rfl) (q_buildL (ds := [.int .u64 16, .int .i64 2, .int .u64 3]) [(0, 1), (1, 1), (2, 1)] [.int .u64 16, .int .i64 2, .int .u64 3] Try.underlying90 Try.zeroValue90 (by first | exact flat_agg rfl | exact flat_scalar rfl) (by kernel_rfl) ⟨rfl, rfl, rfl, trivial⟩ (lvsC (by exact trivial) (lvsC (by exact trivial) (lvsC (by exact trivial) lvs0))) rfl) rfl (by decide) (call_ok rfl) ?_
        refine dv (gyes_none rfl) (q_buildL (ds := [.int .u64 18, .int .i64 2, .int .u64 243]) [(0, 1), (1, 1), (2, 1)] [.int .u64 18, .int .i64 2, .int .u64 243] Try.underlying90 Try.zeroValue90 (by first | exact flat_agg rfl | exact flat_scalar rfl) (by kernel_rfl) ⟨rfl, rfl, rfl, trivial⟩ (lvsC (by exact trivial) (lvsC (by exact trivial) (lvsC (by exact trivial) lvs0))) rfl) rfl (by decide) (call_ok rfl) ?_
        refine dv (gyes_none rfl) (q_buildL (ds := [.int .u64 20, .int .i64 4, .int .u64 1]) [(0, 1), (1, 1), (2, 1)] [.int .u64 20, .int .i64 4, .int .u64 1] Try.underlying90 Try.zeroValue90 (by first | exact flat_agg rfl | exact flat_scalar rfl) (by kernel_rfl) ⟨rfl, rfl, rfl, trivial⟩ (lvsC (by exact trivial) (lvsC (by exact trivial) (lvsC (by exact trivial) lvs0))) rfl) rfl (by decide) (call_ok rfl) ?_
        refine dv (gyes_none rfl) (q_buildL (ds := [.int .u64 52, .int .i64 2, .int .u64 64]) [(0, 1), (1, 1), (2, 1)] [.int .u64 52, .int .i64 2, .int .u64 64] Try.underlying90 Try.zeroValue90 (by first | exact flat_agg rfl | exact flat_scalar rfl) (by kernel_rfl) ⟨rfl, rfl, rfl, trivial⟩ (lvsC (by exact trivial) (lvsC (by exact trivial) (lvsC (by exact trivial) lvs0))) rfl) rfl (by decide) (call_ok rfl) ?_
        refine dv (gyes_none rfl) (q_buildL (ds := [.int .u64 54, .int .i64 2, .int .u64 56]) [(0, 1), (1, 1), (2, 1)] [.int .u64 54, .int .i64 2, .int .u64 56] Try.underlying90 Try.zeroValue90 (by first | exact flat_agg rfl | exact flat_scalar rfl) (by kernel_rfl) ⟨rfl, rfl, rfl, trivial⟩ (lvsC (by exact trivial) (lvsC (by exact trivial) (lvsC (by exact trivial) lvs0))) rfl) rfl (by decide) (call_ok rfl) ?_
        refine dv (gyes_none rfl) (q_buildArrL (ds := [.int .u64 16, .int .i64 2, .int .u64 3, .int .u64 18, .int .i64 2, .int .u64 243, .int .u64 20, .int .i64 4, .int .u64 1, .int .u64 52, .int .i64 2, .int .u64 64, .int .u64 54, .int .i64 2, .int .u64 56]) [.agg #[.int .u64 16, .int .i64 2, .int .u64 3], .agg #[.int .u64 18, .int .i64 2, .int .u64 243], .agg #[.int .u64 20, .int .i64 4, .int .u64 1], .agg #[.int .u64 52, .int .i64 2, .int .u64 64], .agg #[.int .u64 54, .int .i64 2, .int .u64 56]] Try.underlying91 Try.sizeOf90 Try.zeroValue91 (by first | exact flat_agg rfl | exact flat_scalar rfl) ⟨rfl, rfl, rfl, rfl, rfl, trivial⟩ (lvsC (by exact trivial) (lvsC (by exact trivial) (lvsC (by exact trivial) (lvsC (by exact trivial) (lvsC (by exact trivial) lvs0))))) rfl) rfl (by decide) (call_ok rfl) ?_
        refine dv (gyes_none rfl) (q_mv (v := .int .i64 0) rfl) rfl (by decide) (cok1 (cconst rfl)) ?_
        refine ⟨_, Wk.refl _ _, ?_⟩
        show awp _ _ _ _ _ _ _
        refine awp_block ?_
        refine awp_wk (Wk.U [(0, .string s), (2, .int .i64 0), (3, .pointer (some ⟨b1, 0, none⟩)), (30, .agg #[.int .u64 16, .int .i64 2, .int .u64 3, .int .u64 18, .int .i64 2, .int .u64 243, .int .u64 20, .int .i64 4, .int .u64 1, .int .u64 52, .int .i64 2, .int .u64 64, .int .u64 54, .int .i64 2, .int .u64 56]), (31, .int .i64 0)] ⟨rfl, rfl, rfl, rfl, rfl, trivial⟩) ?_
        refine awp_loop (fun (i : Nat) st => ∃ (H9 : AHeap), st = ⟨66, U [(0, .string s), (2, .int .i64 0), (3, .pointer (some ⟨b1, 0, none⟩)), (30, .agg #[.int .u64 16, .int .i64 2, .int .u64 3, .int .u64 18, .int .i64 2, .int .u64 243, .int .u64 20, .int .i64 4, .int .u64 1, .int .u64 52, .int .i64 2, .int .u64 64, .int .u64 54, .int .i64 2, .int .u64 56]), (31, .int .i64 ((i : Nat) : Int))], [], H9⟩ ∧ St H0 (none0) (Rd H0) H9 [(b1, .cells true [.int .i64 0, .int .u64 0, .string ⟨#[]⟩] 3)] ∧ (∀ j, j < i → atV s (hA j) (hB j) = hC j)) (fun (i : Nat) => 5 - i) (x0 := (0)) ?h0 ?round
        case h0 =>
          exact ⟨_, rfl, s3, fun j h => absurd h (Nat.not_lt_zero _)⟩
        case round =>
          rintro i _ ⟨H9, rfl, s10, hi⟩
          refine awp_seq ?_
          refine awp_regs hF ?_
          refine dvb (gyes_none rfl) (q_int rfl rfl rfl) rfl (by decide) (cok2 trivial (cconst rfl)) (fun c4 => ?_) (fun c4 => ?_)
          ·
            replace c4 := of_decide_eq_true c4
            refine ⟨_, Wk.refl _ _, ?_⟩
            show awp _ _ _ _ _ _ _
            refine awp_seq ?_
            refine awp_cond_t rfl ?_
            refine awp_skip_wk ?_
            refine ⟨_, Wk.refl _ _, ?_⟩
            show awp _ _ _ _ _ _ _
            refine awp_seq ?_
            refine awp_block ?_
            refine awp_seq ?_
            refine awp_regs hF ?_
            have hq := hABC i (by omega)
            refine dv (gyes_none rfl) (OpQ.cast (v' := .agg #[.int .u64 ((hA i : Nat) : Int), .int .i64 ((hB i : Nat) : Int), .int .u64 ((hC i : Nat) : Int)]) (q_indexA (i := i) Try.underlying91 Try.isAgg90 Try.sizeOf90 rfl rfl (by omega)) (congrArg Value.agg (hX i (by omega)))) rfl (by decide) (cok2 trivial trivial) ?_
            refine x_new (fun b => .pointer (some ⟨b, 0, none⟩)) s10 (gyes_none rfl) (q_alloc (vs := [.int .u64 0, .int .i64 0, .int .u64 0]) 3 Try.zeroValue90 (by first | exact flat_scalar rfl | exact flat_agg rfl) rfl) rfl (by decide) (by simp [Op.operands, Call.operands]) (fun b11 H12 hb14 s13 => ?_)
            refine x_store [] hF s13 (by kernel_rfl) (gyes_none rfl) (j := 0) (v := .agg #[.int .u64 ((hA i : Nat) : Int), .int .i64 ((hB i : Nat) : Int), .int .u64 ((hC i : Nat) : Int)]) rfl Try.sizeOf90 rfl rfl rfl rfl rfl trivial (lcsA ⟨(lc_scalar rfl), (lc_scalar rfl), (lc_scalar rfl), trivial⟩) (Nat.le_of_ble_eq_true rfl) trivial trivial rfl rfl (F' := [(b11, .cells true [.int .u64 ((hA i : Nat) : Int), .int .i64 ((hB i : Nat) : Int), .int .u64 ((hC i : Nat) : Int)] 3), (b1, .cells true [.int .i64 0, .int .u64 0, .string ⟨#[]⟩] 3)]) rfl (fun H15 s16 => ⟨?_, ?_⟩)
            · exact trivial
            refine ⟨_, Wk.refl _ _, ?_⟩
            show awp _ _ _ _ _ _ _
            refine awp_seq ?_
            refine awp_regt hF hM (by kernel_rfl) (by kernel_rfl) ?_
            refine dv (gyes_none rfl) (q_mv (v := .string s) rfl) rfl (by decide) (cok1 trivial) ?_
            refine dv (gyes_none rfl) (q_field Try.underlying90 rfl Try.sizeOf25 rfl (s16.rd (j := 0) rfl)) rfl (by decide) (cok1 trivial) ?_
            refine dv (gyes_none rfl) (q_load (v := .int .u64 ((hA i : Nat) : Int)) Try.isAgg25 rfl (s16.rd (j := 0) rfl) rfl) rfl (by decide) (cok1 trivial) ?_
            refine dv (gyes_none rfl) (q_field Try.underlying90 rfl Try.sizeOf3 rfl (s16.rd (j := 0) rfl)) rfl (by decide) (cok1 trivial) ?_
            refine dv (gyes_none rfl) (q_load (v := .int .i64 ((hB i : Nat) : Int)) Try.isAgg3 rfl (s16.rd (j := 0) rfl) rfl) rfl (by decide) (cok1 trivial) ?_
            refine dv (gyes_none rfl) (q_call0 Try.call27 rfl (number_ok s (hA i) (hB i) (by first | assumption | omega) (by omega) (by omega) (by omega))) rfl (by decide) (call_ok rfl) ?_
            refine dv (gyes_none rfl) (q_field Try.underlying90 rfl Try.sizeOf25 rfl (s16.rd (j := 0) rfl)) rfl (by decide) (cok1 trivial) ?_
            refine dv (gyes_none rfl) (q_load (v := .int .u64 ((hC i : Nat) : Int)) Try.isAgg25 rfl (s16.rd (j := 0) rfl) rfl) rfl (by decide) (cok1 trivial) ?_
            refine dvb (gyes_none rfl) (q_int rfl rfl rfl) rfl (by decide) (cok2 trivial trivial) (fun c5 => ?_) (fun c5 => ?_)
            ·
              replace c5 := bne_iff_ne.1 c5
              refine ⟨_, Wk.refl _ _, ?_⟩
              show awp _ _ _ _ _ _ _
              refine awp_cond_t rfl ?_
              refine awp_seq ?_
              refine awp_regs hF ?_
              refine dv (gyes_none rfl) (q_call0 Try.call32 rfl (failOf_ok 4)) rfl (by decide) (cok2 trivial (cconst rfl)) ?_
              refine dv (gyes_none rfl) (q_as (v := .int .i64 0) rfl) rfl (by decide) (cok1 (cconst rfl)) ?_
              refine x_store [] hF s16 (by kernel_rfl) (gyes_none rfl) (j := 1) (v := .agg #[.int .i64 4, .int .u64 0, .string ⟨#[]⟩]) rfl Try.sizeOf36 rfl rfl rfl rfl rfl trivial (lcsA ⟨(lc_scalar rfl), (lc_scalar rfl), (lc_scalar rfl), trivial⟩) (Nat.le_of_ble_eq_true rfl) trivial trivial rfl rfl (F' := [(b11, .cells true [.int .u64 ((hA i : Nat) : Int), .int .i64 ((hB i : Nat) : Int), .int .u64 ((hC i : Nat) : Int)] 3), (b1, .cells true [.int .i64 4, .int .u64 0, .string ⟨#[]⟩] 3)]) rfl (fun H17 s18 => ⟨?_, ?_⟩)
              · exact trivial
              refine ⟨_, Wk.refl _ _, ?_⟩
              show awp _ _ _ _ _ _ _
              refine awp_ret_wk ?_
              refine ⟨_, Wk.refl _ _, ?_⟩
              repeat (with_reducible first | refine then_ret ?_ | refine blk_ret ?_ | refine then_exit ?_ | refine blk_exit ?_ | refine blk_exit' (by decide) ?_ | refine blk_normal ?_ | refine then_normal ?_ | refine retq_ret ?_ | refine retq_normal ?_ | refine ng_normal ?_ | refine ng_ret ?_ | refine ng_exit ?_)
              exact ret_none (v := .tuple #[.int .i64 0, .agg #[.int .i64 4, .int .u64 0, .string ⟨#[]⟩]]) rfl s18.kp (.tmp rfl (.agg rfl Try.isAgg36 Try.sizeOf36 (s18.rd (j := 1) rfl) (Nat.le_of_ble_eq_true rfl) rfl .nil)) rfl rfl ⟨by rw [hdN, hd_form (by omega) (by omega) h3 (fun h => by have := h i (by omega); omega)]; first | done | rfl, rfl⟩
            ·
              replace c5 := bne_eq_false_iff_eq.1 c5
              refine ⟨_, Wk.refl _ _, ?_⟩
              show awp _ _ _ _ _ _ _
              refine awp_cond_f rfl ?_
              refine awp_skip_wk ?_
              refine ⟨_, Wk.refl _ _, ?_⟩
              show awp _ _ _ _ _ _ _
              refine awp_regs hF ?_
              refine dv (gyes_none rfl) (OpQ.cast (v' := .int .i64 ((i + 1 : Nat) : Int)) (q_int rfl rfl rfl) (congrArg _ ((i64_in (by omega)).trans (by first | rfl | omega | (push_cast; rfl))))) rfl (by decide) (cok2 trivial (cconst rfl)) ?_
              refine dv (gyes_none rfl) (q_mv (v := .int .i64 ((i + 1 : Nat) : Int)) rfl) rfl (by decide) (cok1 trivial) ?_
              refine ⟨_, Wk.U [(0, .string s), (2, .int .i64 0), (3, .pointer (some ⟨b1, 0, none⟩)), (30, .agg #[.int .u64 16, .int .i64 2, .int .u64 3, .int .u64 18, .int .i64 2, .int .u64 243, .int .u64 20, .int .i64 4, .int .u64 1, .int .u64 52, .int .i64 2, .int .u64 64, .int .u64 54, .int .i64 2, .int .u64 56]), (31, .int .i64 (((i + 1) : Nat) : Int))] ⟨rfl, rfl, rfl, rfl, rfl, trivial⟩, (i + 1), ⟨_, rfl, (s16.sub (.cons _ (.cons_cons _ (.refl _)))), lt_succ_casesN hi (by omega)⟩, (by omega)⟩
          ·
            replace c4 := of_decide_eq_false c4
            have h4 : ∀ j, j < 5 → atV s (hA j) (hB j) = hC j := fun j hj => hi j (by omega)
            refine ⟨_, Wk.refl _ _, ?_⟩
            show awp _ _ _ _ _ _ _
            refine awp_seq ?_
            refine awp_cond_f rfl ?_
            refine awp_exit_wk ?_
            refine ⟨_, Wk.refl _ _, ?_⟩
            show awp _ _ _ _ _ _ _
            refine awp_seq ?_
            refine awp_regs hF ?_
            refine dv (gyes_none rfl) (q_mv (v := .string s) rfl) rfl (by decide) (cok1 trivial) ?_
            refine dv (gyes_none rfl) (q_call0 Try.call27 rfl (number_ok s 56 2 (by first | assumption | omega) (by omega) (by omega) (by omega))) rfl (by decide) (call_ok rfl) ?_
            refine dv (gyes_none rfl) (q_mv (v := .string s) rfl) rfl (by decide) (cok1 trivial) ?_
            refine dv (gyes_none rfl) (q_call0 Try.call27 rfl (number_ok s 32 8 (by first | assumption | omega) (by omega) (by omega) (by omega))) rfl (by decide) (call_ok rfl) ?_
            refine dv (gyes_none rfl) (q_as (v := .int .u64 ((atV s 56 2 : Nat) : Int)) rfl) rfl (by decide) (cok1 trivial) ?_
            refine dv (gyes_none rfl) (q_as (v := .int .u64 ((atV s 32 8 : Nat) : Int)) rfl) rfl (by decide) (cok1 trivial) ?_
            refine ⟨_, Wk.refl _ _, ?_⟩
            show awp _ _ _ _ _ _ _
            refine awp_seq ?_
            refine awp_seq ?_
            refine awp_regs hF ?_
            refine dv (gyes_none rfl) (q_mv (v := .int .u64 ((atV s 56 2 : Nat) : Int)) rfl) rfl (by decide) (cok1 trivial) ?_
            refine dvb (gyes_none rfl) (q_int rfl rfl rfl) rfl (by decide) (cok2 trivial (cconst rfl)) (fun c6 => ?_) (fun c6 => ?_)
            ·
              replace c6 := of_decide_eq_true c6
              refine ⟨_, Wk.refl _ _, ?_⟩
              show awp _ _ _ _ _ _ _
              refine awp_cond_t rfl ?_
              refine awp_seq ?_
              refine awp_regs hF ?_
              refine dv (gyes_none rfl) (q_call0 Try.call32 rfl (failOf_ok 6)) rfl (by decide) (cok2 trivial (cconst rfl)) ?_
              refine dv (gyes_none rfl) (q_as (v := .int .i64 0) rfl) rfl (by decide) (cok1 (cconst rfl)) ?_
              refine x_store [] hF s10 (by kernel_rfl) (gyes_none rfl) (j := 0) (v := .agg #[.int .i64 6, .int .u64 0, .string ⟨#[]⟩]) rfl Try.sizeOf36 rfl rfl rfl rfl rfl trivial (lcsA ⟨(lc_scalar rfl), (lc_scalar rfl), (lc_scalar rfl), trivial⟩) (Nat.le_of_ble_eq_true rfl) trivial trivial rfl rfl (F' := [(b1, .cells true [.int .i64 6, .int .u64 0, .string ⟨#[]⟩] 3)]) rfl (fun H19 s20 => ⟨?_, ?_⟩)
              · exact trivial
              refine ⟨_, Wk.refl _ _, ?_⟩
              show awp _ _ _ _ _ _ _
              refine awp_ret_wk ?_
              refine ⟨_, Wk.refl _ _, ?_⟩
              repeat (with_reducible first | refine then_ret ?_ | refine blk_ret ?_ | refine then_exit ?_ | refine blk_exit ?_ | refine blk_exit' (by decide) ?_ | refine blk_normal ?_ | refine then_normal ?_ | refine retq_ret ?_ | refine retq_normal ?_ | refine ng_normal ?_ | refine ng_ret ?_ | refine ng_exit ?_)
              exact ret_none (v := .tuple #[.int .i64 0, .agg #[.int .i64 6, .int .u64 0, .string ⟨#[]⟩]]) rfl s20.kp (.tmp rfl (.agg rfl Try.isAgg36 Try.sizeOf36 (s20.rd (j := 0) rfl) (Nat.le_of_ble_eq_true rfl) rfl .nil)) rfl rfl ⟨by rw [hdN, hd_many (by omega) (by omega) h3 h4 (by omega)]; first | done | rfl, rfl⟩
            ·
              replace c6 := of_decide_eq_false c6
              refine ⟨_, Wk.refl _ _, ?_⟩
              show awp _ _ _ _ _ _ _
              refine awp_cond_f rfl ?_
              refine awp_skip_wk ?_
              refine ⟨_, Wk.refl _ _, ?_⟩
              show awp _ _ _ _ _ _ _
              refine awp_seq ?_
              refine awp_seq ?_
              refine awp_regs hF ?_
              refine dv (gyes_none rfl) (q_mv (v := .string s) rfl) rfl (by decide) (cok1 trivial) ?_
              refine dv (gyes_none rfl) (q_mv (v := .int .u64 ((atV s 32 8 : Nat) : Int)) rfl) rfl (by decide) (cok1 trivial) ?_
              refine dv (gyes_none rfl) (q_mv (v := .int .u64 ((atV s 56 2 : Nat) : Int)) rfl) rfl (by decide) (cok1 trivial) ?_
              refine dv (gyes_none rfl) (OpQ.cast (v' := .int .u64 (((atV s 56 2) * 56 : Nat) : Int)) (q_int rfl rfl rfl) (congrArg _ ((u64_in (by omega)).trans (by first | rfl | omega | (push_cast; rfl))))) rfl (by decide) (cok2 trivial (cconst rfl)) ?_
              refine dv (gyes_none rfl) (q_call0 Try.call43 rfl (part_ok s (atV s 32 8) ((atV s 56 2) * 56) (by first | assumption | omega) (by omega) (by omega))) rfl (by decide) (call_ok rfl) ?_
              refine dv (gyes_none rfl) (q_mv (v := .tuple #[.string (partV s (atV s 32 8) ((atV s 56 2) * 56)), .bool (decide (atV s 32 8 + (atV s 56 2) * 56 ≤ s.size))]) rfl) rfl (by decide) (cok1 trivial) ?_
              refine dv (gyes_none rfl) (q_extract (v := .string (partV s (atV s 32 8) ((atV s 56 2) * 56))) rfl rfl) rfl (by decide) (cok1 trivial) ?_
              refine dvb (gyes_none rfl) (q_extract (v := .bool (decide (atV s 32 8 + (atV s 56 2) * 56 ≤ s.size))) rfl rfl) rfl (by decide) (cok1 trivial) (fun c7 => ?_) (fun c7 => ?_)
              ·
                replace c7 := of_decide_eq_true c7
                refine dv (gyes_none rfl) (q_as (v := .string (partV s (atV s 32 8) ((atV s 56 2) * 56))) rfl) rfl (by decide) (cok1 trivial) ?_
                refine dv (gyes_none rfl) (q_as (v := .bool true) rfl) rfl (by decide) (cok1 trivial) ?_
                refine ⟨_, Wk.refl _ _, ?_⟩
                show awp _ _ _ _ _ _ _
                refine awp_seq ?_
                refine awp_regs hF ?_
                refine dv (gyes_none rfl) (q_mv (v := .bool true) rfl) rfl (by decide) (cok1 trivial) ?_
                refine dv (gyes_none rfl) (q_not (b := true) rfl) rfl (by decide) (cok1 trivial) ?_
                refine ⟨_, Wk.refl _ _, ?_⟩
                show awp _ _ _ _ _ _ _
                refine awp_cond_f rfl ?_
                refine awp_skip_wk ?_
                refine ⟨_, Wk.refl _ _, ?_⟩
                show awp _ _ _ _ _ _ _
                refine awp_seq ?_
                refine awp_regs hF ?_
                refine dv (gyes_none rfl) (q_mv (v := .int .u64 ((atV s 56 2 : Nat) : Int)) rfl) rfl (by decide) (cok1 trivial) ?_
                refine dv (gyes_none rfl) (q_convin (a := ((atV s 56 2 : Nat) : Int)) Try.underlying25 Try.underlying3 rfl (i64_in (by omega))) rfl (by decide) (cok1 trivial) ?_
                refine dv (gyes_none rfl) (q_buildL (ds := [.int .i64 0, .int .u64 0, .string ⟨#[]⟩]) [(0, 1), (1, 1), (2, 1)] [] Try.underlying36 Try.zeroValue36 (by first | exact flat_agg rfl | exact flat_scalar rfl) (by kernel_rfl) trivial lvs0 rfl) rfl (by decide) (by simp [Op.operands, Call.operands]) ?_
                refine dv (gyes_none rfl) (q_as (v := .int .i64 ((atV s 56 2 : Nat) : Int)) rfl) rfl (by decide) (cok1 trivial) ?_
                refine x_store [] hF s10 (by kernel_rfl) (gyes_none rfl) (j := 0) (v := .agg #[.int .i64 0, .int .u64 0, .string ⟨#[]⟩]) rfl Try.sizeOf36 rfl rfl rfl rfl rfl trivial (lcsA ⟨(lc_scalar rfl), (lc_scalar rfl), (lc_scalar rfl), trivial⟩) (Nat.le_of_ble_eq_true rfl) trivial trivial rfl rfl (F' := [(b1, .cells true [.int .i64 0, .int .u64 0, .string ⟨#[]⟩] 3)]) rfl (fun H21 s22 => ⟨?_, ?_⟩)
                · exact trivial
                refine ⟨_, Wk.refl _ _, ?_⟩
                show awp _ _ _ _ _ _ _
                refine awp_ret_wk ?_
                refine ⟨_, Wk.refl _ _, ?_⟩
                repeat (with_reducible first | refine then_ret ?_ | refine blk_ret ?_ | refine then_exit ?_ | refine blk_exit ?_ | refine blk_exit' (by decide) ?_ | refine blk_normal ?_ | refine then_normal ?_ | refine retq_ret ?_ | refine retq_normal ?_ | refine ng_normal ?_ | refine ng_ret ?_ | refine ng_exit ?_)
                exact ret_none (v := .tuple #[.int .i64 ((atV s 56 2 : Nat) : Int), .agg #[.int .i64 0, .int .u64 0, .string ⟨#[]⟩]]) rfl s22.kp (.tmp rfl (.agg rfl Try.isAgg36 Try.sizeOf36 (s22.rd (j := 0) rfl) (Nat.le_of_ble_eq_true rfl) rfl .nil)) rfl rfl ⟨by rw [hdN, hd_ok (by omega) (by omega) h3 h4 (by omega) (by omega)]; first | done | rfl, rfl⟩
              ·
                replace c7 := of_decide_eq_false c7
                refine dv (gyes_none rfl) (q_as (v := .string (partV s (atV s 32 8) ((atV s 56 2) * 56))) rfl) rfl (by decide) (cok1 trivial) ?_
                refine dv (gyes_none rfl) (q_as (v := .bool false) rfl) rfl (by decide) (cok1 trivial) ?_
                refine ⟨_, Wk.refl _ _, ?_⟩
                show awp _ _ _ _ _ _ _
                refine awp_seq ?_
                refine awp_regs hF ?_
                refine dv (gyes_none rfl) (q_mv (v := .bool false) rfl) rfl (by decide) (cok1 trivial) ?_
                refine dv (gyes_none rfl) (q_not (b := false) rfl) rfl (by decide) (cok1 trivial) ?_
                refine ⟨_, Wk.refl _ _, ?_⟩
                show awp _ _ _ _ _ _ _
                refine awp_cond_t rfl ?_
                refine awp_seq ?_
                refine awp_regs hF ?_
                refine dv (gyes_none rfl) (q_call0 Try.call32 rfl (failOf_ok 2)) rfl (by decide) (cok2 trivial (cconst rfl)) ?_
                refine dv (gyes_none rfl) (q_as (v := .int .i64 0) rfl) rfl (by decide) (cok1 (cconst rfl)) ?_
                refine x_store [] hF s10 (by kernel_rfl) (gyes_none rfl) (j := 0) (v := .agg #[.int .i64 2, .int .u64 0, .string ⟨#[]⟩]) rfl Try.sizeOf36 rfl rfl rfl rfl rfl trivial (lcsA ⟨(lc_scalar rfl), (lc_scalar rfl), (lc_scalar rfl), trivial⟩) (Nat.le_of_ble_eq_true rfl) trivial trivial rfl rfl (F' := [(b1, .cells true [.int .i64 2, .int .u64 0, .string ⟨#[]⟩] 3)]) rfl (fun H23 s24 => ⟨?_, ?_⟩)
                · exact trivial
                refine ⟨_, Wk.refl _ _, ?_⟩
                show awp _ _ _ _ _ _ _
                refine awp_ret_wk ?_
                refine ⟨_, Wk.refl _ _, ?_⟩
                repeat (with_reducible first | refine then_ret ?_ | refine blk_ret ?_ | refine then_exit ?_ | refine blk_exit ?_ | refine blk_exit' (by decide) ?_ | refine blk_normal ?_ | refine then_normal ?_ | refine retq_ret ?_ | refine retq_normal ?_ | refine ng_normal ?_ | refine ng_ret ?_ | refine ng_exit ?_)
                exact ret_none (v := .tuple #[.int .i64 0, .agg #[.int .i64 2, .int .u64 0, .string ⟨#[]⟩]]) rfl s24.kp (.tmp rfl (.agg rfl Try.isAgg36 Try.sizeOf36 (s24.rd (j := 0) rfl) (Nat.le_of_ble_eq_true rfl) rfl .nil)) rfl rfl ⟨by rw [hdN, hd_out (by omega) (by omega) h3 h4 (by omega) (by omega)]; first | done | rfl, rfl⟩
      ·
        replace c3 := of_decide_eq_false c3
        have h3 := c3
        refine dv (gyes_none rfl) (q_not (b := false) rfl) rfl (by decide) (cok1 trivial) ?_
        refine dv (gyes_none rfl) (q_as (v := .bool true) rfl) rfl (by decide) (cok1 trivial) ?_
        refine ⟨_, Wk.refl _ _, ?_⟩
        show awp _ _ _ _ _ _ _
        refine awp_cond_t rfl ?_
        refine awp_seq ?_
        refine awp_regs hF ?_
        refine dv (gyes_none rfl) (q_call0 Try.call32 rfl (failOf_ok 3)) rfl (by decide) (cok2 trivial (cconst rfl)) ?_
        refine dv (gyes_none rfl) (q_as (v := .int .i64 0) rfl) rfl (by decide) (cok1 (cconst rfl)) ?_
        refine x_store [] hF s3 (by kernel_rfl) (gyes_none rfl) (j := 0) (v := .agg #[.int .i64 3, .int .u64 0, .string ⟨#[]⟩]) rfl Try.sizeOf36 rfl rfl rfl rfl rfl trivial (lcsA ⟨(lc_scalar rfl), (lc_scalar rfl), (lc_scalar rfl), trivial⟩) (Nat.le_of_ble_eq_true rfl) trivial trivial rfl rfl (F' := [(b1, .cells true [.int .i64 3, .int .u64 0, .string ⟨#[]⟩] 3)]) rfl (fun H25 s26 => ⟨?_, ?_⟩)
        · exact trivial
        refine ⟨_, Wk.refl _ _, ?_⟩
        show awp _ _ _ _ _ _ _
        refine awp_ret_wk ?_
        refine ⟨_, Wk.refl _ _, ?_⟩
        repeat (with_reducible first | refine then_ret ?_ | refine blk_ret ?_ | refine then_exit ?_ | refine blk_exit ?_ | refine blk_exit' (by decide) ?_ | refine blk_normal ?_ | refine then_normal ?_ | refine retq_ret ?_ | refine retq_normal ?_ | refine ng_normal ?_ | refine ng_ret ?_ | refine ng_exit ?_)
        exact ret_none (v := .tuple #[.int .i64 0, .agg #[.int .i64 3, .int .u64 0, .string ⟨#[]⟩]]) rfl s26.kp (.tmp rfl (.agg rfl Try.isAgg36 Try.sizeOf36 (s26.rd (j := 0) rfl) (Nat.le_of_ble_eq_true rfl) rfl .nil)) rfl rfl ⟨by rw [hdN, hd_magic (by omega) (by omega) h3]; first | done | rfl, rfl⟩
set_option maxRecDepth 100000 in
set_option maxHeartbeats 4000000 in
theorem segment_ok {H0 : AHeap} (s : ByteArray) (a : Nat) (hs : s.size ≤ 140737488355328) (ha : a ≤ 140737488355328) : ACalls Try.prog 28 [.string s, .int .u64 ((a : Nat) : Int)] H0 (Rets (.agg (segc (segAt s a)).toArray) H0) := by
  have hF : Wd Fence.wide := .inl rfl
  have hM : Try.prog.follows .mixedOrders = true := by kernel_rfl
  have h4 := lt4 s a
  have h44 := lt4 s (a + 4)
  have s0 := St.begin H0
  refine acalls_st Try.func28 rfl Try.ntmps28 rfl ?_
  refine awp_seq ?_
  refine awp_regs hF ?_
  refine x_new (fun b => .pointer (some ⟨b, 0, none⟩)) s0 (gyes_none rfl) (q_alloc (vs := [.int .u32 0, .int .i64 0, .int .u64 0, .int .u64 0, .int .u64 0, .int .u64 0]) 6 Try.zeroValue75 (by first | exact flat_scalar rfl | exact flat_agg rfl) rfl) rfl (by decide) (by simp [Op.operands, Call.operands]) (fun b1 H2 hb4 s3 => ?_)
  refine ⟨_, Wk.refl _ _, ?_⟩
  show awp _ _ _ _ _ _ _
  refine awp_seq ?_
  refine awp_regs hF ?_
  refine dv (gyes_none rfl) (q_mv (v := .string s) rfl) rfl (by decide) (cok1 trivial) ?_
  refine dv (gyes_none rfl) (q_mv (v := .int .u64 ((a : Nat) : Int)) rfl) rfl (by decide) (cok1 trivial) ?_
  refine dv (gyes_none rfl) (q_call0 Try.call27 rfl (number_ok s a 4 (by first | assumption | omega) (by omega) (by omega) (by omega))) rfl (by decide) (call_ok rfl) ?_
  refine dv (gyes_none rfl) (q_convin (a := ((atV s a 4 : Nat) : Int)) Try.underlying25 Try.underlying73 rfl (u32_in (by omega))) rfl (by decide) (cok1 trivial) ?_
  refine dv (gyes_none rfl) (q_mv (v := .string s) rfl) rfl (by decide) (cok1 trivial) ?_
  refine dv (gyes_none rfl) (q_mv (v := .int .u64 ((a : Nat) : Int)) rfl) rfl (by decide) (cok1 trivial) ?_
  refine dv (gyes_none rfl) (OpQ.cast (v' := .int .u64 ((a + 4 : Nat) : Int)) (q_int rfl rfl rfl) (congrArg _ ((u64_in (by omega)).trans (by first | rfl | omega | (push_cast; rfl))))) rfl (by decide) (cok2 trivial (cconst rfl)) ?_
  refine dv (gyes_none rfl) (q_call0 Try.call27 rfl (number_ok s (a + 4) 4 (by first | assumption | omega) (by omega) (by omega) (by omega))) rfl (by decide) (call_ok rfl) ?_
  refine dv (gyes_none rfl) (OpQ.cast (v' := .int .u64 ((atV s (a + 4) 4 % 8 : Nat) : Int)) (q_andN (a := (atV s (a + 4) 4)) (b := 7) rfl rfl rfl (by show _ < 2 ^ 64; omega) (by decide)) (congrArg _ (congrArg _ (and7 _)))) rfl (by decide) (cok2 trivial (cconst rfl)) ?_
  refine dv (gyes_none rfl) (q_convin (a := ((atV s (a + 4) 4 % 8 : Nat) : Int)) Try.underlying25 Try.underlying3 rfl (i64_in (by omega))) rfl (by decide) (cok1 trivial) ?_
  refine dv (gyes_none rfl) (q_mv (v := .string s) rfl) rfl (by decide) (cok1 trivial) ?_
  refine dv (gyes_none rfl) (q_mv (v := .int .u64 ((a : Nat) : Int)) rfl) rfl (by decide) (cok1 trivial) ?_
  refine dv (gyes_none rfl) (OpQ.cast (v' := .int .u64 ((a + 8 : Nat) : Int)) (q_int rfl rfl rfl) (congrArg _ ((u64_in (by omega)).trans (by first | rfl | omega | (push_cast; rfl))))) rfl (by decide) (cok2 trivial (cconst rfl)) ?_
  refine dv (gyes_none rfl) (q_call0 Try.call27 rfl (number_ok s (a + 8) 8 (by first | assumption | omega) (by omega) (by omega) (by omega))) rfl (by decide) (call_ok rfl) ?_
  refine dv (gyes_none rfl) (q_mv (v := .string s) rfl) rfl (by decide) (cok1 trivial) ?_
  refine dv (gyes_none rfl) (q_mv (v := .int .u64 ((a : Nat) : Int)) rfl) rfl (by decide) (cok1 trivial) ?_
  refine dv (gyes_none rfl) (OpQ.cast (v' := .int .u64 ((a + 16 : Nat) : Int)) (q_int rfl rfl rfl) (congrArg _ ((u64_in (by omega)).trans (by first | rfl | omega | (push_cast; rfl))))) rfl (by decide) (cok2 trivial (cconst rfl)) ?_
  refine dv (gyes_none rfl) (q_call0 Try.call27 rfl (number_ok s (a + 16) 8 (by first | assumption | omega) (by omega) (by omega) (by omega))) rfl (by decide) (call_ok rfl) ?_
  refine dv (gyes_none rfl) (q_mv (v := .string s) rfl) rfl (by decide) (cok1 trivial) ?_
  refine dv (gyes_none rfl) (q_mv (v := .int .u64 ((a : Nat) : Int)) rfl) rfl (by decide) (cok1 trivial) ?_
  refine dv (gyes_none rfl) (OpQ.cast (v' := .int .u64 ((a + 32 : Nat) : Int)) (q_int rfl rfl rfl) (congrArg _ ((u64_in (by omega)).trans (by first | rfl | omega | (push_cast; rfl))))) rfl (by decide) (cok2 trivial (cconst rfl)) ?_
  refine dv (gyes_none rfl) (q_call0 Try.call27 rfl (number_ok s (a + 32) 8 (by first | assumption | omega) (by omega) (by omega) (by omega))) rfl (by decide) (call_ok rfl) ?_
  refine dv (gyes_none rfl) (q_mv (v := .string s) rfl) rfl (by decide) (cok1 trivial) ?_
  refine dv (gyes_none rfl) (q_mv (v := .int .u64 ((a : Nat) : Int)) rfl) rfl (by decide) (cok1 trivial) ?_
  refine dv (gyes_none rfl) (OpQ.cast (v' := .int .u64 ((a + 40 : Nat) : Int)) (q_int rfl rfl rfl) (congrArg _ ((u64_in (by omega)).trans (by first | rfl | omega | (push_cast; rfl))))) rfl (by decide) (cok2 trivial (cconst rfl)) ?_
  refine dv (gyes_none rfl) (q_call0 Try.call27 rfl (number_ok s (a + 40) 8 (by first | assumption | omega) (by omega) (by omega) (by omega))) rfl (by decide) (call_ok rfl) ?_
  refine dv (gyes_none rfl) (q_buildL (ds := [.int .u32 ((atV s a 4 : Nat) : Int), .int .i64 ((atV s (a + 4) 4 % 8 : Nat) : Int), .int .u64 ((atV s (a + 8) 8 : Nat) : Int), .int .u64 ((atV s (a + 16) 8 : Nat) : Int), .int .u64 ((atV s (a + 32) 8 : Nat) : Int), .int .u64 ((atV s (a + 40) 8 : Nat) : Int)]) [(0, 1), (1, 1), (2, 1), (3, 1), (4, 1), (5, 1)] [.int .u32 ((atV s a 4 : Nat) : Int), .int .i64 ((atV s (a + 4) 4 % 8 : Nat) : Int), .int .u64 ((atV s (a + 8) 8 : Nat) : Int), .int .u64 ((atV s (a + 16) 8 : Nat) : Int), .int .u64 ((atV s (a + 32) 8 : Nat) : Int), .int .u64 ((atV s (a + 40) 8 : Nat) : Int)] Try.underlying75 Try.zeroValue75 (by first | exact flat_agg rfl | exact flat_scalar rfl) (by kernel_rfl) ⟨rfl, rfl, rfl, rfl, rfl, rfl, trivial⟩ (lvsC (by exact trivial) (lvsC (by exact trivial) (lvsC (by exact trivial) (lvsC (by exact trivial) (lvsC (by exact trivial) (lvsC (by exact trivial) lvs0)))))) rfl) rfl (by decide) (call_ok rfl) ?_
  refine x_store [] hF s3 (by kernel_rfl) (gyes_none rfl) (j := 0) (v := .agg #[.int .u32 ((atV s a 4 : Nat) : Int), .int .i64 ((atV s (a + 4) 4 % 8 : Nat) : Int), .int .u64 ((atV s (a + 8) 8 : Nat) : Int), .int .u64 ((atV s (a + 16) 8 : Nat) : Int), .int .u64 ((atV s (a + 32) 8 : Nat) : Int), .int .u64 ((atV s (a + 40) 8 : Nat) : Int)]) rfl Try.sizeOf75 rfl rfl rfl rfl rfl trivial (lcsA ⟨(lc_scalar rfl), (lc_scalar rfl), (lc_scalar rfl), (lc_scalar rfl), (lc_scalar rfl), (lc_scalar rfl), trivial⟩) (Nat.le_of_ble_eq_true rfl) trivial trivial rfl rfl (F' := [(b1, .cells true [.int .u32 ((atV s a 4 : Nat) : Int), .int .i64 ((atV s (a + 4) 4 % 8 : Nat) : Int), .int .u64 ((atV s (a + 8) 8 : Nat) : Int), .int .u64 ((atV s (a + 16) 8 : Nat) : Int), .int .u64 ((atV s (a + 32) 8 : Nat) : Int), .int .u64 ((atV s (a + 40) 8 : Nat) : Int)] 6)]) rfl (fun H5 s6 => ⟨?_, ?_⟩)
  · exact trivial
  refine ⟨_, Wk.refl _ _, ?_⟩
  show awp _ _ _ _ _ _ _
  refine awp_ret_wk ?_
  refine ⟨_, Wk.refl _ _, ?_⟩
  repeat (with_reducible first | refine then_ret ?_ | refine blk_ret ?_ | refine then_exit ?_ | refine blk_exit ?_ | refine blk_exit' (by decide) ?_ | refine blk_normal ?_ | refine then_normal ?_ | refine retq_ret ?_ | refine retq_normal ?_ | refine ng_normal ?_ | refine ng_ret ?_ | refine ng_exit ?_)
  exact ret_none (v := .agg #[.int .u32 ((atV s a 4 : Nat) : Int), .int .i64 ((atV s (a + 4) 4 % 8 : Nat) : Int), .int .u64 ((atV s (a + 8) 8 : Nat) : Int), .int .u64 ((atV s (a + 16) 8 : Nat) : Int), .int .u64 ((atV s (a + 32) 8 : Nat) : Int), .int .u64 ((atV s (a + 40) 8 : Nat) : Int)]) rfl s6.kp (.agg rfl Try.isAgg75 Try.sizeOf75 (s6.rd (j := 0) rfl) (Nat.le_of_ble_eq_true rfl) rfl .nil) rfl rfl ⟨rfl, rfl⟩
set_option maxRecDepth 100000 in
set_option maxHeartbeats 4000000 in
theorem wrong_ok {H0 : AHeap} (s : ByteArray) (x : Sg) (e : Nat) (hs : s.size ≤ 140737488355328) (hx : SgB x) : ACalls Try.prog 29 [.string s, .agg #[.int .u32 ((x.1 : Nat) : Int), .int .i64 ((x.2.1 : Nat) : Int), .int .u64 ((x.2.2.1 : Nat) : Int), .int .u64 ((x.2.2.2.1 : Nat) : Int), .int .u64 ((x.2.2.2.2.1 : Nat) : Int), .int .u64 ((x.2.2.2.2.2 : Nat) : Int)], .int .u64 ((e : Nat) : Int)] H0 (Rets (.int .i64 ((wrongC s x e : Nat) : Int)) H0) := by
  have hF : Wd Fence.wide := .inl rfl
  have hM : Try.prog.follows .mixedOrders = true := by kernel_rfl
  obtain ⟨hx1, hx2, hx3, hx4⟩ := hx
  have s0 := St.begin H0
  refine acalls_st Try.func29 rfl Try.ntmps29 rfl ?_
  refine awp_seq ?_
  refine awp_regs hF ?_
  refine x_new (fun b => .pointer (some ⟨b, 0, none⟩)) s0 (gyes_none rfl) (q_box (v := .agg #[.int .u32 ((x.1 : Nat) : Int), .int .i64 ((x.2.1 : Nat) : Int), .int .u64 ((x.2.2.1 : Nat) : Int), .int .u64 ((x.2.2.2.1 : Nat) : Int), .int .u64 ((x.2.2.2.2.1 : Nat) : Int), .int .u64 ((x.2.2.2.2.2 : Nat) : Int)]) (vs := [.int .u32 ((x.1 : Nat) : Int), .int .i64 ((x.2.1 : Nat) : Int), .int .u64 ((x.2.2.1 : Nat) : Int), .int .u64 ((x.2.2.2.1 : Nat) : Int), .int .u64 ((x.2.2.2.2.1 : Nat) : Int), .int .u64 ((x.2.2.2.2.2 : Nat) : Int)]) 6 rfl (by exact trivial) rfl) rfl (by decide) (cok1 trivial) (fun b1 H2 hb4 s3 => ?_)
  refine dv (gyes_none rfl) (q_as (v := .int .i64 0) rfl) rfl (by decide) (cok1 (cconst rfl)) ?_
  refine ⟨_, Wk.refl _ _, ?_⟩
  show awp _ _ _ _ _ _ _
  refine awp_seq ?_
  refine awp_regs hF ?_
  refine dv (gyes_none rfl) (q_mv (v := .string s) rfl) rfl (by decide) (cok1 trivial) ?_
  refine dv (gyes_none rfl) (q_field Try.underlying75 rfl Try.sizeOf25 rfl (s3.rd (j := 0) rfl)) rfl (by decide) (cok1 trivial) ?_
  refine dv (gyes_none rfl) (q_load (v := .int .u64 ((x.2.2.1 : Nat) : Int)) Try.isAgg25 rfl (s3.rd (j := 0) rfl) rfl) rfl (by decide) (cok1 trivial) ?_
  refine dv (gyes_none rfl) (q_field Try.underlying75 rfl Try.sizeOf25 rfl (s3.rd (j := 0) rfl)) rfl (by decide) (cok1 trivial) ?_
  refine dv (gyes_none rfl) (q_load (v := .int .u64 ((x.2.2.2.2.1 : Nat) : Int)) Try.isAgg25 rfl (s3.rd (j := 0) rfl) rfl) rfl (by decide) (cok1 trivial) ?_
  refine dv (gyes_none rfl) (q_call0 Try.call43 rfl (part_ok s x.2.2.1 x.2.2.2.2.1 (by first | assumption | omega) (by omega) (by omega))) rfl (by decide) (call_ok rfl) ?_
  refine dv (gyes_none rfl) (q_mv (v := .tuple #[.string (partV s x.2.2.1 x.2.2.2.2.1), .bool (decide (x.2.2.1 + x.2.2.2.2.1 ≤ s.size))]) rfl) rfl (by decide) (cok1 trivial) ?_
  refine dv (gyes_none rfl) (q_extract (v := .string (partV s x.2.2.1 x.2.2.2.2.1)) rfl rfl) rfl (by decide) (cok1 trivial) ?_
  refine dvb (gyes_none rfl) (q_extract (v := .bool (decide (x.2.2.1 + x.2.2.2.2.1 ≤ s.size))) rfl rfl) rfl (by decide) (cok1 trivial) (fun c1 => ?_) (fun c1 => ?_)
  ·
    replace c1 := of_decide_eq_true c1
    refine dv (gyes_none rfl) (q_as (v := .string (partV s x.2.2.1 x.2.2.2.2.1)) rfl) rfl (by decide) (cok1 trivial) ?_
    refine dv (gyes_none rfl) (q_as (v := .bool true) rfl) rfl (by decide) (cok1 trivial) ?_
    refine ⟨_, Wk.refl _ _, ?_⟩
    show awp _ _ _ _ _ _ _
    refine awp_seq ?_
    refine awp_regs hF ?_
    refine dv (gyes_none rfl) (q_field Try.underlying75 rfl Try.sizeOf73 rfl (s3.rd (j := 0) rfl)) rfl (by decide) (cok1 trivial) ?_
    refine dv (gyes_none rfl) (q_load (v := .int .u32 ((x.1 : Nat) : Int)) Try.isAgg73 rfl (s3.rd (j := 0) rfl) rfl) rfl (by decide) (cok1 trivial) ?_
    refine dvb (gyes_none rfl) (q_int rfl rfl rfl) rfl (by decide) (cok2 trivial (cconst rfl)) (fun c2 => ?_) (fun c2 => ?_)
    ·
      replace c2 := eq_of_beq c2
      refine dv (gyes_none rfl) (q_as (v := .bool true) rfl) rfl (by decide) (cok1 trivial) ?_
      refine ⟨_, Wk.refl _ _, ?_⟩
      show awp _ _ _ _ _ _ _
      refine awp_seq ?_
      refine awp_block ?_
      refine awp_seq ?_
      refine awp_regs hF ?_
      refine dv (gyes_none rfl) (q_mv (v := .bool true) rfl) rfl (by decide) (cok1 trivial) ?_
      refine dv (gyes_none rfl) (q_mv (v := .bool true) rfl) rfl (by decide) (cok1 trivial) ?_
      refine dv (gyes_some rfl rfl) (q_field Try.underlying75 rfl Try.sizeOf25 rfl (s3.rd (j := 0) rfl)) rfl (by decide) (cok1 trivial) ?_
      refine dv (gyes_some rfl rfl) (q_load (v := .int .u64 ((x.2.2.2.1 : Nat) : Int)) Try.isAgg25 rfl (s3.rd (j := 0) rfl) rfl) rfl (by decide) (cok1 trivial) ?_
      refine dv (gyes_some rfl rfl) (q_remM (a := x.2.2.2.1) (b := 256) rfl rfl (by first | decide | omega)) rfl (by decide) (cok2 trivial (cconst rfl)) ?_
      refine dvb (gyes_some rfl rfl) (q_int rfl rfl rfl) rfl (by decide) (cok2 trivial (cconst rfl)) (fun c3 => ?_) (fun c3 => ?_)
      ·
        replace c3 := bne_iff_ne.1 c3
        refine dv (gyes_none rfl) (q_pt (v := .bool true) rfl rfl) rfl (by decide) (call_ok rfl) ?_
        refine dv (gyes_none rfl) (q_as (v := .bool true) rfl) rfl (by decide) (cok1 trivial) ?_
        refine ⟨_, Wk.refl _ _, ?_⟩
        show awp _ _ _ _ _ _ _
        refine awp_cond_t rfl ?_
        refine awp_seq ?_
        refine awp_regs hF ?_
        refine dv (gyes_none rfl) (q_as (v := .int .i64 13) rfl) rfl (by decide) (cok1 (cconst rfl)) ?_
        refine ⟨_, Wk.refl _ _, ?_⟩
        show awp _ _ _ _ _ _ _
        refine awp_ret_wk ?_
        refine ⟨_, Wk.refl _ _, ?_⟩
        repeat (with_reducible first | refine then_ret ?_ | refine blk_ret ?_ | refine then_exit ?_ | refine blk_exit ?_ | refine blk_exit' (by decide) ?_ | refine blk_normal ?_ | refine then_normal ?_ | refine retq_ret ?_ | refine retq_normal ?_ | refine ng_normal ?_ | refine ng_ret ?_ | refine ng_exit ?_)
        exact ret_none (v := .int .i64 13) rfl s3.kp (.tmp rfl .nil) rfl rfl ⟨by rw [show wrongC s x e = 13 by unfold wrongC; rw [if_pos (by omega)]]; rfl, rfl⟩
      ·
        replace c3 := bne_eq_false_iff_eq.1 c3
        refine dv (gyes_none rfl) (q_pt (v := .bool false) rfl rfl) rfl (by decide) (call_ok rfl) ?_
        refine dv (gyes_none rfl) (q_as (v := .bool false) rfl) rfl (by decide) (cok1 trivial) ?_
        refine ⟨_, Wk.refl _ _, ?_⟩
        show awp _ _ _ _ _ _ _
        refine awp_cond_f rfl ?_
        refine awp_seq ?_
        refine awp_regs hF ?_
        refine dv (gyes_none rfl) (q_mv (v := .bool true) rfl) rfl (by decide) (cok1 trivial) ?_
        refine dv (gyes_none rfl) (q_mv (v := .bool true) rfl) rfl (by decide) (cok1 trivial) ?_
        refine dv (gyes_some rfl rfl) (q_field Try.underlying75 rfl Try.sizeOf25 rfl (s3.rd (j := 0) rfl)) rfl (by decide) (cok1 trivial) ?_
        refine dv (gyes_some rfl rfl) (q_load (v := .int .u64 ((x.2.2.2.2.2 : Nat) : Int)) Try.isAgg25 rfl (s3.rd (j := 0) rfl) rfl) rfl (by decide) (cok1 trivial) ?_
        refine dvb (gyes_some rfl rfl) (q_int rfl rfl rfl) rfl (by decide) (cok2 trivial (cconst rfl)) (fun c4 => ?_) (fun c4 => ?_)
        ·
          replace c4 := eq_of_beq c4
          refine dv (gyes_some rfl rfl) (q_mv (v := .bool true) rfl) rfl (by decide) (cok1 trivial) ?_
          refine dno rfl (.inl rfl) rfl (by decide) ?_
          refine dno rfl (.inl rfl) rfl (by decide) ?_
          refine dno rfl (.inl rfl) rfl (by decide) ?_
          refine dno rfl (.inl rfl) rfl (by decide) ?_
          refine dno rfl (.inl rfl) rfl (by decide) ?_
          refine dv (gyes_some rfl rfl) (q_pt (v := .bool true) rfl rfl) rfl (by decide) (call_ok rfl) ?_
          refine dv (gyes_none rfl) (q_pt (v := .bool true) rfl rfl) rfl (by decide) (call_ok rfl) ?_
          refine dv (gyes_none rfl) (q_as (v := .bool true) rfl) rfl (by decide) (cok1 trivial) ?_
          refine ⟨_, Wk.refl _ _, ?_⟩
          show awp _ _ _ _ _ _ _
          refine awp_cond_t rfl ?_
          refine awp_seq ?_
          refine awp_regs hF ?_
          refine dv (gyes_none rfl) (q_as (v := .int .i64 4) rfl) rfl (by decide) (cok1 (cconst rfl)) ?_
          refine ⟨_, Wk.refl _ _, ?_⟩
          show awp _ _ _ _ _ _ _
          refine awp_ret_wk ?_
          refine ⟨_, Wk.refl _ _, ?_⟩
          repeat (with_reducible first | refine then_ret ?_ | refine blk_ret ?_ | refine then_exit ?_ | refine blk_exit ?_ | refine blk_exit' (by decide) ?_ | refine blk_normal ?_ | refine then_normal ?_ | refine retq_ret ?_ | refine retq_normal ?_ | refine ng_normal ?_ | refine ng_ret ?_ | refine ng_exit ?_)
          exact ret_none (v := .int .i64 4) rfl s3.kp (.tmp rfl .nil) rfl rfl ⟨by rw [show wrongC s x e = 4 by unfold wrongC; rw [if_neg (by omega), if_pos (by omega)]]; rfl, rfl⟩
        ·
          replace c4 := ne_of_beq_false c4
          refine dv (gyes_some rfl rfl) (q_mv (v := .bool false) rfl) rfl (by decide) (cok1 trivial) ?_
          refine dv (gyes_some rfl rfl) (q_field Try.underlying75 rfl Try.sizeOf25 rfl (s3.rd (j := 0) rfl)) rfl (by decide) (cok1 trivial) ?_
          refine dv (gyes_some rfl rfl) (q_load (v := .int .u64 ((x.2.2.2.2.2 : Nat) : Int)) Try.isAgg25 rfl (s3.rd (j := 0) rfl) rfl) rfl (by decide) (cok1 trivial) ?_
          refine dv (gyes_some rfl rfl) (q_field Try.underlying75 rfl Try.sizeOf25 rfl (s3.rd (j := 0) rfl)) rfl (by decide) (cok1 trivial) ?_
          refine dv (gyes_some rfl rfl) (q_load (v := .int .u64 ((x.2.2.2.2.1 : Nat) : Int)) Try.isAgg25 rfl (s3.rd (j := 0) rfl) rfl) rfl (by decide) (cok1 trivial) ?_
          refine dvb (gyes_some rfl rfl) (q_int rfl rfl rfl) rfl (by decide) (cok2 trivial trivial) (fun c5 => ?_) (fun c5 => ?_)
          ·
            replace c5 := of_decide_eq_true c5
            refine dv (gyes_some rfl rfl) (q_pf (v := .bool true) rfl rfl) rfl (by decide) (call_ok rfl) ?_
            refine dv (gyes_none rfl) (q_pt (v := .bool true) rfl rfl) rfl (by decide) (call_ok rfl) ?_
            refine dv (gyes_none rfl) (q_as (v := .bool true) rfl) rfl (by decide) (cok1 trivial) ?_
            refine ⟨_, Wk.refl _ _, ?_⟩
            show awp _ _ _ _ _ _ _
            refine awp_cond_t rfl ?_
            refine awp_seq ?_
            refine awp_regs hF ?_
            refine dv (gyes_none rfl) (q_as (v := .int .i64 4) rfl) rfl (by decide) (cok1 (cconst rfl)) ?_
            refine ⟨_, Wk.refl _ _, ?_⟩
            show awp _ _ _ _ _ _ _
            refine awp_ret_wk ?_
            refine ⟨_, Wk.refl _ _, ?_⟩
            repeat (with_reducible first | refine then_ret ?_ | refine blk_ret ?_ | refine then_exit ?_ | refine blk_exit ?_ | refine blk_exit' (by decide) ?_ | refine blk_normal ?_ | refine then_normal ?_ | refine retq_ret ?_ | refine retq_normal ?_ | refine ng_normal ?_ | refine ng_ret ?_ | refine ng_exit ?_)
            exact ret_none (v := .int .i64 4) rfl s3.kp (.tmp rfl .nil) rfl rfl ⟨by rw [show wrongC s x e = 4 by unfold wrongC; rw [if_neg (by omega), if_pos (by omega)]]; rfl, rfl⟩
          ·
            replace c5 := of_decide_eq_false c5
            refine dv (gyes_some rfl rfl) (q_pf (v := .bool false) rfl rfl) rfl (by decide) (call_ok rfl) ?_
            refine dv (gyes_none rfl) (q_pt (v := .bool false) rfl rfl) rfl (by decide) (call_ok rfl) ?_
            refine dv (gyes_none rfl) (q_as (v := .bool false) rfl) rfl (by decide) (cok1 trivial) ?_
            refine ⟨_, Wk.refl _ _, ?_⟩
            show awp _ _ _ _ _ _ _
            refine awp_cond_f rfl ?_
            refine awp_seq ?_
            refine awp_regs hF ?_
            refine dv (gyes_none rfl) (q_mv (v := .bool true) rfl) rfl (by decide) (cok1 trivial) ?_
            refine dv (gyes_none rfl) (q_mv (v := .bool true) rfl) rfl (by decide) (cok1 trivial) ?_
            refine dv (gyes_some rfl rfl) (q_field Try.underlying75 rfl Try.sizeOf25 rfl (s3.rd (j := 0) rfl)) rfl (by decide) (cok1 trivial) ?_
            refine dv (gyes_some rfl rfl) (q_load (v := .int .u64 ((x.2.2.2.1 : Nat) : Int)) Try.isAgg25 rfl (s3.rd (j := 0) rfl) rfl) rfl (by decide) (cok1 trivial) ?_
            refine dvb (gyes_some rfl rfl) (q_int rfl rfl rfl) rfl (by decide) (cok2 trivial (cconst rfl)) (fun c6 => ?_) (fun c6 => ?_)
            ·
              replace c6 := of_decide_eq_true c6
              refine dv (gyes_some rfl rfl) (q_mv (v := .bool true) rfl) rfl (by decide) (cok1 trivial) ?_
              refine dno rfl (.inl rfl) rfl (by decide) ?_
              refine dno rfl (.inl rfl) rfl (by decide) ?_
              refine dno rfl (.inl rfl) rfl (by decide) ?_
              refine dno rfl (.inl rfl) rfl (by decide) ?_
              refine dno rfl (.inl rfl) rfl (by decide) ?_
              refine dno rfl (.inl rfl) rfl (by decide) ?_
              refine dv (gyes_some rfl rfl) (q_pt (v := .bool true) rfl rfl) rfl (by decide) (call_ok rfl) ?_
              refine dv (gyes_none rfl) (q_pt (v := .bool true) rfl rfl) rfl (by decide) (call_ok rfl) ?_
              refine dv (gyes_none rfl) (q_as (v := .bool true) rfl) rfl (by decide) (cok1 trivial) ?_
              refine ⟨_, Wk.refl _ _, ?_⟩
              show awp _ _ _ _ _ _ _
              refine awp_cond_t rfl ?_
              refine awp_seq ?_
              refine awp_regs hF ?_
              refine dv (gyes_none rfl) (q_as (v := .int .i64 5) rfl) rfl (by decide) (cok1 (cconst rfl)) ?_
              refine ⟨_, Wk.refl _ _, ?_⟩
              show awp _ _ _ _ _ _ _
              refine awp_ret_wk ?_
              refine ⟨_, Wk.refl _ _, ?_⟩
              repeat (with_reducible first | refine then_ret ?_ | refine blk_ret ?_ | refine then_exit ?_ | refine blk_exit ?_ | refine blk_exit' (by decide) ?_ | refine blk_normal ?_ | refine then_normal ?_ | refine retq_ret ?_ | refine retq_normal ?_ | refine ng_normal ?_ | refine ng_ret ?_ | refine ng_exit ?_)
              exact ret_none (v := .int .i64 5) rfl s3.kp (.tmp rfl .nil) rfl rfl ⟨by rw [show wrongC s x e = 5 by unfold wrongC; rw [if_neg (by omega), if_neg (by omega), if_pos (by omega)]]; rfl, rfl⟩
            ·
              replace c6 := of_decide_eq_false c6
              refine dv (gyes_some rfl rfl) (q_mv (v := .bool false) rfl) rfl (by decide) (cok1 trivial) ?_
              refine dv (gyes_some rfl rfl) (q_field Try.underlying75 rfl Try.sizeOf25 rfl (s3.rd (j := 0) rfl)) rfl (by decide) (cok1 trivial) ?_
              refine dv (gyes_some rfl rfl) (q_load (v := .int .u64 ((x.2.2.2.2.2 : Nat) : Int)) Try.isAgg25 rfl (s3.rd (j := 0) rfl) rfl) rfl (by decide) (cok1 trivial) ?_
              refine dv (gyes_some rfl rfl) (q_field Try.underlying75 rfl Try.sizeOf25 rfl (s3.rd (j := 0) rfl)) rfl (by decide) (cok1 trivial) ?_
              refine dv (gyes_some rfl rfl) (q_load (v := .int .u64 ((x.2.2.2.1 : Nat) : Int)) Try.isAgg25 rfl (s3.rd (j := 0) rfl) rfl) rfl (by decide) (cok1 trivial) ?_
              refine dv (gyes_some rfl rfl) (OpQ.cast (v' := .int .u64 ((1073741824 - x.2.2.2.1 : Nat) : Int)) (q_int rfl rfl rfl) (congrArg _ ((u64_in (by omega)).trans (by omega)))) rfl (by decide) (cok2 (cconst rfl) trivial) ?_
              refine dvb (gyes_some rfl rfl) (q_int rfl rfl rfl) rfl (by decide) (cok2 trivial trivial) (fun c7 => ?_) (fun c7 => ?_)
              ·
                replace c7 := of_decide_eq_true c7
                refine dv (gyes_some rfl rfl) (q_pf (v := .bool true) rfl rfl) rfl (by decide) (call_ok rfl) ?_
                refine dv (gyes_none rfl) (q_pt (v := .bool true) rfl rfl) rfl (by decide) (call_ok rfl) ?_
                refine dv (gyes_none rfl) (q_as (v := .bool true) rfl) rfl (by decide) (cok1 trivial) ?_
                refine ⟨_, Wk.refl _ _, ?_⟩
                show awp _ _ _ _ _ _ _
                refine awp_cond_t rfl ?_
                refine awp_seq ?_
                refine awp_regs hF ?_
                refine dv (gyes_none rfl) (q_as (v := .int .i64 5) rfl) rfl (by decide) (cok1 (cconst rfl)) ?_
                refine ⟨_, Wk.refl _ _, ?_⟩
                show awp _ _ _ _ _ _ _
                refine awp_ret_wk ?_
                refine ⟨_, Wk.refl _ _, ?_⟩
                repeat (with_reducible first | refine then_ret ?_ | refine blk_ret ?_ | refine then_exit ?_ | refine blk_exit ?_ | refine blk_exit' (by decide) ?_ | refine blk_normal ?_ | refine then_normal ?_ | refine retq_ret ?_ | refine retq_normal ?_ | refine ng_normal ?_ | refine ng_ret ?_ | refine ng_exit ?_)
                exact ret_none (v := .int .i64 5) rfl s3.kp (.tmp rfl .nil) rfl rfl ⟨by rw [show wrongC s x e = 5 by unfold wrongC; rw [if_neg (by omega), if_neg (by omega), if_pos (by omega)]]; rfl, rfl⟩
              ·
                replace c7 := of_decide_eq_false c7
                refine dv (gyes_some rfl rfl) (q_pf (v := .bool false) rfl rfl) rfl (by decide) (call_ok rfl) ?_
                refine dv (gyes_none rfl) (q_pt (v := .bool false) rfl rfl) rfl (by decide) (call_ok rfl) ?_
                refine dv (gyes_none rfl) (q_as (v := .bool false) rfl) rfl (by decide) (cok1 trivial) ?_
                refine ⟨_, Wk.refl _ _, ?_⟩
                show awp _ _ _ _ _ _ _
                refine awp_cond_f rfl ?_
                refine awp_seq ?_
                refine awp_regs hF ?_
                refine dv (gyes_none rfl) (q_mv (v := .bool true) rfl) rfl (by decide) (cok1 trivial) ?_
                refine dv (gyes_none rfl) (q_not (b := true) rfl) rfl (by decide) (cok1 trivial) ?_
                refine dv (gyes_none rfl) (q_as (v := .bool false) rfl) rfl (by decide) (cok1 trivial) ?_
                refine ⟨_, Wk.refl _ _, ?_⟩
                show awp _ _ _ _ _ _ _
                refine awp_cond_f rfl ?_
                refine awp_seq ?_
                refine awp_regs hF ?_
                refine dv (gyes_none rfl) (q_mv (v := .bool true) rfl) rfl (by decide) (cok1 trivial) ?_
                refine dv (gyes_none rfl) (q_mv (v := .bool true) rfl) rfl (by decide) (cok1 trivial) ?_
                refine dv (gyes_some rfl rfl) (q_field Try.underlying75 rfl Try.sizeOf25 rfl (s3.rd (j := 0) rfl)) rfl (by decide) (cok1 trivial) ?_
                refine dv (gyes_some rfl rfl) (q_load (v := .int .u64 ((x.2.2.2.1 : Nat) : Int)) Try.isAgg25 rfl (s3.rd (j := 0) rfl) rfl) rfl (by decide) (cok1 trivial) ?_
                refine dv (gyes_some rfl rfl) (q_mv (v := .int .u64 ((e : Nat) : Int)) rfl) rfl (by decide) (cok1 trivial) ?_
                refine dvb (gyes_some rfl rfl) (q_int rfl rfl rfl) rfl (by decide) (cok2 trivial trivial) (fun c8 => ?_) (fun c8 => ?_)
                ·
                  replace c8 := of_decide_eq_true c8
                  refine dv (gyes_none rfl) (q_pt (v := .bool true) rfl rfl) rfl (by decide) (call_ok rfl) ?_
                  refine dv (gyes_none rfl) (q_as (v := .bool true) rfl) rfl (by decide) (cok1 trivial) ?_
                  refine ⟨_, Wk.refl _ _, ?_⟩
                  show awp _ _ _ _ _ _ _
                  refine awp_cond_t rfl ?_
                  refine awp_seq ?_
                  refine awp_regs hF ?_
                  refine dv (gyes_none rfl) (q_as (v := .int .i64 8) rfl) rfl (by decide) (cok1 (cconst rfl)) ?_
                  refine ⟨_, Wk.refl _ _, ?_⟩
                  show awp _ _ _ _ _ _ _
                  refine awp_ret_wk ?_
                  refine ⟨_, Wk.refl _ _, ?_⟩
                  repeat (with_reducible first | refine then_ret ?_ | refine blk_ret ?_ | refine then_exit ?_ | refine blk_exit ?_ | refine blk_exit' (by decide) ?_ | refine blk_normal ?_ | refine then_normal ?_ | refine retq_ret ?_ | refine retq_normal ?_ | refine ng_normal ?_ | refine ng_ret ?_ | refine ng_exit ?_)
                  exact ret_none (v := .int .i64 8) rfl s3.kp (.tmp rfl .nil) rfl rfl ⟨by rw [show wrongC s x e = 8 by unfold wrongC; rw [if_neg (by omega), if_neg (by omega), if_neg (by omega), if_neg (by omega), if_pos (by omega)]]; rfl, rfl⟩
                ·
                  replace c8 := of_decide_eq_false c8
                  refine dv (gyes_none rfl) (q_pt (v := .bool false) rfl rfl) rfl (by decide) (call_ok rfl) ?_
                  refine dv (gyes_none rfl) (q_as (v := .bool false) rfl) rfl (by decide) (cok1 trivial) ?_
                  refine ⟨_, Wk.refl _ _, ?_⟩
                  show awp _ _ _ _ _ _ _
                  refine awp_cond_f rfl ?_
                  refine awp_skip_wk ?_
                  refine ⟨_, Wk.refl _ _, ?_⟩
                  show awp _ _ _ _ _ _ _
                  refine awp_seq ?_
                  refine awp_regs hF ?_
                  refine dv (gyes_none rfl) (q_as (v := .int .i64 0) rfl) rfl (by decide) (cok1 (cconst rfl)) ?_
                  refine ⟨_, Wk.refl _ _, ?_⟩
                  show awp _ _ _ _ _ _ _
                  refine awp_ret_wk ?_
                  refine ⟨_, Wk.refl _ _, ?_⟩
                  repeat (with_reducible first | refine then_ret ?_ | refine blk_ret ?_ | refine then_exit ?_ | refine blk_exit ?_ | refine blk_exit' (by decide) ?_ | refine blk_normal ?_ | refine then_normal ?_ | refine retq_ret ?_ | refine retq_normal ?_ | refine ng_normal ?_ | refine ng_ret ?_ | refine ng_exit ?_)
                  exact ret_none (v := .int .i64 0) rfl s3.kp (.tmp rfl .nil) rfl rfl ⟨by rw [show wrongC s x e = 0 by unfold wrongC; rw [if_neg (by omega), if_neg (by omega), if_neg (by omega), if_neg (by omega), if_neg (by omega)]]; rfl, rfl⟩
    ·
      replace c2 := ne_of_beq_false c2
      refine dv (gyes_none rfl) (q_as (v := .bool false) rfl) rfl (by decide) (cok1 trivial) ?_
      refine ⟨_, Wk.refl _ _, ?_⟩
      show awp _ _ _ _ _ _ _
      refine awp_seq ?_
      refine awp_block ?_
      refine awp_seq ?_
      refine awp_regs hF ?_
      refine dv (gyes_none rfl) (q_mv (v := .bool false) rfl) rfl (by decide) (cok1 trivial) ?_
      refine dv (gyes_none rfl) (q_mv (v := .bool false) rfl) rfl (by decide) (cok1 trivial) ?_
      refine dno rfl (.inl rfl) rfl (by decide) ?_
      refine dno rfl (.inl rfl) rfl (by decide) ?_
      refine dno rfl (.inl rfl) rfl (by decide) ?_
      refine dno rfl (.inl rfl) rfl (by decide) ?_
      refine dv (gyes_none rfl) (q_pf (v := .bool false) rfl rfl) rfl (by decide) (call_ok rfl) ?_
      refine dv (gyes_none rfl) (q_as (v := .bool false) rfl) rfl (by decide) (cok1 trivial) ?_
      refine ⟨_, Wk.refl _ _, ?_⟩
      show awp _ _ _ _ _ _ _
      refine awp_cond_f rfl ?_
      refine awp_seq ?_
      refine awp_regs hF ?_
      refine dv (gyes_none rfl) (q_mv (v := .bool false) rfl) rfl (by decide) (cok1 trivial) ?_
      refine dv (gyes_none rfl) (q_mv (v := .bool false) rfl) rfl (by decide) (cok1 trivial) ?_
      refine dno rfl (.inl rfl) rfl (by decide) ?_
      refine dno rfl (.inl rfl) rfl (by decide) ?_
      refine dno rfl (.inl rfl) rfl (by decide) ?_
      refine dno rfl (.inl rfl) rfl (by decide) ?_
      refine dno rfl (.inr rfl) rfl (by decide) ?_
      refine dno rfl (.inr rfl) rfl (by decide) ?_
      refine dno rfl (.inr rfl) rfl (by decide) ?_
      refine dno rfl (.inr rfl) rfl (by decide) ?_
      refine dno rfl (.inr rfl) rfl (by decide) ?_
      refine dno rfl (.inl rfl) rfl (by decide) ?_
      refine dv (gyes_none rfl) (q_pf (v := .bool false) rfl rfl) rfl (by decide) (call_ok rfl) ?_
      refine dv (gyes_none rfl) (q_as (v := .bool false) rfl) rfl (by decide) (cok1 trivial) ?_
      refine ⟨_, Wk.refl _ _, ?_⟩
      show awp _ _ _ _ _ _ _
      refine awp_cond_f rfl ?_
      refine awp_seq ?_
      refine awp_regs hF ?_
      refine dv (gyes_none rfl) (q_mv (v := .bool false) rfl) rfl (by decide) (cok1 trivial) ?_
      refine dv (gyes_none rfl) (q_mv (v := .bool false) rfl) rfl (by decide) (cok1 trivial) ?_
      refine dno rfl (.inl rfl) rfl (by decide) ?_
      refine dno rfl (.inl rfl) rfl (by decide) ?_
      refine dno rfl (.inl rfl) rfl (by decide) ?_
      refine dno rfl (.inl rfl) rfl (by decide) ?_
      refine dno rfl (.inr rfl) rfl (by decide) ?_
      refine dno rfl (.inr rfl) rfl (by decide) ?_
      refine dno rfl (.inr rfl) rfl (by decide) ?_
      refine dno rfl (.inr rfl) rfl (by decide) ?_
      refine dno rfl (.inr rfl) rfl (by decide) ?_
      refine dno rfl (.inr rfl) rfl (by decide) ?_
      refine dno rfl (.inl rfl) rfl (by decide) ?_
      refine dv (gyes_none rfl) (q_pf (v := .bool false) rfl rfl) rfl (by decide) (call_ok rfl) ?_
      refine dv (gyes_none rfl) (q_as (v := .bool false) rfl) rfl (by decide) (cok1 trivial) ?_
      refine ⟨_, Wk.refl _ _, ?_⟩
      show awp _ _ _ _ _ _ _
      refine awp_cond_f rfl ?_
      refine awp_seq ?_
      refine awp_regs hF ?_
      refine dv (gyes_none rfl) (q_mv (v := .bool true) rfl) rfl (by decide) (cok1 trivial) ?_
      refine dv (gyes_none rfl) (q_not (b := true) rfl) rfl (by decide) (cok1 trivial) ?_
      refine dv (gyes_none rfl) (q_as (v := .bool false) rfl) rfl (by decide) (cok1 trivial) ?_
      refine ⟨_, Wk.refl _ _, ?_⟩
      show awp _ _ _ _ _ _ _
      refine awp_cond_f rfl ?_
      refine awp_seq ?_
      refine awp_regs hF ?_
      refine dv (gyes_none rfl) (q_mv (v := .bool false) rfl) rfl (by decide) (cok1 trivial) ?_
      refine dv (gyes_none rfl) (q_mv (v := .bool false) rfl) rfl (by decide) (cok1 trivial) ?_
      refine dno rfl (.inl rfl) rfl (by decide) ?_
      refine dno rfl (.inl rfl) rfl (by decide) ?_
      refine dno rfl (.inl rfl) rfl (by decide) ?_
      refine dno rfl (.inl rfl) rfl (by decide) ?_
      refine dv (gyes_none rfl) (q_pf (v := .bool false) rfl rfl) rfl (by decide) (call_ok rfl) ?_
      refine dv (gyes_none rfl) (q_as (v := .bool false) rfl) rfl (by decide) (cok1 trivial) ?_
      refine ⟨_, Wk.refl _ _, ?_⟩
      show awp _ _ _ _ _ _ _
      refine awp_cond_f rfl ?_
      refine awp_skip_wk ?_
      refine ⟨_, Wk.refl _ _, ?_⟩
      show awp _ _ _ _ _ _ _
      refine awp_seq ?_
      refine awp_regs hF ?_
      refine dv (gyes_none rfl) (q_as (v := .int .i64 0) rfl) rfl (by decide) (cok1 (cconst rfl)) ?_
      refine ⟨_, Wk.refl _ _, ?_⟩
      show awp _ _ _ _ _ _ _
      refine awp_ret_wk ?_
      refine ⟨_, Wk.refl _ _, ?_⟩
      repeat (with_reducible first | refine then_ret ?_ | refine blk_ret ?_ | refine then_exit ?_ | refine blk_exit ?_ | refine blk_exit' (by decide) ?_ | refine blk_normal ?_ | refine then_normal ?_ | refine retq_ret ?_ | refine retq_normal ?_ | refine ng_normal ?_ | refine ng_ret ?_ | refine ng_exit ?_)
      exact ret_none (v := .int .i64 0) rfl s3.kp (.tmp rfl .nil) rfl rfl ⟨by rw [show wrongC s x e = 0 by unfold wrongC; rw [if_neg (by omega), if_neg (by omega), if_neg (by omega), if_neg (by omega), if_neg (by omega)]]; rfl, rfl⟩
  ·
    replace c1 := of_decide_eq_false c1
    refine dv (gyes_none rfl) (q_as (v := .string (partV s x.2.2.1 x.2.2.2.2.1)) rfl) rfl (by decide) (cok1 trivial) ?_
    refine dv (gyes_none rfl) (q_as (v := .bool false) rfl) rfl (by decide) (cok1 trivial) ?_
    refine ⟨_, Wk.refl _ _, ?_⟩
    show awp _ _ _ _ _ _ _
    refine awp_seq ?_
    refine awp_regs hF ?_
    refine dv (gyes_none rfl) (q_field Try.underlying75 rfl Try.sizeOf73 rfl (s3.rd (j := 0) rfl)) rfl (by decide) (cok1 trivial) ?_
    refine dv (gyes_none rfl) (q_load (v := .int .u32 ((x.1 : Nat) : Int)) Try.isAgg73 rfl (s3.rd (j := 0) rfl) rfl) rfl (by decide) (cok1 trivial) ?_
    refine dvb (gyes_none rfl) (q_int rfl rfl rfl) rfl (by decide) (cok2 trivial (cconst rfl)) (fun c9 => ?_) (fun c9 => ?_)
    ·
      replace c9 := eq_of_beq c9
      refine dv (gyes_none rfl) (q_as (v := .bool true) rfl) rfl (by decide) (cok1 trivial) ?_
      refine ⟨_, Wk.refl _ _, ?_⟩
      show awp _ _ _ _ _ _ _
      refine awp_seq ?_
      refine awp_block ?_
      refine awp_seq ?_
      refine awp_regs hF ?_
      refine dv (gyes_none rfl) (q_mv (v := .bool true) rfl) rfl (by decide) (cok1 trivial) ?_
      refine dv (gyes_none rfl) (q_mv (v := .bool true) rfl) rfl (by decide) (cok1 trivial) ?_
      refine dv (gyes_some rfl rfl) (q_field Try.underlying75 rfl Try.sizeOf25 rfl (s3.rd (j := 0) rfl)) rfl (by decide) (cok1 trivial) ?_
      refine dv (gyes_some rfl rfl) (q_load (v := .int .u64 ((x.2.2.2.1 : Nat) : Int)) Try.isAgg25 rfl (s3.rd (j := 0) rfl) rfl) rfl (by decide) (cok1 trivial) ?_
      refine dv (gyes_some rfl rfl) (q_remM (a := x.2.2.2.1) (b := 256) rfl rfl (by first | decide | omega)) rfl (by decide) (cok2 trivial (cconst rfl)) ?_
      refine dvb (gyes_some rfl rfl) (q_int rfl rfl rfl) rfl (by decide) (cok2 trivial (cconst rfl)) (fun c10 => ?_) (fun c10 => ?_)
      ·
        replace c10 := bne_iff_ne.1 c10
        refine dv (gyes_none rfl) (q_pt (v := .bool true) rfl rfl) rfl (by decide) (call_ok rfl) ?_
        refine dv (gyes_none rfl) (q_as (v := .bool true) rfl) rfl (by decide) (cok1 trivial) ?_
        refine ⟨_, Wk.refl _ _, ?_⟩
        show awp _ _ _ _ _ _ _
        refine awp_cond_t rfl ?_
        refine awp_seq ?_
        refine awp_regs hF ?_
        refine dv (gyes_none rfl) (q_as (v := .int .i64 13) rfl) rfl (by decide) (cok1 (cconst rfl)) ?_
        refine ⟨_, Wk.refl _ _, ?_⟩
        show awp _ _ _ _ _ _ _
        refine awp_ret_wk ?_
        refine ⟨_, Wk.refl _ _, ?_⟩
        repeat (with_reducible first | refine then_ret ?_ | refine blk_ret ?_ | refine then_exit ?_ | refine blk_exit ?_ | refine blk_exit' (by decide) ?_ | refine blk_normal ?_ | refine then_normal ?_ | refine retq_ret ?_ | refine retq_normal ?_ | refine ng_normal ?_ | refine ng_ret ?_ | refine ng_exit ?_)
        exact ret_none (v := .int .i64 13) rfl s3.kp (.tmp rfl .nil) rfl rfl ⟨by rw [show wrongC s x e = 13 by unfold wrongC; rw [if_pos (by omega)]]; rfl, rfl⟩
      ·
        replace c10 := bne_eq_false_iff_eq.1 c10
        refine dv (gyes_none rfl) (q_pt (v := .bool false) rfl rfl) rfl (by decide) (call_ok rfl) ?_
        refine dv (gyes_none rfl) (q_as (v := .bool false) rfl) rfl (by decide) (cok1 trivial) ?_
        refine ⟨_, Wk.refl _ _, ?_⟩
        show awp _ _ _ _ _ _ _
        refine awp_cond_f rfl ?_
        refine awp_seq ?_
        refine awp_regs hF ?_
        refine dv (gyes_none rfl) (q_mv (v := .bool true) rfl) rfl (by decide) (cok1 trivial) ?_
        refine dv (gyes_none rfl) (q_mv (v := .bool true) rfl) rfl (by decide) (cok1 trivial) ?_
        refine dv (gyes_some rfl rfl) (q_field Try.underlying75 rfl Try.sizeOf25 rfl (s3.rd (j := 0) rfl)) rfl (by decide) (cok1 trivial) ?_
        refine dv (gyes_some rfl rfl) (q_load (v := .int .u64 ((x.2.2.2.2.2 : Nat) : Int)) Try.isAgg25 rfl (s3.rd (j := 0) rfl) rfl) rfl (by decide) (cok1 trivial) ?_
        refine dvb (gyes_some rfl rfl) (q_int rfl rfl rfl) rfl (by decide) (cok2 trivial (cconst rfl)) (fun c11 => ?_) (fun c11 => ?_)
        ·
          replace c11 := eq_of_beq c11
          refine dv (gyes_some rfl rfl) (q_mv (v := .bool true) rfl) rfl (by decide) (cok1 trivial) ?_
          refine dno rfl (.inl rfl) rfl (by decide) ?_
          refine dno rfl (.inl rfl) rfl (by decide) ?_
          refine dno rfl (.inl rfl) rfl (by decide) ?_
          refine dno rfl (.inl rfl) rfl (by decide) ?_
          refine dno rfl (.inl rfl) rfl (by decide) ?_
          refine dv (gyes_some rfl rfl) (q_pt (v := .bool true) rfl rfl) rfl (by decide) (call_ok rfl) ?_
          refine dv (gyes_none rfl) (q_pt (v := .bool true) rfl rfl) rfl (by decide) (call_ok rfl) ?_
          refine dv (gyes_none rfl) (q_as (v := .bool true) rfl) rfl (by decide) (cok1 trivial) ?_
          refine ⟨_, Wk.refl _ _, ?_⟩
          show awp _ _ _ _ _ _ _
          refine awp_cond_t rfl ?_
          refine awp_seq ?_
          refine awp_regs hF ?_
          refine dv (gyes_none rfl) (q_as (v := .int .i64 4) rfl) rfl (by decide) (cok1 (cconst rfl)) ?_
          refine ⟨_, Wk.refl _ _, ?_⟩
          show awp _ _ _ _ _ _ _
          refine awp_ret_wk ?_
          refine ⟨_, Wk.refl _ _, ?_⟩
          repeat (with_reducible first | refine then_ret ?_ | refine blk_ret ?_ | refine then_exit ?_ | refine blk_exit ?_ | refine blk_exit' (by decide) ?_ | refine blk_normal ?_ | refine then_normal ?_ | refine retq_ret ?_ | refine retq_normal ?_ | refine ng_normal ?_ | refine ng_ret ?_ | refine ng_exit ?_)
          exact ret_none (v := .int .i64 4) rfl s3.kp (.tmp rfl .nil) rfl rfl ⟨by rw [show wrongC s x e = 4 by unfold wrongC; rw [if_neg (by omega), if_pos (by omega)]]; rfl, rfl⟩
        ·
          replace c11 := ne_of_beq_false c11
          refine dv (gyes_some rfl rfl) (q_mv (v := .bool false) rfl) rfl (by decide) (cok1 trivial) ?_
          refine dv (gyes_some rfl rfl) (q_field Try.underlying75 rfl Try.sizeOf25 rfl (s3.rd (j := 0) rfl)) rfl (by decide) (cok1 trivial) ?_
          refine dv (gyes_some rfl rfl) (q_load (v := .int .u64 ((x.2.2.2.2.2 : Nat) : Int)) Try.isAgg25 rfl (s3.rd (j := 0) rfl) rfl) rfl (by decide) (cok1 trivial) ?_
          refine dv (gyes_some rfl rfl) (q_field Try.underlying75 rfl Try.sizeOf25 rfl (s3.rd (j := 0) rfl)) rfl (by decide) (cok1 trivial) ?_
          refine dv (gyes_some rfl rfl) (q_load (v := .int .u64 ((x.2.2.2.2.1 : Nat) : Int)) Try.isAgg25 rfl (s3.rd (j := 0) rfl) rfl) rfl (by decide) (cok1 trivial) ?_
          refine dvb (gyes_some rfl rfl) (q_int rfl rfl rfl) rfl (by decide) (cok2 trivial trivial) (fun c12 => ?_) (fun c12 => ?_)
          ·
            replace c12 := of_decide_eq_true c12
            refine dv (gyes_some rfl rfl) (q_pf (v := .bool true) rfl rfl) rfl (by decide) (call_ok rfl) ?_
            refine dv (gyes_none rfl) (q_pt (v := .bool true) rfl rfl) rfl (by decide) (call_ok rfl) ?_
            refine dv (gyes_none rfl) (q_as (v := .bool true) rfl) rfl (by decide) (cok1 trivial) ?_
            refine ⟨_, Wk.refl _ _, ?_⟩
            show awp _ _ _ _ _ _ _
            refine awp_cond_t rfl ?_
            refine awp_seq ?_
            refine awp_regs hF ?_
            refine dv (gyes_none rfl) (q_as (v := .int .i64 4) rfl) rfl (by decide) (cok1 (cconst rfl)) ?_
            refine ⟨_, Wk.refl _ _, ?_⟩
            show awp _ _ _ _ _ _ _
            refine awp_ret_wk ?_
            refine ⟨_, Wk.refl _ _, ?_⟩
            repeat (with_reducible first | refine then_ret ?_ | refine blk_ret ?_ | refine then_exit ?_ | refine blk_exit ?_ | refine blk_exit' (by decide) ?_ | refine blk_normal ?_ | refine then_normal ?_ | refine retq_ret ?_ | refine retq_normal ?_ | refine ng_normal ?_ | refine ng_ret ?_ | refine ng_exit ?_)
            exact ret_none (v := .int .i64 4) rfl s3.kp (.tmp rfl .nil) rfl rfl ⟨by rw [show wrongC s x e = 4 by unfold wrongC; rw [if_neg (by omega), if_pos (by omega)]]; rfl, rfl⟩
          ·
            replace c12 := of_decide_eq_false c12
            refine dv (gyes_some rfl rfl) (q_pf (v := .bool false) rfl rfl) rfl (by decide) (call_ok rfl) ?_
            refine dv (gyes_none rfl) (q_pt (v := .bool false) rfl rfl) rfl (by decide) (call_ok rfl) ?_
            refine dv (gyes_none rfl) (q_as (v := .bool false) rfl) rfl (by decide) (cok1 trivial) ?_
            refine ⟨_, Wk.refl _ _, ?_⟩
            show awp _ _ _ _ _ _ _
            refine awp_cond_f rfl ?_
            refine awp_seq ?_
            refine awp_regs hF ?_
            refine dv (gyes_none rfl) (q_mv (v := .bool true) rfl) rfl (by decide) (cok1 trivial) ?_
            refine dv (gyes_none rfl) (q_mv (v := .bool true) rfl) rfl (by decide) (cok1 trivial) ?_
            refine dv (gyes_some rfl rfl) (q_field Try.underlying75 rfl Try.sizeOf25 rfl (s3.rd (j := 0) rfl)) rfl (by decide) (cok1 trivial) ?_
            refine dv (gyes_some rfl rfl) (q_load (v := .int .u64 ((x.2.2.2.1 : Nat) : Int)) Try.isAgg25 rfl (s3.rd (j := 0) rfl) rfl) rfl (by decide) (cok1 trivial) ?_
            refine dvb (gyes_some rfl rfl) (q_int rfl rfl rfl) rfl (by decide) (cok2 trivial (cconst rfl)) (fun c13 => ?_) (fun c13 => ?_)
            ·
              replace c13 := of_decide_eq_true c13
              refine dv (gyes_some rfl rfl) (q_mv (v := .bool true) rfl) rfl (by decide) (cok1 trivial) ?_
              refine dno rfl (.inl rfl) rfl (by decide) ?_
              refine dno rfl (.inl rfl) rfl (by decide) ?_
              refine dno rfl (.inl rfl) rfl (by decide) ?_
              refine dno rfl (.inl rfl) rfl (by decide) ?_
              refine dno rfl (.inl rfl) rfl (by decide) ?_
              refine dno rfl (.inl rfl) rfl (by decide) ?_
              refine dv (gyes_some rfl rfl) (q_pt (v := .bool true) rfl rfl) rfl (by decide) (call_ok rfl) ?_
              refine dv (gyes_none rfl) (q_pt (v := .bool true) rfl rfl) rfl (by decide) (call_ok rfl) ?_
              refine dv (gyes_none rfl) (q_as (v := .bool true) rfl) rfl (by decide) (cok1 trivial) ?_
              refine ⟨_, Wk.refl _ _, ?_⟩
              show awp _ _ _ _ _ _ _
              refine awp_cond_t rfl ?_
              refine awp_seq ?_
              refine awp_regs hF ?_
              refine dv (gyes_none rfl) (q_as (v := .int .i64 5) rfl) rfl (by decide) (cok1 (cconst rfl)) ?_
              refine ⟨_, Wk.refl _ _, ?_⟩
              show awp _ _ _ _ _ _ _
              refine awp_ret_wk ?_
              refine ⟨_, Wk.refl _ _, ?_⟩
              repeat (with_reducible first | refine then_ret ?_ | refine blk_ret ?_ | refine then_exit ?_ | refine blk_exit ?_ | refine blk_exit' (by decide) ?_ | refine blk_normal ?_ | refine then_normal ?_ | refine retq_ret ?_ | refine retq_normal ?_ | refine ng_normal ?_ | refine ng_ret ?_ | refine ng_exit ?_)
              exact ret_none (v := .int .i64 5) rfl s3.kp (.tmp rfl .nil) rfl rfl ⟨by rw [show wrongC s x e = 5 by unfold wrongC; rw [if_neg (by omega), if_neg (by omega), if_pos (by omega)]]; rfl, rfl⟩
            ·
              replace c13 := of_decide_eq_false c13
              refine dv (gyes_some rfl rfl) (q_mv (v := .bool false) rfl) rfl (by decide) (cok1 trivial) ?_
              refine dv (gyes_some rfl rfl) (q_field Try.underlying75 rfl Try.sizeOf25 rfl (s3.rd (j := 0) rfl)) rfl (by decide) (cok1 trivial) ?_
              refine dv (gyes_some rfl rfl) (q_load (v := .int .u64 ((x.2.2.2.2.2 : Nat) : Int)) Try.isAgg25 rfl (s3.rd (j := 0) rfl) rfl) rfl (by decide) (cok1 trivial) ?_
              refine dv (gyes_some rfl rfl) (q_field Try.underlying75 rfl Try.sizeOf25 rfl (s3.rd (j := 0) rfl)) rfl (by decide) (cok1 trivial) ?_
              refine dv (gyes_some rfl rfl) (q_load (v := .int .u64 ((x.2.2.2.1 : Nat) : Int)) Try.isAgg25 rfl (s3.rd (j := 0) rfl) rfl) rfl (by decide) (cok1 trivial) ?_
              refine dv (gyes_some rfl rfl) (OpQ.cast (v' := .int .u64 ((1073741824 - x.2.2.2.1 : Nat) : Int)) (q_int rfl rfl rfl) (congrArg _ ((u64_in (by omega)).trans (by omega)))) rfl (by decide) (cok2 (cconst rfl) trivial) ?_
              refine dvb (gyes_some rfl rfl) (q_int rfl rfl rfl) rfl (by decide) (cok2 trivial trivial) (fun c14 => ?_) (fun c14 => ?_)
              ·
                replace c14 := of_decide_eq_true c14
                refine dv (gyes_some rfl rfl) (q_pf (v := .bool true) rfl rfl) rfl (by decide) (call_ok rfl) ?_
                refine dv (gyes_none rfl) (q_pt (v := .bool true) rfl rfl) rfl (by decide) (call_ok rfl) ?_
                refine dv (gyes_none rfl) (q_as (v := .bool true) rfl) rfl (by decide) (cok1 trivial) ?_
                refine ⟨_, Wk.refl _ _, ?_⟩
                show awp _ _ _ _ _ _ _
                refine awp_cond_t rfl ?_
                refine awp_seq ?_
                refine awp_regs hF ?_
                refine dv (gyes_none rfl) (q_as (v := .int .i64 5) rfl) rfl (by decide) (cok1 (cconst rfl)) ?_
                refine ⟨_, Wk.refl _ _, ?_⟩
                show awp _ _ _ _ _ _ _
                refine awp_ret_wk ?_
                refine ⟨_, Wk.refl _ _, ?_⟩
                repeat (with_reducible first | refine then_ret ?_ | refine blk_ret ?_ | refine then_exit ?_ | refine blk_exit ?_ | refine blk_exit' (by decide) ?_ | refine blk_normal ?_ | refine then_normal ?_ | refine retq_ret ?_ | refine retq_normal ?_ | refine ng_normal ?_ | refine ng_ret ?_ | refine ng_exit ?_)
                exact ret_none (v := .int .i64 5) rfl s3.kp (.tmp rfl .nil) rfl rfl ⟨by rw [show wrongC s x e = 5 by unfold wrongC; rw [if_neg (by omega), if_neg (by omega), if_pos (by omega)]]; rfl, rfl⟩
              ·
                replace c14 := of_decide_eq_false c14
                refine dv (gyes_some rfl rfl) (q_pf (v := .bool false) rfl rfl) rfl (by decide) (call_ok rfl) ?_
                refine dv (gyes_none rfl) (q_pt (v := .bool false) rfl rfl) rfl (by decide) (call_ok rfl) ?_
                refine dv (gyes_none rfl) (q_as (v := .bool false) rfl) rfl (by decide) (cok1 trivial) ?_
                refine ⟨_, Wk.refl _ _, ?_⟩
                show awp _ _ _ _ _ _ _
                refine awp_cond_f rfl ?_
                refine awp_seq ?_
                refine awp_regs hF ?_
                refine dv (gyes_none rfl) (q_mv (v := .bool false) rfl) rfl (by decide) (cok1 trivial) ?_
                refine dv (gyes_none rfl) (q_not (b := false) rfl) rfl (by decide) (cok1 trivial) ?_
                refine dv (gyes_none rfl) (q_as (v := .bool true) rfl) rfl (by decide) (cok1 trivial) ?_
                refine ⟨_, Wk.refl _ _, ?_⟩
                show awp _ _ _ _ _ _ _
                refine awp_cond_t rfl ?_
                refine awp_seq ?_
                refine awp_regs hF ?_
                refine dv (gyes_none rfl) (q_as (v := .int .i64 2) rfl) rfl (by decide) (cok1 (cconst rfl)) ?_
                refine ⟨_, Wk.refl _ _, ?_⟩
                show awp _ _ _ _ _ _ _
                refine awp_ret_wk ?_
                refine ⟨_, Wk.refl _ _, ?_⟩
                repeat (with_reducible first | refine then_ret ?_ | refine blk_ret ?_ | refine then_exit ?_ | refine blk_exit ?_ | refine blk_exit' (by decide) ?_ | refine blk_normal ?_ | refine then_normal ?_ | refine retq_ret ?_ | refine retq_normal ?_ | refine ng_normal ?_ | refine ng_ret ?_ | refine ng_exit ?_)
                exact ret_none (v := .int .i64 2) rfl s3.kp (.tmp rfl .nil) rfl rfl ⟨by rw [show wrongC s x e = 2 by unfold wrongC; rw [if_neg (by omega), if_neg (by omega), if_neg (by omega), if_pos (by omega)]]; rfl, rfl⟩
    ·
      replace c9 := ne_of_beq_false c9
      refine dv (gyes_none rfl) (q_as (v := .bool false) rfl) rfl (by decide) (cok1 trivial) ?_
      refine ⟨_, Wk.refl _ _, ?_⟩
      show awp _ _ _ _ _ _ _
      refine awp_seq ?_
      refine awp_block ?_
      refine awp_seq ?_
      refine awp_regs hF ?_
      refine dv (gyes_none rfl) (q_mv (v := .bool false) rfl) rfl (by decide) (cok1 trivial) ?_
      refine dv (gyes_none rfl) (q_mv (v := .bool false) rfl) rfl (by decide) (cok1 trivial) ?_
      refine dno rfl (.inl rfl) rfl (by decide) ?_
      refine dno rfl (.inl rfl) rfl (by decide) ?_
      refine dno rfl (.inl rfl) rfl (by decide) ?_
      refine dno rfl (.inl rfl) rfl (by decide) ?_
      refine dv (gyes_none rfl) (q_pf (v := .bool false) rfl rfl) rfl (by decide) (call_ok rfl) ?_
      refine dv (gyes_none rfl) (q_as (v := .bool false) rfl) rfl (by decide) (cok1 trivial) ?_
      refine ⟨_, Wk.refl _ _, ?_⟩
      show awp _ _ _ _ _ _ _
      refine awp_cond_f rfl ?_
      refine awp_seq ?_
      refine awp_regs hF ?_
      refine dv (gyes_none rfl) (q_mv (v := .bool false) rfl) rfl (by decide) (cok1 trivial) ?_
      refine dv (gyes_none rfl) (q_mv (v := .bool false) rfl) rfl (by decide) (cok1 trivial) ?_
      refine dno rfl (.inl rfl) rfl (by decide) ?_
      refine dno rfl (.inl rfl) rfl (by decide) ?_
      refine dno rfl (.inl rfl) rfl (by decide) ?_
      refine dno rfl (.inl rfl) rfl (by decide) ?_
      refine dno rfl (.inr rfl) rfl (by decide) ?_
      refine dno rfl (.inr rfl) rfl (by decide) ?_
      refine dno rfl (.inr rfl) rfl (by decide) ?_
      refine dno rfl (.inr rfl) rfl (by decide) ?_
      refine dno rfl (.inr rfl) rfl (by decide) ?_
      refine dno rfl (.inl rfl) rfl (by decide) ?_
      refine dv (gyes_none rfl) (q_pf (v := .bool false) rfl rfl) rfl (by decide) (call_ok rfl) ?_
      refine dv (gyes_none rfl) (q_as (v := .bool false) rfl) rfl (by decide) (cok1 trivial) ?_
      refine ⟨_, Wk.refl _ _, ?_⟩
      show awp _ _ _ _ _ _ _
      refine awp_cond_f rfl ?_
      refine awp_seq ?_
      refine awp_regs hF ?_
      refine dv (gyes_none rfl) (q_mv (v := .bool false) rfl) rfl (by decide) (cok1 trivial) ?_
      refine dv (gyes_none rfl) (q_mv (v := .bool false) rfl) rfl (by decide) (cok1 trivial) ?_
      refine dno rfl (.inl rfl) rfl (by decide) ?_
      refine dno rfl (.inl rfl) rfl (by decide) ?_
      refine dno rfl (.inl rfl) rfl (by decide) ?_
      refine dno rfl (.inl rfl) rfl (by decide) ?_
      refine dno rfl (.inr rfl) rfl (by decide) ?_
      refine dno rfl (.inr rfl) rfl (by decide) ?_
      refine dno rfl (.inr rfl) rfl (by decide) ?_
      refine dno rfl (.inr rfl) rfl (by decide) ?_
      refine dno rfl (.inr rfl) rfl (by decide) ?_
      refine dno rfl (.inr rfl) rfl (by decide) ?_
      refine dno rfl (.inl rfl) rfl (by decide) ?_
      refine dv (gyes_none rfl) (q_pf (v := .bool false) rfl rfl) rfl (by decide) (call_ok rfl) ?_
      refine dv (gyes_none rfl) (q_as (v := .bool false) rfl) rfl (by decide) (cok1 trivial) ?_
      refine ⟨_, Wk.refl _ _, ?_⟩
      show awp _ _ _ _ _ _ _
      refine awp_cond_f rfl ?_
      refine awp_seq ?_
      refine awp_regs hF ?_
      refine dv (gyes_none rfl) (q_mv (v := .bool false) rfl) rfl (by decide) (cok1 trivial) ?_
      refine dv (gyes_none rfl) (q_not (b := false) rfl) rfl (by decide) (cok1 trivial) ?_
      refine dv (gyes_none rfl) (q_as (v := .bool true) rfl) rfl (by decide) (cok1 trivial) ?_
      refine ⟨_, Wk.refl _ _, ?_⟩
      show awp _ _ _ _ _ _ _
      refine awp_cond_t rfl ?_
      refine awp_seq ?_
      refine awp_regs hF ?_
      refine dv (gyes_none rfl) (q_as (v := .int .i64 2) rfl) rfl (by decide) (cok1 (cconst rfl)) ?_
      refine ⟨_, Wk.refl _ _, ?_⟩
      show awp _ _ _ _ _ _ _
      refine awp_ret_wk ?_
      refine ⟨_, Wk.refl _ _, ?_⟩
      repeat (with_reducible first | refine then_ret ?_ | refine blk_ret ?_ | refine then_exit ?_ | refine blk_exit ?_ | refine blk_exit' (by decide) ?_ | refine blk_normal ?_ | refine then_normal ?_ | refine retq_ret ?_ | refine retq_normal ?_ | refine ng_normal ?_ | refine ng_ret ?_ | refine ng_exit ?_)
      exact ret_none (v := .int .i64 2) rfl s3.kp (.tmp rfl .nil) rfl rfl ⟨by rw [show wrongC s x e = 2 by unfold wrongC; rw [if_neg (by omega), if_neg (by omega), if_neg (by omega), if_pos (by omega)]]; rfl, rfl⟩

end Go.Proofs.YthfndghgfabbjaaA


/-
  Walks of functions of the given program, and what they compute.
-/
namespace Go.Proofs.YthfndghgfabbjaaA
set_option linter.unusedVariables false
open Go Go.RowKit Go.Shelf Go.Proofs
theorem ACalls.castV {P : Program} {f : FuncId} {a : List Value} {H : AHeap} {H' : AHeap} {v v' : Value} (h : ACalls P f a H (Rets v H')) (e : v = v') : ACalls P f a H (Rets v' H') := e ▸ h
theorem freshS_of {α : Type} {f : α → List Value} {m : Nat} {l l' : List α} {H0 : AHeap} {Z : Rs} {H : AHeap} {F : List (Nat × AObj)} (h : St H0 none0 Z H F) {j b n : Nat} (hj : F[j]? = some (b, .cells true (fl f l) m)) (hn : l.length = n) (e : l' = l) : FreshS f m l' H0 (.slice (some ⟨b, 0, none⟩) n n) H := by
  subst hn e
  exact ⟨h.kp, b, rfl, h.out hj, h.getj hj⟩
def sgK (s : ByteArray) (k : Nat) : Sg := segAt s (atV s 32 8 + k * 56)
def endK (s : ByteArray) : Nat → Nat
  | 0 => 0
  | k + 1 => if (sgK s k).1 = 1 then ((sgK s k).2.2.2.1 + (sgK s k).2.2.2.2.2 + 255) / 256 * 256 else endK s k
def ldK (s : ByteArray) : Nat → Nat
  | 0 => 0
  | k + 1 => if (sgK s k).1 = 1 then ldK s k + 1 else ldK s k
def badK (s : ByteArray) (k : Nat) : Bool := wrongC s (sgK s k) (endK s k) != 0
def lsK (s : ByteArray) (k : Nat) : List Sg := (List.range k).map (sgK s)
def firstK (p : Nat → Bool) (n : Nat) : Nat := ((List.range n).find? p).getD n
theorem firstK_yes {p : Nat → Bool} {n i : Nat} (hi : i < n) (h : p i = true) (hn : ∀ j, j < i → p j = false) : firstK p n = i := by
  have : (List.range n).find? p = some i := by
    rw [List.find?_range_eq_some]
    exact ⟨h, List.mem_range.2 hi, fun j hj => by rw [hn j hj]; rfl⟩
  unfold firstK; rw [this]; rfl
theorem firstK_no {p : Nat → Bool} {n : Nat} (hn : ∀ j, j < n → p j = false) : firstK p n = n := by
  have : (List.range n).find? p = none := by
    rw [List.find?_eq_none]
    exact fun x hx => by rw [hn x (List.mem_range.1 hx)]; exact fun h => nomatch h
  unfold firstK; rw [this]; rfl
def hrX (s : ByteArray) : Nat := firstK (badK s) (hdN s)
def hrC (s : ByteArray) : Nat := if hdE s ≠ 0 then hdE s else if hrX s < hdN s then wrongC s (sgK s (hrX s)) (endK s (hrX s)) else if ldK s (hdN s) = 0 then 18 else 0
def hrA (s : ByteArray) : Nat := if hdE s ≠ 0 then 0 else if hrX s < hdN s then atV s 32 8 + hrX s * 56 else 0
def hrL (s : ByteArray) : List Sg := if hrC s = 0 then lsK s (hdN s) else []
def hrE (s : ByteArray) : Nat := if hrC s = 0 then atV s 24 8 else 0
def hrB (s : ByteArray) : ByteArray := if hrC s = 0 then s else ⟨#[]⟩
section
variable {s : ByteArray}
theorem hr_zero (h : hrC s ≠ 0) : hrE s = 0 ∧ hrB s = ⟨#[]⟩ ∧ hrL s = [] := ⟨if_neg h, if_neg h, if_neg h⟩
theorem hr_hd (h : hdE s ≠ 0) : hrC s = hdE s ∧ hrA s = 0 ∧ hrE s = 0 ∧ hrB s = ⟨#[]⟩ ∧ hrL s = [] := by
  have e : hrC s = hdE s := if_pos h
  exact ⟨e, if_pos h, hr_zero (by rw [e]; exact h)⟩
theorem hr_bad (h0 : hdE s = 0) {k : Nat} (hk : k < hdN s) (hb : wrongC s (sgK s k) (endK s k) ≠ 0) (hi : ∀ j, j < k → badK s j = false) : hrC s = wrongC s (sgK s k) (endK s k) ∧ hrA s = atV s 32 8 + k * 56 ∧ hrE s = 0 ∧ hrB s = ⟨#[]⟩ ∧ hrL s = [] := by
  have hx : hrX s = k := firstK_yes hk (bne_iff_ne.2 hb) hi
  have e : hrC s = wrongC s (sgK s k) (endK s k) := by unfold hrC; rw [if_neg (fun h => h h0), hx, if_pos hk]
  exact ⟨e, by unfold hrA; rw [if_neg (fun h => h h0), hx, if_pos hk], hr_zero (by rw [e]; exact hb)⟩
theorem hr_none (h0 : hdE s = 0) (hi : ∀ j, j < hdN s → badK s j = false) (hl : ldK s (hdN s) = 0) : hrC s = 18 ∧ hrA s = 0 ∧ hrE s = 0 ∧ hrB s = ⟨#[]⟩ ∧ hrL s = [] := by
  have hx : ¬ hrX s < hdN s := by rw [show hrX s = hdN s from firstK_no hi]; omega
  have e : hrC s = 18 := by unfold hrC; rw [if_neg (fun h => h h0), if_neg hx, if_pos hl]
  exact ⟨e, by unfold hrA; rw [if_neg (fun h => h h0), if_neg hx], hr_zero (by rw [e]; decide)⟩
theorem hr_ok (h0 : hdE s = 0) (hi : ∀ j, j < hdN s → badK s j = false) (hl : ldK s (hdN s) ≠ 0) : hrC s = 0 ∧ hrA s = 0 ∧ hrE s = atV s 24 8 ∧ hrB s = s ∧ hrL s = lsK s (hdN s) := by
  have hx : ¬ hrX s < hdN s := by rw [show hrX s = hdN s from firstK_no hi]; omega
  have e : hrC s = 0 := by unfold hrC; rw [if_neg (fun h => h h0), if_neg hx, if_neg hl]
  exact ⟨e, by unfold hrA; rw [if_neg (fun h => h h0), if_neg hx], if_pos e, if_pos e, if_pos e⟩
theorem lsK_len (k : Nat) : (lsK s k).length = k := by simp [lsK]
theorem lsK_succ (k : Nat) : lsK s k ++ [sgK s k] = lsK s (k + 1) := by simp [lsK, List.range_succ]
theorem sgK_b (k : Nat) : SgB (sgK s k) := segAt_b s _
theorem badK_no {k e : Nat} (he : e = endK s k) (h : wrongC s (sgK s k) e = 0) : badK s k = false := by subst he; unfold badK; rw [h]; rfl
theorem wrong_ld {x : Sg} {e : Nat} (h : wrongC s x e = 0) (h1 : x.1 = 1) : x.2.2.2.1 % 256 = 0 ∧ 0 < x.2.2.2.2.2 ∧ x.2.2.2.2.1 ≤ x.2.2.2.2.2 ∧ x.2.2.2.1 + x.2.2.2.2.2 ≤ 1073741824 ∧ e ≤ x.2.2.2.1 := by
  unfold wrongC at h
  split at h; · cases h
  split at h; · cases h
  split at h; · cases h
  split at h; · cases h
  split at h; · cases h
  omega
theorem wrong_in {x : Sg} {e : Nat} (h : wrongC s x e = 0) : x.2.2.1 + x.2.2.2.2.1 ≤ s.size := by
  unfold wrongC at h
  split at h; · cases h
  split at h; · cases h
  split at h; · cases h
  split at h; · cases h
  omega
theorem hdN_yes (h : hdE s = 0) : s.size ≤ 65536 ∧ 64 ≤ s.size ∧ hdN s ≤ 16 ∧ atV s 32 8 + hdN s * 56 ≤ s.size := by
  unfold hdN; rw [if_pos h]; exact hd_yes h
theorem endK_y {k e : Nat} (h : (sgK s k).1 = 1) : endK s (k + 1) = ((sgK s k).2.2.2.1 + (sgK s k).2.2.2.2.2 + 255) / 256 * 256 := if_pos h
theorem endK_n {k : Nat} (h : (sgK s k).1 ≠ 1) : endK s (k + 1) = endK s k := if_neg h
theorem ldK_y {k : Nat} (h : (sgK s k).1 = 1) : ldK s (k + 1) = ldK s k + 1 := if_pos h
theorem ldK_n {k : Nat} (h : (sgK s k).1 ≠ 1) : ldK s (k + 1) = ldK s k := if_neg h
end
set_option maxRecDepth 100000 in
set_option maxHeartbeats 4000000 in
theorem read_ok {H0 : AHeap} (s : ByteArray) (hs : s.size ≤ 140737488355328) : ACalls Try.prog 10 [.string s] H0 (fun v H' => ∃ vL, v = .tuple #[.agg #[.string (hrB s), .int .u64 ((hrE s : Nat) : Int), vL], .agg #[.int .i64 ((hrC s : Nat) : Int), .int .u64 ((hrA s : Nat) : Int), .string ⟨#[]⟩]] ∧ FreshS segc 6 (hrL s) H0 vL H') := by
  have hF : Wd Fence.wide := .inl rfl
  have hM : Try.prog.follows .mixedOrders = true := by kernel_rfl
  have s0 := St.begin H0
  refine acalls_st Try.func10 rfl Try.ntmps10 rfl ?_
  refine awp_seq ?_
  refine awp_regs hF ?_
  refine x_new (fun b => .pointer (some ⟨b, 0, none⟩)) s0 (gyes_none rfl) (q_alloc (vs := [.string ⟨#[]⟩, .int .u64 0, .slice none 0 0]) 3 Try.zeroValue33 (by first | exact flat_scalar rfl | exact flat_agg rfl) rfl) rfl (by decide) (by simp [Op.operands, Call.operands]) (fun b1 H2 hb4 s3 => ?_)
  refine x_new (fun b => .pointer (some ⟨b, 0, none⟩)) s3 (gyes_none rfl) (q_alloc (vs := [.int .i64 0, .int .u64 0, .string ⟨#[]⟩]) 3 Try.zeroValue36 (by first | exact flat_scalar rfl | exact flat_agg rfl) rfl) rfl (by decide) (by simp [Op.operands, Call.operands]) (fun b5 H6 hb8 s7 => ?_)
  refine ⟨_, Wk.refl _ _, ?_⟩
  show awp _ _ _ _ _ _ _
  refine awp_seq ?_
  refine awp_regs hF ?_
  refine dv (gyes_none rfl) (q_mv (v := .string s) rfl) rfl (by decide) (cok1 trivial) ?_
  refine dv (gyes_none rfl) (q_call0 Try.call26 rfl (header_ok s hs)) rfl (by decide) (cok2 trivial trivial) ?_
  refine dv (gyes_none rfl) (q_mv (v := .tuple #[.int .i64 ((hdN s : Nat) : Int), .agg #[.int .i64 ((hdE s : Nat) : Int), .int .u64 0, .string (⟨#[]⟩ : ByteArray)]]) rfl) rfl (by decide) (cok1 trivial) ?_
  refine dv (gyes_none rfl) (q_extract (v := .int .i64 ((hdN s : Nat) : Int)) rfl rfl) rfl (by decide) (cok1 trivial) ?_
  refine dv (gyes_none rfl) (q_extract (v := .agg #[.int .i64 ((hdE s : Nat) : Int), .int .u64 0, .string (⟨#[]⟩ : ByteArray)]) rfl rfl) rfl (by decide) (cok1 trivial) ?_
  refine x_new (fun b => .pointer (some ⟨b, 0, none⟩)) s7 (gyes_none rfl) (q_alloc (vs := [.int .i64 0, .int .u64 0, .string ⟨#[]⟩]) 3 Try.zeroValue36 (by first | exact flat_scalar rfl | exact flat_agg rfl) rfl) rfl (by decide) (by simp [Op.operands, Call.operands]) (fun b9 H10 hb12 s11 => ?_)
  refine dv (gyes_none rfl) (q_as (v := .int .i64 ((hdN s : Nat) : Int)) rfl) rfl (by decide) (cok1 trivial) ?_
  refine x_store [] hF s11 (by kernel_rfl) (gyes_none rfl) (j := 0) (v := .agg #[.int .i64 ((hdE s : Nat) : Int), .int .u64 0, .string (⟨#[]⟩ : ByteArray)]) rfl Try.sizeOf36 rfl rfl rfl rfl rfl trivial (lcsA ⟨(lc_scalar rfl), (lc_scalar rfl), (lc_scalar rfl), trivial⟩) (Nat.le_of_ble_eq_true rfl) trivial trivial rfl rfl (F' := [(b9, .cells true [.int .i64 ((hdE s : Nat) : Int), .int .u64 0, .string (⟨#[]⟩ : ByteArray)] 3), (b5, .cells true [.int .i64 0, .int .u64 0, .string ⟨#[]⟩] 3), (b1, .cells true [.string ⟨#[]⟩, .int .u64 0, .slice none 0 0] 3)]) rfl (fun H13 s14 => ⟨?_, ?_⟩)
  · exact trivial
  refine ⟨_, Wk.refl _ _, ?_⟩
  show awp _ _ _ _ _ _ _
  refine awp_seq ?_
  refine awp_seq ?_
  refine awp_regs hF ?_
  refine dv (gyes_none rfl) (q_loadAgg Try.isAgg36 Try.sizeOf36 rfl (s14.rd (j := 0) rfl) (Nat.le_of_ble_eq_true rfl) rfl) rfl (by decide) (cok1 trivial) ?_
  refine dvb (gyes_none rfl) (q_call0 Try.call16 rfl (faultOK_ok ((hdE s : Nat) : Int) 0 (⟨#[]⟩ : ByteArray))) rfl (by decide) (cok2 trivial trivial) (fun c1 => ?_) (fun c1 => ?_)
  ·
    replace c1 := eq_of_beq c1
    have hd0 : hdE s = 0 := by omega
    obtain ⟨hy1, hy2, hy3, hy4⟩ := hdN_yes hd0
    have h28 := lt8 s 32
    refine dv (gyes_none rfl) (q_not (b := true) rfl) rfl (by decide) (cok1 trivial) ?_
    refine ⟨_, Wk.refl _ _, ?_⟩
    show awp _ _ _ _ _ _ _
    refine awp_cond_f rfl ?_
    refine awp_skip_wk ?_
    refine ⟨_, Wk.refl _ _, ?_⟩
    show awp _ _ _ _ _ _ _
    refine awp_seq ?_
    refine awp_regs hF ?_
    refine dv (gyes_none rfl) (q_mv (v := .string s) rfl) rfl (by decide) (cok1 trivial) ?_
    refine dv (gyes_none rfl) (q_mv (v := .string s) rfl) rfl (by decide) (cok1 trivial) ?_
    refine dv (gyes_none rfl) (q_call0 Try.call27 rfl (number_ok s 24 8 (by first | assumption | omega) (by omega) (by omega) (by omega))) rfl (by decide) (call_ok rfl) ?_
    refine dv (gyes_none rfl) (q_buildL (ds := [.string s, .int .u64 ((atV s 24 8 : Nat) : Int), .slice none 0 0]) [(0, 1), (1, 1), (2, 1)] [.string s, .int .u64 ((atV s 24 8 : Nat) : Int)] Try.underlying33 Try.zeroValue33 (by first | exact flat_agg rfl | exact flat_scalar rfl) (by kernel_rfl) ⟨rfl, rfl, trivial⟩ (lvsC (by exact trivial) (lvsC (by exact trivial) lvs0)) rfl) rfl (by decide) (cok2 trivial trivial) ?_
    refine x_new (fun b => .pointer (some ⟨b, 0, none⟩)) s14 (gyes_none rfl) (q_alloc (vs := [.string ⟨#[]⟩, .int .u64 0, .slice none 0 0]) 3 Try.zeroValue33 (by first | exact flat_scalar rfl | exact flat_agg rfl) rfl) rfl (by decide) (by simp [Op.operands, Call.operands]) (fun b15 H16 hb18 s17 => ?_)
    refine x_store [] hF s17 (by kernel_rfl) (gyes_none rfl) (j := 0) (v := .agg #[.string s, .int .u64 ((atV s 24 8 : Nat) : Int), .slice none 0 0]) rfl Try.sizeOf33 rfl rfl rfl rfl rfl trivial (lcsA ⟨(lc_scalar rfl), (lc_scalar rfl), (lc_scalar rfl), trivial⟩) (Nat.le_of_ble_eq_true rfl) trivial trivial rfl rfl (F' := [(b15, .cells true [.string s, .int .u64 ((atV s 24 8 : Nat) : Int), .slice none 0 0] 3), (b9, .cells true [.int .i64 ((hdE s : Nat) : Int), .int .u64 0, .string (⟨#[]⟩ : ByteArray)] 3), (b5, .cells true [.int .i64 0, .int .u64 0, .string ⟨#[]⟩] 3), (b1, .cells true [.string ⟨#[]⟩, .int .u64 0, .slice none 0 0] 3)]) rfl (fun H19 s20 => ⟨?_, ?_⟩)
    · exact trivial
    refine ⟨_, Wk.refl _ _, ?_⟩
    show awp _ _ _ _ _ _ _
    refine awp_seq ?_
    refine awp_regs hF ?_
    refine dv (gyes_none rfl) (q_as (v := .int .u64 0) rfl) rfl (by decide) (cok1 (cconst rfl)) ?_
    refine dv (gyes_none rfl) (q_as (v := .int .i64 0) rfl) rfl (by decide) (cok1 (cconst rfl)) ?_
    refine ⟨_, Wk.refl _ _, ?_⟩
    show awp _ _ _ _ _ _ _
    refine awp_seq ?_
    refine awp_seq ?_
    refine awp_nilc s20 (j := 0) (o := 2) (sz' := 6) rfl rfl (fun b21 H22 hb24 s23 => ?_)
    refine awp_regs hF ?_
    refine dv (gyes_none rfl) (q_mv (v := .int .i64 ((hdN s : Nat) : Int)) rfl) rfl (by decide) (cok1 trivial) ?_
    refine dv (gyes_none rfl) (q_convin (a := ((hdN s : Nat) : Int)) Try.underlying3 Try.underlying25 rfl (u64_in (by omega))) rfl (by decide) (cok1 trivial) ?_
    refine dv (gyes_none rfl) (q_mv (v := .int .u64 0) rfl) rfl (by decide) (cok1 (cconst rfl)) ?_
    refine ⟨_, Wk.refl _ _, ?_⟩
    show awp _ _ _ _ _ _ _
    refine awp_block ?_
    refine awp_wk (Wk.U [(0, .string s), (2, .pointer (some ⟨b1, 0, none⟩)), (3, .pointer (some ⟨b5, 0, none⟩)), (6, .pointer (some ⟨b15, 0, none⟩)), (7, .int .u64 0), (8, .int .i64 0), (28, .int .u64 ((hdN s : Nat) : Int)), (29, .int .u64 0)] ⟨rfl, rfl, rfl, rfl, rfl, rfl, rfl, rfl, trivial⟩) ?_
    refine awp_loop (fun ((k, e, ld) : Nat × Nat × Nat) st => ∃ (H25 : AHeap) (bl : Nat), st = ⟨74, U [(0, .string s), (2, .pointer (some ⟨b1, 0, none⟩)), (3, .pointer (some ⟨b5, 0, none⟩)), (6, .pointer (some ⟨b15, 0, none⟩)), (7, .int .u64 ((e : Nat) : Int)), (8, .int .i64 ((ld : Nat) : Int)), (28, .int .u64 ((hdN s : Nat) : Int)), (29, .int .u64 ((k : Nat) : Int))], [], H25⟩ ∧ St H0 (none0) (Rd H0) H25 [(bl, .cells true (fl segc (lsK s k)) 6), (b15, .cells true [.string s, .int .u64 ((atV s 24 8 : Nat) : Int), .slice (some ⟨bl, 0, none⟩) k k] 3), (b9, .cells true [.int .i64 ((hdE s : Nat) : Int), .int .u64 0, .string (⟨#[]⟩ : ByteArray)] 3), (b5, .cells true [.int .i64 0, .int .u64 0, .string ⟨#[]⟩] 3), (b1, .cells true [.string ⟨#[]⟩, .int .u64 0, .slice none 0 0] 3)] ∧ (∀ j, j < k → badK s j = false) ∧ (k ≤ hdN s) ∧ (e = endK s k) ∧ (ld = ldK s k ∧ ld ≤ k)) (fun ((k, e, ld) : Nat × Nat × Nat) => hdN s - k) (x0 := (0, 0, 0)) ?h0 ?round
    case h0 =>
      exact ⟨_, _, rfl, s23, fun j h => absurd h (Nat.not_lt_zero _), Nat.zero_le _, rfl, ⟨rfl, Nat.le_refl _⟩⟩
    case round =>
      rintro ⟨k, e, ld⟩ _ ⟨H25, bl, rfl, s26, hi, hkn, he, hld⟩
      dsimp only at *
      refine awp_seq ?_
      refine awp_regs hF ?_
      refine dvb (gyes_none rfl) (q_int rfl rfl rfl) rfl (by decide) (cok2 trivial trivial) (fun c2 => ?_) (fun c2 => ?_)
      ·
        replace c2 := of_decide_eq_true c2
        refine ⟨_, Wk.refl _ _, ?_⟩
        show awp _ _ _ _ _ _ _
        refine awp_seq ?_
        refine awp_cond_t rfl ?_
        refine awp_skip_wk ?_
        refine ⟨_, Wk.refl _ _, ?_⟩
        show awp _ _ _ _ _ _ _
        refine awp_seq ?_
        refine awp_block ?_
        refine awp_seq ?_
        refine awp_regs hF ?_
        refine dv (gyes_none rfl) (q_mv (v := .int .u64 ((k : Nat) : Int)) rfl) rfl (by decide) (cok1 trivial) ?_
        refine dv (gyes_none rfl) (q_as (v := .int .u64 ((k : Nat) : Int)) rfl) rfl (by decide) (cok1 trivial) ?_
        refine ⟨_, Wk.refl _ _, ?_⟩
        show awp _ _ _ _ _ _ _
        refine awp_seq ?_
        refine awp_regs hF ?_
        refine dv (gyes_none rfl) (q_mv (v := .string s) rfl) rfl (by decide) (cok1 trivial) ?_
        refine dv (gyes_none rfl) (q_call0 Try.call27 rfl (number_ok s 32 8 (by first | assumption | omega) (by omega) (by omega) (by omega))) rfl (by decide) (call_ok rfl) ?_
        refine dv (gyes_none rfl) (q_mv (v := .int .u64 ((k : Nat) : Int)) rfl) rfl (by decide) (cok1 trivial) ?_
        refine dv (gyes_none rfl) (OpQ.cast (v' := .int .u64 ((k * 56 : Nat) : Int)) (q_int rfl rfl rfl) (congrArg _ ((u64_in (by omega)).trans (by first | rfl | omega | (push_cast; rfl))))) rfl (by decide) (cok2 trivial (cconst rfl)) ?_
        refine dv (gyes_none rfl) (OpQ.cast (v' := .int .u64 ((atV s 32 8 + (k * 56) : Nat) : Int)) (q_int rfl rfl rfl) (congrArg _ ((u64_in (by omega)).trans (by first | rfl | omega | (push_cast; rfl))))) rfl (by decide) (cok2 trivial trivial) ?_
        refine dv (gyes_none rfl) (q_as (v := .int .u64 ((atV s 32 8 + (k * 56) : Nat) : Int)) rfl) rfl (by decide) (cok1 trivial) ?_
        refine ⟨_, Wk.refl _ _, ?_⟩
        show awp _ _ _ _ _ _ _
        refine awp_seq ?_
        refine awp_regs hF ?_
        refine dv (gyes_none rfl) (q_mv (v := .string s) rfl) rfl (by decide) (cok1 trivial) ?_
        refine dv (gyes_none rfl) (q_mv (v := .int .u64 ((atV s 32 8 + (k * 56) : Nat) : Int)) rfl) rfl (by decide) (cok1 trivial) ?_
        refine dv (gyes_none rfl) (q_call0 Try.call28 rfl (segment_ok s (atV s 32 8 + k * 56) hs (by omega))) rfl (by decide) (call_ok rfl) ?_
        refine x_new (fun b => .pointer (some ⟨b, 0, none⟩)) s26 (gyes_none rfl) (q_alloc (vs := [.int .u32 0, .int .i64 0, .int .u64 0, .int .u64 0, .int .u64 0, .int .u64 0]) 6 Try.zeroValue75 (by first | exact flat_scalar rfl | exact flat_agg rfl) rfl) rfl (by decide) (by simp [Op.operands, Call.operands]) (fun b27 H28 hb30 s29 => ?_)
        refine x_store [] hF s29 (by kernel_rfl) (gyes_none rfl) (j := 0) (v := .agg #[.int .u32 (((sgK s k).1 : Nat) : Int), .int .i64 (((sgK s k).2.1 : Nat) : Int), .int .u64 (((sgK s k).2.2.1 : Nat) : Int), .int .u64 (((sgK s k).2.2.2.1 : Nat) : Int), .int .u64 (((sgK s k).2.2.2.2.1 : Nat) : Int), .int .u64 (((sgK s k).2.2.2.2.2 : Nat) : Int)]) rfl Try.sizeOf75 rfl rfl rfl rfl rfl trivial (lcsA ⟨(lc_scalar rfl), (lc_scalar rfl), (lc_scalar rfl), (lc_scalar rfl), (lc_scalar rfl), (lc_scalar rfl), trivial⟩) (Nat.le_of_ble_eq_true rfl) trivial trivial rfl rfl (F' := [(b27, .cells true [.int .u32 (((sgK s k).1 : Nat) : Int), .int .i64 (((sgK s k).2.1 : Nat) : Int), .int .u64 (((sgK s k).2.2.1 : Nat) : Int), .int .u64 (((sgK s k).2.2.2.1 : Nat) : Int), .int .u64 (((sgK s k).2.2.2.2.1 : Nat) : Int), .int .u64 (((sgK s k).2.2.2.2.2 : Nat) : Int)] 6), (bl, .cells true (fl segc (lsK s k)) 6), (b15, .cells true [.string s, .int .u64 ((atV s 24 8 : Nat) : Int), .slice (some ⟨bl, 0, none⟩) k k] 3), (b9, .cells true [.int .i64 ((hdE s : Nat) : Int), .int .u64 0, .string (⟨#[]⟩ : ByteArray)] 3), (b5, .cells true [.int .i64 0, .int .u64 0, .string ⟨#[]⟩] 3), (b1, .cells true [.string ⟨#[]⟩, .int .u64 0, .slice none 0 0] 3)]) rfl (fun H31 s32 => ⟨?_, ?_⟩)
        · exact trivial
        refine ⟨_, Wk.refl _ _, ?_⟩
        show awp _ _ _ _ _ _ _
        refine awp_seq ?_
        refine awp_seq ?_
        refine awp_regs hF ?_
        refine dv (gyes_none rfl) (q_mv (v := .string s) rfl) rfl (by decide) (cok1 trivial) ?_
        refine dv (gyes_none rfl) (q_loadAgg Try.isAgg75 Try.sizeOf75 rfl (s32.rd (j := 0) rfl) (Nat.le_of_ble_eq_true rfl) rfl) rfl (by decide) (cok1 trivial) ?_
        refine dv (gyes_none rfl) (q_mv (v := .int .u64 ((e : Nat) : Int)) rfl) rfl (by decide) (cok1 trivial) ?_
        refine dv (gyes_none rfl) (q_call0 Try.call29 rfl (wrong_ok s (sgK s k) e hs (sgK_b k))) rfl (by decide) (call_ok rfl) ?_
        refine dv (gyes_none rfl) (q_as (v := .int .i64 ((wrongC s (sgK s k) e : Nat) : Int)) rfl) rfl (by decide) (cok1 trivial) ?_
        refine ⟨_, Wk.refl _ _, ?_⟩
        show awp _ _ _ _ _ _ _
        refine awp_seq ?_
        refine awp_regs hF ?_
        refine dv (gyes_none rfl) (q_mv (v := .int .i64 ((wrongC s (sgK s k) e : Nat) : Int)) rfl) rfl (by decide) (cok1 trivial) ?_
        refine dvb (gyes_none rfl) (q_int rfl rfl rfl) rfl (by decide) (cok2 trivial (cconst rfl)) (fun c3 => ?_) (fun c3 => ?_)
        ·
          replace c3 := bne_iff_ne.1 c3
          refine ⟨_, Wk.refl _ _, ?_⟩
          show awp _ _ _ _ _ _ _
          refine awp_cond_t rfl ?_
          refine awp_seq ?_
          refine awp_regs hF ?_
          refine dv (gyes_none rfl) (q_buildL (ds := [.string ⟨#[]⟩, .int .u64 0, .slice none 0 0]) [(0, 1), (1, 1), (2, 1)] [] Try.underlying33 Try.zeroValue33 (by first | exact flat_agg rfl | exact flat_scalar rfl) (by kernel_rfl) trivial lvs0 rfl) rfl (by decide) (by simp [Op.operands, Call.operands]) ?_
          refine dv (gyes_none rfl) (q_mv (v := .int .i64 ((wrongC s (sgK s k) e : Nat) : Int)) rfl) rfl (by decide) (cok1 trivial) ?_
          refine dv (gyes_none rfl) (q_mv (v := .int .u64 ((atV s 32 8 + (k * 56) : Nat) : Int)) rfl) rfl (by decide) (cok1 trivial) ?_
          refine dv (gyes_none rfl) (q_call0 Try.call30 rfl (failAt_ok ((wrongC s (sgK s k) e : Nat) : Int) (atV s 32 8 + (k * 56)))) rfl (by decide) (call_ok rfl) ?_
          refine x_store [] hF s32 (by kernel_rfl) (gyes_none rfl) (j := 5) (v := .agg #[.string ⟨#[]⟩, .int .u64 0, .slice none 0 0]) rfl Try.sizeOf33 rfl rfl rfl rfl rfl trivial (lcsA ⟨(lc_scalar rfl), (lc_scalar rfl), (lc_scalar rfl), trivial⟩) (Nat.le_of_ble_eq_true rfl) trivial trivial rfl rfl (F' := [(b27, .cells true [.int .u32 (((sgK s k).1 : Nat) : Int), .int .i64 (((sgK s k).2.1 : Nat) : Int), .int .u64 (((sgK s k).2.2.1 : Nat) : Int), .int .u64 (((sgK s k).2.2.2.1 : Nat) : Int), .int .u64 (((sgK s k).2.2.2.2.1 : Nat) : Int), .int .u64 (((sgK s k).2.2.2.2.2 : Nat) : Int)] 6), (bl, .cells true (fl segc (lsK s k)) 6), (b15, .cells true [.string s, .int .u64 ((atV s 24 8 : Nat) : Int), .slice (some ⟨bl, 0, none⟩) k k] 3), (b9, .cells true [.int .i64 ((hdE s : Nat) : Int), .int .u64 0, .string (⟨#[]⟩ : ByteArray)] 3), (b5, .cells true [.int .i64 0, .int .u64 0, .string ⟨#[]⟩] 3), (b1, .cells true [.string ⟨#[]⟩, .int .u64 0, .slice none 0 0] 3)]) rfl (fun H33 s34 => ⟨?_, ?_⟩)
          · exact trivial
          refine x_store [] hF s34 (by kernel_rfl) (gyes_none rfl) (j := 4) (v := .agg #[.int .i64 ((wrongC s (sgK s k) e : Nat) : Int), .int .u64 ((atV s 32 8 + (k * 56) : Nat) : Int), .string ⟨#[]⟩]) rfl Try.sizeOf36 rfl rfl rfl rfl rfl trivial (lcsA ⟨(lc_scalar rfl), (lc_scalar rfl), (lc_scalar rfl), trivial⟩) (Nat.le_of_ble_eq_true rfl) trivial trivial rfl rfl (F' := [(b27, .cells true [.int .u32 (((sgK s k).1 : Nat) : Int), .int .i64 (((sgK s k).2.1 : Nat) : Int), .int .u64 (((sgK s k).2.2.1 : Nat) : Int), .int .u64 (((sgK s k).2.2.2.1 : Nat) : Int), .int .u64 (((sgK s k).2.2.2.2.1 : Nat) : Int), .int .u64 (((sgK s k).2.2.2.2.2 : Nat) : Int)] 6), (bl, .cells true (fl segc (lsK s k)) 6), (b15, .cells true [.string s, .int .u64 ((atV s 24 8 : Nat) : Int), .slice (some ⟨bl, 0, none⟩) k k] 3), (b9, .cells true [.int .i64 ((hdE s : Nat) : Int), .int .u64 0, .string (⟨#[]⟩ : ByteArray)] 3), (b5, .cells true [.int .i64 ((wrongC s (sgK s k) e : Nat) : Int), .int .u64 ((atV s 32 8 + (k * 56) : Nat) : Int), .string ⟨#[]⟩] 3), (b1, .cells true [.string ⟨#[]⟩, .int .u64 0, .slice none 0 0] 3)]) rfl (fun H35 s36 => ⟨?_, ?_⟩)
          · exact trivial
          refine ⟨_, Wk.refl _ _, ?_⟩
          show awp _ _ _ _ _ _ _
          refine awp_nilc s36 (j := 5) (o := 2) (sz' := 6) rfl rfl (fun b37 H38 hb40 s39 => ?_)
          refine awp_ret_wk ?_
          obtain ⟨e1, e2, e3, e4, e5⟩ := hr_bad hd0 (k := k) (by omega) (by rw [← he]; omega) hi
          refine ⟨_, Wk.refl _ _, ?_⟩
          repeat (with_reducible first | refine then_ret ?_ | refine blk_ret ?_ | refine then_exit ?_ | refine blk_exit ?_ | refine blk_exit' (by decide) ?_ | refine blk_normal ?_ | refine then_normal ?_ | refine retq_ret ?_ | refine retq_normal ?_ | refine ng_normal ?_ | refine ng_ret ?_ | refine ng_exit ?_)
          refine ret_is (v := .tuple #[.agg #[.string ⟨#[]⟩, .int .u64 0, .slice (some ⟨b37, 0, none⟩) 0 0], .agg #[.int .i64 ((wrongC s (sgK s k) e : Nat) : Int), .int .u64 ((atV s 32 8 + (k * 56) : Nat) : Int), .string ⟨#[]⟩]]) rfl (.agg rfl Try.isAgg33 Try.sizeOf33 (s39.rd (j := 6) rfl) (Nat.le_of_ble_eq_true rfl) rfl (.agg rfl Try.isAgg36 Try.sizeOf36 (s39.rd (j := 5) rfl) (Nat.le_of_ble_eq_true rfl) rfl .nil)) rfl ?_
          exact ⟨_, by rw [e1, e2, e3, e4, ← he]; first | done | rfl, freshS_of (l := []) s39 (j := 0) rfl rfl e5⟩
        ·
          replace c3 := bne_eq_false_iff_eq.1 c3
          have hw0 : wrongC s (sgK s k) e = 0 := by omega
          have hin := wrong_in hw0
          obtain ⟨hb1, hb2, hb3, hb4⟩ := sgK_b (s := s) k
          refine ⟨_, Wk.refl _ _, ?_⟩
          show awp _ _ _ _ _ _ _
          refine awp_cond_f rfl ?_
          refine awp_skip_wk ?_
          refine ⟨_, Wk.refl _ _, ?_⟩
          show awp _ _ _ _ _ _ _
          refine awp_seq ?_
          refine awp_seq ?_
          refine awp_regs hF ?_
          refine dv (gyes_none rfl) (q_field Try.underlying75 rfl Try.sizeOf73 rfl (s32.rd (j := 0) rfl)) rfl (by decide) (cok1 trivial) ?_
          refine dv (gyes_none rfl) (q_load (v := .int .u32 (((sgK s k).1 : Nat) : Int)) Try.isAgg73 rfl (s32.rd (j := 0) rfl) rfl) rfl (by decide) (cok1 trivial) ?_
          refine dvb (gyes_none rfl) (q_int rfl rfl rfl) rfl (by decide) (cok2 trivial (cconst rfl)) (fun c4 => ?_) (fun c4 => ?_)
          ·
            replace c4 := eq_of_beq c4
            have hkd : (sgK s k).1 = 1 := by omega
            have hwl := wrong_ld hw0 hkd
            refine ⟨_, Wk.refl _ _, ?_⟩
            show awp _ _ _ _ _ _ _
            refine awp_cond_t rfl ?_
            refine awp_seq ?_
            refine awp_regs hF ?_
            refine dv (gyes_none rfl) (q_field Try.underlying75 rfl Try.sizeOf25 rfl (s32.rd (j := 0) rfl)) rfl (by decide) (cok1 trivial) ?_
            refine dv (gyes_none rfl) (q_load (v := .int .u64 (((sgK s k).2.2.2.1 : Nat) : Int)) Try.isAgg25 rfl (s32.rd (j := 0) rfl) rfl) rfl (by decide) (cok1 trivial) ?_
            refine dv (gyes_none rfl) (q_field Try.underlying75 rfl Try.sizeOf25 rfl (s32.rd (j := 0) rfl)) rfl (by decide) (cok1 trivial) ?_
            refine dv (gyes_none rfl) (q_load (v := .int .u64 (((sgK s k).2.2.2.2.2 : Nat) : Int)) Try.isAgg25 rfl (s32.rd (j := 0) rfl) rfl) rfl (by decide) (cok1 trivial) ?_
            refine dv (gyes_none rfl) (OpQ.cast (v' := .int .u64 (((sgK s k).2.2.2.1 + ((sgK s k).2.2.2.2.2) : Nat) : Int)) (q_int rfl rfl rfl) (congrArg _ ((u64_in (by omega)).trans (by first | rfl | omega | (push_cast; rfl))))) rfl (by decide) (cok2 trivial trivial) ?_
            refine dv (gyes_none rfl) (q_call0 Try.call31 rfl (up_ok ((sgK s k).2.2.2.1 + ((sgK s k).2.2.2.2.2)) (by omega))) rfl (by decide) (cok2 trivial trivial) ?_
            refine dv (gyes_none rfl) (q_as (v := .int .u64 (((((sgK s k).2.2.2.1 + ((sgK s k).2.2.2.2.2)) + 255) / 256 * 256 : Nat) : Int)) rfl) rfl (by decide) (cok1 trivial) ?_
            refine ⟨_, Wk.refl _ _, ?_⟩
            show awp _ _ _ _ _ _ _
            refine awp_regs hF ?_
            refine dv (gyes_none rfl) (q_mv (v := .int .i64 ((ld : Nat) : Int)) rfl) rfl (by decide) (cok1 trivial) ?_
            refine dv (gyes_none rfl) (OpQ.cast (v' := .int .i64 ((ld + 1 : Nat) : Int)) (q_int rfl rfl rfl) (congrArg _ ((i64_in (by omega)).trans (by first | rfl | omega | (push_cast; rfl))))) rfl (by decide) (cok2 trivial (cconst rfl)) ?_
            refine dv (gyes_none rfl) (q_as (v := .int .i64 ((ld + 1 : Nat) : Int)) rfl) rfl (by decide) (cok1 trivial) ?_
            refine ⟨_, Wk.refl _ _, ?_⟩
            show awp _ _ _ _ _ _ _
            refine awp_regs hF ?_
            refine dv (gyes_none rfl) (q_field Try.underlying33 rfl Try.sizeOf31 rfl (s32.rd (j := 2) rfl)) rfl (by decide) (cok1 trivial) ?_
            refine dv (gyes_none rfl) (q_load (v := .slice (some ⟨bl, 0, none⟩) k k) Try.isAgg31 rfl (s32.rd (j := 2) rfl) rfl) rfl (by decide) (cok1 trivial) ?_
            refine dv (gyes_none rfl) (q_loadAgg Try.isAgg75 Try.sizeOf75 rfl (s32.rd (j := 0) rfl) (Nat.le_of_ble_eq_true rfl) rfl) rfl (by decide) (cok1 trivial) ?_
            refine x_new (fun b => .slice (some ⟨b, 0, none⟩) 1 1) s32 (gyes_none rfl) (q_buildSliceL (ds := [.int .u32 (((sgK s k).1 : Nat) : Int), .int .i64 (((sgK s k).2.1 : Nat) : Int), .int .u64 (((sgK s k).2.2.1 : Nat) : Int), .int .u64 (((sgK s k).2.2.2.1 : Nat) : Int), .int .u64 (((sgK s k).2.2.2.2.1 : Nat) : Int), .int .u64 (((sgK s k).2.2.2.2.2 : Nat) : Int)]) [.agg #[.int .u32 (((sgK s k).1 : Nat) : Int), .int .i64 (((sgK s k).2.1 : Nat) : Int), .int .u64 (((sgK s k).2.2.1 : Nat) : Int), .int .u64 (((sgK s k).2.2.2.1 : Nat) : Int), .int .u64 (((sgK s k).2.2.2.2.1 : Nat) : Int), .int .u64 (((sgK s k).2.2.2.2.2 : Nat) : Int)]] rfl Try.underlying31 Try.sizeOf75 Try.zeroValue75 rfl (by decide) (by decide) ⟨rfl, trivial⟩ (lvsC (by exact trivial) lvs0) rfl rfl) rfl (by decide) (cok1 trivial) (fun b41 H42 hb44 s43 => ?_)
            refine x_appendS (m := 6) (l := [((sgK s k).1, (sgK s k).2.1, (sgK s k).2.2.1, (sgK s k).2.2.2.1, (sgK s k).2.2.2.2.1, (sgK s k).2.2.2.2.2)]) (l0 := lsK s k) (l' := lsK s (k + 1)) (f := segc) [] hF s43 (by kernel_rfl) (j := 2) (k + 1) rfl (gyes_none rfl) Try.underlying31 Try.underlying31 Try.type75 rfl rfl (by decide) rfl segc_w rfl rfl rfl (s43.slsj (l := [((sgK s k).1, (sgK s k).2.1, (sgK s k).2.2.1, (sgK s k).2.2.2.1, (sgK s k).2.2.2.2.1, (sgK s k).2.2.2.2.2)]) segc_w (j := 0) rfl rfl (Nat.le_refl _)) (fun x _ u hu => lc_scalar (segc_sc x u hu)) (lsK_len k).symm (by show (2 * (k + 1) + 1000) * 48 ≤ _; omega) trivial trivial (by decide) rfl rfl (lsK_succ k) (fun b45 H46 hb48 s47 => ⟨?_, ?_⟩)
            · exact trivial
            refine dv (gyes_none rfl) (q_field Try.underlying33 rfl Try.sizeOf31 rfl (s47.rd (j := 3) rfl)) rfl (by decide) (cok1 trivial) ?_
            refine x_store1 [] hF s47 (by kernel_rfl) (gyes_none rfl) (j := 3) (v := .slice (some ⟨b45, 0, none⟩) (k + 1) (k + 1)) rfl Try.sizeOf31 rfl rfl rfl (lc_slice (s47.live (j := 2) rfl)) (Nat.le_of_ble_eq_true rfl) trivial trivial rfl rfl (F' := [(b41, .cells true [.int .u32 (((sgK s k).1 : Nat) : Int), .int .i64 (((sgK s k).2.1 : Nat) : Int), .int .u64 (((sgK s k).2.2.1 : Nat) : Int), .int .u64 (((sgK s k).2.2.2.1 : Nat) : Int), .int .u64 (((sgK s k).2.2.2.2.1 : Nat) : Int), .int .u64 (((sgK s k).2.2.2.2.2 : Nat) : Int)] 6), (b27, .cells true [.int .u32 (((sgK s k).1 : Nat) : Int), .int .i64 (((sgK s k).2.1 : Nat) : Int), .int .u64 (((sgK s k).2.2.1 : Nat) : Int), .int .u64 (((sgK s k).2.2.2.1 : Nat) : Int), .int .u64 (((sgK s k).2.2.2.2.1 : Nat) : Int), .int .u64 (((sgK s k).2.2.2.2.2 : Nat) : Int)] 6), (b45, .cells true (fl segc (lsK s (k + 1))) 6), (b15, .cells true [.string s, .int .u64 ((atV s 24 8 : Nat) : Int), .slice (some ⟨b45, 0, none⟩) (k + 1) (k + 1)] 3), (b9, .cells true [.int .i64 ((hdE s : Nat) : Int), .int .u64 0, .string (⟨#[]⟩ : ByteArray)] 3), (b5, .cells true [.int .i64 0, .int .u64 0, .string ⟨#[]⟩] 3), (b1, .cells true [.string ⟨#[]⟩, .int .u64 0, .slice none 0 0] 3)]) rfl (fun H49 s50 => ⟨?_, ?_⟩)
            · exact trivial
            refine ⟨_, Wk.refl _ _, ?_⟩
            show awp _ _ _ _ _ _ _
            refine awp_regs hF ?_
            refine dv (gyes_none rfl) (OpQ.cast (v' := .int .u64 ((k + 1 : Nat) : Int)) (q_int rfl rfl rfl) (congrArg _ ((u64_in (by omega)).trans (by first | rfl | omega | (push_cast; rfl))))) rfl (by decide) (cok2 trivial (cconst rfl)) ?_
            refine dv (gyes_none rfl) (q_mv (v := .int .u64 ((k + 1 : Nat) : Int)) rfl) rfl (by decide) (cok1 trivial) ?_
            refine ⟨_, Wk.U [(0, .string s), (2, .pointer (some ⟨b1, 0, none⟩)), (3, .pointer (some ⟨b5, 0, none⟩)), (6, .pointer (some ⟨b15, 0, none⟩)), (7, .int .u64 ((((((sgK s k).2.2.2.1 + ((sgK s k).2.2.2.2.2)) + 255) / 256 * 256) : Nat) : Int)), (8, .int .i64 (((ld + 1) : Nat) : Int)), (28, .int .u64 ((hdN s : Nat) : Int)), (29, .int .u64 (((k + 1) : Nat) : Int))] ⟨rfl, rfl, rfl, rfl, rfl, rfl, rfl, rfl, trivial⟩, ((k + 1), ((((sgK s k).2.2.2.1 + ((sgK s k).2.2.2.2.2)) + 255) / 256 * 256), (ld + 1)), ⟨_, _, rfl, (s50.sub (.cons _ (.cons _ (.cons_cons _ (.cons_cons _ (.cons_cons _ (.cons_cons _ (.cons_cons _ (.refl _))))))))), lt_succ_casesN hi (badK_no he hw0), (by omega), (by rw [endK_y (e := 0) hkd]), ⟨by rw [ldK_y hkd, hld.1], by dsimp only; omega⟩⟩, (by omega)⟩
          ·
            replace c4 := ne_of_beq_false c4
            have hkd : (sgK s k).1 ≠ 1 := by omega
            refine ⟨_, Wk.refl _ _, ?_⟩
            show awp _ _ _ _ _ _ _
            refine awp_cond_f rfl ?_
            refine awp_skip_wk ?_
            refine ⟨_, Wk.refl _ _, ?_⟩
            show awp _ _ _ _ _ _ _
            refine awp_regs hF ?_
            refine dv (gyes_none rfl) (q_field Try.underlying33 rfl Try.sizeOf31 rfl (s32.rd (j := 2) rfl)) rfl (by decide) (cok1 trivial) ?_
            refine dv (gyes_none rfl) (q_load (v := .slice (some ⟨bl, 0, none⟩) k k) Try.isAgg31 rfl (s32.rd (j := 2) rfl) rfl) rfl (by decide) (cok1 trivial) ?_
            refine dv (gyes_none rfl) (q_loadAgg Try.isAgg75 Try.sizeOf75 rfl (s32.rd (j := 0) rfl) (Nat.le_of_ble_eq_true rfl) rfl) rfl (by decide) (cok1 trivial) ?_
            refine x_new (fun b => .slice (some ⟨b, 0, none⟩) 1 1) s32 (gyes_none rfl) (q_buildSliceL (ds := [.int .u32 (((sgK s k).1 : Nat) : Int), .int .i64 (((sgK s k).2.1 : Nat) : Int), .int .u64 (((sgK s k).2.2.1 : Nat) : Int), .int .u64 (((sgK s k).2.2.2.1 : Nat) : Int), .int .u64 (((sgK s k).2.2.2.2.1 : Nat) : Int), .int .u64 (((sgK s k).2.2.2.2.2 : Nat) : Int)]) [.agg #[.int .u32 (((sgK s k).1 : Nat) : Int), .int .i64 (((sgK s k).2.1 : Nat) : Int), .int .u64 (((sgK s k).2.2.1 : Nat) : Int), .int .u64 (((sgK s k).2.2.2.1 : Nat) : Int), .int .u64 (((sgK s k).2.2.2.2.1 : Nat) : Int), .int .u64 (((sgK s k).2.2.2.2.2 : Nat) : Int)]] rfl Try.underlying31 Try.sizeOf75 Try.zeroValue75 rfl (by decide) (by decide) ⟨rfl, trivial⟩ (lvsC (by exact trivial) lvs0) rfl rfl) rfl (by decide) (cok1 trivial) (fun b51 H52 hb54 s53 => ?_)
            refine x_appendS (m := 6) (l := [((sgK s k).1, (sgK s k).2.1, (sgK s k).2.2.1, (sgK s k).2.2.2.1, (sgK s k).2.2.2.2.1, (sgK s k).2.2.2.2.2)]) (l0 := lsK s k) (l' := lsK s (k + 1)) (f := segc) [] hF s53 (by kernel_rfl) (j := 2) (k + 1) rfl (gyes_none rfl) Try.underlying31 Try.underlying31 Try.type75 rfl rfl (by decide) rfl segc_w rfl rfl rfl (s53.slsj (l := [((sgK s k).1, (sgK s k).2.1, (sgK s k).2.2.1, (sgK s k).2.2.2.1, (sgK s k).2.2.2.2.1, (sgK s k).2.2.2.2.2)]) segc_w (j := 0) rfl rfl (Nat.le_refl _)) (fun x _ u hu => lc_scalar (segc_sc x u hu)) (lsK_len k).symm (by show (2 * (k + 1) + 1000) * 48 ≤ _; omega) trivial trivial (by decide) rfl rfl (lsK_succ k) (fun b55 H56 hb58 s57 => ⟨?_, ?_⟩)
            · exact trivial
            refine dv (gyes_none rfl) (q_field Try.underlying33 rfl Try.sizeOf31 rfl (s57.rd (j := 3) rfl)) rfl (by decide) (cok1 trivial) ?_
            refine x_store1 [] hF s57 (by kernel_rfl) (gyes_none rfl) (j := 3) (v := .slice (some ⟨b55, 0, none⟩) (k + 1) (k + 1)) rfl Try.sizeOf31 rfl rfl rfl (lc_slice (s57.live (j := 2) rfl)) (Nat.le_of_ble_eq_true rfl) trivial trivial rfl rfl (F' := [(b51, .cells true [.int .u32 (((sgK s k).1 : Nat) : Int), .int .i64 (((sgK s k).2.1 : Nat) : Int), .int .u64 (((sgK s k).2.2.1 : Nat) : Int), .int .u64 (((sgK s k).2.2.2.1 : Nat) : Int), .int .u64 (((sgK s k).2.2.2.2.1 : Nat) : Int), .int .u64 (((sgK s k).2.2.2.2.2 : Nat) : Int)] 6), (b27, .cells true [.int .u32 (((sgK s k).1 : Nat) : Int), .int .i64 (((sgK s k).2.1 : Nat) : Int), .int .u64 (((sgK s k).2.2.1 : Nat) : Int), .int .u64 (((sgK s k).2.2.2.1 : Nat) : Int), .int .u64 (((sgK s k).2.2.2.2.1 : Nat) : Int), .int .u64 (((sgK s k).2.2.2.2.2 : Nat) : Int)] 6), (b55, .cells true (fl segc (lsK s (k + 1))) 6), (b15, .cells true [.string s, .int .u64 ((atV s 24 8 : Nat) : Int), .slice (some ⟨b55, 0, none⟩) (k + 1) (k + 1)] 3), (b9, .cells true [.int .i64 ((hdE s : Nat) : Int), .int .u64 0, .string (⟨#[]⟩ : ByteArray)] 3), (b5, .cells true [.int .i64 0, .int .u64 0, .string ⟨#[]⟩] 3), (b1, .cells true [.string ⟨#[]⟩, .int .u64 0, .slice none 0 0] 3)]) rfl (fun H59 s60 => ⟨?_, ?_⟩)
            · exact trivial
            refine ⟨_, Wk.refl _ _, ?_⟩
            show awp _ _ _ _ _ _ _
            refine awp_regs hF ?_
            refine dv (gyes_none rfl) (OpQ.cast (v' := .int .u64 ((k + 1 : Nat) : Int)) (q_int rfl rfl rfl) (congrArg _ ((u64_in (by omega)).trans (by first | rfl | omega | (push_cast; rfl))))) rfl (by decide) (cok2 trivial (cconst rfl)) ?_
            refine dv (gyes_none rfl) (q_mv (v := .int .u64 ((k + 1 : Nat) : Int)) rfl) rfl (by decide) (cok1 trivial) ?_
            refine ⟨_, Wk.U [(0, .string s), (2, .pointer (some ⟨b1, 0, none⟩)), (3, .pointer (some ⟨b5, 0, none⟩)), (6, .pointer (some ⟨b15, 0, none⟩)), (7, .int .u64 ((e : Nat) : Int)), (8, .int .i64 ((ld : Nat) : Int)), (28, .int .u64 ((hdN s : Nat) : Int)), (29, .int .u64 (((k + 1) : Nat) : Int))] ⟨rfl, rfl, rfl, rfl, rfl, rfl, rfl, rfl, trivial⟩, ((k + 1), e, ld), ⟨_, _, rfl, (s60.sub (.cons _ (.cons _ (.cons_cons _ (.cons_cons _ (.cons_cons _ (.cons_cons _ (.cons_cons _ (.refl _))))))))), lt_succ_casesN hi (badK_no he hw0), (by omega), (by rw [endK_n hkd]; exact he), ⟨by rw [ldK_n hkd, hld.1], by dsimp only; omega⟩⟩, (by omega)⟩
      ·
        replace c2 := of_decide_eq_false c2
        have hkk : k = hdN s := by omega
        refine ⟨_, Wk.refl _ _, ?_⟩
        show awp _ _ _ _ _ _ _
        refine awp_seq ?_
        refine awp_cond_f rfl ?_
        refine awp_exit_wk ?_
        refine ⟨_, Wk.refl _ _, ?_⟩
        show awp _ _ _ _ _ _ _
        refine awp_seq ?_
        refine awp_seq ?_
        refine awp_regs hF ?_
        refine dv (gyes_none rfl) (q_mv (v := .int .i64 ((ld : Nat) : Int)) rfl) rfl (by decide) (cok1 trivial) ?_
        refine dvb (gyes_none rfl) (q_int rfl rfl rfl) rfl (by decide) (cok2 trivial (cconst rfl)) (fun c5 => ?_) (fun c5 => ?_)
        ·
          replace c5 := eq_of_beq c5
          refine ⟨_, Wk.refl _ _, ?_⟩
          show awp _ _ _ _ _ _ _
          refine awp_cond_t rfl ?_
          refine awp_seq ?_
          refine awp_regs hF ?_
          refine dv (gyes_none rfl) (q_buildL (ds := [.string ⟨#[]⟩, .int .u64 0, .slice none 0 0]) [(0, 1), (1, 1), (2, 1)] [] Try.underlying33 Try.zeroValue33 (by first | exact flat_agg rfl | exact flat_scalar rfl) (by kernel_rfl) trivial lvs0 rfl) rfl (by decide) (by simp [Op.operands, Call.operands]) ?_
          refine dv (gyes_none rfl) (q_call0 Try.call32 rfl (failOf_ok 18)) rfl (by decide) (cok2 trivial (cconst rfl)) ?_
          refine x_store [] hF s26 (by kernel_rfl) (gyes_none rfl) (j := 4) (v := .agg #[.string ⟨#[]⟩, .int .u64 0, .slice none 0 0]) rfl Try.sizeOf33 rfl rfl rfl rfl rfl trivial (lcsA ⟨(lc_scalar rfl), (lc_scalar rfl), (lc_scalar rfl), trivial⟩) (Nat.le_of_ble_eq_true rfl) trivial trivial rfl rfl (F' := [(bl, .cells true (fl segc (lsK s k)) 6), (b15, .cells true [.string s, .int .u64 ((atV s 24 8 : Nat) : Int), .slice (some ⟨bl, 0, none⟩) k k] 3), (b9, .cells true [.int .i64 ((hdE s : Nat) : Int), .int .u64 0, .string (⟨#[]⟩ : ByteArray)] 3), (b5, .cells true [.int .i64 0, .int .u64 0, .string ⟨#[]⟩] 3), (b1, .cells true [.string ⟨#[]⟩, .int .u64 0, .slice none 0 0] 3)]) rfl (fun H61 s62 => ⟨?_, ?_⟩)
          · exact trivial
          refine x_store [] hF s62 (by kernel_rfl) (gyes_none rfl) (j := 3) (v := .agg #[.int .i64 18, .int .u64 0, .string ⟨#[]⟩]) rfl Try.sizeOf36 rfl rfl rfl rfl rfl trivial (lcsA ⟨(lc_scalar rfl), (lc_scalar rfl), (lc_scalar rfl), trivial⟩) (Nat.le_of_ble_eq_true rfl) trivial trivial rfl rfl (F' := [(bl, .cells true (fl segc (lsK s k)) 6), (b15, .cells true [.string s, .int .u64 ((atV s 24 8 : Nat) : Int), .slice (some ⟨bl, 0, none⟩) k k] 3), (b9, .cells true [.int .i64 ((hdE s : Nat) : Int), .int .u64 0, .string (⟨#[]⟩ : ByteArray)] 3), (b5, .cells true [.int .i64 18, .int .u64 0, .string ⟨#[]⟩] 3), (b1, .cells true [.string ⟨#[]⟩, .int .u64 0, .slice none 0 0] 3)]) rfl (fun H63 s64 => ⟨?_, ?_⟩)
          · exact trivial
          refine ⟨_, Wk.refl _ _, ?_⟩
          show awp _ _ _ _ _ _ _
          refine awp_nilc s64 (j := 4) (o := 2) (sz' := 6) rfl rfl (fun b65 H66 hb68 s67 => ?_)
          refine awp_ret_wk ?_
          obtain ⟨e1, e2, e3, e4, e5⟩ := hr_none hd0 (hkk ▸ hi) (by rw [← hkk, ← hld.1]; omega)
          refine ⟨_, Wk.refl _ _, ?_⟩
          repeat (with_reducible first | refine then_ret ?_ | refine blk_ret ?_ | refine then_exit ?_ | refine blk_exit ?_ | refine blk_exit' (by decide) ?_ | refine blk_normal ?_ | refine then_normal ?_ | refine retq_ret ?_ | refine retq_normal ?_ | refine ng_normal ?_ | refine ng_ret ?_ | refine ng_exit ?_)
          refine ret_is (v := .tuple #[.agg #[.string ⟨#[]⟩, .int .u64 0, .slice (some ⟨b65, 0, none⟩) 0 0], .agg #[.int .i64 18, .int .u64 0, .string ⟨#[]⟩]]) rfl (.agg rfl Try.isAgg33 Try.sizeOf33 (s67.rd (j := 5) rfl) (Nat.le_of_ble_eq_true rfl) rfl (.agg rfl Try.isAgg36 Try.sizeOf36 (s67.rd (j := 4) rfl) (Nat.le_of_ble_eq_true rfl) rfl .nil)) rfl ?_
          exact ⟨_, by rw [e1, e2, e3, e4]; first | done | rfl, freshS_of (l := []) s67 (j := 0) rfl rfl e5⟩
        ·
          replace c5 := ne_of_beq_false c5
          refine ⟨_, Wk.refl _ _, ?_⟩
          show awp _ _ _ _ _ _ _
          refine awp_cond_f rfl ?_
          refine awp_skip_wk ?_
          refine ⟨_, Wk.refl _ _, ?_⟩
          show awp _ _ _ _ _ _ _
          refine awp_seq ?_
          refine awp_regs hF ?_
          refine dv (gyes_none rfl) (q_loadAgg Try.isAgg33 Try.sizeOf33 rfl (s26.rd (j := 1) rfl) (Nat.le_of_ble_eq_true rfl) rfl) rfl (by decide) (cok1 trivial) ?_
          refine dv (gyes_none rfl) (q_buildL (ds := [.int .i64 0, .int .u64 0, .string ⟨#[]⟩]) [(0, 1), (1, 1), (2, 1)] [] Try.underlying36 Try.zeroValue36 (by first | exact flat_agg rfl | exact flat_scalar rfl) (by kernel_rfl) trivial lvs0 rfl) rfl (by decide) (by simp [Op.operands, Call.operands]) ?_
          refine x_store [] hF s26 (by kernel_rfl) (gyes_none rfl) (j := 4) (v := .agg #[.string s, .int .u64 ((atV s 24 8 : Nat) : Int), .slice (some ⟨bl, 0, none⟩) k k]) rfl Try.sizeOf33 rfl rfl rfl rfl rfl trivial (lcsA ⟨(lc_scalar rfl), (lc_scalar rfl), (lc_slice (s26.live (j := 0) rfl)), trivial⟩) (Nat.le_of_ble_eq_true rfl) trivial trivial rfl rfl (F' := [(bl, .cells true (fl segc (lsK s k)) 6), (b15, .cells true [.string s, .int .u64 ((atV s 24 8 : Nat) : Int), .slice (some ⟨bl, 0, none⟩) k k] 3), (b9, .cells true [.int .i64 ((hdE s : Nat) : Int), .int .u64 0, .string (⟨#[]⟩ : ByteArray)] 3), (b5, .cells true [.int .i64 0, .int .u64 0, .string ⟨#[]⟩] 3), (b1, .cells true [.string s, .int .u64 ((atV s 24 8 : Nat) : Int), .slice (some ⟨bl, 0, none⟩) k k] 3)]) rfl (fun H69 s70 => ⟨?_, ?_⟩)
          · exact trivial
          refine x_store [] hF s70 (by kernel_rfl) (gyes_none rfl) (j := 3) (v := .agg #[.int .i64 0, .int .u64 0, .string ⟨#[]⟩]) rfl Try.sizeOf36 rfl rfl rfl rfl rfl trivial (lcsA ⟨(lc_scalar rfl), (lc_scalar rfl), (lc_scalar rfl), trivial⟩) (Nat.le_of_ble_eq_true rfl) trivial trivial rfl rfl (F' := [(bl, .cells true (fl segc (lsK s k)) 6), (b15, .cells true [.string s, .int .u64 ((atV s 24 8 : Nat) : Int), .slice (some ⟨bl, 0, none⟩) k k] 3), (b9, .cells true [.int .i64 ((hdE s : Nat) : Int), .int .u64 0, .string (⟨#[]⟩ : ByteArray)] 3), (b5, .cells true [.int .i64 0, .int .u64 0, .string ⟨#[]⟩] 3), (b1, .cells true [.string s, .int .u64 ((atV s 24 8 : Nat) : Int), .slice (some ⟨bl, 0, none⟩) k k] 3)]) rfl (fun H71 s72 => ⟨?_, ?_⟩)
          · exact trivial
          refine ⟨_, Wk.refl _ _, ?_⟩
          show awp _ _ _ _ _ _ _
          refine awp_ret_wk ?_
          obtain ⟨e1, e2, e3, e4, e5⟩ := hr_ok hd0 (hkk ▸ hi) (by rw [← hkk, ← hld.1]; omega)
          refine ⟨_, Wk.refl _ _, ?_⟩
          repeat (with_reducible first | refine then_ret ?_ | refine blk_ret ?_ | refine then_exit ?_ | refine blk_exit ?_ | refine blk_exit' (by decide) ?_ | refine blk_normal ?_ | refine then_normal ?_ | refine retq_ret ?_ | refine retq_normal ?_ | refine ng_normal ?_ | refine ng_ret ?_ | refine ng_exit ?_)
          refine ret_is (v := .tuple #[.agg #[.string s, .int .u64 ((atV s 24 8 : Nat) : Int), .slice (some ⟨bl, 0, none⟩) k k], .agg #[.int .i64 0, .int .u64 0, .string ⟨#[]⟩]]) rfl (.agg rfl Try.isAgg33 Try.sizeOf33 (s72.rd (j := 4) rfl) (Nat.le_of_ble_eq_true rfl) rfl (.agg rfl Try.isAgg36 Try.sizeOf36 (s72.rd (j := 3) rfl) (Nat.le_of_ble_eq_true rfl) rfl .nil)) rfl ?_
          exact ⟨_, by rw [e1, e2, e3, e4]; first | done | rfl, freshS_of (l := lsK s k) s72 (j := 0) rfl (lsK_len _) (e5.trans (by rw [hkk]))⟩
  ·
    replace c1 := ne_of_beq_false c1
    refine dv (gyes_none rfl) (q_not (b := false) rfl) rfl (by decide) (cok1 trivial) ?_
    refine ⟨_, Wk.refl _ _, ?_⟩
    show awp _ _ _ _ _ _ _
    refine awp_cond_t rfl ?_
    refine awp_seq ?_
    refine awp_regt hF hM (by kernel_rfl) (by kernel_rfl) ?_
    refine dv (gyes_none rfl) (q_buildL (ds := [.string ⟨#[]⟩, .int .u64 0, .slice none 0 0]) [(0, 1), (1, 1), (2, 1)] [] Try.underlying33 Try.zeroValue33 (by first | exact flat_agg rfl | exact flat_scalar rfl) (by kernel_rfl) trivial lvs0 rfl) rfl (by decide) (by simp [Op.operands, Call.operands]) ?_
    refine dv (gyes_none rfl) (q_loadAgg Try.isAgg36 Try.sizeOf36 rfl (s14.rd (j := 0) rfl) (Nat.le_of_ble_eq_true rfl) rfl) rfl (by decide) (cok1 trivial) ?_
    refine x_store [1] hF s14 (by kernel_rfl) (gyes_none rfl) (j := 2) (v := .agg #[.string ⟨#[]⟩, .int .u64 0, .slice none 0 0]) rfl Try.sizeOf33 rfl rfl rfl rfl rfl trivial (lcsA ⟨(lc_scalar rfl), (lc_scalar rfl), (lc_scalar rfl), trivial⟩) (Nat.le_of_ble_eq_true rfl) trivial trivial rfl rfl (F' := [(b9, .cells true [.int .i64 ((hdE s : Nat) : Int), .int .u64 0, .string (⟨#[]⟩ : ByteArray)] 3), (b5, .cells true [.int .i64 0, .int .u64 0, .string ⟨#[]⟩] 3), (b1, .cells true [.string ⟨#[]⟩, .int .u64 0, .slice none 0 0] 3)]) rfl (fun H73 s74 => ⟨?_, ?_⟩)
    · exact ⟨pend_yes rfl (gyes_none rfl) (q_loadAgg Try.isAgg36 Try.sizeOf36 rfl (s74.rd (j := 0) rfl) (Nat.le_of_ble_eq_true rfl) rfl) rfl (by decide) (cok1 trivial) rfl, trivial⟩
    refine x_store [] hF s74 (by kernel_rfl) (gyes_none rfl) (j := 1) (v := .agg #[.int .i64 ((hdE s : Nat) : Int), .int .u64 0, .string (⟨#[]⟩ : ByteArray)]) rfl Try.sizeOf36 rfl rfl rfl rfl rfl trivial (lcsA ⟨(lc_scalar rfl), (lc_scalar rfl), (lc_scalar rfl), trivial⟩) (Nat.le_of_ble_eq_true rfl) trivial trivial rfl rfl (F' := [(b9, .cells true [.int .i64 ((hdE s : Nat) : Int), .int .u64 0, .string (⟨#[]⟩ : ByteArray)] 3), (b5, .cells true [.int .i64 ((hdE s : Nat) : Int), .int .u64 0, .string (⟨#[]⟩ : ByteArray)] 3), (b1, .cells true [.string ⟨#[]⟩, .int .u64 0, .slice none 0 0] 3)]) rfl (fun H75 s76 => ⟨?_, ?_⟩)
    · exact trivial
    refine ⟨_, Wk.refl _ _, ?_⟩
    show awp _ _ _ _ _ _ _
    refine awp_nilc s76 (j := 2) (o := 2) (sz' := 6) rfl rfl (fun b77 H78 hb80 s79 => ?_)
    refine awp_ret_wk ?_
    obtain ⟨e1, e2, e3, e4, e5⟩ := hr_hd (s := s) (by omega)
    refine ⟨_, Wk.refl _ _, ?_⟩
    repeat (with_reducible first | refine then_ret ?_ | refine blk_ret ?_ | refine then_exit ?_ | refine blk_exit ?_ | refine blk_exit' (by decide) ?_ | refine blk_normal ?_ | refine then_normal ?_ | refine retq_ret ?_ | refine retq_normal ?_ | refine ng_normal ?_ | refine ng_ret ?_ | refine ng_exit ?_)
    refine ret_is (v := .tuple #[.agg #[.string ⟨#[]⟩, .int .u64 0, .slice (some ⟨b77, 0, none⟩) 0 0], .agg #[.int .i64 ((hdE s : Nat) : Int), .int .u64 0, .string (⟨#[]⟩ : ByteArray)]]) rfl (.agg rfl Try.isAgg33 Try.sizeOf33 (s79.rd (j := 3) rfl) (Nat.le_of_ble_eq_true rfl) rfl (.agg rfl Try.isAgg36 Try.sizeOf36 (s79.rd (j := 2) rfl) (Nat.le_of_ble_eq_true rfl) rfl .nil)) rfl ?_
    exact ⟨_, by rw [e1, e2, e3, e4]; first | done | rfl, freshS_of (l := []) s79 (j := 0) rfl rfl e5⟩

end Go.Proofs.YthfndghgfabbjaaA

