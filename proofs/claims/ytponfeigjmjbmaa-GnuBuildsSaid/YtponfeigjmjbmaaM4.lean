/-
  Walks over abstract states: texts of one claim, merged.
-/
import Derived.Test.YtponfeigjmjbmaaM3
import Derived.Test.YtponfeigjmjbmaaProg
import Derived.KernelRfl
import Derived.Lib.AppendZerosOnto
/-
  Walks of functions of the given program, and what they compute.
-/
namespace Go.Proofs.YtponfeigjmjbmaaA
set_option linter.unusedVariables false
open Go Go.RowKit Go.Shelf Go.Proofs
theorem one_shl {k : Nat} (h : k < 64) : 1 * 2 ^ k < 18446744073709551616 := by rw [Nat.one_mul]; exact Nat.pow_lt_pow_right (by decide) h
def bitV (h sh : Nat) : Nat := 1 * 2 ^ (h % 64) ||| 1 * 2 ^ ((h / 2 ^ sh) % 64)
theorem bitV_lt (h sh : Nat) : bitV h sh < 18446744073709551616 := Nat.or_lt_two_pow (n := 64) (one_shl (Nat.mod_lt _ (by decide))) (one_shl (Nat.mod_lt _ (by decide)))
def mayV (lb : List Nat) (sh h : Nat) : Bool := if lb.length = 0 then false else decide (nth lb (h / 64 % lb.length) &&& bitV h sh = bitV h sh)
theorem beq_cast (a b : Nat) : (((a : Nat) : Int) == ((b : Nat) : Int)) = decide (a = b) := by
  rw [Bool.eq_iff_iff, beq_iff_eq, decide_eq_true_iff]; omega
theorem and_even {a : Nat} (h : a < 4294967296) : a &&& 4294967294 = a / 2 * 2 := by
  refine Nat.eq_of_testBit_eq fun i => ?_
  cases i with
  | zero => rw [Nat.testBit_zero, Nat.testBit_zero]; simp [Nat.mul_mod_left]
  | succ i =>
    rw [Nat.testBit_succ, Nat.testBit_succ, Nat.mul_div_cancel _ (by decide), Nat.and_div_two]
    show ((a / 2) &&& 2147483647).testBit i = _
    rw [show (2147483647 : Nat) = 2 ^ 31 - 1 from rfl, Nat.and_two_pow_sub_one_eq_mod, Nat.mod_eq_of_lt (by omega)]
theorem q_andNot1 {P : Program} {T : Nat → Value} {H : AHeap} {dst : Option Tmp} {ty : TypeId} {pos : String} {af : Array Edge} {g : Option (Nat × Bool)} {t u : TypeId} {x y : Operand} {a : Nat} (hx : ev T x = .int .u32 (a : Int)) (hy : ev T y = .int .u32 1) (ha : a < 4294967296) :
    OpQ P ⟨dst, .binOp .andNot t x y u, ty, pos, af, g⟩ T H (.int .u32 ((a / 2 * 2 : Nat) : Int)) [] := by
  refine (q_int hx hy rfl).cast (congrArg _ ?_)
  have e : (BitVec.ofInt IntKind.u32.bits (a : Int) &&& ~~~BitVec.ofInt IntKind.u32.bits 1).toNat = a / 2 * 2 := by
    rw [BitVec.toNat_and, ofInt_nat (n := IntKind.u32.bits) ha]
    exact and_even ha
  rw [e]
  exact wrapU_in .u32 rfl (by show _ < 4294967296; omega)
theorem or1 (k : Nat) : k / 2 * 2 ||| 1 = k / 2 * 2 + 1 := by
  have h := Nat.shiftLeft_add_eq_or_of_lt (i := 1) (b := 1) (by decide) (k / 2)
  rw [Nat.shiftLeft_eq] at h
  exact h.symm
theorem or1_div (a : Nat) : (a ||| 1) / 2 = a / 2 := by rw [Nat.or_div_two]; simp
theorem or1_mod (a : Nat) : (a ||| 1) % 2 = 1 := by rw [← Nat.and_one_is_mod, Nat.and_or_distrib_right]; rw [Nat.and_one_is_mod]; rcases Nat.mod_two_eq_zero_or_one a with h | h <;> rw [h] <;> rfl
theorem or1_eq {a b : Nat} : a ||| 1 = b ||| 1 ↔ a / 2 = b / 2 := by
  constructor
  · intro h; rw [← or1_div a, h, or1_div]
  · intro h
    have h1 := or1_div a; have h2 := or1_div b; have h3 := or1_mod a; have h4 := or1_mod b
    omega
theorem or_set {ch : List Nat} {i h : Nat} (hi : i < ch.length) : (((nth (ch.set i (h / 2 * 2)) i ||| 1 : Nat)) : Int) = ((h / 2 * 2 + 1 : Nat) : Int) := by
  rw [nth_setN, if_pos ⟨rfl, hi⟩, or1]
def blN (names : List ByteArray) (nw sh : Nat) : Nat → List Nat
  | 0 => List.replicate nw 0
  | i + 1 => (blN names nw sh i).set (gh (nth names i) / 64 % nw) (nth (blN names nw sh i) (gh (nth names i) / 64 % nw) ||| bitV (gh (nth names i)) sh)
def bkN (names : List ByteArray) (nb f : Nat) : Nat → List Nat
  | 0 => List.replicate nb 0
  | i + 1 => if nth (bkN names nb f i) (gkey names nb i) = 0 then (bkN names nb f i).set (gkey names nb i) (f + i) else bkN names nb f i
def lastB (names : List ByteArray) (nb i : Nat) : Prop := i + 1 = names.length ∨ gkey names nb (i + 1) ≠ gkey names nb i
instance (names : List ByteArray) (nb i : Nat) : Decidable (lastB names nb i) := inferInstanceAs (Decidable (_ ∨ _))
def chV (names : List ByteArray) (nb i : Nat) : Nat := gh (nth names i) / 2 * 2 + if lastB names nb i then 1 else 0
def chN (names : List ByteArray) (nb : Nat) : Nat → List Nat
  | 0 => List.replicate names.length 0
  | i + 1 => (chN names nb i).set i (chV names nb i)
section
variable {names : List ByteArray} {nw sh nb f i : Nat}
theorem blN_len : ∀ i, (blN names nw sh i).length = nw
  | 0 => List.length_replicate
  | i + 1 => by rw [blN, List.length_set, blN_len i]
theorem bkN_len : ∀ i, (bkN names nb f i).length = nb
  | 0 => List.length_replicate
  | i + 1 => by rw [bkN]; split; rw [List.length_set, bkN_len i]; exact bkN_len i
theorem chN_len : ∀ i, (chN names nb i).length = names.length
  | 0 => List.length_replicate
  | i + 1 => by rw [chN, List.length_set, chN_len i]
theorem nth_lt_of {l : List Nat} {M i : Nat} (h : ∀ x ∈ l, x < M) (hM : 0 < M) : nth l i < M := by
  by_cases e : i < l.length
  · exact h _ (nthS_mem e)
  · unfold nth; rw [List.getD_eq_getElem?_getD, List.getElem?_eq_none (by omega)]; exact hM
theorem blN_w : ∀ i, ∀ x ∈ blN names nw sh i, x < 18446744073709551616
  | 0, x, hx => by rw [List.eq_of_mem_replicate (show x ∈ List.replicate nw 0 from hx)]; decide
  | i + 1, x, hx => by
    rcases List.mem_or_eq_of_mem_set (show x ∈ (blN names nw sh i).set _ _ from hx) with hx | rfl
    · exact blN_w i x hx
    · exact Nat.or_lt_two_pow (n := 64) (nth_lt_of (blN_w i) (by decide)) (bitV_lt _ _)
theorem bkN_w (h : f + i ≤ 1000) : ∀ x ∈ bkN names nb f i, x < 1000 := by
  induction i with
  | zero => intro x hx; rw [List.eq_of_mem_replicate (show x ∈ List.replicate nb 0 from hx)]; decide
  | succ i ih =>
    intro x hx
    rw [bkN] at hx
    split at hx
    · rcases List.mem_or_eq_of_mem_set hx with hx | rfl
      · exact ih (by omega) x hx
      · omega
    · exact ih (by omega) x hx
theorem chV_lt : chV names nb i < 4294967296 := by have := gh_lt (nth names i); unfold chV; split <;> omega
theorem chN_w : ∀ i, ∀ x ∈ chN names nb i, x < 4294967296
  | 0, x, hx => by rw [List.eq_of_mem_replicate (show x ∈ List.replicate names.length 0 from hx)]; decide
  | i + 1, x, hx => by
    rcases List.mem_or_eq_of_mem_set (show x ∈ (chN names nb i).set _ _ from hx) with hx | rfl
    · exact chN_w i x hx
    · exact chV_lt
theorem bl_step {bl : List Nat} (hb : bl = blN names nw sh i) (hl : bl.length = nw) : bl.set (gh (nth names i) / 64 % bl.length) (nth bl (gh (nth names i) / 64 % bl.length) ||| bitV (gh (nth names i)) sh) = blN names nw sh (i + 1) := by rw [hl]; subst hb; rfl
theorem bk_y {bk : List Nat} (hb : bk = bkN names nb f i) (h0 : nth bk (gh (nth names i) % nb) = 0) : bk.set (gh (nth names i) % nb) (f + i) = bkN names nb f (i + 1) := by subst hb; exact (if_pos (c := nth (bkN names nb f i) (gkey names nb i) = 0) h0).symm
theorem bk_n {bk : List Nat} (hb : bk = bkN names nb f i) (h0 : ¬ nth bk (gh (nth names i) % nb) = 0) : bk = bkN names nb f (i + 1) := by subst hb; exact (if_neg (c := nth (bkN names nb f i) (gkey names nb i) = 0) h0).symm
theorem ch_1 {ch : List Nat} (hb : ch = chN names nb i) (h : lastB names nb i) : (ch.set i (gh (nth names i) / 2 * 2)).set i (gh (nth names i) / 2 * 2 + 1) = chN names nb (i + 1) := by subst hb; rw [List.set_set, chN, chV, if_pos h]
theorem ch_0 {ch : List Nat} (hb : ch = chN names nb i) (h : ¬ lastB names nb i) : ch.set i (gh (nth names i) / 2 * 2) = chN names nb (i + 1) := by subst hb; rw [chN, chV, if_neg h]; rfl
end
set_option maxRecDepth 100000 in
set_option maxHeartbeats 4000000 in
theorem word_ok {H0 : AHeap} (f sh : Nat) (vb vk vc : Value) (lb lk lc : List Nat) (hb : Sl u64v H0 vb lb) (hk : Sl u32v H0 vk lk) (hc : Sl u32v H0 vc lc) (h : Nat) (hh : h < 4294967296) (h0 : 0 < lb.length) (hl : lb.length < 4294967296) : ACalls Try.prog 26 [.agg #[.int .u32 ((f : Nat) : Int), .int .u32 ((sh : Nat) : Int), vb, vk, vc], .int .u32 ((h : Nat) : Int)] H0 (Rets (.tuple #[.int .i64 ((h / 64 % lb.length : Nat) : Int), .int .u64 ((bitV h sh : Nat) : Int)]) H0) := by
  have hF : Wd Fence.wide := .inl rfl
  have hM : Try.prog.follows .mixedOrders = true := by kernel_rfl
  have hm := Nat.mod_lt (h / 64) h0
  have s0 := St.begin H0
  refine acalls_st Try.func26 rfl Try.ntmps26 rfl ?_
  refine awp_seq ?_
  refine awp_regs hF ?_
  refine x_new (fun b => .pointer (some ⟨b, 0, none⟩)) s0 (gyes_none rfl) (q_box (v := .agg #[.int .u32 ((f : Nat) : Int), .int .u32 ((sh : Nat) : Int), vb, vk, vc]) (vs := [.int .u32 ((f : Nat) : Int), .int .u32 ((sh : Nat) : Int), vb, vk, vc]) 5 rfl (by exact trivial) rfl) rfl (by decide) (cok1 trivial) (fun b1 H2 hb4 s3 => ?_)
  refine dv (gyes_none rfl) (q_as (v := .int .i64 0) rfl) rfl (by decide) (cok1 (cconst rfl)) ?_
  refine dv (gyes_none rfl) (q_as (v := .int .u64 0) rfl) rfl (by decide) (cok1 (cconst rfl)) ?_
  refine ⟨_, Wk.refl _ _, ?_⟩
  show awp _ _ _ _ _ _ _
  refine awp_seq ?_
  refine awp_regt hF hM (by kernel_rfl) (by kernel_rfl) ?_
  refine dv (gyes_none rfl) (q_mv (v := .int .u32 ((h : Nat) : Int)) rfl) rfl (by decide) (cok1 trivial) ?_
  refine dv (gyes_none rfl) (q_quoM (a := h) (b := 64) rfl rfl (by first | decide | omega) (u32_in (by have := div_le_of (a := h) (b := 64) (M := 4294967295) (by omega); omega))) rfl (by decide) (cok2 trivial (cconst rfl)) ?_
  refine dv (gyes_none rfl) (q_field Try.underlying31 rfl Try.sizeOf28 rfl (s3.rd (j := 0) rfl)) rfl (by decide) (cok1 trivial) ?_
  refine dv (gyes_none rfl) (q_load (v := vb) Try.isAgg28 rfl (s3.rd (j := 0) rfl) rfl) rfl (by decide) (cok1 trivial) ?_
  refine dv (gyes_none rfl) (q_len_sl (l := lb) Try.underlying28 (s3.sl hb) rfl) rfl (by decide) (cok1 trivial) ?_
  refine dv (gyes_none rfl) (q_convin (a := ((lb.length : Nat) : Int)) Try.underlying3 Try.underlying27 rfl (u32_in (by omega))) rfl (by decide) (cok1 trivial) ?_
  refine dv (gyes_none rfl) (q_remM (a := (h / 64)) (b := lb.length) rfl rfl h0) rfl (by decide) (cok2 trivial trivial) ?_
  refine dv (gyes_none rfl) (q_convin (a := (((h / 64) % lb.length : Nat) : Int)) Try.underlying27 Try.underlying3 rfl (i64_in (by omega))) rfl (by decide) (cok1 trivial) ?_
  refine dv (gyes_none rfl) (q_mv (v := .int .u32 ((h : Nat) : Int)) rfl) rfl (by decide) (cok1 trivial) ?_
  refine dv (gyes_none rfl) (q_remM (a := h) (b := 64) rfl rfl (by first | decide | omega)) rfl (by decide) (cok2 trivial (cconst rfl)) ?_
  refine dv (gyes_none rfl) (q_shlN (a := 1) (c := (h % 64)) rfl rfl rfl (by show _ ≤ 64; omega) (one_shl (by omega))) rfl (by decide) (cok2 (cconst rfl) trivial) ?_
  refine dv (gyes_none rfl) (q_mv (v := .int .u32 ((h : Nat) : Int)) rfl) rfl (by decide) (cok1 trivial) ?_
  refine dv (gyes_none rfl) (q_field Try.underlying31 rfl Try.sizeOf27 rfl (s3.rd (j := 0) rfl)) rfl (by decide) (cok1 trivial) ?_
  refine dv (gyes_none rfl) (q_load (v := .int .u32 ((sh : Nat) : Int)) Try.isAgg27 rfl (s3.rd (j := 0) rfl) rfl) rfl (by decide) (cok1 trivial) ?_
  refine dv (gyes_none rfl) (q_shrN (a := h) (c := sh) rfl rfl hh) rfl (by decide) (cok2 trivial trivial) ?_
  refine dv (gyes_none rfl) (q_remM (a := (h / 2 ^ sh)) (b := 64) rfl rfl (by first | decide | omega)) rfl (by decide) (cok2 trivial (cconst rfl)) ?_
  refine dv (gyes_none rfl) (q_shlN (a := 1) (c := ((h / 2 ^ sh) % 64)) rfl rfl rfl (by show _ ≤ 64; omega) (one_shl (by omega))) rfl (by decide) (cok2 (cconst rfl) trivial) ?_
  refine dv (gyes_none rfl) (q_orN (a := (1 * 2 ^ (h % 64))) (b := (1 * 2 ^ ((h / 2 ^ sh) % 64))) rfl rfl rfl (one_shl (by omega)) (one_shl (by omega))) rfl (by decide) (cok2 trivial trivial) ?_
  refine dv (gyes_none rfl) (q_as (v := .int .i64 (((h / 64) % lb.length : Nat) : Int)) rfl) rfl (by decide) (cok1 trivial) ?_
  refine dv (gyes_none rfl) (q_as (v := .int .u64 (((1 * 2 ^ (h % 64)) ||| (1 * 2 ^ ((h / 2 ^ sh) % 64)) : Nat) : Int)) rfl) rfl (by decide) (cok1 trivial) ?_
  refine ⟨_, Wk.refl _ _, ?_⟩
  show awp _ _ _ _ _ _ _
  refine awp_ret_wk ?_
  refine ⟨_, Wk.refl _ _, ?_⟩
  repeat (with_reducible first | refine then_ret ?_ | refine blk_ret ?_ | refine then_exit ?_ | refine blk_exit ?_ | refine blk_exit' (by decide) ?_ | refine blk_normal ?_ | refine then_normal ?_ | refine retq_ret ?_ | refine retq_normal ?_ | refine ng_normal ?_ | refine ng_ret ?_ | refine ng_exit ?_)
  exact ret_none (v := .tuple #[.int .i64 (((h / 64) % lb.length : Nat) : Int), .int .u64 (((1 * 2 ^ (h % 64)) ||| (1 * 2 ^ ((h / 2 ^ sh) % 64)) : Nat) : Int)]) rfl s3.kp (.tmp rfl (.tmp rfl .nil)) rfl rfl ⟨rfl, rfl⟩
set_option maxRecDepth 100000 in
set_option maxHeartbeats 4000000 in
theorem may_ok {H0 : AHeap} (f sh : Nat) (vb vk vc : Value) (lb lk lc : List Nat) (hb : Sl u64v H0 vb lb) (hk : Sl u32v H0 vk lk) (hc : Sl u32v H0 vc lc) (s : ByteArray) (hs : s.size ≤ 140737488355328) (hl : lb.length < 4294967296) (hw : ∀ x ∈ lb, x < 18446744073709551616) : ACalls Try.prog 12 [.agg #[.int .u32 ((f : Nat) : Int), .int .u32 ((sh : Nat) : Int), vb, vk, vc], .string s] H0 (Rets (.bool (mayV lb sh (gh s))) H0) := by
  have hF : Wd Fence.wide := .inl rfl
  have hM : Try.prog.follows .mixedOrders = true := by kernel_rfl
  have s0 := St.begin H0
  refine acalls_st Try.func12 rfl Try.ntmps12 rfl ?_
  refine awp_seq ?_
  refine awp_regs hF ?_
  refine x_new (fun b => .pointer (some ⟨b, 0, none⟩)) s0 (gyes_none rfl) (q_box (v := .agg #[.int .u32 ((f : Nat) : Int), .int .u32 ((sh : Nat) : Int), vb, vk, vc]) (vs := [.int .u32 ((f : Nat) : Int), .int .u32 ((sh : Nat) : Int), vb, vk, vc]) 5 rfl (by exact trivial) rfl) rfl (by decide) (cok1 trivial) (fun b1 H2 hb4 s3 => ?_)
  refine dv (gyes_none rfl) (q_as (v := .bool false) rfl) rfl (by decide) (cok1 (cconst rfl)) ?_
  refine ⟨_, Wk.refl _ _, ?_⟩
  show awp _ _ _ _ _ _ _
  refine awp_seq ?_
  refine awp_seq ?_
  refine awp_regs hF ?_
  refine dv (gyes_none rfl) (q_field Try.underlying31 rfl Try.sizeOf28 rfl (s3.rd (j := 0) rfl)) rfl (by decide) (cok1 trivial) ?_
  refine dv (gyes_none rfl) (q_load (v := vb) Try.isAgg28 rfl (s3.rd (j := 0) rfl) rfl) rfl (by decide) (cok1 trivial) ?_
  refine dv (gyes_none rfl) (q_len_sl (l := lb) Try.underlying28 (s3.sl hb) rfl) rfl (by decide) (cok1 trivial) ?_
  refine dvb (gyes_none rfl) (q_int rfl rfl rfl) rfl (by decide) (cok2 trivial (cconst rfl)) (fun c1 => ?_) (fun c1 => ?_)
  ·
    replace c1 := eq_of_beq c1
    refine ⟨_, Wk.refl _ _, ?_⟩
    show awp _ _ _ _ _ _ _
    refine awp_cond_t rfl ?_
    refine awp_seq ?_
    refine awp_regs hF ?_
    refine dv (gyes_none rfl) (q_as (v := .bool false) rfl) rfl (by decide) (cok1 (cconst rfl)) ?_
    refine ⟨_, Wk.refl _ _, ?_⟩
    show awp _ _ _ _ _ _ _
    refine awp_ret_wk ?_
    refine ⟨_, Wk.refl _ _, ?_⟩
    repeat (with_reducible first | refine then_ret ?_ | refine blk_ret ?_ | refine then_exit ?_ | refine blk_exit ?_ | refine blk_exit' (by decide) ?_ | refine blk_normal ?_ | refine then_normal ?_ | refine retq_ret ?_ | refine retq_normal ?_ | refine ng_normal ?_ | refine ng_ret ?_ | refine ng_exit ?_)
    exact ret_none (v := .bool false) rfl s3.kp (.tmp rfl .nil) rfl rfl ⟨congrArg _ (by unfold mayV; rw [if_pos (by omega)]), rfl⟩
  ·
    replace c1 := ne_of_beq_false c1
    refine ⟨_, Wk.refl _ _, ?_⟩
    show awp _ _ _ _ _ _ _
    refine awp_cond_f rfl ?_
    refine awp_skip_wk ?_
    refine ⟨_, Wk.refl _ _, ?_⟩
    show awp _ _ _ _ _ _ _
    refine awp_seq ?_
    refine awp_regt hF hM (by kernel_rfl) (by kernel_rfl) ?_
    refine dv (gyes_none rfl) (q_loadAgg Try.isAgg31 Try.sizeOf31 rfl (s3.rd (j := 0) rfl) (Nat.le_of_ble_eq_true rfl) rfl) rfl (by decide) (cok1 trivial) ?_
    refine dv (gyes_none rfl) (q_mv (v := .string s) rfl) rfl (by decide) (cok1 trivial) ?_
    refine dv (gyes_none rfl) (q_call0 Try.call19 rfl (hash_ok s hs)) rfl (by decide) (cok2 trivial trivial) ?_
    refine dv (gyes_none rfl) (q_call0 Try.call26 rfl (word_ok f sh _ _ _ lb lk lc (s3.sl hb) (s3.sl hk) (s3.sl hc) (gh s) (by first | assumption | exact gh_lt _) (by omega) (by omega))) rfl (by decide) (call_ok rfl) ?_
    refine dv (gyes_none rfl) (q_mv (v := .tuple #[.int .i64 (((gh s) / 64 % lb.length : Nat) : Int), .int .u64 ((bitV (gh s) sh : Nat) : Int)]) rfl) rfl (by decide) (cok1 trivial) ?_
    refine dv (gyes_none rfl) (q_extract (v := .int .i64 (((gh s) / 64 % lb.length : Nat) : Int)) rfl rfl) rfl (by decide) (cok1 trivial) ?_
    refine dv (gyes_none rfl) (q_extract (v := .int .u64 ((bitV (gh s) sh : Nat) : Int)) rfl rfl) rfl (by decide) (cok1 trivial) ?_
    refine dv (gyes_none rfl) (q_as (v := .int .i64 (((gh s) / 64 % lb.length : Nat) : Int)) rfl) rfl (by decide) (cok1 trivial) ?_
    refine dv (gyes_none rfl) (q_as (v := .int .u64 ((bitV (gh s) sh : Nat) : Int)) rfl) rfl (by decide) (cok1 trivial) ?_
    refine ⟨_, Wk.refl _ _, ?_⟩
    show awp _ _ _ _ _ _ _
    refine awp_seq ?_
    have hm := Nat.mod_lt (gh s / 64) (show 0 < lb.length by omega)
    refine awp_regs hF ?_
    refine dv (gyes_none rfl) (q_field Try.underlying31 rfl Try.sizeOf28 rfl (s3.rd (j := 0) rfl)) rfl (by decide) (cok1 trivial) ?_
    refine dv (gyes_none rfl) (q_load (v := vb) Try.isAgg28 rfl (s3.rd (j := 0) rfl) rfl) rfl (by decide) (cok1 trivial) ?_
    refine dv (gyes_none rfl) (q_mv (v := .int .i64 (((gh s) / 64 % lb.length : Nat) : Int)) rfl) rfl (by decide) (cok1 trivial) ?_
    refine dv (gyes_none rfl) (q_index_sl (l := lb) (i := ((gh s) / 64 % lb.length)) Try.underlying28 Try.sizeOf45 (s3.sl hb) rfl rfl (by omega)) rfl (by decide) (cok2 trivial trivial) ?_
    refine dv (gyes_none rfl) (q_load_sl (l := lb) (i := ((gh s) / 64 % lb.length)) Try.isAgg45 (s3.sl hb) rfl (by omega)) rfl (by decide) (cok1 trivial) ?_
    refine dv (gyes_none rfl) (q_mv (v := .int .u64 ((bitV (gh s) sh : Nat) : Int)) rfl) rfl (by decide) (cok1 trivial) ?_
    refine dv (gyes_none rfl) (q_andN (a := (nth lb ((gh s) / 64 % lb.length))) (b := (bitV (gh s) sh)) rfl rfl rfl (hw _ (nthS_mem hm)) (bitV_lt _ _)) rfl (by decide) (cok2 trivial trivial) ?_
    refine dv (gyes_none rfl) (q_mv (v := .int .u64 ((bitV (gh s) sh : Nat) : Int)) rfl) rfl (by decide) (cok1 trivial) ?_
    refine dv (gyes_none rfl) (q_int rfl rfl rfl) rfl (by decide) (cok2 trivial trivial) ?_
    refine dv (gyes_none rfl) (q_as (v := .bool (((((nth lb ((gh s) / 64 % lb.length)) &&& (bitV (gh s) sh) : Nat) : Int) : Int) == ((bitV (gh s) sh : Nat) : Int))) rfl) rfl (by decide) (cok1 trivial) ?_
    refine ⟨_, Wk.refl _ _, ?_⟩
    show awp _ _ _ _ _ _ _
    refine awp_ret_wk ?_
    refine ⟨_, Wk.refl _ _, ?_⟩
    repeat (with_reducible first | refine then_ret ?_ | refine blk_ret ?_ | refine then_exit ?_ | refine blk_exit ?_ | refine blk_exit' (by decide) ?_ | refine blk_normal ?_ | refine then_normal ?_ | refine retq_ret ?_ | refine retq_normal ?_ | refine ng_normal ?_ | refine ng_ret ?_ | refine ng_exit ?_)
    exact ret_none (v := .bool (((((nth lb ((gh s) / 64 % lb.length)) &&& (bitV (gh s) sh) : Nat) : Int) : Int) == ((bitV (gh s) sh : Nat) : Int))) rfl s3.kp (.tmp rfl .nil) rfl rfl ⟨congrArg _ (by unfold mayV; rw [if_neg (by omega)]; exact beq_cast _ _), rfl⟩
set_option maxRecDepth 100000 in
set_option maxHeartbeats 4000000 in
theorem symbols_ok {H0 : AHeap} (f sh : Nat) (vb vk vc : Value) (lb lk lc : List Nat) (hb : Sl u64v H0 vb lb) (hk : Sl u32v H0 vk lk) (hc : Sl u32v H0 vc lc) (hf : f ≤ 1000) (hl : lc.length ≤ 1000000) : ACalls Try.prog 18 [.agg #[.int .u32 ((f : Nat) : Int), .int .u32 ((sh : Nat) : Int), vb, vk, vc]] H0 (Rets (.int .i64 ((f + lc.length : Nat) : Int)) H0) := by
  have hF : Wd Fence.wide := .inl rfl
  have hM : Try.prog.follows .mixedOrders = true := by kernel_rfl
  have s0 := St.begin H0
  refine acalls_st Try.func18 rfl Try.ntmps18 rfl ?_
  refine awp_seq ?_
  refine awp_regs hF ?_
  refine x_new (fun b => .pointer (some ⟨b, 0, none⟩)) s0 (gyes_none rfl) (q_box (v := .agg #[.int .u32 ((f : Nat) : Int), .int .u32 ((sh : Nat) : Int), vb, vk, vc]) (vs := [.int .u32 ((f : Nat) : Int), .int .u32 ((sh : Nat) : Int), vb, vk, vc]) 5 rfl (by exact trivial) rfl) rfl (by decide) (cok1 trivial) (fun b1 H2 hb4 s3 => ?_)
  refine dv (gyes_none rfl) (q_as (v := .int .i64 0) rfl) rfl (by decide) (cok1 (cconst rfl)) ?_
  refine ⟨_, Wk.refl _ _, ?_⟩
  show awp _ _ _ _ _ _ _
  refine awp_seq ?_
  refine awp_regs hF ?_
  refine dv (gyes_none rfl) (q_field Try.underlying31 rfl Try.sizeOf27 rfl (s3.rd (j := 0) rfl)) rfl (by decide) (cok1 trivial) ?_
  refine dv (gyes_none rfl) (q_load (v := .int .u32 ((f : Nat) : Int)) Try.isAgg27 rfl (s3.rd (j := 0) rfl) rfl) rfl (by decide) (cok1 trivial) ?_
  refine dv (gyes_none rfl) (q_convin (a := ((f : Nat) : Int)) Try.underlying27 Try.underlying3 rfl (i64_in (by omega))) rfl (by decide) (cok1 trivial) ?_
  refine dv (gyes_none rfl) (q_field Try.underlying31 rfl Try.sizeOf29 rfl (s3.rd (j := 0) rfl)) rfl (by decide) (cok1 trivial) ?_
  refine dv (gyes_none rfl) (q_load (v := vc) Try.isAgg29 rfl (s3.rd (j := 0) rfl) rfl) rfl (by decide) (cok1 trivial) ?_
  refine dv (gyes_none rfl) (q_len_sl (l := lc) Try.underlying29 (s3.sl hc) rfl) rfl (by decide) (cok1 trivial) ?_
  refine dv (gyes_none rfl) (OpQ.cast (v' := .int .i64 ((f + lc.length : Nat) : Int)) (q_int rfl rfl rfl) (congrArg _ ((i64_in (by omega)).trans (by first | rfl | omega | (push_cast; rfl))))) rfl (by decide) (cok2 trivial trivial) ?_
  refine dv (gyes_none rfl) (q_as (v := .int .i64 ((f + lc.length : Nat) : Int)) rfl) rfl (by decide) (cok1 trivial) ?_
  refine ⟨_, Wk.refl _ _, ?_⟩
  show awp _ _ _ _ _ _ _
  refine awp_ret_wk ?_
  refine ⟨_, Wk.refl _ _, ?_⟩
  repeat (with_reducible first | refine then_ret ?_ | refine blk_ret ?_ | refine then_exit ?_ | refine blk_exit ?_ | refine blk_exit' (by decide) ?_ | refine blk_normal ?_ | refine then_normal ?_ | refine retq_ret ?_ | refine retq_normal ?_ | refine ng_normal ?_ | refine ng_ret ?_ | refine ng_exit ?_)
  exact ret_none (v := .int .i64 ((f + lc.length : Nat) : Int)) rfl s3.kp (.tmp rfl .nil) rfl rfl ⟨rfl, rfl⟩
set_option maxRecDepth 100000 in
set_option maxHeartbeats 4000000 in
theorem plain_ok {H0 : AHeap} (f sh : Nat) (vb vk vc : Value) (lb lk lc : List Nat) (hb : Sl u64v H0 vb lb) (hk : Sl u32v H0 vk lk) (hc : Sl u32v H0 vc lc) : ACalls Try.prog 11 [.agg #[.int .u32 ((f : Nat) : Int), .int .u32 ((sh : Nat) : Int), vb, vk, vc]] H0 (Rets (.agg #[.int .u32 ((f : Nat) : Int), .int .u32 ((sh : Nat) : Int), vb, vk, vc]) H0) := by
  have hF : Wd Fence.wide := .inl rfl
  have hM : Try.prog.follows .mixedOrders = true := by kernel_rfl
  have s0 := St.begin H0
  refine acalls_st Try.func11 rfl Try.ntmps11 rfl ?_
  refine awp_seq ?_
  refine awp_regs hF ?_
  refine x_new (fun b => .pointer (some ⟨b, 0, none⟩)) s0 (gyes_none rfl) (q_box (v := .agg #[.int .u32 ((f : Nat) : Int), .int .u32 ((sh : Nat) : Int), vb, vk, vc]) (vs := [.int .u32 ((f : Nat) : Int), .int .u32 ((sh : Nat) : Int), vb, vk, vc]) 5 rfl (by exact trivial) rfl) rfl (by decide) (cok1 trivial) (fun b1 H2 hb4 s3 => ?_)
  refine x_new (fun b => .pointer (some ⟨b, 0, none⟩)) s3 (gyes_none rfl) (q_alloc (vs := [.int .u32 0, .int .u32 0, .slice none 0 0, .slice none 0 0, .slice none 0 0]) 5 Try.zeroValue35 (by first | exact flat_scalar rfl | exact flat_agg rfl) rfl) rfl (by decide) (by simp [Op.operands, Call.operands]) (fun b5 H6 hb8 s7 => ?_)
  refine ⟨_, Wk.refl _ _, ?_⟩
  show awp _ _ _ _ _ _ _
  refine awp_seq ?_
  refine awp_regs hF ?_
  refine dv (gyes_none rfl) (q_field Try.underlying31 rfl Try.sizeOf27 rfl (s7.rd (j := 1) rfl)) rfl (by decide) (cok1 trivial) ?_
  refine dv (gyes_none rfl) (q_load (v := .int .u32 ((f : Nat) : Int)) Try.isAgg27 rfl (s7.rd (j := 1) rfl) rfl) rfl (by decide) (cok1 trivial) ?_
  refine dv (gyes_none rfl) (q_field Try.underlying31 rfl Try.sizeOf27 rfl (s7.rd (j := 1) rfl)) rfl (by decide) (cok1 trivial) ?_
  refine dv (gyes_none rfl) (q_load (v := .int .u32 ((sh : Nat) : Int)) Try.isAgg27 rfl (s7.rd (j := 1) rfl) rfl) rfl (by decide) (cok1 trivial) ?_
  refine dv (gyes_none rfl) (q_field Try.underlying31 rfl Try.sizeOf28 rfl (s7.rd (j := 1) rfl)) rfl (by decide) (cok1 trivial) ?_
  refine dv (gyes_none rfl) (q_load (v := vb) Try.isAgg28 rfl (s7.rd (j := 1) rfl) rfl) rfl (by decide) (cok1 trivial) ?_
  refine dv (gyes_none rfl) (q_field Try.underlying31 rfl Try.sizeOf29 rfl (s7.rd (j := 1) rfl)) rfl (by decide) (cok1 trivial) ?_
  refine dv (gyes_none rfl) (q_load (v := vk) Try.isAgg29 rfl (s7.rd (j := 1) rfl) rfl) rfl (by decide) (cok1 trivial) ?_
  refine dv (gyes_none rfl) (q_field Try.underlying31 rfl Try.sizeOf29 rfl (s7.rd (j := 1) rfl)) rfl (by decide) (cok1 trivial) ?_
  refine dv (gyes_none rfl) (q_load (v := vc) Try.isAgg29 rfl (s7.rd (j := 1) rfl) rfl) rfl (by decide) (cok1 trivial) ?_
  refine dv (gyes_none rfl) (q_buildL (ds := [.int .u32 ((f : Nat) : Int), .int .u32 ((sh : Nat) : Int), vb, vk, vc]) [(0, 1), (1, 1), (2, 1), (3, 1), (4, 1)] [.int .u32 ((f : Nat) : Int), .int .u32 ((sh : Nat) : Int), vb, vk, vc] Try.underlying35 Try.zeroValue35 (by first | exact flat_agg rfl | exact flat_scalar rfl) (by kernel_rfl) ⟨rfl, rfl, rfl, rfl, rfl, trivial⟩ (lvsC (by exact trivial) (lvsC (by exact trivial) (lvsC (Sl.lc (s7.sl hb)).1 (lvsC (Sl.lc (s7.sl hk)).1 (lvsC (Sl.lc (s7.sl hc)).1 lvs0))))) (by show fillL (fun i => [(0, 1), (1, 1), (2, 1), (3, 1), (4, 1)][i]?) [.int .u32 0, .int .u32 0, .slice none 0 0, .slice none 0 0, .slice none 0 0] [(0, .int .u32 ((f : Nat) : Int)), (1, .int .u32 ((sh : Nat) : Int)), (2, vb), (3, vk), (4, vc)] = _; simp only [fillL, Sl.cells (s7.sl hb), Sl.cells (s7.sl hk), Sl.cells (s7.sl hc)]; rfl)) rfl (by decide) (call_ok rfl) ?_
  refine x_store [] hF s7 (by kernel_rfl) (gyes_none rfl) (j := 0) (v := .agg #[.int .u32 ((f : Nat) : Int), .int .u32 ((sh : Nat) : Int), vb, vk, vc]) rfl Try.sizeOf35 rfl rfl rfl rfl rfl trivial (lcsA ⟨(lc_scalar rfl), (lc_scalar rfl), (Sl.lc (s7.sl hb)), (Sl.lc (s7.sl hk)), (Sl.lc (s7.sl hc)), trivial⟩) (Nat.le_of_ble_eq_true rfl) trivial trivial rfl rfl (F' := [(b5, .cells true [.int .u32 ((f : Nat) : Int), .int .u32 ((sh : Nat) : Int), vb, vk, vc] 5), (b1, .cells true [.int .u32 ((f : Nat) : Int), .int .u32 ((sh : Nat) : Int), vb, vk, vc] 5)]) rfl (fun H9 s10 => ⟨?_, ?_⟩)
  · exact trivial
  refine ⟨_, Wk.refl _ _, ?_⟩
  show awp _ _ _ _ _ _ _
  refine awp_ret_wk ?_
  refine ⟨_, Wk.refl _ _, ?_⟩
  repeat (with_reducible first | refine then_ret ?_ | refine blk_ret ?_ | refine then_exit ?_ | refine blk_exit ?_ | refine blk_exit' (by decide) ?_ | refine blk_normal ?_ | refine then_normal ?_ | refine retq_ret ?_ | refine retq_normal ?_ | refine ng_normal ?_ | refine ng_ret ?_ | refine ng_exit ?_)
  exact ret_noneV (v := .agg #[.int .u32 ((f : Nat) : Int), .int .u32 ((sh : Nat) : Int), vb, vk, vc]) rfl s10.kp (.agg rfl Try.isAgg35 Try.sizeOf35 (s10.rd (j := 0) rfl) (Nat.le_of_ble_eq_true rfl) rfl .nil) rfl (vsub_aggL ⟨.scalar rfl, .scalar rfl, hb.vsub, hk.vsub, hc.vsub, trivial⟩) ⟨rfl, rfl⟩
set_option maxRecDepth 100000 in
set_option maxHeartbeats 4000000 in
theorem same_ok {H0 : AHeap} (f sh : Nat) (vb vk vc : Value) (lb lk lc : List Nat) (hb : Sl u64v H0 vb lb) (hk : Sl u32v H0 vk lk) (hc : Sl u32v H0 vc lc) (wb wk wc : Value) (hwb : Sl u64v H0 wb lb) (hwk : Sl u32v H0 wk lk) (hwc : Sl u32v H0 wc lc) (hl1 : lb.length ≤ 1000000) (hl2 : lk.length ≤ 1000000) (hl3 : lc.length ≤ 1000000) : ACalls Try.prog 10 [.agg #[.int .u32 ((f : Nat) : Int), .int .u32 ((sh : Nat) : Int), vb, vk, vc], .agg #[.int .u32 ((f : Nat) : Int), .int .u32 ((sh : Nat) : Int), wb, wk, wc]] H0 (Rets (.bool true) H0) := by
  have hF : Wd Fence.wide := .inl rfl
  have hM : Try.prog.follows .mixedOrders = true := by kernel_rfl
  have s0 := St.begin H0
  refine acalls_st Try.func10 rfl Try.ntmps10 rfl ?_
  refine awp_seq ?_
  refine awp_regs hF ?_
  refine x_new (fun b => .pointer (some ⟨b, 0, none⟩)) s0 (gyes_none rfl) (q_box (v := .agg #[.int .u32 ((f : Nat) : Int), .int .u32 ((sh : Nat) : Int), vb, vk, vc]) (vs := [.int .u32 ((f : Nat) : Int), .int .u32 ((sh : Nat) : Int), vb, vk, vc]) 5 rfl (by exact trivial) rfl) rfl (by decide) (cok1 trivial) (fun b1 H2 hb4 s3 => ?_)
  refine x_new (fun b => .pointer (some ⟨b, 0, none⟩)) s3 (gyes_none rfl) (q_box (v := .agg #[.int .u32 ((f : Nat) : Int), .int .u32 ((sh : Nat) : Int), wb, wk, wc]) (vs := [.int .u32 ((f : Nat) : Int), .int .u32 ((sh : Nat) : Int), wb, wk, wc]) 5 rfl (by exact trivial) rfl) rfl (by decide) (cok1 trivial) (fun b5 H6 hb8 s7 => ?_)
  refine dv (gyes_none rfl) (q_as (v := .bool false) rfl) rfl (by decide) (cok1 (cconst rfl)) ?_
  refine ⟨_, Wk.refl _ _, ?_⟩
  show awp _ _ _ _ _ _ _
  refine awp_seq ?_
  refine awp_seq ?_
  refine awp_regs hF ?_
  refine dv (gyes_none rfl) (q_field Try.underlying35 rfl Try.sizeOf27 rfl (s7.rd (j := 1) rfl)) rfl (by decide) (cok1 trivial) ?_
  refine dv (gyes_none rfl) (q_load (v := .int .u32 ((f : Nat) : Int)) Try.isAgg27 rfl (s7.rd (j := 1) rfl) rfl) rfl (by decide) (cok1 trivial) ?_
  refine dv (gyes_none rfl) (q_field Try.underlying35 rfl Try.sizeOf27 rfl (s7.rd (j := 0) rfl)) rfl (by decide) (cok1 trivial) ?_
  refine dv (gyes_none rfl) (q_load (v := .int .u32 ((f : Nat) : Int)) Try.isAgg27 rfl (s7.rd (j := 0) rfl) rfl) rfl (by decide) (cok1 trivial) ?_
  refine dv (gyes_none rfl) (OpQ.cast (v' := .bool false) (q_int rfl rfl rfl) (congrArg Value.bool (bne_self_eq_false _))) rfl (by decide) (cok2 trivial trivial) ?_
  refine dv (gyes_none rfl) (q_mv (v := .bool false) rfl) rfl (by decide) (cok1 trivial) ?_
  refine dv (gyes_some rfl rfl) (q_field Try.underlying35 rfl Try.sizeOf27 rfl (s7.rd (j := 1) rfl)) rfl (by decide) (cok1 trivial) ?_
  refine dv (gyes_some rfl rfl) (q_load (v := .int .u32 ((sh : Nat) : Int)) Try.isAgg27 rfl (s7.rd (j := 1) rfl) rfl) rfl (by decide) (cok1 trivial) ?_
  refine dv (gyes_some rfl rfl) (q_field Try.underlying35 rfl Try.sizeOf27 rfl (s7.rd (j := 0) rfl)) rfl (by decide) (cok1 trivial) ?_
  refine dv (gyes_some rfl rfl) (q_load (v := .int .u32 ((sh : Nat) : Int)) Try.isAgg27 rfl (s7.rd (j := 0) rfl) rfl) rfl (by decide) (cok1 trivial) ?_
  refine dv (gyes_some rfl rfl) (OpQ.cast (v' := .bool false) (q_int rfl rfl rfl) (congrArg Value.bool (bne_self_eq_false _))) rfl (by decide) (cok2 trivial trivial) ?_
  refine dv (gyes_none rfl) (q_pf (v := .bool false) rfl rfl) rfl (by decide) (call_ok rfl) ?_
  refine dv (gyes_none rfl) (q_mv (v := .bool false) rfl) rfl (by decide) (cok1 trivial) ?_
  refine dv (gyes_some rfl rfl) (q_field Try.underlying35 rfl Try.sizeOf28 rfl (s7.rd (j := 1) rfl)) rfl (by decide) (cok1 trivial) ?_
  refine dv (gyes_some rfl rfl) (q_load (v := vb) Try.isAgg28 rfl (s7.rd (j := 1) rfl) rfl) rfl (by decide) (cok1 trivial) ?_
  refine dv (gyes_some rfl rfl) (q_len_sl (l := lb) Try.underlying28 (s7.sl hb) rfl) rfl (by decide) (cok1 trivial) ?_
  refine dv (gyes_some rfl rfl) (q_field Try.underlying35 rfl Try.sizeOf28 rfl (s7.rd (j := 0) rfl)) rfl (by decide) (cok1 trivial) ?_
  refine dv (gyes_some rfl rfl) (q_load (v := wb) Try.isAgg28 rfl (s7.rd (j := 0) rfl) rfl) rfl (by decide) (cok1 trivial) ?_
  refine dv (gyes_some rfl rfl) (q_len_sl (l := lb) Try.underlying28 (s7.sl hwb) rfl) rfl (by decide) (cok1 trivial) ?_
  refine dv (gyes_some rfl rfl) (OpQ.cast (v' := .bool false) (q_int rfl rfl rfl) (congrArg Value.bool (bne_self_eq_false _))) rfl (by decide) (cok2 trivial trivial) ?_
  refine dv (gyes_none rfl) (q_pf (v := .bool false) rfl rfl) rfl (by decide) (call_ok rfl) ?_
  refine dv (gyes_none rfl) (q_mv (v := .bool false) rfl) rfl (by decide) (cok1 trivial) ?_
  refine dv (gyes_some rfl rfl) (q_field Try.underlying35 rfl Try.sizeOf29 rfl (s7.rd (j := 1) rfl)) rfl (by decide) (cok1 trivial) ?_
  refine dv (gyes_some rfl rfl) (q_load (v := vk) Try.isAgg29 rfl (s7.rd (j := 1) rfl) rfl) rfl (by decide) (cok1 trivial) ?_
  refine dv (gyes_some rfl rfl) (q_len_sl (l := lk) Try.underlying29 (s7.sl hk) rfl) rfl (by decide) (cok1 trivial) ?_
  refine dv (gyes_some rfl rfl) (q_field Try.underlying35 rfl Try.sizeOf29 rfl (s7.rd (j := 0) rfl)) rfl (by decide) (cok1 trivial) ?_
  refine dv (gyes_some rfl rfl) (q_load (v := wk) Try.isAgg29 rfl (s7.rd (j := 0) rfl) rfl) rfl (by decide) (cok1 trivial) ?_
  refine dv (gyes_some rfl rfl) (q_len_sl (l := lk) Try.underlying29 (s7.sl hwk) rfl) rfl (by decide) (cok1 trivial) ?_
  refine dv (gyes_some rfl rfl) (OpQ.cast (v' := .bool false) (q_int rfl rfl rfl) (congrArg Value.bool (bne_self_eq_false _))) rfl (by decide) (cok2 trivial trivial) ?_
  refine dv (gyes_none rfl) (q_pf (v := .bool false) rfl rfl) rfl (by decide) (call_ok rfl) ?_
  refine dv (gyes_none rfl) (q_mv (v := .bool false) rfl) rfl (by decide) (cok1 trivial) ?_
  refine dv (gyes_some rfl rfl) (q_field Try.underlying35 rfl Try.sizeOf29 rfl (s7.rd (j := 1) rfl)) rfl (by decide) (cok1 trivial) ?_
  refine dv (gyes_some rfl rfl) (q_load (v := vc) Try.isAgg29 rfl (s7.rd (j := 1) rfl) rfl) rfl (by decide) (cok1 trivial) ?_
  refine dv (gyes_some rfl rfl) (q_len_sl (l := lc) Try.underlying29 (s7.sl hc) rfl) rfl (by decide) (cok1 trivial) ?_
  refine dv (gyes_some rfl rfl) (q_field Try.underlying35 rfl Try.sizeOf29 rfl (s7.rd (j := 0) rfl)) rfl (by decide) (cok1 trivial) ?_
  refine dv (gyes_some rfl rfl) (q_load (v := wc) Try.isAgg29 rfl (s7.rd (j := 0) rfl) rfl) rfl (by decide) (cok1 trivial) ?_
  refine dv (gyes_some rfl rfl) (q_len_sl (l := lc) Try.underlying29 (s7.sl hwc) rfl) rfl (by decide) (cok1 trivial) ?_
  refine dv (gyes_some rfl rfl) (OpQ.cast (v' := .bool false) (q_int rfl rfl rfl) (congrArg Value.bool (bne_self_eq_false _))) rfl (by decide) (cok2 trivial trivial) ?_
  refine dv (gyes_none rfl) (q_pf (v := .bool false) rfl rfl) rfl (by decide) (call_ok rfl) ?_
  refine ⟨_, Wk.refl _ _, ?_⟩
  show awp _ _ _ _ _ _ _
  refine awp_cond_f rfl ?_
  refine awp_skip_wk ?_
  refine ⟨_, Wk.refl _ _, ?_⟩
  show awp _ _ _ _ _ _ _
  refine awp_seq ?_
  refine awp_seq ?_
  refine awp_regs hF ?_
  refine dv (gyes_none rfl) (q_as (v := .int .i64 0) rfl) rfl (by decide) (cok1 (cconst rfl)) ?_
  refine ⟨_, Wk.refl _ _, ?_⟩
  show awp _ _ _ _ _ _ _
  refine awp_block ?_
  refine awp_wk (Wk.U [(2, .pointer (some ⟨b1, 0, none⟩)), (3, .pointer (some ⟨b5, 0, none⟩)), (5, .int .i64 0)] ⟨rfl, rfl, rfl, trivial⟩) ?_
  refine awp_loop (fun (i : Nat) st => ∃ (H9 : AHeap), st = ⟨101, U [(2, .pointer (some ⟨b1, 0, none⟩)), (3, .pointer (some ⟨b5, 0, none⟩)), (5, .int .i64 ((i : Nat) : Int))], [], H9⟩ ∧ St H0 (none0) (Rd H0) H9 [(b5, .cells true [.int .u32 ((f : Nat) : Int), .int .u32 ((sh : Nat) : Int), wb, wk, wc] 5), (b1, .cells true [.int .u32 ((f : Nat) : Int), .int .u32 ((sh : Nat) : Int), vb, vk, vc] 5)]) (fun (i : Nat) => lb.length - i) (x0 := (0)) ?h0 ?round
  case h0 =>
    exact ⟨_, rfl, s7⟩
  case round =>
    rintro i _ ⟨H9, rfl, s10⟩
    refine awp_seq ?_
    refine awp_seq ?_
    refine awp_regs hF ?_
    refine dv (gyes_none rfl) (q_mv (v := .int .i64 ((i : Nat) : Int)) rfl) rfl (by decide) (cok1 trivial) ?_
    refine dv (gyes_none rfl) (q_field Try.underlying35 rfl Try.sizeOf28 rfl (s10.rd (j := 1) rfl)) rfl (by decide) (cok1 trivial) ?_
    refine dv (gyes_none rfl) (q_load (v := vb) Try.isAgg28 rfl (s10.rd (j := 1) rfl) rfl) rfl (by decide) (cok1 trivial) ?_
    refine dv (gyes_none rfl) (q_len_sl (l := lb) Try.underlying28 (s10.sl hb) rfl) rfl (by decide) (cok1 trivial) ?_
    refine dvb (gyes_none rfl) (q_int rfl rfl rfl) rfl (by decide) (cok2 trivial trivial) (fun c1 => ?_) (fun c1 => ?_)
    ·
      replace c1 := of_decide_eq_true c1
      refine ⟨_, Wk.refl _ _, ?_⟩
      show awp _ _ _ _ _ _ _
      refine awp_cond_t rfl ?_
      refine awp_skip_wk ?_
      refine ⟨_, Wk.refl _ _, ?_⟩
      show awp _ _ _ _ _ _ _
      refine awp_seq ?_
      refine awp_block ?_
      refine awp_seq ?_
      refine awp_regt hF hM (by kernel_rfl) (by kernel_rfl) ?_
      refine dv (gyes_none rfl) (q_field Try.underlying35 rfl Try.sizeOf28 rfl (s10.rd (j := 1) rfl)) rfl (by decide) (cok1 trivial) ?_
      refine dv (gyes_none rfl) (q_load (v := vb) Try.isAgg28 rfl (s10.rd (j := 1) rfl) rfl) rfl (by decide) (cok1 trivial) ?_
      refine dv (gyes_none rfl) (q_mv (v := .int .i64 ((i : Nat) : Int)) rfl) rfl (by decide) (cok1 trivial) ?_
      refine dv (gyes_none rfl) (q_index_sl (l := lb) (i := i) Try.underlying28 Try.sizeOf45 (s10.sl hb) rfl rfl (by omega)) rfl (by decide) (cok2 trivial trivial) ?_
      refine dv (gyes_none rfl) (q_load_sl (l := lb) (i := i) Try.isAgg45 (s10.sl hb) rfl (by omega)) rfl (by decide) (cok1 trivial) ?_
      refine dv (gyes_none rfl) (q_field Try.underlying35 rfl Try.sizeOf28 rfl (s10.rd (j := 0) rfl)) rfl (by decide) (cok1 trivial) ?_
      refine dv (gyes_none rfl) (q_load (v := wb) Try.isAgg28 rfl (s10.rd (j := 0) rfl) rfl) rfl (by decide) (cok1 trivial) ?_
      refine dv (gyes_none rfl) (q_mv (v := .int .i64 ((i : Nat) : Int)) rfl) rfl (by decide) (cok1 trivial) ?_
      refine dv (gyes_none rfl) (q_index_sl (l := lb) (i := i) Try.underlying28 Try.sizeOf45 (s10.sl hwb) rfl rfl (by omega)) rfl (by decide) (cok2 trivial trivial) ?_
      refine dv (gyes_none rfl) (q_load_sl (l := lb) (i := i) Try.isAgg45 (s10.sl hwb) rfl (by omega)) rfl (by decide) (cok1 trivial) ?_
      refine dv (gyes_none rfl) (OpQ.cast (v' := .bool false) (q_int rfl rfl rfl) (congrArg Value.bool (bne_self_eq_false _))) rfl (by decide) (cok2 trivial trivial) ?_
      refine ⟨_, Wk.refl _ _, ?_⟩
      show awp _ _ _ _ _ _ _
      refine awp_cond_f rfl ?_
      refine awp_skip_wk ?_
      refine ⟨_, Wk.refl _ _, ?_⟩
      show awp _ _ _ _ _ _ _
      refine awp_regs hF ?_
      refine dv (gyes_none rfl) (q_mv (v := .int .i64 ((i : Nat) : Int)) rfl) rfl (by decide) (cok1 trivial) ?_
      refine dv (gyes_none rfl) (OpQ.cast (v' := .int .i64 ((i + 1 : Nat) : Int)) (q_int rfl rfl rfl) (congrArg _ ((i64_in (by omega)).trans (by first | rfl | omega | (push_cast; rfl))))) rfl (by decide) (cok2 trivial (cconst rfl)) ?_
      refine dv (gyes_none rfl) (q_as (v := .int .i64 ((i + 1 : Nat) : Int)) rfl) rfl (by decide) (cok1 trivial) ?_
      refine ⟨_, Wk.U [(2, .pointer (some ⟨b1, 0, none⟩)), (3, .pointer (some ⟨b5, 0, none⟩)), (5, .int .i64 (((i + 1) : Nat) : Int))] ⟨rfl, rfl, rfl, trivial⟩, (i + 1), ⟨_, rfl, s10⟩, (by omega)⟩
    ·
      replace c1 := of_decide_eq_false c1
      refine ⟨_, Wk.refl _ _, ?_⟩
      show awp _ _ _ _ _ _ _
      refine awp_cond_f rfl ?_
      refine awp_exit_wk ?_
      refine ⟨_, Wk.refl _ _, ?_⟩
      show awp _ _ _ _ _ _ _
      refine awp_seq ?_
      refine awp_seq ?_
      refine awp_regs hF ?_
      refine dv (gyes_none rfl) (q_as (v := .int .i64 0) rfl) rfl (by decide) (cok1 (cconst rfl)) ?_
      refine ⟨_, Wk.refl _ _, ?_⟩
      show awp _ _ _ _ _ _ _
      refine awp_block ?_
      refine awp_wk (Wk.U [(2, .pointer (some ⟨b1, 0, none⟩)), (3, .pointer (some ⟨b5, 0, none⟩)), (6, .int .i64 0)] ⟨rfl, rfl, rfl, trivial⟩) ?_
      refine awp_loop (fun (i : Nat) st => ∃ (H11 : AHeap), st = ⟨101, U [(2, .pointer (some ⟨b1, 0, none⟩)), (3, .pointer (some ⟨b5, 0, none⟩)), (6, .int .i64 ((i : Nat) : Int))], [], H11⟩ ∧ St H0 (none0) (Rd H0) H11 [(b5, .cells true [.int .u32 ((f : Nat) : Int), .int .u32 ((sh : Nat) : Int), wb, wk, wc] 5), (b1, .cells true [.int .u32 ((f : Nat) : Int), .int .u32 ((sh : Nat) : Int), vb, vk, vc] 5)]) (fun (i : Nat) => lk.length - i) (x0 := (0)) ?h0 ?round
      case h0 =>
        exact ⟨_, rfl, s10⟩
      case round =>
        rintro i _ ⟨H11, rfl, s12⟩
        refine awp_seq ?_
        refine awp_seq ?_
        refine awp_regs hF ?_
        refine dv (gyes_none rfl) (q_mv (v := .int .i64 ((i : Nat) : Int)) rfl) rfl (by decide) (cok1 trivial) ?_
        refine dv (gyes_none rfl) (q_field Try.underlying35 rfl Try.sizeOf29 rfl (s12.rd (j := 1) rfl)) rfl (by decide) (cok1 trivial) ?_
        refine dv (gyes_none rfl) (q_load (v := vk) Try.isAgg29 rfl (s12.rd (j := 1) rfl) rfl) rfl (by decide) (cok1 trivial) ?_
        refine dv (gyes_none rfl) (q_len_sl (l := lk) Try.underlying29 (s12.sl hk) rfl) rfl (by decide) (cok1 trivial) ?_
        refine dvb (gyes_none rfl) (q_int rfl rfl rfl) rfl (by decide) (cok2 trivial trivial) (fun c2 => ?_) (fun c2 => ?_)
        ·
          replace c2 := of_decide_eq_true c2
          refine ⟨_, Wk.refl _ _, ?_⟩
          show awp _ _ _ _ _ _ _
          refine awp_cond_t rfl ?_
          refine awp_skip_wk ?_
          refine ⟨_, Wk.refl _ _, ?_⟩
          show awp _ _ _ _ _ _ _
          refine awp_seq ?_
          refine awp_block ?_
          refine awp_seq ?_
          refine awp_regt hF hM (by kernel_rfl) (by kernel_rfl) ?_
          refine dv (gyes_none rfl) (q_field Try.underlying35 rfl Try.sizeOf29 rfl (s12.rd (j := 1) rfl)) rfl (by decide) (cok1 trivial) ?_
          refine dv (gyes_none rfl) (q_load (v := vk) Try.isAgg29 rfl (s12.rd (j := 1) rfl) rfl) rfl (by decide) (cok1 trivial) ?_
          refine dv (gyes_none rfl) (q_mv (v := .int .i64 ((i : Nat) : Int)) rfl) rfl (by decide) (cok1 trivial) ?_
          refine dv (gyes_none rfl) (q_index_sl (l := lk) (i := i) Try.underlying29 Try.sizeOf27 (s12.sl hk) rfl rfl (by omega)) rfl (by decide) (cok2 trivial trivial) ?_
          refine dv (gyes_none rfl) (q_load_sl (l := lk) (i := i) Try.isAgg27 (s12.sl hk) rfl (by omega)) rfl (by decide) (cok1 trivial) ?_
          refine dv (gyes_none rfl) (q_field Try.underlying35 rfl Try.sizeOf29 rfl (s12.rd (j := 0) rfl)) rfl (by decide) (cok1 trivial) ?_
          refine dv (gyes_none rfl) (q_load (v := wk) Try.isAgg29 rfl (s12.rd (j := 0) rfl) rfl) rfl (by decide) (cok1 trivial) ?_
          refine dv (gyes_none rfl) (q_mv (v := .int .i64 ((i : Nat) : Int)) rfl) rfl (by decide) (cok1 trivial) ?_
          refine dv (gyes_none rfl) (q_index_sl (l := lk) (i := i) Try.underlying29 Try.sizeOf27 (s12.sl hwk) rfl rfl (by omega)) rfl (by decide) (cok2 trivial trivial) ?_
          refine dv (gyes_none rfl) (q_load_sl (l := lk) (i := i) Try.isAgg27 (s12.sl hwk) rfl (by omega)) rfl (by decide) (cok1 trivial) ?_
          refine dv (gyes_none rfl) (OpQ.cast (v' := .bool false) (q_int rfl rfl rfl) (congrArg Value.bool (bne_self_eq_false _))) rfl (by decide) (cok2 trivial trivial) ?_
          refine ⟨_, Wk.refl _ _, ?_⟩
          show awp _ _ _ _ _ _ _
          refine awp_cond_f rfl ?_
          refine awp_skip_wk ?_
          refine ⟨_, Wk.refl _ _, ?_⟩
          show awp _ _ _ _ _ _ _
          refine awp_regs hF ?_
          refine dv (gyes_none rfl) (q_mv (v := .int .i64 ((i : Nat) : Int)) rfl) rfl (by decide) (cok1 trivial) ?_
          refine dv (gyes_none rfl) (OpQ.cast (v' := .int .i64 ((i + 1 : Nat) : Int)) (q_int rfl rfl rfl) (congrArg _ ((i64_in (by omega)).trans (by first | rfl | omega | (push_cast; rfl))))) rfl (by decide) (cok2 trivial (cconst rfl)) ?_
          refine dv (gyes_none rfl) (q_as (v := .int .i64 ((i + 1 : Nat) : Int)) rfl) rfl (by decide) (cok1 trivial) ?_
          refine ⟨_, Wk.U [(2, .pointer (some ⟨b1, 0, none⟩)), (3, .pointer (some ⟨b5, 0, none⟩)), (6, .int .i64 (((i + 1) : Nat) : Int))] ⟨rfl, rfl, rfl, trivial⟩, (i + 1), ⟨_, rfl, s12⟩, (by omega)⟩
        ·
          replace c2 := of_decide_eq_false c2
          refine ⟨_, Wk.refl _ _, ?_⟩
          show awp _ _ _ _ _ _ _
          refine awp_cond_f rfl ?_
          refine awp_exit_wk ?_
          refine ⟨_, Wk.refl _ _, ?_⟩
          show awp _ _ _ _ _ _ _
          refine awp_seq ?_
          refine awp_seq ?_
          refine awp_regs hF ?_
          refine dv (gyes_none rfl) (q_as (v := .int .i64 0) rfl) rfl (by decide) (cok1 (cconst rfl)) ?_
          refine ⟨_, Wk.refl _ _, ?_⟩
          show awp _ _ _ _ _ _ _
          refine awp_block ?_
          refine awp_wk (Wk.U [(2, .pointer (some ⟨b1, 0, none⟩)), (3, .pointer (some ⟨b5, 0, none⟩)), (7, .int .i64 0)] ⟨rfl, rfl, rfl, trivial⟩) ?_
          refine awp_loop (fun (i : Nat) st => ∃ (H13 : AHeap), st = ⟨101, U [(2, .pointer (some ⟨b1, 0, none⟩)), (3, .pointer (some ⟨b5, 0, none⟩)), (7, .int .i64 ((i : Nat) : Int))], [], H13⟩ ∧ St H0 (none0) (Rd H0) H13 [(b5, .cells true [.int .u32 ((f : Nat) : Int), .int .u32 ((sh : Nat) : Int), wb, wk, wc] 5), (b1, .cells true [.int .u32 ((f : Nat) : Int), .int .u32 ((sh : Nat) : Int), vb, vk, vc] 5)]) (fun (i : Nat) => lc.length - i) (x0 := (0)) ?h0 ?round
          case h0 =>
            exact ⟨_, rfl, s12⟩
          case round =>
            rintro i _ ⟨H13, rfl, s14⟩
            refine awp_seq ?_
            refine awp_seq ?_
            refine awp_regs hF ?_
            refine dv (gyes_none rfl) (q_mv (v := .int .i64 ((i : Nat) : Int)) rfl) rfl (by decide) (cok1 trivial) ?_
            refine dv (gyes_none rfl) (q_field Try.underlying35 rfl Try.sizeOf29 rfl (s14.rd (j := 1) rfl)) rfl (by decide) (cok1 trivial) ?_
            refine dv (gyes_none rfl) (q_load (v := vc) Try.isAgg29 rfl (s14.rd (j := 1) rfl) rfl) rfl (by decide) (cok1 trivial) ?_
            refine dv (gyes_none rfl) (q_len_sl (l := lc) Try.underlying29 (s14.sl hc) rfl) rfl (by decide) (cok1 trivial) ?_
            refine dvb (gyes_none rfl) (q_int rfl rfl rfl) rfl (by decide) (cok2 trivial trivial) (fun c3 => ?_) (fun c3 => ?_)
            ·
              replace c3 := of_decide_eq_true c3
              refine ⟨_, Wk.refl _ _, ?_⟩
              show awp _ _ _ _ _ _ _
              refine awp_cond_t rfl ?_
              refine awp_skip_wk ?_
              refine ⟨_, Wk.refl _ _, ?_⟩
              show awp _ _ _ _ _ _ _
              refine awp_seq ?_
              refine awp_block ?_
              refine awp_seq ?_
              refine awp_regt hF hM (by kernel_rfl) (by kernel_rfl) ?_
              refine dv (gyes_none rfl) (q_field Try.underlying35 rfl Try.sizeOf29 rfl (s14.rd (j := 1) rfl)) rfl (by decide) (cok1 trivial) ?_
              refine dv (gyes_none rfl) (q_load (v := vc) Try.isAgg29 rfl (s14.rd (j := 1) rfl) rfl) rfl (by decide) (cok1 trivial) ?_
              refine dv (gyes_none rfl) (q_mv (v := .int .i64 ((i : Nat) : Int)) rfl) rfl (by decide) (cok1 trivial) ?_
              refine dv (gyes_none rfl) (q_index_sl (l := lc) (i := i) Try.underlying29 Try.sizeOf27 (s14.sl hc) rfl rfl (by omega)) rfl (by decide) (cok2 trivial trivial) ?_
              refine dv (gyes_none rfl) (q_load_sl (l := lc) (i := i) Try.isAgg27 (s14.sl hc) rfl (by omega)) rfl (by decide) (cok1 trivial) ?_
              refine dv (gyes_none rfl) (q_field Try.underlying35 rfl Try.sizeOf29 rfl (s14.rd (j := 0) rfl)) rfl (by decide) (cok1 trivial) ?_
              refine dv (gyes_none rfl) (q_load (v := wc) Try.isAgg29 rfl (s14.rd (j := 0) rfl) rfl) rfl (by decide) (cok1 trivial) ?_
              refine dv (gyes_none rfl) (q_mv (v := .int .i64 ((i : Nat) : Int)) rfl) rfl (by decide) (cok1 trivial) ?_
              refine dv (gyes_none rfl) (q_index_sl (l := lc) (i := i) Try.underlying29 Try.sizeOf27 (s14.sl hwc) rfl rfl (by omega)) rfl (by decide) (cok2 trivial trivial) ?_
              refine dv (gyes_none rfl) (q_load_sl (l := lc) (i := i) Try.isAgg27 (s14.sl hwc) rfl (by omega)) rfl (by decide) (cok1 trivial) ?_
              refine dv (gyes_none rfl) (OpQ.cast (v' := .bool false) (q_int rfl rfl rfl) (congrArg Value.bool (bne_self_eq_false _))) rfl (by decide) (cok2 trivial trivial) ?_
              refine ⟨_, Wk.refl _ _, ?_⟩
              show awp _ _ _ _ _ _ _
              refine awp_cond_f rfl ?_
              refine awp_skip_wk ?_
              refine ⟨_, Wk.refl _ _, ?_⟩
              show awp _ _ _ _ _ _ _
              refine awp_regs hF ?_
              refine dv (gyes_none rfl) (q_mv (v := .int .i64 ((i : Nat) : Int)) rfl) rfl (by decide) (cok1 trivial) ?_
              refine dv (gyes_none rfl) (OpQ.cast (v' := .int .i64 ((i + 1 : Nat) : Int)) (q_int rfl rfl rfl) (congrArg _ ((i64_in (by omega)).trans (by first | rfl | omega | (push_cast; rfl))))) rfl (by decide) (cok2 trivial (cconst rfl)) ?_
              refine dv (gyes_none rfl) (q_as (v := .int .i64 ((i + 1 : Nat) : Int)) rfl) rfl (by decide) (cok1 trivial) ?_
              refine ⟨_, Wk.U [(2, .pointer (some ⟨b1, 0, none⟩)), (3, .pointer (some ⟨b5, 0, none⟩)), (7, .int .i64 (((i + 1) : Nat) : Int))] ⟨rfl, rfl, rfl, trivial⟩, (i + 1), ⟨_, rfl, s14⟩, (by omega)⟩
            ·
              replace c3 := of_decide_eq_false c3
              refine ⟨_, Wk.refl _ _, ?_⟩
              show awp _ _ _ _ _ _ _
              refine awp_cond_f rfl ?_
              refine awp_exit_wk ?_
              refine ⟨_, Wk.refl _ _, ?_⟩
              show awp _ _ _ _ _ _ _
              refine awp_seq ?_
              refine awp_regs hF ?_
              refine dv (gyes_none rfl) (q_as (v := .bool true) rfl) rfl (by decide) (cok1 (cconst rfl)) ?_
              refine ⟨_, Wk.refl _ _, ?_⟩
              show awp _ _ _ _ _ _ _
              refine awp_ret_wk ?_
              refine ⟨_, Wk.refl _ _, ?_⟩
              repeat (with_reducible first | refine then_ret ?_ | refine blk_ret ?_ | refine then_exit ?_ | refine blk_exit ?_ | refine blk_exit' (by decide) ?_ | refine blk_normal ?_ | refine then_normal ?_ | refine retq_ret ?_ | refine retq_normal ?_ | refine ng_normal ?_ | refine ng_ret ?_ | refine ng_exit ?_)
              exact ret_none (v := .bool true) rfl s14.kp (.tmp rfl .nil) rfl rfl ⟨rfl, rfl⟩

end Go.Proofs.YtponfeigjmjbmaaA


/-
  Walks of functions of the given program, and what they compute.
-/
namespace Go.Proofs.YtponfeigjmjbmaaA
set_option linter.unusedVariables false
open Go Go.RowKit Go.Shelf Go.Proofs
set_option maxRecDepth 100000 in
set_option maxHeartbeats 4000000 in
theorem build_yes {H0 : AHeap} (vN : Value) (names : List ByteArray) (hN : Sl strv H0 vN names) (hsz : ∀ x ∈ names, x.size ≤ 140737488355328) (hn40 : names.length ≤ 40) (f nb nw sh : Nat) (h : 1 ≤ nb ∧ nb ≤ 256 ∧ 1 ≤ nw ∧ nw ≤ 256 ∧ f + names.length ≤ 256 ∧ sh ≤ 63 ∧ ¬ (f = 0 ∧ 0 < names.length)) (hk : sortedK names nb = true) : ACalls Try.prog 9 [vN, .int .i64 ((f : Nat) : Int), .int .i64 ((nb : Nat) : Int), .int .i64 ((nw : Nat) : Int), .int .i64 ((sh : Nat) : Int)] H0 (fun v H' => ∃ b1 b2 b3, v = .tuple #[.agg #[.int .u32 ((f : Nat) : Int), .int .u32 ((sh : Nat) : Int), .slice (some ⟨b1, 0, none⟩) nw nw, .slice (some ⟨b2, 0, none⟩) nb nb, .slice (some ⟨b3, 0, none⟩) names.length names.length], .bool true] ∧ NewL H0 H' [(b3, .cells true ((chN names nb names.length).map u32v) 1), (b2, .cells true ((bkN names nb f names.length).map u32v) 1), (b1, .cells true ((blN names nw sh names.length).map u64v) 1)]) := by
  have hF : Wd Fence.wide := .inl rfl
  have hM : Try.prog.follows .mixedOrders = true := by kernel_rfl
  have s0 := St.begin H0
  refine acalls_st Try.func9 rfl Try.ntmps9 rfl ?_
  refine awp_seq ?_
  refine awp_regs hF ?_
  refine x_new (fun b => .pointer (some ⟨b, 0, none⟩)) s0 (gyes_none rfl) (q_alloc (vs := [.int .u32 0, .int .u32 0, .slice none 0 0, .slice none 0 0, .slice none 0 0]) 5 Try.zeroValue31 (by first | exact flat_scalar rfl | exact flat_agg rfl) rfl) rfl (by decide) (by simp [Op.operands, Call.operands]) (fun b1 H2 hb4 s3 => ?_)
  refine dv (gyes_none rfl) (q_as (v := .bool false) rfl) rfl (by decide) (cok1 (cconst rfl)) ?_
  refine ⟨_, Wk.refl _ _, ?_⟩
  show awp _ _ _ _ _ _ _
  refine awp_seq ?_
  refine awp_seq ?_
  refine awp_regs hF ?_
  refine dv (gyes_none rfl) (q_mv (v := vN) rfl) rfl (by decide) (cok1 trivial) ?_
  refine dv (gyes_none rfl) (q_mv (v := .int .i64 ((f : Nat) : Int)) rfl) rfl (by decide) (cok1 trivial) ?_
  refine dv (gyes_none rfl) (q_mv (v := .int .i64 ((nb : Nat) : Int)) rfl) rfl (by decide) (cok1 trivial) ?_
  refine dv (gyes_none rfl) (q_mv (v := .int .i64 ((nw : Nat) : Int)) rfl) rfl (by decide) (cok1 trivial) ?_
  refine dv (gyes_none rfl) (q_mv (v := .int .i64 ((sh : Nat) : Int)) rfl) rfl (by decide) (cok1 trivial) ?_
  refine dv (gyes_none rfl) (q_call0 Try.call25 rfl (ACalls.castV (v' := .bool true) (right_good vN names (s3.sl hN) hsz hn40 f nb nw sh h) (congrArg Value.bool hk))) rfl (by decide) (call_ok rfl) ?_
  refine dv (gyes_none rfl) (q_not (b := true) rfl) rfl (by decide) (cok1 trivial) ?_
  refine ⟨_, Wk.refl _ _, ?_⟩
  show awp _ _ _ _ _ _ _
  refine awp_cond_f rfl ?_
  refine awp_skip_wk ?_
  refine ⟨_, Wk.refl _ _, ?_⟩
  show awp _ _ _ _ _ _ _
  refine awp_seq ?_
  refine awp_regt hF hM (by kernel_rfl) (by kernel_rfl) ?_
  refine dv (gyes_none rfl) (q_mv (v := .int .i64 ((f : Nat) : Int)) rfl) rfl (by decide) (cok1 trivial) ?_
  refine dv (gyes_none rfl) (q_convin (a := ((f : Nat) : Int)) Try.underlying3 Try.underlying27 rfl (u32_in (by omega))) rfl (by decide) (cok1 trivial) ?_
  refine dv (gyes_none rfl) (q_mv (v := .int .i64 ((sh : Nat) : Int)) rfl) rfl (by decide) (cok1 trivial) ?_
  refine dv (gyes_none rfl) (q_convin (a := ((sh : Nat) : Int)) Try.underlying3 Try.underlying27 rfl (u32_in (by omega))) rfl (by decide) (cok1 trivial) ?_
  refine dv (gyes_none rfl) (q_mv (v := .int .i64 ((nw : Nat) : Int)) rfl) rfl (by decide) (cok1 trivial) ?_
  refine x_new (fun b => .slice (some ⟨b, 0, none⟩) nw nw) s3 (gyes_none rfl) (q_makeSlice1 (len := nw) (m := nw) rfl Try.underlying28 Try.typeInfo45 rfl Try.zeroValue45 rfl rfl rfl rfl (by omega) (by omega) (by show 8 * _ ≤ _; omega) (vs := (List.replicate nw (0 : Nat)).map u64v) (by simp [u64v])) rfl (by decide) (cok2 trivial trivial) (fun b5 H6 hb8 s7 => ?_)
  refine dv (gyes_none rfl) (q_mv (v := .int .i64 ((nb : Nat) : Int)) rfl) rfl (by decide) (cok1 trivial) ?_
  refine x_new (fun b => .slice (some ⟨b, 0, none⟩) nb nb) s7 (gyes_none rfl) (q_makeSlice1 (len := nb) (m := nb) rfl Try.underlying29 Try.typeInfo27 rfl Try.zeroValue27 rfl rfl rfl rfl (by omega) (by omega) (by show 4 * _ ≤ _; omega) (vs := (List.replicate nb (0 : Nat)).map u32v) (by simp [u32v])) rfl (by decide) (cok2 trivial trivial) (fun b9 H10 hb12 s11 => ?_)
  refine dv (gyes_none rfl) (q_mv (v := vN) rfl) rfl (by decide) (cok1 trivial) ?_
  refine dv (gyes_none rfl) (q_len_sl (l := names) Try.underlying23 (s11.sl hN) rfl) rfl (by decide) (cok1 trivial) ?_
  refine x_new (fun b => .slice (some ⟨b, 0, none⟩) names.length names.length) s11 (gyes_none rfl) (q_makeSlice1 (len := names.length) (m := names.length) rfl Try.underlying29 Try.typeInfo27 rfl Try.zeroValue27 rfl rfl rfl rfl (by omega) (by omega) (by show 4 * _ ≤ _; omega) (vs := (List.replicate names.length (0 : Nat)).map u32v) (by simp [u32v])) rfl (by decide) (cok2 trivial trivial) (fun b13 H14 hb16 s15 => ?_)
  refine dv (gyes_none rfl) (q_buildL (ds := [.int .u32 ((f : Nat) : Int), .int .u32 ((sh : Nat) : Int), .slice (some ⟨b5, 0, none⟩) nw nw, .slice (some ⟨b9, 0, none⟩) nb nb, .slice (some ⟨b13, 0, none⟩) names.length names.length]) [(0, 1), (1, 1), (2, 1), (3, 1), (4, 1)] [.int .u32 ((f : Nat) : Int), .int .u32 ((sh : Nat) : Int), .slice (some ⟨b5, 0, none⟩) nw nw, .slice (some ⟨b9, 0, none⟩) nb nb, .slice (some ⟨b13, 0, none⟩) names.length names.length] Try.underlying31 Try.zeroValue31 (by first | exact flat_agg rfl | exact flat_scalar rfl) (by kernel_rfl) ⟨rfl, rfl, rfl, rfl, rfl, trivial⟩ (lvsC (by exact trivial) (lvsC (by exact trivial) (lvsC (s15.live (j := 2) rfl) (lvsC (s15.live (j := 1) rfl) (lvsC (s15.live (j := 0) rfl) lvs0))))) rfl) rfl (by decide) (call_ok rfl) ?_
  refine x_new (fun b => .pointer (some ⟨b, 0, none⟩)) s15 (gyes_none rfl) (q_alloc (vs := [.int .u32 0, .int .u32 0, .slice none 0 0, .slice none 0 0, .slice none 0 0]) 5 Try.zeroValue31 (by first | exact flat_scalar rfl | exact flat_agg rfl) rfl) rfl (by decide) (by simp [Op.operands, Call.operands]) (fun b17 H18 hb20 s19 => ?_)
  refine x_store [] hF s19 (by kernel_rfl) (gyes_none rfl) (j := 0) (v := .agg #[.int .u32 ((f : Nat) : Int), .int .u32 ((sh : Nat) : Int), .slice (some ⟨b5, 0, none⟩) nw nw, .slice (some ⟨b9, 0, none⟩) nb nb, .slice (some ⟨b13, 0, none⟩) names.length names.length]) rfl Try.sizeOf31 rfl rfl rfl rfl rfl trivial (lcsA ⟨(lc_scalar rfl), (lc_scalar rfl), (lc_slice (s19.live (j := 3) rfl)), (lc_slice (s19.live (j := 2) rfl)), (lc_slice (s19.live (j := 1) rfl)), trivial⟩) (Nat.le_of_ble_eq_true rfl) trivial trivial rfl rfl (F' := [(b17, .cells true [.int .u32 ((f : Nat) : Int), .int .u32 ((sh : Nat) : Int), .slice (some ⟨b5, 0, none⟩) nw nw, .slice (some ⟨b9, 0, none⟩) nb nb, .slice (some ⟨b13, 0, none⟩) names.length names.length] 5), (b13, .cells true ((List.replicate names.length (0 : Nat)).map u32v) 1), (b9, .cells true ((List.replicate nb (0 : Nat)).map u32v) 1), (b5, .cells true ((List.replicate nw (0 : Nat)).map u64v) 1), (b1, .cells true [.int .u32 0, .int .u32 0, .slice none 0 0, .slice none 0 0, .slice none 0 0] 5)]) rfl (fun H21 s22 => ⟨?_, ?_⟩)
  · exact trivial
  refine ⟨_, Wk.refl _ _, ?_⟩
  show awp _ _ _ _ _ _ _
  refine awp_seq ?_
  refine awp_seq ?_
  refine awp_regs hF ?_
  refine dv (gyes_none rfl) (q_mv (v := vN) rfl) rfl (by decide) (cok1 trivial) ?_
  refine dv (gyes_none rfl) (q_len_sl (l := names) Try.underlying23 (s22.sl hN) rfl) rfl (by decide) (cok1 trivial) ?_
  refine dv (gyes_none rfl) (q_mv (v := .int .i64 0) rfl) rfl (by decide) (cok1 (cconst rfl)) ?_
  refine ⟨_, Wk.refl _ _, ?_⟩
  show awp _ _ _ _ _ _ _
  refine awp_block ?_
  refine awp_wk (Wk.U [(0, vN), (1, .int .i64 ((f : Nat) : Int)), (2, .int .i64 ((nb : Nat) : Int)), (10, .pointer (some ⟨b1, 0, none⟩)), (12, .pointer (some ⟨b17, 0, none⟩)), (39, vN), (40, .int .i64 ((names.length : Nat) : Int)), (41, .int .i64 0)] ⟨rfl, rfl, rfl, rfl, rfl, rfl, rfl, rfl, trivial⟩) ?_
  refine awp_loop (fun ((i, bl, bk, ch) : Nat × (List Nat) × (List Nat) × (List Nat)) st => ∃ (H23 : AHeap), st = ⟨113, U [(0, vN), (1, .int .i64 ((f : Nat) : Int)), (2, .int .i64 ((nb : Nat) : Int)), (10, .pointer (some ⟨b1, 0, none⟩)), (12, .pointer (some ⟨b17, 0, none⟩)), (39, vN), (40, .int .i64 ((names.length : Nat) : Int)), (41, .int .i64 ((i : Nat) : Int))], [], H23⟩ ∧ St H0 (none0) (Rd H0) H23 [(b17, .cells true [.int .u32 ((f : Nat) : Int), .int .u32 ((sh : Nat) : Int), .slice (some ⟨b5, 0, none⟩) nw nw, .slice (some ⟨b9, 0, none⟩) nb nb, .slice (some ⟨b13, 0, none⟩) names.length names.length] 5), (b13, .cells true (ch.map u32v) 1), (b9, .cells true (bk.map u32v) 1), (b5, .cells true (bl.map u64v) 1), (b1, .cells true [.int .u32 0, .int .u32 0, .slice none 0 0, .slice none 0 0, .slice none 0 0] 5)] ∧ (i ≤ names.length ∧ bl = blN names nw sh i ∧ bk = bkN names nb f i ∧ ch = chN names nb i)) (fun ((i, bl, bk, ch) : Nat × (List Nat) × (List Nat) × (List Nat)) => names.length - i) (x0 := (0, (List.replicate nw 0), (List.replicate nb 0), (List.replicate names.length 0))) ?h0 ?round
  case h0 =>
    exact ⟨_, rfl, s22, ⟨Nat.zero_le _, rfl, rfl, rfl⟩⟩
  case round =>
    rintro ⟨i, bl, bk, ch⟩ _ ⟨H23, rfl, s24, hB⟩
    dsimp only at *
    have hbl : bl.length = nw := by rw [hB.2.1]; exact blN_len i
    have hkl : bk.length = nb := by rw [hB.2.2.1]; exact bkN_len i
    have hcl : ch.length = names.length := by rw [hB.2.2.2]; exact chN_len i
    have hbw : ∀ x ∈ bl, x < 18446744073709551616 := by rw [hB.2.1]; exact blN_w i
    have hkw : ∀ x ∈ bk, x < 1000 := by rw [hB.2.2.1]; exact bkN_w (by omega)
    refine awp_seq ?_
    refine awp_regs hF ?_
    refine dvb (gyes_none rfl) (q_int rfl rfl rfl) rfl (by decide) (cok2 trivial trivial) (fun c1 => ?_) (fun c1 => ?_)
    ·
      replace c1 := of_decide_eq_true c1
      refine ⟨_, Wk.refl _ _, ?_⟩
      show awp _ _ _ _ _ _ _
      refine awp_seq ?_
      refine awp_cond_t rfl ?_
      refine awp_skip_wk ?_
      refine ⟨_, Wk.refl _ _, ?_⟩
      show awp _ _ _ _ _ _ _
      refine awp_seq ?_
      refine awp_block ?_
      refine awp_seq ?_
      refine awp_regs hF ?_
      refine dv (gyes_none rfl) (q_mv (v := .int .i64 ((i : Nat) : Int)) rfl) rfl (by decide) (cok1 trivial) ?_
      refine dv (gyes_none rfl) (q_index_sl (l := names) (i := i) Try.underlying23 Try.sizeOf9 (s24.sl hN) rfl rfl (by omega)) rfl (by decide) (cok2 trivial trivial) ?_
      refine dv (gyes_none rfl) (q_load_sl (l := names) (i := i) Try.isAgg9 (s24.sl hN) rfl (by omega)) rfl (by decide) (cok1 trivial) ?_
      refine dv (gyes_none rfl) (q_as (v := .int .i64 ((i : Nat) : Int)) rfl) rfl (by decide) (cok1 trivial) ?_
      refine dv (gyes_none rfl) (q_as (v := .string (nth names i)) rfl) rfl (by decide) (cok1 trivial) ?_
      refine ⟨_, Wk.refl _ _, ?_⟩
      show awp _ _ _ _ _ _ _
      refine awp_seq ?_
      refine awp_regs hF ?_
      refine dv (gyes_none rfl) (q_mv (v := .string (nth names i)) rfl) rfl (by decide) (cok1 trivial) ?_
      refine dv (gyes_none rfl) (q_call0 Try.call19 rfl (hash_ok (nth names i) (hsz _ (nthS_mem (by omega))))) rfl (by decide) (cok2 trivial trivial) ?_
      refine dv (gyes_none rfl) (q_as (v := .int .u32 ((gh (nth names i) : Nat) : Int)) rfl) rfl (by decide) (cok1 trivial) ?_
      refine ⟨_, Wk.refl _ _, ?_⟩
      show awp _ _ _ _ _ _ _
      refine awp_seq ?_
      refine awp_regs hF ?_
      refine dv (gyes_none rfl) (q_loadAgg Try.isAgg31 Try.sizeOf31 rfl (s24.rd (j := 0) rfl) (Nat.le_of_ble_eq_true rfl) rfl) rfl (by decide) (cok1 trivial) ?_
      refine dv (gyes_none rfl) (q_mv (v := .int .u32 ((gh (nth names i) : Nat) : Int)) rfl) rfl (by decide) (cok1 trivial) ?_
      refine dv (gyes_none rfl) (q_call0 Try.call26 rfl (word_ok f sh _ _ _ bl bk ch (s24.slj (j := 3) rfl (by first | rfl | (simp; done) | omega) (by first | exact Nat.le_refl _ | omega)) (s24.slj (j := 2) rfl (by first | rfl | (simp; done) | omega) (by first | exact Nat.le_refl _ | omega)) (s24.slj (j := 1) rfl (by first | rfl | (simp; done) | omega) (by first | exact Nat.le_refl _ | omega)) (gh (nth names i)) (by first | assumption | exact gh_lt _) (by omega) (by omega))) rfl (by decide) (call_ok rfl) ?_
      refine dv (gyes_none rfl) (q_mv (v := .tuple #[.int .i64 (((gh (nth names i)) / 64 % bl.length : Nat) : Int), .int .u64 ((bitV (gh (nth names i)) sh : Nat) : Int)]) rfl) rfl (by decide) (cok1 trivial) ?_
      refine dv (gyes_none rfl) (q_extract (v := .int .i64 (((gh (nth names i)) / 64 % bl.length : Nat) : Int)) rfl rfl) rfl (by decide) (cok1 trivial) ?_
      refine dv (gyes_none rfl) (q_extract (v := .int .u64 ((bitV (gh (nth names i)) sh : Nat) : Int)) rfl rfl) rfl (by decide) (cok1 trivial) ?_
      refine dv (gyes_none rfl) (q_as (v := .int .i64 (((gh (nth names i)) / 64 % bl.length : Nat) : Int)) rfl) rfl (by decide) (cok1 trivial) ?_
      refine dv (gyes_none rfl) (q_as (v := .int .u64 ((bitV (gh (nth names i)) sh : Nat) : Int)) rfl) rfl (by decide) (cok1 trivial) ?_
      refine ⟨_, Wk.refl _ _, ?_⟩
      show awp _ _ _ _ _ _ _
      refine awp_seq ?_
      have hm := Nat.mod_lt (gh (nth names i) / 64) (show 0 < bl.length by omega)
      have hg1 := gh_lt (nth names i)
      have hm2 := Nat.mod_lt (gh (nth names i)) (show 0 < nb by omega)
      have hkx := hkw _ (nthS_mem (show gh (nth names i) % nb < bk.length by omega))
      refine awp_regs hF ?_
      refine dv (gyes_none rfl) (q_field Try.underlying31 rfl Try.sizeOf28 rfl (s24.rd (j := 0) rfl)) rfl (by decide) (cok1 trivial) ?_
      refine dv (gyes_none rfl) (q_load (v := .slice (some ⟨b5, 0, none⟩) nw nw) Try.isAgg28 rfl (s24.rd (j := 0) rfl) rfl) rfl (by decide) (cok1 trivial) ?_
      refine dv (gyes_none rfl) (q_mv (v := .int .i64 (((gh (nth names i)) / 64 % bl.length : Nat) : Int)) rfl) rfl (by decide) (cok1 trivial) ?_
      refine dv (gyes_none rfl) (OpQ.cast (v' := .pointer (some ⟨b5, (gh (nth names i)) / 64 % bl.length, none⟩)) (q_index1 (i := ((gh (nth names i)) / 64 % bl.length)) Try.underlying28 Try.sizeOf45 rfl rfl (by omega) (s24.rd (j := 3) rfl)) (by rw [Nat.zero_add])) rfl (by decide) (cok2 trivial trivial) ?_
      refine dv (gyes_none rfl) (q_load (v := u64v (nth bl ((gh (nth names i)) / 64 % bl.length))) Try.isAgg45 rfl (s24.rd (j := 3) rfl) (get_nth (w := 0) (by omega))) rfl (by decide) (cok1 trivial) ?_
      refine dv (gyes_none rfl) (q_mv (v := .int .u64 ((bitV (gh (nth names i)) sh : Nat) : Int)) rfl) rfl (by decide) (cok1 trivial) ?_
      refine dv (gyes_none rfl) (q_orN (a := (nth bl ((gh (nth names i)) / 64 % bl.length))) (b := (bitV (gh (nth names i)) sh)) rfl rfl rfl (hbw _ (nthS_mem hm)) (bitV_lt _ _)) rfl (by decide) (cok2 trivial trivial) ?_
      refine dv (gyes_none rfl) (OpQ.cast (v' := .pointer (some ⟨b5, (gh (nth names i)) / 64 % bl.length, none⟩)) (q_index1 (i := ((gh (nth names i)) / 64 % bl.length)) Try.underlying28 Try.sizeOf45 rfl rfl (by omega) (s24.rd (j := 3) rfl)) (by rw [Nat.zero_add])) rfl (by decide) (cok2 trivial trivial) ?_
      refine x_store1 [] hF s24 (by kernel_rfl) (gyes_none rfl) (j := 3) (v := u64v ((nth bl ((gh (nth names i)) / 64 % bl.length)) ||| (bitV (gh (nth names i)) sh))) rfl Try.sizeOf45 rfl rfl rfl (lc_scalar rfl) (by rw [List.length_map]; omega) trivial trivial rfl rfl (F' := [(b17, .cells true [.int .u32 ((f : Nat) : Int), .int .u32 ((sh : Nat) : Int), .slice (some ⟨b5, 0, none⟩) nw nw, .slice (some ⟨b9, 0, none⟩) nb nb, .slice (some ⟨b13, 0, none⟩) names.length names.length] 5), (b13, .cells true (ch.map u32v) 1), (b9, .cells true (bk.map u32v) 1), (b5, .cells true ((bl.set ((gh (nth names i)) / 64 % bl.length) ((nth bl ((gh (nth names i)) / 64 % bl.length)) ||| (bitV (gh (nth names i)) sh))).map u64v) 1), (b1, .cells true [.int .u32 0, .int .u32 0, .slice none 0 0, .slice none 0 0, .slice none 0 0] 5)]) (by simp only [set_map1]; rfl) (fun H25 s26 => ⟨?_, ?_⟩)
      · exact trivial
      refine ⟨_, Wk.refl _ _, ?_⟩
      show awp _ _ _ _ _ _ _
      refine awp_seq ?_
      refine awp_regs hF ?_
      refine dv (gyes_none rfl) (q_mv (v := .int .u32 ((gh (nth names i) : Nat) : Int)) rfl) rfl (by decide) (cok1 trivial) ?_
      refine dv (gyes_none rfl) (q_mv (v := .int .i64 ((nb : Nat) : Int)) rfl) rfl (by decide) (cok1 trivial) ?_
      refine dv (gyes_none rfl) (q_convin (a := ((nb : Nat) : Int)) Try.underlying3 Try.underlying27 rfl (u32_in (by omega))) rfl (by decide) (cok1 trivial) ?_
      refine dv (gyes_none rfl) (q_remM (a := (gh (nth names i))) (b := nb) rfl rfl (by first | decide | omega)) rfl (by decide) (cok2 trivial trivial) ?_
      refine dv (gyes_none rfl) (q_as (v := .int .u32 (((gh (nth names i)) % nb : Nat) : Int)) rfl) rfl (by decide) (cok1 trivial) ?_
      refine ⟨_, Wk.refl _ _, ?_⟩
      show awp _ _ _ _ _ _ _
      refine awp_seq ?_
      refine awp_seq ?_
      refine awp_regs hF ?_
      refine dv (gyes_none rfl) (q_field Try.underlying31 rfl Try.sizeOf29 rfl (s26.rd (j := 0) rfl)) rfl (by decide) (cok1 trivial) ?_
      refine dv (gyes_none rfl) (q_load (v := .slice (some ⟨b9, 0, none⟩) nb nb) Try.isAgg29 rfl (s26.rd (j := 0) rfl) rfl) rfl (by decide) (cok1 trivial) ?_
      refine dv (gyes_none rfl) (q_mv (v := .int .u32 (((gh (nth names i)) % nb : Nat) : Int)) rfl) rfl (by decide) (cok1 trivial) ?_
      refine dv (gyes_none rfl) (OpQ.cast (v' := .pointer (some ⟨b9, (gh (nth names i)) % nb, none⟩)) (q_index1 (i := ((gh (nth names i)) % nb)) Try.underlying29 Try.sizeOf27 rfl rfl (by omega) (s26.rd (j := 2) rfl)) (by rw [Nat.zero_add])) rfl (by decide) (cok2 trivial trivial) ?_
      refine dv (gyes_none rfl) (q_load (v := u32v (nth bk ((gh (nth names i)) % nb))) Try.isAgg27 rfl (s26.rd (j := 2) rfl) (get_nth (w := 0) (by omega))) rfl (by decide) (cok1 trivial) ?_
      refine dvb (gyes_none rfl) (q_int rfl rfl rfl) rfl (by decide) (cok2 trivial (cconst rfl)) (fun c2 => ?_) (fun c2 => ?_)
      ·
        replace c2 := eq_of_beq c2
        refine ⟨_, Wk.refl _ _, ?_⟩
        show awp _ _ _ _ _ _ _
        refine awp_cond_t rfl ?_
        refine awp_regs hF ?_
        refine dv (gyes_none rfl) (q_field Try.underlying31 rfl Try.sizeOf29 rfl (s26.rd (j := 0) rfl)) rfl (by decide) (cok1 trivial) ?_
        refine dv (gyes_none rfl) (q_load (v := .slice (some ⟨b9, 0, none⟩) nb nb) Try.isAgg29 rfl (s26.rd (j := 0) rfl) rfl) rfl (by decide) (cok1 trivial) ?_
        refine dv (gyes_none rfl) (q_mv (v := .int .u32 (((gh (nth names i)) % nb : Nat) : Int)) rfl) rfl (by decide) (cok1 trivial) ?_
        refine dv (gyes_none rfl) (q_mv (v := .int .i64 ((f : Nat) : Int)) rfl) rfl (by decide) (cok1 trivial) ?_
        refine dv (gyes_none rfl) (q_mv (v := .int .i64 ((i : Nat) : Int)) rfl) rfl (by decide) (cok1 trivial) ?_
        refine dv (gyes_none rfl) (OpQ.cast (v' := .int .i64 ((f + i : Nat) : Int)) (q_int rfl rfl rfl) (congrArg _ ((i64_in (by omega)).trans (by first | rfl | omega | (push_cast; rfl))))) rfl (by decide) (cok2 trivial trivial) ?_
        refine dv (gyes_none rfl) (q_convin (a := ((f + i : Nat) : Int)) Try.underlying3 Try.underlying27 rfl (u32_in (by omega))) rfl (by decide) (cok1 trivial) ?_
        refine dv (gyes_none rfl) (OpQ.cast (v' := .pointer (some ⟨b9, (gh (nth names i)) % nb, none⟩)) (q_index1 (i := ((gh (nth names i)) % nb)) Try.underlying29 Try.sizeOf27 rfl rfl (by omega) (s26.rd (j := 2) rfl)) (by rw [Nat.zero_add])) rfl (by decide) (cok2 trivial trivial) ?_
        refine x_store1 [] hF s26 (by kernel_rfl) (gyes_none rfl) (j := 2) (v := u32v (f + i)) rfl Try.sizeOf27 rfl rfl rfl (lc_scalar rfl) (by rw [List.length_map]; omega) trivial trivial rfl rfl (F' := [(b17, .cells true [.int .u32 ((f : Nat) : Int), .int .u32 ((sh : Nat) : Int), .slice (some ⟨b5, 0, none⟩) nw nw, .slice (some ⟨b9, 0, none⟩) nb nb, .slice (some ⟨b13, 0, none⟩) names.length names.length] 5), (b13, .cells true (ch.map u32v) 1), (b9, .cells true ((bk.set ((gh (nth names i)) % nb) (f + i)).map u32v) 1), (b5, .cells true ((bl.set ((gh (nth names i)) / 64 % bl.length) ((nth bl ((gh (nth names i)) / 64 % bl.length)) ||| (bitV (gh (nth names i)) sh))).map u64v) 1), (b1, .cells true [.int .u32 0, .int .u32 0, .slice none 0 0, .slice none 0 0, .slice none 0 0] 5)]) (by simp only [set_map1]; rfl) (fun H27 s28 => ⟨?_, ?_⟩)
        · exact trivial
        refine ⟨_, Wk.refl _ _, ?_⟩
        show awp _ _ _ _ _ _ _
        refine awp_seq ?_
        refine awp_regs hF ?_
        refine dv (gyes_none rfl) (q_field Try.underlying31 rfl Try.sizeOf29 rfl (s28.rd (j := 0) rfl)) rfl (by decide) (cok1 trivial) ?_
        refine dv (gyes_none rfl) (q_load (v := .slice (some ⟨b13, 0, none⟩) names.length names.length) Try.isAgg29 rfl (s28.rd (j := 0) rfl) rfl) rfl (by decide) (cok1 trivial) ?_
        refine dv (gyes_none rfl) (q_mv (v := .int .i64 ((i : Nat) : Int)) rfl) rfl (by decide) (cok1 trivial) ?_
        refine dv (gyes_none rfl) (q_mv (v := .int .u32 ((gh (nth names i) : Nat) : Int)) rfl) rfl (by decide) (cok1 trivial) ?_
        refine dv (gyes_none rfl) (q_andNot1 (a := gh (nth names i)) rfl rfl hg1) rfl (by decide) (cok2 trivial (cconst rfl)) ?_
        refine dv (gyes_none rfl) (OpQ.cast (v' := .pointer (some ⟨b13, i, none⟩)) (q_index1 (i := i) Try.underlying29 Try.sizeOf27 rfl rfl (by omega) (s28.rd (j := 1) rfl)) (by rw [Nat.zero_add])) rfl (by decide) (cok2 trivial trivial) ?_
        refine x_store1 [] hF s28 (by kernel_rfl) (gyes_none rfl) (j := 1) (v := u32v (gh (nth names i) / 2 * 2)) rfl Try.sizeOf27 rfl rfl rfl (lc_scalar rfl) (by rw [List.length_map]; omega) trivial trivial rfl rfl (F' := [(b17, .cells true [.int .u32 ((f : Nat) : Int), .int .u32 ((sh : Nat) : Int), .slice (some ⟨b5, 0, none⟩) nw nw, .slice (some ⟨b9, 0, none⟩) nb nb, .slice (some ⟨b13, 0, none⟩) names.length names.length] 5), (b13, .cells true ((ch.set i (gh (nth names i) / 2 * 2)).map u32v) 1), (b9, .cells true ((bk.set ((gh (nth names i)) % nb) (f + i)).map u32v) 1), (b5, .cells true ((bl.set ((gh (nth names i)) / 64 % bl.length) ((nth bl ((gh (nth names i)) / 64 % bl.length)) ||| (bitV (gh (nth names i)) sh))).map u64v) 1), (b1, .cells true [.int .u32 0, .int .u32 0, .slice none 0 0, .slice none 0 0, .slice none 0 0] 5)]) (by simp only [set_map1]; rfl) (fun H29 s30 => ⟨?_, ?_⟩)
        · exact trivial
        refine ⟨_, Wk.refl _ _, ?_⟩
        show awp _ _ _ _ _ _ _
        refine awp_seq ?_
        have hg2 := gh_lt (nth names (i + 1))
        have hm3 := Nat.mod_lt (gh (nth names (i + 1))) (show 0 < nb by omega)
        refine awp_regs hF ?_
        refine dv (gyes_none rfl) (q_mv (v := .int .i64 ((i : Nat) : Int)) rfl) rfl (by decide) (cok1 trivial) ?_
        refine dv (gyes_none rfl) (OpQ.cast (v' := .int .i64 ((i + 1 : Nat) : Int)) (q_int rfl rfl rfl) (congrArg _ ((i64_in (by omega)).trans (by first | rfl | omega | (push_cast; rfl))))) rfl (by decide) (cok2 trivial (cconst rfl)) ?_
        refine dv (gyes_none rfl) (q_mv (v := vN) rfl) rfl (by decide) (cok1 trivial) ?_
        refine dv (gyes_none rfl) (q_len_sl (l := names) Try.underlying23 (s30.sl hN) rfl) rfl (by decide) (cok1 trivial) ?_
        refine dvb (gyes_none rfl) (q_int rfl rfl rfl) rfl (by decide) (cok2 trivial trivial) (fun c3 => ?_) (fun c3 => ?_)
        ·
          replace c3 := eq_of_beq c3
          refine dv (gyes_none rfl) (q_mv (v := .bool true) rfl) rfl (by decide) (cok1 trivial) ?_
          refine dno rfl (.inl rfl) rfl (by decide) ?_
          refine dno rfl (.inl rfl) rfl (by decide) ?_
          refine dno rfl (.inl rfl) rfl (by decide) ?_
          refine dno rfl (.inl rfl) rfl (by decide) ?_
          refine dno rfl (.inl rfl) rfl (by decide) ?_
          refine dno rfl (.inl rfl) rfl (by decide) ?_
          refine dno rfl (.inl rfl) rfl (by decide) ?_
          refine dno rfl (.inl rfl) rfl (by decide) ?_
          refine dno rfl (.inl rfl) rfl (by decide) ?_
          refine dno rfl (.inl rfl) rfl (by decide) ?_
          refine dno rfl (.inl rfl) rfl (by decide) ?_
          refine dv (gyes_none rfl) (q_pt (v := .bool true) rfl rfl) rfl (by decide) (call_ok rfl) ?_
          refine ⟨_, Wk.refl _ _, ?_⟩
          show awp _ _ _ _ _ _ _
          refine awp_cond_t rfl ?_
          refine awp_regs hF ?_
          refine dv (gyes_none rfl) (q_field Try.underlying31 rfl Try.sizeOf29 rfl (s30.rd (j := 0) rfl)) rfl (by decide) (cok1 trivial) ?_
          refine dv (gyes_none rfl) (q_load (v := .slice (some ⟨b13, 0, none⟩) names.length names.length) Try.isAgg29 rfl (s30.rd (j := 0) rfl) rfl) rfl (by decide) (cok1 trivial) ?_
          refine dv (gyes_none rfl) (q_mv (v := .int .i64 ((i : Nat) : Int)) rfl) rfl (by decide) (cok1 trivial) ?_
          refine dv (gyes_none rfl) (OpQ.cast (v' := .pointer (some ⟨b13, i, none⟩)) (q_index1 (i := i) Try.underlying29 Try.sizeOf27 rfl rfl (by omega) (s30.rd (j := 1) rfl)) (by rw [Nat.zero_add])) rfl (by decide) (cok2 trivial trivial) ?_
          refine dv (gyes_none rfl) (q_load (v := u32v (nth (ch.set i (gh (nth names i) / 2 * 2)) i)) Try.isAgg27 rfl (s30.rd (j := 1) rfl) (get_nth (w := 0) (by rw [List.length_set]; omega))) rfl (by decide) (cok1 trivial) ?_
          refine dv (gyes_none rfl) (OpQ.cast (v' := .int .u32 ((gh (nth names i) / 2 * 2 + 1 : Nat) : Int)) (q_orN (a := nth (ch.set i (gh (nth names i) / 2 * 2)) i) (b := 1) rfl rfl rfl (by rw [nth_setN, if_pos ⟨rfl, by omega⟩]; show _ < 4294967296; omega) (by decide)) (congrArg _ (or_set (by omega)))) rfl (by decide) (cok2 trivial (cconst rfl)) ?_
          refine dv (gyes_none rfl) (OpQ.cast (v' := .pointer (some ⟨b13, i, none⟩)) (q_index1 (i := i) Try.underlying29 Try.sizeOf27 rfl rfl (by omega) (s30.rd (j := 1) rfl)) (by rw [Nat.zero_add])) rfl (by decide) (cok2 trivial trivial) ?_
          refine x_store1 [] hF s30 (by kernel_rfl) (gyes_none rfl) (j := 1) (v := u32v (gh (nth names i) / 2 * 2 + 1)) rfl Try.sizeOf27 rfl rfl rfl (lc_scalar rfl) (by rw [List.length_map, List.length_set]; omega) trivial trivial rfl rfl (F' := [(b17, .cells true [.int .u32 ((f : Nat) : Int), .int .u32 ((sh : Nat) : Int), .slice (some ⟨b5, 0, none⟩) nw nw, .slice (some ⟨b9, 0, none⟩) nb nb, .slice (some ⟨b13, 0, none⟩) names.length names.length] 5), (b13, .cells true (((ch.set i (gh (nth names i) / 2 * 2)).set i (gh (nth names i) / 2 * 2 + 1)).map u32v) 1), (b9, .cells true ((bk.set ((gh (nth names i)) % nb) (f + i)).map u32v) 1), (b5, .cells true ((bl.set ((gh (nth names i)) / 64 % bl.length) ((nth bl ((gh (nth names i)) / 64 % bl.length)) ||| (bitV (gh (nth names i)) sh))).map u64v) 1), (b1, .cells true [.int .u32 0, .int .u32 0, .slice none 0 0, .slice none 0 0, .slice none 0 0] 5)]) (by simp only [set_map1]; rfl) (fun H31 s32 => ⟨?_, ?_⟩)
          · exact trivial
          refine ⟨_, Wk.refl _ _, ?_⟩
          show awp _ _ _ _ _ _ _
          refine awp_regs hF ?_
          refine dv (gyes_none rfl) (OpQ.cast (v' := .int .i64 ((i + 1 : Nat) : Int)) (q_int rfl rfl rfl) (congrArg _ ((i64_in (by omega)).trans (by first | rfl | omega | (push_cast; rfl))))) rfl (by decide) (cok2 trivial (cconst rfl)) ?_
          refine dv (gyes_none rfl) (q_mv (v := .int .i64 ((i + 1 : Nat) : Int)) rfl) rfl (by decide) (cok1 trivial) ?_
          refine ⟨_, Wk.U [(0, vN), (1, .int .i64 ((f : Nat) : Int)), (2, .int .i64 ((nb : Nat) : Int)), (10, .pointer (some ⟨b1, 0, none⟩)), (12, .pointer (some ⟨b17, 0, none⟩)), (39, vN), (40, .int .i64 ((names.length : Nat) : Int)), (41, .int .i64 (((i + 1) : Nat) : Int))] ⟨rfl, rfl, rfl, rfl, rfl, rfl, rfl, rfl, trivial⟩, ((i + 1), (bl.set ((gh (nth names i)) / 64 % bl.length) ((nth bl ((gh (nth names i)) / 64 % bl.length)) ||| (bitV (gh (nth names i)) sh))), (bk.set ((gh (nth names i)) % nb) (f + i)), ((ch.set i (gh (nth names i) / 2 * 2)).set i (gh (nth names i) / 2 * 2 + 1))), ⟨_, rfl, s32, ⟨by dsimp only; omega, bl_step hB.2.1 hbl, by dsimp only; exact bk_y hB.2.2.1 (by omega), by dsimp only; exact ch_1 hB.2.2.2 (by first | exact .inl (by omega) | (refine .inr ?_; unfold gkey; omega))⟩⟩, (by omega)⟩
        ·
          replace c3 := ne_of_beq_false c3
          refine dv (gyes_none rfl) (q_mv (v := .bool false) rfl) rfl (by decide) (cok1 trivial) ?_
          refine dv (gyes_some rfl rfl) (q_mv (v := vN) rfl) rfl (by decide) (cok1 trivial) ?_
          refine dv (gyes_some rfl rfl) (q_mv (v := .int .i64 ((i : Nat) : Int)) rfl) rfl (by decide) (cok1 trivial) ?_
          refine dv (gyes_some rfl rfl) (OpQ.cast (v' := .int .i64 ((i + 1 : Nat) : Int)) (q_int rfl rfl rfl) (congrArg _ ((i64_in (by omega)).trans (by first | rfl | omega | (push_cast; rfl))))) rfl (by decide) (cok2 trivial (cconst rfl)) ?_
          refine dv (gyes_some rfl rfl) (q_index_sl (l := names) (i := (i + 1)) Try.underlying23 Try.sizeOf9 (s30.sl hN) rfl rfl (by omega)) rfl (by decide) (cok2 trivial trivial) ?_
          refine dv (gyes_some rfl rfl) (q_load_sl (l := names) (i := (i + 1)) Try.isAgg9 (s30.sl hN) rfl (by omega)) rfl (by decide) (cok1 trivial) ?_
          refine dv (gyes_some rfl rfl) (q_call0 Try.call19 rfl (hash_ok (nth names (i + 1)) (hsz _ (nthS_mem (by omega))))) rfl (by decide) (cok2 trivial trivial) ?_
          refine dv (gyes_some rfl rfl) (q_mv (v := .int .i64 ((nb : Nat) : Int)) rfl) rfl (by decide) (cok1 trivial) ?_
          refine dv (gyes_some rfl rfl) (q_convin (a := ((nb : Nat) : Int)) Try.underlying3 Try.underlying27 rfl (u32_in (by omega))) rfl (by decide) (cok1 trivial) ?_
          refine dv (gyes_some rfl rfl) (q_remM (a := (gh (nth names (i + 1)))) (b := nb) rfl rfl (by first | decide | omega)) rfl (by decide) (cok2 trivial trivial) ?_
          refine dv (gyes_some rfl rfl) (q_mv (v := .int .u32 (((gh (nth names i)) % nb : Nat) : Int)) rfl) rfl (by decide) (cok1 trivial) ?_
          refine dvb (gyes_some rfl rfl) (q_int rfl rfl rfl) rfl (by decide) (cok2 trivial trivial) (fun c4 => ?_) (fun c4 => ?_)
          ·
            replace c4 := bne_iff_ne.1 c4
            refine dv (gyes_none rfl) (q_pf (v := .bool true) rfl rfl) rfl (by decide) (call_ok rfl) ?_
            refine ⟨_, Wk.refl _ _, ?_⟩
            show awp _ _ _ _ _ _ _
            refine awp_cond_t rfl ?_
            refine awp_regs hF ?_
            refine dv (gyes_none rfl) (q_field Try.underlying31 rfl Try.sizeOf29 rfl (s30.rd (j := 0) rfl)) rfl (by decide) (cok1 trivial) ?_
            refine dv (gyes_none rfl) (q_load (v := .slice (some ⟨b13, 0, none⟩) names.length names.length) Try.isAgg29 rfl (s30.rd (j := 0) rfl) rfl) rfl (by decide) (cok1 trivial) ?_
            refine dv (gyes_none rfl) (q_mv (v := .int .i64 ((i : Nat) : Int)) rfl) rfl (by decide) (cok1 trivial) ?_
            refine dv (gyes_none rfl) (OpQ.cast (v' := .pointer (some ⟨b13, i, none⟩)) (q_index1 (i := i) Try.underlying29 Try.sizeOf27 rfl rfl (by omega) (s30.rd (j := 1) rfl)) (by rw [Nat.zero_add])) rfl (by decide) (cok2 trivial trivial) ?_
            refine dv (gyes_none rfl) (q_load (v := u32v (nth (ch.set i (gh (nth names i) / 2 * 2)) i)) Try.isAgg27 rfl (s30.rd (j := 1) rfl) (get_nth (w := 0) (by rw [List.length_set]; omega))) rfl (by decide) (cok1 trivial) ?_
            refine dv (gyes_none rfl) (OpQ.cast (v' := .int .u32 ((gh (nth names i) / 2 * 2 + 1 : Nat) : Int)) (q_orN (a := nth (ch.set i (gh (nth names i) / 2 * 2)) i) (b := 1) rfl rfl rfl (by rw [nth_setN, if_pos ⟨rfl, by omega⟩]; show _ < 4294967296; omega) (by decide)) (congrArg _ (or_set (by omega)))) rfl (by decide) (cok2 trivial (cconst rfl)) ?_
            refine dv (gyes_none rfl) (OpQ.cast (v' := .pointer (some ⟨b13, i, none⟩)) (q_index1 (i := i) Try.underlying29 Try.sizeOf27 rfl rfl (by omega) (s30.rd (j := 1) rfl)) (by rw [Nat.zero_add])) rfl (by decide) (cok2 trivial trivial) ?_
            refine x_store1 [] hF s30 (by kernel_rfl) (gyes_none rfl) (j := 1) (v := u32v (gh (nth names i) / 2 * 2 + 1)) rfl Try.sizeOf27 rfl rfl rfl (lc_scalar rfl) (by rw [List.length_map, List.length_set]; omega) trivial trivial rfl rfl (F' := [(b17, .cells true [.int .u32 ((f : Nat) : Int), .int .u32 ((sh : Nat) : Int), .slice (some ⟨b5, 0, none⟩) nw nw, .slice (some ⟨b9, 0, none⟩) nb nb, .slice (some ⟨b13, 0, none⟩) names.length names.length] 5), (b13, .cells true (((ch.set i (gh (nth names i) / 2 * 2)).set i (gh (nth names i) / 2 * 2 + 1)).map u32v) 1), (b9, .cells true ((bk.set ((gh (nth names i)) % nb) (f + i)).map u32v) 1), (b5, .cells true ((bl.set ((gh (nth names i)) / 64 % bl.length) ((nth bl ((gh (nth names i)) / 64 % bl.length)) ||| (bitV (gh (nth names i)) sh))).map u64v) 1), (b1, .cells true [.int .u32 0, .int .u32 0, .slice none 0 0, .slice none 0 0, .slice none 0 0] 5)]) (by simp only [set_map1]; rfl) (fun H33 s34 => ⟨?_, ?_⟩)
            · exact trivial
            refine ⟨_, Wk.refl _ _, ?_⟩
            show awp _ _ _ _ _ _ _
            refine awp_regs hF ?_
            refine dv (gyes_none rfl) (OpQ.cast (v' := .int .i64 ((i + 1 : Nat) : Int)) (q_int rfl rfl rfl) (congrArg _ ((i64_in (by omega)).trans (by first | rfl | omega | (push_cast; rfl))))) rfl (by decide) (cok2 trivial (cconst rfl)) ?_
            refine dv (gyes_none rfl) (q_mv (v := .int .i64 ((i + 1 : Nat) : Int)) rfl) rfl (by decide) (cok1 trivial) ?_
            refine ⟨_, Wk.U [(0, vN), (1, .int .i64 ((f : Nat) : Int)), (2, .int .i64 ((nb : Nat) : Int)), (10, .pointer (some ⟨b1, 0, none⟩)), (12, .pointer (some ⟨b17, 0, none⟩)), (39, vN), (40, .int .i64 ((names.length : Nat) : Int)), (41, .int .i64 (((i + 1) : Nat) : Int))] ⟨rfl, rfl, rfl, rfl, rfl, rfl, rfl, rfl, trivial⟩, ((i + 1), (bl.set ((gh (nth names i)) / 64 % bl.length) ((nth bl ((gh (nth names i)) / 64 % bl.length)) ||| (bitV (gh (nth names i)) sh))), (bk.set ((gh (nth names i)) % nb) (f + i)), ((ch.set i (gh (nth names i) / 2 * 2)).set i (gh (nth names i) / 2 * 2 + 1))), ⟨_, rfl, s34, ⟨by dsimp only; omega, bl_step hB.2.1 hbl, by dsimp only; exact bk_y hB.2.2.1 (by omega), by dsimp only; exact ch_1 hB.2.2.2 (by first | exact .inl (by omega) | (refine .inr ?_; unfold gkey; omega))⟩⟩, (by omega)⟩
          ·
            replace c4 := bne_eq_false_iff_eq.1 c4
            refine dv (gyes_none rfl) (q_pf (v := .bool false) rfl rfl) rfl (by decide) (call_ok rfl) ?_
            refine ⟨_, Wk.refl _ _, ?_⟩
            show awp _ _ _ _ _ _ _
            refine awp_cond_f rfl ?_
            refine awp_skip_wk ?_
            refine ⟨_, Wk.refl _ _, ?_⟩
            show awp _ _ _ _ _ _ _
            refine awp_regs hF ?_
            refine dv (gyes_none rfl) (OpQ.cast (v' := .int .i64 ((i + 1 : Nat) : Int)) (q_int rfl rfl rfl) (congrArg _ ((i64_in (by omega)).trans (by first | rfl | omega | (push_cast; rfl))))) rfl (by decide) (cok2 trivial (cconst rfl)) ?_
            refine dv (gyes_none rfl) (q_mv (v := .int .i64 ((i + 1 : Nat) : Int)) rfl) rfl (by decide) (cok1 trivial) ?_
            refine ⟨_, Wk.U [(0, vN), (1, .int .i64 ((f : Nat) : Int)), (2, .int .i64 ((nb : Nat) : Int)), (10, .pointer (some ⟨b1, 0, none⟩)), (12, .pointer (some ⟨b17, 0, none⟩)), (39, vN), (40, .int .i64 ((names.length : Nat) : Int)), (41, .int .i64 (((i + 1) : Nat) : Int))] ⟨rfl, rfl, rfl, rfl, rfl, rfl, rfl, rfl, trivial⟩, ((i + 1), (bl.set ((gh (nth names i)) / 64 % bl.length) ((nth bl ((gh (nth names i)) / 64 % bl.length)) ||| (bitV (gh (nth names i)) sh))), (bk.set ((gh (nth names i)) % nb) (f + i)), (ch.set i (gh (nth names i) / 2 * 2))), ⟨_, rfl, s30, ⟨by dsimp only; omega, bl_step hB.2.1 hbl, by dsimp only; exact bk_y hB.2.2.1 (by omega), by dsimp only; exact ch_0 hB.2.2.2 (by unfold lastB; rintro (h9 | h9); omega; exact h9 (by unfold gkey; omega))⟩⟩, (by omega)⟩
      ·
        replace c2 := ne_of_beq_false c2
        refine ⟨_, Wk.refl _ _, ?_⟩
        show awp _ _ _ _ _ _ _
        refine awp_cond_f rfl ?_
        refine awp_skip_wk ?_
        refine ⟨_, Wk.refl _ _, ?_⟩
        show awp _ _ _ _ _ _ _
        refine awp_seq ?_
        refine awp_regs hF ?_
        refine dv (gyes_none rfl) (q_field Try.underlying31 rfl Try.sizeOf29 rfl (s26.rd (j := 0) rfl)) rfl (by decide) (cok1 trivial) ?_
        refine dv (gyes_none rfl) (q_load (v := .slice (some ⟨b13, 0, none⟩) names.length names.length) Try.isAgg29 rfl (s26.rd (j := 0) rfl) rfl) rfl (by decide) (cok1 trivial) ?_
        refine dv (gyes_none rfl) (q_mv (v := .int .i64 ((i : Nat) : Int)) rfl) rfl (by decide) (cok1 trivial) ?_
        refine dv (gyes_none rfl) (q_mv (v := .int .u32 ((gh (nth names i) : Nat) : Int)) rfl) rfl (by decide) (cok1 trivial) ?_
        refine dv (gyes_none rfl) (q_andNot1 (a := gh (nth names i)) rfl rfl hg1) rfl (by decide) (cok2 trivial (cconst rfl)) ?_
        refine dv (gyes_none rfl) (OpQ.cast (v' := .pointer (some ⟨b13, i, none⟩)) (q_index1 (i := i) Try.underlying29 Try.sizeOf27 rfl rfl (by omega) (s26.rd (j := 1) rfl)) (by rw [Nat.zero_add])) rfl (by decide) (cok2 trivial trivial) ?_
        refine x_store1 [] hF s26 (by kernel_rfl) (gyes_none rfl) (j := 1) (v := u32v (gh (nth names i) / 2 * 2)) rfl Try.sizeOf27 rfl rfl rfl (lc_scalar rfl) (by rw [List.length_map]; omega) trivial trivial rfl rfl (F' := [(b17, .cells true [.int .u32 ((f : Nat) : Int), .int .u32 ((sh : Nat) : Int), .slice (some ⟨b5, 0, none⟩) nw nw, .slice (some ⟨b9, 0, none⟩) nb nb, .slice (some ⟨b13, 0, none⟩) names.length names.length] 5), (b13, .cells true ((ch.set i (gh (nth names i) / 2 * 2)).map u32v) 1), (b9, .cells true (bk.map u32v) 1), (b5, .cells true ((bl.set ((gh (nth names i)) / 64 % bl.length) ((nth bl ((gh (nth names i)) / 64 % bl.length)) ||| (bitV (gh (nth names i)) sh))).map u64v) 1), (b1, .cells true [.int .u32 0, .int .u32 0, .slice none 0 0, .slice none 0 0, .slice none 0 0] 5)]) (by simp only [set_map1]; rfl) (fun H35 s36 => ⟨?_, ?_⟩)
        · exact trivial
        refine ⟨_, Wk.refl _ _, ?_⟩
        show awp _ _ _ _ _ _ _
        refine awp_seq ?_
        have hg2 := gh_lt (nth names (i + 1))
        have hm3 := Nat.mod_lt (gh (nth names (i + 1))) (show 0 < nb by omega)
        refine awp_regs hF ?_
        refine dv (gyes_none rfl) (q_mv (v := .int .i64 ((i : Nat) : Int)) rfl) rfl (by decide) (cok1 trivial) ?_
        refine dv (gyes_none rfl) (OpQ.cast (v' := .int .i64 ((i + 1 : Nat) : Int)) (q_int rfl rfl rfl) (congrArg _ ((i64_in (by omega)).trans (by first | rfl | omega | (push_cast; rfl))))) rfl (by decide) (cok2 trivial (cconst rfl)) ?_
        refine dv (gyes_none rfl) (q_mv (v := vN) rfl) rfl (by decide) (cok1 trivial) ?_
        refine dv (gyes_none rfl) (q_len_sl (l := names) Try.underlying23 (s36.sl hN) rfl) rfl (by decide) (cok1 trivial) ?_
        refine dvb (gyes_none rfl) (q_int rfl rfl rfl) rfl (by decide) (cok2 trivial trivial) (fun c5 => ?_) (fun c5 => ?_)
        ·
          replace c5 := eq_of_beq c5
          refine dv (gyes_none rfl) (q_mv (v := .bool true) rfl) rfl (by decide) (cok1 trivial) ?_
          refine dno rfl (.inl rfl) rfl (by decide) ?_
          refine dno rfl (.inl rfl) rfl (by decide) ?_
          refine dno rfl (.inl rfl) rfl (by decide) ?_
          refine dno rfl (.inl rfl) rfl (by decide) ?_
          refine dno rfl (.inl rfl) rfl (by decide) ?_
          refine dno rfl (.inl rfl) rfl (by decide) ?_
          refine dno rfl (.inl rfl) rfl (by decide) ?_
          refine dno rfl (.inl rfl) rfl (by decide) ?_
          refine dno rfl (.inl rfl) rfl (by decide) ?_
          refine dno rfl (.inl rfl) rfl (by decide) ?_
          refine dno rfl (.inl rfl) rfl (by decide) ?_
          refine dv (gyes_none rfl) (q_pt (v := .bool true) rfl rfl) rfl (by decide) (call_ok rfl) ?_
          refine ⟨_, Wk.refl _ _, ?_⟩
          show awp _ _ _ _ _ _ _
          refine awp_cond_t rfl ?_
          refine awp_regs hF ?_
          refine dv (gyes_none rfl) (q_field Try.underlying31 rfl Try.sizeOf29 rfl (s36.rd (j := 0) rfl)) rfl (by decide) (cok1 trivial) ?_
          refine dv (gyes_none rfl) (q_load (v := .slice (some ⟨b13, 0, none⟩) names.length names.length) Try.isAgg29 rfl (s36.rd (j := 0) rfl) rfl) rfl (by decide) (cok1 trivial) ?_
          refine dv (gyes_none rfl) (q_mv (v := .int .i64 ((i : Nat) : Int)) rfl) rfl (by decide) (cok1 trivial) ?_
          refine dv (gyes_none rfl) (OpQ.cast (v' := .pointer (some ⟨b13, i, none⟩)) (q_index1 (i := i) Try.underlying29 Try.sizeOf27 rfl rfl (by omega) (s36.rd (j := 1) rfl)) (by rw [Nat.zero_add])) rfl (by decide) (cok2 trivial trivial) ?_
          refine dv (gyes_none rfl) (q_load (v := u32v (nth (ch.set i (gh (nth names i) / 2 * 2)) i)) Try.isAgg27 rfl (s36.rd (j := 1) rfl) (get_nth (w := 0) (by rw [List.length_set]; omega))) rfl (by decide) (cok1 trivial) ?_
          refine dv (gyes_none rfl) (OpQ.cast (v' := .int .u32 ((gh (nth names i) / 2 * 2 + 1 : Nat) : Int)) (q_orN (a := nth (ch.set i (gh (nth names i) / 2 * 2)) i) (b := 1) rfl rfl rfl (by rw [nth_setN, if_pos ⟨rfl, by omega⟩]; show _ < 4294967296; omega) (by decide)) (congrArg _ (or_set (by omega)))) rfl (by decide) (cok2 trivial (cconst rfl)) ?_
          refine dv (gyes_none rfl) (OpQ.cast (v' := .pointer (some ⟨b13, i, none⟩)) (q_index1 (i := i) Try.underlying29 Try.sizeOf27 rfl rfl (by omega) (s36.rd (j := 1) rfl)) (by rw [Nat.zero_add])) rfl (by decide) (cok2 trivial trivial) ?_
          refine x_store1 [] hF s36 (by kernel_rfl) (gyes_none rfl) (j := 1) (v := u32v (gh (nth names i) / 2 * 2 + 1)) rfl Try.sizeOf27 rfl rfl rfl (lc_scalar rfl) (by rw [List.length_map, List.length_set]; omega) trivial trivial rfl rfl (F' := [(b17, .cells true [.int .u32 ((f : Nat) : Int), .int .u32 ((sh : Nat) : Int), .slice (some ⟨b5, 0, none⟩) nw nw, .slice (some ⟨b9, 0, none⟩) nb nb, .slice (some ⟨b13, 0, none⟩) names.length names.length] 5), (b13, .cells true (((ch.set i (gh (nth names i) / 2 * 2)).set i (gh (nth names i) / 2 * 2 + 1)).map u32v) 1), (b9, .cells true (bk.map u32v) 1), (b5, .cells true ((bl.set ((gh (nth names i)) / 64 % bl.length) ((nth bl ((gh (nth names i)) / 64 % bl.length)) ||| (bitV (gh (nth names i)) sh))).map u64v) 1), (b1, .cells true [.int .u32 0, .int .u32 0, .slice none 0 0, .slice none 0 0, .slice none 0 0] 5)]) (by simp only [set_map1]; rfl) (fun H37 s38 => ⟨?_, ?_⟩)
          · exact trivial
          refine ⟨_, Wk.refl _ _, ?_⟩
          show awp _ _ _ _ _ _ _
          refine awp_regs hF ?_
          refine dv (gyes_none rfl) (OpQ.cast (v' := .int .i64 ((i + 1 : Nat) : Int)) (q_int rfl rfl rfl) (congrArg _ ((i64_in (by omega)).trans (by first | rfl | omega | (push_cast; rfl))))) rfl (by decide) (cok2 trivial (cconst rfl)) ?_
          refine dv (gyes_none rfl) (q_mv (v := .int .i64 ((i + 1 : Nat) : Int)) rfl) rfl (by decide) (cok1 trivial) ?_
          refine ⟨_, Wk.U [(0, vN), (1, .int .i64 ((f : Nat) : Int)), (2, .int .i64 ((nb : Nat) : Int)), (10, .pointer (some ⟨b1, 0, none⟩)), (12, .pointer (some ⟨b17, 0, none⟩)), (39, vN), (40, .int .i64 ((names.length : Nat) : Int)), (41, .int .i64 (((i + 1) : Nat) : Int))] ⟨rfl, rfl, rfl, rfl, rfl, rfl, rfl, rfl, trivial⟩, ((i + 1), (bl.set ((gh (nth names i)) / 64 % bl.length) ((nth bl ((gh (nth names i)) / 64 % bl.length)) ||| (bitV (gh (nth names i)) sh))), bk, ((ch.set i (gh (nth names i) / 2 * 2)).set i (gh (nth names i) / 2 * 2 + 1))), ⟨_, rfl, s38, ⟨by dsimp only; omega, bl_step hB.2.1 hbl, by dsimp only; exact bk_n hB.2.2.1 (by omega), by dsimp only; exact ch_1 hB.2.2.2 (by first | exact .inl (by omega) | (refine .inr ?_; unfold gkey; omega))⟩⟩, (by omega)⟩
        ·
          replace c5 := ne_of_beq_false c5
          refine dv (gyes_none rfl) (q_mv (v := .bool false) rfl) rfl (by decide) (cok1 trivial) ?_
          refine dv (gyes_some rfl rfl) (q_mv (v := vN) rfl) rfl (by decide) (cok1 trivial) ?_
          refine dv (gyes_some rfl rfl) (q_mv (v := .int .i64 ((i : Nat) : Int)) rfl) rfl (by decide) (cok1 trivial) ?_
          refine dv (gyes_some rfl rfl) (OpQ.cast (v' := .int .i64 ((i + 1 : Nat) : Int)) (q_int rfl rfl rfl) (congrArg _ ((i64_in (by omega)).trans (by first | rfl | omega | (push_cast; rfl))))) rfl (by decide) (cok2 trivial (cconst rfl)) ?_
          refine dv (gyes_some rfl rfl) (q_index_sl (l := names) (i := (i + 1)) Try.underlying23 Try.sizeOf9 (s36.sl hN) rfl rfl (by omega)) rfl (by decide) (cok2 trivial trivial) ?_
          refine dv (gyes_some rfl rfl) (q_load_sl (l := names) (i := (i + 1)) Try.isAgg9 (s36.sl hN) rfl (by omega)) rfl (by decide) (cok1 trivial) ?_
          refine dv (gyes_some rfl rfl) (q_call0 Try.call19 rfl (hash_ok (nth names (i + 1)) (hsz _ (nthS_mem (by omega))))) rfl (by decide) (cok2 trivial trivial) ?_
          refine dv (gyes_some rfl rfl) (q_mv (v := .int .i64 ((nb : Nat) : Int)) rfl) rfl (by decide) (cok1 trivial) ?_
          refine dv (gyes_some rfl rfl) (q_convin (a := ((nb : Nat) : Int)) Try.underlying3 Try.underlying27 rfl (u32_in (by omega))) rfl (by decide) (cok1 trivial) ?_
          refine dv (gyes_some rfl rfl) (q_remM (a := (gh (nth names (i + 1)))) (b := nb) rfl rfl (by first | decide | omega)) rfl (by decide) (cok2 trivial trivial) ?_
          refine dv (gyes_some rfl rfl) (q_mv (v := .int .u32 (((gh (nth names i)) % nb : Nat) : Int)) rfl) rfl (by decide) (cok1 trivial) ?_
          refine dvb (gyes_some rfl rfl) (q_int rfl rfl rfl) rfl (by decide) (cok2 trivial trivial) (fun c6 => ?_) (fun c6 => ?_)
          ·
            replace c6 := bne_iff_ne.1 c6
            refine dv (gyes_none rfl) (q_pf (v := .bool true) rfl rfl) rfl (by decide) (call_ok rfl) ?_
            refine ⟨_, Wk.refl _ _, ?_⟩
            show awp _ _ _ _ _ _ _
            refine awp_cond_t rfl ?_
            refine awp_regs hF ?_
            refine dv (gyes_none rfl) (q_field Try.underlying31 rfl Try.sizeOf29 rfl (s36.rd (j := 0) rfl)) rfl (by decide) (cok1 trivial) ?_
            refine dv (gyes_none rfl) (q_load (v := .slice (some ⟨b13, 0, none⟩) names.length names.length) Try.isAgg29 rfl (s36.rd (j := 0) rfl) rfl) rfl (by decide) (cok1 trivial) ?_
            refine dv (gyes_none rfl) (q_mv (v := .int .i64 ((i : Nat) : Int)) rfl) rfl (by decide) (cok1 trivial) ?_
            refine dv (gyes_none rfl) (OpQ.cast (v' := .pointer (some ⟨b13, i, none⟩)) (q_index1 (i := i) Try.underlying29 Try.sizeOf27 rfl rfl (by omega) (s36.rd (j := 1) rfl)) (by rw [Nat.zero_add])) rfl (by decide) (cok2 trivial trivial) ?_
            refine dv (gyes_none rfl) (q_load (v := u32v (nth (ch.set i (gh (nth names i) / 2 * 2)) i)) Try.isAgg27 rfl (s36.rd (j := 1) rfl) (get_nth (w := 0) (by rw [List.length_set]; omega))) rfl (by decide) (cok1 trivial) ?_
            refine dv (gyes_none rfl) (OpQ.cast (v' := .int .u32 ((gh (nth names i) / 2 * 2 + 1 : Nat) : Int)) (q_orN (a := nth (ch.set i (gh (nth names i) / 2 * 2)) i) (b := 1) rfl rfl rfl (by rw [nth_setN, if_pos ⟨rfl, by omega⟩]; show _ < 4294967296; omega) (by decide)) (congrArg _ (or_set (by omega)))) rfl (by decide) (cok2 trivial (cconst rfl)) ?_
            refine dv (gyes_none rfl) (OpQ.cast (v' := .pointer (some ⟨b13, i, none⟩)) (q_index1 (i := i) Try.underlying29 Try.sizeOf27 rfl rfl (by omega) (s36.rd (j := 1) rfl)) (by rw [Nat.zero_add])) rfl (by decide) (cok2 trivial trivial) ?_
            refine x_store1 [] hF s36 (by kernel_rfl) (gyes_none rfl) (j := 1) (v := u32v (gh (nth names i) / 2 * 2 + 1)) rfl Try.sizeOf27 rfl rfl rfl (lc_scalar rfl) (by rw [List.length_map, List.length_set]; omega) trivial trivial rfl rfl (F' := [(b17, .cells true [.int .u32 ((f : Nat) : Int), .int .u32 ((sh : Nat) : Int), .slice (some ⟨b5, 0, none⟩) nw nw, .slice (some ⟨b9, 0, none⟩) nb nb, .slice (some ⟨b13, 0, none⟩) names.length names.length] 5), (b13, .cells true (((ch.set i (gh (nth names i) / 2 * 2)).set i (gh (nth names i) / 2 * 2 + 1)).map u32v) 1), (b9, .cells true (bk.map u32v) 1), (b5, .cells true ((bl.set ((gh (nth names i)) / 64 % bl.length) ((nth bl ((gh (nth names i)) / 64 % bl.length)) ||| (bitV (gh (nth names i)) sh))).map u64v) 1), (b1, .cells true [.int .u32 0, .int .u32 0, .slice none 0 0, .slice none 0 0, .slice none 0 0] 5)]) (by simp only [set_map1]; rfl) (fun H39 s40 => ⟨?_, ?_⟩)
            · exact trivial
            refine ⟨_, Wk.refl _ _, ?_⟩
            show awp _ _ _ _ _ _ _
            refine awp_regs hF ?_
            refine dv (gyes_none rfl) (OpQ.cast (v' := .int .i64 ((i + 1 : Nat) : Int)) (q_int rfl rfl rfl) (congrArg _ ((i64_in (by omega)).trans (by first | rfl | omega | (push_cast; rfl))))) rfl (by decide) (cok2 trivial (cconst rfl)) ?_
            refine dv (gyes_none rfl) (q_mv (v := .int .i64 ((i + 1 : Nat) : Int)) rfl) rfl (by decide) (cok1 trivial) ?_
            refine ⟨_, Wk.U [(0, vN), (1, .int .i64 ((f : Nat) : Int)), (2, .int .i64 ((nb : Nat) : Int)), (10, .pointer (some ⟨b1, 0, none⟩)), (12, .pointer (some ⟨b17, 0, none⟩)), (39, vN), (40, .int .i64 ((names.length : Nat) : Int)), (41, .int .i64 (((i + 1) : Nat) : Int))] ⟨rfl, rfl, rfl, rfl, rfl, rfl, rfl, rfl, trivial⟩, ((i + 1), (bl.set ((gh (nth names i)) / 64 % bl.length) ((nth bl ((gh (nth names i)) / 64 % bl.length)) ||| (bitV (gh (nth names i)) sh))), bk, ((ch.set i (gh (nth names i) / 2 * 2)).set i (gh (nth names i) / 2 * 2 + 1))), ⟨_, rfl, s40, ⟨by dsimp only; omega, bl_step hB.2.1 hbl, by dsimp only; exact bk_n hB.2.2.1 (by omega), by dsimp only; exact ch_1 hB.2.2.2 (by first | exact .inl (by omega) | (refine .inr ?_; unfold gkey; omega))⟩⟩, (by omega)⟩
          ·
            replace c6 := bne_eq_false_iff_eq.1 c6
            refine dv (gyes_none rfl) (q_pf (v := .bool false) rfl rfl) rfl (by decide) (call_ok rfl) ?_
            refine ⟨_, Wk.refl _ _, ?_⟩
            show awp _ _ _ _ _ _ _
            refine awp_cond_f rfl ?_
            refine awp_skip_wk ?_
            refine ⟨_, Wk.refl _ _, ?_⟩
            show awp _ _ _ _ _ _ _
            refine awp_regs hF ?_
            refine dv (gyes_none rfl) (OpQ.cast (v' := .int .i64 ((i + 1 : Nat) : Int)) (q_int rfl rfl rfl) (congrArg _ ((i64_in (by omega)).trans (by first | rfl | omega | (push_cast; rfl))))) rfl (by decide) (cok2 trivial (cconst rfl)) ?_
            refine dv (gyes_none rfl) (q_mv (v := .int .i64 ((i + 1 : Nat) : Int)) rfl) rfl (by decide) (cok1 trivial) ?_
            refine ⟨_, Wk.U [(0, vN), (1, .int .i64 ((f : Nat) : Int)), (2, .int .i64 ((nb : Nat) : Int)), (10, .pointer (some ⟨b1, 0, none⟩)), (12, .pointer (some ⟨b17, 0, none⟩)), (39, vN), (40, .int .i64 ((names.length : Nat) : Int)), (41, .int .i64 (((i + 1) : Nat) : Int))] ⟨rfl, rfl, rfl, rfl, rfl, rfl, rfl, rfl, trivial⟩, ((i + 1), (bl.set ((gh (nth names i)) / 64 % bl.length) ((nth bl ((gh (nth names i)) / 64 % bl.length)) ||| (bitV (gh (nth names i)) sh))), bk, (ch.set i (gh (nth names i) / 2 * 2))), ⟨_, rfl, s36, ⟨by dsimp only; omega, bl_step hB.2.1 hbl, by dsimp only; exact bk_n hB.2.2.1 (by omega), by dsimp only; exact ch_0 hB.2.2.2 (by unfold lastB; rintro (h9 | h9); omega; exact h9 (by unfold gkey; omega))⟩⟩, (by omega)⟩
    ·
      replace c1 := of_decide_eq_false c1
      refine ⟨_, Wk.refl _ _, ?_⟩
      show awp _ _ _ _ _ _ _
      refine awp_seq ?_
      refine awp_cond_f rfl ?_
      refine awp_exit_wk ?_
      refine ⟨_, Wk.refl _ _, ?_⟩
      show awp _ _ _ _ _ _ _
      refine awp_seq ?_
      refine awp_regs hF ?_
      refine dv (gyes_none rfl) (q_loadAgg Try.isAgg31 Try.sizeOf31 rfl (s24.rd (j := 0) rfl) (Nat.le_of_ble_eq_true rfl) rfl) rfl (by decide) (cok1 trivial) ?_
      refine x_store [] hF s24 (by kernel_rfl) (gyes_none rfl) (j := 4) (v := .agg #[.int .u32 ((f : Nat) : Int), .int .u32 ((sh : Nat) : Int), .slice (some ⟨b5, 0, none⟩) nw nw, .slice (some ⟨b9, 0, none⟩) nb nb, .slice (some ⟨b13, 0, none⟩) names.length names.length]) rfl Try.sizeOf31 rfl rfl rfl rfl rfl trivial (lcsA ⟨(lc_scalar rfl), (lc_scalar rfl), (lc_slice (s24.live (j := 3) rfl)), (lc_slice (s24.live (j := 2) rfl)), (lc_slice (s24.live (j := 1) rfl)), trivial⟩) (Nat.le_of_ble_eq_true rfl) trivial trivial rfl rfl (F' := [(b17, .cells true [.int .u32 ((f : Nat) : Int), .int .u32 ((sh : Nat) : Int), .slice (some ⟨b5, 0, none⟩) nw nw, .slice (some ⟨b9, 0, none⟩) nb nb, .slice (some ⟨b13, 0, none⟩) names.length names.length] 5), (b13, .cells true (ch.map u32v) 1), (b9, .cells true (bk.map u32v) 1), (b5, .cells true (bl.map u64v) 1), (b1, .cells true [.int .u32 ((f : Nat) : Int), .int .u32 ((sh : Nat) : Int), .slice (some ⟨b5, 0, none⟩) nw nw, .slice (some ⟨b9, 0, none⟩) nb nb, .slice (some ⟨b13, 0, none⟩) names.length names.length] 5)]) rfl (fun H41 s42 => ⟨?_, ?_⟩)
      · exact trivial
      refine dv (gyes_none rfl) (q_as (v := .bool true) rfl) rfl (by decide) (cok1 (cconst rfl)) ?_
      refine ⟨_, Wk.refl _ _, ?_⟩
      show awp _ _ _ _ _ _ _
      refine awp_ret_wk ?_
      obtain ⟨hie, rfl, rfl, rfl⟩ := hB
      obtain rfl : i = names.length := by omega
      refine ⟨_, Wk.refl _ _, ?_⟩
      repeat (with_reducible first | refine then_ret ?_ | refine blk_ret ?_ | refine then_exit ?_ | refine blk_exit ?_ | refine blk_exit' (by decide) ?_ | refine blk_normal ?_ | refine then_normal ?_ | refine retq_ret ?_ | refine retq_normal ?_ | refine ng_normal ?_ | refine ng_ret ?_ | refine ng_exit ?_)
      refine ret_is (v := .tuple #[.agg #[.int .u32 ((f : Nat) : Int), .int .u32 ((sh : Nat) : Int), .slice (some ⟨b5, 0, none⟩) nw nw, .slice (some ⟨b9, 0, none⟩) nb nb, .slice (some ⟨b13, 0, none⟩) names.length names.length], .bool true]) rfl (.agg rfl Try.isAgg31 Try.sizeOf31 (s42.rd (j := 4) rfl) (Nat.le_of_ble_eq_true rfl) rfl (.tmp rfl .nil)) rfl ?_
      exact ⟨_, _, _, rfl, (s42.sub (.cons _ (.cons_cons _ (.cons_cons _ (.cons_cons _ (.cons _ (.refl _))))))).newL⟩

end Go.Proofs.YtponfeigjmjbmaaA


/-
  Walks of functions of the given program, and what they compute.
-/
namespace Go.Proofs.YtponfeigjmjbmaaA
set_option linter.unusedVariables false
open Go Go.RowKit Go.Shelf Go.Proofs
def firstK (p : Nat → Bool) (n : Nat) : Nat := ((List.range n).find? p).getD n
theorem firstK_yes {p : Nat → Bool} {n i : Nat} (hi : i < n) (h : p i = true) (hn : ∀ j, j < i → p j = false) : firstK p n = i := by
  have : (List.range n).find? p = some i := by
    rw [List.find?_range_eq_some]
    exact ⟨h, List.mem_range.2 hi, fun j hj => by rw [hn j hj]; rfl⟩
  unfold firstK; rw [this]; rfl
theorem firstK_no {p : Nat → Bool} {n : Nat} (hn : ∀ j, j < n → p j = false) : firstK p n = n := by
  have : (List.range n).find? p = none := by
    rw [List.find?_range_eq_none]
    exact fun j hj => by rw [hn j hj]; rfl
  unfold firstK; rw [this]; rfl
theorem firstK_le (p : Nat → Bool) (n : Nat) : firstK p n ≤ n := by
  unfold firstK
  cases e : (List.range n).find? p with
  | none => exact Nat.le_refl _
  | some i => exact Nat.le_of_lt (List.mem_range.1 (List.mem_of_find?_eq_some e))
theorem firstK_is {p : Nat → Bool} {n : Nat} (h : firstK p n < n) : p (firstK p n) = true := by
  unfold firstK at h ⊢
  cases e : (List.range n).find? p with
  | none => rw [e] at h; exact absurd h (Nat.lt_irrefl _)
  | some i => exact List.find?_some e
theorem firstK_min {p : Nat → Bool} {n : Nat} : ∀ j, j < firstK p n → p j = false := fun j hj => by
  unfold firstK at hj
  cases e : (List.range n).find? p with
  | none => rw [e] at hj; exact Bool.eq_false_iff.2 (List.find?_eq_none.1 e j (List.mem_range.2 hj))
  | some i =>
    rw [e] at hj
    have h := (List.find?_range_eq_some.1 e).2.2 j hj
    simpa using h
def gOk (lb lk : List Nat) (sh f h : Nat) : Prop := mayV lb sh h = true ∧ 0 < lk.length ∧ f ≤ nth lk (h % lk.length)
instance (lb lk : List Nat) (sh f h : Nat) : Decidable (gOk lb lk sh f h) := inferInstanceAs (Decidable (_ ∧ _))
def gS (lk : List Nat) (f h : Nat) : Nat := nth lk (h % lk.length) - f
def gZ (lc : List Nat) (s : Nat) : Nat := firstK (fun i => decide (s ≤ i) && decide (nth lc i % 2 = 1)) lc.length
def gE (lb lk lc : List Nat) (sh f h : Nat) : Nat := if gOk lb lk sh f h then (if gZ lc (gS lk f h) < lc.length then gZ lc (gS lk f h) + 1 else max (gS lk f h) lc.length) else gS lk f h
structure Ends (lc : List Nat) (s e : Nat) : Prop where
  le : s ≤ e
  top : e ≤ max s lc.length
  odd : ∀ i, s ≤ i → i + 1 < e → nth lc i % 2 = 0
  fin : e < lc.length → s < e ∧ nth lc (e - 1) % 2 = 1
theorem gZ_min {lc : List Nat} {s i : Nat} (h1 : s ≤ i) (h2 : i < gZ lc s) : nth lc i % 2 = 0 := by
  have h := firstK_min (p := fun i => decide (s ≤ i) && decide (nth lc i % 2 = 1)) (n := lc.length) i h2
  try dsimp only at h
  rw [decide_eq_true h1, Bool.true_and, decide_eq_false_iff_not] at h
  omega
theorem gE_ends {lb lk lc : List Nat} {sh f h : Nat} (ho : gOk lb lk sh f h) : Ends lc (gS lk f h) (gE lb lk lc sh f h) := by
  unfold gE
  rw [if_pos ho]
  generalize gS lk f h = s
  split
  · rename_i hz
    have h1 := firstK_is hz
    rw [Bool.and_eq_true, decide_eq_true_iff, decide_eq_true_iff] at h1
    change s ≤ gZ lc s ∧ nth lc (gZ lc s) % 2 = 1 at h1
    exact ⟨by omega, by omega, fun i h2 h3 => gZ_min h2 (by omega), fun _ => ⟨by omega, by rw [Nat.add_sub_cancel]; exact h1.2⟩⟩
  · rename_i hz
    have hl : gZ lc s ≤ lc.length := firstK_le _ _
    exact ⟨Nat.le_max_left _ _, Nat.le_refl _, fun i h2 h3 => gZ_min h2 (by omega), fun h2 => absurd h2 (by omega)⟩
theorem gE_le {lb lk lc : List Nat} {sh f h : Nat} : gS lk f h ≤ gE lb lk lc sh f h := by
  by_cases ho : gOk lb lk sh f h
  · exact (gE_ends ho).le
  · unfold gE; rw [if_neg ho]; exact Nat.le_refl _
theorem gE_in {lb lk lc : List Nat} {sh f h i : Nat} (h1 : gS lk f h ≤ i) (h2 : i < gE lb lk lc sh f h) : gOk lb lk sh f h ∧ i < lc.length := by
  by_cases ho : gOk lb lk sh f h
  · exact ⟨ho, by have := (gE_ends (lc := lc) ho).top; omega⟩
  · unfold gE at h2; rw [if_neg ho] at h2; omega
def gP (names : List ByteArray) (lc : List Nat) (f : Nat) (s : ByteArray) (j : Nat) : Prop := nth lc j / 2 = gh s / 2 ∧ j + f < names.length ∧ nth names (j + f) = s
instance (names : List ByteArray) (lc : List Nat) (f : Nat) (s : ByteArray) (j : Nat) : Decidable (gP names lc f s j) := inferInstanceAs (Decidable (_ ∧ _))
section
variable (lb lk lc : List Nat) (sh f : Nat) (names : List ByteArray) (s : ByteArray)
def gF : Nat := firstK (fun j => decide (gS lk f (gh s) ≤ j) && decide (gP names lc f s j)) (gE lb lk lc sh f (gh s))
def gFV : Nat × Bool := if gF lb lk lc sh f names s < gE lb lk lc sh f (gh s) then (gF lb lk lc sh f names s + f, true) else (0, false)
end
section
variable {lb lk lc : List Nat} {sh f : Nat} {names : List ByteArray} {s : ByteArray}
theorem gF_yes {r : Nat} (h1 : gS lk f (gh s) ≤ r) (h2 : r < gE lb lk lc sh f (gh s)) (h3 : gP names lc f s r) (hn : ∀ j, gS lk f (gh s) ≤ j → j < r → ¬ gP names lc f s j) : gFV lb lk lc sh f names s = (r + f, true) := by
  have e : gF lb lk lc sh f names s = r := firstK_yes h2 (by rw [decide_eq_true h1, decide_eq_true h3]; rfl) fun j hj => by
    by_cases e : gS lk f (gh s) ≤ j
    · rw [decide_eq_false (hn j e hj), Bool.and_false]
    · rw [decide_eq_false e, Bool.false_and]
  unfold gFV
  rw [e, if_pos h2]
theorem gF_no (hn : ∀ j, gS lk f (gh s) ≤ j → j < gE lb lk lc sh f (gh s) → ¬ gP names lc f s j) : gFV lb lk lc sh f names s = (0, false) := by
  have e : gF lb lk lc sh f names s = gE lb lk lc sh f (gh s) := firstK_no fun j hj => by
    by_cases e : gS lk f (gh s) ≤ j
    · rw [decide_eq_false (hn j e hj), Bool.and_false]
    · rw [decide_eq_false e, Bool.false_and]
  unfold gFV
  rw [e, if_neg (Nat.lt_irrefl _)]
end
theorem lt_casesN {p : Nat → Prop} {a i : Nat} (h : ∀ j, a ≤ j → j < i → p j) (hi : p i) : ∀ j, a ≤ j → j < i + 1 → p j := fun j h1 h2 => by
  by_cases e : j = i
  · subst e; exact hi
  · exact h j h1 (by omega)
set_option maxRecDepth 100000 in
set_option maxHeartbeats 4000000 in
theorem walk1_ok {H0 : AHeap} (f sh : Nat) (vb vk vc : Value) (lb lk lc : List Nat) (hfl : f < 4294967296) (hl1 : lb.length < 4294967296) (hl2 : lk.length < 4294967296) (hl3 : lc.length ≤ 1000000) (hw : ∀ x ∈ lb, x < 18446744073709551616) (hkw : ∀ x ∈ lk, x < 4294967296) (hcw : ∀ x ∈ lc, x < 4294967296) (s : ByteArray) (hs : s.size ≤ 140737488355328) (ho : gOk lb lk sh f (gh s)) (y : Value) (bt bs : Nat) (Iv E' : Nat → AHeap → Prop) (h0 : Iv (gS lk f (gh s)) H0)
    (hm : ∀ i H H', Iv i H → K0 H H' → Iv i H') (hsk : ∀ i H, Iv i H → gS lk f (gh s) ≤ i → i < gE lb lk lc sh f (gh s) → nth lc i / 2 ≠ gh s / 2 → Iv (i + 1) H)
    (hb : ∀ i H, Iv i H → Rd H bt [.int .u32 ((f : Nat) : Int), .int .u32 ((sh : Nat) : Int), vb, vk, vc] 5 ∧ Rd H bs [.string s] 1 ∧ Sl u64v H vb lb ∧ Sl u32v H vk lk ∧ Sl u32v H vc lc)
    (hy : ∀ i H, Iv i H → gS lk f (gh s) ≤ i → i < gE lb lk lc sh f (gh s) → nth lc i / 2 = gh s / 2 → Ylds Try.prog y [.int .i64 ((i + f : Nat) : Int)] H (fun b H' => (b = true → Iv (i + 1) H') ∧ (b = false → E' (i + 1) H'))) : ACalls Try.prog 27 [y, .pointer (some ⟨bt, 0, none⟩), .pointer (some ⟨bs, 0, none⟩)] H0 (fun v H' => v = .tuple #[] ∧ (Iv (gE lb lk lc sh f (gh s)) H' ∨ ∃ i, gS lk f (gh s) ≤ i ∧ i < gE lb lk lc sh f (gh s) ∧ E' (i + 1) H')) := by
  have hF : Wd Fence.wide := .inl rfl
  have hM : Try.prog.follows .mixedOrders = true := by kernel_rfl
  have s0 := St.begin H0
  obtain ⟨hi_, hk_, hB_, hK_, hC_⟩ := hb _ _ h0
  refine acalls_st Try.func27 rfl Try.ntmps27 rfl ?_
  refine awp_seq ?_
  refine awp_seq ?_
  refine awp_regs hF ?_
  refine dv (gyes_none rfl) (q_loadAgg Try.isAgg31 Try.sizeOf31 rfl (s0.zrd hi_) (Nat.le_of_ble_eq_true rfl) rfl) rfl (by decide) (cok1 trivial) ?_
  refine dv (gyes_none rfl) (q_load (v := .string s) Try.isAgg9 rfl (s0.zrd hk_) rfl) rfl (by decide) (cok1 trivial) ?_
  refine dv (gyes_none rfl) (q_call0 Try.call12 rfl (ACalls.castV (v' := .bool true) (may_ok f sh vb vk vc lb lk lc hB_ hK_ hC_ s hs hl1 hw) (by rw [ho.1]))) rfl (by decide) (call_ok rfl) ?_
  refine dv (gyes_none rfl) (q_not (b := true) rfl) rfl (by decide) (cok1 trivial) ?_
  refine dv (gyes_none rfl) (q_mv (v := .bool false) rfl) rfl (by decide) (cok1 trivial) ?_
  refine dv (gyes_some rfl rfl) (q_field Try.underlying31 rfl Try.sizeOf29 rfl (s0.zrd hi_)) rfl (by decide) (cok1 trivial) ?_
  refine dv (gyes_some rfl rfl) (q_load (v := vk) Try.isAgg29 rfl (s0.zrd hi_) rfl) rfl (by decide) (cok1 trivial) ?_
  refine dv (gyes_some rfl rfl) (q_len_sl (l := lk) Try.underlying29 (hK_) rfl) rfl (by decide) (cok1 trivial) ?_
  refine dv (gyes_some rfl rfl) (OpQ.cast (v' := .bool false) (q_int rfl rfl rfl) (congrArg Value.bool (beq_eq_false_iff_ne.2 (by have := ho.2.1; omega)))) rfl (by decide) (cok2 trivial (cconst rfl)) ?_
  refine dv (gyes_none rfl) (q_pf (v := .bool false) rfl rfl) rfl (by decide) (call_ok rfl) ?_
  refine ⟨_, Wk.refl _ _, ?_⟩
  show awp _ _ _ _ _ _ _
  refine awp_cond_f rfl ?_
  refine awp_skip_wk ?_
  refine ⟨_, Wk.refl _ _, ?_⟩
  show awp _ _ _ _ _ _ _
  refine awp_seq ?_
  refine awp_regs hF ?_
  refine dv (gyes_none rfl) (q_load (v := .string s) Try.isAgg9 rfl (s0.zrd hk_) rfl) rfl (by decide) (cok1 trivial) ?_
  refine dv (gyes_none rfl) (q_call0 Try.call19 rfl (hash_ok s hs)) rfl (by decide) (cok2 trivial trivial) ?_
  refine dv (gyes_none rfl) (q_as (v := .int .u32 ((gh s : Nat) : Int)) rfl) rfl (by decide) (cok1 trivial) ?_
  refine ⟨_, Wk.refl _ _, ?_⟩
  show awp _ _ _ _ _ _ _
  refine awp_seq ?_
  have hm2 := Nat.mod_lt (gh s) ho.2.1
  have hkl := hkw _ (nthS_mem hm2)
  have hf := ho.2.2
  refine awp_regt hF hM (by kernel_rfl) (by kernel_rfl) ?_
  refine dv (gyes_none rfl) (q_field Try.underlying31 rfl Try.sizeOf29 rfl (s0.zrd hi_)) rfl (by decide) (cok1 trivial) ?_
  refine dv (gyes_none rfl) (q_load (v := vk) Try.isAgg29 rfl (s0.zrd hi_) rfl) rfl (by decide) (cok1 trivial) ?_
  refine dv (gyes_none rfl) (q_mv (v := .int .u32 ((gh s : Nat) : Int)) rfl) rfl (by decide) (cok1 trivial) ?_
  refine dv (gyes_none rfl) (q_field Try.underlying31 rfl Try.sizeOf29 rfl (s0.zrd hi_)) rfl (by decide) (cok1 trivial) ?_
  refine dv (gyes_none rfl) (q_load (v := vk) Try.isAgg29 rfl (s0.zrd hi_) rfl) rfl (by decide) (cok1 trivial) ?_
  refine dv (gyes_none rfl) (q_len_sl (l := lk) Try.underlying29 (hK_) rfl) rfl (by decide) (cok1 trivial) ?_
  refine dv (gyes_none rfl) (q_convin (a := ((lk.length : Nat) : Int)) Try.underlying3 Try.underlying27 rfl (u32_in (by omega))) rfl (by decide) (cok1 trivial) ?_
  refine dv (gyes_none rfl) (q_remM (a := (gh s)) (b := lk.length) rfl rfl ho.2.1) rfl (by decide) (cok2 trivial trivial) ?_
  refine dv (gyes_none rfl) (q_index_sl (l := lk) (i := ((gh s) % lk.length)) Try.underlying29 Try.sizeOf27 (hK_) rfl rfl hm2) rfl (by decide) (cok2 trivial trivial) ?_
  refine dv (gyes_none rfl) (q_load_sl (l := lk) (i := ((gh s) % lk.length)) Try.isAgg27 (hK_) rfl (by omega)) rfl (by decide) (cok1 trivial) ?_
  refine dv (gyes_none rfl) (q_as (v := .int .u32 ((nth lk ((gh s) % lk.length) : Nat) : Int)) rfl) rfl (by decide) (cok1 trivial) ?_
  refine ⟨_, Wk.refl _ _, ?_⟩
  show awp _ _ _ _ _ _ _
  refine awp_seq ?_
  refine awp_seq ?_
  refine awp_regs hF ?_
  refine dv (gyes_none rfl) (q_mv (v := .int .u32 ((nth lk ((gh s) % lk.length) : Nat) : Int)) rfl) rfl (by decide) (cok1 trivial) ?_
  refine dv (gyes_none rfl) (q_field Try.underlying31 rfl Try.sizeOf27 rfl (s0.zrd hi_)) rfl (by decide) (cok1 trivial) ?_
  refine dv (gyes_none rfl) (q_load (v := .int .u32 ((f : Nat) : Int)) Try.isAgg27 rfl (s0.zrd hi_) rfl) rfl (by decide) (cok1 trivial) ?_
  refine dv (gyes_none rfl) (OpQ.cast (v' := .bool false) (q_int rfl rfl rfl) (congrArg Value.bool (decide_eq_false (by omega)))) rfl (by decide) (cok2 trivial trivial) ?_
  refine ⟨_, Wk.refl _ _, ?_⟩
  show awp _ _ _ _ _ _ _
  refine awp_cond_f rfl ?_
  refine awp_skip_wk ?_
  refine ⟨_, Wk.refl _ _, ?_⟩
  show awp _ _ _ _ _ _ _
  refine awp_seq ?_
  refine awp_regs hF ?_
  refine dv (gyes_none rfl) (q_mv (v := .int .u32 ((nth lk ((gh s) % lk.length) : Nat) : Int)) rfl) rfl (by decide) (cok1 trivial) ?_
  refine dv (gyes_none rfl) (q_field Try.underlying31 rfl Try.sizeOf27 rfl (s0.zrd hi_)) rfl (by decide) (cok1 trivial) ?_
  refine dv (gyes_none rfl) (q_load (v := .int .u32 ((f : Nat) : Int)) Try.isAgg27 rfl (s0.zrd hi_) rfl) rfl (by decide) (cok1 trivial) ?_
  refine dv (gyes_none rfl) (OpQ.cast (v' := .int .u32 (((nth lk ((gh s) % lk.length)) - f : Nat) : Int)) (q_int rfl rfl rfl) (congrArg _ ((u32_in (by omega)).trans (by omega)))) rfl (by decide) (cok2 trivial trivial) ?_
  refine dv (gyes_none rfl) (q_convin (a := (((nth lk ((gh s) % lk.length)) - f : Nat) : Int)) Try.underlying27 Try.underlying45 rfl (u64_in (by omega))) rfl (by decide) (cok1 trivial) ?_
  refine dv (gyes_none rfl) (q_as (v := .int .u64 (((nth lk ((gh s) % lk.length)) - f : Nat) : Int)) rfl) rfl (by decide) (cok1 trivial) ?_
  refine ⟨_, Wk.refl _ _, ?_⟩
  show awp _ _ _ _ _ _ _
  refine awp_block ?_
  refine awp_wk (Wk.U [(0, y), (1, .pointer (some ⟨bt, 0, none⟩)), (2, .pointer (some ⟨bs, 0, none⟩)), (4, .int .u32 ((gh s : Nat) : Int)), (6, .int .u64 (((gS lk f (gh s)) : Nat) : Int))] ⟨rfl, rfl, rfl, rfl, rfl, trivial⟩) ?_
  refine awp_loop (fun (i : Nat) st => ∃ (H1 : AHeap), st = ⟨73, U [(0, y), (1, .pointer (some ⟨bt, 0, none⟩)), (2, .pointer (some ⟨bs, 0, none⟩)), (4, .int .u32 ((gh s : Nat) : Int)), (6, .int .u64 ((i : Nat) : Int))], [], H1⟩ ∧ St H1 (none0) (Rd H1) H1 [] ∧ ((gS lk f (gh s)) ≤ i ∧ i ≤ gE lb lk lc sh f (gh s) ∧ (gS lk f (gh s) < i → nth lc (i - 1) % 2 = 0) ∧ Iv i H1)) (fun (i : Nat) => lc.length - i) (x0 := ((gS lk f (gh s)))) ?h0 ?round
  case h0 =>
    exact ⟨_, rfl, s0, ⟨Nat.le_refl _, gE_le, fun h => absurd h (Nat.lt_irrefl _), hm _ _ _ h0 s0.kp⟩⟩
  case round =>
    rintro i _ ⟨H1, rfl, s2, hI⟩
    obtain ⟨hi_, hk_, hB_, hK_, hC_⟩ := hb _ _ hI.2.2.2
    refine awp_seq ?_
    refine awp_seq ?_
    refine awp_regs hF ?_
    refine dv (gyes_none rfl) (q_mv (v := .int .u64 ((i : Nat) : Int)) rfl) rfl (by decide) (cok1 trivial) ?_
    refine dv (gyes_none rfl) (q_field Try.underlying31 rfl Try.sizeOf29 rfl (s2.zrd hi_)) rfl (by decide) (cok1 trivial) ?_
    refine dv (gyes_none rfl) (q_load (v := vc) Try.isAgg29 rfl (s2.zrd hi_) rfl) rfl (by decide) (cok1 trivial) ?_
    refine dv (gyes_none rfl) (q_len_sl (l := lc) Try.underlying29 (hC_) rfl) rfl (by decide) (cok1 trivial) ?_
    refine dv (gyes_none rfl) (q_convin (a := ((lc.length : Nat) : Int)) Try.underlying3 Try.underlying45 rfl (u64_in (by omega))) rfl (by decide) (cok1 trivial) ?_
    refine dvb (gyes_none rfl) (q_int rfl rfl rfl) rfl (by decide) (cok2 trivial trivial) (fun c1 => ?_) (fun c1 => ?_)
    ·
      replace c1 := of_decide_eq_true c1
      have hie : i < gE lb lk lc sh f (gh s) := by
        have hE := gE_ends (lc := lc) ho
        refine Decidable.byContradiction fun hn => ?_
        have e : gE lb lk lc sh f (gh s) = i := by omega
        have h9 := hE.fin (by omega)
        have h8 := hI.2.2.1 (by omega)
        rw [e] at h9
        omega
      have hcl := hcw _ (nthS_mem (show i < lc.length by omega))
      have hgl := gh_lt s
      refine ⟨_, Wk.refl _ _, ?_⟩
      show awp _ _ _ _ _ _ _
      refine awp_cond_t rfl ?_
      refine awp_skip_wk ?_
      refine ⟨_, Wk.refl _ _, ?_⟩
      show awp _ _ _ _ _ _ _
      refine awp_seq ?_
      refine awp_block ?_
      refine awp_seq ?_
      refine awp_regs hF ?_
      refine dv (gyes_none rfl) (q_field Try.underlying31 rfl Try.sizeOf29 rfl (s2.zrd hi_)) rfl (by decide) (cok1 trivial) ?_
      refine dv (gyes_none rfl) (q_load (v := vc) Try.isAgg29 rfl (s2.zrd hi_) rfl) rfl (by decide) (cok1 trivial) ?_
      refine dv (gyes_none rfl) (q_mv (v := .int .u64 ((i : Nat) : Int)) rfl) rfl (by decide) (cok1 trivial) ?_
      refine dv (gyes_none rfl) (q_index_sl (l := lc) (i := i) Try.underlying29 Try.sizeOf27 (hC_) rfl rfl (by omega)) rfl (by decide) (cok2 trivial trivial) ?_
      refine dv (gyes_none rfl) (q_load_sl (l := lc) (i := i) Try.isAgg27 (hC_) rfl (by omega)) rfl (by decide) (cok1 trivial) ?_
      refine dv (gyes_none rfl) (q_as (v := .int .u32 ((nth lc i : Nat) : Int)) rfl) rfl (by decide) (cok1 trivial) ?_
      refine ⟨_, Wk.refl _ _, ?_⟩
      show awp _ _ _ _ _ _ _
      refine awp_seq ?_
      refine awp_regs hF ?_
      refine dv (gyes_none rfl) (q_mv (v := .int .u32 ((nth lc i : Nat) : Int)) rfl) rfl (by decide) (cok1 trivial) ?_
      refine dv (gyes_none rfl) (q_orN (a := (nth lc i)) (b := 1) rfl rfl rfl (by show _ < 4294967296; exact hcl) (by decide)) rfl (by decide) (cok2 trivial (cconst rfl)) ?_
      refine dv (gyes_none rfl) (q_mv (v := .int .u32 ((gh s : Nat) : Int)) rfl) rfl (by decide) (cok1 trivial) ?_
      refine dv (gyes_none rfl) (q_orN (a := (gh s)) (b := 1) rfl rfl rfl (by show _ < 4294967296; exact hgl) (by decide)) rfl (by decide) (cok2 trivial (cconst rfl)) ?_
      refine dvb (gyes_none rfl) (q_int rfl rfl rfl) rfl (by decide) (cok2 trivial trivial) (fun c2 => ?_) (fun c2 => ?_)
      ·
        replace c2 := eq_of_beq c2
        replace c2 := or1_eq.1 (Int.ofNat.inj c2)
        refine dv (gyes_none rfl) (q_mv (v := .bool true) rfl) rfl (by decide) (cok1 trivial) ?_
        refine dv (gyes_some rfl rfl) (q_mv (v := y) rfl) rfl (by decide) (cok1 trivial) ?_
        refine dv (gyes_some rfl rfl) (q_mv (v := .int .u64 ((i : Nat) : Int)) rfl) rfl (by decide) (cok1 trivial) ?_
        refine dv (gyes_some rfl rfl) (q_convin (a := ((i : Nat) : Int)) Try.underlying45 Try.underlying3 rfl (i64_in (by omega))) rfl (by decide) (cok1 trivial) ?_
        refine dv (gyes_some rfl rfl) (q_field Try.underlying31 rfl Try.sizeOf27 rfl (s2.zrd hi_)) rfl (by decide) (cok1 trivial) ?_
        refine dv (gyes_some rfl rfl) (q_load (v := .int .u32 ((f : Nat) : Int)) Try.isAgg27 rfl (s2.zrd hi_) rfl) rfl (by decide) (cok1 trivial) ?_
        refine dv (gyes_some rfl rfl) (q_convin (a := ((f : Nat) : Int)) Try.underlying27 Try.underlying3 rfl (i64_in (by omega))) rfl (by decide) (cok1 trivial) ?_
        refine dv (gyes_some rfl rfl) (OpQ.cast (v' := .int .i64 ((i + f : Nat) : Int)) (q_int rfl rfl rfl) (congrArg _ ((i64_in (by omega)).trans (by first | rfl | omega | (push_cast; rfl))))) rfl (by decide) (cok2 trivial trivial) ?_
        refine x_yield [] (by kernel_rfl) (gyes_some rfl rfl) (y := y) (args := [.int .i64 ((i + f : Nat) : Int)]) rfl rfl (hy i _ (hm _ _ _ hI.2.2.2 s2.kp) hI.1 hie (by assumption)) (show _ < _ by decide) (cok1 trivial) rfl rfl (fun y3 H4 hy5 => ⟨trivial, ?_⟩)
        show dList _ _ _ _ _ _ _ _ _ _
        cases y3
        case false =>
          refine dv (gyes_some rfl rfl) (q_not (b := false) rfl) rfl (by decide) (cok1 trivial) ?_
          refine dv (gyes_none rfl) (q_pt (v := .bool true) rfl rfl) rfl (by decide) (call_ok rfl) ?_
          refine dv (gyes_none rfl) (q_mv (v := .bool true) rfl) rfl (by decide) (cok1 trivial) ?_
          refine dno rfl (.inl rfl) rfl (by decide) ?_
          refine dno rfl (.inl rfl) rfl (by decide) ?_
          refine dno rfl (.inl rfl) rfl (by decide) ?_
          refine dv (gyes_none rfl) (q_pt (v := .bool true) rfl rfl) rfl (by decide) (call_ok rfl) ?_
          refine ⟨_, Wk.refl _ _, ?_⟩
          show awp _ _ _ _ _ _ _
          refine awp_cond_t rfl ?_
          refine awp_ret_wk ?_
          refine ⟨_, Wk.refl _ _, ?_⟩
          repeat (with_reducible first | refine then_ret ?_ | refine blk_ret ?_ | refine then_exit ?_ | refine blk_exit ?_ | refine blk_exit' (by decide) ?_ | refine blk_normal ?_ | refine then_normal ?_ | refine retq_ret ?_ | refine retq_normal ?_ | refine ng_normal ?_ | refine ng_ret ?_ | refine ng_exit ?_)
          refine ret_is (v := .tuple #[]) rfl .nil rfl ?_
          exact ⟨rfl, .inr ⟨i, hI.1, hie, hy5.2 rfl⟩⟩
        case true =>
          have h6 := hy5.1 rfl
          have s7 := St.begin H4
          obtain ⟨hi_, hk_, hB_, hK_, hC_⟩ := hb _ _ h6
          refine dv (gyes_some rfl rfl) (q_not (b := true) rfl) rfl (by decide) (cok1 trivial) ?_
          refine dv (gyes_none rfl) (q_pt (v := .bool false) rfl rfl) rfl (by decide) (call_ok rfl) ?_
          refine dv (gyes_none rfl) (q_mv (v := .bool false) rfl) rfl (by decide) (cok1 trivial) ?_
          refine dv (gyes_some rfl rfl) (q_mv (v := .int .u32 ((nth lc i : Nat) : Int)) rfl) rfl (by decide) (cok1 trivial) ?_
          refine dv (gyes_some rfl rfl) (OpQ.cast (v' := .int .u32 ((nth lc i % 2 : Nat) : Int)) (q_andN (a := (nth lc i)) (b := 1) rfl rfl rfl (by show _ < 4294967296; exact hcl) (by decide)) (congrArg _ (congrArg _ (Nat.and_one_is_mod _)))) rfl (by decide) (cok2 trivial (cconst rfl)) ?_
          refine dvb (gyes_some rfl rfl) (q_int rfl rfl rfl) rfl (by decide) (cok2 trivial (cconst rfl)) (fun c3 => ?_) (fun c3 => ?_)
          ·
            replace c3 := eq_of_beq c3
            refine dv (gyes_none rfl) (q_pf (v := .bool true) rfl rfl) rfl (by decide) (call_ok rfl) ?_
            refine ⟨_, Wk.refl _ _, ?_⟩
            show awp _ _ _ _ _ _ _
            refine awp_cond_t rfl ?_
            refine awp_ret_wk ?_
            refine ⟨_, Wk.refl _ _, ?_⟩
            repeat (with_reducible first | refine then_ret ?_ | refine blk_ret ?_ | refine then_exit ?_ | refine blk_exit ?_ | refine blk_exit' (by decide) ?_ | refine blk_normal ?_ | refine then_normal ?_ | refine retq_ret ?_ | refine retq_normal ?_ | refine ng_normal ?_ | refine ng_ret ?_ | refine ng_exit ?_)
            refine ret_is (v := .tuple #[]) rfl .nil rfl ?_
            have hE := gE_ends (lc := lc) ho
            obtain e : i + 1 = gE lb lk lc sh f (gh s) := by
              refine Decidable.byContradiction fun hn => ?_
              have h9 := hE.odd i hI.1 (by omega)
              omega
            exact ⟨rfl, .inl (e ▸ (h6))⟩
          ·
            replace c3 := ne_of_beq_false c3
            refine dv (gyes_none rfl) (q_pf (v := .bool false) rfl rfl) rfl (by decide) (call_ok rfl) ?_
            refine ⟨_, Wk.refl _ _, ?_⟩
            show awp _ _ _ _ _ _ _
            refine awp_cond_f rfl ?_
            refine awp_skip_wk ?_
            refine ⟨_, Wk.refl _ _, ?_⟩
            show awp _ _ _ _ _ _ _
            refine awp_regs hF ?_
            refine dv (gyes_none rfl) (q_mv (v := .int .u64 ((i : Nat) : Int)) rfl) rfl (by decide) (cok1 trivial) ?_
            refine dv (gyes_none rfl) (OpQ.cast (v' := .int .u64 ((i + 1 : Nat) : Int)) (q_int rfl rfl rfl) (congrArg _ ((u64_in (by omega)).trans (by first | rfl | omega | (push_cast; rfl))))) rfl (by decide) (cok2 trivial (cconst rfl)) ?_
            refine dv (gyes_none rfl) (q_as (v := .int .u64 ((i + 1 : Nat) : Int)) rfl) rfl (by decide) (cok1 trivial) ?_
            refine ⟨_, Wk.U [(0, y), (1, .pointer (some ⟨bt, 0, none⟩)), (2, .pointer (some ⟨bs, 0, none⟩)), (4, .int .u32 ((gh s : Nat) : Int)), (6, .int .u64 (((i + 1) : Nat) : Int))] ⟨rfl, rfl, rfl, rfl, rfl, trivial⟩, (i + 1), ⟨_, rfl, (St.begin _), ⟨by omega, by omega, fun _ => by (try dsimp only); rw [Nat.add_sub_cancel]; omega, h6⟩⟩, (by omega)⟩
      ·
        replace c2 := ne_of_beq_false c2
        replace c2 := fun h => c2 (congrArg Int.ofNat (or1_eq.2 h))
        refine dv (gyes_none rfl) (q_mv (v := .bool false) rfl) rfl (by decide) (cok1 trivial) ?_
        refine dno rfl (.inl rfl) rfl (by decide) ?_
        refine dno rfl (.inl rfl) rfl (by decide) ?_
        refine dno rfl (.inl rfl) rfl (by decide) ?_
        refine dno rfl (.inl rfl) rfl (by decide) ?_
        refine dno rfl (.inl rfl) rfl (by decide) ?_
        refine dno rfl (.inl rfl) rfl (by decide) ?_
        refine dno rfl (.inl rfl) rfl (by decide) ?_
        refine dno rfl (.inl rfl) rfl (by decide) ?_
        refine dno rfl (.inl rfl) rfl (by decide) ?_
        refine dv (gyes_none rfl) (q_pf (v := .bool false) rfl rfl) rfl (by decide) (call_ok rfl) ?_
        refine dv (gyes_none rfl) (q_mv (v := .bool false) rfl) rfl (by decide) (cok1 trivial) ?_
        refine dv (gyes_some rfl rfl) (q_mv (v := .int .u32 ((nth lc i : Nat) : Int)) rfl) rfl (by decide) (cok1 trivial) ?_
        refine dv (gyes_some rfl rfl) (OpQ.cast (v' := .int .u32 ((nth lc i % 2 : Nat) : Int)) (q_andN (a := (nth lc i)) (b := 1) rfl rfl rfl (by show _ < 4294967296; exact hcl) (by decide)) (congrArg _ (congrArg _ (Nat.and_one_is_mod _)))) rfl (by decide) (cok2 trivial (cconst rfl)) ?_
        refine dvb (gyes_some rfl rfl) (q_int rfl rfl rfl) rfl (by decide) (cok2 trivial (cconst rfl)) (fun c4 => ?_) (fun c4 => ?_)
        ·
          replace c4 := eq_of_beq c4
          refine dv (gyes_none rfl) (q_pf (v := .bool true) rfl rfl) rfl (by decide) (call_ok rfl) ?_
          refine ⟨_, Wk.refl _ _, ?_⟩
          show awp _ _ _ _ _ _ _
          refine awp_cond_t rfl ?_
          refine awp_ret_wk ?_
          refine ⟨_, Wk.refl _ _, ?_⟩
          repeat (with_reducible first | refine then_ret ?_ | refine blk_ret ?_ | refine then_exit ?_ | refine blk_exit ?_ | refine blk_exit' (by decide) ?_ | refine blk_normal ?_ | refine then_normal ?_ | refine retq_ret ?_ | refine retq_normal ?_ | refine ng_normal ?_ | refine ng_ret ?_ | refine ng_exit ?_)
          refine ret_is (v := .tuple #[]) rfl .nil rfl ?_
          have hE := gE_ends (lc := lc) ho
          obtain e : i + 1 = gE lb lk lc sh f (gh s) := by
            refine Decidable.byContradiction fun hn => ?_
            have h9 := hE.odd i hI.1 (by omega)
            omega
          exact ⟨rfl, .inl (e ▸ (hm _ _ _ (hsk i _ hI.2.2.2 hI.1 hie (by assumption)) s2.kp))⟩
        ·
          replace c4 := ne_of_beq_false c4
          refine dv (gyes_none rfl) (q_pf (v := .bool false) rfl rfl) rfl (by decide) (call_ok rfl) ?_
          refine ⟨_, Wk.refl _ _, ?_⟩
          show awp _ _ _ _ _ _ _
          refine awp_cond_f rfl ?_
          refine awp_skip_wk ?_
          refine ⟨_, Wk.refl _ _, ?_⟩
          show awp _ _ _ _ _ _ _
          refine awp_regs hF ?_
          refine dv (gyes_none rfl) (q_mv (v := .int .u64 ((i : Nat) : Int)) rfl) rfl (by decide) (cok1 trivial) ?_
          refine dv (gyes_none rfl) (OpQ.cast (v' := .int .u64 ((i + 1 : Nat) : Int)) (q_int rfl rfl rfl) (congrArg _ ((u64_in (by omega)).trans (by first | rfl | omega | (push_cast; rfl))))) rfl (by decide) (cok2 trivial (cconst rfl)) ?_
          refine dv (gyes_none rfl) (q_as (v := .int .u64 ((i + 1 : Nat) : Int)) rfl) rfl (by decide) (cok1 trivial) ?_
          refine ⟨_, Wk.U [(0, y), (1, .pointer (some ⟨bt, 0, none⟩)), (2, .pointer (some ⟨bs, 0, none⟩)), (4, .int .u32 ((gh s : Nat) : Int)), (6, .int .u64 (((i + 1) : Nat) : Int))] ⟨rfl, rfl, rfl, rfl, rfl, trivial⟩, (i + 1), ⟨_, rfl, (St.begin _), ⟨by omega, by omega, fun _ => by (try dsimp only); rw [Nat.add_sub_cancel]; omega, hm _ _ _ (hsk i _ hI.2.2.2 hI.1 hie (by assumption)) s2.kp⟩⟩, (by omega)⟩
    ·
      replace c1 := of_decide_eq_false c1
      refine ⟨_, Wk.refl _ _, ?_⟩
      show awp _ _ _ _ _ _ _
      refine awp_cond_f rfl ?_
      refine awp_exit_wk ?_
      refine ⟨_, Wk.refl _ _, ?_⟩
      repeat (with_reducible first | refine then_ret ?_ | refine blk_ret ?_ | refine then_exit ?_ | refine blk_exit ?_ | refine blk_exit' (by decide) ?_ | refine blk_normal ?_ | refine then_normal ?_ | refine retq_ret ?_ | refine retq_normal ?_ | refine ng_normal ?_ | refine ng_ret ?_ | refine ng_exit ?_)
      refine ret_is (v := .tuple #[]) rfl .nil rfl ?_
      have hE := gE_ends (lc := lc) ho
      obtain e : i = gE lb lk lc sh f (gh s) := by have := hE.top; omega
      exact ⟨rfl, .inl (e ▸ hI.2.2.2)⟩
set_option maxRecDepth 100000 in
set_option maxHeartbeats 4000000 in
theorem walk1_none {H0 : AHeap} (f sh : Nat) (vb vk vc : Value) (lb lk lc : List Nat) (hfl : f < 4294967296) (hl1 : lb.length < 4294967296) (hl2 : lk.length < 4294967296) (hl3 : lc.length ≤ 1000000) (hw : ∀ x ∈ lb, x < 18446744073709551616) (hkw : ∀ x ∈ lk, x < 4294967296) (hcw : ∀ x ∈ lc, x < 4294967296) (s : ByteArray) (hs : s.size ≤ 140737488355328) (ho : ¬ gOk lb lk sh f (gh s)) (y : Value) (bt bs : Nat) (hi_ : Rd H0 bt [.int .u32 ((f : Nat) : Int), .int .u32 ((sh : Nat) : Int), vb, vk, vc] 5) (hk_ : Rd H0 bs [.string s] 1) (hB_ : Sl u64v H0 vb lb) (hK_ : Sl u32v H0 vk lk) (hC_ : Sl u32v H0 vc lc) : ACalls Try.prog 27 [y, .pointer (some ⟨bt, 0, none⟩), .pointer (some ⟨bs, 0, none⟩)] H0 (Rets (.tuple #[]) H0) := by
  have hF : Wd Fence.wide := .inl rfl
  have hM : Try.prog.follows .mixedOrders = true := by kernel_rfl
  have s0 := St.begin H0
  refine acalls_st Try.func27 rfl Try.ntmps27 rfl ?_
  refine awp_seq ?_
  refine awp_seq ?_
  refine awp_regs hF ?_
  refine dv (gyes_none rfl) (q_loadAgg Try.isAgg31 Try.sizeOf31 rfl (s0.zrd hi_) (Nat.le_of_ble_eq_true rfl) rfl) rfl (by decide) (cok1 trivial) ?_
  refine dv (gyes_none rfl) (q_load (v := .string s) Try.isAgg9 rfl (s0.zrd hk_) rfl) rfl (by decide) (cok1 trivial) ?_
  refine dvb (gyes_none rfl) (q_call0 Try.call12 rfl (may_ok f sh vb vk vc lb lk lc hB_ hK_ hC_ s hs hl1 hw)) rfl (by decide) (call_ok rfl) (fun c1 => ?_) (fun c1 => ?_)
  ·
    have hmy : mayV lb sh (gh s) = true := c1
    refine dv (gyes_none rfl) (q_not (b := true) rfl) rfl (by decide) (cok1 trivial) ?_
    refine dv (gyes_none rfl) (q_mv (v := .bool false) rfl) rfl (by decide) (cok1 trivial) ?_
    refine dv (gyes_some rfl rfl) (q_field Try.underlying31 rfl Try.sizeOf29 rfl (s0.zrd hi_)) rfl (by decide) (cok1 trivial) ?_
    refine dv (gyes_some rfl rfl) (q_load (v := vk) Try.isAgg29 rfl (s0.zrd hi_) rfl) rfl (by decide) (cok1 trivial) ?_
    refine dv (gyes_some rfl rfl) (q_len_sl (l := lk) Try.underlying29 (hK_) rfl) rfl (by decide) (cok1 trivial) ?_
    refine dvb (gyes_some rfl rfl) (q_int rfl rfl rfl) rfl (by decide) (cok2 trivial (cconst rfl)) (fun c2 => ?_) (fun c2 => ?_)
    ·
      replace c2 := eq_of_beq c2
      refine dv (gyes_none rfl) (q_pf (v := .bool true) rfl rfl) rfl (by decide) (call_ok rfl) ?_
      refine ⟨_, Wk.refl _ _, ?_⟩
      show awp _ _ _ _ _ _ _
      refine awp_cond_t rfl ?_
      refine awp_ret_wk ?_
      refine ⟨_, Wk.refl _ _, ?_⟩
      repeat (with_reducible first | refine then_ret ?_ | refine blk_ret ?_ | refine then_exit ?_ | refine blk_exit ?_ | refine blk_exit' (by decide) ?_ | refine blk_normal ?_ | refine then_normal ?_ | refine retq_ret ?_ | refine retq_normal ?_ | refine ng_normal ?_ | refine ng_ret ?_ | refine ng_exit ?_)
      exact ret_none (v := .tuple #[]) rfl s0.kp .nil rfl rfl ⟨rfl, rfl⟩
    ·
      replace c2 := ne_of_beq_false c2
      refine dv (gyes_none rfl) (q_pf (v := .bool false) rfl rfl) rfl (by decide) (call_ok rfl) ?_
      refine ⟨_, Wk.refl _ _, ?_⟩
      show awp _ _ _ _ _ _ _
      refine awp_cond_f rfl ?_
      refine awp_skip_wk ?_
      refine ⟨_, Wk.refl _ _, ?_⟩
      show awp _ _ _ _ _ _ _
      refine awp_seq ?_
      refine awp_regs hF ?_
      refine dv (gyes_none rfl) (q_load (v := .string s) Try.isAgg9 rfl (s0.zrd hk_) rfl) rfl (by decide) (cok1 trivial) ?_
      refine dv (gyes_none rfl) (q_call0 Try.call19 rfl (hash_ok s hs)) rfl (by decide) (cok2 trivial trivial) ?_
      refine dv (gyes_none rfl) (q_as (v := .int .u32 ((gh s : Nat) : Int)) rfl) rfl (by decide) (cok1 trivial) ?_
      refine ⟨_, Wk.refl _ _, ?_⟩
      show awp _ _ _ _ _ _ _
      refine awp_seq ?_
      have hm2 := Nat.mod_lt (gh s) (show 0 < lk.length by omega)
      have hkl := hkw _ (nthS_mem hm2)
      refine awp_regt hF hM (by kernel_rfl) (by kernel_rfl) ?_
      refine dv (gyes_none rfl) (q_field Try.underlying31 rfl Try.sizeOf29 rfl (s0.zrd hi_)) rfl (by decide) (cok1 trivial) ?_
      refine dv (gyes_none rfl) (q_load (v := vk) Try.isAgg29 rfl (s0.zrd hi_) rfl) rfl (by decide) (cok1 trivial) ?_
      refine dv (gyes_none rfl) (q_mv (v := .int .u32 ((gh s : Nat) : Int)) rfl) rfl (by decide) (cok1 trivial) ?_
      refine dv (gyes_none rfl) (q_field Try.underlying31 rfl Try.sizeOf29 rfl (s0.zrd hi_)) rfl (by decide) (cok1 trivial) ?_
      refine dv (gyes_none rfl) (q_load (v := vk) Try.isAgg29 rfl (s0.zrd hi_) rfl) rfl (by decide) (cok1 trivial) ?_
      refine dv (gyes_none rfl) (q_len_sl (l := lk) Try.underlying29 (hK_) rfl) rfl (by decide) (cok1 trivial) ?_
      refine dv (gyes_none rfl) (q_convin (a := ((lk.length : Nat) : Int)) Try.underlying3 Try.underlying27 rfl (u32_in (by omega))) rfl (by decide) (cok1 trivial) ?_
      refine dv (gyes_none rfl) (q_remM (a := (gh s)) (b := lk.length) rfl rfl (by omega)) rfl (by decide) (cok2 trivial trivial) ?_
      refine dv (gyes_none rfl) (q_index_sl (l := lk) (i := ((gh s) % lk.length)) Try.underlying29 Try.sizeOf27 (hK_) rfl rfl hm2) rfl (by decide) (cok2 trivial trivial) ?_
      refine dv (gyes_none rfl) (q_load_sl (l := lk) (i := ((gh s) % lk.length)) Try.isAgg27 (hK_) rfl (by omega)) rfl (by decide) (cok1 trivial) ?_
      refine dv (gyes_none rfl) (q_as (v := .int .u32 ((nth lk ((gh s) % lk.length) : Nat) : Int)) rfl) rfl (by decide) (cok1 trivial) ?_
      refine ⟨_, Wk.refl _ _, ?_⟩
      show awp _ _ _ _ _ _ _
      refine awp_seq ?_
      refine awp_seq ?_
      refine awp_regs hF ?_
      refine dv (gyes_none rfl) (q_mv (v := .int .u32 ((nth lk ((gh s) % lk.length) : Nat) : Int)) rfl) rfl (by decide) (cok1 trivial) ?_
      refine dv (gyes_none rfl) (q_field Try.underlying31 rfl Try.sizeOf27 rfl (s0.zrd hi_)) rfl (by decide) (cok1 trivial) ?_
      refine dv (gyes_none rfl) (q_load (v := .int .u32 ((f : Nat) : Int)) Try.isAgg27 rfl (s0.zrd hi_) rfl) rfl (by decide) (cok1 trivial) ?_
      refine dvb (gyes_none rfl) (q_int rfl rfl rfl) rfl (by decide) (cok2 trivial trivial) (fun c3 => ?_) (fun c3 => ?_)
      ·
        replace c3 := of_decide_eq_true c3
        refine ⟨_, Wk.refl _ _, ?_⟩
        show awp _ _ _ _ _ _ _
        refine awp_cond_t rfl ?_
        refine awp_ret_wk ?_
        refine ⟨_, Wk.refl _ _, ?_⟩
        repeat (with_reducible first | refine then_ret ?_ | refine blk_ret ?_ | refine then_exit ?_ | refine blk_exit ?_ | refine blk_exit' (by decide) ?_ | refine blk_normal ?_ | refine then_normal ?_ | refine retq_ret ?_ | refine retq_normal ?_ | refine ng_normal ?_ | refine ng_ret ?_ | refine ng_exit ?_)
        exact ret_none (v := .tuple #[]) rfl s0.kp .nil rfl rfl ⟨rfl, rfl⟩
      ·
        replace c3 := of_decide_eq_false c3
        exfalso
        exact ho ⟨hmy, by omega, by omega⟩ --closed
  ·
    refine dv (gyes_none rfl) (q_not (b := false) rfl) rfl (by decide) (cok1 trivial) ?_
    refine dv (gyes_none rfl) (q_mv (v := .bool true) rfl) rfl (by decide) (cok1 trivial) ?_
    refine dno rfl (.inl rfl) rfl (by decide) ?_
    refine dno rfl (.inl rfl) rfl (by decide) ?_
    refine dno rfl (.inl rfl) rfl (by decide) ?_
    refine dno rfl (.inl rfl) rfl (by decide) ?_
    refine dv (gyes_none rfl) (q_pt (v := .bool true) rfl rfl) rfl (by decide) (call_ok rfl) ?_
    refine ⟨_, Wk.refl _ _, ?_⟩
    show awp _ _ _ _ _ _ _
    refine awp_cond_t rfl ?_
    refine awp_ret_wk ?_
    refine ⟨_, Wk.refl _ _, ?_⟩
    repeat (with_reducible first | refine then_ret ?_ | refine blk_ret ?_ | refine then_exit ?_ | refine blk_exit ?_ | refine blk_exit' (by decide) ?_ | refine blk_normal ?_ | refine then_normal ?_ | refine retq_ret ?_ | refine retq_normal ?_ | refine ng_normal ?_ | refine ng_ret ?_ | refine ng_exit ?_)
    exact ret_none (v := .tuple #[]) rfl s0.kp .nil rfl rfl ⟨rfl, rfl⟩
theorem walk1_all {H0 : AHeap} (f sh : Nat) (vb vk vc : Value) (lb lk lc : List Nat) (hfl : f < 4294967296) (hl1 : lb.length < 4294967296) (hl2 : lk.length < 4294967296) (hl3 : lc.length ≤ 1000000) (hw : ∀ x ∈ lb, x < 18446744073709551616) (hkw : ∀ x ∈ lk, x < 4294967296) (hcw : ∀ x ∈ lc, x < 4294967296) (s : ByteArray) (hs : s.size ≤ 140737488355328) (y : Value) (bt bs : Nat) (Iv E' : Nat → AHeap → Prop) (h0 : Iv (gS lk f (gh s)) H0)
    (hm : ∀ i H H', Iv i H → K0 H H' → Iv i H') (hsk : ∀ i H, Iv i H → gS lk f (gh s) ≤ i → i < gE lb lk lc sh f (gh s) → nth lc i / 2 ≠ gh s / 2 → Iv (i + 1) H)
    (hb : ∀ i H, Iv i H → Rd H bt [.int .u32 ((f : Nat) : Int), .int .u32 ((sh : Nat) : Int), vb, vk, vc] 5 ∧ Rd H bs [.string s] 1 ∧ Sl u64v H vb lb ∧ Sl u32v H vk lk ∧ Sl u32v H vc lc)
    (hy : ∀ i H, Iv i H → gS lk f (gh s) ≤ i → i < gE lb lk lc sh f (gh s) → nth lc i / 2 = gh s / 2 → Ylds Try.prog y [.int .i64 ((i + f : Nat) : Int)] H (fun b H' => (b = true → Iv (i + 1) H') ∧ (b = false → E' (i + 1) H'))) : ACalls Try.prog 27 [y, .pointer (some ⟨bt, 0, none⟩), .pointer (some ⟨bs, 0, none⟩)] H0 (fun v H' => v = .tuple #[] ∧ (Iv (gE lb lk lc sh f (gh s)) H' ∨ ∃ i, gS lk f (gh s) ≤ i ∧ i < gE lb lk lc sh f (gh s) ∧ E' (i + 1) H')) := by
  by_cases ho : gOk lb lk sh f (gh s)
  · exact walk1_ok f sh vb vk vc lb lk lc hfl hl1 hl2 hl3 hw hkw hcw s hs ho y bt bs Iv E' h0 hm hsk hb hy
  · obtain ⟨hi_, hk_, hB_, hK_, hC_⟩ := hb _ _ h0
    refine (walk1_none f sh vb vk vc lb lk lc hfl hl1 hl2 hl3 hw hkw hcw s hs ho y bt bs hi_ hk_ hB_ hK_ hC_).mono ?_
    rintro v H' ⟨rfl, rfl⟩
    refine ⟨rfl, .inl ?_⟩
    have e : gE lb lk lc sh f (gh s) = gS lk f (gh s) := by unfold gE; rw [if_neg ho]
    rw [e]; exact h0

end Go.Proofs.YtponfeigjmjbmaaA


/-
  Walks of functions of the given program, and what they compute.
-/
namespace Go.Proofs.YtponfeigjmjbmaaA
set_option linter.unusedVariables false
open Go Go.RowKit Go.Shelf Go.Proofs
set_option maxRecDepth 100000 in
set_option maxHeartbeats 4000000 in
theorem walk_ok {H0 : AHeap} (f sh : Nat) (vb vk vc : Value) (lb lk lc : List Nat) (hb : Sl u64v H0 vb lb) (hk : Sl u32v H0 vk lk) (hc : Sl u32v H0 vc lc) (s : ByteArray) : ACalls Try.prog 13 [.agg #[.int .u32 ((f : Nat) : Int), .int .u32 ((sh : Nat) : Int), vb, vk, vc], .string s] H0 (fun v H' => ∃ bs bt, v = .func (.func 27) #[] #[.pointer (some ⟨bt, 0, none⟩), .pointer (some ⟨bs, 0, none⟩)] ∧ NewL H0 H' [(bs, .cells true [.string s] 1), (bt, .cells true [.int .u32 ((f : Nat) : Int), .int .u32 ((sh : Nat) : Int), vb, vk, vc] 5)]) := by
  have hF : Wd Fence.wide := .inl rfl
  have hM : Try.prog.follows .mixedOrders = true := by kernel_rfl
  have s0 := St.begin H0
  refine acalls_st Try.func13 rfl Try.ntmps13 rfl ?_
  refine awp_seq ?_
  refine awp_regs hF ?_
  refine x_new (fun b => .pointer (some ⟨b, 0, none⟩)) s0 (gyes_none rfl) (q_box (v := .agg #[.int .u32 ((f : Nat) : Int), .int .u32 ((sh : Nat) : Int), vb, vk, vc]) (vs := [.int .u32 ((f : Nat) : Int), .int .u32 ((sh : Nat) : Int), vb, vk, vc]) 5 rfl (by exact trivial) rfl) rfl (by decide) (cok1 trivial) (fun b1 H2 hb4 s3 => ?_)
  refine x_new (fun b => .pointer (some ⟨b, 0, none⟩)) s3 (gyes_none rfl) (q_box (v := .string s) (vs := [.string s]) 1 rfl (by exact trivial) rfl) rfl (by decide) (cok1 trivial) (fun b5 H6 hb8 s7 => ?_)
  refine dv (gyes_none rfl) (q_as (v := .nilFunc) rfl) rfl (by decide) (cok1 (cconst rfl)) ?_
  refine ⟨_, Wk.refl _ _, ?_⟩
  show awp _ _ _ _ _ _ _
  refine awp_seq ?_
  refine awp_regs hF ?_
  refine dv (gyes_none rfl) (q_makeFuncL [.pointer (some ⟨b1, 0, none⟩), .pointer (some ⟨b5, 0, none⟩)] ⟨rfl, rfl, trivial⟩) rfl (by decide) (cok2 trivial trivial) ?_
  refine dv (gyes_none rfl) (q_as (v := .func (.func 27) #[] #[.pointer (some ⟨b1, 0, none⟩), .pointer (some ⟨b5, 0, none⟩)]) rfl) rfl (by decide) (cok1 trivial) ?_
  refine ⟨_, Wk.refl _ _, ?_⟩
  show awp _ _ _ _ _ _ _
  refine awp_ret_wk ?_
  refine ⟨_, Wk.refl _ _, ?_⟩
  repeat (with_reducible first | refine then_ret ?_ | refine blk_ret ?_ | refine then_exit ?_ | refine blk_exit ?_ | refine blk_exit' (by decide) ?_ | refine blk_normal ?_ | refine then_normal ?_ | refine retq_ret ?_ | refine retq_normal ?_ | refine ng_normal ?_ | refine ng_ret ?_ | refine ng_exit ?_)
  refine ret_is (v := .func (.func 27) #[] #[.pointer (some ⟨b1, 0, none⟩), .pointer (some ⟨b5, 0, none⟩)]) rfl (.tmp rfl .nil) rfl ?_
  exact ⟨_, _, rfl, s7.newL⟩
set_option maxRecDepth 100000 in
set_option maxHeartbeats 4000000 in
theorem find_ok {H0 : AHeap} (f sh : Nat) (vb vk vc : Value) (lb lk lc : List Nat) (hfl : f < 4294967296) (hl1 : lb.length < 4294967296) (hl2 : lk.length < 4294967296) (hl3 : lc.length ≤ 1000000) (hw : ∀ x ∈ lb, x < 18446744073709551616) (hkw : ∀ x ∈ lk, x < 4294967296) (hcw : ∀ x ∈ lc, x < 4294967296) (s : ByteArray) (hs : s.size ≤ 140737488355328) (hb : Sl u64v H0 vb lb) (hk : Sl u32v H0 vk lk) (hc : Sl u32v H0 vc lc) (vN : Value) (names : List ByteArray) (hN : Sl strv H0 vN names) (hnl : names.length ≤ 1000000) : ACalls Try.prog 21 [.agg #[.int .u32 ((f : Nat) : Int), .int .u32 ((sh : Nat) : Int), vb, vk, vc], .string s, vN] H0 (Rets (.tuple #[.int .i64 (((gFV lb lk lc sh f names s).1 : Nat) : Int), .bool (gFV lb lk lc sh f names s).2]) H0) := by
  have hF : Wd Fence.wide := .inl rfl
  have hM : Try.prog.follows .mixedOrders = true := by kernel_rfl
  have s0 := St.begin H0
  refine acalls_st Try.func21 rfl Try.ntmps21 rfl ?_
  refine awp_seq ?_
  refine awp_regs hF ?_
  refine x_new (fun b => .pointer (some ⟨b, 0, none⟩)) s0 (gyes_none rfl) (q_box (v := .agg #[.int .u32 ((f : Nat) : Int), .int .u32 ((sh : Nat) : Int), vb, vk, vc]) (vs := [.int .u32 ((f : Nat) : Int), .int .u32 ((sh : Nat) : Int), vb, vk, vc]) 5 rfl (by exact trivial) rfl) rfl (by decide) (cok1 trivial) (fun b1 H2 hb4 s3 => ?_)
  refine x_new (fun b => .pointer (some ⟨b, 0, none⟩)) s3 (gyes_none rfl) (q_box (v := .string s) (vs := [.string s]) 1 rfl (by exact trivial) rfl) rfl (by decide) (cok1 trivial) (fun b5 H6 hb8 s7 => ?_)
  refine x_new (fun b => .pointer (some ⟨b, 0, none⟩)) s7 (gyes_none rfl) (q_box (v := vN) (vs := [vN]) 1 rfl (Sl.lc (s7.sl hN)).1 (Sl.cells (s7.sl hN))) rfl (by decide) (cok1 trivial) (fun b9 H10 hb12 s11 => ?_)
  refine x_new (fun b => .pointer (some ⟨b, 0, none⟩)) s11 (gyes_none rfl) (q_alloc (vs := [.int .i64 0]) 1 Try.zeroValue3 (by first | exact flat_scalar rfl | exact flat_agg rfl) rfl) rfl (by decide) (by simp [Op.operands, Call.operands]) (fun b13 H14 hb16 s15 => ?_)
  refine x_new (fun b => .pointer (some ⟨b, 0, none⟩)) s15 (gyes_none rfl) (q_alloc (vs := [.bool false]) 1 Try.zeroValue4 (by first | exact flat_scalar rfl | exact flat_agg rfl) rfl) rfl (by decide) (by simp [Op.operands, Call.operands]) (fun b17 H18 hb20 s19 => ?_)
  refine ⟨_, Wk.refl _ _, ?_⟩
  show awp _ _ _ _ _ _ _
  refine awp_seq ?_
  refine awp_seq ?_
  refine awp_regs hF ?_
  refine dv (gyes_none rfl) (q_loadAgg Try.isAgg31 Try.sizeOf31 rfl (s19.rd (j := 4) rfl) (Nat.le_of_ble_eq_true rfl) rfl) rfl (by decide) (cok1 trivial) ?_
  refine dv (gyes_none rfl) (q_load (v := .string s) Try.isAgg9 rfl (s19.rd (j := 3) rfl) rfl) rfl (by decide) (cok1 trivial) ?_
  refine x_call [] hF (by kernel_rfl) (gyes_none rfl) Try.call13 rfl (args := [.agg #[.int .u32 ((f : Nat) : Int), .int .u32 ((sh : Nat) : Int), vb, vk, vc], .string s]) rfl (walk_ok f sh _ _ _ lb lk lc (s19.sl hb) (s19.sl hk) (s19.sl hc) s) (show _ < _ by decide) (call_ok rfl) rfl rfl (fun _ _ _ _ hd => by cases hd) ?_
  rintro _ H23 ⟨b21, b22, rfl, hn24⟩
  have s25 := s19.callL hn24
  refine ⟨trivial, ?_⟩
  show dList _ _ _ _ _ _ _ _ _ _
  refine ⟨_, Wk.refl _ _, ?_⟩
  show awp _ _ _ _ _ _ _
  refine awp_block ?_
  refine range_st s25 rfl Try.call27 (fun fn26 lp27 d28 l29 H30 hlp31 hd32 s33 => ?_)
  refine (walk1_all (H0 := H30) f sh vb vk vc lb lk lc hfl hl1 hl2 hl3 hw hkw hcw s hs _ b22 b21 (fun (k : Nat) (H34 : AHeap) => St H0 (none0) (Rd H0) H34 [(l29, lp27 .ready none), (d28, .mark), (b21, .cells true [.string s] 1), (b22, .cells true [.int .u32 ((f : Nat) : Int), .int .u32 ((sh : Nat) : Int), vb, vk, vc] 5), (b17, .cells true [.bool false] 1), (b13, .cells true [.int .i64 0] 1), (b9, .cells true [vN] 1), (b5, .cells true [.string s] 1), (b1, .cells true [.int .u32 ((f : Nat) : Int), .int .u32 ((sh : Nat) : Int), vb, vk, vc] 5)] ∧ (∀ j, gS lk f (gh s) ≤ j → j < k → ¬ gP names lc f s j)) (fun (k' : Nat) (H34 : AHeap) => ∃ (r : Nat), St H0 (none0) (Rd H0) H34 [(l29, lp27 (.done) (some .ret)), (d28, .mark), (b21, .cells true [.string s] 1), (b22, .cells true [.int .u32 ((f : Nat) : Int), .int .u32 ((sh : Nat) : Int), vb, vk, vc] 5), (b17, .cells true [.bool true] 1), (b13, .cells true [.int .i64 ((r + f : Nat) : Int)] 1), (b9, .cells true [vN] 1), (b5, .cells true [.string s] 1), (b1, .cells true [.int .u32 ((f : Nat) : Int), .int .u32 ((sh : Nat) : Int), vb, vk, vc] 5)] ∧ (gS lk f (gh s) ≤ r ∧ r < gE lb lk lc sh f (gh s) ∧ gP names lc f s r ∧ ∀ j, gS lk f (gh s) ≤ j → j < r → ¬ gP names lc f s j)) ?h00 (fun _ _ _ ⟨s_, hq⟩ k_ => ⟨s_.call0 k_, hq⟩) (fun k _ ⟨s_, hq⟩ h1_ h2_ hne => ⟨s_, lt_casesN hq (fun h => hne h.1)⟩) ?hb ?round).mono ?after
  case h00 => exact ⟨s33, fun j h1 h2 => absurd h2 (by omega)⟩
  case hb =>
    rintro k H34 ⟨s35, hq⟩
    exact ⟨s35.rd (j := 3) rfl, s35.rd (j := 2) rfl, s35.sl hb, s35.sl hk, s35.sl hc⟩
  case round =>
    rintro k H34  ⟨s35, hq⟩ hx1 hx2 hx3
    have hin := (gE_in hx1 hx2).2
    refine ylds_roundB hlp31 (s35.getj (j := 0) rfl) rfl rfl (fun l36 hF => ?_)
    refine awp_regs hF ?_
    refine dv (gyes_none rfl) (q_as (v := .int .i64 ((k + f : Nat) : Int)) rfl) rfl (by decide) (cok1 trivial) ?_
    refine ⟨_, Wk.refl _ _, ?_⟩
    refine then_normal ?_
    refine ⟨_, _, rfl, s35.getj (j := 0) rfl, ?body⟩
    case body =>
      have s37 := s35.setAt (j := 0) rfl (lp27 .busy none)
      show awp _ _ _ _ _ _ _
      refine awp_block ?_
      refine awp_seq ?_
      refine awp_regt hF hM (by kernel_rfl) (by kernel_rfl) ?_
      refine dv (gyes_none rfl) (q_mv (v := .int .i64 ((k + f : Nat) : Int)) rfl) rfl (by decide) (cok1 trivial) ?_
      refine dv (gyes_none rfl) (q_load (v := vN) Try.isAgg23 rfl (s37.rd (j := 6) rfl) rfl) rfl (by decide) (cok1 trivial) ?_
      refine dv (gyes_none rfl) (q_len_sl (l := names) Try.underlying23 (s37.sl hN) rfl) rfl (by decide) (cok1 trivial) ?_
      refine dvb (gyes_none rfl) (q_int rfl rfl rfl) rfl (by decide) (cok2 trivial trivial) (fun c1 => ?_) (fun c1 => ?_)
      ·
        replace c1 := of_decide_eq_true c1
        refine dv (gyes_none rfl) (q_mv (v := .bool true) rfl) rfl (by decide) (cok1 trivial) ?_
        refine dv (gyes_some rfl rfl) (q_load (v := vN) Try.isAgg23 rfl (s37.rd (j := 6) rfl) rfl) rfl (by decide) (cok1 trivial) ?_
        refine dv (gyes_some rfl rfl) (q_mv (v := .int .i64 ((k + f : Nat) : Int)) rfl) rfl (by decide) (cok1 trivial) ?_
        refine dv (gyes_some rfl rfl) (q_index_sl (l := names) (i := (k + f)) Try.underlying23 Try.sizeOf9 (s37.sl hN) rfl rfl (by omega)) rfl (by decide) (cok2 trivial trivial) ?_
        refine dv (gyes_some rfl rfl) (q_load_sl (l := names) (i := (k + f)) Try.isAgg9 (s37.sl hN) rfl (by omega)) rfl (by decide) (cok1 trivial) ?_
        refine dv (gyes_some rfl rfl) (q_load (v := .string s) Try.isAgg9 rfl (s37.rd (j := 7) rfl) rfl) rfl (by decide) (cok1 trivial) ?_
        refine dvb (gyes_some rfl rfl) (q_streq rfl rfl) rfl (by decide) (cok2 trivial trivial) (fun c2 => ?_) (fun c2 => ?_)
        ·
          replace c2 := of_decide_eq_true c2
          refine dv (gyes_none rfl) (q_pt (v := .bool true) rfl rfl) rfl (by decide) (call_ok rfl) ?_
          refine ⟨_, Wk.refl _ _, ?_⟩
          show awp _ _ _ _ _ _ _
          refine awp_cond_t rfl ?_
          refine awp_seq ?_
          refine awp_regs hF ?_
          refine dv (gyes_none rfl) (q_mv (v := .int .i64 ((k + f : Nat) : Int)) rfl) rfl (by decide) (cok1 trivial) ?_
          refine x_store1 [] hF s37 (by kernel_rfl) (gyes_none rfl) (j := 5) (v := .int .i64 ((k + f : Nat) : Int)) rfl Try.sizeOf3 rfl rfl rfl (lc_scalar rfl) (Nat.le_of_ble_eq_true rfl) trivial trivial rfl rfl (F' := [(l29, lp27 .busy none), (d28, .mark), (b21, .cells true [.string s] 1), (b22, .cells true [.int .u32 ((f : Nat) : Int), .int .u32 ((sh : Nat) : Int), vb, vk, vc] 5), (b17, .cells true [.bool false] 1), (b13, .cells true [.int .i64 ((k + f : Nat) : Int)] 1), (b9, .cells true [vN] 1), (b5, .cells true [.string s] 1), (b1, .cells true [.int .u32 ((f : Nat) : Int), .int .u32 ((sh : Nat) : Int), vb, vk, vc] 5)]) rfl (fun H38 s39 => ⟨?_, ?_⟩)
          · exact trivial
          refine x_store1 [] hF s39 (by kernel_rfl) (gyes_none rfl) (j := 4) (v := .bool true) rfl Try.sizeOf4 rfl rfl rfl (lc_scalar rfl) (Nat.le_of_ble_eq_true rfl) trivial (cconst rfl) rfl rfl (F' := [(l29, lp27 .busy none), (d28, .mark), (b21, .cells true [.string s] 1), (b22, .cells true [.int .u32 ((f : Nat) : Int), .int .u32 ((sh : Nat) : Int), vb, vk, vc] 5), (b17, .cells true [.bool true] 1), (b13, .cells true [.int .i64 ((k + f : Nat) : Int)] 1), (b9, .cells true [vN] 1), (b5, .cells true [.string s] 1), (b1, .cells true [.int .u32 ((f : Nat) : Int), .int .u32 ((sh : Nat) : Int), vb, vk, vc] 5)]) rfl (fun H40 s41 => ⟨?_, ?_⟩)
          · exact trivial
          refine ⟨_, Wk.refl _ _, ?_⟩
          show awp _ _ _ _ _ _ _
          refine awp_ret_wk ?_
          refine ⟨_, Wk.refl _ _, ?_⟩
          repeat (with_reducible first | refine then_ret ?_ | refine blk_ret ?_ | refine then_exit ?_ | refine blk_exit ?_ | refine blk_exit' (by decide) ?_ | refine blk_normal ?_ | refine then_normal ?_ | refine retq_ret ?_ | refine retq_normal ?_ | refine ng_normal ?_ | refine ng_ret ?_ | refine ng_exit ?_)
          exact ⟨s41.getj (j := 0) rfl, (fun h => nomatch h), (fun _ => ⟨_, (s41.setAt (j := 0) rfl (lp27 .done (some .ret))), ⟨hx1, hx2, ⟨hx3, by omega, by assumption⟩, hq⟩⟩)⟩
        ·
          replace c2 := of_decide_eq_false c2
          refine dv (gyes_none rfl) (q_pt (v := .bool false) rfl rfl) rfl (by decide) (call_ok rfl) ?_
          refine ⟨_, Wk.refl _ _, ?_⟩
          show awp _ _ _ _ _ _ _
          refine awp_cond_f rfl ?_
          refine awp_skip_wk ?_
          refine ⟨_, Wk.refl _ _, ?_⟩
          repeat (with_reducible first | refine then_ret ?_ | refine blk_ret ?_ | refine then_exit ?_ | refine blk_exit ?_ | refine blk_exit' (by decide) ?_ | refine blk_normal ?_ | refine then_normal ?_ | refine retq_ret ?_ | refine retq_normal ?_ | refine ng_normal ?_ | refine ng_ret ?_ | refine ng_exit ?_)
          exact ⟨s37.getj (j := 0) rfl, (fun _ => ⟨(s37.setAt (j := 0) rfl (lp27 .ready none)), lt_casesN hq (fun h => by first | exact absurd h.2.1 (by omega) | exact absurd h.2.2 (by assumption))⟩), (fun h => nomatch h)⟩
      ·
        replace c1 := of_decide_eq_false c1
        refine dv (gyes_none rfl) (q_mv (v := .bool false) rfl) rfl (by decide) (cok1 trivial) ?_
        refine dno rfl (.inl rfl) rfl (by decide) ?_
        refine dno rfl (.inl rfl) rfl (by decide) ?_
        refine dno rfl (.inl rfl) rfl (by decide) ?_
        refine dno rfl (.inl rfl) rfl (by decide) ?_
        refine dno rfl (.inl rfl) rfl (by decide) ?_
        refine dno rfl (.inl rfl) rfl (by decide) ?_
        refine dv (gyes_none rfl) (q_pf (v := .bool false) rfl rfl) rfl (by decide) (call_ok rfl) ?_
        refine ⟨_, Wk.refl _ _, ?_⟩
        show awp _ _ _ _ _ _ _
        refine awp_cond_f rfl ?_
        refine awp_skip_wk ?_
        refine ⟨_, Wk.refl _ _, ?_⟩
        repeat (with_reducible first | refine then_ret ?_ | refine blk_ret ?_ | refine then_exit ?_ | refine blk_exit ?_ | refine blk_exit' (by decide) ?_ | refine blk_normal ?_ | refine then_normal ?_ | refine retq_ret ?_ | refine retq_normal ?_ | refine ng_normal ?_ | refine ng_ret ?_ | refine ng_exit ?_)
        exact ⟨s37.getj (j := 0) rfl, (fun _ => ⟨(s37.setAt (j := 0) rfl (lp27 .ready none)), lt_casesN hq (fun h => by first | exact absurd h.2.1 (by omega) | exact absurd h.2.2 (by assumption))⟩), (fun h => nomatch h)⟩
  case after =>
    rintro v H' ⟨rfl, hpost⟩
    rcases hpost with ⟨s42, hq⟩ | ⟨i_, hi1_, hi2_, ⟨r, s43, hr⟩⟩
    ·
      refine ⟨(by
          intro e he
          rcases List.mem_cons.1 he with rfl | he
          · exact s42.getj (j := 1) rfl
          · cases he), .inl ⟨s42.getj (j := 0) rfl, ?_⟩⟩
      have s44 := (s42.setAt (j := 0) rfl .none).forget 0
      refine ⟨_, Wk.refl _ _, ?_⟩
      show awp _ _ _ _ _ _ _
      refine awp_seq ?_
      refine awp_regs hF ?_
      refine x_store1 [] hF s44 (by kernel_rfl) (gyes_none rfl) (j := 4) (v := .int .i64 0) rfl Try.sizeOf3 rfl rfl rfl (lc_scalar rfl) (Nat.le_of_ble_eq_true rfl) trivial (cconst rfl) rfl rfl (F' := [(d28, .mark), (b21, .cells true [.string s] 1), (b22, .cells true [.int .u32 ((f : Nat) : Int), .int .u32 ((sh : Nat) : Int), vb, vk, vc] 5), (b17, .cells true [.bool false] 1), (b13, .cells true [.int .i64 0] 1), (b9, .cells true [vN] 1), (b5, .cells true [.string s] 1), (b1, .cells true [.int .u32 ((f : Nat) : Int), .int .u32 ((sh : Nat) : Int), vb, vk, vc] 5)]) rfl (fun H45 s46 => ⟨?_, ?_⟩)
      · exact trivial
      refine x_store1 [] hF s46 (by kernel_rfl) (gyes_none rfl) (j := 3) (v := .bool false) rfl Try.sizeOf4 rfl rfl rfl (lc_scalar rfl) (Nat.le_of_ble_eq_true rfl) trivial (cconst rfl) rfl rfl (F' := [(d28, .mark), (b21, .cells true [.string s] 1), (b22, .cells true [.int .u32 ((f : Nat) : Int), .int .u32 ((sh : Nat) : Int), vb, vk, vc] 5), (b17, .cells true [.bool false] 1), (b13, .cells true [.int .i64 0] 1), (b9, .cells true [vN] 1), (b5, .cells true [.string s] 1), (b1, .cells true [.int .u32 ((f : Nat) : Int), .int .u32 ((sh : Nat) : Int), vb, vk, vc] 5)]) rfl (fun H47 s48 => ⟨?_, ?_⟩)
      · exact trivial
      refine ⟨_, Wk.refl _ _, ?_⟩
      show awp _ _ _ _ _ _ _
      refine awp_ret_wk ?_
      refine ⟨_, Wk.refl _ _, ?_⟩
      repeat (with_reducible first | refine then_ret ?_ | refine blk_ret ?_ | refine then_exit ?_ | refine blk_exit ?_ | refine blk_exit' (by decide) ?_ | refine blk_normal ?_ | refine then_normal ?_ | refine retq_ret ?_ | refine retq_normal ?_ | refine ng_normal ?_ | refine ng_ret ?_ | refine ng_exit ?_)
      exact ret_noneD (v := .tuple #[.int .i64 0, .bool false]) rfl (s48.setAt (j := 0) rfl .none).kp (.cell rfl Try.isAgg3 ((s48.setAt (j := 0) rfl .none).rd (j := 4) rfl) rfl (.cell rfl Try.isAgg4 ((s48.setAt (j := 0) rfl .none).rd (j := 3) rfl) rfl .nil)) rfl rfl ⟨by rw [gF_no hq]; first | done | rfl, rfl⟩
    ·
      refine ⟨(by
          intro e he
          rcases List.mem_cons.1 he with rfl | he
          · exact s43.getj (j := 1) rfl
          · cases he), .inr ⟨_, s43.getj (j := 0) rfl, ?_⟩⟩
      have s49 := (s43.setAt (j := 0) rfl .none).forget 0
      refine awp_ret_wk ?_
      refine ⟨_, Wk.refl _ _, ?_⟩
      repeat (with_reducible first | refine then_ret ?_ | refine blk_ret ?_ | refine then_exit ?_ | refine blk_exit ?_ | refine blk_exit' (by decide) ?_ | refine blk_normal ?_ | refine then_normal ?_ | refine retq_ret ?_ | refine retq_normal ?_ | refine ng_normal ?_ | refine ng_ret ?_ | refine ng_exit ?_)
      exact ret_noneD (v := .tuple #[.int .i64 ((r + f : Nat) : Int), .bool true]) rfl (s49.setAt (j := 0) rfl .none).kp (.cell rfl Try.isAgg3 ((s49.setAt (j := 0) rfl .none).rd (j := 4) rfl) rfl (.cell rfl Try.isAgg4 ((s49.setAt (j := 0) rfl .none).rd (j := 3) rfl) rfl .nil)) rfl rfl ⟨by rw [gF_yes hr.1 hr.2.1 hr.2.2.1 hr.2.2.2]; first | done | rfl, rfl⟩

end Go.Proofs.YtponfeigjmjbmaaA


/-
  Walks of functions of the given program, and what they compute.
-/
namespace Go.Proofs.YtponfeigjmjbmaaA
set_option linter.unusedVariables false
open Go Go.RowKit Go.Shelf Go.Proofs
set_option maxRecDepth 100000 in
set_option maxHeartbeats 4000000 in
theorem speaks_ok {H0 : AHeap}  : ACalls Try.prog 7 [] H0 (Rets (.bool true) H0) := by
  have hF : Wd Fence.wide := .inl rfl
  have hM : Try.prog.follows .mixedOrders = true := by kernel_rfl
  have s0 := St.begin H0
  refine acalls_st Try.func7 rfl Try.ntmps7 rfl ?_
  refine awp_seq ?_
  refine awp_regs hF ?_
  refine dv (gyes_none rfl) (q_as (v := .bool false) rfl) rfl (by decide) (cok1 (cconst rfl)) ?_
  refine ⟨_, Wk.refl _ _, ?_⟩
  show awp _ _ _ _ _ _ _
  refine awp_seq ?_
  refine awp_regs hF ?_
  refine x_new (fun b => .slice (some ⟨b, 0, none⟩) 1 1) s0 (gyes_none rfl) (q_buildSliceL (ds := [.string (⟨#[97]⟩ : ByteArray)]) [.string (⟨#[97]⟩ : ByteArray)] rfl Try.underlying23 Try.sizeOf9 Try.zeroValue9 rfl (by decide) (by decide) ⟨rfl, trivial⟩ (lvsC (by exact trivial) lvs0) rfl rfl) rfl (by decide) (cok1 (cconst rfl)) (fun b1 H2 hb4 s3 => ?_)
  refine x_call [] hF (by kernel_rfl) (gyes_none rfl) Try.call9 rfl (args := [.slice (some ⟨b1, 0, none⟩) 1 1, .int .i64 1, .int .i64 1, .int .i64 1, .int .i64 5]) rfl (build_yes _ [(⟨#[97]⟩ : ByteArray)] (s3.slj (l := [(⟨#[97]⟩ : ByteArray)]) (f := strv) (j := 0) rfl rfl (Nat.le_refl _)) (by intro x hx; rw [List.mem_singleton.1 hx]; decide) (by decide) 1 1 1 5 (by decide) (by decide)) (show _ < _ by decide) (call_ok rfl) rfl rfl (fun _ _ _ _ hd => by cases hd) ?_
  rintro _ H8 ⟨b5, b6, b7, rfl, hn9⟩
  have s10 := s3.callL hn9
  refine ⟨trivial, ?_⟩
  show dList _ _ _ _ _ _ _ _ _ _
  refine dv (gyes_none rfl) (q_mv (v := .tuple #[.agg #[.int .u32 1, .int .u32 5, .slice (some ⟨b5, 0, none⟩) 1 1, .slice (some ⟨b6, 0, none⟩) 1 1, .slice (some ⟨b7, 0, none⟩) (([(⟨#[97]⟩ : ByteArray)]).length) (([(⟨#[97]⟩ : ByteArray)]).length)], .bool true]) rfl) rfl (by decide) (cok1 trivial) ?_
  refine dv (gyes_none rfl) (q_extract (v := .agg #[.int .u32 1, .int .u32 5, .slice (some ⟨b5, 0, none⟩) 1 1, .slice (some ⟨b6, 0, none⟩) 1 1, .slice (some ⟨b7, 0, none⟩) (([(⟨#[97]⟩ : ByteArray)]).length) (([(⟨#[97]⟩ : ByteArray)]).length)]) rfl rfl) rfl (by decide) (cok1 trivial) ?_
  refine dv (gyes_none rfl) (q_extract (v := .bool true) rfl rfl) rfl (by decide) (cok1 trivial) ?_
  refine x_new (fun b => .pointer (some ⟨b, 0, none⟩)) s10 (gyes_none rfl) (q_alloc (vs := [.int .u32 0, .int .u32 0, .slice none 0 0, .slice none 0 0, .slice none 0 0]) 5 Try.zeroValue31 (by first | exact flat_scalar rfl | exact flat_agg rfl) rfl) rfl (by decide) (by simp [Op.operands, Call.operands]) (fun b11 H12 hb14 s13 => ?_)
  refine x_store [] hF s13 (by kernel_rfl) (gyes_none rfl) (j := 0) (v := .agg #[.int .u32 1, .int .u32 5, .slice (some ⟨b5, 0, none⟩) 1 1, .slice (some ⟨b6, 0, none⟩) 1 1, .slice (some ⟨b7, 0, none⟩) (([(⟨#[97]⟩ : ByteArray)]).length) (([(⟨#[97]⟩ : ByteArray)]).length)]) rfl Try.sizeOf31 rfl rfl rfl rfl rfl trivial (lcsA ⟨(lc_scalar rfl), (lc_scalar rfl), (lc_slice (s13.live (j := 3) rfl)), (lc_slice (s13.live (j := 2) rfl)), (lc_slice (s13.live (j := 1) rfl)), trivial⟩) (Nat.le_of_ble_eq_true rfl) trivial trivial rfl rfl (F' := [(b11, .cells true [.int .u32 1, .int .u32 5, .slice (some ⟨b5, 0, none⟩) 1 1, .slice (some ⟨b6, 0, none⟩) 1 1, .slice (some ⟨b7, 0, none⟩) (([(⟨#[97]⟩ : ByteArray)]).length) (([(⟨#[97]⟩ : ByteArray)]).length)] 5), (b7, .cells true ((chN ([(⟨#[97]⟩ : ByteArray)]) 1 ([(⟨#[97]⟩ : ByteArray)]).length).map u32v) 1), (b6, .cells true ((bkN ([(⟨#[97]⟩ : ByteArray)]) 1 1 ([(⟨#[97]⟩ : ByteArray)]).length).map u32v) 1), (b5, .cells true ((blN ([(⟨#[97]⟩ : ByteArray)]) 1 5 ([(⟨#[97]⟩ : ByteArray)]).length).map u64v) 1), (b1, .cells true [.string (⟨#[97]⟩ : ByteArray)] 1)]) rfl (fun H15 s16 => ⟨?_, ?_⟩)
  · exact trivial
  refine dv (gyes_none rfl) (q_as (v := .bool true) rfl) rfl (by decide) (cok1 trivial) ?_
  refine ⟨_, Wk.refl _ _, ?_⟩
  show awp _ _ _ _ _ _ _
  refine awp_seq ?_
  refine awp_regs hF ?_
  refine dv (gyes_none rfl) (q_loadAgg Try.isAgg31 Try.sizeOf31 rfl (s16.rd (j := 0) rfl) (Nat.le_of_ble_eq_true rfl) rfl) rfl (by decide) (cok1 trivial) ?_
  refine x_new (fun b => .slice (some ⟨b, 0, none⟩) 2 2) s16 (gyes_none rfl) (q_buildSliceL (ds := [.string (⟨#[]⟩ : ByteArray), .string (⟨#[97]⟩ : ByteArray)]) [.string (⟨#[]⟩ : ByteArray), .string (⟨#[97]⟩ : ByteArray)] rfl Try.underlying23 Try.sizeOf9 Try.zeroValue9 rfl (by decide) (by decide) ⟨rfl, rfl, trivial⟩ (lvsC (by exact trivial) (lvsC (by exact trivial) lvs0)) rfl rfl) rfl (by decide) (cok2 (cconst rfl) (cconst rfl)) (fun b17 H18 hb20 s19 => ?_)
  refine dv (gyes_none rfl) (q_call0 Try.call21 rfl (ACalls.castV (v' := .tuple #[.int .i64 1, .bool true]) (find_ok 1 5 _ _ _ (blN ([(⟨#[97]⟩ : ByteArray)]) 1 5 ([(⟨#[97]⟩ : ByteArray)]).length) (bkN ([(⟨#[97]⟩ : ByteArray)]) 1 1 ([(⟨#[97]⟩ : ByteArray)]).length) (chN ([(⟨#[97]⟩ : ByteArray)]) 1 ([(⟨#[97]⟩ : ByteArray)]).length) (by first | omega | decide) (by rw [blN_len]; first | omega | decide) (by rw [bkN_len]; first | omega | decide) (by rw [chN_len]; first | omega | decide) (blN_w _) (fun x hx => Nat.lt_trans (bkN_w (by first | omega | decide) x hx) (by decide)) (chN_w _) (⟨#[97]⟩ : ByteArray) (by decide) (s19.slj (j := 4) rfl (by first | rfl | (simp; done) | omega | exact blN_len _ | exact bkN_len _ | exact chN_len _ | (rw [chN_len]; omega)) (by first | exact Nat.le_refl _ | omega)) (s19.slj (j := 3) rfl (by first | rfl | (simp; done) | omega | exact blN_len _ | exact bkN_len _ | exact chN_len _ | (rw [chN_len]; omega)) (by first | exact Nat.le_refl _ | omega)) (s19.slj (j := 2) rfl (by first | rfl | (simp; done) | omega | exact blN_len _ | exact bkN_len _ | exact chN_len _ | (rw [chN_len]; omega)) (by first | exact Nat.le_refl _ | omega)) _ ([(⟨#[]⟩ : ByteArray), (⟨#[97]⟩ : ByteArray)]) (s19.slj (l := [(⟨#[]⟩ : ByteArray), (⟨#[97]⟩ : ByteArray)]) (f := strv) (j := 0) rfl rfl (Nat.le_refl _)) (by first | omega | decide | (simp; omega))) (by rw [show gFV (blN ([(⟨#[97]⟩ : ByteArray)]) 1 5 ([(⟨#[97]⟩ : ByteArray)]).length) (bkN ([(⟨#[97]⟩ : ByteArray)]) 1 1 ([(⟨#[97]⟩ : ByteArray)]).length) (chN ([(⟨#[97]⟩ : ByteArray)]) 1 ([(⟨#[97]⟩ : ByteArray)]).length) 5 1 [(⟨#[]⟩ : ByteArray), (⟨#[97]⟩ : ByteArray)] ⟨#[97]⟩ = (1, true) by decide +kernel]; try rfl))) rfl (by decide) (call_ok rfl) ?_
  refine dv (gyes_none rfl) (q_mv (v := .tuple #[.int .i64 1, .bool true]) rfl) rfl (by decide) (cok1 trivial) ?_
  refine dv (gyes_none rfl) (q_extract (v := .int .i64 1) rfl rfl) rfl (by decide) (cok1 trivial) ?_
  refine dv (gyes_none rfl) (q_extract (v := .bool true) rfl rfl) rfl (by decide) (cok1 trivial) ?_
  refine dv (gyes_none rfl) (q_as (v := .int .i64 1) rfl) rfl (by decide) (cok1 trivial) ?_
  refine dv (gyes_none rfl) (q_as (v := .bool true) rfl) rfl (by decide) (cok1 trivial) ?_
  refine ⟨_, Wk.refl _ _, ?_⟩
  show awp _ _ _ _ _ _ _
  refine awp_seq ?_
  refine awp_regs hF ?_
  refine dv (gyes_none rfl) (q_call0 Try.call19 rfl (hash_ok (⟨#[97]⟩ : ByteArray) (by decide))) rfl (by decide) (cok2 trivial (cconst rfl)) ?_
  refine dv (gyes_none rfl) (OpQ.cast (v' := .bool true) (q_int rfl rfl rfl) (congrArg Value.bool (by rw [show gh (⟨#[97]⟩ : ByteArray) = 177670 by decide +kernel]; rfl))) rfl (by decide) (cok2 trivial (cconst rfl)) ?_
  refine dv (gyes_none rfl) (q_mv (v := .bool true) rfl) rfl (by decide) (cok1 trivial) ?_
  refine dv (gyes_some rfl rfl) (q_mv (v := .bool true) rfl) rfl (by decide) (cok1 trivial) ?_
  refine dv (gyes_none rfl) (q_pt (v := .bool true) rfl rfl) rfl (by decide) (call_ok rfl) ?_
  refine dv (gyes_none rfl) (q_mv (v := .bool true) rfl) rfl (by decide) (cok1 trivial) ?_
  refine dv (gyes_some rfl rfl) (q_mv (v := .bool true) rfl) rfl (by decide) (cok1 trivial) ?_
  refine dv (gyes_none rfl) (q_pt (v := .bool true) rfl rfl) rfl (by decide) (call_ok rfl) ?_
  refine dv (gyes_none rfl) (q_mv (v := .bool true) rfl) rfl (by decide) (cok1 trivial) ?_
  refine dv (gyes_some rfl rfl) (q_mv (v := .int .i64 1) rfl) rfl (by decide) (cok1 trivial) ?_
  refine dv (gyes_some rfl rfl) (OpQ.cast (v' := .bool true) (q_int rfl rfl rfl) (congrArg Value.bool (beq_self_eq_true _))) rfl (by decide) (cok2 trivial (cconst rfl)) ?_
  refine dv (gyes_none rfl) (q_pt (v := .bool true) rfl rfl) rfl (by decide) (call_ok rfl) ?_
  refine dv (gyes_none rfl) (q_mv (v := .bool true) rfl) rfl (by decide) (cok1 trivial) ?_
  refine dv (gyes_some rfl rfl) (q_loadAgg Try.isAgg31 Try.sizeOf31 rfl (s19.rd (j := 1) rfl) (Nat.le_of_ble_eq_true rfl) rfl) rfl (by decide) (cok1 trivial) ?_
  refine dv (gyes_some rfl rfl) (q_call0 Try.call18 rfl (symbols_ok 1 5 _ _ _ (blN ([(⟨#[97]⟩ : ByteArray)]) 1 5 ([(⟨#[97]⟩ : ByteArray)]).length) (bkN ([(⟨#[97]⟩ : ByteArray)]) 1 1 ([(⟨#[97]⟩ : ByteArray)]).length) (chN ([(⟨#[97]⟩ : ByteArray)]) 1 ([(⟨#[97]⟩ : ByteArray)]).length) (s19.slj (j := 4) rfl (by first | rfl | (simp; done) | omega | exact blN_len _ | exact bkN_len _ | exact chN_len _ | (rw [chN_len]; omega)) (by first | exact Nat.le_refl _ | omega)) (s19.slj (j := 3) rfl (by first | rfl | (simp; done) | omega | exact blN_len _ | exact bkN_len _ | exact chN_len _ | (rw [chN_len]; omega)) (by first | exact Nat.le_refl _ | omega)) (s19.slj (j := 2) rfl (by first | rfl | (simp; done) | omega | exact blN_len _ | exact bkN_len _ | exact chN_len _ | (rw [chN_len]; omega)) (by first | exact Nat.le_refl _ | omega)) (by decide) (by rw [chN_len]; decide))) rfl (by decide) (cok2 trivial trivial) ?_
  refine dv (gyes_some rfl rfl) (OpQ.cast (v' := .bool true) (q_int rfl rfl rfl) (congrArg Value.bool (by rw [chN_len]; rfl))) rfl (by decide) (cok2 trivial (cconst rfl)) ?_
  refine dv (gyes_none rfl) (q_pt (v := .bool true) rfl rfl) rfl (by decide) (call_ok rfl) ?_
  refine dv (gyes_none rfl) (q_mv (v := .bool true) rfl) rfl (by decide) (cok1 trivial) ?_
  refine dv (gyes_some rfl rfl) (q_loadAgg Try.isAgg31 Try.sizeOf31 rfl (s19.rd (j := 1) rfl) (Nat.le_of_ble_eq_true rfl) rfl) rfl (by decide) (cok1 trivial) ?_
  refine dv (gyes_some rfl rfl) (q_call0 Try.call12 rfl (ACalls.castV (v' := .bool true) (may_ok 1 5 _ _ _ (blN ([(⟨#[97]⟩ : ByteArray)]) 1 5 ([(⟨#[97]⟩ : ByteArray)]).length) (bkN ([(⟨#[97]⟩ : ByteArray)]) 1 1 ([(⟨#[97]⟩ : ByteArray)]).length) (chN ([(⟨#[97]⟩ : ByteArray)]) 1 ([(⟨#[97]⟩ : ByteArray)]).length) (s19.slj (j := 4) rfl (by first | rfl | (simp; done) | omega | exact blN_len _ | exact bkN_len _ | exact chN_len _ | (rw [chN_len]; omega)) (by first | exact Nat.le_refl _ | omega)) (s19.slj (j := 3) rfl (by first | rfl | (simp; done) | omega | exact blN_len _ | exact bkN_len _ | exact chN_len _ | (rw [chN_len]; omega)) (by first | exact Nat.le_refl _ | omega)) (s19.slj (j := 2) rfl (by first | rfl | (simp; done) | omega | exact blN_len _ | exact bkN_len _ | exact chN_len _ | (rw [chN_len]; omega)) (by first | exact Nat.le_refl _ | omega)) (⟨#[97]⟩ : ByteArray) (by decide) (by rw [blN_len]; first | omega | decide) (blN_w _)) (by rw [show mayV (blN ([(⟨#[97]⟩ : ByteArray)]) 1 5 ([(⟨#[97]⟩ : ByteArray)]).length) 5 (gh ⟨#[97]⟩) = true by decide +kernel]))) rfl (by decide) (call_ok rfl) ?_
  refine dv (gyes_none rfl) (q_pt (v := .bool true) rfl rfl) rfl (by decide) (call_ok rfl) ?_
  refine dv (gyes_none rfl) (q_as (v := .bool true) rfl) rfl (by decide) (cok1 trivial) ?_
  refine ⟨_, Wk.refl _ _, ?_⟩
  show awp _ _ _ _ _ _ _
  refine awp_ret_wk ?_
  refine ⟨_, Wk.refl _ _, ?_⟩
  repeat (with_reducible first | refine then_ret ?_ | refine blk_ret ?_ | refine then_exit ?_ | refine blk_exit ?_ | refine blk_exit' (by decide) ?_ | refine blk_normal ?_ | refine then_normal ?_ | refine retq_ret ?_ | refine retq_normal ?_ | refine ng_normal ?_ | refine ng_ret ?_ | refine ng_exit ?_)
  exact ret_none (v := .bool true) rfl s19.kp (.tmp rfl .nil) rfl rfl ⟨rfl, rfl⟩

end Go.Proofs.YtponfeigjmjbmaaA


/-
  append(nil, make([]T, n)...), cap of nil, less capacity told.
-/
namespace Go.Proofs.YtponfeigjmjbmaaA
set_option linter.unusedVariables false
open Go Go.RowKit Go.Shelf
section
variable {P : Program} {T : Nat → Value} {H : AHeap} {dst : Option Tmp} {ty : TypeId} {pos : String} {af : Array Edge} {g : Option (Nat × Bool)}
theorem q_cap_nil {t el : TypeId} {x : Operand} (hu : P.underlying t = some (.slice el)) (hx : ev T x = .slice none 0 0) : OpQ P ⟨dst, .call { callee := .builtin .cap, args := #[x], argTypes := #[t] }, ty, pos, af, g⟩ T H (.int .i64 0) [] :=
  q_val (by simp) fun ρ e w hh he => by
    have h1 := he x (by simp [Op.operands, Call.operands])
    rw [hx] at h1
    refine ⟨_, run_builtin (us := #[e x]) (by simp) (run_v ?_), .int _ _⟩
    show (Builtin.cap_ #[t] ty #[e x]).run P w = _
    rw [h1.scalar_eq rfl]
    unfold Builtin.cap_
    simp only [List.getElem?_toArray, List.getElem?_cons_zero, Sem.run_bind, run_und hu, Result.andThen_ok]
    rfl
theorem vrel_capw {ρ : Ren} {b o n c c2 : Nat} {v' : Value} (hn : n ≤ c2) (hc : c2 ≤ c) (h : VRel ρ (.slice (some ⟨b, o, none⟩) n c) v') : VRel ρ (.slice (some ⟨b, o, none⟩) n c2) v' := by
  have h1 := VSub.sliceCap (φ := some) (b2 := b) (b := b) (o := o) rfl hn hc ρ v' h
  have e : comp some ρ = ρ := rfl
  rwa [e] at h1
theorem OpQ.capw {o : Oper} {b oo n c c2 : Nat} {Δ : AHeap} (h : OpQ P o T H (.slice (some ⟨b, oo, none⟩) n c) Δ) (hn : n ≤ c2) (hc : c2 ≤ c) : OpQ P o T H (.slice (some ⟨b, oo, none⟩) n c2) Δ := by
  refine ⟨h.1, h.2, fun ρ e w hh he => ?_⟩
  have h3 := h.3 ρ e w hh he
  unfold RunQ at h3 ⊢
  split at h3
  all_goals first
    | exact h3
    | (refine Calls.mono h3 ?_; rintro e w'' ⟨v, hv, ρ', k1, k2, k3⟩; exact ⟨v, hv, ρ', vrel_capw hn hc k1, k2, k3⟩)
    | (obtain ⟨ρ', k1, k2, k3⟩ := h3; exact ⟨ρ', vrel_capw hn hc k1, k2, k3⟩)
theorem q_appendMake {x y : Operand} {sT yT el : TypeId} {i : TypeInfo} {z : Value} {kn kq : IntKind} {k : Nat} (hu : P.underlying sT = some (.slice el)) (hyt : P.underlying yT = some (.int kn)) (hi : P.info? el = some i) (hiz : i.zero = some z) (hsz : i.size = 1) (hpos : 0 < i.bytes) (hz1 : z.cells = #[z]) (hzs : Scalar z = true)
    (hx : ev T x = .slice none 0 0) (hyv : ev T y = .int kq (k : Int)) (h0 : 0 < k) (hbig : (2 * k + 1000) * i.bytes ≤ 281474976710656) :
    OpQ P ⟨dst, .call { callee := .builtin .append, args := #[x, y], argTypes := #[sT, yT] }, ty, pos, af, g⟩ T H (.slice (some ⟨H.length, 0, none⟩) k k) [.cells true (List.replicate k z) 1] := by
  refine ⟨by simp, by simp [AObj.wr], fun ρ e w hh he => ?_⟩
  have h1 := he x (by simp [Op.operands, Call.operands])
  have h2 := he y (by simp [Op.operands, Call.operands])
  rw [hx] at h1
  rw [hyv] at h2
  have e1 := h1.scalar_eq rfl
  have e2 := h2.scalar_eq rfl
  have hexec : ∀ (v : Value) (w' : World), (Builtin.append_ #[sT, yT] ty #[e x, e y]).run P w = .ok v w' → (execOp e ⟨dst, .call { callee := .builtin .append, args := #[x, y], argTypes := #[sT, yT] }, ty, pos, af, g⟩).run P w = .ok (.value v) w' :=
    fun v w' h => run_builtin (us := #[e x, e y]) (by simp) (run_v h)
  have hnb : k ≤ (2 * k + 1000) * i.bytes := Nat.le_trans (by omega) (Nat.le_mul_of_pos_right _ hpos)
  have hkb : k * i.bytes ≤ (2 * k + 1000) * i.bytes := Nat.mul_le_mul_right _ (by omega)
  have hr := Go.Lib.run_append_grow_zeros (P := P) w sT yT ty el i z kq kn hu hyt hi hiz none 0 0 [] (first_zero _ _ _) k h0 (by omega) (by omega) (by omega) (by omega) (by rw [Nat.zero_add]; have := Nat.mul_le_mul_right i.bytes (nextcap_le (n := k) (o := 0) (by omega)); omega)
  simp only [Nat.zero_add] at hr
  rw [← e1, ← e2] at hr
  rw [hexec _ _ hr]
  have hcap := grownCap_ge w k 0 el
  have hzl := zeroCells_one hz1 k
  obtain ⟨ρ', k1, k2, k3, k4⟩ := new_cells (w1 := w.drew.alloc (.cells (([] : List Value).toArray ++ Builtin.zeroCells z.cells k ++ Builtin.zeroCells z.cells (grownCap w k 0 el - k)) el)) (E := el) (fr := (0, 0)) (hh.drawn (w.drawn + 1)) 1 (vs := List.replicate k z) (cs := ([] : List Value).toArray ++ Builtin.zeroCells z.cells k ++ Builtin.zeroCells z.cells (grownCap w k 0 el - k))
    (fun p hp => by
      rw [List.length_replicate] at hp
      have e3 : (([] : List Value).toArray ++ Builtin.zeroCells z.cells k ++ Builtin.zeroCells z.cells (grownCap w k 0 el - k)).getD (0 + p) undef = z := by
        rw [Nat.zero_add, Array.getD_eq_getD_getElem?, Array.getElem?_append_left (by simp [size_zeroCells, hz1]; exact hp)]
        have : (([] : List Value).toArray ++ Builtin.zeroCells z.cells k)[p]? = some z := by
          rw [← Array.getElem?_toList, Array.toList_append, hzl]
          simp [hp]
        rw [this]; rfl
      have e4 : (List.replicate k z).getD p undef = z := by simp [List.getD_eq_getElem?_getD, List.getElem?_replicate, hp]
      rw [e3, e4]; exact .scalar hzs _) (by simp [size_zeroCells, hz1]) (frozen_none _) rfl rfl rfl rfl
  refine ⟨ρ', .slice k1 (Nat.le_refl _) (by omega) (.inl rfl) ?_, k3, ⟨k4.os, k4.tape, k4.output, k4.size, k4.keep, k4.old, k4.fresh⟩⟩
  show 0 + 0 + grownCap w k 0 el * 1 ≤ _
  simp [size_zeroCells, hz1]; omega
end
end Go.Proofs.YtponfeigjmjbmaaA


/-
  Walks of functions of the given program, and what they compute.
-/
namespace Go.Proofs.YtponfeigjmjbmaaA
set_option linter.unusedVariables false
open Go Go.RowKit Go.Shelf Go.Proofs
def seli {α : Type} (a b : α) (j : Nat) : α := if j = 0 then a else b
theorem seli_sl {H : AHeap} {va vb : Value} {X Y : List Nat} (ha : Sl u32v H va X) (hb : Sl u32v H vb Y) (j : Nat) : Sl u32v H (seli va vb j) (seli X Y j) := by
  unfold seli; split; exact ha; exact hb
def sumi (X Y : List Nat) (i : Nat) : Nat := if i = 0 then 0 else if i = 1 then X.length else X.length + Y.length
theorem sumi_succ {X Y : List Nat} {i : Nat} (h : i < 2) : sumi X Y i + (seli X Y i).length = sumi X Y (i + 1) := by
  rcases (show i = 0 ∨ i = 1 by omega) with rfl | rfl
  · show 0 + X.length = X.length; omega
  · rfl
theorem sumi_le (X Y : List Nat) (i : Nat) : sumi X Y i ≤ X.length + Y.length := by unfold sumi; split; omega; split <;> omega
theorem cat_succ {X Y : List Nat} {i : Nat} (h : i < 2) : (X ++ Y).take (sumi X Y i) ++ seli X Y i = (X ++ Y).take (sumi X Y (i + 1)) := by
  rcases (show i = 0 ∨ i = 1 by omega) with rfl | rfl
  · show (X ++ Y).take 0 ++ X = (X ++ Y).take X.length
    rw [List.take_zero, List.nil_append, List.take_left]
  · show (X ++ Y).take X.length ++ Y = (X ++ Y).take (X.length + Y.length)
    rw [List.take_left, List.take_of_length_le (by rw [List.length_append]; exact Nat.le_refl _)]
set_option maxRecDepth 100000 in
set_option maxHeartbeats 4000000 in
theorem grow_ok {H0 : AHeap} (n : Nat) (hn : n ≤ 1000000) : ACalls Try.prog 50 [.slice none 0 0, .int .i64 ((n : Nat) : Int)] H0 (fun v H' => ∃ b, v = .slice (some ⟨b, 0, none⟩) 0 0 ∧ K0 H0 H' ∧ H0.length ≤ b ∧ H'[b]? = some (.cells true [] 1)) := by
  have hF : Wd Fence.wide := .inl rfl
  have hM : Try.prog.follows .mixedOrders = true := by kernel_rfl
  have s0 := St.begin H0
  refine acalls_st Try.func50 rfl Try.ntmps50 rfl ?_
  refine awp_seq ?_
  refine awp_regs hF ?_
  refine dv (gyes_none rfl) (q_as (v := .slice none 0 0) rfl) rfl (by decide) (cok1 (cconst rfl)) ?_
  refine ⟨_, Wk.refl _ _, ?_⟩
  show awp _ _ _ _ _ _ _
  refine awp_seq ?_
  refine awp_seq ?_
  refine awp_regs hF ?_
  refine dv (gyes_none rfl) (q_mv (v := .int .i64 ((n : Nat) : Int)) rfl) rfl (by decide) (cok1 trivial) ?_
  refine dv (gyes_none rfl) (OpQ.cast (v' := .bool false) (q_int rfl rfl rfl) (congrArg Value.bool (decide_eq_false (by omega)))) rfl (by decide) (cok2 trivial (cconst rfl)) ?_
  refine ⟨_, Wk.refl _ _, ?_⟩
  show awp _ _ _ _ _ _ _
  refine awp_cond_f rfl ?_
  refine awp_skip_wk ?_
  refine ⟨_, Wk.refl _ _, ?_⟩
  show awp _ _ _ _ _ _ _
  refine awp_seq ?_
  refine awp_seq ?_
  refine awp_regs hF ?_
  refine dv (gyes_none rfl) (q_mv (v := .int .i64 ((n : Nat) : Int)) rfl) rfl (by decide) (cok1 trivial) ?_
  refine dv (gyes_none rfl) (q_mv (v := .slice none 0 0) rfl) rfl (by decide) (cok1 trivial) ?_
  refine dv (gyes_none rfl) (q_cap_nil Try.underlying29 rfl) rfl (by decide) (cok1 trivial) ?_
  refine dv (gyes_none rfl) (q_mv (v := .slice none 0 0) rfl) rfl (by decide) (cok1 trivial) ?_
  refine dv (gyes_none rfl) (q_len_nil Try.underlying29 rfl) rfl (by decide) (cok1 trivial) ?_
  refine dv (gyes_none rfl) (OpQ.cast (v' := .int .i64 ((0 - 0 : Nat) : Int)) (q_int rfl rfl rfl) (congrArg _ ((i64_in (by omega)).trans (by omega)))) rfl (by decide) (cok2 trivial trivial) ?_
  refine dv (gyes_none rfl) (OpQ.cast (v' := .int .i64 ((n - (0 - 0) : Nat) : Int)) (q_int rfl rfl rfl) (congrArg _ ((i64_in (by omega)).trans (by omega)))) rfl (by decide) (cok2 trivial trivial) ?_
  refine dv (gyes_none rfl) (q_as (v := .int .i64 ((n - (0 - 0) : Nat) : Int)) rfl) rfl (by decide) (cok1 trivial) ?_
  refine ⟨_, Wk.refl _ _, ?_⟩
  show awp _ _ _ _ _ _ _
  refine awp_seq ?_
  refine awp_regs hF ?_
  refine dv (gyes_none rfl) (q_mv (v := .int .i64 ((n - (0 - 0) : Nat) : Int)) rfl) rfl (by decide) (cok1 trivial) ?_
  refine dvb (gyes_none rfl) (q_int rfl rfl rfl) rfl (by decide) (cok2 trivial (cconst rfl)) (fun c1 => ?_) (fun c1 => ?_)
  ·
    replace c1 := of_decide_eq_true c1
    refine ⟨_, Wk.refl _ _, ?_⟩
    show awp _ _ _ _ _ _ _
    refine awp_cond_t rfl ?_
    refine awp_regs hF ?_
    refine dv (gyes_none rfl) (q_mv (v := .slice none 0 0) rfl) rfl (by decide) (cok1 trivial) ?_
    refine dv (gyes_none rfl) (q_mv (v := .slice none 0 0) rfl) rfl (by decide) (cok1 trivial) ?_
    refine dv (gyes_none rfl) (q_cap_nil Try.underlying29 rfl) rfl (by decide) (cok1 trivial) ?_
    refine dv (gyes_none rfl) (q_sliceNil Try.underlying29 Try.sizeOf27 rfl rfl) rfl (by decide) (cok2 trivial trivial) ?_
    refine dv (gyes_none rfl) (q_mv (v := .int .i64 ((n - (0 - 0) : Nat) : Int)) rfl) rfl (by decide) (cok1 trivial) ?_
    refine x_new (fun b => .slice (some ⟨b, 0, none⟩) n n) s0 (gyes_none rfl) (q_appendMake (k := n) Try.underlying29 Try.underlying3 Try.type27 rfl rfl (by decide) rfl rfl rfl rfl (by omega) (by show (2 * n + 1000) * 4 ≤ _; omega)) rfl (by decide) (cok2 trivial trivial) (fun b1 H2 hb4 s3 => ?_)
    refine dv (gyes_none rfl) (q_mv (v := .slice none 0 0) rfl) rfl (by decide) (cok1 trivial) ?_
    refine dv (gyes_none rfl) (q_len_nil Try.underlying29 rfl) rfl (by decide) (cok1 trivial) ?_
    refine dv (gyes_none rfl) (OpQ.capw (c2 := 0) (OpQ.cast (v' := .slice (some ⟨b1, 0, none⟩) 0 n) (q_slice (i := 0) (j := 0) (m := n) Try.underlying29 Try.sizeOf27 rfl (s3.rd (j := 0) rfl) rfl ⟨_, rfl⟩ rfl (by omega) (by omega) (by omega)) (by simp)) (by omega) (by omega)) rfl (by decide) (cok2 trivial trivial) ?_
    refine dv (gyes_none rfl) (q_as (v := .slice (some ⟨b1, 0, none⟩) 0 0) rfl) rfl (by decide) (cok1 trivial) ?_
    refine ⟨_, Wk.refl _ _, ?_⟩
    show awp _ _ _ _ _ _ _
    refine awp_seq ?_
    refine awp_shrink s3 (j := 0) rfl 0 (by rw [List.take_zero]) (fun H5 s6 => ?_)
    refine awp_regs hF ?_
    refine dv (gyes_none rfl) (q_mv (v := .slice (some ⟨b1, 0, none⟩) 0 0) rfl) rfl (by decide) (cok1 trivial) ?_
    refine dv (gyes_none rfl) (q_as (v := .slice (some ⟨b1, 0, none⟩) 0 0) rfl) rfl (by decide) (cok1 trivial) ?_
    refine ⟨_, Wk.refl _ _, ?_⟩
    show awp _ _ _ _ _ _ _
    refine awp_ret_wk ?_
    refine ⟨_, Wk.refl _ _, ?_⟩
    repeat (with_reducible first | refine then_ret ?_ | refine blk_ret ?_ | refine then_exit ?_ | refine blk_exit ?_ | refine blk_exit' (by decide) ?_ | refine blk_normal ?_ | refine then_normal ?_ | refine retq_ret ?_ | refine retq_normal ?_ | refine ng_normal ?_ | refine ng_ret ?_ | refine ng_exit ?_)
    refine ret_is (v := .slice (some ⟨b1, 0, none⟩) 0 0) rfl (.tmp rfl .nil) rfl ?_
    exact ⟨_, rfl, s6.kp, s6.out (j := 0) rfl, s6.getj (j := 0) rfl⟩
  ·
    replace c1 := of_decide_eq_false c1
    refine ⟨_, Wk.refl _ _, ?_⟩
    show awp _ _ _ _ _ _ _
    refine awp_cond_f rfl ?_
    refine awp_skip_wk ?_
    refine ⟨_, Wk.refl _ _, ?_⟩
    show awp _ _ _ _ _ _ _
    refine awp_seq ?_
    refine awp_regs hF ?_
    refine dv (gyes_none rfl) (q_mv (v := .slice none 0 0) rfl) rfl (by decide) (cok1 trivial) ?_
    refine dv (gyes_none rfl) (q_as (v := .slice none 0 0) rfl) rfl (by decide) (cok1 trivial) ?_
    refine ⟨_, Wk.refl _ _, ?_⟩
    show awp _ _ _ _ _ _ _
    refine awp_nil s0 4 1 rfl (fun b7 H8 hb10 s9 => ?_)
    refine awp_ret_wk ?_
    refine ⟨_, Wk.refl _ _, ?_⟩
    repeat (with_reducible first | refine then_ret ?_ | refine blk_ret ?_ | refine then_exit ?_ | refine blk_exit ?_ | refine blk_exit' (by decide) ?_ | refine blk_normal ?_ | refine then_normal ?_ | refine retq_ret ?_ | refine retq_normal ?_ | refine ng_normal ?_ | refine ng_ret ?_ | refine ng_exit ?_)
    refine ret_is (v := .slice (some ⟨b7, 0, none⟩) 0 0) rfl (.tmp rfl .nil) rfl ?_
    exact ⟨_, rfl, s9.kp, s9.out (j := 0) rfl, s9.getj (j := 0) rfl⟩
set_option maxRecDepth 100000 in
set_option maxHeartbeats 4000000 in
theorem concat_ok {H0 : AHeap} (ba : Nat) (va vb : Value) (X Y : List Nat) (ha : Sl u32v H0 va X) (hb : Sl u32v H0 vb Y) (hR : Rd H0 ba [va, vb] 1) (hx : X.length ≤ 1000) (hy : Y.length ≤ 1000) : ACalls Try.prog 37 [.slice (some ⟨ba, 0, none⟩) 2 2] H0 (Fresh u32v (X ++ Y) H0) := by
  have hF : Wd Fence.wide := .inl rfl
  have hM : Try.prog.follows .mixedOrders = true := by kernel_rfl
  have s0 := St.begin H0
  refine acalls_st Try.func37 rfl Try.ntmps37 rfl ?_
  refine awp_seq ?_
  refine awp_regs hF ?_
  refine dv (gyes_none rfl) (q_as (v := .slice none 0 0) rfl) rfl (by decide) (cok1 (cconst rfl)) ?_
  refine ⟨_, Wk.refl _ _, ?_⟩
  show awp _ _ _ _ _ _ _
  refine awp_seq ?_
  refine awp_regs hF ?_
  refine dv (gyes_none rfl) (q_as (v := .int .i64 0) rfl) rfl (by decide) (cok1 (cconst rfl)) ?_
  refine ⟨_, Wk.refl _ _, ?_⟩
  show awp _ _ _ _ _ _ _
  refine awp_seq ?_
  refine awp_seq ?_
  refine awp_regs hF ?_
  refine dv (gyes_none rfl) (q_mv (v := .slice (some ⟨ba, 0, none⟩) 2 2) rfl) rfl (by decide) (cok1 trivial) ?_
  refine dv (gyes_none rfl) (q_len_slice Try.underlying94 rfl (s0.zrd hR)) rfl (by decide) (cok1 trivial) ?_
  refine dv (gyes_none rfl) (q_mv (v := .int .i64 0) rfl) rfl (by decide) (cok1 (cconst rfl)) ?_
  refine ⟨_, Wk.refl _ _, ?_⟩
  show awp _ _ _ _ _ _ _
  refine awp_block ?_
  refine awp_wk (Wk.U [(0, .slice (some ⟨ba, 0, none⟩) 2 2), (3, .int .i64 0), (9, .slice (some ⟨ba, 0, none⟩) 2 2), (10, .int .i64 2), (11, .int .i64 0)] ⟨rfl, rfl, rfl, rfl, rfl, trivial⟩) ?_
  refine awp_loop (fun ((i, n) : Nat × Nat) st => ∃ (H1 : AHeap), st = ⟨36, U [(0, .slice (some ⟨ba, 0, none⟩) 2 2), (3, .int .i64 ((n : Nat) : Int)), (9, .slice (some ⟨ba, 0, none⟩) 2 2), (10, .int .i64 2), (11, .int .i64 ((i : Nat) : Int))], [], H1⟩ ∧ St H0 (none0) (Rd H0) H1 [] ∧ (i ≤ 2 ∧ n = sumi X Y i)) (fun ((i, n) : Nat × Nat) => 2 - i) (x0 := (0, 0)) ?h0 ?round
  case h0 =>
    exact ⟨_, rfl, s0, ⟨by omega, rfl⟩⟩
  case round =>
    rintro ⟨i, n⟩ _ ⟨H1, rfl, s2, hi⟩
    dsimp only at *
    have hsm := sumi_le X Y i
    have hsj : SlZ u32v (Rd H0) (seli va vb i) (seli X Y i) := seli_sl ha hb i
    have hse : (seli X Y i).length ≤ 1000 := by unfold seli; split <;> assumption
    refine awp_seq ?_
    refine awp_regs hF ?_
    refine dvb (gyes_none rfl) (q_int rfl rfl rfl) rfl (by decide) (cok2 trivial trivial) (fun c1 => ?_) (fun c1 => ?_)
    ·
      replace c1 := of_decide_eq_true c1
      refine ⟨_, Wk.refl _ _, ?_⟩
      show awp _ _ _ _ _ _ _
      refine awp_seq ?_
      refine awp_cond_t rfl ?_
      refine awp_skip_wk ?_
      refine ⟨_, Wk.refl _ _, ?_⟩
      show awp _ _ _ _ _ _ _
      refine awp_seq ?_
      refine awp_block ?_
      refine awp_seq ?_
      refine awp_regs hF ?_
      refine dv (gyes_none rfl) (OpQ.cast (v' := .pointer (some ⟨ba, i, none⟩)) (q_index1 (i := i) Try.underlying94 Try.sizeOf29 rfl rfl (by omega) (s2.zrd hR)) (by rw [Nat.zero_add])) rfl (by decide) (cok2 trivial trivial) ?_
      refine dv (gyes_none rfl) (q_load (v := seli va vb i) Try.isAgg29 rfl (s2.zrd hR) (by rcases (show i = 0 ∨ i = 1 by omega) with rfl | rfl <;> rfl)) rfl (by decide) (cok1 trivial) ?_
      refine dv (gyes_none rfl) (q_as (v := (seli va vb i)) rfl) rfl (by decide) (cok1 trivial) ?_
      refine ⟨_, Wk.refl _ _, ?_⟩
      show awp _ _ _ _ _ _ _
      refine awp_seq ?_
      refine awp_regs hF ?_
      refine dv (gyes_none rfl) (q_mv (v := .int .i64 ((n : Nat) : Int)) rfl) rfl (by decide) (cok1 trivial) ?_
      refine dv (gyes_none rfl) (q_mv (v := (seli va vb i)) rfl) rfl (by decide) (cok1 trivial) ?_
      refine dv (gyes_none rfl) (q_len_sl (l := (seli X Y i)) Try.underlying29 (s2.sl hsj) rfl) rfl (by decide) (cok1 trivial) ?_
      refine dv (gyes_none rfl) (OpQ.cast (v' := .int .i64 ((n + ((seli X Y i).length) : Nat) : Int)) (q_int rfl rfl rfl) (congrArg _ ((i64_in (by omega)).trans (by first | rfl | omega | (push_cast; rfl))))) rfl (by decide) (cok2 trivial trivial) ?_
      refine dv (gyes_none rfl) (q_as (v := .int .i64 ((n + ((seli X Y i).length) : Nat) : Int)) rfl) rfl (by decide) (cok1 trivial) ?_
      refine ⟨_, Wk.refl _ _, ?_⟩
      show awp _ _ _ _ _ _ _
      refine awp_seq ?_
      refine awp_regs hF ?_
      refine dv (gyes_none rfl) (q_mv (v := .int .i64 ((n + ((seli X Y i).length) : Nat) : Int)) rfl) rfl (by decide) (cok1 trivial) ?_
      refine dv (gyes_none rfl) (OpQ.cast (v' := .bool false) (q_int rfl rfl rfl) (congrArg Value.bool (decide_eq_false (by omega)))) rfl (by decide) (cok2 trivial (cconst rfl)) ?_
      refine ⟨_, Wk.refl _ _, ?_⟩
      show awp _ _ _ _ _ _ _
      refine awp_cond_f rfl ?_
      refine awp_skip_wk ?_
      refine ⟨_, Wk.refl _ _, ?_⟩
      show awp _ _ _ _ _ _ _
      refine awp_regs hF ?_
      refine dv (gyes_none rfl) (OpQ.cast (v' := .int .i64 ((i + 1 : Nat) : Int)) (q_int rfl rfl rfl) (congrArg _ ((i64_in (by omega)).trans (by first | rfl | omega | (push_cast; rfl))))) rfl (by decide) (cok2 trivial (cconst rfl)) ?_
      refine dv (gyes_none rfl) (q_mv (v := .int .i64 ((i + 1 : Nat) : Int)) rfl) rfl (by decide) (cok1 trivial) ?_
      refine ⟨_, Wk.U [(0, .slice (some ⟨ba, 0, none⟩) 2 2), (3, .int .i64 (((n + (seli X Y i).length) : Nat) : Int)), (9, .slice (some ⟨ba, 0, none⟩) 2 2), (10, .int .i64 2), (11, .int .i64 (((i + 1) : Nat) : Int))] ⟨rfl, rfl, rfl, rfl, rfl, trivial⟩, ((i + 1), (n + (seli X Y i).length)), ⟨_, rfl, s2, ⟨by dsimp only; omega, by dsimp only; rw [hi.2]; exact sumi_succ (by omega)⟩⟩, (by omega)⟩
    ·
      replace c1 := of_decide_eq_false c1
      refine ⟨_, Wk.refl _ _, ?_⟩
      show awp _ _ _ _ _ _ _
      refine awp_seq ?_
      refine awp_cond_f rfl ?_
      refine awp_exit_wk ?_
      refine ⟨_, Wk.refl _ _, ?_⟩
      show awp _ _ _ _ _ _ _
      refine awp_seq ?_
      refine awp_regs hF ?_
      refine dv (gyes_none rfl) (q_mv (v := .int .i64 ((n : Nat) : Int)) rfl) rfl (by decide) (cok1 trivial) ?_
      refine x_call [] hF (by kernel_rfl) (gyes_none rfl) Try.call50 rfl (args := [.slice none 0 0, .int .i64 ((n : Nat) : Int)]) rfl (grow_ok n (by omega)) (show _ < _ by decide) (call_ok rfl) rfl rfl (fun _ _ _ _ hd => by cases hd) ?_
      rintro _ H4 ⟨b3, rfl, hk5, hb6, hg7⟩
      have s8 := s2.callN hk5 hb6 hg7
      refine ⟨trivial, ?_⟩
      show dList _ _ _ _ _ _ _ _ _ _
      refine dv (gyes_none rfl) (q_as (v := .slice (some ⟨b3, 0, none⟩) 0 0) rfl) rfl (by decide) (cok1 trivial) ?_
      refine ⟨_, Wk.refl _ _, ?_⟩
      show awp _ _ _ _ _ _ _
      refine awp_seq ?_
      refine awp_seq ?_
      refine awp_regs hF ?_
      refine dv (gyes_none rfl) (q_mv (v := .slice (some ⟨ba, 0, none⟩) 2 2) rfl) rfl (by decide) (cok1 trivial) ?_
      refine dv (gyes_none rfl) (q_len_slice Try.underlying94 rfl (s8.zrd hR)) rfl (by decide) (cok1 trivial) ?_
      refine dv (gyes_none rfl) (q_mv (v := .int .i64 0) rfl) rfl (by decide) (cok1 (cconst rfl)) ?_
      refine ⟨_, Wk.refl _ _, ?_⟩
      show awp _ _ _ _ _ _ _
      refine awp_block ?_
      refine awp_wk (Wk.U [(0, .slice (some ⟨ba, 0, none⟩) 2 2), (6, .slice (some ⟨b3, 0, none⟩) 0 0), (25, .slice (some ⟨ba, 0, none⟩) 2 2), (26, .int .i64 2), (27, .int .i64 0)] ⟨rfl, rfl, rfl, rfl, rfl, trivial⟩) ?_
      refine awp_loop (fun ((i, l, m) : Nat × (List Nat) × Nat) st => ∃ (H9 : AHeap) (b9 : Nat), st = ⟨36, U [(0, .slice (some ⟨ba, 0, none⟩) 2 2), (6, .slice (some ⟨b9, 0, none⟩) m m), (25, .slice (some ⟨ba, 0, none⟩) 2 2), (26, .int .i64 2), (27, .int .i64 ((i : Nat) : Int))], [], H9⟩ ∧ St H0 (none0) (Rd H0) H9 [(b9, .cells true (l.map u32v) 1)] ∧ (i ≤ 2 ∧ l = (X ++ Y).take (sumi X Y i) ∧ m = l.length)) (fun ((i, l, m) : Nat × (List Nat) × Nat) => 2 - i) (x0 := (0, ([] : List Nat), 0)) ?h0 ?round
      case h0 =>
        exact ⟨_, _, rfl, s8, ⟨by omega, rfl, rfl⟩⟩
      case round =>
        rintro ⟨i, l, m⟩ _ ⟨H9, b9, rfl, s10, hl⟩
        dsimp only at *
        have hll : l.length ≤ 2000 := by rw [hl.2.1, List.length_take, List.length_append]; omega
        have hsj : SlZ u32v (Rd H0) (seli va vb i) (seli X Y i) := seli_sl ha hb i
        have hse : (seli X Y i).length ≤ 1000 := by unfold seli; split <;> assumption
        refine awp_seq ?_
        refine awp_regs hF ?_
        refine dvb (gyes_none rfl) (q_int rfl rfl rfl) rfl (by decide) (cok2 trivial trivial) (fun c2 => ?_) (fun c2 => ?_)
        ·
          replace c2 := of_decide_eq_true c2
          refine ⟨_, Wk.refl _ _, ?_⟩
          show awp _ _ _ _ _ _ _
          refine awp_seq ?_
          refine awp_cond_t rfl ?_
          refine awp_skip_wk ?_
          refine ⟨_, Wk.refl _ _, ?_⟩
          show awp _ _ _ _ _ _ _
          refine awp_seq ?_
          refine awp_block ?_
          refine awp_seq ?_
          refine awp_regs hF ?_
          refine dv (gyes_none rfl) (OpQ.cast (v' := .pointer (some ⟨ba, i, none⟩)) (q_index1 (i := i) Try.underlying94 Try.sizeOf29 rfl rfl (by omega) (s10.zrd hR)) (by rw [Nat.zero_add])) rfl (by decide) (cok2 trivial trivial) ?_
          refine dv (gyes_none rfl) (q_load (v := seli va vb i) Try.isAgg29 rfl (s10.zrd hR) (by rcases (show i = 0 ∨ i = 1 by omega) with rfl | rfl <;> rfl)) rfl (by decide) (cok1 trivial) ?_
          refine dv (gyes_none rfl) (q_as (v := (seli va vb i)) rfl) rfl (by decide) (cok1 trivial) ?_
          refine ⟨_, Wk.refl _ _, ?_⟩
          show awp _ _ _ _ _ _ _
          refine awp_regs hF ?_
          refine dv (gyes_none rfl) (q_mv (v := .slice (some ⟨b9, 0, none⟩) m m) rfl) rfl (by decide) (cok1 trivial) ?_
          refine dv (gyes_none rfl) (q_mv (v := (seli va vb i)) rfl) rfl (by decide) (cok1 trivial) ?_
          refine x_append (l := (seli X Y i)) (f := u32v) [] hF s10 (by kernel_rfl) (j := 0) (m + (seli X Y i).length) rfl (gyes_none rfl) Try.underlying29 Try.underlying29 Try.type27 rfl rfl (by decide) rfl rfl rfl rfl (s10.sl hsj) (fun x => lc_scalar rfl) (by rw [List.length_map, hl.2.2, Nat.zero_add]) (by show (2 * (m + (seli X Y i).length) + 1000) * 4 ≤ _; omega) trivial trivial (by decide) rfl rfl (vs' := (l ++ seli X Y i).map u32v) (by simp) (fun b11 H12 hb14 s13 => ⟨?_, ?_⟩)
          · exact trivial
          refine dv (gyes_none rfl) (q_as (v := .slice (some ⟨b11, 0, none⟩) (m + (seli X Y i).length) (m + (seli X Y i).length)) rfl) rfl (by decide) (cok1 trivial) ?_
          refine ⟨_, Wk.refl _ _, ?_⟩
          show awp _ _ _ _ _ _ _
          refine awp_regs hF ?_
          refine dv (gyes_none rfl) (OpQ.cast (v' := .int .i64 ((i + 1 : Nat) : Int)) (q_int rfl rfl rfl) (congrArg _ ((i64_in (by omega)).trans (by first | rfl | omega | (push_cast; rfl))))) rfl (by decide) (cok2 trivial (cconst rfl)) ?_
          refine dv (gyes_none rfl) (q_mv (v := .int .i64 ((i + 1 : Nat) : Int)) rfl) rfl (by decide) (cok1 trivial) ?_
          refine ⟨_, Wk.U [(0, .slice (some ⟨ba, 0, none⟩) 2 2), (6, .slice (some ⟨b11, 0, none⟩) (m + (seli X Y i).length) (m + (seli X Y i).length)), (25, .slice (some ⟨ba, 0, none⟩) 2 2), (26, .int .i64 2), (27, .int .i64 (((i + 1) : Nat) : Int))] ⟨rfl, rfl, rfl, rfl, rfl, trivial⟩, ((i + 1), (l ++ seli X Y i), (m + (seli X Y i).length)), ⟨_, _, rfl, s13, ⟨by dsimp only; omega, by dsimp only; rw [hl.2.1]; exact cat_succ (by omega), by dsimp only; rw [List.length_append, hl.2.2]⟩⟩, (by omega)⟩
        ·
          replace c2 := of_decide_eq_false c2
          refine ⟨_, Wk.refl _ _, ?_⟩
          show awp _ _ _ _ _ _ _
          refine awp_seq ?_
          refine awp_cond_f rfl ?_
          refine awp_exit_wk ?_
          refine ⟨_, Wk.refl _ _, ?_⟩
          show awp _ _ _ _ _ _ _
          refine awp_seq ?_
          refine awp_regs hF ?_
          refine dv (gyes_none rfl) (q_mv (v := .slice (some ⟨b9, 0, none⟩) m m) rfl) rfl (by decide) (cok1 trivial) ?_
          refine dv (gyes_none rfl) (q_as (v := .slice (some ⟨b9, 0, none⟩) m m) rfl) rfl (by decide) (cok1 trivial) ?_
          refine ⟨_, Wk.refl _ _, ?_⟩
          show awp _ _ _ _ _ _ _
          refine awp_ret_wk ?_
          have he : l = X ++ Y := by rw [hl.2.1, show i = 2 by omega]; exact List.take_of_length_le (by rw [List.length_append]; exact Nat.le_refl _)
          refine ⟨_, Wk.refl _ _, ?_⟩
          repeat (with_reducible first | refine then_ret ?_ | refine blk_ret ?_ | refine then_exit ?_ | refine blk_exit ?_ | refine blk_exit' (by decide) ?_ | refine blk_normal ?_ | refine then_normal ?_ | refine retq_ret ?_ | refine retq_normal ?_ | refine ng_normal ?_ | refine ng_ret ?_ | refine ng_exit ?_)
          refine ret_is (v := .slice (some ⟨b9, 0, none⟩) m m) rfl (.tmp rfl .nil) rfl ?_
          exact fresh_of (l := X ++ Y) s10 (j := 0) (by rw [← he]; rfl) (by rw [← he, hl.2.2])

end Go.Proofs.YtponfeigjmjbmaaA


/-
  An element of an array's value.
-/
namespace Go.Proofs.YtponfeigjmjbmaaA
set_option linter.unusedVariables false
open Go Go.RowKit Go.Shelf
section
variable {P : Program} {T : Nat → Value} {H : AHeap} {dst : Option Tmp} {ty : TypeId} {pos : String} {af : Array Edge} {g : Option (Nat × Bool)}
theorem q_indexA1 {t el : TypeId} {x y : Operand} {i len : Nat} {k : IntKind} {vs : Array Value} {v : Value} (hu : P.underlying t = some (.array len el)) (ha : ∀ w, (isAgg el).run P w = .ok false w) (hz : ∀ w, (sizeOf el).run P w = .ok 1 w)
    (hx : ev T x = .agg vs) (hy : ev T y = .int k (i : Nat)) (hi : i < len) (hv : vs[i]? = some v) : OpQ P ⟨dst, .index t x y, ty, pos, af, g⟩ T H v [] :=
  q_val (by simp) fun ρ e w hh he => by
    have h1 := he x (by simp [Op.operands])
    have hy1 := he y (by simp [Op.operands])
    rw [hx] at h1
    rw [hy] at hy1
    obtain ⟨vs', h2, h3, h4⟩ := vrel_agg h1
    have h8 := hy1.scalar_eq rfl
    have hi2 := (Array.getElem?_eq_some_iff.1 hv).1
    have h5 := h4 _ hi2
    rw [Array.getD_eq_getD_getElem?, hv, Option.getD_some, Array.getD_eq_getD_getElem?, Array.getElem?_eq_getElem (by omega : i < vs'.size), Option.getD_some] at h5
    refine ⟨_, run_v ?_, h5⟩
    show (Instr.index t (e x) (e y)).run P w = _
    rw [h2, h8]
    unfold Instr.index
    have h6 : (0 : Int) ≤ (i : Int) ∧ (i : Int) < (len : Int) := ⟨by omega, by omega⟩
    simp only [asIntOf, Sem.run_bind, Sem.run_pure, Result.andThen_ok, run_und hu]
    simp only [Int.toNat_natCast, if_pos h6, Sem.run_bind, hz w, Result.andThen_ok, part, asAgg, Sem.run_pure, ha w, Bool.false_eq_true, if_false, Nat.mul_one]
    rw [Array.getElem?_eq_getElem (by omega : i < vs'.size)]
    rfl
end
/-- Nil within a value. -/
theorem PS.agg {N : Nat} {vs2 vs : Array Value} (h : vs2.size = vs.size) (hi : ∀ i, i < vs2.size → PS N (vs2.getD i undef) (vs.getD i undef)) : PS N (.agg vs2) (.agg vs) := fun ρ v' hn hv => by
  obtain ⟨vs', rfl, h3, h4⟩ := vrel_agg hv
  exact .agg (h.trans h3) fun i hi' => hi i hi' ρ _ hn (h4 i (h ▸ hi'))
end Go.Proofs.YtponfeigjmjbmaaA


/-
  Method values, pointers against nil.
-/
namespace Go.Proofs.YtponfeigjmjbmaaA
set_option linter.unusedVariables false
open Go Go.RowKit Go.Shelf
section
variable {P : Program} {T : Nat → Value} {H : AHeap} {dst : Option Tmp} {ty : TypeId} {pos : String} {af : Array Edge} {g : Option (Nat × Bool)}
theorem q_ptrnil_f {t u : TypeId} {x y : Operand} {e : TypeId} {b o : Nat} (hu : P.underlying t = some (.pointer e)) (hx : ev T x = .pointer (some ⟨b, o, none⟩)) (hl : H[b]? ≠ some .dead) (hy : ev T y = .pointer none) :
    OpQ P ⟨dst, .binOp .eql t x y u, ty, pos, af, g⟩ T H (.bool false) [] :=
  q_val (by simp) fun ρ e w hh h => by
    have h1 := h x (by simp [Op.operands])
    have h2 := h y (by simp [Op.operands])
    rw [hx] at h1
    rw [hy] at h2
    obtain ⟨l, _, e1⟩ := vrel_ptr hh h1 hl
    have e2 := h2.scalar_eq rfl
    refine ⟨.bool false, ?_, .bool _⟩
    have he : (Op.equalIn Op.maxDepth t (.pointer (some ⟨l.blk, l.base + o, none⟩)) (.pointer none)).run P w = .ok false w := by
      show (Op.equalIn (9999 + 1) t _ _).run _ _ = _
      unfold Op.equalIn
      simp [go_sem, run_und hu]
    simp [execOp, e1, e2, eqGuard, binOp, Op.equal, he, go_sem]
theorem q_ptrnil_t {t u : TypeId} {x y : Operand} {e : TypeId} (hu : P.underlying t = some (.pointer e)) (hx : ev T x = .pointer none) (hy : ev T y = .pointer none) :
    OpQ P ⟨dst, .binOp .eql t x y u, ty, pos, af, g⟩ T H (.bool true) [] :=
  q_val (by simp) fun ρ e w hh h => by
    have h1 := h x (by simp [Op.operands])
    have h2 := h y (by simp [Op.operands])
    rw [hx] at h1
    rw [hy] at h2
    have e1 := h1.scalar_eq rfl
    have e2 := h2.scalar_eq rfl
    refine ⟨.bool true, ?_, .bool _⟩
    have he : (Op.equalIn Op.maxDepth t (.pointer none) (.pointer none)).run P w = .ok true w := by
      show (Op.equalIn (9999 + 1) t _ _).run _ _ = _
      unfold Op.equalIn
      simp [go_sem, run_und hu]
    simp [execOp, e1, e2, eqGuard, binOp, Op.equal, he, go_sem]
end
theorem SlS.cells {α : Type} [Inhabited α] {f : α → List Value} {m : Nat} {H : AHeap} {v : Value} {l : List α} (h : SlS f m H v l) : v.cells.toList = [v] := by
  rcases h with ⟨rfl, _⟩ | ⟨b, o, c, vs, rfl, _⟩ <;> rfl
end Go.Proofs.YtponfeigjmjbmaaA

