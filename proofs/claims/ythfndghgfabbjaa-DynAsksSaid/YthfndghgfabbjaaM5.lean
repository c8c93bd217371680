/-
  Walks over abstract states: texts of one claim, merged.
-/
import Derived.Test.YthfndghgfabbjaaM4
import Derived.Test.YthfndghgfabbjaaProg
import Derived.KernelRfl
import Derived.Test.YthfndghgfabbjaaStrCut
/-
  Walks of functions of the given program, and what they compute.
-/
namespace Go.Proofs.YthfndghgfabbjaaA
set_option linter.unusedVariables false
open Go Go.RowKit Go.Shelf Go.Proofs
theorem bl_fileP {B : ByteArray} {x : Sg} {f n : Nat} (h : x.2.2.1 + x.2.2.2.2.1 ≤ B.size) : bl (fileP B x f n) = (((bl B).drop x.2.2.1).drop f).take (min (f + n) x.2.2.2.2.1 - f) := by
  unfold fileP
  rw [partV_in h, bl_extract, bl_extract, show x.2.2.1 + x.2.2.2.2.1 - x.2.2.1 = x.2.2.2.2.1 by omega, List.drop_take, List.take_take]
  by_cases hf : f ≤ x.2.2.2.2.1
  · rw [show min f x.2.2.2.2.1 = f by omega]; congr 1; omega
  · rw [show min (min (f + n) x.2.2.2.2.1 - min f x.2.2.2.2.1) (x.2.2.2.2.1 - min f x.2.2.2.2.1) = 0 by omega, show min (f + n) x.2.2.2.2.1 - f = 0 by omega]; rfl
theorem fileP_size {B : ByteArray} {x : Sg} {f n : Nat} (h : x.2.2.1 + x.2.2.2.2.1 ≤ B.size) : (fileP B x f n).size = min (f + n) x.2.2.2.2.1 - min f x.2.2.2.2.1 := by
  unfold fileP
  rw [size_extract (by rw [partV_full h]; omega)]
theorem bl_zerosB (n : Nat) : bl (zerosB n) = List.replicate n (0 : UInt8) := by simp [zerosB, bl, bytesOf]
theorem segB_zero {B : ByteArray} {x : Sg} {a : Nat} (h : x.2.2.1 + x.2.2.2.2.1 ≤ B.size) : segB B x a 0 = ⟨#[]⟩ := by
  refine bl_inj ?_
  unfold segB
  rw [bl_append, bl_fileP h, bl_zerosB, show min (a - x.2.2.2.1 + 0) x.2.2.2.2.1 - (a - x.2.2.2.1) = 0 by omega, Nat.zero_sub]
  rfl
theorem segB_size {B : ByteArray} {x : Sg} {a n : Nat} (h : x.2.2.1 + x.2.2.2.2.1 ≤ B.size) : (segB B x a n).size = n := by
  unfold segB
  have := fileP_le (f := a - x.2.2.2.1) (n := n) h
  rw [size_append, zerosB_size]; omega
theorem segB_in {B : ByteArray} {x : Sg} {a k : Nat} (hA : x.2.2.2.1 ≤ a) (h : x.2.2.1 + x.2.2.2.2.1 ≤ B.size) (hk : a + k - x.2.2.2.1 < x.2.2.2.2.1) : segB B x a (k + 1) = segB B x a k ++ B.extract (x.2.2.1 + (a + k - x.2.2.2.1)) (x.2.2.1 + (a + k - x.2.2.2.1) + 1) := by
  refine bl_inj ?_
  unfold segB
  have h1 := fileP_size (f := a - x.2.2.2.1) (n := k) h
  have h2 := fileP_size (f := a - x.2.2.2.1) (n := k + 1) h
  rw [bl_append, bl_append, bl_append, bl_fileP h, bl_fileP h, bl_zerosB, bl_zerosB, show k - (fileP B x (a - x.2.2.2.1) k).size = 0 by omega, show k + 1 - (fileP B x (a - x.2.2.2.1) (k + 1)).size = 0 by omega, bl_extract]
  rw [show min (a - x.2.2.2.1 + k) x.2.2.2.2.1 - (a - x.2.2.2.1) = k by omega, show min (a - x.2.2.2.1 + (k + 1)) x.2.2.2.2.1 - (a - x.2.2.2.1) = k + 1 by omega, show x.2.2.1 + (a + k - x.2.2.2.1) + 1 - (x.2.2.1 + (a + k - x.2.2.2.1)) = 1 by omega, List.drop_drop]
  simp only [List.replicate_zero, List.append_nil]
  rw [List.take_add, List.drop_drop, show x.2.2.1 + (a - x.2.2.2.1) + k = x.2.2.1 + (a + k - x.2.2.2.1) by omega]
theorem segB_out {B : ByteArray} {x : Sg} {a k : Nat} (hA : x.2.2.2.1 ≤ a) (h : x.2.2.1 + x.2.2.2.2.1 ≤ B.size) (hk : ¬ a + k - x.2.2.2.1 < x.2.2.2.2.1) : segB B x a (k + 1) = segB B x a k ++ ⟨#[0]⟩ := by
  refine bl_inj ?_
  unfold segB
  have h1 := fileP_size (f := a - x.2.2.2.1) (n := k) h
  have h2 := fileP_size (f := a - x.2.2.2.1) (n := k + 1) h
  rw [bl_append, bl_append, bl_append, bl_fileP h, bl_fileP h, bl_zerosB, bl_zerosB, show k + 1 - (fileP B x (a - x.2.2.2.1) (k + 1)).size = (k - (fileP B x (a - x.2.2.2.1) k).size) + 1 by omega]
  rw [show min (a - x.2.2.2.1 + (k + 1)) x.2.2.2.2.1 - (a - x.2.2.2.1) = min (a - x.2.2.2.1 + k) x.2.2.2.2.1 - (a - x.2.2.2.1) by omega, List.replicate_succ', List.append_assoc]
  try rfl
def hdrB (e n : Nat) : ByteArray := magicB ++ zerosB 9 ++ putB 3 2 ++ putB 243 2 ++ putB 1 4 ++ putB e 8 ++ putB 64 8 ++ zerosB 12 ++ putB 64 2 ++ putB 56 2 ++ putB n 2 ++ zerosB 6
def segP (x : Sg) : ByteArray := putB x.1 4 ++ putB x.2.1 4 ++ putB x.2.2.1 8 ++ putB x.2.2.2.1 8 ++ zerosB 8 ++ putB x.2.2.2.2.1 8 ++ putB x.2.2.2.2.2 8 ++ zerosB 8
def packS (e : Nat) (l : List Sg) : Nat → ByteArray
  | 0 => hdrB e l.length
  | k + 1 => packS e l k ++ segP (nth l k)
def packD (e : Nat) (l : List Sg) (d : List ByteArray) : Nat → ByteArray
  | 0 => packS e l l.length
  | k + 1 => packD e l d k ++ nth d k
def packB (e : Nat) (l : List Sg) (d : List ByteArray) : ByteArray := packD e l d d.length
theorem hdrB_size (e n : Nat) : (hdrB e n).size = 64 := by unfold hdrB; simp only [size_append, putB_size, zerosB_size]; rfl
theorem segP_size (x : Sg) : (segP x).size = 56 := by unfold segP; simp only [size_append, putB_size, zerosB_size]
theorem packS_size (e : Nat) (l : List Sg) : ∀ k, (packS e l k).size = 64 + 56 * k
  | 0 => by rw [packS, hdrB_size]
  | k + 1 => by rw [packS, size_append, packS_size e l k, segP_size]; omega
theorem packD_size (e : Nat) (l : List Sg) (d : List ByteArray) {m : Nat} (hd : ∀ x ∈ d, x.size ≤ m) : ∀ k, k ≤ d.length → (packD e l d k).size ≤ 64 + 56 * l.length + k * m
  | 0, _ => by rw [packD, packS_size]; omega
  | k + 1, hk => by
    have h1 := packD_size e l d hd k (by omega)
    have h2 := hd _ (nthN_mem (l := d) (k := k) (by omega))
    rw [packD, size_append, Nat.add_mul]; omega
/-- All numbers of a segment fit into 8 bytes. -/
def SgW (x : Sg) : Prop := x.1 < 18446744073709551616 ∧ x.2.1 < 18446744073709551616 ∧ x.2.2.1 < 18446744073709551616 ∧ x.2.2.2.1 < 18446744073709551616 ∧ x.2.2.2.2.1 < 18446744073709551616 ∧ x.2.2.2.2.2 < 18446744073709551616
theorem putL_snoc (i : Nat) : ∀ n, putL n (i + 1) = putL n i ++ [UInt8.ofNat (n / 256 ^ i)] := by
  induction i with
  | zero => intro n; simp [putL]
  | succ i ih => intro n; rw [putL, ih, putL]; simp only [List.cons_append]; rw [Nat.div_div_eq_div_mul, ← Nat.pow_succ']
theorem putB_snoc (n i : Nat) : putB n (i + 1) = putB n i ++ bytesOf [UInt8.ofNat (n / 256 ^ i)] := bl_inj (by rw [bl_append, bl_putB, bl_putB, putL_snoc]; rfl)
set_option maxRecDepth 100000 in
set_option maxHeartbeats 4000000 in
theorem rput_ok {H0 : AHeap} (n k : Nat) (hn : n < 18446744073709551616) (h8 : k ≤ 8) : ACalls Try.prog 24 [.int .u64 ((n : Nat) : Int), .int .i64 ((k : Nat) : Int)] H0 (Rets (.string (putB n k)) H0) := by
  have hF : Wd Fence.wide := .inl rfl
  have hM : Try.prog.follows .mixedOrders = true := by kernel_rfl
  have s0 := St.begin H0
  refine acalls_st Try.func24 rfl Try.ntmps24 rfl ?_
  refine awp_seq ?_
  refine awp_regs hF ?_
  refine dv (gyes_none rfl) (q_as (v := .string (⟨#[]⟩ : ByteArray)) rfl) rfl (by decide) (cok1 (cconst rfl)) ?_
  refine ⟨_, Wk.refl _ _, ?_⟩
  show awp _ _ _ _ _ _ _
  refine awp_seq ?_
  refine awp_regs hF ?_
  refine dv (gyes_none rfl) (q_as (v := .string (⟨#[]⟩ : ByteArray)) rfl) rfl (by decide) (cok1 (cconst rfl)) ?_
  refine ⟨_, Wk.refl _ _, ?_⟩
  show awp _ _ _ _ _ _ _
  refine awp_seq ?_
  refine awp_seq ?_
  refine awp_regs hF ?_
  refine dv (gyes_none rfl) (q_as (v := .int .i64 0) rfl) rfl (by decide) (cok1 (cconst rfl)) ?_
  refine ⟨_, Wk.refl _ _, ?_⟩
  show awp _ _ _ _ _ _ _
  refine awp_block ?_
  refine awp_wk (Wk.U [(0, .int .u64 ((n : Nat) : Int)), (1, .int .i64 ((k : Nat) : Int)), (5, .string (⟨#[]⟩ : ByteArray)), (6, .int .i64 0)] ⟨rfl, rfl, rfl, rfl, trivial⟩) ?_
  refine awp_loop (fun ((i, m, o) : Nat × Nat × ByteArray) st => ∃ (H1 : AHeap), st = ⟨26, U [(0, .int .u64 ((m : Nat) : Int)), (1, .int .i64 ((k : Nat) : Int)), (5, .string o), (6, .int .i64 ((i : Nat) : Int))], [], H1⟩ ∧ St H0 (none0) (Rd H0) H1 [] ∧ (i ≤ k ∧ o = putB n i ∧ m = n / 256 ^ i)) (fun ((i, m, o) : Nat × Nat × ByteArray) => k - i) (x0 := (0, n, (⟨#[]⟩ : ByteArray))) ?h0 ?round
  case h0 =>
    exact ⟨_, rfl, s0, ⟨Nat.zero_le _, rfl, by simp⟩⟩
  case round =>
    rintro ⟨i, m, o⟩ _ ⟨H1, rfl, s2, ho⟩
    dsimp only at *
    have hmn : m < 18446744073709551616 := by rw [ho.2.2]; exact Nat.lt_of_le_of_lt (Nat.div_le_self _ _) hn
    have hos : o.size ≤ 8 := by rw [ho.2.1, putB_size]; omega
    refine awp_seq ?_
    refine awp_seq ?_
    refine awp_regs hF ?_
    refine dv (gyes_none rfl) (q_mv (v := .int .i64 ((i : Nat) : Int)) rfl) rfl (by decide) (cok1 trivial) ?_
    refine dv (gyes_none rfl) (q_mv (v := .int .i64 ((k : Nat) : Int)) rfl) rfl (by decide) (cok1 trivial) ?_
    refine dvb (gyes_none rfl) (q_int rfl rfl rfl) rfl (by decide) (cok2 trivial trivial) (fun c1 => ?_) (fun c1 => ?_)
    ·
      replace c1 := of_decide_eq_true c1
      refine dv (gyes_none rfl) (q_mv (v := .bool true) rfl) rfl (by decide) (cok1 trivial) ?_
      refine dv (gyes_some rfl rfl) (q_mv (v := .int .i64 ((k : Nat) : Int)) rfl) rfl (by decide) (cok1 trivial) ?_
      refine dv (gyes_some rfl rfl) (OpQ.cast (v' := .bool true) (q_int rfl rfl rfl) (congrArg Value.bool (decide_eq_true (by omega)))) rfl (by decide) (cok2 trivial (cconst rfl)) ?_
      refine dv (gyes_none rfl) (q_pt (v := .bool true) rfl rfl) rfl (by decide) (call_ok rfl) ?_
      refine ⟨_, Wk.refl _ _, ?_⟩
      show awp _ _ _ _ _ _ _
      refine awp_cond_t rfl ?_
      refine awp_skip_wk ?_
      refine ⟨_, Wk.refl _ _, ?_⟩
      show awp _ _ _ _ _ _ _
      refine awp_seq ?_
      refine awp_block ?_
      refine awp_seq ?_
      refine awp_regs hF ?_
      refine dv (gyes_none rfl) (q_mv (v := .string o) rfl) rfl (by decide) (cok1 trivial) ?_
      refine dv (gyes_none rfl) (q_mv (v := .int .u64 ((m : Nat) : Int)) rfl) rfl (by decide) (cok1 trivial) ?_
      refine dv (gyes_none rfl) (q_remM (a := m) (b := 256) rfl rfl (by first | decide | omega)) rfl (by decide) (cok2 trivial (cconst rfl)) ?_
      refine dv (gyes_none rfl) (q_convin (a := ((m % 256 : Nat) : Int)) Try.underlying25 Try.underlying5 rfl (u8_in (by omega))) rfl (by decide) (cok1 trivial) ?_
      refine x_new (fun b => .slice (some ⟨b, 0, none⟩) 1 1) s2 (gyes_none rfl) (q_buildSliceL (ds := [.int .u8 ((m % 256 : Nat) : Int)]) [.int .u8 ((m % 256 : Nat) : Int)] rfl Try.underlying65 Try.sizeOf5 Try.zeroValue5 rfl (by decide) (by decide) ⟨rfl, trivial⟩ (lvsC (by exact trivial) lvs0) rfl rfl) rfl (by decide) (cok1 trivial) (fun b3 H4 hb6 s5 => ?_)
      refine dv (gyes_none rfl) (q_bytesl (l := [UInt8.ofNat m]) Try.underlying65 Try.underlying9 Try.underlying5 rfl (s5.rd (j := 0) rfl) rfl) rfl (by decide) (cok1 trivial) ?_
      refine dv (gyes_none rfl) (q_cat rfl rfl (by show _ + 1 ≤ _; omega)) rfl (by decide) (cok2 trivial trivial) ?_
      refine dv (gyes_none rfl) (q_as (v := .string (o ++ (bytesOf [UInt8.ofNat m]))) rfl) rfl (by decide) (cok1 trivial) ?_
      refine ⟨_, Wk.refl _ _, ?_⟩
      show awp _ _ _ _ _ _ _
      refine awp_regs hF ?_
      refine dv (gyes_none rfl) (q_mv (v := .int .u64 ((m : Nat) : Int)) rfl) rfl (by decide) (cok1 trivial) ?_
      refine dv (gyes_none rfl) (q_quoM (a := m) (b := 256) rfl rfl (by first | decide | omega) (u64_in (by have := div_le_of (a := m) (b := 256) (M := 18446744073709551615) (by omega); omega))) rfl (by decide) (cok2 trivial (cconst rfl)) ?_
      refine dv (gyes_none rfl) (q_as (v := .int .u64 ((m / 256 : Nat) : Int)) rfl) rfl (by decide) (cok1 trivial) ?_
      refine ⟨_, Wk.refl _ _, ?_⟩
      show awp _ _ _ _ _ _ _
      refine awp_regs hF ?_
      refine dv (gyes_none rfl) (q_mv (v := .int .i64 ((i : Nat) : Int)) rfl) rfl (by decide) (cok1 trivial) ?_
      refine dv (gyes_none rfl) (OpQ.cast (v' := .int .i64 ((i + 1 : Nat) : Int)) (q_int rfl rfl rfl) (congrArg _ ((i64_in (by omega)).trans (by first | rfl | omega | (push_cast; rfl))))) rfl (by decide) (cok2 trivial (cconst rfl)) ?_
      refine dv (gyes_none rfl) (q_as (v := .int .i64 ((i + 1 : Nat) : Int)) rfl) rfl (by decide) (cok1 trivial) ?_
      refine ⟨_, Wk.U [(0, .int .u64 (((m / 256) : Nat) : Int)), (1, .int .i64 ((k : Nat) : Int)), (5, .string (o ++ (bytesOf [UInt8.ofNat m]))), (6, .int .i64 (((i + 1) : Nat) : Int))] ⟨rfl, rfl, rfl, rfl, trivial⟩, ((i + 1), (m / 256), (o ++ (bytesOf [UInt8.ofNat m]))), ⟨_, rfl, (s5.sub (.cons _ (.refl _))), ⟨by omega, by dsimp only; rw [putB_snoc, ← ho.2.1, ← ho.2.2], by dsimp only; rw [ho.2.2, Nat.div_div_eq_div_mul, ← Nat.pow_succ]⟩⟩, (by omega)⟩
    ·
      replace c1 := of_decide_eq_false c1
      refine dv (gyes_none rfl) (q_mv (v := .bool false) rfl) rfl (by decide) (cok1 trivial) ?_
      refine dno rfl (.inl rfl) rfl (by decide) ?_
      refine dno rfl (.inl rfl) rfl (by decide) ?_
      refine dv (gyes_none rfl) (q_pf (v := .bool false) rfl rfl) rfl (by decide) (call_ok rfl) ?_
      refine ⟨_, Wk.refl _ _, ?_⟩
      show awp _ _ _ _ _ _ _
      refine awp_cond_f rfl ?_
      refine awp_exit_wk ?_
      refine ⟨_, Wk.refl _ _, ?_⟩
      show awp _ _ _ _ _ _ _
      refine awp_seq ?_
      refine awp_regs hF ?_
      refine dv (gyes_none rfl) (q_mv (v := .string o) rfl) rfl (by decide) (cok1 trivial) ?_
      refine dv (gyes_none rfl) (q_as (v := .string o) rfl) rfl (by decide) (cok1 trivial) ?_
      refine ⟨_, Wk.refl _ _, ?_⟩
      show awp _ _ _ _ _ _ _
      refine awp_ret_wk ?_
      refine ⟨_, Wk.refl _ _, ?_⟩
      repeat (with_reducible first | refine then_ret ?_ | refine blk_ret ?_ | refine then_exit ?_ | refine blk_exit ?_ | refine blk_exit' (by decide) ?_ | refine blk_normal ?_ | refine then_normal ?_ | refine retq_ret ?_ | refine retq_normal ?_ | refine ng_normal ?_ | refine ng_ret ?_ | refine ng_exit ?_)
      exact ret_none (v := .string o) rfl s2.kp (.tmp rfl .nil) rfl rfl ⟨by rw [ho.2.1, show i = k by omega], rfl⟩
set_option maxRecDepth 100000 in
set_option maxHeartbeats 4000000 in
theorem rbytes_ok {H0 : AHeap} (s : ByteArray) (hs : s.size ≤ 140737488355328) (vR : Value) (l : List Sg) (hL : SlS segr 6 H0 vR l) (hl : l.length ≤ 1000000) (hlow : LowL l) (hinb : InB s l) (a n : Nat) (ha : a < 18446744073709551616) (hn : n < 18446744073709551616) : ACalls Try.prog 38 [.string s, vR, .int .u64 ((a : Nat) : Int), .int .u64 ((n : Nat) : Int)] H0 (Rets (.tuple #[.string (imgAt s l a n).1, .bool (imgAt s l a n).2]) H0) := by
  have hF : Wd Fence.wide := .inl rfl
  have hM : Try.prog.follows .mixedOrders = true := by kernel_rfl
  have s0 := St.begin H0
  refine acalls_st Try.func38 rfl Try.ntmps38 rfl ?_
  refine awp_seq ?_
  refine awp_regs hF ?_
  refine dv (gyes_none rfl) (q_as (v := .string (⟨#[]⟩ : ByteArray)) rfl) rfl (by decide) (cok1 (cconst rfl)) ?_
  refine dv (gyes_none rfl) (q_as (v := .bool false) rfl) rfl (by decide) (cok1 (cconst rfl)) ?_
  refine ⟨_, Wk.refl _ _, ?_⟩
  show awp _ _ _ _ _ _ _
  refine awp_seq ?_
  refine awp_seq ?_
  refine awp_regs hF ?_
  refine dv (gyes_none rfl) (q_as (v := .int .i64 0) rfl) rfl (by decide) (cok1 (cconst rfl)) ?_
  refine ⟨_, Wk.refl _ _, ?_⟩
  show awp _ _ _ _ _ _ _
  refine awp_block ?_
  refine awp_wk (Wk.U [(0, .string s), (1, vR), (2, .int .u64 ((a : Nat) : Int)), (3, .int .u64 ((n : Nat) : Int)), (10, .int .i64 0)] ⟨rfl, rfl, rfl, rfl, rfl, trivial⟩) ?_
  refine awp_loop (fun (i : Nat) st => ∃ (H1 : AHeap), st = ⟨87, U [(0, .string s), (1, vR), (2, .int .u64 ((a : Nat) : Int)), (3, .int .u64 ((n : Nat) : Int)), (10, .int .i64 ((i : Nat) : Int))], [], H1⟩ ∧ St H0 (none0) (Rd H0) H1 [] ∧ (∀ j, j < i → pB a n (nth l j) = false)) (fun (i : Nat) => l.length - i) (x0 := (0)) ?h0 ?round
  case h0 =>
    exact ⟨_, rfl, s0, fun j h => absurd h (Nat.not_lt_zero _)⟩
  case round =>
    rintro i _ ⟨H1, rfl, s2, hq⟩
    refine awp_seq ?_
    refine awp_seq ?_
    refine awp_regs hF ?_
    refine dv (gyes_none rfl) (q_mv (v := .int .i64 ((i : Nat) : Int)) rfl) rfl (by decide) (cok1 trivial) ?_
    refine dv (gyes_none rfl) (q_mv (v := vR) rfl) rfl (by decide) (cok1 trivial) ?_
    refine dv (gyes_none rfl) (q_len_sls (l := l) Try.underlying39 (s2.sls hL) rfl) rfl (by decide) (cok1 trivial) ?_
    refine dvb (gyes_none rfl) (q_int rfl rfl rfl) rfl (by decide) (cok2 trivial trivial) (fun c1 => ?_) (fun c1 => ?_)
    ·
      replace c1 := of_decide_eq_true c1
      have hlw := hlow _ (nthN_mem (l := l) (k := i) (by omega))
      have hin := hinb _ (nthN_mem (l := l) (k := i) (by omega))
      refine ⟨_, Wk.refl _ _, ?_⟩
      show awp _ _ _ _ _ _ _
      refine awp_cond_t rfl ?_
      refine awp_skip_wk ?_
      refine ⟨_, Wk.refl _ _, ?_⟩
      show awp _ _ _ _ _ _ _
      refine awp_seq ?_
      refine awp_block ?_
      refine awp_seq ?_
      refine awp_regs hF ?_
      refine dv (gyes_none rfl) (q_mv (v := vR) rfl) rfl (by decide) (cok1 trivial) ?_
      refine dv (gyes_none rfl) (q_mv (v := .int .i64 ((i : Nat) : Int)) rfl) rfl (by decide) (cok1 trivial) ?_
      refine dv (gyes_none rfl) (q_index_sls (l := l) (i := i) Try.underlying39 Try.sizeOf67 (s2.sls hL) segr_w rfl rfl (by omega)) rfl (by decide) (cok2 trivial trivial) ?_
      refine dv (gyes_none rfl) (q_loadA_sls (l := l) (i := i) Try.isAgg67 Try.sizeOf67 (s2.sls hL) segr_w rfl (by omega)) rfl (by decide) (cok1 trivial) ?_
      refine x_new (fun b => .pointer (some ⟨b, 0, none⟩)) s2 (gyes_none rfl) (q_alloc (vs := [.int .u64 0, .int .u64 0, .int .u64 0, .int .u64 0, .int .u64 0, .int .u64 0]) 6 Try.zeroValue67 (by first | exact flat_scalar rfl | exact flat_agg rfl) rfl) rfl (by decide) (by simp [Op.operands, Call.operands]) (fun b3 H4 hb6 s5 => ?_)
      refine x_store [] hF s5 (by kernel_rfl) (gyes_none rfl) (j := 0) (v := .agg #[.int .u64 (((nth l i).1 : Nat) : Int), .int .u64 (((nth l i).2.1 : Nat) : Int), .int .u64 (((nth l i).2.2.1 : Nat) : Int), .int .u64 (((nth l i).2.2.2.1 : Nat) : Int), .int .u64 (((nth l i).2.2.2.2.1 : Nat) : Int), .int .u64 (((nth l i).2.2.2.2.2 : Nat) : Int)]) rfl Try.sizeOf67 rfl rfl rfl rfl rfl trivial (lcsA ⟨(lc_scalar rfl), (lc_scalar rfl), (lc_scalar rfl), (lc_scalar rfl), (lc_scalar rfl), (lc_scalar rfl), trivial⟩) (Nat.le_of_ble_eq_true rfl) trivial trivial rfl rfl (F' := [(b3, .cells true [.int .u64 (((nth l i).1 : Nat) : Int), .int .u64 (((nth l i).2.1 : Nat) : Int), .int .u64 (((nth l i).2.2.1 : Nat) : Int), .int .u64 (((nth l i).2.2.2.1 : Nat) : Int), .int .u64 (((nth l i).2.2.2.2.1 : Nat) : Int), .int .u64 (((nth l i).2.2.2.2.2 : Nat) : Int)] 6)]) rfl (fun H7 s8 => ⟨?_, ?_⟩)
      · exact trivial
      refine ⟨_, Wk.refl _ _, ?_⟩
      show awp _ _ _ _ _ _ _
      refine awp_seq ?_
      refine awp_seq ?_
      refine awp_regs hF ?_
      refine dv (gyes_none rfl) (q_field Try.underlying67 rfl Try.sizeOf25 rfl (s8.rd (j := 0) rfl)) rfl (by decide) (cok1 trivial) ?_
      refine dv (gyes_none rfl) (q_load (v := .int .u64 (((nth l i).1 : Nat) : Int)) Try.isAgg25 rfl (s8.rd (j := 0) rfl) rfl) rfl (by decide) (cok1 trivial) ?_
      refine dvb (gyes_none rfl) (q_int rfl rfl rfl) rfl (by decide) (cok2 trivial (cconst rfl)) (fun c2 => ?_) (fun c2 => ?_)
      ·
        replace c2 := bne_iff_ne.1 c2
        refine dv (gyes_none rfl) (q_mv (v := .bool true) rfl) rfl (by decide) (cok1 trivial) ?_
        refine dno rfl (.inl rfl) rfl (by decide) ?_
        refine dno rfl (.inl rfl) rfl (by decide) ?_
        refine dno rfl (.inl rfl) rfl (by decide) ?_
        refine dno rfl (.inl rfl) rfl (by decide) ?_
        refine dv (gyes_none rfl) (q_pt (v := .bool true) rfl rfl) rfl (by decide) (call_ok rfl) ?_
        refine dv (gyes_none rfl) (q_mv (v := .bool true) rfl) rfl (by decide) (cok1 trivial) ?_
        refine dno rfl (.inl rfl) rfl (by decide) ?_
        refine dno rfl (.inl rfl) rfl (by decide) ?_
        refine dno rfl (.inl rfl) rfl (by decide) ?_
        refine dno rfl (.inl rfl) rfl (by decide) ?_
        refine dno rfl (.inl rfl) rfl (by decide) ?_
        refine dno rfl (.inl rfl) rfl (by decide) ?_
        refine dno rfl (.inl rfl) rfl (by decide) ?_
        refine dv (gyes_none rfl) (q_pt (v := .bool true) rfl rfl) rfl (by decide) (call_ok rfl) ?_
        refine dv (gyes_none rfl) (q_mv (v := .bool true) rfl) rfl (by decide) (cok1 trivial) ?_
        refine dno rfl (.inl rfl) rfl (by decide) ?_
        refine dno rfl (.inl rfl) rfl (by decide) ?_
        refine dno rfl (.inl rfl) rfl (by decide) ?_
        refine dno rfl (.inl rfl) rfl (by decide) ?_
        refine dno rfl (.inl rfl) rfl (by decide) ?_
        refine dno rfl (.inl rfl) rfl (by decide) ?_
        refine dno rfl (.inl rfl) rfl (by decide) ?_
        refine dno rfl (.inl rfl) rfl (by decide) ?_
        refine dno rfl (.inl rfl) rfl (by decide) ?_
        refine dv (gyes_none rfl) (q_pt (v := .bool true) rfl rfl) rfl (by decide) (call_ok rfl) ?_
        refine ⟨_, Wk.refl _ _, ?_⟩
        show awp _ _ _ _ _ _ _
        refine awp_cond_t rfl ?_
        refine awp_exit_wk ?_
        refine ⟨_, Wk.refl _ _, ?_⟩
        show awp _ _ _ _ _ _ _
        refine awp_regs hF ?_
        refine dv (gyes_none rfl) (q_mv (v := .int .i64 ((i : Nat) : Int)) rfl) rfl (by decide) (cok1 trivial) ?_
        refine dv (gyes_none rfl) (OpQ.cast (v' := .int .i64 ((i + 1 : Nat) : Int)) (q_int rfl rfl rfl) (congrArg _ ((i64_in (by omega)).trans (by first | rfl | omega | (push_cast; rfl))))) rfl (by decide) (cok2 trivial (cconst rfl)) ?_
        refine dv (gyes_none rfl) (q_as (v := .int .i64 ((i + 1 : Nat) : Int)) rfl) rfl (by decide) (cok1 trivial) ?_
        refine ⟨_, Wk.U [(0, .string s), (1, vR), (2, .int .u64 ((a : Nat) : Int)), (3, .int .u64 ((n : Nat) : Int)), (10, .int .i64 (((i + 1) : Nat) : Int))] ⟨rfl, rfl, rfl, rfl, rfl, trivial⟩, (i + 1), ⟨_, rfl, (s8.sub (.cons _ (.refl _))), (lt_succ_casesN hq (pB_no (by omega)))⟩, (by omega)⟩
      ·
        replace c2 := bne_eq_false_iff_eq.1 c2
        refine dv (gyes_none rfl) (q_mv (v := .bool false) rfl) rfl (by decide) (cok1 trivial) ?_
        refine dv (gyes_some rfl rfl) (q_mv (v := .int .u64 ((a : Nat) : Int)) rfl) rfl (by decide) (cok1 trivial) ?_
        refine dv (gyes_some rfl rfl) (q_field Try.underlying67 rfl Try.sizeOf25 rfl (s8.rd (j := 0) rfl)) rfl (by decide) (cok1 trivial) ?_
        refine dv (gyes_some rfl rfl) (q_load (v := .int .u64 (((nth l i).2.2.2.1 : Nat) : Int)) Try.isAgg25 rfl (s8.rd (j := 0) rfl) rfl) rfl (by decide) (cok1 trivial) ?_
        refine dvb (gyes_some rfl rfl) (q_int rfl rfl rfl) rfl (by decide) (cok2 trivial trivial) (fun c3 => ?_) (fun c3 => ?_)
        ·
          replace c3 := of_decide_eq_true c3
          refine dv (gyes_none rfl) (q_pf (v := .bool true) rfl rfl) rfl (by decide) (call_ok rfl) ?_
          refine dv (gyes_none rfl) (q_mv (v := .bool true) rfl) rfl (by decide) (cok1 trivial) ?_
          refine dno rfl (.inl rfl) rfl (by decide) ?_
          refine dno rfl (.inl rfl) rfl (by decide) ?_
          refine dno rfl (.inl rfl) rfl (by decide) ?_
          refine dno rfl (.inl rfl) rfl (by decide) ?_
          refine dno rfl (.inl rfl) rfl (by decide) ?_
          refine dno rfl (.inl rfl) rfl (by decide) ?_
          refine dno rfl (.inl rfl) rfl (by decide) ?_
          refine dv (gyes_none rfl) (q_pt (v := .bool true) rfl rfl) rfl (by decide) (call_ok rfl) ?_
          refine dv (gyes_none rfl) (q_mv (v := .bool true) rfl) rfl (by decide) (cok1 trivial) ?_
          refine dno rfl (.inl rfl) rfl (by decide) ?_
          refine dno rfl (.inl rfl) rfl (by decide) ?_
          refine dno rfl (.inl rfl) rfl (by decide) ?_
          refine dno rfl (.inl rfl) rfl (by decide) ?_
          refine dno rfl (.inl rfl) rfl (by decide) ?_
          refine dno rfl (.inl rfl) rfl (by decide) ?_
          refine dno rfl (.inl rfl) rfl (by decide) ?_
          refine dno rfl (.inl rfl) rfl (by decide) ?_
          refine dno rfl (.inl rfl) rfl (by decide) ?_
          refine dv (gyes_none rfl) (q_pt (v := .bool true) rfl rfl) rfl (by decide) (call_ok rfl) ?_
          refine ⟨_, Wk.refl _ _, ?_⟩
          show awp _ _ _ _ _ _ _
          refine awp_cond_t rfl ?_
          refine awp_exit_wk ?_
          refine ⟨_, Wk.refl _ _, ?_⟩
          show awp _ _ _ _ _ _ _
          refine awp_regs hF ?_
          refine dv (gyes_none rfl) (q_mv (v := .int .i64 ((i : Nat) : Int)) rfl) rfl (by decide) (cok1 trivial) ?_
          refine dv (gyes_none rfl) (OpQ.cast (v' := .int .i64 ((i + 1 : Nat) : Int)) (q_int rfl rfl rfl) (congrArg _ ((i64_in (by omega)).trans (by first | rfl | omega | (push_cast; rfl))))) rfl (by decide) (cok2 trivial (cconst rfl)) ?_
          refine dv (gyes_none rfl) (q_as (v := .int .i64 ((i + 1 : Nat) : Int)) rfl) rfl (by decide) (cok1 trivial) ?_
          refine ⟨_, Wk.U [(0, .string s), (1, vR), (2, .int .u64 ((a : Nat) : Int)), (3, .int .u64 ((n : Nat) : Int)), (10, .int .i64 (((i + 1) : Nat) : Int))] ⟨rfl, rfl, rfl, rfl, rfl, trivial⟩, (i + 1), ⟨_, rfl, (s8.sub (.cons _ (.refl _))), (lt_succ_casesN hq (pB_no (by omega)))⟩, (by omega)⟩
        ·
          replace c3 := of_decide_eq_false c3
          refine dv (gyes_none rfl) (q_pf (v := .bool false) rfl rfl) rfl (by decide) (call_ok rfl) ?_
          refine dv (gyes_none rfl) (q_mv (v := .bool false) rfl) rfl (by decide) (cok1 trivial) ?_
          refine dv (gyes_some rfl rfl) (q_mv (v := .int .u64 ((a : Nat) : Int)) rfl) rfl (by decide) (cok1 trivial) ?_
          refine dv (gyes_some rfl rfl) (q_field Try.underlying67 rfl Try.sizeOf25 rfl (s8.rd (j := 0) rfl)) rfl (by decide) (cok1 trivial) ?_
          refine dv (gyes_some rfl rfl) (q_load (v := .int .u64 (((nth l i).2.2.2.1 : Nat) : Int)) Try.isAgg25 rfl (s8.rd (j := 0) rfl) rfl) rfl (by decide) (cok1 trivial) ?_
          refine dv (gyes_some rfl rfl) (q_field Try.underlying67 rfl Try.sizeOf25 rfl (s8.rd (j := 0) rfl)) rfl (by decide) (cok1 trivial) ?_
          refine dv (gyes_some rfl rfl) (q_load (v := .int .u64 (((nth l i).2.2.2.2.2 : Nat) : Int)) Try.isAgg25 rfl (s8.rd (j := 0) rfl) rfl) rfl (by decide) (cok1 trivial) ?_
          refine dv (gyes_some rfl rfl) (OpQ.cast (v' := .int .u64 (((nth l i).2.2.2.1 + ((nth l i).2.2.2.2.2) : Nat) : Int)) (q_int rfl rfl rfl) (congrArg _ ((u64_in (by omega)).trans (by first | rfl | omega | (push_cast; rfl))))) rfl (by decide) (cok2 trivial trivial) ?_
          refine dvb (gyes_some rfl rfl) (q_int rfl rfl rfl) rfl (by decide) (cok2 trivial trivial) (fun c4 => ?_) (fun c4 => ?_)
          ·
            replace c4 := of_decide_eq_true c4
            refine dv (gyes_none rfl) (q_pf (v := .bool true) rfl rfl) rfl (by decide) (call_ok rfl) ?_
            refine dv (gyes_none rfl) (q_mv (v := .bool true) rfl) rfl (by decide) (cok1 trivial) ?_
            refine dno rfl (.inl rfl) rfl (by decide) ?_
            refine dno rfl (.inl rfl) rfl (by decide) ?_
            refine dno rfl (.inl rfl) rfl (by decide) ?_
            refine dno rfl (.inl rfl) rfl (by decide) ?_
            refine dno rfl (.inl rfl) rfl (by decide) ?_
            refine dno rfl (.inl rfl) rfl (by decide) ?_
            refine dno rfl (.inl rfl) rfl (by decide) ?_
            refine dno rfl (.inl rfl) rfl (by decide) ?_
            refine dno rfl (.inl rfl) rfl (by decide) ?_
            refine dv (gyes_none rfl) (q_pt (v := .bool true) rfl rfl) rfl (by decide) (call_ok rfl) ?_
            refine ⟨_, Wk.refl _ _, ?_⟩
            show awp _ _ _ _ _ _ _
            refine awp_cond_t rfl ?_
            refine awp_exit_wk ?_
            refine ⟨_, Wk.refl _ _, ?_⟩
            show awp _ _ _ _ _ _ _
            refine awp_regs hF ?_
            refine dv (gyes_none rfl) (q_mv (v := .int .i64 ((i : Nat) : Int)) rfl) rfl (by decide) (cok1 trivial) ?_
            refine dv (gyes_none rfl) (OpQ.cast (v' := .int .i64 ((i + 1 : Nat) : Int)) (q_int rfl rfl rfl) (congrArg _ ((i64_in (by omega)).trans (by first | rfl | omega | (push_cast; rfl))))) rfl (by decide) (cok2 trivial (cconst rfl)) ?_
            refine dv (gyes_none rfl) (q_as (v := .int .i64 ((i + 1 : Nat) : Int)) rfl) rfl (by decide) (cok1 trivial) ?_
            refine ⟨_, Wk.U [(0, .string s), (1, vR), (2, .int .u64 ((a : Nat) : Int)), (3, .int .u64 ((n : Nat) : Int)), (10, .int .i64 (((i + 1) : Nat) : Int))] ⟨rfl, rfl, rfl, rfl, rfl, trivial⟩, (i + 1), ⟨_, rfl, (s8.sub (.cons _ (.refl _))), (lt_succ_casesN hq (pB_no (by omega)))⟩, (by omega)⟩
          ·
            replace c4 := of_decide_eq_false c4
            refine dv (gyes_none rfl) (q_pf (v := .bool false) rfl rfl) rfl (by decide) (call_ok rfl) ?_
            refine dv (gyes_none rfl) (q_mv (v := .bool false) rfl) rfl (by decide) (cok1 trivial) ?_
            refine dv (gyes_some rfl rfl) (q_mv (v := .int .u64 ((n : Nat) : Int)) rfl) rfl (by decide) (cok1 trivial) ?_
            refine dv (gyes_some rfl rfl) (q_field Try.underlying67 rfl Try.sizeOf25 rfl (s8.rd (j := 0) rfl)) rfl (by decide) (cok1 trivial) ?_
            refine dv (gyes_some rfl rfl) (q_load (v := .int .u64 (((nth l i).2.2.2.1 : Nat) : Int)) Try.isAgg25 rfl (s8.rd (j := 0) rfl) rfl) rfl (by decide) (cok1 trivial) ?_
            refine dv (gyes_some rfl rfl) (q_field Try.underlying67 rfl Try.sizeOf25 rfl (s8.rd (j := 0) rfl)) rfl (by decide) (cok1 trivial) ?_
            refine dv (gyes_some rfl rfl) (q_load (v := .int .u64 (((nth l i).2.2.2.2.2 : Nat) : Int)) Try.isAgg25 rfl (s8.rd (j := 0) rfl) rfl) rfl (by decide) (cok1 trivial) ?_
            refine dv (gyes_some rfl rfl) (OpQ.cast (v' := .int .u64 (((nth l i).2.2.2.1 + ((nth l i).2.2.2.2.2) : Nat) : Int)) (q_int rfl rfl rfl) (congrArg _ ((u64_in (by omega)).trans (by first | rfl | omega | (push_cast; rfl))))) rfl (by decide) (cok2 trivial trivial) ?_
            refine dv (gyes_some rfl rfl) (q_mv (v := .int .u64 ((a : Nat) : Int)) rfl) rfl (by decide) (cok1 trivial) ?_
            refine dv (gyes_some rfl rfl) (OpQ.cast (v' := .int .u64 ((((nth l i).2.2.2.1 + ((nth l i).2.2.2.2.2)) - a : Nat) : Int)) (q_int rfl rfl rfl) (congrArg _ ((u64_in (by omega)).trans (by omega)))) rfl (by decide) (cok2 trivial trivial) ?_
            refine dvb (gyes_some rfl rfl) (q_int rfl rfl rfl) rfl (by decide) (cok2 trivial trivial) (fun c5 => ?_) (fun c5 => ?_)
            ·
              replace c5 := of_decide_eq_true c5
              refine dv (gyes_none rfl) (q_pf (v := .bool true) rfl rfl) rfl (by decide) (call_ok rfl) ?_
              refine ⟨_, Wk.refl _ _, ?_⟩
              show awp _ _ _ _ _ _ _
              refine awp_cond_t rfl ?_
              refine awp_exit_wk ?_
              refine ⟨_, Wk.refl _ _, ?_⟩
              show awp _ _ _ _ _ _ _
              refine awp_regs hF ?_
              refine dv (gyes_none rfl) (q_mv (v := .int .i64 ((i : Nat) : Int)) rfl) rfl (by decide) (cok1 trivial) ?_
              refine dv (gyes_none rfl) (OpQ.cast (v' := .int .i64 ((i + 1 : Nat) : Int)) (q_int rfl rfl rfl) (congrArg _ ((i64_in (by omega)).trans (by first | rfl | omega | (push_cast; rfl))))) rfl (by decide) (cok2 trivial (cconst rfl)) ?_
              refine dv (gyes_none rfl) (q_as (v := .int .i64 ((i + 1 : Nat) : Int)) rfl) rfl (by decide) (cok1 trivial) ?_
              refine ⟨_, Wk.U [(0, .string s), (1, vR), (2, .int .u64 ((a : Nat) : Int)), (3, .int .u64 ((n : Nat) : Int)), (10, .int .i64 (((i + 1) : Nat) : Int))] ⟨rfl, rfl, rfl, rfl, rfl, trivial⟩, (i + 1), ⟨_, rfl, (s8.sub (.cons _ (.refl _))), (lt_succ_casesN hq (pB_no (by omega)))⟩, (by omega)⟩
            ·
              replace c5 := of_decide_eq_false c5
              refine dv (gyes_none rfl) (q_pf (v := .bool false) rfl rfl) rfl (by decide) (call_ok rfl) ?_
              refine ⟨_, Wk.refl _ _, ?_⟩
              show awp _ _ _ _ _ _ _
              refine awp_cond_f rfl ?_
              refine awp_skip_wk ?_
              refine ⟨_, Wk.refl _ _, ?_⟩
              show awp _ _ _ _ _ _ _
              refine awp_seq ?_
              refine awp_regs hF ?_
              refine dv (gyes_none rfl) (q_as (v := .string (⟨#[]⟩ : ByteArray)) rfl) rfl (by decide) (cok1 (cconst rfl)) ?_
              refine ⟨_, Wk.refl _ _, ?_⟩
              show awp _ _ _ _ _ _ _
              refine awp_seq ?_
              refine awp_seq ?_
              refine awp_regs hF ?_
              refine dv (gyes_none rfl) (q_as (v := .int .u64 0) rfl) rfl (by decide) (cok1 (cconst rfl)) ?_
              refine ⟨_, Wk.refl _ _, ?_⟩
              show awp _ _ _ _ _ _ _
              refine awp_block ?_
              refine awp_wk (Wk.U [(0, .string s), (2, .int .u64 ((a : Nat) : Int)), (3, .int .u64 ((n : Nat) : Int)), (11, .pointer (some ⟨b3, 0, none⟩)), (12, .string (⟨#[]⟩ : ByteArray)), (13, .int .u64 0)] ⟨rfl, rfl, rfl, rfl, rfl, rfl, trivial⟩) ?_
              refine awp_loop (fun ((k, o) : Nat × ByteArray) st => ∃ (H9 : AHeap), st = ⟨87, U [(0, .string s), (2, .int .u64 ((a : Nat) : Int)), (3, .int .u64 ((n : Nat) : Int)), (11, .pointer (some ⟨b3, 0, none⟩)), (12, .string o), (13, .int .u64 ((k : Nat) : Int))], [], H9⟩ ∧ St H0 (none0) (Rd H0) H9 [(b3, .cells true [.int .u64 (((nth l i).1 : Nat) : Int), .int .u64 (((nth l i).2.1 : Nat) : Int), .int .u64 (((nth l i).2.2.1 : Nat) : Int), .int .u64 (((nth l i).2.2.2.1 : Nat) : Int), .int .u64 (((nth l i).2.2.2.2.1 : Nat) : Int), .int .u64 (((nth l i).2.2.2.2.2 : Nat) : Int)] 6)] ∧ (k ≤ n) ∧ (o = segB s (nth l i) a k)) (fun ((k, o) : Nat × ByteArray) => n - k) (x0 := (0, (⟨#[]⟩ : ByteArray))) ?h0 ?round
              case h0 =>
                exact ⟨_, rfl, s8, Nat.zero_le _, (segB_zero hin).symm⟩
              case round =>
                rintro ⟨k, o⟩ _ ⟨H9, rfl, s10, hk, ho⟩
                dsimp only at *
                have hos : o.size = k := by rw [ho, segB_size hin]
                refine awp_seq ?_
                refine awp_seq ?_
                refine awp_regs hF ?_
                refine dv (gyes_none rfl) (q_mv (v := .int .u64 ((k : Nat) : Int)) rfl) rfl (by decide) (cok1 trivial) ?_
                refine dv (gyes_none rfl) (q_mv (v := .int .u64 ((n : Nat) : Int)) rfl) rfl (by decide) (cok1 trivial) ?_
                refine dvb (gyes_none rfl) (q_int rfl rfl rfl) rfl (by decide) (cok2 trivial trivial) (fun c6 => ?_) (fun c6 => ?_)
                ·
                  replace c6 := of_decide_eq_true c6
                  refine ⟨_, Wk.refl _ _, ?_⟩
                  show awp _ _ _ _ _ _ _
                  refine awp_cond_t rfl ?_
                  refine awp_skip_wk ?_
                  refine ⟨_, Wk.refl _ _, ?_⟩
                  show awp _ _ _ _ _ _ _
                  refine awp_seq ?_
                  refine awp_block ?_
                  refine awp_seq ?_
                  refine awp_regs hF ?_
                  refine dv (gyes_none rfl) (q_as (v := .string (⟨#[0]⟩ : ByteArray)) rfl) rfl (by decide) (cok1 (cconst rfl)) ?_
                  refine ⟨_, Wk.refl _ _, ?_⟩
                  show awp _ _ _ _ _ _ _
                  refine awp_seq ?_
                  refine awp_seq ?_
                  refine awp_regs hF ?_
                  refine dv (gyes_none rfl) (q_mv (v := .int .u64 ((a : Nat) : Int)) rfl) rfl (by decide) (cok1 trivial) ?_
                  refine dv (gyes_none rfl) (q_mv (v := .int .u64 ((k : Nat) : Int)) rfl) rfl (by decide) (cok1 trivial) ?_
                  refine dv (gyes_none rfl) (OpQ.cast (v' := .int .u64 ((a + k : Nat) : Int)) (q_int rfl rfl rfl) (congrArg _ ((u64_in (by omega)).trans (by first | rfl | omega | (push_cast; rfl))))) rfl (by decide) (cok2 trivial trivial) ?_
                  refine dv (gyes_none rfl) (q_field Try.underlying67 rfl Try.sizeOf25 rfl (s10.rd (j := 0) rfl)) rfl (by decide) (cok1 trivial) ?_
                  refine dv (gyes_none rfl) (q_load (v := .int .u64 (((nth l i).2.2.2.1 : Nat) : Int)) Try.isAgg25 rfl (s10.rd (j := 0) rfl) rfl) rfl (by decide) (cok1 trivial) ?_
                  refine dv (gyes_none rfl) (OpQ.cast (v' := .int .u64 (((a + k) - ((nth l i).2.2.2.1) : Nat) : Int)) (q_int rfl rfl rfl) (congrArg _ ((u64_in (by omega)).trans (by omega)))) rfl (by decide) (cok2 trivial trivial) ?_
                  refine dv (gyes_none rfl) (q_as (v := .int .u64 (((a + k) - ((nth l i).2.2.2.1) : Nat) : Int)) rfl) rfl (by decide) (cok1 trivial) ?_
                  refine ⟨_, Wk.refl _ _, ?_⟩
                  show awp _ _ _ _ _ _ _
                  refine awp_seq ?_
                  refine awp_regs hF ?_
                  refine dv (gyes_none rfl) (q_mv (v := .int .u64 (((a + k) - ((nth l i).2.2.2.1) : Nat) : Int)) rfl) rfl (by decide) (cok1 trivial) ?_
                  refine dv (gyes_none rfl) (q_field Try.underlying67 rfl Try.sizeOf25 rfl (s10.rd (j := 0) rfl)) rfl (by decide) (cok1 trivial) ?_
                  refine dv (gyes_none rfl) (q_load (v := .int .u64 (((nth l i).2.2.2.2.1 : Nat) : Int)) Try.isAgg25 rfl (s10.rd (j := 0) rfl) rfl) rfl (by decide) (cok1 trivial) ?_
                  refine dvb (gyes_none rfl) (q_int rfl rfl rfl) rfl (by decide) (cok2 trivial trivial) (fun c7 => ?_) (fun c7 => ?_)
                  ·
                    replace c7 := of_decide_eq_true c7
                    refine ⟨_, Wk.refl _ _, ?_⟩
                    show awp _ _ _ _ _ _ _
                    refine awp_cond_t rfl ?_
                    refine awp_regs hF ?_
                    refine dv (gyes_none rfl) (q_mv (v := .string s) rfl) rfl (by decide) (cok1 trivial) ?_
                    refine dv (gyes_none rfl) (q_field Try.underlying67 rfl Try.sizeOf25 rfl (s10.rd (j := 0) rfl)) rfl (by decide) (cok1 trivial) ?_
                    refine dv (gyes_none rfl) (q_load (v := .int .u64 (((nth l i).2.2.1 : Nat) : Int)) Try.isAgg25 rfl (s10.rd (j := 0) rfl) rfl) rfl (by decide) (cok1 trivial) ?_
                    refine dv (gyes_none rfl) (q_mv (v := .int .u64 (((a + k) - ((nth l i).2.2.2.1) : Nat) : Int)) rfl) rfl (by decide) (cok1 trivial) ?_
                    refine dv (gyes_none rfl) (OpQ.cast (v' := .int .u64 (((nth l i).2.2.1 + ((a + k) - ((nth l i).2.2.2.1)) : Nat) : Int)) (q_int rfl rfl rfl) (congrArg _ ((u64_in (by omega)).trans (by first | rfl | omega | (push_cast; rfl))))) rfl (by decide) (cok2 trivial trivial) ?_
                    refine dv (gyes_none rfl) (q_convin (a := (((nth l i).2.2.1 + ((a + k) - ((nth l i).2.2.2.1)) : Nat) : Int)) Try.underlying25 Try.underlying3 rfl (i64_in (by omega))) rfl (by decide) (cok1 trivial) ?_
                    refine dv (gyes_none rfl) (q_field Try.underlying67 rfl Try.sizeOf25 rfl (s10.rd (j := 0) rfl)) rfl (by decide) (cok1 trivial) ?_
                    refine dv (gyes_none rfl) (q_load (v := .int .u64 (((nth l i).2.2.1 : Nat) : Int)) Try.isAgg25 rfl (s10.rd (j := 0) rfl) rfl) rfl (by decide) (cok1 trivial) ?_
                    refine dv (gyes_none rfl) (q_mv (v := .int .u64 (((a + k) - ((nth l i).2.2.2.1) : Nat) : Int)) rfl) rfl (by decide) (cok1 trivial) ?_
                    refine dv (gyes_none rfl) (OpQ.cast (v' := .int .u64 (((nth l i).2.2.1 + ((a + k) - ((nth l i).2.2.2.1)) : Nat) : Int)) (q_int rfl rfl rfl) (congrArg _ ((u64_in (by omega)).trans (by first | rfl | omega | (push_cast; rfl))))) rfl (by decide) (cok2 trivial trivial) ?_
                    refine dv (gyes_none rfl) (q_convin (a := (((nth l i).2.2.1 + ((a + k) - ((nth l i).2.2.2.1)) : Nat) : Int)) Try.underlying25 Try.underlying3 rfl (i64_in (by omega))) rfl (by decide) (cok1 trivial) ?_
                    refine dv (gyes_none rfl) (OpQ.cast (v' := .int .i64 (((nth l i).2.2.1 + ((a + k) - ((nth l i).2.2.2.1)) + 1 : Nat) : Int)) (q_int rfl rfl rfl) (congrArg _ ((i64_in (by omega)).trans (by first | rfl | omega | (push_cast; rfl))))) rfl (by decide) (cok2 trivial (cconst rfl)) ?_
                    refine dv (gyes_none rfl) (q_substr (i := ((nth l i).2.2.1 + ((a + k) - ((nth l i).2.2.2.1)))) (j := ((nth l i).2.2.1 + ((a + k) - ((nth l i).2.2.2.1)) + 1)) Try.underlying9 rfl ⟨_, rfl⟩ ⟨_, rfl⟩ (by omega) (by omega)) rfl (by decide) (call_ok rfl) ?_
                    refine dv (gyes_none rfl) (q_as (v := .string (s.extract ((nth l i).2.2.1 + ((a + k) - ((nth l i).2.2.2.1))) ((nth l i).2.2.1 + ((a + k) - ((nth l i).2.2.2.1)) + 1))) rfl) rfl (by decide) (cok1 trivial) ?_
                    refine ⟨_, Wk.refl _ _, ?_⟩
                    show awp _ _ _ _ _ _ _
                    refine awp_regs hF ?_
                    refine dv (gyes_none rfl) (q_mv (v := .string o) rfl) rfl (by decide) (cok1 trivial) ?_
                    refine dv (gyes_none rfl) (q_mv (v := .string (s.extract ((nth l i).2.2.1 + ((a + k) - ((nth l i).2.2.2.1))) ((nth l i).2.2.1 + ((a + k) - ((nth l i).2.2.2.1)) + 1))) rfl) rfl (by decide) (cok1 trivial) ?_
                    refine dv (gyes_none rfl) (q_cat rfl rfl (by first | (rw [size_extract (by omega)]; omega) | (show _ + 1 ≤ _; omega))) rfl (by decide) (cok2 trivial trivial) ?_
                    refine dv (gyes_none rfl) (q_as (v := .string (o ++ (s.extract ((nth l i).2.2.1 + ((a + k) - ((nth l i).2.2.2.1))) ((nth l i).2.2.1 + ((a + k) - ((nth l i).2.2.2.1)) + 1)))) rfl) rfl (by decide) (cok1 trivial) ?_
                    refine ⟨_, Wk.refl _ _, ?_⟩
                    show awp _ _ _ _ _ _ _
                    refine awp_regs hF ?_
                    refine dv (gyes_none rfl) (q_mv (v := .int .u64 ((k : Nat) : Int)) rfl) rfl (by decide) (cok1 trivial) ?_
                    refine dv (gyes_none rfl) (OpQ.cast (v' := .int .u64 ((k + 1 : Nat) : Int)) (q_int rfl rfl rfl) (congrArg _ ((u64_in (by omega)).trans (by first | rfl | omega | (push_cast; rfl))))) rfl (by decide) (cok2 trivial (cconst rfl)) ?_
                    refine dv (gyes_none rfl) (q_as (v := .int .u64 ((k + 1 : Nat) : Int)) rfl) rfl (by decide) (cok1 trivial) ?_
                    refine ⟨_, Wk.U [(0, .string s), (2, .int .u64 ((a : Nat) : Int)), (3, .int .u64 ((n : Nat) : Int)), (11, .pointer (some ⟨b3, 0, none⟩)), (12, .string (o ++ (s.extract ((nth l i).2.2.1 + ((a + k) - ((nth l i).2.2.2.1))) ((nth l i).2.2.1 + ((a + k) - ((nth l i).2.2.2.1)) + 1)))), (13, .int .u64 (((k + 1) : Nat) : Int))] ⟨rfl, rfl, rfl, rfl, rfl, rfl, trivial⟩, ((k + 1), (o ++ (s.extract ((nth l i).2.2.1 + ((a + k) - ((nth l i).2.2.2.1))) ((nth l i).2.2.1 + ((a + k) - ((nth l i).2.2.2.1)) + 1)))), ⟨_, rfl, s10, (by omega), (by rw [segB_in (by omega) hin (by omega), ho])⟩, (by omega)⟩
                  ·
                    replace c7 := of_decide_eq_false c7
                    refine ⟨_, Wk.refl _ _, ?_⟩
                    show awp _ _ _ _ _ _ _
                    refine awp_cond_f rfl ?_
                    refine awp_skip_wk ?_
                    refine ⟨_, Wk.refl _ _, ?_⟩
                    show awp _ _ _ _ _ _ _
                    refine awp_regs hF ?_
                    refine dv (gyes_none rfl) (q_mv (v := .string o) rfl) rfl (by decide) (cok1 trivial) ?_
                    refine dv (gyes_none rfl) (q_mv (v := .string (⟨#[0]⟩ : ByteArray)) rfl) rfl (by decide) (cok1 trivial) ?_
                    refine dv (gyes_none rfl) (q_cat rfl rfl (by first | (rw [size_extract (by omega)]; omega) | (show _ + 1 ≤ _; omega))) rfl (by decide) (cok2 trivial trivial) ?_
                    refine dv (gyes_none rfl) (q_as (v := .string (o ++ (⟨#[0]⟩ : ByteArray))) rfl) rfl (by decide) (cok1 trivial) ?_
                    refine ⟨_, Wk.refl _ _, ?_⟩
                    show awp _ _ _ _ _ _ _
                    refine awp_regs hF ?_
                    refine dv (gyes_none rfl) (q_mv (v := .int .u64 ((k : Nat) : Int)) rfl) rfl (by decide) (cok1 trivial) ?_
                    refine dv (gyes_none rfl) (OpQ.cast (v' := .int .u64 ((k + 1 : Nat) : Int)) (q_int rfl rfl rfl) (congrArg _ ((u64_in (by omega)).trans (by first | rfl | omega | (push_cast; rfl))))) rfl (by decide) (cok2 trivial (cconst rfl)) ?_
                    refine dv (gyes_none rfl) (q_as (v := .int .u64 ((k + 1 : Nat) : Int)) rfl) rfl (by decide) (cok1 trivial) ?_
                    refine ⟨_, Wk.U [(0, .string s), (2, .int .u64 ((a : Nat) : Int)), (3, .int .u64 ((n : Nat) : Int)), (11, .pointer (some ⟨b3, 0, none⟩)), (12, .string (o ++ (⟨#[0]⟩ : ByteArray))), (13, .int .u64 (((k + 1) : Nat) : Int))] ⟨rfl, rfl, rfl, rfl, rfl, rfl, trivial⟩, ((k + 1), (o ++ (⟨#[0]⟩ : ByteArray))), ⟨_, rfl, s10, (by omega), (by rw [segB_out (by omega) hin (by omega), ho])⟩, (by omega)⟩
                ·
                  replace c6 := of_decide_eq_false c6
                  refine ⟨_, Wk.refl _ _, ?_⟩
                  show awp _ _ _ _ _ _ _
                  refine awp_cond_f rfl ?_
                  refine awp_exit_wk ?_
                  refine ⟨_, Wk.refl _ _, ?_⟩
                  show awp _ _ _ _ _ _ _
                  refine awp_seq ?_
                  refine awp_regs hF ?_
                  refine dv (gyes_none rfl) (q_mv (v := .string o) rfl) rfl (by decide) (cok1 trivial) ?_
                  refine dv (gyes_none rfl) (q_as (v := .string o) rfl) rfl (by decide) (cok1 trivial) ?_
                  refine dv (gyes_none rfl) (q_as (v := .bool true) rfl) rfl (by decide) (cok1 (cconst rfl)) ?_
                  refine ⟨_, Wk.refl _ _, ?_⟩
                  show awp _ _ _ _ _ _ _
                  refine awp_ret_wk ?_
                  refine ⟨_, Wk.refl _ _, ?_⟩
                  repeat (with_reducible first | refine then_ret ?_ | refine blk_ret ?_ | refine then_exit ?_ | refine blk_exit ?_ | refine blk_exit' (by decide) ?_ | refine blk_normal ?_ | refine then_normal ?_ | refine retq_ret ?_ | refine retq_normal ?_ | refine ng_normal ?_ | refine ng_ret ?_ | refine ng_exit ?_)
                  exact ret_none (v := .tuple #[.string o, .bool true]) rfl s10.kp (.tmp rfl (.tmp rfl .nil)) rfl rfl ⟨by rw [imgAt_yes (i := i) (by omega) (pB_yes (by omega)) hq, ho, show k = n by omega], rfl⟩
    ·
      replace c1 := of_decide_eq_false c1
      refine ⟨_, Wk.refl _ _, ?_⟩
      show awp _ _ _ _ _ _ _
      refine awp_cond_f rfl ?_
      refine awp_exit_wk ?_
      refine ⟨_, Wk.refl _ _, ?_⟩
      show awp _ _ _ _ _ _ _
      refine awp_seq ?_
      refine awp_regs hF ?_
      refine dv (gyes_none rfl) (q_as (v := .string (⟨#[]⟩ : ByteArray)) rfl) rfl (by decide) (cok1 (cconst rfl)) ?_
      refine dv (gyes_none rfl) (q_as (v := .bool false) rfl) rfl (by decide) (cok1 (cconst rfl)) ?_
      refine ⟨_, Wk.refl _ _, ?_⟩
      show awp _ _ _ _ _ _ _
      refine awp_ret_wk ?_
      refine ⟨_, Wk.refl _ _, ?_⟩
      repeat (with_reducible first | refine then_ret ?_ | refine blk_ret ?_ | refine then_exit ?_ | refine blk_exit ?_ | refine blk_exit' (by decide) ?_ | refine blk_normal ?_ | refine then_normal ?_ | refine retq_ret ?_ | refine retq_normal ?_ | refine ng_normal ?_ | refine ng_ret ?_ | refine ng_exit ?_)
      exact ret_none (v := .tuple #[.string (⟨#[]⟩ : ByteArray), .bool false]) rfl s2.kp (.tmp rfl (.tmp rfl .nil)) rfl rfl ⟨by rw [imgAt_no (fun j hj => hq j (by omega))]; first | done | rfl, rfl⟩
set_option maxRecDepth 100000 in
set_option maxHeartbeats 4000000 in
theorem pack_ok {H0 : AHeap} (e : Nat) (he : e < 18446744073709551616) (vR vD : Value) (l : List Sg) (d : List ByteArray) (hL : SlS segr 6 H0 vR l) (hD : Sl strv H0 vD d) (hl : l.length ≤ 1000) (hd : d.length ≤ 1000) (hw : ∀ x ∈ l, SgW x) (hdb : ∀ x ∈ d, x.size ≤ 100000) : ACalls Try.prog 25 [.int .u64 ((e : Nat) : Int), vR, vD] H0 (Rets (.string (packB e l d)) H0) := by
  have hF : Wd Fence.wide := .inl rfl
  have hM : Try.prog.follows .mixedOrders = true := by kernel_rfl
  have s0 := St.begin H0
  refine acalls_st Try.func25 rfl Try.ntmps25 rfl ?_
  refine awp_seq ?_
  refine awp_regs hF ?_
  refine dv (gyes_none rfl) (q_as (v := .string (⟨#[]⟩ : ByteArray)) rfl) rfl (by decide) (cok1 (cconst rfl)) ?_
  refine ⟨_, Wk.refl _ _, ?_⟩
  show awp _ _ _ _ _ _ _
  refine awp_seq ?_
  refine awp_regt hF hM (by kernel_rfl) (by kernel_rfl) ?_
  refine x_new (fun b => .slice (some ⟨b, 0, none⟩) 9 9) s0 (gyes_none rfl) (q_makeSlice1 (len := 9) (m := 9) rfl Try.underlying65 Try.typeInfo5 rfl Try.zeroValue5 rfl rfl rfl rfl (by omega) (by omega) (by show 1 * _ ≤ _; omega) (vs := (List.replicate 9 (0 : UInt8)).map bytv) (by simp [bytv])) rfl (by decide) (cok2 (cconst rfl) (cconst rfl)) (fun b1 H2 hb4 s3 => ?_)
  refine dv (gyes_none rfl) (OpQ.cast (v' := .string (zerosB 9)) (q_bytesl (l := List.replicate 9 (0 : UInt8)) Try.underlying65 Try.underlying9 Try.underlying5 rfl (s3.rd (j := 0) rfl) rfl) rfl) rfl (by decide) (cok1 trivial) ?_
  refine dv (gyes_none rfl) (OpQ.cast (v' := .string (magicB ++ zerosB 9)) (q_cat (a := magicB) rfl rfl (by simp only [size_append, putB_size, zerosB_size, show magicB.size = 7 from rfl]; omega)) rfl) rfl (by decide) (cok2 (cconst rfl) trivial) ?_
  refine dv (gyes_none rfl) (q_call0 Try.call24 rfl (rput_ok 3 2 (by omega) (by omega))) rfl (by decide) (call_ok rfl) ?_
  refine dv (gyes_none rfl) (q_cat rfl rfl (by simp only [size_append, putB_size, zerosB_size, show magicB.size = 7 from rfl]; omega)) rfl (by decide) (cok2 trivial trivial) ?_
  refine dv (gyes_none rfl) (q_call0 Try.call24 rfl (rput_ok 243 2 (by omega) (by omega))) rfl (by decide) (call_ok rfl) ?_
  refine dv (gyes_none rfl) (q_cat rfl rfl (by simp only [size_append, putB_size, zerosB_size, show magicB.size = 7 from rfl]; omega)) rfl (by decide) (cok2 trivial trivial) ?_
  refine dv (gyes_none rfl) (q_call0 Try.call24 rfl (rput_ok 1 4 (by omega) (by omega))) rfl (by decide) (call_ok rfl) ?_
  refine dv (gyes_none rfl) (q_cat rfl rfl (by simp only [size_append, putB_size, zerosB_size, show magicB.size = 7 from rfl]; omega)) rfl (by decide) (cok2 trivial trivial) ?_
  refine dv (gyes_none rfl) (q_mv (v := .int .u64 ((e : Nat) : Int)) rfl) rfl (by decide) (cok1 trivial) ?_
  refine dv (gyes_none rfl) (q_call0 Try.call24 rfl (rput_ok e 8 (by omega) (by omega))) rfl (by decide) (call_ok rfl) ?_
  refine dv (gyes_none rfl) (q_cat rfl rfl (by simp only [size_append, putB_size, zerosB_size, show magicB.size = 7 from rfl]; omega)) rfl (by decide) (cok2 trivial trivial) ?_
  refine dv (gyes_none rfl) (q_call0 Try.call24 rfl (rput_ok 64 8 (by omega) (by omega))) rfl (by decide) (call_ok rfl) ?_
  refine dv (gyes_none rfl) (q_cat rfl rfl (by simp only [size_append, putB_size, zerosB_size, show magicB.size = 7 from rfl]; omega)) rfl (by decide) (cok2 trivial trivial) ?_
  refine x_new (fun b => .slice (some ⟨b, 0, none⟩) 12 12) s3 (gyes_none rfl) (q_makeSlice1 (len := 12) (m := 12) rfl Try.underlying65 Try.typeInfo5 rfl Try.zeroValue5 rfl rfl rfl rfl (by omega) (by omega) (by show 1 * _ ≤ _; omega) (vs := (List.replicate 12 (0 : UInt8)).map bytv) (by simp [bytv])) rfl (by decide) (cok2 (cconst rfl) (cconst rfl)) (fun b5 H6 hb8 s7 => ?_)
  refine dv (gyes_none rfl) (OpQ.cast (v' := .string (zerosB 12)) (q_bytesl (l := List.replicate 12 (0 : UInt8)) Try.underlying65 Try.underlying9 Try.underlying5 rfl (s7.rd (j := 0) rfl) rfl) rfl) rfl (by decide) (cok1 trivial) ?_
  refine dv (gyes_none rfl) (q_cat rfl rfl (by simp only [size_append, putB_size, zerosB_size, show magicB.size = 7 from rfl]; omega)) rfl (by decide) (cok2 trivial trivial) ?_
  refine dv (gyes_none rfl) (q_call0 Try.call24 rfl (rput_ok 64 2 (by omega) (by omega))) rfl (by decide) (call_ok rfl) ?_
  refine dv (gyes_none rfl) (q_cat rfl rfl (by simp only [size_append, putB_size, zerosB_size, show magicB.size = 7 from rfl]; omega)) rfl (by decide) (cok2 trivial trivial) ?_
  refine dv (gyes_none rfl) (q_call0 Try.call24 rfl (rput_ok 56 2 (by omega) (by omega))) rfl (by decide) (call_ok rfl) ?_
  refine dv (gyes_none rfl) (q_cat rfl rfl (by simp only [size_append, putB_size, zerosB_size, show magicB.size = 7 from rfl]; omega)) rfl (by decide) (cok2 trivial trivial) ?_
  refine dv (gyes_none rfl) (q_mv (v := vR) rfl) rfl (by decide) (cok1 trivial) ?_
  refine dv (gyes_none rfl) (q_len_sls (l := l) Try.underlying39 (s7.sls hL) rfl) rfl (by decide) (cok1 trivial) ?_
  refine dv (gyes_none rfl) (q_convin (a := ((l.length : Nat) : Int)) Try.underlying3 Try.underlying25 rfl (u64_in (by omega))) rfl (by decide) (cok1 trivial) ?_
  refine dv (gyes_none rfl) (q_call0 Try.call24 rfl (rput_ok l.length 2 (by omega) (by omega))) rfl (by decide) (call_ok rfl) ?_
  refine dv (gyes_none rfl) (q_cat rfl rfl (by simp only [size_append, putB_size, zerosB_size, show magicB.size = 7 from rfl]; omega)) rfl (by decide) (cok2 trivial trivial) ?_
  refine x_new (fun b => .slice (some ⟨b, 0, none⟩) 6 6) s7 (gyes_none rfl) (q_makeSlice1 (len := 6) (m := 6) rfl Try.underlying65 Try.typeInfo5 rfl Try.zeroValue5 rfl rfl rfl rfl (by omega) (by omega) (by show 1 * _ ≤ _; omega) (vs := (List.replicate 6 (0 : UInt8)).map bytv) (by simp [bytv])) rfl (by decide) (cok2 (cconst rfl) (cconst rfl)) (fun b9 H10 hb12 s11 => ?_)
  refine dv (gyes_none rfl) (OpQ.cast (v' := .string (zerosB 6)) (q_bytesl (l := List.replicate 6 (0 : UInt8)) Try.underlying65 Try.underlying9 Try.underlying5 rfl (s11.rd (j := 0) rfl) rfl) rfl) rfl (by decide) (cok1 trivial) ?_
  refine dv (gyes_none rfl) (q_cat rfl rfl (by simp only [size_append, putB_size, zerosB_size, show magicB.size = 7 from rfl]; omega)) rfl (by decide) (cok2 trivial trivial) ?_
  refine dv (gyes_none rfl) (q_as (v := .string (((((((((((magicB ++ zerosB 9) ++ (putB 3 2)) ++ (putB 243 2)) ++ (putB 1 4)) ++ (putB e 8)) ++ (putB 64 8)) ++ (zerosB 12)) ++ (putB 64 2)) ++ (putB 56 2)) ++ (putB l.length 2)) ++ (zerosB 6))) rfl) rfl (by decide) (cok1 trivial) ?_
  refine ⟨_, Wk.refl _ _, ?_⟩
  show awp _ _ _ _ _ _ _
  refine awp_seq ?_
  refine awp_seq ?_
  refine awp_regs hF ?_
  refine dv (gyes_none rfl) (q_as (v := .int .i64 0) rfl) rfl (by decide) (cok1 (cconst rfl)) ?_
  refine ⟨_, Wk.refl _ _, ?_⟩
  show awp _ _ _ _ _ _ _
  refine awp_block ?_
  refine awp_wk (Wk.U [(1, vR), (2, vD), (7, .string (((((((((((magicB ++ zerosB 9) ++ (putB 3 2)) ++ (putB 243 2)) ++ (putB 1 4)) ++ (putB e 8)) ++ (putB 64 8)) ++ (zerosB 12)) ++ (putB 64 2)) ++ (putB 56 2)) ++ (putB l.length 2)) ++ (zerosB 6))), (8, .int .i64 0)] ⟨rfl, rfl, rfl, rfl, trivial⟩) ?_
  refine awp_loop (fun ((i, o) : Nat × ByteArray) st => ∃ (H13 : AHeap), st = ⟨94, U [(1, vR), (2, vD), (7, .string o), (8, .int .i64 ((i : Nat) : Int))], [], H13⟩ ∧ St H0 (none0) (Rd H0) H13 [] ∧ (o = packS e l i ∧ i ≤ l.length)) (fun ((i, o) : Nat × ByteArray) => l.length - i) (x0 := (0, (((((((((((magicB ++ zerosB 9) ++ (putB 3 2)) ++ (putB 243 2)) ++ (putB 1 4)) ++ (putB e 8)) ++ (putB 64 8)) ++ (zerosB 12)) ++ (putB 64 2)) ++ (putB 56 2)) ++ (putB l.length 2)) ++ (zerosB 6)))) ?h0 ?round
  case h0 =>
    exact ⟨_, rfl, (s11.sub (.cons _ (.cons _ (.cons _ (.refl _))))), ⟨rfl, Nat.zero_le _⟩⟩
  case round =>
    rintro ⟨i, o⟩ _ ⟨H13, rfl, s14, ho⟩
    dsimp only at *
    have hos : o.size = 64 + 56 * i := by rw [ho.1, packS_size]
    refine awp_seq ?_
    refine awp_seq ?_
    refine awp_regs hF ?_
    refine dv (gyes_none rfl) (q_mv (v := .int .i64 ((i : Nat) : Int)) rfl) rfl (by decide) (cok1 trivial) ?_
    refine dv (gyes_none rfl) (q_mv (v := vR) rfl) rfl (by decide) (cok1 trivial) ?_
    refine dv (gyes_none rfl) (q_len_sls (l := l) Try.underlying39 (s14.sls hL) rfl) rfl (by decide) (cok1 trivial) ?_
    refine dvb (gyes_none rfl) (q_int rfl rfl rfl) rfl (by decide) (cok2 trivial trivial) (fun c1 => ?_) (fun c1 => ?_)
    ·
      replace c1 := of_decide_eq_true c1
      obtain ⟨q1, q2, q3, q4, q5, q6⟩ := hw _ (nthN_mem (l := l) (k := i) (by omega))
      refine ⟨_, Wk.refl _ _, ?_⟩
      show awp _ _ _ _ _ _ _
      refine awp_cond_t rfl ?_
      refine awp_skip_wk ?_
      refine ⟨_, Wk.refl _ _, ?_⟩
      show awp _ _ _ _ _ _ _
      refine awp_seq ?_
      refine awp_block ?_
      refine awp_seq ?_
      refine awp_regs hF ?_
      refine dv (gyes_none rfl) (q_mv (v := vR) rfl) rfl (by decide) (cok1 trivial) ?_
      refine dv (gyes_none rfl) (q_mv (v := .int .i64 ((i : Nat) : Int)) rfl) rfl (by decide) (cok1 trivial) ?_
      refine dv (gyes_none rfl) (q_index_sls (l := l) (i := i) Try.underlying39 Try.sizeOf67 (s14.sls hL) segr_w rfl rfl (by omega)) rfl (by decide) (cok2 trivial trivial) ?_
      refine dv (gyes_none rfl) (q_loadA_sls (l := l) (i := i) Try.isAgg67 Try.sizeOf67 (s14.sls hL) segr_w rfl (by omega)) rfl (by decide) (cok1 trivial) ?_
      refine x_new (fun b => .pointer (some ⟨b, 0, none⟩)) s14 (gyes_none rfl) (q_alloc (vs := [.int .u64 0, .int .u64 0, .int .u64 0, .int .u64 0, .int .u64 0, .int .u64 0]) 6 Try.zeroValue67 (by first | exact flat_scalar rfl | exact flat_agg rfl) rfl) rfl (by decide) (by simp [Op.operands, Call.operands]) (fun b15 H16 hb18 s17 => ?_)
      refine x_store [] hF s17 (by kernel_rfl) (gyes_none rfl) (j := 0) (v := .agg #[.int .u64 (((nth l i).1 : Nat) : Int), .int .u64 (((nth l i).2.1 : Nat) : Int), .int .u64 (((nth l i).2.2.1 : Nat) : Int), .int .u64 (((nth l i).2.2.2.1 : Nat) : Int), .int .u64 (((nth l i).2.2.2.2.1 : Nat) : Int), .int .u64 (((nth l i).2.2.2.2.2 : Nat) : Int)]) rfl Try.sizeOf67 rfl rfl rfl rfl rfl trivial (lcsA ⟨(lc_scalar rfl), (lc_scalar rfl), (lc_scalar rfl), (lc_scalar rfl), (lc_scalar rfl), (lc_scalar rfl), trivial⟩) (Nat.le_of_ble_eq_true rfl) trivial trivial rfl rfl (F' := [(b15, .cells true [.int .u64 (((nth l i).1 : Nat) : Int), .int .u64 (((nth l i).2.1 : Nat) : Int), .int .u64 (((nth l i).2.2.1 : Nat) : Int), .int .u64 (((nth l i).2.2.2.1 : Nat) : Int), .int .u64 (((nth l i).2.2.2.2.1 : Nat) : Int), .int .u64 (((nth l i).2.2.2.2.2 : Nat) : Int)] 6)]) rfl (fun H19 s20 => ⟨?_, ?_⟩)
      · exact trivial
      refine ⟨_, Wk.refl _ _, ?_⟩
      show awp _ _ _ _ _ _ _
      refine awp_regt hF hM (by kernel_rfl) (by kernel_rfl) ?_
      refine dv (gyes_none rfl) (q_mv (v := .string o) rfl) rfl (by decide) (cok1 trivial) ?_
      refine dv (gyes_none rfl) (q_field Try.underlying67 rfl Try.sizeOf25 rfl (s20.rd (j := 0) rfl)) rfl (by decide) (cok1 trivial) ?_
      refine dv (gyes_none rfl) (q_load (v := .int .u64 (((nth l i).1 : Nat) : Int)) Try.isAgg25 rfl (s20.rd (j := 0) rfl) rfl) rfl (by decide) (cok1 trivial) ?_
      refine dv (gyes_none rfl) (q_call0 Try.call24 rfl (rput_ok ((nth l i).1) 4 (by omega) (by omega))) rfl (by decide) (call_ok rfl) ?_
      refine dv (gyes_none rfl) (q_field Try.underlying67 rfl Try.sizeOf25 rfl (s20.rd (j := 0) rfl)) rfl (by decide) (cok1 trivial) ?_
      refine dv (gyes_none rfl) (q_load (v := .int .u64 (((nth l i).2.1 : Nat) : Int)) Try.isAgg25 rfl (s20.rd (j := 0) rfl) rfl) rfl (by decide) (cok1 trivial) ?_
      refine dv (gyes_none rfl) (q_call0 Try.call24 rfl (rput_ok ((nth l i).2.1) 4 (by omega) (by omega))) rfl (by decide) (call_ok rfl) ?_
      refine dv (gyes_none rfl) (q_cat rfl rfl (by simp only [size_append, putB_size, zerosB_size, show magicB.size = 7 from rfl]; omega)) rfl (by decide) (cok2 trivial trivial) ?_
      refine dv (gyes_none rfl) (q_field Try.underlying67 rfl Try.sizeOf25 rfl (s20.rd (j := 0) rfl)) rfl (by decide) (cok1 trivial) ?_
      refine dv (gyes_none rfl) (q_load (v := .int .u64 (((nth l i).2.2.1 : Nat) : Int)) Try.isAgg25 rfl (s20.rd (j := 0) rfl) rfl) rfl (by decide) (cok1 trivial) ?_
      refine dv (gyes_none rfl) (q_call0 Try.call24 rfl (rput_ok ((nth l i).2.2.1) 8 (by omega) (by omega))) rfl (by decide) (call_ok rfl) ?_
      refine dv (gyes_none rfl) (q_cat rfl rfl (by simp only [size_append, putB_size, zerosB_size, show magicB.size = 7 from rfl]; omega)) rfl (by decide) (cok2 trivial trivial) ?_
      refine dv (gyes_none rfl) (q_field Try.underlying67 rfl Try.sizeOf25 rfl (s20.rd (j := 0) rfl)) rfl (by decide) (cok1 trivial) ?_
      refine dv (gyes_none rfl) (q_load (v := .int .u64 (((nth l i).2.2.2.1 : Nat) : Int)) Try.isAgg25 rfl (s20.rd (j := 0) rfl) rfl) rfl (by decide) (cok1 trivial) ?_
      refine dv (gyes_none rfl) (q_call0 Try.call24 rfl (rput_ok ((nth l i).2.2.2.1) 8 (by omega) (by omega))) rfl (by decide) (call_ok rfl) ?_
      refine dv (gyes_none rfl) (q_cat rfl rfl (by simp only [size_append, putB_size, zerosB_size, show magicB.size = 7 from rfl]; omega)) rfl (by decide) (cok2 trivial trivial) ?_
      refine x_new (fun b => .slice (some ⟨b, 0, none⟩) 8 8) s20 (gyes_none rfl) (q_makeSlice1 (len := 8) (m := 8) rfl Try.underlying65 Try.typeInfo5 rfl Try.zeroValue5 rfl rfl rfl rfl (by omega) (by omega) (by show 1 * _ ≤ _; omega) (vs := (List.replicate 8 (0 : UInt8)).map bytv) (by simp [bytv])) rfl (by decide) (cok2 (cconst rfl) (cconst rfl)) (fun b21 H22 hb24 s23 => ?_)
      refine dv (gyes_none rfl) (OpQ.cast (v' := .string (zerosB 8)) (q_bytesl (l := List.replicate 8 (0 : UInt8)) Try.underlying65 Try.underlying9 Try.underlying5 rfl (s23.rd (j := 0) rfl) rfl) rfl) rfl (by decide) (cok1 trivial) ?_
      refine dv (gyes_none rfl) (q_cat rfl rfl (by simp only [size_append, putB_size, zerosB_size, show magicB.size = 7 from rfl]; omega)) rfl (by decide) (cok2 trivial trivial) ?_
      refine dv (gyes_none rfl) (q_field Try.underlying67 rfl Try.sizeOf25 rfl (s23.rd (j := 1) rfl)) rfl (by decide) (cok1 trivial) ?_
      refine dv (gyes_none rfl) (q_load (v := .int .u64 (((nth l i).2.2.2.2.1 : Nat) : Int)) Try.isAgg25 rfl (s23.rd (j := 1) rfl) rfl) rfl (by decide) (cok1 trivial) ?_
      refine dv (gyes_none rfl) (q_call0 Try.call24 rfl (rput_ok ((nth l i).2.2.2.2.1) 8 (by omega) (by omega))) rfl (by decide) (call_ok rfl) ?_
      refine dv (gyes_none rfl) (q_cat rfl rfl (by simp only [size_append, putB_size, zerosB_size, show magicB.size = 7 from rfl]; omega)) rfl (by decide) (cok2 trivial trivial) ?_
      refine dv (gyes_none rfl) (q_field Try.underlying67 rfl Try.sizeOf25 rfl (s23.rd (j := 1) rfl)) rfl (by decide) (cok1 trivial) ?_
      refine dv (gyes_none rfl) (q_load (v := .int .u64 (((nth l i).2.2.2.2.2 : Nat) : Int)) Try.isAgg25 rfl (s23.rd (j := 1) rfl) rfl) rfl (by decide) (cok1 trivial) ?_
      refine dv (gyes_none rfl) (q_call0 Try.call24 rfl (rput_ok ((nth l i).2.2.2.2.2) 8 (by omega) (by omega))) rfl (by decide) (call_ok rfl) ?_
      refine dv (gyes_none rfl) (q_cat rfl rfl (by simp only [size_append, putB_size, zerosB_size, show magicB.size = 7 from rfl]; omega)) rfl (by decide) (cok2 trivial trivial) ?_
      refine x_new (fun b => .slice (some ⟨b, 0, none⟩) 8 8) s23 (gyes_none rfl) (q_makeSlice1 (len := 8) (m := 8) rfl Try.underlying65 Try.typeInfo5 rfl Try.zeroValue5 rfl rfl rfl rfl (by omega) (by omega) (by show 1 * _ ≤ _; omega) (vs := (List.replicate 8 (0 : UInt8)).map bytv) (by simp [bytv])) rfl (by decide) (cok2 (cconst rfl) (cconst rfl)) (fun b25 H26 hb28 s27 => ?_)
      refine dv (gyes_none rfl) (OpQ.cast (v' := .string (zerosB 8)) (q_bytesl (l := List.replicate 8 (0 : UInt8)) Try.underlying65 Try.underlying9 Try.underlying5 rfl (s27.rd (j := 0) rfl) rfl) rfl) rfl (by decide) (cok1 trivial) ?_
      refine dv (gyes_none rfl) (q_cat rfl rfl (by simp only [size_append, putB_size, zerosB_size, show magicB.size = 7 from rfl]; omega)) rfl (by decide) (cok2 trivial trivial) ?_
      refine dv (gyes_none rfl) (q_cat rfl rfl (by simp only [size_append, putB_size, zerosB_size, show magicB.size = 7 from rfl]; omega)) rfl (by decide) (cok2 trivial trivial) ?_
      refine dv (gyes_none rfl) (q_as (v := .string (o ++ ((((((((putB ((nth l i).1) 4) ++ (putB ((nth l i).2.1) 4)) ++ (putB ((nth l i).2.2.1) 8)) ++ (putB ((nth l i).2.2.2.1) 8)) ++ (zerosB 8)) ++ (putB ((nth l i).2.2.2.2.1) 8)) ++ (putB ((nth l i).2.2.2.2.2) 8)) ++ (zerosB 8)))) rfl) rfl (by decide) (cok1 trivial) ?_
      refine ⟨_, Wk.refl _ _, ?_⟩
      show awp _ _ _ _ _ _ _
      refine awp_regs hF ?_
      refine dv (gyes_none rfl) (q_mv (v := .int .i64 ((i : Nat) : Int)) rfl) rfl (by decide) (cok1 trivial) ?_
      refine dv (gyes_none rfl) (OpQ.cast (v' := .int .i64 ((i + 1 : Nat) : Int)) (q_int rfl rfl rfl) (congrArg _ ((i64_in (by omega)).trans (by first | rfl | omega | (push_cast; rfl))))) rfl (by decide) (cok2 trivial (cconst rfl)) ?_
      refine dv (gyes_none rfl) (q_as (v := .int .i64 ((i + 1 : Nat) : Int)) rfl) rfl (by decide) (cok1 trivial) ?_
      refine ⟨_, Wk.U [(1, vR), (2, vD), (7, .string (o ++ ((((((((putB ((nth l i).1) 4) ++ (putB ((nth l i).2.1) 4)) ++ (putB ((nth l i).2.2.1) 8)) ++ (putB ((nth l i).2.2.2.1) 8)) ++ (zerosB 8)) ++ (putB ((nth l i).2.2.2.2.1) 8)) ++ (putB ((nth l i).2.2.2.2.2) 8)) ++ (zerosB 8)))), (8, .int .i64 (((i + 1) : Nat) : Int))] ⟨rfl, rfl, rfl, rfl, trivial⟩, ((i + 1), (o ++ ((((((((putB ((nth l i).1) 4) ++ (putB ((nth l i).2.1) 4)) ++ (putB ((nth l i).2.2.1) 8)) ++ (putB ((nth l i).2.2.2.1) 8)) ++ (zerosB 8)) ++ (putB ((nth l i).2.2.2.2.1) 8)) ++ (putB ((nth l i).2.2.2.2.2) 8)) ++ (zerosB 8)))), ⟨_, rfl, (s27.sub (.cons _ (.cons _ (.cons _ (.refl _))))), ⟨by rw [ho.1]; rfl, by omega⟩⟩, (by omega)⟩
    ·
      replace c1 := of_decide_eq_false c1
      refine ⟨_, Wk.refl _ _, ?_⟩
      show awp _ _ _ _ _ _ _
      refine awp_cond_f rfl ?_
      refine awp_exit_wk ?_
      refine ⟨_, Wk.refl _ _, ?_⟩
      show awp _ _ _ _ _ _ _
      refine awp_seq ?_
      refine awp_seq ?_
      refine awp_regs hF ?_
      refine dv (gyes_none rfl) (q_as (v := .int .i64 0) rfl) rfl (by decide) (cok1 (cconst rfl)) ?_
      refine ⟨_, Wk.refl _ _, ?_⟩
      show awp _ _ _ _ _ _ _
      refine awp_block ?_
      refine awp_wk (Wk.U [(2, vD), (7, .string o), (10, .int .i64 0)] ⟨rfl, rfl, rfl, trivial⟩) ?_
      refine awp_loop (fun ((i2, o2) : Nat × ByteArray) st => ∃ (H29 : AHeap), st = ⟨94, U [(2, vD), (7, .string o2), (10, .int .i64 ((i2 : Nat) : Int))], [], H29⟩ ∧ St H0 (none0) (Rd H0) H29 [] ∧ (o2 = packD e l d i2 ∧ i2 ≤ d.length)) (fun ((i2, o2) : Nat × ByteArray) => d.length - i2) (x0 := (0, o)) ?h0 ?round
      case h0 =>
        exact ⟨_, rfl, s14, ⟨by rw [ho.1, show i = l.length by omega]; rfl, Nat.zero_le _⟩⟩
      case round =>
        rintro ⟨i2, o2⟩ _ ⟨H29, rfl, s30, ho2⟩
        dsimp only at *
        have hos2 : o2.size ≤ 64 + 56 * l.length + i2 * 100000 := by rw [ho2.1]; exact packD_size e l d hdb i2 (by omega)
        refine awp_seq ?_
        refine awp_seq ?_
        refine awp_regs hF ?_
        refine dv (gyes_none rfl) (q_mv (v := .int .i64 ((i2 : Nat) : Int)) rfl) rfl (by decide) (cok1 trivial) ?_
        refine dv (gyes_none rfl) (q_mv (v := vD) rfl) rfl (by decide) (cok1 trivial) ?_
        refine dv (gyes_none rfl) (q_len_sl (l := d) Try.underlying69 (s30.sl hD) rfl) rfl (by decide) (cok1 trivial) ?_
        refine dvb (gyes_none rfl) (q_int rfl rfl rfl) rfl (by decide) (cok2 trivial trivial) (fun c2 => ?_) (fun c2 => ?_)
        ·
          replace c2 := of_decide_eq_true c2
          have hdx := hdb _ (nthN_mem (l := d) (k := i2) (by omega))
          refine ⟨_, Wk.refl _ _, ?_⟩
          show awp _ _ _ _ _ _ _
          refine awp_cond_t rfl ?_
          refine awp_skip_wk ?_
          refine ⟨_, Wk.refl _ _, ?_⟩
          show awp _ _ _ _ _ _ _
          refine awp_seq ?_
          refine awp_block ?_
          refine awp_regs hF ?_
          refine dv (gyes_none rfl) (q_mv (v := .string o2) rfl) rfl (by decide) (cok1 trivial) ?_
          refine dv (gyes_none rfl) (q_mv (v := vD) rfl) rfl (by decide) (cok1 trivial) ?_
          refine dv (gyes_none rfl) (q_mv (v := .int .i64 ((i2 : Nat) : Int)) rfl) rfl (by decide) (cok1 trivial) ?_
          refine dv (gyes_none rfl) (q_index_sl (l := d) (i := i2) Try.underlying69 Try.sizeOf9 (s30.sl hD) rfl rfl (by omega)) rfl (by decide) (cok2 trivial trivial) ?_
          refine dv (gyes_none rfl) (q_load_sl (l := d) (i := i2) Try.isAgg9 (s30.sl hD) rfl (by omega)) rfl (by decide) (cok1 trivial) ?_
          refine dv (gyes_none rfl) (q_cat rfl rfl (by show _ ≤ _; omega)) rfl (by decide) (cok2 trivial trivial) ?_
          refine dv (gyes_none rfl) (q_as (v := .string (o2 ++ (nth d i2))) rfl) rfl (by decide) (cok1 trivial) ?_
          refine ⟨_, Wk.refl _ _, ?_⟩
          show awp _ _ _ _ _ _ _
          refine awp_regs hF ?_
          refine dv (gyes_none rfl) (q_mv (v := .int .i64 ((i2 : Nat) : Int)) rfl) rfl (by decide) (cok1 trivial) ?_
          refine dv (gyes_none rfl) (OpQ.cast (v' := .int .i64 ((i2 + 1 : Nat) : Int)) (q_int rfl rfl rfl) (congrArg _ ((i64_in (by omega)).trans (by first | rfl | omega | (push_cast; rfl))))) rfl (by decide) (cok2 trivial (cconst rfl)) ?_
          refine dv (gyes_none rfl) (q_as (v := .int .i64 ((i2 + 1 : Nat) : Int)) rfl) rfl (by decide) (cok1 trivial) ?_
          refine ⟨_, Wk.U [(2, vD), (7, .string (o2 ++ (nth d i2))), (10, .int .i64 (((i2 + 1) : Nat) : Int))] ⟨rfl, rfl, rfl, trivial⟩, ((i2 + 1), (o2 ++ (nth d i2))), ⟨_, rfl, s30, ⟨by rw [ho2.1]; rfl, by omega⟩⟩, (by omega)⟩
        ·
          replace c2 := of_decide_eq_false c2
          refine ⟨_, Wk.refl _ _, ?_⟩
          show awp _ _ _ _ _ _ _
          refine awp_cond_f rfl ?_
          refine awp_exit_wk ?_
          refine ⟨_, Wk.refl _ _, ?_⟩
          show awp _ _ _ _ _ _ _
          refine awp_seq ?_
          refine awp_regs hF ?_
          refine dv (gyes_none rfl) (q_mv (v := .string o2) rfl) rfl (by decide) (cok1 trivial) ?_
          refine dv (gyes_none rfl) (q_as (v := .string o2) rfl) rfl (by decide) (cok1 trivial) ?_
          refine ⟨_, Wk.refl _ _, ?_⟩
          show awp _ _ _ _ _ _ _
          refine awp_ret_wk ?_
          refine ⟨_, Wk.refl _ _, ?_⟩
          repeat (with_reducible first | refine then_ret ?_ | refine blk_ret ?_ | refine then_exit ?_ | refine blk_exit ?_ | refine blk_exit' (by decide) ?_ | refine blk_normal ?_ | refine then_normal ?_ | refine retq_ret ?_ | refine retq_normal ?_ | refine ng_normal ?_ | refine ng_ret ?_ | refine ng_exit ?_)
          exact ret_none (v := .string o2) rfl s30.kp (.tmp rfl .nil) rfl rfl ⟨by rw [ho2.1, show i2 = d.length by omega]; rfl, rfl⟩
theorem hrL_b {s : ByteArray} : ∀ x ∈ hrL s, x.1 < 4294967296 ∧ x.2.1 < 8 ∧ SgB x := fun x hx => by
  unfold hrL at hx
  split at hx
  · obtain ⟨k, _, rfl⟩ := List.mem_map.1 hx
    exact ⟨lt4 s _, Nat.mod_lt _ (by decide), sgK_b k⟩
  · cases hx
theorem hr_all {s : ByteArray} (h : hrC s = 0) : hdE s = 0 ∧ (∀ j, j < hdN s → badK s j = false) ∧ ldK s (hdN s) ≠ 0 := by
  have h0 : hdE s = 0 := by
    refine Decidable.byContradiction fun h1 => ?_
    rw [(hr_hd h1).1] at h; exact h1 h
  have hx : ∀ j, j < hdN s → badK s j = false := by
    intro j hj
    cases e : badK s j
    · rfl
    · exfalso
      have hlt : hrX s < hdN s ∧ badK s (hrX s) = true := by
        unfold hrX firstK
        cases e2 : (List.range (hdN s)).find? (badK s) with
        | none => exact absurd e (by rw [List.find?_eq_none.1 e2 j (List.mem_range.2 hj) |> Bool.eq_false_iff.2]; exact fun h => nomatch h)
        | some i => exact ⟨List.mem_range.1 (List.mem_of_find?_eq_some e2), List.find?_some e2⟩
      unfold hrC at h
      rw [if_neg (fun h => h h0), if_pos hlt.1] at h
      have := hlt.2
      unfold badK at this
      rw [h] at this
      exact nomatch this
  refine ⟨h0, hx, fun hl => ?_⟩
  rw [(hr_none h0 hx hl).1] at h
  exact nomatch h
theorem hrL_len {s : ByteArray} : (hrL s).length ≤ 16 := by
  unfold hrL
  split
  · rename_i h
    rw [lsK_len]; exact (hdN_yes (hr_all h).1).2.2.1
  · exact Nat.zero_le _
theorem badK_z {s : ByteArray} {k : Nat} (h : badK s k = false) : wrongC s (sgK s k) (endK s k) = 0 := by
  unfold badK at h
  exact bne_eq_false_iff_eq.1 h
theorem hrL_low {s : ByteArray} : LowL (hrL s) := fun x hx h1 => by
  unfold hrL at hx
  split at hx
  · rename_i h
    obtain ⟨k, hk, rfl⟩ := List.mem_map.1 hx
    exact (wrong_ld (badK_z ((hr_all h).2.1 k (List.mem_range.1 hk))) h1).2.2.2.1
  · cases hx
theorem hrL_in {s : ByteArray} : InB s (hrL s) := fun x hx => by
  unfold hrL at hx
  split at hx
  · rename_i h
    obtain ⟨k, hk, rfl⟩ := List.mem_map.1 hx
    exact wrong_in (badK_z ((hr_all h).2.1 k (List.mem_range.1 hk)))
  · cases hx

end Go.Proofs.YthfndghgfabbjaaA


/-
  Walks of functions of the given program, and what they compute.
-/
namespace Go.Proofs.YthfndghgfabbjaaA
set_option linter.unusedVariables false
open Go Go.RowKit Go.Shelf Go.Proofs
abbrev DEnt := Nat × Nat
def entc (e : DEnt) : List Value := [.int .u64 ((e.1 : Nat) : Int), .int .u64 ((e.2 : Nat) : Int)]
theorem entc_w : Wm entc 2 := fun _ => rfl
theorem entc_sc : ∀ x, ∀ u ∈ entc x, Scalar u = true := fun x u hu => by simp [entc] at hu; rcases hu with rfl | rfl <;> rfl
def EntW (e : DEnt) : Prop := e.1 < 18446744073709551616 ∧ e.2 < 18446744073709551616
/-- The first byte 0. -/
def zB (s : ByteArray) : Nat := firstK (fun j => byt s j == 0) s.size
def cutV (s : ByteArray) : ByteArray × ByteArray × Bool := if zB s < s.size then (s.extract 0 (zB s), s.extract (zB s + 1) s.size, true) else (s, ⟨#[]⟩, false)
theorem indexByte_find (c : UInt8) : ∀ l : List UInt8, Go.Lib.indexByte l c = match l.findIdx? (· == c) with | some i => ((i : Nat) : Int) | none => -1
  | [] => rfl
  | b :: l => by
    have ih := indexByte_find c l
    rw [List.findIdx?_cons]
    unfold Go.Lib.indexByte
    cases e : (b == c) with
    | true => simp
    | false =>
      rw [ih]
      cases e2 : l.findIdx? (· == c) with
      | none => simp
      | some i =>
        simp only [Bool.false_eq_true, if_false, Option.map_some]
        rw [if_neg (by rw [beq_iff_eq]; omega)]
        simp
theorem firstK_none {p : Nat → Bool} {n : Nat} (h : ¬ firstK p n < n) : ∀ j, j < n → p j = false := fun j hj => by
  unfold firstK at h
  cases e : (List.range n).find? p with
  | none => exact Bool.eq_false_iff.2 (List.find?_eq_none.1 e j (List.mem_range.2 hj))
  | some i => rw [e] at h; exact absurd (List.mem_range.1 (List.mem_of_find?_eq_some e)) h
theorem byt_get {s : ByteArray} {i : Nat} (h : i < s.data.toList.length) : byt s i = (s.data.toList[i]).toNat := by
  unfold byt; rw [List.getD_eq_getElem?_getD, List.getElem?_eq_getElem h]; rfl
theorem indexByte_z (s : ByteArray) : Go.Lib.indexByte s.data.toList 0 = if zB s < s.size then ((zB s : Nat) : Int) else -1 := by
  rw [indexByte_find]
  have hl : s.data.toList.length = s.size := by simp
  cases e : s.data.toList.findIdx? (· == 0) with
  | none =>
    have h : zB s = s.size := firstK_no fun j hj => by
      have h1 := List.findIdx?_eq_none_iff.1 e _ (List.getElem_mem (by omega : j < s.data.toList.length))
      rw [byt_get (by omega)]
      rw [beq_eq_false_iff_ne] at h1 ⊢
      exact fun h2 => h1 (UInt8.toNat_inj.1 h2)
    rw [h, if_neg (Nat.lt_irrefl _)]
  | some i =>
    obtain ⟨h1, h2, h3⟩ := List.findIdx?_eq_some_iff_getElem.1 e
    have h : zB s = i := firstK_yes (by omega) (by rw [byt_get h1, eq_of_beq h2]; rfl) fun j hj => by
      have h4 := h3 j hj
      rw [byt_get (by omega), beq_eq_false_iff_ne]
      exact fun h5 => h4 (beq_iff_eq.2 (UInt8.toNat_inj.1 h5))
    rw [h, if_pos (by omega)]
theorem cut_z (s : ByteArray) : Go.Proofs.YthfndghgfabbjaaCut.cut1 s 0 = cutV s := by
  unfold Go.Proofs.YthfndghgfabbjaaCut.cut1 cutV
  rw [indexByte_z]
  by_cases h : zB s < s.size
  · rw [if_pos h, if_pos (by omega), if_pos h]; rfl
  · rw [if_neg h, if_neg (by omega), if_neg h]
theorem below_drewN (w : World) (n : Nat) : Below w.heap.size w (w.drewN n) := ⟨rfl, rfl, rfl, Nat.le_refl _, fun _ _ => rfl⟩
theorem cut_ok {H0 : AHeap} (s : ByteArray) (hs : s.size ≤ 140737488351232) : ACalls Try.prog 48 [.string s, .string (⟨#[0]⟩ : ByteArray)] H0 (Rets (.tuple #[.string (cutV s).1, .string (cutV s).2.1, .bool (cutV s).2.2]) H0) := by
  rw [← cut_z]
  refine acalls_of_world rfl rfl (fun w => (Go.Proofs.YthfndghgfabbjaaCut.cut_calls s 0 w hs).mono ?_) H0
  rintro e w' ⟨rfl, n, rfl⟩
  exact ⟨rfl, below_drewN w n⟩
def textV (s : ByteArray) (a m : Nat) : ByteArray × Bool := if s.size < a then (⟨#[]⟩, false) else if zB (s.extract a s.size) < s.size - a ∧ zB (s.extract a s.size) ≤ m then (s.extract a (a + zB (s.extract a s.size)), true) else (⟨#[]⟩, false)
theorem ext_ext {b : ByteArray} {i j x y : Nat} (h : y ≤ j - i) : (b.extract i j).extract x y = b.extract (i + x) (i + y) := bl_inj (by
  rw [bl_extract, bl_extract, bl_extract, List.drop_take, List.take_take, List.drop_drop, show i + y - (i + x) = min (y - x) (j - i - x) by omega])
theorem byt_ext {s : ByteArray} {a i : Nat} (h : a + i < s.size) : byt (s.extract a s.size) i = byt s (a + i) := by
  unfold byt
  have h1 : (s.extract a s.size).data.toList = (s.data.toList.drop a).take (s.size - a) := bl_extract s a s.size
  rw [h1, List.getD_eq_getElem?_getD, List.getElem?_take, if_pos (by omega), List.getElem?_drop, ← List.getD_eq_getElem?_getD]
theorem textV_no {s : ByteArray} {a m : Nat} (ha : a ≤ s.size) (h : ¬ (zB (s.extract a s.size) < s.size - a ∧ zB (s.extract a s.size) ≤ m)) : textV s a m = (⟨#[]⟩, false) := by unfold textV; rw [if_neg (by omega), if_neg h]
theorem textV_yes {s : ByteArray} {a m : Nat} (ha : a ≤ s.size) (h1 : zB (s.extract a s.size) < s.size - a) (h2 : zB (s.extract a s.size) ≤ m) : textV s a m = (s.extract a (a + zB (s.extract a s.size)), true) := by unfold textV; rw [if_neg (by omega), if_pos ⟨h1, h2⟩]
theorem cutV_t {s : ByteArray} {a : Nat} (ha : a ≤ s.size) (h : (cutV (s.extract a s.size)).2.2 = true) : zB (s.extract a s.size) < s.size - a ∧ (cutV (s.extract a s.size)).1 = s.extract a (a + zB (s.extract a s.size)) := by
  have hs : (s.extract a s.size).size = s.size - a := size_extract (Nat.le_refl _)
  unfold cutV at h ⊢
  by_cases h1 : zB (s.extract a s.size) < (s.extract a s.size).size
  · rw [if_pos h1]
    refine ⟨by omega, ?_⟩
    show (s.extract a s.size).extract 0 (zB (s.extract a s.size)) = _
    rw [ext_ext (by omega)]; rfl
  · rw [if_neg h1] at h; cases h
theorem cutV_f {s : ByteArray} {a m : Nat} (ha : a ≤ s.size) (h : (cutV (s.extract a s.size)).2.2 = false) : ¬ (zB (s.extract a s.size) < s.size - a ∧ zB (s.extract a s.size) ≤ m) := by
  have hs : (s.extract a s.size).size = s.size - a := size_extract (Nat.le_refl _)
  unfold cutV at h
  by_cases h1 : zB (s.extract a s.size) < (s.extract a s.size).size
  · rw [if_pos h1] at h; cases h
  · omega
set_option maxRecDepth 100000 in
set_option maxHeartbeats 4000000 in
theorem leText_ok {H0 : AHeap} (s : ByteArray) (a m : Nat) (hs : s.size ≤ 140737488351232) (ha : a < 18446744073709551616) (hm : m ≤ 1000000) : ACalls Try.prog 41 [.string s, .int .u64 ((a : Nat) : Int), .int .i64 ((m : Nat) : Int)] H0 (Rets (.tuple #[.string (textV s a m).1, .bool (textV s a m).2]) H0) := by
  have hF : Wd Fence.wide := .inl rfl
  have hM : Try.prog.follows .mixedOrders = true := by kernel_rfl
  have s0 := St.begin H0
  refine acalls_st Try.func41 rfl Try.ntmps41 rfl ?_
  refine awp_seq ?_
  refine awp_regs hF ?_
  refine dv (gyes_none rfl) (q_as (v := .string (⟨#[]⟩ : ByteArray)) rfl) rfl (by decide) (cok1 (cconst rfl)) ?_
  refine dv (gyes_none rfl) (q_as (v := .bool false) rfl) rfl (by decide) (cok1 (cconst rfl)) ?_
  refine ⟨_, Wk.refl _ _, ?_⟩
  show awp _ _ _ _ _ _ _
  refine awp_seq ?_
  refine awp_seq ?_
  refine awp_regs hF ?_
  refine dv (gyes_none rfl) (q_mv (v := .int .u64 ((a : Nat) : Int)) rfl) rfl (by decide) (cok1 trivial) ?_
  refine dv (gyes_none rfl) (q_mv (v := .string s) rfl) rfl (by decide) (cok1 trivial) ?_
  refine dv (gyes_none rfl) (q_len_str Try.underlying9 rfl) rfl (by decide) (cok1 trivial) ?_
  refine dv (gyes_none rfl) (q_convin (a := ((s.size : Nat) : Int)) Try.underlying3 Try.underlying25 rfl (u64_in (by omega))) rfl (by decide) (cok1 trivial) ?_
  refine dvb (gyes_none rfl) (q_int rfl rfl rfl) rfl (by decide) (cok2 trivial trivial) (fun c1 => ?_) (fun c1 => ?_)
  ·
    replace c1 := of_decide_eq_true c1
    refine ⟨_, Wk.refl _ _, ?_⟩
    show awp _ _ _ _ _ _ _
    refine awp_cond_t rfl ?_
    refine awp_seq ?_
    refine awp_regs hF ?_
    refine dv (gyes_none rfl) (q_as (v := .string (⟨#[]⟩ : ByteArray)) rfl) rfl (by decide) (cok1 (cconst rfl)) ?_
    refine dv (gyes_none rfl) (q_as (v := .bool false) rfl) rfl (by decide) (cok1 (cconst rfl)) ?_
    refine ⟨_, Wk.refl _ _, ?_⟩
    show awp _ _ _ _ _ _ _
    refine awp_ret_wk ?_
    refine ⟨_, Wk.refl _ _, ?_⟩
    repeat (with_reducible first | refine then_ret ?_ | refine blk_ret ?_ | refine then_exit ?_ | refine blk_exit ?_ | refine blk_exit' (by decide) ?_ | refine blk_normal ?_ | refine then_normal ?_ | refine retq_ret ?_ | refine retq_normal ?_ | refine ng_normal ?_ | refine ng_ret ?_ | refine ng_exit ?_)
    exact ret_none (v := .tuple #[.string (⟨#[]⟩ : ByteArray), .bool false]) rfl s0.kp (.tmp rfl (.tmp rfl .nil)) rfl rfl ⟨by rw [textV, if_pos (by omega)], rfl⟩
  ·
    replace c1 := of_decide_eq_false c1
    refine ⟨_, Wk.refl _ _, ?_⟩
    show awp _ _ _ _ _ _ _
    refine awp_cond_f rfl ?_
    refine awp_skip_wk ?_
    refine ⟨_, Wk.refl _ _, ?_⟩
    show awp _ _ _ _ _ _ _
    refine awp_seq ?_
    refine awp_regs hF ?_
    refine dv (gyes_none rfl) (q_mv (v := .string s) rfl) rfl (by decide) (cok1 trivial) ?_
    refine dv (gyes_none rfl) (q_mv (v := .int .u64 ((a : Nat) : Int)) rfl) rfl (by decide) (cok1 trivial) ?_
    refine dv (gyes_none rfl) (q_substr (i := a) (j := s.size) Try.underlying9 rfl ⟨_, rfl⟩ rfl (by omega) (by omega)) rfl (by decide) (cok2 trivial trivial) ?_
    refine dv (gyes_none rfl) (q_call0 Try.call48 rfl (cut_ok (s.extract a s.size) (by rw [size_extract (by omega)]; omega))) rfl (by decide) (call_ok rfl) ?_
    refine dv (gyes_none rfl) (q_mv (v := .tuple #[.string ((cutV (s.extract a s.size)).1), .string ((cutV (s.extract a s.size)).2.1), .bool ((cutV (s.extract a s.size)).2.2)]) rfl) rfl (by decide) (cok1 trivial) ?_
    refine dv (gyes_none rfl) (q_extract (v := .string ((cutV (s.extract a s.size)).1)) rfl rfl) rfl (by decide) (cok1 trivial) ?_
    refine dv (gyes_none rfl) (q_extract (v := .string ((cutV (s.extract a s.size)).2.1)) rfl rfl) rfl (by decide) (cok1 trivial) ?_
    refine dvb (gyes_none rfl) (q_extract (v := .bool ((cutV (s.extract a s.size)).2.2)) rfl rfl) rfl (by decide) (cok1 trivial) (fun c2 => ?_) (fun c2 => ?_)
    ·
      obtain ⟨hz1, hcz⟩ := cutV_t (by omega) c2
      have hzs : (cutV (s.extract a s.size)).1.size = zB (s.extract a s.size) := by rw [hcz, size_extract (by omega)]; omega
      refine dv (gyes_none rfl) (q_as (v := .string ((cutV (s.extract a s.size)).1)) rfl) rfl (by decide) (cok1 trivial) ?_
      refine dv (gyes_none rfl) (q_as (v := .string ((cutV (s.extract a s.size)).2.1)) rfl) rfl (by decide) (cok1 trivial) ?_
      refine dv (gyes_none rfl) (q_as (v := .bool true) rfl) rfl (by decide) (cok1 trivial) ?_
      refine ⟨_, Wk.refl _ _, ?_⟩
      show awp _ _ _ _ _ _ _
      refine awp_seq ?_
      refine awp_seq ?_
      refine awp_regs hF ?_
      refine dv (gyes_none rfl) (q_mv (v := .bool true) rfl) rfl (by decide) (cok1 trivial) ?_
      refine dv (gyes_none rfl) (q_not (b := true) rfl) rfl (by decide) (cok1 trivial) ?_
      refine dv (gyes_none rfl) (q_mv (v := .bool false) rfl) rfl (by decide) (cok1 trivial) ?_
      refine dv (gyes_some rfl rfl) (q_mv (v := .string ((cutV (s.extract a s.size)).1)) rfl) rfl (by decide) (cok1 trivial) ?_
      refine dv (gyes_some rfl rfl) (q_len_str Try.underlying9 rfl) rfl (by decide) (cok1 trivial) ?_
      refine dv (gyes_some rfl rfl) (q_mv (v := .int .i64 ((m : Nat) : Int)) rfl) rfl (by decide) (cok1 trivial) ?_
      refine dvb (gyes_some rfl rfl) (q_int rfl rfl rfl) rfl (by decide) (cok2 trivial trivial) (fun c3 => ?_) (fun c3 => ?_)
      ·
        replace c3 := of_decide_eq_true c3
        have hx : ¬ (zB (s.extract a s.size) < s.size - a ∧ zB (s.extract a s.size) ≤ m) := by omega
        refine dv (gyes_none rfl) (q_pf (v := .bool true) rfl rfl) rfl (by decide) (call_ok rfl) ?_
        refine ⟨_, Wk.refl _ _, ?_⟩
        show awp _ _ _ _ _ _ _
        refine awp_cond_t rfl ?_
        refine awp_seq ?_
        refine awp_regs hF ?_
        refine dv (gyes_none rfl) (q_as (v := .string (⟨#[]⟩ : ByteArray)) rfl) rfl (by decide) (cok1 (cconst rfl)) ?_
        refine dv (gyes_none rfl) (q_as (v := .bool false) rfl) rfl (by decide) (cok1 (cconst rfl)) ?_
        refine ⟨_, Wk.refl _ _, ?_⟩
        show awp _ _ _ _ _ _ _
        refine awp_ret_wk ?_
        refine ⟨_, Wk.refl _ _, ?_⟩
        repeat (with_reducible first | refine then_ret ?_ | refine blk_ret ?_ | refine then_exit ?_ | refine blk_exit ?_ | refine blk_exit' (by decide) ?_ | refine blk_normal ?_ | refine then_normal ?_ | refine retq_ret ?_ | refine retq_normal ?_ | refine ng_normal ?_ | refine ng_ret ?_ | refine ng_exit ?_)
        exact ret_none (v := .tuple #[.string (⟨#[]⟩ : ByteArray), .bool false]) rfl s0.kp (.tmp rfl (.tmp rfl .nil)) rfl rfl ⟨by rw [textV_no (by omega) hx], rfl⟩
      ·
        replace c3 := of_decide_eq_false c3
        refine dv (gyes_none rfl) (q_pf (v := .bool false) rfl rfl) rfl (by decide) (call_ok rfl) ?_
        refine ⟨_, Wk.refl _ _, ?_⟩
        show awp _ _ _ _ _ _ _
        refine awp_cond_f rfl ?_
        refine awp_skip_wk ?_
        refine ⟨_, Wk.refl _ _, ?_⟩
        show awp _ _ _ _ _ _ _
        refine awp_seq ?_
        refine awp_regs hF ?_
        refine dv (gyes_none rfl) (q_mv (v := .string ((cutV (s.extract a s.size)).1)) rfl) rfl (by decide) (cok1 trivial) ?_
        refine dv (gyes_none rfl) (q_as (v := .string ((cutV (s.extract a s.size)).1)) rfl) rfl (by decide) (cok1 trivial) ?_
        refine dv (gyes_none rfl) (q_as (v := .bool true) rfl) rfl (by decide) (cok1 (cconst rfl)) ?_
        refine ⟨_, Wk.refl _ _, ?_⟩
        show awp _ _ _ _ _ _ _
        refine awp_ret_wk ?_
        refine ⟨_, Wk.refl _ _, ?_⟩
        repeat (with_reducible first | refine then_ret ?_ | refine blk_ret ?_ | refine then_exit ?_ | refine blk_exit ?_ | refine blk_exit' (by decide) ?_ | refine blk_normal ?_ | refine then_normal ?_ | refine retq_ret ?_ | refine retq_normal ?_ | refine ng_normal ?_ | refine ng_ret ?_ | refine ng_exit ?_)
        exact ret_none (v := .tuple #[.string ((cutV (s.extract a s.size)).1), .bool true]) rfl s0.kp (.tmp rfl (.tmp rfl .nil)) rfl rfl ⟨by rw [textV_yes (by omega) hz1 (by omega), hcz], rfl⟩
    ·
      have hx := cutV_f (m := m) (by omega) c2
      refine dv (gyes_none rfl) (q_as (v := .string ((cutV (s.extract a s.size)).1)) rfl) rfl (by decide) (cok1 trivial) ?_
      refine dv (gyes_none rfl) (q_as (v := .string ((cutV (s.extract a s.size)).2.1)) rfl) rfl (by decide) (cok1 trivial) ?_
      refine dv (gyes_none rfl) (q_as (v := .bool false) rfl) rfl (by decide) (cok1 trivial) ?_
      refine ⟨_, Wk.refl _ _, ?_⟩
      show awp _ _ _ _ _ _ _
      refine awp_seq ?_
      refine awp_seq ?_
      refine awp_regs hF ?_
      refine dv (gyes_none rfl) (q_mv (v := .bool false) rfl) rfl (by decide) (cok1 trivial) ?_
      refine dv (gyes_none rfl) (q_not (b := false) rfl) rfl (by decide) (cok1 trivial) ?_
      refine dv (gyes_none rfl) (q_mv (v := .bool true) rfl) rfl (by decide) (cok1 trivial) ?_
      refine dno rfl (.inl rfl) rfl (by decide) ?_
      refine dno rfl (.inl rfl) rfl (by decide) ?_
      refine dno rfl (.inl rfl) rfl (by decide) ?_
      refine dno rfl (.inl rfl) rfl (by decide) ?_
      refine dv (gyes_none rfl) (q_pt (v := .bool true) rfl rfl) rfl (by decide) (call_ok rfl) ?_
      refine ⟨_, Wk.refl _ _, ?_⟩
      show awp _ _ _ _ _ _ _
      refine awp_cond_t rfl ?_
      refine awp_seq ?_
      refine awp_regs hF ?_
      refine dv (gyes_none rfl) (q_as (v := .string (⟨#[]⟩ : ByteArray)) rfl) rfl (by decide) (cok1 (cconst rfl)) ?_
      refine dv (gyes_none rfl) (q_as (v := .bool false) rfl) rfl (by decide) (cok1 (cconst rfl)) ?_
      refine ⟨_, Wk.refl _ _, ?_⟩
      show awp _ _ _ _ _ _ _
      refine awp_ret_wk ?_
      refine ⟨_, Wk.refl _ _, ?_⟩
      repeat (with_reducible first | refine then_ret ?_ | refine blk_ret ?_ | refine then_exit ?_ | refine blk_exit ?_ | refine blk_exit' (by decide) ?_ | refine blk_normal ?_ | refine then_normal ?_ | refine retq_ret ?_ | refine retq_normal ?_ | refine ng_normal ?_ | refine ng_ret ?_ | refine ng_exit ?_)
      exact ret_none (v := .tuple #[.string (⟨#[]⟩ : ByteArray), .bool false]) rfl s0.kp (.tmp rfl (.tmp rfl .nil)) rfl rfl ⟨by rw [textV_no (by omega) hx], rfl⟩
set_option maxRecDepth 100000 in
set_option maxHeartbeats 4000000 in
theorem rText_ok {H0 : AHeap} (s : ByteArray) (a m : Nat) (hs : s.size ≤ 140737488351232) (ha : a < 18446744073709551616) (hm : m ≤ 1000000) : ACalls Try.prog 22 [.string s, .int .u64 ((a : Nat) : Int), .int .i64 ((m : Nat) : Int)] H0 (Rets (.tuple #[.string (textV s a m).1, .bool (textV s a m).2]) H0) := by
  have hF : Wd Fence.wide := .inl rfl
  have hM : Try.prog.follows .mixedOrders = true := by kernel_rfl
  have s0 := St.begin H0
  refine acalls_st Try.func22 rfl Try.ntmps22 rfl ?_
  refine awp_seq ?_
  refine awp_regs hF ?_
  refine dv (gyes_none rfl) (q_as (v := .string (⟨#[]⟩ : ByteArray)) rfl) rfl (by decide) (cok1 (cconst rfl)) ?_
  refine dv (gyes_none rfl) (q_as (v := .bool false) rfl) rfl (by decide) (cok1 (cconst rfl)) ?_
  refine ⟨_, Wk.refl _ _, ?_⟩
  show awp _ _ _ _ _ _ _
  refine awp_seq ?_
  refine awp_seq ?_
  refine awp_regs hF ?_
  refine dv (gyes_none rfl) (q_mv (v := .int .u64 ((a : Nat) : Int)) rfl) rfl (by decide) (cok1 trivial) ?_
  refine dv (gyes_none rfl) (q_mv (v := .string s) rfl) rfl (by decide) (cok1 trivial) ?_
  refine dv (gyes_none rfl) (q_len_str Try.underlying9 rfl) rfl (by decide) (cok1 trivial) ?_
  refine dv (gyes_none rfl) (q_convin (a := ((s.size : Nat) : Int)) Try.underlying3 Try.underlying25 rfl (u64_in (by omega))) rfl (by decide) (cok1 trivial) ?_
  refine dvb (gyes_none rfl) (q_int rfl rfl rfl) rfl (by decide) (cok2 trivial trivial) (fun c1 => ?_) (fun c1 => ?_)
  ·
    replace c1 := of_decide_eq_true c1
    refine ⟨_, Wk.refl _ _, ?_⟩
    show awp _ _ _ _ _ _ _
    refine awp_cond_t rfl ?_
    refine awp_seq ?_
    refine awp_regs hF ?_
    refine dv (gyes_none rfl) (q_as (v := .string (⟨#[]⟩ : ByteArray)) rfl) rfl (by decide) (cok1 (cconst rfl)) ?_
    refine dv (gyes_none rfl) (q_as (v := .bool false) rfl) rfl (by decide) (cok1 (cconst rfl)) ?_
    refine ⟨_, Wk.refl _ _, ?_⟩
    show awp _ _ _ _ _ _ _
    refine awp_ret_wk ?_
    refine ⟨_, Wk.refl _ _, ?_⟩
    repeat (with_reducible first | refine then_ret ?_ | refine blk_ret ?_ | refine then_exit ?_ | refine blk_exit ?_ | refine blk_exit' (by decide) ?_ | refine blk_normal ?_ | refine then_normal ?_ | refine retq_ret ?_ | refine retq_normal ?_ | refine ng_normal ?_ | refine ng_ret ?_ | refine ng_exit ?_)
    exact ret_none (v := .tuple #[.string (⟨#[]⟩ : ByteArray), .bool false]) rfl s0.kp (.tmp rfl (.tmp rfl .nil)) rfl rfl ⟨by rw [textV, if_pos (by omega)], rfl⟩
  ·
    replace c1 := of_decide_eq_false c1
    refine ⟨_, Wk.refl _ _, ?_⟩
    show awp _ _ _ _ _ _ _
    refine awp_cond_f rfl ?_
    refine awp_skip_wk ?_
    refine ⟨_, Wk.refl _ _, ?_⟩
    show awp _ _ _ _ _ _ _
    refine awp_seq ?_
    refine awp_seq ?_
    refine awp_regs hF ?_
    refine dv (gyes_none rfl) (q_mv (v := .int .u64 ((a : Nat) : Int)) rfl) rfl (by decide) (cok1 trivial) ?_
    refine dv (gyes_none rfl) (q_convin (a := ((a : Nat) : Int)) Try.underlying25 Try.underlying3 rfl (i64_in (by omega))) rfl (by decide) (cok1 trivial) ?_
    refine dv (gyes_none rfl) (q_as (v := .int .i64 ((a : Nat) : Int)) rfl) rfl (by decide) (cok1 trivial) ?_
    refine ⟨_, Wk.refl _ _, ?_⟩
    show awp _ _ _ _ _ _ _
    refine awp_block ?_
    refine awp_wk (Wk.U [(0, .string s), (1, .int .u64 ((a : Nat) : Int)), (2, .int .i64 ((m : Nat) : Int)), (8, .int .i64 ((a : Nat) : Int))] ⟨rfl, rfl, rfl, rfl, trivial⟩) ?_
    refine awp_loop (fun (i : Nat) st => ∃ (H1 : AHeap), st = ⟨37, U [(0, .string s), (1, .int .u64 ((a : Nat) : Int)), (2, .int .i64 ((m : Nat) : Int)), (8, .int .i64 ((i : Nat) : Int))], [], H1⟩ ∧ St H0 (none0) (Rd H0) H1 [] ∧ (a ≤ i ∧ i ≤ s.size ∧ ∀ j, j < i - a → (byt (s.extract a s.size) j == 0) = false)) (fun (i : Nat) => s.size - i) (x0 := (a)) ?h0 ?round
    case h0 =>
      exact ⟨_, rfl, s0, ⟨Nat.le_refl _, by omega, fun j h => by omega⟩⟩
    case round =>
      rintro i _ ⟨H1, rfl, s2, hi⟩
      have hsx : (s.extract a s.size).size = s.size - a := size_extract (Nat.le_refl _)
      refine awp_seq ?_
      refine awp_seq ?_
      refine awp_regs hF ?_
      refine dv (gyes_none rfl) (q_mv (v := .int .i64 ((i : Nat) : Int)) rfl) rfl (by decide) (cok1 trivial) ?_
      refine dv (gyes_none rfl) (q_mv (v := .string s) rfl) rfl (by decide) (cok1 trivial) ?_
      refine dv (gyes_none rfl) (q_len_str Try.underlying9 rfl) rfl (by decide) (cok1 trivial) ?_
      refine dvb (gyes_none rfl) (q_int rfl rfl rfl) rfl (by decide) (cok2 trivial trivial) (fun c2 => ?_) (fun c2 => ?_)
      ·
        replace c2 := of_decide_eq_true c2
        refine ⟨_, Wk.refl _ _, ?_⟩
        show awp _ _ _ _ _ _ _
        refine awp_cond_t rfl ?_
        refine awp_skip_wk ?_
        refine ⟨_, Wk.refl _ _, ?_⟩
        show awp _ _ _ _ _ _ _
        refine awp_seq ?_
        refine awp_block ?_
        refine awp_seq ?_
        refine awp_regs hF ?_
        refine dv (gyes_none rfl) (q_mv (v := .string s) rfl) rfl (by decide) (cok1 trivial) ?_
        refine dv (gyes_none rfl) (q_mv (v := .int .i64 ((i : Nat) : Int)) rfl) rfl (by decide) (cok1 trivial) ?_
        refine dv (gyes_none rfl) (q_byt (i := i) Try.underlying9 rfl rfl (by omega)) rfl (by decide) (cok2 trivial trivial) ?_
        refine dvb (gyes_none rfl) (q_int rfl rfl rfl) rfl (by decide) (cok2 trivial (cconst rfl)) (fun c3 => ?_) (fun c3 => ?_)
        ·
          replace c3 := eq_of_beq c3
          have hz : zB (s.extract a s.size) = i - a := firstK_yes (by omega) (by rw [byt_ext (by omega), show a + (i - a) = i by omega]; exact beq_iff_eq.2 (by omega)) hi.2.2
          refine ⟨_, Wk.refl _ _, ?_⟩
          show awp _ _ _ _ _ _ _
          refine awp_cond_t rfl ?_
          refine awp_seq ?_
          refine awp_seq ?_
          refine awp_regs hF ?_
          refine dv (gyes_none rfl) (q_mv (v := .int .i64 ((i : Nat) : Int)) rfl) rfl (by decide) (cok1 trivial) ?_
          refine dv (gyes_none rfl) (q_mv (v := .int .u64 ((a : Nat) : Int)) rfl) rfl (by decide) (cok1 trivial) ?_
          refine dv (gyes_none rfl) (q_convin (a := ((a : Nat) : Int)) Try.underlying25 Try.underlying3 rfl (i64_in (by omega))) rfl (by decide) (cok1 trivial) ?_
          refine dv (gyes_none rfl) (OpQ.cast (v' := .int .i64 ((i - a : Nat) : Int)) (q_int rfl rfl rfl) (congrArg _ ((i64_in (by omega)).trans (by omega)))) rfl (by decide) (cok2 trivial trivial) ?_
          refine dv (gyes_none rfl) (q_mv (v := .int .i64 ((m : Nat) : Int)) rfl) rfl (by decide) (cok1 trivial) ?_
          refine dvb (gyes_none rfl) (q_int rfl rfl rfl) rfl (by decide) (cok2 trivial trivial) (fun c4 => ?_) (fun c4 => ?_)
          ·
            replace c4 := of_decide_eq_true c4
            refine ⟨_, Wk.refl _ _, ?_⟩
            show awp _ _ _ _ _ _ _
            refine awp_cond_t rfl ?_
            refine awp_seq ?_
            refine awp_regs hF ?_
            refine dv (gyes_none rfl) (q_as (v := .string (⟨#[]⟩ : ByteArray)) rfl) rfl (by decide) (cok1 (cconst rfl)) ?_
            refine dv (gyes_none rfl) (q_as (v := .bool false) rfl) rfl (by decide) (cok1 (cconst rfl)) ?_
            refine ⟨_, Wk.refl _ _, ?_⟩
            show awp _ _ _ _ _ _ _
            refine awp_ret_wk ?_
            refine ⟨_, Wk.refl _ _, ?_⟩
            repeat (with_reducible first | refine then_ret ?_ | refine blk_ret ?_ | refine then_exit ?_ | refine blk_exit ?_ | refine blk_exit' (by decide) ?_ | refine blk_normal ?_ | refine then_normal ?_ | refine retq_ret ?_ | refine retq_normal ?_ | refine ng_normal ?_ | refine ng_ret ?_ | refine ng_exit ?_)
            exact ret_none (v := .tuple #[.string (⟨#[]⟩ : ByteArray), .bool false]) rfl s2.kp (.tmp rfl (.tmp rfl .nil)) rfl rfl ⟨by rw [textV_no (by omega) (by rw [hz]; omega)], rfl⟩
          ·
            replace c4 := of_decide_eq_false c4
            refine ⟨_, Wk.refl _ _, ?_⟩
            show awp _ _ _ _ _ _ _
            refine awp_cond_f rfl ?_
            refine awp_skip_wk ?_
            refine ⟨_, Wk.refl _ _, ?_⟩
            show awp _ _ _ _ _ _ _
            refine awp_seq ?_
            refine awp_regs hF ?_
            refine dv (gyes_none rfl) (q_mv (v := .string s) rfl) rfl (by decide) (cok1 trivial) ?_
            refine dv (gyes_none rfl) (q_mv (v := .int .u64 ((a : Nat) : Int)) rfl) rfl (by decide) (cok1 trivial) ?_
            refine dv (gyes_none rfl) (q_convin (a := ((a : Nat) : Int)) Try.underlying25 Try.underlying3 rfl (i64_in (by omega))) rfl (by decide) (cok1 trivial) ?_
            refine dv (gyes_none rfl) (q_mv (v := .int .i64 ((i : Nat) : Int)) rfl) rfl (by decide) (cok1 trivial) ?_
            refine dv (gyes_none rfl) (q_substr (i := a) (j := i) Try.underlying9 rfl ⟨_, rfl⟩ ⟨_, rfl⟩ (by omega) (by omega)) rfl (by decide) (call_ok rfl) ?_
            refine dv (gyes_none rfl) (q_as (v := .string (s.extract a i)) rfl) rfl (by decide) (cok1 trivial) ?_
            refine dv (gyes_none rfl) (q_as (v := .bool true) rfl) rfl (by decide) (cok1 (cconst rfl)) ?_
            refine ⟨_, Wk.refl _ _, ?_⟩
            show awp _ _ _ _ _ _ _
            refine awp_ret_wk ?_
            refine ⟨_, Wk.refl _ _, ?_⟩
            repeat (with_reducible first | refine then_ret ?_ | refine blk_ret ?_ | refine then_exit ?_ | refine blk_exit ?_ | refine blk_exit' (by decide) ?_ | refine blk_normal ?_ | refine then_normal ?_ | refine retq_ret ?_ | refine retq_normal ?_ | refine ng_normal ?_ | refine ng_ret ?_ | refine ng_exit ?_)
            exact ret_none (v := .tuple #[.string (s.extract a i), .bool true]) rfl s2.kp (.tmp rfl (.tmp rfl .nil)) rfl rfl ⟨by rw [textV_yes (by omega) (by rw [hz]; omega) (by rw [hz]; omega), hz, show a + (i - a) = i by omega], rfl⟩
        ·
          replace c3 := ne_of_beq_false c3
          refine ⟨_, Wk.refl _ _, ?_⟩
          show awp _ _ _ _ _ _ _
          refine awp_cond_f rfl ?_
          refine awp_skip_wk ?_
          refine ⟨_, Wk.refl _ _, ?_⟩
          show awp _ _ _ _ _ _ _
          refine awp_regs hF ?_
          refine dv (gyes_none rfl) (q_mv (v := .int .i64 ((i : Nat) : Int)) rfl) rfl (by decide) (cok1 trivial) ?_
          refine dv (gyes_none rfl) (OpQ.cast (v' := .int .i64 ((i + 1 : Nat) : Int)) (q_int rfl rfl rfl) (congrArg _ ((i64_in (by omega)).trans (by first | rfl | omega | (push_cast; rfl))))) rfl (by decide) (cok2 trivial (cconst rfl)) ?_
          refine dv (gyes_none rfl) (q_as (v := .int .i64 ((i + 1 : Nat) : Int)) rfl) rfl (by decide) (cok1 trivial) ?_
          refine ⟨_, Wk.U [(0, .string s), (1, .int .u64 ((a : Nat) : Int)), (2, .int .i64 ((m : Nat) : Int)), (8, .int .i64 (((i + 1) : Nat) : Int))] ⟨rfl, rfl, rfl, rfl, trivial⟩, (i + 1), ⟨_, rfl, s2, ⟨by omega, by omega, fun j hj => by
                by_cases e : j < i - a
                · exact hi.2.2 j e
                · rw [show j = i - a by omega, byt_ext (by omega), beq_eq_false_iff_ne, show a + (i - a) = i by omega]; omega⟩⟩, (by omega)⟩
      ·
        replace c2 := of_decide_eq_false c2
        have hz : zB (s.extract a s.size) = s.size - a := (firstK_no (fun j hj => hi.2.2 j (by omega))).trans (by omega)
        refine ⟨_, Wk.refl _ _, ?_⟩
        show awp _ _ _ _ _ _ _
        refine awp_cond_f rfl ?_
        refine awp_exit_wk ?_
        refine ⟨_, Wk.refl _ _, ?_⟩
        show awp _ _ _ _ _ _ _
        refine awp_seq ?_
        refine awp_regs hF ?_
        refine dv (gyes_none rfl) (q_as (v := .string (⟨#[]⟩ : ByteArray)) rfl) rfl (by decide) (cok1 (cconst rfl)) ?_
        refine dv (gyes_none rfl) (q_as (v := .bool false) rfl) rfl (by decide) (cok1 (cconst rfl)) ?_
        refine ⟨_, Wk.refl _ _, ?_⟩
        show awp _ _ _ _ _ _ _
        refine awp_ret_wk ?_
        refine ⟨_, Wk.refl _ _, ?_⟩
        repeat (with_reducible first | refine then_ret ?_ | refine blk_ret ?_ | refine then_exit ?_ | refine blk_exit ?_ | refine blk_exit' (by decide) ?_ | refine blk_normal ?_ | refine then_normal ?_ | refine retq_ret ?_ | refine retq_normal ?_ | refine ng_normal ?_ | refine ng_ret ?_ | refine ng_exit ?_)
        exact ret_none (v := .tuple #[.string (⟨#[]⟩ : ByteArray), .bool false]) rfl s2.kp (.tmp rfl (.tmp rfl .nil)) rfl rfl ⟨by rw [textV_no (by omega) (by rw [hz]; omega)], rfl⟩

end Go.Proofs.YthfndghgfabbjaaA


/-
  Walks of functions of the given program, and what they compute.
-/
namespace Go.Proofs.YthfndghgfabbjaaA
set_option linter.unusedVariables false
open Go Go.RowKit Go.Shelf Go.Proofs
theorem SlS.cells {α : Type} [Inhabited α] {f : α → List Value} {m : Nat} {H : AHeap} {v : Value} {l : List α} (h : SlS f m H v l) : v.cells.toList = [v] := by
  rcases h with ⟨rfl, _⟩ | ⟨b, o, c, vs, rfl, _⟩ <;> rfl
def getV (l : List DEnt) (t : Nat) : Nat × Bool := if firstK (fun i => (nth l i).1 == t) l.length < l.length then ((nth l (firstK (fun i => (nth l i).1 == t) l.length)).2, true) else (0, false)
theorem getV_yes {l : List DEnt} {t i : Nat} (hi : i < l.length) (h : (nth l i).1 = t) (hn : ∀ j, j < i → ((nth l j).1 == t) = false) : getV l t = ((nth l i).2, true) := by
  have : firstK (fun i => (nth l i).1 == t) l.length = i := firstK_yes hi (beq_iff_eq.2 h) hn
  unfold getV; rw [this, if_pos hi]
theorem getV_no {l : List DEnt} {t : Nat} (hn : ∀ j, j < l.length → ((nth l j).1 == t) = false) : getV l t = (0, false) := by
  have : firstK (fun i => (nth l i).1 == t) l.length = l.length := firstK_no hn
  unfold getV; rw [this, if_neg (Nat.lt_irrefl _)]
theorem getV_lt {l : List DEnt} (h : ∀ e ∈ l, EntW e) (t : Nat) : (getV l t).1 < 18446744073709551616 := by
  unfold getV
  split
  · rename_i h1
    exact (h _ (nthN_mem h1)).2
  · exact (by decide : 0 < 18446744073709551616)
def spanV (B : ByteArray) (l : List Sg) (e : List DEnt) (t z : Nat) : ByteArray × Bool := if (getV e t).2 = false then (⟨#[]⟩, true) else if (getV e z).2 = false ∨ 65536 < (getV e z).1 then (⟨#[]⟩, false) else imgAt B l (getV e t).1 (getV e z).1
def tabV (B : ByteArray) (l : List Sg) (e : List DEnt) (a : Nat) : ByteArray × Bool := if (getV e 5).2 = false then (⟨#[]⟩, false) else if (spanV B l e 5 10).2 = false then (⟨#[]⟩, false) else textV (spanV B l e 5 10).1 a 32
theorem imgAt_size {B : ByteArray} {l : List Sg} {a n : Nat} (h : InB B l) : (imgAt B l a n).1.size ≤ n := by
  unfold imgAt
  split
  · rename_i h1; exact Nat.le_of_eq (segB_size (h _ (nthN_mem h1)))
  · exact Nat.zero_le _
theorem spanV_size {B : ByteArray} {l : List Sg} {e : List DEnt} {t z : Nat} (h : InB B l) : (spanV B l e t z).1.size ≤ 65536 := by
  unfold spanV
  split
  · exact Nat.zero_le _
  split
  · exact Nat.zero_le _
  · rename_i h2
    exact Nat.le_trans (imgAt_size h) (by omega)
def entAt (b : ByteArray) (k : Nat) : DEnt := (getB (b.extract (k * 16) (k * 16 + 8)), getB (b.extract (k * 16 + 8) (k * 16 + 16)))
def ents (b : ByteArray) (m : Nat) : List DEnt := (List.range m).map (entAt b)
theorem ents_len (b : ByteArray) (m : Nat) : (ents b m).length = m := by simp [ents]
theorem ents_succ (b : ByteArray) (m : Nat) : ents b m ++ [entAt b m] = ents b (m + 1) := by simp [ents, List.range_succ]
def zeroK (b : ByteArray) : Nat := firstK (fun k => (entAt b k).1 == 0) (b.size / 16)
def dynI (l : List Sg) : Nat := firstK (fun i => (nth l i).1 == 2) l.length
def dynX (l : List Sg) : Sg := if dynI l < l.length then nth l (dynI l) else (0, 0, 0, 0, 0, 0)
def dynB (B : ByteArray) (l : List Sg) : ByteArray := (imgAt B l (dynX l).2.2.2.1 (dynX l).2.2.2.2.2).1
def drC (B : ByteArray) (l : List Sg) : Nat := if ¬ dynI l < l.length then 18 else if 65536 < (dynX l).2.2.2.2.2 then 5 else if (imgAt B l (dynX l).2.2.2.1 (dynX l).2.2.2.2.2).2 = false then 5 else if ¬ zeroK (dynB B l) < (dynB B l).size / 16 then 2 else if 64 < zeroK (dynB B l) then 6 else 0
def drA (B : ByteArray) (l : List Sg) : Nat := if ¬ dynI l < l.length then 0 else if drC B l = 0 then 0 else (dynX l).2.2.2.1
def drL (B : ByteArray) (l : List Sg) : List DEnt := if drC B l = 0 then ents (dynB B l) (zeroK (dynB B l)) else []
section
variable {B : ByteArray} {l : List Sg}
theorem dr_none (h : ∀ j, j < l.length → ((nth l j).1 == 2) = false) : drC B l = 18 ∧ drA B l = 0 ∧ drL B l = [] := by
  have hi : ¬ dynI l < l.length := by rw [show dynI l = l.length from firstK_no h]; omega
  have e : drC B l = 18 := if_pos hi
  exact ⟨e, if_pos hi, if_neg (by rw [e]; decide)⟩
theorem dynI_of {i : Nat} (hi : i < l.length) (h : (nth l i).1 = 2) (hn : ∀ j, j < i → ((nth l j).1 == 2) = false) : dynI l = i := firstK_yes hi (beq_iff_eq.2 h) hn
theorem dr_err {c : Nat} (hi : dynI l < l.length) (e : drC B l = c) (hc : c ≠ 0) : drC B l = c ∧ drA B l = (dynX l).2.2.2.1 ∧ drL B l = [] :=
  ⟨e, by unfold drA; rw [if_neg (fun h => h hi), if_neg (by rw [e]; exact hc)], if_neg (by rw [e]; exact hc)⟩
theorem dr_big (hi : dynI l < l.length) (h : 65536 < (dynX l).2.2.2.2.2) : drC B l = 5 ∧ drA B l = (dynX l).2.2.2.1 ∧ drL B l = [] := dr_err hi (by unfold drC; rw [if_neg (fun h => h hi), if_pos h]) (by decide)
theorem dr_out (hi : dynI l < l.length) (h1 : ¬ 65536 < (dynX l).2.2.2.2.2) (h : (imgAt B l (dynX l).2.2.2.1 (dynX l).2.2.2.2.2).2 = false) : drC B l = 5 ∧ drA B l = (dynX l).2.2.2.1 ∧ drL B l = [] := dr_err hi (by unfold drC; rw [if_neg (fun h => h hi), if_neg h1, if_pos h]) (by decide)
theorem dr_open (hi : dynI l < l.length) (h1 : ¬ 65536 < (dynX l).2.2.2.2.2) (h2 : (imgAt B l (dynX l).2.2.2.1 (dynX l).2.2.2.2.2).2 = true) (h : zeroK (dynB B l) = (dynB B l).size / 16) : drC B l = 2 ∧ drA B l = (dynX l).2.2.2.1 ∧ drL B l = [] := dr_err hi (by unfold drC; rw [if_neg (fun h => h hi), if_neg h1, if_neg (by rw [h2]; exact fun h => nomatch h), if_pos (by omega)]) (by decide)
theorem dr_many (hi : dynI l < l.length) (h1 : ¬ 65536 < (dynX l).2.2.2.2.2) (h2 : (imgAt B l (dynX l).2.2.2.1 (dynX l).2.2.2.2.2).2 = true) (h3 : zeroK (dynB B l) < (dynB B l).size / 16) (h : 64 < zeroK (dynB B l)) : drC B l = 6 ∧ drA B l = (dynX l).2.2.2.1 ∧ drL B l = [] := dr_err hi (by unfold drC; rw [if_neg (fun h => h hi), if_neg h1, if_neg (by rw [h2]; exact fun h => nomatch h), if_neg (fun h => h h3), if_pos h]) (by decide)
theorem dr_ok (hi : dynI l < l.length) (h1 : ¬ 65536 < (dynX l).2.2.2.2.2) (h2 : (imgAt B l (dynX l).2.2.2.1 (dynX l).2.2.2.2.2).2 = true) (h3 : zeroK (dynB B l) < (dynB B l).size / 16) (h : ¬ 64 < zeroK (dynB B l)) : drC B l = 0 ∧ drA B l = 0 ∧ drL B l = ents (dynB B l) (zeroK (dynB B l)) := by
  have e : drC B l = 0 := by unfold drC; rw [if_neg (fun h => h hi), if_neg h1, if_neg (by rw [h2]; exact fun h => nomatch h), if_neg (fun h => h h3), if_neg h]
  exact ⟨e, by unfold drA; rw [if_neg (fun h => h hi), if_pos e], if_pos e⟩
end
theorem dynX_of {l : List Sg} {i : Nat} (h : dynI l = i) (hi : i < l.length) : dynX l = nth l i := by unfold dynX; rw [h, if_pos hi]
theorem dynX_no {l : List Sg} (h : ¬ dynI l < l.length) : dynX l = (0, 0, 0, 0, 0, 0) := if_neg h
theorem dynX_b {l : List Sg} (h : ∀ x ∈ l, SgB x) : SgB (dynX l) := by
  unfold dynX
  split
  · rename_i h1; exact h _ (nthN_mem h1)
  · unfold SgB; decide
theorem dynB_size {B : ByteArray} {l : List Sg} (h : InB B l) : (dynB B l).size ≤ (dynX l).2.2.2.2.2 := imgAt_size h
theorem zeroK_yes {b : ByteArray} {i : Nat} (hi : i < b.size / 16) (h : (entAt b i).1 = 0) (hn : ∀ j, j < i → ((entAt b j).1 == 0) = false) : zeroK b = i := firstK_yes hi (beq_iff_eq.2 h) hn
theorem zeroK_no {b : ByteArray} {n : Nat} (e : n = b.size / 16) (hn : ∀ j, j < n → ((entAt b j).1 == 0) = false) : zeroK b = b.size / 16 := firstK_no (e ▸ hn)
theorem entAt_e {b : ByteArray} {k : Nat} (h : k < b.size / 16) : entAt b k = (getB ((b.extract (k * 16) ((k + 1) * 16)).extract 0 8), getB ((b.extract (k * 16) ((k + 1) * 16)).extract 8 (b.extract (k * 16) ((k + 1) * 16)).size)) := by
  rw [size_extract (by omega), ext_ext (by omega), ext_ext (by omega), show k * 16 + ((k + 1) * 16 - k * 16) = k * 16 + 16 by omega]; rfl
set_option maxRecDepth 100000 in
set_option maxHeartbeats 4000000 in
theorem all_ok {H0 : AHeap} (k : Nat) (vT : Value) (e : List DEnt) (hT : SlS entc 2 H0 vT e) : ACalls Try.prog 17 [vT, .int .u64 ((k : Nat) : Int)] H0 (fun v H' => ∃ bk bi, v = .func (.func 40) #[] #[.pointer (some ⟨bi, 0, none⟩), .pointer (some ⟨bk, 0, none⟩)] ∧ NewL H0 H' [(bk, .cells true [.int .u64 ((k : Nat) : Int)] 1), (bi, .cells true [vT] 1)]) := by
  have hF : Wd Fence.wide := .inl rfl
  have hM : Try.prog.follows .mixedOrders = true := by kernel_rfl
  have s0 := St.begin H0
  refine acalls_st Try.func17 rfl Try.ntmps17 rfl ?_
  refine awp_seq ?_
  refine awp_regs hF ?_
  refine x_new (fun b => .pointer (some ⟨b, 0, none⟩)) s0 (gyes_none rfl) (q_box (v := vT) (vs := [vT]) 1 rfl (SlS.lc (s0.sls hT)).1 (SlS.cells (s0.sls hT))) rfl (by decide) (cok1 trivial) (fun b1 H2 hb4 s3 => ?_)
  refine x_new (fun b => .pointer (some ⟨b, 0, none⟩)) s3 (gyes_none rfl) (q_box (v := .int .u64 ((k : Nat) : Int)) (vs := [.int .u64 ((k : Nat) : Int)]) 1 rfl (by exact trivial) rfl) rfl (by decide) (cok1 trivial) (fun b5 H6 hb8 s7 => ?_)
  refine dv (gyes_none rfl) (q_as (v := .nilFunc) rfl) rfl (by decide) (cok1 (cconst rfl)) ?_
  refine ⟨_, Wk.refl _ _, ?_⟩
  show awp _ _ _ _ _ _ _
  refine awp_seq ?_
  refine awp_regs hF ?_
  refine dv (gyes_none rfl) (q_makeFuncL [.pointer (some ⟨b1, 0, none⟩), .pointer (some ⟨b5, 0, none⟩)] ⟨rfl, rfl, trivial⟩) rfl (by decide) (cok2 trivial trivial) ?_
  refine dv (gyes_none rfl) (q_as (v := .func (.func 40) #[] #[.pointer (some ⟨b1, 0, none⟩), .pointer (some ⟨b5, 0, none⟩)]) rfl) rfl (by decide) (cok1 trivial) ?_
  refine ⟨_, Wk.refl _ _, ?_⟩
  show awp _ _ _ _ _ _ _
  refine awp_ret_wk ?_
  refine ⟨_, Wk.refl _ _, ?_⟩
  repeat (with_reducible first | refine then_ret ?_ | refine blk_ret ?_ | refine then_exit ?_ | refine blk_exit ?_ | refine blk_exit' (by decide) ?_ | refine blk_normal ?_ | refine then_normal ?_ | refine retq_ret ?_ | refine retq_normal ?_ | refine ng_normal ?_ | refine ng_ret ?_ | refine ng_exit ?_)
  refine ret_is (v := .func (.func 40) #[] #[.pointer (some ⟨b1, 0, none⟩), .pointer (some ⟨b5, 0, none⟩)]) rfl (.tmp rfl .nil) rfl ?_
  exact ⟨_, _, rfl, s7.newL⟩
set_option maxRecDepth 100000 in
set_option maxHeartbeats 4000000 in
theorem all1_ok {H0 : AHeap} (k : Nat) (vT : Value) (e : List DEnt) (hl : e.length ≤ 1000000) (y : Value) (bi bk : Nat) (Iv E' : Nat → AHeap → Prop) (h0 : Iv 0 H0)
    (hm : ∀ i H H', Iv i H → K0 H H' → Iv i H') (hsk : ∀ i H, Iv i H → i < e.length → (nth e i).1 ≠ k → Iv (i + 1) H)
    (hb : ∀ i H, Iv i H → Rd H bi [vT] 1 ∧ Rd H bk [.int .u64 ((k : Nat) : Int)] 1 ∧ SlS entc 2 H vT e)
    (hy : ∀ i H, Iv i H → i < e.length → (nth e i).1 = k → Ylds Try.prog y [.int .u64 (((nth e i).2 : Nat) : Int)] H (fun b H' => (b = true → Iv (i + 1) H') ∧ (b = false → E' (i + 1) H'))) : ACalls Try.prog 40 [y, .pointer (some ⟨bi, 0, none⟩), .pointer (some ⟨bk, 0, none⟩)] H0 (fun v H' => v = .tuple #[] ∧ (Iv e.length H' ∨ ∃ i, i < e.length ∧ E' (i + 1) H')) := by
  have hF : Wd Fence.wide := .inl rfl
  have hM : Try.prog.follows .mixedOrders = true := by kernel_rfl
  have s0 := St.begin H0
  obtain ⟨hi_, hk_, hT⟩ := hb _ _ h0
  refine acalls_st Try.func40 rfl Try.ntmps40 rfl ?_
  refine awp_seq ?_
  refine awp_regs hF ?_
  refine dv (gyes_none rfl) (q_load (v := vT) Try.isAgg43 rfl (s0.zrd hi_) rfl) rfl (by decide) (cok1 trivial) ?_
  refine dv (gyes_none rfl) (q_len_sls (l := e) Try.underlying43 (hT) rfl) rfl (by decide) (cok1 trivial) ?_
  refine dv (gyes_none rfl) (q_mv (v := .int .i64 0) rfl) rfl (by decide) (cok1 (cconst rfl)) ?_
  refine ⟨_, Wk.refl _ _, ?_⟩
  show awp _ _ _ _ _ _ _
  refine awp_block ?_
  refine awp_wk (Wk.U [(0, y), (1, .pointer (some ⟨bi, 0, none⟩)), (2, .pointer (some ⟨bk, 0, none⟩)), (6, vT), (7, .int .i64 ((e.length : Nat) : Int)), (8, .int .i64 0)] ⟨rfl, rfl, rfl, rfl, rfl, rfl, trivial⟩) ?_
  refine awp_loop (fun (i : Nat) st => ∃ (H1 : AHeap), st = ⟨24, U [(0, y), (1, .pointer (some ⟨bi, 0, none⟩)), (2, .pointer (some ⟨bk, 0, none⟩)), (6, vT), (7, .int .i64 ((e.length : Nat) : Int)), (8, .int .i64 ((i : Nat) : Int))], [], H1⟩ ∧ St H1 (none0) (Rd H1) H1 [] ∧ (i ≤ e.length ∧ Iv i H1)) (fun (i : Nat) => e.length - i) (x0 := (0)) ?h0 ?round
  case h0 =>
    exact ⟨_, rfl, s0, ⟨Nat.zero_le _, hm _ _ _ h0 s0.kp⟩⟩
  case round =>
    rintro i _ ⟨H1, rfl, s2, hI⟩
    obtain ⟨hi_, hk_, hT⟩ := hb _ _ hI.2
    refine awp_seq ?_
    refine awp_regs hF ?_
    refine dvb (gyes_none rfl) (q_int rfl rfl rfl) rfl (by decide) (cok2 trivial trivial) (fun c1 => ?_) (fun c1 => ?_)
    ·
      replace c1 := of_decide_eq_true c1
      refine ⟨_, Wk.refl _ _, ?_⟩
      show awp _ _ _ _ _ _ _
      refine awp_seq ?_
      refine awp_cond_t rfl ?_
      refine awp_skip_wk ?_
      refine ⟨_, Wk.refl _ _, ?_⟩
      show awp _ _ _ _ _ _ _
      refine awp_seq ?_
      refine awp_block ?_
      refine awp_seq ?_
      refine awp_regs hF ?_
      refine dv (gyes_none rfl) (q_index_sls (l := e) (i := i) Try.underlying43 Try.sizeOf48 (hT) entc_w rfl rfl (by omega)) rfl (by decide) (cok2 trivial trivial) ?_
      refine dv (gyes_none rfl) (q_loadA_sls (l := e) (i := i) Try.isAgg48 Try.sizeOf48 (hT) entc_w rfl (by omega)) rfl (by decide) (cok1 trivial) ?_
      refine x_new (fun b => .pointer (some ⟨b, 0, none⟩)) s2 (gyes_none rfl) (q_alloc (vs := [.int .u64 0, .int .u64 0]) 2 Try.zeroValue48 (by first | exact flat_scalar rfl | exact flat_agg rfl) rfl) rfl (by decide) (by simp [Op.operands, Call.operands]) (fun b3 H4 hb6 s5 => ?_)
      refine x_store [] hF s5 (by kernel_rfl) (gyes_none rfl) (j := 0) (v := .agg #[.int .u64 (((nth e i).1 : Nat) : Int), .int .u64 (((nth e i).2 : Nat) : Int)]) rfl Try.sizeOf48 rfl rfl rfl rfl rfl trivial (lcsA ⟨(lc_scalar rfl), (lc_scalar rfl), trivial⟩) (Nat.le_of_ble_eq_true rfl) trivial trivial rfl rfl (F' := [(b3, .cells true [.int .u64 (((nth e i).1 : Nat) : Int), .int .u64 (((nth e i).2 : Nat) : Int)] 2)]) rfl (fun H7 s8 => ⟨?_, ?_⟩)
      · exact trivial
      refine ⟨_, Wk.refl _ _, ?_⟩
      show awp _ _ _ _ _ _ _
      refine awp_seq ?_
      refine awp_regs hF ?_
      refine dv (gyes_none rfl) (q_field Try.underlying48 rfl Try.sizeOf25 rfl (s8.rd (j := 0) rfl)) rfl (by decide) (cok1 trivial) ?_
      refine dv (gyes_none rfl) (q_load (v := .int .u64 (((nth e i).1 : Nat) : Int)) Try.isAgg25 rfl (s8.rd (j := 0) rfl) rfl) rfl (by decide) (cok1 trivial) ?_
      refine dv (gyes_none rfl) (q_load (v := .int .u64 ((k : Nat) : Int)) Try.isAgg25 rfl (s8.zrd hk_) rfl) rfl (by decide) (cok1 trivial) ?_
      refine dvb (gyes_none rfl) (q_int rfl rfl rfl) rfl (by decide) (cok2 trivial trivial) (fun c2 => ?_) (fun c2 => ?_)
      ·
        replace c2 := eq_of_beq c2
        refine dv (gyes_none rfl) (q_mv (v := .bool true) rfl) rfl (by decide) (cok1 trivial) ?_
        refine dv (gyes_some rfl rfl) (q_mv (v := y) rfl) rfl (by decide) (cok1 trivial) ?_
        refine dv (gyes_some rfl rfl) (q_field Try.underlying48 rfl Try.sizeOf25 rfl (s8.rd (j := 0) rfl)) rfl (by decide) (cok1 trivial) ?_
        refine dv (gyes_some rfl rfl) (q_load (v := .int .u64 (((nth e i).2 : Nat) : Int)) Try.isAgg25 rfl (s8.rd (j := 0) rfl) rfl) rfl (by decide) (cok1 trivial) ?_
        refine x_yield [] (by kernel_rfl) (gyes_some rfl rfl) (y := y) (args := [.int .u64 (((nth e i).2 : Nat) : Int)]) rfl rfl (hy i _ (hm _ _ _ hI.2 s8.kp) (by omega) (by omega)) (show _ < _ by decide) (cok1 trivial) rfl rfl (fun y9 H10 hy11 => ⟨trivial, ?_⟩)
        show dList _ _ _ _ _ _ _ _ _ _
        cases y9
        case false =>
          refine dv (gyes_some rfl rfl) (q_not (b := false) rfl) rfl (by decide) (cok1 trivial) ?_
          refine dv (gyes_none rfl) (q_pt (v := .bool true) rfl rfl) rfl (by decide) (call_ok rfl) ?_
          refine ⟨_, Wk.refl _ _, ?_⟩
          show awp _ _ _ _ _ _ _
          refine awp_cond_t rfl ?_
          refine awp_ret_wk ?_
          refine ⟨_, Wk.refl _ _, ?_⟩
          repeat (with_reducible first | refine then_ret ?_ | refine blk_ret ?_ | refine then_exit ?_ | refine blk_exit ?_ | refine blk_exit' (by decide) ?_ | refine blk_normal ?_ | refine then_normal ?_ | refine retq_ret ?_ | refine retq_normal ?_ | refine ng_normal ?_ | refine ng_ret ?_ | refine ng_exit ?_)
          refine ret_is (v := .tuple #[]) rfl .nil rfl ?_
          exact ⟨rfl, .inr ⟨i, by omega, hy11.2 rfl⟩⟩
        case true =>
          have h12 := hy11.1 rfl
          have s13 := St.begin H10
          refine dv (gyes_some rfl rfl) (q_not (b := true) rfl) rfl (by decide) (cok1 trivial) ?_
          refine dv (gyes_none rfl) (q_pt (v := .bool false) rfl rfl) rfl (by decide) (call_ok rfl) ?_
          refine ⟨_, Wk.refl _ _, ?_⟩
          show awp _ _ _ _ _ _ _
          refine awp_cond_f rfl ?_
          refine awp_skip_wk ?_
          refine ⟨_, Wk.refl _ _, ?_⟩
          show awp _ _ _ _ _ _ _
          refine awp_regs hF ?_
          refine dv (gyes_none rfl) (OpQ.cast (v' := .int .i64 ((i + 1 : Nat) : Int)) (q_int rfl rfl rfl) (congrArg _ ((i64_in (by omega)).trans (by first | rfl | omega | (push_cast; rfl))))) rfl (by decide) (cok2 trivial (cconst rfl)) ?_
          refine dv (gyes_none rfl) (q_mv (v := .int .i64 ((i + 1 : Nat) : Int)) rfl) rfl (by decide) (cok1 trivial) ?_
          refine ⟨_, Wk.U [(0, y), (1, .pointer (some ⟨bi, 0, none⟩)), (2, .pointer (some ⟨bk, 0, none⟩)), (6, vT), (7, .int .i64 ((e.length : Nat) : Int)), (8, .int .i64 (((i + 1) : Nat) : Int))] ⟨rfl, rfl, rfl, rfl, rfl, rfl, trivial⟩, (i + 1), ⟨_, rfl, (St.begin _), ⟨by omega, h12⟩⟩, (by omega)⟩
      ·
        replace c2 := ne_of_beq_false c2
        refine dv (gyes_none rfl) (q_mv (v := .bool false) rfl) rfl (by decide) (cok1 trivial) ?_
        refine dno rfl (.inl rfl) rfl (by decide) ?_
        refine dno rfl (.inl rfl) rfl (by decide) ?_
        refine dno rfl (.inl rfl) rfl (by decide) ?_
        refine dno rfl (.inl rfl) rfl (by decide) ?_
        refine dno rfl (.inl rfl) rfl (by decide) ?_
        refine dv (gyes_none rfl) (q_pf (v := .bool false) rfl rfl) rfl (by decide) (call_ok rfl) ?_
        refine ⟨_, Wk.refl _ _, ?_⟩
        show awp _ _ _ _ _ _ _
        refine awp_cond_f rfl ?_
        refine awp_skip_wk ?_
        refine ⟨_, Wk.refl _ _, ?_⟩
        show awp _ _ _ _ _ _ _
        refine awp_regs hF ?_
        refine dv (gyes_none rfl) (OpQ.cast (v' := .int .i64 ((i + 1 : Nat) : Int)) (q_int rfl rfl rfl) (congrArg _ ((i64_in (by omega)).trans (by first | rfl | omega | (push_cast; rfl))))) rfl (by decide) (cok2 trivial (cconst rfl)) ?_
        refine dv (gyes_none rfl) (q_mv (v := .int .i64 ((i + 1 : Nat) : Int)) rfl) rfl (by decide) (cok1 trivial) ?_
        refine ⟨_, Wk.U [(0, y), (1, .pointer (some ⟨bi, 0, none⟩)), (2, .pointer (some ⟨bk, 0, none⟩)), (6, vT), (7, .int .i64 ((e.length : Nat) : Int)), (8, .int .i64 (((i + 1) : Nat) : Int))] ⟨rfl, rfl, rfl, rfl, rfl, rfl, trivial⟩, (i + 1), ⟨_, rfl, (St.begin _), ⟨by omega, hm _ _ _ (hsk i _ hI.2 (by omega) (by omega)) s8.kp⟩⟩, (by omega)⟩
    ·
      replace c1 := of_decide_eq_false c1
      refine ⟨_, Wk.refl _ _, ?_⟩
      show awp _ _ _ _ _ _ _
      refine awp_seq ?_
      refine awp_cond_f rfl ?_
      refine awp_exit_wk ?_
      refine ⟨_, Wk.refl _ _, ?_⟩
      repeat (with_reducible first | refine then_ret ?_ | refine blk_ret ?_ | refine then_exit ?_ | refine blk_exit ?_ | refine blk_exit' (by decide) ?_ | refine blk_normal ?_ | refine then_normal ?_ | refine retq_ret ?_ | refine retq_normal ?_ | refine ng_normal ?_ | refine ng_ret ?_ | refine ng_exit ?_)
      refine ret_is (v := .tuple #[]) rfl .nil rfl ?_
      obtain rfl : i = e.length := by omega
      exact ⟨rfl, .inl hI.2⟩
set_option maxRecDepth 100000 in
set_option maxHeartbeats 4000000 in
theorem get_t_ok {H0 : AHeap} (k0 : Nat) (hk0 : k0 < 18446744073709551616) (vT : Value) (e : List DEnt) (hT : SlS entc 2 H0 vT e) (hl : e.length ≤ 1000000) : ACalls Try.prog 14 [vT, .int .u64 ((k0 : Nat) : Int)] H0 (Rets (.tuple #[.int .u64 (((getV e k0).1 : Nat) : Int), .bool (getV e k0).2]) H0) := by
  have hF : Wd Fence.wide := .inl rfl
  have hM : Try.prog.follows .mixedOrders = true := by kernel_rfl
  have s0 := St.begin H0
  refine acalls_st Try.func14 rfl Try.ntmps14 rfl ?_
  refine awp_seq ?_
  refine awp_regs hF ?_
  refine x_new (fun b => .pointer (some ⟨b, 0, none⟩)) s0 (gyes_none rfl) (q_alloc (vs := [.int .u64 0]) 1 Try.zeroValue25 (by first | exact flat_scalar rfl | exact flat_agg rfl) rfl) rfl (by decide) (by simp [Op.operands, Call.operands]) (fun b1 H2 hb4 s3 => ?_)
  refine x_new (fun b => .pointer (some ⟨b, 0, none⟩)) s3 (gyes_none rfl) (q_alloc (vs := [.bool false]) 1 Try.zeroValue4 (by first | exact flat_scalar rfl | exact flat_agg rfl) rfl) rfl (by decide) (by simp [Op.operands, Call.operands]) (fun b5 H6 hb8 s7 => ?_)
  refine ⟨_, Wk.refl _ _, ?_⟩
  show awp _ _ _ _ _ _ _
  refine awp_seq ?_
  refine awp_seq ?_
  refine awp_regs hF ?_
  refine dv (gyes_none rfl) (q_mv (v := vT) rfl) rfl (by decide) (cok1 trivial) ?_
  refine dv (gyes_none rfl) (q_mv (v := .int .u64 ((k0 : Nat) : Int)) rfl) rfl (by decide) (cok1 trivial) ?_
  refine x_call [] hF (by kernel_rfl) (gyes_none rfl) Try.call17 rfl (args := [vT, .int .u64 ((k0 : Nat) : Int)]) rfl (all_ok k0 vT e (s7.sls hT)) (show _ < _ by decide) (call_ok rfl) rfl rfl (fun _ _ _ _ hd => by cases hd) ?_
  rintro _ H11 ⟨b9, b10, rfl, hn12⟩
  have s13 := s7.callL hn12
  refine ⟨trivial, ?_⟩
  show dList _ _ _ _ _ _ _ _ _ _
  refine ⟨_, Wk.refl _ _, ?_⟩
  show awp _ _ _ _ _ _ _
  refine awp_block ?_
  refine range_st s13 rfl Try.call40 (fun fn14 lp15 d16 l17 H18 hlp19 hd20 s21 => ?_)
  refine (all1_ok (H0 := H18) k0 vT e hl _ b10 b9 (fun (k : Nat) (H22 : AHeap) => St H0 (none0) (Rd H0) H22 [(l17, lp15 .ready none), (d16, .mark), (b9, .cells true [.int .u64 ((k0 : Nat) : Int)] 1), (b10, .cells true [vT] 1), (b5, .cells true [.bool false] 1), (b1, .cells true [.int .u64 0] 1)] ∧ (∀ j, j < k → ((nth e j).1 == k0) = false)) (fun (k' : Nat) (H22 : AHeap) => ∃ (r : Nat), St H0 (none0) (Rd H0) H22 [(l17, lp15 (.done) (some .ret)), (d16, .mark), (b9, .cells true [.int .u64 ((k0 : Nat) : Int)] 1), (b10, .cells true [vT] 1), (b5, .cells true [.bool true] 1), (b1, .cells true [.int .u64 ((r : Nat) : Int)] 1)] ∧ (getV e k0 = (r, true))) ?h00 (fun _ _ _ ⟨s_, hq⟩ k_ => ⟨s_.call0 k_, hq⟩) (fun k _ ⟨s_, hq⟩ hi_ hne => ⟨s_, lt_succ_casesN hq (beq_eq_false_iff_ne.2 hne)⟩) ?hb ?round).mono ?after
  case h00 => exact ⟨s21, fun j h => absurd h (Nat.not_lt_zero _)⟩
  case hb =>
    rintro k H22 ⟨s23, hq⟩
    exact ⟨s23.rd (j := 3) rfl, s23.rd (j := 2) rfl, s23.sls hT⟩
  case round =>
    rintro k H22  ⟨s23, hq⟩ hx hkd
    refine ylds_roundB hlp19 (s23.getj (j := 0) rfl) rfl rfl (fun l24 hF => ?_)
    refine awp_regs hF ?_
    refine dv (gyes_none rfl) (q_as (v := .int .u64 (((nth e k).2 : Nat) : Int)) rfl) rfl (by decide) (cok1 trivial) ?_
    refine ⟨_, Wk.refl _ _, ?_⟩
    refine then_normal ?_
    refine ⟨_, _, rfl, s23.getj (j := 0) rfl, ?body⟩
    case body =>
      have s25 := s23.setAt (j := 0) rfl (lp15 .busy none)
      show awp _ _ _ _ _ _ _
      refine awp_block ?_
      refine awp_seq ?_
      refine awp_regs hF ?_
      refine dv (gyes_none rfl) (q_mv (v := .int .u64 (((nth e k).2 : Nat) : Int)) rfl) rfl (by decide) (cok1 trivial) ?_
      refine x_store1 [] hF s25 (by kernel_rfl) (gyes_none rfl) (j := 5) (v := .int .u64 (((nth e k).2 : Nat) : Int)) rfl Try.sizeOf25 rfl rfl rfl (lc_scalar rfl) (Nat.le_of_ble_eq_true rfl) trivial trivial rfl rfl (F' := [(l17, lp15 .busy none), (d16, .mark), (b9, .cells true [.int .u64 ((k0 : Nat) : Int)] 1), (b10, .cells true [vT] 1), (b5, .cells true [.bool false] 1), (b1, .cells true [.int .u64 (((nth e k).2 : Nat) : Int)] 1)]) rfl (fun H26 s27 => ⟨?_, ?_⟩)
      · exact trivial
      refine x_store1 [] hF s27 (by kernel_rfl) (gyes_none rfl) (j := 4) (v := .bool true) rfl Try.sizeOf4 rfl rfl rfl (lc_scalar rfl) (Nat.le_of_ble_eq_true rfl) trivial (cconst rfl) rfl rfl (F' := [(l17, lp15 .busy none), (d16, .mark), (b9, .cells true [.int .u64 ((k0 : Nat) : Int)] 1), (b10, .cells true [vT] 1), (b5, .cells true [.bool true] 1), (b1, .cells true [.int .u64 (((nth e k).2 : Nat) : Int)] 1)]) rfl (fun H28 s29 => ⟨?_, ?_⟩)
      · exact trivial
      refine ⟨_, Wk.refl _ _, ?_⟩
      show awp _ _ _ _ _ _ _
      refine awp_ret_wk ?_
      refine ⟨_, Wk.refl _ _, ?_⟩
      repeat (with_reducible first | refine then_ret ?_ | refine blk_ret ?_ | refine then_exit ?_ | refine blk_exit ?_ | refine blk_exit' (by decide) ?_ | refine blk_normal ?_ | refine then_normal ?_ | refine retq_ret ?_ | refine retq_normal ?_ | refine ng_normal ?_ | refine ng_ret ?_ | refine ng_exit ?_)
      exact ⟨s29.getj (j := 0) rfl, (fun h => nomatch h), (fun _ => ⟨_, (s29.setAt (j := 0) rfl (lp15 .done (some .ret))), getV_yes hx hkd hq⟩)⟩
  case after =>
    rintro v H' ⟨rfl, hpost⟩
    rcases hpost with ⟨s30, hq⟩ | ⟨i_, hi_, ⟨r, s31, hr⟩⟩
    ·
      refine ⟨(by
          intro e he
          rcases List.mem_cons.1 he with rfl | he
          · exact s30.getj (j := 1) rfl
          · cases he), .inl ⟨s30.getj (j := 0) rfl, ?_⟩⟩
      have s32 := (s30.setAt (j := 0) rfl .none).forget 0
      refine ⟨_, Wk.refl _ _, ?_⟩
      show awp _ _ _ _ _ _ _
      refine awp_seq ?_
      refine awp_regs hF ?_
      refine x_store1 [] hF s32 (by kernel_rfl) (gyes_none rfl) (j := 4) (v := .int .u64 0) rfl Try.sizeOf25 rfl rfl rfl (lc_scalar rfl) (Nat.le_of_ble_eq_true rfl) trivial (cconst rfl) rfl rfl (F' := [(d16, .mark), (b9, .cells true [.int .u64 ((k0 : Nat) : Int)] 1), (b10, .cells true [vT] 1), (b5, .cells true [.bool false] 1), (b1, .cells true [.int .u64 0] 1)]) rfl (fun H33 s34 => ⟨?_, ?_⟩)
      · exact trivial
      refine x_store1 [] hF s34 (by kernel_rfl) (gyes_none rfl) (j := 3) (v := .bool false) rfl Try.sizeOf4 rfl rfl rfl (lc_scalar rfl) (Nat.le_of_ble_eq_true rfl) trivial (cconst rfl) rfl rfl (F' := [(d16, .mark), (b9, .cells true [.int .u64 ((k0 : Nat) : Int)] 1), (b10, .cells true [vT] 1), (b5, .cells true [.bool false] 1), (b1, .cells true [.int .u64 0] 1)]) rfl (fun H35 s36 => ⟨?_, ?_⟩)
      · exact trivial
      refine ⟨_, Wk.refl _ _, ?_⟩
      show awp _ _ _ _ _ _ _
      refine awp_ret_wk ?_
      refine ⟨_, Wk.refl _ _, ?_⟩
      repeat (with_reducible first | refine then_ret ?_ | refine blk_ret ?_ | refine then_exit ?_ | refine blk_exit ?_ | refine blk_exit' (by decide) ?_ | refine blk_normal ?_ | refine then_normal ?_ | refine retq_ret ?_ | refine retq_normal ?_ | refine ng_normal ?_ | refine ng_ret ?_ | refine ng_exit ?_)
      exact ret_noneD (v := .tuple #[.int .u64 0, .bool false]) rfl (s36.setAt (j := 0) rfl .none).kp (.cell rfl Try.isAgg25 ((s36.setAt (j := 0) rfl .none).rd (j := 4) rfl) rfl (.cell rfl Try.isAgg4 ((s36.setAt (j := 0) rfl .none).rd (j := 3) rfl) rfl .nil)) rfl rfl ⟨by rw [getV_no hq]; first | done | rfl, rfl⟩
    ·
      refine ⟨(by
          intro e he
          rcases List.mem_cons.1 he with rfl | he
          · exact s31.getj (j := 1) rfl
          · cases he), .inr ⟨_, s31.getj (j := 0) rfl, ?_⟩⟩
      have s37 := (s31.setAt (j := 0) rfl .none).forget 0
      refine awp_ret_wk ?_
      refine ⟨_, Wk.refl _ _, ?_⟩
      repeat (with_reducible first | refine then_ret ?_ | refine blk_ret ?_ | refine then_exit ?_ | refine blk_exit ?_ | refine blk_exit' (by decide) ?_ | refine blk_normal ?_ | refine then_normal ?_ | refine retq_ret ?_ | refine retq_normal ?_ | refine ng_normal ?_ | refine ng_ret ?_ | refine ng_exit ?_)
      exact ret_noneD (v := .tuple #[.int .u64 ((r : Nat) : Int), .bool true]) rfl (s37.setAt (j := 0) rfl .none).kp (.cell rfl Try.isAgg25 ((s37.setAt (j := 0) rfl .none).rd (j := 4) rfl) rfl (.cell rfl Try.isAgg4 ((s37.setAt (j := 0) rfl .none).rd (j := 3) rfl) rfl .nil)) rfl rfl ⟨by rw [hr]; first | done | rfl, rfl⟩
set_option maxRecDepth 100000 in
set_option maxHeartbeats 4000000 in
theorem rget_t_ok {H0 : AHeap} (k0 : Nat) (vT : Value) (e : List DEnt) (hT : SlS entc 2 H0 vT e) (hl : e.length ≤ 1000000) : ACalls Try.prog 15 [vT, .int .u64 ((k0 : Nat) : Int)] H0 (Rets (.tuple #[.int .u64 (((getV e k0).1 : Nat) : Int), .bool (getV e k0).2]) H0) := by
  have hF : Wd Fence.wide := .inl rfl
  have hM : Try.prog.follows .mixedOrders = true := by kernel_rfl
  have s0 := St.begin H0
  refine acalls_st Try.func15 rfl Try.ntmps15 rfl ?_
  refine awp_seq ?_
  refine awp_regs hF ?_
  refine dv (gyes_none rfl) (q_as (v := .int .u64 0) rfl) rfl (by decide) (cok1 (cconst rfl)) ?_
  refine dv (gyes_none rfl) (q_as (v := .bool false) rfl) rfl (by decide) (cok1 (cconst rfl)) ?_
  refine ⟨_, Wk.refl _ _, ?_⟩
  show awp _ _ _ _ _ _ _
  refine awp_seq ?_
  refine awp_seq ?_
  refine awp_regs hF ?_
  refine dv (gyes_none rfl) (q_as (v := .int .i64 0) rfl) rfl (by decide) (cok1 (cconst rfl)) ?_
  refine ⟨_, Wk.refl _ _, ?_⟩
  show awp _ _ _ _ _ _ _
  refine awp_block ?_
  refine awp_wk (Wk.U [(0, vT), (1, .int .u64 ((k0 : Nat) : Int)), (6, .int .i64 0)] ⟨rfl, rfl, rfl, trivial⟩) ?_
  refine awp_loop (fun (i : Nat) st => ∃ (H1 : AHeap), st = ⟨25, U [(0, vT), (1, .int .u64 ((k0 : Nat) : Int)), (6, .int .i64 ((i : Nat) : Int))], [], H1⟩ ∧ St H0 (none0) (Rd H0) H1 [] ∧ (∀ j, j < i → ((nth e j).1 == k0) = false)) (fun (i : Nat) => e.length - i) (x0 := (0)) ?h0 ?round
  case h0 =>
    exact ⟨_, rfl, s0, fun j h => absurd h (Nat.not_lt_zero _)⟩
  case round =>
    rintro i _ ⟨H1, rfl, s2, hq⟩
    refine awp_seq ?_
    refine awp_seq ?_
    refine awp_regs hF ?_
    refine dv (gyes_none rfl) (q_mv (v := .int .i64 ((i : Nat) : Int)) rfl) rfl (by decide) (cok1 trivial) ?_
    refine dv (gyes_none rfl) (q_mv (v := vT) rfl) rfl (by decide) (cok1 trivial) ?_
    refine dv (gyes_none rfl) (q_len_sls (l := e) Try.underlying24 (s2.sls hT) rfl) rfl (by decide) (cok1 trivial) ?_
    refine dvb (gyes_none rfl) (q_int rfl rfl rfl) rfl (by decide) (cok2 trivial trivial) (fun c1 => ?_) (fun c1 => ?_)
    ·
      replace c1 := of_decide_eq_true c1
      refine ⟨_, Wk.refl _ _, ?_⟩
      show awp _ _ _ _ _ _ _
      refine awp_cond_t rfl ?_
      refine awp_skip_wk ?_
      refine ⟨_, Wk.refl _ _, ?_⟩
      show awp _ _ _ _ _ _ _
      refine awp_seq ?_
      refine awp_block ?_
      refine awp_seq ?_
      refine awp_regs hF ?_
      refine dv (gyes_none rfl) (q_mv (v := vT) rfl) rfl (by decide) (cok1 trivial) ?_
      refine dv (gyes_none rfl) (q_mv (v := .int .i64 ((i : Nat) : Int)) rfl) rfl (by decide) (cok1 trivial) ?_
      refine dv (gyes_none rfl) (q_index_sls (l := e) (i := i) Try.underlying24 Try.sizeOf27 (s2.sls hT) entc_w rfl rfl (by omega)) rfl (by decide) (cok2 trivial trivial) ?_
      refine dv (gyes_none rfl) (q_field_sls (l := e) (i := i) Try.underlying27 rfl Try.sizeOf25 (s2.sls hT) entc_w rfl (by omega)) rfl (by decide) (cok1 trivial) ?_
      refine dv (gyes_none rfl) (q_load_sls0 (l := e) (i := i) (u := .int .u64 (((nth e i).1 : Nat) : Int)) Try.isAgg25 (s2.sls hT) entc_w rfl (by omega) (by decide) rfl) rfl (by decide) (cok1 trivial) ?_
      refine dv (gyes_none rfl) (q_mv (v := .int .u64 ((k0 : Nat) : Int)) rfl) rfl (by decide) (cok1 trivial) ?_
      refine dvb (gyes_none rfl) (q_int rfl rfl rfl) rfl (by decide) (cok2 trivial trivial) (fun c2 => ?_) (fun c2 => ?_)
      ·
        replace c2 := eq_of_beq c2
        refine ⟨_, Wk.refl _ _, ?_⟩
        show awp _ _ _ _ _ _ _
        refine awp_cond_t rfl ?_
        refine awp_seq ?_
        refine awp_regs hF ?_
        refine dv (gyes_none rfl) (q_mv (v := vT) rfl) rfl (by decide) (cok1 trivial) ?_
        refine dv (gyes_none rfl) (q_mv (v := .int .i64 ((i : Nat) : Int)) rfl) rfl (by decide) (cok1 trivial) ?_
        refine dv (gyes_none rfl) (q_index_sls (l := e) (i := i) Try.underlying24 Try.sizeOf27 (s2.sls hT) entc_w rfl rfl (by omega)) rfl (by decide) (cok2 trivial trivial) ?_
        refine dv (gyes_none rfl) (q_field_sls (l := e) (i := i) Try.underlying27 rfl Try.sizeOf25 (s2.sls hT) entc_w rfl (by omega)) rfl (by decide) (cok1 trivial) ?_
        refine dv (gyes_none rfl) (q_load_sls (l := e) (i := i) (u := .int .u64 (((nth e i).2 : Nat) : Int)) Try.isAgg25 (s2.sls hT) entc_w rfl (by omega) (by decide) rfl) rfl (by decide) (cok1 trivial) ?_
        refine dv (gyes_none rfl) (q_as (v := .int .u64 (((nth e i).2 : Nat) : Int)) rfl) rfl (by decide) (cok1 trivial) ?_
        refine dv (gyes_none rfl) (q_as (v := .bool true) rfl) rfl (by decide) (cok1 (cconst rfl)) ?_
        refine ⟨_, Wk.refl _ _, ?_⟩
        show awp _ _ _ _ _ _ _
        refine awp_ret_wk ?_
        refine ⟨_, Wk.refl _ _, ?_⟩
        repeat (with_reducible first | refine then_ret ?_ | refine blk_ret ?_ | refine then_exit ?_ | refine blk_exit ?_ | refine blk_exit' (by decide) ?_ | refine blk_normal ?_ | refine then_normal ?_ | refine retq_ret ?_ | refine retq_normal ?_ | refine ng_normal ?_ | refine ng_ret ?_ | refine ng_exit ?_)
        exact ret_none (v := .tuple #[.int .u64 (((nth e i).2 : Nat) : Int), .bool true]) rfl s2.kp (.tmp rfl (.tmp rfl .nil)) rfl rfl ⟨by rw [getV_yes (i := i) (by omega) (by omega) hq], rfl⟩
      ·
        replace c2 := ne_of_beq_false c2
        refine ⟨_, Wk.refl _ _, ?_⟩
        show awp _ _ _ _ _ _ _
        refine awp_cond_f rfl ?_
        refine awp_skip_wk ?_
        refine ⟨_, Wk.refl _ _, ?_⟩
        show awp _ _ _ _ _ _ _
        refine awp_regs hF ?_
        refine dv (gyes_none rfl) (q_mv (v := .int .i64 ((i : Nat) : Int)) rfl) rfl (by decide) (cok1 trivial) ?_
        refine dv (gyes_none rfl) (OpQ.cast (v' := .int .i64 ((i + 1 : Nat) : Int)) (q_int rfl rfl rfl) (congrArg _ ((i64_in (by omega)).trans (by first | rfl | omega | (push_cast; rfl))))) rfl (by decide) (cok2 trivial (cconst rfl)) ?_
        refine dv (gyes_none rfl) (q_as (v := .int .i64 ((i + 1 : Nat) : Int)) rfl) rfl (by decide) (cok1 trivial) ?_
        refine ⟨_, Wk.U [(0, vT), (1, .int .u64 ((k0 : Nat) : Int)), (6, .int .i64 (((i + 1) : Nat) : Int))] ⟨rfl, rfl, rfl, trivial⟩, (i + 1), ⟨_, rfl, s2, (lt_succ_casesN hq (beq_eq_false_iff_ne.2 (by omega)))⟩, (by omega)⟩
    ·
      replace c1 := of_decide_eq_false c1
      refine ⟨_, Wk.refl _ _, ?_⟩
      show awp _ _ _ _ _ _ _
      refine awp_cond_f rfl ?_
      refine awp_exit_wk ?_
      refine ⟨_, Wk.refl _ _, ?_⟩
      show awp _ _ _ _ _ _ _
      refine awp_seq ?_
      refine awp_regs hF ?_
      refine dv (gyes_none rfl) (q_as (v := .int .u64 0) rfl) rfl (by decide) (cok1 (cconst rfl)) ?_
      refine dv (gyes_none rfl) (q_as (v := .bool false) rfl) rfl (by decide) (cok1 (cconst rfl)) ?_
      refine ⟨_, Wk.refl _ _, ?_⟩
      show awp _ _ _ _ _ _ _
      refine awp_ret_wk ?_
      refine ⟨_, Wk.refl _ _, ?_⟩
      repeat (with_reducible first | refine then_ret ?_ | refine blk_ret ?_ | refine then_exit ?_ | refine blk_exit ?_ | refine blk_exit' (by decide) ?_ | refine blk_normal ?_ | refine then_normal ?_ | refine retq_ret ?_ | refine retq_normal ?_ | refine ng_normal ?_ | refine ng_ret ?_ | refine ng_exit ?_)
      exact ret_none (v := .tuple #[.int .u64 0, .bool false]) rfl s2.kp (.tmp rfl (.tmp rfl .nil)) rfl rfl ⟨by rw [getV_no (fun j hj => hq j (by omega))]; first | done | rfl, rfl⟩
set_option maxRecDepth 100000 in
set_option maxHeartbeats 4000000 in
theorem span_ok {H0 : AHeap} (t z : Nat) (ht : t < 18446744073709551616) (hz : z < 18446744073709551616) (vT : Value) (e : List DEnt) (hT : SlS entc 2 H0 vT e) (hl : e.length ≤ 1000000) (hew : ∀ x ∈ e, EntW x) (B : ByteArray) (E : Nat) (vL : Value) (l : List Sg) (hB : B.size ≤ 140737488355328) (hL : SlS segc 6 H0 vL l) (hl2 : l.length ≤ 1000000) (hlow : LowL l) (hinb : InB B l) : ACalls Try.prog 19 [vT, .agg #[.string B, .int .u64 ((E : Nat) : Int), vL], .int .u64 ((t : Nat) : Int), .int .u64 ((z : Nat) : Int)] H0 (Rets (.tuple #[.string (spanV B l e t z).1, .bool (spanV B l e t z).2]) H0) := by
  have hF : Wd Fence.wide := .inl rfl
  have hM : Try.prog.follows .mixedOrders = true := by kernel_rfl
  have h1 := getV_lt hew t
  have h2 := getV_lt hew z
  have s0 := St.begin H0
  refine acalls_st Try.func19 rfl Try.ntmps19 rfl ?_
  refine awp_seq ?_
  refine awp_regs hF ?_
  refine x_new (fun b => .pointer (some ⟨b, 0, none⟩)) s0 (gyes_none rfl) (q_box (v := .agg #[.string B, .int .u64 ((E : Nat) : Int), vL]) (vs := [.string B, .int .u64 ((E : Nat) : Int), vL]) 3 rfl (by exact trivial) rfl) rfl (by decide) (cok1 trivial) (fun b1 H2 hb4 s3 => ?_)
  refine dv (gyes_none rfl) (q_as (v := .string (⟨#[]⟩ : ByteArray)) rfl) rfl (by decide) (cok1 (cconst rfl)) ?_
  refine dv (gyes_none rfl) (q_as (v := .bool false) rfl) rfl (by decide) (cok1 (cconst rfl)) ?_
  refine ⟨_, Wk.refl _ _, ?_⟩
  show awp _ _ _ _ _ _ _
  refine awp_seq ?_
  refine awp_regs hF ?_
  refine dv (gyes_none rfl) (q_mv (v := vT) rfl) rfl (by decide) (cok1 trivial) ?_
  refine dv (gyes_none rfl) (q_mv (v := .int .u64 ((t : Nat) : Int)) rfl) rfl (by decide) (cok1 trivial) ?_
  refine dv (gyes_none rfl) (q_call0 Try.call14 rfl (get_t_ok t (by omega) _ e (s3.sls hT) hl)) rfl (by decide) (call_ok rfl) ?_
  refine dv (gyes_none rfl) (q_mv (v := .tuple #[.int .u64 (((getV e t).1 : Nat) : Int), .bool ((getV e t).2)]) rfl) rfl (by decide) (cok1 trivial) ?_
  refine dv (gyes_none rfl) (q_extract (v := .int .u64 (((getV e t).1 : Nat) : Int)) rfl rfl) rfl (by decide) (cok1 trivial) ?_
  refine dvb (gyes_none rfl) (q_extract (v := .bool ((getV e t).2)) rfl rfl) rfl (by decide) (cok1 trivial) (fun c1 => ?_) (fun c1 => ?_)
  ·
    refine dv (gyes_none rfl) (q_as (v := .int .u64 (((getV e t).1 : Nat) : Int)) rfl) rfl (by decide) (cok1 trivial) ?_
    refine dv (gyes_none rfl) (q_as (v := .bool true) rfl) rfl (by decide) (cok1 trivial) ?_
    refine ⟨_, Wk.refl _ _, ?_⟩
    show awp _ _ _ _ _ _ _
    refine awp_seq ?_
    refine awp_seq ?_
    refine awp_regs hF ?_
    refine dv (gyes_none rfl) (q_mv (v := .bool true) rfl) rfl (by decide) (cok1 trivial) ?_
    refine dv (gyes_none rfl) (q_not (b := true) rfl) rfl (by decide) (cok1 trivial) ?_
    refine ⟨_, Wk.refl _ _, ?_⟩
    show awp _ _ _ _ _ _ _
    refine awp_cond_f rfl ?_
    refine awp_skip_wk ?_
    refine ⟨_, Wk.refl _ _, ?_⟩
    show awp _ _ _ _ _ _ _
    refine awp_seq ?_
    refine awp_regs hF ?_
    refine dv (gyes_none rfl) (q_mv (v := vT) rfl) rfl (by decide) (cok1 trivial) ?_
    refine dv (gyes_none rfl) (q_mv (v := .int .u64 ((z : Nat) : Int)) rfl) rfl (by decide) (cok1 trivial) ?_
    refine dv (gyes_none rfl) (q_call0 Try.call14 rfl (get_t_ok z (by omega) _ e (s3.sls hT) hl)) rfl (by decide) (call_ok rfl) ?_
    refine dv (gyes_none rfl) (q_mv (v := .tuple #[.int .u64 (((getV e z).1 : Nat) : Int), .bool ((getV e z).2)]) rfl) rfl (by decide) (cok1 trivial) ?_
    refine dv (gyes_none rfl) (q_extract (v := .int .u64 (((getV e z).1 : Nat) : Int)) rfl rfl) rfl (by decide) (cok1 trivial) ?_
    refine dvb (gyes_none rfl) (q_extract (v := .bool ((getV e z).2)) rfl rfl) rfl (by decide) (cok1 trivial) (fun c2 => ?_) (fun c2 => ?_)
    ·
      refine dv (gyes_none rfl) (q_as (v := .int .u64 (((getV e z).1 : Nat) : Int)) rfl) rfl (by decide) (cok1 trivial) ?_
      refine dv (gyes_none rfl) (q_as (v := .bool true) rfl) rfl (by decide) (cok1 trivial) ?_
      refine ⟨_, Wk.refl _ _, ?_⟩
      show awp _ _ _ _ _ _ _
      refine awp_seq ?_
      refine awp_seq ?_
      refine awp_regs hF ?_
      refine dv (gyes_none rfl) (q_mv (v := .bool true) rfl) rfl (by decide) (cok1 trivial) ?_
      refine dv (gyes_none rfl) (q_not (b := true) rfl) rfl (by decide) (cok1 trivial) ?_
      refine dv (gyes_none rfl) (q_mv (v := .bool false) rfl) rfl (by decide) (cok1 trivial) ?_
      refine dv (gyes_some rfl rfl) (q_mv (v := .int .u64 (((getV e z).1 : Nat) : Int)) rfl) rfl (by decide) (cok1 trivial) ?_
      refine dvb (gyes_some rfl rfl) (q_int rfl rfl rfl) rfl (by decide) (cok2 trivial (cconst rfl)) (fun c3 => ?_) (fun c3 => ?_)
      ·
        replace c3 := of_decide_eq_true c3
        refine dv (gyes_none rfl) (q_pf (v := .bool true) rfl rfl) rfl (by decide) (call_ok rfl) ?_
        refine ⟨_, Wk.refl _ _, ?_⟩
        show awp _ _ _ _ _ _ _
        refine awp_cond_t rfl ?_
        refine awp_seq ?_
        refine awp_regs hF ?_
        refine dv (gyes_none rfl) (q_as (v := .string (⟨#[]⟩ : ByteArray)) rfl) rfl (by decide) (cok1 (cconst rfl)) ?_
        refine dv (gyes_none rfl) (q_as (v := .bool false) rfl) rfl (by decide) (cok1 (cconst rfl)) ?_
        refine ⟨_, Wk.refl _ _, ?_⟩
        show awp _ _ _ _ _ _ _
        refine awp_ret_wk ?_
        refine ⟨_, Wk.refl _ _, ?_⟩
        repeat (with_reducible first | refine then_ret ?_ | refine blk_ret ?_ | refine then_exit ?_ | refine blk_exit ?_ | refine blk_exit' (by decide) ?_ | refine blk_normal ?_ | refine then_normal ?_ | refine retq_ret ?_ | refine retq_normal ?_ | refine ng_normal ?_ | refine ng_ret ?_ | refine ng_exit ?_)
        exact ret_none (v := .tuple #[.string (⟨#[]⟩ : ByteArray), .bool false]) rfl s3.kp (.tmp rfl (.tmp rfl .nil)) rfl rfl ⟨by rw [spanV, if_neg (by simp [*]), if_pos (by first | exact .inl (by assumption) | exact .inr (by omega))], rfl⟩
      ·
        replace c3 := of_decide_eq_false c3
        refine dv (gyes_none rfl) (q_pf (v := .bool false) rfl rfl) rfl (by decide) (call_ok rfl) ?_
        refine ⟨_, Wk.refl _ _, ?_⟩
        show awp _ _ _ _ _ _ _
        refine awp_cond_f rfl ?_
        refine awp_skip_wk ?_
        refine ⟨_, Wk.refl _ _, ?_⟩
        show awp _ _ _ _ _ _ _
        refine awp_seq ?_
        refine awp_regs hF ?_
        refine dv (gyes_none rfl) (q_loadAgg Try.isAgg33 Try.sizeOf33 rfl (s3.rd (j := 0) rfl) (Nat.le_of_ble_eq_true rfl) rfl) rfl (by decide) (cok1 trivial) ?_
        refine dv (gyes_none rfl) (q_mv (v := .int .u64 (((getV e t).1 : Nat) : Int)) rfl) rfl (by decide) (cok1 trivial) ?_
        refine dv (gyes_none rfl) (q_mv (v := .int .u64 (((getV e z).1 : Nat) : Int)) rfl) rfl (by decide) (cok1 trivial) ?_
        refine dv (gyes_none rfl) (q_call0 Try.call35 rfl (imgAt_ok B E ((getV e t).1) ((getV e z).1) (by omega) (by omega) vL l hB (s3.sls hL) hl2 hlow hinb)) rfl (by decide) (call_ok rfl) ?_
        refine dv (gyes_none rfl) (q_extract (v := .string ((imgAt B l ((getV e t).1) ((getV e z).1)).1)) rfl rfl) rfl (by decide) (cok1 trivial) ?_
        refine dv (gyes_none rfl) (q_extract (v := .bool ((imgAt B l ((getV e t).1) ((getV e z).1)).2)) rfl rfl) rfl (by decide) (cok1 trivial) ?_
        refine dv (gyes_none rfl) (q_as (v := .string ((imgAt B l ((getV e t).1) ((getV e z).1)).1)) rfl) rfl (by decide) (cok1 trivial) ?_
        refine dv (gyes_none rfl) (q_as (v := .bool ((imgAt B l ((getV e t).1) ((getV e z).1)).2)) rfl) rfl (by decide) (cok1 trivial) ?_
        refine ⟨_, Wk.refl _ _, ?_⟩
        show awp _ _ _ _ _ _ _
        refine awp_ret_wk ?_
        refine ⟨_, Wk.refl _ _, ?_⟩
        repeat (with_reducible first | refine then_ret ?_ | refine blk_ret ?_ | refine then_exit ?_ | refine blk_exit ?_ | refine blk_exit' (by decide) ?_ | refine blk_normal ?_ | refine then_normal ?_ | refine retq_ret ?_ | refine retq_normal ?_ | refine ng_normal ?_ | refine ng_ret ?_ | refine ng_exit ?_)
        exact ret_none (v := .tuple #[.string ((imgAt B l ((getV e t).1) ((getV e z).1)).1), .bool ((imgAt B l ((getV e t).1) ((getV e z).1)).2)]) rfl s3.kp (.tmp rfl (.tmp rfl .nil)) rfl rfl ⟨by rw [spanV, if_neg (by simp [*]), if_neg (by rintro (h | h) <;> first | omega | simp_all)], rfl⟩
    ·
      refine dv (gyes_none rfl) (q_as (v := .int .u64 (((getV e z).1 : Nat) : Int)) rfl) rfl (by decide) (cok1 trivial) ?_
      refine dv (gyes_none rfl) (q_as (v := .bool false) rfl) rfl (by decide) (cok1 trivial) ?_
      refine ⟨_, Wk.refl _ _, ?_⟩
      show awp _ _ _ _ _ _ _
      refine awp_seq ?_
      refine awp_seq ?_
      refine awp_regs hF ?_
      refine dv (gyes_none rfl) (q_mv (v := .bool false) rfl) rfl (by decide) (cok1 trivial) ?_
      refine dv (gyes_none rfl) (q_not (b := false) rfl) rfl (by decide) (cok1 trivial) ?_
      refine dv (gyes_none rfl) (q_mv (v := .bool true) rfl) rfl (by decide) (cok1 trivial) ?_
      refine dno rfl (.inl rfl) rfl (by decide) ?_
      refine dno rfl (.inl rfl) rfl (by decide) ?_
      refine dv (gyes_none rfl) (q_pt (v := .bool true) rfl rfl) rfl (by decide) (call_ok rfl) ?_
      refine ⟨_, Wk.refl _ _, ?_⟩
      show awp _ _ _ _ _ _ _
      refine awp_cond_t rfl ?_
      refine awp_seq ?_
      refine awp_regs hF ?_
      refine dv (gyes_none rfl) (q_as (v := .string (⟨#[]⟩ : ByteArray)) rfl) rfl (by decide) (cok1 (cconst rfl)) ?_
      refine dv (gyes_none rfl) (q_as (v := .bool false) rfl) rfl (by decide) (cok1 (cconst rfl)) ?_
      refine ⟨_, Wk.refl _ _, ?_⟩
      show awp _ _ _ _ _ _ _
      refine awp_ret_wk ?_
      refine ⟨_, Wk.refl _ _, ?_⟩
      repeat (with_reducible first | refine then_ret ?_ | refine blk_ret ?_ | refine then_exit ?_ | refine blk_exit ?_ | refine blk_exit' (by decide) ?_ | refine blk_normal ?_ | refine then_normal ?_ | refine retq_ret ?_ | refine retq_normal ?_ | refine ng_normal ?_ | refine ng_ret ?_ | refine ng_exit ?_)
      exact ret_none (v := .tuple #[.string (⟨#[]⟩ : ByteArray), .bool false]) rfl s3.kp (.tmp rfl (.tmp rfl .nil)) rfl rfl ⟨by rw [spanV, if_neg (by simp [*]), if_pos (by first | exact .inl (by assumption) | exact .inr (by omega))], rfl⟩
  ·
    refine dv (gyes_none rfl) (q_as (v := .int .u64 (((getV e t).1 : Nat) : Int)) rfl) rfl (by decide) (cok1 trivial) ?_
    refine dv (gyes_none rfl) (q_as (v := .bool false) rfl) rfl (by decide) (cok1 trivial) ?_
    refine ⟨_, Wk.refl _ _, ?_⟩
    show awp _ _ _ _ _ _ _
    refine awp_seq ?_
    refine awp_seq ?_
    refine awp_regs hF ?_
    refine dv (gyes_none rfl) (q_mv (v := .bool false) rfl) rfl (by decide) (cok1 trivial) ?_
    refine dv (gyes_none rfl) (q_not (b := false) rfl) rfl (by decide) (cok1 trivial) ?_
    refine ⟨_, Wk.refl _ _, ?_⟩
    show awp _ _ _ _ _ _ _
    refine awp_cond_t rfl ?_
    refine awp_seq ?_
    refine awp_regs hF ?_
    refine dv (gyes_none rfl) (q_as (v := .string (⟨#[]⟩ : ByteArray)) rfl) rfl (by decide) (cok1 (cconst rfl)) ?_
    refine dv (gyes_none rfl) (q_as (v := .bool true) rfl) rfl (by decide) (cok1 (cconst rfl)) ?_
    refine ⟨_, Wk.refl _ _, ?_⟩
    show awp _ _ _ _ _ _ _
    refine awp_ret_wk ?_
    refine ⟨_, Wk.refl _ _, ?_⟩
    repeat (with_reducible first | refine then_ret ?_ | refine blk_ret ?_ | refine then_exit ?_ | refine blk_exit ?_ | refine blk_exit' (by decide) ?_ | refine blk_normal ?_ | refine then_normal ?_ | refine retq_ret ?_ | refine retq_normal ?_ | refine ng_normal ?_ | refine ng_ret ?_ | refine ng_exit ?_)
    exact ret_none (v := .tuple #[.string (⟨#[]⟩ : ByteArray), .bool true]) rfl s3.kp (.tmp rfl (.tmp rfl .nil)) rfl rfl ⟨by rw [spanV, if_pos (by assumption)], rfl⟩
set_option maxRecDepth 100000 in
set_option maxHeartbeats 4000000 in
theorem rspan_ok {H0 : AHeap} (t z : Nat) (vT : Value) (e : List DEnt) (hT : SlS entc 2 H0 vT e) (hl : e.length ≤ 1000000) (hew : ∀ x ∈ e, EntW x) (B : ByteArray) (vR : Value) (l : List Sg) (hB : B.size ≤ 140737488355328) (hR : SlS segr 6 H0 vR l) (hl2 : l.length ≤ 1000000) (hlow : LowL l) (hinb : InB B l) : ACalls Try.prog 20 [.string B, vR, vT, .int .u64 ((t : Nat) : Int), .int .u64 ((z : Nat) : Int)] H0 (Rets (.tuple #[.string (spanV B l e t z).1, .bool (spanV B l e t z).2]) H0) := by
  have hF : Wd Fence.wide := .inl rfl
  have hM : Try.prog.follows .mixedOrders = true := by kernel_rfl
  have h1 := getV_lt hew t
  have h2 := getV_lt hew z
  have s0 := St.begin H0
  refine acalls_st Try.func20 rfl Try.ntmps20 rfl ?_
  refine awp_seq ?_
  refine awp_regs hF ?_
  refine dv (gyes_none rfl) (q_as (v := .string (⟨#[]⟩ : ByteArray)) rfl) rfl (by decide) (cok1 (cconst rfl)) ?_
  refine dv (gyes_none rfl) (q_as (v := .bool false) rfl) rfl (by decide) (cok1 (cconst rfl)) ?_
  refine ⟨_, Wk.refl _ _, ?_⟩
  show awp _ _ _ _ _ _ _
  refine awp_seq ?_
  refine awp_regs hF ?_
  refine dv (gyes_none rfl) (q_mv (v := vT) rfl) rfl (by decide) (cok1 trivial) ?_
  refine dv (gyes_none rfl) (q_mv (v := .int .u64 ((t : Nat) : Int)) rfl) rfl (by decide) (cok1 trivial) ?_
  refine dv (gyes_none rfl) (q_call0 Try.call15 rfl (rget_t_ok t _ e (s0.sls hT) hl)) rfl (by decide) (call_ok rfl) ?_
  refine dv (gyes_none rfl) (q_mv (v := .tuple #[.int .u64 (((getV e t).1 : Nat) : Int), .bool ((getV e t).2)]) rfl) rfl (by decide) (cok1 trivial) ?_
  refine dv (gyes_none rfl) (q_extract (v := .int .u64 (((getV e t).1 : Nat) : Int)) rfl rfl) rfl (by decide) (cok1 trivial) ?_
  refine dvb (gyes_none rfl) (q_extract (v := .bool ((getV e t).2)) rfl rfl) rfl (by decide) (cok1 trivial) (fun c1 => ?_) (fun c1 => ?_)
  ·
    refine dv (gyes_none rfl) (q_as (v := .int .u64 (((getV e t).1 : Nat) : Int)) rfl) rfl (by decide) (cok1 trivial) ?_
    refine dv (gyes_none rfl) (q_as (v := .bool true) rfl) rfl (by decide) (cok1 trivial) ?_
    refine ⟨_, Wk.refl _ _, ?_⟩
    show awp _ _ _ _ _ _ _
    refine awp_seq ?_
    refine awp_seq ?_
    refine awp_regs hF ?_
    refine dv (gyes_none rfl) (q_mv (v := .bool true) rfl) rfl (by decide) (cok1 trivial) ?_
    refine dv (gyes_none rfl) (q_not (b := true) rfl) rfl (by decide) (cok1 trivial) ?_
    refine ⟨_, Wk.refl _ _, ?_⟩
    show awp _ _ _ _ _ _ _
    refine awp_cond_f rfl ?_
    refine awp_skip_wk ?_
    refine ⟨_, Wk.refl _ _, ?_⟩
    show awp _ _ _ _ _ _ _
    refine awp_seq ?_
    refine awp_regs hF ?_
    refine dv (gyes_none rfl) (q_mv (v := vT) rfl) rfl (by decide) (cok1 trivial) ?_
    refine dv (gyes_none rfl) (q_mv (v := .int .u64 ((z : Nat) : Int)) rfl) rfl (by decide) (cok1 trivial) ?_
    refine dv (gyes_none rfl) (q_call0 Try.call15 rfl (rget_t_ok z _ e (s0.sls hT) hl)) rfl (by decide) (call_ok rfl) ?_
    refine dv (gyes_none rfl) (q_mv (v := .tuple #[.int .u64 (((getV e z).1 : Nat) : Int), .bool ((getV e z).2)]) rfl) rfl (by decide) (cok1 trivial) ?_
    refine dv (gyes_none rfl) (q_extract (v := .int .u64 (((getV e z).1 : Nat) : Int)) rfl rfl) rfl (by decide) (cok1 trivial) ?_
    refine dvb (gyes_none rfl) (q_extract (v := .bool ((getV e z).2)) rfl rfl) rfl (by decide) (cok1 trivial) (fun c2 => ?_) (fun c2 => ?_)
    ·
      refine dv (gyes_none rfl) (q_as (v := .int .u64 (((getV e z).1 : Nat) : Int)) rfl) rfl (by decide) (cok1 trivial) ?_
      refine dv (gyes_none rfl) (q_as (v := .bool true) rfl) rfl (by decide) (cok1 trivial) ?_
      refine ⟨_, Wk.refl _ _, ?_⟩
      show awp _ _ _ _ _ _ _
      refine awp_seq ?_
      refine awp_seq ?_
      refine awp_regs hF ?_
      refine dv (gyes_none rfl) (q_mv (v := .bool true) rfl) rfl (by decide) (cok1 trivial) ?_
      refine dv (gyes_none rfl) (q_not (b := true) rfl) rfl (by decide) (cok1 trivial) ?_
      refine dv (gyes_none rfl) (q_mv (v := .bool false) rfl) rfl (by decide) (cok1 trivial) ?_
      refine dv (gyes_some rfl rfl) (q_mv (v := .int .u64 (((getV e z).1 : Nat) : Int)) rfl) rfl (by decide) (cok1 trivial) ?_
      refine dvb (gyes_some rfl rfl) (q_int rfl rfl rfl) rfl (by decide) (cok2 trivial (cconst rfl)) (fun c3 => ?_) (fun c3 => ?_)
      ·
        replace c3 := of_decide_eq_true c3
        refine dv (gyes_none rfl) (q_pf (v := .bool true) rfl rfl) rfl (by decide) (call_ok rfl) ?_
        refine ⟨_, Wk.refl _ _, ?_⟩
        show awp _ _ _ _ _ _ _
        refine awp_cond_t rfl ?_
        refine awp_seq ?_
        refine awp_regs hF ?_
        refine dv (gyes_none rfl) (q_as (v := .string (⟨#[]⟩ : ByteArray)) rfl) rfl (by decide) (cok1 (cconst rfl)) ?_
        refine dv (gyes_none rfl) (q_as (v := .bool false) rfl) rfl (by decide) (cok1 (cconst rfl)) ?_
        refine ⟨_, Wk.refl _ _, ?_⟩
        show awp _ _ _ _ _ _ _
        refine awp_ret_wk ?_
        refine ⟨_, Wk.refl _ _, ?_⟩
        repeat (with_reducible first | refine then_ret ?_ | refine blk_ret ?_ | refine then_exit ?_ | refine blk_exit ?_ | refine blk_exit' (by decide) ?_ | refine blk_normal ?_ | refine then_normal ?_ | refine retq_ret ?_ | refine retq_normal ?_ | refine ng_normal ?_ | refine ng_ret ?_ | refine ng_exit ?_)
        exact ret_none (v := .tuple #[.string (⟨#[]⟩ : ByteArray), .bool false]) rfl s0.kp (.tmp rfl (.tmp rfl .nil)) rfl rfl ⟨by rw [spanV, if_neg (by simp [*]), if_pos (by first | exact .inl (by assumption) | exact .inr (by omega))], rfl⟩
      ·
        replace c3 := of_decide_eq_false c3
        refine dv (gyes_none rfl) (q_pf (v := .bool false) rfl rfl) rfl (by decide) (call_ok rfl) ?_
        refine ⟨_, Wk.refl _ _, ?_⟩
        show awp _ _ _ _ _ _ _
        refine awp_cond_f rfl ?_
        refine awp_skip_wk ?_
        refine ⟨_, Wk.refl _ _, ?_⟩
        show awp _ _ _ _ _ _ _
        refine awp_seq ?_
        refine awp_regs hF ?_
        refine dv (gyes_none rfl) (q_mv (v := .string B) rfl) rfl (by decide) (cok1 trivial) ?_
        refine dv (gyes_none rfl) (q_mv (v := vR) rfl) rfl (by decide) (cok1 trivial) ?_
        refine dv (gyes_none rfl) (q_mv (v := .int .u64 (((getV e t).1 : Nat) : Int)) rfl) rfl (by decide) (cok1 trivial) ?_
        refine dv (gyes_none rfl) (q_mv (v := .int .u64 (((getV e z).1 : Nat) : Int)) rfl) rfl (by decide) (cok1 trivial) ?_
        refine dv (gyes_none rfl) (q_call0 Try.call38 rfl (rbytes_ok B hB vR l (s0.sls hR) hl2 hlow hinb ((getV e t).1) ((getV e z).1) (by omega) (by omega))) rfl (by decide) (call_ok rfl) ?_
        refine dv (gyes_none rfl) (q_extract (v := .string ((imgAt B l ((getV e t).1) ((getV e z).1)).1)) rfl rfl) rfl (by decide) (cok1 trivial) ?_
        refine dv (gyes_none rfl) (q_extract (v := .bool ((imgAt B l ((getV e t).1) ((getV e z).1)).2)) rfl rfl) rfl (by decide) (cok1 trivial) ?_
        refine dv (gyes_none rfl) (q_as (v := .string ((imgAt B l ((getV e t).1) ((getV e z).1)).1)) rfl) rfl (by decide) (cok1 trivial) ?_
        refine dv (gyes_none rfl) (q_as (v := .bool ((imgAt B l ((getV e t).1) ((getV e z).1)).2)) rfl) rfl (by decide) (cok1 trivial) ?_
        refine ⟨_, Wk.refl _ _, ?_⟩
        show awp _ _ _ _ _ _ _
        refine awp_ret_wk ?_
        refine ⟨_, Wk.refl _ _, ?_⟩
        repeat (with_reducible first | refine then_ret ?_ | refine blk_ret ?_ | refine then_exit ?_ | refine blk_exit ?_ | refine blk_exit' (by decide) ?_ | refine blk_normal ?_ | refine then_normal ?_ | refine retq_ret ?_ | refine retq_normal ?_ | refine ng_normal ?_ | refine ng_ret ?_ | refine ng_exit ?_)
        exact ret_none (v := .tuple #[.string ((imgAt B l ((getV e t).1) ((getV e z).1)).1), .bool ((imgAt B l ((getV e t).1) ((getV e z).1)).2)]) rfl s0.kp (.tmp rfl (.tmp rfl .nil)) rfl rfl ⟨by rw [spanV, if_neg (by simp [*]), if_neg (by rintro (h | h) <;> first | omega | simp_all)], rfl⟩
    ·
      refine dv (gyes_none rfl) (q_as (v := .int .u64 (((getV e z).1 : Nat) : Int)) rfl) rfl (by decide) (cok1 trivial) ?_
      refine dv (gyes_none rfl) (q_as (v := .bool false) rfl) rfl (by decide) (cok1 trivial) ?_
      refine ⟨_, Wk.refl _ _, ?_⟩
      show awp _ _ _ _ _ _ _
      refine awp_seq ?_
      refine awp_seq ?_
      refine awp_regs hF ?_
      refine dv (gyes_none rfl) (q_mv (v := .bool false) rfl) rfl (by decide) (cok1 trivial) ?_
      refine dv (gyes_none rfl) (q_not (b := false) rfl) rfl (by decide) (cok1 trivial) ?_
      refine dv (gyes_none rfl) (q_mv (v := .bool true) rfl) rfl (by decide) (cok1 trivial) ?_
      refine dno rfl (.inl rfl) rfl (by decide) ?_
      refine dno rfl (.inl rfl) rfl (by decide) ?_
      refine dv (gyes_none rfl) (q_pt (v := .bool true) rfl rfl) rfl (by decide) (call_ok rfl) ?_
      refine ⟨_, Wk.refl _ _, ?_⟩
      show awp _ _ _ _ _ _ _
      refine awp_cond_t rfl ?_
      refine awp_seq ?_
      refine awp_regs hF ?_
      refine dv (gyes_none rfl) (q_as (v := .string (⟨#[]⟩ : ByteArray)) rfl) rfl (by decide) (cok1 (cconst rfl)) ?_
      refine dv (gyes_none rfl) (q_as (v := .bool false) rfl) rfl (by decide) (cok1 (cconst rfl)) ?_
      refine ⟨_, Wk.refl _ _, ?_⟩
      show awp _ _ _ _ _ _ _
      refine awp_ret_wk ?_
      refine ⟨_, Wk.refl _ _, ?_⟩
      repeat (with_reducible first | refine then_ret ?_ | refine blk_ret ?_ | refine then_exit ?_ | refine blk_exit ?_ | refine blk_exit' (by decide) ?_ | refine blk_normal ?_ | refine then_normal ?_ | refine retq_ret ?_ | refine retq_normal ?_ | refine ng_normal ?_ | refine ng_ret ?_ | refine ng_exit ?_)
      exact ret_none (v := .tuple #[.string (⟨#[]⟩ : ByteArray), .bool false]) rfl s0.kp (.tmp rfl (.tmp rfl .nil)) rfl rfl ⟨by rw [spanV, if_neg (by simp [*]), if_pos (by first | exact .inl (by assumption) | exact .inr (by omega))], rfl⟩
  ·
    refine dv (gyes_none rfl) (q_as (v := .int .u64 (((getV e t).1 : Nat) : Int)) rfl) rfl (by decide) (cok1 trivial) ?_
    refine dv (gyes_none rfl) (q_as (v := .bool false) rfl) rfl (by decide) (cok1 trivial) ?_
    refine ⟨_, Wk.refl _ _, ?_⟩
    show awp _ _ _ _ _ _ _
    refine awp_seq ?_
    refine awp_seq ?_
    refine awp_regs hF ?_
    refine dv (gyes_none rfl) (q_mv (v := .bool false) rfl) rfl (by decide) (cok1 trivial) ?_
    refine dv (gyes_none rfl) (q_not (b := false) rfl) rfl (by decide) (cok1 trivial) ?_
    refine ⟨_, Wk.refl _ _, ?_⟩
    show awp _ _ _ _ _ _ _
    refine awp_cond_t rfl ?_
    refine awp_seq ?_
    refine awp_regs hF ?_
    refine dv (gyes_none rfl) (q_as (v := .string (⟨#[]⟩ : ByteArray)) rfl) rfl (by decide) (cok1 (cconst rfl)) ?_
    refine dv (gyes_none rfl) (q_as (v := .bool true) rfl) rfl (by decide) (cok1 (cconst rfl)) ?_
    refine ⟨_, Wk.refl _ _, ?_⟩
    show awp _ _ _ _ _ _ _
    refine awp_ret_wk ?_
    refine ⟨_, Wk.refl _ _, ?_⟩
    repeat (with_reducible first | refine then_ret ?_ | refine blk_ret ?_ | refine then_exit ?_ | refine blk_exit ?_ | refine blk_exit' (by decide) ?_ | refine blk_normal ?_ | refine then_normal ?_ | refine retq_ret ?_ | refine retq_normal ?_ | refine ng_normal ?_ | refine ng_ret ?_ | refine ng_exit ?_)
    exact ret_none (v := .tuple #[.string (⟨#[]⟩ : ByteArray), .bool true]) rfl s0.kp (.tmp rfl (.tmp rfl .nil)) rfl rfl ⟨by rw [spanV, if_pos (by assumption)], rfl⟩
set_option maxRecDepth 100000 in
set_option maxHeartbeats 4000000 in
theorem tab_ok {H0 : AHeap} (a : Nat) (ha : a < 18446744073709551616) (vT : Value) (e : List DEnt) (hT : SlS entc 2 H0 vT e) (hl : e.length ≤ 1000000) (hew : ∀ x ∈ e, EntW x) (B : ByteArray) (E : Nat) (vL : Value) (l : List Sg) (hB : B.size ≤ 140737488355328) (hL : SlS segc 6 H0 vL l) (hl2 : l.length ≤ 1000000) (hlow : LowL l) (hinb : InB B l) : ACalls Try.prog 21 [vT, .agg #[.string B, .int .u64 ((E : Nat) : Int), vL], .int .u64 ((a : Nat) : Int)] H0 (Rets (.tuple #[.string (tabV B l e a).1, .bool (tabV B l e a).2]) H0) := by
  have hF : Wd Fence.wide := .inl rfl
  have hM : Try.prog.follows .mixedOrders = true := by kernel_rfl
  have hsz := spanV_size (e := e) (t := 5) (z := 10) hinb
  have s0 := St.begin H0
  refine acalls_st Try.func21 rfl Try.ntmps21 rfl ?_
  refine awp_seq ?_
  refine awp_regs hF ?_
  refine x_new (fun b => .pointer (some ⟨b, 0, none⟩)) s0 (gyes_none rfl) (q_box (v := .agg #[.string B, .int .u64 ((E : Nat) : Int), vL]) (vs := [.string B, .int .u64 ((E : Nat) : Int), vL]) 3 rfl (by exact trivial) rfl) rfl (by decide) (cok1 trivial) (fun b1 H2 hb4 s3 => ?_)
  refine dv (gyes_none rfl) (q_as (v := .string (⟨#[]⟩ : ByteArray)) rfl) rfl (by decide) (cok1 (cconst rfl)) ?_
  refine dv (gyes_none rfl) (q_as (v := .bool false) rfl) rfl (by decide) (cok1 (cconst rfl)) ?_
  refine ⟨_, Wk.refl _ _, ?_⟩
  show awp _ _ _ _ _ _ _
  refine awp_seq ?_
  refine awp_seq ?_
  refine awp_regs hF ?_
  refine dv (gyes_none rfl) (q_mv (v := vT) rfl) rfl (by decide) (cok1 trivial) ?_
  refine dv (gyes_none rfl) (q_call0 Try.call14 rfl (get_t_ok 5 (by omega) _ e (s3.sls hT) hl)) rfl (by decide) (call_ok rfl) ?_
  refine dv (gyes_none rfl) (q_mv (v := .tuple #[.int .u64 (((getV e 5).1 : Nat) : Int), .bool ((getV e 5).2)]) rfl) rfl (by decide) (cok1 trivial) ?_
  refine dv (gyes_none rfl) (q_extract (v := .int .u64 (((getV e 5).1 : Nat) : Int)) rfl rfl) rfl (by decide) (cok1 trivial) ?_
  refine dvb (gyes_none rfl) (q_extract (v := .bool ((getV e 5).2)) rfl rfl) rfl (by decide) (cok1 trivial) (fun c1 => ?_) (fun c1 => ?_)
  ·
    refine dv (gyes_none rfl) (q_as (v := .int .u64 (((getV e 5).1 : Nat) : Int)) rfl) rfl (by decide) (cok1 trivial) ?_
    refine dv (gyes_none rfl) (q_as (v := .bool true) rfl) rfl (by decide) (cok1 trivial) ?_
    refine ⟨_, Wk.refl _ _, ?_⟩
    show awp _ _ _ _ _ _ _
    refine awp_seq ?_
    refine awp_regs hF ?_
    refine dv (gyes_none rfl) (q_mv (v := .bool true) rfl) rfl (by decide) (cok1 trivial) ?_
    refine dv (gyes_none rfl) (q_not (b := true) rfl) rfl (by decide) (cok1 trivial) ?_
    refine ⟨_, Wk.refl _ _, ?_⟩
    show awp _ _ _ _ _ _ _
    refine awp_cond_f rfl ?_
    refine awp_skip_wk ?_
    refine ⟨_, Wk.refl _ _, ?_⟩
    show awp _ _ _ _ _ _ _
    refine awp_seq ?_
    refine awp_regs hF ?_
    refine dv (gyes_none rfl) (q_mv (v := vT) rfl) rfl (by decide) (cok1 trivial) ?_
    refine dv (gyes_none rfl) (q_loadAgg Try.isAgg33 Try.sizeOf33 rfl (s3.rd (j := 0) rfl) (Nat.le_of_ble_eq_true rfl) rfl) rfl (by decide) (cok1 trivial) ?_
    refine dv (gyes_none rfl) (q_call0 Try.call19 rfl (span_ok 5 10 (by decide) (by decide) _ e (s3.sls hT) hl hew B E vL l hB (s3.sls hL) hl2 hlow hinb)) rfl (by decide) (call_ok rfl) ?_
    refine dv (gyes_none rfl) (q_mv (v := .tuple #[.string ((spanV B l e 5 10).1), .bool ((spanV B l e 5 10).2)]) rfl) rfl (by decide) (cok1 trivial) ?_
    refine dv (gyes_none rfl) (q_extract (v := .string ((spanV B l e 5 10).1)) rfl rfl) rfl (by decide) (cok1 trivial) ?_
    refine dvb (gyes_none rfl) (q_extract (v := .bool ((spanV B l e 5 10).2)) rfl rfl) rfl (by decide) (cok1 trivial) (fun c2 => ?_) (fun c2 => ?_)
    ·
      refine dv (gyes_none rfl) (q_as (v := .string ((spanV B l e 5 10).1)) rfl) rfl (by decide) (cok1 trivial) ?_
      refine dv (gyes_none rfl) (q_as (v := .bool true) rfl) rfl (by decide) (cok1 trivial) ?_
      refine ⟨_, Wk.refl _ _, ?_⟩
      show awp _ _ _ _ _ _ _
      refine awp_seq ?_
      refine awp_seq ?_
      refine awp_regs hF ?_
      refine dv (gyes_none rfl) (q_mv (v := .bool true) rfl) rfl (by decide) (cok1 trivial) ?_
      refine dv (gyes_none rfl) (q_not (b := true) rfl) rfl (by decide) (cok1 trivial) ?_
      refine ⟨_, Wk.refl _ _, ?_⟩
      show awp _ _ _ _ _ _ _
      refine awp_cond_f rfl ?_
      refine awp_skip_wk ?_
      refine ⟨_, Wk.refl _ _, ?_⟩
      show awp _ _ _ _ _ _ _
      refine awp_seq ?_
      refine awp_regs hF ?_
      refine dv (gyes_none rfl) (q_mv (v := .string ((spanV B l e 5 10).1)) rfl) rfl (by decide) (cok1 trivial) ?_
      refine dv (gyes_none rfl) (q_mv (v := .int .u64 ((a : Nat) : Int)) rfl) rfl (by decide) (cok1 trivial) ?_
      refine dv (gyes_none rfl) (q_call0 Try.call41 rfl (leText_ok (spanV B l e 5 10).1 a 32 (Nat.le_trans hsz (by decide)) ha (by decide))) rfl (by decide) (call_ok rfl) ?_
      refine dv (gyes_none rfl) (q_extract (v := .string ((textV (spanV B l e 5 10).1 a 32).1)) rfl rfl) rfl (by decide) (cok1 trivial) ?_
      refine dv (gyes_none rfl) (q_extract (v := .bool ((textV (spanV B l e 5 10).1 a 32).2)) rfl rfl) rfl (by decide) (cok1 trivial) ?_
      refine dv (gyes_none rfl) (q_as (v := .string ((textV (spanV B l e 5 10).1 a 32).1)) rfl) rfl (by decide) (cok1 trivial) ?_
      refine dv (gyes_none rfl) (q_as (v := .bool ((textV (spanV B l e 5 10).1 a 32).2)) rfl) rfl (by decide) (cok1 trivial) ?_
      refine ⟨_, Wk.refl _ _, ?_⟩
      show awp _ _ _ _ _ _ _
      refine awp_ret_wk ?_
      refine ⟨_, Wk.refl _ _, ?_⟩
      repeat (with_reducible first | refine then_ret ?_ | refine blk_ret ?_ | refine then_exit ?_ | refine blk_exit ?_ | refine blk_exit' (by decide) ?_ | refine blk_normal ?_ | refine then_normal ?_ | refine retq_ret ?_ | refine retq_normal ?_ | refine ng_normal ?_ | refine ng_ret ?_ | refine ng_exit ?_)
      exact ret_none (v := .tuple #[.string ((textV (spanV B l e 5 10).1 a 32).1), .bool ((textV (spanV B l e 5 10).1 a 32).2)]) rfl s3.kp (.tmp rfl (.tmp rfl .nil)) rfl rfl ⟨by rw [tabV, if_neg (by simp [*]), if_neg (by simp [*])], rfl⟩
    ·
      refine dv (gyes_none rfl) (q_as (v := .string ((spanV B l e 5 10).1)) rfl) rfl (by decide) (cok1 trivial) ?_
      refine dv (gyes_none rfl) (q_as (v := .bool false) rfl) rfl (by decide) (cok1 trivial) ?_
      refine ⟨_, Wk.refl _ _, ?_⟩
      show awp _ _ _ _ _ _ _
      refine awp_seq ?_
      refine awp_seq ?_
      refine awp_regs hF ?_
      refine dv (gyes_none rfl) (q_mv (v := .bool false) rfl) rfl (by decide) (cok1 trivial) ?_
      refine dv (gyes_none rfl) (q_not (b := false) rfl) rfl (by decide) (cok1 trivial) ?_
      refine ⟨_, Wk.refl _ _, ?_⟩
      show awp _ _ _ _ _ _ _
      refine awp_cond_t rfl ?_
      refine awp_seq ?_
      refine awp_regs hF ?_
      refine dv (gyes_none rfl) (q_as (v := .string (⟨#[]⟩ : ByteArray)) rfl) rfl (by decide) (cok1 (cconst rfl)) ?_
      refine dv (gyes_none rfl) (q_as (v := .bool false) rfl) rfl (by decide) (cok1 (cconst rfl)) ?_
      refine ⟨_, Wk.refl _ _, ?_⟩
      show awp _ _ _ _ _ _ _
      refine awp_ret_wk ?_
      refine ⟨_, Wk.refl _ _, ?_⟩
      repeat (with_reducible first | refine then_ret ?_ | refine blk_ret ?_ | refine then_exit ?_ | refine blk_exit ?_ | refine blk_exit' (by decide) ?_ | refine blk_normal ?_ | refine then_normal ?_ | refine retq_ret ?_ | refine retq_normal ?_ | refine ng_normal ?_ | refine ng_ret ?_ | refine ng_exit ?_)
      exact ret_none (v := .tuple #[.string (⟨#[]⟩ : ByteArray), .bool false]) rfl s3.kp (.tmp rfl (.tmp rfl .nil)) rfl rfl ⟨by rw [tabV, if_neg (by simp [*]), if_pos (by assumption)], rfl⟩
  ·
    refine dv (gyes_none rfl) (q_as (v := .int .u64 (((getV e 5).1 : Nat) : Int)) rfl) rfl (by decide) (cok1 trivial) ?_
    refine dv (gyes_none rfl) (q_as (v := .bool false) rfl) rfl (by decide) (cok1 trivial) ?_
    refine ⟨_, Wk.refl _ _, ?_⟩
    show awp _ _ _ _ _ _ _
    refine awp_seq ?_
    refine awp_regs hF ?_
    refine dv (gyes_none rfl) (q_mv (v := .bool false) rfl) rfl (by decide) (cok1 trivial) ?_
    refine dv (gyes_none rfl) (q_not (b := false) rfl) rfl (by decide) (cok1 trivial) ?_
    refine ⟨_, Wk.refl _ _, ?_⟩
    show awp _ _ _ _ _ _ _
    refine awp_cond_t rfl ?_
    refine awp_seq ?_
    refine awp_regs hF ?_
    refine dv (gyes_none rfl) (q_as (v := .string (⟨#[]⟩ : ByteArray)) rfl) rfl (by decide) (cok1 (cconst rfl)) ?_
    refine dv (gyes_none rfl) (q_as (v := .bool false) rfl) rfl (by decide) (cok1 (cconst rfl)) ?_
    refine ⟨_, Wk.refl _ _, ?_⟩
    show awp _ _ _ _ _ _ _
    refine awp_ret_wk ?_
    refine ⟨_, Wk.refl _ _, ?_⟩
    repeat (with_reducible first | refine then_ret ?_ | refine blk_ret ?_ | refine then_exit ?_ | refine blk_exit ?_ | refine blk_exit' (by decide) ?_ | refine blk_normal ?_ | refine then_normal ?_ | refine retq_ret ?_ | refine retq_normal ?_ | refine ng_normal ?_ | refine ng_ret ?_ | refine ng_exit ?_)
    exact ret_none (v := .tuple #[.string (⟨#[]⟩ : ByteArray), .bool false]) rfl s3.kp (.tmp rfl (.tmp rfl .nil)) rfl rfl ⟨by rw [tabV, if_pos (by assumption)], rfl⟩

end Go.Proofs.YthfndghgfabbjaaA


/-
  Walks of functions of the given program, and what they compute.
-/
namespace Go.Proofs.YthfndghgfabbjaaA
set_option linter.unusedVariables false
open Go Go.RowKit Go.Shelf Go.Proofs
set_option maxRecDepth 100000 in
set_option maxHeartbeats 4000000 in
theorem section_ok {H0 : AHeap} (B : ByteArray) (E : Nat) (vL : Value) (l : List Sg) (hL : SlS segc 6 H0 vL l) (hl : l.length ≤ 1000000) : ACalls Try.prog 34 [.agg #[.string B, .int .u64 ((E : Nat) : Int), vL]] H0 (Rets (.tuple #[.agg (segc (dynX l)).toArray, .bool (decide (dynI l < l.length))]) H0) := by
  have hF : Wd Fence.wide := .inl rfl
  have hM : Try.prog.follows .mixedOrders = true := by kernel_rfl
  have s0 := St.begin H0
  refine acalls_st Try.func34 rfl Try.ntmps34 rfl ?_
  refine awp_seq ?_
  refine awp_regs hF ?_
  refine x_new (fun b => .pointer (some ⟨b, 0, none⟩)) s0 (gyes_none rfl) (q_box (v := .agg #[.string B, .int .u64 ((E : Nat) : Int), vL]) (vs := [.string B, .int .u64 ((E : Nat) : Int), vL]) 3 rfl (by exact trivial) rfl) rfl (by decide) (cok1 trivial) (fun b1 H2 hb4 s3 => ?_)
  refine x_new (fun b => .pointer (some ⟨b, 0, none⟩)) s3 (gyes_none rfl) (q_alloc (vs := [.int .u32 0, .int .i64 0, .int .u64 0, .int .u64 0, .int .u64 0, .int .u64 0]) 6 Try.zeroValue75 (by first | exact flat_scalar rfl | exact flat_agg rfl) rfl) rfl (by decide) (by simp [Op.operands, Call.operands]) (fun b5 H6 hb8 s7 => ?_)
  refine x_new (fun b => .pointer (some ⟨b, 0, none⟩)) s7 (gyes_none rfl) (q_alloc (vs := [.bool false]) 1 Try.zeroValue4 (by first | exact flat_scalar rfl | exact flat_agg rfl) rfl) rfl (by decide) (by simp [Op.operands, Call.operands]) (fun b9 H10 hb12 s11 => ?_)
  refine ⟨_, Wk.refl _ _, ?_⟩
  show awp _ _ _ _ _ _ _
  refine awp_seq ?_
  refine awp_seq ?_
  refine awp_regs hF ?_
  refine dv (gyes_none rfl) (q_loadAgg Try.isAgg33 Try.sizeOf33 rfl (s11.rd (j := 2) rfl) (Nat.le_of_ble_eq_true rfl) rfl) rfl (by decide) (cok1 trivial) ?_
  refine x_call [] hF (by kernel_rfl) (gyes_none rfl) Try.call45 rfl (args := [.agg #[.string B, .int .u64 ((E : Nat) : Int), vL], .int .u32 2]) rfl (of_ok B E 2 vL l (s11.sls hL)) (show _ < _ by decide) (call_ok rfl) rfl rfl (fun _ _ _ _ hd => by cases hd) ?_
  rintro _ H15 ⟨b13, b14, rfl, hn16⟩
  have s17 := s11.callL hn16
  refine ⟨trivial, ?_⟩
  show dList _ _ _ _ _ _ _ _ _ _
  refine ⟨_, Wk.refl _ _, ?_⟩
  show awp _ _ _ _ _ _ _
  refine awp_block ?_
  refine range_st s17 rfl Try.call51 (fun fn18 lp19 d20 l21 H22 hlp23 hd24 s25 => ?_)
  refine (of1_ok (H0 := H22) B E 2 vL l (by omega) _ b14 b13 (fun (k : Nat) (H26 : AHeap) => St H0 (none0) (Rd H0) H26 [(l21, lp19 .ready none), (d20, .mark), (b13, .cells true [.int .u32 2] 1), (b14, .cells true [.string B, .int .u64 ((E : Nat) : Int), vL] 3), (b9, .cells true [.bool false] 1), (b5, .cells true [.int .u32 0, .int .i64 0, .int .u64 0, .int .u64 0, .int .u64 0, .int .u64 0] 6), (b1, .cells true [.string B, .int .u64 ((E : Nat) : Int), vL] 3)] ∧ (∀ j, j < k → ((nth l j).1 == 2) = false)) (fun (k' : Nat) (H26 : AHeap) => ∃ (q : Nat), St H0 (none0) (Rd H0) H26 [(l21, lp19 (.done) (some .ret)), (d20, .mark), (b13, .cells true [.int .u32 2] 1), (b14, .cells true [.string B, .int .u64 ((E : Nat) : Int), vL] 3), (b9, .cells true [.bool true] 1), (b5, .cells true [.int .u32 (((nth l q).1 : Nat) : Int), .int .i64 (((nth l q).2.1 : Nat) : Int), .int .u64 (((nth l q).2.2.1 : Nat) : Int), .int .u64 (((nth l q).2.2.2.1 : Nat) : Int), .int .u64 (((nth l q).2.2.2.2.1 : Nat) : Int), .int .u64 (((nth l q).2.2.2.2.2 : Nat) : Int)] 6), (b1, .cells true [.string B, .int .u64 ((E : Nat) : Int), vL] 3)] ∧ (q < l.length ∧ dynI l = q)) ?h00 (fun _ _ _ ⟨s_, hq⟩ k_ => ⟨s_.call0 k_, hq⟩) (fun k _ ⟨s_, hq⟩ hi_ hne => ⟨s_, lt_succ_casesN hq (beq_eq_false_iff_ne.2 hne)⟩) ?hb ?round).mono ?after
  case h00 => exact ⟨s25, fun j h => absurd h (Nat.not_lt_zero _)⟩
  case hb =>
    rintro k H26 ⟨s27, hq⟩
    exact ⟨s27.rd (j := 3) rfl, s27.rd (j := 2) rfl, s27.sls hL⟩
  case round =>
    rintro k H26  ⟨s27, hq⟩ hx hkd
    refine ylds_roundB hlp23 (s27.getj (j := 0) rfl) rfl rfl (fun l28 hF => ?_)
    refine awp_regs hF ?_
    refine x_new (fun b => .pointer (some ⟨b, 0, none⟩)) s27 (gyes_none rfl) (q_alloc (vs := [.int .u32 0, .int .i64 0, .int .u64 0, .int .u64 0, .int .u64 0, .int .u64 0]) 6 Try.zeroValue75 (by first | exact flat_scalar rfl | exact flat_agg rfl) rfl) rfl (by decide) (by simp [Op.operands, Call.operands]) (fun b29 H30 hb32 s31 => ?_)
    refine x_store [] hF s31 (by kernel_rfl) (gyes_none rfl) (j := 0) (v := .agg #[.int .u32 (((nth l k).1 : Nat) : Int), .int .i64 (((nth l k).2.1 : Nat) : Int), .int .u64 (((nth l k).2.2.1 : Nat) : Int), .int .u64 (((nth l k).2.2.2.1 : Nat) : Int), .int .u64 (((nth l k).2.2.2.2.1 : Nat) : Int), .int .u64 (((nth l k).2.2.2.2.2 : Nat) : Int)]) rfl Try.sizeOf75 rfl rfl rfl rfl rfl trivial (lcsA ⟨(lc_scalar rfl), (lc_scalar rfl), (lc_scalar rfl), (lc_scalar rfl), (lc_scalar rfl), (lc_scalar rfl), trivial⟩) (Nat.le_of_ble_eq_true rfl) trivial trivial rfl rfl (F' := [(b29, .cells true [.int .u32 (((nth l k).1 : Nat) : Int), .int .i64 (((nth l k).2.1 : Nat) : Int), .int .u64 (((nth l k).2.2.1 : Nat) : Int), .int .u64 (((nth l k).2.2.2.1 : Nat) : Int), .int .u64 (((nth l k).2.2.2.2.1 : Nat) : Int), .int .u64 (((nth l k).2.2.2.2.2 : Nat) : Int)] 6), (l21, lp19 .ready none), (d20, .mark), (b13, .cells true [.int .u32 2] 1), (b14, .cells true [.string B, .int .u64 ((E : Nat) : Int), vL] 3), (b9, .cells true [.bool false] 1), (b5, .cells true [.int .u32 0, .int .i64 0, .int .u64 0, .int .u64 0, .int .u64 0, .int .u64 0] 6), (b1, .cells true [.string B, .int .u64 ((E : Nat) : Int), vL] 3)]) rfl (fun H33 s34 => ⟨?_, ?_⟩)
    · exact trivial
    refine ⟨_, Wk.refl _ _, ?_⟩
    refine then_normal ?_
    refine ⟨_, _, rfl, s34.getj (j := 1) rfl, ?body⟩
    case body =>
      have s35 := s34.setAt (j := 1) rfl (lp19 .busy none)
      show awp _ _ _ _ _ _ _
      refine awp_block ?_
      refine awp_seq ?_
      refine awp_regs hF ?_
      refine dv (gyes_none rfl) (q_loadAgg Try.isAgg75 Try.sizeOf75 rfl (s35.rd (j := 0) rfl) (Nat.le_of_ble_eq_true rfl) rfl) rfl (by decide) (cok1 trivial) ?_
      refine x_store [] hF s35 (by kernel_rfl) (gyes_none rfl) (j := 6) (v := .agg #[.int .u32 (((nth l k).1 : Nat) : Int), .int .i64 (((nth l k).2.1 : Nat) : Int), .int .u64 (((nth l k).2.2.1 : Nat) : Int), .int .u64 (((nth l k).2.2.2.1 : Nat) : Int), .int .u64 (((nth l k).2.2.2.2.1 : Nat) : Int), .int .u64 (((nth l k).2.2.2.2.2 : Nat) : Int)]) rfl Try.sizeOf75 rfl rfl rfl rfl rfl trivial (lcsA ⟨(lc_scalar rfl), (lc_scalar rfl), (lc_scalar rfl), (lc_scalar rfl), (lc_scalar rfl), (lc_scalar rfl), trivial⟩) (Nat.le_of_ble_eq_true rfl) trivial trivial rfl rfl (F' := [(b29, .cells true [.int .u32 (((nth l k).1 : Nat) : Int), .int .i64 (((nth l k).2.1 : Nat) : Int), .int .u64 (((nth l k).2.2.1 : Nat) : Int), .int .u64 (((nth l k).2.2.2.1 : Nat) : Int), .int .u64 (((nth l k).2.2.2.2.1 : Nat) : Int), .int .u64 (((nth l k).2.2.2.2.2 : Nat) : Int)] 6), (l21, lp19 .busy none), (d20, .mark), (b13, .cells true [.int .u32 2] 1), (b14, .cells true [.string B, .int .u64 ((E : Nat) : Int), vL] 3), (b9, .cells true [.bool false] 1), (b5, .cells true [.int .u32 (((nth l k).1 : Nat) : Int), .int .i64 (((nth l k).2.1 : Nat) : Int), .int .u64 (((nth l k).2.2.1 : Nat) : Int), .int .u64 (((nth l k).2.2.2.1 : Nat) : Int), .int .u64 (((nth l k).2.2.2.2.1 : Nat) : Int), .int .u64 (((nth l k).2.2.2.2.2 : Nat) : Int)] 6), (b1, .cells true [.string B, .int .u64 ((E : Nat) : Int), vL] 3)]) rfl (fun H36 s37 => ⟨?_, ?_⟩)
      · exact trivial
      refine x_store1 [] hF s37 (by kernel_rfl) (gyes_none rfl) (j := 5) (v := .bool true) rfl Try.sizeOf4 rfl rfl rfl (lc_scalar rfl) (Nat.le_of_ble_eq_true rfl) trivial (cconst rfl) rfl rfl (F' := [(b29, .cells true [.int .u32 (((nth l k).1 : Nat) : Int), .int .i64 (((nth l k).2.1 : Nat) : Int), .int .u64 (((nth l k).2.2.1 : Nat) : Int), .int .u64 (((nth l k).2.2.2.1 : Nat) : Int), .int .u64 (((nth l k).2.2.2.2.1 : Nat) : Int), .int .u64 (((nth l k).2.2.2.2.2 : Nat) : Int)] 6), (l21, lp19 .busy none), (d20, .mark), (b13, .cells true [.int .u32 2] 1), (b14, .cells true [.string B, .int .u64 ((E : Nat) : Int), vL] 3), (b9, .cells true [.bool true] 1), (b5, .cells true [.int .u32 (((nth l k).1 : Nat) : Int), .int .i64 (((nth l k).2.1 : Nat) : Int), .int .u64 (((nth l k).2.2.1 : Nat) : Int), .int .u64 (((nth l k).2.2.2.1 : Nat) : Int), .int .u64 (((nth l k).2.2.2.2.1 : Nat) : Int), .int .u64 (((nth l k).2.2.2.2.2 : Nat) : Int)] 6), (b1, .cells true [.string B, .int .u64 ((E : Nat) : Int), vL] 3)]) rfl (fun H38 s39 => ⟨?_, ?_⟩)
      · exact trivial
      refine ⟨_, Wk.refl _ _, ?_⟩
      show awp _ _ _ _ _ _ _
      refine awp_ret_wk ?_
      refine ⟨_, Wk.refl _ _, ?_⟩
      repeat (with_reducible first | refine then_ret ?_ | refine blk_ret ?_ | refine then_exit ?_ | refine blk_exit ?_ | refine blk_exit' (by decide) ?_ | refine blk_normal ?_ | refine then_normal ?_ | refine retq_ret ?_ | refine retq_normal ?_ | refine ng_normal ?_ | refine ng_ret ?_ | refine ng_exit ?_)
      exact ⟨(s39.forget 0).getj (j := 0) rfl, (fun h => nomatch h), (fun _ => ⟨_, ((s39.forget 0).setAt (j := 0) rfl (lp19 .done (some .ret))), ⟨hx, dynI_of hx hkd hq⟩⟩)⟩
  case after =>
    rintro v H' ⟨rfl, hpost⟩
    rcases hpost with ⟨s40, hq⟩ | ⟨i_, hi_, ⟨q, s41, hr⟩⟩
    ·
      refine ⟨(by
          intro e he
          rcases List.mem_cons.1 he with rfl | he
          · exact s40.getj (j := 1) rfl
          · cases he), .inl ⟨s40.getj (j := 0) rfl, ?_⟩⟩
      have s42 := (s40.setAt (j := 0) rfl .none).forget 0
      refine ⟨_, Wk.refl _ _, ?_⟩
      show awp _ _ _ _ _ _ _
      refine awp_seq ?_
      refine awp_regs hF ?_
      refine dv (gyes_none rfl) (q_buildL (ds := [.int .u32 0, .int .i64 0, .int .u64 0, .int .u64 0, .int .u64 0, .int .u64 0]) [(0, 1), (1, 1), (2, 1), (3, 1), (4, 1), (5, 1)] [] Try.underlying75 Try.zeroValue75 (by first | exact flat_agg rfl | exact flat_scalar rfl) (by kernel_rfl) trivial lvs0 rfl) rfl (by decide) (by simp [Op.operands, Call.operands]) ?_
      refine x_store [] hF s42 (by kernel_rfl) (gyes_none rfl) (j := 4) (v := .agg #[.int .u32 0, .int .i64 0, .int .u64 0, .int .u64 0, .int .u64 0, .int .u64 0]) rfl Try.sizeOf75 rfl rfl rfl rfl rfl trivial (lcsA ⟨(lc_scalar rfl), (lc_scalar rfl), (lc_scalar rfl), (lc_scalar rfl), (lc_scalar rfl), (lc_scalar rfl), trivial⟩) (Nat.le_of_ble_eq_true rfl) trivial trivial rfl rfl (F' := [(d20, .mark), (b13, .cells true [.int .u32 2] 1), (b14, .cells true [.string B, .int .u64 ((E : Nat) : Int), vL] 3), (b9, .cells true [.bool false] 1), (b5, .cells true [.int .u32 0, .int .i64 0, .int .u64 0, .int .u64 0, .int .u64 0, .int .u64 0] 6), (b1, .cells true [.string B, .int .u64 ((E : Nat) : Int), vL] 3)]) rfl (fun H43 s44 => ⟨?_, ?_⟩)
      · exact trivial
      refine x_store1 [] hF s44 (by kernel_rfl) (gyes_none rfl) (j := 3) (v := .bool false) rfl Try.sizeOf4 rfl rfl rfl (lc_scalar rfl) (Nat.le_of_ble_eq_true rfl) trivial (cconst rfl) rfl rfl (F' := [(d20, .mark), (b13, .cells true [.int .u32 2] 1), (b14, .cells true [.string B, .int .u64 ((E : Nat) : Int), vL] 3), (b9, .cells true [.bool false] 1), (b5, .cells true [.int .u32 0, .int .i64 0, .int .u64 0, .int .u64 0, .int .u64 0, .int .u64 0] 6), (b1, .cells true [.string B, .int .u64 ((E : Nat) : Int), vL] 3)]) rfl (fun H45 s46 => ⟨?_, ?_⟩)
      · exact trivial
      refine ⟨_, Wk.refl _ _, ?_⟩
      show awp _ _ _ _ _ _ _
      refine awp_ret_wk ?_
      have hno : ¬ dynI l < l.length := by rw [show dynI l = l.length from firstK_no hq]; omega
      refine ⟨_, Wk.refl _ _, ?_⟩
      repeat (with_reducible first | refine then_ret ?_ | refine blk_ret ?_ | refine then_exit ?_ | refine blk_exit ?_ | refine blk_exit' (by decide) ?_ | refine blk_normal ?_ | refine then_normal ?_ | refine retq_ret ?_ | refine retq_normal ?_ | refine ng_normal ?_ | refine ng_ret ?_ | refine ng_exit ?_)
      exact ret_noneD (v := .tuple #[.agg #[.int .u32 0, .int .i64 0, .int .u64 0, .int .u64 0, .int .u64 0, .int .u64 0], .bool false]) rfl (s46.setAt (j := 0) rfl .none).kp (.agg rfl Try.isAgg75 Try.sizeOf75 ((s46.setAt (j := 0) rfl .none).rd (j := 4) rfl) (Nat.le_of_ble_eq_true rfl) rfl (.cell rfl Try.isAgg4 ((s46.setAt (j := 0) rfl .none).rd (j := 3) rfl) rfl .nil)) rfl rfl ⟨by rw [dynX_no hno, decide_eq_false hno]; rfl, rfl⟩
    ·
      refine ⟨(by
          intro e he
          rcases List.mem_cons.1 he with rfl | he
          · exact s41.getj (j := 1) rfl
          · cases he), .inr ⟨_, s41.getj (j := 0) rfl, ?_⟩⟩
      have s47 := (s41.setAt (j := 0) rfl .none).forget 0
      refine awp_ret_wk ?_
      refine ⟨_, Wk.refl _ _, ?_⟩
      repeat (with_reducible first | refine then_ret ?_ | refine blk_ret ?_ | refine then_exit ?_ | refine blk_exit ?_ | refine blk_exit' (by decide) ?_ | refine blk_normal ?_ | refine then_normal ?_ | refine retq_ret ?_ | refine retq_normal ?_ | refine ng_normal ?_ | refine ng_ret ?_ | refine ng_exit ?_)
      exact ret_noneD (v := .tuple #[.agg #[.int .u32 (((nth l q).1 : Nat) : Int), .int .i64 (((nth l q).2.1 : Nat) : Int), .int .u64 (((nth l q).2.2.1 : Nat) : Int), .int .u64 (((nth l q).2.2.2.1 : Nat) : Int), .int .u64 (((nth l q).2.2.2.2.1 : Nat) : Int), .int .u64 (((nth l q).2.2.2.2.2 : Nat) : Int)], .bool true]) rfl (s47.setAt (j := 0) rfl .none).kp (.agg rfl Try.isAgg75 Try.sizeOf75 ((s47.setAt (j := 0) rfl .none).rd (j := 4) rfl) (Nat.le_of_ble_eq_true rfl) rfl (.cell rfl Try.isAgg4 ((s47.setAt (j := 0) rfl .none).rd (j := 3) rfl) rfl .nil)) rfl rfl ⟨by rw [dynX_of hr.2 hr.1, hr.2, decide_eq_true hr.1]; rfl, rfl⟩
set_option maxRecDepth 100000 in
set_option maxHeartbeats 4000000 in
theorem dread_ok {H0 : AHeap} (B : ByteArray) (E : Nat) (vL : Value) (l : List Sg) (hB : B.size ≤ 140737488355328) (hL : SlS segc 6 H0 vL l) (hl2 : l.length ≤ 1000000) (hlow : LowL l) (hinb : InB B l) (hxs : ∀ x ∈ l, SgB x) : ACalls Try.prog 12 [.agg #[.string B, .int .u64 ((E : Nat) : Int), vL]] H0 (fun v H' => ∃ vT, v = .tuple #[vT, .agg #[.int .i64 ((drC B l : Nat) : Int), .int .u64 ((drA B l : Nat) : Int), .string ⟨#[]⟩]] ∧ FreshS entc 2 (drL B l) H0 vT H') := by
  have hF : Wd Fence.wide := .inl rfl
  have hM : Try.prog.follows .mixedOrders = true := by kernel_rfl
  obtain ⟨hxb1, hxb2, hxb3, hxb4⟩ := dynX_b hxs
  have s0 := St.begin H0
  refine acalls_st Try.func12 rfl Try.ntmps12 rfl ?_
  refine awp_seq ?_
  refine awp_regs hF ?_
  refine x_new (fun b => .pointer (some ⟨b, 0, none⟩)) s0 (gyes_none rfl) (q_box (v := .agg #[.string B, .int .u64 ((E : Nat) : Int), vL]) (vs := [.string B, .int .u64 ((E : Nat) : Int), vL]) 3 rfl (by exact trivial) rfl) rfl (by decide) (cok1 trivial) (fun b1 H2 hb4 s3 => ?_)
  refine dv (gyes_none rfl) (q_as (v := .slice none 0 0) rfl) rfl (by decide) (cok1 (cconst rfl)) ?_
  refine x_new (fun b => .pointer (some ⟨b, 0, none⟩)) s3 (gyes_none rfl) (q_alloc (vs := [.int .i64 0, .int .u64 0, .string ⟨#[]⟩]) 3 Try.zeroValue36 (by first | exact flat_scalar rfl | exact flat_agg rfl) rfl) rfl (by decide) (by simp [Op.operands, Call.operands]) (fun b5 H6 hb8 s7 => ?_)
  refine ⟨_, Wk.refl _ _, ?_⟩
  show awp _ _ _ _ _ _ _
  refine awp_scope ?_
  refine awp_seq ?_
  refine awp_regs hF ?_
  refine dv (gyes_none rfl) (q_loadAgg Try.isAgg33 Try.sizeOf33 rfl (s7.rd (j := 1) rfl) (Nat.le_of_ble_eq_true rfl) rfl) rfl (by decide) (cok1 trivial) ?_
  refine dv (gyes_none rfl) (q_call0 Try.call34 rfl (section_ok B E vL l (s7.sls hL) hl2)) rfl (by decide) (cok2 trivial trivial) ?_
  refine dv (gyes_none rfl) (q_mv (v := .tuple #[.agg #[.int .u32 (((dynX l).1 : Nat) : Int), .int .i64 (((dynX l).2.1 : Nat) : Int), .int .u64 (((dynX l).2.2.1 : Nat) : Int), .int .u64 (((dynX l).2.2.2.1 : Nat) : Int), .int .u64 (((dynX l).2.2.2.2.1 : Nat) : Int), .int .u64 (((dynX l).2.2.2.2.2 : Nat) : Int)], .bool (decide (dynI l < l.length))]) rfl) rfl (by decide) (cok1 trivial) ?_
  refine dv (gyes_none rfl) (q_extract (v := .agg #[.int .u32 (((dynX l).1 : Nat) : Int), .int .i64 (((dynX l).2.1 : Nat) : Int), .int .u64 (((dynX l).2.2.1 : Nat) : Int), .int .u64 (((dynX l).2.2.2.1 : Nat) : Int), .int .u64 (((dynX l).2.2.2.2.1 : Nat) : Int), .int .u64 (((dynX l).2.2.2.2.2 : Nat) : Int)]) rfl rfl) rfl (by decide) (cok1 trivial) ?_
  refine dvb (gyes_none rfl) (q_extract (v := .bool (decide (dynI l < l.length))) rfl rfl) rfl (by decide) (cok1 trivial) (fun c1 => ?_) (fun c1 => ?_)
  ·
    replace c1 := of_decide_eq_true c1
    have hdi := c1
    have hbs := dynB_size (l := l) hinb
    refine x_new (fun b => .pointer (some ⟨b, 0, none⟩)) s7 (gyes_none rfl) (q_alloc (vs := [.int .u32 0, .int .i64 0, .int .u64 0, .int .u64 0, .int .u64 0, .int .u64 0]) 6 Try.zeroValue75 (by first | exact flat_scalar rfl | exact flat_agg rfl) rfl) rfl (by decide) (by simp [Op.operands, Call.operands]) (fun b9 H10 hb12 s11 => ?_)
    refine x_store [] hF s11 (by kernel_rfl) (gyes_none rfl) (j := 0) (v := .agg #[.int .u32 (((dynX l).1 : Nat) : Int), .int .i64 (((dynX l).2.1 : Nat) : Int), .int .u64 (((dynX l).2.2.1 : Nat) : Int), .int .u64 (((dynX l).2.2.2.1 : Nat) : Int), .int .u64 (((dynX l).2.2.2.2.1 : Nat) : Int), .int .u64 (((dynX l).2.2.2.2.2 : Nat) : Int)]) rfl Try.sizeOf75 rfl rfl rfl rfl rfl trivial (lcsA ⟨(lc_scalar rfl), (lc_scalar rfl), (lc_scalar rfl), (lc_scalar rfl), (lc_scalar rfl), (lc_scalar rfl), trivial⟩) (Nat.le_of_ble_eq_true rfl) trivial trivial rfl rfl (F' := [(b9, .cells true [.int .u32 (((dynX l).1 : Nat) : Int), .int .i64 (((dynX l).2.1 : Nat) : Int), .int .u64 (((dynX l).2.2.1 : Nat) : Int), .int .u64 (((dynX l).2.2.2.1 : Nat) : Int), .int .u64 (((dynX l).2.2.2.2.1 : Nat) : Int), .int .u64 (((dynX l).2.2.2.2.2 : Nat) : Int)] 6), (b5, .cells true [.int .i64 0, .int .u64 0, .string ⟨#[]⟩] 3), (b1, .cells true [.string B, .int .u64 ((E : Nat) : Int), vL] 3)]) rfl (fun H13 s14 => ⟨?_, ?_⟩)
    · exact trivial
    refine dv (gyes_none rfl) (q_as (v := .bool true) rfl) rfl (by decide) (cok1 trivial) ?_
    refine ⟨_, Wk.refl _ _, ?_⟩
    show awp _ _ _ _ _ _ _
    refine awp_seq ?_
    refine awp_seq ?_
    refine awp_regs hF ?_
    refine dv (gyes_none rfl) (q_mv (v := .bool true) rfl) rfl (by decide) (cok1 trivial) ?_
    refine dv (gyes_none rfl) (q_not (b := true) rfl) rfl (by decide) (cok1 trivial) ?_
    refine ⟨_, Wk.refl _ _, ?_⟩
    show awp _ _ _ _ _ _ _
    refine awp_cond_f rfl ?_
    refine awp_skip_wk ?_
    refine ⟨_, Wk.refl _ _, ?_⟩
    show awp _ _ _ _ _ _ _
    refine awp_seq ?_
    refine awp_seq ?_
    refine awp_regs hF ?_
    refine dv (gyes_none rfl) (q_field Try.underlying75 rfl Try.sizeOf25 rfl (s14.rd (j := 0) rfl)) rfl (by decide) (cok1 trivial) ?_
    refine dv (gyes_none rfl) (q_load (v := .int .u64 (((dynX l).2.2.2.2.2 : Nat) : Int)) Try.isAgg25 rfl (s14.rd (j := 0) rfl) rfl) rfl (by decide) (cok1 trivial) ?_
    refine dvb (gyes_none rfl) (q_int rfl rfl rfl) rfl (by decide) (cok2 trivial (cconst rfl)) (fun c2 => ?_) (fun c2 => ?_)
    ·
      replace c2 := of_decide_eq_true c2
      refine ⟨_, Wk.refl _ _, ?_⟩
      show awp _ _ _ _ _ _ _
      refine awp_cond_t rfl ?_
      refine awp_seq ?_
      refine awp_regs hF ?_
      refine dv (gyes_none rfl) (q_field Try.underlying75 rfl Try.sizeOf25 rfl (s14.rd (j := 0) rfl)) rfl (by decide) (cok1 trivial) ?_
      refine dv (gyes_none rfl) (q_load (v := .int .u64 (((dynX l).2.2.2.1 : Nat) : Int)) Try.isAgg25 rfl (s14.rd (j := 0) rfl) rfl) rfl (by decide) (cok1 trivial) ?_
      refine dv (gyes_none rfl) (q_call0 Try.call30 rfl (failAt_ok 5 ((dynX l).2.2.2.1))) rfl (by decide) (call_ok rfl) ?_
      refine dv (gyes_none rfl) (q_as (v := .slice none 0 0) rfl) rfl (by decide) (cok1 (cconst rfl)) ?_
      refine x_store [] hF s14 (by kernel_rfl) (gyes_none rfl) (j := 1) (v := .agg #[.int .i64 5, .int .u64 (((dynX l).2.2.2.1 : Nat) : Int), .string ⟨#[]⟩]) rfl Try.sizeOf36 rfl rfl rfl rfl rfl trivial (lcsA ⟨(lc_scalar rfl), (lc_scalar rfl), (lc_scalar rfl), trivial⟩) (Nat.le_of_ble_eq_true rfl) trivial trivial rfl rfl (F' := [(b9, .cells true [.int .u32 (((dynX l).1 : Nat) : Int), .int .i64 (((dynX l).2.1 : Nat) : Int), .int .u64 (((dynX l).2.2.1 : Nat) : Int), .int .u64 (((dynX l).2.2.2.1 : Nat) : Int), .int .u64 (((dynX l).2.2.2.2.1 : Nat) : Int), .int .u64 (((dynX l).2.2.2.2.2 : Nat) : Int)] 6), (b5, .cells true [.int .i64 5, .int .u64 (((dynX l).2.2.2.1 : Nat) : Int), .string ⟨#[]⟩] 3), (b1, .cells true [.string B, .int .u64 ((E : Nat) : Int), vL] 3)]) rfl (fun H15 s16 => ⟨?_, ?_⟩)
      · exact trivial
      refine ⟨_, Wk.refl _ _, ?_⟩
      show awp _ _ _ _ _ _ _
      refine awp_nil s16 2 2 rfl (fun b17 H18 hb20 s19 => ?_)
      refine awp_ret_wk ?_
      obtain ⟨e1, e2, e3⟩ := dr_big hdi (by omega)
      refine ⟨_, Wk.refl _ _, ?_⟩
      repeat (with_reducible first | refine then_ret ?_ | refine blk_ret ?_ | refine then_exit ?_ | refine blk_exit ?_ | refine blk_exit' (by decide) ?_ | refine blk_normal ?_ | refine then_normal ?_ | refine retq_ret ?_ | refine retq_normal ?_ | refine ng_normal ?_ | refine ng_ret ?_ | refine ng_exit ?_)
      refine ret_is (v := .tuple #[.slice (some ⟨b17, 0, none⟩) 0 0, .agg #[.int .i64 5, .int .u64 (((dynX l).2.2.2.1 : Nat) : Int), .string ⟨#[]⟩]]) rfl (.tmp rfl (.agg rfl Try.isAgg36 Try.sizeOf36 (s19.rd (j := 2) rfl) (Nat.le_of_ble_eq_true rfl) rfl .nil)) rfl ?_
      exact ⟨_, by rw [e1, e2]; first | done | rfl, freshS_of (l := []) s19 (j := 0) rfl rfl e3⟩
    ·
      replace c2 := of_decide_eq_false c2
      refine ⟨_, Wk.refl _ _, ?_⟩
      show awp _ _ _ _ _ _ _
      refine awp_cond_f rfl ?_
      refine awp_skip_wk ?_
      refine ⟨_, Wk.refl _ _, ?_⟩
      show awp _ _ _ _ _ _ _
      refine awp_seq ?_
      refine awp_regs hF ?_
      refine dv (gyes_none rfl) (q_loadAgg Try.isAgg33 Try.sizeOf33 rfl (s14.rd (j := 2) rfl) (Nat.le_of_ble_eq_true rfl) rfl) rfl (by decide) (cok1 trivial) ?_
      refine dv (gyes_none rfl) (q_field Try.underlying75 rfl Try.sizeOf25 rfl (s14.rd (j := 0) rfl)) rfl (by decide) (cok1 trivial) ?_
      refine dv (gyes_none rfl) (q_load (v := .int .u64 (((dynX l).2.2.2.1 : Nat) : Int)) Try.isAgg25 rfl (s14.rd (j := 0) rfl) rfl) rfl (by decide) (cok1 trivial) ?_
      refine dv (gyes_none rfl) (q_field Try.underlying75 rfl Try.sizeOf25 rfl (s14.rd (j := 0) rfl)) rfl (by decide) (cok1 trivial) ?_
      refine dv (gyes_none rfl) (q_load (v := .int .u64 (((dynX l).2.2.2.2.2 : Nat) : Int)) Try.isAgg25 rfl (s14.rd (j := 0) rfl) rfl) rfl (by decide) (cok1 trivial) ?_
      refine dv (gyes_none rfl) (q_call0 Try.call35 rfl (imgAt_ok B E (dynX l).2.2.2.1 (dynX l).2.2.2.2.2 hxb2 hxb4 vL l hB (s14.sls hL) hl2 hlow hinb)) rfl (by decide) (call_ok rfl) ?_
      refine dv (gyes_none rfl) (q_mv (v := .tuple #[.string (dynB B l), .bool ((imgAt B l (dynX l).2.2.2.1 (dynX l).2.2.2.2.2).2)]) rfl) rfl (by decide) (cok1 trivial) ?_
      refine dv (gyes_none rfl) (q_extract (v := .string (dynB B l)) rfl rfl) rfl (by decide) (cok1 trivial) ?_
      refine dvb (gyes_none rfl) (q_extract (v := .bool ((imgAt B l (dynX l).2.2.2.1 (dynX l).2.2.2.2.2).2)) rfl rfl) rfl (by decide) (cok1 trivial) (fun c3 => ?_) (fun c3 => ?_)
      ·
        have hok : (imgAt B l (dynX l).2.2.2.1 (dynX l).2.2.2.2.2).2 = true := c3
        refine dv (gyes_none rfl) (q_as (v := .string (dynB B l)) rfl) rfl (by decide) (cok1 trivial) ?_
        refine dv (gyes_none rfl) (q_as (v := .bool true) rfl) rfl (by decide) (cok1 trivial) ?_
        refine ⟨_, Wk.refl _ _, ?_⟩
        show awp _ _ _ _ _ _ _
        refine awp_seq ?_
        refine awp_seq ?_
        refine awp_regs hF ?_
        refine dv (gyes_none rfl) (q_mv (v := .bool true) rfl) rfl (by decide) (cok1 trivial) ?_
        refine dv (gyes_none rfl) (q_not (b := true) rfl) rfl (by decide) (cok1 trivial) ?_
        refine ⟨_, Wk.refl _ _, ?_⟩
        show awp _ _ _ _ _ _ _
        refine awp_cond_f rfl ?_
        refine awp_skip_wk ?_
        refine ⟨_, Wk.refl _ _, ?_⟩
        show awp _ _ _ _ _ _ _
        refine awp_seq ?_
        refine awp_regs hF ?_
        refine x_new (fun b => .pointer (some ⟨b, 0, none⟩)) s14 (gyes_none rfl) (q_alloc (vs := [.slice none 0 0]) 1 Try.zeroValue43 (by first | exact flat_scalar rfl | exact flat_agg rfl) rfl) rfl (by decide) (by simp [Op.operands, Call.operands]) (fun b21 H22 hb24 s23 => ?_)
        refine ⟨_, Wk.refl _ _, ?_⟩
        show awp _ _ _ _ _ _ _
        refine awp_seq ?_
        refine awp_regs hF ?_
        refine x_new (fun b => .pointer (some ⟨b, 0, none⟩)) s23 (gyes_none rfl) (q_alloc (vs := [.bool false]) 1 Try.zeroValue4 (by first | exact flat_scalar rfl | exact flat_agg rfl) rfl) rfl (by decide) (by simp [Op.operands, Call.operands]) (fun b25 H26 hb28 s27 => ?_)
        refine x_store1 [] hF s27 (by kernel_rfl) (gyes_none rfl) (j := 0) (v := .bool false) rfl Try.sizeOf4 rfl rfl rfl (lc_scalar rfl) (Nat.le_of_ble_eq_true rfl) trivial (cconst rfl) rfl rfl (F' := [(b25, .cells true [.bool false] 1), (b21, .cells true [.slice none 0 0] 1), (b9, .cells true [.int .u32 (((dynX l).1 : Nat) : Int), .int .i64 (((dynX l).2.1 : Nat) : Int), .int .u64 (((dynX l).2.2.1 : Nat) : Int), .int .u64 (((dynX l).2.2.2.1 : Nat) : Int), .int .u64 (((dynX l).2.2.2.2.1 : Nat) : Int), .int .u64 (((dynX l).2.2.2.2.2 : Nat) : Int)] 6), (b5, .cells true [.int .i64 0, .int .u64 0, .string ⟨#[]⟩] 3), (b1, .cells true [.string B, .int .u64 ((E : Nat) : Int), vL] 3)]) rfl (fun H29 s30 => ⟨?_, ?_⟩)
        · exact trivial
        refine ⟨_, Wk.refl _ _, ?_⟩
        show awp _ _ _ _ _ _ _
        refine awp_seq ?_
        refine awp_label_wk ?_
        refine ⟨_, Wk.refl _ _, ?_⟩
        show awp _ _ _ _ _ _ _
        refine awp_seq ?_
        refine awp_seq ?_
        refine awp_nilc s30 (j := 1) (o := 0) (sz' := 2) rfl rfl (fun b31 H32 hb34 s33 => ?_)
        refine awp_regs hF ?_
        refine dv (gyes_none rfl) (q_mv (v := .string (dynB B l)) rfl) rfl (by decide) (cok1 trivial) ?_
        refine x_call [] hF (by kernel_rfl) (gyes_none rfl) Try.call36 rfl (args := [.string (dynB B l), .int .i64 16]) rfl (each_ok (dynB B l) 16) (show _ < _ by decide) (call_ok rfl) rfl rfl (fun _ _ _ _ hd => by cases hd) ?_
        rintro _ H37 ⟨b35, b36, rfl, hn38⟩
        have s39 := s33.callL hn38
        refine ⟨trivial, ?_⟩
        show dList _ _ _ _ _ _ _ _ _ _
        refine ⟨_, Wk.refl _ _, ?_⟩
        show awp _ _ _ _ _ _ _
        refine awp_block ?_
        refine range_st s39 rfl Try.call47 (fun fn40 lp41 d42 l43 H44 hlp45 hd46 s47 => ?_)
        refine (each1_ok (H0 := H44) (dynB B l) 16 (by decide) (by decide) (by omega) _ b35 b36 (nod2 (s47.nej (i := 2) (j := 3) rfl rfl (by decide))) (fun (k : Nat) (H48 : AHeap) => ∃ (bt : Nat) (m : Nat), St H0 (none0) (Rd H0) H48 [(l43, lp41 .ready none), (d42, .mark), (b35, .cells true [.int .i64 16] 1), (b36, .cells true [.string (dynB B l)] 1), (bt, .cells true (fl entc (ents (dynB B l) m)) 2), (b25, .cells true [.bool false] 1), (b21, .cells true [.slice (some ⟨bt, 0, none⟩) m m] 1), (b9, .cells true [.int .u32 (((dynX l).1 : Nat) : Int), .int .i64 (((dynX l).2.1 : Nat) : Int), .int .u64 (((dynX l).2.2.1 : Nat) : Int), .int .u64 (((dynX l).2.2.2.1 : Nat) : Int), .int .u64 (((dynX l).2.2.2.2.1 : Nat) : Int), .int .u64 (((dynX l).2.2.2.2.2 : Nat) : Int)] 6), (b5, .cells true [.int .i64 0, .int .u64 0, .string ⟨#[]⟩] 3), (b1, .cells true [.string B, .int .u64 ((E : Nat) : Int), vL] 3)] ∧ (m = min k 65 ∧ k ≤ (dynB B l).size / 16) ∧ (∀ j, j < k → ((entAt (dynB B l) j).1 == 0) = false)) (fun (k' : Nat) (H48 : AHeap) => ∃ (bt : Nat) (m : Nat) (q : Nat), St H0 (none0) (Rd H0) H48 [(l43, lp41 (.done) (some (.exit 0))), (d42, .mark), (b35, .cells true [.int .i64 16] 1), (b36, .cells true [.string (dynB B l)] 1), (bt, .cells true (fl entc (ents (dynB B l) m)) 2), (b25, .cells true [.bool true] 1), (b21, .cells true [.slice (some ⟨bt, 0, none⟩) m m] 1), (b9, .cells true [.int .u32 (((dynX l).1 : Nat) : Int), .int .i64 (((dynX l).2.1 : Nat) : Int), .int .u64 (((dynX l).2.2.1 : Nat) : Int), .int .u64 (((dynX l).2.2.2.1 : Nat) : Int), .int .u64 (((dynX l).2.2.2.2.1 : Nat) : Int), .int .u64 (((dynX l).2.2.2.2.2 : Nat) : Int)] 6), (b5, .cells true [.int .i64 0, .int .u64 0, .string ⟨#[]⟩] 3), (b1, .cells true [.string B, .int .u64 ((E : Nat) : Int), vL] 3)] ∧ (m = min q 65 ∧ q < (dynB B l).size / 16 ∧ zeroK (dynB B l) = q)) ?h00 ?hb ?round).mono ?after
        case h00 => exact ⟨_, 0, s47, ⟨rfl, Nat.zero_le _⟩, fun j h => absurd h (Nat.not_lt_zero _)⟩
        case hb =>
          rintro k H48 ⟨bt, m, s49, hm, hz⟩
          exact ⟨s49.getj (j := 2) rfl, s49.getj (j := 3) rfl⟩
        case round =>
          rintro k H48  ⟨bt, m, s49, hm, hz⟩ hx
          have hee := entAt_e hx
          have hps : ((dynB B l).extract (k * 16) ((k + 1) * 16)).size = 16 := by rw [size_extract (by omega)]; omega
          refine ylds_roundB hlp45 (s49.getj (j := 0) rfl) rfl rfl (fun l50 hF => ?_)
          refine awp_regs hF ?_
          refine dv (gyes_none rfl) (q_as (v := .string ((dynB B l).extract (k * 16) ((k + 1) * 16))) rfl) rfl (by decide) (cok1 trivial) ?_
          refine ⟨_, Wk.refl _ _, ?_⟩
          refine then_normal ?_
          refine ⟨_, _, rfl, s49.getj (j := 0) rfl, ?body⟩
          case body =>
            have s51 := s49.setAt (j := 0) rfl (lp41 .busy none)
            show awp _ _ _ _ _ _ _
            refine awp_block ?_
            refine awp_seq ?_
            refine awp_regt hF hM (by kernel_rfl) (by kernel_rfl) ?_
            refine dv (gyes_none rfl) (q_mv (v := .string ((dynB B l).extract (k * 16) ((k + 1) * 16))) rfl) rfl (by decide) (cok1 trivial) ?_
            refine dv (gyes_none rfl) (q_substr (i := 0) (j := 8) Try.underlying9 rfl rfl ⟨_, rfl⟩ (by omega) (by omega)) rfl (by decide) (cok2 trivial (cconst rfl)) ?_
            refine dv (gyes_none rfl) (q_call0 Try.call37 rfl (get_ok (((dynB B l).extract (k * 16) ((k + 1) * 16)).extract 0 8) (by rw [size_extract (by omega)]; omega))) rfl (by decide) (cok2 trivial trivial) ?_
            refine dv (gyes_none rfl) (q_mv (v := .string ((dynB B l).extract (k * 16) ((k + 1) * 16))) rfl) rfl (by decide) (cok1 trivial) ?_
            refine dv (gyes_none rfl) (q_substr (i := 8) (j := (((dynB B l).extract (k * 16) ((k + 1) * 16)).size)) Try.underlying9 rfl ⟨_, rfl⟩ rfl (by omega) (by omega)) rfl (by decide) (cok2 trivial (cconst rfl)) ?_
            refine dv (gyes_none rfl) (q_call0 Try.call37 rfl (get_ok (((dynB B l).extract (k * 16) ((k + 1) * 16)).extract 8 (((dynB B l).extract (k * 16) ((k + 1) * 16)).size)) (by rw [size_extract (by omega)]; omega))) rfl (by decide) (cok2 trivial trivial) ?_
            refine dv (gyes_none rfl) (OpQ.cast (v' := .agg #[.int .u64 (((entAt (dynB B l) k).1 : Nat) : Int), .int .u64 (((entAt (dynB B l) k).2 : Nat) : Int)]) (q_buildL (ds := [.int .u64 ((getB (((dynB B l).extract (k * 16) ((k + 1) * 16)).extract 0 8) : Nat) : Int), .int .u64 ((getB (((dynB B l).extract (k * 16) ((k + 1) * 16)).extract 8 (((dynB B l).extract (k * 16) ((k + 1) * 16)).size)) : Nat) : Int)]) [(0, 1), (1, 1)] [.int .u64 ((getB (((dynB B l).extract (k * 16) ((k + 1) * 16)).extract 0 8) : Nat) : Int), .int .u64 ((getB (((dynB B l).extract (k * 16) ((k + 1) * 16)).extract 8 (((dynB B l).extract (k * 16) ((k + 1) * 16)).size)) : Nat) : Int)] Try.underlying48 Try.zeroValue48 (by first | exact flat_agg rfl | exact flat_scalar rfl) (by kernel_rfl) ⟨rfl, rfl, trivial⟩ (lvsC (by exact trivial) (lvsC (by exact trivial) lvs0)) rfl) (by rw [hee])) rfl (by decide) (cok2 trivial trivial) ?_
            refine x_new (fun b => .pointer (some ⟨b, 0, none⟩)) s51 (gyes_none rfl) (q_alloc (vs := [.int .u64 0, .int .u64 0]) 2 Try.zeroValue48 (by first | exact flat_scalar rfl | exact flat_agg rfl) rfl) rfl (by decide) (by simp [Op.operands, Call.operands]) (fun b52 H53 hb55 s54 => ?_)
            refine x_store [] hF s54 (by kernel_rfl) (gyes_none rfl) (j := 0) (v := .agg #[.int .u64 (((entAt (dynB B l) k).1 : Nat) : Int), .int .u64 (((entAt (dynB B l) k).2 : Nat) : Int)]) rfl Try.sizeOf48 rfl rfl rfl rfl rfl trivial (lcsA ⟨(lc_scalar rfl), (lc_scalar rfl), trivial⟩) (Nat.le_of_ble_eq_true rfl) trivial trivial rfl rfl (F' := [(b52, .cells true [.int .u64 (((entAt (dynB B l) k).1 : Nat) : Int), .int .u64 (((entAt (dynB B l) k).2 : Nat) : Int)] 2), (l43, lp41 .busy none), (d42, .mark), (b35, .cells true [.int .i64 16] 1), (b36, .cells true [.string (dynB B l)] 1), (bt, .cells true (fl entc (ents (dynB B l) m)) 2), (b25, .cells true [.bool false] 1), (b21, .cells true [.slice (some ⟨bt, 0, none⟩) m m] 1), (b9, .cells true [.int .u32 (((dynX l).1 : Nat) : Int), .int .i64 (((dynX l).2.1 : Nat) : Int), .int .u64 (((dynX l).2.2.1 : Nat) : Int), .int .u64 (((dynX l).2.2.2.1 : Nat) : Int), .int .u64 (((dynX l).2.2.2.2.1 : Nat) : Int), .int .u64 (((dynX l).2.2.2.2.2 : Nat) : Int)] 6), (b5, .cells true [.int .i64 0, .int .u64 0, .string ⟨#[]⟩] 3), (b1, .cells true [.string B, .int .u64 ((E : Nat) : Int), vL] 3)]) rfl (fun H56 s57 => ⟨?_, ?_⟩)
            · exact trivial
            refine ⟨_, Wk.refl _ _, ?_⟩
            show awp _ _ _ _ _ _ _
            refine awp_block ?_
            refine awp_seq ?_
            refine awp_regs hF ?_
            refine dv (gyes_none rfl) (q_field Try.underlying48 rfl Try.sizeOf25 rfl (s57.rd (j := 0) rfl)) rfl (by decide) (cok1 trivial) ?_
            refine dv (gyes_none rfl) (q_load (v := .int .u64 (((entAt (dynB B l) k).1 : Nat) : Int)) Try.isAgg25 rfl (s57.rd (j := 0) rfl) rfl) rfl (by decide) (cok1 trivial) ?_
            refine dvb (gyes_none rfl) (q_int rfl rfl rfl) rfl (by decide) (cok2 trivial (cconst rfl)) (fun c4 => ?_) (fun c4 => ?_)
            ·
              replace c4 := eq_of_beq c4
              refine dv (gyes_none rfl) (q_as (v := .bool true) rfl) rfl (by decide) (cok1 trivial) ?_
              refine ⟨_, Wk.refl _ _, ?_⟩
              show awp _ _ _ _ _ _ _
              refine awp_cond_t rfl ?_
              refine awp_seq ?_
              refine awp_regs hF ?_
              refine x_store1 [] hF s57 (by kernel_rfl) (gyes_none rfl) (j := 6) (v := .bool true) rfl Try.sizeOf4 rfl rfl rfl (lc_scalar rfl) (Nat.le_of_ble_eq_true rfl) trivial (cconst rfl) rfl rfl (F' := [(b52, .cells true [.int .u64 (((entAt (dynB B l) k).1 : Nat) : Int), .int .u64 (((entAt (dynB B l) k).2 : Nat) : Int)] 2), (l43, lp41 .busy none), (d42, .mark), (b35, .cells true [.int .i64 16] 1), (b36, .cells true [.string (dynB B l)] 1), (bt, .cells true (fl entc (ents (dynB B l) m)) 2), (b25, .cells true [.bool true] 1), (b21, .cells true [.slice (some ⟨bt, 0, none⟩) m m] 1), (b9, .cells true [.int .u32 (((dynX l).1 : Nat) : Int), .int .i64 (((dynX l).2.1 : Nat) : Int), .int .u64 (((dynX l).2.2.1 : Nat) : Int), .int .u64 (((dynX l).2.2.2.1 : Nat) : Int), .int .u64 (((dynX l).2.2.2.2.1 : Nat) : Int), .int .u64 (((dynX l).2.2.2.2.2 : Nat) : Int)] 6), (b5, .cells true [.int .i64 0, .int .u64 0, .string ⟨#[]⟩] 3), (b1, .cells true [.string B, .int .u64 ((E : Nat) : Int), vL] 3)]) rfl (fun H58 s59 => ⟨?_, ?_⟩)
              · exact trivial
              refine ⟨_, Wk.refl _ _, ?_⟩
              show awp _ _ _ _ _ _ _
              refine awp_exit_wk ?_
              refine ⟨_, Wk.refl _ _, ?_⟩
              repeat (with_reducible first | refine then_ret ?_ | refine blk_ret ?_ | refine then_exit ?_ | refine blk_exit ?_ | refine blk_exit' (by decide) ?_ | refine blk_normal ?_ | refine then_normal ?_ | refine retq_ret ?_ | refine retq_normal ?_ | refine ng_normal ?_ | refine ng_ret ?_ | refine ng_exit ?_)
              exact ⟨(s59.forget 0).getj (j := 0) rfl, (fun h => nomatch h), (fun _ => ⟨_, _, _, ((s59.forget 0).setAt (j := 0) rfl (lp41 .done (some (.exit 0)))), ⟨hm.1, hx, zeroK_yes hx (by omega) hz⟩⟩)⟩
            ·
              replace c4 := ne_of_beq_false c4
              refine dv (gyes_none rfl) (q_as (v := .bool false) rfl) rfl (by decide) (cok1 trivial) ?_
              refine ⟨_, Wk.refl _ _, ?_⟩
              show awp _ _ _ _ _ _ _
              refine awp_cond_f rfl ?_
              refine awp_seq ?_
              refine awp_regs hF ?_
              refine dv (gyes_none rfl) (q_load (v := .slice (some ⟨bt, 0, none⟩) m m) Try.isAgg43 rfl (s57.rd (j := 7) rfl) rfl) rfl (by decide) (cok1 trivial) ?_
              refine dv (gyes_none rfl) (q_len_slice Try.underlying43 rfl (s57.rd (j := 5) rfl)) rfl (by decide) (cok1 trivial) ?_
              refine dvb (gyes_none rfl) (q_int rfl rfl rfl) rfl (by decide) (cok2 trivial (cconst rfl)) (fun c5 => ?_) (fun c5 => ?_)
              ·
                replace c5 := of_decide_eq_true c5
                refine dv (gyes_none rfl) (q_as (v := .bool true) rfl) rfl (by decide) (cok1 trivial) ?_
                refine ⟨_, Wk.refl _ _, ?_⟩
                show awp _ _ _ _ _ _ _
                refine awp_cond_t rfl ?_
                refine awp_regs hF ?_
                refine dv (gyes_none rfl) (q_load (v := .slice (some ⟨bt, 0, none⟩) m m) Try.isAgg43 rfl (s57.rd (j := 7) rfl) rfl) rfl (by decide) (cok1 trivial) ?_
                refine dv (gyes_none rfl) (q_loadAgg Try.isAgg48 Try.sizeOf48 rfl (s57.rd (j := 0) rfl) (Nat.le_of_ble_eq_true rfl) rfl) rfl (by decide) (cok1 trivial) ?_
                refine x_new (fun b => .slice (some ⟨b, 0, none⟩) 1 1) s57 (gyes_none rfl) (q_buildSliceL (ds := [.int .u64 (((entAt (dynB B l) k).1 : Nat) : Int), .int .u64 (((entAt (dynB B l) k).2 : Nat) : Int)]) [.agg #[.int .u64 (((entAt (dynB B l) k).1 : Nat) : Int), .int .u64 (((entAt (dynB B l) k).2 : Nat) : Int)]] rfl Try.underlying43 Try.sizeOf48 Try.zeroValue48 rfl (by decide) (by decide) ⟨rfl, trivial⟩ (lvsC (by exact trivial) lvs0) rfl rfl) rfl (by decide) (cok1 trivial) (fun b60 H61 hb63 s62 => ?_)
                refine x_appendS (m := 2) (l := [((entAt (dynB B l) k).1, (entAt (dynB B l) k).2)]) (l0 := ents (dynB B l) m) (l' := ents (dynB B l) (m + 1)) (f := entc) [] hF s62 (by kernel_rfl) (j := 6) (m + 1) rfl (gyes_none rfl) Try.underlying43 Try.underlying43 Try.type48 rfl rfl (by decide) rfl entc_w rfl rfl rfl (s62.slsj (l := [((entAt (dynB B l) k).1, (entAt (dynB B l) k).2)]) entc_w (j := 0) rfl rfl (Nat.le_refl _)) (fun x _ u hu => lc_scalar (entc_sc x u hu)) (ents_len _ m).symm (by show (2 * (m + 1) + 1000) * 16 ≤ _; omega) trivial trivial (by decide) rfl rfl (show ents (dynB B l) m ++ [entAt (dynB B l) k] = ents (dynB B l) (m + 1) by rw [show k = m by omega]; exact ents_succ _ m) (fun b64 H65 hb67 s66 => ⟨?_, ?_⟩)
                · exact trivial
                refine x_store1 [] hF s66 (by kernel_rfl) (gyes_none rfl) (j := 8) (v := .slice (some ⟨b64, 0, none⟩) (m + 1) (m + 1)) rfl Try.sizeOf43 rfl rfl rfl (lc_slice (s66.live (j := 6) rfl)) (Nat.le_of_ble_eq_true rfl) trivial trivial rfl rfl (F' := [(b60, .cells true [.int .u64 (((entAt (dynB B l) k).1 : Nat) : Int), .int .u64 (((entAt (dynB B l) k).2 : Nat) : Int)] 2), (b52, .cells true [.int .u64 (((entAt (dynB B l) k).1 : Nat) : Int), .int .u64 (((entAt (dynB B l) k).2 : Nat) : Int)] 2), (l43, lp41 .busy none), (d42, .mark), (b35, .cells true [.int .i64 16] 1), (b36, .cells true [.string (dynB B l)] 1), (b64, .cells true (fl entc (ents (dynB B l) (m + 1))) 2), (b25, .cells true [.bool false] 1), (b21, .cells true [.slice (some ⟨b64, 0, none⟩) (m + 1) (m + 1)] 1), (b9, .cells true [.int .u32 (((dynX l).1 : Nat) : Int), .int .i64 (((dynX l).2.1 : Nat) : Int), .int .u64 (((dynX l).2.2.1 : Nat) : Int), .int .u64 (((dynX l).2.2.2.1 : Nat) : Int), .int .u64 (((dynX l).2.2.2.2.1 : Nat) : Int), .int .u64 (((dynX l).2.2.2.2.2 : Nat) : Int)] 6), (b5, .cells true [.int .i64 0, .int .u64 0, .string ⟨#[]⟩] 3), (b1, .cells true [.string B, .int .u64 ((E : Nat) : Int), vL] 3)]) rfl (fun H68 s69 => ⟨?_, ?_⟩)
                · exact trivial
                refine ⟨_, Wk.refl _ _, ?_⟩
                repeat (with_reducible first | refine then_ret ?_ | refine blk_ret ?_ | refine then_exit ?_ | refine blk_exit ?_ | refine blk_exit' (by decide) ?_ | refine blk_normal ?_ | refine then_normal ?_ | refine retq_ret ?_ | refine retq_normal ?_ | refine ng_normal ?_ | refine ng_ret ?_ | refine ng_exit ?_)
                exact ⟨((s69.forget 0).forget 0).getj (j := 0) rfl, (fun _ => ⟨_, _, (((s69.forget 0).forget 0).setAt (j := 0) rfl (lp41 .ready none)), ⟨by omega, by omega⟩, (lt_succ_casesN hz (beq_eq_false_iff_ne.2 (by omega)))⟩), (fun h => nomatch h)⟩
              ·
                replace c5 := of_decide_eq_false c5
                refine dv (gyes_none rfl) (q_as (v := .bool false) rfl) rfl (by decide) (cok1 trivial) ?_
                refine ⟨_, Wk.refl _ _, ?_⟩
                show awp _ _ _ _ _ _ _
                refine awp_cond_f rfl ?_
                refine awp_skip_wk ?_
                refine ⟨_, Wk.refl _ _, ?_⟩
                repeat (with_reducible first | refine then_ret ?_ | refine blk_ret ?_ | refine then_exit ?_ | refine blk_exit ?_ | refine blk_exit' (by decide) ?_ | refine blk_normal ?_ | refine then_normal ?_ | refine retq_ret ?_ | refine retq_normal ?_ | refine ng_normal ?_ | refine ng_ret ?_ | refine ng_exit ?_)
                exact ⟨(s57.forget 0).getj (j := 0) rfl, (fun _ => ⟨_, _, ((s57.forget 0).setAt (j := 0) rfl (lp41 .ready none)), ⟨by omega, by omega⟩, (lt_succ_casesN hz (beq_eq_false_iff_ne.2 (by omega)))⟩), (fun h => nomatch h)⟩
        case after =>
          rintro v H' ⟨rfl, hpost⟩
          rcases hpost with ⟨bt, m, s70, hm, hz⟩ | ⟨i_, hi_, ⟨bt, m, q, s71, hm⟩⟩
          ·
            have hzk : zeroK (dynB B l) = (dynB B l).size / 16 := zeroK_no rfl hz
            generalize hkk : (dynB B l).size / 16 = k at *
            refine ⟨(by
                intro e he
                rcases List.mem_cons.1 he with rfl | he
                · exact s70.getj (j := 1) rfl
                · cases he), .inl ⟨s70.getj (j := 0) rfl, ?_⟩⟩
            have s72 := (s70.setAt (j := 0) rfl .none).forget 0
            refine ⟨_, Wk.refl _ _, ?_⟩
            show awp _ _ _ _ _ _ _
            refine awp_seq ?_
            refine awp_block ?_
            refine awp_seq ?_
            refine awp_regs hF ?_
            refine dv (gyes_none rfl) (q_load (v := .bool false) Try.isAgg4 rfl (s72.rd (j := 4) rfl) rfl) rfl (by decide) (cok1 trivial) ?_
            refine dv (gyes_none rfl) (q_not (b := false) rfl) rfl (by decide) (cok1 trivial) ?_
            refine dv (gyes_none rfl) (q_as (v := .bool true) rfl) rfl (by decide) (cok1 trivial) ?_
            refine ⟨_, Wk.refl _ _, ?_⟩
            show awp _ _ _ _ _ _ _
            refine awp_cond_t rfl ?_
            refine awp_seq ?_
            refine awp_regs hF ?_
            refine dv (gyes_none rfl) (q_field Try.underlying75 rfl Try.sizeOf25 rfl (s72.rd (j := 6) rfl)) rfl (by decide) (cok1 trivial) ?_
            refine dv (gyes_none rfl) (q_load (v := .int .u64 (((dynX l).2.2.2.1 : Nat) : Int)) Try.isAgg25 rfl (s72.rd (j := 6) rfl) rfl) rfl (by decide) (cok1 trivial) ?_
            refine dv (gyes_none rfl) (q_call0 Try.call30 rfl (failAt_ok 2 ((dynX l).2.2.2.1))) rfl (by decide) (call_ok rfl) ?_
            refine dv (gyes_none rfl) (q_as (v := .slice none 0 0) rfl) rfl (by decide) (cok1 (cconst rfl)) ?_
            refine x_store [] hF s72 (by kernel_rfl) (gyes_none rfl) (j := 7) (v := .agg #[.int .i64 2, .int .u64 (((dynX l).2.2.2.1 : Nat) : Int), .string ⟨#[]⟩]) rfl Try.sizeOf36 rfl rfl rfl rfl rfl trivial (lcsA ⟨(lc_scalar rfl), (lc_scalar rfl), (lc_scalar rfl), trivial⟩) (Nat.le_of_ble_eq_true rfl) trivial trivial rfl rfl (F' := [(d42, .mark), (b35, .cells true [.int .i64 16] 1), (b36, .cells true [.string (dynB B l)] 1), (bt, .cells true (fl entc (ents (dynB B l) m)) 2), (b25, .cells true [.bool false] 1), (b21, .cells true [.slice (some ⟨bt, 0, none⟩) m m] 1), (b9, .cells true [.int .u32 (((dynX l).1 : Nat) : Int), .int .i64 (((dynX l).2.1 : Nat) : Int), .int .u64 (((dynX l).2.2.1 : Nat) : Int), .int .u64 (((dynX l).2.2.2.1 : Nat) : Int), .int .u64 (((dynX l).2.2.2.2.1 : Nat) : Int), .int .u64 (((dynX l).2.2.2.2.2 : Nat) : Int)] 6), (b5, .cells true [.int .i64 2, .int .u64 (((dynX l).2.2.2.1 : Nat) : Int), .string ⟨#[]⟩] 3), (b1, .cells true [.string B, .int .u64 ((E : Nat) : Int), vL] 3)]) rfl (fun H73 s74 => ⟨?_, ?_⟩)
            · exact trivial
            refine ⟨_, Wk.refl _ _, ?_⟩
            show awp _ _ _ _ _ _ _
            refine awp_nil s74 2 2 rfl (fun b75 H76 hb78 s77 => ?_)
            refine awp_ret_wk ?_
            obtain ⟨e1, e2, e3⟩ := dr_open hdi (by omega) hok (by first | exact hzk | omega)
            refine ⟨_, Wk.refl _ _, ?_⟩
            repeat (with_reducible first | refine then_ret ?_ | refine blk_ret ?_ | refine then_exit ?_ | refine blk_exit ?_ | refine blk_exit' (by decide) ?_ | refine blk_normal ?_ | refine then_normal ?_ | refine retq_ret ?_ | refine retq_normal ?_ | refine ng_normal ?_ | refine ng_ret ?_ | refine ng_exit ?_)
            refine ret_isD (v := .tuple #[.slice (some ⟨b75, 0, none⟩) 0 0, .agg #[.int .i64 2, .int .u64 (((dynX l).2.2.2.1 : Nat) : Int), .string ⟨#[]⟩]]) rfl (.tmp rfl (.agg rfl Try.isAgg36 Try.sizeOf36 ((s77.setAt (j := 1) rfl .none).rd (j := 8) rfl) (Nat.le_of_ble_eq_true rfl) rfl .nil)) rfl ?_
            exact ⟨_, by rw [e1, e2]; first | done | rfl, freshS_of (l := []) (s77.setAt (j := 1) rfl .none) (j := 0) rfl rfl e3⟩
          ·
            refine ⟨(by
                intro e he
                rcases List.mem_cons.1 he with rfl | he
                · exact s71.getj (j := 1) rfl
                · cases he), .inr ⟨_, s71.getj (j := 0) rfl, ?_⟩⟩
            have s79 := (s71.setAt (j := 0) rfl .none).forget 0
            refine awp_exit_wk ?_
            refine ⟨_, Wk.refl _ _, ?_⟩
            show awp _ _ _ _ _ _ _
            refine awp_seq ?_
            refine awp_block ?_
            refine awp_seq ?_
            refine awp_regs hF ?_
            refine dv (gyes_none rfl) (q_load (v := .bool true) Try.isAgg4 rfl (s79.rd (j := 4) rfl) rfl) rfl (by decide) (cok1 trivial) ?_
            refine dv (gyes_none rfl) (q_not (b := true) rfl) rfl (by decide) (cok1 trivial) ?_
            refine dv (gyes_none rfl) (q_as (v := .bool false) rfl) rfl (by decide) (cok1 trivial) ?_
            refine ⟨_, Wk.refl _ _, ?_⟩
            show awp _ _ _ _ _ _ _
            refine awp_cond_f rfl ?_
            refine awp_seq ?_
            refine awp_regs hF ?_
            refine dv (gyes_none rfl) (q_load (v := .slice (some ⟨bt, 0, none⟩) m m) Try.isAgg43 rfl (s79.rd (j := 5) rfl) rfl) rfl (by decide) (cok1 trivial) ?_
            refine dv (gyes_none rfl) (q_len_slice Try.underlying43 rfl (s79.rd (j := 3) rfl)) rfl (by decide) (cok1 trivial) ?_
            refine dvb (gyes_none rfl) (q_int rfl rfl rfl) rfl (by decide) (cok2 trivial (cconst rfl)) (fun c6 => ?_) (fun c6 => ?_)
            ·
              replace c6 := of_decide_eq_true c6
              refine dv (gyes_none rfl) (q_as (v := .bool true) rfl) rfl (by decide) (cok1 trivial) ?_
              refine ⟨_, Wk.refl _ _, ?_⟩
              show awp _ _ _ _ _ _ _
              refine awp_cond_t rfl ?_
              refine awp_seq ?_
              refine awp_regs hF ?_
              refine dv (gyes_none rfl) (q_field Try.underlying75 rfl Try.sizeOf25 rfl (s79.rd (j := 6) rfl)) rfl (by decide) (cok1 trivial) ?_
              refine dv (gyes_none rfl) (q_load (v := .int .u64 (((dynX l).2.2.2.1 : Nat) : Int)) Try.isAgg25 rfl (s79.rd (j := 6) rfl) rfl) rfl (by decide) (cok1 trivial) ?_
              refine dv (gyes_none rfl) (q_call0 Try.call30 rfl (failAt_ok 6 ((dynX l).2.2.2.1))) rfl (by decide) (call_ok rfl) ?_
              refine dv (gyes_none rfl) (q_as (v := .slice none 0 0) rfl) rfl (by decide) (cok1 (cconst rfl)) ?_
              refine x_store [] hF s79 (by kernel_rfl) (gyes_none rfl) (j := 7) (v := .agg #[.int .i64 6, .int .u64 (((dynX l).2.2.2.1 : Nat) : Int), .string ⟨#[]⟩]) rfl Try.sizeOf36 rfl rfl rfl rfl rfl trivial (lcsA ⟨(lc_scalar rfl), (lc_scalar rfl), (lc_scalar rfl), trivial⟩) (Nat.le_of_ble_eq_true rfl) trivial trivial rfl rfl (F' := [(d42, .mark), (b35, .cells true [.int .i64 16] 1), (b36, .cells true [.string (dynB B l)] 1), (bt, .cells true (fl entc (ents (dynB B l) m)) 2), (b25, .cells true [.bool true] 1), (b21, .cells true [.slice (some ⟨bt, 0, none⟩) m m] 1), (b9, .cells true [.int .u32 (((dynX l).1 : Nat) : Int), .int .i64 (((dynX l).2.1 : Nat) : Int), .int .u64 (((dynX l).2.2.1 : Nat) : Int), .int .u64 (((dynX l).2.2.2.1 : Nat) : Int), .int .u64 (((dynX l).2.2.2.2.1 : Nat) : Int), .int .u64 (((dynX l).2.2.2.2.2 : Nat) : Int)] 6), (b5, .cells true [.int .i64 6, .int .u64 (((dynX l).2.2.2.1 : Nat) : Int), .string ⟨#[]⟩] 3), (b1, .cells true [.string B, .int .u64 ((E : Nat) : Int), vL] 3)]) rfl (fun H80 s81 => ⟨?_, ?_⟩)
              · exact trivial
              refine ⟨_, Wk.refl _ _, ?_⟩
              show awp _ _ _ _ _ _ _
              refine awp_nil s81 2 2 rfl (fun b82 H83 hb85 s84 => ?_)
              refine awp_ret_wk ?_
              obtain ⟨e1, e2, e3⟩ := dr_many hdi (by omega) hok (by omega) (by omega)
              refine ⟨_, Wk.refl _ _, ?_⟩
              repeat (with_reducible first | refine then_ret ?_ | refine blk_ret ?_ | refine then_exit ?_ | refine blk_exit ?_ | refine blk_exit' (by decide) ?_ | refine blk_normal ?_ | refine then_normal ?_ | refine retq_ret ?_ | refine retq_normal ?_ | refine ng_normal ?_ | refine ng_ret ?_ | refine ng_exit ?_)
              refine ret_isD (v := .tuple #[.slice (some ⟨b82, 0, none⟩) 0 0, .agg #[.int .i64 6, .int .u64 (((dynX l).2.2.2.1 : Nat) : Int), .string ⟨#[]⟩]]) rfl (.tmp rfl (.agg rfl Try.isAgg36 Try.sizeOf36 ((s84.setAt (j := 1) rfl .none).rd (j := 8) rfl) (Nat.le_of_ble_eq_true rfl) rfl .nil)) rfl ?_
              exact ⟨_, by rw [e1, e2]; first | done | rfl, freshS_of (l := []) (s84.setAt (j := 1) rfl .none) (j := 0) rfl rfl e3⟩
            ·
              replace c6 := of_decide_eq_false c6
              refine dv (gyes_none rfl) (q_as (v := .bool false) rfl) rfl (by decide) (cok1 trivial) ?_
              refine ⟨_, Wk.refl _ _, ?_⟩
              show awp _ _ _ _ _ _ _
              refine awp_cond_f rfl ?_
              refine awp_skip_wk ?_
              refine ⟨_, Wk.refl _ _, ?_⟩
              show awp _ _ _ _ _ _ _
              refine awp_seq ?_
              refine awp_regs hF ?_
              refine dv (gyes_none rfl) (q_load (v := .slice (some ⟨bt, 0, none⟩) m m) Try.isAgg43 rfl (s79.rd (j := 5) rfl) rfl) rfl (by decide) (cok1 trivial) ?_
              refine dv (gyes_none rfl) (q_buildL (ds := [.int .i64 0, .int .u64 0, .string ⟨#[]⟩]) [(0, 1), (1, 1), (2, 1)] [] Try.underlying36 Try.zeroValue36 (by first | exact flat_agg rfl | exact flat_scalar rfl) (by kernel_rfl) trivial lvs0 rfl) rfl (by decide) (by simp [Op.operands, Call.operands]) ?_
              refine dv (gyes_none rfl) (q_as (v := .slice (some ⟨bt, 0, none⟩) m m) rfl) rfl (by decide) (cok1 trivial) ?_
              refine x_store [] hF s79 (by kernel_rfl) (gyes_none rfl) (j := 7) (v := .agg #[.int .i64 0, .int .u64 0, .string ⟨#[]⟩]) rfl Try.sizeOf36 rfl rfl rfl rfl rfl trivial (lcsA ⟨(lc_scalar rfl), (lc_scalar rfl), (lc_scalar rfl), trivial⟩) (Nat.le_of_ble_eq_true rfl) trivial trivial rfl rfl (F' := [(d42, .mark), (b35, .cells true [.int .i64 16] 1), (b36, .cells true [.string (dynB B l)] 1), (bt, .cells true (fl entc (ents (dynB B l) m)) 2), (b25, .cells true [.bool true] 1), (b21, .cells true [.slice (some ⟨bt, 0, none⟩) m m] 1), (b9, .cells true [.int .u32 (((dynX l).1 : Nat) : Int), .int .i64 (((dynX l).2.1 : Nat) : Int), .int .u64 (((dynX l).2.2.1 : Nat) : Int), .int .u64 (((dynX l).2.2.2.1 : Nat) : Int), .int .u64 (((dynX l).2.2.2.2.1 : Nat) : Int), .int .u64 (((dynX l).2.2.2.2.2 : Nat) : Int)] 6), (b5, .cells true [.int .i64 0, .int .u64 0, .string ⟨#[]⟩] 3), (b1, .cells true [.string B, .int .u64 ((E : Nat) : Int), vL] 3)]) rfl (fun H86 s87 => ⟨?_, ?_⟩)
              · exact trivial
              refine ⟨_, Wk.refl _ _, ?_⟩
              show awp _ _ _ _ _ _ _
              refine awp_ret_wk ?_
              obtain ⟨e1, e2, e3⟩ := dr_ok hdi (by omega) hok (by omega) (by omega)
              refine ⟨_, Wk.refl _ _, ?_⟩
              repeat (with_reducible first | refine then_ret ?_ | refine blk_ret ?_ | refine then_exit ?_ | refine blk_exit ?_ | refine blk_exit' (by decide) ?_ | refine blk_normal ?_ | refine then_normal ?_ | refine retq_ret ?_ | refine retq_normal ?_ | refine ng_normal ?_ | refine ng_ret ?_ | refine ng_exit ?_)
              refine ret_isD (v := .tuple #[.slice (some ⟨bt, 0, none⟩) m m, .agg #[.int .i64 0, .int .u64 0, .string ⟨#[]⟩]]) rfl (.tmp rfl (.agg rfl Try.isAgg36 Try.sizeOf36 ((s87.setAt (j := 0) rfl .none).rd (j := 7) rfl) (Nat.le_of_ble_eq_true rfl) rfl .nil)) rfl ?_
              exact ⟨_, by rw [e1, e2]; first | done | rfl, freshS_of (l := ents (dynB B l) m) (s87.setAt (j := 0) rfl .none) (j := 3) rfl (ents_len _ _) (e3.trans (by rw [show zeroK (dynB B l) = m by omega]))⟩
      ·
        have hok : (imgAt B l (dynX l).2.2.2.1 (dynX l).2.2.2.2.2).2 = false := c3
        refine dv (gyes_none rfl) (q_as (v := .string (dynB B l)) rfl) rfl (by decide) (cok1 trivial) ?_
        refine dv (gyes_none rfl) (q_as (v := .bool false) rfl) rfl (by decide) (cok1 trivial) ?_
        refine ⟨_, Wk.refl _ _, ?_⟩
        show awp _ _ _ _ _ _ _
        refine awp_seq ?_
        refine awp_seq ?_
        refine awp_regs hF ?_
        refine dv (gyes_none rfl) (q_mv (v := .bool false) rfl) rfl (by decide) (cok1 trivial) ?_
        refine dv (gyes_none rfl) (q_not (b := false) rfl) rfl (by decide) (cok1 trivial) ?_
        refine ⟨_, Wk.refl _ _, ?_⟩
        show awp _ _ _ _ _ _ _
        refine awp_cond_t rfl ?_
        refine awp_seq ?_
        refine awp_regs hF ?_
        refine dv (gyes_none rfl) (q_field Try.underlying75 rfl Try.sizeOf25 rfl (s14.rd (j := 0) rfl)) rfl (by decide) (cok1 trivial) ?_
        refine dv (gyes_none rfl) (q_load (v := .int .u64 (((dynX l).2.2.2.1 : Nat) : Int)) Try.isAgg25 rfl (s14.rd (j := 0) rfl) rfl) rfl (by decide) (cok1 trivial) ?_
        refine dv (gyes_none rfl) (q_call0 Try.call30 rfl (failAt_ok 5 ((dynX l).2.2.2.1))) rfl (by decide) (call_ok rfl) ?_
        refine dv (gyes_none rfl) (q_as (v := .slice none 0 0) rfl) rfl (by decide) (cok1 (cconst rfl)) ?_
        refine x_store [] hF s14 (by kernel_rfl) (gyes_none rfl) (j := 1) (v := .agg #[.int .i64 5, .int .u64 (((dynX l).2.2.2.1 : Nat) : Int), .string ⟨#[]⟩]) rfl Try.sizeOf36 rfl rfl rfl rfl rfl trivial (lcsA ⟨(lc_scalar rfl), (lc_scalar rfl), (lc_scalar rfl), trivial⟩) (Nat.le_of_ble_eq_true rfl) trivial trivial rfl rfl (F' := [(b9, .cells true [.int .u32 (((dynX l).1 : Nat) : Int), .int .i64 (((dynX l).2.1 : Nat) : Int), .int .u64 (((dynX l).2.2.1 : Nat) : Int), .int .u64 (((dynX l).2.2.2.1 : Nat) : Int), .int .u64 (((dynX l).2.2.2.2.1 : Nat) : Int), .int .u64 (((dynX l).2.2.2.2.2 : Nat) : Int)] 6), (b5, .cells true [.int .i64 5, .int .u64 (((dynX l).2.2.2.1 : Nat) : Int), .string ⟨#[]⟩] 3), (b1, .cells true [.string B, .int .u64 ((E : Nat) : Int), vL] 3)]) rfl (fun H88 s89 => ⟨?_, ?_⟩)
        · exact trivial
        refine ⟨_, Wk.refl _ _, ?_⟩
        show awp _ _ _ _ _ _ _
        refine awp_nil s89 2 2 rfl (fun b90 H91 hb93 s92 => ?_)
        refine awp_ret_wk ?_
        obtain ⟨e1, e2, e3⟩ := dr_out hdi (by omega) hok
        refine ⟨_, Wk.refl _ _, ?_⟩
        repeat (with_reducible first | refine then_ret ?_ | refine blk_ret ?_ | refine then_exit ?_ | refine blk_exit ?_ | refine blk_exit' (by decide) ?_ | refine blk_normal ?_ | refine then_normal ?_ | refine retq_ret ?_ | refine retq_normal ?_ | refine ng_normal ?_ | refine ng_ret ?_ | refine ng_exit ?_)
        refine ret_is (v := .tuple #[.slice (some ⟨b90, 0, none⟩) 0 0, .agg #[.int .i64 5, .int .u64 (((dynX l).2.2.2.1 : Nat) : Int), .string ⟨#[]⟩]]) rfl (.tmp rfl (.agg rfl Try.isAgg36 Try.sizeOf36 (s92.rd (j := 2) rfl) (Nat.le_of_ble_eq_true rfl) rfl .nil)) rfl ?_
        exact ⟨_, by rw [e1, e2]; first | done | rfl, freshS_of (l := []) s92 (j := 0) rfl rfl e3⟩
  ·
    replace c1 := of_decide_eq_false c1
    have hnd := c1
    refine x_new (fun b => .pointer (some ⟨b, 0, none⟩)) s7 (gyes_none rfl) (q_alloc (vs := [.int .u32 0, .int .i64 0, .int .u64 0, .int .u64 0, .int .u64 0, .int .u64 0]) 6 Try.zeroValue75 (by first | exact flat_scalar rfl | exact flat_agg rfl) rfl) rfl (by decide) (by simp [Op.operands, Call.operands]) (fun b94 H95 hb97 s96 => ?_)
    refine x_store [] hF s96 (by kernel_rfl) (gyes_none rfl) (j := 0) (v := .agg #[.int .u32 (((dynX l).1 : Nat) : Int), .int .i64 (((dynX l).2.1 : Nat) : Int), .int .u64 (((dynX l).2.2.1 : Nat) : Int), .int .u64 (((dynX l).2.2.2.1 : Nat) : Int), .int .u64 (((dynX l).2.2.2.2.1 : Nat) : Int), .int .u64 (((dynX l).2.2.2.2.2 : Nat) : Int)]) rfl Try.sizeOf75 rfl rfl rfl rfl rfl trivial (lcsA ⟨(lc_scalar rfl), (lc_scalar rfl), (lc_scalar rfl), (lc_scalar rfl), (lc_scalar rfl), (lc_scalar rfl), trivial⟩) (Nat.le_of_ble_eq_true rfl) trivial trivial rfl rfl (F' := [(b94, .cells true [.int .u32 (((dynX l).1 : Nat) : Int), .int .i64 (((dynX l).2.1 : Nat) : Int), .int .u64 (((dynX l).2.2.1 : Nat) : Int), .int .u64 (((dynX l).2.2.2.1 : Nat) : Int), .int .u64 (((dynX l).2.2.2.2.1 : Nat) : Int), .int .u64 (((dynX l).2.2.2.2.2 : Nat) : Int)] 6), (b5, .cells true [.int .i64 0, .int .u64 0, .string ⟨#[]⟩] 3), (b1, .cells true [.string B, .int .u64 ((E : Nat) : Int), vL] 3)]) rfl (fun H98 s99 => ⟨?_, ?_⟩)
    · exact trivial
    refine dv (gyes_none rfl) (q_as (v := .bool false) rfl) rfl (by decide) (cok1 trivial) ?_
    refine ⟨_, Wk.refl _ _, ?_⟩
    show awp _ _ _ _ _ _ _
    refine awp_seq ?_
    refine awp_seq ?_
    refine awp_regs hF ?_
    refine dv (gyes_none rfl) (q_mv (v := .bool false) rfl) rfl (by decide) (cok1 trivial) ?_
    refine dv (gyes_none rfl) (q_not (b := false) rfl) rfl (by decide) (cok1 trivial) ?_
    refine ⟨_, Wk.refl _ _, ?_⟩
    show awp _ _ _ _ _ _ _
    refine awp_cond_t rfl ?_
    refine awp_seq ?_
    refine awp_regs hF ?_
    refine dv (gyes_none rfl) (q_call0 Try.call32 rfl (failOf_ok 18)) rfl (by decide) (cok2 trivial (cconst rfl)) ?_
    refine dv (gyes_none rfl) (q_as (v := .slice none 0 0) rfl) rfl (by decide) (cok1 (cconst rfl)) ?_
    refine x_store [] hF s99 (by kernel_rfl) (gyes_none rfl) (j := 1) (v := .agg #[.int .i64 18, .int .u64 0, .string ⟨#[]⟩]) rfl Try.sizeOf36 rfl rfl rfl rfl rfl trivial (lcsA ⟨(lc_scalar rfl), (lc_scalar rfl), (lc_scalar rfl), trivial⟩) (Nat.le_of_ble_eq_true rfl) trivial trivial rfl rfl (F' := [(b94, .cells true [.int .u32 (((dynX l).1 : Nat) : Int), .int .i64 (((dynX l).2.1 : Nat) : Int), .int .u64 (((dynX l).2.2.1 : Nat) : Int), .int .u64 (((dynX l).2.2.2.1 : Nat) : Int), .int .u64 (((dynX l).2.2.2.2.1 : Nat) : Int), .int .u64 (((dynX l).2.2.2.2.2 : Nat) : Int)] 6), (b5, .cells true [.int .i64 18, .int .u64 0, .string ⟨#[]⟩] 3), (b1, .cells true [.string B, .int .u64 ((E : Nat) : Int), vL] 3)]) rfl (fun H100 s101 => ⟨?_, ?_⟩)
    · exact trivial
    refine ⟨_, Wk.refl _ _, ?_⟩
    show awp _ _ _ _ _ _ _
    refine awp_nil s101 2 2 rfl (fun b102 H103 hb105 s104 => ?_)
    refine awp_ret_wk ?_
    obtain ⟨e1, e2, e3⟩ := dr_none (B := B) (firstK_none hnd)
    refine ⟨_, Wk.refl _ _, ?_⟩
    repeat (with_reducible first | refine then_ret ?_ | refine blk_ret ?_ | refine then_exit ?_ | refine blk_exit ?_ | refine blk_exit' (by decide) ?_ | refine blk_normal ?_ | refine then_normal ?_ | refine retq_ret ?_ | refine retq_normal ?_ | refine ng_normal ?_ | refine ng_ret ?_ | refine ng_exit ?_)
    refine ret_is (v := .tuple #[.slice (some ⟨b102, 0, none⟩) 0 0, .agg #[.int .i64 18, .int .u64 0, .string ⟨#[]⟩]]) rfl (.tmp rfl (.agg rfl Try.isAgg36 Try.sizeOf36 (s104.rd (j := 2) rfl) (Nat.le_of_ble_eq_true rfl) rfl .nil)) rfl ?_
    exact ⟨_, by rw [e1, e2]; first | done | rfl, freshS_of (l := []) s104 (j := 0) rfl rfl e3⟩
end Go.Proofs.YthfndghgfabbjaaA

