/-
  Walks over abstract states: texts of one claim, merged.
-/
import Derived.Test.YthlanedmlccabaaM3
import Derived.Test.YthlanedmlccabaaProg
import Derived.KernelRfl
import Derived.ChangeSlices
import Derived.SliceStrings
import Derived.WideShapes
import Derived.SizedLaws
import Derived.OpenShut
import Derived.Deep.Slices
/-
  Walks of functions of the given program, and what they compute.
-/
namespace Go.Proofs.YthlanedmlccabaaA
set_option linter.unusedVariables false
open Go Go.RowKit Go.Shelf Go.Proofs
def hdrB (e n : Nat) : ByteArray := magicB ++ zerosB 9 ++ putB 3 2 ++ putB 243 2 ++ putB 1 4 ++ putB e 8 ++ putB 64 8 ++ zerosB 12 ++ putB 64 2 ++ putB 56 2 ++ putB n 2 ++ zerosB 6
def segP (x : Sg) : ByteArray := putB x.1 4 ++ putB x.2.1 4 ++ putB x.2.2.1 8 ++ putB x.2.2.2.1 8 ++ zerosB 8 ++ putB x.2.2.2.2.1 8 ++ putB x.2.2.2.2.2 8 ++ zerosB 8
def packS (e : Nat) (l : List Sg) : Nat → ByteArray
  | 0 => hdrB e l.length
  | k + 1 => packS e l k ++ segP (nth l k)
def packD (e : Nat) (l : List Sg) (d : List ByteArray) : Nat → ByteArray
  | 0 => packS e l l.length
  | k + 1 => packD e l d k ++ nth d k
def packB (e : Nat) (l : List Sg) (d : List ByteArray) : ByteArray := packD e l d d.length
theorem hdrB_size (e n : Nat) : (hdrB e n).size = 64 := by unfold hdrB; simp only [size_append, putB_size, zerosB_size]; rfl
theorem segP_size (x : Sg) : (segP x).size = 56 := by unfold segP; simp only [size_append, putB_size, zerosB_size]
theorem packS_size (e : Nat) (l : List Sg) : ∀ k, (packS e l k).size = 64 + 56 * k
  | 0 => by rw [packS, hdrB_size]
  | k + 1 => by rw [packS, size_append, packS_size e l k, segP_size]; omega
theorem packD_size (e : Nat) (l : List Sg) (d : List ByteArray) {m : Nat} (hd : ∀ x ∈ d, x.size ≤ m) : ∀ k, k ≤ d.length → (packD e l d k).size ≤ 64 + 56 * l.length + k * m
  | 0, _ => by rw [packD, packS_size]; omega
  | k + 1, hk => by
    have h1 := packD_size e l d hd k (by omega)
    have h2 := hd _ (nthN_mem (l := d) (k := k) (by omega))
    rw [packD, size_append, Nat.add_mul]; omega
/-- All numbers of a segment fit into 8 bytes. -/
def SgW (x : Sg) : Prop := x.1 < 18446744073709551616 ∧ x.2.1 < 18446744073709551616 ∧ x.2.2.1 < 18446744073709551616 ∧ x.2.2.2.1 < 18446744073709551616 ∧ x.2.2.2.2.1 < 18446744073709551616 ∧ x.2.2.2.2.2 < 18446744073709551616
theorem putL_snoc (i : Nat) : ∀ n, putL n (i + 1) = putL n i ++ [UInt8.ofNat (n / 256 ^ i)] := by
  induction i with
  | zero => intro n; simp [putL]
  | succ i ih => intro n; rw [putL, ih, putL]; simp only [List.cons_append]; rw [Nat.div_div_eq_div_mul, ← Nat.pow_succ']
theorem putB_snoc (n i : Nat) : putB n (i + 1) = putB n i ++ bytesOf [UInt8.ofNat (n / 256 ^ i)] := bl_inj (by rw [bl_append, bl_putB, bl_putB, putL_snoc]; rfl)
set_option maxRecDepth 100000 in
set_option maxHeartbeats 4000000 in
theorem rput_ok {H0 : AHeap} (n k : Nat) (hn : n < 18446744073709551616) (h8 : k ≤ 8) : ACalls Try.prog 30 [.int .u64 ((n : Nat) : Int), .int .i64 ((k : Nat) : Int)] H0 (Rets (.string (putB n k)) H0) := by
  have hF : Wd Fence.wide := .inl rfl
  have hM : Try.prog.follows .mixedOrders = true := by kernel_rfl
  have s0 := St.begin H0
  refine acalls_st Try.func30 rfl Try.ntmps30 rfl ?_
  refine awp_seq ?_
  refine awp_regs hF ?_
  refine dv (gyes_none rfl) (q_as (v := .string (⟨#[]⟩ : ByteArray)) rfl) rfl (by decide) (cok1 (cconst rfl)) ?_
  refine ⟨_, Wk.refl _ _, ?_⟩
  show awp _ _ _ _ _ _ _
  refine awp_seq ?_
  refine awp_regs hF ?_
  refine dv (gyes_none rfl) (q_as (v := .string (⟨#[]⟩ : ByteArray)) rfl) rfl (by decide) (cok1 (cconst rfl)) ?_
  refine ⟨_, Wk.refl _ _, ?_⟩
  show awp _ _ _ _ _ _ _
  refine awp_seq ?_
  refine awp_seq ?_
  refine awp_regs hF ?_
  refine dv (gyes_none rfl) (q_as (v := .int .i64 0) rfl) rfl (by decide) (cok1 (cconst rfl)) ?_
  refine ⟨_, Wk.refl _ _, ?_⟩
  show awp _ _ _ _ _ _ _
  refine awp_block ?_
  refine awp_wk (Wk.U [(0, .int .u64 ((n : Nat) : Int)), (1, .int .i64 ((k : Nat) : Int)), (5, .string (⟨#[]⟩ : ByteArray)), (6, .int .i64 0)] ⟨rfl, rfl, rfl, rfl, trivial⟩) ?_
  refine awp_loop (fun ((i, m, o) : Nat × Nat × ByteArray) st => ∃ (H1 : AHeap), st = ⟨26, U [(0, .int .u64 ((m : Nat) : Int)), (1, .int .i64 ((k : Nat) : Int)), (5, .string o), (6, .int .i64 ((i : Nat) : Int))], [], H1⟩ ∧ St H0 (none0) (Rd H0) H1 [] ∧ (i ≤ k ∧ o = putB n i ∧ m = n / 256 ^ i)) (fun ((i, m, o) : Nat × Nat × ByteArray) => k - i) (x0 := (0, n, (⟨#[]⟩ : ByteArray))) ?h0 ?round
  case h0 =>
    exact ⟨_, rfl, s0, ⟨Nat.zero_le _, rfl, by simp⟩⟩
  case round =>
    rintro ⟨i, m, o⟩ _ ⟨H1, rfl, s2, ho⟩
    dsimp only at *
    have hmn : m < 18446744073709551616 := by rw [ho.2.2]; exact Nat.lt_of_le_of_lt (Nat.div_le_self _ _) hn
    have hos : o.size ≤ 8 := by rw [ho.2.1, putB_size]; omega
    refine awp_seq ?_
    refine awp_seq ?_
    refine awp_regs hF ?_
    refine dv (gyes_none rfl) (q_mv (v := .int .i64 ((i : Nat) : Int)) rfl) rfl (by decide) (cok1 trivial) ?_
    refine dv (gyes_none rfl) (q_mv (v := .int .i64 ((k : Nat) : Int)) rfl) rfl (by decide) (cok1 trivial) ?_
    refine dvb (gyes_none rfl) (q_int rfl rfl rfl) rfl (by decide) (cok2 trivial trivial) (fun c1 => ?_) (fun c1 => ?_)
    ·
      replace c1 := of_decide_eq_true c1
      refine dv (gyes_none rfl) (q_mv (v := .bool true) rfl) rfl (by decide) (cok1 trivial) ?_
      refine dv (gyes_some rfl rfl) (q_mv (v := .int .i64 ((k : Nat) : Int)) rfl) rfl (by decide) (cok1 trivial) ?_
      refine dv (gyes_some rfl rfl) (OpQ.cast (v' := .bool true) (q_int rfl rfl rfl) (congrArg Value.bool (decide_eq_true (by omega)))) rfl (by decide) (cok2 trivial (cconst rfl)) ?_
      refine dv (gyes_none rfl) (q_pt (v := .bool true) rfl rfl) rfl (by decide) (call_ok rfl) ?_
      refine ⟨_, Wk.refl _ _, ?_⟩
      show awp _ _ _ _ _ _ _
      refine awp_cond_t rfl ?_
      refine awp_skip_wk ?_
      refine ⟨_, Wk.refl _ _, ?_⟩
      show awp _ _ _ _ _ _ _
      refine awp_seq ?_
      refine awp_block ?_
      refine awp_seq ?_
      refine awp_regs hF ?_
      refine dv (gyes_none rfl) (q_mv (v := .string o) rfl) rfl (by decide) (cok1 trivial) ?_
      refine dv (gyes_none rfl) (q_mv (v := .int .u64 ((m : Nat) : Int)) rfl) rfl (by decide) (cok1 trivial) ?_
      refine dv (gyes_none rfl) (q_remM (a := m) (b := 256) rfl rfl (by first | decide | omega)) rfl (by decide) (cok2 trivial (cconst rfl)) ?_
      refine dv (gyes_none rfl) (q_convin (a := ((m % 256 : Nat) : Int)) Try.underlying23 Try.underlying5 rfl (u8_in (by omega))) rfl (by decide) (cok1 trivial) ?_
      refine x_new (fun b => .slice (some ⟨b, 0, none⟩) 1 1) s2 (gyes_none rfl) (q_buildSliceL (ds := [.int .u8 ((m % 256 : Nat) : Int)]) [.int .u8 ((m % 256 : Nat) : Int)] rfl Try.underlying71 Try.sizeOf5 Try.zeroValue5 rfl (by decide) (by decide) ⟨rfl, trivial⟩ (lvsC (by exact trivial) lvs0) rfl rfl) rfl (by decide) (cok1 trivial) (fun b3 H4 hb6 s5 => ?_)
      refine dv (gyes_none rfl) (q_bytesl (l := [UInt8.ofNat m]) Try.underlying71 Try.underlying9 Try.underlying5 rfl (s5.rd (j := 0) rfl) rfl) rfl (by decide) (cok1 trivial) ?_
      refine dv (gyes_none rfl) (q_cat rfl rfl (by show _ + 1 ≤ _; omega)) rfl (by decide) (cok2 trivial trivial) ?_
      refine dv (gyes_none rfl) (q_as (v := .string (o ++ (bytesOf [UInt8.ofNat m]))) rfl) rfl (by decide) (cok1 trivial) ?_
      refine ⟨_, Wk.refl _ _, ?_⟩
      show awp _ _ _ _ _ _ _
      refine awp_regs hF ?_
      refine dv (gyes_none rfl) (q_mv (v := .int .u64 ((m : Nat) : Int)) rfl) rfl (by decide) (cok1 trivial) ?_
      refine dv (gyes_none rfl) (q_quoM (a := m) (b := 256) rfl rfl (by first | decide | omega) (u64_in (by have := div_le_of (a := m) (b := 256) (M := 18446744073709551615) (by omega); omega))) rfl (by decide) (cok2 trivial (cconst rfl)) ?_
      refine dv (gyes_none rfl) (q_as (v := .int .u64 ((m / 256 : Nat) : Int)) rfl) rfl (by decide) (cok1 trivial) ?_
      refine ⟨_, Wk.refl _ _, ?_⟩
      show awp _ _ _ _ _ _ _
      refine awp_regs hF ?_
      refine dv (gyes_none rfl) (q_mv (v := .int .i64 ((i : Nat) : Int)) rfl) rfl (by decide) (cok1 trivial) ?_
      refine dv (gyes_none rfl) (OpQ.cast (v' := .int .i64 ((i + 1 : Nat) : Int)) (q_int rfl rfl rfl) (congrArg _ ((i64_in (by omega)).trans (by first | rfl | omega | (push_cast; rfl))))) rfl (by decide) (cok2 trivial (cconst rfl)) ?_
      refine dv (gyes_none rfl) (q_as (v := .int .i64 ((i + 1 : Nat) : Int)) rfl) rfl (by decide) (cok1 trivial) ?_
      refine ⟨_, Wk.U [(0, .int .u64 (((m / 256) : Nat) : Int)), (1, .int .i64 ((k : Nat) : Int)), (5, .string (o ++ (bytesOf [UInt8.ofNat m]))), (6, .int .i64 (((i + 1) : Nat) : Int))] ⟨rfl, rfl, rfl, rfl, trivial⟩, ((i + 1), (m / 256), (o ++ (bytesOf [UInt8.ofNat m]))), ⟨_, rfl, (s5.sub (.cons _ (.refl _))), ⟨by omega, by dsimp only; rw [putB_snoc, ← ho.2.1, ← ho.2.2], by dsimp only; rw [ho.2.2, Nat.div_div_eq_div_mul, ← Nat.pow_succ]⟩⟩, (by omega)⟩
    ·
      replace c1 := of_decide_eq_false c1
      refine dv (gyes_none rfl) (q_mv (v := .bool false) rfl) rfl (by decide) (cok1 trivial) ?_
      refine dno rfl (.inl rfl) rfl (by decide) ?_
      refine dno rfl (.inl rfl) rfl (by decide) ?_
      refine dv (gyes_none rfl) (q_pf (v := .bool false) rfl rfl) rfl (by decide) (call_ok rfl) ?_
      refine ⟨_, Wk.refl _ _, ?_⟩
      show awp _ _ _ _ _ _ _
      refine awp_cond_f rfl ?_
      refine awp_exit_wk ?_
      refine ⟨_, Wk.refl _ _, ?_⟩
      show awp _ _ _ _ _ _ _
      refine awp_seq ?_
      refine awp_regs hF ?_
      refine dv (gyes_none rfl) (q_mv (v := .string o) rfl) rfl (by decide) (cok1 trivial) ?_
      refine dv (gyes_none rfl) (q_as (v := .string o) rfl) rfl (by decide) (cok1 trivial) ?_
      refine ⟨_, Wk.refl _ _, ?_⟩
      show awp _ _ _ _ _ _ _
      refine awp_ret_wk ?_
      refine ⟨_, Wk.refl _ _, ?_⟩
      repeat (with_reducible first | refine then_ret ?_ | refine blk_ret ?_ | refine then_exit ?_ | refine blk_exit ?_ | refine blk_exit' (by decide) ?_ | refine blk_normal ?_ | refine then_normal ?_ | refine retq_ret ?_ | refine retq_normal ?_ | refine ng_normal ?_ | refine ng_ret ?_ | refine ng_exit ?_)
      exact ret_none (v := .string o) rfl s2.kp (.tmp rfl .nil) rfl rfl ⟨by rw [ho.2.1, show i = k by omega], rfl⟩
set_option maxRecDepth 100000 in
set_option maxHeartbeats 4000000 in
theorem pack_ok {H0 : AHeap} (e : Nat) (he : e < 18446744073709551616) (vR vD : Value) (l : List Sg) (d : List ByteArray) (hL : SlS segr 6 H0 vR l) (hD : Sl strv H0 vD d) (hl : l.length ≤ 1000) (hd : d.length ≤ 1000) (hw : ∀ x ∈ l, SgW x) (hdb : ∀ x ∈ d, x.size ≤ 1000) : ACalls Try.prog 18 [.int .u64 ((e : Nat) : Int), vR, vD] H0 (Rets (.string (packB e l d)) H0) := by
  have hF : Wd Fence.wide := .inl rfl
  have hM : Try.prog.follows .mixedOrders = true := by kernel_rfl
  have s0 := St.begin H0
  refine acalls_st Try.func18 rfl Try.ntmps18 rfl ?_
  refine awp_seq ?_
  refine awp_regs hF ?_
  refine dv (gyes_none rfl) (q_as (v := .string (⟨#[]⟩ : ByteArray)) rfl) rfl (by decide) (cok1 (cconst rfl)) ?_
  refine ⟨_, Wk.refl _ _, ?_⟩
  show awp _ _ _ _ _ _ _
  refine awp_seq ?_
  refine awp_regt hF hM (by kernel_rfl) (by kernel_rfl) ?_
  refine x_new (fun b => .slice (some ⟨b, 0, none⟩) 9 9) s0 (gyes_none rfl) (q_makeSlice1 (len := 9) (m := 9) rfl Try.underlying71 Try.typeInfo5 rfl Try.zeroValue5 rfl rfl rfl rfl (by omega) (by omega) (by show 1 * _ ≤ _; omega) (vs := (List.replicate 9 (0 : UInt8)).map bytv) (by simp [bytv])) rfl (by decide) (cok2 (cconst rfl) (cconst rfl)) (fun b1 H2 hb4 s3 => ?_)
  refine dv (gyes_none rfl) (OpQ.cast (v' := .string (zerosB 9)) (q_bytesl (l := List.replicate 9 (0 : UInt8)) Try.underlying71 Try.underlying9 Try.underlying5 rfl (s3.rd (j := 0) rfl) rfl) rfl) rfl (by decide) (cok1 trivial) ?_
  refine dv (gyes_none rfl) (OpQ.cast (v' := .string (magicB ++ zerosB 9)) (q_cat (a := magicB) rfl rfl (by simp only [size_append, putB_size, zerosB_size, show magicB.size = 7 from rfl]; omega)) rfl) rfl (by decide) (cok2 (cconst rfl) trivial) ?_
  refine dv (gyes_none rfl) (q_call0 Try.call30 rfl (rput_ok 3 2 (by omega) (by omega))) rfl (by decide) (call_ok rfl) ?_
  refine dv (gyes_none rfl) (q_cat rfl rfl (by simp only [size_append, putB_size, zerosB_size, show magicB.size = 7 from rfl]; omega)) rfl (by decide) (cok2 trivial trivial) ?_
  refine dv (gyes_none rfl) (q_call0 Try.call30 rfl (rput_ok 243 2 (by omega) (by omega))) rfl (by decide) (call_ok rfl) ?_
  refine dv (gyes_none rfl) (q_cat rfl rfl (by simp only [size_append, putB_size, zerosB_size, show magicB.size = 7 from rfl]; omega)) rfl (by decide) (cok2 trivial trivial) ?_
  refine dv (gyes_none rfl) (q_call0 Try.call30 rfl (rput_ok 1 4 (by omega) (by omega))) rfl (by decide) (call_ok rfl) ?_
  refine dv (gyes_none rfl) (q_cat rfl rfl (by simp only [size_append, putB_size, zerosB_size, show magicB.size = 7 from rfl]; omega)) rfl (by decide) (cok2 trivial trivial) ?_
  refine dv (gyes_none rfl) (q_mv (v := .int .u64 ((e : Nat) : Int)) rfl) rfl (by decide) (cok1 trivial) ?_
  refine dv (gyes_none rfl) (q_call0 Try.call30 rfl (rput_ok e 8 (by omega) (by omega))) rfl (by decide) (call_ok rfl) ?_
  refine dv (gyes_none rfl) (q_cat rfl rfl (by simp only [size_append, putB_size, zerosB_size, show magicB.size = 7 from rfl]; omega)) rfl (by decide) (cok2 trivial trivial) ?_
  refine dv (gyes_none rfl) (q_call0 Try.call30 rfl (rput_ok 64 8 (by omega) (by omega))) rfl (by decide) (call_ok rfl) ?_
  refine dv (gyes_none rfl) (q_cat rfl rfl (by simp only [size_append, putB_size, zerosB_size, show magicB.size = 7 from rfl]; omega)) rfl (by decide) (cok2 trivial trivial) ?_
  refine x_new (fun b => .slice (some ⟨b, 0, none⟩) 12 12) s3 (gyes_none rfl) (q_makeSlice1 (len := 12) (m := 12) rfl Try.underlying71 Try.typeInfo5 rfl Try.zeroValue5 rfl rfl rfl rfl (by omega) (by omega) (by show 1 * _ ≤ _; omega) (vs := (List.replicate 12 (0 : UInt8)).map bytv) (by simp [bytv])) rfl (by decide) (cok2 (cconst rfl) (cconst rfl)) (fun b5 H6 hb8 s7 => ?_)
  refine dv (gyes_none rfl) (OpQ.cast (v' := .string (zerosB 12)) (q_bytesl (l := List.replicate 12 (0 : UInt8)) Try.underlying71 Try.underlying9 Try.underlying5 rfl (s7.rd (j := 0) rfl) rfl) rfl) rfl (by decide) (cok1 trivial) ?_
  refine dv (gyes_none rfl) (q_cat rfl rfl (by simp only [size_append, putB_size, zerosB_size, show magicB.size = 7 from rfl]; omega)) rfl (by decide) (cok2 trivial trivial) ?_
  refine dv (gyes_none rfl) (q_call0 Try.call30 rfl (rput_ok 64 2 (by omega) (by omega))) rfl (by decide) (call_ok rfl) ?_
  refine dv (gyes_none rfl) (q_cat rfl rfl (by simp only [size_append, putB_size, zerosB_size, show magicB.size = 7 from rfl]; omega)) rfl (by decide) (cok2 trivial trivial) ?_
  refine dv (gyes_none rfl) (q_call0 Try.call30 rfl (rput_ok 56 2 (by omega) (by omega))) rfl (by decide) (call_ok rfl) ?_
  refine dv (gyes_none rfl) (q_cat rfl rfl (by simp only [size_append, putB_size, zerosB_size, show magicB.size = 7 from rfl]; omega)) rfl (by decide) (cok2 trivial trivial) ?_
  refine dv (gyes_none rfl) (q_mv (v := vR) rfl) rfl (by decide) (cok1 trivial) ?_
  refine dv (gyes_none rfl) (q_len_sls (l := l) Try.underlying32 (s7.sls hL) rfl) rfl (by decide) (cok1 trivial) ?_
  refine dv (gyes_none rfl) (q_convin (a := ((l.length : Nat) : Int)) Try.underlying3 Try.underlying23 rfl (u64_in (by omega))) rfl (by decide) (cok1 trivial) ?_
  refine dv (gyes_none rfl) (q_call0 Try.call30 rfl (rput_ok l.length 2 (by omega) (by omega))) rfl (by decide) (call_ok rfl) ?_
  refine dv (gyes_none rfl) (q_cat rfl rfl (by simp only [size_append, putB_size, zerosB_size, show magicB.size = 7 from rfl]; omega)) rfl (by decide) (cok2 trivial trivial) ?_
  refine x_new (fun b => .slice (some ⟨b, 0, none⟩) 6 6) s7 (gyes_none rfl) (q_makeSlice1 (len := 6) (m := 6) rfl Try.underlying71 Try.typeInfo5 rfl Try.zeroValue5 rfl rfl rfl rfl (by omega) (by omega) (by show 1 * _ ≤ _; omega) (vs := (List.replicate 6 (0 : UInt8)).map bytv) (by simp [bytv])) rfl (by decide) (cok2 (cconst rfl) (cconst rfl)) (fun b9 H10 hb12 s11 => ?_)
  refine dv (gyes_none rfl) (OpQ.cast (v' := .string (zerosB 6)) (q_bytesl (l := List.replicate 6 (0 : UInt8)) Try.underlying71 Try.underlying9 Try.underlying5 rfl (s11.rd (j := 0) rfl) rfl) rfl) rfl (by decide) (cok1 trivial) ?_
  refine dv (gyes_none rfl) (q_cat rfl rfl (by simp only [size_append, putB_size, zerosB_size, show magicB.size = 7 from rfl]; omega)) rfl (by decide) (cok2 trivial trivial) ?_
  refine dv (gyes_none rfl) (q_as (v := .string (((((((((((magicB ++ zerosB 9) ++ (putB 3 2)) ++ (putB 243 2)) ++ (putB 1 4)) ++ (putB e 8)) ++ (putB 64 8)) ++ (zerosB 12)) ++ (putB 64 2)) ++ (putB 56 2)) ++ (putB l.length 2)) ++ (zerosB 6))) rfl) rfl (by decide) (cok1 trivial) ?_
  refine ⟨_, Wk.refl _ _, ?_⟩
  show awp _ _ _ _ _ _ _
  refine awp_seq ?_
  refine awp_seq ?_
  refine awp_regs hF ?_
  refine dv (gyes_none rfl) (q_as (v := .int .i64 0) rfl) rfl (by decide) (cok1 (cconst rfl)) ?_
  refine ⟨_, Wk.refl _ _, ?_⟩
  show awp _ _ _ _ _ _ _
  refine awp_block ?_
  refine awp_wk (Wk.U [(1, vR), (2, vD), (7, .string (((((((((((magicB ++ zerosB 9) ++ (putB 3 2)) ++ (putB 243 2)) ++ (putB 1 4)) ++ (putB e 8)) ++ (putB 64 8)) ++ (zerosB 12)) ++ (putB 64 2)) ++ (putB 56 2)) ++ (putB l.length 2)) ++ (zerosB 6))), (8, .int .i64 0)] ⟨rfl, rfl, rfl, rfl, trivial⟩) ?_
  refine awp_loop (fun ((i, o) : Nat × ByteArray) st => ∃ (H13 : AHeap), st = ⟨94, U [(1, vR), (2, vD), (7, .string o), (8, .int .i64 ((i : Nat) : Int))], [], H13⟩ ∧ St H0 (none0) (Rd H0) H13 [] ∧ (o = packS e l i ∧ i ≤ l.length)) (fun ((i, o) : Nat × ByteArray) => l.length - i) (x0 := (0, (((((((((((magicB ++ zerosB 9) ++ (putB 3 2)) ++ (putB 243 2)) ++ (putB 1 4)) ++ (putB e 8)) ++ (putB 64 8)) ++ (zerosB 12)) ++ (putB 64 2)) ++ (putB 56 2)) ++ (putB l.length 2)) ++ (zerosB 6)))) ?h0 ?round
  case h0 =>
    exact ⟨_, rfl, (s11.sub (.cons _ (.cons _ (.cons _ (.refl _))))), ⟨rfl, Nat.zero_le _⟩⟩
  case round =>
    rintro ⟨i, o⟩ _ ⟨H13, rfl, s14, ho⟩
    dsimp only at *
    have hos : o.size = 64 + 56 * i := by rw [ho.1, packS_size]
    refine awp_seq ?_
    refine awp_seq ?_
    refine awp_regs hF ?_
    refine dv (gyes_none rfl) (q_mv (v := .int .i64 ((i : Nat) : Int)) rfl) rfl (by decide) (cok1 trivial) ?_
    refine dv (gyes_none rfl) (q_mv (v := vR) rfl) rfl (by decide) (cok1 trivial) ?_
    refine dv (gyes_none rfl) (q_len_sls (l := l) Try.underlying32 (s14.sls hL) rfl) rfl (by decide) (cok1 trivial) ?_
    refine dvb (gyes_none rfl) (q_int rfl rfl rfl) rfl (by decide) (cok2 trivial trivial) (fun c1 => ?_) (fun c1 => ?_)
    ·
      replace c1 := of_decide_eq_true c1
      obtain ⟨q1, q2, q3, q4, q5, q6⟩ := hw _ (nthN_mem (l := l) (k := i) (by omega))
      refine ⟨_, Wk.refl _ _, ?_⟩
      show awp _ _ _ _ _ _ _
      refine awp_cond_t rfl ?_
      refine awp_skip_wk ?_
      refine ⟨_, Wk.refl _ _, ?_⟩
      show awp _ _ _ _ _ _ _
      refine awp_seq ?_
      refine awp_block ?_
      refine awp_seq ?_
      refine awp_regs hF ?_
      refine dv (gyes_none rfl) (q_mv (v := vR) rfl) rfl (by decide) (cok1 trivial) ?_
      refine dv (gyes_none rfl) (q_mv (v := .int .i64 ((i : Nat) : Int)) rfl) rfl (by decide) (cok1 trivial) ?_
      refine dv (gyes_none rfl) (q_index_sls (l := l) (i := i) Try.underlying32 Try.sizeOf39 (s14.sls hL) segr_w rfl rfl (by omega)) rfl (by decide) (cok2 trivial trivial) ?_
      refine dv (gyes_none rfl) (q_loadA_sls (l := l) (i := i) Try.isAgg39 Try.sizeOf39 (s14.sls hL) segr_w rfl (by omega)) rfl (by decide) (cok1 trivial) ?_
      refine x_new (fun b => .pointer (some ⟨b, 0, none⟩)) s14 (gyes_none rfl) (q_alloc (vs := [.int .u64 0, .int .u64 0, .int .u64 0, .int .u64 0, .int .u64 0, .int .u64 0]) 6 Try.zeroValue39 (by first | exact flat_scalar rfl | exact flat_agg rfl) rfl) rfl (by decide) (by simp [Op.operands, Call.operands]) (fun b15 H16 hb18 s17 => ?_)
      refine x_store [] hF s17 (by kernel_rfl) (gyes_none rfl) (j := 0) (v := .agg #[.int .u64 (((nth l i).1 : Nat) : Int), .int .u64 (((nth l i).2.1 : Nat) : Int), .int .u64 (((nth l i).2.2.1 : Nat) : Int), .int .u64 (((nth l i).2.2.2.1 : Nat) : Int), .int .u64 (((nth l i).2.2.2.2.1 : Nat) : Int), .int .u64 (((nth l i).2.2.2.2.2 : Nat) : Int)]) rfl Try.sizeOf39 rfl rfl rfl rfl rfl trivial (lcsA ⟨(lc_scalar rfl), (lc_scalar rfl), (lc_scalar rfl), (lc_scalar rfl), (lc_scalar rfl), (lc_scalar rfl), trivial⟩) (Nat.le_of_ble_eq_true rfl) trivial trivial rfl rfl (F' := [(b15, .cells true [.int .u64 (((nth l i).1 : Nat) : Int), .int .u64 (((nth l i).2.1 : Nat) : Int), .int .u64 (((nth l i).2.2.1 : Nat) : Int), .int .u64 (((nth l i).2.2.2.1 : Nat) : Int), .int .u64 (((nth l i).2.2.2.2.1 : Nat) : Int), .int .u64 (((nth l i).2.2.2.2.2 : Nat) : Int)] 6)]) rfl (fun H19 s20 => ⟨?_, ?_⟩)
      · exact trivial
      refine ⟨_, Wk.refl _ _, ?_⟩
      show awp _ _ _ _ _ _ _
      refine awp_regt hF hM (by kernel_rfl) (by kernel_rfl) ?_
      refine dv (gyes_none rfl) (q_mv (v := .string o) rfl) rfl (by decide) (cok1 trivial) ?_
      refine dv (gyes_none rfl) (q_field Try.underlying39 rfl Try.sizeOf23 rfl (s20.rd (j := 0) rfl)) rfl (by decide) (cok1 trivial) ?_
      refine dv (gyes_none rfl) (q_load (v := .int .u64 (((nth l i).1 : Nat) : Int)) Try.isAgg23 rfl (s20.rd (j := 0) rfl) rfl) rfl (by decide) (cok1 trivial) ?_
      refine dv (gyes_none rfl) (q_call0 Try.call30 rfl (rput_ok ((nth l i).1) 4 (by omega) (by omega))) rfl (by decide) (call_ok rfl) ?_
      refine dv (gyes_none rfl) (q_field Try.underlying39 rfl Try.sizeOf23 rfl (s20.rd (j := 0) rfl)) rfl (by decide) (cok1 trivial) ?_
      refine dv (gyes_none rfl) (q_load (v := .int .u64 (((nth l i).2.1 : Nat) : Int)) Try.isAgg23 rfl (s20.rd (j := 0) rfl) rfl) rfl (by decide) (cok1 trivial) ?_
      refine dv (gyes_none rfl) (q_call0 Try.call30 rfl (rput_ok ((nth l i).2.1) 4 (by omega) (by omega))) rfl (by decide) (call_ok rfl) ?_
      refine dv (gyes_none rfl) (q_cat rfl rfl (by simp only [size_append, putB_size, zerosB_size, show magicB.size = 7 from rfl]; omega)) rfl (by decide) (cok2 trivial trivial) ?_
      refine dv (gyes_none rfl) (q_field Try.underlying39 rfl Try.sizeOf23 rfl (s20.rd (j := 0) rfl)) rfl (by decide) (cok1 trivial) ?_
      refine dv (gyes_none rfl) (q_load (v := .int .u64 (((nth l i).2.2.1 : Nat) : Int)) Try.isAgg23 rfl (s20.rd (j := 0) rfl) rfl) rfl (by decide) (cok1 trivial) ?_
      refine dv (gyes_none rfl) (q_call0 Try.call30 rfl (rput_ok ((nth l i).2.2.1) 8 (by omega) (by omega))) rfl (by decide) (call_ok rfl) ?_
      refine dv (gyes_none rfl) (q_cat rfl rfl (by simp only [size_append, putB_size, zerosB_size, show magicB.size = 7 from rfl]; omega)) rfl (by decide) (cok2 trivial trivial) ?_
      refine dv (gyes_none rfl) (q_field Try.underlying39 rfl Try.sizeOf23 rfl (s20.rd (j := 0) rfl)) rfl (by decide) (cok1 trivial) ?_
      refine dv (gyes_none rfl) (q_load (v := .int .u64 (((nth l i).2.2.2.1 : Nat) : Int)) Try.isAgg23 rfl (s20.rd (j := 0) rfl) rfl) rfl (by decide) (cok1 trivial) ?_
      refine dv (gyes_none rfl) (q_call0 Try.call30 rfl (rput_ok ((nth l i).2.2.2.1) 8 (by omega) (by omega))) rfl (by decide) (call_ok rfl) ?_
      refine dv (gyes_none rfl) (q_cat rfl rfl (by simp only [size_append, putB_size, zerosB_size, show magicB.size = 7 from rfl]; omega)) rfl (by decide) (cok2 trivial trivial) ?_
      refine x_new (fun b => .slice (some ⟨b, 0, none⟩) 8 8) s20 (gyes_none rfl) (q_makeSlice1 (len := 8) (m := 8) rfl Try.underlying71 Try.typeInfo5 rfl Try.zeroValue5 rfl rfl rfl rfl (by omega) (by omega) (by show 1 * _ ≤ _; omega) (vs := (List.replicate 8 (0 : UInt8)).map bytv) (by simp [bytv])) rfl (by decide) (cok2 (cconst rfl) (cconst rfl)) (fun b21 H22 hb24 s23 => ?_)
      refine dv (gyes_none rfl) (OpQ.cast (v' := .string (zerosB 8)) (q_bytesl (l := List.replicate 8 (0 : UInt8)) Try.underlying71 Try.underlying9 Try.underlying5 rfl (s23.rd (j := 0) rfl) rfl) rfl) rfl (by decide) (cok1 trivial) ?_
      refine dv (gyes_none rfl) (q_cat rfl rfl (by simp only [size_append, putB_size, zerosB_size, show magicB.size = 7 from rfl]; omega)) rfl (by decide) (cok2 trivial trivial) ?_
      refine dv (gyes_none rfl) (q_field Try.underlying39 rfl Try.sizeOf23 rfl (s23.rd (j := 1) rfl)) rfl (by decide) (cok1 trivial) ?_
      refine dv (gyes_none rfl) (q_load (v := .int .u64 (((nth l i).2.2.2.2.1 : Nat) : Int)) Try.isAgg23 rfl (s23.rd (j := 1) rfl) rfl) rfl (by decide) (cok1 trivial) ?_
      refine dv (gyes_none rfl) (q_call0 Try.call30 rfl (rput_ok ((nth l i).2.2.2.2.1) 8 (by omega) (by omega))) rfl (by decide) (call_ok rfl) ?_
      refine dv (gyes_none rfl) (q_cat rfl rfl (by simp only [size_append, putB_size, zerosB_size, show magicB.size = 7 from rfl]; omega)) rfl (by decide) (cok2 trivial trivial) ?_
      refine dv (gyes_none rfl) (q_field Try.underlying39 rfl Try.sizeOf23 rfl (s23.rd (j := 1) rfl)) rfl (by decide) (cok1 trivial) ?_
      refine dv (gyes_none rfl) (q_load (v := .int .u64 (((nth l i).2.2.2.2.2 : Nat) : Int)) Try.isAgg23 rfl (s23.rd (j := 1) rfl) rfl) rfl (by decide) (cok1 trivial) ?_
      refine dv (gyes_none rfl) (q_call0 Try.call30 rfl (rput_ok ((nth l i).2.2.2.2.2) 8 (by omega) (by omega))) rfl (by decide) (call_ok rfl) ?_
      refine dv (gyes_none rfl) (q_cat rfl rfl (by simp only [size_append, putB_size, zerosB_size, show magicB.size = 7 from rfl]; omega)) rfl (by decide) (cok2 trivial trivial) ?_
      refine x_new (fun b => .slice (some ⟨b, 0, none⟩) 8 8) s23 (gyes_none rfl) (q_makeSlice1 (len := 8) (m := 8) rfl Try.underlying71 Try.typeInfo5 rfl Try.zeroValue5 rfl rfl rfl rfl (by omega) (by omega) (by show 1 * _ ≤ _; omega) (vs := (List.replicate 8 (0 : UInt8)).map bytv) (by simp [bytv])) rfl (by decide) (cok2 (cconst rfl) (cconst rfl)) (fun b25 H26 hb28 s27 => ?_)
      refine dv (gyes_none rfl) (OpQ.cast (v' := .string (zerosB 8)) (q_bytesl (l := List.replicate 8 (0 : UInt8)) Try.underlying71 Try.underlying9 Try.underlying5 rfl (s27.rd (j := 0) rfl) rfl) rfl) rfl (by decide) (cok1 trivial) ?_
      refine dv (gyes_none rfl) (q_cat rfl rfl (by simp only [size_append, putB_size, zerosB_size, show magicB.size = 7 from rfl]; omega)) rfl (by decide) (cok2 trivial trivial) ?_
      refine dv (gyes_none rfl) (q_cat rfl rfl (by simp only [size_append, putB_size, zerosB_size, show magicB.size = 7 from rfl]; omega)) rfl (by decide) (cok2 trivial trivial) ?_
      refine dv (gyes_none rfl) (q_as (v := .string (o ++ ((((((((putB ((nth l i).1) 4) ++ (putB ((nth l i).2.1) 4)) ++ (putB ((nth l i).2.2.1) 8)) ++ (putB ((nth l i).2.2.2.1) 8)) ++ (zerosB 8)) ++ (putB ((nth l i).2.2.2.2.1) 8)) ++ (putB ((nth l i).2.2.2.2.2) 8)) ++ (zerosB 8)))) rfl) rfl (by decide) (cok1 trivial) ?_
      refine ⟨_, Wk.refl _ _, ?_⟩
      show awp _ _ _ _ _ _ _
      refine awp_regs hF ?_
      refine dv (gyes_none rfl) (q_mv (v := .int .i64 ((i : Nat) : Int)) rfl) rfl (by decide) (cok1 trivial) ?_
      refine dv (gyes_none rfl) (OpQ.cast (v' := .int .i64 ((i + 1 : Nat) : Int)) (q_int rfl rfl rfl) (congrArg _ ((i64_in (by omega)).trans (by first | rfl | omega | (push_cast; rfl))))) rfl (by decide) (cok2 trivial (cconst rfl)) ?_
      refine dv (gyes_none rfl) (q_as (v := .int .i64 ((i + 1 : Nat) : Int)) rfl) rfl (by decide) (cok1 trivial) ?_
      refine ⟨_, Wk.U [(1, vR), (2, vD), (7, .string (o ++ ((((((((putB ((nth l i).1) 4) ++ (putB ((nth l i).2.1) 4)) ++ (putB ((nth l i).2.2.1) 8)) ++ (putB ((nth l i).2.2.2.1) 8)) ++ (zerosB 8)) ++ (putB ((nth l i).2.2.2.2.1) 8)) ++ (putB ((nth l i).2.2.2.2.2) 8)) ++ (zerosB 8)))), (8, .int .i64 (((i + 1) : Nat) : Int))] ⟨rfl, rfl, rfl, rfl, trivial⟩, ((i + 1), (o ++ ((((((((putB ((nth l i).1) 4) ++ (putB ((nth l i).2.1) 4)) ++ (putB ((nth l i).2.2.1) 8)) ++ (putB ((nth l i).2.2.2.1) 8)) ++ (zerosB 8)) ++ (putB ((nth l i).2.2.2.2.1) 8)) ++ (putB ((nth l i).2.2.2.2.2) 8)) ++ (zerosB 8)))), ⟨_, rfl, (s27.sub (.cons _ (.cons _ (.cons _ (.refl _))))), ⟨by rw [ho.1]; rfl, by omega⟩⟩, (by omega)⟩
    ·
      replace c1 := of_decide_eq_false c1
      refine ⟨_, Wk.refl _ _, ?_⟩
      show awp _ _ _ _ _ _ _
      refine awp_cond_f rfl ?_
      refine awp_exit_wk ?_
      refine ⟨_, Wk.refl _ _, ?_⟩
      show awp _ _ _ _ _ _ _
      refine awp_seq ?_
      refine awp_seq ?_
      refine awp_regs hF ?_
      refine dv (gyes_none rfl) (q_as (v := .int .i64 0) rfl) rfl (by decide) (cok1 (cconst rfl)) ?_
      refine ⟨_, Wk.refl _ _, ?_⟩
      show awp _ _ _ _ _ _ _
      refine awp_block ?_
      refine awp_wk (Wk.U [(2, vD), (7, .string o), (10, .int .i64 0)] ⟨rfl, rfl, rfl, trivial⟩) ?_
      refine awp_loop (fun ((i2, o2) : Nat × ByteArray) st => ∃ (H29 : AHeap), st = ⟨94, U [(2, vD), (7, .string o2), (10, .int .i64 ((i2 : Nat) : Int))], [], H29⟩ ∧ St H0 (none0) (Rd H0) H29 [] ∧ (o2 = packD e l d i2 ∧ i2 ≤ d.length)) (fun ((i2, o2) : Nat × ByteArray) => d.length - i2) (x0 := (0, o)) ?h0 ?round
      case h0 =>
        exact ⟨_, rfl, s14, ⟨by rw [ho.1, show i = l.length by omega]; rfl, Nat.zero_le _⟩⟩
      case round =>
        rintro ⟨i2, o2⟩ _ ⟨H29, rfl, s30, ho2⟩
        dsimp only at *
        have hos2 : o2.size ≤ 64 + 56 * l.length + i2 * 1000 := by rw [ho2.1]; exact packD_size e l d hdb i2 (by omega)
        refine awp_seq ?_
        refine awp_seq ?_
        refine awp_regs hF ?_
        refine dv (gyes_none rfl) (q_mv (v := .int .i64 ((i2 : Nat) : Int)) rfl) rfl (by decide) (cok1 trivial) ?_
        refine dv (gyes_none rfl) (q_mv (v := vD) rfl) rfl (by decide) (cok1 trivial) ?_
        refine dv (gyes_none rfl) (q_len_sl (l := d) Try.underlying58 (s30.sl hD) rfl) rfl (by decide) (cok1 trivial) ?_
        refine dvb (gyes_none rfl) (q_int rfl rfl rfl) rfl (by decide) (cok2 trivial trivial) (fun c2 => ?_) (fun c2 => ?_)
        ·
          replace c2 := of_decide_eq_true c2
          have hdx := hdb _ (nthN_mem (l := d) (k := i2) (by omega))
          refine ⟨_, Wk.refl _ _, ?_⟩
          show awp _ _ _ _ _ _ _
          refine awp_cond_t rfl ?_
          refine awp_skip_wk ?_
          refine ⟨_, Wk.refl _ _, ?_⟩
          show awp _ _ _ _ _ _ _
          refine awp_seq ?_
          refine awp_block ?_
          refine awp_regs hF ?_
          refine dv (gyes_none rfl) (q_mv (v := .string o2) rfl) rfl (by decide) (cok1 trivial) ?_
          refine dv (gyes_none rfl) (q_mv (v := vD) rfl) rfl (by decide) (cok1 trivial) ?_
          refine dv (gyes_none rfl) (q_mv (v := .int .i64 ((i2 : Nat) : Int)) rfl) rfl (by decide) (cok1 trivial) ?_
          refine dv (gyes_none rfl) (q_index_sl (l := d) (i := i2) Try.underlying58 Try.sizeOf9 (s30.sl hD) rfl rfl (by omega)) rfl (by decide) (cok2 trivial trivial) ?_
          refine dv (gyes_none rfl) (q_load_sl (l := d) (i := i2) Try.isAgg9 (s30.sl hD) rfl (by omega)) rfl (by decide) (cok1 trivial) ?_
          refine dv (gyes_none rfl) (q_cat rfl rfl (by show _ ≤ _; omega)) rfl (by decide) (cok2 trivial trivial) ?_
          refine dv (gyes_none rfl) (q_as (v := .string (o2 ++ (nth d i2))) rfl) rfl (by decide) (cok1 trivial) ?_
          refine ⟨_, Wk.refl _ _, ?_⟩
          show awp _ _ _ _ _ _ _
          refine awp_regs hF ?_
          refine dv (gyes_none rfl) (q_mv (v := .int .i64 ((i2 : Nat) : Int)) rfl) rfl (by decide) (cok1 trivial) ?_
          refine dv (gyes_none rfl) (OpQ.cast (v' := .int .i64 ((i2 + 1 : Nat) : Int)) (q_int rfl rfl rfl) (congrArg _ ((i64_in (by omega)).trans (by first | rfl | omega | (push_cast; rfl))))) rfl (by decide) (cok2 trivial (cconst rfl)) ?_
          refine dv (gyes_none rfl) (q_as (v := .int .i64 ((i2 + 1 : Nat) : Int)) rfl) rfl (by decide) (cok1 trivial) ?_
          refine ⟨_, Wk.U [(2, vD), (7, .string (o2 ++ (nth d i2))), (10, .int .i64 (((i2 + 1) : Nat) : Int))] ⟨rfl, rfl, rfl, trivial⟩, ((i2 + 1), (o2 ++ (nth d i2))), ⟨_, rfl, s30, ⟨by rw [ho2.1]; rfl, by omega⟩⟩, (by omega)⟩
        ·
          replace c2 := of_decide_eq_false c2
          refine ⟨_, Wk.refl _ _, ?_⟩
          show awp _ _ _ _ _ _ _
          refine awp_cond_f rfl ?_
          refine awp_exit_wk ?_
          refine ⟨_, Wk.refl _ _, ?_⟩
          show awp _ _ _ _ _ _ _
          refine awp_seq ?_
          refine awp_regs hF ?_
          refine dv (gyes_none rfl) (q_mv (v := .string o2) rfl) rfl (by decide) (cok1 trivial) ?_
          refine dv (gyes_none rfl) (q_as (v := .string o2) rfl) rfl (by decide) (cok1 trivial) ?_
          refine ⟨_, Wk.refl _ _, ?_⟩
          show awp _ _ _ _ _ _ _
          refine awp_ret_wk ?_
          refine ⟨_, Wk.refl _ _, ?_⟩
          repeat (with_reducible first | refine then_ret ?_ | refine blk_ret ?_ | refine then_exit ?_ | refine blk_exit ?_ | refine blk_exit' (by decide) ?_ | refine blk_normal ?_ | refine then_normal ?_ | refine retq_ret ?_ | refine retq_normal ?_ | refine ng_normal ?_ | refine ng_ret ?_ | refine ng_exit ?_)
          exact ret_none (v := .string o2) rfl s30.kp (.tmp rfl .nil) rfl rfl ⟨by rw [ho2.1, show i2 = d.length by omega]; rfl, rfl⟩

end Go.Proofs.YthlanedmlccabaaA


/-
  Walks of functions of the given program, and what they compute.
-/
namespace Go.Proofs.YthlanedmlccabaaA
set_option linter.unusedVariables false
open Go Go.RowKit Go.Shelf Go.Proofs
theorem hr_all {s : ByteArray} (h : hrC s = 0) : hdE s = 0 ∧ (∀ j, j < hdN s → badK s j = false) ∧ ldK s (hdN s) ≠ 0 := by
  have h0 : hdE s = 0 := by
    refine Decidable.byContradiction fun h1 => ?_
    rw [(hr_hd h1).1] at h; exact h1 h
  have hx : ∀ j, j < hdN s → badK s j = false := by
    intro j hj
    cases e : badK s j
    · rfl
    · exfalso
      have hlt : hrX s < hdN s ∧ badK s (hrX s) = true := by
        unfold hrX firstK
        cases e2 : (List.range (hdN s)).find? (badK s) with
        | none => exact absurd e (by rw [List.find?_eq_none.1 e2 j (List.mem_range.2 hj) |> Bool.eq_false_iff.2]; exact fun h => nomatch h)
        | some i => exact ⟨List.mem_range.1 (List.mem_of_find?_eq_some e2), List.find?_some e2⟩
      unfold hrC at h
      rw [if_neg (fun h => h h0), if_pos hlt.1] at h
      have := hlt.2
      unfold badK at this
      rw [h] at this
      exact nomatch this
  refine ⟨h0, hx, fun hl => ?_⟩
  rw [(hr_none h0 hx hl).1] at h
  exact nomatch h
theorem hrL_len {s : ByteArray} : (hrL s).length ≤ 16 := by
  unfold hrL
  split
  · rename_i h
    rw [lsK_len]; exact (hdN_yes (hr_all h).1).2.2.1
  · exact Nat.zero_le _
theorem badK_z {s : ByteArray} {k : Nat} (h : badK s k = false) : wrongC s (sgK s k) (endK s k) = 0 := by
  unfold badK at h
  exact bne_eq_false_iff_eq.1 h
theorem hrL_low {s : ByteArray} : LowL (hrL s) := fun x hx h1 => by
  unfold hrL at hx
  split at hx
  · rename_i h
    obtain ⟨k, hk, rfl⟩ := List.mem_map.1 hx
    exact (wrong_ld (badK_z ((hr_all h).2.1 k (List.mem_range.1 hk))) h1).2.2.2.1
  · cases hx
theorem hrL_in {s : ByteArray} : InB s (hrL s) := fun x hx => by
  unfold hrL at hx
  split at hx
  · rename_i h
    obtain ⟨k, hk, rfl⟩ := List.mem_map.1 hx
    exact wrong_in (badK_z ((hr_all h).2.1 k (List.mem_range.1 hk)))
  · cases hx
def spL : List Sg := [(1, 5, 120, 256, 2, 300)]
def sp0 : ByteArray := packB 7 spL [⟨#[97, 98]⟩]
theorem sp_w : ∀ x ∈ spL, SgW x := fun x hx => by
  rcases List.mem_cons.1 hx with rfl | hx
  · unfold SgW; decide
  · cases hx
theorem sp_C : hrC sp0 = 0 := by decide +kernel
theorem sp_A : hrA sp0 = 0 := by decide +kernel
theorem sp_E : hrE sp0 = 7 := by decide +kernel
theorem sp_B : hrB sp0 = sp0 := if_pos sp_C
theorem sp_L : hrL sp0 = spL := by decide +kernel
theorem sp_n : sp0.size ≤ 1000 := by decide +kernel
theorem sp_at : imgAt sp0 spL 257 3 = (⟨#[98, 0, 0]⟩, true) := by decide +kernel
theorem sp_p : imgP spL 512 = (5, true) := by decide +kernel
theorem sp_e : endL spL spL.length = 768 := by decide +kernel
theorem sp_low : LowL spL := sp_L ▸ hrL_low
theorem sp_in : InB sp0 spL := sp_L ▸ hrL_in
theorem spRead {H0 : AHeap} : ACalls Try.prog 8 [.string sp0] H0 (fun v H' => ∃ vL, v = .tuple #[.agg #[.string sp0, .int .u64 7, vL], .agg #[.int .i64 0, .int .u64 0, .string ⟨#[]⟩]] ∧ FreshS segc 6 spL H0 vL H') := by
  have h := read_ok (H0 := H0) sp0 (Nat.le_trans sp_n (by decide))
  rw [sp_B, sp_E, sp_L, sp_C, sp_A] at h
  exact h
set_option maxRecDepth 100000 in
set_option maxHeartbeats 4000000 in
theorem speaks_ok {H0 : AHeap}  : ACalls Try.prog 7 [] H0 (Rets (.bool true) H0) := by
  have hF : Wd Fence.wide := .inl rfl
  have hM : Try.prog.follows .mixedOrders = true := by kernel_rfl
  have s0 := St.begin H0
  refine acalls_st Try.func7 rfl Try.ntmps7 rfl ?_
  refine awp_seq ?_
  refine awp_regs hF ?_
  refine dv (gyes_none rfl) (q_as (v := .bool false) rfl) rfl (by decide) (cok1 (cconst rfl)) ?_
  refine ⟨_, Wk.refl _ _, ?_⟩
  show awp _ _ _ _ _ _ _
  refine awp_seq ?_
  refine awp_regs hF ?_
  refine dv (gyes_none rfl) (q_buildL (ds := [.int .u64 1, .int .u64 5, .int .u64 120, .int .u64 256, .int .u64 2, .int .u64 300]) [(0, 1), (1, 1), (2, 1), (3, 1), (4, 1), (5, 1)] [.int .u64 1, .int .u64 5, .int .u64 120, .int .u64 256, .int .u64 2, .int .u64 300] Try.underlying39 Try.zeroValue39 (by first | exact flat_agg rfl | exact flat_scalar rfl) (by kernel_rfl) ⟨rfl, rfl, rfl, rfl, rfl, rfl, trivial⟩ (lvsC (by exact trivial) (lvsC (by exact trivial) (lvsC (by exact trivial) (lvsC (by exact trivial) (lvsC (by exact trivial) (lvsC (by exact trivial) lvs0)))))) rfl) rfl (by decide) (call_ok rfl) ?_
  refine x_new (fun b => .slice (some ⟨b, 0, none⟩) 1 1) s0 (gyes_none rfl) (q_buildSliceL (ds := [.int .u64 1, .int .u64 5, .int .u64 120, .int .u64 256, .int .u64 2, .int .u64 300]) [.agg #[.int .u64 1, .int .u64 5, .int .u64 120, .int .u64 256, .int .u64 2, .int .u64 300]] rfl Try.underlying32 Try.sizeOf39 Try.zeroValue39 rfl (by decide) (by decide) ⟨rfl, trivial⟩ (lvsC (by exact trivial) lvs0) rfl rfl) rfl (by decide) (cok1 trivial) (fun b1 H2 hb4 s3 => ?_)
  refine x_new (fun b => .slice (some ⟨b, 0, none⟩) 1 1) s3 (gyes_none rfl) (q_buildSliceL (ds := [.string (⟨#[97, 98]⟩ : ByteArray)]) [.string (⟨#[97, 98]⟩ : ByteArray)] rfl Try.underlying58 Try.sizeOf9 Try.zeroValue9 rfl (by decide) (by decide) ⟨rfl, trivial⟩ (lvsC (by exact trivial) lvs0) rfl rfl) rfl (by decide) (cok1 (cconst rfl)) (fun b5 H6 hb8 s7 => ?_)
  refine dv (gyes_none rfl) (q_call0 Try.call18 rfl (pack_ok 7 (by decide) _ _ spL [⟨#[97, 98]⟩] (s7.slsj (l := spL) segr_w (j := 1) rfl rfl (Nat.le_refl _)) (s7.slj (l := [(⟨#[97, 98]⟩ : ByteArray)]) (f := strv) (j := 0) rfl rfl (Nat.le_refl _)) (by decide) (by decide) sp_w (by decide))) rfl (by decide) (call_ok rfl) ?_
  refine dv (gyes_none rfl) (q_as (v := .string sp0) rfl) rfl (by decide) (cok1 trivial) ?_
  refine ⟨_, Wk.refl _ _, ?_⟩
  show awp _ _ _ _ _ _ _
  refine awp_seq ?_
  refine awp_regs hF ?_
  refine dv (gyes_none rfl) (q_mv (v := .string sp0) rfl) rfl (by decide) (cok1 trivial) ?_
  refine x_call [] hF (by kernel_rfl) (gyes_none rfl) Try.call8 rfl (args := [.string sp0]) rfl (spRead) (show _ < _ by decide) (call_ok rfl) rfl rfl (fun _ _ _ _ hd => by cases hd) ?_
  rintro _ H10 ⟨_, rfl, hk11, b9, rfl, hb12, hg13⟩
  have s14 := s7.callN hk11 hb12 hg13
  refine ⟨trivial, ?_⟩
  show dList _ _ _ _ _ _ _ _ _ _
  refine dv (gyes_none rfl) (q_mv (v := .tuple #[.agg #[.string sp0, .int .u64 7, .slice (some ⟨b9, 0, none⟩) spL.length spL.length], .agg #[.int .i64 0, .int .u64 0, .string (⟨#[]⟩ : ByteArray)]]) rfl) rfl (by decide) (cok1 trivial) ?_
  refine dv (gyes_none rfl) (q_extract (v := .agg #[.string sp0, .int .u64 7, .slice (some ⟨b9, 0, none⟩) spL.length spL.length]) rfl rfl) rfl (by decide) (cok1 trivial) ?_
  refine dv (gyes_none rfl) (q_extract (v := .agg #[.int .i64 0, .int .u64 0, .string (⟨#[]⟩ : ByteArray)]) rfl rfl) rfl (by decide) (cok1 trivial) ?_
  refine x_new (fun b => .pointer (some ⟨b, 0, none⟩)) s14 (gyes_none rfl) (q_alloc (vs := [.string ⟨#[]⟩, .int .u64 0, .slice none 0 0]) 3 Try.zeroValue26 (by first | exact flat_scalar rfl | exact flat_agg rfl) rfl) rfl (by decide) (by simp [Op.operands, Call.operands]) (fun b15 H16 hb18 s17 => ?_)
  refine x_new (fun b => .pointer (some ⟨b, 0, none⟩)) s17 (gyes_none rfl) (q_alloc (vs := [.int .i64 0, .int .u64 0, .string ⟨#[]⟩]) 3 Try.zeroValue29 (by first | exact flat_scalar rfl | exact flat_agg rfl) rfl) rfl (by decide) (by simp [Op.operands, Call.operands]) (fun b19 H20 hb22 s21 => ?_)
  refine x_store [] hF s21 (by kernel_rfl) (gyes_none rfl) (j := 1) (v := .agg #[.string sp0, .int .u64 7, .slice (some ⟨b9, 0, none⟩) spL.length spL.length]) rfl Try.sizeOf26 rfl rfl rfl rfl rfl trivial (lcsA ⟨(lc_scalar rfl), (lc_scalar rfl), (lc_slice (s21.live (j := 2) rfl)), trivial⟩) (Nat.le_of_ble_eq_true rfl) trivial trivial rfl rfl (F' := [(b19, .cells true [.int .i64 0, .int .u64 0, .string ⟨#[]⟩] 3), (b15, .cells true [.string sp0, .int .u64 7, .slice (some ⟨b9, 0, none⟩) spL.length spL.length] 3), (b9, .cells true (fl segc spL) 6), (b5, .cells true [.string (⟨#[97, 98]⟩ : ByteArray)] 1), (b1, .cells true [.int .u64 1, .int .u64 5, .int .u64 120, .int .u64 256, .int .u64 2, .int .u64 300] 6)]) rfl (fun H23 s24 => ⟨?_, ?_⟩)
  · exact trivial
  refine x_store [] hF s24 (by kernel_rfl) (gyes_none rfl) (j := 0) (v := .agg #[.int .i64 0, .int .u64 0, .string (⟨#[]⟩ : ByteArray)]) rfl Try.sizeOf29 rfl rfl rfl rfl rfl trivial (lcsA ⟨(lc_scalar rfl), (lc_scalar rfl), (lc_scalar rfl), trivial⟩) (Nat.le_of_ble_eq_true rfl) trivial trivial rfl rfl (F' := [(b19, .cells true [.int .i64 0, .int .u64 0, .string (⟨#[]⟩ : ByteArray)] 3), (b15, .cells true [.string sp0, .int .u64 7, .slice (some ⟨b9, 0, none⟩) spL.length spL.length] 3), (b9, .cells true (fl segc spL) 6), (b5, .cells true [.string (⟨#[97, 98]⟩ : ByteArray)] 1), (b1, .cells true [.int .u64 1, .int .u64 5, .int .u64 120, .int .u64 256, .int .u64 2, .int .u64 300] 6)]) rfl (fun H25 s26 => ⟨?_, ?_⟩)
  · exact trivial
  refine ⟨_, Wk.refl _ _, ?_⟩
  show awp _ _ _ _ _ _ _
  refine awp_seq ?_
  refine awp_regs hF ?_
  refine dv (gyes_none rfl) (q_loadAgg Try.isAgg26 Try.sizeOf26 rfl (s26.rd (j := 1) rfl) (Nat.le_of_ble_eq_true rfl) rfl) rfl (by decide) (cok1 trivial) ?_
  refine dv (gyes_none rfl) (q_call0 Try.call12 rfl (ACalls.castV (imgAt_ok sp0 7 257 3 (by decide) (by decide) _ spL (Nat.le_trans sp_n (by decide)) (s26.slsj (l := spL) segc_w (j := 2) rfl rfl (Nat.le_refl _)) (by decide) sp_low sp_in) (by rw [sp_at]))) rfl (by decide) (call_ok rfl) ?_
  refine dv (gyes_none rfl) (q_mv (v := .tuple #[.string (⟨#[98, 0, 0]⟩ : ByteArray), .bool true]) rfl) rfl (by decide) (cok1 trivial) ?_
  refine dv (gyes_none rfl) (q_extract (v := .string (⟨#[98, 0, 0]⟩ : ByteArray)) rfl rfl) rfl (by decide) (cok1 trivial) ?_
  refine dv (gyes_none rfl) (q_extract (v := .bool true) rfl rfl) rfl (by decide) (cok1 trivial) ?_
  refine dv (gyes_none rfl) (q_as (v := .string (⟨#[98, 0, 0]⟩ : ByteArray)) rfl) rfl (by decide) (cok1 trivial) ?_
  refine dv (gyes_none rfl) (q_as (v := .bool true) rfl) rfl (by decide) (cok1 trivial) ?_
  refine ⟨_, Wk.refl _ _, ?_⟩
  show awp _ _ _ _ _ _ _
  refine awp_seq ?_
  refine awp_regs hF ?_
  refine dv (gyes_none rfl) (q_loadAgg Try.isAgg26 Try.sizeOf26 rfl (s26.rd (j := 1) rfl) (Nat.le_of_ble_eq_true rfl) rfl) rfl (by decide) (cok1 trivial) ?_
  refine dv (gyes_none rfl) (q_call0 Try.call14 rfl (ACalls.castV (perm_ok sp0 7 512 _ spL (s26.slsj (l := spL) segc_w (j := 2) rfl rfl (Nat.le_refl _)) (by decide) sp_low) (by rw [sp_p]))) rfl (by decide) (call_ok rfl) ?_
  refine dv (gyes_none rfl) (q_mv (v := .tuple #[.int .i64 5, .bool true]) rfl) rfl (by decide) (cok1 trivial) ?_
  refine dv (gyes_none rfl) (q_extract (v := .int .i64 5) rfl rfl) rfl (by decide) (cok1 trivial) ?_
  refine dv (gyes_none rfl) (q_extract (v := .bool true) rfl rfl) rfl (by decide) (cok1 trivial) ?_
  refine dv (gyes_none rfl) (q_as (v := .int .i64 5) rfl) rfl (by decide) (cok1 trivial) ?_
  refine dv (gyes_none rfl) (q_as (v := .bool true) rfl) rfl (by decide) (cok1 trivial) ?_
  refine ⟨_, Wk.refl _ _, ?_⟩
  show awp _ _ _ _ _ _ _
  refine awp_seq ?_
  refine awp_regs hF ?_
  refine dv (gyes_none rfl) (q_loadAgg Try.isAgg29 Try.sizeOf29 rfl (s26.rd (j := 0) rfl) (Nat.le_of_ble_eq_true rfl) rfl) rfl (by decide) (cok1 trivial) ?_
  refine dv (gyes_none rfl) (q_call0 Try.call11 rfl (ACalls.castV (faultOK_ok 0 0 (⟨#[]⟩ : ByteArray)) (congrArg Value.bool rfl))) rfl (by decide) (cok2 trivial trivial) ?_
  refine dv (gyes_none rfl) (q_mv (v := .bool true) rfl) rfl (by decide) (cok1 trivial) ?_
  refine dv (gyes_some rfl rfl) (q_field Try.underlying26 rfl Try.sizeOf23 rfl (s26.rd (j := 1) rfl)) rfl (by decide) (cok1 trivial) ?_
  refine dv (gyes_some rfl rfl) (q_load (v := .int .u64 7) Try.isAgg23 rfl (s26.rd (j := 1) rfl) rfl) rfl (by decide) (cok1 trivial) ?_
  refine dv (gyes_some rfl rfl) (OpQ.cast (v' := .bool true) (q_int rfl rfl rfl) (congrArg Value.bool (beq_self_eq_true _))) rfl (by decide) (cok2 trivial (cconst rfl)) ?_
  refine dv (gyes_none rfl) (q_pt (v := .bool true) rfl rfl) rfl (by decide) (call_ok rfl) ?_
  refine dv (gyes_none rfl) (q_mv (v := .bool true) rfl) rfl (by decide) (cok1 trivial) ?_
  refine dv (gyes_some rfl rfl) (q_field Try.underlying26 rfl Try.sizeOf24 rfl (s26.rd (j := 1) rfl)) rfl (by decide) (cok1 trivial) ?_
  refine dv (gyes_some rfl rfl) (q_load (v := .slice (some ⟨b9, 0, none⟩) spL.length spL.length) Try.isAgg24 rfl (s26.rd (j := 1) rfl) rfl) rfl (by decide) (cok1 trivial) ?_
  refine dv (gyes_some rfl rfl) (q_len_slice Try.underlying24 rfl (s26.rd (j := 2) rfl)) rfl (by decide) (cok1 trivial) ?_
  refine dv (gyes_some rfl rfl) (OpQ.cast (v' := .bool true) (q_int rfl rfl rfl) (congrArg Value.bool rfl)) rfl (by decide) (cok2 trivial (cconst rfl)) ?_
  refine dv (gyes_none rfl) (q_pt (v := .bool true) rfl rfl) rfl (by decide) (call_ok rfl) ?_
  refine dv (gyes_none rfl) (q_mv (v := .bool true) rfl) rfl (by decide) (cok1 trivial) ?_
  refine dv (gyes_some rfl rfl) (q_loadAgg Try.isAgg26 Try.sizeOf26 rfl (s26.rd (j := 1) rfl) (Nat.le_of_ble_eq_true rfl) rfl) rfl (by decide) (cok1 trivial) ?_
  refine dv (gyes_some rfl rfl) (q_call0 Try.call15 rfl (ACalls.castV (v' := .int .i64 3) (pages_ok sp0 7 _ spL (s26.slsj (l := spL) segc_w (j := 2) rfl rfl (Nat.le_refl _)) (by decide) sp_low) (by rw [sp_e]; rfl))) rfl (by decide) (cok2 trivial trivial) ?_
  refine dv (gyes_some rfl rfl) (OpQ.cast (v' := .bool true) (q_int rfl rfl rfl) (congrArg Value.bool (beq_self_eq_true _))) rfl (by decide) (cok2 trivial (cconst rfl)) ?_
  refine dv (gyes_none rfl) (q_pt (v := .bool true) rfl rfl) rfl (by decide) (call_ok rfl) ?_
  refine dv (gyes_none rfl) (q_mv (v := .bool true) rfl) rfl (by decide) (cok1 trivial) ?_
  refine dv (gyes_some rfl rfl) (q_mv (v := .bool true) rfl) rfl (by decide) (cok1 trivial) ?_
  refine dv (gyes_none rfl) (q_pt (v := .bool true) rfl rfl) rfl (by decide) (call_ok rfl) ?_
  refine dv (gyes_none rfl) (q_mv (v := .bool true) rfl) rfl (by decide) (cok1 trivial) ?_
  refine dv (gyes_some rfl rfl) (q_mv (v := .string (⟨#[98, 0, 0]⟩ : ByteArray)) rfl) rfl (by decide) (cok1 trivial) ?_
  refine dv (gyes_some rfl rfl) (OpQ.cast (v' := .bool true) (q_streq rfl rfl) (congrArg Value.bool rfl)) rfl (by decide) (cok2 trivial (cconst rfl)) ?_
  refine dv (gyes_none rfl) (q_pt (v := .bool true) rfl rfl) rfl (by decide) (call_ok rfl) ?_
  refine dv (gyes_none rfl) (q_mv (v := .bool true) rfl) rfl (by decide) (cok1 trivial) ?_
  refine dv (gyes_some rfl rfl) (q_mv (v := .bool true) rfl) rfl (by decide) (cok1 trivial) ?_
  refine dv (gyes_none rfl) (q_pt (v := .bool true) rfl rfl) rfl (by decide) (call_ok rfl) ?_
  refine dv (gyes_none rfl) (q_mv (v := .bool true) rfl) rfl (by decide) (cok1 trivial) ?_
  refine dv (gyes_some rfl rfl) (q_mv (v := .int .i64 5) rfl) rfl (by decide) (cok1 trivial) ?_
  refine dv (gyes_some rfl rfl) (OpQ.cast (v' := .bool true) (q_int rfl rfl rfl) (congrArg Value.bool (beq_self_eq_true _))) rfl (by decide) (cok2 trivial (cconst rfl)) ?_
  refine dv (gyes_none rfl) (q_pt (v := .bool true) rfl rfl) rfl (by decide) (call_ok rfl) ?_
  refine dv (gyes_none rfl) (q_as (v := .bool true) rfl) rfl (by decide) (cok1 trivial) ?_
  refine ⟨_, Wk.refl _ _, ?_⟩
  show awp _ _ _ _ _ _ _
  refine awp_ret_wk ?_
  refine ⟨_, Wk.refl _ _, ?_⟩
  repeat (with_reducible first | refine then_ret ?_ | refine blk_ret ?_ | refine then_exit ?_ | refine blk_exit ?_ | refine blk_exit' (by decide) ?_ | refine blk_normal ?_ | refine then_normal ?_ | refine retq_ret ?_ | refine retq_normal ?_ | refine ng_normal ?_ | refine ng_ret ?_ | refine ng_exit ?_)
  exact ret_none (v := .bool true) rfl s26.kp (.tmp rfl .nil) rfl rfl ⟨rfl, rfl⟩
end Go.Proofs.YthlanedmlccabaaA


/-
  Walks of functions of the given program, and what they compute.
-/
namespace Go.Proofs.YthlanedmlccabaaA
set_option linter.unusedVariables false
open Go Go.RowKit Go.Shelf Go.Proofs
theorem take_snoc {α : Type} [Inhabited α] {l : List α} {i : Nat} (h : i < l.length) : l.take i ++ [nth l i] = l.take (i + 1) := by rw [nth_eq h, List.take_append_getElem]
def madeB (l : List Sg) (d : ByteArray) : ByteArray := packB 9 (l.take 18) [d.extract 0 (min d.size 600)]
theorem madeB_size (l : List Sg) (d : ByteArray) : (madeB l d).size ≤ 140737488355328 := by
  have h := packD_size 9 (l.take 18) [d.extract 0 (min d.size 600)] (m := 600) (fun x hx => by
    rcases List.mem_cons.1 hx with rfl | hx
    · rw [size_extract (by omega)]; omega
    · cases hx) 1 (Nat.le_refl _)
  have h2 : (l.take 18).length ≤ 18 := List.length_take_le _ _
  unfold madeB packB
  show (packD 9 (l.take 18) [d.extract 0 (min d.size 600)] 1).size ≤ _
  omega
def lastP (l : List Sg) (p : Nat) : Nat → Nat × Bool
  | 0 => (0, false)
  | k + 1 => if pP p (nth l k) = true then ((nth l k).2.1, true) else lastP l p k
def byteA (B : ByteArray) (x : Sg) (q : Nat) : ByteArray := if q - x.2.2.2.1 < x.2.2.2.2.1 then B.extract (x.2.2.1 + (q - x.2.2.2.1)) (x.2.2.1 + (q - x.2.2.2.1) + 1) else ⟨#[0]⟩
set_option maxRecDepth 100000 in
set_option maxHeartbeats 4000000 in
theorem made_ok {H0 : AHeap} (vL : Value) (l : List Sg) (hL : SlS segr 6 H0 vL l) (hw : ∀ x ∈ l, SgW x) (d : ByteArray) (hd : d.size ≤ 140737488355328) : ACalls Try.prog 10 [vL, .string d] H0 (Rets (.string (madeB l d)) H0) := by
  have hF : Wd Fence.wide := .inl rfl
  have hM : Try.prog.follows .mixedOrders = true := by kernel_rfl
  have s0 := St.begin H0
  refine acalls_st Try.func10 rfl Try.ntmps10 rfl ?_
  refine awp_seq ?_
  refine awp_regs hF ?_
  refine dv (gyes_none rfl) (q_as (v := .string (⟨#[]⟩ : ByteArray)) rfl) rfl (by decide) (cok1 (cconst rfl)) ?_
  refine ⟨_, Wk.refl _ _, ?_⟩
  show awp _ _ _ _ _ _ _
  refine awp_seq ?_
  refine awp_regs hF ?_
  refine dv (gyes_none rfl) (q_as (v := .slice none 0 0) rfl) rfl (by decide) (cok1 (cconst rfl)) ?_
  refine ⟨_, Wk.refl _ _, ?_⟩
  show awp _ _ _ _ _ _ _
  refine awp_seq ?_
  refine awp_seq ?_
  refine awp_regs hF ?_
  refine dv (gyes_none rfl) (q_as (v := .int .i64 0) rfl) rfl (by decide) (cok1 (cconst rfl)) ?_
  refine ⟨_, Wk.refl _ _, ?_⟩
  show awp _ _ _ _ _ _ _
  refine awp_block ?_
  refine awp_nil s0 5 6 rfl (fun b1 H2 hb4 s3 => ?_)
  refine awp_wk (Wk.U [(0, vL), (1, .string d), (5, .slice (some ⟨b1, 0, none⟩) 0 0), (6, .int .i64 0)] ⟨rfl, rfl, rfl, rfl, trivial⟩) ?_
  refine awp_loop (fun (i : Nat) st => ∃ (H5 : AHeap) (bl : Nat), st = ⟨32, U [(0, vL), (1, .string d), (5, .slice (some ⟨bl, 0, none⟩) i i), (6, .int .i64 ((i : Nat) : Int))], [], H5⟩ ∧ St H0 (none0) (Rd H0) H5 [(bl, .cells true (fl segr (l.take i)) 6)] ∧ (i ≤ l.length ∧ i ≤ 18)) (fun (i : Nat) => 18 - i) (x0 := (0)) ?h0 ?round
  case h0 =>
    exact ⟨_, _, rfl, s3, ⟨Nat.zero_le _, Nat.zero_le _⟩⟩
  case round =>
    rintro i _ ⟨H5, bl, rfl, s6, hi⟩
    have hti : (l.take i).length = i := by rw [List.length_take]; omega
    refine awp_seq ?_
    refine awp_seq ?_
    refine awp_regs hF ?_
    refine dv (gyes_none rfl) (q_mv (v := .int .i64 ((i : Nat) : Int)) rfl) rfl (by decide) (cok1 trivial) ?_
    refine dv (gyes_none rfl) (q_mv (v := vL) rfl) rfl (by decide) (cok1 trivial) ?_
    refine dv (gyes_none rfl) (q_len_sls (l := l) Try.underlying41 (s6.sls hL) rfl) rfl (by decide) (cok1 trivial) ?_
    refine dvb (gyes_none rfl) (q_int rfl rfl rfl) rfl (by decide) (cok2 trivial trivial) (fun c1 => ?_) (fun c1 => ?_)
    ·
      replace c1 := of_decide_eq_true c1
      refine dv (gyes_none rfl) (q_mv (v := .bool true) rfl) rfl (by decide) (cok1 trivial) ?_
      refine dv (gyes_some rfl rfl) (q_mv (v := .int .i64 ((i : Nat) : Int)) rfl) rfl (by decide) (cok1 trivial) ?_
      refine dvb (gyes_some rfl rfl) (q_int rfl rfl rfl) rfl (by decide) (cok2 trivial (cconst rfl)) (fun c2 => ?_) (fun c2 => ?_)
      ·
        replace c2 := of_decide_eq_true c2
        refine dv (gyes_none rfl) (q_pt (v := .bool true) rfl rfl) rfl (by decide) (call_ok rfl) ?_
        refine ⟨_, Wk.refl _ _, ?_⟩
        show awp _ _ _ _ _ _ _
        refine awp_cond_t rfl ?_
        refine awp_skip_wk ?_
        refine ⟨_, Wk.refl _ _, ?_⟩
        show awp _ _ _ _ _ _ _
        refine awp_seq ?_
        refine awp_block ?_
        refine awp_regs hF ?_
        refine dv (gyes_none rfl) (q_mv (v := .slice (some ⟨bl, 0, none⟩) i i) rfl) rfl (by decide) (cok1 trivial) ?_
        refine dv (gyes_none rfl) (q_mv (v := vL) rfl) rfl (by decide) (cok1 trivial) ?_
        refine dv (gyes_none rfl) (q_mv (v := .int .i64 ((i : Nat) : Int)) rfl) rfl (by decide) (cok1 trivial) ?_
        refine dv (gyes_none rfl) (q_index_sls (l := l) (i := i) Try.underlying41 Try.sizeOf68 (s6.sls hL) segr_w rfl rfl (by omega)) rfl (by decide) (cok2 trivial trivial) ?_
        refine dv (gyes_none rfl) (q_loadA_sls (l := l) (i := i) Try.isAgg68 Try.sizeOf68 (s6.sls hL) segr_w rfl (by omega)) rfl (by decide) (cok1 trivial) ?_
        refine x_new (fun b => .slice (some ⟨b, 0, none⟩) 1 1) s6 (gyes_none rfl) (q_buildSliceL (ds := [.int .u64 (((nth l i).1 : Nat) : Int), .int .u64 (((nth l i).2.1 : Nat) : Int), .int .u64 (((nth l i).2.2.1 : Nat) : Int), .int .u64 (((nth l i).2.2.2.1 : Nat) : Int), .int .u64 (((nth l i).2.2.2.2.1 : Nat) : Int), .int .u64 (((nth l i).2.2.2.2.2 : Nat) : Int)]) [.agg #[.int .u64 (((nth l i).1 : Nat) : Int), .int .u64 (((nth l i).2.1 : Nat) : Int), .int .u64 (((nth l i).2.2.1 : Nat) : Int), .int .u64 (((nth l i).2.2.2.1 : Nat) : Int), .int .u64 (((nth l i).2.2.2.2.1 : Nat) : Int), .int .u64 (((nth l i).2.2.2.2.2 : Nat) : Int)]] rfl Try.underlying32 Try.sizeOf39 Try.zeroValue39 rfl (by decide) (by decide) ⟨rfl, trivial⟩ (lvsC (by exact trivial) lvs0) rfl rfl) rfl (by decide) (cok1 trivial) (fun b7 H8 hb10 s9 => ?_)
        refine x_appendS (m := 6) (l := [((nth l i).1, (nth l i).2.1, (nth l i).2.2.1, (nth l i).2.2.2.1, (nth l i).2.2.2.2.1, (nth l i).2.2.2.2.2)]) (l0 := l.take i) (l' := l.take (i + 1)) (f := segr) [] hF s9 (by kernel_rfl) (j := 1) (i + 1) rfl (gyes_none rfl) Try.underlying32 Try.underlying32 Try.type39 rfl rfl (by decide) rfl segr_w rfl rfl rfl (s9.slsj (l := [((nth l i).1, (nth l i).2.1, (nth l i).2.2.1, (nth l i).2.2.2.1, (nth l i).2.2.2.2.1, (nth l i).2.2.2.2.2)]) segr_w (j := 0) rfl rfl (Nat.le_refl _)) (fun x _ u hu => lc_scalar (segr_sc x u hu)) hti.symm (by show (2 * (i + 1) + 1000) * 48 ≤ _; omega) trivial trivial (by decide) rfl rfl (take_snoc (by omega)) (fun b11 H12 hb14 s13 => ⟨?_, ?_⟩)
        · exact trivial
        refine dv (gyes_none rfl) (q_as (v := .slice (some ⟨b11, 0, none⟩) (i + 1) (i + 1)) rfl) rfl (by decide) (cok1 trivial) ?_
        refine ⟨_, Wk.refl _ _, ?_⟩
        show awp _ _ _ _ _ _ _
        refine awp_regs hF ?_
        refine dv (gyes_none rfl) (q_mv (v := .int .i64 ((i : Nat) : Int)) rfl) rfl (by decide) (cok1 trivial) ?_
        refine dv (gyes_none rfl) (OpQ.cast (v' := .int .i64 ((i + 1 : Nat) : Int)) (q_int rfl rfl rfl) (congrArg _ ((i64_in (by omega)).trans (by first | rfl | omega | (push_cast; rfl))))) rfl (by decide) (cok2 trivial (cconst rfl)) ?_
        refine dv (gyes_none rfl) (q_as (v := .int .i64 ((i + 1 : Nat) : Int)) rfl) rfl (by decide) (cok1 trivial) ?_
        refine ⟨_, Wk.U [(0, vL), (1, .string d), (5, .slice (some ⟨b11, 0, none⟩) (i + 1) (i + 1)), (6, .int .i64 (((i + 1) : Nat) : Int))] ⟨rfl, rfl, rfl, rfl, trivial⟩, (i + 1), ⟨_, _, rfl, (s13.sub (.cons _ (.cons_cons _ (.refl _)))), ⟨by omega, by omega⟩⟩, (by omega)⟩
      ·
        replace c2 := of_decide_eq_false c2
        refine dv (gyes_none rfl) (q_pt (v := .bool false) rfl rfl) rfl (by decide) (call_ok rfl) ?_
        refine ⟨_, Wk.refl _ _, ?_⟩
        show awp _ _ _ _ _ _ _
        refine awp_cond_f rfl ?_
        refine awp_exit_wk ?_
        refine ⟨_, Wk.refl _ _, ?_⟩
        show awp _ _ _ _ _ _ _
        refine awp_seq ?_
        have htk : l.take 18 = l.take i := by
          rcases Nat.lt_or_ge i 18 with h | h
          · rw [List.take_of_length_le (by omega), List.take_of_length_le (by omega)]
          · rw [show i = 18 by omega]
        refine awp_regs hF ?_
        refine dv (gyes_none rfl) (q_mv (v := .slice (some ⟨bl, 0, none⟩) i i) rfl) rfl (by decide) (cok1 trivial) ?_
        refine dv (gyes_none rfl) (q_mv (v := .string d) rfl) rfl (by decide) (cok1 trivial) ?_
        refine dv (gyes_none rfl) (q_mv (v := .string d) rfl) rfl (by decide) (cok1 trivial) ?_
        refine dv (gyes_none rfl) (q_len_str Try.underlying9 rfl) rfl (by decide) (cok1 trivial) ?_
        refine dv (gyes_none rfl) (OpQ.cast (v' := .int .i64 ((min d.size 600 : Nat) : Int)) (q_min rfl rfl) (by congr 1; split <;> omega)) rfl (by decide) (cok2 trivial (cconst rfl)) ?_
        refine dv (gyes_none rfl) (q_substr (i := 0) (j := (min d.size 600)) Try.underlying9 rfl rfl ⟨_, rfl⟩ (by omega) (by omega)) rfl (by decide) (cok2 trivial trivial) ?_
        refine x_new (fun b => .slice (some ⟨b, 0, none⟩) 1 1) s6 (gyes_none rfl) (q_buildSliceL (ds := [.string (d.extract 0 (min d.size 600))]) [.string (d.extract 0 (min d.size 600))] rfl Try.underlying58 Try.sizeOf9 Try.zeroValue9 rfl (by decide) (by decide) ⟨rfl, trivial⟩ (lvsC (by exact trivial) lvs0) rfl rfl) rfl (by decide) (cok1 trivial) (fun b15 H16 hb18 s17 => ?_)
        refine dv (gyes_none rfl) (q_call0 Try.call18 rfl (pack_ok 9 (by decide) _ _ (l.take i) [d.extract 0 (min d.size 600)] (s17.slsj (l := l.take i) segr_w (j := 1) rfl hti (Nat.le_refl _)) (s17.slj (l := [d.extract 0 (min d.size 600)]) (f := strv) (j := 0) rfl rfl (Nat.le_refl _)) (by omega) (by show 1 ≤ _; decide) (fun x hx => hw x (List.mem_of_mem_take hx)) (fun x hx => by
            rcases List.mem_cons.1 hx with rfl | hx
            · rw [size_extract (by omega)]; omega
            · cases hx))) rfl (by decide) (call_ok rfl) ?_
        refine dv (gyes_none rfl) (q_as (v := .string (packB 9 (l.take i) [d.extract 0 (min d.size 600)])) rfl) rfl (by decide) (cok1 trivial) ?_
        refine ⟨_, Wk.refl _ _, ?_⟩
        show awp _ _ _ _ _ _ _
        refine awp_ret_wk ?_
        refine ⟨_, Wk.refl _ _, ?_⟩
        repeat (with_reducible first | refine then_ret ?_ | refine blk_ret ?_ | refine then_exit ?_ | refine blk_exit ?_ | refine blk_exit' (by decide) ?_ | refine blk_normal ?_ | refine then_normal ?_ | refine retq_ret ?_ | refine retq_normal ?_ | refine ng_normal ?_ | refine ng_ret ?_ | refine ng_exit ?_)
        exact ret_none (v := .string (packB 9 (l.take i) [d.extract 0 (min d.size 600)])) rfl s17.kp (.tmp rfl .nil) rfl rfl ⟨by rw [madeB, htk], rfl⟩
    ·
      replace c1 := of_decide_eq_false c1
      refine dv (gyes_none rfl) (q_mv (v := .bool false) rfl) rfl (by decide) (cok1 trivial) ?_
      refine dno rfl (.inl rfl) rfl (by decide) ?_
      refine dno rfl (.inl rfl) rfl (by decide) ?_
      refine dv (gyes_none rfl) (q_pf (v := .bool false) rfl rfl) rfl (by decide) (call_ok rfl) ?_
      refine ⟨_, Wk.refl _ _, ?_⟩
      show awp _ _ _ _ _ _ _
      refine awp_cond_f rfl ?_
      refine awp_exit_wk ?_
      refine ⟨_, Wk.refl _ _, ?_⟩
      show awp _ _ _ _ _ _ _
      refine awp_seq ?_
      have htk : l.take 18 = l.take i := by
        rcases Nat.lt_or_ge i 18 with h | h
        · rw [List.take_of_length_le (by omega), List.take_of_length_le (by omega)]
        · rw [show i = 18 by omega]
      refine awp_regs hF ?_
      refine dv (gyes_none rfl) (q_mv (v := .slice (some ⟨bl, 0, none⟩) i i) rfl) rfl (by decide) (cok1 trivial) ?_
      refine dv (gyes_none rfl) (q_mv (v := .string d) rfl) rfl (by decide) (cok1 trivial) ?_
      refine dv (gyes_none rfl) (q_mv (v := .string d) rfl) rfl (by decide) (cok1 trivial) ?_
      refine dv (gyes_none rfl) (q_len_str Try.underlying9 rfl) rfl (by decide) (cok1 trivial) ?_
      refine dv (gyes_none rfl) (OpQ.cast (v' := .int .i64 ((min d.size 600 : Nat) : Int)) (q_min rfl rfl) (by congr 1; split <;> omega)) rfl (by decide) (cok2 trivial (cconst rfl)) ?_
      refine dv (gyes_none rfl) (q_substr (i := 0) (j := (min d.size 600)) Try.underlying9 rfl rfl ⟨_, rfl⟩ (by omega) (by omega)) rfl (by decide) (cok2 trivial trivial) ?_
      refine x_new (fun b => .slice (some ⟨b, 0, none⟩) 1 1) s6 (gyes_none rfl) (q_buildSliceL (ds := [.string (d.extract 0 (min d.size 600))]) [.string (d.extract 0 (min d.size 600))] rfl Try.underlying58 Try.sizeOf9 Try.zeroValue9 rfl (by decide) (by decide) ⟨rfl, trivial⟩ (lvsC (by exact trivial) lvs0) rfl rfl) rfl (by decide) (cok1 trivial) (fun b19 H20 hb22 s21 => ?_)
      refine dv (gyes_none rfl) (q_call0 Try.call18 rfl (pack_ok 9 (by decide) _ _ (l.take i) [d.extract 0 (min d.size 600)] (s21.slsj (l := l.take i) segr_w (j := 1) rfl hti (Nat.le_refl _)) (s21.slj (l := [d.extract 0 (min d.size 600)]) (f := strv) (j := 0) rfl rfl (Nat.le_refl _)) (by omega) (by show 1 ≤ _; decide) (fun x hx => hw x (List.mem_of_mem_take hx)) (fun x hx => by
          rcases List.mem_cons.1 hx with rfl | hx
          · rw [size_extract (by omega)]; omega
          · cases hx))) rfl (by decide) (call_ok rfl) ?_
      refine dv (gyes_none rfl) (q_as (v := .string (packB 9 (l.take i) [d.extract 0 (min d.size 600)])) rfl) rfl (by decide) (cok1 trivial) ?_
      refine ⟨_, Wk.refl _ _, ?_⟩
      show awp _ _ _ _ _ _ _
      refine awp_ret_wk ?_
      refine ⟨_, Wk.refl _ _, ?_⟩
      repeat (with_reducible first | refine then_ret ?_ | refine blk_ret ?_ | refine then_exit ?_ | refine blk_exit ?_ | refine blk_exit' (by decide) ?_ | refine blk_normal ?_ | refine then_normal ?_ | refine retq_ret ?_ | refine retq_normal ?_ | refine ng_normal ?_ | refine ng_ret ?_ | refine ng_exit ?_)
      exact ret_none (v := .string (packB 9 (l.take i) [d.extract 0 (min d.size 600)])) rfl s21.kp (.tmp rfl .nil) rfl rfl ⟨by rw [madeB, htk], rfl⟩
end Go.Proofs.YthlanedmlccabaaA


/-
  Walks of functions of the given program, and what they compute.
-/
namespace Go.Proofs.YthlanedmlccabaaA
set_option linter.unusedVariables false
open Go Go.RowKit Go.Shelf Go.Proofs
theorem SlS.cells {α : Type} [Inhabited α] {f : α → List Value} {m : Nat} {H : AHeap} {v : Value} {l : List α} (h : SlS f m H v l) : v.cells.toList = [v] := by
  rcases h with ⟨rfl, _⟩ | ⟨b, o, c, vs, rfl, _⟩ <;> rfl
/-- The segments of a kind, among the first ones. -/
def knd (l : List Sg) (k : Nat) (i : Nat) : List Sg := (l.take i).filter fun x => x.1 == k
theorem take_succ_nth {l : List Sg} {i : Nat} (h : i < l.length) : l.take (i + 1) = l.take i ++ [nth l i] := (take_snoc h).symm
theorem knd_y {l : List Sg} {k i : Nat} (hi : i < l.length) (h : (nth l i).1 = k) : knd l k (i + 1) = knd l k i ++ [nth l i] := by
  unfold knd
  rw [take_succ_nth hi, List.filter_append]; generalize nth l i = x at h; simp [h]
theorem knd_n {l : List Sg} {k i : Nat} (hi : i < l.length) (h : (nth l i).1 ≠ k) : knd l k (i + 1) = knd l k i := by
  unfold knd
  rw [take_succ_nth hi, List.filter_append]; generalize nth l i = x at h; simp [h]
theorem knd_pre {l : List Sg} {k : Nat} : ∀ d i, i + d ≤ l.length → ∃ r, knd l k (i + d) = knd l k i ++ r
  | 0, i, _ => ⟨[], by rw [Nat.add_zero, List.append_nil]⟩
  | d + 1, i, h => by
    obtain ⟨r, hr⟩ := knd_pre (l := l) (k := k) d i (by omega)
    rw [← Nat.add_assoc]
    by_cases e : (nth l (i + d)).1 = k
    · exact ⟨r ++ [nth l (i + d)], by rw [knd_y (by omega) e, hr, List.append_assoc]⟩
    · exact ⟨r, by rw [knd_n (by omega) e, hr]⟩
theorem knd_len_le {l : List Sg} {k i : Nat} (h : i ≤ l.length) : (knd l k i).length ≤ (knd l k l.length).length := by
  obtain ⟨r, hr⟩ := knd_pre (l := l) (k := k) (l.length - i) i (by omega)
  rw [show i + (l.length - i) = l.length by omega] at hr
  rw [hr, List.length_append]; omega
theorem knd_nth {l : List Sg} {k i : Nat} (hi : i < l.length) (h : (nth l i).1 = k) : (knd l k i).length < (knd l k l.length).length ∧ nth (knd l k l.length) (knd l k i).length = nth l i := by
  obtain ⟨r, hr⟩ := knd_pre (l := l) (k := k) (l.length - (i + 1)) (i + 1) (by omega)
  rw [show i + 1 + (l.length - (i + 1)) = l.length by omega, knd_y hi h] at hr
  have hl : (knd l k i).length < (knd l k l.length).length := by rw [hr, List.length_append, List.length_append, List.length_singleton]; omega
  refine ⟨hl, ?_⟩
  rw [nth_eq hl]
  simp [hr]
/-- So many are told. -/
def told (n : Nat) (stop : Int) : Nat := if 0 < stop then min n stop.toNat else n
theorem knd_le {l : List Sg} {k : Nat} : ∀ i, (knd l k i).length ≤ i := fun i => Nat.le_trans (List.length_filter_le _ _) (List.length_take_le _ _)
set_option maxRecDepth 100000 in
set_option maxHeartbeats 4000000 in
theorem kclos_ok {H0 : AHeap} (x : Sg) (g : List Sg) (hg : g.length ≤ 1000000) (stop : Int) (bg bl bs : Nat) (hnd : [bg, bl].Nodup) (hb5 : bs ∉ [bg, bl]) (h9 : H0[bg]? = some (.cells true [.slice (some ⟨bl, 0, none⟩) g.length g.length] 1)) (hbl : H0[bl]? = some (.cells true (fl segc g) 6)) (h5 : Rd H0 bs [.int .i64 stop] 1) : ACalls Try.prog 17 [.agg #[.int .u32 ((x.1 : Nat) : Int), .int .i64 ((x.2.1 : Nat) : Int), .int .u64 ((x.2.2.1 : Nat) : Int), .int .u64 ((x.2.2.2.1 : Nat) : Int), .int .u64 ((x.2.2.2.2.1 : Nat) : Int), .int .u64 ((x.2.2.2.2.2 : Nat) : Int)], .pointer (some ⟨bg, 0, none⟩), .pointer (some ⟨bs, 0, none⟩)] H0 (fun v H' => ∃ bn, v = .bool (((g.length + 1 : Nat) : Int) != stop) ∧ Kp (· ∈ [bg, bl]) H0 H' ∧ (H0.length ≤ bn ∨ bn ∈ [bg, bl]) ∧ bn ≠ bg ∧ H'[bg]? = some (.cells true [.slice (some ⟨bn, 0, none⟩) (g.length + 1) (g.length + 1)] 1) ∧ H'[bn]? = some (.cells true (fl segc (g ++ [x])) 6)) := by
  have hF : Wd Fence.wide := .inl rfl
  have hM : Try.prog.follows .mixedOrders = true := by kernel_rfl
  have s0 : St H0 (· ∈ [bg, bl]) (Off H0 [bg, bl]) H0 [(bg, .cells true [.slice (some ⟨bl, 0, none⟩) g.length g.length] 1), (bl, .cells true (fl segc g) 6)] := St.beginL [(bg, .cells true [.slice (some ⟨bl, 0, none⟩) g.length g.length] 1), (bl, .cells true (fl segc g) 6)] hnd (allAt_mem ⟨h9, hbl, trivial⟩)
  refine acalls_st Try.func17 rfl Try.ntmps17 rfl ?_
  refine awp_seq ?_
  refine awp_regs hF ?_
  refine x_new (fun b => .pointer (some ⟨b, 0, none⟩)) s0 (gyes_none rfl) (q_box (v := .agg #[.int .u32 ((x.1 : Nat) : Int), .int .i64 ((x.2.1 : Nat) : Int), .int .u64 ((x.2.2.1 : Nat) : Int), .int .u64 ((x.2.2.2.1 : Nat) : Int), .int .u64 ((x.2.2.2.2.1 : Nat) : Int), .int .u64 ((x.2.2.2.2.2 : Nat) : Int)]) (vs := [.int .u32 ((x.1 : Nat) : Int), .int .i64 ((x.2.1 : Nat) : Int), .int .u64 ((x.2.2.1 : Nat) : Int), .int .u64 ((x.2.2.2.1 : Nat) : Int), .int .u64 ((x.2.2.2.2.1 : Nat) : Int), .int .u64 ((x.2.2.2.2.2 : Nat) : Int)]) 6 rfl (by exact trivial) rfl) rfl (by decide) (cok1 trivial) (fun b1 H2 hb4 s3 => ?_)
  refine dv (gyes_none rfl) (q_as (v := .bool false) rfl) rfl (by decide) (cok1 (cconst rfl)) ?_
  refine ⟨_, Wk.refl _ _, ?_⟩
  show awp _ _ _ _ _ _ _
  refine awp_seq ?_
  refine awp_regs hF ?_
  refine dv (gyes_none rfl) (q_load (v := .slice (some ⟨bl, 0, none⟩) g.length g.length) Try.isAgg24 rfl (s3.rd (j := 1) rfl) rfl) rfl (by decide) (cok1 trivial) ?_
  refine dv (gyes_none rfl) (q_loadAgg Try.isAgg37 Try.sizeOf37 rfl (s3.rd (j := 0) rfl) (Nat.le_of_ble_eq_true rfl) rfl) rfl (by decide) (cok1 trivial) ?_
  refine x_new (fun b => .slice (some ⟨b, 0, none⟩) 1 1) s3 (gyes_none rfl) (q_buildSliceL (ds := [.int .u32 ((x.1 : Nat) : Int), .int .i64 ((x.2.1 : Nat) : Int), .int .u64 ((x.2.2.1 : Nat) : Int), .int .u64 ((x.2.2.2.1 : Nat) : Int), .int .u64 ((x.2.2.2.2.1 : Nat) : Int), .int .u64 ((x.2.2.2.2.2 : Nat) : Int)]) [.agg #[.int .u32 ((x.1 : Nat) : Int), .int .i64 ((x.2.1 : Nat) : Int), .int .u64 ((x.2.2.1 : Nat) : Int), .int .u64 ((x.2.2.2.1 : Nat) : Int), .int .u64 ((x.2.2.2.2.1 : Nat) : Int), .int .u64 ((x.2.2.2.2.2 : Nat) : Int)]] rfl Try.underlying24 Try.sizeOf37 Try.zeroValue37 rfl (by decide) (by decide) ⟨rfl, trivial⟩ (lvsC (by exact trivial) lvs0) rfl rfl) rfl (by decide) (cok1 trivial) (fun b5 H6 hb8 s7 => ?_)
  refine x_appendS (m := 6) (l := [(x.1, x.2.1, x.2.2.1, x.2.2.2.1, x.2.2.2.2.1, x.2.2.2.2.2)]) (l0 := g) (l' := g ++ [(x.1, x.2.1, x.2.2.1, x.2.2.2.1, x.2.2.2.2.1, x.2.2.2.2.2)]) (f := segc) [] hF s7 (by kernel_rfl) (j := 3) (g.length + 1) rfl (gyes_none rfl) Try.underlying24 Try.underlying24 Try.type37 rfl rfl (by decide) rfl segc_w rfl rfl rfl (s7.slsj (l := [(x.1, x.2.1, x.2.2.1, x.2.2.2.1, x.2.2.2.2.1, x.2.2.2.2.2)]) segc_w (j := 0) rfl rfl (Nat.le_refl _)) (fun x _ u hu => lc_scalar (segc_sc x u hu)) (by first | rfl | simp) (by show (2 * _ + 1000) * 48 ≤ _; first | omega | (simp only [List.length_append, List.length_cons, List.length_nil, List.length_take, List.length_drop]; omega)) trivial trivial (by decide) rfl rfl rfl (fun b9 H10 hb12 s11 => ⟨?_, ?_⟩)
  · exact trivial
  refine x_store1 [] hF s11 (by kernel_rfl) (gyes_none rfl) (j := 2) (v := .slice (some ⟨b9, 0, none⟩) (g.length + 1) (g.length + 1)) rfl Try.sizeOf24 rfl rfl rfl (lc_slice (s11.live (j := 3) rfl)) (Nat.le_of_ble_eq_true rfl) trivial trivial rfl rfl (F' := [(b5, .cells true [.int .u32 ((x.1 : Nat) : Int), .int .i64 ((x.2.1 : Nat) : Int), .int .u64 ((x.2.2.1 : Nat) : Int), .int .u64 ((x.2.2.2.1 : Nat) : Int), .int .u64 ((x.2.2.2.2.1 : Nat) : Int), .int .u64 ((x.2.2.2.2.2 : Nat) : Int)] 6), (b1, .cells true [.int .u32 ((x.1 : Nat) : Int), .int .i64 ((x.2.1 : Nat) : Int), .int .u64 ((x.2.2.1 : Nat) : Int), .int .u64 ((x.2.2.2.1 : Nat) : Int), .int .u64 ((x.2.2.2.2.1 : Nat) : Int), .int .u64 ((x.2.2.2.2.2 : Nat) : Int)] 6), (bg, .cells true [.slice (some ⟨b9, 0, none⟩) (g.length + 1) (g.length + 1)] 1), (b9, .cells true (fl segc (g ++ [(x.1, x.2.1, x.2.2.1, x.2.2.2.1, x.2.2.2.2.1, x.2.2.2.2.2)])) 6)]) rfl (fun H13 s14 => ⟨?_, ?_⟩)
  · exact trivial
  refine ⟨_, Wk.refl _ _, ?_⟩
  show awp _ _ _ _ _ _ _
  refine awp_seq ?_
  refine awp_regs hF ?_
  refine dv (gyes_none rfl) (q_load (v := .slice (some ⟨b9, 0, none⟩) (g.length + 1) (g.length + 1)) Try.isAgg24 rfl (s14.rd (j := 2) rfl) rfl) rfl (by decide) (cok1 trivial) ?_
  refine dv (gyes_none rfl) (q_len_slice Try.underlying24 rfl (s14.rd (j := 3) rfl)) rfl (by decide) (cok1 trivial) ?_
  refine dv (gyes_none rfl) (q_load (v := .int .i64 stop) Try.isAgg3 rfl (s14.zrd ⟨h5, hb5⟩) rfl) rfl (by decide) (cok1 trivial) ?_
  refine dv (gyes_none rfl) (q_int rfl rfl rfl) rfl (by decide) (cok2 trivial trivial) ?_
  refine dv (gyes_none rfl) (q_as (v := .bool ((((g.length + 1 : Nat) : Int) : Int) != stop)) rfl) rfl (by decide) (cok1 trivial) ?_
  refine ⟨_, Wk.refl _ _, ?_⟩
  show awp _ _ _ _ _ _ _
  refine awp_ret_wk ?_
  refine ⟨_, Wk.refl _ _, ?_⟩
  repeat (with_reducible first | refine then_ret ?_ | refine blk_ret ?_ | refine then_exit ?_ | refine blk_exit ?_ | refine blk_exit' (by decide) ?_ | refine blk_normal ?_ | refine then_normal ?_ | refine retq_ret ?_ | refine retq_normal ?_ | refine ng_normal ?_ | refine ng_ret ?_ | refine ng_exit ?_)
  refine ret_is (v := .bool ((((g.length + 1 : Nat) : Int) : Int) != stop)) rfl (.tmp rfl .nil) rfl ?_
  exact ⟨_, rfl, s14.kp, s14.own _ (List.mem_of_getElem? (i := 3) rfl), s14.nej (i := 3) (j := 2) rfl rfl (by decide), s14.getj (j := 2) rfl, s14.getj (j := 3) rfl⟩
/-- The whole call: all segments of a kind are appended, till so many are there. -/
theorem krun_ok {H0 : AHeap} {F : List (Nat × AObj)} {Z : Rs} {H : AHeap} (hs : St H0 none0 Z H F) (B : ByteArray) (E k : Nat) (vL : Value) (l : List Sg) (hl : l.length ≤ 1000) (stop : Int) (b9 bl b5 bi bk j9 jl : Nat) (h9 : F[j9]? = some (b9, .cells true [.slice (some ⟨bl, 0, none⟩) 0 0] 1)) (hbl : F[jl]? = some (bl, .cells true [] 6)) (hij : j9 ≠ jl)
    (hb5 : b5 ∉ [b9, bl]) (hbi : bi ∉ [b9, bl]) (hbk : bk ∉ [b9, bl]) (h5 : Rd H b5 [.int .i64 stop] 1) (hRi : Rd H bi [.string B, .int .u64 ((E : Nat) : Int), vL] 3) (hRk : Rd H bk [.int .u32 ((k : Nat) : Int)] 1) (hL : SlSZ segc 6 (Off H [b9, bl]) vL l) :
    ACalls Try.prog 29 [.func (.func 17) #[] #[.pointer (some ⟨b9, 0, none⟩), .pointer (some ⟨b5, 0, none⟩)], .pointer (some ⟨bi, 0, none⟩), .pointer (some ⟨bk, 0, none⟩)] H (fun v H' => v = .tuple #[] ∧ ∃ bn, Kp (· ∈ [b9, bl]) H H' ∧ (H.length ≤ bn ∨ bn ∈ [b9, bl]) ∧ bn ≠ b9 ∧ ∃ i, i ≤ l.length ∧ (knd l k i).length = told (knd l k l.length).length stop ∧ H'[b9]? = some (.cells true [.slice (some ⟨bn, 0, none⟩) (knd l k i).length (knd l k i).length] 1) ∧ H'[bn]? = some (.cells true (fl segc (knd l k i)) 6)) := by
  have hne : b9 ≠ bl := hs.nej h9 hbl hij
  let Iv : Nat → AHeap → Prop := fun i H' => ∃ bn, Kp (· ∈ [b9, bl]) H H' ∧ (H.length ≤ bn ∨ bn ∈ [b9, bl]) ∧ bn ≠ b9 ∧ i ≤ l.length ∧ (stop ≤ 0 ∨ ((knd l k i).length : Int) < stop) ∧ H'[b9]? = some (.cells true [.slice (some ⟨bn, 0, none⟩) (knd l k i).length (knd l k i).length] 1) ∧ H'[bn]? = some (.cells true (fl segc (knd l k i)) 6)
  let Et : Nat → AHeap → Prop := fun i H' => ∃ bn, Kp (· ∈ [b9, bl]) H H' ∧ (H.length ≤ bn ∨ bn ∈ [b9, bl]) ∧ bn ≠ b9 ∧ i ≤ l.length ∧ ((knd l k i).length : Int) = stop ∧ 0 < stop ∧ H'[b9]? = some (.cells true [.slice (some ⟨bn, 0, none⟩) (knd l k i).length (knd l k i).length] 1) ∧ H'[bn]? = some (.cells true (fl segc (knd l k i)) 6)
  refine (of1_ok (H0 := H) B E k vL l (by omega) _ bi bk Iv Et ?h0 ?hm ?hsk ?hb ?hy).mono ?_
  case h0 => exact ⟨bl, .refl _ _, .inr (by simp), Ne.symm hne, Nat.zero_le _, by rcases Int.lt_or_le 0 stop with h | h; exact .inr h; exact .inl h, hs.getj h9, hs.getj hbl⟩
  case hm =>
    rintro i H1 H2 ⟨bn, q1, q2, q3, q4, q5, q6, q7⟩ kk
    exact ⟨bn, q1.trans (kk.mono fun _ h => h.elim), q2, q3, q4, q5, (kk.get _ (lt_of_some q6) (fun h => h)).trans q6, (kk.get _ (lt_of_some q7) (fun h => h)).trans q7⟩
  case hsk =>
    rintro i H1 ⟨bn, q1, q2, q3, q4, q5, q6, q7⟩ hi hn
    exact ⟨bn, q1, q2, q3, by omega, by rw [knd_n hi hn]; exact q5, by rw [knd_n hi hn]; exact q6, by rw [knd_n hi hn]; exact q7⟩
  case hb =>
    rintro i H1 ⟨bn, q1, _⟩
    exact ⟨q1.rd hRi hbi, q1.rd hRk hbk, hL.mono fun b vs sz h => q1.rd h.1 h.2⟩
  case hy =>
    rintro i H1 ⟨bn, q1, q2, q3, q4, q5, q6, q7⟩ hi hk1
    have hkl := knd_le (l := l) (k := k) i
    have hbn5 : b5 ≠ bn := fun e => by
      subst e
      rcases q2 with h | h
      · have := h5.lt; omega
      · exact hb5 h
    refine ylds_func Try.call17 ((kclos_ok (H0 := H1) (nth l i) (knd l k i) (by omega) stop b9 bn b5 (by simp [Ne.symm q3]) (by have : b5 ≠ b9 := fun e => hb5 (by simp [e]); simp [this, hbn5]) q6 q7 (q1.rd h5 hb5)).mono ?_)
    rintro v H2 ⟨bm, rfl, r1, r2, r3, r4, r5⟩
    have hkey : knd l k (i + 1) = knd l k i ++ [nth l i] := knd_y hi hk1
    have hlen : (knd l k (i + 1)).length = (knd l k i).length + 1 := by rw [hkey, List.length_append]; rfl
    have hm : bm ≠ b9 := r3
    have hkp : Kp (· ∈ [b9, bl]) H H2 := by
      refine ⟨Nat.le_trans q1.len r1.len, fun b hb hx => ?_⟩
      rw [r1.get b (Nat.lt_of_lt_of_le hb q1.len) ?_, q1.get b hb hx]
      intro h
      rcases List.mem_cons.1 h with rfl | h
      · exact hx (by simp)
      · obtain rfl : b = bn := by simpa using h
        rcases q2 with h | h
        · omega
        · exact hx h
    have hbm : H.length ≤ bm ∨ bm ∈ [b9, bl] := by
      rcases r2 with h | h
      · exact .inl (Nat.le_trans q1.len h)
      · rcases List.mem_cons.1 h with rfl | h
        · exact .inr (by simp)
        · obtain rfl : bm = bn := by simpa using h
          exact q2
    refine ⟨_, rfl, fun h => ⟨bm, hkp, hbm, hm, by omega, ?_, by rw [hlen]; exact r4, by rw [hkey]; exact r5⟩, fun h => ⟨bm, hkp, hbm, hm, by omega, ?_, ?_, by rw [hlen]; exact r4, by rw [hkey]; exact r5⟩⟩
    · have h1 := bne_iff_ne.1 h
      rw [hlen]; omega
    · have h1 := bne_eq_false_iff_eq.1 h
      rw [hlen]; exact h1
    · have h1 := bne_eq_false_iff_eq.1 h
      omega
  rintro v H' ⟨rfl, h | ⟨i, hi, h⟩⟩
  · obtain ⟨bn, q1, q2, q3, q4, q5, q6, q7⟩ := h
    exact ⟨rfl, bn, q1, q2, q3, l.length, Nat.le_refl _, by unfold told; split <;> omega, q6, q7⟩
  · obtain ⟨bn, q1, q2, q3, q4, q5, q6, q7, q8⟩ := h
    have := knd_len_le (l := l) (k := k) (i := i + 1) q4
    exact ⟨rfl, bn, q1, q2, q3, i + 1, q4, by unfold told; rw [if_pos q6]; omega, q7, q8⟩

end Go.Proofs.YthlanedmlccabaaA


/-
  Walks of functions of the given program, and what they compute.
-/
namespace Go.Proofs.YthlanedmlccabaaA
set_option linter.unusedVariables false
open Go Go.RowKit Go.Shelf Go.Proofs
theorem knd_pn {l : List Sg} {k q n : Nat} (hq : q ≤ l.length) (hn : n < (knd l k q).length) : nth (knd l k l.length) n = nth (knd l k q) n := by
  obtain ⟨r, hr⟩ := knd_pre (l := l) (k := k) (l.length - q) q (by omega)
  rw [show q + (l.length - q) = l.length by omega] at hr
  rw [hr, nth_eq hn, nth_eq (by rw [List.length_append]; omega), List.getElem_append_left hn]
theorem St.turn2 {H0 : AHeap} {X : Nat → Prop} {Z : Rs} {H H' : AHeap} {F : List (Nat × AObj)} (h : St H0 X Z H F) {j9 jl b9 bl bn : Nat} {o9 ol o9' on : AObj} (h9 : F[j9]? = some (b9, o9)) (hl : F[jl]? = some (bl, ol)) (hij : j9 ≠ jl) (k : Kp (· ∈ [b9, bl]) H H') (hb : H.length ≤ bn ∨ bn ∈ [b9, bl]) (hne : bn ≠ b9) (h9' : H'[b9]? = some o9') (hn : H'[bn]? = some on) : St H0 X Z H' ((F.set j9 (b9, o9')).set jl (bn, on)) := by
  have m9 : b9 ∈ F.map (·.1) := List.mem_map.2 ⟨_, List.mem_of_getElem? h9, rfl⟩
  have ml : bl ∈ F.map (·.1) := List.mem_map.2 ⟨_, List.mem_of_getElem? hl, rfl⟩
  have hjl := (List.getElem?_eq_some_iff.1 hl).1
  refine h.turn k _ ?_ (fun p hp => ?_) (fun b hb => ?_)
  · have e1 : ((F.set j9 (b9, o9')).set jl (bn, on)).map (·.1) = (F.map (·.1)).set jl bn := by rw [List.map_set, keys_set h9]
    rw [e1]
    refine nodup_of_inj fun i j x hi hj => ?_
    rw [List.getElem?_set] at hi hj
    have nb : ∀ q, q ≠ jl → (F.map (·.1))[q]? ≠ some bn := fun q hq e => by
      rw [List.getElem?_map] at e
      obtain ⟨y, hy, hy2⟩ := Option.map_eq_some_iff.1 e
      rcases hb with hb | hb
      · have := lt_of_some (h.getj (b := y.1) (o := y.2) hy)
        omega
      · rcases List.mem_cons.1 hb with hb | hb
        · exact hne hb
        · have hb : bn = bl := by simpa using hb
          exact h.ne hy hl hq (hy2.trans hb)
    by_cases ei : jl = i
    · by_cases ej : jl = j
      · omega
      · rw [if_pos ei, if_pos (by simpa using hjl)] at hi
        rw [if_neg ej] at hj
        cases hi
        exact absurd hj (nb j (Ne.symm ej))
    · rw [if_neg ei] at hi
      by_cases ej : jl = j
      · rw [if_pos ej, if_pos (by simpa using hjl)] at hj
        cases hj
        exact absurd hi (nb i (Ne.symm ei))
      · rw [if_neg ej] at hj
        exact nodup_inj h.nd hi hj
  · rcases mem_set_cases hp with rfl | ⟨i, hi, hp⟩
    · refine .inr ⟨hn, hb.imp id fun hb => ?_⟩
      rcases List.mem_cons.1 hb with hb | hb
      · exact absurd hb hne
      · have hb : bn = bl := by simpa using hb
        show bn ∈ _
        rw [hb]; exact ml
    · rw [List.getElem?_set] at hp
      by_cases e : j9 = i
      · rw [if_pos e, if_pos (List.getElem?_eq_some_iff.1 h9).1] at hp
        cases hp
        exact .inr ⟨h9', .inr m9⟩
      · rw [if_neg e] at hp
        refine .inl ⟨List.mem_of_getElem? hp, fun hm => ?_⟩
        rcases List.mem_cons.1 hm with hm | hm
        · exact h.ne hp h9 (Ne.symm e) hm
        · have hm : p.1 = bl := by simpa using hm
          exact h.ne hp hl hi hm
  · rcases List.mem_cons.1 hb with rfl | hb
    · exact m9
    · have hb : b = bl := by simpa using hb
      rw [hb]; exact ml
theorem vrel_aggsc {ρ : Ren} {c : List Value} {v' : Value} (hs : ∀ v ∈ c, Scalar v = true) (h : VRel ρ (.agg c.toArray) v') : v' = .agg c.toArray := by
  obtain ⟨vs', rfl, h2, h3⟩ := vrel_agg h
  congr 1
  apply Array.ext
  · exact h2.symm
  · intro i h4 h5
    have h6 : i < c.length := by simpa using h5
    have h7 := h3 i (by simpa using h6)
    rw [Array.getD_eq_getD_getElem?, Array.getD_eq_getD_getElem?, Array.getElem?_eq_getElem h4, Array.getElem?_eq_getElem h5, Option.getD_some, Option.getD_some] at h7
    exact h7.scalar_eq (hs _ (by simp))
theorem q_aggne {P : Program} {T : Nat → Value} {H : AHeap} {dst : Option Tmp} {ty : TypeId} {pos : String} {af : Array Edge} {g : Option (Nat × Bool)} {t u : TypeId} {x y : Operand} {c : List Value} (hs : ∀ v ∈ c, Scalar v = true) (hx : ev T x = .agg c.toArray) (hy : ev T y = .agg c.toArray) (hg : P.eqGuardType P.depth t = false)
    (he : ∀ w, (Op.equalIn Op.maxDepth t (.agg c.toArray) (.agg c.toArray)).run P w = .ok true w) : OpQ P ⟨dst, .binOp .neq t x y u, ty, pos, af, g⟩ T H (.bool false) [] :=
  q_val (by simp) fun ρ e w hh h => by
    have h1 := h x (by simp [Op.operands])
    have h2 := h y (by simp [Op.operands])
    rw [hx] at h1
    rw [hy] at h2
    have e1 := vrel_aggsc hs h1
    have e2 := vrel_aggsc hs h2
    refine ⟨.bool false, ?_, .bool _⟩
    simp [execOp, e1, e2, eqGuard, hg, binOp, Op.equal, he, go_sem]
theorem eq37 (a0 : Int) (a1 : Int) (a2 : Int) (a3 : Int) (a4 : Int) (a5 : Int) (w : World) : (Op.equalIn Op.maxDepth 37 (.agg #[.int .u32 a0, .int .i64 a1, .int .u64 a2, .int .u64 a3, .int .u64 a4, .int .u64 a5]) (.agg #[.int .u32 a0, .int .i64 a1, .int .u64 a2, .int .u64 a3, .int .u64 a4, .int .u64 a5])).run Try.prog w = .ok true w := by
  show (Op.equalIn (9998 + 2) 37 _ _).run _ _ = _
  have hs : Try.prog.stoodInHeld 37 = false := by kernel_rfl
  unfold Op.equalIn
  simp only [Sem.run_bind, run_und Try.underlying37, Result.andThen_ok]
  simp [go_sem, hs, part, asAgg, Try.isAgg3, Try.isAgg23, Try.isAgg35]
  try (unfold Op.equalIn; simp [go_sem, run_und Try.underlying3, run_und Try.underlying23, run_und Try.underlying35])
set_option maxRecDepth 100000 in
set_option maxHeartbeats 4000000 in
theorem headKinds_ok {H0 : AHeap} (vL : Value) (l : List Sg) (hL : SlS segr 6 H0 vL l) (hw : ∀ x ∈ l, SgW x) (kind : Nat) (hkd : kind < 18446744073709551616) (stop : Int) : ACalls Try.prog 5 [vL, .int .u64 ((kind : Nat) : Int), .int .i64 stop] H0 (Rets (.bool true) H0) := by
  have hF : Wd Fence.wide := .inl rfl
  have hM : Try.prog.follows .mixedOrders = true := by kernel_rfl
  have hS := madeB_size l ⟨#[]⟩
  have hln := hrL_len (s := madeB l ⟨#[]⟩)
  have s0 := St.begin H0
  refine acalls_st Try.func5 rfl Try.ntmps5 rfl ?_
  refine awp_seq ?_
  refine awp_regs hF ?_
  refine x_new (fun b => .pointer (some ⟨b, 0, none⟩)) s0 (gyes_none rfl) (q_box (v := .int .i64 stop) (vs := [.int .i64 stop]) 1 rfl (by exact trivial) rfl) rfl (by decide) (cok1 trivial) (fun b1 H2 hb4 s3 => ?_)
  refine dv (gyes_none rfl) (q_as (v := .bool false) rfl) rfl (by decide) (cok1 (cconst rfl)) ?_
  refine ⟨_, Wk.refl _ _, ?_⟩
  show awp _ _ _ _ _ _ _
  refine awp_seq ?_
  refine awp_seq ?_
  refine awp_regs hF ?_
  refine dv (gyes_none rfl) (q_call0 Try.call7 rfl (speaks_ok)) rfl (by decide) (cok1 trivial) ?_
  refine dv (gyes_none rfl) (q_not (b := true) rfl) rfl (by decide) (cok1 trivial) ?_
  refine ⟨_, Wk.refl _ _, ?_⟩
  show awp _ _ _ _ _ _ _
  refine awp_cond_f rfl ?_
  refine awp_skip_wk ?_
  refine ⟨_, Wk.refl _ _, ?_⟩
  show awp _ _ _ _ _ _ _
  refine awp_seq ?_
  refine awp_regs hF ?_
  refine dv (gyes_none rfl) (q_mv (v := vL) rfl) rfl (by decide) (cok1 trivial) ?_
  refine dv (gyes_none rfl) (q_call0 Try.call10 rfl (made_ok vL l (s3.sls hL) hw (⟨#[]⟩ : ByteArray) (by decide))) rfl (by decide) (call_ok rfl) ?_
  refine x_call [] hF (by kernel_rfl) (gyes_none rfl) Try.call8 rfl (args := [.string (madeB l (⟨#[]⟩ : ByteArray))]) rfl (read_ok (madeB l ⟨#[]⟩) (madeB_size l ⟨#[]⟩)) (show _ < _ by decide) (call_ok rfl) rfl rfl (fun _ _ _ _ hd => by cases hd) ?_
  rintro _ H6 ⟨_, rfl, hk7, b5, rfl, hb8, hg9⟩
  have s10 := s3.callN hk7 hb8 hg9
  refine ⟨trivial, ?_⟩
  show dList _ _ _ _ _ _ _ _ _ _
  refine dv (gyes_none rfl) (q_mv (v := .tuple #[.agg #[.string (hrB (madeB l ⟨#[]⟩)), .int .u64 ((hrE (madeB l ⟨#[]⟩) : Nat) : Int), .slice (some ⟨b5, 0, none⟩) ((hrL (madeB l ⟨#[]⟩)).length) ((hrL (madeB l ⟨#[]⟩)).length)], .agg #[.int .i64 ((hrC (madeB l ⟨#[]⟩) : Nat) : Int), .int .u64 ((hrA (madeB l ⟨#[]⟩) : Nat) : Int), .string (⟨#[]⟩ : ByteArray)]]) rfl) rfl (by decide) (cok1 trivial) ?_
  refine dv (gyes_none rfl) (q_extract (v := .agg #[.string (hrB (madeB l ⟨#[]⟩)), .int .u64 ((hrE (madeB l ⟨#[]⟩) : Nat) : Int), .slice (some ⟨b5, 0, none⟩) ((hrL (madeB l ⟨#[]⟩)).length) ((hrL (madeB l ⟨#[]⟩)).length)]) rfl rfl) rfl (by decide) (cok1 trivial) ?_
  refine dv (gyes_none rfl) (q_extract (v := .agg #[.int .i64 ((hrC (madeB l ⟨#[]⟩) : Nat) : Int), .int .u64 ((hrA (madeB l ⟨#[]⟩) : Nat) : Int), .string (⟨#[]⟩ : ByteArray)]) rfl rfl) rfl (by decide) (cok1 trivial) ?_
  refine x_new (fun b => .pointer (some ⟨b, 0, none⟩)) s10 (gyes_none rfl) (q_alloc (vs := [.string ⟨#[]⟩, .int .u64 0, .slice none 0 0]) 3 Try.zeroValue26 (by first | exact flat_scalar rfl | exact flat_agg rfl) rfl) rfl (by decide) (by simp [Op.operands, Call.operands]) (fun b11 H12 hb14 s13 => ?_)
  refine x_new (fun b => .pointer (some ⟨b, 0, none⟩)) s13 (gyes_none rfl) (q_alloc (vs := [.int .i64 0, .int .u64 0, .string ⟨#[]⟩]) 3 Try.zeroValue29 (by first | exact flat_scalar rfl | exact flat_agg rfl) rfl) rfl (by decide) (by simp [Op.operands, Call.operands]) (fun b15 H16 hb18 s17 => ?_)
  refine x_store [] hF s17 (by kernel_rfl) (gyes_none rfl) (j := 1) (v := .agg #[.string (hrB (madeB l ⟨#[]⟩)), .int .u64 ((hrE (madeB l ⟨#[]⟩) : Nat) : Int), .slice (some ⟨b5, 0, none⟩) ((hrL (madeB l ⟨#[]⟩)).length) ((hrL (madeB l ⟨#[]⟩)).length)]) rfl Try.sizeOf26 rfl rfl rfl rfl rfl trivial (lcsA ⟨(lc_scalar rfl), (lc_scalar rfl), (lc_slice (s17.live (j := 2) rfl)), trivial⟩) (Nat.le_of_ble_eq_true rfl) trivial trivial rfl rfl (F' := [(b15, .cells true [.int .i64 0, .int .u64 0, .string ⟨#[]⟩] 3), (b11, .cells true [.string (hrB (madeB l ⟨#[]⟩)), .int .u64 ((hrE (madeB l ⟨#[]⟩) : Nat) : Int), .slice (some ⟨b5, 0, none⟩) ((hrL (madeB l ⟨#[]⟩)).length) ((hrL (madeB l ⟨#[]⟩)).length)] 3), (b5, .cells true (fl segc (hrL (madeB l ⟨#[]⟩))) 6), (b1, .cells true [.int .i64 stop] 1)]) rfl (fun H19 s20 => ⟨?_, ?_⟩)
  · exact trivial
  refine x_store [] hF s20 (by kernel_rfl) (gyes_none rfl) (j := 0) (v := .agg #[.int .i64 ((hrC (madeB l ⟨#[]⟩) : Nat) : Int), .int .u64 ((hrA (madeB l ⟨#[]⟩) : Nat) : Int), .string (⟨#[]⟩ : ByteArray)]) rfl Try.sizeOf29 rfl rfl rfl rfl rfl trivial (lcsA ⟨(lc_scalar rfl), (lc_scalar rfl), (lc_scalar rfl), trivial⟩) (Nat.le_of_ble_eq_true rfl) trivial trivial rfl rfl (F' := [(b15, .cells true [.int .i64 ((hrC (madeB l ⟨#[]⟩) : Nat) : Int), .int .u64 ((hrA (madeB l ⟨#[]⟩) : Nat) : Int), .string (⟨#[]⟩ : ByteArray)] 3), (b11, .cells true [.string (hrB (madeB l ⟨#[]⟩)), .int .u64 ((hrE (madeB l ⟨#[]⟩) : Nat) : Int), .slice (some ⟨b5, 0, none⟩) ((hrL (madeB l ⟨#[]⟩)).length) ((hrL (madeB l ⟨#[]⟩)).length)] 3), (b5, .cells true (fl segc (hrL (madeB l ⟨#[]⟩))) 6), (b1, .cells true [.int .i64 stop] 1)]) rfl (fun H21 s22 => ⟨?_, ?_⟩)
  · exact trivial
  refine ⟨_, Wk.refl _ _, ?_⟩
  show awp _ _ _ _ _ _ _
  refine awp_seq ?_
  refine awp_seq ?_
  refine awp_regs hF ?_
  refine dv (gyes_none rfl) (q_loadAgg Try.isAgg29 Try.sizeOf29 rfl (s22.rd (j := 0) rfl) (Nat.le_of_ble_eq_true rfl) rfl) rfl (by decide) (cok1 trivial) ?_
  refine dvb (gyes_none rfl) (q_call0 Try.call11 rfl (faultOK_ok ((hrC (madeB l ⟨#[]⟩) : Nat) : Int) (hrA (madeB l ⟨#[]⟩)) (⟨#[]⟩ : ByteArray))) rfl (by decide) (cok2 trivial trivial) (fun c1 => ?_) (fun c1 => ?_)
  ·
    replace c1 := eq_of_beq c1
    have h0 : hrC (madeB l ⟨#[]⟩) = 0 := by omega
    refine dv (gyes_none rfl) (q_not (b := true) rfl) rfl (by decide) (cok1 trivial) ?_
    refine ⟨_, Wk.refl _ _, ?_⟩
    show awp _ _ _ _ _ _ _
    refine awp_cond_f rfl ?_
    refine awp_skip_wk ?_
    refine ⟨_, Wk.refl _ _, ?_⟩
    show awp _ _ _ _ _ _ _
    refine awp_seq ?_
    refine awp_regs hF ?_
    refine x_new (fun b => .pointer (some ⟨b, 0, none⟩)) s22 (gyes_none rfl) (q_alloc (vs := [.slice none 0 0]) 1 Try.zeroValue24 (by first | exact flat_scalar rfl | exact flat_agg rfl) rfl) rfl (by decide) (by simp [Op.operands, Call.operands]) (fun b23 H24 hb26 s25 => ?_)
    refine ⟨_, Wk.refl _ _, ?_⟩
    show awp _ _ _ _ _ _ _
    refine awp_seq ?_
    refine awp_nilc s25 (j := 0) (o := 0) (sz' := 6) rfl rfl (fun b27 H28 hb30 s29 => ?_)
    refine awp_regs hF ?_
    refine dv (gyes_none rfl) (q_loadAgg Try.isAgg26 Try.sizeOf26 rfl (s29.rd (j := 3) rfl) (Nat.le_of_ble_eq_true rfl) rfl) rfl (by decide) (cok1 trivial) ?_
    refine dv (gyes_none rfl) (q_mv (v := .int .u64 ((kind : Nat) : Int)) rfl) rfl (by decide) (cok1 trivial) ?_
    refine dv (gyes_none rfl) (OpQ.cast (v' := .int .u32 ((kind % 4294967296 : Nat) : Int)) (q_conv Try.underlying23 Try.underlying35 rfl) (congrArg _ (wrapU32 kind))) rfl (by decide) (cok1 trivial) ?_
    refine x_call [] hF (by kernel_rfl) (gyes_none rfl) Try.call16 rfl (args := [.agg #[.string (hrB (madeB l ⟨#[]⟩)), .int .u64 ((hrE (madeB l ⟨#[]⟩) : Nat) : Int), .slice (some ⟨b5, 0, none⟩) ((hrL (madeB l ⟨#[]⟩)).length) ((hrL (madeB l ⟨#[]⟩)).length)], .int .u32 ((kind % 4294967296 : Nat) : Int)]) rfl (of_ok (hrB (madeB l ⟨#[]⟩)) (hrE (madeB l ⟨#[]⟩)) (kind % 4294967296) (.slice (some ⟨b5, 0, none⟩) ((hrL (madeB l ⟨#[]⟩)).length) ((hrL (madeB l ⟨#[]⟩)).length)) (hrL (madeB l ⟨#[]⟩)) (s29.slsj segc_w (j := 4) rfl (by first | rfl | (simp; done) | omega) (by first | exact Nat.le_refl _ | omega))) (show _ < _ by decide) (call_ok rfl) rfl rfl (fun _ _ _ _ hd => by cases hd) ?_
    rintro _ H33 ⟨b31, b32, rfl, hn34⟩
    have s35 := s29.callL hn34
    refine ⟨trivial, ?_⟩
    show dList _ _ _ _ _ _ _ _ _ _
    refine dv (gyes_none rfl) (q_makeFuncL [.pointer (some ⟨b23, 0, none⟩), .pointer (some ⟨b1, 0, none⟩)] ⟨rfl, rfl, trivial⟩) rfl (by decide) (cok2 trivial trivial) ?_
    refine x_call [] hF (by kernel_rfl) (gyes_none rfl) Try.call29 rfl (args := [.func (.func 17) #[] #[.pointer (some ⟨b23, 0, none⟩), .pointer (some ⟨b1, 0, none⟩)], .pointer (some ⟨b32, 0, none⟩), .pointer (some ⟨b31, 0, none⟩)]) rfl (krun_ok s35 (hrB (madeB l ⟨#[]⟩)) (hrE (madeB l ⟨#[]⟩)) (kind % 4294967296) _ (hrL (madeB l ⟨#[]⟩)) (by omega) stop b23 b27 b1 b32 b31 3 2 rfl rfl (by decide) (nin2 (s35.nej (i := 7) (j := 3) rfl rfl (by decide)) (s35.nej (i := 7) (j := 2) rfl rfl (by decide))) (nin2 (s35.nej (i := 1) (j := 3) rfl rfl (by decide)) (s35.nej (i := 1) (j := 2) rfl rfl (by decide))) (nin2 (s35.nej (i := 0) (j := 3) rfl rfl (by decide)) (s35.nej (i := 0) (j := 2) rfl rfl (by decide))) (s35.rd (j := 7) rfl) (s35.rd (j := 1) rfl) (s35.rd (j := 0) rfl) (slsz_full segc_w ⟨s35.rd (j := 6) rfl, (nin2 (s35.nej (i := 6) (j := 3) rfl rfl (by decide)) (s35.nej (i := 6) (j := 2) rfl rfl (by decide)))⟩ rfl (Nat.le_refl _))) (show _ < _ by decide) (call_ok rfl) rfl rfl (fun _ _ _ _ hd => by cases hd) ?_
    rintro _ H36 ⟨rfl, b37, hk38, ho39, hn40, q, hq, hlen, h41, h42⟩
    have s43 := s35.turn2 (j9 := 3) (jl := 2) rfl rfl (by decide) hk38 ho39 hn40 h41 h42
    refine ⟨trivial, ?_⟩
    show dList _ _ _ _ _ _ _ _ _ _
    refine ⟨_, Wk.refl _ _, ?_⟩
    show awp _ _ _ _ _ _ _
    refine awp_seq ?_
    refine awp_regs hF ?_
    refine dv (gyes_none rfl) (q_as (v := .int .i64 0) rfl) rfl (by decide) (cok1 (cconst rfl)) ?_
    refine ⟨_, Wk.refl _ _, ?_⟩
    show awp _ _ _ _ _ _ _
    refine awp_seq ?_
    refine awp_seq ?_
    refine awp_regs hF ?_
    refine dv (gyes_none rfl) (q_as (v := .int .i64 0) rfl) rfl (by decide) (cok1 (cconst rfl)) ?_
    refine ⟨_, Wk.refl _ _, ?_⟩
    show awp _ _ _ _ _ _ _
    refine awp_block ?_
    refine awp_wk (Wk.U [(1, .int .u64 ((kind : Nat) : Int)), (5, .pointer (some ⟨b1, 0, none⟩)), (7, .pointer (some ⟨b11, 0, none⟩)), (9, .pointer (some ⟨b23, 0, none⟩)), (10, .int .i64 0), (11, .int .i64 0)] ⟨rfl, rfl, rfl, rfl, rfl, rfl, trivial⟩) ?_
    refine awp_loop (fun ((i, n) : Nat × Nat) st => ∃ (H44 : AHeap), st = ⟨85, U [(1, .int .u64 ((kind : Nat) : Int)), (5, .pointer (some ⟨b1, 0, none⟩)), (7, .pointer (some ⟨b11, 0, none⟩)), (9, .pointer (some ⟨b23, 0, none⟩)), (10, .int .i64 ((n : Nat) : Int)), (11, .int .i64 ((i : Nat) : Int))], [], H44⟩ ∧ St H0 (none0) (Rd H0) H44 [(b31, .cells true [.int .u32 ((kind % 4294967296 : Nat) : Int)] 1), (b32, .cells true [.string (hrB (madeB l ⟨#[]⟩)), .int .u64 ((hrE (madeB l ⟨#[]⟩) : Nat) : Int), .slice (some ⟨b5, 0, none⟩) ((hrL (madeB l ⟨#[]⟩)).length) ((hrL (madeB l ⟨#[]⟩)).length)] 3), (b37, .cells true (fl segc (knd (hrL (madeB l ⟨#[]⟩)) (kind % 4294967296) q)) 6), (b23, .cells true [.slice (some ⟨b37, 0, none⟩) ((knd (hrL (madeB l ⟨#[]⟩)) (kind % 4294967296) q).length) ((knd (hrL (madeB l ⟨#[]⟩)) (kind % 4294967296) q).length)] 1), (b15, .cells true [.int .i64 ((hrC (madeB l ⟨#[]⟩) : Nat) : Int), .int .u64 ((hrA (madeB l ⟨#[]⟩) : Nat) : Int), .string (⟨#[]⟩ : ByteArray)] 3), (b11, .cells true [.string (hrB (madeB l ⟨#[]⟩)), .int .u64 ((hrE (madeB l ⟨#[]⟩) : Nat) : Int), .slice (some ⟨b5, 0, none⟩) ((hrL (madeB l ⟨#[]⟩)).length) ((hrL (madeB l ⟨#[]⟩)).length)] 3), (b5, .cells true (fl segc (hrL (madeB l ⟨#[]⟩))) 6), (b1, .cells true [.int .i64 stop] 1)] ∧ (n = told (knd (hrL (madeB l ⟨#[]⟩)) (kind % 4294967296) i).length stop ∧ i ≤ (hrL (madeB l ⟨#[]⟩)).length)) (fun ((i, n) : Nat × Nat) => (hrL (madeB l ⟨#[]⟩)).length - i) (x0 := (0, 0)) ?h0 ?round
    case h0 =>
      exact ⟨_, rfl, s43, ⟨by show 0 = told 0 stop; unfold told; split <;> omega, Nat.zero_le _⟩⟩
    case round =>
      rintro ⟨i, n⟩ _ ⟨H44, rfl, s45, hn⟩
      dsimp only at *
      refine awp_seq ?_
      refine awp_seq ?_
      refine awp_regs hF ?_
      refine dv (gyes_none rfl) (q_mv (v := .int .i64 ((i : Nat) : Int)) rfl) rfl (by decide) (cok1 trivial) ?_
      refine dv (gyes_none rfl) (q_field Try.underlying26 rfl Try.sizeOf24 rfl (s45.rd (j := 5) rfl)) rfl (by decide) (cok1 trivial) ?_
      refine dv (gyes_none rfl) (q_load (v := .slice (some ⟨b5, 0, none⟩) ((hrL (madeB l ⟨#[]⟩)).length) ((hrL (madeB l ⟨#[]⟩)).length)) Try.isAgg24 rfl (s45.rd (j := 5) rfl) rfl) rfl (by decide) (cok1 trivial) ?_
      refine dv (gyes_none rfl) (q_len_slice Try.underlying24 rfl (s45.rd (j := 6) rfl)) rfl (by decide) (cok1 trivial) ?_
      refine dvb (gyes_none rfl) (q_int rfl rfl rfl) rfl (by decide) (cok2 trivial trivial) (fun c2 => ?_) (fun c2 => ?_)
      ·
        replace c2 := of_decide_eq_true c2
        refine ⟨_, Wk.refl _ _, ?_⟩
        show awp _ _ _ _ _ _ _
        refine awp_cond_t rfl ?_
        refine awp_skip_wk ?_
        refine ⟨_, Wk.refl _ _, ?_⟩
        show awp _ _ _ _ _ _ _
        refine awp_seq ?_
        refine awp_block ?_
        refine awp_seq ?_
        refine awp_seq ?_
        refine awp_regs hF ?_
        refine dv (gyes_none rfl) (q_field Try.underlying26 rfl Try.sizeOf24 rfl (s45.rd (j := 5) rfl)) rfl (by decide) (cok1 trivial) ?_
        refine dv (gyes_none rfl) (q_load (v := .slice (some ⟨b5, 0, none⟩) ((hrL (madeB l ⟨#[]⟩)).length) ((hrL (madeB l ⟨#[]⟩)).length)) Try.isAgg24 rfl (s45.rd (j := 5) rfl) rfl) rfl (by decide) (cok1 trivial) ?_
        refine dv (gyes_none rfl) (q_mv (v := .int .i64 ((i : Nat) : Int)) rfl) rfl (by decide) (cok1 trivial) ?_
        refine dv (gyes_none rfl) (OpQ.cast (v' := .pointer (some ⟨b5, i * 6, none⟩)) (q_index (u := 0) (i := i) Try.underlying24 Try.sizeOf37 rfl rfl (by omega) (s45.rd (j := 6) rfl)) (by rw [Nat.zero_add])) rfl (by decide) (cok2 trivial trivial) ?_
        refine dv (gyes_none rfl) (q_field Try.underlying37 rfl Try.sizeOf35 rfl (s45.rd (j := 6) rfl)) rfl (by decide) (cok1 trivial) ?_
        refine dv (gyes_none rfl) (q_load (v := .int .u32 (((nth (hrL (madeB l ⟨#[]⟩)) i).1 : Nat) : Int)) Try.isAgg35 rfl (s45.rd (j := 6) rfl) ((fl_get0 segc_w (by omega) (by decide)).trans rfl)) rfl (by decide) (cok1 trivial) ?_
        refine dv (gyes_none rfl) (q_mv (v := .int .u64 ((kind : Nat) : Int)) rfl) rfl (by decide) (cok1 trivial) ?_
        refine dv (gyes_none rfl) (OpQ.cast (v' := .int .u32 ((kind % 4294967296 : Nat) : Int)) (q_conv Try.underlying23 Try.underlying35 rfl) (congrArg _ (wrapU32 kind))) rfl (by decide) (cok1 trivial) ?_
        refine dvb (gyes_none rfl) (q_int rfl rfl rfl) rfl (by decide) (cok2 trivial trivial) (fun c3 => ?_) (fun c3 => ?_)
        ·
          replace c3 := bne_iff_ne.1 c3
          refine dv (gyes_none rfl) (q_mv (v := .bool true) rfl) rfl (by decide) (cok1 trivial) ?_
          refine dno rfl (.inl rfl) rfl (by decide) ?_
          refine dno rfl (.inl rfl) rfl (by decide) ?_
          refine dno rfl (.inl rfl) rfl (by decide) ?_
          refine dno rfl (.inr rfl) rfl (by decide) ?_
          refine dno rfl (.inr rfl) rfl (by decide) ?_
          refine dno rfl (.inr rfl) rfl (by decide) ?_
          refine dno rfl (.inl rfl) rfl (by decide) ?_
          refine dv (gyes_none rfl) (q_pt (v := .bool true) rfl rfl) rfl (by decide) (call_ok rfl) ?_
          refine ⟨_, Wk.refl _ _, ?_⟩
          show awp _ _ _ _ _ _ _
          refine awp_cond_t rfl ?_
          refine awp_exit_wk ?_
          refine ⟨_, Wk.refl _ _, ?_⟩
          show awp _ _ _ _ _ _ _
          refine awp_regs hF ?_
          refine dv (gyes_none rfl) (q_mv (v := .int .i64 ((i : Nat) : Int)) rfl) rfl (by decide) (cok1 trivial) ?_
          refine dv (gyes_none rfl) (OpQ.cast (v' := .int .i64 ((i + 1 : Nat) : Int)) (q_int rfl rfl rfl) (congrArg _ ((i64_in (by omega)).trans (by first | rfl | omega | (push_cast; rfl))))) rfl (by decide) (cok2 trivial (cconst rfl)) ?_
          refine dv (gyes_none rfl) (q_as (v := .int .i64 ((i + 1 : Nat) : Int)) rfl) rfl (by decide) (cok1 trivial) ?_
          refine ⟨_, Wk.U [(1, .int .u64 ((kind : Nat) : Int)), (5, .pointer (some ⟨b1, 0, none⟩)), (7, .pointer (some ⟨b11, 0, none⟩)), (9, .pointer (some ⟨b23, 0, none⟩)), (10, .int .i64 ((n : Nat) : Int)), (11, .int .i64 (((i + 1) : Nat) : Int))] ⟨rfl, rfl, rfl, rfl, rfl, rfl, trivial⟩, ((i + 1), n), ⟨_, rfl, s45, ⟨by rw [knd_n (by omega) (by omega)]; exact hn.1, by dsimp only; omega⟩⟩, (by omega)⟩
        ·
          replace c3 := bne_eq_false_iff_eq.1 c3
          have hke : (nth (hrL (madeB l ⟨#[]⟩)) i).1 = (kind % 4294967296) := by omega
          have hk1 : (knd (hrL (madeB l ⟨#[]⟩)) (kind % 4294967296) (i + 1)).length = (knd (hrL (madeB l ⟨#[]⟩)) (kind % 4294967296) i).length + 1 := by rw [knd_y (by omega) hke, List.length_append]; rfl
          refine dv (gyes_none rfl) (q_mv (v := .bool false) rfl) rfl (by decide) (cok1 trivial) ?_
          refine dv (gyes_some rfl rfl) (q_load (v := .int .i64 stop) Try.isAgg3 rfl (s45.rd (j := 7) rfl) rfl) rfl (by decide) (cok1 trivial) ?_
          refine dvb (gyes_some rfl rfl) (q_int rfl rfl rfl) rfl (by decide) (cok2 trivial (cconst rfl)) (fun c4 => ?_) (fun c4 => ?_)
          ·
            replace c4 := of_decide_eq_true c4
            refine dv (gyes_some rfl rfl) (q_mv (v := .bool true) rfl) rfl (by decide) (cok1 trivial) ?_
            refine dv (gyes_some rfl rfl) (q_mv (v := .int .i64 ((n : Nat) : Int)) rfl) rfl (by decide) (cok1 trivial) ?_
            refine dv (gyes_some rfl rfl) (q_load (v := .int .i64 stop) Try.isAgg3 rfl (s45.rd (j := 7) rfl) rfl) rfl (by decide) (cok1 trivial) ?_
            refine dvb (gyes_some rfl rfl) (q_int rfl rfl rfl) rfl (by decide) (cok2 trivial trivial) (fun c5 => ?_) (fun c5 => ?_)
            ·
              replace c5 := eq_of_beq c5
              refine dv (gyes_some rfl rfl) (q_pt (v := .bool true) rfl rfl) rfl (by decide) (call_ok rfl) ?_
              refine dv (gyes_none rfl) (q_pf (v := .bool true) rfl rfl) rfl (by decide) (call_ok rfl) ?_
              refine ⟨_, Wk.refl _ _, ?_⟩
              show awp _ _ _ _ _ _ _
              refine awp_cond_t rfl ?_
              refine awp_exit_wk ?_
              refine ⟨_, Wk.refl _ _, ?_⟩
              show awp _ _ _ _ _ _ _
              refine awp_regs hF ?_
              refine dv (gyes_none rfl) (q_mv (v := .int .i64 ((i : Nat) : Int)) rfl) rfl (by decide) (cok1 trivial) ?_
              refine dv (gyes_none rfl) (OpQ.cast (v' := .int .i64 ((i + 1 : Nat) : Int)) (q_int rfl rfl rfl) (congrArg _ ((i64_in (by omega)).trans (by first | rfl | omega | (push_cast; rfl))))) rfl (by decide) (cok2 trivial (cconst rfl)) ?_
              refine dv (gyes_none rfl) (q_as (v := .int .i64 ((i + 1 : Nat) : Int)) rfl) rfl (by decide) (cok1 trivial) ?_
              refine ⟨_, Wk.U [(1, .int .u64 ((kind : Nat) : Int)), (5, .pointer (some ⟨b1, 0, none⟩)), (7, .pointer (some ⟨b11, 0, none⟩)), (9, .pointer (some ⟨b23, 0, none⟩)), (10, .int .i64 ((n : Nat) : Int)), (11, .int .i64 (((i + 1) : Nat) : Int))] ⟨rfl, rfl, rfl, rfl, rfl, rfl, trivial⟩, ((i + 1), n), ⟨_, rfl, s45, ⟨by rw [hk1]; dsimp only; have hn1 := hn.1; unfold told at *; split <;> split at hn1 <;> omega, by dsimp only; omega⟩⟩, (by omega)⟩
            ·
              replace c5 := ne_of_beq_false c5
              refine dv (gyes_some rfl rfl) (q_pt (v := .bool false) rfl rfl) rfl (by decide) (call_ok rfl) ?_
              refine dv (gyes_none rfl) (q_pf (v := .bool false) rfl rfl) rfl (by decide) (call_ok rfl) ?_
              refine ⟨_, Wk.refl _ _, ?_⟩
              show awp _ _ _ _ _ _ _
              refine awp_cond_f rfl ?_
              refine awp_skip_wk ?_
              refine ⟨_, Wk.refl _ _, ?_⟩
              show awp _ _ _ _ _ _ _
              refine awp_seq ?_
              refine awp_seq ?_
              have hcl := knd_le (l := (hrL (madeB l ⟨#[]⟩))) (k := (kind % 4294967296)) i
              have hn1 := hn.1
              obtain ⟨hkn1, hkn2⟩ := knd_nth (l := (hrL (madeB l ⟨#[]⟩))) (k := (kind % 4294967296)) (i := i) (by omega) hke
              have hnc : n = (knd (hrL (madeB l ⟨#[]⟩)) (kind % 4294967296) i).length := by unfold told at hn1; split at hn1 <;> omega
              have hng : n < (knd (hrL (madeB l ⟨#[]⟩)) (kind % 4294967296) q).length := by rw [hlen]; unfold told at *; split <;> split at hn1 <;> omega
              have hgn : nth (knd (hrL (madeB l ⟨#[]⟩)) (kind % 4294967296) q) n = nth (hrL (madeB l ⟨#[]⟩)) i := by
                rw [← hkn2, hnc]
                exact (knd_pn hq (by omega)).symm
              refine awp_regt hF hM (by kernel_rfl) (by kernel_rfl) ?_
              refine dv (gyes_none rfl) (q_mv (v := .int .i64 ((n : Nat) : Int)) rfl) rfl (by decide) (cok1 trivial) ?_
              refine dv (gyes_none rfl) (q_load (v := .slice (some ⟨b37, 0, none⟩) ((knd (hrL (madeB l ⟨#[]⟩)) (kind % 4294967296) q).length) ((knd (hrL (madeB l ⟨#[]⟩)) (kind % 4294967296) q).length)) Try.isAgg24 rfl (s45.rd (j := 3) rfl) rfl) rfl (by decide) (cok1 trivial) ?_
              refine dv (gyes_none rfl) (q_len_slice Try.underlying24 rfl (s45.rd (j := 2) rfl)) rfl (by decide) (cok1 trivial) ?_
              refine dv (gyes_none rfl) (OpQ.cast (v' := .bool false) (q_int rfl rfl rfl) (congrArg Value.bool (decide_eq_false (by omega)))) rfl (by decide) (cok2 trivial trivial) ?_
              refine dv (gyes_none rfl) (q_mv (v := .bool false) rfl) rfl (by decide) (cok1 trivial) ?_
              refine dv (gyes_some rfl rfl) (q_load (v := .slice (some ⟨b37, 0, none⟩) ((knd (hrL (madeB l ⟨#[]⟩)) (kind % 4294967296) q).length) ((knd (hrL (madeB l ⟨#[]⟩)) (kind % 4294967296) q).length)) Try.isAgg24 rfl (s45.rd (j := 3) rfl) rfl) rfl (by decide) (cok1 trivial) ?_
              refine dv (gyes_some rfl rfl) (q_mv (v := .int .i64 ((n : Nat) : Int)) rfl) rfl (by decide) (cok1 trivial) ?_
              refine dv (gyes_some rfl rfl) (OpQ.cast (v' := .pointer (some ⟨b37, n * 6, none⟩)) (q_index (u := 0) (i := n) Try.underlying24 Try.sizeOf37 rfl rfl hng (s45.rd (j := 2) rfl)) (by rw [Nat.zero_add])) rfl (by decide) (cok2 trivial trivial) ?_
              refine dv (gyes_some rfl rfl) (OpQ.cast (v' := .agg #[.int .u32 (((nth (hrL (madeB l ⟨#[]⟩)) i).1 : Nat) : Int), .int .i64 (((nth (hrL (madeB l ⟨#[]⟩)) i).2.1 : Nat) : Int), .int .u64 (((nth (hrL (madeB l ⟨#[]⟩)) i).2.2.1 : Nat) : Int), .int .u64 (((nth (hrL (madeB l ⟨#[]⟩)) i).2.2.2.1 : Nat) : Int), .int .u64 (((nth (hrL (madeB l ⟨#[]⟩)) i).2.2.2.2.1 : Nat) : Int), .int .u64 (((nth (hrL (madeB l ⟨#[]⟩)) i).2.2.2.2.2 : Nat) : Int)]) (q_loadAgg (us := segc (nth (knd (hrL (madeB l ⟨#[]⟩)) (kind % 4294967296) q) n)) Try.isAgg37 Try.sizeOf37 rfl (s45.rd (j := 2) rfl) (fl_room segc_w hng) (fl_at segc_w hng)) (by rw [hgn]; rfl)) rfl (by decide) (cok1 trivial) ?_
              refine dv (gyes_some rfl rfl) (q_field Try.underlying26 rfl Try.sizeOf24 rfl (s45.rd (j := 5) rfl)) rfl (by decide) (cok1 trivial) ?_
              refine dv (gyes_some rfl rfl) (q_load (v := .slice (some ⟨b5, 0, none⟩) ((hrL (madeB l ⟨#[]⟩)).length) ((hrL (madeB l ⟨#[]⟩)).length)) Try.isAgg24 rfl (s45.rd (j := 5) rfl) rfl) rfl (by decide) (cok1 trivial) ?_
              refine dv (gyes_some rfl rfl) (q_mv (v := .int .i64 ((i : Nat) : Int)) rfl) rfl (by decide) (cok1 trivial) ?_
              refine dv (gyes_some rfl rfl) (OpQ.cast (v' := .pointer (some ⟨b5, i * 6, none⟩)) (q_index (u := 0) (i := i) Try.underlying24 Try.sizeOf37 rfl rfl (by omega) (s45.rd (j := 6) rfl)) (by rw [Nat.zero_add])) rfl (by decide) (cok2 trivial trivial) ?_
              refine dv (gyes_some rfl rfl) (q_loadAgg (us := segc (nth (hrL (madeB l ⟨#[]⟩)) i)) Try.isAgg37 Try.sizeOf37 rfl (s45.rd (j := 6) rfl) (fl_room segc_w (by omega)) (fl_at segc_w (by omega))) rfl (by decide) (cok1 trivial) ?_
              refine dv (gyes_some rfl rfl) (q_aggne (c := [.int .u32 (((nth (hrL (madeB l ⟨#[]⟩)) i).1 : Nat) : Int), .int .i64 (((nth (hrL (madeB l ⟨#[]⟩)) i).2.1 : Nat) : Int), .int .u64 (((nth (hrL (madeB l ⟨#[]⟩)) i).2.2.1 : Nat) : Int), .int .u64 (((nth (hrL (madeB l ⟨#[]⟩)) i).2.2.2.1 : Nat) : Int), .int .u64 (((nth (hrL (madeB l ⟨#[]⟩)) i).2.2.2.2.1 : Nat) : Int), .int .u64 (((nth (hrL (madeB l ⟨#[]⟩)) i).2.2.2.2.2 : Nat) : Int)]) (fun v hv => by simp at hv; rcases hv with rfl | rfl | rfl | rfl | rfl | rfl <;> rfl) rfl rfl (by kernel_rfl) (fun w => eq37 _ _ _ _ _ _ w)) rfl (by decide) (cok2 trivial trivial) ?_
              refine dv (gyes_none rfl) (q_pf (v := .bool false) rfl rfl) rfl (by decide) (call_ok rfl) ?_
              refine ⟨_, Wk.refl _ _, ?_⟩
              show awp _ _ _ _ _ _ _
              refine awp_cond_f rfl ?_
              refine awp_skip_wk ?_
              refine ⟨_, Wk.refl _ _, ?_⟩
              show awp _ _ _ _ _ _ _
              refine awp_regs hF ?_
              refine dv (gyes_none rfl) (q_mv (v := .int .i64 ((n : Nat) : Int)) rfl) rfl (by decide) (cok1 trivial) ?_
              refine dv (gyes_none rfl) (OpQ.cast (v' := .int .i64 ((n + 1 : Nat) : Int)) (q_int rfl rfl rfl) (congrArg _ ((i64_in (by omega)).trans (by first | rfl | omega | (push_cast; rfl))))) rfl (by decide) (cok2 trivial (cconst rfl)) ?_
              refine dv (gyes_none rfl) (q_as (v := .int .i64 ((n + 1 : Nat) : Int)) rfl) rfl (by decide) (cok1 trivial) ?_
              refine ⟨_, Wk.refl _ _, ?_⟩
              show awp _ _ _ _ _ _ _
              refine awp_regs hF ?_
              refine dv (gyes_none rfl) (q_mv (v := .int .i64 ((i : Nat) : Int)) rfl) rfl (by decide) (cok1 trivial) ?_
              refine dv (gyes_none rfl) (OpQ.cast (v' := .int .i64 ((i + 1 : Nat) : Int)) (q_int rfl rfl rfl) (congrArg _ ((i64_in (by omega)).trans (by first | rfl | omega | (push_cast; rfl))))) rfl (by decide) (cok2 trivial (cconst rfl)) ?_
              refine dv (gyes_none rfl) (q_as (v := .int .i64 ((i + 1 : Nat) : Int)) rfl) rfl (by decide) (cok1 trivial) ?_
              refine ⟨_, Wk.U [(1, .int .u64 ((kind : Nat) : Int)), (5, .pointer (some ⟨b1, 0, none⟩)), (7, .pointer (some ⟨b11, 0, none⟩)), (9, .pointer (some ⟨b23, 0, none⟩)), (10, .int .i64 (((n + 1) : Nat) : Int)), (11, .int .i64 (((i + 1) : Nat) : Int))] ⟨rfl, rfl, rfl, rfl, rfl, rfl, trivial⟩, ((i + 1), (n + 1)), ⟨_, rfl, s45, ⟨by rw [hk1]; dsimp only; unfold told at *; split <;> split at hn1 <;> omega, by dsimp only; omega⟩⟩, (by omega)⟩
          ·
            replace c4 := of_decide_eq_false c4
            refine dv (gyes_some rfl rfl) (q_mv (v := .bool false) rfl) rfl (by decide) (cok1 trivial) ?_
            refine dno rfl (.inl rfl) rfl (by decide) ?_
            refine dno rfl (.inl rfl) rfl (by decide) ?_
            refine dno rfl (.inl rfl) rfl (by decide) ?_
            refine dv (gyes_some rfl rfl) (q_pf (v := .bool false) rfl rfl) rfl (by decide) (call_ok rfl) ?_
            refine dv (gyes_none rfl) (q_pf (v := .bool false) rfl rfl) rfl (by decide) (call_ok rfl) ?_
            refine ⟨_, Wk.refl _ _, ?_⟩
            show awp _ _ _ _ _ _ _
            refine awp_cond_f rfl ?_
            refine awp_skip_wk ?_
            refine ⟨_, Wk.refl _ _, ?_⟩
            show awp _ _ _ _ _ _ _
            refine awp_seq ?_
            refine awp_seq ?_
            have hcl := knd_le (l := (hrL (madeB l ⟨#[]⟩))) (k := (kind % 4294967296)) i
            have hn1 := hn.1
            obtain ⟨hkn1, hkn2⟩ := knd_nth (l := (hrL (madeB l ⟨#[]⟩))) (k := (kind % 4294967296)) (i := i) (by omega) hke
            have hnc : n = (knd (hrL (madeB l ⟨#[]⟩)) (kind % 4294967296) i).length := by unfold told at hn1; split at hn1 <;> omega
            have hng : n < (knd (hrL (madeB l ⟨#[]⟩)) (kind % 4294967296) q).length := by rw [hlen]; unfold told at *; split <;> split at hn1 <;> omega
            have hgn : nth (knd (hrL (madeB l ⟨#[]⟩)) (kind % 4294967296) q) n = nth (hrL (madeB l ⟨#[]⟩)) i := by
              rw [← hkn2, hnc]
              exact (knd_pn hq (by omega)).symm
            refine awp_regt hF hM (by kernel_rfl) (by kernel_rfl) ?_
            refine dv (gyes_none rfl) (q_mv (v := .int .i64 ((n : Nat) : Int)) rfl) rfl (by decide) (cok1 trivial) ?_
            refine dv (gyes_none rfl) (q_load (v := .slice (some ⟨b37, 0, none⟩) ((knd (hrL (madeB l ⟨#[]⟩)) (kind % 4294967296) q).length) ((knd (hrL (madeB l ⟨#[]⟩)) (kind % 4294967296) q).length)) Try.isAgg24 rfl (s45.rd (j := 3) rfl) rfl) rfl (by decide) (cok1 trivial) ?_
            refine dv (gyes_none rfl) (q_len_slice Try.underlying24 rfl (s45.rd (j := 2) rfl)) rfl (by decide) (cok1 trivial) ?_
            refine dv (gyes_none rfl) (OpQ.cast (v' := .bool false) (q_int rfl rfl rfl) (congrArg Value.bool (decide_eq_false (by omega)))) rfl (by decide) (cok2 trivial trivial) ?_
            refine dv (gyes_none rfl) (q_mv (v := .bool false) rfl) rfl (by decide) (cok1 trivial) ?_
            refine dv (gyes_some rfl rfl) (q_load (v := .slice (some ⟨b37, 0, none⟩) ((knd (hrL (madeB l ⟨#[]⟩)) (kind % 4294967296) q).length) ((knd (hrL (madeB l ⟨#[]⟩)) (kind % 4294967296) q).length)) Try.isAgg24 rfl (s45.rd (j := 3) rfl) rfl) rfl (by decide) (cok1 trivial) ?_
            refine dv (gyes_some rfl rfl) (q_mv (v := .int .i64 ((n : Nat) : Int)) rfl) rfl (by decide) (cok1 trivial) ?_
            refine dv (gyes_some rfl rfl) (OpQ.cast (v' := .pointer (some ⟨b37, n * 6, none⟩)) (q_index (u := 0) (i := n) Try.underlying24 Try.sizeOf37 rfl rfl hng (s45.rd (j := 2) rfl)) (by rw [Nat.zero_add])) rfl (by decide) (cok2 trivial trivial) ?_
            refine dv (gyes_some rfl rfl) (OpQ.cast (v' := .agg #[.int .u32 (((nth (hrL (madeB l ⟨#[]⟩)) i).1 : Nat) : Int), .int .i64 (((nth (hrL (madeB l ⟨#[]⟩)) i).2.1 : Nat) : Int), .int .u64 (((nth (hrL (madeB l ⟨#[]⟩)) i).2.2.1 : Nat) : Int), .int .u64 (((nth (hrL (madeB l ⟨#[]⟩)) i).2.2.2.1 : Nat) : Int), .int .u64 (((nth (hrL (madeB l ⟨#[]⟩)) i).2.2.2.2.1 : Nat) : Int), .int .u64 (((nth (hrL (madeB l ⟨#[]⟩)) i).2.2.2.2.2 : Nat) : Int)]) (q_loadAgg (us := segc (nth (knd (hrL (madeB l ⟨#[]⟩)) (kind % 4294967296) q) n)) Try.isAgg37 Try.sizeOf37 rfl (s45.rd (j := 2) rfl) (fl_room segc_w hng) (fl_at segc_w hng)) (by rw [hgn]; rfl)) rfl (by decide) (cok1 trivial) ?_
            refine dv (gyes_some rfl rfl) (q_field Try.underlying26 rfl Try.sizeOf24 rfl (s45.rd (j := 5) rfl)) rfl (by decide) (cok1 trivial) ?_
            refine dv (gyes_some rfl rfl) (q_load (v := .slice (some ⟨b5, 0, none⟩) ((hrL (madeB l ⟨#[]⟩)).length) ((hrL (madeB l ⟨#[]⟩)).length)) Try.isAgg24 rfl (s45.rd (j := 5) rfl) rfl) rfl (by decide) (cok1 trivial) ?_
            refine dv (gyes_some rfl rfl) (q_mv (v := .int .i64 ((i : Nat) : Int)) rfl) rfl (by decide) (cok1 trivial) ?_
            refine dv (gyes_some rfl rfl) (OpQ.cast (v' := .pointer (some ⟨b5, i * 6, none⟩)) (q_index (u := 0) (i := i) Try.underlying24 Try.sizeOf37 rfl rfl (by omega) (s45.rd (j := 6) rfl)) (by rw [Nat.zero_add])) rfl (by decide) (cok2 trivial trivial) ?_
            refine dv (gyes_some rfl rfl) (q_loadAgg (us := segc (nth (hrL (madeB l ⟨#[]⟩)) i)) Try.isAgg37 Try.sizeOf37 rfl (s45.rd (j := 6) rfl) (fl_room segc_w (by omega)) (fl_at segc_w (by omega))) rfl (by decide) (cok1 trivial) ?_
            refine dv (gyes_some rfl rfl) (q_aggne (c := [.int .u32 (((nth (hrL (madeB l ⟨#[]⟩)) i).1 : Nat) : Int), .int .i64 (((nth (hrL (madeB l ⟨#[]⟩)) i).2.1 : Nat) : Int), .int .u64 (((nth (hrL (madeB l ⟨#[]⟩)) i).2.2.1 : Nat) : Int), .int .u64 (((nth (hrL (madeB l ⟨#[]⟩)) i).2.2.2.1 : Nat) : Int), .int .u64 (((nth (hrL (madeB l ⟨#[]⟩)) i).2.2.2.2.1 : Nat) : Int), .int .u64 (((nth (hrL (madeB l ⟨#[]⟩)) i).2.2.2.2.2 : Nat) : Int)]) (fun v hv => by simp at hv; rcases hv with rfl | rfl | rfl | rfl | rfl | rfl <;> rfl) rfl rfl (by kernel_rfl) (fun w => eq37 _ _ _ _ _ _ w)) rfl (by decide) (cok2 trivial trivial) ?_
            refine dv (gyes_none rfl) (q_pf (v := .bool false) rfl rfl) rfl (by decide) (call_ok rfl) ?_
            refine ⟨_, Wk.refl _ _, ?_⟩
            show awp _ _ _ _ _ _ _
            refine awp_cond_f rfl ?_
            refine awp_skip_wk ?_
            refine ⟨_, Wk.refl _ _, ?_⟩
            show awp _ _ _ _ _ _ _
            refine awp_regs hF ?_
            refine dv (gyes_none rfl) (q_mv (v := .int .i64 ((n : Nat) : Int)) rfl) rfl (by decide) (cok1 trivial) ?_
            refine dv (gyes_none rfl) (OpQ.cast (v' := .int .i64 ((n + 1 : Nat) : Int)) (q_int rfl rfl rfl) (congrArg _ ((i64_in (by omega)).trans (by first | rfl | omega | (push_cast; rfl))))) rfl (by decide) (cok2 trivial (cconst rfl)) ?_
            refine dv (gyes_none rfl) (q_as (v := .int .i64 ((n + 1 : Nat) : Int)) rfl) rfl (by decide) (cok1 trivial) ?_
            refine ⟨_, Wk.refl _ _, ?_⟩
            show awp _ _ _ _ _ _ _
            refine awp_regs hF ?_
            refine dv (gyes_none rfl) (q_mv (v := .int .i64 ((i : Nat) : Int)) rfl) rfl (by decide) (cok1 trivial) ?_
            refine dv (gyes_none rfl) (OpQ.cast (v' := .int .i64 ((i + 1 : Nat) : Int)) (q_int rfl rfl rfl) (congrArg _ ((i64_in (by omega)).trans (by first | rfl | omega | (push_cast; rfl))))) rfl (by decide) (cok2 trivial (cconst rfl)) ?_
            refine dv (gyes_none rfl) (q_as (v := .int .i64 ((i + 1 : Nat) : Int)) rfl) rfl (by decide) (cok1 trivial) ?_
            refine ⟨_, Wk.U [(1, .int .u64 ((kind : Nat) : Int)), (5, .pointer (some ⟨b1, 0, none⟩)), (7, .pointer (some ⟨b11, 0, none⟩)), (9, .pointer (some ⟨b23, 0, none⟩)), (10, .int .i64 (((n + 1) : Nat) : Int)), (11, .int .i64 (((i + 1) : Nat) : Int))] ⟨rfl, rfl, rfl, rfl, rfl, rfl, trivial⟩, ((i + 1), (n + 1)), ⟨_, rfl, s45, ⟨by rw [hk1]; dsimp only; unfold told at *; split <;> split at hn1 <;> omega, by dsimp only; omega⟩⟩, (by omega)⟩
      ·
        replace c2 := of_decide_eq_false c2
        refine ⟨_, Wk.refl _ _, ?_⟩
        show awp _ _ _ _ _ _ _
        refine awp_cond_f rfl ?_
        refine awp_exit_wk ?_
        refine ⟨_, Wk.refl _ _, ?_⟩
        show awp _ _ _ _ _ _ _
        refine awp_seq ?_
        refine awp_regs hF ?_
        refine dv (gyes_none rfl) (q_mv (v := .int .i64 ((n : Nat) : Int)) rfl) rfl (by decide) (cok1 trivial) ?_
        refine dv (gyes_none rfl) (q_load (v := .slice (some ⟨b37, 0, none⟩) ((knd (hrL (madeB l ⟨#[]⟩)) (kind % 4294967296) q).length) ((knd (hrL (madeB l ⟨#[]⟩)) (kind % 4294967296) q).length)) Try.isAgg24 rfl (s45.rd (j := 3) rfl) rfl) rfl (by decide) (cok1 trivial) ?_
        refine dv (gyes_none rfl) (q_len_slice Try.underlying24 rfl (s45.rd (j := 2) rfl)) rfl (by decide) (cok1 trivial) ?_
        refine dv (gyes_none rfl) (OpQ.cast (v' := .bool true) (q_int rfl rfl rfl) (congrArg Value.bool (beq_iff_eq.2 (by rw [hlen, hn.1, show i = (hrL (madeB l ⟨#[]⟩)).length by omega])))) rfl (by decide) (cok2 trivial trivial) ?_
        refine dv (gyes_none rfl) (q_as (v := .bool true) rfl) rfl (by decide) (cok1 trivial) ?_
        refine ⟨_, Wk.refl _ _, ?_⟩
        show awp _ _ _ _ _ _ _
        refine awp_ret_wk ?_
        refine ⟨_, Wk.refl _ _, ?_⟩
        repeat (with_reducible first | refine then_ret ?_ | refine blk_ret ?_ | refine then_exit ?_ | refine blk_exit ?_ | refine blk_exit' (by decide) ?_ | refine blk_normal ?_ | refine then_normal ?_ | refine retq_ret ?_ | refine retq_normal ?_ | refine ng_normal ?_ | refine ng_ret ?_ | refine ng_exit ?_)
        exact ret_none (v := .bool true) rfl s45.kp (.tmp rfl .nil) rfl rfl ⟨rfl, rfl⟩
  ·
    replace c1 := ne_of_beq_false c1
    have h0 : hrC (madeB l ⟨#[]⟩) ≠ 0 := by omega
    have hLz := (hr_zero h0).2.2
    refine dv (gyes_none rfl) (q_not (b := false) rfl) rfl (by decide) (cok1 trivial) ?_
    refine ⟨_, Wk.refl _ _, ?_⟩
    show awp _ _ _ _ _ _ _
    refine awp_cond_t rfl ?_
    refine awp_seq ?_
    refine awp_regs hF ?_
    refine dv (gyes_none rfl) (q_field Try.underlying26 rfl Try.sizeOf24 rfl (s22.rd (j := 1) rfl)) rfl (by decide) (cok1 trivial) ?_
    refine dv (gyes_none rfl) (q_load (v := .slice (some ⟨b5, 0, none⟩) ((hrL (madeB l ⟨#[]⟩)).length) ((hrL (madeB l ⟨#[]⟩)).length)) Try.isAgg24 rfl (s22.rd (j := 1) rfl) rfl) rfl (by decide) (cok1 trivial) ?_
    refine dv (gyes_none rfl) (q_len_slice Try.underlying24 rfl (s22.rd (j := 2) rfl)) rfl (by decide) (cok1 trivial) ?_
    refine dv (gyes_none rfl) (OpQ.cast (v' := .bool true) (q_int rfl rfl rfl) (congrArg Value.bool (by rw [hLz]; rfl))) rfl (by decide) (cok2 trivial (cconst rfl)) ?_
    refine dv (gyes_none rfl) (q_mv (v := .bool true) rfl) rfl (by decide) (cok1 trivial) ?_
    refine dv (gyes_some rfl rfl) (q_loadAgg Try.isAgg26 Try.sizeOf26 rfl (s22.rd (j := 1) rfl) (Nat.le_of_ble_eq_true rfl) rfl) rfl (by decide) (cok1 trivial) ?_
    refine dv (gyes_some rfl rfl) (q_call0 Try.call15 rfl (pages_ok (hrB (madeB l ⟨#[]⟩)) (hrE (madeB l ⟨#[]⟩)) _ (hrL (madeB l ⟨#[]⟩)) (s22.slsj (l := hrL (madeB l ⟨#[]⟩)) segc_w (j := 2) rfl rfl (Nat.le_refl _)) (by omega) hrL_low)) rfl (by decide) (cok2 trivial trivial) ?_
    refine dv (gyes_some rfl rfl) (OpQ.cast (v' := .bool true) (q_int rfl rfl rfl) (congrArg Value.bool (by rw [hLz]; rfl))) rfl (by decide) (cok2 trivial (cconst rfl)) ?_
    refine dv (gyes_none rfl) (q_pt (v := .bool true) rfl rfl) rfl (by decide) (call_ok rfl) ?_
    refine dv (gyes_none rfl) (q_as (v := .bool true) rfl) rfl (by decide) (cok1 trivial) ?_
    refine ⟨_, Wk.refl _ _, ?_⟩
    show awp _ _ _ _ _ _ _
    refine awp_ret_wk ?_
    refine ⟨_, Wk.refl _ _, ?_⟩
    repeat (with_reducible first | refine then_ret ?_ | refine blk_ret ?_ | refine then_exit ?_ | refine blk_exit ?_ | refine blk_exit' (by decide) ?_ | refine blk_normal ?_ | refine then_normal ?_ | refine retq_ret ?_ | refine retq_normal ?_ | refine ng_normal ?_ | refine ng_ret ?_ | refine ng_exit ?_)
    exact ret_none (v := .bool true) rfl s22.kp (.tmp rfl .nil) rfl rfl ⟨rfl, rfl⟩

end Go.Proofs.YthlanedmlccabaaA


/-
  From a law's arguments, slices among them, to abstract states.
-/
namespace Go.Proofs.YthlanedmlccabaaA
set_option linter.unusedVariables false
open Go Go.RowKit Go.Shelf
/-- The places of the arguments' blocks. -/
def rhoOf (ls : List (Option Loc)) : Ren := fun b => match ls[b]? with | some (some l) => .at l | _ => .none
/-- A block of an argument, or none. -/
def ArgO (W : World) (ol : Option Loc) (o : AObj) : Prop :=
  (ol = none ∧ o = .none) ∨ ∃ lc vs, ol = some lc ∧ o = .cells false vs 1 ∧ lc.blk < W.heap.size ∧ ∀ ρ, ORel ρ lc W (.cells false vs 1)
def ArgOs (W : World) : List (Option Loc) → AHeap → Prop
  | [], [] => True
  | ol :: ls, o :: H => ArgO W ol o ∧ ArgOs W ls H
  | _, _ => False
theorem ArgOs.at {W : World} : ∀ {ls : List (Option Loc)} {H : AHeap}, ArgOs W ls H → ∀ (b : Nat) (ol : Option Loc), ls[b]? = some ol → ∃ o : AObj, H[b]? = some o ∧ ArgO W ol o
  | [], [], _, b, ol, h => by simp at h
  | [], _ :: _, h, _, _, _ => h.elim
  | _ :: _, [], h, _, _, _ => h.elim
  | x :: ls, o :: H, ⟨h1, h2⟩, b, ol, h => by
    cases b with
    | zero => simp at h; subst h; exact ⟨o, by simp, h1⟩
    | succ b => simpa using ArgOs.at h2 b ol (by simpa using h)
theorem ArgOs.at' {W : World} : ∀ {ls : List (Option Loc)} {H : AHeap}, ArgOs W ls H → ∀ (b : Nat) (o : AObj), H[b]? = some o → ∃ ol : Option Loc, ls[b]? = some ol ∧ ArgO W ol o
  | [], [], _, b, o, h => by simp at h
  | [], _ :: _, h, _, _, _ => h.elim
  | _ :: _, [], h, _, _, _ => h.elim
  | x :: ls, o' :: H, ⟨h1, h2⟩, b, o, h => by
    cases b with
    | zero => simp at h; subst h; exact ⟨x, by simp, h1⟩
    | succ b => simpa using ArgOs.at' h2 b o (by simpa using h)
theorem ArgOs.len {W : World} : ∀ {ls : List (Option Loc)} {H : AHeap}, ArgOs W ls H → ls.length = H.length
  | [], [], _ => rfl
  | [], _ :: _, h => h.elim
  | _ :: _, [], h => h.elim
  | x :: ls, o' :: H, ⟨h1, h2⟩ => by simp [ArgOs.len h2]
/-- A slice that came as an argument: its block, its value. -/
structure SArg {α : Type} (f : α → Value) (w : World) (v : Value) (l : List α) (b : Nat) (ol : Option Loc) (o : AObj) (va : Value) : Prop where
  obj : ArgO w ol o
  val : ∀ ρ : Ren, (∀ lc, ol = some lc → ρ b = .at lc) → VRel ρ va v
  sl : ∀ H : AHeap, H[b]? = some o → Sl f H va l
end Go.Proofs.YthlanedmlccabaaA


/-
  Slices among a law's arguments, as the row's facts tell of them.
-/
namespace Go.Proofs.YthlanedmlccabaaA
set_option linter.unusedVariables false
open Go Go.RowKit Go.Shelf Go.ChangeShapes
def RowF {α : Type} (f : α → Value) (w : World) (a : Option Addr) (len cap : Nat) (zs : List α) : Prop :=
  (a = none ∧ len = 0 ∧ cap = 0) ∨ ∃ x, a = some x ∧ x.spot = none ∧ len ≤ cap ∧ zs.length = cap ∧ (∃ cs T fr, w.heap[x.block]? = some (.cells cs T fr)) ∧ ∀ i (h : i < zs.length), w.cell? (x.add i) = some (f zs[i])
end Go.Proofs.YthlanedmlccabaaA


/-
  A law's arguments, slices and slices of slices among them, as blocks.
-/
namespace Go.Proofs.YthlanedmlccabaaA
set_option linter.unusedVariables false
open Go Go.RowKit Go.Shelf Go.ChangeShapes
def rhoP (ls : List Plc) : Ren := fun b => ls.getD b .none
def AtOff (ρ : Ren) (off : Nat) (ls : List Plc) : Prop := ∀ (i : Nat) (p : Plc), ls[i]? = some p → ρ (off + i) = p
def InH (H : AHeap) (off : Nat) (L : AHeap) : Prop := ∀ (i : Nat) (o : AObj), L[i]? = some o → H[off + i]? = some o
theorem AtOff.app {ρ : Ren} {off : Nat} {a b : List Plc} (h : AtOff ρ off (a ++ b)) : AtOff ρ off a ∧ AtOff ρ (off + a.length) b := by
  refine ⟨fun i p hi => h i p ?_, fun i p hi => ?_⟩
  · rw [List.getElem?_append_left (List.getElem?_eq_some_iff.1 hi).1]; exact hi
  · have := h (a.length + i) p (by rw [List.getElem?_append_right (by omega)]; simpa using hi)
    rw [Nat.add_assoc]; exact this
theorem InH.app {H : AHeap} {off : Nat} {a b : AHeap} (h : InH H off (a ++ b)) : InH H off a ∧ InH H (off + a.length) b := by
  refine ⟨fun i p hi => h i p ?_, fun i p hi => ?_⟩
  · rw [List.getElem?_append_left (List.getElem?_eq_some_iff.1 hi).1]; exact hi
  · have := h (a.length + i) p (by rw [List.getElem?_append_right (by omega)]; simpa using hi)
    rw [Nat.add_assoc]; exact this
theorem InH.refl (H : AHeap) : InH H 0 H := fun i o h => by rw [Nat.zero_add]; exact h
def ArgP (ρ : Ren) (w : World) (p : Plc) (o : AObj) : Prop :=
  (p = .none ∧ o = .none) ∨ (p = .null ∧ o = .null) ∨ ∃ lc vs sz, p = .at lc ∧ o = .cells false vs sz ∧ lc.blk < w.heap.size ∧ ORel ρ lc w (.cells false vs sz)
structure PArg (w : World) (v : Value) (off : Nat) (ls : List Plc) (L : AHeap) (va : Value) : Prop where
  len : ls.length = L.length
  obj : ∀ ρ : Ren, AtOff ρ off ls → ∀ (i : Nat) (p : Plc), ls[i]? = some p → ∃ o : AObj, L[i]? = some o ∧ ArgP ρ w p o
  val : ∀ ρ, AtOff ρ off ls → VRel ρ va v
inductive PAll (w : World) : Nat → List Value → List Plc → AHeap → List Value → Prop
  | nil (off : Nat) : PAll w off [] [] [] []
  | cons {off : Nat} {v va : Value} {vs vas : List Value} {ls ls' : List Plc} {L L' : AHeap} (h : PArg w v off ls L va) (k : PAll w (off + ls.length) vs ls' L' vas) : PAll w off (v :: vs) (ls ++ ls') (L ++ L') (va :: vas)
theorem PArg.scalar {w : World} {v : Value} (off : Nat) (h : Scalar v = true) : PArg w v off [] [] v := ⟨rfl, fun ρ _ i p h => by simp at h, fun ρ _ => .scalar h ρ⟩
theorem PAll.sum {w : World} : ∀ {off : Nat} {vs vas : List Value} {ls : List Plc} {L : AHeap}, PAll w off vs ls L vas → ls.length = L.length ∧ (∀ ρ : Ren, AtOff ρ off ls → (∀ (i : Nat) (p : Plc), ls[i]? = some p → ∃ o : AObj, L[i]? = some o ∧ ArgP ρ w p o) ∧ LRel ρ vas vs) := by
  intro off vs vas ls L h
  induction h with
  | nil off => exact ⟨rfl, fun ρ _ => ⟨fun i p h => by simp at h, .nil ρ⟩⟩
  | @cons off v va vs vas ls ls' L L' h k ih =>
    refine ⟨by rw [List.length_append, List.length_append, h.len, ih.1], fun ρ hρ => ?_⟩
    obtain ⟨h1, h2⟩ := hρ.app
    obtain ⟨h3, h4⟩ := ih.2 ρ h2
    refine ⟨fun i p hi => ?_, .cons (h.val ρ h1) h4⟩
    by_cases e : i < ls.length
    · rw [List.getElem?_append_left e] at hi
      obtain ⟨o, k1, k2⟩ := h.obj ρ h1 i p hi
      exact ⟨o, by rw [List.getElem?_append_left (by rw [← h.len]; exact e)]; exact k1, k2⟩
    · rw [List.getElem?_append_right (by omega)] at hi
      obtain ⟨o, k1, k2⟩ := h3 _ p hi
      exact ⟨o, by rw [List.getElem?_append_right (by rw [← h.len]; omega), ← h.len]; exact k1, k2⟩
theorem world_of_acallsP {P : Program} {f : FuncId} {args : List Value} {args' : Array Value} {H : AHeap} {ls : List Plc} {v : Value} {w : World} (hA : PAll w 0 args'.toList ls H args) (hv : Scalar v = true) (h : ACalls P f args H (Rets v H)) :
    Calls P f args' w fun e w' => e = .returned v ∧ Below w.heap.size w w' := by
  obtain ⟨hlen, hs⟩ := hA.sum
  have hat : AtOff (rhoP ls) 0 ls := fun i p hi => by
    rw [Nat.zero_add]; unfold rhoP; rw [List.getD_eq_getElem?_getD, hi]; rfl
  obtain ⟨hob, hval⟩ := hs _ hat
  have hrev : ∀ (b : Nat) (o : AObj), H[b]? = some o → ∃ p, ls[b]? = some p ∧ ArgP (rhoP ls) w p o := fun b o hb => by
    have hbl := (List.getElem?_eq_some_iff.1 hb).1
    obtain ⟨o', h1, h2⟩ := hob b _ (List.getElem?_eq_getElem (by rw [hlen]; exact hbl))
    rw [hb] at h1; cases h1
    exact ⟨_, List.getElem?_eq_getElem (by rw [hlen]; exact hbl), h2⟩
  have hget : ∀ b p, rhoP ls b = p → p ≠ .none → ls[b]? = some p := fun b p hb hn => by
    unfold rhoP at hb
    rw [List.getD_eq_getElem?_getD] at hb
    cases e : ls[b]? with
    | none => rw [e] at hb; exact absurd hb.symm hn
    | some q => rw [e] at hb; exact congrArg some hb
  have hnw : ∀ b l, rhoP ls b = .at l → ¬ wr H b := fun b l hb ⟨o, h1, h2⟩ => by
    obtain ⟨o', h3, h4⟩ := hob b _ (hget b _ hb (by simp))
    rw [h1] at h3; cases h3
    rcases h4 with ⟨h3, _⟩ | ⟨h3, _⟩ | ⟨lc, vs, sz, h3, rfl, _⟩
    · cases h3
    · cases h3
    · cases h2
  have hh : HRel (rhoP ls) H w := by
    refine ⟨fun b hb => ?_, fun b l hb => ?_, fun b c l m _ hb _ hw => absurd hw (hnw b l hb), fun g vs sz hg => ?_, fun b hb => ?_⟩
    · unfold rhoP
      rw [List.getD_eq_getElem?_getD, List.getElem?_eq_none (by rw [hlen]; exact hb)]; rfl
    · obtain ⟨o, h1, h2⟩ := hob b _ (hget b _ hb (by simp))
      rcases h2 with ⟨h3, _⟩ | ⟨h3, _⟩ | ⟨lc, vs, sz, h3, rfl, h4, h5⟩
      · cases h3
      · cases h3
      · cases h3; exact ⟨_, h1, h4, h5⟩
    · obtain ⟨p, _, h3⟩ := hrev g _ hg
      rcases h3 with ⟨_, h3⟩ | ⟨_, h3⟩ | ⟨lc, vs, sz, _, h3, _⟩ <;> cases h3
    · obtain ⟨o, h1, h2⟩ := hob b _ (hget b _ hb (by simp))
      rcases h2 with ⟨h3, _⟩ | ⟨h3, _⟩ | ⟨lc, vs, sz, h3, _⟩ <;> cases h3
  refine (h _ w args' hh hval).mono ?_
  rintro e w' ⟨v1, v', H', ρ', rfl, ⟨rfl, rfl⟩, k1, k2, k3, k4⟩
  rw [k1.scalar_eq hv]
  exact ⟨rfl, k3.os, k3.tape, k3.output, k3.size, fun k hk => k3.keep k hk fun ⟨b, l, hb, _, hw⟩ => hnw b l hb hw⟩
/-! ### Slices that came in -/
/-- A slice in the world: its elements, of one cell each. -/
def SlC {α : Type} (f : α → Value) (w : World) (u : Value) (r : List α) : Prop :=
  (u = .slice none 0 0 ∧ r = []) ∨ ∃ x l c, u = .slice (some x) l c ∧ l ≤ c ∧ r.length = l ∧ (c = 0 ∨ (x.spot = none ∧ ∃ cs T fr, w.heap[x.block]? = some (.cells cs T fr) ∧ x.off + c ≤ cs.size ∧ ∀ i (h : i < r.length), cs[x.off + i]? = some (f r[i])))
theorem AtOff.one {ρ : Ren} {off : Nat} {p : Plc} (h : AtOff ρ off [p]) : ρ off = p := h 0 p rfl
theorem parg_one {w : World} {v va : Value} {off : Nat} {p : Plc} {o : AObj} (h1 : ∀ ρ, ρ off = p → ArgP ρ w p o) (h2 : ∀ ρ, ρ off = p → VRel ρ va v) : PArg w v off [p] [o] va :=
  ⟨rfl, fun ρ hρ i q hi => by
    cases i with
    | zero => simp at hi; subst hi; exact ⟨o, rfl, h1 ρ hρ.one⟩
    | succ i => simp at hi, fun ρ hρ => h2 ρ hρ.one⟩
/-- A slice of slices. -/
structure Sl2C {α : Type} (f : α → Value) (w : World) (u : Value) (us : List Value) (rs : List (List α)) : Prop where
  out : SlC (fun v : Value => v) w u us
  len : us.length = rs.length
  row : ∀ i (h : i < us.length), SlC f w us[i] (nth rs i)
/-! ### From the row's facts -/
theorem addr_at {x : Addr} (hsp : x.spot = none) (i : Nat) : x.add i = ⟨x.block, x.off + i, none⟩ := by
  have hx : x = ⟨x.block, x.off, none⟩ := by cases x; simp at hsp; subst hsp; rfl
  rw [hx]
  unfold Addr.add
  split
  · subst i; rfl
  · rfl
theorem cell_some {w : World} {a : Addr} {v : Value} (h : w.cell? a = some v) : a.spot = none ∧ ∃ cs T fr, w.heap[a.block]? = some (.cells cs T fr) ∧ cs[a.off]? = some v := by
  unfold World.cell? at h
  split at h
  · rename_i c T fr hb
    split at h
    · cases h
    · rename_i hs
      exact ⟨by simpa using hs, c, T, fr, hb, h⟩
  · cases h
/-! ### Arrays that came in -/
end Go.Proofs.YthlanedmlccabaaA


/-
  A law's arguments: slices whose elements are structs or arrays, and arrays of numbers.
-/
namespace Go.Proofs.YthlanedmlccabaaA
set_option linter.unusedVariables false
open Go Go.RowKit Go.Shelf Go.ChangeShapes Go.WideShapes
section
variable {α : Type} [Inhabited α] {f : α → List Value} {m : Nat}
def SlCm (f : α → List Value) (m : Nat) (w : World) (u : Value) (r : List α) : Prop :=
  (u = .slice none 0 0 ∧ r = []) ∨ ∃ x l c, u = .slice (some x) l c ∧ l ≤ c ∧ r.length = l ∧ (c = 0 ∨ (x.spot = none ∧ ∃ cs T fr, w.heap[x.block]? = some (.cells cs T fr) ∧ x.off + c * m ≤ cs.size ∧ ∀ i (h : i < r.length), ∀ j, j < m → cs[x.off + i * m + j]? = (f (nth r i))[j]?))
theorem parg_rowm (hw : Wm f m) (hm : 0 < m) (hf : ∀ x, ∀ u ∈ f x, Scalar u = true) {w : World} {u : Value} {r : List α} (h : SlCm f m w u r) (off : Nat) : ∃ p o va, PArg w u off [p] [o] va ∧ ∀ H, InH H off [o] → SlS f m H va r := by
  rcases h with ⟨rfl, rfl⟩ | ⟨x, l, c, rfl, hl, hr, h⟩
  · exact ⟨.none, .none, .slice none 0 0, parg_one (fun ρ _ => .inl ⟨rfl, rfl⟩) (fun ρ _ => .nilSlice), fun H _ => .nil⟩
  · by_cases h0 : c = 0
    · subst h0
      obtain rfl : l = 0 := by omega
      obtain rfl : r = [] := List.length_eq_zero_iff.1 hr
      exact ⟨.null, .null, .slice (some ⟨off, 0, none⟩) 0 0, parg_one (fun ρ _ => .inr (.inl ⟨rfl, rfl⟩)) (fun ρ h => .empty h), fun H hH => .inr ⟨off, 0, 0, [], rfl, .inr (.inr ⟨hH 0 _ rfl, rfl⟩), by simp, by simp, by simp [fl]⟩⟩
    · obtain ⟨hsp, cs, T, fr, hb, hsz, hc⟩ := h.resolve_left h0
      have hlt : x.block < w.heap.size := (Array.getElem?_eq_some_iff.1 hb).1
      have hx : x = ⟨x.block, x.off, none⟩ := by cases x; simp at hsp; subst hsp; rfl
      have hlen : (fl f r).length = l * m := by rw [fl_len hw, hr]
      have hlm : l * m ≤ c * m := Nat.mul_le_mul_right m hl
      refine ⟨.at ⟨x.block, x.off, x.off + c * m, m⟩, .cells false (fl f r) m, .slice (some ⟨off, 0, none⟩) l c, parg_one (fun ρ hρ => .inr (.inr ⟨_, _, _, rfl, rfl, hlt, rfl, cs, T, fr, hb, by rw [hlen]; show x.off + l * m ≤ x.off + c * m; omega, hsz, fun i hi => ?_, fun h => by cases h⟩)) (fun ρ hρ => ?_), fun H hH => ?_⟩
      · have hi1 : i < l * m := by rw [← hlen]; exact hi
        have hq : i / m < r.length := by rw [hr]; exact Nat.div_lt_of_lt_mul (by rw [Nat.mul_comm]; exact hi1)
        have hj : i % m < m := Nat.mod_lt _ hm
        have hij : i / m * m + i % m = i := by rw [Nat.mul_comm]; exact Nat.div_add_mod i m
        have h1 := hc (i / m) hq (i % m) hj
        have h2 := fl_get hw hq hj
        rw [hij] at h2
        rw [show x.off + i / m * m + i % m = x.off + i by omega, ← h2] at h1
        have h3 : (fl f r)[i]? = some (fl f r)[i] := List.getElem?_eq_getElem hi
        rw [h3] at h1
        show VRel ρ ((fl f r).getD i undef) (cs.getD (x.off + i) undef)
        rw [List.getD_eq_getElem?_getD, h3, Array.getD_eq_getD_getElem?, h1]
        have hmem : (fl f r)[i] ∈ fl f r := List.getElem_mem hi
        obtain ⟨y, _, hy⟩ := List.mem_flatMap.1 hmem
        exact .scalar (hf y _ hy) ρ
      · rw [hx]
        exact .slice hρ hl (Nat.le_refl _) (.inl rfl) (by show x.off + 0 + c * m ≤ x.off + c * m; omega)
      · exact .inr ⟨off, 0, c, fl f r, by rw [hr], .inl ⟨false, hH 0 _ rfl⟩, by rw [hlen, hr]; omega, by omega, by rw [List.drop_zero, List.take_of_length_le (by rw [hlen, hr]; exact Nat.le_refl _)]⟩
def ElemOk (P : Program) (e : TypeId) (f : α → List Value) (ok : α → Prop) : Prop := ∀ (H : Type) (enc : TypeId × Value → H) (w : World) (base fuel : Nat) (cs : List Value) (x : DataW H × List MemPlace), DataW.trod enc P w base (fun _ => true) true fuel e cs = some x → ∃ a, cs = f a ∧ ok a
theorem trod_elems {H : Type} {enc : TypeId × Value → H} {P : Program} {w : World} {base fuel : Nat} {t e : TypeId} {u : Value} {x : DataW H × List MemPlace} {ok : α → Prop} (ht : P.underlying t = some (.slice e)) (hc : P.cellsOf e = m) (hm : 0 < m) (hw : Wm f m) (hE : ElemOk P e f ok)
    (h : DataW.trod enc P w base (fun _ => true) true fuel t [u] = some x) : ∃ r, SlCm f m w u r ∧ ∀ a ∈ r, ok a := by
  rcases Go.Deep.open_slice ht h with ⟨hcs, _⟩ | ⟨a, l, c, mm, n, D, Pl, hcs, hb, hl, hmx, hmm, _, hx⟩
  · simp at hcs; subst hcs
    exact ⟨[], .inl ⟨rfl, rfl⟩, by simp⟩
  · simp at hcs; subst hcs
    simp at hmm
    subst hmm
    rw [hc] at hx
    have hex : ∀ i : Nat, ∃ g : α, i < mm → ok g ∧ ∀ j, j < m → w.cell? (a.add (i * m + j)) = (f g)[j]? := fun i => by
      by_cases hi : i < mm
      · obtain ⟨cs', h1, h2⟩ := hx i hi
        obtain ⟨g, rfl, hg⟩ := hE _ _ _ _ _ _ _ h2
        obtain ⟨_, _, hcell⟩ := World.cells?_some h1
        exact ⟨g, fun _ => ⟨hg, fun j hj => by have := hcell j hj; rwa [Go.Deep.add_add] at this⟩⟩
      · exact ⟨default, fun h => absurd h hi⟩
    obtain ⟨g, hg⟩ : ∃ g : Nat → α, ∀ i, i < mm → ok (g i) ∧ ∀ j, j < m → w.cell? (a.add (i * m + j)) = (f (g i))[j]? := ⟨fun i => (hex i).choose, fun i => (hex i).choose_spec⟩
    refine ⟨(List.range l).map g, .inr ⟨a, l, mm, rfl, hl, by simp, ?_⟩, fun b hb' => ?_⟩
    · by_cases h0 : mm = 0
      · exact .inl h0
      · right
        have some' : ∀ i j, i < mm → j < m → ∃ v, w.cell? (a.add (i * m + j)) = some v := fun i j hi hj => by
          rw [(hg i hi).2 j hj]; exact ⟨_, List.getElem?_eq_getElem (by rw [hw]; exact hj)⟩
        obtain ⟨v0, h1⟩ := some' 0 0 (by omega) hm
        have e0 : a.add (0 * m + 0) = a := by rw [Nat.zero_mul]; unfold Addr.add; rw [if_pos rfl]
        rw [e0] at h1
        obtain ⟨hsp, cs, T, fr, hbk, _⟩ := cell_some h1
        have at' : ∀ i v, w.cell? (a.add i) = some v → cs[a.off + i]? = some v := fun i v h => by
          rw [addr_at hsp] at h
          obtain ⟨_, cs', T', fr', hb', h2⟩ := cell_some h
          simp only at hb' h2
          rw [hbk] at hb'; cases hb'
          exact h2
        refine ⟨hsp, cs, T, fr, hbk, ?_, fun i h j hj => ?_⟩
        · obtain ⟨v, h2⟩ := some' (mm - 1) (m - 1) (by omega) (by omega)
          have h3 := (Array.getElem?_eq_some_iff.1 (at' _ _ h2)).1
          have h4 : (mm - 1) * m + m = mm * m := by
            conv => rhs; rw [show mm = (mm - 1) + 1 by omega, Nat.add_mul, Nat.one_mul]
          omega
        · have hil : i < l := by simpa using h
          obtain ⟨v, h2⟩ := some' i j (by omega) hj
          have h3 := at' _ _ h2
          rw [(hg i (by omega)).2 j hj] at h2
          rw [Nat.add_assoc, h3, nth_eq (by simpa using hil)]
          simp only [List.getElem_map, List.getElem_range]
          exact h2.symm
    · obtain ⟨i, hi, rfl⟩ := List.mem_map.1 hb'
      exact (hg i (by have := List.mem_range.1 hi; omega)).1
end
section
variable {H : Type} {enc : TypeId × Value → H} {P : Program} {w : World} {base fuel : Nat} {t e : TypeId} {cs : List Value} {x : DataW H × List MemPlace}
theorem take1 {o : Nat} {v : Value} (h : (cs.drop o).take 1 = [v]) : cs[o]? = some v := by
  have h1 : ((cs.drop o).take 1)[0]? = some v := by rw [h]; rfl
  rw [List.getElem?_take, if_pos (by decide), List.getElem?_drop] at h1
  exact h1
theorem trod_len {fs : Array Field} (hs : P.underlying e = some (.struct fs)) (h : DataW.trod enc P w base (fun _ => true) true fuel e cs = some x) : cs.length = P.cellsOf e := by
  obtain ⟨_, _, _, _, hl, _⟩ := DataW.trod_struct hs h
  exact hl
theorem fld {fs : Array Field} (hs : P.underlying e = some (.struct fs)) (h : DataW.trod enc P w base (fun _ => true) true fuel e cs = some x) {i : Nat} {fd : Field} (hi : fs[i]? = some fd) : ∃ n y, DataW.trod enc P w base (fun _ => true) true n fd.type ((cs.drop fd.offset).take (P.cellsOf fd.type)) = some y := by
  obtain ⟨xs, n, _, _, _, hl, hx⟩ := DataW.trod_struct hs h
  have h1 := hx i fd hi
  have h2 := (Array.getElem?_eq_some_iff.1 hi).1
  rw [List.getElem?_eq_getElem (by omega)] at h1
  exact ⟨n, _, h1⟩
theorem fld_int {fs : Array Field} {k : IntKind} (hs : P.underlying e = some (.struct fs)) (h : DataW.trod enc P w base (fun _ => true) true fuel e cs = some x) {i : Nat} {fd : Field} (hi : fs[i]? = some fd) (hc : P.cellsOf fd.type = 1) (hu : P.underlying fd.type = some (.int k)) : ∃ n : Int, cs[fd.offset]? = some (.int k n) ∧ (Lit.int k n).wf = true := by
  obtain ⟨n, y, h1⟩ := fld hs h hi
  rw [hc] at h1
  obtain ⟨z, e1, _, hw⟩ := DataW.trod_int hu h1
  exact ⟨z, take1 e1, hw⟩
theorem nat_of_u64 {n : Int} (hw : (Lit.int .u64 n).wf = true) : ∃ k : Nat, n = (k : Int) ∧ k < 18446744073709551616 := by
  simp [Lit.wf, IntKind.min, IntKind.max, IntKind.signed, IntKind.bits] at hw
  exact ⟨n.toNat, by omega, by omega⟩
theorem fld_u64 {fs : Array Field} (hs : P.underlying e = some (.struct fs)) (h : DataW.trod enc P w base (fun _ => true) true fuel e cs = some x) {i : Nat} {fd : Field} (hi : fs[i]? = some fd) (hc : P.cellsOf fd.type = 1) (hu : P.underlying fd.type = some (.int .u64)) : ∃ n : Nat, cs[fd.offset]? = some (.int .u64 ((n : Nat) : Int)) ∧ n < 18446744073709551616 := by
  obtain ⟨z, h1, hw⟩ := fld_int hs h hi hc hu
  obtain ⟨k, rfl, hk⟩ := nat_of_u64 hw
  exact ⟨k, h1, hk⟩
end
end Go.Proofs.YthlanedmlccabaaA


/-
  Walks of functions of the given program, and what they compute.
-/
namespace Go.Proofs.YthlanedmlccabaaA
set_option linter.unusedVariables false
open Go Go.RowKit Go.Shelf Go.Proofs
theorem elem_segr : ElemOk Try.prog 68 segr SgW := fun H enc w base fuel cs x h => by
  obtain ⟨n0, g0, b0⟩ := fld_u64 Try.underlying68 h (i := 0) rfl (by kernel_rfl) Try.underlying23
  obtain ⟨n1, g1, b1⟩ := fld_u64 Try.underlying68 h (i := 1) rfl (by kernel_rfl) Try.underlying23
  obtain ⟨n2, g2, b2⟩ := fld_u64 Try.underlying68 h (i := 2) rfl (by kernel_rfl) Try.underlying23
  obtain ⟨n3, g3, b3⟩ := fld_u64 Try.underlying68 h (i := 3) rfl (by kernel_rfl) Try.underlying23
  obtain ⟨n4, g4, b4⟩ := fld_u64 Try.underlying68 h (i := 4) rfl (by kernel_rfl) Try.underlying23
  obtain ⟨n5, g5, b5⟩ := fld_u64 Try.underlying68 h (i := 5) rfl (by kernel_rfl) Try.underlying23
  have hl : cs.length = 6 := (trod_len Try.underlying68 h).trans (by kernel_rfl)
  match cs, hl with
  | [c0, c1, c2, c3, c4, c5], _ =>
    obtain rfl : c0 = _ := Option.some.inj g0
    obtain rfl : c1 = _ := Option.some.inj g1
    obtain rfl : c2 = _ := Option.some.inj g2
    obtain rfl : c3 = _ := Option.some.inj g3
    obtain rfl : c4 = _ := Option.some.inj g4
    obtain rfl : c5 = _ := Option.some.inj g5
    exact ⟨(n0, n1, n2, n3, n4, n5), rfl, ⟨b0, b1, b2, b3, b4, b5⟩⟩

end Go.Proofs.YthlanedmlccabaaA

