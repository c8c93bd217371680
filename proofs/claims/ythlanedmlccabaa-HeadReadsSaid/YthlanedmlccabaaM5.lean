/-
  Walks over abstract states: texts of one claim, merged.
-/
import Derived.Test.YthlanedmlccabaaM4
import Derived.Test.YthlanedmlccabaaProg
import Derived.KernelRfl
/-
  Walks of functions of the given program, and what they compute.
-/
namespace Go.Proofs.YthlanedmlccabaaA
set_option linter.unusedVariables false
open Go Go.RowKit Go.Shelf Go.Proofs
def hdrB (e n : Nat) : ByteArray := magicB ++ zerosB 9 ++ putB 3 2 ++ putB 243 2 ++ putB 1 4 ++ putB e 8 ++ putB 64 8 ++ zerosB 12 ++ putB 64 2 ++ putB 56 2 ++ putB n 2 ++ zerosB 6
def segP (x : Sg) : ByteArray := putB x.1 4 ++ putB x.2.1 4 ++ putB x.2.2.1 8 ++ putB x.2.2.2.1 8 ++ zerosB 8 ++ putB x.2.2.2.2.1 8 ++ putB x.2.2.2.2.2 8 ++ zerosB 8
def packS (e : Nat) (l : List Sg) : Nat → ByteArray
  | 0 => hdrB e l.length
  | k + 1 => packS e l k ++ segP (nth l k)
def packD (e : Nat) (l : List Sg) (d : List ByteArray) : Nat → ByteArray
  | 0 => packS e l l.length
  | k + 1 => packD e l d k ++ nth d k
def packB (e : Nat) (l : List Sg) (d : List ByteArray) : ByteArray := packD e l d d.length
theorem hdrB_size (e n : Nat) : (hdrB e n).size = 64 := by unfold hdrB; simp only [size_append, putB_size, zerosB_size]; rfl
theorem segP_size (x : Sg) : (segP x).size = 56 := by unfold segP; simp only [size_append, putB_size, zerosB_size]
theorem packS_size (e : Nat) (l : List Sg) : ∀ k, (packS e l k).size = 64 + 56 * k
  | 0 => by rw [packS, hdrB_size]
  | k + 1 => by rw [packS, size_append, packS_size e l k, segP_size]; omega
theorem packD_size (e : Nat) (l : List Sg) (d : List ByteArray) {m : Nat} (hd : ∀ x ∈ d, x.size ≤ m) : ∀ k, k ≤ d.length → (packD e l d k).size ≤ 64 + 56 * l.length + k * m
  | 0, _ => by rw [packD, packS_size]; omega
  | k + 1, hk => by
    have h1 := packD_size e l d hd k (by omega)
    have h2 := hd _ (nthN_mem (l := d) (k := k) (by omega))
    rw [packD, size_append, Nat.add_mul]; omega
/-- All numbers of a segment fit into 8 bytes. -/
def SgW (x : Sg) : Prop := x.1 < 18446744073709551616 ∧ x.2.1 < 18446744073709551616 ∧ x.2.2.1 < 18446744073709551616 ∧ x.2.2.2.1 < 18446744073709551616 ∧ x.2.2.2.2.1 < 18446744073709551616 ∧ x.2.2.2.2.2 < 18446744073709551616
theorem putL_snoc (i : Nat) : ∀ n, putL n (i + 1) = putL n i ++ [UInt8.ofNat (n / 256 ^ i)] := by
  induction i with
  | zero => intro n; simp [putL]
  | succ i ih => intro n; rw [putL, ih, putL]; simp only [List.cons_append]; rw [Nat.div_div_eq_div_mul, ← Nat.pow_succ']
theorem putB_snoc (n i : Nat) : putB n (i + 1) = putB n i ++ bytesOf [UInt8.ofNat (n / 256 ^ i)] := bl_inj (by rw [bl_append, bl_putB, bl_putB, putL_snoc]; rfl)
set_option maxRecDepth 100000 in
set_option maxHeartbeats 4000000 in
theorem rput_ok {H0 : AHeap} (n k : Nat) (hn : n < 18446744073709551616) (h8 : k ≤ 8) : ACalls Try.prog 30 [.int .u64 ((n : Nat) : Int), .int .i64 ((k : Nat) : Int)] H0 (Rets (.string (putB n k)) H0) := by
  have hF : Wd Fence.wide := .inl rfl
  have hM : Try.prog.follows .mixedOrders = true := by kernel_rfl
  have s0 := St.begin H0
  refine acalls_st Try.func30 rfl Try.ntmps30 rfl ?_
  refine awp_seq ?_
  refine awp_regs hF ?_
  refine dv (gyes_none rfl) (q_as (v := .string (⟨#[]⟩ : ByteArray)) rfl) rfl (by decide) (cok1 (cconst rfl)) ?_
  refine ⟨_, Wk.refl _ _, ?_⟩
  show awp _ _ _ _ _ _ _
  refine awp_seq ?_
  refine awp_regs hF ?_
  refine dv (gyes_none rfl) (q_as (v := .string (⟨#[]⟩ : ByteArray)) rfl) rfl (by decide) (cok1 (cconst rfl)) ?_
  refine ⟨_, Wk.refl _ _, ?_⟩
  show awp _ _ _ _ _ _ _
  refine awp_seq ?_
  refine awp_seq ?_
  refine awp_regs hF ?_
  refine dv (gyes_none rfl) (q_as (v := .int .i64 0) rfl) rfl (by decide) (cok1 (cconst rfl)) ?_
  refine ⟨_, Wk.refl _ _, ?_⟩
  show awp _ _ _ _ _ _ _
  refine awp_block ?_
  refine awp_wk (Wk.U [(0, .int .u64 ((n : Nat) : Int)), (1, .int .i64 ((k : Nat) : Int)), (5, .string (⟨#[]⟩ : ByteArray)), (6, .int .i64 0)] ⟨rfl, rfl, rfl, rfl, trivial⟩) ?_
  refine awp_loop (fun ((i, m, o) : Nat × Nat × ByteArray) st => ∃ (H1 : AHeap), st = ⟨26, U [(0, .int .u64 ((m : Nat) : Int)), (1, .int .i64 ((k : Nat) : Int)), (5, .string o), (6, .int .i64 ((i : Nat) : Int))], [], H1⟩ ∧ St H0 (none0) (Rd H0) H1 [] ∧ (i ≤ k ∧ o = putB n i ∧ m = n / 256 ^ i)) (fun ((i, m, o) : Nat × Nat × ByteArray) => k - i) (x0 := (0, n, (⟨#[]⟩ : ByteArray))) ?h0 ?round
  case h0 =>
    exact ⟨_, rfl, s0, ⟨Nat.zero_le _, rfl, by simp⟩⟩
  case round =>
    rintro ⟨i, m, o⟩ _ ⟨H1, rfl, s2, ho⟩
    dsimp only at *
    have hmn : m < 18446744073709551616 := by rw [ho.2.2]; exact Nat.lt_of_le_of_lt (Nat.div_le_self _ _) hn
    have hos : o.size ≤ 8 := by rw [ho.2.1, putB_size]; omega
    refine awp_seq ?_
    refine awp_seq ?_
    refine awp_regs hF ?_
    refine dv (gyes_none rfl) (q_mv (v := .int .i64 ((i : Nat) : Int)) rfl) rfl (by decide) (cok1 trivial) ?_
    refine dv (gyes_none rfl) (q_mv (v := .int .i64 ((k : Nat) : Int)) rfl) rfl (by decide) (cok1 trivial) ?_
    refine dvb (gyes_none rfl) (q_int rfl rfl rfl) rfl (by decide) (cok2 trivial trivial) (fun c1 => ?_) (fun c1 => ?_)
    ·
      replace c1 := of_decide_eq_true c1
      refine dv (gyes_none rfl) (q_mv (v := .bool true) rfl) rfl (by decide) (cok1 trivial) ?_
      refine dv (gyes_some rfl rfl) (q_mv (v := .int .i64 ((k : Nat) : Int)) rfl) rfl (by decide) (cok1 trivial) ?_
      refine dv (gyes_some rfl rfl) (OpQ.cast (v' := .bool true) (q_int rfl rfl rfl) (congrArg Value.bool (decide_eq_true (by omega)))) rfl (by decide) (cok2 trivial (cconst rfl)) ?_
      refine dv (gyes_none rfl) (q_pt (v := .bool true) rfl rfl) rfl (by decide) (call_ok rfl) ?_
      refine ⟨_, Wk.refl _ _, ?_⟩
      show awp _ _ _ _ _ _ _
      refine awp_cond_t rfl ?_
      refine awp_skip_wk ?_
      refine ⟨_, Wk.refl _ _, ?_⟩
      show awp _ _ _ _ _ _ _
      refine awp_seq ?_
      refine awp_block ?_
      refine awp_seq ?_
      refine awp_regs hF ?_
      refine dv (gyes_none rfl) (q_mv (v := .string o) rfl) rfl (by decide) (cok1 trivial) ?_
      refine dv (gyes_none rfl) (q_mv (v := .int .u64 ((m : Nat) : Int)) rfl) rfl (by decide) (cok1 trivial) ?_
      refine dv (gyes_none rfl) (q_remM (a := m) (b := 256) rfl rfl (by first | decide | omega)) rfl (by decide) (cok2 trivial (cconst rfl)) ?_
      refine dv (gyes_none rfl) (q_convin (a := ((m % 256 : Nat) : Int)) Try.underlying23 Try.underlying5 rfl (u8_in (by omega))) rfl (by decide) (cok1 trivial) ?_
      refine x_new (fun b => .slice (some ⟨b, 0, none⟩) 1 1) s2 (gyes_none rfl) (q_buildSliceL (ds := [.int .u8 ((m % 256 : Nat) : Int)]) [.int .u8 ((m % 256 : Nat) : Int)] rfl Try.underlying71 Try.sizeOf5 Try.zeroValue5 rfl (by decide) (by decide) ⟨rfl, trivial⟩ (lvsC (by exact trivial) lvs0) rfl rfl) rfl (by decide) (cok1 trivial) (fun b3 H4 hb6 s5 => ?_)
      refine dv (gyes_none rfl) (q_bytesl (l := [UInt8.ofNat m]) Try.underlying71 Try.underlying9 Try.underlying5 rfl (s5.rd (j := 0) rfl) rfl) rfl (by decide) (cok1 trivial) ?_
      refine dv (gyes_none rfl) (q_cat rfl rfl (by show _ + 1 ≤ _; omega)) rfl (by decide) (cok2 trivial trivial) ?_
      refine dv (gyes_none rfl) (q_as (v := .string (o ++ (bytesOf [UInt8.ofNat m]))) rfl) rfl (by decide) (cok1 trivial) ?_
      refine ⟨_, Wk.refl _ _, ?_⟩
      show awp _ _ _ _ _ _ _
      refine awp_regs hF ?_
      refine dv (gyes_none rfl) (q_mv (v := .int .u64 ((m : Nat) : Int)) rfl) rfl (by decide) (cok1 trivial) ?_
      refine dv (gyes_none rfl) (q_quoM (a := m) (b := 256) rfl rfl (by first | decide | omega) (u64_in (by have := div_le_of (a := m) (b := 256) (M := 18446744073709551615) (by omega); omega))) rfl (by decide) (cok2 trivial (cconst rfl)) ?_
      refine dv (gyes_none rfl) (q_as (v := .int .u64 ((m / 256 : Nat) : Int)) rfl) rfl (by decide) (cok1 trivial) ?_
      refine ⟨_, Wk.refl _ _, ?_⟩
      show awp _ _ _ _ _ _ _
      refine awp_regs hF ?_
      refine dv (gyes_none rfl) (q_mv (v := .int .i64 ((i : Nat) : Int)) rfl) rfl (by decide) (cok1 trivial) ?_
      refine dv (gyes_none rfl) (OpQ.cast (v' := .int .i64 ((i + 1 : Nat) : Int)) (q_int rfl rfl rfl) (congrArg _ ((i64_in (by omega)).trans (by first | rfl | omega | (push_cast; rfl))))) rfl (by decide) (cok2 trivial (cconst rfl)) ?_
      refine dv (gyes_none rfl) (q_as (v := .int .i64 ((i + 1 : Nat) : Int)) rfl) rfl (by decide) (cok1 trivial) ?_
      refine ⟨_, Wk.U [(0, .int .u64 (((m / 256) : Nat) : Int)), (1, .int .i64 ((k : Nat) : Int)), (5, .string (o ++ (bytesOf [UInt8.ofNat m]))), (6, .int .i64 (((i + 1) : Nat) : Int))] ⟨rfl, rfl, rfl, rfl, trivial⟩, ((i + 1), (m / 256), (o ++ (bytesOf [UInt8.ofNat m]))), ⟨_, rfl, (s5.sub (.cons _ (.refl _))), ⟨by omega, by dsimp only; rw [putB_snoc, ← ho.2.1, ← ho.2.2], by dsimp only; rw [ho.2.2, Nat.div_div_eq_div_mul, ← Nat.pow_succ]⟩⟩, (by omega)⟩
    ·
      replace c1 := of_decide_eq_false c1
      refine dv (gyes_none rfl) (q_mv (v := .bool false) rfl) rfl (by decide) (cok1 trivial) ?_
      refine dno rfl (.inl rfl) rfl (by decide) ?_
      refine dno rfl (.inl rfl) rfl (by decide) ?_
      refine dv (gyes_none rfl) (q_pf (v := .bool false) rfl rfl) rfl (by decide) (call_ok rfl) ?_
      refine ⟨_, Wk.refl _ _, ?_⟩
      show awp _ _ _ _ _ _ _
      refine awp_cond_f rfl ?_
      refine awp_exit_wk ?_
      refine ⟨_, Wk.refl _ _, ?_⟩
      show awp _ _ _ _ _ _ _
      refine awp_seq ?_
      refine awp_regs hF ?_
      refine dv (gyes_none rfl) (q_mv (v := .string o) rfl) rfl (by decide) (cok1 trivial) ?_
      refine dv (gyes_none rfl) (q_as (v := .string o) rfl) rfl (by decide) (cok1 trivial) ?_
      refine ⟨_, Wk.refl _ _, ?_⟩
      show awp _ _ _ _ _ _ _
      refine awp_ret_wk ?_
      refine ⟨_, Wk.refl _ _, ?_⟩
      repeat (with_reducible first | refine then_ret ?_ | refine blk_ret ?_ | refine then_exit ?_ | refine blk_exit ?_ | refine blk_exit' (by decide) ?_ | refine blk_normal ?_ | refine then_normal ?_ | refine retq_ret ?_ | refine retq_normal ?_ | refine ng_normal ?_ | refine ng_ret ?_ | refine ng_exit ?_)
      exact ret_none (v := .string o) rfl s2.kp (.tmp rfl .nil) rfl rfl ⟨by rw [ho.2.1, show i = k by omega], rfl⟩
set_option maxRecDepth 100000 in
set_option maxHeartbeats 4000000 in
theorem pack_ok {H0 : AHeap} (e : Nat) (he : e < 18446744073709551616) (vR vD : Value) (l : List Sg) (d : List ByteArray) (hL : SlS segr 6 H0 vR l) (hD : Sl strv H0 vD d) (hl : l.length ≤ 1000) (hd : d.length ≤ 1000) (hw : ∀ x ∈ l, SgW x) (hdb : ∀ x ∈ d, x.size ≤ 1000) : ACalls Try.prog 18 [.int .u64 ((e : Nat) : Int), vR, vD] H0 (Rets (.string (packB e l d)) H0) := by
  have hF : Wd Fence.wide := .inl rfl
  have hM : Try.prog.follows .mixedOrders = true := by kernel_rfl
  have s0 := St.begin H0
  refine acalls_st Try.func18 rfl Try.ntmps18 rfl ?_
  refine awp_seq ?_
  refine awp_regs hF ?_
  refine dv (gyes_none rfl) (q_as (v := .string (⟨#[]⟩ : ByteArray)) rfl) rfl (by decide) (cok1 (cconst rfl)) ?_
  refine ⟨_, Wk.refl _ _, ?_⟩
  show awp _ _ _ _ _ _ _
  refine awp_seq ?_
  refine awp_regt hF hM (by kernel_rfl) (by kernel_rfl) ?_
  refine x_new (fun b => .slice (some ⟨b, 0, none⟩) 9 9) s0 (gyes_none rfl) (q_makeSlice1 (len := 9) (m := 9) rfl Try.underlying71 Try.typeInfo5 rfl Try.zeroValue5 rfl rfl rfl rfl (by omega) (by omega) (by show 1 * _ ≤ _; omega) (vs := (List.replicate 9 (0 : UInt8)).map bytv) (by simp [bytv])) rfl (by decide) (cok2 (cconst rfl) (cconst rfl)) (fun b1 H2 hb4 s3 => ?_)
  refine dv (gyes_none rfl) (OpQ.cast (v' := .string (zerosB 9)) (q_bytesl (l := List.replicate 9 (0 : UInt8)) Try.underlying71 Try.underlying9 Try.underlying5 rfl (s3.rd (j := 0) rfl) rfl) rfl) rfl (by decide) (cok1 trivial) ?_
  refine dv (gyes_none rfl) (OpQ.cast (v' := .string (magicB ++ zerosB 9)) (q_cat (a := magicB) rfl rfl (by simp only [size_append, putB_size, zerosB_size, show magicB.size = 7 from rfl]; omega)) rfl) rfl (by decide) (cok2 (cconst rfl) trivial) ?_
  refine dv (gyes_none rfl) (q_call0 Try.call30 rfl (rput_ok 3 2 (by omega) (by omega))) rfl (by decide) (call_ok rfl) ?_
  refine dv (gyes_none rfl) (q_cat rfl rfl (by simp only [size_append, putB_size, zerosB_size, show magicB.size = 7 from rfl]; omega)) rfl (by decide) (cok2 trivial trivial) ?_
  refine dv (gyes_none rfl) (q_call0 Try.call30 rfl (rput_ok 243 2 (by omega) (by omega))) rfl (by decide) (call_ok rfl) ?_
  refine dv (gyes_none rfl) (q_cat rfl rfl (by simp only [size_append, putB_size, zerosB_size, show magicB.size = 7 from rfl]; omega)) rfl (by decide) (cok2 trivial trivial) ?_
  refine dv (gyes_none rfl) (q_call0 Try.call30 rfl (rput_ok 1 4 (by omega) (by omega))) rfl (by decide) (call_ok rfl) ?_
  refine dv (gyes_none rfl) (q_cat rfl rfl (by simp only [size_append, putB_size, zerosB_size, show magicB.size = 7 from rfl]; omega)) rfl (by decide) (cok2 trivial trivial) ?_
  refine dv (gyes_none rfl) (q_mv (v := .int .u64 ((e : Nat) : Int)) rfl) rfl (by decide) (cok1 trivial) ?_
  refine dv (gyes_none rfl) (q_call0 Try.call30 rfl (rput_ok e 8 (by omega) (by omega))) rfl (by decide) (call_ok rfl) ?_
  refine dv (gyes_none rfl) (q_cat rfl rfl (by simp only [size_append, putB_size, zerosB_size, show magicB.size = 7 from rfl]; omega)) rfl (by decide) (cok2 trivial trivial) ?_
  refine dv (gyes_none rfl) (q_call0 Try.call30 rfl (rput_ok 64 8 (by omega) (by omega))) rfl (by decide) (call_ok rfl) ?_
  refine dv (gyes_none rfl) (q_cat rfl rfl (by simp only [size_append, putB_size, zerosB_size, show magicB.size = 7 from rfl]; omega)) rfl (by decide) (cok2 trivial trivial) ?_
  refine x_new (fun b => .slice (some ⟨b, 0, none⟩) 12 12) s3 (gyes_none rfl) (q_makeSlice1 (len := 12) (m := 12) rfl Try.underlying71 Try.typeInfo5 rfl Try.zeroValue5 rfl rfl rfl rfl (by omega) (by omega) (by show 1 * _ ≤ _; omega) (vs := (List.replicate 12 (0 : UInt8)).map bytv) (by simp [bytv])) rfl (by decide) (cok2 (cconst rfl) (cconst rfl)) (fun b5 H6 hb8 s7 => ?_)
  refine dv (gyes_none rfl) (OpQ.cast (v' := .string (zerosB 12)) (q_bytesl (l := List.replicate 12 (0 : UInt8)) Try.underlying71 Try.underlying9 Try.underlying5 rfl (s7.rd (j := 0) rfl) rfl) rfl) rfl (by decide) (cok1 trivial) ?_
  refine dv (gyes_none rfl) (q_cat rfl rfl (by simp only [size_append, putB_size, zerosB_size, show magicB.size = 7 from rfl]; omega)) rfl (by decide) (cok2 trivial trivial) ?_
  refine dv (gyes_none rfl) (q_call0 Try.call30 rfl (rput_ok 64 2 (by omega) (by omega))) rfl (by decide) (call_ok rfl) ?_
  refine dv (gyes_none rfl) (q_cat rfl rfl (by simp only [size_append, putB_size, zerosB_size, show magicB.size = 7 from rfl]; omega)) rfl (by decide) (cok2 trivial trivial) ?_
  refine dv (gyes_none rfl) (q_call0 Try.call30 rfl (rput_ok 56 2 (by omega) (by omega))) rfl (by decide) (call_ok rfl) ?_
  refine dv (gyes_none rfl) (q_cat rfl rfl (by simp only [size_append, putB_size, zerosB_size, show magicB.size = 7 from rfl]; omega)) rfl (by decide) (cok2 trivial trivial) ?_
  refine dv (gyes_none rfl) (q_mv (v := vR) rfl) rfl (by decide) (cok1 trivial) ?_
  refine dv (gyes_none rfl) (q_len_sls (l := l) Try.underlying32 (s7.sls hL) rfl) rfl (by decide) (cok1 trivial) ?_
  refine dv (gyes_none rfl) (q_convin (a := ((l.length : Nat) : Int)) Try.underlying3 Try.underlying23 rfl (u64_in (by omega))) rfl (by decide) (cok1 trivial) ?_
  refine dv (gyes_none rfl) (q_call0 Try.call30 rfl (rput_ok l.length 2 (by omega) (by omega))) rfl (by decide) (call_ok rfl) ?_
  refine dv (gyes_none rfl) (q_cat rfl rfl (by simp only [size_append, putB_size, zerosB_size, show magicB.size = 7 from rfl]; omega)) rfl (by decide) (cok2 trivial trivial) ?_
  refine x_new (fun b => .slice (some ⟨b, 0, none⟩) 6 6) s7 (gyes_none rfl) (q_makeSlice1 (len := 6) (m := 6) rfl Try.underlying71 Try.typeInfo5 rfl Try.zeroValue5 rfl rfl rfl rfl (by omega) (by omega) (by show 1 * _ ≤ _; omega) (vs := (List.replicate 6 (0 : UInt8)).map bytv) (by simp [bytv])) rfl (by decide) (cok2 (cconst rfl) (cconst rfl)) (fun b9 H10 hb12 s11 => ?_)
  refine dv (gyes_none rfl) (OpQ.cast (v' := .string (zerosB 6)) (q_bytesl (l := List.replicate 6 (0 : UInt8)) Try.underlying71 Try.underlying9 Try.underlying5 rfl (s11.rd (j := 0) rfl) rfl) rfl) rfl (by decide) (cok1 trivial) ?_
  refine dv (gyes_none rfl) (q_cat rfl rfl (by simp only [size_append, putB_size, zerosB_size, show magicB.size = 7 from rfl]; omega)) rfl (by decide) (cok2 trivial trivial) ?_
  refine dv (gyes_none rfl) (q_as (v := .string (((((((((((magicB ++ zerosB 9) ++ (putB 3 2)) ++ (putB 243 2)) ++ (putB 1 4)) ++ (putB e 8)) ++ (putB 64 8)) ++ (zerosB 12)) ++ (putB 64 2)) ++ (putB 56 2)) ++ (putB l.length 2)) ++ (zerosB 6))) rfl) rfl (by decide) (cok1 trivial) ?_
  refine ⟨_, Wk.refl _ _, ?_⟩
  show awp _ _ _ _ _ _ _
  refine awp_seq ?_
  refine awp_seq ?_
  refine awp_regs hF ?_
  refine dv (gyes_none rfl) (q_as (v := .int .i64 0) rfl) rfl (by decide) (cok1 (cconst rfl)) ?_
  refine ⟨_, Wk.refl _ _, ?_⟩
  show awp _ _ _ _ _ _ _
  refine awp_block ?_
  refine awp_wk (Wk.U [(1, vR), (2, vD), (7, .string (((((((((((magicB ++ zerosB 9) ++ (putB 3 2)) ++ (putB 243 2)) ++ (putB 1 4)) ++ (putB e 8)) ++ (putB 64 8)) ++ (zerosB 12)) ++ (putB 64 2)) ++ (putB 56 2)) ++ (putB l.length 2)) ++ (zerosB 6))), (8, .int .i64 0)] ⟨rfl, rfl, rfl, rfl, trivial⟩) ?_
  refine awp_loop (fun ((i, o) : Nat × ByteArray) st => ∃ (H13 : AHeap), st = ⟨94, U [(1, vR), (2, vD), (7, .string o), (8, .int .i64 ((i : Nat) : Int))], [], H13⟩ ∧ St H0 (none0) (Rd H0) H13 [] ∧ (o = packS e l i ∧ i ≤ l.length)) (fun ((i, o) : Nat × ByteArray) => l.length - i) (x0 := (0, (((((((((((magicB ++ zerosB 9) ++ (putB 3 2)) ++ (putB 243 2)) ++ (putB 1 4)) ++ (putB e 8)) ++ (putB 64 8)) ++ (zerosB 12)) ++ (putB 64 2)) ++ (putB 56 2)) ++ (putB l.length 2)) ++ (zerosB 6)))) ?h0 ?round
  case h0 =>
    exact ⟨_, rfl, (s11.sub (.cons _ (.cons _ (.cons _ (.refl _))))), ⟨rfl, Nat.zero_le _⟩⟩
  case round =>
    rintro ⟨i, o⟩ _ ⟨H13, rfl, s14, ho⟩
    dsimp only at *
    have hos : o.size = 64 + 56 * i := by rw [ho.1, packS_size]
    refine awp_seq ?_
    refine awp_seq ?_
    refine awp_regs hF ?_
    refine dv (gyes_none rfl) (q_mv (v := .int .i64 ((i : Nat) : Int)) rfl) rfl (by decide) (cok1 trivial) ?_
    refine dv (gyes_none rfl) (q_mv (v := vR) rfl) rfl (by decide) (cok1 trivial) ?_
    refine dv (gyes_none rfl) (q_len_sls (l := l) Try.underlying32 (s14.sls hL) rfl) rfl (by decide) (cok1 trivial) ?_
    refine dvb (gyes_none rfl) (q_int rfl rfl rfl) rfl (by decide) (cok2 trivial trivial) (fun c1 => ?_) (fun c1 => ?_)
    ·
      replace c1 := of_decide_eq_true c1
      obtain ⟨q1, q2, q3, q4, q5, q6⟩ := hw _ (nthN_mem (l := l) (k := i) (by omega))
      refine ⟨_, Wk.refl _ _, ?_⟩
      show awp _ _ _ _ _ _ _
      refine awp_cond_t rfl ?_
      refine awp_skip_wk ?_
      refine ⟨_, Wk.refl _ _, ?_⟩
      show awp _ _ _ _ _ _ _
      refine awp_seq ?_
      refine awp_block ?_
      refine awp_seq ?_
      refine awp_regs hF ?_
      refine dv (gyes_none rfl) (q_mv (v := vR) rfl) rfl (by decide) (cok1 trivial) ?_
      refine dv (gyes_none rfl) (q_mv (v := .int .i64 ((i : Nat) : Int)) rfl) rfl (by decide) (cok1 trivial) ?_
      refine dv (gyes_none rfl) (q_index_sls (l := l) (i := i) Try.underlying32 Try.sizeOf39 (s14.sls hL) segr_w rfl rfl (by omega)) rfl (by decide) (cok2 trivial trivial) ?_
      refine dv (gyes_none rfl) (q_loadA_sls (l := l) (i := i) Try.isAgg39 Try.sizeOf39 (s14.sls hL) segr_w rfl (by omega)) rfl (by decide) (cok1 trivial) ?_
      refine x_new (fun b => .pointer (some ⟨b, 0, none⟩)) s14 (gyes_none rfl) (q_alloc (vs := [.int .u64 0, .int .u64 0, .int .u64 0, .int .u64 0, .int .u64 0, .int .u64 0]) 6 Try.zeroValue39 (by first | exact flat_scalar rfl | exact flat_agg rfl) rfl) rfl (by decide) (by simp [Op.operands, Call.operands]) (fun b15 H16 hb18 s17 => ?_)
      refine x_store [] hF s17 (by kernel_rfl) (gyes_none rfl) (j := 0) (v := .agg #[.int .u64 (((nth l i).1 : Nat) : Int), .int .u64 (((nth l i).2.1 : Nat) : Int), .int .u64 (((nth l i).2.2.1 : Nat) : Int), .int .u64 (((nth l i).2.2.2.1 : Nat) : Int), .int .u64 (((nth l i).2.2.2.2.1 : Nat) : Int), .int .u64 (((nth l i).2.2.2.2.2 : Nat) : Int)]) rfl Try.sizeOf39 rfl rfl rfl rfl rfl trivial (lcsA ⟨(lc_scalar rfl), (lc_scalar rfl), (lc_scalar rfl), (lc_scalar rfl), (lc_scalar rfl), (lc_scalar rfl), trivial⟩) (Nat.le_of_ble_eq_true rfl) trivial trivial rfl rfl (F' := [(b15, .cells true [.int .u64 (((nth l i).1 : Nat) : Int), .int .u64 (((nth l i).2.1 : Nat) : Int), .int .u64 (((nth l i).2.2.1 : Nat) : Int), .int .u64 (((nth l i).2.2.2.1 : Nat) : Int), .int .u64 (((nth l i).2.2.2.2.1 : Nat) : Int), .int .u64 (((nth l i).2.2.2.2.2 : Nat) : Int)] 6)]) rfl (fun H19 s20 => ⟨?_, ?_⟩)
      · exact trivial
      refine ⟨_, Wk.refl _ _, ?_⟩
      show awp _ _ _ _ _ _ _
      refine awp_regt hF hM (by kernel_rfl) (by kernel_rfl) ?_
      refine dv (gyes_none rfl) (q_mv (v := .string o) rfl) rfl (by decide) (cok1 trivial) ?_
      refine dv (gyes_none rfl) (q_field Try.underlying39 rfl Try.sizeOf23 rfl (s20.rd (j := 0) rfl)) rfl (by decide) (cok1 trivial) ?_
      refine dv (gyes_none rfl) (q_load (v := .int .u64 (((nth l i).1 : Nat) : Int)) Try.isAgg23 rfl (s20.rd (j := 0) rfl) rfl) rfl (by decide) (cok1 trivial) ?_
      refine dv (gyes_none rfl) (q_call0 Try.call30 rfl (rput_ok ((nth l i).1) 4 (by omega) (by omega))) rfl (by decide) (call_ok rfl) ?_
      refine dv (gyes_none rfl) (q_field Try.underlying39 rfl Try.sizeOf23 rfl (s20.rd (j := 0) rfl)) rfl (by decide) (cok1 trivial) ?_
      refine dv (gyes_none rfl) (q_load (v := .int .u64 (((nth l i).2.1 : Nat) : Int)) Try.isAgg23 rfl (s20.rd (j := 0) rfl) rfl) rfl (by decide) (cok1 trivial) ?_
      refine dv (gyes_none rfl) (q_call0 Try.call30 rfl (rput_ok ((nth l i).2.1) 4 (by omega) (by omega))) rfl (by decide) (call_ok rfl) ?_
      refine dv (gyes_none rfl) (q_cat rfl rfl (by simp only [size_append, putB_size, zerosB_size, show magicB.size = 7 from rfl]; omega)) rfl (by decide) (cok2 trivial trivial) ?_
      refine dv (gyes_none rfl) (q_field Try.underlying39 rfl Try.sizeOf23 rfl (s20.rd (j := 0) rfl)) rfl (by decide) (cok1 trivial) ?_
      refine dv (gyes_none rfl) (q_load (v := .int .u64 (((nth l i).2.2.1 : Nat) : Int)) Try.isAgg23 rfl (s20.rd (j := 0) rfl) rfl) rfl (by decide) (cok1 trivial) ?_
      refine dv (gyes_none rfl) (q_call0 Try.call30 rfl (rput_ok ((nth l i).2.2.1) 8 (by omega) (by omega))) rfl (by decide) (call_ok rfl) ?_
      refine dv (gyes_none rfl) (q_cat rfl rfl (by simp only [size_append, putB_size, zerosB_size, show magicB.size = 7 from rfl]; omega)) rfl (by decide) (cok2 trivial trivial) ?_
      refine dv (gyes_none rfl) (q_field Try.underlying39 rfl Try.sizeOf23 rfl (s20.rd (j := 0) rfl)) rfl (by decide) (cok1 trivial) ?_
      refine dv (gyes_none rfl) (q_load (v := .int .u64 (((nth l i).2.2.2.1 : Nat) : Int)) Try.isAgg23 rfl (s20.rd (j := 0) rfl) rfl) rfl (by decide) (cok1 trivial) ?_
      refine dv (gyes_none rfl) (q_call0 Try.call30 rfl (rput_ok ((nth l i).2.2.2.1) 8 (by omega) (by omega))) rfl (by decide) (call_ok rfl) ?_
      refine dv (gyes_none rfl) (q_cat rfl rfl (by simp only [size_append, putB_size, zerosB_size, show magicB.size = 7 from rfl]; omega)) rfl (by decide) (cok2 trivial trivial) ?_
      refine x_new (fun b => .slice (some ⟨b, 0, none⟩) 8 8) s20 (gyes_none rfl) (q_makeSlice1 (len := 8) (m := 8) rfl Try.underlying71 Try.typeInfo5 rfl Try.zeroValue5 rfl rfl rfl rfl (by omega) (by omega) (by show 1 * _ ≤ _; omega) (vs := (List.replicate 8 (0 : UInt8)).map bytv) (by simp [bytv])) rfl (by decide) (cok2 (cconst rfl) (cconst rfl)) (fun b21 H22 hb24 s23 => ?_)
      refine dv (gyes_none rfl) (OpQ.cast (v' := .string (zerosB 8)) (q_bytesl (l := List.replicate 8 (0 : UInt8)) Try.underlying71 Try.underlying9 Try.underlying5 rfl (s23.rd (j := 0) rfl) rfl) rfl) rfl (by decide) (cok1 trivial) ?_
      refine dv (gyes_none rfl) (q_cat rfl rfl (by simp only [size_append, putB_size, zerosB_size, show magicB.size = 7 from rfl]; omega)) rfl (by decide) (cok2 trivial trivial) ?_
      refine dv (gyes_none rfl) (q_field Try.underlying39 rfl Try.sizeOf23 rfl (s23.rd (j := 1) rfl)) rfl (by decide) (cok1 trivial) ?_
      refine dv (gyes_none rfl) (q_load (v := .int .u64 (((nth l i).2.2.2.2.1 : Nat) : Int)) Try.isAgg23 rfl (s23.rd (j := 1) rfl) rfl) rfl (by decide) (cok1 trivial) ?_
      refine dv (gyes_none rfl) (q_call0 Try.call30 rfl (rput_ok ((nth l i).2.2.2.2.1) 8 (by omega) (by omega))) rfl (by decide) (call_ok rfl) ?_
      refine dv (gyes_none rfl) (q_cat rfl rfl (by simp only [size_append, putB_size, zerosB_size, show magicB.size = 7 from rfl]; omega)) rfl (by decide) (cok2 trivial trivial) ?_
      refine dv (gyes_none rfl) (q_field Try.underlying39 rfl Try.sizeOf23 rfl (s23.rd (j := 1) rfl)) rfl (by decide) (cok1 trivial) ?_
      refine dv (gyes_none rfl) (q_load (v := .int .u64 (((nth l i).2.2.2.2.2 : Nat) : Int)) Try.isAgg23 rfl (s23.rd (j := 1) rfl) rfl) rfl (by decide) (cok1 trivial) ?_
      refine dv (gyes_none rfl) (q_call0 Try.call30 rfl (rput_ok ((nth l i).2.2.2.2.2) 8 (by omega) (by omega))) rfl (by decide) (call_ok rfl) ?_
      refine dv (gyes_none rfl) (q_cat rfl rfl (by simp only [size_append, putB_size, zerosB_size, show magicB.size = 7 from rfl]; omega)) rfl (by decide) (cok2 trivial trivial) ?_
      refine x_new (fun b => .slice (some ⟨b, 0, none⟩) 8 8) s23 (gyes_none rfl) (q_makeSlice1 (len := 8) (m := 8) rfl Try.underlying71 Try.typeInfo5 rfl Try.zeroValue5 rfl rfl rfl rfl (by omega) (by omega) (by show 1 * _ ≤ _; omega) (vs := (List.replicate 8 (0 : UInt8)).map bytv) (by simp [bytv])) rfl (by decide) (cok2 (cconst rfl) (cconst rfl)) (fun b25 H26 hb28 s27 => ?_)
      refine dv (gyes_none rfl) (OpQ.cast (v' := .string (zerosB 8)) (q_bytesl (l := List.replicate 8 (0 : UInt8)) Try.underlying71 Try.underlying9 Try.underlying5 rfl (s27.rd (j := 0) rfl) rfl) rfl) rfl (by decide) (cok1 trivial) ?_
      refine dv (gyes_none rfl) (q_cat rfl rfl (by simp only [size_append, putB_size, zerosB_size, show magicB.size = 7 from rfl]; omega)) rfl (by decide) (cok2 trivial trivial) ?_
      refine dv (gyes_none rfl) (q_cat rfl rfl (by simp only [size_append, putB_size, zerosB_size, show magicB.size = 7 from rfl]; omega)) rfl (by decide) (cok2 trivial trivial) ?_
      refine dv (gyes_none rfl) (q_as (v := .string (o ++ ((((((((putB ((nth l i).1) 4) ++ (putB ((nth l i).2.1) 4)) ++ (putB ((nth l i).2.2.1) 8)) ++ (putB ((nth l i).2.2.2.1) 8)) ++ (zerosB 8)) ++ (putB ((nth l i).2.2.2.2.1) 8)) ++ (putB ((nth l i).2.2.2.2.2) 8)) ++ (zerosB 8)))) rfl) rfl (by decide) (cok1 trivial) ?_
      refine ⟨_, Wk.refl _ _, ?_⟩
      show awp _ _ _ _ _ _ _
      refine awp_regs hF ?_
      refine dv (gyes_none rfl) (q_mv (v := .int .i64 ((i : Nat) : Int)) rfl) rfl (by decide) (cok1 trivial) ?_
      refine dv (gyes_none rfl) (OpQ.cast (v' := .int .i64 ((i + 1 : Nat) : Int)) (q_int rfl rfl rfl) (congrArg _ ((i64_in (by omega)).trans (by first | rfl | omega | (push_cast; rfl))))) rfl (by decide) (cok2 trivial (cconst rfl)) ?_
      refine dv (gyes_none rfl) (q_as (v := .int .i64 ((i + 1 : Nat) : Int)) rfl) rfl (by decide) (cok1 trivial) ?_
      refine ⟨_, Wk.U [(1, vR), (2, vD), (7, .string (o ++ ((((((((putB ((nth l i).1) 4) ++ (putB ((nth l i).2.1) 4)) ++ (putB ((nth l i).2.2.1) 8)) ++ (putB ((nth l i).2.2.2.1) 8)) ++ (zerosB 8)) ++ (putB ((nth l i).2.2.2.2.1) 8)) ++ (putB ((nth l i).2.2.2.2.2) 8)) ++ (zerosB 8)))), (8, .int .i64 (((i + 1) : Nat) : Int))] ⟨rfl, rfl, rfl, rfl, trivial⟩, ((i + 1), (o ++ ((((((((putB ((nth l i).1) 4) ++ (putB ((nth l i).2.1) 4)) ++ (putB ((nth l i).2.2.1) 8)) ++ (putB ((nth l i).2.2.2.1) 8)) ++ (zerosB 8)) ++ (putB ((nth l i).2.2.2.2.1) 8)) ++ (putB ((nth l i).2.2.2.2.2) 8)) ++ (zerosB 8)))), ⟨_, rfl, (s27.sub (.cons _ (.cons _ (.cons _ (.refl _))))), ⟨by rw [ho.1]; rfl, by omega⟩⟩, (by omega)⟩
    ·
      replace c1 := of_decide_eq_false c1
      refine ⟨_, Wk.refl _ _, ?_⟩
      show awp _ _ _ _ _ _ _
      refine awp_cond_f rfl ?_
      refine awp_exit_wk ?_
      refine ⟨_, Wk.refl _ _, ?_⟩
      show awp _ _ _ _ _ _ _
      refine awp_seq ?_
      refine awp_seq ?_
      refine awp_regs hF ?_
      refine dv (gyes_none rfl) (q_as (v := .int .i64 0) rfl) rfl (by decide) (cok1 (cconst rfl)) ?_
      refine ⟨_, Wk.refl _ _, ?_⟩
      show awp _ _ _ _ _ _ _
      refine awp_block ?_
      refine awp_wk (Wk.U [(2, vD), (7, .string o), (10, .int .i64 0)] ⟨rfl, rfl, rfl, trivial⟩) ?_
      refine awp_loop (fun ((i2, o2) : Nat × ByteArray) st => ∃ (H29 : AHeap), st = ⟨94, U [(2, vD), (7, .string o2), (10, .int .i64 ((i2 : Nat) : Int))], [], H29⟩ ∧ St H0 (none0) (Rd H0) H29 [] ∧ (o2 = packD e l d i2 ∧ i2 ≤ d.length)) (fun ((i2, o2) : Nat × ByteArray) => d.length - i2) (x0 := (0, o)) ?h0 ?round
      case h0 =>
        exact ⟨_, rfl, s14, ⟨by rw [ho.1, show i = l.length by omega]; rfl, Nat.zero_le _⟩⟩
      case round =>
        rintro ⟨i2, o2⟩ _ ⟨H29, rfl, s30, ho2⟩
        dsimp only at *
        have hos2 : o2.size ≤ 64 + 56 * l.length + i2 * 1000 := by rw [ho2.1]; exact packD_size e l d hdb i2 (by omega)
        refine awp_seq ?_
        refine awp_seq ?_
        refine awp_regs hF ?_
        refine dv (gyes_none rfl) (q_mv (v := .int .i64 ((i2 : Nat) : Int)) rfl) rfl (by decide) (cok1 trivial) ?_
        refine dv (gyes_none rfl) (q_mv (v := vD) rfl) rfl (by decide) (cok1 trivial) ?_
        refine dv (gyes_none rfl) (q_len_sl (l := d) Try.underlying58 (s30.sl hD) rfl) rfl (by decide) (cok1 trivial) ?_
        refine dvb (gyes_none rfl) (q_int rfl rfl rfl) rfl (by decide) (cok2 trivial trivial) (fun c2 => ?_) (fun c2 => ?_)
        ·
          replace c2 := of_decide_eq_true c2
          have hdx := hdb _ (nthN_mem (l := d) (k := i2) (by omega))
          refine ⟨_, Wk.refl _ _, ?_⟩
          show awp _ _ _ _ _ _ _
          refine awp_cond_t rfl ?_
          refine awp_skip_wk ?_
          refine ⟨_, Wk.refl _ _, ?_⟩
          show awp _ _ _ _ _ _ _
          refine awp_seq ?_
          refine awp_block ?_
          refine awp_regs hF ?_
          refine dv (gyes_none rfl) (q_mv (v := .string o2) rfl) rfl (by decide) (cok1 trivial) ?_
          refine dv (gyes_none rfl) (q_mv (v := vD) rfl) rfl (by decide) (cok1 trivial) ?_
          refine dv (gyes_none rfl) (q_mv (v := .int .i64 ((i2 : Nat) : Int)) rfl) rfl (by decide) (cok1 trivial) ?_
          refine dv (gyes_none rfl) (q_index_sl (l := d) (i := i2) Try.underlying58 Try.sizeOf9 (s30.sl hD) rfl rfl (by omega)) rfl (by decide) (cok2 trivial trivial) ?_
          refine dv (gyes_none rfl) (q_load_sl (l := d) (i := i2) Try.isAgg9 (s30.sl hD) rfl (by omega)) rfl (by decide) (cok1 trivial) ?_
          refine dv (gyes_none rfl) (q_cat rfl rfl (by show _ ≤ _; omega)) rfl (by decide) (cok2 trivial trivial) ?_
          refine dv (gyes_none rfl) (q_as (v := .string (o2 ++ (nth d i2))) rfl) rfl (by decide) (cok1 trivial) ?_
          refine ⟨_, Wk.refl _ _, ?_⟩
          show awp _ _ _ _ _ _ _
          refine awp_regs hF ?_
          refine dv (gyes_none rfl) (q_mv (v := .int .i64 ((i2 : Nat) : Int)) rfl) rfl (by decide) (cok1 trivial) ?_
          refine dv (gyes_none rfl) (OpQ.cast (v' := .int .i64 ((i2 + 1 : Nat) : Int)) (q_int rfl rfl rfl) (congrArg _ ((i64_in (by omega)).trans (by first | rfl | omega | (push_cast; rfl))))) rfl (by decide) (cok2 trivial (cconst rfl)) ?_
          refine dv (gyes_none rfl) (q_as (v := .int .i64 ((i2 + 1 : Nat) : Int)) rfl) rfl (by decide) (cok1 trivial) ?_
          refine ⟨_, Wk.U [(2, vD), (7, .string (o2 ++ (nth d i2))), (10, .int .i64 (((i2 + 1) : Nat) : Int))] ⟨rfl, rfl, rfl, trivial⟩, ((i2 + 1), (o2 ++ (nth d i2))), ⟨_, rfl, s30, ⟨by rw [ho2.1]; rfl, by omega⟩⟩, (by omega)⟩
        ·
          replace c2 := of_decide_eq_false c2
          refine ⟨_, Wk.refl _ _, ?_⟩
          show awp _ _ _ _ _ _ _
          refine awp_cond_f rfl ?_
          refine awp_exit_wk ?_
          refine ⟨_, Wk.refl _ _, ?_⟩
          show awp _ _ _ _ _ _ _
          refine awp_seq ?_
          refine awp_regs hF ?_
          refine dv (gyes_none rfl) (q_mv (v := .string o2) rfl) rfl (by decide) (cok1 trivial) ?_
          refine dv (gyes_none rfl) (q_as (v := .string o2) rfl) rfl (by decide) (cok1 trivial) ?_
          refine ⟨_, Wk.refl _ _, ?_⟩
          show awp _ _ _ _ _ _ _
          refine awp_ret_wk ?_
          refine ⟨_, Wk.refl _ _, ?_⟩
          repeat (with_reducible first | refine then_ret ?_ | refine blk_ret ?_ | refine then_exit ?_ | refine blk_exit ?_ | refine blk_exit' (by decide) ?_ | refine blk_normal ?_ | refine then_normal ?_ | refine retq_ret ?_ | refine retq_normal ?_ | refine ng_normal ?_ | refine ng_ret ?_ | refine ng_exit ?_)
          exact ret_none (v := .string o2) rfl s30.kp (.tmp rfl .nil) rfl rfl ⟨by rw [ho2.1, show i2 = d.length by omega]; rfl, rfl⟩

end Go.Proofs.YthlanedmlccabaaA


/-
  Walks of functions of the given program, and what they compute.
-/
namespace Go.Proofs.YthlanedmlccabaaA
set_option linter.unusedVariables false
open Go Go.RowKit Go.Shelf Go.Proofs
theorem hrL_b {s : ByteArray} : ∀ x ∈ hrL s, x.1 < 4294967296 ∧ x.2.1 < 8 ∧ SgB x := fun x hx => by
  unfold hrL at hx
  split at hx
  · obtain ⟨k, _, rfl⟩ := List.mem_map.1 hx
    exact ⟨lt4 s _, Nat.mod_lt _ (by decide), sgK_b k⟩
  · cases hx
theorem hr_all {s : ByteArray} (h : hrC s = 0) : hdE s = 0 ∧ (∀ j, j < hdN s → badK s j = false) ∧ ldK s (hdN s) ≠ 0 := by
  have h0 : hdE s = 0 := by
    refine Decidable.byContradiction fun h1 => ?_
    rw [(hr_hd h1).1] at h; exact h1 h
  have hx : ∀ j, j < hdN s → badK s j = false := by
    intro j hj
    cases e : badK s j
    · rfl
    · exfalso
      have hlt : hrX s < hdN s ∧ badK s (hrX s) = true := by
        unfold hrX firstK
        cases e2 : (List.range (hdN s)).find? (badK s) with
        | none => exact absurd e (by rw [List.find?_eq_none.1 e2 j (List.mem_range.2 hj) |> Bool.eq_false_iff.2]; exact fun h => nomatch h)
        | some i => exact ⟨List.mem_range.1 (List.mem_of_find?_eq_some e2), List.find?_some e2⟩
      unfold hrC at h
      rw [if_neg (fun h => h h0), if_pos hlt.1] at h
      have := hlt.2
      unfold badK at this
      rw [h] at this
      exact nomatch this
  refine ⟨h0, hx, fun hl => ?_⟩
  rw [(hr_none h0 hx hl).1] at h
  exact nomatch h
theorem hrL_len {s : ByteArray} : (hrL s).length ≤ 16 := by
  unfold hrL
  split
  · rename_i h
    rw [lsK_len]; exact (hdN_yes (hr_all h).1).2.2.1
  · exact Nat.zero_le _
theorem badK_z {s : ByteArray} {k : Nat} (h : badK s k = false) : wrongC s (sgK s k) (endK s k) = 0 := by
  unfold badK at h
  exact bne_eq_false_iff_eq.1 h
theorem hrL_low {s : ByteArray} : LowL (hrL s) := fun x hx h1 => by
  unfold hrL at hx
  split at hx
  · rename_i h
    obtain ⟨k, hk, rfl⟩ := List.mem_map.1 hx
    exact (wrong_ld (badK_z ((hr_all h).2.1 k (List.mem_range.1 hk))) h1).2.2.2.1
  · cases hx
theorem hrL_in {s : ByteArray} : InB s (hrL s) := fun x hx => by
  unfold hrL at hx
  split at hx
  · rename_i h
    obtain ⟨k, hk, rfl⟩ := List.mem_map.1 hx
    exact wrong_in (badK_z ((hr_all h).2.1 k (List.mem_range.1 hk)))
  · cases hx
def spL : List Sg := [(1, 5, 120, 256, 2, 300)]
def sp0 : ByteArray := packB 7 spL [⟨#[97, 98]⟩]
theorem sp_w : ∀ x ∈ spL, SgW x := fun x hx => by
  rcases List.mem_cons.1 hx with rfl | hx
  · unfold SgW; decide
  · cases hx
theorem sp_C : hrC sp0 = 0 := by decide +kernel
theorem sp_A : hrA sp0 = 0 := by decide +kernel
theorem sp_E : hrE sp0 = 7 := by decide +kernel
theorem sp_B : hrB sp0 = sp0 := if_pos sp_C
theorem sp_L : hrL sp0 = spL := by decide +kernel
theorem sp_n : sp0.size ≤ 1000 := by decide +kernel
theorem sp_at : imgAt sp0 spL 257 3 = (⟨#[98, 0, 0]⟩, true) := by decide +kernel
theorem sp_p : imgP spL 512 = (5, true) := by decide +kernel
theorem sp_e : endL spL spL.length = 768 := by decide +kernel
theorem sp_low : LowL spL := sp_L ▸ hrL_low
theorem sp_in : InB sp0 spL := sp_L ▸ hrL_in
theorem spRead {H0 : AHeap} : ACalls Try.prog 8 [.string sp0] H0 (fun v H' => ∃ vL, v = .tuple #[.agg #[.string sp0, .int .u64 7, vL], .agg #[.int .i64 0, .int .u64 0, .string ⟨#[]⟩]] ∧ FreshS segc 6 spL H0 vL H') := by
  have h := read_ok (H0 := H0) sp0 (Nat.le_trans sp_n (by decide))
  rw [sp_B, sp_E, sp_L, sp_C, sp_A] at h
  exact h
set_option maxRecDepth 100000 in
set_option maxHeartbeats 4000000 in
theorem speaks_ok {H0 : AHeap}  : ACalls Try.prog 7 [] H0 (Rets (.bool true) H0) := by
  have hF : Wd Fence.wide := .inl rfl
  have hM : Try.prog.follows .mixedOrders = true := by kernel_rfl
  have s0 := St.begin H0
  refine acalls_st Try.func7 rfl Try.ntmps7 rfl ?_
  refine awp_seq ?_
  refine awp_regs hF ?_
  refine dv (gyes_none rfl) (q_as (v := .bool false) rfl) rfl (by decide) (cok1 (cconst rfl)) ?_
  refine ⟨_, Wk.refl _ _, ?_⟩
  show awp _ _ _ _ _ _ _
  refine awp_seq ?_
  refine awp_regs hF ?_
  refine dv (gyes_none rfl) (q_buildL (ds := [.int .u64 1, .int .u64 5, .int .u64 120, .int .u64 256, .int .u64 2, .int .u64 300]) [(0, 1), (1, 1), (2, 1), (3, 1), (4, 1), (5, 1)] [.int .u64 1, .int .u64 5, .int .u64 120, .int .u64 256, .int .u64 2, .int .u64 300] Try.underlying39 Try.zeroValue39 (by first | exact flat_agg rfl | exact flat_scalar rfl) (by kernel_rfl) ⟨rfl, rfl, rfl, rfl, rfl, rfl, trivial⟩ (lvsC (by exact trivial) (lvsC (by exact trivial) (lvsC (by exact trivial) (lvsC (by exact trivial) (lvsC (by exact trivial) (lvsC (by exact trivial) lvs0)))))) rfl) rfl (by decide) (call_ok rfl) ?_
  refine x_new (fun b => .slice (some ⟨b, 0, none⟩) 1 1) s0 (gyes_none rfl) (q_buildSliceL (ds := [.int .u64 1, .int .u64 5, .int .u64 120, .int .u64 256, .int .u64 2, .int .u64 300]) [.agg #[.int .u64 1, .int .u64 5, .int .u64 120, .int .u64 256, .int .u64 2, .int .u64 300]] rfl Try.underlying32 Try.sizeOf39 Try.zeroValue39 rfl (by decide) (by decide) ⟨rfl, trivial⟩ (lvsC (by exact trivial) lvs0) rfl rfl) rfl (by decide) (cok1 trivial) (fun b1 H2 hb4 s3 => ?_)
  refine x_new (fun b => .slice (some ⟨b, 0, none⟩) 1 1) s3 (gyes_none rfl) (q_buildSliceL (ds := [.string (⟨#[97, 98]⟩ : ByteArray)]) [.string (⟨#[97, 98]⟩ : ByteArray)] rfl Try.underlying58 Try.sizeOf9 Try.zeroValue9 rfl (by decide) (by decide) ⟨rfl, trivial⟩ (lvsC (by exact trivial) lvs0) rfl rfl) rfl (by decide) (cok1 (cconst rfl)) (fun b5 H6 hb8 s7 => ?_)
  refine dv (gyes_none rfl) (q_call0 Try.call18 rfl (pack_ok 7 (by decide) _ _ spL [⟨#[97, 98]⟩] (s7.slsj (l := spL) segr_w (j := 1) rfl rfl (Nat.le_refl _)) (s7.slj (l := [(⟨#[97, 98]⟩ : ByteArray)]) (f := strv) (j := 0) rfl rfl (Nat.le_refl _)) (by decide) (by decide) sp_w (by decide))) rfl (by decide) (call_ok rfl) ?_
  refine dv (gyes_none rfl) (q_as (v := .string sp0) rfl) rfl (by decide) (cok1 trivial) ?_
  refine ⟨_, Wk.refl _ _, ?_⟩
  show awp _ _ _ _ _ _ _
  refine awp_seq ?_
  refine awp_regs hF ?_
  refine dv (gyes_none rfl) (q_mv (v := .string sp0) rfl) rfl (by decide) (cok1 trivial) ?_
  refine x_call [] hF (by kernel_rfl) (gyes_none rfl) Try.call8 rfl (args := [.string sp0]) rfl (spRead) (show _ < _ by decide) (call_ok rfl) rfl rfl (fun _ _ _ _ hd => by cases hd) ?_
  rintro _ H10 ⟨_, rfl, hk11, b9, rfl, hb12, hg13⟩
  have s14 := s7.callN hk11 hb12 hg13
  refine ⟨trivial, ?_⟩
  show dList _ _ _ _ _ _ _ _ _ _
  refine dv (gyes_none rfl) (q_mv (v := .tuple #[.agg #[.string sp0, .int .u64 7, .slice (some ⟨b9, 0, none⟩) spL.length spL.length], .agg #[.int .i64 0, .int .u64 0, .string (⟨#[]⟩ : ByteArray)]]) rfl) rfl (by decide) (cok1 trivial) ?_
  refine dv (gyes_none rfl) (q_extract (v := .agg #[.string sp0, .int .u64 7, .slice (some ⟨b9, 0, none⟩) spL.length spL.length]) rfl rfl) rfl (by decide) (cok1 trivial) ?_
  refine dv (gyes_none rfl) (q_extract (v := .agg #[.int .i64 0, .int .u64 0, .string (⟨#[]⟩ : ByteArray)]) rfl rfl) rfl (by decide) (cok1 trivial) ?_
  refine x_new (fun b => .pointer (some ⟨b, 0, none⟩)) s14 (gyes_none rfl) (q_alloc (vs := [.string ⟨#[]⟩, .int .u64 0, .slice none 0 0]) 3 Try.zeroValue26 (by first | exact flat_scalar rfl | exact flat_agg rfl) rfl) rfl (by decide) (by simp [Op.operands, Call.operands]) (fun b15 H16 hb18 s17 => ?_)
  refine x_new (fun b => .pointer (some ⟨b, 0, none⟩)) s17 (gyes_none rfl) (q_alloc (vs := [.int .i64 0, .int .u64 0, .string ⟨#[]⟩]) 3 Try.zeroValue29 (by first | exact flat_scalar rfl | exact flat_agg rfl) rfl) rfl (by decide) (by simp [Op.operands, Call.operands]) (fun b19 H20 hb22 s21 => ?_)
  refine x_store [] hF s21 (by kernel_rfl) (gyes_none rfl) (j := 1) (v := .agg #[.string sp0, .int .u64 7, .slice (some ⟨b9, 0, none⟩) spL.length spL.length]) rfl Try.sizeOf26 rfl rfl rfl rfl rfl trivial (lcsA ⟨(lc_scalar rfl), (lc_scalar rfl), (lc_slice (s21.live (j := 2) rfl)), trivial⟩) (Nat.le_of_ble_eq_true rfl) trivial trivial rfl rfl (F' := [(b19, .cells true [.int .i64 0, .int .u64 0, .string ⟨#[]⟩] 3), (b15, .cells true [.string sp0, .int .u64 7, .slice (some ⟨b9, 0, none⟩) spL.length spL.length] 3), (b9, .cells true (fl segc spL) 6), (b5, .cells true [.string (⟨#[97, 98]⟩ : ByteArray)] 1), (b1, .cells true [.int .u64 1, .int .u64 5, .int .u64 120, .int .u64 256, .int .u64 2, .int .u64 300] 6)]) rfl (fun H23 s24 => ⟨?_, ?_⟩)
  · exact trivial
  refine x_store [] hF s24 (by kernel_rfl) (gyes_none rfl) (j := 0) (v := .agg #[.int .i64 0, .int .u64 0, .string (⟨#[]⟩ : ByteArray)]) rfl Try.sizeOf29 rfl rfl rfl rfl rfl trivial (lcsA ⟨(lc_scalar rfl), (lc_scalar rfl), (lc_scalar rfl), trivial⟩) (Nat.le_of_ble_eq_true rfl) trivial trivial rfl rfl (F' := [(b19, .cells true [.int .i64 0, .int .u64 0, .string (⟨#[]⟩ : ByteArray)] 3), (b15, .cells true [.string sp0, .int .u64 7, .slice (some ⟨b9, 0, none⟩) spL.length spL.length] 3), (b9, .cells true (fl segc spL) 6), (b5, .cells true [.string (⟨#[97, 98]⟩ : ByteArray)] 1), (b1, .cells true [.int .u64 1, .int .u64 5, .int .u64 120, .int .u64 256, .int .u64 2, .int .u64 300] 6)]) rfl (fun H25 s26 => ⟨?_, ?_⟩)
  · exact trivial
  refine ⟨_, Wk.refl _ _, ?_⟩
  show awp _ _ _ _ _ _ _
  refine awp_seq ?_
  refine awp_regs hF ?_
  refine dv (gyes_none rfl) (q_loadAgg Try.isAgg26 Try.sizeOf26 rfl (s26.rd (j := 1) rfl) (Nat.le_of_ble_eq_true rfl) rfl) rfl (by decide) (cok1 trivial) ?_
  refine dv (gyes_none rfl) (q_call0 Try.call12 rfl (ACalls.castV (imgAt_ok sp0 7 257 3 (by decide) (by decide) _ spL (Nat.le_trans sp_n (by decide)) (s26.slsj (l := spL) segc_w (j := 2) rfl rfl (Nat.le_refl _)) (by decide) sp_low sp_in) (by rw [sp_at]))) rfl (by decide) (call_ok rfl) ?_
  refine dv (gyes_none rfl) (q_mv (v := .tuple #[.string (⟨#[98, 0, 0]⟩ : ByteArray), .bool true]) rfl) rfl (by decide) (cok1 trivial) ?_
  refine dv (gyes_none rfl) (q_extract (v := .string (⟨#[98, 0, 0]⟩ : ByteArray)) rfl rfl) rfl (by decide) (cok1 trivial) ?_
  refine dv (gyes_none rfl) (q_extract (v := .bool true) rfl rfl) rfl (by decide) (cok1 trivial) ?_
  refine dv (gyes_none rfl) (q_as (v := .string (⟨#[98, 0, 0]⟩ : ByteArray)) rfl) rfl (by decide) (cok1 trivial) ?_
  refine dv (gyes_none rfl) (q_as (v := .bool true) rfl) rfl (by decide) (cok1 trivial) ?_
  refine ⟨_, Wk.refl _ _, ?_⟩
  show awp _ _ _ _ _ _ _
  refine awp_seq ?_
  refine awp_regs hF ?_
  refine dv (gyes_none rfl) (q_loadAgg Try.isAgg26 Try.sizeOf26 rfl (s26.rd (j := 1) rfl) (Nat.le_of_ble_eq_true rfl) rfl) rfl (by decide) (cok1 trivial) ?_
  refine dv (gyes_none rfl) (q_call0 Try.call14 rfl (ACalls.castV (perm_ok sp0 7 512 _ spL (s26.slsj (l := spL) segc_w (j := 2) rfl rfl (Nat.le_refl _)) (by decide) sp_low) (by rw [sp_p]))) rfl (by decide) (call_ok rfl) ?_
  refine dv (gyes_none rfl) (q_mv (v := .tuple #[.int .i64 5, .bool true]) rfl) rfl (by decide) (cok1 trivial) ?_
  refine dv (gyes_none rfl) (q_extract (v := .int .i64 5) rfl rfl) rfl (by decide) (cok1 trivial) ?_
  refine dv (gyes_none rfl) (q_extract (v := .bool true) rfl rfl) rfl (by decide) (cok1 trivial) ?_
  refine dv (gyes_none rfl) (q_as (v := .int .i64 5) rfl) rfl (by decide) (cok1 trivial) ?_
  refine dv (gyes_none rfl) (q_as (v := .bool true) rfl) rfl (by decide) (cok1 trivial) ?_
  refine ⟨_, Wk.refl _ _, ?_⟩
  show awp _ _ _ _ _ _ _
  refine awp_seq ?_
  refine awp_regs hF ?_
  refine dv (gyes_none rfl) (q_loadAgg Try.isAgg29 Try.sizeOf29 rfl (s26.rd (j := 0) rfl) (Nat.le_of_ble_eq_true rfl) rfl) rfl (by decide) (cok1 trivial) ?_
  refine dv (gyes_none rfl) (q_call0 Try.call11 rfl (ACalls.castV (faultOK_ok 0 0 (⟨#[]⟩ : ByteArray)) (congrArg Value.bool rfl))) rfl (by decide) (cok2 trivial trivial) ?_
  refine dv (gyes_none rfl) (q_mv (v := .bool true) rfl) rfl (by decide) (cok1 trivial) ?_
  refine dv (gyes_some rfl rfl) (q_field Try.underlying26 rfl Try.sizeOf23 rfl (s26.rd (j := 1) rfl)) rfl (by decide) (cok1 trivial) ?_
  refine dv (gyes_some rfl rfl) (q_load (v := .int .u64 7) Try.isAgg23 rfl (s26.rd (j := 1) rfl) rfl) rfl (by decide) (cok1 trivial) ?_
  refine dv (gyes_some rfl rfl) (OpQ.cast (v' := .bool true) (q_int rfl rfl rfl) (congrArg Value.bool (beq_self_eq_true _))) rfl (by decide) (cok2 trivial (cconst rfl)) ?_
  refine dv (gyes_none rfl) (q_pt (v := .bool true) rfl rfl) rfl (by decide) (call_ok rfl) ?_
  refine dv (gyes_none rfl) (q_mv (v := .bool true) rfl) rfl (by decide) (cok1 trivial) ?_
  refine dv (gyes_some rfl rfl) (q_field Try.underlying26 rfl Try.sizeOf24 rfl (s26.rd (j := 1) rfl)) rfl (by decide) (cok1 trivial) ?_
  refine dv (gyes_some rfl rfl) (q_load (v := .slice (some ⟨b9, 0, none⟩) spL.length spL.length) Try.isAgg24 rfl (s26.rd (j := 1) rfl) rfl) rfl (by decide) (cok1 trivial) ?_
  refine dv (gyes_some rfl rfl) (q_len_slice Try.underlying24 rfl (s26.rd (j := 2) rfl)) rfl (by decide) (cok1 trivial) ?_
  refine dv (gyes_some rfl rfl) (OpQ.cast (v' := .bool true) (q_int rfl rfl rfl) (congrArg Value.bool rfl)) rfl (by decide) (cok2 trivial (cconst rfl)) ?_
  refine dv (gyes_none rfl) (q_pt (v := .bool true) rfl rfl) rfl (by decide) (call_ok rfl) ?_
  refine dv (gyes_none rfl) (q_mv (v := .bool true) rfl) rfl (by decide) (cok1 trivial) ?_
  refine dv (gyes_some rfl rfl) (q_loadAgg Try.isAgg26 Try.sizeOf26 rfl (s26.rd (j := 1) rfl) (Nat.le_of_ble_eq_true rfl) rfl) rfl (by decide) (cok1 trivial) ?_
  refine dv (gyes_some rfl rfl) (q_call0 Try.call15 rfl (ACalls.castV (v' := .int .i64 3) (pages_ok sp0 7 _ spL (s26.slsj (l := spL) segc_w (j := 2) rfl rfl (Nat.le_refl _)) (by decide) sp_low) (by rw [sp_e]; rfl))) rfl (by decide) (cok2 trivial trivial) ?_
  refine dv (gyes_some rfl rfl) (OpQ.cast (v' := .bool true) (q_int rfl rfl rfl) (congrArg Value.bool (beq_self_eq_true _))) rfl (by decide) (cok2 trivial (cconst rfl)) ?_
  refine dv (gyes_none rfl) (q_pt (v := .bool true) rfl rfl) rfl (by decide) (call_ok rfl) ?_
  refine dv (gyes_none rfl) (q_mv (v := .bool true) rfl) rfl (by decide) (cok1 trivial) ?_
  refine dv (gyes_some rfl rfl) (q_mv (v := .bool true) rfl) rfl (by decide) (cok1 trivial) ?_
  refine dv (gyes_none rfl) (q_pt (v := .bool true) rfl rfl) rfl (by decide) (call_ok rfl) ?_
  refine dv (gyes_none rfl) (q_mv (v := .bool true) rfl) rfl (by decide) (cok1 trivial) ?_
  refine dv (gyes_some rfl rfl) (q_mv (v := .string (⟨#[98, 0, 0]⟩ : ByteArray)) rfl) rfl (by decide) (cok1 trivial) ?_
  refine dv (gyes_some rfl rfl) (OpQ.cast (v' := .bool true) (q_streq rfl rfl) (congrArg Value.bool rfl)) rfl (by decide) (cok2 trivial (cconst rfl)) ?_
  refine dv (gyes_none rfl) (q_pt (v := .bool true) rfl rfl) rfl (by decide) (call_ok rfl) ?_
  refine dv (gyes_none rfl) (q_mv (v := .bool true) rfl) rfl (by decide) (cok1 trivial) ?_
  refine dv (gyes_some rfl rfl) (q_mv (v := .bool true) rfl) rfl (by decide) (cok1 trivial) ?_
  refine dv (gyes_none rfl) (q_pt (v := .bool true) rfl rfl) rfl (by decide) (call_ok rfl) ?_
  refine dv (gyes_none rfl) (q_mv (v := .bool true) rfl) rfl (by decide) (cok1 trivial) ?_
  refine dv (gyes_some rfl rfl) (q_mv (v := .int .i64 5) rfl) rfl (by decide) (cok1 trivial) ?_
  refine dv (gyes_some rfl rfl) (OpQ.cast (v' := .bool true) (q_int rfl rfl rfl) (congrArg Value.bool (beq_self_eq_true _))) rfl (by decide) (cok2 trivial (cconst rfl)) ?_
  refine dv (gyes_none rfl) (q_pt (v := .bool true) rfl rfl) rfl (by decide) (call_ok rfl) ?_
  refine dv (gyes_none rfl) (q_as (v := .bool true) rfl) rfl (by decide) (cok1 trivial) ?_
  refine ⟨_, Wk.refl _ _, ?_⟩
  show awp _ _ _ _ _ _ _
  refine awp_ret_wk ?_
  refine ⟨_, Wk.refl _ _, ?_⟩
  repeat (with_reducible first | refine then_ret ?_ | refine blk_ret ?_ | refine then_exit ?_ | refine blk_exit ?_ | refine blk_exit' (by decide) ?_ | refine blk_normal ?_ | refine then_normal ?_ | refine retq_ret ?_ | refine retq_normal ?_ | refine ng_normal ?_ | refine ng_ret ?_ | refine ng_exit ?_)
  exact ret_none (v := .bool true) rfl s26.kp (.tmp rfl .nil) rfl rfl ⟨rfl, rfl⟩
set_option maxRecDepth 100000 in
set_option maxHeartbeats 4000000 in
theorem headReads_ok {H0 : AHeap} (s : ByteArray) (hs : s.size ≤ 140737488355328) : ACalls Try.prog 3 [.string s] H0 (Rets (.bool true) H0) := by
  have hF : Wd Fence.wide := .inl rfl
  have hM : Try.prog.follows .mixedOrders = true := by kernel_rfl
  have hln := hrL_len (s := s)
  have s0 := St.begin H0
  refine acalls_st Try.func3 rfl Try.ntmps3 rfl ?_
  refine awp_seq ?_
  refine awp_regs hF ?_
  refine dv (gyes_none rfl) (q_as (v := .bool false) rfl) rfl (by decide) (cok1 (cconst rfl)) ?_
  refine ⟨_, Wk.refl _ _, ?_⟩
  show awp _ _ _ _ _ _ _
  refine awp_seq ?_
  refine awp_seq ?_
  refine awp_regs hF ?_
  refine dv (gyes_none rfl) (q_call0 Try.call7 rfl (speaks_ok)) rfl (by decide) (cok1 trivial) ?_
  refine dv (gyes_none rfl) (q_not (b := true) rfl) rfl (by decide) (cok1 trivial) ?_
  refine ⟨_, Wk.refl _ _, ?_⟩
  show awp _ _ _ _ _ _ _
  refine awp_cond_f rfl ?_
  refine awp_skip_wk ?_
  refine ⟨_, Wk.refl _ _, ?_⟩
  show awp _ _ _ _ _ _ _
  refine awp_seq ?_
  refine awp_regs hF ?_
  refine dv (gyes_none rfl) (q_mv (v := .string s) rfl) rfl (by decide) (cok1 trivial) ?_
  refine x_call [] hF (by kernel_rfl) (gyes_none rfl) Try.call8 rfl (args := [.string s]) rfl (read_ok s (by omega)) (show _ < _ by decide) (call_ok rfl) rfl rfl (fun _ _ _ _ hd => by cases hd) ?_
  rintro _ H2 ⟨_, rfl, hk3, b1, rfl, hb4, hg5⟩
  have s6 := s0.callN hk3 hb4 hg5
  refine ⟨trivial, ?_⟩
  show dList _ _ _ _ _ _ _ _ _ _
  refine dv (gyes_none rfl) (q_mv (v := .tuple #[.agg #[.string (hrB s), .int .u64 ((hrE s : Nat) : Int), .slice (some ⟨b1, 0, none⟩) ((hrL s).length) ((hrL s).length)], .agg #[.int .i64 ((hrC s : Nat) : Int), .int .u64 ((hrA s : Nat) : Int), .string (⟨#[]⟩ : ByteArray)]]) rfl) rfl (by decide) (cok1 trivial) ?_
  refine dv (gyes_none rfl) (q_extract (v := .agg #[.string (hrB s), .int .u64 ((hrE s : Nat) : Int), .slice (some ⟨b1, 0, none⟩) ((hrL s).length) ((hrL s).length)]) rfl rfl) rfl (by decide) (cok1 trivial) ?_
  refine dv (gyes_none rfl) (q_extract (v := .agg #[.int .i64 ((hrC s : Nat) : Int), .int .u64 ((hrA s : Nat) : Int), .string (⟨#[]⟩ : ByteArray)]) rfl rfl) rfl (by decide) (cok1 trivial) ?_
  refine x_new (fun b => .pointer (some ⟨b, 0, none⟩)) s6 (gyes_none rfl) (q_alloc (vs := [.string ⟨#[]⟩, .int .u64 0, .slice none 0 0]) 3 Try.zeroValue26 (by first | exact flat_scalar rfl | exact flat_agg rfl) rfl) rfl (by decide) (by simp [Op.operands, Call.operands]) (fun b7 H8 hb10 s9 => ?_)
  refine x_new (fun b => .pointer (some ⟨b, 0, none⟩)) s9 (gyes_none rfl) (q_alloc (vs := [.int .i64 0, .int .u64 0, .string ⟨#[]⟩]) 3 Try.zeroValue29 (by first | exact flat_scalar rfl | exact flat_agg rfl) rfl) rfl (by decide) (by simp [Op.operands, Call.operands]) (fun b11 H12 hb14 s13 => ?_)
  refine x_store [] hF s13 (by kernel_rfl) (gyes_none rfl) (j := 1) (v := .agg #[.string (hrB s), .int .u64 ((hrE s : Nat) : Int), .slice (some ⟨b1, 0, none⟩) ((hrL s).length) ((hrL s).length)]) rfl Try.sizeOf26 rfl rfl rfl rfl rfl trivial (lcsA ⟨(lc_scalar rfl), (lc_scalar rfl), (lc_slice (s13.live (j := 2) rfl)), trivial⟩) (Nat.le_of_ble_eq_true rfl) trivial trivial rfl rfl (F' := [(b11, .cells true [.int .i64 0, .int .u64 0, .string ⟨#[]⟩] 3), (b7, .cells true [.string (hrB s), .int .u64 ((hrE s : Nat) : Int), .slice (some ⟨b1, 0, none⟩) ((hrL s).length) ((hrL s).length)] 3), (b1, .cells true (fl segc (hrL s)) 6)]) rfl (fun H15 s16 => ⟨?_, ?_⟩)
  · exact trivial
  refine x_store [] hF s16 (by kernel_rfl) (gyes_none rfl) (j := 0) (v := .agg #[.int .i64 ((hrC s : Nat) : Int), .int .u64 ((hrA s : Nat) : Int), .string (⟨#[]⟩ : ByteArray)]) rfl Try.sizeOf29 rfl rfl rfl rfl rfl trivial (lcsA ⟨(lc_scalar rfl), (lc_scalar rfl), (lc_scalar rfl), trivial⟩) (Nat.le_of_ble_eq_true rfl) trivial trivial rfl rfl (F' := [(b11, .cells true [.int .i64 ((hrC s : Nat) : Int), .int .u64 ((hrA s : Nat) : Int), .string (⟨#[]⟩ : ByteArray)] 3), (b7, .cells true [.string (hrB s), .int .u64 ((hrE s : Nat) : Int), .slice (some ⟨b1, 0, none⟩) ((hrL s).length) ((hrL s).length)] 3), (b1, .cells true (fl segc (hrL s)) 6)]) rfl (fun H17 s18 => ⟨?_, ?_⟩)
  · exact trivial
  refine ⟨_, Wk.refl _ _, ?_⟩
  show awp _ _ _ _ _ _ _
  refine awp_seq ?_
  refine awp_regs hF ?_
  refine dv (gyes_none rfl) (q_mv (v := .string s) rfl) rfl (by decide) (cok1 trivial) ?_
  refine x_call [] hF (by kernel_rfl) (gyes_none rfl) Try.call9 rfl (args := [.string s]) rfl (refRead_ok s (by omega)) (show _ < _ by decide) (call_ok rfl) rfl rfl (fun _ _ _ _ hd => by cases hd) ?_
  rintro _ H20 ⟨_, rfl, hk21, b19, rfl, hb22, hg23⟩
  have s24 := s18.callN hk21 hb22 hg23
  refine ⟨trivial, ?_⟩
  show dList _ _ _ _ _ _ _ _ _ _
  refine dv (gyes_none rfl) (q_mv (v := .tuple #[.int .u64 ((hrE s : Nat) : Int), .slice (some ⟨b19, 0, none⟩) ((hrL s).length) ((hrL s).length), .int .i64 ((hrC s : Nat) : Int), .int .u64 ((hrA s : Nat) : Int)]) rfl) rfl (by decide) (cok1 trivial) ?_
  refine dv (gyes_none rfl) (q_extract (v := .int .u64 ((hrE s : Nat) : Int)) rfl rfl) rfl (by decide) (cok1 trivial) ?_
  refine dv (gyes_none rfl) (q_extract (v := .slice (some ⟨b19, 0, none⟩) ((hrL s).length) ((hrL s).length)) rfl rfl) rfl (by decide) (cok1 trivial) ?_
  refine dv (gyes_none rfl) (q_extract (v := .int .i64 ((hrC s : Nat) : Int)) rfl rfl) rfl (by decide) (cok1 trivial) ?_
  refine dv (gyes_none rfl) (q_extract (v := .int .u64 ((hrA s : Nat) : Int)) rfl rfl) rfl (by decide) (cok1 trivial) ?_
  refine dv (gyes_none rfl) (q_as (v := .int .u64 ((hrE s : Nat) : Int)) rfl) rfl (by decide) (cok1 trivial) ?_
  refine dv (gyes_none rfl) (q_as (v := .slice (some ⟨b19, 0, none⟩) ((hrL s).length) ((hrL s).length)) rfl) rfl (by decide) (cok1 trivial) ?_
  refine dv (gyes_none rfl) (q_as (v := .int .i64 ((hrC s : Nat) : Int)) rfl) rfl (by decide) (cok1 trivial) ?_
  refine dv (gyes_none rfl) (q_as (v := .int .u64 ((hrA s : Nat) : Int)) rfl) rfl (by decide) (cok1 trivial) ?_
  refine ⟨_, Wk.refl _ _, ?_⟩
  show awp _ _ _ _ _ _ _
  refine awp_seq ?_
  refine awp_seq ?_
  refine awp_regs hF ?_
  refine dv (gyes_none rfl) (q_field Try.underlying29 rfl Try.sizeOf27 rfl (s24.rd (j := 1) rfl)) rfl (by decide) (cok1 trivial) ?_
  refine dv (gyes_none rfl) (q_load (v := .int .i64 ((hrC s : Nat) : Int)) Try.isAgg27 rfl (s24.rd (j := 1) rfl) rfl) rfl (by decide) (cok1 trivial) ?_
  refine dv (gyes_none rfl) (q_mv (v := .int .i64 ((hrC s : Nat) : Int)) rfl) rfl (by decide) (cok1 trivial) ?_
  refine dv (gyes_none rfl) (OpQ.cast (v' := .bool false) (q_int rfl rfl rfl) (congrArg Value.bool (bne_self_eq_false _))) rfl (by decide) (cok2 trivial trivial) ?_
  refine dv (gyes_none rfl) (q_mv (v := .bool false) rfl) rfl (by decide) (cok1 trivial) ?_
  refine dv (gyes_some rfl rfl) (q_field Try.underlying29 rfl Try.sizeOf23 rfl (s24.rd (j := 1) rfl)) rfl (by decide) (cok1 trivial) ?_
  refine dv (gyes_some rfl rfl) (q_load (v := .int .u64 ((hrA s : Nat) : Int)) Try.isAgg23 rfl (s24.rd (j := 1) rfl) rfl) rfl (by decide) (cok1 trivial) ?_
  refine dv (gyes_some rfl rfl) (q_mv (v := .int .u64 ((hrA s : Nat) : Int)) rfl) rfl (by decide) (cok1 trivial) ?_
  refine dv (gyes_some rfl rfl) (OpQ.cast (v' := .bool false) (q_int rfl rfl rfl) (congrArg Value.bool (bne_self_eq_false _))) rfl (by decide) (cok2 trivial trivial) ?_
  refine dv (gyes_none rfl) (q_pf (v := .bool false) rfl rfl) rfl (by decide) (call_ok rfl) ?_
  refine dv (gyes_none rfl) (q_mv (v := .bool false) rfl) rfl (by decide) (cok1 trivial) ?_
  refine dv (gyes_some rfl rfl) (q_field Try.underlying29 rfl Try.sizeOf9 rfl (s24.rd (j := 1) rfl)) rfl (by decide) (cok1 trivial) ?_
  refine dv (gyes_some rfl rfl) (q_load (v := .string (⟨#[]⟩ : ByteArray)) Try.isAgg9 rfl (s24.rd (j := 1) rfl) rfl) rfl (by decide) (cok1 trivial) ?_
  refine dv (gyes_some rfl rfl) (OpQ.cast (v' := .bool false) (q_strne rfl rfl) (congrArg Value.bool rfl)) rfl (by decide) (cok2 trivial (cconst rfl)) ?_
  refine dv (gyes_none rfl) (q_pf (v := .bool false) rfl rfl) rfl (by decide) (call_ok rfl) ?_
  refine dv (gyes_none rfl) (q_mv (v := .bool false) rfl) rfl (by decide) (cok1 trivial) ?_
  refine dv (gyes_some rfl rfl) (q_field Try.underlying26 rfl Try.sizeOf23 rfl (s24.rd (j := 2) rfl)) rfl (by decide) (cok1 trivial) ?_
  refine dv (gyes_some rfl rfl) (q_load (v := .int .u64 ((hrE s : Nat) : Int)) Try.isAgg23 rfl (s24.rd (j := 2) rfl) rfl) rfl (by decide) (cok1 trivial) ?_
  refine dv (gyes_some rfl rfl) (q_mv (v := .int .u64 ((hrE s : Nat) : Int)) rfl) rfl (by decide) (cok1 trivial) ?_
  refine dv (gyes_some rfl rfl) (OpQ.cast (v' := .bool false) (q_int rfl rfl rfl) (congrArg Value.bool (bne_self_eq_false _))) rfl (by decide) (cok2 trivial trivial) ?_
  refine dv (gyes_none rfl) (q_pf (v := .bool false) rfl rfl) rfl (by decide) (call_ok rfl) ?_
  refine dv (gyes_none rfl) (q_mv (v := .bool false) rfl) rfl (by decide) (cok1 trivial) ?_
  refine dv (gyes_some rfl rfl) (q_field Try.underlying26 rfl Try.sizeOf24 rfl (s24.rd (j := 2) rfl)) rfl (by decide) (cok1 trivial) ?_
  refine dv (gyes_some rfl rfl) (q_load (v := .slice (some ⟨b1, 0, none⟩) ((hrL s).length) ((hrL s).length)) Try.isAgg24 rfl (s24.rd (j := 2) rfl) rfl) rfl (by decide) (cok1 trivial) ?_
  refine dv (gyes_some rfl rfl) (q_len_slice Try.underlying24 rfl (s24.rd (j := 3) rfl)) rfl (by decide) (cok1 trivial) ?_
  refine dv (gyes_some rfl rfl) (q_mv (v := .slice (some ⟨b19, 0, none⟩) ((hrL s).length) ((hrL s).length)) rfl) rfl (by decide) (cok1 trivial) ?_
  refine dv (gyes_some rfl rfl) (q_len_slice Try.underlying32 rfl (s24.rd (j := 0) rfl)) rfl (by decide) (cok1 trivial) ?_
  refine dv (gyes_some rfl rfl) (OpQ.cast (v' := .bool false) (q_int rfl rfl rfl) (congrArg Value.bool (bne_self_eq_false _))) rfl (by decide) (cok2 trivial trivial) ?_
  refine dv (gyes_none rfl) (q_pf (v := .bool false) rfl rfl) rfl (by decide) (call_ok rfl) ?_
  refine ⟨_, Wk.refl _ _, ?_⟩
  show awp _ _ _ _ _ _ _
  refine awp_cond_f rfl ?_
  refine awp_skip_wk ?_
  refine ⟨_, Wk.refl _ _, ?_⟩
  show awp _ _ _ _ _ _ _
  refine awp_seq ?_
  refine awp_seq ?_
  refine awp_regs hF ?_
  refine dv (gyes_none rfl) (q_as (v := .int .i64 0) rfl) rfl (by decide) (cok1 (cconst rfl)) ?_
  refine ⟨_, Wk.refl _ _, ?_⟩
  show awp _ _ _ _ _ _ _
  refine awp_block ?_
  refine awp_wk (Wk.U [(0, .string s), (3, .pointer (some ⟨b7, 0, none⟩)), (4, .pointer (some ⟨b11, 0, none⟩)), (6, .slice (some ⟨b19, 0, none⟩) ((hrL s).length) ((hrL s).length)), (7, .int .i64 ((hrC s : Nat) : Int)), (9, .int .i64 0)] ⟨rfl, rfl, rfl, rfl, rfl, rfl, trivial⟩) ?_
  refine awp_loop (fun (i : Nat) st => ∃ (H25 : AHeap), st = ⟨133, U [(0, .string s), (3, .pointer (some ⟨b7, 0, none⟩)), (4, .pointer (some ⟨b11, 0, none⟩)), (6, .slice (some ⟨b19, 0, none⟩) ((hrL s).length) ((hrL s).length)), (7, .int .i64 ((hrC s : Nat) : Int)), (9, .int .i64 ((i : Nat) : Int))], [], H25⟩ ∧ St H0 (none0) (Rd H0) H25 [(b19, .cells true (fl segr (hrL s)) 6), (b11, .cells true [.int .i64 ((hrC s : Nat) : Int), .int .u64 ((hrA s : Nat) : Int), .string (⟨#[]⟩ : ByteArray)] 3), (b7, .cells true [.string (hrB s), .int .u64 ((hrE s : Nat) : Int), .slice (some ⟨b1, 0, none⟩) ((hrL s).length) ((hrL s).length)] 3), (b1, .cells true (fl segc (hrL s)) 6)]) (fun (i : Nat) => (hrL s).length - i) (x0 := (0)) ?h0 ?round
  case h0 =>
    exact ⟨_, rfl, s24⟩
  case round =>
    rintro i _ ⟨H25, rfl, s26⟩
    refine awp_seq ?_
    refine awp_seq ?_
    refine awp_regs hF ?_
    refine dv (gyes_none rfl) (q_mv (v := .int .i64 ((i : Nat) : Int)) rfl) rfl (by decide) (cok1 trivial) ?_
    refine dv (gyes_none rfl) (q_mv (v := .slice (some ⟨b19, 0, none⟩) ((hrL s).length) ((hrL s).length)) rfl) rfl (by decide) (cok1 trivial) ?_
    refine dv (gyes_none rfl) (q_len_slice Try.underlying32 rfl (s26.rd (j := 0) rfl)) rfl (by decide) (cok1 trivial) ?_
    refine dvb (gyes_none rfl) (q_int rfl rfl rfl) rfl (by decide) (cok2 trivial trivial) (fun c1 => ?_) (fun c1 => ?_)
    ·
      replace c1 := of_decide_eq_true c1
      obtain ⟨q1, q2, q3, q4, q5, q6⟩ := hrL_b _ (nthN_mem (l := hrL s) (k := i) (by omega))
      refine ⟨_, Wk.refl _ _, ?_⟩
      show awp _ _ _ _ _ _ _
      refine awp_cond_t rfl ?_
      refine awp_skip_wk ?_
      refine ⟨_, Wk.refl _ _, ?_⟩
      show awp _ _ _ _ _ _ _
      refine awp_seq ?_
      refine awp_block ?_
      refine awp_seq ?_
      refine awp_regs hF ?_
      refine dv (gyes_none rfl) (q_field Try.underlying26 rfl Try.sizeOf24 rfl (s26.rd (j := 2) rfl)) rfl (by decide) (cok1 trivial) ?_
      refine dv (gyes_none rfl) (q_load (v := .slice (some ⟨b1, 0, none⟩) ((hrL s).length) ((hrL s).length)) Try.isAgg24 rfl (s26.rd (j := 2) rfl) rfl) rfl (by decide) (cok1 trivial) ?_
      refine dv (gyes_none rfl) (q_mv (v := .int .i64 ((i : Nat) : Int)) rfl) rfl (by decide) (cok1 trivial) ?_
      refine dv (gyes_none rfl) (OpQ.cast (v' := .pointer (some ⟨b1, i * 6, none⟩)) (q_index (u := 0) (i := i) Try.underlying24 Try.sizeOf37 rfl rfl (by omega) (s26.rd (j := 3) rfl)) (by rw [Nat.zero_add])) rfl (by decide) (cok2 trivial trivial) ?_
      refine dv (gyes_none rfl) (q_loadAgg (us := segc (nth (hrL s) i)) Try.isAgg37 Try.sizeOf37 rfl (s26.rd (j := 3) rfl) (fl_room segc_w (by omega)) (fl_at segc_w (by omega))) rfl (by decide) (cok1 trivial) ?_
      refine x_new (fun b => .pointer (some ⟨b, 0, none⟩)) s26 (gyes_none rfl) (q_alloc (vs := [.int .u32 0, .int .i64 0, .int .u64 0, .int .u64 0, .int .u64 0, .int .u64 0]) 6 Try.zeroValue37 (by first | exact flat_scalar rfl | exact flat_agg rfl) rfl) rfl (by decide) (by simp [Op.operands, Call.operands]) (fun b27 H28 hb30 s29 => ?_)
      refine x_store [] hF s29 (by kernel_rfl) (gyes_none rfl) (j := 0) (v := .agg #[.int .u32 (((nth (hrL s) i).1 : Nat) : Int), .int .i64 (((nth (hrL s) i).2.1 : Nat) : Int), .int .u64 (((nth (hrL s) i).2.2.1 : Nat) : Int), .int .u64 (((nth (hrL s) i).2.2.2.1 : Nat) : Int), .int .u64 (((nth (hrL s) i).2.2.2.2.1 : Nat) : Int), .int .u64 (((nth (hrL s) i).2.2.2.2.2 : Nat) : Int)]) rfl Try.sizeOf37 rfl rfl rfl rfl rfl trivial (lcsA ⟨(lc_scalar rfl), (lc_scalar rfl), (lc_scalar rfl), (lc_scalar rfl), (lc_scalar rfl), (lc_scalar rfl), trivial⟩) (Nat.le_of_ble_eq_true rfl) trivial trivial rfl rfl (F' := [(b27, .cells true [.int .u32 (((nth (hrL s) i).1 : Nat) : Int), .int .i64 (((nth (hrL s) i).2.1 : Nat) : Int), .int .u64 (((nth (hrL s) i).2.2.1 : Nat) : Int), .int .u64 (((nth (hrL s) i).2.2.2.1 : Nat) : Int), .int .u64 (((nth (hrL s) i).2.2.2.2.1 : Nat) : Int), .int .u64 (((nth (hrL s) i).2.2.2.2.2 : Nat) : Int)] 6), (b19, .cells true (fl segr (hrL s)) 6), (b11, .cells true [.int .i64 ((hrC s : Nat) : Int), .int .u64 ((hrA s : Nat) : Int), .string (⟨#[]⟩ : ByteArray)] 3), (b7, .cells true [.string (hrB s), .int .u64 ((hrE s : Nat) : Int), .slice (some ⟨b1, 0, none⟩) ((hrL s).length) ((hrL s).length)] 3), (b1, .cells true (fl segc (hrL s)) 6)]) rfl (fun H31 s32 => ⟨?_, ?_⟩)
      · exact trivial
      refine ⟨_, Wk.refl _ _, ?_⟩
      show awp _ _ _ _ _ _ _
      refine awp_seq ?_
      refine awp_regt hF hM (by kernel_rfl) (by kernel_rfl) ?_
      refine dv (gyes_none rfl) (q_field Try.underlying37 rfl Try.sizeOf35 rfl (s32.rd (j := 0) rfl)) rfl (by decide) (cok1 trivial) ?_
      refine dv (gyes_none rfl) (q_load (v := .int .u32 (((nth (hrL s) i).1 : Nat) : Int)) Try.isAgg35 rfl (s32.rd (j := 0) rfl) rfl) rfl (by decide) (cok1 trivial) ?_
      refine dv (gyes_none rfl) (q_convin (a := (((nth (hrL s) i).1 : Nat) : Int)) Try.underlying35 Try.underlying23 rfl (u64_in (by omega))) rfl (by decide) (cok1 trivial) ?_
      refine dv (gyes_none rfl) (q_mv (v := .slice (some ⟨b19, 0, none⟩) ((hrL s).length) ((hrL s).length)) rfl) rfl (by decide) (cok1 trivial) ?_
      refine dv (gyes_none rfl) (q_mv (v := .int .i64 ((i : Nat) : Int)) rfl) rfl (by decide) (cok1 trivial) ?_
      refine dv (gyes_none rfl) (OpQ.cast (v' := .pointer (some ⟨b19, i * 6, none⟩)) (q_index (u := 0) (i := i) Try.underlying32 Try.sizeOf39 rfl rfl (by omega) (s32.rd (j := 1) rfl)) (by rw [Nat.zero_add])) rfl (by decide) (cok2 trivial trivial) ?_
      refine dv (gyes_none rfl) (q_field Try.underlying39 rfl Try.sizeOf23 rfl (s32.rd (j := 1) rfl)) rfl (by decide) (cok1 trivial) ?_
      refine dv (gyes_none rfl) (q_load (v := .int .u64 (((nth (hrL s) i).1 : Nat) : Int)) Try.isAgg23 rfl (s32.rd (j := 1) rfl) ((fl_get0 segr_w (by omega) (by decide)).trans rfl)) rfl (by decide) (cok1 trivial) ?_
      refine dv (gyes_none rfl) (OpQ.cast (v' := .bool false) (q_int rfl rfl rfl) (congrArg Value.bool (bne_self_eq_false _))) rfl (by decide) (cok2 trivial trivial) ?_
      refine dv (gyes_none rfl) (q_mv (v := .bool false) rfl) rfl (by decide) (cok1 trivial) ?_
      refine dv (gyes_some rfl rfl) (q_field Try.underlying37 rfl Try.sizeOf3 rfl (s32.rd (j := 0) rfl)) rfl (by decide) (cok1 trivial) ?_
      refine dv (gyes_some rfl rfl) (q_load (v := .int .i64 (((nth (hrL s) i).2.1 : Nat) : Int)) Try.isAgg3 rfl (s32.rd (j := 0) rfl) rfl) rfl (by decide) (cok1 trivial) ?_
      refine dv (gyes_some rfl rfl) (q_convin (a := (((nth (hrL s) i).2.1 : Nat) : Int)) Try.underlying3 Try.underlying23 rfl (u64_in (by omega))) rfl (by decide) (cok1 trivial) ?_
      refine dv (gyes_some rfl rfl) (q_mv (v := .slice (some ⟨b19, 0, none⟩) ((hrL s).length) ((hrL s).length)) rfl) rfl (by decide) (cok1 trivial) ?_
      refine dv (gyes_some rfl rfl) (q_mv (v := .int .i64 ((i : Nat) : Int)) rfl) rfl (by decide) (cok1 trivial) ?_
      refine dv (gyes_some rfl rfl) (OpQ.cast (v' := .pointer (some ⟨b19, i * 6, none⟩)) (q_index (u := 0) (i := i) Try.underlying32 Try.sizeOf39 rfl rfl (by omega) (s32.rd (j := 1) rfl)) (by rw [Nat.zero_add])) rfl (by decide) (cok2 trivial trivial) ?_
      refine dv (gyes_some rfl rfl) (q_field Try.underlying39 rfl Try.sizeOf23 rfl (s32.rd (j := 1) rfl)) rfl (by decide) (cok1 trivial) ?_
      refine dv (gyes_some rfl rfl) (q_load (v := .int .u64 (((nth (hrL s) i).2.1 : Nat) : Int)) Try.isAgg23 rfl (s32.rd (j := 1) rfl) ((fl_get segr_w (by omega) (by decide)).trans rfl)) rfl (by decide) (cok1 trivial) ?_
      refine dv (gyes_some rfl rfl) (OpQ.cast (v' := .bool false) (q_int rfl rfl rfl) (congrArg Value.bool (bne_self_eq_false _))) rfl (by decide) (cok2 trivial trivial) ?_
      refine dv (gyes_none rfl) (q_pf (v := .bool false) rfl rfl) rfl (by decide) (call_ok rfl) ?_
      refine dv (gyes_none rfl) (q_mv (v := .bool false) rfl) rfl (by decide) (cok1 trivial) ?_
      refine dv (gyes_some rfl rfl) (q_field Try.underlying37 rfl Try.sizeOf23 rfl (s32.rd (j := 0) rfl)) rfl (by decide) (cok1 trivial) ?_
      refine dv (gyes_some rfl rfl) (q_load (v := .int .u64 (((nth (hrL s) i).2.2.1 : Nat) : Int)) Try.isAgg23 rfl (s32.rd (j := 0) rfl) rfl) rfl (by decide) (cok1 trivial) ?_
      refine dv (gyes_some rfl rfl) (q_mv (v := .slice (some ⟨b19, 0, none⟩) ((hrL s).length) ((hrL s).length)) rfl) rfl (by decide) (cok1 trivial) ?_
      refine dv (gyes_some rfl rfl) (q_mv (v := .int .i64 ((i : Nat) : Int)) rfl) rfl (by decide) (cok1 trivial) ?_
      refine dv (gyes_some rfl rfl) (OpQ.cast (v' := .pointer (some ⟨b19, i * 6, none⟩)) (q_index (u := 0) (i := i) Try.underlying32 Try.sizeOf39 rfl rfl (by omega) (s32.rd (j := 1) rfl)) (by rw [Nat.zero_add])) rfl (by decide) (cok2 trivial trivial) ?_
      refine dv (gyes_some rfl rfl) (q_field Try.underlying39 rfl Try.sizeOf23 rfl (s32.rd (j := 1) rfl)) rfl (by decide) (cok1 trivial) ?_
      refine dv (gyes_some rfl rfl) (q_load (v := .int .u64 (((nth (hrL s) i).2.2.1 : Nat) : Int)) Try.isAgg23 rfl (s32.rd (j := 1) rfl) ((fl_get segr_w (by omega) (by decide)).trans rfl)) rfl (by decide) (cok1 trivial) ?_
      refine dv (gyes_some rfl rfl) (OpQ.cast (v' := .bool false) (q_int rfl rfl rfl) (congrArg Value.bool (bne_self_eq_false _))) rfl (by decide) (cok2 trivial trivial) ?_
      refine dv (gyes_none rfl) (q_pf (v := .bool false) rfl rfl) rfl (by decide) (call_ok rfl) ?_
      refine dv (gyes_none rfl) (q_mv (v := .bool false) rfl) rfl (by decide) (cok1 trivial) ?_
      refine dv (gyes_some rfl rfl) (q_field Try.underlying37 rfl Try.sizeOf23 rfl (s32.rd (j := 0) rfl)) rfl (by decide) (cok1 trivial) ?_
      refine dv (gyes_some rfl rfl) (q_load (v := .int .u64 (((nth (hrL s) i).2.2.2.1 : Nat) : Int)) Try.isAgg23 rfl (s32.rd (j := 0) rfl) rfl) rfl (by decide) (cok1 trivial) ?_
      refine dv (gyes_some rfl rfl) (q_mv (v := .slice (some ⟨b19, 0, none⟩) ((hrL s).length) ((hrL s).length)) rfl) rfl (by decide) (cok1 trivial) ?_
      refine dv (gyes_some rfl rfl) (q_mv (v := .int .i64 ((i : Nat) : Int)) rfl) rfl (by decide) (cok1 trivial) ?_
      refine dv (gyes_some rfl rfl) (OpQ.cast (v' := .pointer (some ⟨b19, i * 6, none⟩)) (q_index (u := 0) (i := i) Try.underlying32 Try.sizeOf39 rfl rfl (by omega) (s32.rd (j := 1) rfl)) (by rw [Nat.zero_add])) rfl (by decide) (cok2 trivial trivial) ?_
      refine dv (gyes_some rfl rfl) (q_field Try.underlying39 rfl Try.sizeOf23 rfl (s32.rd (j := 1) rfl)) rfl (by decide) (cok1 trivial) ?_
      refine dv (gyes_some rfl rfl) (q_load (v := .int .u64 (((nth (hrL s) i).2.2.2.1 : Nat) : Int)) Try.isAgg23 rfl (s32.rd (j := 1) rfl) ((fl_get segr_w (by omega) (by decide)).trans rfl)) rfl (by decide) (cok1 trivial) ?_
      refine dv (gyes_some rfl rfl) (OpQ.cast (v' := .bool false) (q_int rfl rfl rfl) (congrArg Value.bool (bne_self_eq_false _))) rfl (by decide) (cok2 trivial trivial) ?_
      refine dv (gyes_none rfl) (q_pf (v := .bool false) rfl rfl) rfl (by decide) (call_ok rfl) ?_
      refine dv (gyes_none rfl) (q_mv (v := .bool false) rfl) rfl (by decide) (cok1 trivial) ?_
      refine dv (gyes_some rfl rfl) (q_field Try.underlying37 rfl Try.sizeOf23 rfl (s32.rd (j := 0) rfl)) rfl (by decide) (cok1 trivial) ?_
      refine dv (gyes_some rfl rfl) (q_load (v := .int .u64 (((nth (hrL s) i).2.2.2.2.1 : Nat) : Int)) Try.isAgg23 rfl (s32.rd (j := 0) rfl) rfl) rfl (by decide) (cok1 trivial) ?_
      refine dv (gyes_some rfl rfl) (q_mv (v := .slice (some ⟨b19, 0, none⟩) ((hrL s).length) ((hrL s).length)) rfl) rfl (by decide) (cok1 trivial) ?_
      refine dv (gyes_some rfl rfl) (q_mv (v := .int .i64 ((i : Nat) : Int)) rfl) rfl (by decide) (cok1 trivial) ?_
      refine dv (gyes_some rfl rfl) (OpQ.cast (v' := .pointer (some ⟨b19, i * 6, none⟩)) (q_index (u := 0) (i := i) Try.underlying32 Try.sizeOf39 rfl rfl (by omega) (s32.rd (j := 1) rfl)) (by rw [Nat.zero_add])) rfl (by decide) (cok2 trivial trivial) ?_
      refine dv (gyes_some rfl rfl) (q_field Try.underlying39 rfl Try.sizeOf23 rfl (s32.rd (j := 1) rfl)) rfl (by decide) (cok1 trivial) ?_
      refine dv (gyes_some rfl rfl) (q_load (v := .int .u64 (((nth (hrL s) i).2.2.2.2.1 : Nat) : Int)) Try.isAgg23 rfl (s32.rd (j := 1) rfl) ((fl_get segr_w (by omega) (by decide)).trans rfl)) rfl (by decide) (cok1 trivial) ?_
      refine dv (gyes_some rfl rfl) (OpQ.cast (v' := .bool false) (q_int rfl rfl rfl) (congrArg Value.bool (bne_self_eq_false _))) rfl (by decide) (cok2 trivial trivial) ?_
      refine dv (gyes_none rfl) (q_pf (v := .bool false) rfl rfl) rfl (by decide) (call_ok rfl) ?_
      refine dv (gyes_none rfl) (q_mv (v := .bool false) rfl) rfl (by decide) (cok1 trivial) ?_
      refine dv (gyes_some rfl rfl) (q_field Try.underlying37 rfl Try.sizeOf23 rfl (s32.rd (j := 0) rfl)) rfl (by decide) (cok1 trivial) ?_
      refine dv (gyes_some rfl rfl) (q_load (v := .int .u64 (((nth (hrL s) i).2.2.2.2.2 : Nat) : Int)) Try.isAgg23 rfl (s32.rd (j := 0) rfl) rfl) rfl (by decide) (cok1 trivial) ?_
      refine dv (gyes_some rfl rfl) (q_mv (v := .slice (some ⟨b19, 0, none⟩) ((hrL s).length) ((hrL s).length)) rfl) rfl (by decide) (cok1 trivial) ?_
      refine dv (gyes_some rfl rfl) (q_mv (v := .int .i64 ((i : Nat) : Int)) rfl) rfl (by decide) (cok1 trivial) ?_
      refine dv (gyes_some rfl rfl) (OpQ.cast (v' := .pointer (some ⟨b19, i * 6, none⟩)) (q_index (u := 0) (i := i) Try.underlying32 Try.sizeOf39 rfl rfl (by omega) (s32.rd (j := 1) rfl)) (by rw [Nat.zero_add])) rfl (by decide) (cok2 trivial trivial) ?_
      refine dv (gyes_some rfl rfl) (q_field Try.underlying39 rfl Try.sizeOf23 rfl (s32.rd (j := 1) rfl)) rfl (by decide) (cok1 trivial) ?_
      refine dv (gyes_some rfl rfl) (q_load (v := .int .u64 (((nth (hrL s) i).2.2.2.2.2 : Nat) : Int)) Try.isAgg23 rfl (s32.rd (j := 1) rfl) ((fl_get segr_w (by omega) (by decide)).trans rfl)) rfl (by decide) (cok1 trivial) ?_
      refine dv (gyes_some rfl rfl) (OpQ.cast (v' := .bool false) (q_int rfl rfl rfl) (congrArg Value.bool (bne_self_eq_false _))) rfl (by decide) (cok2 trivial trivial) ?_
      refine dv (gyes_none rfl) (q_pf (v := .bool false) rfl rfl) rfl (by decide) (call_ok rfl) ?_
      refine ⟨_, Wk.refl _ _, ?_⟩
      show awp _ _ _ _ _ _ _
      refine awp_cond_f rfl ?_
      refine awp_skip_wk ?_
      refine ⟨_, Wk.refl _ _, ?_⟩
      show awp _ _ _ _ _ _ _
      refine awp_regs hF ?_
      refine dv (gyes_none rfl) (q_mv (v := .int .i64 ((i : Nat) : Int)) rfl) rfl (by decide) (cok1 trivial) ?_
      refine dv (gyes_none rfl) (OpQ.cast (v' := .int .i64 ((i + 1 : Nat) : Int)) (q_int rfl rfl rfl) (congrArg _ ((i64_in (by omega)).trans (by first | rfl | omega | (push_cast; rfl))))) rfl (by decide) (cok2 trivial (cconst rfl)) ?_
      refine dv (gyes_none rfl) (q_as (v := .int .i64 ((i + 1 : Nat) : Int)) rfl) rfl (by decide) (cok1 trivial) ?_
      refine ⟨_, Wk.U [(0, .string s), (3, .pointer (some ⟨b7, 0, none⟩)), (4, .pointer (some ⟨b11, 0, none⟩)), (6, .slice (some ⟨b19, 0, none⟩) ((hrL s).length) ((hrL s).length)), (7, .int .i64 ((hrC s : Nat) : Int)), (9, .int .i64 (((i + 1) : Nat) : Int))] ⟨rfl, rfl, rfl, rfl, rfl, rfl, trivial⟩, (i + 1), ⟨_, rfl, (s32.sub (.cons _ (.cons_cons _ (.cons_cons _ (.cons_cons _ (.cons_cons _ (.refl _)))))))⟩, (by omega)⟩
    ·
      replace c1 := of_decide_eq_false c1
      refine ⟨_, Wk.refl _ _, ?_⟩
      show awp _ _ _ _ _ _ _
      refine awp_cond_f rfl ?_
      refine awp_exit_wk ?_
      refine ⟨_, Wk.refl _ _, ?_⟩
      show awp _ _ _ _ _ _ _
      refine awp_seq ?_
      refine awp_regs hF ?_
      refine dv (gyes_none rfl) (q_mv (v := .int .i64 ((hrC s : Nat) : Int)) rfl) rfl (by decide) (cok1 trivial) ?_
      refine dvb (gyes_none rfl) (q_int rfl rfl rfl) rfl (by decide) (cok2 trivial (cconst rfl)) (fun c2 => ?_) (fun c2 => ?_)
      ·
        replace c2 := bne_iff_ne.1 c2
        refine dv (gyes_none rfl) (q_mv (v := .bool true) rfl) rfl (by decide) (cok1 trivial) ?_
        refine dno rfl (.inl rfl) rfl (by decide) ?_
        refine dno rfl (.inl rfl) rfl (by decide) ?_
        refine dno rfl (.inl rfl) rfl (by decide) ?_
        refine dno rfl (.inl rfl) rfl (by decide) ?_
        refine dv (gyes_none rfl) (q_pt (v := .bool true) rfl rfl) rfl (by decide) (call_ok rfl) ?_
        refine dv (gyes_none rfl) (q_as (v := .bool true) rfl) rfl (by decide) (cok1 trivial) ?_
        refine ⟨_, Wk.refl _ _, ?_⟩
        show awp _ _ _ _ _ _ _
        refine awp_ret_wk ?_
        refine ⟨_, Wk.refl _ _, ?_⟩
        repeat (with_reducible first | refine then_ret ?_ | refine blk_ret ?_ | refine then_exit ?_ | refine blk_exit ?_ | refine blk_exit' (by decide) ?_ | refine blk_normal ?_ | refine then_normal ?_ | refine retq_ret ?_ | refine retq_normal ?_ | refine ng_normal ?_ | refine ng_ret ?_ | refine ng_exit ?_)
        exact ret_none (v := .bool true) rfl s26.kp (.tmp rfl .nil) rfl rfl ⟨rfl, rfl⟩
      ·
        replace c2 := bne_eq_false_iff_eq.1 c2
        refine dv (gyes_none rfl) (q_mv (v := .bool false) rfl) rfl (by decide) (cok1 trivial) ?_
        refine dv (gyes_some rfl rfl) (q_field Try.underlying26 rfl Try.sizeOf9 rfl (s26.rd (j := 2) rfl)) rfl (by decide) (cok1 trivial) ?_
        refine dv (gyes_some rfl rfl) (q_load (v := .string (hrB s)) Try.isAgg9 rfl (s26.rd (j := 2) rfl) rfl) rfl (by decide) (cok1 trivial) ?_
        refine dv (gyes_some rfl rfl) (q_mv (v := .string s) rfl) rfl (by decide) (cok1 trivial) ?_
        refine dv (gyes_some rfl rfl) (OpQ.cast (v' := .bool true) (q_streq rfl rfl) (congrArg Value.bool (decide_eq_true (if_pos (by omega))))) rfl (by decide) (cok2 trivial trivial) ?_
        refine dv (gyes_none rfl) (q_pf (v := .bool true) rfl rfl) rfl (by decide) (call_ok rfl) ?_
        refine dv (gyes_none rfl) (q_as (v := .bool true) rfl) rfl (by decide) (cok1 trivial) ?_
        refine ⟨_, Wk.refl _ _, ?_⟩
        show awp _ _ _ _ _ _ _
        refine awp_ret_wk ?_
        refine ⟨_, Wk.refl _ _, ?_⟩
        repeat (with_reducible first | refine then_ret ?_ | refine blk_ret ?_ | refine then_exit ?_ | refine blk_exit ?_ | refine blk_exit' (by decide) ?_ | refine blk_normal ?_ | refine then_normal ?_ | refine retq_ret ?_ | refine retq_normal ?_ | refine ng_normal ?_ | refine ng_ret ?_ | refine ng_exit ?_)
        exact ret_none (v := .bool true) rfl s26.kp (.tmp rfl .nil) rfl rfl ⟨rfl, rfl⟩

end Go.Proofs.YthlanedmlccabaaA

