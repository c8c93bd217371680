/-
  Walks over abstract states: texts of one claim, merged.
-/
import Derived.Test.YthfndghgfabbjaaM5
import Derived.Test.YthfndghgfabbjaaProg
import Derived.KernelRfl
import Derived.ChangeSlices
import Derived.SliceStrings
import Derived.WideShapes
import Derived.SizedLaws
import Derived.OpenShut
import Derived.Deep.Slices
import Derived.Lib.AppendZerosOnto
/-
  Walks of functions of the given program, and what they compute.
-/
namespace Go.Proofs.YthfndghgfabbjaaA
set_option linter.unusedVariables false
open Go Go.RowKit Go.Shelf Go.Proofs
def packE (l : List DEnt) : Nat → ByteArray
  | 0 => ⟨#[]⟩
  | k + 1 => packE l k ++ (putB (nth l k).1 8 ++ putB (nth l k).2 8)
theorem packE_size (l : List DEnt) : ∀ k, (packE l k).size = 16 * k
  | 0 => rfl
  | k + 1 => by rw [packE, size_append, size_append, packE_size l k, putB_size, putB_size]; omega
def packT (l : List DEnt) : ByteArray := packE l l.length ++ zerosB 16
theorem packT_size (l : List DEnt) : (packT l).size = 16 * l.length + 16 := by unfold packT; rw [size_append, packE_size, zerosB_size]
def fileL (t b : ByteArray) : List Sg := [(1, 6, 176, 0, t.size + b.size, t.size + b.size + 100), (2, 0, 176 + t.size, t.size, b.size, b.size)]
def cut2 (t : ByteArray) : ByteArray := t.extract 0 (min t.size 200)
def fileB (t b : ByteArray) : ByteArray := packB 0 (fileL (cut2 t) b) [cut2 t, b]
theorem cut2_size (t : ByteArray) : (cut2 t).size ≤ 200 := by unfold cut2; rw [size_extract (by omega)]; omega
theorem fileL_w (t b : ByteArray) (ht : t.size ≤ 200) (hb : b.size ≤ 100000) : ∀ x ∈ fileL t b, SgW x := fun x hx => by
  rcases List.mem_cons.1 hx with rfl | hx
  · unfold SgW; dsimp only; omega
  · rcases List.mem_cons.1 hx with rfl | hx
    · unfold SgW; dsimp only; omega
    · cases hx
theorem fileB_size (t b : ByteArray) (hb : b.size ≤ 100000) : (fileB t b).size ≤ 1000000 := by
  have h := packD_size 0 (fileL (cut2 t) b) [cut2 t, b] (m := 100000) (fun x hx => by
    have := cut2_size t
    rcases List.mem_cons.1 hx with rfl | hx
    · omega
    · rcases List.mem_cons.1 hx with rfl | hx
      · exact hb
      · cases hx) 2 (Nat.le_refl _)
  unfold fileB packB
  show (packD 0 (fileL (cut2 t) b) [cut2 t, b] 2).size ≤ _
  have h2 : (fileL (cut2 t) b).length = 2 := rfl
  rw [h2] at h
  omega
set_option maxRecDepth 100000 in
set_option maxHeartbeats 4000000 in
theorem packT_ok {H0 : AHeap} (vT : Value) (e : List DEnt) (hT : SlS entc 2 H0 vT e) (hl : e.length ≤ 1000000) (hew : ∀ x ∈ e, EntW x) : ACalls Try.prog 8 [vT] H0 (Rets (.string (packT e)) H0) := by
  have hF : Wd Fence.wide := .inl rfl
  have hM : Try.prog.follows .mixedOrders = true := by kernel_rfl
  have s0 := St.begin H0
  refine acalls_st Try.func8 rfl Try.ntmps8 rfl ?_
  refine awp_seq ?_
  refine awp_regs hF ?_
  refine dv (gyes_none rfl) (q_as (v := .string (⟨#[]⟩ : ByteArray)) rfl) rfl (by decide) (cok1 (cconst rfl)) ?_
  refine ⟨_, Wk.refl _ _, ?_⟩
  show awp _ _ _ _ _ _ _
  refine awp_seq ?_
  refine awp_regs hF ?_
  refine dv (gyes_none rfl) (q_as (v := .string (⟨#[]⟩ : ByteArray)) rfl) rfl (by decide) (cok1 (cconst rfl)) ?_
  refine ⟨_, Wk.refl _ _, ?_⟩
  show awp _ _ _ _ _ _ _
  refine awp_seq ?_
  refine awp_seq ?_
  refine awp_regs hF ?_
  refine dv (gyes_none rfl) (q_as (v := .int .i64 0) rfl) rfl (by decide) (cok1 (cconst rfl)) ?_
  refine ⟨_, Wk.refl _ _, ?_⟩
  show awp _ _ _ _ _ _ _
  refine awp_block ?_
  refine awp_wk (Wk.U [(0, vT), (3, .string (⟨#[]⟩ : ByteArray)), (4, .int .i64 0)] ⟨rfl, rfl, rfl, trivial⟩) ?_
  refine awp_loop (fun ((i, o) : Nat × ByteArray) st => ∃ (H1 : AHeap), st = ⟨30, U [(0, vT), (3, .string o), (4, .int .i64 ((i : Nat) : Int))], [], H1⟩ ∧ St H0 (none0) (Rd H0) H1 [] ∧ (o = packE e i ∧ i ≤ e.length)) (fun ((i, o) : Nat × ByteArray) => e.length - i) (x0 := (0, (⟨#[]⟩ : ByteArray))) ?h0 ?round
  case h0 =>
    exact ⟨_, rfl, s0, ⟨rfl, Nat.zero_le _⟩⟩
  case round =>
    rintro ⟨i, o⟩ _ ⟨H1, rfl, s2, ho⟩
    dsimp only at *
    have hos : o.size = 16 * i := by rw [ho.1, packE_size]
    refine awp_seq ?_
    refine awp_seq ?_
    refine awp_regs hF ?_
    refine dv (gyes_none rfl) (q_mv (v := .int .i64 ((i : Nat) : Int)) rfl) rfl (by decide) (cok1 trivial) ?_
    refine dv (gyes_none rfl) (q_mv (v := vT) rfl) rfl (by decide) (cok1 trivial) ?_
    refine dv (gyes_none rfl) (q_len_sls (l := e) Try.underlying24 (s2.sls hT) rfl) rfl (by decide) (cok1 trivial) ?_
    refine dvb (gyes_none rfl) (q_int rfl rfl rfl) rfl (by decide) (cok2 trivial trivial) (fun c1 => ?_) (fun c1 => ?_)
    ·
      replace c1 := of_decide_eq_true c1
      obtain ⟨q1, q2⟩ := hew _ (nthN_mem (l := e) (k := i) (by omega))
      refine ⟨_, Wk.refl _ _, ?_⟩
      show awp _ _ _ _ _ _ _
      refine awp_cond_t rfl ?_
      refine awp_skip_wk ?_
      refine ⟨_, Wk.refl _ _, ?_⟩
      show awp _ _ _ _ _ _ _
      refine awp_seq ?_
      refine awp_block ?_
      refine awp_regt hF hM (by kernel_rfl) (by kernel_rfl) ?_
      refine dv (gyes_none rfl) (q_mv (v := .string o) rfl) rfl (by decide) (cok1 trivial) ?_
      refine dv (gyes_none rfl) (q_mv (v := vT) rfl) rfl (by decide) (cok1 trivial) ?_
      refine dv (gyes_none rfl) (q_mv (v := .int .i64 ((i : Nat) : Int)) rfl) rfl (by decide) (cok1 trivial) ?_
      refine dv (gyes_none rfl) (q_index_sls (l := e) (i := i) Try.underlying24 Try.sizeOf27 (s2.sls hT) entc_w rfl rfl (by omega)) rfl (by decide) (cok2 trivial trivial) ?_
      refine dv (gyes_none rfl) (q_field_sls (l := e) (i := i) Try.underlying27 rfl Try.sizeOf25 (s2.sls hT) entc_w rfl (by omega)) rfl (by decide) (cok1 trivial) ?_
      refine dv (gyes_none rfl) (q_load_sls0 (l := e) (i := i) (u := .int .u64 (((nth e i).1 : Nat) : Int)) Try.isAgg25 (s2.sls hT) entc_w rfl (by omega) (by decide) rfl) rfl (by decide) (cok1 trivial) ?_
      refine dv (gyes_none rfl) (q_call0 Try.call24 rfl (rput_ok ((nth e i).1) 8 (by omega) (by omega))) rfl (by decide) (call_ok rfl) ?_
      refine dv (gyes_none rfl) (q_mv (v := vT) rfl) rfl (by decide) (cok1 trivial) ?_
      refine dv (gyes_none rfl) (q_mv (v := .int .i64 ((i : Nat) : Int)) rfl) rfl (by decide) (cok1 trivial) ?_
      refine dv (gyes_none rfl) (q_index_sls (l := e) (i := i) Try.underlying24 Try.sizeOf27 (s2.sls hT) entc_w rfl rfl (by omega)) rfl (by decide) (cok2 trivial trivial) ?_
      refine dv (gyes_none rfl) (q_field_sls (l := e) (i := i) Try.underlying27 rfl Try.sizeOf25 (s2.sls hT) entc_w rfl (by omega)) rfl (by decide) (cok1 trivial) ?_
      refine dv (gyes_none rfl) (q_load_sls (l := e) (i := i) (u := .int .u64 (((nth e i).2 : Nat) : Int)) Try.isAgg25 (s2.sls hT) entc_w rfl (by omega) (by decide) rfl) rfl (by decide) (cok1 trivial) ?_
      refine dv (gyes_none rfl) (q_call0 Try.call24 rfl (rput_ok ((nth e i).2) 8 (by omega) (by omega))) rfl (by decide) (call_ok rfl) ?_
      refine dv (gyes_none rfl) (q_cat rfl rfl (by simp only [size_append, putB_size, zerosB_size]; omega)) rfl (by decide) (cok2 trivial trivial) ?_
      refine dv (gyes_none rfl) (q_cat rfl rfl (by simp only [size_append, putB_size, zerosB_size]; omega)) rfl (by decide) (cok2 trivial trivial) ?_
      refine dv (gyes_none rfl) (q_as (v := .string (o ++ ((putB ((nth e i).1) 8) ++ (putB ((nth e i).2) 8)))) rfl) rfl (by decide) (cok1 trivial) ?_
      refine ⟨_, Wk.refl _ _, ?_⟩
      show awp _ _ _ _ _ _ _
      refine awp_regs hF ?_
      refine dv (gyes_none rfl) (q_mv (v := .int .i64 ((i : Nat) : Int)) rfl) rfl (by decide) (cok1 trivial) ?_
      refine dv (gyes_none rfl) (OpQ.cast (v' := .int .i64 ((i + 1 : Nat) : Int)) (q_int rfl rfl rfl) (congrArg _ ((i64_in (by omega)).trans (by first | rfl | omega | (push_cast; rfl))))) rfl (by decide) (cok2 trivial (cconst rfl)) ?_
      refine dv (gyes_none rfl) (q_as (v := .int .i64 ((i + 1 : Nat) : Int)) rfl) rfl (by decide) (cok1 trivial) ?_
      refine ⟨_, Wk.U [(0, vT), (3, .string (o ++ ((putB ((nth e i).1) 8) ++ (putB ((nth e i).2) 8)))), (4, .int .i64 (((i + 1) : Nat) : Int))] ⟨rfl, rfl, rfl, trivial⟩, ((i + 1), (o ++ ((putB ((nth e i).1) 8) ++ (putB ((nth e i).2) 8)))), ⟨_, rfl, s2, ⟨by rw [ho.1]; rfl, by omega⟩⟩, (by omega)⟩
    ·
      replace c1 := of_decide_eq_false c1
      refine ⟨_, Wk.refl _ _, ?_⟩
      show awp _ _ _ _ _ _ _
      refine awp_cond_f rfl ?_
      refine awp_exit_wk ?_
      refine ⟨_, Wk.refl _ _, ?_⟩
      show awp _ _ _ _ _ _ _
      refine awp_seq ?_
      refine awp_regs hF ?_
      refine dv (gyes_none rfl) (q_mv (v := .string o) rfl) rfl (by decide) (cok1 trivial) ?_
      refine x_new (fun b => .slice (some ⟨b, 0, none⟩) 16 16) s2 (gyes_none rfl) (q_makeSlice1 (len := 16) (m := 16) rfl Try.underlying65 Try.typeInfo5 rfl Try.zeroValue5 rfl rfl rfl rfl (by omega) (by omega) (by show 1 * _ ≤ _; omega) (vs := (List.replicate 16 (0 : UInt8)).map bytv) (by simp [bytv])) rfl (by decide) (cok2 (cconst rfl) (cconst rfl)) (fun b3 H4 hb6 s5 => ?_)
      refine dv (gyes_none rfl) (OpQ.cast (v' := .string (zerosB 16)) (q_bytesl (l := List.replicate 16 (0 : UInt8)) Try.underlying65 Try.underlying9 Try.underlying5 rfl (s5.rd (j := 0) rfl) rfl) rfl) rfl (by decide) (cok1 trivial) ?_
      refine dv (gyes_none rfl) (q_cat rfl rfl (by simp only [size_append, putB_size, zerosB_size]; omega)) rfl (by decide) (cok2 trivial trivial) ?_
      refine dv (gyes_none rfl) (q_as (v := .string (o ++ (zerosB 16))) rfl) rfl (by decide) (cok1 trivial) ?_
      refine ⟨_, Wk.refl _ _, ?_⟩
      show awp _ _ _ _ _ _ _
      refine awp_ret_wk ?_
      refine ⟨_, Wk.refl _ _, ?_⟩
      repeat (with_reducible first | refine then_ret ?_ | refine blk_ret ?_ | refine then_exit ?_ | refine blk_exit ?_ | refine blk_exit' (by decide) ?_ | refine blk_normal ?_ | refine then_normal ?_ | refine retq_ret ?_ | refine retq_normal ?_ | refine ng_normal ?_ | refine ng_ret ?_ | refine ng_exit ?_)
      exact ret_none (v := .string (o ++ (zerosB 16))) rfl s5.kp (.tmp rfl .nil) rfl rfl ⟨by rw [packT, ho.1, show i = e.length by omega], rfl⟩
set_option maxRecDepth 100000 in
set_option maxHeartbeats 4000000 in
theorem file_ok {H0 : AHeap} (t b : ByteArray) (ht : t.size ≤ 140737488355328) (hb : b.size ≤ 100000) : ACalls Try.prog 9 [.string t, .string b] H0 (Rets (.string (fileB t b)) H0) := by
  have hF : Wd Fence.wide := .inl rfl
  have hM : Try.prog.follows .mixedOrders = true := by kernel_rfl
  have hc2 := cut2_size t
  have s0 := St.begin H0
  refine acalls_st Try.func9 rfl Try.ntmps9 rfl ?_
  refine awp_seq ?_
  refine awp_regs hF ?_
  refine dv (gyes_none rfl) (q_as (v := .string (⟨#[]⟩ : ByteArray)) rfl) rfl (by decide) (cok1 (cconst rfl)) ?_
  refine ⟨_, Wk.refl _ _, ?_⟩
  show awp _ _ _ _ _ _ _
  refine awp_seq ?_
  refine awp_regs hF ?_
  refine dv (gyes_none rfl) (q_mv (v := .string t) rfl) rfl (by decide) (cok1 trivial) ?_
  refine dv (gyes_none rfl) (q_mv (v := .string t) rfl) rfl (by decide) (cok1 trivial) ?_
  refine dv (gyes_none rfl) (q_len_str Try.underlying9 rfl) rfl (by decide) (cok1 trivial) ?_
  refine dv (gyes_none rfl) (OpQ.cast (v' := .int .i64 ((min t.size 200 : Nat) : Int)) (q_min rfl rfl) (by congr 1; split <;> omega)) rfl (by decide) (cok2 trivial (cconst rfl)) ?_
  refine dv (gyes_none rfl) (OpQ.cast (v' := .string (cut2 t)) (q_substr (i := 0) (j := min t.size 200) Try.underlying9 rfl rfl ⟨_, rfl⟩ (by omega) (by omega)) rfl) rfl (by decide) (cok2 trivial trivial) ?_
  refine dv (gyes_none rfl) (q_as (v := .string (cut2 t)) rfl) rfl (by decide) (cok1 trivial) ?_
  refine ⟨_, Wk.refl _ _, ?_⟩
  show awp _ _ _ _ _ _ _
  refine awp_seq ?_
  refine awp_regs hF ?_
  refine dv (gyes_none rfl) (q_mv (v := .string (cut2 t)) rfl) rfl (by decide) (cok1 trivial) ?_
  refine dv (gyes_none rfl) (q_len_str Try.underlying9 rfl) rfl (by decide) (cok1 trivial) ?_
  refine dv (gyes_none rfl) (q_mv (v := .string b) rfl) rfl (by decide) (cok1 trivial) ?_
  refine dv (gyes_none rfl) (q_len_str Try.underlying9 rfl) rfl (by decide) (cok1 trivial) ?_
  refine dv (gyes_none rfl) (OpQ.cast (v' := .int .i64 (((cut2 t).size + b.size : Nat) : Int)) (q_int rfl rfl rfl) (congrArg _ ((i64_in (by omega)).trans (by first | rfl | omega | (push_cast; rfl))))) rfl (by decide) (cok2 trivial trivial) ?_
  refine dv (gyes_none rfl) (q_convin (a := (((cut2 t).size + b.size : Nat) : Int)) Try.underlying3 Try.underlying25 rfl (u64_in (by omega))) rfl (by decide) (cok1 trivial) ?_
  refine dv (gyes_none rfl) (q_as (v := .int .u64 (((cut2 t).size + b.size : Nat) : Int)) rfl) rfl (by decide) (cok1 trivial) ?_
  refine ⟨_, Wk.refl _ _, ?_⟩
  show awp _ _ _ _ _ _ _
  refine awp_seq ?_
  refine awp_regs hF ?_
  refine dv (gyes_none rfl) (q_mv (v := .int .u64 (((cut2 t).size + b.size : Nat) : Int)) rfl) rfl (by decide) (cok1 trivial) ?_
  refine dv (gyes_none rfl) (q_mv (v := .int .u64 (((cut2 t).size + b.size : Nat) : Int)) rfl) rfl (by decide) (cok1 trivial) ?_
  refine dv (gyes_none rfl) (OpQ.cast (v' := .int .u64 (((cut2 t).size + b.size + 100 : Nat) : Int)) (q_int rfl rfl rfl) (congrArg _ ((u64_in (by omega)).trans (by first | rfl | omega | (push_cast; rfl))))) rfl (by decide) (cok2 trivial (cconst rfl)) ?_
  refine dv (gyes_none rfl) (q_buildL (ds := [.int .u64 1, .int .u64 6, .int .u64 176, .int .u64 0, .int .u64 (((cut2 t).size + b.size : Nat) : Int), .int .u64 (((cut2 t).size + b.size + 100 : Nat) : Int)]) [(0, 1), (1, 1), (2, 1), (3, 1), (4, 1), (5, 1)] [.int .u64 1, .int .u64 6, .int .u64 176, .int .u64 (((cut2 t).size + b.size : Nat) : Int), .int .u64 (((cut2 t).size + b.size + 100 : Nat) : Int)] Try.underlying67 Try.zeroValue67 (by first | exact flat_agg rfl | exact flat_scalar rfl) (by kernel_rfl) ⟨rfl, rfl, rfl, rfl, rfl, trivial⟩ (lvsC (by exact trivial) (lvsC (by exact trivial) (lvsC (by exact trivial) (lvsC (by exact trivial) (lvsC (by exact trivial) lvs0))))) rfl) rfl (by decide) (call_ok rfl) ?_
  refine dv (gyes_none rfl) (q_mv (v := .string (cut2 t)) rfl) rfl (by decide) (cok1 trivial) ?_
  refine dv (gyes_none rfl) (q_len_str Try.underlying9 rfl) rfl (by decide) (cok1 trivial) ?_
  refine dv (gyes_none rfl) (q_convin (a := (((cut2 t).size : Nat) : Int)) Try.underlying3 Try.underlying25 rfl (u64_in (by omega))) rfl (by decide) (cok1 trivial) ?_
  refine dv (gyes_none rfl) (OpQ.cast (v' := .int .u64 ((176 + ((cut2 t).size) : Nat) : Int)) (q_int rfl rfl rfl) (congrArg _ ((u64_in (by omega)).trans (by first | rfl | omega | (push_cast; rfl))))) rfl (by decide) (cok2 (cconst rfl) trivial) ?_
  refine dv (gyes_none rfl) (q_mv (v := .string (cut2 t)) rfl) rfl (by decide) (cok1 trivial) ?_
  refine dv (gyes_none rfl) (q_len_str Try.underlying9 rfl) rfl (by decide) (cok1 trivial) ?_
  refine dv (gyes_none rfl) (q_convin (a := (((cut2 t).size : Nat) : Int)) Try.underlying3 Try.underlying25 rfl (u64_in (by omega))) rfl (by decide) (cok1 trivial) ?_
  refine dv (gyes_none rfl) (q_mv (v := .string b) rfl) rfl (by decide) (cok1 trivial) ?_
  refine dv (gyes_none rfl) (q_len_str Try.underlying9 rfl) rfl (by decide) (cok1 trivial) ?_
  refine dv (gyes_none rfl) (q_convin (a := ((b.size : Nat) : Int)) Try.underlying3 Try.underlying25 rfl (u64_in (by omega))) rfl (by decide) (cok1 trivial) ?_
  refine dv (gyes_none rfl) (q_mv (v := .string b) rfl) rfl (by decide) (cok1 trivial) ?_
  refine dv (gyes_none rfl) (q_len_str Try.underlying9 rfl) rfl (by decide) (cok1 trivial) ?_
  refine dv (gyes_none rfl) (q_convin (a := ((b.size : Nat) : Int)) Try.underlying3 Try.underlying25 rfl (u64_in (by omega))) rfl (by decide) (cok1 trivial) ?_
  refine dv (gyes_none rfl) (q_buildL (ds := [.int .u64 2, .int .u64 0, .int .u64 ((176 + ((cut2 t).size) : Nat) : Int), .int .u64 (((cut2 t).size : Nat) : Int), .int .u64 ((b.size : Nat) : Int), .int .u64 ((b.size : Nat) : Int)]) [(0, 1), (1, 1), (2, 1), (3, 1), (4, 1), (5, 1)] [.int .u64 2, .int .u64 ((176 + ((cut2 t).size) : Nat) : Int), .int .u64 (((cut2 t).size : Nat) : Int), .int .u64 ((b.size : Nat) : Int), .int .u64 ((b.size : Nat) : Int)] Try.underlying67 Try.zeroValue67 (by first | exact flat_agg rfl | exact flat_scalar rfl) (by kernel_rfl) ⟨rfl, rfl, rfl, rfl, rfl, trivial⟩ (lvsC (by exact trivial) (lvsC (by exact trivial) (lvsC (by exact trivial) (lvsC (by exact trivial) (lvsC (by exact trivial) lvs0))))) rfl) rfl (by decide) (call_ok rfl) ?_
  refine x_new (fun b => .slice (some ⟨b, 0, none⟩) 2 2) s0 (gyes_none rfl) (q_buildSliceL (ds := [.int .u64 1, .int .u64 6, .int .u64 176, .int .u64 0, .int .u64 (((cut2 t).size + b.size : Nat) : Int), .int .u64 (((cut2 t).size + b.size + 100 : Nat) : Int), .int .u64 2, .int .u64 0, .int .u64 ((176 + ((cut2 t).size) : Nat) : Int), .int .u64 (((cut2 t).size : Nat) : Int), .int .u64 ((b.size : Nat) : Int), .int .u64 ((b.size : Nat) : Int)]) [.agg #[.int .u64 1, .int .u64 6, .int .u64 176, .int .u64 0, .int .u64 (((cut2 t).size + b.size : Nat) : Int), .int .u64 (((cut2 t).size + b.size + 100 : Nat) : Int)], .agg #[.int .u64 2, .int .u64 0, .int .u64 ((176 + ((cut2 t).size) : Nat) : Int), .int .u64 (((cut2 t).size : Nat) : Int), .int .u64 ((b.size : Nat) : Int), .int .u64 ((b.size : Nat) : Int)]] rfl Try.underlying39 Try.sizeOf67 Try.zeroValue67 rfl (by decide) (by decide) ⟨rfl, rfl, trivial⟩ (lvsC (by exact trivial) (lvsC (by exact trivial) lvs0)) rfl rfl) rfl (by decide) (cok2 trivial trivial) (fun b1 H2 hb4 s3 => ?_)
  refine dv (gyes_none rfl) (q_as (v := .slice (some ⟨b1, 0, none⟩) 2 2) rfl) rfl (by decide) (cok1 trivial) ?_
  refine ⟨_, Wk.refl _ _, ?_⟩
  show awp _ _ _ _ _ _ _
  refine awp_seq ?_
  refine awp_regs hF ?_
  refine dv (gyes_none rfl) (q_mv (v := .slice (some ⟨b1, 0, none⟩) 2 2) rfl) rfl (by decide) (cok1 trivial) ?_
  refine dv (gyes_none rfl) (q_mv (v := .string (cut2 t)) rfl) rfl (by decide) (cok1 trivial) ?_
  refine dv (gyes_none rfl) (q_mv (v := .string b) rfl) rfl (by decide) (cok1 trivial) ?_
  refine x_new (fun b => .slice (some ⟨b, 0, none⟩) 2 2) s3 (gyes_none rfl) (q_buildSliceL (ds := [.string (cut2 t), .string b]) [.string (cut2 t), .string b] rfl Try.underlying69 Try.sizeOf9 Try.zeroValue9 rfl (by decide) (by decide) ⟨rfl, rfl, trivial⟩ (lvsC (by exact trivial) (lvsC (by exact trivial) lvs0)) rfl rfl) rfl (by decide) (cok2 trivial trivial) (fun b5 H6 hb8 s7 => ?_)
  refine dv (gyes_none rfl) (q_call0 Try.call25 rfl (pack_ok 0 (by decide) _ _ (fileL (cut2 t) b) [cut2 t, b] (s7.slsj (l := fileL (cut2 t) b) segr_w (j := 1) rfl rfl (Nat.le_refl _)) (s7.slj (l := [cut2 t, b]) (f := strv) (j := 0) rfl rfl (Nat.le_refl _)) (by show 2 ≤ _; decide) (by show 2 ≤ _; decide) (fileL_w _ _ hc2 hb) (fun x hx => by
      rcases List.mem_cons.1 hx with rfl | hx
      · omega
      · rcases List.mem_cons.1 hx with rfl | hx
        · exact hb
        · cases hx))) rfl (by decide) (call_ok rfl) ?_
  refine dv (gyes_none rfl) (q_as (v := .string (fileB t b)) rfl) rfl (by decide) (cok1 trivial) ?_
  refine ⟨_, Wk.refl _ _, ?_⟩
  show awp _ _ _ _ _ _ _
  refine awp_ret_wk ?_
  refine ⟨_, Wk.refl _ _, ?_⟩
  repeat (with_reducible first | refine then_ret ?_ | refine blk_ret ?_ | refine then_exit ?_ | refine blk_exit ?_ | refine blk_exit' (by decide) ?_ | refine blk_normal ?_ | refine then_normal ?_ | refine retq_ret ?_ | refine retq_normal ?_ | refine ng_normal ?_ | refine ng_ret ?_ | refine ng_exit ?_)
  exact ret_none (v := .string (fileB t b)) rfl s7.kp (.tmp rfl .nil) rfl rfl ⟨rfl, rfl⟩

end Go.Proofs.YthfndghgfabbjaaA


/-
  Walks of functions of the given program, and what they compute.
-/
namespace Go.Proofs.YthfndghgfabbjaaA
set_option linter.unusedVariables false
open Go Go.RowKit Go.Shelf Go.Proofs
def speaks_unit : Unit := ()
def spE : List DEnt := [(1, 1), (5, 0), (10, 4)]
def spT : ByteArray := packT spE
def spS : ByteArray := fileB ⟨#[0, 97, 98, 0]⟩ spT
def spL : List Sg := hrL spS
theorem sp_C : hrC spS = 0 := by decide +kernel
theorem sp_A : hrA spS = 0 := by decide +kernel
theorem sp_E : hrE spS = 0 := by decide +kernel
theorem sp_B : hrB spS = spS := if_pos sp_C
theorem sp_n : spS.size ≤ 1000 := by decide +kernel
theorem sp_b : spT.size ≤ 1000 := by decide +kernel
theorem sp_dC : drC spS spL = 0 := by decide +kernel
theorem sp_dA : drA spS spL = 0 := by decide +kernel
theorem sp_dL : drL spS spL = spE := by decide +kernel
theorem sp_get : getV spE 1 = (1, true) := by decide +kernel
theorem sp_tab : tabV spS spL spE 1 = (⟨#[97, 98]⟩, true) := by decide +kernel
theorem sp_w : ∀ x ∈ spE, EntW x := fun x hx => by
  rcases List.mem_cons.1 hx with rfl | hx
  · unfold EntW; decide
  rcases List.mem_cons.1 hx with rfl | hx
  · unfold EntW; decide
  rcases List.mem_cons.1 hx with rfl | hx
  · unfold EntW; decide
  cases hx
theorem hrL_sgb {s : ByteArray} : ∀ x ∈ hrL s, SgB x := fun x hx => (hrL_b x hx).2.2
theorem spRead {H0 : AHeap} : ACalls Try.prog 10 [.string spS] H0 (fun v H' => ∃ vL, v = .tuple #[.agg #[.string spS, .int .u64 0, vL], .agg #[.int .i64 0, .int .u64 0, .string ⟨#[]⟩]] ∧ FreshS segc 6 spL H0 vL H') := by
  have h := read_ok (H0 := H0) spS (Nat.le_trans sp_n (by decide))
  rw [sp_B, sp_E, sp_C, sp_A] at h
  exact h
theorem spD {H0 : AHeap} {vL : Value} (hL : SlS segc 6 H0 vL spL) : ACalls Try.prog 12 [.agg #[.string spS, .int .u64 0, vL]] H0 (fun v H' => ∃ vT, v = .tuple #[vT, .agg #[.int .i64 0, .int .u64 0, .string ⟨#[]⟩]] ∧ FreshS entc 2 spE H0 vT H') := by
  have h := dread_ok (H0 := H0) spS 0 vL spL (Nat.le_trans sp_n (by decide)) hL (Nat.le_trans hrL_len (by decide)) hrL_low hrL_in hrL_sgb
  rw [sp_dC, sp_dA, sp_dL] at h
  exact h
set_option maxRecDepth 100000 in
set_option maxHeartbeats 4000000 in
theorem speaks_ok {H0 : AHeap}  : ACalls Try.prog 7 [] H0 (Rets (.bool true) H0) := by
  have hF : Wd Fence.wide := .inl rfl
  have hM : Try.prog.follows .mixedOrders = true := by kernel_rfl
  have s0 := St.begin H0
  refine acalls_st Try.func7 rfl Try.ntmps7 rfl ?_
  refine awp_seq ?_
  refine awp_regs hF ?_
  refine dv (gyes_none rfl) (q_as (v := .bool false) rfl) rfl (by decide) (cok1 (cconst rfl)) ?_
  refine ⟨_, Wk.refl _ _, ?_⟩
  show awp _ _ _ _ _ _ _
  refine awp_seq ?_
  refine awp_regs hF ?_
  refine dv (gyes_none rfl) (q_buildL (ds := [.int .u64 1, .int .u64 1]) [(0, 1), (1, 1)] [.int .u64 1, .int .u64 1] Try.underlying27 Try.zeroValue27 (by first | exact flat_agg rfl | exact flat_scalar rfl) (by kernel_rfl) ⟨rfl, rfl, trivial⟩ (lvsC (by exact trivial) (lvsC (by exact trivial) lvs0)) rfl) rfl (by decide) (cok2 (cconst rfl) (cconst rfl)) ?_
  refine dv (gyes_none rfl) (q_buildL (ds := [.int .u64 5, .int .u64 0]) [(0, 1), (1, 1)] [.int .u64 5, .int .u64 0] Try.underlying27 Try.zeroValue27 (by first | exact flat_agg rfl | exact flat_scalar rfl) (by kernel_rfl) ⟨rfl, rfl, trivial⟩ (lvsC (by exact trivial) (lvsC (by exact trivial) lvs0)) rfl) rfl (by decide) (cok2 (cconst rfl) (cconst rfl)) ?_
  refine dv (gyes_none rfl) (q_buildL (ds := [.int .u64 10, .int .u64 4]) [(0, 1), (1, 1)] [.int .u64 10, .int .u64 4] Try.underlying27 Try.zeroValue27 (by first | exact flat_agg rfl | exact flat_scalar rfl) (by kernel_rfl) ⟨rfl, rfl, trivial⟩ (lvsC (by exact trivial) (lvsC (by exact trivial) lvs0)) rfl) rfl (by decide) (cok2 (cconst rfl) (cconst rfl)) ?_
  refine x_new (fun b => .slice (some ⟨b, 0, none⟩) 3 3) s0 (gyes_none rfl) (q_buildSliceL (ds := [.int .u64 1, .int .u64 1, .int .u64 5, .int .u64 0, .int .u64 10, .int .u64 4]) [.agg #[.int .u64 1, .int .u64 1], .agg #[.int .u64 5, .int .u64 0], .agg #[.int .u64 10, .int .u64 4]] rfl Try.underlying24 Try.sizeOf27 Try.zeroValue27 rfl (by decide) (by decide) ⟨rfl, rfl, rfl, trivial⟩ (lvsC (by exact trivial) (lvsC (by exact trivial) (lvsC (by exact trivial) lvs0))) rfl rfl) rfl (by decide) (call_ok rfl) (fun b1 H2 hb4 s3 => ?_)
  refine dv (gyes_none rfl) (q_call0 Try.call8 rfl (packT_ok _ spE (s3.slsj (l := spE) entc_w (j := 0) rfl rfl (Nat.le_refl _)) (by decide) sp_w)) rfl (by decide) (cok2 trivial trivial) ?_
  refine dv (gyes_none rfl) (q_call0 Try.call9 rfl (file_ok ⟨#[0, 97, 98, 0]⟩ spT (by decide) (Nat.le_trans sp_b (by decide)))) rfl (by decide) (call_ok rfl) ?_
  refine x_call [] hF (by kernel_rfl) (gyes_none rfl) Try.call10 rfl (args := [.string spS]) rfl (spRead) (show _ < _ by decide) (call_ok rfl) rfl rfl (fun _ _ _ _ hd => by cases hd) ?_
  rintro _ H6 ⟨_, rfl, hk7, b5, rfl, hb8, hg9⟩
  have s10 := s3.callN hk7 hb8 hg9
  refine ⟨trivial, ?_⟩
  show dList _ _ _ _ _ _ _ _ _ _
  refine dv (gyes_none rfl) (q_mv (v := .tuple #[.agg #[.string spS, .int .u64 0, .slice (some ⟨b5, 0, none⟩) spL.length spL.length], .agg #[.int .i64 0, .int .u64 0, .string (⟨#[]⟩ : ByteArray)]]) rfl) rfl (by decide) (cok1 trivial) ?_
  refine dv (gyes_none rfl) (q_extract (v := .agg #[.string spS, .int .u64 0, .slice (some ⟨b5, 0, none⟩) spL.length spL.length]) rfl rfl) rfl (by decide) (cok1 trivial) ?_
  refine dv (gyes_none rfl) (q_extract (v := .agg #[.int .i64 0, .int .u64 0, .string (⟨#[]⟩ : ByteArray)]) rfl rfl) rfl (by decide) (cok1 trivial) ?_
  refine x_new (fun b => .pointer (some ⟨b, 0, none⟩)) s10 (gyes_none rfl) (q_alloc (vs := [.string ⟨#[]⟩, .int .u64 0, .slice none 0 0]) 3 Try.zeroValue33 (by first | exact flat_scalar rfl | exact flat_agg rfl) rfl) rfl (by decide) (by simp [Op.operands, Call.operands]) (fun b11 H12 hb14 s13 => ?_)
  refine x_new (fun b => .pointer (some ⟨b, 0, none⟩)) s13 (gyes_none rfl) (q_alloc (vs := [.int .i64 0, .int .u64 0, .string ⟨#[]⟩]) 3 Try.zeroValue36 (by first | exact flat_scalar rfl | exact flat_agg rfl) rfl) rfl (by decide) (by simp [Op.operands, Call.operands]) (fun b15 H16 hb18 s17 => ?_)
  refine x_store [] hF s17 (by kernel_rfl) (gyes_none rfl) (j := 1) (v := .agg #[.string spS, .int .u64 0, .slice (some ⟨b5, 0, none⟩) spL.length spL.length]) rfl Try.sizeOf33 rfl rfl rfl rfl rfl trivial (lcsA ⟨(lc_scalar rfl), (lc_scalar rfl), (lc_slice (s17.live (j := 2) rfl)), trivial⟩) (Nat.le_of_ble_eq_true rfl) trivial trivial rfl rfl (F' := [(b15, .cells true [.int .i64 0, .int .u64 0, .string ⟨#[]⟩] 3), (b11, .cells true [.string spS, .int .u64 0, .slice (some ⟨b5, 0, none⟩) spL.length spL.length] 3), (b5, .cells true (fl segc spL) 6), (b1, .cells true [.int .u64 1, .int .u64 1, .int .u64 5, .int .u64 0, .int .u64 10, .int .u64 4] 2)]) rfl (fun H19 s20 => ⟨?_, ?_⟩)
  · exact trivial
  refine x_store [] hF s20 (by kernel_rfl) (gyes_none rfl) (j := 0) (v := .agg #[.int .i64 0, .int .u64 0, .string (⟨#[]⟩ : ByteArray)]) rfl Try.sizeOf36 rfl rfl rfl rfl rfl trivial (lcsA ⟨(lc_scalar rfl), (lc_scalar rfl), (lc_scalar rfl), trivial⟩) (Nat.le_of_ble_eq_true rfl) trivial trivial rfl rfl (F' := [(b15, .cells true [.int .i64 0, .int .u64 0, .string (⟨#[]⟩ : ByteArray)] 3), (b11, .cells true [.string spS, .int .u64 0, .slice (some ⟨b5, 0, none⟩) spL.length spL.length] 3), (b5, .cells true (fl segc spL) 6), (b1, .cells true [.int .u64 1, .int .u64 1, .int .u64 5, .int .u64 0, .int .u64 10, .int .u64 4] 2)]) rfl (fun H21 s22 => ⟨?_, ?_⟩)
  · exact trivial
  refine ⟨_, Wk.refl _ _, ?_⟩
  show awp _ _ _ _ _ _ _
  refine awp_seq ?_
  refine awp_regs hF ?_
  refine dv (gyes_none rfl) (q_loadAgg Try.isAgg33 Try.sizeOf33 rfl (s22.rd (j := 1) rfl) (Nat.le_of_ble_eq_true rfl) rfl) rfl (by decide) (cok1 trivial) ?_
  refine x_call [] hF (by kernel_rfl) (gyes_none rfl) Try.call12 rfl (args := [.agg #[.string spS, .int .u64 0, .slice (some ⟨b5, 0, none⟩) spL.length spL.length]]) rfl (spD (s22.slsj (l := spL) segc_w (j := 2) rfl rfl (Nat.le_refl _))) (show _ < _ by decide) (call_ok rfl) rfl rfl (fun _ _ _ _ hd => by cases hd) ?_
  rintro _ H24 ⟨_, rfl, hk25, b23, rfl, hb26, hg27⟩
  have s28 := s22.callN hk25 hb26 hg27
  refine ⟨trivial, ?_⟩
  show dList _ _ _ _ _ _ _ _ _ _
  refine dv (gyes_none rfl) (q_mv (v := .tuple #[.slice (some ⟨b23, 0, none⟩) spE.length spE.length, .agg #[.int .i64 0, .int .u64 0, .string (⟨#[]⟩ : ByteArray)]]) rfl) rfl (by decide) (cok1 trivial) ?_
  refine dv (gyes_none rfl) (q_extract (v := .slice (some ⟨b23, 0, none⟩) spE.length spE.length) rfl rfl) rfl (by decide) (cok1 trivial) ?_
  refine dv (gyes_none rfl) (q_extract (v := .agg #[.int .i64 0, .int .u64 0, .string (⟨#[]⟩ : ByteArray)]) rfl rfl) rfl (by decide) (cok1 trivial) ?_
  refine x_new (fun b => .pointer (some ⟨b, 0, none⟩)) s28 (gyes_none rfl) (q_alloc (vs := [.int .i64 0, .int .u64 0, .string ⟨#[]⟩]) 3 Try.zeroValue36 (by first | exact flat_scalar rfl | exact flat_agg rfl) rfl) rfl (by decide) (by simp [Op.operands, Call.operands]) (fun b29 H30 hb32 s31 => ?_)
  refine dv (gyes_none rfl) (q_as (v := .slice (some ⟨b23, 0, none⟩) spE.length spE.length) rfl) rfl (by decide) (cok1 trivial) ?_
  refine x_store [] hF s31 (by kernel_rfl) (gyes_none rfl) (j := 0) (v := .agg #[.int .i64 0, .int .u64 0, .string (⟨#[]⟩ : ByteArray)]) rfl Try.sizeOf36 rfl rfl rfl rfl rfl trivial (lcsA ⟨(lc_scalar rfl), (lc_scalar rfl), (lc_scalar rfl), trivial⟩) (Nat.le_of_ble_eq_true rfl) trivial trivial rfl rfl (F' := [(b29, .cells true [.int .i64 0, .int .u64 0, .string (⟨#[]⟩ : ByteArray)] 3), (b23, .cells true (fl entc spE) 2), (b15, .cells true [.int .i64 0, .int .u64 0, .string (⟨#[]⟩ : ByteArray)] 3), (b11, .cells true [.string spS, .int .u64 0, .slice (some ⟨b5, 0, none⟩) spL.length spL.length] 3), (b5, .cells true (fl segc spL) 6), (b1, .cells true [.int .u64 1, .int .u64 1, .int .u64 5, .int .u64 0, .int .u64 10, .int .u64 4] 2)]) rfl (fun H33 s34 => ⟨?_, ?_⟩)
  · exact trivial
  refine ⟨_, Wk.refl _ _, ?_⟩
  show awp _ _ _ _ _ _ _
  refine awp_seq ?_
  refine awp_regs hF ?_
  refine dv (gyes_none rfl) (q_mv (v := .slice (some ⟨b23, 0, none⟩) spE.length spE.length) rfl) rfl (by decide) (cok1 trivial) ?_
  refine dv (gyes_none rfl) (q_call0 Try.call14 rfl (ACalls.castV (v' := .tuple #[.int .u64 1, .bool true]) (get_t_ok 1 (by decide) _ spE (s34.slsj (l := spE) entc_w (j := 1) rfl rfl (Nat.le_refl _)) (by decide)) (by rw [sp_get]; rfl))) rfl (by decide) (call_ok rfl) ?_
  refine dv (gyes_none rfl) (q_mv (v := .tuple #[.int .u64 1, .bool true]) rfl) rfl (by decide) (cok1 trivial) ?_
  refine dv (gyes_none rfl) (q_extract (v := .int .u64 1) rfl rfl) rfl (by decide) (cok1 trivial) ?_
  refine dv (gyes_none rfl) (q_extract (v := .bool true) rfl rfl) rfl (by decide) (cok1 trivial) ?_
  refine dv (gyes_none rfl) (q_as (v := .int .u64 1) rfl) rfl (by decide) (cok1 trivial) ?_
  refine dv (gyes_none rfl) (q_as (v := .bool true) rfl) rfl (by decide) (cok1 trivial) ?_
  refine ⟨_, Wk.refl _ _, ?_⟩
  show awp _ _ _ _ _ _ _
  refine awp_seq ?_
  refine awp_regs hF ?_
  refine dv (gyes_none rfl) (q_mv (v := .slice (some ⟨b23, 0, none⟩) spE.length spE.length) rfl) rfl (by decide) (cok1 trivial) ?_
  refine dv (gyes_none rfl) (q_loadAgg Try.isAgg33 Try.sizeOf33 rfl (s34.rd (j := 3) rfl) (Nat.le_of_ble_eq_true rfl) rfl) rfl (by decide) (cok1 trivial) ?_
  refine dv (gyes_none rfl) (q_mv (v := .int .u64 1) rfl) rfl (by decide) (cok1 trivial) ?_
  refine dv (gyes_none rfl) (q_call0 Try.call21 rfl (ACalls.castV (v' := .tuple #[.string (⟨#[97, 98]⟩ : ByteArray), .bool true]) (tab_ok 1 (by decide) _ spE (s34.slsj (l := spE) entc_w (j := 1) rfl rfl (Nat.le_refl _)) (by decide) sp_w spS 0 _ spL (Nat.le_trans sp_n (by decide)) (s34.slsj (l := spL) segc_w (j := 4) rfl rfl (Nat.le_refl _)) (Nat.le_trans hrL_len (by decide)) hrL_low hrL_in) (by rw [sp_tab]))) rfl (by decide) (call_ok rfl) ?_
  refine dv (gyes_none rfl) (q_mv (v := .tuple #[.string (⟨#[97, 98]⟩ : ByteArray), .bool true]) rfl) rfl (by decide) (cok1 trivial) ?_
  refine dv (gyes_none rfl) (q_extract (v := .string (⟨#[97, 98]⟩ : ByteArray)) rfl rfl) rfl (by decide) (cok1 trivial) ?_
  refine dv (gyes_none rfl) (q_extract (v := .bool true) rfl rfl) rfl (by decide) (cok1 trivial) ?_
  refine dv (gyes_none rfl) (q_as (v := .string (⟨#[97, 98]⟩ : ByteArray)) rfl) rfl (by decide) (cok1 trivial) ?_
  refine dv (gyes_none rfl) (q_as (v := .bool true) rfl) rfl (by decide) (cok1 trivial) ?_
  refine ⟨_, Wk.refl _ _, ?_⟩
  show awp _ _ _ _ _ _ _
  refine awp_seq ?_
  refine awp_regs hF ?_
  refine dv (gyes_none rfl) (q_loadAgg Try.isAgg36 Try.sizeOf36 rfl (s34.rd (j := 2) rfl) (Nat.le_of_ble_eq_true rfl) rfl) rfl (by decide) (cok1 trivial) ?_
  refine dv (gyes_none rfl) (q_call0 Try.call16 rfl (ACalls.castV (faultOK_ok 0 0 (⟨#[]⟩ : ByteArray)) (congrArg Value.bool rfl))) rfl (by decide) (cok2 trivial trivial) ?_
  refine dv (gyes_none rfl) (q_mv (v := .bool true) rfl) rfl (by decide) (cok1 trivial) ?_
  refine dv (gyes_some rfl rfl) (q_loadAgg Try.isAgg36 Try.sizeOf36 rfl (s34.rd (j := 0) rfl) (Nat.le_of_ble_eq_true rfl) rfl) rfl (by decide) (cok1 trivial) ?_
  refine dv (gyes_some rfl rfl) (q_call0 Try.call16 rfl (ACalls.castV (faultOK_ok 0 0 (⟨#[]⟩ : ByteArray)) (congrArg Value.bool rfl))) rfl (by decide) (cok2 trivial trivial) ?_
  refine dv (gyes_none rfl) (q_pt (v := .bool true) rfl rfl) rfl (by decide) (call_ok rfl) ?_
  refine dv (gyes_none rfl) (q_mv (v := .bool true) rfl) rfl (by decide) (cok1 trivial) ?_
  refine dv (gyes_some rfl rfl) (q_mv (v := .slice (some ⟨b23, 0, none⟩) spE.length spE.length) rfl) rfl (by decide) (cok1 trivial) ?_
  refine dv (gyes_some rfl rfl) (q_len_slice Try.underlying43 rfl (s34.rd (j := 1) rfl)) rfl (by decide) (cok1 trivial) ?_
  refine dv (gyes_some rfl rfl) (OpQ.cast (v' := .bool true) (q_int rfl rfl rfl) (congrArg Value.bool rfl)) rfl (by decide) (cok2 trivial (cconst rfl)) ?_
  refine dv (gyes_none rfl) (q_pt (v := .bool true) rfl rfl) rfl (by decide) (call_ok rfl) ?_
  refine dv (gyes_none rfl) (q_mv (v := .bool true) rfl) rfl (by decide) (cok1 trivial) ?_
  refine dv (gyes_some rfl rfl) (q_mv (v := .bool true) rfl) rfl (by decide) (cok1 trivial) ?_
  refine dv (gyes_none rfl) (q_pt (v := .bool true) rfl rfl) rfl (by decide) (call_ok rfl) ?_
  refine dv (gyes_none rfl) (q_mv (v := .bool true) rfl) rfl (by decide) (cok1 trivial) ?_
  refine dv (gyes_some rfl rfl) (q_mv (v := .int .u64 1) rfl) rfl (by decide) (cok1 trivial) ?_
  refine dv (gyes_some rfl rfl) (OpQ.cast (v' := .bool true) (q_int rfl rfl rfl) (congrArg Value.bool (beq_self_eq_true _))) rfl (by decide) (cok2 trivial (cconst rfl)) ?_
  refine dv (gyes_none rfl) (q_pt (v := .bool true) rfl rfl) rfl (by decide) (call_ok rfl) ?_
  refine dv (gyes_none rfl) (q_mv (v := .bool true) rfl) rfl (by decide) (cok1 trivial) ?_
  refine dv (gyes_some rfl rfl) (q_mv (v := .bool true) rfl) rfl (by decide) (cok1 trivial) ?_
  refine dv (gyes_none rfl) (q_pt (v := .bool true) rfl rfl) rfl (by decide) (call_ok rfl) ?_
  refine dv (gyes_none rfl) (q_mv (v := .bool true) rfl) rfl (by decide) (cok1 trivial) ?_
  refine dv (gyes_some rfl rfl) (q_mv (v := .string (⟨#[97, 98]⟩ : ByteArray)) rfl) rfl (by decide) (cok1 trivial) ?_
  refine dv (gyes_some rfl rfl) (OpQ.cast (v' := .bool true) (q_streq rfl rfl) (congrArg Value.bool (by simp))) rfl (by decide) (cok2 trivial (cconst rfl)) ?_
  refine dv (gyes_none rfl) (q_pt (v := .bool true) rfl rfl) rfl (by decide) (call_ok rfl) ?_
  refine dv (gyes_none rfl) (q_as (v := .bool true) rfl) rfl (by decide) (cok1 trivial) ?_
  refine ⟨_, Wk.refl _ _, ?_⟩
  show awp _ _ _ _ _ _ _
  refine awp_ret_wk ?_
  refine ⟨_, Wk.refl _ _, ?_⟩
  repeat (with_reducible first | refine then_ret ?_ | refine blk_ret ?_ | refine then_exit ?_ | refine blk_exit ?_ | refine blk_exit' (by decide) ?_ | refine blk_normal ?_ | refine then_normal ?_ | refine retq_ret ?_ | refine retq_normal ?_ | refine ng_normal ?_ | refine ng_ret ?_ | refine ng_exit ?_)
  exact ret_none (v := .bool true) rfl s34.kp (.tmp rfl .nil) rfl rfl ⟨rfl, rfl⟩
end Go.Proofs.YthfndghgfabbjaaA


/-
  Walks of functions of the given program, and what they compute.
-/
namespace Go.Proofs.YthfndghgfabbjaaA
set_option linter.unusedVariables false
open Go Go.RowKit Go.Shelf Go.Proofs
theorem hrB_y {s : ByteArray} (h : hrC s = 0) : hrB s = s := if_pos h
theorem take_snoc {α : Type} [Inhabited α] {l : List α} {i : Nat} (h : i < l.length) : l.take i ++ [nth l i] = l.take (i + 1) := by rw [nth_eq h, List.take_append_getElem]
end Go.Proofs.YthfndghgfabbjaaA


/-
  From a law's arguments, slices among them, to abstract states.
-/
namespace Go.Proofs.YthfndghgfabbjaaA
set_option linter.unusedVariables false
open Go Go.RowKit Go.Shelf
/-- The places of the arguments' blocks. -/
def rhoOf (ls : List (Option Loc)) : Ren := fun b => match ls[b]? with | some (some l) => .at l | _ => .none
/-- A block of an argument, or none. -/
def ArgO (W : World) (ol : Option Loc) (o : AObj) : Prop :=
  (ol = none ∧ o = .none) ∨ ∃ lc vs, ol = some lc ∧ o = .cells false vs 1 ∧ lc.blk < W.heap.size ∧ ∀ ρ, ORel ρ lc W (.cells false vs 1)
def ArgOs (W : World) : List (Option Loc) → AHeap → Prop
  | [], [] => True
  | ol :: ls, o :: H => ArgO W ol o ∧ ArgOs W ls H
  | _, _ => False
theorem ArgOs.at {W : World} : ∀ {ls : List (Option Loc)} {H : AHeap}, ArgOs W ls H → ∀ (b : Nat) (ol : Option Loc), ls[b]? = some ol → ∃ o : AObj, H[b]? = some o ∧ ArgO W ol o
  | [], [], _, b, ol, h => by simp at h
  | [], _ :: _, h, _, _, _ => h.elim
  | _ :: _, [], h, _, _, _ => h.elim
  | x :: ls, o :: H, ⟨h1, h2⟩, b, ol, h => by
    cases b with
    | zero => simp at h; subst h; exact ⟨o, by simp, h1⟩
    | succ b => simpa using ArgOs.at h2 b ol (by simpa using h)
theorem ArgOs.at' {W : World} : ∀ {ls : List (Option Loc)} {H : AHeap}, ArgOs W ls H → ∀ (b : Nat) (o : AObj), H[b]? = some o → ∃ ol : Option Loc, ls[b]? = some ol ∧ ArgO W ol o
  | [], [], _, b, o, h => by simp at h
  | [], _ :: _, h, _, _, _ => h.elim
  | _ :: _, [], h, _, _, _ => h.elim
  | x :: ls, o' :: H, ⟨h1, h2⟩, b, o, h => by
    cases b with
    | zero => simp at h; subst h; exact ⟨x, by simp, h1⟩
    | succ b => simpa using ArgOs.at' h2 b o (by simpa using h)
theorem ArgOs.len {W : World} : ∀ {ls : List (Option Loc)} {H : AHeap}, ArgOs W ls H → ls.length = H.length
  | [], [], _ => rfl
  | [], _ :: _, h => h.elim
  | _ :: _, [], h => h.elim
  | x :: ls, o' :: H, ⟨h1, h2⟩ => by simp [ArgOs.len h2]
/-- A slice that came as an argument: its block, its value. -/
structure SArg {α : Type} (f : α → Value) (w : World) (v : Value) (l : List α) (b : Nat) (ol : Option Loc) (o : AObj) (va : Value) : Prop where
  obj : ArgO w ol o
  val : ∀ ρ : Ren, (∀ lc, ol = some lc → ρ b = .at lc) → VRel ρ va v
  sl : ∀ H : AHeap, H[b]? = some o → Sl f H va l
end Go.Proofs.YthfndghgfabbjaaA


/-
  Slices among a law's arguments, as the row's facts tell of them.
-/
namespace Go.Proofs.YthfndghgfabbjaaA
set_option linter.unusedVariables false
open Go Go.RowKit Go.Shelf Go.ChangeShapes
def RowF {α : Type} (f : α → Value) (w : World) (a : Option Addr) (len cap : Nat) (zs : List α) : Prop :=
  (a = none ∧ len = 0 ∧ cap = 0) ∨ ∃ x, a = some x ∧ x.spot = none ∧ len ≤ cap ∧ zs.length = cap ∧ (∃ cs T fr, w.heap[x.block]? = some (.cells cs T fr)) ∧ ∀ i (h : i < zs.length), w.cell? (x.add i) = some (f zs[i])
end Go.Proofs.YthfndghgfabbjaaA


/-
  A law's arguments, slices and slices of slices among them, as blocks.
-/
namespace Go.Proofs.YthfndghgfabbjaaA
set_option linter.unusedVariables false
open Go Go.RowKit Go.Shelf Go.ChangeShapes
def rhoP (ls : List Plc) : Ren := fun b => ls.getD b .none
def AtOff (ρ : Ren) (off : Nat) (ls : List Plc) : Prop := ∀ (i : Nat) (p : Plc), ls[i]? = some p → ρ (off + i) = p
def InH (H : AHeap) (off : Nat) (L : AHeap) : Prop := ∀ (i : Nat) (o : AObj), L[i]? = some o → H[off + i]? = some o
theorem AtOff.app {ρ : Ren} {off : Nat} {a b : List Plc} (h : AtOff ρ off (a ++ b)) : AtOff ρ off a ∧ AtOff ρ (off + a.length) b := by
  refine ⟨fun i p hi => h i p ?_, fun i p hi => ?_⟩
  · rw [List.getElem?_append_left (List.getElem?_eq_some_iff.1 hi).1]; exact hi
  · have := h (a.length + i) p (by rw [List.getElem?_append_right (by omega)]; simpa using hi)
    rw [Nat.add_assoc]; exact this
theorem InH.app {H : AHeap} {off : Nat} {a b : AHeap} (h : InH H off (a ++ b)) : InH H off a ∧ InH H (off + a.length) b := by
  refine ⟨fun i p hi => h i p ?_, fun i p hi => ?_⟩
  · rw [List.getElem?_append_left (List.getElem?_eq_some_iff.1 hi).1]; exact hi
  · have := h (a.length + i) p (by rw [List.getElem?_append_right (by omega)]; simpa using hi)
    rw [Nat.add_assoc]; exact this
theorem InH.refl (H : AHeap) : InH H 0 H := fun i o h => by rw [Nat.zero_add]; exact h
def ArgP (ρ : Ren) (w : World) (p : Plc) (o : AObj) : Prop :=
  (p = .none ∧ o = .none) ∨ (p = .null ∧ o = .null) ∨ ∃ lc vs sz, p = .at lc ∧ o = .cells false vs sz ∧ lc.blk < w.heap.size ∧ ORel ρ lc w (.cells false vs sz)
structure PArg (w : World) (v : Value) (off : Nat) (ls : List Plc) (L : AHeap) (va : Value) : Prop where
  len : ls.length = L.length
  obj : ∀ ρ : Ren, AtOff ρ off ls → ∀ (i : Nat) (p : Plc), ls[i]? = some p → ∃ o : AObj, L[i]? = some o ∧ ArgP ρ w p o
  val : ∀ ρ, AtOff ρ off ls → VRel ρ va v
inductive PAll (w : World) : Nat → List Value → List Plc → AHeap → List Value → Prop
  | nil (off : Nat) : PAll w off [] [] [] []
  | cons {off : Nat} {v va : Value} {vs vas : List Value} {ls ls' : List Plc} {L L' : AHeap} (h : PArg w v off ls L va) (k : PAll w (off + ls.length) vs ls' L' vas) : PAll w off (v :: vs) (ls ++ ls') (L ++ L') (va :: vas)
theorem PArg.scalar {w : World} {v : Value} (off : Nat) (h : Scalar v = true) : PArg w v off [] [] v := ⟨rfl, fun ρ _ i p h => by simp at h, fun ρ _ => .scalar h ρ⟩
theorem PAll.sum {w : World} : ∀ {off : Nat} {vs vas : List Value} {ls : List Plc} {L : AHeap}, PAll w off vs ls L vas → ls.length = L.length ∧ (∀ ρ : Ren, AtOff ρ off ls → (∀ (i : Nat) (p : Plc), ls[i]? = some p → ∃ o : AObj, L[i]? = some o ∧ ArgP ρ w p o) ∧ LRel ρ vas vs) := by
  intro off vs vas ls L h
  induction h with
  | nil off => exact ⟨rfl, fun ρ _ => ⟨fun i p h => by simp at h, .nil ρ⟩⟩
  | @cons off v va vs vas ls ls' L L' h k ih =>
    refine ⟨by rw [List.length_append, List.length_append, h.len, ih.1], fun ρ hρ => ?_⟩
    obtain ⟨h1, h2⟩ := hρ.app
    obtain ⟨h3, h4⟩ := ih.2 ρ h2
    refine ⟨fun i p hi => ?_, .cons (h.val ρ h1) h4⟩
    by_cases e : i < ls.length
    · rw [List.getElem?_append_left e] at hi
      obtain ⟨o, k1, k2⟩ := h.obj ρ h1 i p hi
      exact ⟨o, by rw [List.getElem?_append_left (by rw [← h.len]; exact e)]; exact k1, k2⟩
    · rw [List.getElem?_append_right (by omega)] at hi
      obtain ⟨o, k1, k2⟩ := h3 _ p hi
      exact ⟨o, by rw [List.getElem?_append_right (by rw [← h.len]; omega), ← h.len]; exact k1, k2⟩
theorem world_of_acallsP {P : Program} {f : FuncId} {args : List Value} {args' : Array Value} {H : AHeap} {ls : List Plc} {v : Value} {w : World} (hA : PAll w 0 args'.toList ls H args) (hv : Scalar v = true) (h : ACalls P f args H (Rets v H)) :
    Calls P f args' w fun e w' => e = .returned v ∧ Below w.heap.size w w' := by
  obtain ⟨hlen, hs⟩ := hA.sum
  have hat : AtOff (rhoP ls) 0 ls := fun i p hi => by
    rw [Nat.zero_add]; unfold rhoP; rw [List.getD_eq_getElem?_getD, hi]; rfl
  obtain ⟨hob, hval⟩ := hs _ hat
  have hrev : ∀ (b : Nat) (o : AObj), H[b]? = some o → ∃ p, ls[b]? = some p ∧ ArgP (rhoP ls) w p o := fun b o hb => by
    have hbl := (List.getElem?_eq_some_iff.1 hb).1
    obtain ⟨o', h1, h2⟩ := hob b _ (List.getElem?_eq_getElem (by rw [hlen]; exact hbl))
    rw [hb] at h1; cases h1
    exact ⟨_, List.getElem?_eq_getElem (by rw [hlen]; exact hbl), h2⟩
  have hget : ∀ b p, rhoP ls b = p → p ≠ .none → ls[b]? = some p := fun b p hb hn => by
    unfold rhoP at hb
    rw [List.getD_eq_getElem?_getD] at hb
    cases e : ls[b]? with
    | none => rw [e] at hb; exact absurd hb.symm hn
    | some q => rw [e] at hb; exact congrArg some hb
  have hnw : ∀ b l, rhoP ls b = .at l → ¬ wr H b := fun b l hb ⟨o, h1, h2⟩ => by
    obtain ⟨o', h3, h4⟩ := hob b _ (hget b _ hb (by simp))
    rw [h1] at h3; cases h3
    rcases h4 with ⟨h3, _⟩ | ⟨h3, _⟩ | ⟨lc, vs, sz, h3, rfl, _⟩
    · cases h3
    · cases h3
    · cases h2
  have hh : HRel (rhoP ls) H w := by
    refine ⟨fun b hb => ?_, fun b l hb => ?_, fun b c l m _ hb _ hw => absurd hw (hnw b l hb), fun g vs sz hg => ?_, fun b hb => ?_⟩
    · unfold rhoP
      rw [List.getD_eq_getElem?_getD, List.getElem?_eq_none (by rw [hlen]; exact hb)]; rfl
    · obtain ⟨o, h1, h2⟩ := hob b _ (hget b _ hb (by simp))
      rcases h2 with ⟨h3, _⟩ | ⟨h3, _⟩ | ⟨lc, vs, sz, h3, rfl, h4, h5⟩
      · cases h3
      · cases h3
      · cases h3; exact ⟨_, h1, h4, h5⟩
    · obtain ⟨p, _, h3⟩ := hrev g _ hg
      rcases h3 with ⟨_, h3⟩ | ⟨_, h3⟩ | ⟨lc, vs, sz, _, h3, _⟩ <;> cases h3
    · obtain ⟨o, h1, h2⟩ := hob b _ (hget b _ hb (by simp))
      rcases h2 with ⟨h3, _⟩ | ⟨h3, _⟩ | ⟨lc, vs, sz, h3, _⟩ <;> cases h3
  refine (h _ w args' hh hval).mono ?_
  rintro e w' ⟨v1, v', H', ρ', rfl, ⟨rfl, rfl⟩, k1, k2, k3, k4⟩
  rw [k1.scalar_eq hv]
  exact ⟨rfl, k3.os, k3.tape, k3.output, k3.size, fun k hk => k3.keep k hk fun ⟨b, l, hb, _, hw⟩ => hnw b l hb hw⟩
/-! ### Slices that came in -/
/-- A slice in the world: its elements, of one cell each. -/
def SlC {α : Type} (f : α → Value) (w : World) (u : Value) (r : List α) : Prop :=
  (u = .slice none 0 0 ∧ r = []) ∨ ∃ x l c, u = .slice (some x) l c ∧ l ≤ c ∧ r.length = l ∧ (c = 0 ∨ (x.spot = none ∧ ∃ cs T fr, w.heap[x.block]? = some (.cells cs T fr) ∧ x.off + c ≤ cs.size ∧ ∀ i (h : i < r.length), cs[x.off + i]? = some (f r[i])))
theorem AtOff.one {ρ : Ren} {off : Nat} {p : Plc} (h : AtOff ρ off [p]) : ρ off = p := h 0 p rfl
theorem parg_one {w : World} {v va : Value} {off : Nat} {p : Plc} {o : AObj} (h1 : ∀ ρ, ρ off = p → ArgP ρ w p o) (h2 : ∀ ρ, ρ off = p → VRel ρ va v) : PArg w v off [p] [o] va :=
  ⟨rfl, fun ρ hρ i q hi => by
    cases i with
    | zero => simp at hi; subst hi; exact ⟨o, rfl, h1 ρ hρ.one⟩
    | succ i => simp at hi, fun ρ hρ => h2 ρ hρ.one⟩
/-- A slice of slices. -/
structure Sl2C {α : Type} (f : α → Value) (w : World) (u : Value) (us : List Value) (rs : List (List α)) : Prop where
  out : SlC (fun v : Value => v) w u us
  len : us.length = rs.length
  row : ∀ i (h : i < us.length), SlC f w us[i] (nth rs i)
/-! ### From the row's facts -/
theorem addr_at {x : Addr} (hsp : x.spot = none) (i : Nat) : x.add i = ⟨x.block, x.off + i, none⟩ := by
  have hx : x = ⟨x.block, x.off, none⟩ := by cases x; simp at hsp; subst hsp; rfl
  rw [hx]
  unfold Addr.add
  split
  · subst i; rfl
  · rfl
theorem cell_some {w : World} {a : Addr} {v : Value} (h : w.cell? a = some v) : a.spot = none ∧ ∃ cs T fr, w.heap[a.block]? = some (.cells cs T fr) ∧ cs[a.off]? = some v := by
  unfold World.cell? at h
  split at h
  · rename_i c T fr hb
    split at h
    · cases h
    · rename_i hs
      exact ⟨by simpa using hs, c, T, fr, hb, h⟩
  · cases h
/-! ### Arrays that came in -/
theorem okWide_array {P : Program} {w : World} {r : Reach} {base : Nat} {t e : TypeId} {n : Nat} {v : Value} (ht : P.underlying t = some (.array n e)) (h : Value.okWide P w r base t v) : ∃ cs, v = .agg cs ∧ cs.size = P.cellsOf t := by
  simp only [Value.okWide, ht] at h
  obtain ⟨cs, h1, h2, _⟩ := h
  exact ⟨cs, h1, h2⟩
end Go.Proofs.YthfndghgfabbjaaA


/-
  A law's arguments: slices whose elements are structs or arrays, and arrays of numbers.
-/
namespace Go.Proofs.YthfndghgfabbjaaA
set_option linter.unusedVariables false
open Go Go.RowKit Go.Shelf Go.ChangeShapes Go.WideShapes
section
variable {α : Type} [Inhabited α] {f : α → List Value} {m : Nat}
def SlCm (f : α → List Value) (m : Nat) (w : World) (u : Value) (r : List α) : Prop :=
  (u = .slice none 0 0 ∧ r = []) ∨ ∃ x l c, u = .slice (some x) l c ∧ l ≤ c ∧ r.length = l ∧ (c = 0 ∨ (x.spot = none ∧ ∃ cs T fr, w.heap[x.block]? = some (.cells cs T fr) ∧ x.off + c * m ≤ cs.size ∧ ∀ i (h : i < r.length), ∀ j, j < m → cs[x.off + i * m + j]? = (f (nth r i))[j]?))
theorem parg_rowm (hw : Wm f m) (hm : 0 < m) (hf : ∀ x, ∀ u ∈ f x, Scalar u = true) {w : World} {u : Value} {r : List α} (h : SlCm f m w u r) (off : Nat) : ∃ p o va, PArg w u off [p] [o] va ∧ ∀ H, InH H off [o] → SlS f m H va r := by
  rcases h with ⟨rfl, rfl⟩ | ⟨x, l, c, rfl, hl, hr, h⟩
  · exact ⟨.none, .none, .slice none 0 0, parg_one (fun ρ _ => .inl ⟨rfl, rfl⟩) (fun ρ _ => .nilSlice), fun H _ => .nil⟩
  · by_cases h0 : c = 0
    · subst h0
      obtain rfl : l = 0 := by omega
      obtain rfl : r = [] := List.length_eq_zero_iff.1 hr
      exact ⟨.null, .null, .slice (some ⟨off, 0, none⟩) 0 0, parg_one (fun ρ _ => .inr (.inl ⟨rfl, rfl⟩)) (fun ρ h => .empty h), fun H hH => .inr ⟨off, 0, 0, [], rfl, .inr (.inr (.inl ⟨hH 0 _ rfl, rfl⟩)), by simp, by simp, by simp [fl]⟩⟩
    · obtain ⟨hsp, cs, T, fr, hb, hsz, hc⟩ := h.resolve_left h0
      have hlt : x.block < w.heap.size := (Array.getElem?_eq_some_iff.1 hb).1
      have hx : x = ⟨x.block, x.off, none⟩ := by cases x; simp at hsp; subst hsp; rfl
      have hlen : (fl f r).length = l * m := by rw [fl_len hw, hr]
      have hlm : l * m ≤ c * m := Nat.mul_le_mul_right m hl
      refine ⟨.at ⟨x.block, x.off, x.off + c * m, m⟩, .cells false (fl f r) m, .slice (some ⟨off, 0, none⟩) l c, parg_one (fun ρ hρ => .inr (.inr ⟨_, _, _, rfl, rfl, hlt, rfl, cs, T, fr, hb, by rw [hlen]; show x.off + l * m ≤ x.off + c * m; omega, hsz, fun i hi => ?_, fun h => by cases h⟩)) (fun ρ hρ => ?_), fun H hH => ?_⟩
      · have hi1 : i < l * m := by rw [← hlen]; exact hi
        have hq : i / m < r.length := by rw [hr]; exact Nat.div_lt_of_lt_mul (by rw [Nat.mul_comm]; exact hi1)
        have hj : i % m < m := Nat.mod_lt _ hm
        have hij : i / m * m + i % m = i := by rw [Nat.mul_comm]; exact Nat.div_add_mod i m
        have h1 := hc (i / m) hq (i % m) hj
        have h2 := fl_get hw hq hj
        rw [hij] at h2
        rw [show x.off + i / m * m + i % m = x.off + i by omega, ← h2] at h1
        have h3 : (fl f r)[i]? = some (fl f r)[i] := List.getElem?_eq_getElem hi
        rw [h3] at h1
        show VRel ρ ((fl f r).getD i undef) (cs.getD (x.off + i) undef)
        rw [List.getD_eq_getElem?_getD, h3, Array.getD_eq_getD_getElem?, h1]
        have hmem : (fl f r)[i] ∈ fl f r := List.getElem_mem hi
        obtain ⟨y, _, hy⟩ := List.mem_flatMap.1 hmem
        exact .scalar (hf y _ hy) ρ
      · rw [hx]
        exact .slice hρ hl (Nat.le_refl _) (.inl rfl) (by show x.off + 0 + c * m ≤ x.off + c * m; omega)
      · exact .inr ⟨off, 0, c, fl f r, by rw [hr], .inl ⟨false, hH 0 _ rfl⟩, by rw [hlen, hr]; omega, by omega, by rw [List.drop_zero, List.take_of_length_le (by rw [hlen, hr]; exact Nat.le_refl _)]⟩
def ElemOk (P : Program) (e : TypeId) (f : α → List Value) (ok : α → Prop) : Prop := ∀ (H : Type) (enc : TypeId × Value → H) (w : World) (base fuel : Nat) (cs : List Value) (x : DataW H × List MemPlace), DataW.trod enc P w base (fun _ => true) true fuel e cs = some x → ∃ a, cs = f a ∧ ok a
theorem trod_elems {H : Type} {enc : TypeId × Value → H} {P : Program} {w : World} {base fuel : Nat} {t e : TypeId} {u : Value} {x : DataW H × List MemPlace} {ok : α → Prop} (ht : P.underlying t = some (.slice e)) (hc : P.cellsOf e = m) (hm : 0 < m) (hw : Wm f m) (hE : ElemOk P e f ok)
    (h : DataW.trod enc P w base (fun _ => true) true fuel t [u] = some x) : ∃ r, SlCm f m w u r ∧ ∀ a ∈ r, ok a := by
  rcases Go.Deep.open_slice ht h with ⟨hcs, _⟩ | ⟨a, l, c, mm, n, D, Pl, hcs, hb, hl, hmx, hmm, _, hx⟩
  · simp at hcs; subst hcs
    exact ⟨[], .inl ⟨rfl, rfl⟩, by simp⟩
  · simp at hcs; subst hcs
    simp at hmm
    subst hmm
    rw [hc] at hx
    have hex : ∀ i : Nat, ∃ g : α, i < mm → ok g ∧ ∀ j, j < m → w.cell? (a.add (i * m + j)) = (f g)[j]? := fun i => by
      by_cases hi : i < mm
      · obtain ⟨cs', h1, h2⟩ := hx i hi
        obtain ⟨g, rfl, hg⟩ := hE _ _ _ _ _ _ _ h2
        obtain ⟨_, _, hcell⟩ := World.cells?_some h1
        exact ⟨g, fun _ => ⟨hg, fun j hj => by have := hcell j hj; rwa [Go.Deep.add_add] at this⟩⟩
      · exact ⟨default, fun h => absurd h hi⟩
    obtain ⟨g, hg⟩ : ∃ g : Nat → α, ∀ i, i < mm → ok (g i) ∧ ∀ j, j < m → w.cell? (a.add (i * m + j)) = (f (g i))[j]? := ⟨fun i => (hex i).choose, fun i => (hex i).choose_spec⟩
    refine ⟨(List.range l).map g, .inr ⟨a, l, mm, rfl, hl, by simp, ?_⟩, fun b hb' => ?_⟩
    · by_cases h0 : mm = 0
      · exact .inl h0
      · right
        have some' : ∀ i j, i < mm → j < m → ∃ v, w.cell? (a.add (i * m + j)) = some v := fun i j hi hj => by
          rw [(hg i hi).2 j hj]; exact ⟨_, List.getElem?_eq_getElem (by rw [hw]; exact hj)⟩
        obtain ⟨v0, h1⟩ := some' 0 0 (by omega) hm
        have e0 : a.add (0 * m + 0) = a := by rw [Nat.zero_mul]; unfold Addr.add; rw [if_pos rfl]
        rw [e0] at h1
        obtain ⟨hsp, cs, T, fr, hbk, _⟩ := cell_some h1
        have at' : ∀ i v, w.cell? (a.add i) = some v → cs[a.off + i]? = some v := fun i v h => by
          rw [addr_at hsp] at h
          obtain ⟨_, cs', T', fr', hb', h2⟩ := cell_some h
          simp only at hb' h2
          rw [hbk] at hb'; cases hb'
          exact h2
        refine ⟨hsp, cs, T, fr, hbk, ?_, fun i h j hj => ?_⟩
        · obtain ⟨v, h2⟩ := some' (mm - 1) (m - 1) (by omega) (by omega)
          have h3 := (Array.getElem?_eq_some_iff.1 (at' _ _ h2)).1
          have h4 : (mm - 1) * m + m = mm * m := by
            conv => rhs; rw [show mm = (mm - 1) + 1 by omega, Nat.add_mul, Nat.one_mul]
          omega
        · have hil : i < l := by simpa using h
          obtain ⟨v, h2⟩ := some' i j (by omega) hj
          have h3 := at' _ _ h2
          rw [(hg i (by omega)).2 j hj] at h2
          rw [Nat.add_assoc, h3, nth_eq (by simpa using hil)]
          simp only [List.getElem_map, List.getElem_range]
          exact h2.symm
    · obtain ⟨i, hi, rfl⟩ := List.mem_map.1 hb'
      exact (hg i (by have := List.mem_range.1 hi; omega)).1
end
section
variable {H : Type} {enc : TypeId × Value → H} {P : Program} {w : World} {base fuel : Nat} {t e : TypeId} {cs : List Value} {x : DataW H × List MemPlace}
theorem take1 {o : Nat} {v : Value} (h : (cs.drop o).take 1 = [v]) : cs[o]? = some v := by
  have h1 : ((cs.drop o).take 1)[0]? = some v := by rw [h]; rfl
  rw [List.getElem?_take, if_pos (by decide), List.getElem?_drop] at h1
  exact h1
theorem trod_len {fs : Array Field} (hs : P.underlying e = some (.struct fs)) (h : DataW.trod enc P w base (fun _ => true) true fuel e cs = some x) : cs.length = P.cellsOf e := by
  obtain ⟨_, _, _, _, hl, _⟩ := DataW.trod_struct hs h
  exact hl
theorem fld {fs : Array Field} (hs : P.underlying e = some (.struct fs)) (h : DataW.trod enc P w base (fun _ => true) true fuel e cs = some x) {i : Nat} {fd : Field} (hi : fs[i]? = some fd) : ∃ n y, DataW.trod enc P w base (fun _ => true) true n fd.type ((cs.drop fd.offset).take (P.cellsOf fd.type)) = some y := by
  obtain ⟨xs, n, _, _, _, hl, hx⟩ := DataW.trod_struct hs h
  have h1 := hx i fd hi
  have h2 := (Array.getElem?_eq_some_iff.1 hi).1
  rw [List.getElem?_eq_getElem (by omega)] at h1
  exact ⟨n, _, h1⟩
theorem fld_int {fs : Array Field} {k : IntKind} (hs : P.underlying e = some (.struct fs)) (h : DataW.trod enc P w base (fun _ => true) true fuel e cs = some x) {i : Nat} {fd : Field} (hi : fs[i]? = some fd) (hc : P.cellsOf fd.type = 1) (hu : P.underlying fd.type = some (.int k)) : ∃ n : Int, cs[fd.offset]? = some (.int k n) ∧ (Lit.int k n).wf = true := by
  obtain ⟨n, y, h1⟩ := fld hs h hi
  rw [hc] at h1
  obtain ⟨z, e1, _, hw⟩ := DataW.trod_int hu h1
  exact ⟨z, take1 e1, hw⟩
theorem nat_of_u64 {n : Int} (hw : (Lit.int .u64 n).wf = true) : ∃ k : Nat, n = (k : Int) ∧ k < 18446744073709551616 := by
  simp [Lit.wf, IntKind.min, IntKind.max, IntKind.signed, IntKind.bits] at hw
  exact ⟨n.toNat, by omega, by omega⟩
theorem fld_u64 {fs : Array Field} (hs : P.underlying e = some (.struct fs)) (h : DataW.trod enc P w base (fun _ => true) true fuel e cs = some x) {i : Nat} {fd : Field} (hi : fs[i]? = some fd) (hc : P.cellsOf fd.type = 1) (hu : P.underlying fd.type = some (.int .u64)) : ∃ n : Nat, cs[fd.offset]? = some (.int .u64 ((n : Nat) : Int)) ∧ n < 18446744073709551616 := by
  obtain ⟨z, h1, hw⟩ := fld_int hs h hi hc hu
  obtain ⟨k, rfl, hk⟩ := nat_of_u64 hw
  exact ⟨k, h1, hk⟩
/-- An array of whole numbers. -/
theorem arr_u64 {n : Nat} {el : TypeId} (hs : P.underlying e = some (.array n el)) (hc : P.cellsOf el = 1) (hu : P.underlying el = some (.int .u64)) (h : DataW.trod enc P w base (fun _ => true) true fuel e cs = some x) {i : Nat} (hi : i < n) : ∃ k : Nat, cs[i]? = some (.int .u64 ((k : Nat) : Int)) ∧ k < 18446744073709551616 := by
  obtain ⟨xs, m, _, _, _, hl, hx⟩ := DataW.trod_array hs h
  have h1 := hx i hi
  rw [hc, Nat.mul_one, List.getElem?_eq_getElem (by omega)] at h1
  obtain ⟨z, e1, _, hw⟩ := DataW.trod_int hu h1
  obtain ⟨k, rfl, hk⟩ := nat_of_u64 hw
  exact ⟨k, take1 e1, hk⟩
end
theorem arr_three {cs : Array Value} (h : cs.size = 3) : ∃ a b c, cs = #[a, b, c] := by
  obtain ⟨l⟩ := cs
  match l, h with
  | [a, b, c], _ => exact ⟨a, b, c, rfl⟩
theorem parg_sc {w : World} {vs : List Value} (h : ∀ v ∈ vs, Scalar v = true) (off : Nat) : PArg w (.agg vs.toArray) off [] [] (.agg vs.toArray) := by
  refine ⟨rfl, fun ρ _ i p h => by simp at h, fun ρ _ => .agg rfl fun i hi => ?_⟩
  have hi' : i < vs.length := by simpa using hi
  have : (vs.toArray.getD i undef) = vs[i] := by rw [Array.getD_eq_getD_getElem?]; simp [hi']
  rw [this]
  exact .scalar (h _ (List.getElem_mem hi')) ρ
end Go.Proofs.YthfndghgfabbjaaA


/-
  Walks of functions of the given program, and what they compute.
-/
namespace Go.Proofs.YthfndghgfabbjaaA
set_option linter.unusedVariables false
open Go Go.RowKit Go.Shelf Go.Proofs
theorem elem_entc : ElemOk Try.prog 28 entc EntW := fun H enc w base fuel cs x h => by
  obtain ⟨n0, g0, b0⟩ := fld_u64 Try.underlying28 h (i := 0) rfl (by kernel_rfl) Try.underlying25
  obtain ⟨n1, g1, b1⟩ := fld_u64 Try.underlying28 h (i := 1) rfl (by kernel_rfl) Try.underlying25
  have hl : cs.length = 2 := (trod_len Try.underlying28 h).trans (by kernel_rfl)
  match cs, hl with
  | [c0, c1], _ =>
    obtain rfl : c0 = _ := Option.some.inj g0
    obtain rfl : c1 = _ := Option.some.inj g1
    exact ⟨(n0, n1), rfl, ⟨b0, b1⟩⟩

end Go.Proofs.YthfndghgfabbjaaA


/-
  Walks of functions of the given program, and what they compute.
-/
namespace Go.Proofs.YthfndghgfabbjaaA
set_option linter.unusedVariables false
open Go Go.RowKit Go.Shelf Go.Proofs
def cntT (e : List DEnt) (k : Nat) : Nat → Nat
  | 0 => 0
  | i + 1 => if (nth e i).1 = k then cntT e k i + 1 else cntT e k i
def fstT (e : List DEnt) (k : Nat) : Nat → Nat
  | 0 => 0
  | i + 1 => if (nth e i).1 = k then (if cntT e k i = 0 then (nth e i).2 else fstT e k i) else fstT e k i
def told (n : Nat) (stop : Int) : Nat := if 0 < stop then min n stop.toNat else n
theorem St.turn2 {H0 : AHeap} {X : Nat → Prop} {Z : Rs} {H H' : AHeap} {F : List (Nat × AObj)} (h : St H0 X Z H F) {j9 jl b9 bl bn : Nat} {o9 ol o9' on : AObj} (h9 : F[j9]? = some (b9, o9)) (hl : F[jl]? = some (bl, ol)) (hij : j9 ≠ jl) (k : Kp (· ∈ [b9, bl]) H H') (hb : H.length ≤ bn ∨ bn ∈ [b9, bl]) (hne : bn ≠ b9) (h9' : H'[b9]? = some o9') (hn : H'[bn]? = some on) : St H0 X Z H' ((F.set j9 (b9, o9')).set jl (bn, on)) := by
  have m9 : b9 ∈ F.map (·.1) := List.mem_map.2 ⟨_, List.mem_of_getElem? h9, rfl⟩
  have ml : bl ∈ F.map (·.1) := List.mem_map.2 ⟨_, List.mem_of_getElem? hl, rfl⟩
  have hjl := (List.getElem?_eq_some_iff.1 hl).1
  refine h.turn k _ ?_ (fun p hp => ?_) (fun b hb => ?_)
  · have e1 : ((F.set j9 (b9, o9')).set jl (bn, on)).map (·.1) = (F.map (·.1)).set jl bn := by rw [List.map_set, keys_set h9]
    rw [e1]
    refine nodup_of_inj fun i j x hi hj => ?_
    rw [List.getElem?_set] at hi hj
    have nb : ∀ q, q ≠ jl → (F.map (·.1))[q]? ≠ some bn := fun q hq e => by
      rw [List.getElem?_map] at e
      obtain ⟨y, hy, hy2⟩ := Option.map_eq_some_iff.1 e
      rcases hb with hb | hb
      · have := lt_of_some (h.getj (b := y.1) (o := y.2) hy)
        omega
      · rcases List.mem_cons.1 hb with hb | hb
        · exact hne hb
        · have hb : bn = bl := by simpa using hb
          exact h.ne hy hl hq (hy2.trans hb)
    by_cases ei : jl = i
    · by_cases ej : jl = j
      · omega
      · rw [if_pos ei, if_pos (by simpa using hjl)] at hi
        rw [if_neg ej] at hj
        cases hi
        exact absurd hj (nb j (Ne.symm ej))
    · rw [if_neg ei] at hi
      by_cases ej : jl = j
      · rw [if_pos ej, if_pos (by simpa using hjl)] at hj
        cases hj
        exact absurd hi (nb i (Ne.symm ei))
      · rw [if_neg ej] at hj
        exact nodup_inj h.nd hi hj
  · rcases mem_set_cases hp with rfl | ⟨i, hi, hp⟩
    · refine .inr ⟨hn, hb.imp id fun hb => ?_⟩
      rcases List.mem_cons.1 hb with hb | hb
      · exact absurd hb hne
      · have hb : bn = bl := by simpa using hb
        show bn ∈ _
        rw [hb]; exact ml
    · rw [List.getElem?_set] at hp
      by_cases e : j9 = i
      · rw [if_pos e, if_pos (List.getElem?_eq_some_iff.1 h9).1] at hp
        cases hp
        exact .inr ⟨h9', .inr m9⟩
      · rw [if_neg e] at hp
        refine .inl ⟨List.mem_of_getElem? hp, fun hm => ?_⟩
        rcases List.mem_cons.1 hm with hm | hm
        · exact h.ne hp h9 (Ne.symm e) hm
        · have hm : p.1 = bl := by simpa using hm
          exact h.ne hp hl hi hm
  · rcases List.mem_cons.1 hb with rfl | hb
    · exact m9
    · have hb : b = bl := by simpa using hb
      rw [hb]; exact ml
end Go.Proofs.YthfndghgfabbjaaA


/-
  Ends whose results hold what the caller had: nothing is changed, what is new is dropped.
-/
namespace Go.Proofs.YthfndghgfabbjaaA
set_option linter.unusedVariables false
open Go Go.RowKit Go.Proofs
section
variable {P : Program} {N0 H : AHeap} {nt : Nat} {T : Nat → Value} {fn : Func} {Q : Value → AHeap → Prop} {vs : List Value} {v : Value} {s : ASt}
end
def keep2 (n b0 c0 : Nat) : Nat → Option Nat := fun b => if b < n then some b else if b = n then some b0 else if b = n + 1 then some c0 else none
end Go.Proofs.YthfndghgfabbjaaA


/-
  append(nil, make([]T, n)...), cap of nil, less capacity told.
-/
namespace Go.Proofs.YthfndghgfabbjaaA
set_option linter.unusedVariables false
open Go Go.RowKit Go.Shelf
section
variable {P : Program} {T : Nat → Value} {H : AHeap} {dst : Option Tmp} {ty : TypeId} {pos : String} {af : Array Edge} {g : Option (Nat × Bool)}
end
end Go.Proofs.YthfndghgfabbjaaA


/-
  A region that draws its order, walked in another order than it is written in.
-/
namespace Go.Proofs.YthfndghgfabbjaaA
set_option linter.unusedVariables false
open Go Go.RowKit Go.Shelf
def relab (q : List Nat) (o : Oper) : Oper := { o with after := o.after.map fun e => { e with on := q.getD e.on 0 }, guard := o.guard.map fun g => (q.getD g.1 0, g.2) }
/-- The operations in the order p; q tells where each stands then. -/
def reord (p q : List Nat) (l : List Oper) : List Oper := p.map fun i => relab q (l.getD i default)
def permOk (p q : List Nat) (l : List Oper) : Bool := p.length == l.length && q.length == l.length && (List.range l.length).all (fun i => decide (p.getD i 0 < l.length) && decide (q.getD i 0 < l.length) && p.getD (q.getD i 0) 0 == i && q.getD (p.getD i 0) 0 == i) && l.all fun o => o.after.all (fun e => decide (e.on < l.length)) && (match o.guard with | some g => decide (g.1 < l.length) | none => true)
section
variable {F : Fence} {n : Nat} {P : Program} {l : List Oper} {p q : List Nat}
structure PermP (p q : List Nat) (l : List Oper) : Prop where
  pl : p.length = l.length
  ql : q.length = l.length
  pp : ∀ i, i < l.length → p.getD i 0 < l.length
  qq : ∀ i, i < l.length → q.getD i 0 < l.length
  pq : ∀ i, i < l.length → p.getD (q.getD i 0) 0 = i
  qp : ∀ i, i < l.length → q.getD (p.getD i 0) 0 = i
  af : ∀ o ∈ l, ∀ e ∈ o.after.toList, e.on < l.length
  gd : ∀ o ∈ l, ∀ g, o.guard = some g → g.1 < l.length
theorem permP (h : permOk p q l = true) : PermP p q l := by
  unfold permOk at h
  simp only [Bool.and_eq_true, beq_iff_eq, List.all_eq_true, List.mem_range, decide_eq_true_eq] at h
  obtain ⟨⟨⟨h1, h2⟩, h3⟩, h4⟩ := h
  refine ⟨h1, h2, fun i hi => (h3 i hi).1.1.1, fun i hi => (h3 i hi).1.1.2, fun i hi => (h3 i hi).1.2, fun i hi => (h3 i hi).2, fun o ho e he => ?_, fun o ho g hg => ?_⟩
  · have := (h4 o ho).1
    rw [Array.all_eq_true_iff_forall_mem] at this
    exact of_decide_eq_true (this e (by simpa using he))
  · have := (h4 o ho).2
    rw [hg] at this
    exact of_decide_eq_true this
theorem reord_len (h : PermP p q l) : (reord p q l).length = l.length := by unfold reord; rw [List.length_map, h.pl]
theorem reord_at (h : PermP p q l) {i : Nat} (hi : i < l.length) : (reord p q l).toArray[q.getD i 0]? = some (relab q l[i]) := by
  have hq := h.qq i hi
  have hqp : q.getD i 0 < p.length := by rw [h.pl]; exact hq
  have e1 : p[q.getD i 0]'hqp = i := by
    have := h.pq i hi
    rw [List.getD_eq_getElem?_getD (l := p), List.getElem?_eq_getElem hqp] at this
    exact this
  unfold reord
  simp only [List.getElem?_toArray, List.getElem?_map, List.getElem?_eq_getElem hqp, Option.map_some, e1]
  rw [List.getD_eq_getElem?_getD, List.getElem?_eq_getElem hi]; rfl
theorem dp_reord (h : PermP p q l) {i : Nat} (hi : i < l.length) : dp (reord p q l).toArray (q.getD i 0) = (dp l.toArray i).map fun k => q.getD k 0 := by
  unfold dp
  rw [reord_at h hi]
  simp only [List.getElem?_toArray, List.getElem?_eq_getElem hi, Option.map_some, Option.getD_some]
  unfold relab
  simp only [Array.toList_map, List.filterMap_map, List.map_filterMap]
  congr 1
  funext e
  show (if Region.binds .any e = true then some (q.getD e.on 0) else none) = Option.map _ (if Region.binds .any e = true then some e.on else none)
  split <;> rfl
theorem dp_in (h : PermP p q l) {i k : Nat} (hk : k ∈ dp l.toArray i) : k < l.length := by
  unfold dp at hk
  cases ho : l.toArray[i]? with
  | none => rw [ho] at hk; simp at hk
  | some o =>
    rw [ho] at hk
    simp only [Option.map_some, Option.getD_some, List.mem_filterMap] at hk
    obtain ⟨e, he, h2⟩ := hk
    split at h2
    · cases h2
      have hm : o ∈ l := by
        rw [List.getElem?_toArray] at ho
        exact List.mem_of_getElem? ho
      exact h.af o hm e he
    · cases h2
theorem yield_reord (h : PermP p q l) {j : Nat} (hj : j < l.length) (tmps : Array Value) : yielded (reord p q l).toArray tmps (q.getD j 0) = yielded l.toArray tmps j := by
  unfold yielded
  rw [reord_at h hj]
  simp only [List.getElem?_toArray, List.getElem?_eq_getElem hj]
  rfl
theorem wpOp_reord (h : PermP p q l) {Q : Exit → Act → World → Prop} {K K' : Act → World → Prop} {i : Nat} (hi : i < l.length) (hK : ∀ a w, K' a w → K a w) {a : Act} {w : World} (hh : wpOpIn F n P (reord p q l).toArray Q (q.getD i 0) K' a w) : wpOpIn F n P l.toArray Q i K a w := by
  refine wpOpIn_mono hK ?_
  unfold wpOpIn at hh ⊢
  rw [reord_at h hi] at hh
  simp only [List.getElem?_toArray, List.getElem?_eq_getElem hi] at hh ⊢
  have e : Region.wanted (relab q l[i]) (yielded (reord p q l).toArray a.tmps) = Region.wanted l[i] (yielded l.toArray a.tmps) := by
    unfold Region.wanted
    show (match (l[i].guard.map fun g => (q.getD g.1 0, g.2)) with | none => true | some (j, want) => yielded (reord p q l).toArray a.tmps j == some want) = _
    cases hg : l[i].guard with
    | none => rfl
    | some g =>
      obtain ⟨j, want⟩ := g
      have hj := h.gd l[i] (List.getElem_mem hi) (j, want) hg
      show (yielded (reord p q l).toArray a.tmps (q.getD j 0) == some want) = (yielded l.toArray a.tmps j == some want)
      rw [yield_reord h hj]
  rw [e] at hh
  exact hh
theorem wpAny_reord (h : PermP p q l) {Q : Exit → Act → World → Prop} : ∀ (fuel : Nat) (ls ls' : Array Bool) (a : Act) (w : World), ls.size = l.length → ls'.size = l.length → (∀ i, i < l.length → Lof ls' (q.getD i 0) = Lof ls i) →
    wpAnyIn F n P .any (reord p q l).toArray Q fuel ls' a w → wpAnyIn F n P .any l.toArray Q fuel ls a w := by
  intro fuel
  have hrl := reord_len h
  have rdy : ∀ (ls ls' : Array Bool), ls.size = l.length → ls'.size = l.length → (∀ i, i < l.length → Lof ls' (q.getD i 0) = Lof ls i) → ∀ i, i ∈ Region.ready .any l.toArray ls → q.getD i 0 ∈ Region.ready .any (reord p q l).toArray ls' := fun ls ls' h1 h2 h3 i hi => by
    obtain ⟨r1, r2, r3⟩ := ready_mem (ops := l.toArray) (by simpa using h1) hi
    have r1' : i < l.length := by simpa using r1
    refine ready_of (by simp [hrl, h2]) (by simp [hrl]; exact h.qq i r1') (by rw [h3 i r1']; exact r2) fun k hk => ?_
    rw [dp_reord h r1'] at hk
    obtain ⟨k0, hk0, rfl⟩ := List.mem_map.1 hk
    rw [h3 k0 (dp_in h hk0)]
    exact r3 k0 hk0
  have rdy2 : ∀ (ls ls' : Array Bool), ls.size = l.length → ls'.size = l.length → (∀ i, i < l.length → Lof ls' (q.getD i 0) = Lof ls i) → Region.ready .any l.toArray ls = [] → Region.ready .any (reord p q l).toArray ls' = [] := fun ls ls' h1 h2 h3 hn => by
    refine List.eq_nil_iff_forall_not_mem.2 fun j hj => ?_
    obtain ⟨r1, r2, r3⟩ := ready_mem (ops := (reord p q l).toArray) (by simp [hrl, h2]) hj
    have r1' : j < l.length := by simpa [hrl] using r1
    have hm : p.getD j 0 ∈ Region.ready .any l.toArray ls := by
      have hpj := h.pp j r1'
      refine ready_of (by simpa using h1) (by simpa using hpj) (by rw [← h3 _ hpj, h.qp j r1']; exact r2) fun k hk => ?_
      have hkl := dp_in h hk
      rw [← h3 k hkl]
      refine r3 _ ?_
      rw [← h.qp j r1', dp_reord h hpj]
      exact List.mem_map.2 ⟨k, hk, rfl⟩
    rw [hn] at hm
    cases hm
  induction fuel with
  | zero =>
    intro ls ls' a w h1 h2 h3 hh
    refine ⟨?_, hh.2⟩
    refine List.eq_nil_iff_forall_not_mem.2 fun i hi => ?_
    have := rdy ls ls' h1 h2 h3 i hi
    rw [hh.1] at this
    cases this
  | succ fuel ih =>
    intro ls ls' a w h1 h2 h3 hh
    refine ⟨fun hn => hh.1 (rdy2 ls ls' h1 h2 h3 hn), fun i hi => ?_⟩
    obtain ⟨r1, r2, r3⟩ := ready_mem (ops := l.toArray) (by simpa using h1) hi
    have r1' : i < l.length := by simpa using r1
    refine wpOp_reord h r1' (fun a w hk => ?_) (hh.2 _ (rdy ls ls' h1 h2 h3 i hi))
    refine ih _ _ _ _ (by simpa using h1) (by simpa using h2) (fun k hk => ?_) hk
    have hq := h.qq i r1'
    rw [lof_set (by omega), lof_set (by omega)]
    by_cases e : k = i
    · subst e; simp
    · have e2 : q.getD k 0 ≠ q.getD i 0 := fun e2 => e (by rw [← h.pq k hk, e2, h.pq i r1'])
      simp only [if_neg e, if_neg e2]
      exact h3 k hk
end
section
variable {F : Fence} {n : Nat} {P : Program} {N0 : AHeap}
theorem any_goal (hF : Wd F) {Q : AEx → ASt → Prop} {s : ASt} {l : List Oper} (tab : List Nat) (ht : tabOk l.toArray tab = true) (hs : ssaOk l.toArray tab = true)
    (h : dList F n P N0 l.toArray tab 0 l (Q .normal) s) {ρ : Ren} {a : Act} {w : World} (hs0 : SRel N0 ρ s a w) : wpAnyIn F n P .any l.toArray (APost N0 Q ρ s.H w) l.toArray.size (Array.replicate l.toArray.size false) a { w with drawn := w.drawn + 1 } := by
  obtain ⟨e, st, hce, hst, hch, hend⟩ := chain_of (ops := l.toArray) l 0 s (fun j => by simp) h
  have hL : ∀ k, Lof (Array.replicate l.toArray.size false) k = false := fun k => by
    unfold Lof
    by_cases hk : k < l.length <;> simp [hk]
  have hs1 := hs0.drawn (w.drawn + 1)
  have hf0 : Fr N0.length ρ s.H w ρ s.H { w with drawn := w.drawn + 1 } := (Fr.refl N0.length ρ s.H { w with drawn := w.drawn + 1 }).drew
  have hM : Mid P N0 l.toArray st 0 e (Lof (Array.replicate l.toArray.size false)) ρ a { w with drawn := w.drawn + 1 } :=
    .start hch hce (fun k hk => by rw [hL k] at hk; cases hk) (fun k hk => by omega) (fun i j h1 h2 => by omega) (fun k _ => hL k) (T0 := (st 0).T) (fun _ _ => rfl) (by rw [hst]; exact hs1)
  refine any_sound (R := APost N0 Q ρ s.H w) hF ht hs (fun hl => by obtain ⟨a, w, x, s', ρ', h, _⟩ := hl; cases x <;> cases h) ρ s.H w (fun s' ρ' a' w' hk hs' hf => ⟨.normal, s', ρ', rfl, hk, hs', hf⟩) _ _ ρ a _ st 0 e (by simp) ?_ hce hch hM ?_ ?_
  · unfold left
    rw [List.filter_eq_self.2 (fun i _ => by rw [hL i]; rfl)]
    simp
  · refine ⟨hf0.os, hf0.tape, hf0.output, hf0.size, hf0.keep, hf0.oldA, fun b l' hb hw => .inl ⟨b, l', hb, rfl, ?_⟩⟩
    obtain ⟨o2, p1, p2⟩ := hw
    have hb2 : b < (st 0).H.length := by
      by_cases e1 : b < (st 0).H.length
      · exact e1
      · rw [hst] at e1; rw [hs0.heap.bound b (by omega)] at hb; cases hb
    exact ⟨o2, by rw [← hst, ← chain_get hch (Nat.le_refl _) hce (Nat.le_refl _) hb2]; exact p1, p2⟩
  · rcases hend with ⟨q1, q2⟩ | ⟨o', r', q1, q2, q3, q4, q5⟩
    · exact .inl ⟨by simpa using q1, q2⟩
    · exact .inr ⟨o', r', q1, q2, q5⟩
end
end Go.Proofs.YthfndghgfabbjaaA


/-
  A region that draws its order, walked in two ways: one operation ahead of another, and behind it.
-/
namespace Go.Proofs.YthfndghgfabbjaaA
set_option linter.unusedVariables false
open Go Go.RowKit Go.Shelf
/-- Operation y waits on operation x, too. -/
def addE (x y : Nat) (l : List Oper) : List Oper := (List.range l.length).map fun i => if i = y then { l.getD i default with after := (l.getD i default).after.push ⟨x, .data⟩ } else l.getD i default
def plainOp : Op → Bool
  | .move _ | .assign _ | .load _ _ | .buildSlice _ _ _ | .indexAddr _ _ _ => true
  | _ => false
def plainR : Result Next → Prop
  | .ok (.enter _ _) _ => False
  | .ok (.row _ _) _ => False
  | .ok (.round _ _ _ _ _) _ => False
  | _ => True
section
variable {F : Fence} {n : Nat} {P : Program} {l : List Oper} {x y : Nat} {Q : Exit → Act → World → Prop}
theorem upon_and {o : Oper} {a : Act} {K1 K2 : Act → World → Prop} : ∀ {r : Result Next}, plainR r → o.uponIn F n P a K1 Q r → o.uponIn F n P a K2 Q r → o.uponIn F n P a (fun a w => K1 a w ∧ K2 a w) Q r
  | .ok x w', hp, h1, h2 => by
    cases x <;> simp only [Oper.uponIn] at h1 h2 ⊢ <;> first | exact ⟨h1, h2⟩ | exact hp.elim | exact h1
  | .halt x w', _, h1, h2 => by
    cases x <;> simp only [Oper.uponIn] at h1 ⊢ <;> exact h1
theorem plain_v {s : Sem Value} {w : World} : plainR ((do pure (Next.value (← s)) : Sem Next).run P w) := by
  simp only [Sem.run_bind]
  cases s.run P w <;> simp [Result.andThen, Sem.run_pure, plainR]
theorem plain_sem {o : Oper} (h : plainOp o.op = true) {ro : Option Nat} {ρ : Operand → Value} {w : World} : plainR ((o.semAt ro ρ).run P w) := by
  rw [Oper.semAt_eq ro ρ o (fun c hc => by rw [hc] at h; exact nomatch h)]
  unfold execOp
  cases ho : o.op <;> rw [ho] at h <;> first | (simp [plainOp] at h; done) | exact plain_v | exact trivial
theorem wpOp_and {ops : Array Oper} {i : Nat} (hpl : ∀ o, ops[i]? = some o → plainOp o.op = true) {K1 K2 : Act → World → Prop} {a : Act} {w : World} (h1 : wpOpIn F n P ops Q i K1 a w) (h2 : wpOpIn F n P ops Q i K2 a w) : wpOpIn F n P ops Q i (fun a w => K1 a w ∧ K2 a w) a w := by
  unfold wpOpIn at h1 h2 ⊢
  cases ho : ops[i]? with
  | none => rw [ho] at h1 h2; exact ⟨h1, h2⟩
  | some o =>
    rw [ho] at h1 h2
    dsimp only at h1 h2 ⊢
    split
    · rename_i hw
      rw [if_pos hw] at h1 h2
      exact ⟨h1.1, upon_and (plain_sem (hpl o ho)) h1.2 h2.2⟩
    · rename_i hw
      rw [if_neg hw] at h1 h2
      exact ⟨h1.1, h1.2, h2.2⟩
theorem addE_len : (addE x y l).length = l.length := by unfold addE; rw [List.length_map, List.length_range]
theorem addE_at {i : Nat} (hi : i < l.length) : (addE x y l).toArray[i]? = some (if i = y then { l[i] with after := l[i].after.push ⟨x, .data⟩ } else l[i]) := by
  have e : l.getD i default = l[i] := by rw [List.getD_eq_getElem?_getD, List.getElem?_eq_getElem hi]; rfl
  unfold addE
  rw [List.getElem?_toArray, List.getElem?_map, List.getElem?_range hi, Option.map_some, e]
theorem addE_out {i : Nat} (hi : ¬ i < l.length) : (addE x y l).toArray[i]? = none := by
  rw [List.getElem?_toArray]; exact List.getElem?_eq_none (by rw [addE_len]; omega)
theorem yield_add (tmps : Array Value) (j : Nat) : yielded (addE x y l).toArray tmps j = yielded l.toArray tmps j := by
  unfold yielded
  by_cases hj : j < l.length
  · rw [addE_at hj, List.getElem?_toArray, List.getElem?_eq_getElem hj]
    by_cases e : j = y
    · rw [if_pos e]; rfl
    · rw [if_neg e]
  · rw [addE_out hj, List.getElem?_toArray, List.getElem?_eq_none (by omega)]
theorem wpOp_add {i : Nat} (hi : i < l.length) {K : Act → World → Prop} {a : Act} {w : World} (h : wpOpIn F n P (addE x y l).toArray Q i K a w) : wpOpIn F n P l.toArray Q i K a w := by
  unfold wpOpIn at h ⊢
  rw [addE_at hi] at h
  rw [List.getElem?_toArray, List.getElem?_eq_getElem hi]
  rw [show yielded (addE x y l).toArray a.tmps = yielded l.toArray a.tmps from funext fun j => yield_add _ j] at h
  by_cases e : i = y
  · rw [if_pos e] at h; exact h
  · rw [if_neg e] at h; exact h
theorem dp_add {i : Nat} (hi : i < l.length) : dp (addE x y l).toArray i = dp l.toArray i ++ (if i = y then [x] else []) := by
  unfold dp
  rw [addE_at hi, List.getElem?_toArray, List.getElem?_eq_getElem hi]
  by_cases e : i = y
  · rw [if_pos e, if_pos e]
    simp only [Option.map_some, Option.getD_some, Array.toList_push, List.filterMap_append]
    rfl
  · rw [if_neg e, if_neg e, List.append_nil]
theorem rdy_add {ls : Array Bool} (hsz : ls.size = l.length) {i : Nat} (h : i ∈ Region.ready .any l.toArray ls) (hx : i = y → Lof ls x = true) : i ∈ Region.ready .any (addE x y l).toArray ls := by
  obtain ⟨r1, r2, r3⟩ := ready_mem (ops := l.toArray) (by simpa using hsz) h
  have r1' : i < l.length := by simpa using r1
  refine ready_of (by simp [addE_len, hsz]) (by simp [addE_len]; exact r1') r2 fun k hk => ?_
  rw [dp_add r1'] at hk
  rcases List.mem_append.1 hk with hk | hk
  · exact r3 k hk
  · by_cases e : i = y
    · rw [if_pos e, List.mem_singleton] at hk; rw [hk]; exact hx e
    · rw [if_neg e] at hk; exact nomatch hk
theorem rdy_sub {ls : Array Bool} (hsz : ls.size = l.length) (hn : Region.ready .any l.toArray ls = []) : Region.ready .any (addE x y l).toArray ls = [] := by
  refine List.eq_nil_iff_forall_not_mem.2 fun i hi => ?_
  obtain ⟨r1, r2, r3⟩ := ready_mem (ops := (addE x y l).toArray) (by simp [addE_len, hsz]) hi
  have r1' : i < l.length := by simpa [addE_len] using r1
  have hm : i ∈ Region.ready .any l.toArray ls := ready_of (by simpa using hsz) (by simpa using r1') r2 fun k hk => r3 k (by rw [dp_add r1']; exact List.mem_append_left _ hk)
  rw [hn] at hm
  cases hm
/-- The edge is kept: it is as if it were not there. -/
theorem wpAny_kept : ∀ (fuel : Nat) (ls : Array Bool) (a : Act) (w : World), ls.size = l.length → Lof ls x = true → wpAnyIn F n P .any (addE x y l).toArray Q fuel ls a w → wpAnyIn F n P .any l.toArray Q fuel ls a w := by
  intro fuel
  induction fuel with
  | zero =>
    intro ls a w h1 hx hh
    refine ⟨List.eq_nil_iff_forall_not_mem.2 fun i hi => ?_, hh.2⟩
    have := rdy_add (x := x) (y := y) h1 hi (fun _ => hx)
    rw [hh.1] at this
    cases this
  | succ fuel ih =>
    intro ls a w h1 hx hh
    refine ⟨fun hn => hh.1 (rdy_sub h1 hn), fun i hi => ?_⟩
    have r1 : i < l.length := by simpa using (ready_mem (ops := l.toArray) (by simpa using h1) hi).1
    refine wpOp_add r1 (wpOpIn_mono (fun a w hk => ih _ a w (by simpa using h1) ?_ hk) (hh.2 i (rdy_add h1 hi fun _ => hx)))
    rw [lof_set (by omega)]
    dsimp only
    split
    · rfl
    · exact hx
theorem wpAny_split (hne : x ≠ y) (hpl : ∀ i, i < l.length → i ≠ x → i ≠ y → (∃ o, l[i]? = some o ∧ plainOp o.op = true) ∨ x ∈ dp l.toArray i ∨ y ∈ dp l.toArray i) : ∀ (fuel : Nat) (ls : Array Bool) (a : Act) (w : World), ls.size = l.length → Lof ls x = false → Lof ls y = false →
    wpAnyIn F n P .any (addE x y l).toArray Q fuel ls a w → wpAnyIn F n P .any (addE y x l).toArray Q fuel ls a w → wpAnyIn F n P .any l.toArray Q fuel ls a w := by
  intro fuel
  induction fuel with
  | zero =>
    intro ls a w h1 hx hy hA hB
    refine ⟨List.eq_nil_iff_forall_not_mem.2 fun i hi => ?_, hA.2⟩
    by_cases e : i = y
    · have := rdy_add (x := y) (y := x) h1 hi (fun e2 => absurd (e2.symm.trans e) hne)
      rw [hB.1] at this
      cases this
    · have := rdy_add (x := x) (y := y) h1 hi (fun e2 => absurd e2 e)
      rw [hA.1] at this
      cases this
  | succ fuel ih =>
    intro ls a w h1 hx hy hA hB
    refine ⟨fun hn => hA.1 (rdy_sub h1 hn), fun i hi => ?_⟩
    obtain ⟨r0, r2, r3⟩ := ready_mem (ops := l.toArray) (by simpa using h1) hi
    have r1 : i < l.length := by simpa using r0
    by_cases e1 : i = x
    · refine wpOp_add r1 (wpOpIn_mono (fun a w hk => wpAny_kept _ _ a w (by simpa using h1) ?_ hk) (hA.2 i (rdy_add h1 hi fun e2 => absurd (e1.symm.trans e2) hne)))
      rw [lof_set (by omega)]
      dsimp only
      rw [if_pos e1.symm]
    · by_cases e2 : i = y
      · refine wpOp_add r1 (wpOpIn_mono (fun a w hk => wpAny_kept _ _ a w (by simpa using h1) ?_ hk) (hB.2 i (rdy_add h1 hi fun e3 => absurd e3 e1)))
        rw [lof_set (by omega)]
        dsimp only
        rw [if_pos e2.symm]
      · have hp : plainOp l[i].op = true := by
          rcases hpl i r1 e1 e2 with ⟨o, h2, h3⟩ | h2 | h2
          · rw [List.getElem?_eq_getElem r1] at h2; cases h2; exact h3
          · have := r3 _ h2; rw [hx] at this; cases this
          · have := r3 _ h2; rw [hy] at this; cases this
        have hsA := wpOp_add r1 (hA.2 i (rdy_add h1 hi fun e3 => absurd e3 e2))
        have hsB := wpOp_add r1 (hB.2 i (rdy_add h1 hi fun e3 => absurd e3 e1))
        refine wpOpIn_mono (fun a w hk => ih _ a w (by simpa using h1) ?_ ?_ hk.1 hk.2) (wpOp_and (fun o ho => ?_) hsA hsB)
        · rw [lof_set (by omega)]; dsimp only; rw [if_neg (fun h => e1 h.symm)]; exact hx
        · rw [lof_set (by omega)]; dsimp only; rw [if_neg (fun h => e2 h.symm)]; exact hy
        · rw [List.getElem?_toArray, List.getElem?_eq_getElem r1] at ho; cases ho; exact hp
def splitOk (x y : Nat) (l : List Oper) : Bool := x != y && (List.range l.length).all fun i => i == x || i == y || (l[i]?.map fun o => plainOp o.op).getD false || (dp l.toArray i).contains x || (dp l.toArray i).contains y
theorem split_ok (h : splitOk x y l = true) : x ≠ y ∧ ∀ i, i < l.length → i ≠ x → i ≠ y → (∃ o, l[i]? = some o ∧ plainOp o.op = true) ∨ x ∈ dp l.toArray i ∨ y ∈ dp l.toArray i := by
  unfold splitOk at h
  rw [Bool.and_eq_true] at h
  refine ⟨by simpa using h.1, fun i hi e1 e2 => ?_⟩
  have h2 := List.all_eq_true.1 h.2 i (List.mem_range.2 hi)
  simp only [Bool.or_eq_true, beq_iff_eq, List.contains_iff_mem] at h2
  rcases h2 with (((h2 | h2) | h2) | h2) | h2
  · exact absurd h2 e1
  · exact absurd h2 e2
  · rw [List.getElem?_eq_getElem hi] at h2 ⊢; exact .inl ⟨_, rfl, h2⟩
  · exact .inr (.inl h2)
  · exact .inr (.inr h2)
end
section
variable {F : Fence} {n : Nat} {P : Program} {N0 : AHeap}
/-- A region that draws its order: x ahead of y in the order p, and behind it in the order p'. -/
theorem awp_reg2 (hF : Wd F) (hm : P.follows .mixedOrders = true) (x y : Nat) (p q p' q' : List Nat) {id : Nat} {Q : AEx → ASt → Prop} {s : ASt} {l : List Oper} (hsp : splitOk x y l = true)
    (hp : permOk p q (addE x y l) = true) (ht : tabOk (reord p q (addE x y l)).toArray (tabOf (reord p q (addE x y l)).toArray) = true) (hs : ssaOk (reord p q (addE x y l)).toArray (tabOf (reord p q (addE x y l)).toArray) = true)
    (hp' : permOk p' q' (addE y x l) = true) (ht' : tabOk (reord p' q' (addE y x l)).toArray (tabOf (reord p' q' (addE y x l)).toArray) = true) (hs' : ssaOk (reord p' q' (addE y x l)).toArray (tabOf (reord p' q' (addE y x l)).toArray) = true)
    (h : dList F n P N0 (reord p q (addE x y l)).toArray (tabOf (reord p q (addE x y l)).toArray) 0 (reord p q (addE x y l)) (fun s' => ∃ s2, Wk N0 s' s2 ∧ Q .normal s2) s)
    (h' : dList F n P N0 (reord p' q' (addE y x l)).toArray (tabOf (reord p' q' (addE y x l)).toArray) 0 (reord p' q' (addE y x l)) (fun s' => ∃ s2, Wk N0 s' s2 ∧ Q .normal s2) s) : awp F n P N0 (.region id l.toArray true) Q s := by
  obtain ⟨hne, hpl⟩ := split_ok hsp
  have hL : ∀ k, Lof (Array.replicate l.toArray.size false) k = false := fun k => by
    unfold Lof
    by_cases hk : k < l.length <;> simp [hk]
  refine awp_post ?_
  intro ρ a w hs0
  refine wpIn_region_any hm ?_
  refine wpAny_split hne hpl _ _ a _ (by simp) (hL x) (hL y) ?_ ?_
  · have hP := permP hp
    have hl := (reord_len hP).trans addE_len
    have h2 := any_goal (Q := fun e s' => ∃ s2, Wk N0 s' s2 ∧ Q e s2) hF _ ht hs h hs0
    have e : (reord p q (addE x y l)).toArray.size = l.toArray.size := by simpa using hl
    rw [e] at h2
    refine wpAny_reord hP _ _ _ a _ (by simp [addE_len]) (by simp [addE_len]) (fun i hi => ?_) h2
    rw [hL, hL]
  · have hP := permP hp'
    have hl := (reord_len hP).trans addE_len
    have h2 := any_goal (Q := fun e s' => ∃ s2, Wk N0 s' s2 ∧ Q e s2) hF _ ht' hs' h' hs0
    have e : (reord p' q' (addE y x l)).toArray.size = l.toArray.size := by simpa using hl
    rw [e] at h2
    refine wpAny_reord hP _ _ _ a _ (by simp [addE_len]) (by simp [addE_len]) (fun i hi => ?_) h2
    rw [hL, hL]
end
end Go.Proofs.YthfndghgfabbjaaA


/-
  Walks of functions of the given program, and what they compute.
-/
namespace Go.Proofs.YthfndghgfabbjaaA
set_option linter.unusedVariables false
open Go Go.RowKit Go.Shelf Go.Proofs
def posT (e : List DEnt) (k : Nat) : Nat → Nat
  | 0 => 0
  | i + 1 => if (nth e i).1 = k then i + 1 else posT e k i
theorem pos_y {e : List DEnt} {k i : Nat} (h : (nth e i).1 = k) : posT e k (i + 1) = i + 1 := if_pos h
theorem pos_n {e : List DEnt} {k i : Nat} (h : (nth e i).1 ≠ k) : posT e k (i + 1) = posT e k i := if_neg h
theorem pos_le {e : List DEnt} {k : Nat} : ∀ i, posT e k i ≤ i
  | 0 => Nat.le_refl _
  | i + 1 => by
    by_cases h : (nth e i).1 = k
    · rw [pos_y h]; exact Nat.le_refl _
    · rw [pos_n h]; exact Nat.le_succ_of_le (pos_le i)
theorem pos_no {e : List DEnt} {k : Nat} : ∀ i j, posT e k i ≤ j → j < i → (nth e j).1 ≠ k
  | 0, j, _, h => absurd h (Nat.not_lt_zero _)
  | i + 1, j, h1, h2 => by
    by_cases h : (nth e i).1 = k
    · rw [pos_y h] at h1; omega
    · rw [pos_n h] at h1
      by_cases e2 : j = i
      · subst e2; exact h
      · exact pos_no i j h1 (by omega)
set_option maxRecDepth 100000 in
set_option maxHeartbeats 4000000 in
theorem aclos_ok {H0 : AHeap} (e : List DEnt) (hl : e.length ≤ 1000000) (k n i : Nat) (hni : n ≤ i) (hil : i < e.length) (hno : ∀ j, n ≤ j → j < i → (nth e j).1 ≠ k) (hki : (nth e i).1 = k) (vw : Value) (qn bw ba qr : Nat) (aa : List Value) (hnd : [qn, qr].Nodup) (hw2 : bw ∉ [qn, qr]) (ha2 : ba ∉ [qn, qr]) (h1 : H0[qn]? = some (.cells true [.int .i64 ((n : Nat) : Int)] 1)) (h2 : H0[qr]? = some (.cells true [.bool true] 1)) (hw1 : Rd H0 bw [vw] 1) (ha1 : Rd H0 ba (.int .u64 ((k : Nat) : Int) :: aa) 3) (hW : SlSZ entc 2 (Off H0 [qn, qr]) vw e) : ACalls Try.prog 18 [.int .u64 (((nth e i).2 : Nat) : Int), .pointer (some ⟨qn, 0, none⟩), .pointer (some ⟨bw, 0, none⟩), .pointer (some ⟨ba, 0, none⟩), .pointer (some ⟨qr, 0, none⟩)] H0 (fun v H' => v = .bool true ∧ Kp (· ∈ [qn, qr]) H0 H' ∧ H'[qn]? = some (.cells true [.int .i64 ((i + 1 : Nat) : Int)] 1) ∧ H'[qr]? = some (.cells true [.bool true] 1)) := by
  have hF : Wd Fence.wide := .inl rfl
  have hM : Try.prog.follows .mixedOrders = true := by kernel_rfl
  have s0 : St H0 (· ∈ [qn, qr]) (Off H0 [qn, qr]) H0 [(qn, .cells true [.int .i64 ((n : Nat) : Int)] 1), (qr, .cells true [.bool true] 1)] := St.beginL [(qn, .cells true [.int .i64 ((n : Nat) : Int)] 1), (qr, .cells true [.bool true] 1)] hnd (allAt_mem ⟨h1, h2, trivial⟩)
  refine acalls_st Try.func18 rfl Try.ntmps18 rfl ?_
  refine awp_seq ?_
  refine awp_regs hF ?_
  refine dv (gyes_none rfl) (q_as (v := .bool false) rfl) rfl (by decide) (cok1 (cconst rfl)) ?_
  refine ⟨_, Wk.refl _ _, ?_⟩
  show awp _ _ _ _ _ _ _
  refine awp_seq ?_
  refine awp_block ?_
  refine awp_wk (Wk.U [(0, .int .u64 (((nth e i).2 : Nat) : Int)), (1, .pointer (some ⟨qn, 0, none⟩)), (2, .pointer (some ⟨bw, 0, none⟩)), (3, .pointer (some ⟨ba, 0, none⟩)), (4, .pointer (some ⟨qr, 0, none⟩))] ⟨rfl, rfl, rfl, rfl, rfl, trivial⟩) ?_
  refine awp_loop (fun (m : Nat) st => ∃ (H1 : AHeap), st = ⟨41, U [(0, .int .u64 (((nth e i).2 : Nat) : Int)), (1, .pointer (some ⟨qn, 0, none⟩)), (2, .pointer (some ⟨bw, 0, none⟩)), (3, .pointer (some ⟨ba, 0, none⟩)), (4, .pointer (some ⟨qr, 0, none⟩))], [], H1⟩ ∧ St H0 ((· ∈ [qn, qr])) (Off H0 [qn, qr]) H1 [(qn, .cells true [.int .i64 ((m : Nat) : Int)] 1), (qr, .cells true [.bool true] 1)] ∧ (n ≤ m ∧ m ≤ i)) (fun (m : Nat) => i - m) (x0 := (n)) ?h0 ?round
  case h0 =>
    exact ⟨_, rfl, s0, ⟨Nat.le_refl _, hni⟩⟩
  case round =>
    rintro m _ ⟨H1, rfl, s2, hm⟩
    refine awp_seq ?_
    refine awp_seq ?_
    refine awp_regt hF hM (by kernel_rfl) (by kernel_rfl) ?_
    refine dv (gyes_none rfl) (q_load (v := .int .i64 ((m : Nat) : Int)) Try.isAgg3 rfl (s2.rd (j := 0) rfl) rfl) rfl (by decide) (cok1 trivial) ?_
    refine dv (gyes_none rfl) (q_load (v := vw) Try.isAgg24 rfl (s2.zrd ⟨hw1, hw2⟩) rfl) rfl (by decide) (cok1 trivial) ?_
    refine dv (gyes_none rfl) (q_len_sls (l := e) Try.underlying24 (s2.sls hW) rfl) rfl (by decide) (cok1 trivial) ?_
    refine dv (gyes_none rfl) (OpQ.cast (v' := .bool true) (q_int rfl rfl rfl) (congrArg Value.bool (decide_eq_true (by omega)))) rfl (by decide) (cok2 trivial trivial) ?_
    refine dv (gyes_none rfl) (q_mv (v := .bool true) rfl) rfl (by decide) (cok1 trivial) ?_
    refine dv (gyes_some rfl rfl) (q_load (v := vw) Try.isAgg24 rfl (s2.zrd ⟨hw1, hw2⟩) rfl) rfl (by decide) (cok1 trivial) ?_
    refine dv (gyes_some rfl rfl) (q_load (v := .int .i64 ((m : Nat) : Int)) Try.isAgg3 rfl (s2.rd (j := 0) rfl) rfl) rfl (by decide) (cok1 trivial) ?_
    refine dv (gyes_some rfl rfl) (q_index_sls (l := e) (i := m) Try.underlying24 Try.sizeOf27 (s2.sls hW) entc_w rfl rfl (by omega)) rfl (by decide) (cok2 trivial trivial) ?_
    refine dv (gyes_some rfl rfl) (q_field_sls (l := e) (i := m) Try.underlying27 rfl Try.sizeOf25 (s2.sls hW) entc_w rfl (by omega)) rfl (by decide) (cok1 trivial) ?_
    refine dv (gyes_some rfl rfl) (q_load_sls0 (l := e) (i := m) (u := .int .u64 (((nth e m).1 : Nat) : Int)) Try.isAgg25 (s2.sls hW) entc_w rfl (by omega) (by decide) rfl) rfl (by decide) (cok1 trivial) ?_
    refine dv (gyes_some rfl rfl) (q_indexArr (i := 0) Try.underlying50 Try.sizeOf25 rfl rfl (by decide) (s2.zrd ⟨ha1, ha2⟩)) rfl (by decide) (cok2 trivial (cconst rfl)) ?_
    refine dv (gyes_some rfl rfl) (q_load (v := .int .u64 ((k : Nat) : Int)) Try.isAgg25 rfl (s2.zrd ⟨ha1, ha2⟩) rfl) rfl (by decide) (cok1 trivial) ?_
    refine dvb (gyes_some rfl rfl) (q_int rfl rfl rfl) rfl (by decide) (cok2 trivial trivial) (fun c1 => ?_) (fun c1 => ?_)
    ·
      replace c1 := bne_iff_ne.1 c1
      have hmi : m ≠ i := fun e => by subst e; omega
      refine dv (gyes_none rfl) (q_pt (v := .bool true) rfl rfl) rfl (by decide) (call_ok rfl) ?_
      refine ⟨_, Wk.refl _ _, ?_⟩
      show awp _ _ _ _ _ _ _
      refine awp_cond_t rfl ?_
      refine awp_skip_wk ?_
      refine ⟨_, Wk.refl _ _, ?_⟩
      show awp _ _ _ _ _ _ _
      refine awp_block ?_
      refine awp_regs hF ?_
      refine dv (gyes_none rfl) (q_load (v := .int .i64 ((m : Nat) : Int)) Try.isAgg3 rfl (s2.rd (j := 0) rfl) rfl) rfl (by decide) (cok1 trivial) ?_
      refine dv (gyes_none rfl) (OpQ.cast (v' := .int .i64 ((m + 1 : Nat) : Int)) (q_int rfl rfl rfl) (congrArg _ ((i64_in (by omega)).trans (by first | rfl | omega | (push_cast; rfl))))) rfl (by decide) (cok2 trivial (cconst rfl)) ?_
      refine x_store1 [] hF s2 (by kernel_rfl) (gyes_none rfl) (j := 0) (v := .int .i64 ((m + 1 : Nat) : Int)) rfl Try.sizeOf3 rfl rfl rfl (lc_scalar rfl) (Nat.le_of_ble_eq_true rfl) trivial trivial rfl rfl (F' := [(qn, .cells true [.int .i64 ((m + 1 : Nat) : Int)] 1), (qr, .cells true [.bool true] 1)]) rfl (fun H3 s4 => ⟨?_, ?_⟩)
      · exact trivial
      refine ⟨_, Wk.U [(0, .int .u64 (((nth e i).2 : Nat) : Int)), (1, .pointer (some ⟨qn, 0, none⟩)), (2, .pointer (some ⟨bw, 0, none⟩)), (3, .pointer (some ⟨ba, 0, none⟩)), (4, .pointer (some ⟨qr, 0, none⟩))] ⟨rfl, rfl, rfl, rfl, rfl, trivial⟩, (m + 1), ⟨_, rfl, s4, ⟨by omega, by omega⟩⟩, (by omega)⟩
    ·
      replace c1 := bne_eq_false_iff_eq.1 c1
      have hmi : m = i := Decidable.byContradiction fun h => hno m hm.1 (by omega) (by omega)
      refine dv (gyes_none rfl) (q_pt (v := .bool false) rfl rfl) rfl (by decide) (call_ok rfl) ?_
      refine ⟨_, Wk.refl _ _, ?_⟩
      show awp _ _ _ _ _ _ _
      refine awp_cond_f rfl ?_
      refine awp_exit_wk ?_
      refine ⟨_, Wk.refl _ _, ?_⟩
      show awp _ _ _ _ _ _ _
      refine awp_seq ?_
      refine awp_regs hF ?_
      refine dv (gyes_none rfl) (q_load (v := .bool true) Try.isAgg4 rfl (s2.rd (j := 1) rfl) rfl) rfl (by decide) (cok1 trivial) ?_
      refine dv (gyes_none rfl) (q_mv (v := .bool true) rfl) rfl (by decide) (cok1 trivial) ?_
      refine dv (gyes_some rfl rfl) (q_load (v := .int .i64 ((m : Nat) : Int)) Try.isAgg3 rfl (s2.rd (j := 0) rfl) rfl) rfl (by decide) (cok1 trivial) ?_
      refine dv (gyes_some rfl rfl) (q_load (v := vw) Try.isAgg24 rfl (s2.zrd ⟨hw1, hw2⟩) rfl) rfl (by decide) (cok1 trivial) ?_
      refine dv (gyes_some rfl rfl) (q_len_sls (l := e) Try.underlying24 (s2.sls hW) rfl) rfl (by decide) (cok1 trivial) ?_
      refine dv (gyes_some rfl rfl) (OpQ.cast (v' := .bool true) (q_int rfl rfl rfl) (congrArg Value.bool (decide_eq_true (by omega)))) rfl (by decide) (cok2 trivial trivial) ?_
      refine dv (gyes_none rfl) (q_pt (v := .bool true) rfl rfl) rfl (by decide) (call_ok rfl) ?_
      refine dv (gyes_none rfl) (q_mv (v := .bool true) rfl) rfl (by decide) (cok1 trivial) ?_
      refine dv (gyes_some rfl rfl) (q_load (v := vw) Try.isAgg24 rfl (s2.zrd ⟨hw1, hw2⟩) rfl) rfl (by decide) (cok1 trivial) ?_
      refine dv (gyes_some rfl rfl) (q_load (v := .int .i64 ((m : Nat) : Int)) Try.isAgg3 rfl (s2.rd (j := 0) rfl) rfl) rfl (by decide) (cok1 trivial) ?_
      refine dv (gyes_some rfl rfl) (q_index_sls (l := e) (i := m) Try.underlying24 Try.sizeOf27 (s2.sls hW) entc_w rfl rfl (by omega)) rfl (by decide) (cok2 trivial trivial) ?_
      refine dv (gyes_some rfl rfl) (q_field_sls (l := e) (i := m) Try.underlying27 rfl Try.sizeOf25 (s2.sls hW) entc_w rfl (by omega)) rfl (by decide) (cok1 trivial) ?_
      refine dv (gyes_some rfl rfl) (q_load_sls (l := e) (i := m) (u := .int .u64 (((nth e m).2 : Nat) : Int)) Try.isAgg25 (s2.sls hW) entc_w rfl (by omega) (by decide) rfl) rfl (by decide) (cok1 trivial) ?_
      refine dv (gyes_some rfl rfl) (q_mv (v := .int .u64 (((nth e i).2 : Nat) : Int)) rfl) rfl (by decide) (cok1 trivial) ?_
      refine dv (gyes_some rfl rfl) (OpQ.cast (v' := .bool true) (q_int rfl rfl rfl) (congrArg Value.bool (by rw [hmi]; exact beq_self_eq_true _))) rfl (by decide) (cok2 trivial trivial) ?_
      refine dv (gyes_none rfl) (q_pt (v := .bool true) rfl rfl) rfl (by decide) (call_ok rfl) ?_
      refine x_store1 [] hF s2 (by kernel_rfl) (gyes_none rfl) (j := 1) (v := .bool true) rfl Try.sizeOf4 rfl rfl rfl (lc_scalar rfl) (Nat.le_of_ble_eq_true rfl) trivial trivial rfl rfl (F' := [(qn, .cells true [.int .i64 ((m : Nat) : Int)] 1), (qr, .cells true [.bool true] 1)]) rfl (fun H5 s6 => ⟨?_, ?_⟩)
      · exact trivial
      refine ⟨_, Wk.refl _ _, ?_⟩
      show awp _ _ _ _ _ _ _
      refine awp_seq ?_
      refine awp_regs hF ?_
      refine dv (gyes_none rfl) (q_load (v := .int .i64 ((m : Nat) : Int)) Try.isAgg3 rfl (s6.rd (j := 0) rfl) rfl) rfl (by decide) (cok1 trivial) ?_
      refine dv (gyes_none rfl) (OpQ.cast (v' := .int .i64 ((m + 1 : Nat) : Int)) (q_int rfl rfl rfl) (congrArg _ ((i64_in (by omega)).trans (by first | rfl | omega | (push_cast; rfl))))) rfl (by decide) (cok2 trivial (cconst rfl)) ?_
      refine x_store1 [] hF s6 (by kernel_rfl) (gyes_none rfl) (j := 0) (v := .int .i64 ((m + 1 : Nat) : Int)) rfl Try.sizeOf3 rfl rfl rfl (lc_scalar rfl) (Nat.le_of_ble_eq_true rfl) trivial trivial rfl rfl (F' := [(qn, .cells true [.int .i64 ((m + 1 : Nat) : Int)] 1), (qr, .cells true [.bool true] 1)]) rfl (fun H7 s8 => ⟨?_, ?_⟩)
      · exact trivial
      refine ⟨_, Wk.refl _ _, ?_⟩
      show awp _ _ _ _ _ _ _
      refine awp_seq ?_
      refine awp_regs hF ?_
      refine dv (gyes_none rfl) (q_as (v := .bool true) rfl) rfl (by decide) (cok1 (cconst rfl)) ?_
      refine ⟨_, Wk.refl _ _, ?_⟩
      show awp _ _ _ _ _ _ _
      refine awp_ret_wk ?_
      refine ⟨_, Wk.refl _ _, ?_⟩
      repeat (with_reducible first | refine then_ret ?_ | refine blk_ret ?_ | refine then_exit ?_ | refine blk_exit ?_ | refine blk_exit' (by decide) ?_ | refine blk_normal ?_ | refine then_normal ?_ | refine retq_ret ?_ | refine retq_normal ?_ | refine ng_normal ?_ | refine ng_ret ?_ | refine ng_exit ?_)
      refine ret_is (v := .bool true) rfl (.tmp rfl .nil) rfl ?_
      exact ⟨rfl, s8.kp, by subst hmi; exact s8.getj (j := 0) rfl, s8.getj (j := 1) rfl⟩
theorem arun_ok {H0 : AHeap} {F : List (Nat × AObj)} {Z : Rs} {H : AHeap} (hs : St H0 none0 Z H F) (k : Nat) (vT vw : Value) (e : List DEnt) (hl : e.length ≤ 1000) (qn bw ba qr bi bk jn jr : Nat) (aa : List Value) (h1 : F[jn]? = some (qn, .cells true [.int .i64 0] 1)) (h2 : F[jr]? = some (qr, .cells true [.bool true] 1)) (hij : jn ≠ jr)
    (hbw : bw ∉ [qn, qr]) (hba : ba ∉ [qn, qr]) (hbi : bi ∉ [qn, qr]) (hbk : bk ∉ [qn, qr]) (hRw : Rd H bw [vw] 1) (hRa : Rd H ba (.int .u64 ((k : Nat) : Int) :: aa) 3) (hRi : Rd H bi [vT] 1) (hRk : Rd H bk [.int .u64 ((k : Nat) : Int)] 1) (hT : SlSZ entc 2 (Off H [qn, qr]) vT e) (hW : SlSZ entc 2 (Off H [qn, qr]) vw e) :
    ACalls Try.prog 40 [.func (.func 18) #[] #[.pointer (some ⟨qn, 0, none⟩), .pointer (some ⟨bw, 0, none⟩), .pointer (some ⟨ba, 0, none⟩), .pointer (some ⟨qr, 0, none⟩)], .pointer (some ⟨bi, 0, none⟩), .pointer (some ⟨bk, 0, none⟩)] H (fun v H' => v = .tuple #[] ∧ Kp (· ∈ [qn, qr]) H H' ∧ H'[qn]? = some (.cells true [.int .i64 ((posT e k e.length : Nat) : Int)] 1) ∧ H'[qr]? = some (.cells true [.bool true] 1)) := by
  have hne : qn ≠ qr := hs.nej h1 h2 hij
  let Iv : Nat → AHeap → Prop := fun i H' => Kp (· ∈ [qn, qr]) H H' ∧ i ≤ e.length ∧ H'[qn]? = some (.cells true [.int .i64 ((posT e k i : Nat) : Int)] 1) ∧ H'[qr]? = some (.cells true [.bool true] 1)
  refine (all1_ok (H0 := H) k vT e (by omega) _ bi bk Iv (fun _ _ => False) ?h0 ?hm ?hsk ?hb ?hy).mono ?_
  case h0 => exact ⟨.refl _ _, Nat.zero_le _, hs.getj h1, hs.getj h2⟩
  case hm =>
    rintro i H1 H2 ⟨q1, q4, q6, q7⟩ kk
    exact ⟨q1.trans (kk.mono fun _ h => h.elim), q4, (kk.get _ (lt_of_some q6) (fun h => h)).trans q6, (kk.get _ (lt_of_some q7) (fun h => h)).trans q7⟩
  case hsk =>
    rintro i H1 ⟨q1, q4, q6, q7⟩ hi hn
    exact ⟨q1, by omega, by rw [pos_n hn]; exact q6, q7⟩
  case hb =>
    rintro i H1 ⟨q1, _⟩
    exact ⟨q1.rd hRi hbi, q1.rd hRk hbk, hT.mono fun b vs sz h => q1.rd h.1 h.2⟩
  case hy =>
    rintro i H1 ⟨q1, q4, q6, q7⟩ hi hk1
    refine ylds_func Try.call18 ((aclos_ok (H0 := H1) e (by omega) k (posT e k i) i (pos_le i) hi (pos_no i) hk1 vw qn bw ba qr aa (by simp [hne]) hbw hba q6 q7 (q1.rd hRw hbw) (q1.rd hRa hba) (hW.mono fun b vs sz h => ⟨q1.rd h.1 h.2, h.2⟩)).mono ?_)
    rintro v H2 ⟨rfl, r1, r4, r5⟩
    exact ⟨_, rfl, fun _ => ⟨q1.trans r1, by omega, by rw [pos_y hk1]; exact r4, r5⟩, fun h => nomatch h⟩
  rintro v H' ⟨rfl, h | ⟨i, hi, h⟩⟩
  · obtain ⟨q1, q4, q6, q7⟩ := h
    exact ⟨rfl, q1, q6, q7⟩
  · exact h.elim
theorem atV_pre {p r : ByteArray} {a k : Nat} (h : a + k ≤ p.size) : atV (p ++ r) a k = atV p a k := by
  have h2 : a + k ≤ (p ++ r).size := by rw [size_append]; omega
  rw [atV_in h, atV_in h2]
  congr 1
  refine bl_inj ?_
  rw [bl_extract, bl_extract, bl_append, List.drop_append_of_le_length (by rw [bl_length]; omega), List.take_append_of_le_length (by rw [List.length_drop, bl_length]; omega)]
theorem segAt_pre {p r : ByteArray} {a : Nat} (h : a + 48 ≤ p.size) : segAt (p ++ r) a = segAt p a := by
  unfold segAt
  rw [atV_pre (by omega), atV_pre (by omega), atV_pre (by omega), atV_pre (by omega), atV_pre (by omega), atV_pre (by omega)]
def hdrF (n : Nat) : ByteArray := packS 0 [(1, 6, 176, 0, n + 16, n + 16 + 100), (2, 0, 176 + n, n, 16, 16)] 2
def chkF (n : Nat) : Bool := decide ((hdrF n).extract 0 7 = magicB) && hForm (hdrF n) && decide (atV (hdrF n) 56 2 = 2) && decide (atV (hdrF n) 32 8 = 64) && decide (segAt (hdrF n) 64 = (1, 6, 176, 0, n + 16, n + 116)) && decide (segAt (hdrF n) 120 = (2, 0, 176 + n, n, 16, 16))
theorem atV_mid {B : ByteArray} {P R : List UInt8} {a k v : Nat} (hB : bl B = P ++ (putL v k ++ R)) (ha : P.length = a) (hv : v < 256 ^ k) : atV B a k = v := by
  have hs : B.size = a + (k + R.length) := by rw [← bl_length, hB, List.length_append, List.length_append, putL_length, ha]
  rw [atV_in (by omega)]
  unfold getB
  rw [bl_extract, hB, List.drop_append_of_le_length (by omega), List.drop_of_length_le (by omega), List.nil_append, show a + k - a = k by omega, List.take_append_of_le_length (by rw [putL_length]; exact Nat.le_refl _), List.take_of_length_le (by rw [putL_length]; exact Nat.le_refl _), getN_put, Nat.mod_eq_of_lt hv]
theorem segAt_at {A C : ByteArray} {k f o a z m : Nat} (h1 : k < 4294967296) (h2 : f < 8) (b1 : o < 18446744073709551616) (b2 : a < 18446744073709551616) (b3 : z < 18446744073709551616) (b4 : m < 18446744073709551616) : segAt (A ++ (segP (k, f, o, a, z, m) ++ C)) A.size = (k, f, o, a, z, m) := by
  have e1 : bl (A ++ (segP (k, f, o, a, z, m) ++ C)) = bl A ++ (putL k 4 ++ (putL f 4 ++ (putL o 8 ++ (putL a 8 ++ (bl (zerosB 8) ++ (putL z 8 ++ (putL m 8 ++ (bl (zerosB 8) ++ bl C)))))))) := by
    unfold segP; simp only [bl_append, bl_putB, List.append_assoc]
  have hz : (bl (zerosB 8)).length = 8 := by rw [bl_length, zerosB_size]
  have hA : (bl A).length = A.size := bl_length A
  have e2 := e1.trans (List.append_assoc _ _ _).symm
  have e3 := e2.trans (List.append_assoc _ _ _).symm
  have e4 := e3.trans (List.append_assoc _ _ _).symm
  have e5 := e4.trans (List.append_assoc _ _ _).symm
  have e6 := e5.trans (List.append_assoc _ _ _).symm
  have e7 := e6.trans (List.append_assoc _ _ _).symm
  generalize A ++ (segP (k, f, o, a, z, m) ++ C) = B at *
  have q1 : atV B A.size 4 = k := atV_mid e1 hA h1
  have q2 : atV B (A.size + 4) 4 = f := atV_mid e2 (by simp only [List.length_append, putL_length, hA]) (by show _ < 4294967296; omega)
  have q3 : atV B (A.size + 8) 8 = o := atV_mid e3 (by simp only [List.length_append, putL_length, hA]) b1
  have q4 : atV B (A.size + 16) 8 = a := atV_mid e4 (by simp only [List.length_append, putL_length, hA]) b2
  have q5 : atV B (A.size + 32) 8 = z := atV_mid e6 (by simp only [List.length_append, putL_length, hA, hz]) b3
  have q6 : atV B (A.size + 40) 8 = m := atV_mid e7 (by simp only [List.length_append, putL_length, hA, hz]) b4
  unfold segAt
  rw [q1, q2, q3, q4, q5, q6, Nat.mod_eq_of_lt h2]
theorem hdrF_eq (n : Nat) : hdrF n = hdrB 0 2 ++ (segP (1, 6, 176, 0, n + 16, n + 16 + 100) ++ segP (2, 0, 176 + n, n, 16, 16)) := bl_inj (by show bl (hdrB 0 2 ++ segP _ ++ segP _) = _; simp only [bl_append, List.append_assoc]; rfl)
theorem hdrF_eq2 (n : Nat) : hdrF n = hdrB 0 2 ++ segP (1, 6, 176, 0, n + 16, n + 16 + 100) ++ (segP (2, 0, 176 + n, n, 16, 16) ++ ⟨#[]⟩) := bl_inj (by show bl (hdrB 0 2 ++ segP _ ++ segP _) = _; simp only [bl_append, List.append_assoc]; rfl)
theorem ext_pre7 {p r : ByteArray} (h : 7 ≤ p.size) : (p ++ r).extract 0 7 = p.extract 0 7 := bl_inj (by rw [bl_extract, bl_extract, bl_append, List.drop_zero, List.drop_zero, List.take_append_of_le_length (by rw [bl_length]; omega)])
theorem chk_all (n : Nat) (hn : n < 201) : chkF n = true := by
  have hz := hdrB_size 0 2
  have c1 : (hdrF n).extract 0 7 = magicB := by rw [hdrF_eq, ext_pre7 (by omega)]; decide +kernel
  have c2 : hForm (hdrF n) = true := hForm_iff.2 fun i hi => by
    have hb := hABC i hi
    rw [hdrF_eq, atV_pre (by omega)]
    exact hForm_iff.1 (show hForm (hdrB 0 2) = true by decide +kernel) i hi
  have c3 : atV (hdrF n) 56 2 = 2 := by rw [hdrF_eq, atV_pre (by omega)]; decide +kernel
  have c4 : atV (hdrF n) 32 8 = 64 := by rw [hdrF_eq, atV_pre (by omega)]; decide +kernel
  have c5 : segAt (hdrF n) 64 = (1, 6, 176, 0, n + 16, n + 116) := by
    have := segAt_at (A := hdrB 0 2) (C := segP (2, 0, 176 + n, n, 16, 16)) (k := 1) (f := 6) (o := 176) (a := 0) (z := n + 16) (m := n + 16 + 100) (by decide) (by decide) (by decide) (by decide) (by omega) (by omega)
    rw [hz, ← hdrF_eq] at this; exact this
  have c6 : segAt (hdrF n) 120 = (2, 0, 176 + n, n, 16, 16) := by
    have := segAt_at (A := hdrB 0 2 ++ segP (1, 6, 176, 0, n + 16, n + 16 + 100)) (C := ⟨#[]⟩) (k := 2) (f := 0) (o := 176 + n) (a := n) (z := 16) (m := 16) (by decide) (by decide) (by omega) (by omega) (by decide) (by decide)
    rw [size_append, hz, segP_size, ← hdrF_eq2] at this; exact this
  unfold chkF
  rw [decide_eq_true c1, c2, decide_eq_true c3, decide_eq_true c4, decide_eq_true c5, decide_eq_true c6]; rfl
theorem hdrF_size (n : Nat) : (hdrF n).size = 176 := packS_size _ _ 2
theorem fileB_pre (t : ByteArray) : fileB t (packT []) = hdrF (cut2 t).size ++ (cut2 t ++ packT []) := by
  have h : (packT []).size = 16 := packT_size []
  have e : fileB t (packT []) = packS 0 (fileL (cut2 t) (packT [])) 2 ++ cut2 t ++ packT [] := rfl
  rw [e]
  unfold fileL hdrF
  rw [h]
  exact bl_inj (by simp only [bl_append, List.append_assoc])
theorem file_reads (t : ByteArray) : hrC (fileB t (packT [])) = 0 := by
  have hn := cut2_size t
  have h16 : (packT []).size = 16 := packT_size []
  have hc := chk_all (cut2 t).size (by omega)
  rw [fileB_pre]
  have hz := hdrF_size (cut2 t).size
  have hsz : (hdrF (cut2 t).size ++ (cut2 t ++ packT [])).size = 192 + (cut2 t).size := by rw [size_append, size_append, hz, h16]; omega
  generalize (cut2 t).size = n at *
  generalize (cut2 t ++ packT []) = r at *
  simp only [chkF, Bool.and_eq_true, decide_eq_true_eq] at hc
  obtain ⟨⟨⟨⟨⟨c1, c2⟩, c3⟩, c4⟩, c5⟩, c6⟩ := hc
  have f4 : ∀ i, i < 5 → atV (hdrF n ++ r) (hA i) (hB i) = hC i := fun i hi => by
    have hb := hABC i hi
    rw [atV_pre (by omega)]
    exact hForm_iff.1 c2 i hi
  have e1 : atV (hdrF n ++ r) 56 2 = 2 := by rw [atV_pre (by omega)]; exact c3
  have e2 : atV (hdrF n ++ r) 32 8 = 64 := by rw [atV_pre (by omega)]; exact c4
  have e3 : sgK (hdrF n ++ r) 0 = (1, 6, 176, 0, n + 16, n + 116) := by
    unfold sgK; rw [e2, segAt_pre (by omega)]; exact c5
  have e4 : sgK (hdrF n ++ r) 1 = (2, 0, 176 + n, n, 16, 16) := by
    unfold sgK; rw [e2, segAt_pre (by omega)]; exact c6
  have m7 : (hdrF n ++ r).extract 0 7 = magicB := by
    rw [← c1]
    refine bl_inj ?_
    rw [bl_extract, bl_extract, bl_append, List.drop_zero, List.drop_zero, List.take_append_of_le_length (by rw [bl_length]; omega)]
  have h0 : hdE (hdrF n ++ r) = 0 := hd_ok (by omega) (by omega) m7 f4 (by omega) (by omega)
  have hN : hdN (hdrF n ++ r) = 2 := by unfold hdN; rw [if_pos h0]; exact e1
  have b0 : badK (hdrF n ++ r) 0 = false := by
    unfold badK
    rw [e3]
    refine bne_eq_false_iff_eq.2 ?_
    unfold wrongC endK
    dsimp only
    rw [if_neg (by omega), if_neg (by omega), if_neg (by omega), if_neg (by omega), if_neg (by omega)]
  have b1 : badK (hdrF n ++ r) 1 = false := by
    unfold badK
    rw [e4]
    refine bne_eq_false_iff_eq.2 ?_
    unfold wrongC
    dsimp only
    rw [if_neg (by omega), if_neg (by omega), if_neg (by omega), if_neg (by omega), if_neg (by omega)]
  refine (hr_ok h0 (fun j hj => ?_) ?_).1
  · rw [hN] at hj
    match j, hj with
    | 0, _ => exact b0
    | 1, _ => exact b1
  · rw [hN]
    have k0 : ldK (hdrF n ++ r) 1 = 1 := ldK_y (by rw [e3])
    have k1 : ldK (hdrF n ++ r) 2 = ldK (hdrF n ++ r) 1 := ldK_n (by rw [e4]; show (2 : Nat) ≠ 1; decide)
    rw [k1, k0]; decide
theorem tabV_no {B : ByteArray} {l : List Sg} {e : List DEnt} {a : Nat} (h : (getV e 5).2 = false ∨ (spanV B l e 5 10).2 = false) : tabV B l e a = (⟨#[]⟩, false) := by
  unfold tabV
  split
  · rfl
  split
  · rfl
  · rename_i h1 h2; rcases h with h | h <;> contradiction
theorem tabV_yes {B : ByteArray} {l : List Sg} {e : List DEnt} {a : Nat} (h1 : (getV e 5).2 = true) (h2 : (spanV B l e 5 10).2 = true) : tabV B l e a = textV (spanV B l e 5 10).1 a 32 := by
  unfold tabV
  rw [if_neg (by rw [h1]; exact fun h => nomatch h), if_neg (by rw [h2]; exact fun h => nomatch h)]
set_option maxRecDepth 100000 in
set_option maxHeartbeats 4000000 in
theorem dynAsks_ok {H0 : AHeap} (t : ByteArray) (ht : t.size ≤ 140737488355328) (vl : Value) (l : List DEnt) (hl : SlS entc 2 H0 vl l) (hlw : ∀ x ∈ l, EntW x) (a0 a1 a2 : Nat) (ha0 : a0 < 18446744073709551616) (ha1 : a1 < 18446744073709551616) (ha2 : a2 < 18446744073709551616) : ACalls Try.prog 4 [.string t, vl, .agg #[.int .u64 ((a0 : Nat) : Int), .int .u64 ((a1 : Nat) : Int), .int .u64 ((a2 : Nat) : Int)]] H0 (Rets (.bool true) H0) := by
  have hF : Wd Fence.wide := .inl rfl
  have hM : Try.prog.follows .mixedOrders = true := by kernel_rfl
  have s0 := St.begin H0
  refine acalls_st Try.func4 rfl Try.ntmps4 rfl ?_
  refine awp_seq ?_
  refine awp_regs hF ?_
  refine x_new (fun b => .pointer (some ⟨b, 0, none⟩)) s0 (gyes_none rfl) (q_box (v := .agg #[.int .u64 ((a0 : Nat) : Int), .int .u64 ((a1 : Nat) : Int), .int .u64 ((a2 : Nat) : Int)]) (vs := [.int .u64 ((a0 : Nat) : Int), .int .u64 ((a1 : Nat) : Int), .int .u64 ((a2 : Nat) : Int)]) 3 rfl (by exact trivial) rfl) rfl (by decide) (cok1 trivial) (fun b1 H2 hb4 s3 => ?_)
  refine dv (gyes_none rfl) (q_as (v := .bool false) rfl) rfl (by decide) (cok1 (cconst rfl)) ?_
  refine ⟨_, Wk.refl _ _, ?_⟩
  show awp _ _ _ _ _ _ _
  refine awp_seq ?_
  refine awp_seq ?_
  refine awp_regs hF ?_
  refine dv (gyes_none rfl) (q_call0 Try.call7 rfl (speaks_ok)) rfl (by decide) (cok1 trivial) ?_
  refine dv (gyes_none rfl) (q_not (b := true) rfl) rfl (by decide) (cok1 trivial) ?_
  refine ⟨_, Wk.refl _ _, ?_⟩
  show awp _ _ _ _ _ _ _
  refine awp_cond_f rfl ?_
  refine awp_skip_wk ?_
  refine ⟨_, Wk.refl _ _, ?_⟩
  show awp _ _ _ _ _ _ _
  refine awp_seq ?_
  refine awp_regs hF ?_
  refine dv (gyes_none rfl) (q_as (v := .slice none 0 0) rfl) rfl (by decide) (cok1 (cconst rfl)) ?_
  refine ⟨_, Wk.refl _ _, ?_⟩
  show awp _ _ _ _ _ _ _
  refine awp_seq ?_
  refine awp_regs hF ?_
  refine x_new (fun b => .pointer (some ⟨b, 0, none⟩)) s3 (gyes_none rfl) (q_alloc (vs := [.slice none 0 0]) 1 Try.zeroValue24 (by first | exact flat_scalar rfl | exact flat_agg rfl) rfl) rfl (by decide) (by simp [Op.operands, Call.operands]) (fun b5 H6 hb8 s7 => ?_)
  refine ⟨_, Wk.refl _ _, ?_⟩
  show awp _ _ _ _ _ _ _
  refine awp_seq ?_
  refine awp_seq ?_
  refine awp_regs hF ?_
  refine dv (gyes_none rfl) (q_as (v := .int .i64 0) rfl) rfl (by decide) (cok1 (cconst rfl)) ?_
  refine ⟨_, Wk.refl _ _, ?_⟩
  show awp _ _ _ _ _ _ _
  refine awp_block ?_
  refine awp_nil s7 7 2 rfl (fun b9 H10 hb12 s11 => ?_)
  refine awp_nilc s11 (j := 1) (o := 0) (sz' := 2) rfl rfl (fun b13 H14 hb16 s15 => ?_)
  refine awp_wk (Wk.U [(0, .string t), (1, vl), (5, .pointer (some ⟨b1, 0, none⟩)), (7, .slice (some ⟨b9, 0, none⟩) 0 0), (8, .pointer (some ⟨b5, 0, none⟩)), (9, .int .i64 0)] ⟨rfl, rfl, rfl, rfl, rfl, rfl, trivial⟩) ?_
  refine awp_loop (fun (i : Nat) st => ∃ (H17 : AHeap) (bl : Nat) (bw : Nat), st = ⟨206, U [(0, .string t), (1, vl), (5, .pointer (some ⟨b1, 0, none⟩)), (7, .slice (some ⟨bl, 0, none⟩) i i), (8, .pointer (some ⟨b5, 0, none⟩)), (9, .int .i64 ((i : Nat) : Int))], [], H17⟩ ∧ St H0 (none0) (Rd H0) H17 [(bw, .cells true (fl entc (l.take i)) 2), (bl, .cells true (fl entc (l.take i)) 2), (b5, .cells true [.slice (some ⟨bw, 0, none⟩) i i] 1), (b1, .cells true [.int .u64 ((a0 : Nat) : Int), .int .u64 ((a1 : Nat) : Int), .int .u64 ((a2 : Nat) : Int)] 3)] ∧ (i ≤ l.length ∧ i ≤ 40)) (fun (i : Nat) => 40 - i) (x0 := (0)) ?h0 ?round
  case h0 =>
    exact ⟨_, _, _, rfl, s15, ⟨Nat.zero_le _, Nat.zero_le _⟩⟩
  case round =>
    rintro i _ ⟨H17, bl, bw, rfl, s18, hi⟩
    have hti : (l.take i).length = i := by rw [List.length_take]; omega
    refine awp_seq ?_
    refine awp_seq ?_
    refine awp_regs hF ?_
    refine dv (gyes_none rfl) (q_mv (v := .int .i64 ((i : Nat) : Int)) rfl) rfl (by decide) (cok1 trivial) ?_
    refine dv (gyes_none rfl) (q_mv (v := vl) rfl) rfl (by decide) (cok1 trivial) ?_
    refine dv (gyes_none rfl) (q_len_sls (l := l) Try.underlying22 (s18.sls hl) rfl) rfl (by decide) (cok1 trivial) ?_
    refine dvb (gyes_none rfl) (q_int rfl rfl rfl) rfl (by decide) (cok2 trivial trivial) (fun c1 => ?_) (fun c1 => ?_)
    ·
      replace c1 := of_decide_eq_true c1
      refine dv (gyes_none rfl) (q_mv (v := .bool true) rfl) rfl (by decide) (cok1 trivial) ?_
      refine dv (gyes_some rfl rfl) (q_mv (v := .int .i64 ((i : Nat) : Int)) rfl) rfl (by decide) (cok1 trivial) ?_
      refine dvb (gyes_some rfl rfl) (q_int rfl rfl rfl) rfl (by decide) (cok2 trivial (cconst rfl)) (fun c2 => ?_) (fun c2 => ?_)
      ·
        replace c2 := of_decide_eq_true c2
        refine dv (gyes_none rfl) (q_pt (v := .bool true) rfl rfl) rfl (by decide) (call_ok rfl) ?_
        refine ⟨_, Wk.refl _ _, ?_⟩
        show awp _ _ _ _ _ _ _
        refine awp_cond_t rfl ?_
        refine awp_skip_wk ?_
        refine ⟨_, Wk.refl _ _, ?_⟩
        show awp _ _ _ _ _ _ _
        refine awp_seq ?_
        refine awp_block ?_
        refine awp_reg2 hF hM 12 6 [0, 1, 2, 3, 4, 5, 7, 8, 9, 10, 11, 12, 6, 13, 14, 15] [0, 1, 2, 3, 4, 5, 12, 6, 7, 8, 9, 10, 11, 13, 14, 15] [0, 1, 2, 3, 4, 5, 7, 8, 9, 10, 11, 6, 12, 13, 14, 15] [0, 1, 2, 3, 4, 5, 11, 6, 7, 8, 9, 10, 12, 13, 14, 15] (by kernel_rfl) (by kernel_rfl) (by kernel_rfl) (by kernel_rfl) (by kernel_rfl) (by kernel_rfl) (by kernel_rfl) ?o1 ?o2
        case o1 =>
          refine dv (gyes_none rfl) (q_mv (v := .slice (some ⟨bl, 0, none⟩) i i) rfl) rfl (by decide) (cok1 trivial) ?_
          refine dv (gyes_none rfl) (q_mv (v := vl) rfl) rfl (by decide) (cok1 trivial) ?_
          refine dv (gyes_none rfl) (q_mv (v := .int .i64 ((i : Nat) : Int)) rfl) rfl (by decide) (cok1 trivial) ?_
          refine dv (gyes_none rfl) (q_index_sls (l := l) (i := i) Try.underlying22 Try.sizeOf28 (s18.sls hl) entc_w rfl rfl (by omega)) rfl (by decide) (cok2 trivial trivial) ?_
          refine dv (gyes_none rfl) (q_loadA_sls (l := l) (i := i) Try.isAgg28 Try.sizeOf28 (s18.sls hl) entc_w rfl (by omega)) rfl (by decide) (cok1 trivial) ?_
          refine x_new (fun b => .slice (some ⟨b, 0, none⟩) 1 1) s18 (gyes_none rfl) (q_buildSliceL (ds := [.int .u64 (((nth l i).1 : Nat) : Int), .int .u64 (((nth l i).2 : Nat) : Int)]) [.agg #[.int .u64 (((nth l i).1 : Nat) : Int), .int .u64 (((nth l i).2 : Nat) : Int)]] rfl Try.underlying43 Try.sizeOf48 Try.zeroValue48 rfl (by decide) (by decide) ⟨rfl, trivial⟩ (lvsC (by exact trivial) lvs0) rfl rfl) rfl (by decide) (cok1 trivial) (fun b19 H20 hb22 s21 => ?_)
          refine dv (gyes_none rfl) (q_load (v := .slice (some ⟨bw, 0, none⟩) i i) Try.isAgg24 rfl (s21.rd (j := 3) rfl) rfl) rfl (by decide) (cok1 trivial) ?_
          refine dv (gyes_none rfl) (q_mv (v := vl) rfl) rfl (by decide) (cok1 trivial) ?_
          refine dv (gyes_none rfl) (q_mv (v := .int .i64 ((i : Nat) : Int)) rfl) rfl (by decide) (cok1 trivial) ?_
          refine dv (gyes_none rfl) (q_index_sls (l := l) (i := i) Try.underlying22 Try.sizeOf28 (s21.sls hl) entc_w rfl rfl (by omega)) rfl (by decide) (cok2 trivial trivial) ?_
          refine dv (gyes_none rfl) (q_loadA_sls (l := l) (i := i) Try.isAgg28 Try.sizeOf28 (s21.sls hl) entc_w rfl (by omega)) rfl (by decide) (cok1 trivial) ?_
          refine x_new (fun b => .slice (some ⟨b, 0, none⟩) 1 1) s21 (gyes_none rfl) (q_buildSliceL (ds := [.int .u64 (((nth l i).1 : Nat) : Int), .int .u64 (((nth l i).2 : Nat) : Int)]) [.agg #[.int .u64 (((nth l i).1 : Nat) : Int), .int .u64 (((nth l i).2 : Nat) : Int)]] rfl Try.underlying24 Try.sizeOf27 Try.zeroValue27 rfl (by decide) (by decide) ⟨rfl, trivial⟩ (lvsC (by exact trivial) lvs0) rfl rfl) rfl (by decide) (cok1 trivial) (fun b23 H24 hb26 s25 => ?_)
          refine x_appendS (m := 2) (l := [((nth l i).1, (nth l i).2)]) (l0 := l.take i) (l' := l.take (i + 1)) (f := entc) [6] hF s25 (by kernel_rfl) (j := 3) (i + 1) rfl (gyes_none rfl) Try.underlying43 Try.underlying43 Try.type48 rfl rfl (by decide) rfl entc_w rfl rfl rfl (s25.slsj (l := [((nth l i).1, (nth l i).2)]) entc_w (j := 1) rfl rfl (Nat.le_refl _)) (fun x _ u hu => lc_scalar (entc_sc x u hu)) hti.symm (by show (2 * (i + 1) + 1000) * 16 ≤ _; omega) trivial trivial (by decide) rfl rfl (take_snoc (by omega)) (fun b27 H28 hb30 s29 => ⟨?_, ?_⟩)
          · exact ⟨pend_yes rfl (gyes_none rfl) (q_load (v := .slice (some ⟨bw, 0, none⟩) i i) Try.isAgg24 rfl (s29.rd (j := 4) rfl) rfl) rfl (by decide) (cok1 trivial) rfl, trivial⟩
          refine x_appendS (m := 2) (l := [((nth l i).1, (nth l i).2)]) (l0 := l.take i) (l' := l.take (i + 1)) (f := entc) [] hF s29 (by kernel_rfl) (j := 2) (i + 1) rfl (gyes_none rfl) Try.underlying24 Try.underlying24 Try.type27 rfl rfl (by decide) rfl entc_w rfl rfl rfl (s29.slsj (l := [((nth l i).1, (nth l i).2)]) entc_w (j := 0) rfl rfl (Nat.le_refl _)) (fun x _ u hu => lc_scalar (entc_sc x u hu)) hti.symm (by show (2 * (i + 1) + 1000) * 16 ≤ _; omega) trivial trivial (by decide) rfl rfl (take_snoc (by omega)) (fun b31 H32 hb34 s33 => ⟨?_, ?_⟩)
          · exact trivial
          refine dv (gyes_none rfl) (q_as (v := .slice (some ⟨b27, 0, none⟩) (i + 1) (i + 1)) rfl) rfl (by decide) (cok1 trivial) ?_
          refine x_store1 [] hF s33 (by kernel_rfl) (gyes_none rfl) (j := 4) (v := .slice (some ⟨b31, 0, none⟩) (i + 1) (i + 1)) rfl Try.sizeOf24 rfl rfl rfl (lc_slice (s33.live (j := 2) rfl)) (Nat.le_of_ble_eq_true rfl) trivial trivial rfl rfl (F' := [(b23, .cells true [.int .u64 (((nth l i).1 : Nat) : Int), .int .u64 (((nth l i).2 : Nat) : Int)] 2), (b19, .cells true [.int .u64 (((nth l i).1 : Nat) : Int), .int .u64 (((nth l i).2 : Nat) : Int)] 2), (b31, .cells true (fl entc (l.take (i + 1))) 2), (b27, .cells true (fl entc (l.take (i + 1))) 2), (b5, .cells true [.slice (some ⟨b31, 0, none⟩) (i + 1) (i + 1)] 1), (b1, .cells true [.int .u64 ((a0 : Nat) : Int), .int .u64 ((a1 : Nat) : Int), .int .u64 ((a2 : Nat) : Int)] 3)]) rfl (fun H35 s36 => ⟨?_, ?_⟩)
          · exact trivial
          refine ⟨_, Wk.refl _ _, ?_⟩
          show awp _ _ _ _ _ _ _
          refine awp_regs hF ?_
          refine dv (gyes_none rfl) (q_mv (v := .int .i64 ((i : Nat) : Int)) rfl) rfl (by decide) (cok1 trivial) ?_
          refine dv (gyes_none rfl) (OpQ.cast (v' := .int .i64 ((i + 1 : Nat) : Int)) (q_int rfl rfl rfl) (congrArg _ ((i64_in (by omega)).trans (by first | rfl | omega | (push_cast; rfl))))) rfl (by decide) (cok2 trivial (cconst rfl)) ?_
          refine dv (gyes_none rfl) (q_as (v := .int .i64 ((i + 1 : Nat) : Int)) rfl) rfl (by decide) (cok1 trivial) ?_
          refine ⟨_, Wk.U [(0, .string t), (1, vl), (5, .pointer (some ⟨b1, 0, none⟩)), (7, .slice (some ⟨b27, 0, none⟩) (i + 1) (i + 1)), (8, .pointer (some ⟨b5, 0, none⟩)), (9, .int .i64 (((i + 1) : Nat) : Int))] ⟨rfl, rfl, rfl, rfl, rfl, rfl, trivial⟩, (i + 1), ⟨_, _, _, rfl, (s36.sub (.cons _ (.cons _ (.cons_cons _ (.cons_cons _ (.cons_cons _ (.cons_cons _ (.refl _)))))))), ⟨by omega, by omega⟩⟩, (by omega)⟩
        case o2 =>
          refine dv (gyes_none rfl) (q_mv (v := .slice (some ⟨bl, 0, none⟩) i i) rfl) rfl (by decide) (cok1 trivial) ?_
          refine dv (gyes_none rfl) (q_mv (v := vl) rfl) rfl (by decide) (cok1 trivial) ?_
          refine dv (gyes_none rfl) (q_mv (v := .int .i64 ((i : Nat) : Int)) rfl) rfl (by decide) (cok1 trivial) ?_
          refine dv (gyes_none rfl) (q_index_sls (l := l) (i := i) Try.underlying22 Try.sizeOf28 (s18.sls hl) entc_w rfl rfl (by omega)) rfl (by decide) (cok2 trivial trivial) ?_
          refine dv (gyes_none rfl) (q_loadA_sls (l := l) (i := i) Try.isAgg28 Try.sizeOf28 (s18.sls hl) entc_w rfl (by omega)) rfl (by decide) (cok1 trivial) ?_
          refine x_new (fun b => .slice (some ⟨b, 0, none⟩) 1 1) s18 (gyes_none rfl) (q_buildSliceL (ds := [.int .u64 (((nth l i).1 : Nat) : Int), .int .u64 (((nth l i).2 : Nat) : Int)]) [.agg #[.int .u64 (((nth l i).1 : Nat) : Int), .int .u64 (((nth l i).2 : Nat) : Int)]] rfl Try.underlying43 Try.sizeOf48 Try.zeroValue48 rfl (by decide) (by decide) ⟨rfl, trivial⟩ (lvsC (by exact trivial) lvs0) rfl rfl) rfl (by decide) (cok1 trivial) (fun b37 H38 hb40 s39 => ?_)
          refine dv (gyes_none rfl) (q_load (v := .slice (some ⟨bw, 0, none⟩) i i) Try.isAgg24 rfl (s39.rd (j := 3) rfl) rfl) rfl (by decide) (cok1 trivial) ?_
          refine dv (gyes_none rfl) (q_mv (v := vl) rfl) rfl (by decide) (cok1 trivial) ?_
          refine dv (gyes_none rfl) (q_mv (v := .int .i64 ((i : Nat) : Int)) rfl) rfl (by decide) (cok1 trivial) ?_
          refine dv (gyes_none rfl) (q_index_sls (l := l) (i := i) Try.underlying22 Try.sizeOf28 (s39.sls hl) entc_w rfl rfl (by omega)) rfl (by decide) (cok2 trivial trivial) ?_
          refine dv (gyes_none rfl) (q_loadA_sls (l := l) (i := i) Try.isAgg28 Try.sizeOf28 (s39.sls hl) entc_w rfl (by omega)) rfl (by decide) (cok1 trivial) ?_
          refine x_appendS (m := 2) (l := [((nth l i).1, (nth l i).2)]) (l0 := l.take i) (l' := l.take (i + 1)) (f := entc) [6, 7, 8, 9, 10] hF s39 (by kernel_rfl) (j := 2) (i + 1) rfl (gyes_none rfl) Try.underlying43 Try.underlying43 Try.type48 rfl rfl (by decide) rfl entc_w rfl rfl rfl (s39.slsj (l := [((nth l i).1, (nth l i).2)]) entc_w (j := 0) rfl rfl (Nat.le_refl _)) (fun x _ u hu => lc_scalar (entc_sc x u hu)) hti.symm (by show (2 * (i + 1) + 1000) * 16 ≤ _; omega) trivial trivial (by decide) rfl rfl (take_snoc (by omega)) (fun b41 H42 hb44 s43 => ⟨?_, ?_⟩)
          · exact ⟨pend_yes rfl (gyes_none rfl) (q_load (v := .slice (some ⟨bw, 0, none⟩) i i) Try.isAgg24 rfl (s43.rd (j := 3) rfl) rfl) rfl (by decide) (cok1 trivial) rfl, pend_yes rfl (gyes_none rfl) (q_mv (v := vl) rfl) rfl (by decide) (cok1 trivial) rfl, pend_yes rfl (gyes_none rfl) (q_mv (v := .int .i64 ((i : Nat) : Int)) rfl) rfl (by decide) (cok1 trivial) rfl, pend_yes rfl (gyes_none rfl) (q_index_sls (l := l) (i := i) Try.underlying22 Try.sizeOf28 (s43.sls hl) entc_w rfl rfl (by omega)) rfl (by decide) (cok2 trivial trivial) rfl, pend_yes rfl (gyes_none rfl) (q_loadA_sls (l := l) (i := i) Try.isAgg28 Try.sizeOf28 (s43.sls hl) entc_w rfl (by omega)) rfl (by decide) (cok1 trivial) rfl, trivial⟩
          refine x_new (fun b => .slice (some ⟨b, 0, none⟩) 1 1) s43 (gyes_none rfl) (q_buildSliceL (ds := [.int .u64 (((nth l i).1 : Nat) : Int), .int .u64 (((nth l i).2 : Nat) : Int)]) [.agg #[.int .u64 (((nth l i).1 : Nat) : Int), .int .u64 (((nth l i).2 : Nat) : Int)]] rfl Try.underlying24 Try.sizeOf27 Try.zeroValue27 rfl (by decide) (by decide) ⟨rfl, trivial⟩ (lvsC (by exact trivial) lvs0) rfl rfl) rfl (by decide) (cok1 trivial) (fun b45 H46 hb48 s47 => ?_)
          refine x_appendS (m := 2) (l := [((nth l i).1, (nth l i).2)]) (l0 := l.take i) (l' := l.take (i + 1)) (f := entc) [] hF s47 (by kernel_rfl) (j := 2) (i + 1) rfl (gyes_none rfl) Try.underlying24 Try.underlying24 Try.type27 rfl rfl (by decide) rfl entc_w rfl rfl rfl (s47.slsj (l := [((nth l i).1, (nth l i).2)]) entc_w (j := 0) rfl rfl (Nat.le_refl _)) (fun x _ u hu => lc_scalar (entc_sc x u hu)) hti.symm (by show (2 * (i + 1) + 1000) * 16 ≤ _; omega) trivial trivial (by decide) rfl rfl (take_snoc (by omega)) (fun b49 H50 hb52 s51 => ⟨?_, ?_⟩)
          · exact trivial
          refine dv (gyes_none rfl) (q_as (v := .slice (some ⟨b41, 0, none⟩) (i + 1) (i + 1)) rfl) rfl (by decide) (cok1 trivial) ?_
          refine x_store1 [] hF s51 (by kernel_rfl) (gyes_none rfl) (j := 4) (v := .slice (some ⟨b49, 0, none⟩) (i + 1) (i + 1)) rfl Try.sizeOf24 rfl rfl rfl (lc_slice (s51.live (j := 2) rfl)) (Nat.le_of_ble_eq_true rfl) trivial trivial rfl rfl (F' := [(b45, .cells true [.int .u64 (((nth l i).1 : Nat) : Int), .int .u64 (((nth l i).2 : Nat) : Int)] 2), (b37, .cells true [.int .u64 (((nth l i).1 : Nat) : Int), .int .u64 (((nth l i).2 : Nat) : Int)] 2), (b49, .cells true (fl entc (l.take (i + 1))) 2), (b41, .cells true (fl entc (l.take (i + 1))) 2), (b5, .cells true [.slice (some ⟨b49, 0, none⟩) (i + 1) (i + 1)] 1), (b1, .cells true [.int .u64 ((a0 : Nat) : Int), .int .u64 ((a1 : Nat) : Int), .int .u64 ((a2 : Nat) : Int)] 3)]) rfl (fun H53 s54 => ⟨?_, ?_⟩)
          · exact trivial
          refine ⟨_, Wk.refl _ _, ?_⟩
          show awp _ _ _ _ _ _ _
          refine awp_regs hF ?_
          refine dv (gyes_none rfl) (q_mv (v := .int .i64 ((i : Nat) : Int)) rfl) rfl (by decide) (cok1 trivial) ?_
          refine dv (gyes_none rfl) (OpQ.cast (v' := .int .i64 ((i + 1 : Nat) : Int)) (q_int rfl rfl rfl) (congrArg _ ((i64_in (by omega)).trans (by first | rfl | omega | (push_cast; rfl))))) rfl (by decide) (cok2 trivial (cconst rfl)) ?_
          refine dv (gyes_none rfl) (q_as (v := .int .i64 ((i + 1 : Nat) : Int)) rfl) rfl (by decide) (cok1 trivial) ?_
          refine ⟨_, Wk.U [(0, .string t), (1, vl), (5, .pointer (some ⟨b1, 0, none⟩)), (7, .slice (some ⟨b41, 0, none⟩) (i + 1) (i + 1)), (8, .pointer (some ⟨b5, 0, none⟩)), (9, .int .i64 (((i + 1) : Nat) : Int))] ⟨rfl, rfl, rfl, rfl, rfl, rfl, trivial⟩, (i + 1), ⟨_, _, _, rfl, (s54.sub (.cons _ (.cons _ (.cons_cons _ (.cons_cons _ (.cons_cons _ (.cons_cons _ (.refl _)))))))), ⟨by omega, by omega⟩⟩, (by omega)⟩
      ·
        replace c2 := of_decide_eq_false c2
        refine dv (gyes_none rfl) (q_pt (v := .bool false) rfl rfl) rfl (by decide) (call_ok rfl) ?_
        refine ⟨_, Wk.refl _ _, ?_⟩
        show awp _ _ _ _ _ _ _
        refine awp_cond_f rfl ?_
        refine awp_exit_wk ?_
        refine ⟨_, Wk.refl _ _, ?_⟩
        show awp _ _ _ _ _ _ _
        refine awp_seq ?_
        refine awp_regs hF ?_
        refine dv (gyes_none rfl) (q_mv (v := .string t) rfl) rfl (by decide) (cok1 trivial) ?_
        refine dv (gyes_none rfl) (q_call0 Try.call8 rfl (packT_ok (.slice none 0 0) [] SlSZ.nil (by decide) (fun x hx => nomatch hx))) rfl (by decide) (cok2 trivial (cconst rfl)) ?_
        refine dv (gyes_none rfl) (q_call0 Try.call9 rfl (file_ok t (packT []) ht (by rw [packT_size]; decide))) rfl (by decide) (call_ok rfl) ?_
        refine dv (gyes_none rfl) (q_as (v := .string (fileB t (packT []))) rfl) rfl (by decide) (cok1 trivial) ?_
        refine ⟨_, Wk.refl _ _, ?_⟩
        show awp _ _ _ _ _ _ _
        refine awp_seq ?_
        have hS := fileB_size t (packT []) (by rw [packT_size]; decide)
        have h0 := file_reads t
        generalize fileB t (packT []) = S at hS h0 ⊢
        have hln := hrL_len (s := S)
        refine awp_regs hF ?_
        refine dv (gyes_none rfl) (q_mv (v := .string S) rfl) rfl (by decide) (cok1 trivial) ?_
        refine x_call [] hF (by kernel_rfl) (gyes_none rfl) Try.call10 rfl (args := [.string S]) rfl (read_ok S (by omega)) (show _ < _ by decide) (call_ok rfl) rfl rfl (fun _ _ _ _ hd => by cases hd) ?_
        rintro _ H56 ⟨_, rfl, hk57, b55, rfl, hb58, hg59⟩
        have s60 := s18.callN hk57 hb58 hg59
        refine ⟨trivial, ?_⟩
        show dList _ _ _ _ _ _ _ _ _ _
        refine dv (gyes_none rfl) (q_mv (v := .tuple #[.agg #[.string (hrB S), .int .u64 ((hrE S : Nat) : Int), .slice (some ⟨b55, 0, none⟩) ((hrL S).length) ((hrL S).length)], .agg #[.int .i64 ((hrC S : Nat) : Int), .int .u64 ((hrA S : Nat) : Int), .string (⟨#[]⟩ : ByteArray)]]) rfl) rfl (by decide) (cok1 trivial) ?_
        refine dv (gyes_none rfl) (q_extract (v := .agg #[.string (hrB S), .int .u64 ((hrE S : Nat) : Int), .slice (some ⟨b55, 0, none⟩) ((hrL S).length) ((hrL S).length)]) rfl rfl) rfl (by decide) (cok1 trivial) ?_
        refine dv (gyes_none rfl) (q_extract (v := .agg #[.int .i64 ((hrC S : Nat) : Int), .int .u64 ((hrA S : Nat) : Int), .string (⟨#[]⟩ : ByteArray)]) rfl rfl) rfl (by decide) (cok1 trivial) ?_
        refine x_new (fun b => .pointer (some ⟨b, 0, none⟩)) s60 (gyes_none rfl) (q_alloc (vs := [.string ⟨#[]⟩, .int .u64 0, .slice none 0 0]) 3 Try.zeroValue33 (by first | exact flat_scalar rfl | exact flat_agg rfl) rfl) rfl (by decide) (by simp [Op.operands, Call.operands]) (fun b61 H62 hb64 s63 => ?_)
        refine x_new (fun b => .pointer (some ⟨b, 0, none⟩)) s63 (gyes_none rfl) (q_alloc (vs := [.int .i64 0, .int .u64 0, .string ⟨#[]⟩]) 3 Try.zeroValue36 (by first | exact flat_scalar rfl | exact flat_agg rfl) rfl) rfl (by decide) (by simp [Op.operands, Call.operands]) (fun b65 H66 hb68 s67 => ?_)
        refine x_store [] hF s67 (by kernel_rfl) (gyes_none rfl) (j := 1) (v := .agg #[.string (hrB S), .int .u64 ((hrE S : Nat) : Int), .slice (some ⟨b55, 0, none⟩) ((hrL S).length) ((hrL S).length)]) rfl Try.sizeOf33 rfl rfl rfl rfl rfl trivial (lcsA ⟨(lc_scalar rfl), (lc_scalar rfl), (lc_slice (s67.live (j := 2) rfl)), trivial⟩) (Nat.le_of_ble_eq_true rfl) trivial trivial rfl rfl (F' := [(b65, .cells true [.int .i64 0, .int .u64 0, .string ⟨#[]⟩] 3), (b61, .cells true [.string (hrB S), .int .u64 ((hrE S : Nat) : Int), .slice (some ⟨b55, 0, none⟩) ((hrL S).length) ((hrL S).length)] 3), (b55, .cells true (fl segc (hrL S)) 6), (bw, .cells true (fl entc (l.take i)) 2), (bl, .cells true (fl entc (l.take i)) 2), (b5, .cells true [.slice (some ⟨bw, 0, none⟩) i i] 1), (b1, .cells true [.int .u64 ((a0 : Nat) : Int), .int .u64 ((a1 : Nat) : Int), .int .u64 ((a2 : Nat) : Int)] 3)]) rfl (fun H69 s70 => ⟨?_, ?_⟩)
        · exact trivial
        refine x_store [] hF s70 (by kernel_rfl) (gyes_none rfl) (j := 0) (v := .agg #[.int .i64 ((hrC S : Nat) : Int), .int .u64 ((hrA S : Nat) : Int), .string (⟨#[]⟩ : ByteArray)]) rfl Try.sizeOf36 rfl rfl rfl rfl rfl trivial (lcsA ⟨(lc_scalar rfl), (lc_scalar rfl), (lc_scalar rfl), trivial⟩) (Nat.le_of_ble_eq_true rfl) trivial trivial rfl rfl (F' := [(b65, .cells true [.int .i64 ((hrC S : Nat) : Int), .int .u64 ((hrA S : Nat) : Int), .string (⟨#[]⟩ : ByteArray)] 3), (b61, .cells true [.string (hrB S), .int .u64 ((hrE S : Nat) : Int), .slice (some ⟨b55, 0, none⟩) ((hrL S).length) ((hrL S).length)] 3), (b55, .cells true (fl segc (hrL S)) 6), (bw, .cells true (fl entc (l.take i)) 2), (bl, .cells true (fl entc (l.take i)) 2), (b5, .cells true [.slice (some ⟨bw, 0, none⟩) i i] 1), (b1, .cells true [.int .u64 ((a0 : Nat) : Int), .int .u64 ((a1 : Nat) : Int), .int .u64 ((a2 : Nat) : Int)] 3)]) rfl (fun H71 s72 => ⟨?_, ?_⟩)
        · exact trivial
        refine ⟨_, Wk.refl _ _, ?_⟩
        show awp _ _ _ _ _ _ _
        refine awp_seq ?_
        refine awp_regs hF ?_
        refine dv (gyes_none rfl) (q_mv (v := .string S) rfl) rfl (by decide) (cok1 trivial) ?_
        refine x_call [] hF (by kernel_rfl) (gyes_none rfl) Try.call11 rfl (args := [.string S]) rfl (refRead_ok S (by omega)) (show _ < _ by decide) (call_ok rfl) rfl rfl (fun _ _ _ _ hd => by cases hd) ?_
        rintro _ H74 ⟨_, rfl, hk75, b73, rfl, hb76, hg77⟩
        have s78 := s72.callN hk75 hb76 hg77
        refine ⟨trivial, ?_⟩
        show dList _ _ _ _ _ _ _ _ _ _
        refine dv (gyes_none rfl) (q_mv (v := .tuple #[.int .u64 ((hrE S : Nat) : Int), .slice (some ⟨b73, 0, none⟩) ((hrL S).length) ((hrL S).length), .int .i64 ((hrC S : Nat) : Int), .int .u64 ((hrA S : Nat) : Int)]) rfl) rfl (by decide) (cok1 trivial) ?_
        refine dv (gyes_none rfl) (q_extract (v := .int .u64 ((hrE S : Nat) : Int)) rfl rfl) rfl (by decide) (cok1 trivial) ?_
        refine dv (gyes_none rfl) (q_extract (v := .slice (some ⟨b73, 0, none⟩) ((hrL S).length) ((hrL S).length)) rfl rfl) rfl (by decide) (cok1 trivial) ?_
        refine dv (gyes_none rfl) (q_extract (v := .int .i64 ((hrC S : Nat) : Int)) rfl rfl) rfl (by decide) (cok1 trivial) ?_
        refine dv (gyes_none rfl) (q_extract (v := .int .u64 ((hrA S : Nat) : Int)) rfl rfl) rfl (by decide) (cok1 trivial) ?_
        refine dv (gyes_none rfl) (q_as (v := .int .u64 ((hrE S : Nat) : Int)) rfl) rfl (by decide) (cok1 trivial) ?_
        refine dv (gyes_none rfl) (q_as (v := .slice (some ⟨b73, 0, none⟩) ((hrL S).length) ((hrL S).length)) rfl) rfl (by decide) (cok1 trivial) ?_
        refine dv (gyes_none rfl) (q_as (v := .int .i64 ((hrC S : Nat) : Int)) rfl) rfl (by decide) (cok1 trivial) ?_
        refine dv (gyes_none rfl) (q_as (v := .int .u64 ((hrA S : Nat) : Int)) rfl) rfl (by decide) (cok1 trivial) ?_
        refine ⟨_, Wk.refl _ _, ?_⟩
        show awp _ _ _ _ _ _ _
        refine awp_seq ?_
        rw [hrB_y h0] at s78
        try rw [hrB_y h0]
        refine awp_regs hF ?_
        refine dv (gyes_none rfl) (q_mv (v := .slice (some ⟨bl, 0, none⟩) i i) rfl) rfl (by decide) (cok1 trivial) ?_
        refine dv (gyes_none rfl) (q_indexArr (i := 0) Try.underlying50 Try.sizeOf25 rfl rfl (by first | decide | omega) (s78.rd (j := 7) rfl)) rfl (by decide) (cok2 trivial (cconst rfl)) ?_
        refine dv (gyes_none rfl) (q_load (v := .int .u64 ((a0 : Nat) : Int)) Try.isAgg25 rfl (s78.rd (j := 7) rfl) rfl) rfl (by decide) (cok1 trivial) ?_
        refine dv (gyes_none rfl) (q_call0 Try.call14 rfl (get_t_ok a0 (by omega) _ (l.take i) (s78.slsj entc_w (j := 5) rfl hti (Nat.le_refl _)) (by omega))) rfl (by decide) (call_ok rfl) ?_
        refine dv (gyes_none rfl) (q_mv (v := .tuple #[.int .u64 (((getV (l.take i) a0).1 : Nat) : Int), .bool ((getV (l.take i) a0).2)]) rfl) rfl (by decide) (cok1 trivial) ?_
        refine dv (gyes_none rfl) (q_extract (v := .int .u64 (((getV (l.take i) a0).1 : Nat) : Int)) rfl rfl) rfl (by decide) (cok1 trivial) ?_
        refine dv (gyes_none rfl) (q_extract (v := .bool ((getV (l.take i) a0).2)) rfl rfl) rfl (by decide) (cok1 trivial) ?_
        refine dv (gyes_none rfl) (q_as (v := .int .u64 (((getV (l.take i) a0).1 : Nat) : Int)) rfl) rfl (by decide) (cok1 trivial) ?_
        refine dv (gyes_none rfl) (q_as (v := .bool ((getV (l.take i) a0).2)) rfl) rfl (by decide) (cok1 trivial) ?_
        refine ⟨_, Wk.refl _ _, ?_⟩
        show awp _ _ _ _ _ _ _
        refine awp_seq ?_
        refine awp_regs hF ?_
        refine dv (gyes_none rfl) (q_load (v := .slice (some ⟨bw, 0, none⟩) i i) Try.isAgg24 rfl (s78.rd (j := 6) rfl) rfl) rfl (by decide) (cok1 trivial) ?_
        refine dv (gyes_none rfl) (q_indexArr (i := 0) Try.underlying50 Try.sizeOf25 rfl rfl (by first | decide | omega) (s78.rd (j := 7) rfl)) rfl (by decide) (cok2 trivial (cconst rfl)) ?_
        refine dv (gyes_none rfl) (q_load (v := .int .u64 ((a0 : Nat) : Int)) Try.isAgg25 rfl (s78.rd (j := 7) rfl) rfl) rfl (by decide) (cok1 trivial) ?_
        refine dv (gyes_none rfl) (q_call0 Try.call15 rfl (rget_t_ok a0 _ (l.take i) (s78.slsj entc_w (j := 4) rfl hti (Nat.le_refl _)) (by omega))) rfl (by decide) (call_ok rfl) ?_
        refine dv (gyes_none rfl) (q_mv (v := .tuple #[.int .u64 (((getV (l.take i) a0).1 : Nat) : Int), .bool ((getV (l.take i) a0).2)]) rfl) rfl (by decide) (cok1 trivial) ?_
        refine dv (gyes_none rfl) (q_extract (v := .int .u64 (((getV (l.take i) a0).1 : Nat) : Int)) rfl rfl) rfl (by decide) (cok1 trivial) ?_
        refine dv (gyes_none rfl) (q_extract (v := .bool ((getV (l.take i) a0).2)) rfl rfl) rfl (by decide) (cok1 trivial) ?_
        refine dv (gyes_none rfl) (q_as (v := .int .u64 (((getV (l.take i) a0).1 : Nat) : Int)) rfl) rfl (by decide) (cok1 trivial) ?_
        refine dv (gyes_none rfl) (q_as (v := .bool ((getV (l.take i) a0).2)) rfl) rfl (by decide) (cok1 trivial) ?_
        refine ⟨_, Wk.refl _ _, ?_⟩
        show awp _ _ _ _ _ _ _
        refine awp_seq ?_
        refine awp_seq ?_
        refine awp_regs hF ?_
        refine dv (gyes_none rfl) (q_loadAgg Try.isAgg36 Try.sizeOf36 rfl (s78.rd (j := 1) rfl) (Nat.le_of_ble_eq_true rfl) rfl) rfl (by decide) (cok1 trivial) ?_
        refine dv (gyes_none rfl) (q_call0 Try.call16 rfl (ACalls.castV (faultOK_ok ((hrC S : Nat) : Int) (hrA S) (⟨#[]⟩ : ByteArray)) (congrArg Value.bool (beq_iff_eq.2 (by omega))))) rfl (by decide) (cok2 trivial trivial) ?_
        refine dv (gyes_none rfl) (q_not (b := true) rfl) rfl (by decide) (cok1 trivial) ?_
        refine dv (gyes_none rfl) (q_mv (v := .bool false) rfl) rfl (by decide) (cok1 trivial) ?_
        refine dv (gyes_some rfl rfl) (q_mv (v := .int .u64 (((getV (l.take i) a0).1 : Nat) : Int)) rfl) rfl (by decide) (cok1 trivial) ?_
        refine dv (gyes_some rfl rfl) (q_mv (v := .int .u64 (((getV (l.take i) a0).1 : Nat) : Int)) rfl) rfl (by decide) (cok1 trivial) ?_
        refine dv (gyes_some rfl rfl) (OpQ.cast (v' := .bool false) (q_int rfl rfl rfl) (congrArg Value.bool (bne_self_eq_false _))) rfl (by decide) (cok2 trivial trivial) ?_
        refine dv (gyes_none rfl) (q_pf (v := .bool false) rfl rfl) rfl (by decide) (call_ok rfl) ?_
        refine dv (gyes_none rfl) (q_mv (v := .bool false) rfl) rfl (by decide) (cok1 trivial) ?_
        refine dv (gyes_some rfl rfl) (q_mv (v := .bool ((getV (l.take i) a0).2)) rfl) rfl (by decide) (cok1 trivial) ?_
        refine dv (gyes_some rfl rfl) (q_mv (v := .bool ((getV (l.take i) a0).2)) rfl) rfl (by decide) (cok1 trivial) ?_
        refine dv (gyes_some rfl rfl) (OpQ.cast (v' := .bool false) (q_boolne Try.underlying4 rfl rfl) (congrArg Value.bool (bne_self_eq_false _))) rfl (by decide) (cok2 trivial trivial) ?_
        refine dv (gyes_none rfl) (q_pf (v := .bool false) rfl rfl) rfl (by decide) (call_ok rfl) ?_
        refine ⟨_, Wk.refl _ _, ?_⟩
        show awp _ _ _ _ _ _ _
        refine awp_cond_f rfl ?_
        refine awp_skip_wk ?_
        refine ⟨_, Wk.refl _ _, ?_⟩
        show awp _ _ _ _ _ _ _
        refine awp_seq ?_
        refine awp_regs hF ?_
        refine x_new (fun b => .pointer (some ⟨b, 0, none⟩)) s78 (gyes_none rfl) (q_alloc (vs := [.int .i64 0]) 1 Try.zeroValue3 (by first | exact flat_scalar rfl | exact flat_agg rfl) rfl) rfl (by decide) (by simp [Op.operands, Call.operands]) (fun b79 H80 hb82 s81 => ?_)
        refine x_store1 [] hF s81 (by kernel_rfl) (gyes_none rfl) (j := 0) (v := .int .i64 0) rfl Try.sizeOf3 rfl rfl rfl (lc_scalar rfl) (Nat.le_of_ble_eq_true rfl) trivial (cconst rfl) rfl rfl (F' := [(b79, .cells true [.int .i64 0] 1), (b73, .cells true (fl segr (hrL S)) 6), (b65, .cells true [.int .i64 ((hrC S : Nat) : Int), .int .u64 ((hrA S : Nat) : Int), .string (⟨#[]⟩ : ByteArray)] 3), (b61, .cells true [.string S, .int .u64 ((hrE S : Nat) : Int), .slice (some ⟨b55, 0, none⟩) ((hrL S).length) ((hrL S).length)] 3), (b55, .cells true (fl segc (hrL S)) 6), (bw, .cells true (fl entc (l.take i)) 2), (bl, .cells true (fl entc (l.take i)) 2), (b5, .cells true [.slice (some ⟨bw, 0, none⟩) i i] 1), (b1, .cells true [.int .u64 ((a0 : Nat) : Int), .int .u64 ((a1 : Nat) : Int), .int .u64 ((a2 : Nat) : Int)] 3)]) rfl (fun H83 s84 => ⟨?_, ?_⟩)
        · exact trivial
        refine ⟨_, Wk.refl _ _, ?_⟩
        show awp _ _ _ _ _ _ _
        refine awp_seq ?_
        refine awp_regs hF ?_
        refine x_new (fun b => .pointer (some ⟨b, 0, none⟩)) s84 (gyes_none rfl) (q_alloc (vs := [.bool false]) 1 Try.zeroValue4 (by first | exact flat_scalar rfl | exact flat_agg rfl) rfl) rfl (by decide) (by simp [Op.operands, Call.operands]) (fun b85 H86 hb88 s87 => ?_)
        refine x_store1 [] hF s87 (by kernel_rfl) (gyes_none rfl) (j := 0) (v := .bool true) rfl Try.sizeOf4 rfl rfl rfl (lc_scalar rfl) (Nat.le_of_ble_eq_true rfl) trivial (cconst rfl) rfl rfl (F' := [(b85, .cells true [.bool true] 1), (b79, .cells true [.int .i64 0] 1), (b73, .cells true (fl segr (hrL S)) 6), (b65, .cells true [.int .i64 ((hrC S : Nat) : Int), .int .u64 ((hrA S : Nat) : Int), .string (⟨#[]⟩ : ByteArray)] 3), (b61, .cells true [.string S, .int .u64 ((hrE S : Nat) : Int), .slice (some ⟨b55, 0, none⟩) ((hrL S).length) ((hrL S).length)] 3), (b55, .cells true (fl segc (hrL S)) 6), (bw, .cells true (fl entc (l.take i)) 2), (bl, .cells true (fl entc (l.take i)) 2), (b5, .cells true [.slice (some ⟨bw, 0, none⟩) i i] 1), (b1, .cells true [.int .u64 ((a0 : Nat) : Int), .int .u64 ((a1 : Nat) : Int), .int .u64 ((a2 : Nat) : Int)] 3)]) rfl (fun H89 s90 => ⟨?_, ?_⟩)
        · exact trivial
        refine ⟨_, Wk.refl _ _, ?_⟩
        show awp _ _ _ _ _ _ _
        refine awp_seq ?_
        refine awp_regs hF ?_
        refine dv (gyes_none rfl) (q_mv (v := .slice (some ⟨bl, 0, none⟩) i i) rfl) rfl (by decide) (cok1 trivial) ?_
        refine dv (gyes_none rfl) (q_indexArr (i := 0) Try.underlying50 Try.sizeOf25 rfl rfl (by first | decide | omega) (s90.rd (j := 9) rfl)) rfl (by decide) (cok2 trivial (cconst rfl)) ?_
        refine dv (gyes_none rfl) (q_load (v := .int .u64 ((a0 : Nat) : Int)) Try.isAgg25 rfl (s90.rd (j := 9) rfl) rfl) rfl (by decide) (cok1 trivial) ?_
        refine x_call [] hF (by kernel_rfl) (gyes_none rfl) Try.call17 rfl (args := [.slice (some ⟨bl, 0, none⟩) i i, .int .u64 ((a0 : Nat) : Int)]) rfl (all_ok a0 (.slice (some ⟨bl, 0, none⟩) i i) (l.take i) (s90.slsj entc_w (j := 7) rfl hti (Nat.le_refl _))) (show _ < _ by decide) (call_ok rfl) rfl rfl (fun _ _ _ _ hd => by cases hd) ?_
        rintro _ H93 ⟨b91, b92, rfl, hn94⟩
        have s95 := s90.callL hn94
        refine ⟨trivial, ?_⟩
        show dList _ _ _ _ _ _ _ _ _ _
        refine dv (gyes_none rfl) (q_makeFuncL [.pointer (some ⟨b79, 0, none⟩), .pointer (some ⟨b5, 0, none⟩), .pointer (some ⟨b1, 0, none⟩), .pointer (some ⟨b85, 0, none⟩)] ⟨rfl, rfl, rfl, rfl, trivial⟩) rfl (by decide) (call_ok rfl) ?_
        refine x_call [] hF (by kernel_rfl) (gyes_none rfl) Try.call40 rfl (args := [.func (.func 18) #[] #[.pointer (some ⟨b79, 0, none⟩), .pointer (some ⟨b5, 0, none⟩), .pointer (some ⟨b1, 0, none⟩), .pointer (some ⟨b85, 0, none⟩)], .pointer (some ⟨b92, 0, none⟩), .pointer (some ⟨b91, 0, none⟩)]) rfl (arun_ok s95 a0 _ _ (l.take i) (by omega) b79 b5 b1 b85 b92 b91 3 2 _ rfl rfl (by decide) (nin2 (s95.nej (i := 10) (j := 3) rfl rfl (by decide)) (s95.nej (i := 10) (j := 2) rfl rfl (by decide))) (nin2 (s95.nej (i := 11) (j := 3) rfl rfl (by decide)) (s95.nej (i := 11) (j := 2) rfl rfl (by decide))) (nin2 (s95.nej (i := 1) (j := 3) rfl rfl (by decide)) (s95.nej (i := 1) (j := 2) rfl rfl (by decide))) (nin2 (s95.nej (i := 0) (j := 3) rfl rfl (by decide)) (s95.nej (i := 0) (j := 2) rfl rfl (by decide))) (s95.rd (j := 10) rfl) (s95.rd (j := 11) rfl) (s95.rd (j := 1) rfl) (s95.rd (j := 0) rfl) (slsz_full entc_w ⟨(s95.rd (j := 9) rfl), (nin2 (s95.nej (i := 9) (j := 3) rfl rfl (by decide)) (s95.nej (i := 9) (j := 2) rfl rfl (by decide)))⟩ hti (Nat.le_refl _)) (slsz_full entc_w ⟨(s95.rd (j := 8) rfl), (nin2 (s95.nej (i := 8) (j := 3) rfl rfl (by decide)) (s95.nej (i := 8) (j := 2) rfl rfl (by decide)))⟩ hti (Nat.le_refl _))) (show _ < _ by decide) (call_ok rfl) rfl rfl (fun _ _ _ _ hd => by cases hd) ?_
        rintro _ H96 ⟨rfl, hk97, h98, h99⟩
        have s100 := s95.turn2 (j9 := 3) (jl := 2) rfl rfl (by decide) hk97 (.inr (by simp)) (s95.nej (i := 2) (j := 3) rfl rfl (by decide)) h98 h99
        have hpl := pos_le (e := (l.take i)) (k := a0) (l.take i).length
        refine ⟨trivial, ?_⟩
        show dList _ _ _ _ _ _ _ _ _ _
        refine ⟨_, Wk.refl _ _, ?_⟩
        show awp _ _ _ _ _ _ _
        refine awp_seq ?_
        refine awp_block ?_
        refine awp_wk (Wk.U [(5, .pointer (some ⟨b1, 0, none⟩)), (7, .slice (some ⟨bl, 0, none⟩) i i), (8, .pointer (some ⟨b5, 0, none⟩)), (10, .string S), (11, .pointer (some ⟨b61, 0, none⟩)), (14, .slice (some ⟨b73, 0, none⟩) ((hrL S).length) ((hrL S).length)), (21, .pointer (some ⟨b79, 0, none⟩)), (22, .pointer (some ⟨b85, 0, none⟩))] ⟨rfl, rfl, rfl, rfl, rfl, rfl, rfl, rfl, trivial⟩) ?_
        refine awp_loop (fun (m : Nat) st => ∃ (H101 : AHeap), st = ⟨206, U [(5, .pointer (some ⟨b1, 0, none⟩)), (7, .slice (some ⟨bl, 0, none⟩) i i), (8, .pointer (some ⟨b5, 0, none⟩)), (10, .string S), (11, .pointer (some ⟨b61, 0, none⟩)), (14, .slice (some ⟨b73, 0, none⟩) ((hrL S).length) ((hrL S).length)), (21, .pointer (some ⟨b79, 0, none⟩)), (22, .pointer (some ⟨b85, 0, none⟩))], [], H101⟩ ∧ St H0 (none0) (Rd H0) H101 [(b91, .cells true [.int .u64 ((a0 : Nat) : Int)] 1), (b92, .cells true [.slice (some ⟨bl, 0, none⟩) i i] 1), (b85, .cells true [.bool true] 1), (b79, .cells true [.int .i64 ((m : Nat) : Int)] 1), (b73, .cells true (fl segr (hrL S)) 6), (b65, .cells true [.int .i64 ((hrC S : Nat) : Int), .int .u64 ((hrA S : Nat) : Int), .string (⟨#[]⟩ : ByteArray)] 3), (b61, .cells true [.string S, .int .u64 ((hrE S : Nat) : Int), .slice (some ⟨b55, 0, none⟩) ((hrL S).length) ((hrL S).length)] 3), (b55, .cells true (fl segc (hrL S)) 6), (bw, .cells true (fl entc (l.take i)) 2), (bl, .cells true (fl entc (l.take i)) 2), (b5, .cells true [.slice (some ⟨bw, 0, none⟩) i i] 1), (b1, .cells true [.int .u64 ((a0 : Nat) : Int), .int .u64 ((a1 : Nat) : Int), .int .u64 ((a2 : Nat) : Int)] 3)] ∧ (posT (l.take i) a0 (l.take i).length ≤ m ∧ m ≤ i)) (fun (m : Nat) => i - m) (x0 := ((posT (l.take i) a0 (l.take i).length))) ?h0 ?round
        case h0 =>
          exact ⟨_, rfl, s100, ⟨Nat.le_refl _, by omega⟩⟩
        case round =>
          rintro m _ ⟨H101, rfl, s102, hm⟩
          refine awp_seq ?_
          refine awp_seq ?_
          refine awp_regs hF ?_
          refine dv (gyes_none rfl) (q_load (v := .int .i64 ((m : Nat) : Int)) Try.isAgg3 rfl (s102.rd (j := 3) rfl) rfl) rfl (by decide) (cok1 trivial) ?_
          refine dv (gyes_none rfl) (q_load (v := .slice (some ⟨bw, 0, none⟩) i i) Try.isAgg24 rfl (s102.rd (j := 10) rfl) rfl) rfl (by decide) (cok1 trivial) ?_
          refine dv (gyes_none rfl) (q_len_slice Try.underlying24 rfl (s102.rd (j := 8) rfl)) rfl (by decide) (cok1 trivial) ?_
          refine dvb (gyes_none rfl) (q_int rfl rfl rfl) rfl (by decide) (cok2 trivial trivial) (fun c3 => ?_) (fun c3 => ?_)
          ·
            replace c3 := of_decide_eq_true c3
            refine ⟨_, Wk.refl _ _, ?_⟩
            show awp _ _ _ _ _ _ _
            refine awp_cond_t rfl ?_
            refine awp_skip_wk ?_
            refine ⟨_, Wk.refl _ _, ?_⟩
            show awp _ _ _ _ _ _ _
            refine awp_seq ?_
            refine awp_block ?_
            refine awp_regt hF hM (by kernel_rfl) (by kernel_rfl) ?_
            refine dv (gyes_none rfl) (q_load (v := .bool true) Try.isAgg4 rfl (s102.rd (j := 2) rfl) rfl) rfl (by decide) (cok1 trivial) ?_
            refine dv (gyes_none rfl) (q_mv (v := .bool true) rfl) rfl (by decide) (cok1 trivial) ?_
            refine dv (gyes_some rfl rfl) (q_load (v := .slice (some ⟨bw, 0, none⟩) i i) Try.isAgg24 rfl (s102.rd (j := 10) rfl) rfl) rfl (by decide) (cok1 trivial) ?_
            refine dv (gyes_some rfl rfl) (q_load (v := .int .i64 ((m : Nat) : Int)) Try.isAgg3 rfl (s102.rd (j := 3) rfl) rfl) rfl (by decide) (cok1 trivial) ?_
            refine dv (gyes_some rfl rfl) (OpQ.cast (v' := .pointer (some ⟨bw, m * 2, none⟩)) (q_index (u := 0) (i := m) Try.underlying24 Try.sizeOf27 rfl rfl (by omega) (s102.rd (j := 8) rfl)) (by rw [Nat.zero_add])) rfl (by decide) (cok2 trivial trivial) ?_
            refine dv (gyes_some rfl rfl) (q_field Try.underlying27 rfl Try.sizeOf25 rfl (s102.rd (j := 8) rfl)) rfl (by decide) (cok1 trivial) ?_
            refine dv (gyes_some rfl rfl) (q_load (v := .int .u64 (((nth (l.take i) m).1 : Nat) : Int)) Try.isAgg25 rfl (s102.rd (j := 8) rfl) ((fl_get0 entc_w (by omega) (by decide)).trans rfl)) rfl (by decide) (cok1 trivial) ?_
            refine dv (gyes_some rfl rfl) (q_indexArr (i := 0) Try.underlying50 Try.sizeOf25 rfl rfl (by first | decide | omega) (s102.rd (j := 11) rfl)) rfl (by decide) (cok2 trivial (cconst rfl)) ?_
            refine dv (gyes_some rfl rfl) (q_load (v := .int .u64 ((a0 : Nat) : Int)) Try.isAgg25 rfl (s102.rd (j := 11) rfl) rfl) rfl (by decide) (cok1 trivial) ?_
            refine dv (gyes_some rfl rfl) (OpQ.cast (v' := .bool true) (q_int rfl rfl rfl) (congrArg Value.bool (bne_iff_ne.2 (by have := pos_no (e := (l.take i)) (k := a0) (l.take i).length m hm.1 (by omega); omega)))) rfl (by decide) (cok2 trivial trivial) ?_
            refine dv (gyes_none rfl) (q_pt (v := .bool true) rfl rfl) rfl (by decide) (call_ok rfl) ?_
            refine x_store1 [] hF s102 (by kernel_rfl) (gyes_none rfl) (j := 2) (v := .bool true) rfl Try.sizeOf4 rfl rfl rfl (lc_scalar rfl) (Nat.le_of_ble_eq_true rfl) trivial trivial rfl rfl (F' := [(b91, .cells true [.int .u64 ((a0 : Nat) : Int)] 1), (b92, .cells true [.slice (some ⟨bl, 0, none⟩) i i] 1), (b85, .cells true [.bool true] 1), (b79, .cells true [.int .i64 ((m : Nat) : Int)] 1), (b73, .cells true (fl segr (hrL S)) 6), (b65, .cells true [.int .i64 ((hrC S : Nat) : Int), .int .u64 ((hrA S : Nat) : Int), .string (⟨#[]⟩ : ByteArray)] 3), (b61, .cells true [.string S, .int .u64 ((hrE S : Nat) : Int), .slice (some ⟨b55, 0, none⟩) ((hrL S).length) ((hrL S).length)] 3), (b55, .cells true (fl segc (hrL S)) 6), (bw, .cells true (fl entc (l.take i)) 2), (bl, .cells true (fl entc (l.take i)) 2), (b5, .cells true [.slice (some ⟨bw, 0, none⟩) i i] 1), (b1, .cells true [.int .u64 ((a0 : Nat) : Int), .int .u64 ((a1 : Nat) : Int), .int .u64 ((a2 : Nat) : Int)] 3)]) rfl (fun H103 s104 => ⟨?_, ?_⟩)
            · exact trivial
            refine ⟨_, Wk.refl _ _, ?_⟩
            show awp _ _ _ _ _ _ _
            refine awp_regs hF ?_
            refine dv (gyes_none rfl) (q_load (v := .int .i64 ((m : Nat) : Int)) Try.isAgg3 rfl (s104.rd (j := 3) rfl) rfl) rfl (by decide) (cok1 trivial) ?_
            refine dv (gyes_none rfl) (OpQ.cast (v' := .int .i64 ((m + 1 : Nat) : Int)) (q_int rfl rfl rfl) (congrArg _ ((i64_in (by omega)).trans (by first | rfl | omega | (push_cast; rfl))))) rfl (by decide) (cok2 trivial (cconst rfl)) ?_
            refine x_store1 [] hF s104 (by kernel_rfl) (gyes_none rfl) (j := 3) (v := .int .i64 ((m + 1 : Nat) : Int)) rfl Try.sizeOf3 rfl rfl rfl (lc_scalar rfl) (Nat.le_of_ble_eq_true rfl) trivial trivial rfl rfl (F' := [(b91, .cells true [.int .u64 ((a0 : Nat) : Int)] 1), (b92, .cells true [.slice (some ⟨bl, 0, none⟩) i i] 1), (b85, .cells true [.bool true] 1), (b79, .cells true [.int .i64 ((m + 1 : Nat) : Int)] 1), (b73, .cells true (fl segr (hrL S)) 6), (b65, .cells true [.int .i64 ((hrC S : Nat) : Int), .int .u64 ((hrA S : Nat) : Int), .string (⟨#[]⟩ : ByteArray)] 3), (b61, .cells true [.string S, .int .u64 ((hrE S : Nat) : Int), .slice (some ⟨b55, 0, none⟩) ((hrL S).length) ((hrL S).length)] 3), (b55, .cells true (fl segc (hrL S)) 6), (bw, .cells true (fl entc (l.take i)) 2), (bl, .cells true (fl entc (l.take i)) 2), (b5, .cells true [.slice (some ⟨bw, 0, none⟩) i i] 1), (b1, .cells true [.int .u64 ((a0 : Nat) : Int), .int .u64 ((a1 : Nat) : Int), .int .u64 ((a2 : Nat) : Int)] 3)]) rfl (fun H105 s106 => ⟨?_, ?_⟩)
            · exact trivial
            refine ⟨_, Wk.U [(5, .pointer (some ⟨b1, 0, none⟩)), (7, .slice (some ⟨bl, 0, none⟩) i i), (8, .pointer (some ⟨b5, 0, none⟩)), (10, .string S), (11, .pointer (some ⟨b61, 0, none⟩)), (14, .slice (some ⟨b73, 0, none⟩) ((hrL S).length) ((hrL S).length)), (21, .pointer (some ⟨b79, 0, none⟩)), (22, .pointer (some ⟨b85, 0, none⟩))] ⟨rfl, rfl, rfl, rfl, rfl, rfl, rfl, rfl, trivial⟩, (m + 1), ⟨_, rfl, s106, ⟨by omega, by omega⟩⟩, (by omega)⟩
          ·
            replace c3 := of_decide_eq_false c3
            refine ⟨_, Wk.refl _ _, ?_⟩
            show awp _ _ _ _ _ _ _
            refine awp_cond_f rfl ?_
            refine awp_exit_wk ?_
            refine ⟨_, Wk.refl _ _, ?_⟩
            show awp _ _ _ _ _ _ _
            refine awp_seq ?_
            refine awp_regs hF ?_
            refine dv (gyes_none rfl) (q_mv (v := .slice (some ⟨bl, 0, none⟩) i i) rfl) rfl (by decide) (cok1 trivial) ?_
            refine dv (gyes_none rfl) (q_loadAgg Try.isAgg33 Try.sizeOf33 rfl (s102.rd (j := 6) rfl) (Nat.le_of_ble_eq_true rfl) rfl) rfl (by decide) (cok1 trivial) ?_
            refine dv (gyes_none rfl) (q_indexArr (i := 0) Try.underlying50 Try.sizeOf25 rfl rfl (by first | decide | omega) (s102.rd (j := 11) rfl)) rfl (by decide) (cok2 trivial (cconst rfl)) ?_
            refine dv (gyes_none rfl) (q_load (v := .int .u64 ((a0 : Nat) : Int)) Try.isAgg25 rfl (s102.rd (j := 11) rfl) rfl) rfl (by decide) (cok1 trivial) ?_
            refine dv (gyes_none rfl) (q_indexArr (i := 1) Try.underlying50 Try.sizeOf25 rfl rfl (by first | decide | omega) (s102.rd (j := 11) rfl)) rfl (by decide) (cok2 trivial (cconst rfl)) ?_
            refine dv (gyes_none rfl) (q_load (v := .int .u64 ((a1 : Nat) : Int)) Try.isAgg25 rfl (s102.rd (j := 11) rfl) rfl) rfl (by decide) (cok1 trivial) ?_
            refine dv (gyes_none rfl) (q_call0 Try.call19 rfl (span_ok a0 a1 (by omega) (by omega) _ (l.take i) (s102.slsj entc_w (j := 9) rfl hti (Nat.le_refl _)) (by omega) (fun x hx => hlw x (List.mem_of_mem_take hx)) S (hrE S) _ (hrL S) (by omega) (s102.slsj (l := hrL S) segc_w (j := 7) rfl rfl (Nat.le_refl _)) (by omega) hrL_low hrL_in)) rfl (by decide) (call_ok rfl) ?_
            refine dv (gyes_none rfl) (q_mv (v := .tuple #[.string ((spanV S (hrL S) (l.take i) a0 a1).1), .bool ((spanV S (hrL S) (l.take i) a0 a1).2)]) rfl) rfl (by decide) (cok1 trivial) ?_
            refine dv (gyes_none rfl) (q_extract (v := .string ((spanV S (hrL S) (l.take i) a0 a1).1)) rfl rfl) rfl (by decide) (cok1 trivial) ?_
            refine dv (gyes_none rfl) (q_extract (v := .bool ((spanV S (hrL S) (l.take i) a0 a1).2)) rfl rfl) rfl (by decide) (cok1 trivial) ?_
            refine dv (gyes_none rfl) (q_as (v := .string ((spanV S (hrL S) (l.take i) a0 a1).1)) rfl) rfl (by decide) (cok1 trivial) ?_
            refine dv (gyes_none rfl) (q_as (v := .bool ((spanV S (hrL S) (l.take i) a0 a1).2)) rfl) rfl (by decide) (cok1 trivial) ?_
            refine ⟨_, Wk.refl _ _, ?_⟩
            show awp _ _ _ _ _ _ _
            refine awp_seq ?_
            refine awp_regs hF ?_
            refine dv (gyes_none rfl) (q_mv (v := .string S) rfl) rfl (by decide) (cok1 trivial) ?_
            refine dv (gyes_none rfl) (q_mv (v := .slice (some ⟨b73, 0, none⟩) ((hrL S).length) ((hrL S).length)) rfl) rfl (by decide) (cok1 trivial) ?_
            refine dv (gyes_none rfl) (q_load (v := .slice (some ⟨bw, 0, none⟩) i i) Try.isAgg24 rfl (s102.rd (j := 10) rfl) rfl) rfl (by decide) (cok1 trivial) ?_
            refine dv (gyes_none rfl) (q_indexArr (i := 0) Try.underlying50 Try.sizeOf25 rfl rfl (by first | decide | omega) (s102.rd (j := 11) rfl)) rfl (by decide) (cok2 trivial (cconst rfl)) ?_
            refine dv (gyes_none rfl) (q_load (v := .int .u64 ((a0 : Nat) : Int)) Try.isAgg25 rfl (s102.rd (j := 11) rfl) rfl) rfl (by decide) (cok1 trivial) ?_
            refine dv (gyes_none rfl) (q_indexArr (i := 1) Try.underlying50 Try.sizeOf25 rfl rfl (by first | decide | omega) (s102.rd (j := 11) rfl)) rfl (by decide) (cok2 trivial (cconst rfl)) ?_
            refine dv (gyes_none rfl) (q_load (v := .int .u64 ((a1 : Nat) : Int)) Try.isAgg25 rfl (s102.rd (j := 11) rfl) rfl) rfl (by decide) (cok1 trivial) ?_
            refine dv (gyes_none rfl) (q_call0 Try.call20 rfl (rspan_ok a0 a1 _ (l.take i) (s102.slsj entc_w (j := 8) rfl hti (Nat.le_refl _)) (by omega) (fun x hx => hlw x (List.mem_of_mem_take hx)) S _ (hrL S) (by omega) (s102.slsj (l := hrL S) segr_w (j := 4) rfl rfl (Nat.le_refl _)) (by omega) hrL_low hrL_in)) rfl (by decide) (call_ok rfl) ?_
            refine dv (gyes_none rfl) (q_mv (v := .tuple #[.string ((spanV S (hrL S) (l.take i) a0 a1).1), .bool ((spanV S (hrL S) (l.take i) a0 a1).2)]) rfl) rfl (by decide) (cok1 trivial) ?_
            refine dv (gyes_none rfl) (q_extract (v := .string ((spanV S (hrL S) (l.take i) a0 a1).1)) rfl rfl) rfl (by decide) (cok1 trivial) ?_
            refine dv (gyes_none rfl) (q_extract (v := .bool ((spanV S (hrL S) (l.take i) a0 a1).2)) rfl rfl) rfl (by decide) (cok1 trivial) ?_
            refine dv (gyes_none rfl) (q_as (v := .string ((spanV S (hrL S) (l.take i) a0 a1).1)) rfl) rfl (by decide) (cok1 trivial) ?_
            refine dv (gyes_none rfl) (q_as (v := .bool ((spanV S (hrL S) (l.take i) a0 a1).2)) rfl) rfl (by decide) (cok1 trivial) ?_
            refine ⟨_, Wk.refl _ _, ?_⟩
            show awp _ _ _ _ _ _ _
            refine awp_seq ?_
            refine awp_seq ?_
            refine awp_regs hF ?_
            refine dv (gyes_none rfl) (q_load (v := .bool true) Try.isAgg4 rfl (s102.rd (j := 2) rfl) rfl) rfl (by decide) (cok1 trivial) ?_
            refine dv (gyes_none rfl) (q_not (b := true) rfl) rfl (by decide) (cok1 trivial) ?_
            refine dv (gyes_none rfl) (q_mv (v := .bool false) rfl) rfl (by decide) (cok1 trivial) ?_
            refine dv (gyes_some rfl rfl) (q_mv (v := .string ((spanV S (hrL S) (l.take i) a0 a1).1)) rfl) rfl (by decide) (cok1 trivial) ?_
            refine dv (gyes_some rfl rfl) (q_mv (v := .string ((spanV S (hrL S) (l.take i) a0 a1).1)) rfl) rfl (by decide) (cok1 trivial) ?_
            refine dv (gyes_some rfl rfl) (OpQ.cast (v' := .bool false) (q_strne rfl rfl) (congrArg Value.bool (by simp))) rfl (by decide) (cok2 trivial trivial) ?_
            refine dv (gyes_none rfl) (q_pf (v := .bool false) rfl rfl) rfl (by decide) (call_ok rfl) ?_
            refine dv (gyes_none rfl) (q_mv (v := .bool false) rfl) rfl (by decide) (cok1 trivial) ?_
            refine dv (gyes_some rfl rfl) (q_mv (v := .bool ((spanV S (hrL S) (l.take i) a0 a1).2)) rfl) rfl (by decide) (cok1 trivial) ?_
            refine dv (gyes_some rfl rfl) (q_mv (v := .bool ((spanV S (hrL S) (l.take i) a0 a1).2)) rfl) rfl (by decide) (cok1 trivial) ?_
            refine dv (gyes_some rfl rfl) (OpQ.cast (v' := .bool false) (q_boolne Try.underlying4 rfl rfl) (congrArg Value.bool (bne_self_eq_false _))) rfl (by decide) (cok2 trivial trivial) ?_
            refine dv (gyes_none rfl) (q_pf (v := .bool false) rfl rfl) rfl (by decide) (call_ok rfl) ?_
            refine ⟨_, Wk.refl _ _, ?_⟩
            show awp _ _ _ _ _ _ _
            refine awp_cond_f rfl ?_
            refine awp_skip_wk ?_
            refine ⟨_, Wk.refl _ _, ?_⟩
            show awp _ _ _ _ _ _ _
            refine awp_seq ?_
            refine awp_regs hF ?_
            refine dv (gyes_none rfl) (q_mv (v := .slice (some ⟨bl, 0, none⟩) i i) rfl) rfl (by decide) (cok1 trivial) ?_
            refine dv (gyes_none rfl) (q_loadAgg Try.isAgg33 Try.sizeOf33 rfl (s102.rd (j := 6) rfl) (Nat.le_of_ble_eq_true rfl) rfl) rfl (by decide) (cok1 trivial) ?_
            refine dv (gyes_none rfl) (q_indexArr (i := 2) Try.underlying50 Try.sizeOf25 rfl rfl (by first | decide | omega) (s102.rd (j := 11) rfl)) rfl (by decide) (cok2 trivial (cconst rfl)) ?_
            refine dv (gyes_none rfl) (q_load (v := .int .u64 ((a2 : Nat) : Int)) Try.isAgg25 rfl (s102.rd (j := 11) rfl) rfl) rfl (by decide) (cok1 trivial) ?_
            refine dv (gyes_none rfl) (q_call0 Try.call21 rfl (tab_ok a2 ha2 _ (l.take i) (s102.slsj entc_w (j := 9) rfl hti (Nat.le_refl _)) (by omega) (fun x hx => hlw x (List.mem_of_mem_take hx)) S (hrE S) _ (hrL S) (by omega) (s102.slsj (l := hrL S) segc_w (j := 7) rfl rfl (Nat.le_refl _)) (by omega) hrL_low hrL_in)) rfl (by decide) (call_ok rfl) ?_
            refine dv (gyes_none rfl) (q_mv (v := .tuple #[.string ((tabV S (hrL S) (l.take i) a2).1), .bool ((tabV S (hrL S) (l.take i) a2).2)]) rfl) rfl (by decide) (cok1 trivial) ?_
            refine dv (gyes_none rfl) (q_extract (v := .string ((tabV S (hrL S) (l.take i) a2).1)) rfl rfl) rfl (by decide) (cok1 trivial) ?_
            refine dv (gyes_none rfl) (q_extract (v := .bool ((tabV S (hrL S) (l.take i) a2).2)) rfl rfl) rfl (by decide) (cok1 trivial) ?_
            refine dv (gyes_none rfl) (q_as (v := .string ((tabV S (hrL S) (l.take i) a2).1)) rfl) rfl (by decide) (cok1 trivial) ?_
            refine dv (gyes_none rfl) (q_as (v := .bool ((tabV S (hrL S) (l.take i) a2).2)) rfl) rfl (by decide) (cok1 trivial) ?_
            refine ⟨_, Wk.refl _ _, ?_⟩
            show awp _ _ _ _ _ _ _
            refine awp_seq ?_
            refine awp_regs hF ?_
            refine dv (gyes_none rfl) (q_mv (v := .string S) rfl) rfl (by decide) (cok1 trivial) ?_
            refine dv (gyes_none rfl) (q_mv (v := .slice (some ⟨b73, 0, none⟩) ((hrL S).length) ((hrL S).length)) rfl) rfl (by decide) (cok1 trivial) ?_
            refine dv (gyes_none rfl) (q_load (v := .slice (some ⟨bw, 0, none⟩) i i) Try.isAgg24 rfl (s102.rd (j := 10) rfl) rfl) rfl (by decide) (cok1 trivial) ?_
            refine dv (gyes_none rfl) (q_call0 Try.call20 rfl (rspan_ok 5 10 _ (l.take i) (s102.slsj entc_w (j := 8) rfl hti (Nat.le_refl _)) (by omega) (fun x hx => hlw x (List.mem_of_mem_take hx)) S _ (hrL S) (by omega) (s102.slsj (l := hrL S) segr_w (j := 4) rfl rfl (Nat.le_refl _)) (by omega) hrL_low hrL_in)) rfl (by decide) (call_ok rfl) ?_
            refine dv (gyes_none rfl) (q_mv (v := .tuple #[.string ((spanV S (hrL S) (l.take i) 5 10).1), .bool ((spanV S (hrL S) (l.take i) 5 10).2)]) rfl) rfl (by decide) (cok1 trivial) ?_
            refine dv (gyes_none rfl) (q_extract (v := .string ((spanV S (hrL S) (l.take i) 5 10).1)) rfl rfl) rfl (by decide) (cok1 trivial) ?_
            refine dvb (gyes_none rfl) (q_extract (v := .bool ((spanV S (hrL S) (l.take i) 5 10).2)) rfl rfl) rfl (by decide) (cok1 trivial) (fun c4 => ?_) (fun c4 => ?_)
            ·
              have hsp : (spanV S (hrL S) (l.take i) 5 10).2 = true := c4
              refine dv (gyes_none rfl) (q_as (v := .string ((spanV S (hrL S) (l.take i) 5 10).1)) rfl) rfl (by decide) (cok1 trivial) ?_
              refine dv (gyes_none rfl) (q_as (v := .bool true) rfl) rfl (by decide) (cok1 trivial) ?_
              refine ⟨_, Wk.refl _ _, ?_⟩
              show awp _ _ _ _ _ _ _
              refine awp_seq ?_
              refine awp_seq ?_
              refine awp_regs hF ?_
              refine dv (gyes_none rfl) (q_load (v := .slice (some ⟨bw, 0, none⟩) i i) Try.isAgg24 rfl (s102.rd (j := 10) rfl) rfl) rfl (by decide) (cok1 trivial) ?_
              refine dv (gyes_none rfl) (q_call0 Try.call15 rfl (rget_t_ok 5 _ (l.take i) (s102.slsj entc_w (j := 8) rfl hti (Nat.le_refl _)) (by omega))) rfl (by decide) (call_ok rfl) ?_
              refine dv (gyes_none rfl) (q_mv (v := .tuple #[.int .u64 (((getV (l.take i) 5).1 : Nat) : Int), .bool ((getV (l.take i) 5).2)]) rfl) rfl (by decide) (cok1 trivial) ?_
              refine dv (gyes_none rfl) (q_extract (v := .int .u64 (((getV (l.take i) 5).1 : Nat) : Int)) rfl rfl) rfl (by decide) (cok1 trivial) ?_
              refine dvb (gyes_none rfl) (q_extract (v := .bool ((getV (l.take i) 5).2)) rfl rfl) rfl (by decide) (cok1 trivial) (fun c5 => ?_) (fun c5 => ?_)
              ·
                have hgv : (getV (l.take i) 5).2 = true := c5
                refine dv (gyes_none rfl) (q_as (v := .int .u64 (((getV (l.take i) 5).1 : Nat) : Int)) rfl) rfl (by decide) (cok1 trivial) ?_
                refine dv (gyes_none rfl) (q_as (v := .bool true) rfl) rfl (by decide) (cok1 trivial) ?_
                refine ⟨_, Wk.refl _ _, ?_⟩
                show awp _ _ _ _ _ _ _
                refine awp_seq ?_
                refine awp_regs hF ?_
                refine dv (gyes_none rfl) (q_mv (v := .bool true) rfl) rfl (by decide) (cok1 trivial) ?_
                refine dv (gyes_none rfl) (q_not (b := true) rfl) rfl (by decide) (cok1 trivial) ?_
                refine dv (gyes_none rfl) (q_mv (v := .bool false) rfl) rfl (by decide) (cok1 trivial) ?_
                refine dv (gyes_some rfl rfl) (q_mv (v := .bool true) rfl) rfl (by decide) (cok1 trivial) ?_
                refine dv (gyes_some rfl rfl) (q_not (b := true) rfl) rfl (by decide) (cok1 trivial) ?_
                refine dv (gyes_none rfl) (q_pf (v := .bool false) rfl rfl) rfl (by decide) (call_ok rfl) ?_
                refine ⟨_, Wk.refl _ _, ?_⟩
                show awp _ _ _ _ _ _ _
                refine awp_cond_f rfl ?_
                refine awp_skip_wk ?_
                refine ⟨_, Wk.refl _ _, ?_⟩
                show awp _ _ _ _ _ _ _
                refine awp_seq ?_
                refine awp_regs hF ?_
                refine dv (gyes_none rfl) (q_mv (v := .string ((spanV S (hrL S) (l.take i) 5 10).1)) rfl) rfl (by decide) (cok1 trivial) ?_
                refine dv (gyes_none rfl) (q_indexArr (i := 2) Try.underlying50 Try.sizeOf25 rfl rfl (by first | decide | omega) (s102.rd (j := 11) rfl)) rfl (by decide) (cok2 trivial (cconst rfl)) ?_
                refine dv (gyes_none rfl) (q_load (v := .int .u64 ((a2 : Nat) : Int)) Try.isAgg25 rfl (s102.rd (j := 11) rfl) rfl) rfl (by decide) (cok1 trivial) ?_
                refine dv (gyes_none rfl) (q_call0 Try.call22 rfl (rText_ok (spanV S (hrL S) (l.take i) 5 10).1 a2 32 (Nat.le_trans (spanV_size hrL_in) (by decide)) ha2 (by decide))) rfl (by decide) (call_ok rfl) ?_
                refine dv (gyes_none rfl) (q_mv (v := .tuple #[.string ((textV (spanV S (hrL S) (l.take i) 5 10).1 a2 32).1), .bool ((textV (spanV S (hrL S) (l.take i) 5 10).1 a2 32).2)]) rfl) rfl (by decide) (cok1 trivial) ?_
                refine dv (gyes_none rfl) (q_extract (v := .string ((textV (spanV S (hrL S) (l.take i) 5 10).1 a2 32).1)) rfl rfl) rfl (by decide) (cok1 trivial) ?_
                refine dv (gyes_none rfl) (q_extract (v := .bool ((textV (spanV S (hrL S) (l.take i) 5 10).1 a2 32).2)) rfl rfl) rfl (by decide) (cok1 trivial) ?_
                refine dv (gyes_none rfl) (q_as (v := .string ((textV (spanV S (hrL S) (l.take i) 5 10).1 a2 32).1)) rfl) rfl (by decide) (cok1 trivial) ?_
                refine dv (gyes_none rfl) (q_as (v := .bool ((textV (spanV S (hrL S) (l.take i) 5 10).1 a2 32).2)) rfl) rfl (by decide) (cok1 trivial) ?_
                refine ⟨_, Wk.refl _ _, ?_⟩
                show awp _ _ _ _ _ _ _
                refine awp_seq ?_
                refine awp_regs hF ?_
                refine dv (gyes_none rfl) (q_mv (v := .string ((tabV S (hrL S) (l.take i) a2).1)) rfl) rfl (by decide) (cok1 trivial) ?_
                refine dv (gyes_none rfl) (q_mv (v := .string ((textV (spanV S (hrL S) (l.take i) 5 10).1 a2 32).1)) rfl) rfl (by decide) (cok1 trivial) ?_
                refine dv (gyes_none rfl) (OpQ.cast (v' := .bool true) (q_streq rfl rfl) (congrArg Value.bool (by rw [(tabV_yes hgv hsp)]; exact decide_eq_true rfl))) rfl (by decide) (cok2 trivial trivial) ?_
                refine dv (gyes_none rfl) (q_mv (v := .bool true) rfl) rfl (by decide) (cok1 trivial) ?_
                refine dv (gyes_some rfl rfl) (q_mv (v := .bool ((tabV S (hrL S) (l.take i) a2).2)) rfl) rfl (by decide) (cok1 trivial) ?_
                refine dv (gyes_some rfl rfl) (q_mv (v := .bool ((textV (spanV S (hrL S) (l.take i) 5 10).1 a2 32).2)) rfl) rfl (by decide) (cok1 trivial) ?_
                refine dv (gyes_some rfl rfl) (OpQ.cast (v' := .bool true) (q_booleq Try.underlying4 rfl rfl) (congrArg Value.bool (by rw [(tabV_yes hgv hsp)]; exact beq_self_eq_true _))) rfl (by decide) (cok2 trivial trivial) ?_
                refine dv (gyes_none rfl) (q_pt (v := .bool true) rfl rfl) rfl (by decide) (call_ok rfl) ?_
                refine dv (gyes_none rfl) (q_as (v := .bool true) rfl) rfl (by decide) (cok1 trivial) ?_
                refine ⟨_, Wk.refl _ _, ?_⟩
                show awp _ _ _ _ _ _ _
                refine awp_ret_wk ?_
                refine ⟨_, Wk.refl _ _, ?_⟩
                repeat (with_reducible first | refine then_ret ?_ | refine blk_ret ?_ | refine then_exit ?_ | refine blk_exit ?_ | refine blk_exit' (by decide) ?_ | refine blk_normal ?_ | refine then_normal ?_ | refine retq_ret ?_ | refine retq_normal ?_ | refine ng_normal ?_ | refine ng_ret ?_ | refine ng_exit ?_)
                exact ret_none (v := .bool true) rfl s102.kp (.tmp rfl .nil) rfl rfl ⟨rfl, rfl⟩
              ·
                have hgv : (getV (l.take i) 5).2 = false := c5
                refine dv (gyes_none rfl) (q_as (v := .int .u64 (((getV (l.take i) 5).1 : Nat) : Int)) rfl) rfl (by decide) (cok1 trivial) ?_
                refine dv (gyes_none rfl) (q_as (v := .bool false) rfl) rfl (by decide) (cok1 trivial) ?_
                refine ⟨_, Wk.refl _ _, ?_⟩
                show awp _ _ _ _ _ _ _
                refine awp_seq ?_
                refine awp_regs hF ?_
                refine dv (gyes_none rfl) (q_mv (v := .bool false) rfl) rfl (by decide) (cok1 trivial) ?_
                refine dv (gyes_none rfl) (q_not (b := false) rfl) rfl (by decide) (cok1 trivial) ?_
                refine dv (gyes_none rfl) (q_mv (v := .bool true) rfl) rfl (by decide) (cok1 trivial) ?_
                refine dno rfl (.inl rfl) rfl (by decide) ?_
                refine dno rfl (.inl rfl) rfl (by decide) ?_
                refine dv (gyes_none rfl) (q_pt (v := .bool true) rfl rfl) rfl (by decide) (call_ok rfl) ?_
                refine ⟨_, Wk.refl _ _, ?_⟩
                show awp _ _ _ _ _ _ _
                refine awp_cond_t rfl ?_
                refine awp_seq ?_
                refine awp_regs hF ?_
                refine dv (gyes_none rfl) (OpQ.cast (v' := .bool false) (q_mv (v := .bool ((tabV S (hrL S) (l.take i) a2).2)) rfl) (congrArg Value.bool (by rw [(tabV_no (by first | exact .inl hgv | exact .inr hsp))]))) rfl (by decide) (cok1 trivial) ?_
                refine dv (gyes_none rfl) (q_not (b := false) rfl) rfl (by decide) (cok1 trivial) ?_
                refine dv (gyes_none rfl) (q_mv (v := .bool true) rfl) rfl (by decide) (cok1 trivial) ?_
                refine dv (gyes_some rfl rfl) (q_mv (v := .string ((tabV S (hrL S) (l.take i) a2).1)) rfl) rfl (by decide) (cok1 trivial) ?_
                refine dv (gyes_some rfl rfl) (OpQ.cast (v' := .bool true) (q_streq rfl rfl) (congrArg Value.bool (by rw [(tabV_no (by first | exact .inl hgv | exact .inr hsp))]; rfl))) rfl (by decide) (cok2 trivial (cconst rfl)) ?_
                refine dv (gyes_none rfl) (q_pt (v := .bool true) rfl rfl) rfl (by decide) (call_ok rfl) ?_
                refine dv (gyes_none rfl) (q_as (v := .bool true) rfl) rfl (by decide) (cok1 trivial) ?_
                refine ⟨_, Wk.refl _ _, ?_⟩
                show awp _ _ _ _ _ _ _
                refine awp_ret_wk ?_
                refine ⟨_, Wk.refl _ _, ?_⟩
                repeat (with_reducible first | refine then_ret ?_ | refine blk_ret ?_ | refine then_exit ?_ | refine blk_exit ?_ | refine blk_exit' (by decide) ?_ | refine blk_normal ?_ | refine then_normal ?_ | refine retq_ret ?_ | refine retq_normal ?_ | refine ng_normal ?_ | refine ng_ret ?_ | refine ng_exit ?_)
                exact ret_none (v := .bool true) rfl s102.kp (.tmp rfl .nil) rfl rfl ⟨rfl, rfl⟩
            ·
              have hsp : (spanV S (hrL S) (l.take i) 5 10).2 = false := c4
              refine dv (gyes_none rfl) (q_as (v := .string ((spanV S (hrL S) (l.take i) 5 10).1)) rfl) rfl (by decide) (cok1 trivial) ?_
              refine dv (gyes_none rfl) (q_as (v := .bool false) rfl) rfl (by decide) (cok1 trivial) ?_
              refine ⟨_, Wk.refl _ _, ?_⟩
              show awp _ _ _ _ _ _ _
              refine awp_seq ?_
              refine awp_seq ?_
              refine awp_regs hF ?_
              refine dv (gyes_none rfl) (q_load (v := .slice (some ⟨bw, 0, none⟩) i i) Try.isAgg24 rfl (s102.rd (j := 10) rfl) rfl) rfl (by decide) (cok1 trivial) ?_
              refine dv (gyes_none rfl) (q_call0 Try.call15 rfl (rget_t_ok 5 _ (l.take i) (s102.slsj entc_w (j := 8) rfl hti (Nat.le_refl _)) (by omega))) rfl (by decide) (call_ok rfl) ?_
              refine dv (gyes_none rfl) (q_mv (v := .tuple #[.int .u64 (((getV (l.take i) 5).1 : Nat) : Int), .bool ((getV (l.take i) 5).2)]) rfl) rfl (by decide) (cok1 trivial) ?_
              refine dv (gyes_none rfl) (q_extract (v := .int .u64 (((getV (l.take i) 5).1 : Nat) : Int)) rfl rfl) rfl (by decide) (cok1 trivial) ?_
              refine dvb (gyes_none rfl) (q_extract (v := .bool ((getV (l.take i) 5).2)) rfl rfl) rfl (by decide) (cok1 trivial) (fun c6 => ?_) (fun c6 => ?_)
              ·
                have hgv : (getV (l.take i) 5).2 = true := c6
                refine dv (gyes_none rfl) (q_as (v := .int .u64 (((getV (l.take i) 5).1 : Nat) : Int)) rfl) rfl (by decide) (cok1 trivial) ?_
                refine dv (gyes_none rfl) (q_as (v := .bool true) rfl) rfl (by decide) (cok1 trivial) ?_
                refine ⟨_, Wk.refl _ _, ?_⟩
                show awp _ _ _ _ _ _ _
                refine awp_seq ?_
                refine awp_regs hF ?_
                refine dv (gyes_none rfl) (q_mv (v := .bool true) rfl) rfl (by decide) (cok1 trivial) ?_
                refine dv (gyes_none rfl) (q_not (b := true) rfl) rfl (by decide) (cok1 trivial) ?_
                refine dv (gyes_none rfl) (q_mv (v := .bool false) rfl) rfl (by decide) (cok1 trivial) ?_
                refine dv (gyes_some rfl rfl) (q_mv (v := .bool false) rfl) rfl (by decide) (cok1 trivial) ?_
                refine dv (gyes_some rfl rfl) (q_not (b := false) rfl) rfl (by decide) (cok1 trivial) ?_
                refine dv (gyes_none rfl) (q_pf (v := .bool true) rfl rfl) rfl (by decide) (call_ok rfl) ?_
                refine ⟨_, Wk.refl _ _, ?_⟩
                show awp _ _ _ _ _ _ _
                refine awp_cond_t rfl ?_
                refine awp_seq ?_
                refine awp_regs hF ?_
                refine dv (gyes_none rfl) (OpQ.cast (v' := .bool false) (q_mv (v := .bool ((tabV S (hrL S) (l.take i) a2).2)) rfl) (congrArg Value.bool (by rw [(tabV_no (by first | exact .inl hgv | exact .inr hsp))]))) rfl (by decide) (cok1 trivial) ?_
                refine dv (gyes_none rfl) (q_not (b := false) rfl) rfl (by decide) (cok1 trivial) ?_
                refine dv (gyes_none rfl) (q_mv (v := .bool true) rfl) rfl (by decide) (cok1 trivial) ?_
                refine dv (gyes_some rfl rfl) (q_mv (v := .string ((tabV S (hrL S) (l.take i) a2).1)) rfl) rfl (by decide) (cok1 trivial) ?_
                refine dv (gyes_some rfl rfl) (OpQ.cast (v' := .bool true) (q_streq rfl rfl) (congrArg Value.bool (by rw [(tabV_no (by first | exact .inl hgv | exact .inr hsp))]; rfl))) rfl (by decide) (cok2 trivial (cconst rfl)) ?_
                refine dv (gyes_none rfl) (q_pt (v := .bool true) rfl rfl) rfl (by decide) (call_ok rfl) ?_
                refine dv (gyes_none rfl) (q_as (v := .bool true) rfl) rfl (by decide) (cok1 trivial) ?_
                refine ⟨_, Wk.refl _ _, ?_⟩
                show awp _ _ _ _ _ _ _
                refine awp_ret_wk ?_
                refine ⟨_, Wk.refl _ _, ?_⟩
                repeat (with_reducible first | refine then_ret ?_ | refine blk_ret ?_ | refine then_exit ?_ | refine blk_exit ?_ | refine blk_exit' (by decide) ?_ | refine blk_normal ?_ | refine then_normal ?_ | refine retq_ret ?_ | refine retq_normal ?_ | refine ng_normal ?_ | refine ng_ret ?_ | refine ng_exit ?_)
                exact ret_none (v := .bool true) rfl s102.kp (.tmp rfl .nil) rfl rfl ⟨rfl, rfl⟩
              ·
                have hgv : (getV (l.take i) 5).2 = false := c6
                refine dv (gyes_none rfl) (q_as (v := .int .u64 (((getV (l.take i) 5).1 : Nat) : Int)) rfl) rfl (by decide) (cok1 trivial) ?_
                refine dv (gyes_none rfl) (q_as (v := .bool false) rfl) rfl (by decide) (cok1 trivial) ?_
                refine ⟨_, Wk.refl _ _, ?_⟩
                show awp _ _ _ _ _ _ _
                refine awp_seq ?_
                refine awp_regs hF ?_
                refine dv (gyes_none rfl) (q_mv (v := .bool false) rfl) rfl (by decide) (cok1 trivial) ?_
                refine dv (gyes_none rfl) (q_not (b := false) rfl) rfl (by decide) (cok1 trivial) ?_
                refine dv (gyes_none rfl) (q_mv (v := .bool true) rfl) rfl (by decide) (cok1 trivial) ?_
                refine dno rfl (.inl rfl) rfl (by decide) ?_
                refine dno rfl (.inl rfl) rfl (by decide) ?_
                refine dv (gyes_none rfl) (q_pt (v := .bool true) rfl rfl) rfl (by decide) (call_ok rfl) ?_
                refine ⟨_, Wk.refl _ _, ?_⟩
                show awp _ _ _ _ _ _ _
                refine awp_cond_t rfl ?_
                refine awp_seq ?_
                refine awp_regs hF ?_
                refine dv (gyes_none rfl) (OpQ.cast (v' := .bool false) (q_mv (v := .bool ((tabV S (hrL S) (l.take i) a2).2)) rfl) (congrArg Value.bool (by rw [(tabV_no (by first | exact .inl hgv | exact .inr hsp))]))) rfl (by decide) (cok1 trivial) ?_
                refine dv (gyes_none rfl) (q_not (b := false) rfl) rfl (by decide) (cok1 trivial) ?_
                refine dv (gyes_none rfl) (q_mv (v := .bool true) rfl) rfl (by decide) (cok1 trivial) ?_
                refine dv (gyes_some rfl rfl) (q_mv (v := .string ((tabV S (hrL S) (l.take i) a2).1)) rfl) rfl (by decide) (cok1 trivial) ?_
                refine dv (gyes_some rfl rfl) (OpQ.cast (v' := .bool true) (q_streq rfl rfl) (congrArg Value.bool (by rw [(tabV_no (by first | exact .inl hgv | exact .inr hsp))]; rfl))) rfl (by decide) (cok2 trivial (cconst rfl)) ?_
                refine dv (gyes_none rfl) (q_pt (v := .bool true) rfl rfl) rfl (by decide) (call_ok rfl) ?_
                refine dv (gyes_none rfl) (q_as (v := .bool true) rfl) rfl (by decide) (cok1 trivial) ?_
                refine ⟨_, Wk.refl _ _, ?_⟩
                show awp _ _ _ _ _ _ _
                refine awp_ret_wk ?_
                refine ⟨_, Wk.refl _ _, ?_⟩
                repeat (with_reducible first | refine then_ret ?_ | refine blk_ret ?_ | refine then_exit ?_ | refine blk_exit ?_ | refine blk_exit' (by decide) ?_ | refine blk_normal ?_ | refine then_normal ?_ | refine retq_ret ?_ | refine retq_normal ?_ | refine ng_normal ?_ | refine ng_ret ?_ | refine ng_exit ?_)
                exact ret_none (v := .bool true) rfl s102.kp (.tmp rfl .nil) rfl rfl ⟨rfl, rfl⟩
    ·
      replace c1 := of_decide_eq_false c1
      refine dv (gyes_none rfl) (q_mv (v := .bool false) rfl) rfl (by decide) (cok1 trivial) ?_
      refine dno rfl (.inl rfl) rfl (by decide) ?_
      refine dno rfl (.inl rfl) rfl (by decide) ?_
      refine dv (gyes_none rfl) (q_pf (v := .bool false) rfl rfl) rfl (by decide) (call_ok rfl) ?_
      refine ⟨_, Wk.refl _ _, ?_⟩
      show awp _ _ _ _ _ _ _
      refine awp_cond_f rfl ?_
      refine awp_exit_wk ?_
      refine ⟨_, Wk.refl _ _, ?_⟩
      show awp _ _ _ _ _ _ _
      refine awp_seq ?_
      refine awp_regs hF ?_
      refine dv (gyes_none rfl) (q_mv (v := .string t) rfl) rfl (by decide) (cok1 trivial) ?_
      refine dv (gyes_none rfl) (q_call0 Try.call8 rfl (packT_ok (.slice none 0 0) [] SlSZ.nil (by decide) (fun x hx => nomatch hx))) rfl (by decide) (cok2 trivial (cconst rfl)) ?_
      refine dv (gyes_none rfl) (q_call0 Try.call9 rfl (file_ok t (packT []) ht (by rw [packT_size]; decide))) rfl (by decide) (call_ok rfl) ?_
      refine dv (gyes_none rfl) (q_as (v := .string (fileB t (packT []))) rfl) rfl (by decide) (cok1 trivial) ?_
      refine ⟨_, Wk.refl _ _, ?_⟩
      show awp _ _ _ _ _ _ _
      refine awp_seq ?_
      have hS := fileB_size t (packT []) (by rw [packT_size]; decide)
      have h0 := file_reads t
      generalize fileB t (packT []) = S at hS h0 ⊢
      have hln := hrL_len (s := S)
      refine awp_regs hF ?_
      refine dv (gyes_none rfl) (q_mv (v := .string S) rfl) rfl (by decide) (cok1 trivial) ?_
      refine x_call [] hF (by kernel_rfl) (gyes_none rfl) Try.call10 rfl (args := [.string S]) rfl (read_ok S (by omega)) (show _ < _ by decide) (call_ok rfl) rfl rfl (fun _ _ _ _ hd => by cases hd) ?_
      rintro _ H108 ⟨_, rfl, hk109, b107, rfl, hb110, hg111⟩
      have s112 := s18.callN hk109 hb110 hg111
      refine ⟨trivial, ?_⟩
      show dList _ _ _ _ _ _ _ _ _ _
      refine dv (gyes_none rfl) (q_mv (v := .tuple #[.agg #[.string (hrB S), .int .u64 ((hrE S : Nat) : Int), .slice (some ⟨b107, 0, none⟩) ((hrL S).length) ((hrL S).length)], .agg #[.int .i64 ((hrC S : Nat) : Int), .int .u64 ((hrA S : Nat) : Int), .string (⟨#[]⟩ : ByteArray)]]) rfl) rfl (by decide) (cok1 trivial) ?_
      refine dv (gyes_none rfl) (q_extract (v := .agg #[.string (hrB S), .int .u64 ((hrE S : Nat) : Int), .slice (some ⟨b107, 0, none⟩) ((hrL S).length) ((hrL S).length)]) rfl rfl) rfl (by decide) (cok1 trivial) ?_
      refine dv (gyes_none rfl) (q_extract (v := .agg #[.int .i64 ((hrC S : Nat) : Int), .int .u64 ((hrA S : Nat) : Int), .string (⟨#[]⟩ : ByteArray)]) rfl rfl) rfl (by decide) (cok1 trivial) ?_
      refine x_new (fun b => .pointer (some ⟨b, 0, none⟩)) s112 (gyes_none rfl) (q_alloc (vs := [.string ⟨#[]⟩, .int .u64 0, .slice none 0 0]) 3 Try.zeroValue33 (by first | exact flat_scalar rfl | exact flat_agg rfl) rfl) rfl (by decide) (by simp [Op.operands, Call.operands]) (fun b113 H114 hb116 s115 => ?_)
      refine x_new (fun b => .pointer (some ⟨b, 0, none⟩)) s115 (gyes_none rfl) (q_alloc (vs := [.int .i64 0, .int .u64 0, .string ⟨#[]⟩]) 3 Try.zeroValue36 (by first | exact flat_scalar rfl | exact flat_agg rfl) rfl) rfl (by decide) (by simp [Op.operands, Call.operands]) (fun b117 H118 hb120 s119 => ?_)
      refine x_store [] hF s119 (by kernel_rfl) (gyes_none rfl) (j := 1) (v := .agg #[.string (hrB S), .int .u64 ((hrE S : Nat) : Int), .slice (some ⟨b107, 0, none⟩) ((hrL S).length) ((hrL S).length)]) rfl Try.sizeOf33 rfl rfl rfl rfl rfl trivial (lcsA ⟨(lc_scalar rfl), (lc_scalar rfl), (lc_slice (s119.live (j := 2) rfl)), trivial⟩) (Nat.le_of_ble_eq_true rfl) trivial trivial rfl rfl (F' := [(b117, .cells true [.int .i64 0, .int .u64 0, .string ⟨#[]⟩] 3), (b113, .cells true [.string (hrB S), .int .u64 ((hrE S : Nat) : Int), .slice (some ⟨b107, 0, none⟩) ((hrL S).length) ((hrL S).length)] 3), (b107, .cells true (fl segc (hrL S)) 6), (bw, .cells true (fl entc (l.take i)) 2), (bl, .cells true (fl entc (l.take i)) 2), (b5, .cells true [.slice (some ⟨bw, 0, none⟩) i i] 1), (b1, .cells true [.int .u64 ((a0 : Nat) : Int), .int .u64 ((a1 : Nat) : Int), .int .u64 ((a2 : Nat) : Int)] 3)]) rfl (fun H121 s122 => ⟨?_, ?_⟩)
      · exact trivial
      refine x_store [] hF s122 (by kernel_rfl) (gyes_none rfl) (j := 0) (v := .agg #[.int .i64 ((hrC S : Nat) : Int), .int .u64 ((hrA S : Nat) : Int), .string (⟨#[]⟩ : ByteArray)]) rfl Try.sizeOf36 rfl rfl rfl rfl rfl trivial (lcsA ⟨(lc_scalar rfl), (lc_scalar rfl), (lc_scalar rfl), trivial⟩) (Nat.le_of_ble_eq_true rfl) trivial trivial rfl rfl (F' := [(b117, .cells true [.int .i64 ((hrC S : Nat) : Int), .int .u64 ((hrA S : Nat) : Int), .string (⟨#[]⟩ : ByteArray)] 3), (b113, .cells true [.string (hrB S), .int .u64 ((hrE S : Nat) : Int), .slice (some ⟨b107, 0, none⟩) ((hrL S).length) ((hrL S).length)] 3), (b107, .cells true (fl segc (hrL S)) 6), (bw, .cells true (fl entc (l.take i)) 2), (bl, .cells true (fl entc (l.take i)) 2), (b5, .cells true [.slice (some ⟨bw, 0, none⟩) i i] 1), (b1, .cells true [.int .u64 ((a0 : Nat) : Int), .int .u64 ((a1 : Nat) : Int), .int .u64 ((a2 : Nat) : Int)] 3)]) rfl (fun H123 s124 => ⟨?_, ?_⟩)
      · exact trivial
      refine ⟨_, Wk.refl _ _, ?_⟩
      show awp _ _ _ _ _ _ _
      refine awp_seq ?_
      refine awp_regs hF ?_
      refine dv (gyes_none rfl) (q_mv (v := .string S) rfl) rfl (by decide) (cok1 trivial) ?_
      refine x_call [] hF (by kernel_rfl) (gyes_none rfl) Try.call11 rfl (args := [.string S]) rfl (refRead_ok S (by omega)) (show _ < _ by decide) (call_ok rfl) rfl rfl (fun _ _ _ _ hd => by cases hd) ?_
      rintro _ H126 ⟨_, rfl, hk127, b125, rfl, hb128, hg129⟩
      have s130 := s124.callN hk127 hb128 hg129
      refine ⟨trivial, ?_⟩
      show dList _ _ _ _ _ _ _ _ _ _
      refine dv (gyes_none rfl) (q_mv (v := .tuple #[.int .u64 ((hrE S : Nat) : Int), .slice (some ⟨b125, 0, none⟩) ((hrL S).length) ((hrL S).length), .int .i64 ((hrC S : Nat) : Int), .int .u64 ((hrA S : Nat) : Int)]) rfl) rfl (by decide) (cok1 trivial) ?_
      refine dv (gyes_none rfl) (q_extract (v := .int .u64 ((hrE S : Nat) : Int)) rfl rfl) rfl (by decide) (cok1 trivial) ?_
      refine dv (gyes_none rfl) (q_extract (v := .slice (some ⟨b125, 0, none⟩) ((hrL S).length) ((hrL S).length)) rfl rfl) rfl (by decide) (cok1 trivial) ?_
      refine dv (gyes_none rfl) (q_extract (v := .int .i64 ((hrC S : Nat) : Int)) rfl rfl) rfl (by decide) (cok1 trivial) ?_
      refine dv (gyes_none rfl) (q_extract (v := .int .u64 ((hrA S : Nat) : Int)) rfl rfl) rfl (by decide) (cok1 trivial) ?_
      refine dv (gyes_none rfl) (q_as (v := .int .u64 ((hrE S : Nat) : Int)) rfl) rfl (by decide) (cok1 trivial) ?_
      refine dv (gyes_none rfl) (q_as (v := .slice (some ⟨b125, 0, none⟩) ((hrL S).length) ((hrL S).length)) rfl) rfl (by decide) (cok1 trivial) ?_
      refine dv (gyes_none rfl) (q_as (v := .int .i64 ((hrC S : Nat) : Int)) rfl) rfl (by decide) (cok1 trivial) ?_
      refine dv (gyes_none rfl) (q_as (v := .int .u64 ((hrA S : Nat) : Int)) rfl) rfl (by decide) (cok1 trivial) ?_
      refine ⟨_, Wk.refl _ _, ?_⟩
      show awp _ _ _ _ _ _ _
      refine awp_seq ?_
      rw [hrB_y h0] at s130
      try rw [hrB_y h0]
      refine awp_regs hF ?_
      refine dv (gyes_none rfl) (q_mv (v := .slice (some ⟨bl, 0, none⟩) i i) rfl) rfl (by decide) (cok1 trivial) ?_
      refine dv (gyes_none rfl) (q_indexArr (i := 0) Try.underlying50 Try.sizeOf25 rfl rfl (by first | decide | omega) (s130.rd (j := 7) rfl)) rfl (by decide) (cok2 trivial (cconst rfl)) ?_
      refine dv (gyes_none rfl) (q_load (v := .int .u64 ((a0 : Nat) : Int)) Try.isAgg25 rfl (s130.rd (j := 7) rfl) rfl) rfl (by decide) (cok1 trivial) ?_
      refine dv (gyes_none rfl) (q_call0 Try.call14 rfl (get_t_ok a0 (by omega) _ (l.take i) (s130.slsj entc_w (j := 5) rfl hti (Nat.le_refl _)) (by omega))) rfl (by decide) (call_ok rfl) ?_
      refine dv (gyes_none rfl) (q_mv (v := .tuple #[.int .u64 (((getV (l.take i) a0).1 : Nat) : Int), .bool ((getV (l.take i) a0).2)]) rfl) rfl (by decide) (cok1 trivial) ?_
      refine dv (gyes_none rfl) (q_extract (v := .int .u64 (((getV (l.take i) a0).1 : Nat) : Int)) rfl rfl) rfl (by decide) (cok1 trivial) ?_
      refine dv (gyes_none rfl) (q_extract (v := .bool ((getV (l.take i) a0).2)) rfl rfl) rfl (by decide) (cok1 trivial) ?_
      refine dv (gyes_none rfl) (q_as (v := .int .u64 (((getV (l.take i) a0).1 : Nat) : Int)) rfl) rfl (by decide) (cok1 trivial) ?_
      refine dv (gyes_none rfl) (q_as (v := .bool ((getV (l.take i) a0).2)) rfl) rfl (by decide) (cok1 trivial) ?_
      refine ⟨_, Wk.refl _ _, ?_⟩
      show awp _ _ _ _ _ _ _
      refine awp_seq ?_
      refine awp_regs hF ?_
      refine dv (gyes_none rfl) (q_load (v := .slice (some ⟨bw, 0, none⟩) i i) Try.isAgg24 rfl (s130.rd (j := 6) rfl) rfl) rfl (by decide) (cok1 trivial) ?_
      refine dv (gyes_none rfl) (q_indexArr (i := 0) Try.underlying50 Try.sizeOf25 rfl rfl (by first | decide | omega) (s130.rd (j := 7) rfl)) rfl (by decide) (cok2 trivial (cconst rfl)) ?_
      refine dv (gyes_none rfl) (q_load (v := .int .u64 ((a0 : Nat) : Int)) Try.isAgg25 rfl (s130.rd (j := 7) rfl) rfl) rfl (by decide) (cok1 trivial) ?_
      refine dv (gyes_none rfl) (q_call0 Try.call15 rfl (rget_t_ok a0 _ (l.take i) (s130.slsj entc_w (j := 4) rfl hti (Nat.le_refl _)) (by omega))) rfl (by decide) (call_ok rfl) ?_
      refine dv (gyes_none rfl) (q_mv (v := .tuple #[.int .u64 (((getV (l.take i) a0).1 : Nat) : Int), .bool ((getV (l.take i) a0).2)]) rfl) rfl (by decide) (cok1 trivial) ?_
      refine dv (gyes_none rfl) (q_extract (v := .int .u64 (((getV (l.take i) a0).1 : Nat) : Int)) rfl rfl) rfl (by decide) (cok1 trivial) ?_
      refine dv (gyes_none rfl) (q_extract (v := .bool ((getV (l.take i) a0).2)) rfl rfl) rfl (by decide) (cok1 trivial) ?_
      refine dv (gyes_none rfl) (q_as (v := .int .u64 (((getV (l.take i) a0).1 : Nat) : Int)) rfl) rfl (by decide) (cok1 trivial) ?_
      refine dv (gyes_none rfl) (q_as (v := .bool ((getV (l.take i) a0).2)) rfl) rfl (by decide) (cok1 trivial) ?_
      refine ⟨_, Wk.refl _ _, ?_⟩
      show awp _ _ _ _ _ _ _
      refine awp_seq ?_
      refine awp_seq ?_
      refine awp_regs hF ?_
      refine dv (gyes_none rfl) (q_loadAgg Try.isAgg36 Try.sizeOf36 rfl (s130.rd (j := 1) rfl) (Nat.le_of_ble_eq_true rfl) rfl) rfl (by decide) (cok1 trivial) ?_
      refine dv (gyes_none rfl) (q_call0 Try.call16 rfl (ACalls.castV (faultOK_ok ((hrC S : Nat) : Int) (hrA S) (⟨#[]⟩ : ByteArray)) (congrArg Value.bool (beq_iff_eq.2 (by omega))))) rfl (by decide) (cok2 trivial trivial) ?_
      refine dv (gyes_none rfl) (q_not (b := true) rfl) rfl (by decide) (cok1 trivial) ?_
      refine dv (gyes_none rfl) (q_mv (v := .bool false) rfl) rfl (by decide) (cok1 trivial) ?_
      refine dv (gyes_some rfl rfl) (q_mv (v := .int .u64 (((getV (l.take i) a0).1 : Nat) : Int)) rfl) rfl (by decide) (cok1 trivial) ?_
      refine dv (gyes_some rfl rfl) (q_mv (v := .int .u64 (((getV (l.take i) a0).1 : Nat) : Int)) rfl) rfl (by decide) (cok1 trivial) ?_
      refine dv (gyes_some rfl rfl) (OpQ.cast (v' := .bool false) (q_int rfl rfl rfl) (congrArg Value.bool (bne_self_eq_false _))) rfl (by decide) (cok2 trivial trivial) ?_
      refine dv (gyes_none rfl) (q_pf (v := .bool false) rfl rfl) rfl (by decide) (call_ok rfl) ?_
      refine dv (gyes_none rfl) (q_mv (v := .bool false) rfl) rfl (by decide) (cok1 trivial) ?_
      refine dv (gyes_some rfl rfl) (q_mv (v := .bool ((getV (l.take i) a0).2)) rfl) rfl (by decide) (cok1 trivial) ?_
      refine dv (gyes_some rfl rfl) (q_mv (v := .bool ((getV (l.take i) a0).2)) rfl) rfl (by decide) (cok1 trivial) ?_
      refine dv (gyes_some rfl rfl) (OpQ.cast (v' := .bool false) (q_boolne Try.underlying4 rfl rfl) (congrArg Value.bool (bne_self_eq_false _))) rfl (by decide) (cok2 trivial trivial) ?_
      refine dv (gyes_none rfl) (q_pf (v := .bool false) rfl rfl) rfl (by decide) (call_ok rfl) ?_
      refine ⟨_, Wk.refl _ _, ?_⟩
      show awp _ _ _ _ _ _ _
      refine awp_cond_f rfl ?_
      refine awp_skip_wk ?_
      refine ⟨_, Wk.refl _ _, ?_⟩
      show awp _ _ _ _ _ _ _
      refine awp_seq ?_
      refine awp_regs hF ?_
      refine x_new (fun b => .pointer (some ⟨b, 0, none⟩)) s130 (gyes_none rfl) (q_alloc (vs := [.int .i64 0]) 1 Try.zeroValue3 (by first | exact flat_scalar rfl | exact flat_agg rfl) rfl) rfl (by decide) (by simp [Op.operands, Call.operands]) (fun b131 H132 hb134 s133 => ?_)
      refine x_store1 [] hF s133 (by kernel_rfl) (gyes_none rfl) (j := 0) (v := .int .i64 0) rfl Try.sizeOf3 rfl rfl rfl (lc_scalar rfl) (Nat.le_of_ble_eq_true rfl) trivial (cconst rfl) rfl rfl (F' := [(b131, .cells true [.int .i64 0] 1), (b125, .cells true (fl segr (hrL S)) 6), (b117, .cells true [.int .i64 ((hrC S : Nat) : Int), .int .u64 ((hrA S : Nat) : Int), .string (⟨#[]⟩ : ByteArray)] 3), (b113, .cells true [.string S, .int .u64 ((hrE S : Nat) : Int), .slice (some ⟨b107, 0, none⟩) ((hrL S).length) ((hrL S).length)] 3), (b107, .cells true (fl segc (hrL S)) 6), (bw, .cells true (fl entc (l.take i)) 2), (bl, .cells true (fl entc (l.take i)) 2), (b5, .cells true [.slice (some ⟨bw, 0, none⟩) i i] 1), (b1, .cells true [.int .u64 ((a0 : Nat) : Int), .int .u64 ((a1 : Nat) : Int), .int .u64 ((a2 : Nat) : Int)] 3)]) rfl (fun H135 s136 => ⟨?_, ?_⟩)
      · exact trivial
      refine ⟨_, Wk.refl _ _, ?_⟩
      show awp _ _ _ _ _ _ _
      refine awp_seq ?_
      refine awp_regs hF ?_
      refine x_new (fun b => .pointer (some ⟨b, 0, none⟩)) s136 (gyes_none rfl) (q_alloc (vs := [.bool false]) 1 Try.zeroValue4 (by first | exact flat_scalar rfl | exact flat_agg rfl) rfl) rfl (by decide) (by simp [Op.operands, Call.operands]) (fun b137 H138 hb140 s139 => ?_)
      refine x_store1 [] hF s139 (by kernel_rfl) (gyes_none rfl) (j := 0) (v := .bool true) rfl Try.sizeOf4 rfl rfl rfl (lc_scalar rfl) (Nat.le_of_ble_eq_true rfl) trivial (cconst rfl) rfl rfl (F' := [(b137, .cells true [.bool true] 1), (b131, .cells true [.int .i64 0] 1), (b125, .cells true (fl segr (hrL S)) 6), (b117, .cells true [.int .i64 ((hrC S : Nat) : Int), .int .u64 ((hrA S : Nat) : Int), .string (⟨#[]⟩ : ByteArray)] 3), (b113, .cells true [.string S, .int .u64 ((hrE S : Nat) : Int), .slice (some ⟨b107, 0, none⟩) ((hrL S).length) ((hrL S).length)] 3), (b107, .cells true (fl segc (hrL S)) 6), (bw, .cells true (fl entc (l.take i)) 2), (bl, .cells true (fl entc (l.take i)) 2), (b5, .cells true [.slice (some ⟨bw, 0, none⟩) i i] 1), (b1, .cells true [.int .u64 ((a0 : Nat) : Int), .int .u64 ((a1 : Nat) : Int), .int .u64 ((a2 : Nat) : Int)] 3)]) rfl (fun H141 s142 => ⟨?_, ?_⟩)
      · exact trivial
      refine ⟨_, Wk.refl _ _, ?_⟩
      show awp _ _ _ _ _ _ _
      refine awp_seq ?_
      refine awp_regs hF ?_
      refine dv (gyes_none rfl) (q_mv (v := .slice (some ⟨bl, 0, none⟩) i i) rfl) rfl (by decide) (cok1 trivial) ?_
      refine dv (gyes_none rfl) (q_indexArr (i := 0) Try.underlying50 Try.sizeOf25 rfl rfl (by first | decide | omega) (s142.rd (j := 9) rfl)) rfl (by decide) (cok2 trivial (cconst rfl)) ?_
      refine dv (gyes_none rfl) (q_load (v := .int .u64 ((a0 : Nat) : Int)) Try.isAgg25 rfl (s142.rd (j := 9) rfl) rfl) rfl (by decide) (cok1 trivial) ?_
      refine x_call [] hF (by kernel_rfl) (gyes_none rfl) Try.call17 rfl (args := [.slice (some ⟨bl, 0, none⟩) i i, .int .u64 ((a0 : Nat) : Int)]) rfl (all_ok a0 (.slice (some ⟨bl, 0, none⟩) i i) (l.take i) (s142.slsj entc_w (j := 7) rfl hti (Nat.le_refl _))) (show _ < _ by decide) (call_ok rfl) rfl rfl (fun _ _ _ _ hd => by cases hd) ?_
      rintro _ H145 ⟨b143, b144, rfl, hn146⟩
      have s147 := s142.callL hn146
      refine ⟨trivial, ?_⟩
      show dList _ _ _ _ _ _ _ _ _ _
      refine dv (gyes_none rfl) (q_makeFuncL [.pointer (some ⟨b131, 0, none⟩), .pointer (some ⟨b5, 0, none⟩), .pointer (some ⟨b1, 0, none⟩), .pointer (some ⟨b137, 0, none⟩)] ⟨rfl, rfl, rfl, rfl, trivial⟩) rfl (by decide) (call_ok rfl) ?_
      refine x_call [] hF (by kernel_rfl) (gyes_none rfl) Try.call40 rfl (args := [.func (.func 18) #[] #[.pointer (some ⟨b131, 0, none⟩), .pointer (some ⟨b5, 0, none⟩), .pointer (some ⟨b1, 0, none⟩), .pointer (some ⟨b137, 0, none⟩)], .pointer (some ⟨b144, 0, none⟩), .pointer (some ⟨b143, 0, none⟩)]) rfl (arun_ok s147 a0 _ _ (l.take i) (by omega) b131 b5 b1 b137 b144 b143 3 2 _ rfl rfl (by decide) (nin2 (s147.nej (i := 10) (j := 3) rfl rfl (by decide)) (s147.nej (i := 10) (j := 2) rfl rfl (by decide))) (nin2 (s147.nej (i := 11) (j := 3) rfl rfl (by decide)) (s147.nej (i := 11) (j := 2) rfl rfl (by decide))) (nin2 (s147.nej (i := 1) (j := 3) rfl rfl (by decide)) (s147.nej (i := 1) (j := 2) rfl rfl (by decide))) (nin2 (s147.nej (i := 0) (j := 3) rfl rfl (by decide)) (s147.nej (i := 0) (j := 2) rfl rfl (by decide))) (s147.rd (j := 10) rfl) (s147.rd (j := 11) rfl) (s147.rd (j := 1) rfl) (s147.rd (j := 0) rfl) (slsz_full entc_w ⟨(s147.rd (j := 9) rfl), (nin2 (s147.nej (i := 9) (j := 3) rfl rfl (by decide)) (s147.nej (i := 9) (j := 2) rfl rfl (by decide)))⟩ hti (Nat.le_refl _)) (slsz_full entc_w ⟨(s147.rd (j := 8) rfl), (nin2 (s147.nej (i := 8) (j := 3) rfl rfl (by decide)) (s147.nej (i := 8) (j := 2) rfl rfl (by decide)))⟩ hti (Nat.le_refl _))) (show _ < _ by decide) (call_ok rfl) rfl rfl (fun _ _ _ _ hd => by cases hd) ?_
      rintro _ H148 ⟨rfl, hk149, h150, h151⟩
      have s152 := s147.turn2 (j9 := 3) (jl := 2) rfl rfl (by decide) hk149 (.inr (by simp)) (s147.nej (i := 2) (j := 3) rfl rfl (by decide)) h150 h151
      have hpl := pos_le (e := (l.take i)) (k := a0) (l.take i).length
      refine ⟨trivial, ?_⟩
      show dList _ _ _ _ _ _ _ _ _ _
      refine ⟨_, Wk.refl _ _, ?_⟩
      show awp _ _ _ _ _ _ _
      refine awp_seq ?_
      refine awp_block ?_
      refine awp_wk (Wk.U [(5, .pointer (some ⟨b1, 0, none⟩)), (7, .slice (some ⟨bl, 0, none⟩) i i), (8, .pointer (some ⟨b5, 0, none⟩)), (10, .string S), (11, .pointer (some ⟨b113, 0, none⟩)), (14, .slice (some ⟨b125, 0, none⟩) ((hrL S).length) ((hrL S).length)), (21, .pointer (some ⟨b131, 0, none⟩)), (22, .pointer (some ⟨b137, 0, none⟩))] ⟨rfl, rfl, rfl, rfl, rfl, rfl, rfl, rfl, trivial⟩) ?_
      refine awp_loop (fun (m : Nat) st => ∃ (H153 : AHeap), st = ⟨206, U [(5, .pointer (some ⟨b1, 0, none⟩)), (7, .slice (some ⟨bl, 0, none⟩) i i), (8, .pointer (some ⟨b5, 0, none⟩)), (10, .string S), (11, .pointer (some ⟨b113, 0, none⟩)), (14, .slice (some ⟨b125, 0, none⟩) ((hrL S).length) ((hrL S).length)), (21, .pointer (some ⟨b131, 0, none⟩)), (22, .pointer (some ⟨b137, 0, none⟩))], [], H153⟩ ∧ St H0 (none0) (Rd H0) H153 [(b143, .cells true [.int .u64 ((a0 : Nat) : Int)] 1), (b144, .cells true [.slice (some ⟨bl, 0, none⟩) i i] 1), (b137, .cells true [.bool true] 1), (b131, .cells true [.int .i64 ((m : Nat) : Int)] 1), (b125, .cells true (fl segr (hrL S)) 6), (b117, .cells true [.int .i64 ((hrC S : Nat) : Int), .int .u64 ((hrA S : Nat) : Int), .string (⟨#[]⟩ : ByteArray)] 3), (b113, .cells true [.string S, .int .u64 ((hrE S : Nat) : Int), .slice (some ⟨b107, 0, none⟩) ((hrL S).length) ((hrL S).length)] 3), (b107, .cells true (fl segc (hrL S)) 6), (bw, .cells true (fl entc (l.take i)) 2), (bl, .cells true (fl entc (l.take i)) 2), (b5, .cells true [.slice (some ⟨bw, 0, none⟩) i i] 1), (b1, .cells true [.int .u64 ((a0 : Nat) : Int), .int .u64 ((a1 : Nat) : Int), .int .u64 ((a2 : Nat) : Int)] 3)] ∧ (posT (l.take i) a0 (l.take i).length ≤ m ∧ m ≤ i)) (fun (m : Nat) => i - m) (x0 := ((posT (l.take i) a0 (l.take i).length))) ?h0 ?round
      case h0 =>
        exact ⟨_, rfl, s152, ⟨Nat.le_refl _, by omega⟩⟩
      case round =>
        rintro m _ ⟨H153, rfl, s154, hm⟩
        refine awp_seq ?_
        refine awp_seq ?_
        refine awp_regs hF ?_
        refine dv (gyes_none rfl) (q_load (v := .int .i64 ((m : Nat) : Int)) Try.isAgg3 rfl (s154.rd (j := 3) rfl) rfl) rfl (by decide) (cok1 trivial) ?_
        refine dv (gyes_none rfl) (q_load (v := .slice (some ⟨bw, 0, none⟩) i i) Try.isAgg24 rfl (s154.rd (j := 10) rfl) rfl) rfl (by decide) (cok1 trivial) ?_
        refine dv (gyes_none rfl) (q_len_slice Try.underlying24 rfl (s154.rd (j := 8) rfl)) rfl (by decide) (cok1 trivial) ?_
        refine dvb (gyes_none rfl) (q_int rfl rfl rfl) rfl (by decide) (cok2 trivial trivial) (fun c7 => ?_) (fun c7 => ?_)
        ·
          replace c7 := of_decide_eq_true c7
          refine ⟨_, Wk.refl _ _, ?_⟩
          show awp _ _ _ _ _ _ _
          refine awp_cond_t rfl ?_
          refine awp_skip_wk ?_
          refine ⟨_, Wk.refl _ _, ?_⟩
          show awp _ _ _ _ _ _ _
          refine awp_seq ?_
          refine awp_block ?_
          refine awp_regt hF hM (by kernel_rfl) (by kernel_rfl) ?_
          refine dv (gyes_none rfl) (q_load (v := .bool true) Try.isAgg4 rfl (s154.rd (j := 2) rfl) rfl) rfl (by decide) (cok1 trivial) ?_
          refine dv (gyes_none rfl) (q_mv (v := .bool true) rfl) rfl (by decide) (cok1 trivial) ?_
          refine dv (gyes_some rfl rfl) (q_load (v := .slice (some ⟨bw, 0, none⟩) i i) Try.isAgg24 rfl (s154.rd (j := 10) rfl) rfl) rfl (by decide) (cok1 trivial) ?_
          refine dv (gyes_some rfl rfl) (q_load (v := .int .i64 ((m : Nat) : Int)) Try.isAgg3 rfl (s154.rd (j := 3) rfl) rfl) rfl (by decide) (cok1 trivial) ?_
          refine dv (gyes_some rfl rfl) (OpQ.cast (v' := .pointer (some ⟨bw, m * 2, none⟩)) (q_index (u := 0) (i := m) Try.underlying24 Try.sizeOf27 rfl rfl (by omega) (s154.rd (j := 8) rfl)) (by rw [Nat.zero_add])) rfl (by decide) (cok2 trivial trivial) ?_
          refine dv (gyes_some rfl rfl) (q_field Try.underlying27 rfl Try.sizeOf25 rfl (s154.rd (j := 8) rfl)) rfl (by decide) (cok1 trivial) ?_
          refine dv (gyes_some rfl rfl) (q_load (v := .int .u64 (((nth (l.take i) m).1 : Nat) : Int)) Try.isAgg25 rfl (s154.rd (j := 8) rfl) ((fl_get0 entc_w (by omega) (by decide)).trans rfl)) rfl (by decide) (cok1 trivial) ?_
          refine dv (gyes_some rfl rfl) (q_indexArr (i := 0) Try.underlying50 Try.sizeOf25 rfl rfl (by first | decide | omega) (s154.rd (j := 11) rfl)) rfl (by decide) (cok2 trivial (cconst rfl)) ?_
          refine dv (gyes_some rfl rfl) (q_load (v := .int .u64 ((a0 : Nat) : Int)) Try.isAgg25 rfl (s154.rd (j := 11) rfl) rfl) rfl (by decide) (cok1 trivial) ?_
          refine dv (gyes_some rfl rfl) (OpQ.cast (v' := .bool true) (q_int rfl rfl rfl) (congrArg Value.bool (bne_iff_ne.2 (by have := pos_no (e := (l.take i)) (k := a0) (l.take i).length m hm.1 (by omega); omega)))) rfl (by decide) (cok2 trivial trivial) ?_
          refine dv (gyes_none rfl) (q_pt (v := .bool true) rfl rfl) rfl (by decide) (call_ok rfl) ?_
          refine x_store1 [] hF s154 (by kernel_rfl) (gyes_none rfl) (j := 2) (v := .bool true) rfl Try.sizeOf4 rfl rfl rfl (lc_scalar rfl) (Nat.le_of_ble_eq_true rfl) trivial trivial rfl rfl (F' := [(b143, .cells true [.int .u64 ((a0 : Nat) : Int)] 1), (b144, .cells true [.slice (some ⟨bl, 0, none⟩) i i] 1), (b137, .cells true [.bool true] 1), (b131, .cells true [.int .i64 ((m : Nat) : Int)] 1), (b125, .cells true (fl segr (hrL S)) 6), (b117, .cells true [.int .i64 ((hrC S : Nat) : Int), .int .u64 ((hrA S : Nat) : Int), .string (⟨#[]⟩ : ByteArray)] 3), (b113, .cells true [.string S, .int .u64 ((hrE S : Nat) : Int), .slice (some ⟨b107, 0, none⟩) ((hrL S).length) ((hrL S).length)] 3), (b107, .cells true (fl segc (hrL S)) 6), (bw, .cells true (fl entc (l.take i)) 2), (bl, .cells true (fl entc (l.take i)) 2), (b5, .cells true [.slice (some ⟨bw, 0, none⟩) i i] 1), (b1, .cells true [.int .u64 ((a0 : Nat) : Int), .int .u64 ((a1 : Nat) : Int), .int .u64 ((a2 : Nat) : Int)] 3)]) rfl (fun H155 s156 => ⟨?_, ?_⟩)
          · exact trivial
          refine ⟨_, Wk.refl _ _, ?_⟩
          show awp _ _ _ _ _ _ _
          refine awp_regs hF ?_
          refine dv (gyes_none rfl) (q_load (v := .int .i64 ((m : Nat) : Int)) Try.isAgg3 rfl (s156.rd (j := 3) rfl) rfl) rfl (by decide) (cok1 trivial) ?_
          refine dv (gyes_none rfl) (OpQ.cast (v' := .int .i64 ((m + 1 : Nat) : Int)) (q_int rfl rfl rfl) (congrArg _ ((i64_in (by omega)).trans (by first | rfl | omega | (push_cast; rfl))))) rfl (by decide) (cok2 trivial (cconst rfl)) ?_
          refine x_store1 [] hF s156 (by kernel_rfl) (gyes_none rfl) (j := 3) (v := .int .i64 ((m + 1 : Nat) : Int)) rfl Try.sizeOf3 rfl rfl rfl (lc_scalar rfl) (Nat.le_of_ble_eq_true rfl) trivial trivial rfl rfl (F' := [(b143, .cells true [.int .u64 ((a0 : Nat) : Int)] 1), (b144, .cells true [.slice (some ⟨bl, 0, none⟩) i i] 1), (b137, .cells true [.bool true] 1), (b131, .cells true [.int .i64 ((m + 1 : Nat) : Int)] 1), (b125, .cells true (fl segr (hrL S)) 6), (b117, .cells true [.int .i64 ((hrC S : Nat) : Int), .int .u64 ((hrA S : Nat) : Int), .string (⟨#[]⟩ : ByteArray)] 3), (b113, .cells true [.string S, .int .u64 ((hrE S : Nat) : Int), .slice (some ⟨b107, 0, none⟩) ((hrL S).length) ((hrL S).length)] 3), (b107, .cells true (fl segc (hrL S)) 6), (bw, .cells true (fl entc (l.take i)) 2), (bl, .cells true (fl entc (l.take i)) 2), (b5, .cells true [.slice (some ⟨bw, 0, none⟩) i i] 1), (b1, .cells true [.int .u64 ((a0 : Nat) : Int), .int .u64 ((a1 : Nat) : Int), .int .u64 ((a2 : Nat) : Int)] 3)]) rfl (fun H157 s158 => ⟨?_, ?_⟩)
          · exact trivial
          refine ⟨_, Wk.U [(5, .pointer (some ⟨b1, 0, none⟩)), (7, .slice (some ⟨bl, 0, none⟩) i i), (8, .pointer (some ⟨b5, 0, none⟩)), (10, .string S), (11, .pointer (some ⟨b113, 0, none⟩)), (14, .slice (some ⟨b125, 0, none⟩) ((hrL S).length) ((hrL S).length)), (21, .pointer (some ⟨b131, 0, none⟩)), (22, .pointer (some ⟨b137, 0, none⟩))] ⟨rfl, rfl, rfl, rfl, rfl, rfl, rfl, rfl, trivial⟩, (m + 1), ⟨_, rfl, s158, ⟨by omega, by omega⟩⟩, (by omega)⟩
        ·
          replace c7 := of_decide_eq_false c7
          refine ⟨_, Wk.refl _ _, ?_⟩
          show awp _ _ _ _ _ _ _
          refine awp_cond_f rfl ?_
          refine awp_exit_wk ?_
          refine ⟨_, Wk.refl _ _, ?_⟩
          show awp _ _ _ _ _ _ _
          refine awp_seq ?_
          refine awp_regs hF ?_
          refine dv (gyes_none rfl) (q_mv (v := .slice (some ⟨bl, 0, none⟩) i i) rfl) rfl (by decide) (cok1 trivial) ?_
          refine dv (gyes_none rfl) (q_loadAgg Try.isAgg33 Try.sizeOf33 rfl (s154.rd (j := 6) rfl) (Nat.le_of_ble_eq_true rfl) rfl) rfl (by decide) (cok1 trivial) ?_
          refine dv (gyes_none rfl) (q_indexArr (i := 0) Try.underlying50 Try.sizeOf25 rfl rfl (by first | decide | omega) (s154.rd (j := 11) rfl)) rfl (by decide) (cok2 trivial (cconst rfl)) ?_
          refine dv (gyes_none rfl) (q_load (v := .int .u64 ((a0 : Nat) : Int)) Try.isAgg25 rfl (s154.rd (j := 11) rfl) rfl) rfl (by decide) (cok1 trivial) ?_
          refine dv (gyes_none rfl) (q_indexArr (i := 1) Try.underlying50 Try.sizeOf25 rfl rfl (by first | decide | omega) (s154.rd (j := 11) rfl)) rfl (by decide) (cok2 trivial (cconst rfl)) ?_
          refine dv (gyes_none rfl) (q_load (v := .int .u64 ((a1 : Nat) : Int)) Try.isAgg25 rfl (s154.rd (j := 11) rfl) rfl) rfl (by decide) (cok1 trivial) ?_
          refine dv (gyes_none rfl) (q_call0 Try.call19 rfl (span_ok a0 a1 (by omega) (by omega) _ (l.take i) (s154.slsj entc_w (j := 9) rfl hti (Nat.le_refl _)) (by omega) (fun x hx => hlw x (List.mem_of_mem_take hx)) S (hrE S) _ (hrL S) (by omega) (s154.slsj (l := hrL S) segc_w (j := 7) rfl rfl (Nat.le_refl _)) (by omega) hrL_low hrL_in)) rfl (by decide) (call_ok rfl) ?_
          refine dv (gyes_none rfl) (q_mv (v := .tuple #[.string ((spanV S (hrL S) (l.take i) a0 a1).1), .bool ((spanV S (hrL S) (l.take i) a0 a1).2)]) rfl) rfl (by decide) (cok1 trivial) ?_
          refine dv (gyes_none rfl) (q_extract (v := .string ((spanV S (hrL S) (l.take i) a0 a1).1)) rfl rfl) rfl (by decide) (cok1 trivial) ?_
          refine dv (gyes_none rfl) (q_extract (v := .bool ((spanV S (hrL S) (l.take i) a0 a1).2)) rfl rfl) rfl (by decide) (cok1 trivial) ?_
          refine dv (gyes_none rfl) (q_as (v := .string ((spanV S (hrL S) (l.take i) a0 a1).1)) rfl) rfl (by decide) (cok1 trivial) ?_
          refine dv (gyes_none rfl) (q_as (v := .bool ((spanV S (hrL S) (l.take i) a0 a1).2)) rfl) rfl (by decide) (cok1 trivial) ?_
          refine ⟨_, Wk.refl _ _, ?_⟩
          show awp _ _ _ _ _ _ _
          refine awp_seq ?_
          refine awp_regs hF ?_
          refine dv (gyes_none rfl) (q_mv (v := .string S) rfl) rfl (by decide) (cok1 trivial) ?_
          refine dv (gyes_none rfl) (q_mv (v := .slice (some ⟨b125, 0, none⟩) ((hrL S).length) ((hrL S).length)) rfl) rfl (by decide) (cok1 trivial) ?_
          refine dv (gyes_none rfl) (q_load (v := .slice (some ⟨bw, 0, none⟩) i i) Try.isAgg24 rfl (s154.rd (j := 10) rfl) rfl) rfl (by decide) (cok1 trivial) ?_
          refine dv (gyes_none rfl) (q_indexArr (i := 0) Try.underlying50 Try.sizeOf25 rfl rfl (by first | decide | omega) (s154.rd (j := 11) rfl)) rfl (by decide) (cok2 trivial (cconst rfl)) ?_
          refine dv (gyes_none rfl) (q_load (v := .int .u64 ((a0 : Nat) : Int)) Try.isAgg25 rfl (s154.rd (j := 11) rfl) rfl) rfl (by decide) (cok1 trivial) ?_
          refine dv (gyes_none rfl) (q_indexArr (i := 1) Try.underlying50 Try.sizeOf25 rfl rfl (by first | decide | omega) (s154.rd (j := 11) rfl)) rfl (by decide) (cok2 trivial (cconst rfl)) ?_
          refine dv (gyes_none rfl) (q_load (v := .int .u64 ((a1 : Nat) : Int)) Try.isAgg25 rfl (s154.rd (j := 11) rfl) rfl) rfl (by decide) (cok1 trivial) ?_
          refine dv (gyes_none rfl) (q_call0 Try.call20 rfl (rspan_ok a0 a1 _ (l.take i) (s154.slsj entc_w (j := 8) rfl hti (Nat.le_refl _)) (by omega) (fun x hx => hlw x (List.mem_of_mem_take hx)) S _ (hrL S) (by omega) (s154.slsj (l := hrL S) segr_w (j := 4) rfl rfl (Nat.le_refl _)) (by omega) hrL_low hrL_in)) rfl (by decide) (call_ok rfl) ?_
          refine dv (gyes_none rfl) (q_mv (v := .tuple #[.string ((spanV S (hrL S) (l.take i) a0 a1).1), .bool ((spanV S (hrL S) (l.take i) a0 a1).2)]) rfl) rfl (by decide) (cok1 trivial) ?_
          refine dv (gyes_none rfl) (q_extract (v := .string ((spanV S (hrL S) (l.take i) a0 a1).1)) rfl rfl) rfl (by decide) (cok1 trivial) ?_
          refine dv (gyes_none rfl) (q_extract (v := .bool ((spanV S (hrL S) (l.take i) a0 a1).2)) rfl rfl) rfl (by decide) (cok1 trivial) ?_
          refine dv (gyes_none rfl) (q_as (v := .string ((spanV S (hrL S) (l.take i) a0 a1).1)) rfl) rfl (by decide) (cok1 trivial) ?_
          refine dv (gyes_none rfl) (q_as (v := .bool ((spanV S (hrL S) (l.take i) a0 a1).2)) rfl) rfl (by decide) (cok1 trivial) ?_
          refine ⟨_, Wk.refl _ _, ?_⟩
          show awp _ _ _ _ _ _ _
          refine awp_seq ?_
          refine awp_seq ?_
          refine awp_regs hF ?_
          refine dv (gyes_none rfl) (q_load (v := .bool true) Try.isAgg4 rfl (s154.rd (j := 2) rfl) rfl) rfl (by decide) (cok1 trivial) ?_
          refine dv (gyes_none rfl) (q_not (b := true) rfl) rfl (by decide) (cok1 trivial) ?_
          refine dv (gyes_none rfl) (q_mv (v := .bool false) rfl) rfl (by decide) (cok1 trivial) ?_
          refine dv (gyes_some rfl rfl) (q_mv (v := .string ((spanV S (hrL S) (l.take i) a0 a1).1)) rfl) rfl (by decide) (cok1 trivial) ?_
          refine dv (gyes_some rfl rfl) (q_mv (v := .string ((spanV S (hrL S) (l.take i) a0 a1).1)) rfl) rfl (by decide) (cok1 trivial) ?_
          refine dv (gyes_some rfl rfl) (OpQ.cast (v' := .bool false) (q_strne rfl rfl) (congrArg Value.bool (by simp))) rfl (by decide) (cok2 trivial trivial) ?_
          refine dv (gyes_none rfl) (q_pf (v := .bool false) rfl rfl) rfl (by decide) (call_ok rfl) ?_
          refine dv (gyes_none rfl) (q_mv (v := .bool false) rfl) rfl (by decide) (cok1 trivial) ?_
          refine dv (gyes_some rfl rfl) (q_mv (v := .bool ((spanV S (hrL S) (l.take i) a0 a1).2)) rfl) rfl (by decide) (cok1 trivial) ?_
          refine dv (gyes_some rfl rfl) (q_mv (v := .bool ((spanV S (hrL S) (l.take i) a0 a1).2)) rfl) rfl (by decide) (cok1 trivial) ?_
          refine dv (gyes_some rfl rfl) (OpQ.cast (v' := .bool false) (q_boolne Try.underlying4 rfl rfl) (congrArg Value.bool (bne_self_eq_false _))) rfl (by decide) (cok2 trivial trivial) ?_
          refine dv (gyes_none rfl) (q_pf (v := .bool false) rfl rfl) rfl (by decide) (call_ok rfl) ?_
          refine ⟨_, Wk.refl _ _, ?_⟩
          show awp _ _ _ _ _ _ _
          refine awp_cond_f rfl ?_
          refine awp_skip_wk ?_
          refine ⟨_, Wk.refl _ _, ?_⟩
          show awp _ _ _ _ _ _ _
          refine awp_seq ?_
          refine awp_regs hF ?_
          refine dv (gyes_none rfl) (q_mv (v := .slice (some ⟨bl, 0, none⟩) i i) rfl) rfl (by decide) (cok1 trivial) ?_
          refine dv (gyes_none rfl) (q_loadAgg Try.isAgg33 Try.sizeOf33 rfl (s154.rd (j := 6) rfl) (Nat.le_of_ble_eq_true rfl) rfl) rfl (by decide) (cok1 trivial) ?_
          refine dv (gyes_none rfl) (q_indexArr (i := 2) Try.underlying50 Try.sizeOf25 rfl rfl (by first | decide | omega) (s154.rd (j := 11) rfl)) rfl (by decide) (cok2 trivial (cconst rfl)) ?_
          refine dv (gyes_none rfl) (q_load (v := .int .u64 ((a2 : Nat) : Int)) Try.isAgg25 rfl (s154.rd (j := 11) rfl) rfl) rfl (by decide) (cok1 trivial) ?_
          refine dv (gyes_none rfl) (q_call0 Try.call21 rfl (tab_ok a2 ha2 _ (l.take i) (s154.slsj entc_w (j := 9) rfl hti (Nat.le_refl _)) (by omega) (fun x hx => hlw x (List.mem_of_mem_take hx)) S (hrE S) _ (hrL S) (by omega) (s154.slsj (l := hrL S) segc_w (j := 7) rfl rfl (Nat.le_refl _)) (by omega) hrL_low hrL_in)) rfl (by decide) (call_ok rfl) ?_
          refine dv (gyes_none rfl) (q_mv (v := .tuple #[.string ((tabV S (hrL S) (l.take i) a2).1), .bool ((tabV S (hrL S) (l.take i) a2).2)]) rfl) rfl (by decide) (cok1 trivial) ?_
          refine dv (gyes_none rfl) (q_extract (v := .string ((tabV S (hrL S) (l.take i) a2).1)) rfl rfl) rfl (by decide) (cok1 trivial) ?_
          refine dv (gyes_none rfl) (q_extract (v := .bool ((tabV S (hrL S) (l.take i) a2).2)) rfl rfl) rfl (by decide) (cok1 trivial) ?_
          refine dv (gyes_none rfl) (q_as (v := .string ((tabV S (hrL S) (l.take i) a2).1)) rfl) rfl (by decide) (cok1 trivial) ?_
          refine dv (gyes_none rfl) (q_as (v := .bool ((tabV S (hrL S) (l.take i) a2).2)) rfl) rfl (by decide) (cok1 trivial) ?_
          refine ⟨_, Wk.refl _ _, ?_⟩
          show awp _ _ _ _ _ _ _
          refine awp_seq ?_
          refine awp_regs hF ?_
          refine dv (gyes_none rfl) (q_mv (v := .string S) rfl) rfl (by decide) (cok1 trivial) ?_
          refine dv (gyes_none rfl) (q_mv (v := .slice (some ⟨b125, 0, none⟩) ((hrL S).length) ((hrL S).length)) rfl) rfl (by decide) (cok1 trivial) ?_
          refine dv (gyes_none rfl) (q_load (v := .slice (some ⟨bw, 0, none⟩) i i) Try.isAgg24 rfl (s154.rd (j := 10) rfl) rfl) rfl (by decide) (cok1 trivial) ?_
          refine dv (gyes_none rfl) (q_call0 Try.call20 rfl (rspan_ok 5 10 _ (l.take i) (s154.slsj entc_w (j := 8) rfl hti (Nat.le_refl _)) (by omega) (fun x hx => hlw x (List.mem_of_mem_take hx)) S _ (hrL S) (by omega) (s154.slsj (l := hrL S) segr_w (j := 4) rfl rfl (Nat.le_refl _)) (by omega) hrL_low hrL_in)) rfl (by decide) (call_ok rfl) ?_
          refine dv (gyes_none rfl) (q_mv (v := .tuple #[.string ((spanV S (hrL S) (l.take i) 5 10).1), .bool ((spanV S (hrL S) (l.take i) 5 10).2)]) rfl) rfl (by decide) (cok1 trivial) ?_
          refine dv (gyes_none rfl) (q_extract (v := .string ((spanV S (hrL S) (l.take i) 5 10).1)) rfl rfl) rfl (by decide) (cok1 trivial) ?_
          refine dvb (gyes_none rfl) (q_extract (v := .bool ((spanV S (hrL S) (l.take i) 5 10).2)) rfl rfl) rfl (by decide) (cok1 trivial) (fun c8 => ?_) (fun c8 => ?_)
          ·
            have hsp : (spanV S (hrL S) (l.take i) 5 10).2 = true := c8
            refine dv (gyes_none rfl) (q_as (v := .string ((spanV S (hrL S) (l.take i) 5 10).1)) rfl) rfl (by decide) (cok1 trivial) ?_
            refine dv (gyes_none rfl) (q_as (v := .bool true) rfl) rfl (by decide) (cok1 trivial) ?_
            refine ⟨_, Wk.refl _ _, ?_⟩
            show awp _ _ _ _ _ _ _
            refine awp_seq ?_
            refine awp_seq ?_
            refine awp_regs hF ?_
            refine dv (gyes_none rfl) (q_load (v := .slice (some ⟨bw, 0, none⟩) i i) Try.isAgg24 rfl (s154.rd (j := 10) rfl) rfl) rfl (by decide) (cok1 trivial) ?_
            refine dv (gyes_none rfl) (q_call0 Try.call15 rfl (rget_t_ok 5 _ (l.take i) (s154.slsj entc_w (j := 8) rfl hti (Nat.le_refl _)) (by omega))) rfl (by decide) (call_ok rfl) ?_
            refine dv (gyes_none rfl) (q_mv (v := .tuple #[.int .u64 (((getV (l.take i) 5).1 : Nat) : Int), .bool ((getV (l.take i) 5).2)]) rfl) rfl (by decide) (cok1 trivial) ?_
            refine dv (gyes_none rfl) (q_extract (v := .int .u64 (((getV (l.take i) 5).1 : Nat) : Int)) rfl rfl) rfl (by decide) (cok1 trivial) ?_
            refine dvb (gyes_none rfl) (q_extract (v := .bool ((getV (l.take i) 5).2)) rfl rfl) rfl (by decide) (cok1 trivial) (fun c9 => ?_) (fun c9 => ?_)
            ·
              have hgv : (getV (l.take i) 5).2 = true := c9
              refine dv (gyes_none rfl) (q_as (v := .int .u64 (((getV (l.take i) 5).1 : Nat) : Int)) rfl) rfl (by decide) (cok1 trivial) ?_
              refine dv (gyes_none rfl) (q_as (v := .bool true) rfl) rfl (by decide) (cok1 trivial) ?_
              refine ⟨_, Wk.refl _ _, ?_⟩
              show awp _ _ _ _ _ _ _
              refine awp_seq ?_
              refine awp_regs hF ?_
              refine dv (gyes_none rfl) (q_mv (v := .bool true) rfl) rfl (by decide) (cok1 trivial) ?_
              refine dv (gyes_none rfl) (q_not (b := true) rfl) rfl (by decide) (cok1 trivial) ?_
              refine dv (gyes_none rfl) (q_mv (v := .bool false) rfl) rfl (by decide) (cok1 trivial) ?_
              refine dv (gyes_some rfl rfl) (q_mv (v := .bool true) rfl) rfl (by decide) (cok1 trivial) ?_
              refine dv (gyes_some rfl rfl) (q_not (b := true) rfl) rfl (by decide) (cok1 trivial) ?_
              refine dv (gyes_none rfl) (q_pf (v := .bool false) rfl rfl) rfl (by decide) (call_ok rfl) ?_
              refine ⟨_, Wk.refl _ _, ?_⟩
              show awp _ _ _ _ _ _ _
              refine awp_cond_f rfl ?_
              refine awp_skip_wk ?_
              refine ⟨_, Wk.refl _ _, ?_⟩
              show awp _ _ _ _ _ _ _
              refine awp_seq ?_
              refine awp_regs hF ?_
              refine dv (gyes_none rfl) (q_mv (v := .string ((spanV S (hrL S) (l.take i) 5 10).1)) rfl) rfl (by decide) (cok1 trivial) ?_
              refine dv (gyes_none rfl) (q_indexArr (i := 2) Try.underlying50 Try.sizeOf25 rfl rfl (by first | decide | omega) (s154.rd (j := 11) rfl)) rfl (by decide) (cok2 trivial (cconst rfl)) ?_
              refine dv (gyes_none rfl) (q_load (v := .int .u64 ((a2 : Nat) : Int)) Try.isAgg25 rfl (s154.rd (j := 11) rfl) rfl) rfl (by decide) (cok1 trivial) ?_
              refine dv (gyes_none rfl) (q_call0 Try.call22 rfl (rText_ok (spanV S (hrL S) (l.take i) 5 10).1 a2 32 (Nat.le_trans (spanV_size hrL_in) (by decide)) ha2 (by decide))) rfl (by decide) (call_ok rfl) ?_
              refine dv (gyes_none rfl) (q_mv (v := .tuple #[.string ((textV (spanV S (hrL S) (l.take i) 5 10).1 a2 32).1), .bool ((textV (spanV S (hrL S) (l.take i) 5 10).1 a2 32).2)]) rfl) rfl (by decide) (cok1 trivial) ?_
              refine dv (gyes_none rfl) (q_extract (v := .string ((textV (spanV S (hrL S) (l.take i) 5 10).1 a2 32).1)) rfl rfl) rfl (by decide) (cok1 trivial) ?_
              refine dv (gyes_none rfl) (q_extract (v := .bool ((textV (spanV S (hrL S) (l.take i) 5 10).1 a2 32).2)) rfl rfl) rfl (by decide) (cok1 trivial) ?_
              refine dv (gyes_none rfl) (q_as (v := .string ((textV (spanV S (hrL S) (l.take i) 5 10).1 a2 32).1)) rfl) rfl (by decide) (cok1 trivial) ?_
              refine dv (gyes_none rfl) (q_as (v := .bool ((textV (spanV S (hrL S) (l.take i) 5 10).1 a2 32).2)) rfl) rfl (by decide) (cok1 trivial) ?_
              refine ⟨_, Wk.refl _ _, ?_⟩
              show awp _ _ _ _ _ _ _
              refine awp_seq ?_
              refine awp_regs hF ?_
              refine dv (gyes_none rfl) (q_mv (v := .string ((tabV S (hrL S) (l.take i) a2).1)) rfl) rfl (by decide) (cok1 trivial) ?_
              refine dv (gyes_none rfl) (q_mv (v := .string ((textV (spanV S (hrL S) (l.take i) 5 10).1 a2 32).1)) rfl) rfl (by decide) (cok1 trivial) ?_
              refine dv (gyes_none rfl) (OpQ.cast (v' := .bool true) (q_streq rfl rfl) (congrArg Value.bool (by rw [(tabV_yes hgv hsp)]; exact decide_eq_true rfl))) rfl (by decide) (cok2 trivial trivial) ?_
              refine dv (gyes_none rfl) (q_mv (v := .bool true) rfl) rfl (by decide) (cok1 trivial) ?_
              refine dv (gyes_some rfl rfl) (q_mv (v := .bool ((tabV S (hrL S) (l.take i) a2).2)) rfl) rfl (by decide) (cok1 trivial) ?_
              refine dv (gyes_some rfl rfl) (q_mv (v := .bool ((textV (spanV S (hrL S) (l.take i) 5 10).1 a2 32).2)) rfl) rfl (by decide) (cok1 trivial) ?_
              refine dv (gyes_some rfl rfl) (OpQ.cast (v' := .bool true) (q_booleq Try.underlying4 rfl rfl) (congrArg Value.bool (by rw [(tabV_yes hgv hsp)]; exact beq_self_eq_true _))) rfl (by decide) (cok2 trivial trivial) ?_
              refine dv (gyes_none rfl) (q_pt (v := .bool true) rfl rfl) rfl (by decide) (call_ok rfl) ?_
              refine dv (gyes_none rfl) (q_as (v := .bool true) rfl) rfl (by decide) (cok1 trivial) ?_
              refine ⟨_, Wk.refl _ _, ?_⟩
              show awp _ _ _ _ _ _ _
              refine awp_ret_wk ?_
              refine ⟨_, Wk.refl _ _, ?_⟩
              repeat (with_reducible first | refine then_ret ?_ | refine blk_ret ?_ | refine then_exit ?_ | refine blk_exit ?_ | refine blk_exit' (by decide) ?_ | refine blk_normal ?_ | refine then_normal ?_ | refine retq_ret ?_ | refine retq_normal ?_ | refine ng_normal ?_ | refine ng_ret ?_ | refine ng_exit ?_)
              exact ret_none (v := .bool true) rfl s154.kp (.tmp rfl .nil) rfl rfl ⟨rfl, rfl⟩
            ·
              have hgv : (getV (l.take i) 5).2 = false := c9
              refine dv (gyes_none rfl) (q_as (v := .int .u64 (((getV (l.take i) 5).1 : Nat) : Int)) rfl) rfl (by decide) (cok1 trivial) ?_
              refine dv (gyes_none rfl) (q_as (v := .bool false) rfl) rfl (by decide) (cok1 trivial) ?_
              refine ⟨_, Wk.refl _ _, ?_⟩
              show awp _ _ _ _ _ _ _
              refine awp_seq ?_
              refine awp_regs hF ?_
              refine dv (gyes_none rfl) (q_mv (v := .bool false) rfl) rfl (by decide) (cok1 trivial) ?_
              refine dv (gyes_none rfl) (q_not (b := false) rfl) rfl (by decide) (cok1 trivial) ?_
              refine dv (gyes_none rfl) (q_mv (v := .bool true) rfl) rfl (by decide) (cok1 trivial) ?_
              refine dno rfl (.inl rfl) rfl (by decide) ?_
              refine dno rfl (.inl rfl) rfl (by decide) ?_
              refine dv (gyes_none rfl) (q_pt (v := .bool true) rfl rfl) rfl (by decide) (call_ok rfl) ?_
              refine ⟨_, Wk.refl _ _, ?_⟩
              show awp _ _ _ _ _ _ _
              refine awp_cond_t rfl ?_
              refine awp_seq ?_
              refine awp_regs hF ?_
              refine dv (gyes_none rfl) (OpQ.cast (v' := .bool false) (q_mv (v := .bool ((tabV S (hrL S) (l.take i) a2).2)) rfl) (congrArg Value.bool (by rw [(tabV_no (by first | exact .inl hgv | exact .inr hsp))]))) rfl (by decide) (cok1 trivial) ?_
              refine dv (gyes_none rfl) (q_not (b := false) rfl) rfl (by decide) (cok1 trivial) ?_
              refine dv (gyes_none rfl) (q_mv (v := .bool true) rfl) rfl (by decide) (cok1 trivial) ?_
              refine dv (gyes_some rfl rfl) (q_mv (v := .string ((tabV S (hrL S) (l.take i) a2).1)) rfl) rfl (by decide) (cok1 trivial) ?_
              refine dv (gyes_some rfl rfl) (OpQ.cast (v' := .bool true) (q_streq rfl rfl) (congrArg Value.bool (by rw [(tabV_no (by first | exact .inl hgv | exact .inr hsp))]; rfl))) rfl (by decide) (cok2 trivial (cconst rfl)) ?_
              refine dv (gyes_none rfl) (q_pt (v := .bool true) rfl rfl) rfl (by decide) (call_ok rfl) ?_
              refine dv (gyes_none rfl) (q_as (v := .bool true) rfl) rfl (by decide) (cok1 trivial) ?_
              refine ⟨_, Wk.refl _ _, ?_⟩
              show awp _ _ _ _ _ _ _
              refine awp_ret_wk ?_
              refine ⟨_, Wk.refl _ _, ?_⟩
              repeat (with_reducible first | refine then_ret ?_ | refine blk_ret ?_ | refine then_exit ?_ | refine blk_exit ?_ | refine blk_exit' (by decide) ?_ | refine blk_normal ?_ | refine then_normal ?_ | refine retq_ret ?_ | refine retq_normal ?_ | refine ng_normal ?_ | refine ng_ret ?_ | refine ng_exit ?_)
              exact ret_none (v := .bool true) rfl s154.kp (.tmp rfl .nil) rfl rfl ⟨rfl, rfl⟩
          ·
            have hsp : (spanV S (hrL S) (l.take i) 5 10).2 = false := c8
            refine dv (gyes_none rfl) (q_as (v := .string ((spanV S (hrL S) (l.take i) 5 10).1)) rfl) rfl (by decide) (cok1 trivial) ?_
            refine dv (gyes_none rfl) (q_as (v := .bool false) rfl) rfl (by decide) (cok1 trivial) ?_
            refine ⟨_, Wk.refl _ _, ?_⟩
            show awp _ _ _ _ _ _ _
            refine awp_seq ?_
            refine awp_seq ?_
            refine awp_regs hF ?_
            refine dv (gyes_none rfl) (q_load (v := .slice (some ⟨bw, 0, none⟩) i i) Try.isAgg24 rfl (s154.rd (j := 10) rfl) rfl) rfl (by decide) (cok1 trivial) ?_
            refine dv (gyes_none rfl) (q_call0 Try.call15 rfl (rget_t_ok 5 _ (l.take i) (s154.slsj entc_w (j := 8) rfl hti (Nat.le_refl _)) (by omega))) rfl (by decide) (call_ok rfl) ?_
            refine dv (gyes_none rfl) (q_mv (v := .tuple #[.int .u64 (((getV (l.take i) 5).1 : Nat) : Int), .bool ((getV (l.take i) 5).2)]) rfl) rfl (by decide) (cok1 trivial) ?_
            refine dv (gyes_none rfl) (q_extract (v := .int .u64 (((getV (l.take i) 5).1 : Nat) : Int)) rfl rfl) rfl (by decide) (cok1 trivial) ?_
            refine dvb (gyes_none rfl) (q_extract (v := .bool ((getV (l.take i) 5).2)) rfl rfl) rfl (by decide) (cok1 trivial) (fun c10 => ?_) (fun c10 => ?_)
            ·
              have hgv : (getV (l.take i) 5).2 = true := c10
              refine dv (gyes_none rfl) (q_as (v := .int .u64 (((getV (l.take i) 5).1 : Nat) : Int)) rfl) rfl (by decide) (cok1 trivial) ?_
              refine dv (gyes_none rfl) (q_as (v := .bool true) rfl) rfl (by decide) (cok1 trivial) ?_
              refine ⟨_, Wk.refl _ _, ?_⟩
              show awp _ _ _ _ _ _ _
              refine awp_seq ?_
              refine awp_regs hF ?_
              refine dv (gyes_none rfl) (q_mv (v := .bool true) rfl) rfl (by decide) (cok1 trivial) ?_
              refine dv (gyes_none rfl) (q_not (b := true) rfl) rfl (by decide) (cok1 trivial) ?_
              refine dv (gyes_none rfl) (q_mv (v := .bool false) rfl) rfl (by decide) (cok1 trivial) ?_
              refine dv (gyes_some rfl rfl) (q_mv (v := .bool false) rfl) rfl (by decide) (cok1 trivial) ?_
              refine dv (gyes_some rfl rfl) (q_not (b := false) rfl) rfl (by decide) (cok1 trivial) ?_
              refine dv (gyes_none rfl) (q_pf (v := .bool true) rfl rfl) rfl (by decide) (call_ok rfl) ?_
              refine ⟨_, Wk.refl _ _, ?_⟩
              show awp _ _ _ _ _ _ _
              refine awp_cond_t rfl ?_
              refine awp_seq ?_
              refine awp_regs hF ?_
              refine dv (gyes_none rfl) (OpQ.cast (v' := .bool false) (q_mv (v := .bool ((tabV S (hrL S) (l.take i) a2).2)) rfl) (congrArg Value.bool (by rw [(tabV_no (by first | exact .inl hgv | exact .inr hsp))]))) rfl (by decide) (cok1 trivial) ?_
              refine dv (gyes_none rfl) (q_not (b := false) rfl) rfl (by decide) (cok1 trivial) ?_
              refine dv (gyes_none rfl) (q_mv (v := .bool true) rfl) rfl (by decide) (cok1 trivial) ?_
              refine dv (gyes_some rfl rfl) (q_mv (v := .string ((tabV S (hrL S) (l.take i) a2).1)) rfl) rfl (by decide) (cok1 trivial) ?_
              refine dv (gyes_some rfl rfl) (OpQ.cast (v' := .bool true) (q_streq rfl rfl) (congrArg Value.bool (by rw [(tabV_no (by first | exact .inl hgv | exact .inr hsp))]; rfl))) rfl (by decide) (cok2 trivial (cconst rfl)) ?_
              refine dv (gyes_none rfl) (q_pt (v := .bool true) rfl rfl) rfl (by decide) (call_ok rfl) ?_
              refine dv (gyes_none rfl) (q_as (v := .bool true) rfl) rfl (by decide) (cok1 trivial) ?_
              refine ⟨_, Wk.refl _ _, ?_⟩
              show awp _ _ _ _ _ _ _
              refine awp_ret_wk ?_
              refine ⟨_, Wk.refl _ _, ?_⟩
              repeat (with_reducible first | refine then_ret ?_ | refine blk_ret ?_ | refine then_exit ?_ | refine blk_exit ?_ | refine blk_exit' (by decide) ?_ | refine blk_normal ?_ | refine then_normal ?_ | refine retq_ret ?_ | refine retq_normal ?_ | refine ng_normal ?_ | refine ng_ret ?_ | refine ng_exit ?_)
              exact ret_none (v := .bool true) rfl s154.kp (.tmp rfl .nil) rfl rfl ⟨rfl, rfl⟩
            ·
              have hgv : (getV (l.take i) 5).2 = false := c10
              refine dv (gyes_none rfl) (q_as (v := .int .u64 (((getV (l.take i) 5).1 : Nat) : Int)) rfl) rfl (by decide) (cok1 trivial) ?_
              refine dv (gyes_none rfl) (q_as (v := .bool false) rfl) rfl (by decide) (cok1 trivial) ?_
              refine ⟨_, Wk.refl _ _, ?_⟩
              show awp _ _ _ _ _ _ _
              refine awp_seq ?_
              refine awp_regs hF ?_
              refine dv (gyes_none rfl) (q_mv (v := .bool false) rfl) rfl (by decide) (cok1 trivial) ?_
              refine dv (gyes_none rfl) (q_not (b := false) rfl) rfl (by decide) (cok1 trivial) ?_
              refine dv (gyes_none rfl) (q_mv (v := .bool true) rfl) rfl (by decide) (cok1 trivial) ?_
              refine dno rfl (.inl rfl) rfl (by decide) ?_
              refine dno rfl (.inl rfl) rfl (by decide) ?_
              refine dv (gyes_none rfl) (q_pt (v := .bool true) rfl rfl) rfl (by decide) (call_ok rfl) ?_
              refine ⟨_, Wk.refl _ _, ?_⟩
              show awp _ _ _ _ _ _ _
              refine awp_cond_t rfl ?_
              refine awp_seq ?_
              refine awp_regs hF ?_
              refine dv (gyes_none rfl) (OpQ.cast (v' := .bool false) (q_mv (v := .bool ((tabV S (hrL S) (l.take i) a2).2)) rfl) (congrArg Value.bool (by rw [(tabV_no (by first | exact .inl hgv | exact .inr hsp))]))) rfl (by decide) (cok1 trivial) ?_
              refine dv (gyes_none rfl) (q_not (b := false) rfl) rfl (by decide) (cok1 trivial) ?_
              refine dv (gyes_none rfl) (q_mv (v := .bool true) rfl) rfl (by decide) (cok1 trivial) ?_
              refine dv (gyes_some rfl rfl) (q_mv (v := .string ((tabV S (hrL S) (l.take i) a2).1)) rfl) rfl (by decide) (cok1 trivial) ?_
              refine dv (gyes_some rfl rfl) (OpQ.cast (v' := .bool true) (q_streq rfl rfl) (congrArg Value.bool (by rw [(tabV_no (by first | exact .inl hgv | exact .inr hsp))]; rfl))) rfl (by decide) (cok2 trivial (cconst rfl)) ?_
              refine dv (gyes_none rfl) (q_pt (v := .bool true) rfl rfl) rfl (by decide) (call_ok rfl) ?_
              refine dv (gyes_none rfl) (q_as (v := .bool true) rfl) rfl (by decide) (cok1 trivial) ?_
              refine ⟨_, Wk.refl _ _, ?_⟩
              show awp _ _ _ _ _ _ _
              refine awp_ret_wk ?_
              refine ⟨_, Wk.refl _ _, ?_⟩
              repeat (with_reducible first | refine then_ret ?_ | refine blk_ret ?_ | refine then_exit ?_ | refine blk_exit ?_ | refine blk_exit' (by decide) ?_ | refine blk_normal ?_ | refine then_normal ?_ | refine retq_ret ?_ | refine retq_normal ?_ | refine ng_normal ?_ | refine ng_ret ?_ | refine ng_exit ?_)
              exact ret_none (v := .bool true) rfl s154.kp (.tmp rfl .nil) rfl rfl ⟨rfl, rfl⟩

end Go.Proofs.YthfndghgfabbjaaA

