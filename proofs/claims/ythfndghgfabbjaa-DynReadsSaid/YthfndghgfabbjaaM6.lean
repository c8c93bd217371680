/-
  Walks over abstract states: texts of one claim, merged.
-/
import Derived.Test.YthfndghgfabbjaaM5
import Derived.Test.YthfndghgfabbjaaProg
import Derived.KernelRfl
import Derived.ChangeSlices
import Derived.SliceStrings
import Derived.WideShapes
import Derived.SizedLaws
import Derived.OpenShut
import Derived.Deep.Slices
/-
  Walks of functions of the given program, and what they compute.
-/
namespace Go.Proofs.YthfndghgfabbjaaA
set_option linter.unusedVariables false
open Go Go.RowKit Go.Shelf Go.Proofs
def packE (l : List DEnt) : Nat → ByteArray
  | 0 => ⟨#[]⟩
  | k + 1 => packE l k ++ (putB (nth l k).1 8 ++ putB (nth l k).2 8)
theorem packE_size (l : List DEnt) : ∀ k, (packE l k).size = 16 * k
  | 0 => rfl
  | k + 1 => by rw [packE, size_append, size_append, packE_size l k, putB_size, putB_size]; omega
def packT (l : List DEnt) : ByteArray := packE l l.length ++ zerosB 16
theorem packT_size (l : List DEnt) : (packT l).size = 16 * l.length + 16 := by unfold packT; rw [size_append, packE_size, zerosB_size]
def fileL (t b : ByteArray) : List Sg := [(1, 6, 176, 0, t.size + b.size, t.size + b.size + 100), (2, 0, 176 + t.size, t.size, b.size, b.size)]
def cut2 (t : ByteArray) : ByteArray := t.extract 0 (min t.size 200)
def fileB (t b : ByteArray) : ByteArray := packB 0 (fileL (cut2 t) b) [cut2 t, b]
theorem cut2_size (t : ByteArray) : (cut2 t).size ≤ 200 := by unfold cut2; rw [size_extract (by omega)]; omega
theorem fileL_w (t b : ByteArray) (ht : t.size ≤ 200) (hb : b.size ≤ 100000) : ∀ x ∈ fileL t b, SgW x := fun x hx => by
  rcases List.mem_cons.1 hx with rfl | hx
  · unfold SgW; dsimp only; omega
  · rcases List.mem_cons.1 hx with rfl | hx
    · unfold SgW; dsimp only; omega
    · cases hx
theorem fileB_size (t b : ByteArray) (hb : b.size ≤ 100000) : (fileB t b).size ≤ 1000000 := by
  have h := packD_size 0 (fileL (cut2 t) b) [cut2 t, b] (m := 100000) (fun x hx => by
    have := cut2_size t
    rcases List.mem_cons.1 hx with rfl | hx
    · omega
    · rcases List.mem_cons.1 hx with rfl | hx
      · exact hb
      · cases hx) 2 (Nat.le_refl _)
  unfold fileB packB
  show (packD 0 (fileL (cut2 t) b) [cut2 t, b] 2).size ≤ _
  have h2 : (fileL (cut2 t) b).length = 2 := rfl
  rw [h2] at h
  omega
set_option maxRecDepth 100000 in
set_option maxHeartbeats 4000000 in
theorem packT_ok {H0 : AHeap} (vT : Value) (e : List DEnt) (hT : SlS entc 2 H0 vT e) (hl : e.length ≤ 1000000) (hew : ∀ x ∈ e, EntW x) : ACalls Try.prog 8 [vT] H0 (Rets (.string (packT e)) H0) := by
  have hF : Wd Fence.wide := .inl rfl
  have hM : Try.prog.follows .mixedOrders = true := by kernel_rfl
  have s0 := St.begin H0
  refine acalls_st Try.func8 rfl Try.ntmps8 rfl ?_
  refine awp_seq ?_
  refine awp_regs hF ?_
  refine dv (gyes_none rfl) (q_as (v := .string (⟨#[]⟩ : ByteArray)) rfl) rfl (by decide) (cok1 (cconst rfl)) ?_
  refine ⟨_, Wk.refl _ _, ?_⟩
  show awp _ _ _ _ _ _ _
  refine awp_seq ?_
  refine awp_regs hF ?_
  refine dv (gyes_none rfl) (q_as (v := .string (⟨#[]⟩ : ByteArray)) rfl) rfl (by decide) (cok1 (cconst rfl)) ?_
  refine ⟨_, Wk.refl _ _, ?_⟩
  show awp _ _ _ _ _ _ _
  refine awp_seq ?_
  refine awp_seq ?_
  refine awp_regs hF ?_
  refine dv (gyes_none rfl) (q_as (v := .int .i64 0) rfl) rfl (by decide) (cok1 (cconst rfl)) ?_
  refine ⟨_, Wk.refl _ _, ?_⟩
  show awp _ _ _ _ _ _ _
  refine awp_block ?_
  refine awp_wk (Wk.U [(0, vT), (3, .string (⟨#[]⟩ : ByteArray)), (4, .int .i64 0)] ⟨rfl, rfl, rfl, trivial⟩) ?_
  refine awp_loop (fun ((i, o) : Nat × ByteArray) st => ∃ (H1 : AHeap), st = ⟨30, U [(0, vT), (3, .string o), (4, .int .i64 ((i : Nat) : Int))], [], H1⟩ ∧ St H0 (none0) (Rd H0) H1 [] ∧ (o = packE e i ∧ i ≤ e.length)) (fun ((i, o) : Nat × ByteArray) => e.length - i) (x0 := (0, (⟨#[]⟩ : ByteArray))) ?h0 ?round
  case h0 =>
    exact ⟨_, rfl, s0, ⟨rfl, Nat.zero_le _⟩⟩
  case round =>
    rintro ⟨i, o⟩ _ ⟨H1, rfl, s2, ho⟩
    dsimp only at *
    have hos : o.size = 16 * i := by rw [ho.1, packE_size]
    refine awp_seq ?_
    refine awp_seq ?_
    refine awp_regs hF ?_
    refine dv (gyes_none rfl) (q_mv (v := .int .i64 ((i : Nat) : Int)) rfl) rfl (by decide) (cok1 trivial) ?_
    refine dv (gyes_none rfl) (q_mv (v := vT) rfl) rfl (by decide) (cok1 trivial) ?_
    refine dv (gyes_none rfl) (q_len_sls (l := e) Try.underlying24 (s2.sls hT) rfl) rfl (by decide) (cok1 trivial) ?_
    refine dvb (gyes_none rfl) (q_int rfl rfl rfl) rfl (by decide) (cok2 trivial trivial) (fun c1 => ?_) (fun c1 => ?_)
    ·
      replace c1 := of_decide_eq_true c1
      obtain ⟨q1, q2⟩ := hew _ (nthN_mem (l := e) (k := i) (by omega))
      refine ⟨_, Wk.refl _ _, ?_⟩
      show awp _ _ _ _ _ _ _
      refine awp_cond_t rfl ?_
      refine awp_skip_wk ?_
      refine ⟨_, Wk.refl _ _, ?_⟩
      show awp _ _ _ _ _ _ _
      refine awp_seq ?_
      refine awp_block ?_
      refine awp_regt hF hM (by kernel_rfl) (by kernel_rfl) ?_
      refine dv (gyes_none rfl) (q_mv (v := .string o) rfl) rfl (by decide) (cok1 trivial) ?_
      refine dv (gyes_none rfl) (q_mv (v := vT) rfl) rfl (by decide) (cok1 trivial) ?_
      refine dv (gyes_none rfl) (q_mv (v := .int .i64 ((i : Nat) : Int)) rfl) rfl (by decide) (cok1 trivial) ?_
      refine dv (gyes_none rfl) (q_index_sls (l := e) (i := i) Try.underlying24 Try.sizeOf27 (s2.sls hT) entc_w rfl rfl (by omega)) rfl (by decide) (cok2 trivial trivial) ?_
      refine dv (gyes_none rfl) (q_field_sls (l := e) (i := i) Try.underlying27 rfl Try.sizeOf25 (s2.sls hT) entc_w rfl (by omega)) rfl (by decide) (cok1 trivial) ?_
      refine dv (gyes_none rfl) (q_load_sls0 (l := e) (i := i) (u := .int .u64 (((nth e i).1 : Nat) : Int)) Try.isAgg25 (s2.sls hT) entc_w rfl (by omega) (by decide) rfl) rfl (by decide) (cok1 trivial) ?_
      refine dv (gyes_none rfl) (q_call0 Try.call24 rfl (rput_ok ((nth e i).1) 8 (by omega) (by omega))) rfl (by decide) (call_ok rfl) ?_
      refine dv (gyes_none rfl) (q_mv (v := vT) rfl) rfl (by decide) (cok1 trivial) ?_
      refine dv (gyes_none rfl) (q_mv (v := .int .i64 ((i : Nat) : Int)) rfl) rfl (by decide) (cok1 trivial) ?_
      refine dv (gyes_none rfl) (q_index_sls (l := e) (i := i) Try.underlying24 Try.sizeOf27 (s2.sls hT) entc_w rfl rfl (by omega)) rfl (by decide) (cok2 trivial trivial) ?_
      refine dv (gyes_none rfl) (q_field_sls (l := e) (i := i) Try.underlying27 rfl Try.sizeOf25 (s2.sls hT) entc_w rfl (by omega)) rfl (by decide) (cok1 trivial) ?_
      refine dv (gyes_none rfl) (q_load_sls (l := e) (i := i) (u := .int .u64 (((nth e i).2 : Nat) : Int)) Try.isAgg25 (s2.sls hT) entc_w rfl (by omega) (by decide) rfl) rfl (by decide) (cok1 trivial) ?_
      refine dv (gyes_none rfl) (q_call0 Try.call24 rfl (rput_ok ((nth e i).2) 8 (by omega) (by omega))) rfl (by decide) (call_ok rfl) ?_
      refine dv (gyes_none rfl) (q_cat rfl rfl (by simp only [size_append, putB_size, zerosB_size]; omega)) rfl (by decide) (cok2 trivial trivial) ?_
      refine dv (gyes_none rfl) (q_cat rfl rfl (by simp only [size_append, putB_size, zerosB_size]; omega)) rfl (by decide) (cok2 trivial trivial) ?_
      refine dv (gyes_none rfl) (q_as (v := .string (o ++ ((putB ((nth e i).1) 8) ++ (putB ((nth e i).2) 8)))) rfl) rfl (by decide) (cok1 trivial) ?_
      refine ⟨_, Wk.refl _ _, ?_⟩
      show awp _ _ _ _ _ _ _
      refine awp_regs hF ?_
      refine dv (gyes_none rfl) (q_mv (v := .int .i64 ((i : Nat) : Int)) rfl) rfl (by decide) (cok1 trivial) ?_
      refine dv (gyes_none rfl) (OpQ.cast (v' := .int .i64 ((i + 1 : Nat) : Int)) (q_int rfl rfl rfl) (congrArg _ ((i64_in (by omega)).trans (by first | rfl | omega | (push_cast; rfl))))) rfl (by decide) (cok2 trivial (cconst rfl)) ?_
      refine dv (gyes_none rfl) (q_as (v := .int .i64 ((i + 1 : Nat) : Int)) rfl) rfl (by decide) (cok1 trivial) ?_
      refine ⟨_, Wk.U [(0, vT), (3, .string (o ++ ((putB ((nth e i).1) 8) ++ (putB ((nth e i).2) 8)))), (4, .int .i64 (((i + 1) : Nat) : Int))] ⟨rfl, rfl, rfl, trivial⟩, ((i + 1), (o ++ ((putB ((nth e i).1) 8) ++ (putB ((nth e i).2) 8)))), ⟨_, rfl, s2, ⟨by rw [ho.1]; rfl, by omega⟩⟩, (by omega)⟩
    ·
      replace c1 := of_decide_eq_false c1
      refine ⟨_, Wk.refl _ _, ?_⟩
      show awp _ _ _ _ _ _ _
      refine awp_cond_f rfl ?_
      refine awp_exit_wk ?_
      refine ⟨_, Wk.refl _ _, ?_⟩
      show awp _ _ _ _ _ _ _
      refine awp_seq ?_
      refine awp_regs hF ?_
      refine dv (gyes_none rfl) (q_mv (v := .string o) rfl) rfl (by decide) (cok1 trivial) ?_
      refine x_new (fun b => .slice (some ⟨b, 0, none⟩) 16 16) s2 (gyes_none rfl) (q_makeSlice1 (len := 16) (m := 16) rfl Try.underlying65 Try.typeInfo5 rfl Try.zeroValue5 rfl rfl rfl rfl (by omega) (by omega) (by show 1 * _ ≤ _; omega) (vs := (List.replicate 16 (0 : UInt8)).map bytv) (by simp [bytv])) rfl (by decide) (cok2 (cconst rfl) (cconst rfl)) (fun b3 H4 hb6 s5 => ?_)
      refine dv (gyes_none rfl) (OpQ.cast (v' := .string (zerosB 16)) (q_bytesl (l := List.replicate 16 (0 : UInt8)) Try.underlying65 Try.underlying9 Try.underlying5 rfl (s5.rd (j := 0) rfl) rfl) rfl) rfl (by decide) (cok1 trivial) ?_
      refine dv (gyes_none rfl) (q_cat rfl rfl (by simp only [size_append, putB_size, zerosB_size]; omega)) rfl (by decide) (cok2 trivial trivial) ?_
      refine dv (gyes_none rfl) (q_as (v := .string (o ++ (zerosB 16))) rfl) rfl (by decide) (cok1 trivial) ?_
      refine ⟨_, Wk.refl _ _, ?_⟩
      show awp _ _ _ _ _ _ _
      refine awp_ret_wk ?_
      refine ⟨_, Wk.refl _ _, ?_⟩
      repeat (with_reducible first | refine then_ret ?_ | refine blk_ret ?_ | refine then_exit ?_ | refine blk_exit ?_ | refine blk_exit' (by decide) ?_ | refine blk_normal ?_ | refine then_normal ?_ | refine retq_ret ?_ | refine retq_normal ?_ | refine ng_normal ?_ | refine ng_ret ?_ | refine ng_exit ?_)
      exact ret_none (v := .string (o ++ (zerosB 16))) rfl s5.kp (.tmp rfl .nil) rfl rfl ⟨by rw [packT, ho.1, show i = e.length by omega], rfl⟩
set_option maxRecDepth 100000 in
set_option maxHeartbeats 4000000 in
theorem file_ok {H0 : AHeap} (t b : ByteArray) (ht : t.size ≤ 140737488355328) (hb : b.size ≤ 100000) : ACalls Try.prog 9 [.string t, .string b] H0 (Rets (.string (fileB t b)) H0) := by
  have hF : Wd Fence.wide := .inl rfl
  have hM : Try.prog.follows .mixedOrders = true := by kernel_rfl
  have hc2 := cut2_size t
  have s0 := St.begin H0
  refine acalls_st Try.func9 rfl Try.ntmps9 rfl ?_
  refine awp_seq ?_
  refine awp_regs hF ?_
  refine dv (gyes_none rfl) (q_as (v := .string (⟨#[]⟩ : ByteArray)) rfl) rfl (by decide) (cok1 (cconst rfl)) ?_
  refine ⟨_, Wk.refl _ _, ?_⟩
  show awp _ _ _ _ _ _ _
  refine awp_seq ?_
  refine awp_regs hF ?_
  refine dv (gyes_none rfl) (q_mv (v := .string t) rfl) rfl (by decide) (cok1 trivial) ?_
  refine dv (gyes_none rfl) (q_mv (v := .string t) rfl) rfl (by decide) (cok1 trivial) ?_
  refine dv (gyes_none rfl) (q_len_str Try.underlying9 rfl) rfl (by decide) (cok1 trivial) ?_
  refine dv (gyes_none rfl) (OpQ.cast (v' := .int .i64 ((min t.size 200 : Nat) : Int)) (q_min rfl rfl) (by congr 1; split <;> omega)) rfl (by decide) (cok2 trivial (cconst rfl)) ?_
  refine dv (gyes_none rfl) (OpQ.cast (v' := .string (cut2 t)) (q_substr (i := 0) (j := min t.size 200) Try.underlying9 rfl rfl ⟨_, rfl⟩ (by omega) (by omega)) rfl) rfl (by decide) (cok2 trivial trivial) ?_
  refine dv (gyes_none rfl) (q_as (v := .string (cut2 t)) rfl) rfl (by decide) (cok1 trivial) ?_
  refine ⟨_, Wk.refl _ _, ?_⟩
  show awp _ _ _ _ _ _ _
  refine awp_seq ?_
  refine awp_regs hF ?_
  refine dv (gyes_none rfl) (q_mv (v := .string (cut2 t)) rfl) rfl (by decide) (cok1 trivial) ?_
  refine dv (gyes_none rfl) (q_len_str Try.underlying9 rfl) rfl (by decide) (cok1 trivial) ?_
  refine dv (gyes_none rfl) (q_mv (v := .string b) rfl) rfl (by decide) (cok1 trivial) ?_
  refine dv (gyes_none rfl) (q_len_str Try.underlying9 rfl) rfl (by decide) (cok1 trivial) ?_
  refine dv (gyes_none rfl) (OpQ.cast (v' := .int .i64 (((cut2 t).size + b.size : Nat) : Int)) (q_int rfl rfl rfl) (congrArg _ ((i64_in (by omega)).trans (by first | rfl | omega | (push_cast; rfl))))) rfl (by decide) (cok2 trivial trivial) ?_
  refine dv (gyes_none rfl) (q_convin (a := (((cut2 t).size + b.size : Nat) : Int)) Try.underlying3 Try.underlying25 rfl (u64_in (by omega))) rfl (by decide) (cok1 trivial) ?_
  refine dv (gyes_none rfl) (q_as (v := .int .u64 (((cut2 t).size + b.size : Nat) : Int)) rfl) rfl (by decide) (cok1 trivial) ?_
  refine ⟨_, Wk.refl _ _, ?_⟩
  show awp _ _ _ _ _ _ _
  refine awp_seq ?_
  refine awp_regs hF ?_
  refine dv (gyes_none rfl) (q_mv (v := .int .u64 (((cut2 t).size + b.size : Nat) : Int)) rfl) rfl (by decide) (cok1 trivial) ?_
  refine dv (gyes_none rfl) (q_mv (v := .int .u64 (((cut2 t).size + b.size : Nat) : Int)) rfl) rfl (by decide) (cok1 trivial) ?_
  refine dv (gyes_none rfl) (OpQ.cast (v' := .int .u64 (((cut2 t).size + b.size + 100 : Nat) : Int)) (q_int rfl rfl rfl) (congrArg _ ((u64_in (by omega)).trans (by first | rfl | omega | (push_cast; rfl))))) rfl (by decide) (cok2 trivial (cconst rfl)) ?_
  refine dv (gyes_none rfl) (q_buildL (ds := [.int .u64 1, .int .u64 6, .int .u64 176, .int .u64 0, .int .u64 (((cut2 t).size + b.size : Nat) : Int), .int .u64 (((cut2 t).size + b.size + 100 : Nat) : Int)]) [(0, 1), (1, 1), (2, 1), (3, 1), (4, 1), (5, 1)] [.int .u64 1, .int .u64 6, .int .u64 176, .int .u64 (((cut2 t).size + b.size : Nat) : Int), .int .u64 (((cut2 t).size + b.size + 100 : Nat) : Int)] Try.underlying67 Try.zeroValue67 (by first | exact flat_agg rfl | exact flat_scalar rfl) (by kernel_rfl) ⟨rfl, rfl, rfl, rfl, rfl, trivial⟩ (lvsC (by exact trivial) (lvsC (by exact trivial) (lvsC (by exact trivial) (lvsC (by exact trivial) (lvsC (by exact trivial) lvs0))))) rfl) rfl (by decide) (call_ok rfl) ?_
  refine dv (gyes_none rfl) (q_mv (v := .string (cut2 t)) rfl) rfl (by decide) (cok1 trivial) ?_
  refine dv (gyes_none rfl) (q_len_str Try.underlying9 rfl) rfl (by decide) (cok1 trivial) ?_
  refine dv (gyes_none rfl) (q_convin (a := (((cut2 t).size : Nat) : Int)) Try.underlying3 Try.underlying25 rfl (u64_in (by omega))) rfl (by decide) (cok1 trivial) ?_
  refine dv (gyes_none rfl) (OpQ.cast (v' := .int .u64 ((176 + ((cut2 t).size) : Nat) : Int)) (q_int rfl rfl rfl) (congrArg _ ((u64_in (by omega)).trans (by first | rfl | omega | (push_cast; rfl))))) rfl (by decide) (cok2 (cconst rfl) trivial) ?_
  refine dv (gyes_none rfl) (q_mv (v := .string (cut2 t)) rfl) rfl (by decide) (cok1 trivial) ?_
  refine dv (gyes_none rfl) (q_len_str Try.underlying9 rfl) rfl (by decide) (cok1 trivial) ?_
  refine dv (gyes_none rfl) (q_convin (a := (((cut2 t).size : Nat) : Int)) Try.underlying3 Try.underlying25 rfl (u64_in (by omega))) rfl (by decide) (cok1 trivial) ?_
  refine dv (gyes_none rfl) (q_mv (v := .string b) rfl) rfl (by decide) (cok1 trivial) ?_
  refine dv (gyes_none rfl) (q_len_str Try.underlying9 rfl) rfl (by decide) (cok1 trivial) ?_
  refine dv (gyes_none rfl) (q_convin (a := ((b.size : Nat) : Int)) Try.underlying3 Try.underlying25 rfl (u64_in (by omega))) rfl (by decide) (cok1 trivial) ?_
  refine dv (gyes_none rfl) (q_mv (v := .string b) rfl) rfl (by decide) (cok1 trivial) ?_
  refine dv (gyes_none rfl) (q_len_str Try.underlying9 rfl) rfl (by decide) (cok1 trivial) ?_
  refine dv (gyes_none rfl) (q_convin (a := ((b.size : Nat) : Int)) Try.underlying3 Try.underlying25 rfl (u64_in (by omega))) rfl (by decide) (cok1 trivial) ?_
  refine dv (gyes_none rfl) (q_buildL (ds := [.int .u64 2, .int .u64 0, .int .u64 ((176 + ((cut2 t).size) : Nat) : Int), .int .u64 (((cut2 t).size : Nat) : Int), .int .u64 ((b.size : Nat) : Int), .int .u64 ((b.size : Nat) : Int)]) [(0, 1), (1, 1), (2, 1), (3, 1), (4, 1), (5, 1)] [.int .u64 2, .int .u64 ((176 + ((cut2 t).size) : Nat) : Int), .int .u64 (((cut2 t).size : Nat) : Int), .int .u64 ((b.size : Nat) : Int), .int .u64 ((b.size : Nat) : Int)] Try.underlying67 Try.zeroValue67 (by first | exact flat_agg rfl | exact flat_scalar rfl) (by kernel_rfl) ⟨rfl, rfl, rfl, rfl, rfl, trivial⟩ (lvsC (by exact trivial) (lvsC (by exact trivial) (lvsC (by exact trivial) (lvsC (by exact trivial) (lvsC (by exact trivial) lvs0))))) rfl) rfl (by decide) (call_ok rfl) ?_
  refine x_new (fun b => .slice (some ⟨b, 0, none⟩) 2 2) s0 (gyes_none rfl) (q_buildSliceL (ds := [.int .u64 1, .int .u64 6, .int .u64 176, .int .u64 0, .int .u64 (((cut2 t).size + b.size : Nat) : Int), .int .u64 (((cut2 t).size + b.size + 100 : Nat) : Int), .int .u64 2, .int .u64 0, .int .u64 ((176 + ((cut2 t).size) : Nat) : Int), .int .u64 (((cut2 t).size : Nat) : Int), .int .u64 ((b.size : Nat) : Int), .int .u64 ((b.size : Nat) : Int)]) [.agg #[.int .u64 1, .int .u64 6, .int .u64 176, .int .u64 0, .int .u64 (((cut2 t).size + b.size : Nat) : Int), .int .u64 (((cut2 t).size + b.size + 100 : Nat) : Int)], .agg #[.int .u64 2, .int .u64 0, .int .u64 ((176 + ((cut2 t).size) : Nat) : Int), .int .u64 (((cut2 t).size : Nat) : Int), .int .u64 ((b.size : Nat) : Int), .int .u64 ((b.size : Nat) : Int)]] rfl Try.underlying39 Try.sizeOf67 Try.zeroValue67 rfl (by decide) (by decide) ⟨rfl, rfl, trivial⟩ (lvsC (by exact trivial) (lvsC (by exact trivial) lvs0)) rfl rfl) rfl (by decide) (cok2 trivial trivial) (fun b1 H2 hb4 s3 => ?_)
  refine dv (gyes_none rfl) (q_as (v := .slice (some ⟨b1, 0, none⟩) 2 2) rfl) rfl (by decide) (cok1 trivial) ?_
  refine ⟨_, Wk.refl _ _, ?_⟩
  show awp _ _ _ _ _ _ _
  refine awp_seq ?_
  refine awp_regs hF ?_
  refine dv (gyes_none rfl) (q_mv (v := .slice (some ⟨b1, 0, none⟩) 2 2) rfl) rfl (by decide) (cok1 trivial) ?_
  refine dv (gyes_none rfl) (q_mv (v := .string (cut2 t)) rfl) rfl (by decide) (cok1 trivial) ?_
  refine dv (gyes_none rfl) (q_mv (v := .string b) rfl) rfl (by decide) (cok1 trivial) ?_
  refine x_new (fun b => .slice (some ⟨b, 0, none⟩) 2 2) s3 (gyes_none rfl) (q_buildSliceL (ds := [.string (cut2 t), .string b]) [.string (cut2 t), .string b] rfl Try.underlying69 Try.sizeOf9 Try.zeroValue9 rfl (by decide) (by decide) ⟨rfl, rfl, trivial⟩ (lvsC (by exact trivial) (lvsC (by exact trivial) lvs0)) rfl rfl) rfl (by decide) (cok2 trivial trivial) (fun b5 H6 hb8 s7 => ?_)
  refine dv (gyes_none rfl) (q_call0 Try.call25 rfl (pack_ok 0 (by decide) _ _ (fileL (cut2 t) b) [cut2 t, b] (s7.slsj (l := fileL (cut2 t) b) segr_w (j := 1) rfl rfl (Nat.le_refl _)) (s7.slj (l := [cut2 t, b]) (f := strv) (j := 0) rfl rfl (Nat.le_refl _)) (by show 2 ≤ _; decide) (by show 2 ≤ _; decide) (fileL_w _ _ hc2 hb) (fun x hx => by
      rcases List.mem_cons.1 hx with rfl | hx
      · omega
      · rcases List.mem_cons.1 hx with rfl | hx
        · exact hb
        · cases hx))) rfl (by decide) (call_ok rfl) ?_
  refine dv (gyes_none rfl) (q_as (v := .string (fileB t b)) rfl) rfl (by decide) (cok1 trivial) ?_
  refine ⟨_, Wk.refl _ _, ?_⟩
  show awp _ _ _ _ _ _ _
  refine awp_ret_wk ?_
  refine ⟨_, Wk.refl _ _, ?_⟩
  repeat (with_reducible first | refine then_ret ?_ | refine blk_ret ?_ | refine then_exit ?_ | refine blk_exit ?_ | refine blk_exit' (by decide) ?_ | refine blk_normal ?_ | refine then_normal ?_ | refine retq_ret ?_ | refine retq_normal ?_ | refine ng_normal ?_ | refine ng_ret ?_ | refine ng_exit ?_)
  exact ret_none (v := .string (fileB t b)) rfl s7.kp (.tmp rfl .nil) rfl rfl ⟨rfl, rfl⟩

end Go.Proofs.YthfndghgfabbjaaA


/-
  Walks of functions of the given program, and what they compute.
-/
namespace Go.Proofs.YthfndghgfabbjaaA
set_option linter.unusedVariables false
open Go Go.RowKit Go.Shelf Go.Proofs
def speaks_unit : Unit := ()
def spE : List DEnt := [(1, 1), (5, 0), (10, 4)]
def spT : ByteArray := packT spE
def spS : ByteArray := fileB ⟨#[0, 97, 98, 0]⟩ spT
def spL : List Sg := hrL spS
theorem sp_C : hrC spS = 0 := by decide +kernel
theorem sp_A : hrA spS = 0 := by decide +kernel
theorem sp_E : hrE spS = 0 := by decide +kernel
theorem sp_B : hrB spS = spS := if_pos sp_C
theorem sp_n : spS.size ≤ 1000 := by decide +kernel
theorem sp_b : spT.size ≤ 1000 := by decide +kernel
theorem sp_dC : drC spS spL = 0 := by decide +kernel
theorem sp_dA : drA spS spL = 0 := by decide +kernel
theorem sp_dL : drL spS spL = spE := by decide +kernel
theorem sp_get : getV spE 1 = (1, true) := by decide +kernel
theorem sp_tab : tabV spS spL spE 1 = (⟨#[97, 98]⟩, true) := by decide +kernel
theorem sp_w : ∀ x ∈ spE, EntW x := fun x hx => by
  rcases List.mem_cons.1 hx with rfl | hx
  · unfold EntW; decide
  rcases List.mem_cons.1 hx with rfl | hx
  · unfold EntW; decide
  rcases List.mem_cons.1 hx with rfl | hx
  · unfold EntW; decide
  cases hx
theorem hrL_sgb {s : ByteArray} : ∀ x ∈ hrL s, SgB x := fun x hx => (hrL_b x hx).2.2
theorem spRead {H0 : AHeap} : ACalls Try.prog 10 [.string spS] H0 (fun v H' => ∃ vL, v = .tuple #[.agg #[.string spS, .int .u64 0, vL], .agg #[.int .i64 0, .int .u64 0, .string ⟨#[]⟩]] ∧ FreshS segc 6 spL H0 vL H') := by
  have h := read_ok (H0 := H0) spS (Nat.le_trans sp_n (by decide))
  rw [sp_B, sp_E, sp_C, sp_A] at h
  exact h
theorem spD {H0 : AHeap} {vL : Value} (hL : SlS segc 6 H0 vL spL) : ACalls Try.prog 12 [.agg #[.string spS, .int .u64 0, vL]] H0 (fun v H' => ∃ vT, v = .tuple #[vT, .agg #[.int .i64 0, .int .u64 0, .string ⟨#[]⟩]] ∧ FreshS entc 2 spE H0 vT H') := by
  have h := dread_ok (H0 := H0) spS 0 vL spL (Nat.le_trans sp_n (by decide)) hL (Nat.le_trans hrL_len (by decide)) hrL_low hrL_in hrL_sgb
  rw [sp_dC, sp_dA, sp_dL] at h
  exact h
set_option maxRecDepth 100000 in
set_option maxHeartbeats 4000000 in
theorem speaks_ok {H0 : AHeap}  : ACalls Try.prog 7 [] H0 (Rets (.bool true) H0) := by
  have hF : Wd Fence.wide := .inl rfl
  have hM : Try.prog.follows .mixedOrders = true := by kernel_rfl
  have s0 := St.begin H0
  refine acalls_st Try.func7 rfl Try.ntmps7 rfl ?_
  refine awp_seq ?_
  refine awp_regs hF ?_
  refine dv (gyes_none rfl) (q_as (v := .bool false) rfl) rfl (by decide) (cok1 (cconst rfl)) ?_
  refine ⟨_, Wk.refl _ _, ?_⟩
  show awp _ _ _ _ _ _ _
  refine awp_seq ?_
  refine awp_regs hF ?_
  refine dv (gyes_none rfl) (q_buildL (ds := [.int .u64 1, .int .u64 1]) [(0, 1), (1, 1)] [.int .u64 1, .int .u64 1] Try.underlying27 Try.zeroValue27 (by first | exact flat_agg rfl | exact flat_scalar rfl) (by kernel_rfl) ⟨rfl, rfl, trivial⟩ (lvsC (by exact trivial) (lvsC (by exact trivial) lvs0)) rfl) rfl (by decide) (cok2 (cconst rfl) (cconst rfl)) ?_
  refine dv (gyes_none rfl) (q_buildL (ds := [.int .u64 5, .int .u64 0]) [(0, 1), (1, 1)] [.int .u64 5, .int .u64 0] Try.underlying27 Try.zeroValue27 (by first | exact flat_agg rfl | exact flat_scalar rfl) (by kernel_rfl) ⟨rfl, rfl, trivial⟩ (lvsC (by exact trivial) (lvsC (by exact trivial) lvs0)) rfl) rfl (by decide) (cok2 (cconst rfl) (cconst rfl)) ?_
  refine dv (gyes_none rfl) (q_buildL (ds := [.int .u64 10, .int .u64 4]) [(0, 1), (1, 1)] [.int .u64 10, .int .u64 4] Try.underlying27 Try.zeroValue27 (by first | exact flat_agg rfl | exact flat_scalar rfl) (by kernel_rfl) ⟨rfl, rfl, trivial⟩ (lvsC (by exact trivial) (lvsC (by exact trivial) lvs0)) rfl) rfl (by decide) (cok2 (cconst rfl) (cconst rfl)) ?_
  refine x_new (fun b => .slice (some ⟨b, 0, none⟩) 3 3) s0 (gyes_none rfl) (q_buildSliceL (ds := [.int .u64 1, .int .u64 1, .int .u64 5, .int .u64 0, .int .u64 10, .int .u64 4]) [.agg #[.int .u64 1, .int .u64 1], .agg #[.int .u64 5, .int .u64 0], .agg #[.int .u64 10, .int .u64 4]] rfl Try.underlying24 Try.sizeOf27 Try.zeroValue27 rfl (by decide) (by decide) ⟨rfl, rfl, rfl, trivial⟩ (lvsC (by exact trivial) (lvsC (by exact trivial) (lvsC (by exact trivial) lvs0))) rfl rfl) rfl (by decide) (call_ok rfl) (fun b1 H2 hb4 s3 => ?_)
  refine dv (gyes_none rfl) (q_call0 Try.call8 rfl (packT_ok _ spE (s3.slsj (l := spE) entc_w (j := 0) rfl rfl (Nat.le_refl _)) (by decide) sp_w)) rfl (by decide) (cok2 trivial trivial) ?_
  refine dv (gyes_none rfl) (q_call0 Try.call9 rfl (file_ok ⟨#[0, 97, 98, 0]⟩ spT (by decide) (Nat.le_trans sp_b (by decide)))) rfl (by decide) (call_ok rfl) ?_
  refine x_call [] hF (by kernel_rfl) (gyes_none rfl) Try.call10 rfl (args := [.string spS]) rfl (spRead) (show _ < _ by decide) (call_ok rfl) rfl rfl (fun _ _ _ _ hd => by cases hd) ?_
  rintro _ H6 ⟨_, rfl, hk7, b5, rfl, hb8, hg9⟩
  have s10 := s3.callN hk7 hb8 hg9
  refine ⟨trivial, ?_⟩
  show dList _ _ _ _ _ _ _ _ _ _
  refine dv (gyes_none rfl) (q_mv (v := .tuple #[.agg #[.string spS, .int .u64 0, .slice (some ⟨b5, 0, none⟩) spL.length spL.length], .agg #[.int .i64 0, .int .u64 0, .string (⟨#[]⟩ : ByteArray)]]) rfl) rfl (by decide) (cok1 trivial) ?_
  refine dv (gyes_none rfl) (q_extract (v := .agg #[.string spS, .int .u64 0, .slice (some ⟨b5, 0, none⟩) spL.length spL.length]) rfl rfl) rfl (by decide) (cok1 trivial) ?_
  refine dv (gyes_none rfl) (q_extract (v := .agg #[.int .i64 0, .int .u64 0, .string (⟨#[]⟩ : ByteArray)]) rfl rfl) rfl (by decide) (cok1 trivial) ?_
  refine x_new (fun b => .pointer (some ⟨b, 0, none⟩)) s10 (gyes_none rfl) (q_alloc (vs := [.string ⟨#[]⟩, .int .u64 0, .slice none 0 0]) 3 Try.zeroValue33 (by first | exact flat_scalar rfl | exact flat_agg rfl) rfl) rfl (by decide) (by simp [Op.operands, Call.operands]) (fun b11 H12 hb14 s13 => ?_)
  refine x_new (fun b => .pointer (some ⟨b, 0, none⟩)) s13 (gyes_none rfl) (q_alloc (vs := [.int .i64 0, .int .u64 0, .string ⟨#[]⟩]) 3 Try.zeroValue36 (by first | exact flat_scalar rfl | exact flat_agg rfl) rfl) rfl (by decide) (by simp [Op.operands, Call.operands]) (fun b15 H16 hb18 s17 => ?_)
  refine x_store [] hF s17 (by kernel_rfl) (gyes_none rfl) (j := 1) (v := .agg #[.string spS, .int .u64 0, .slice (some ⟨b5, 0, none⟩) spL.length spL.length]) rfl Try.sizeOf33 rfl rfl rfl rfl rfl trivial (lcsA ⟨(lc_scalar rfl), (lc_scalar rfl), (lc_slice (s17.live (j := 2) rfl)), trivial⟩) (Nat.le_of_ble_eq_true rfl) trivial trivial rfl rfl (F' := [(b15, .cells true [.int .i64 0, .int .u64 0, .string ⟨#[]⟩] 3), (b11, .cells true [.string spS, .int .u64 0, .slice (some ⟨b5, 0, none⟩) spL.length spL.length] 3), (b5, .cells true (fl segc spL) 6), (b1, .cells true [.int .u64 1, .int .u64 1, .int .u64 5, .int .u64 0, .int .u64 10, .int .u64 4] 2)]) rfl (fun H19 s20 => ⟨?_, ?_⟩)
  · exact trivial
  refine x_store [] hF s20 (by kernel_rfl) (gyes_none rfl) (j := 0) (v := .agg #[.int .i64 0, .int .u64 0, .string (⟨#[]⟩ : ByteArray)]) rfl Try.sizeOf36 rfl rfl rfl rfl rfl trivial (lcsA ⟨(lc_scalar rfl), (lc_scalar rfl), (lc_scalar rfl), trivial⟩) (Nat.le_of_ble_eq_true rfl) trivial trivial rfl rfl (F' := [(b15, .cells true [.int .i64 0, .int .u64 0, .string (⟨#[]⟩ : ByteArray)] 3), (b11, .cells true [.string spS, .int .u64 0, .slice (some ⟨b5, 0, none⟩) spL.length spL.length] 3), (b5, .cells true (fl segc spL) 6), (b1, .cells true [.int .u64 1, .int .u64 1, .int .u64 5, .int .u64 0, .int .u64 10, .int .u64 4] 2)]) rfl (fun H21 s22 => ⟨?_, ?_⟩)
  · exact trivial
  refine ⟨_, Wk.refl _ _, ?_⟩
  show awp _ _ _ _ _ _ _
  refine awp_seq ?_
  refine awp_regs hF ?_
  refine dv (gyes_none rfl) (q_loadAgg Try.isAgg33 Try.sizeOf33 rfl (s22.rd (j := 1) rfl) (Nat.le_of_ble_eq_true rfl) rfl) rfl (by decide) (cok1 trivial) ?_
  refine x_call [] hF (by kernel_rfl) (gyes_none rfl) Try.call12 rfl (args := [.agg #[.string spS, .int .u64 0, .slice (some ⟨b5, 0, none⟩) spL.length spL.length]]) rfl (spD (s22.slsj (l := spL) segc_w (j := 2) rfl rfl (Nat.le_refl _))) (show _ < _ by decide) (call_ok rfl) rfl rfl (fun _ _ _ _ hd => by cases hd) ?_
  rintro _ H24 ⟨_, rfl, hk25, b23, rfl, hb26, hg27⟩
  have s28 := s22.callN hk25 hb26 hg27
  refine ⟨trivial, ?_⟩
  show dList _ _ _ _ _ _ _ _ _ _
  refine dv (gyes_none rfl) (q_mv (v := .tuple #[.slice (some ⟨b23, 0, none⟩) spE.length spE.length, .agg #[.int .i64 0, .int .u64 0, .string (⟨#[]⟩ : ByteArray)]]) rfl) rfl (by decide) (cok1 trivial) ?_
  refine dv (gyes_none rfl) (q_extract (v := .slice (some ⟨b23, 0, none⟩) spE.length spE.length) rfl rfl) rfl (by decide) (cok1 trivial) ?_
  refine dv (gyes_none rfl) (q_extract (v := .agg #[.int .i64 0, .int .u64 0, .string (⟨#[]⟩ : ByteArray)]) rfl rfl) rfl (by decide) (cok1 trivial) ?_
  refine x_new (fun b => .pointer (some ⟨b, 0, none⟩)) s28 (gyes_none rfl) (q_alloc (vs := [.int .i64 0, .int .u64 0, .string ⟨#[]⟩]) 3 Try.zeroValue36 (by first | exact flat_scalar rfl | exact flat_agg rfl) rfl) rfl (by decide) (by simp [Op.operands, Call.operands]) (fun b29 H30 hb32 s31 => ?_)
  refine dv (gyes_none rfl) (q_as (v := .slice (some ⟨b23, 0, none⟩) spE.length spE.length) rfl) rfl (by decide) (cok1 trivial) ?_
  refine x_store [] hF s31 (by kernel_rfl) (gyes_none rfl) (j := 0) (v := .agg #[.int .i64 0, .int .u64 0, .string (⟨#[]⟩ : ByteArray)]) rfl Try.sizeOf36 rfl rfl rfl rfl rfl trivial (lcsA ⟨(lc_scalar rfl), (lc_scalar rfl), (lc_scalar rfl), trivial⟩) (Nat.le_of_ble_eq_true rfl) trivial trivial rfl rfl (F' := [(b29, .cells true [.int .i64 0, .int .u64 0, .string (⟨#[]⟩ : ByteArray)] 3), (b23, .cells true (fl entc spE) 2), (b15, .cells true [.int .i64 0, .int .u64 0, .string (⟨#[]⟩ : ByteArray)] 3), (b11, .cells true [.string spS, .int .u64 0, .slice (some ⟨b5, 0, none⟩) spL.length spL.length] 3), (b5, .cells true (fl segc spL) 6), (b1, .cells true [.int .u64 1, .int .u64 1, .int .u64 5, .int .u64 0, .int .u64 10, .int .u64 4] 2)]) rfl (fun H33 s34 => ⟨?_, ?_⟩)
  · exact trivial
  refine ⟨_, Wk.refl _ _, ?_⟩
  show awp _ _ _ _ _ _ _
  refine awp_seq ?_
  refine awp_regs hF ?_
  refine dv (gyes_none rfl) (q_mv (v := .slice (some ⟨b23, 0, none⟩) spE.length spE.length) rfl) rfl (by decide) (cok1 trivial) ?_
  refine dv (gyes_none rfl) (q_call0 Try.call14 rfl (ACalls.castV (v' := .tuple #[.int .u64 1, .bool true]) (get_t_ok 1 (by decide) _ spE (s34.slsj (l := spE) entc_w (j := 1) rfl rfl (Nat.le_refl _)) (by decide)) (by rw [sp_get]; rfl))) rfl (by decide) (call_ok rfl) ?_
  refine dv (gyes_none rfl) (q_mv (v := .tuple #[.int .u64 1, .bool true]) rfl) rfl (by decide) (cok1 trivial) ?_
  refine dv (gyes_none rfl) (q_extract (v := .int .u64 1) rfl rfl) rfl (by decide) (cok1 trivial) ?_
  refine dv (gyes_none rfl) (q_extract (v := .bool true) rfl rfl) rfl (by decide) (cok1 trivial) ?_
  refine dv (gyes_none rfl) (q_as (v := .int .u64 1) rfl) rfl (by decide) (cok1 trivial) ?_
  refine dv (gyes_none rfl) (q_as (v := .bool true) rfl) rfl (by decide) (cok1 trivial) ?_
  refine ⟨_, Wk.refl _ _, ?_⟩
  show awp _ _ _ _ _ _ _
  refine awp_seq ?_
  refine awp_regs hF ?_
  refine dv (gyes_none rfl) (q_mv (v := .slice (some ⟨b23, 0, none⟩) spE.length spE.length) rfl) rfl (by decide) (cok1 trivial) ?_
  refine dv (gyes_none rfl) (q_loadAgg Try.isAgg33 Try.sizeOf33 rfl (s34.rd (j := 3) rfl) (Nat.le_of_ble_eq_true rfl) rfl) rfl (by decide) (cok1 trivial) ?_
  refine dv (gyes_none rfl) (q_mv (v := .int .u64 1) rfl) rfl (by decide) (cok1 trivial) ?_
  refine dv (gyes_none rfl) (q_call0 Try.call21 rfl (ACalls.castV (v' := .tuple #[.string (⟨#[97, 98]⟩ : ByteArray), .bool true]) (tab_ok 1 (by decide) _ spE (s34.slsj (l := spE) entc_w (j := 1) rfl rfl (Nat.le_refl _)) (by decide) sp_w spS 0 _ spL (Nat.le_trans sp_n (by decide)) (s34.slsj (l := spL) segc_w (j := 4) rfl rfl (Nat.le_refl _)) (Nat.le_trans hrL_len (by decide)) hrL_low hrL_in) (by rw [sp_tab]))) rfl (by decide) (call_ok rfl) ?_
  refine dv (gyes_none rfl) (q_mv (v := .tuple #[.string (⟨#[97, 98]⟩ : ByteArray), .bool true]) rfl) rfl (by decide) (cok1 trivial) ?_
  refine dv (gyes_none rfl) (q_extract (v := .string (⟨#[97, 98]⟩ : ByteArray)) rfl rfl) rfl (by decide) (cok1 trivial) ?_
  refine dv (gyes_none rfl) (q_extract (v := .bool true) rfl rfl) rfl (by decide) (cok1 trivial) ?_
  refine dv (gyes_none rfl) (q_as (v := .string (⟨#[97, 98]⟩ : ByteArray)) rfl) rfl (by decide) (cok1 trivial) ?_
  refine dv (gyes_none rfl) (q_as (v := .bool true) rfl) rfl (by decide) (cok1 trivial) ?_
  refine ⟨_, Wk.refl _ _, ?_⟩
  show awp _ _ _ _ _ _ _
  refine awp_seq ?_
  refine awp_regs hF ?_
  refine dv (gyes_none rfl) (q_loadAgg Try.isAgg36 Try.sizeOf36 rfl (s34.rd (j := 2) rfl) (Nat.le_of_ble_eq_true rfl) rfl) rfl (by decide) (cok1 trivial) ?_
  refine dv (gyes_none rfl) (q_call0 Try.call16 rfl (ACalls.castV (faultOK_ok 0 0 (⟨#[]⟩ : ByteArray)) (congrArg Value.bool rfl))) rfl (by decide) (cok2 trivial trivial) ?_
  refine dv (gyes_none rfl) (q_mv (v := .bool true) rfl) rfl (by decide) (cok1 trivial) ?_
  refine dv (gyes_some rfl rfl) (q_loadAgg Try.isAgg36 Try.sizeOf36 rfl (s34.rd (j := 0) rfl) (Nat.le_of_ble_eq_true rfl) rfl) rfl (by decide) (cok1 trivial) ?_
  refine dv (gyes_some rfl rfl) (q_call0 Try.call16 rfl (ACalls.castV (faultOK_ok 0 0 (⟨#[]⟩ : ByteArray)) (congrArg Value.bool rfl))) rfl (by decide) (cok2 trivial trivial) ?_
  refine dv (gyes_none rfl) (q_pt (v := .bool true) rfl rfl) rfl (by decide) (call_ok rfl) ?_
  refine dv (gyes_none rfl) (q_mv (v := .bool true) rfl) rfl (by decide) (cok1 trivial) ?_
  refine dv (gyes_some rfl rfl) (q_mv (v := .slice (some ⟨b23, 0, none⟩) spE.length spE.length) rfl) rfl (by decide) (cok1 trivial) ?_
  refine dv (gyes_some rfl rfl) (q_len_slice Try.underlying43 rfl (s34.rd (j := 1) rfl)) rfl (by decide) (cok1 trivial) ?_
  refine dv (gyes_some rfl rfl) (OpQ.cast (v' := .bool true) (q_int rfl rfl rfl) (congrArg Value.bool rfl)) rfl (by decide) (cok2 trivial (cconst rfl)) ?_
  refine dv (gyes_none rfl) (q_pt (v := .bool true) rfl rfl) rfl (by decide) (call_ok rfl) ?_
  refine dv (gyes_none rfl) (q_mv (v := .bool true) rfl) rfl (by decide) (cok1 trivial) ?_
  refine dv (gyes_some rfl rfl) (q_mv (v := .bool true) rfl) rfl (by decide) (cok1 trivial) ?_
  refine dv (gyes_none rfl) (q_pt (v := .bool true) rfl rfl) rfl (by decide) (call_ok rfl) ?_
  refine dv (gyes_none rfl) (q_mv (v := .bool true) rfl) rfl (by decide) (cok1 trivial) ?_
  refine dv (gyes_some rfl rfl) (q_mv (v := .int .u64 1) rfl) rfl (by decide) (cok1 trivial) ?_
  refine dv (gyes_some rfl rfl) (OpQ.cast (v' := .bool true) (q_int rfl rfl rfl) (congrArg Value.bool (beq_self_eq_true _))) rfl (by decide) (cok2 trivial (cconst rfl)) ?_
  refine dv (gyes_none rfl) (q_pt (v := .bool true) rfl rfl) rfl (by decide) (call_ok rfl) ?_
  refine dv (gyes_none rfl) (q_mv (v := .bool true) rfl) rfl (by decide) (cok1 trivial) ?_
  refine dv (gyes_some rfl rfl) (q_mv (v := .bool true) rfl) rfl (by decide) (cok1 trivial) ?_
  refine dv (gyes_none rfl) (q_pt (v := .bool true) rfl rfl) rfl (by decide) (call_ok rfl) ?_
  refine dv (gyes_none rfl) (q_mv (v := .bool true) rfl) rfl (by decide) (cok1 trivial) ?_
  refine dv (gyes_some rfl rfl) (q_mv (v := .string (⟨#[97, 98]⟩ : ByteArray)) rfl) rfl (by decide) (cok1 trivial) ?_
  refine dv (gyes_some rfl rfl) (OpQ.cast (v' := .bool true) (q_streq rfl rfl) (congrArg Value.bool (by simp))) rfl (by decide) (cok2 trivial (cconst rfl)) ?_
  refine dv (gyes_none rfl) (q_pt (v := .bool true) rfl rfl) rfl (by decide) (call_ok rfl) ?_
  refine dv (gyes_none rfl) (q_as (v := .bool true) rfl) rfl (by decide) (cok1 trivial) ?_
  refine ⟨_, Wk.refl _ _, ?_⟩
  show awp _ _ _ _ _ _ _
  refine awp_ret_wk ?_
  refine ⟨_, Wk.refl _ _, ?_⟩
  repeat (with_reducible first | refine then_ret ?_ | refine blk_ret ?_ | refine then_exit ?_ | refine blk_exit ?_ | refine blk_exit' (by decide) ?_ | refine blk_normal ?_ | refine then_normal ?_ | refine retq_ret ?_ | refine retq_normal ?_ | refine ng_normal ?_ | refine ng_ret ?_ | refine ng_exit ?_)
  exact ret_none (v := .bool true) rfl s34.kp (.tmp rfl .nil) rfl rfl ⟨rfl, rfl⟩
end Go.Proofs.YthfndghgfabbjaaA


/-
  Walks of functions of the given program, and what they compute.
-/
namespace Go.Proofs.YthfndghgfabbjaaA
set_option linter.unusedVariables false
open Go Go.RowKit Go.Shelf Go.Proofs
theorem drL_len {B : ByteArray} {l : List Sg} : (drL B l).length ≤ 64 := by
  unfold drL
  split
  · rename_i h
    rw [ents_len]
    unfold drC at h
    split at h; · cases h
    split at h; · cases h
    split at h; · cases h
    split at h; · cases h
    split at h; · cases h
    omega
  · exact Nat.zero_le _
theorem hrB_y {s : ByteArray} (h : hrC s = 0) : hrB s = s := if_pos h
theorem take_snoc {α : Type} [Inhabited α] {l : List α} {i : Nat} (h : i < l.length) : l.take i ++ [nth l i] = l.take (i + 1) := by rw [nth_eq h, List.take_append_getElem]
theorem vrel_aggsc {ρ : Ren} {c : List Value} {v' : Value} (hs : ∀ v ∈ c, Scalar v = true) (h : VRel ρ (.agg c.toArray) v') : v' = .agg c.toArray := by
  obtain ⟨vs', rfl, h2, h3⟩ := vrel_agg h
  congr 1
  apply Array.ext
  · exact h2.symm
  · intro i h4 h5
    have h6 : i < c.length := by simpa using h5
    have h7 := h3 i (by simpa using h6)
    rw [Array.getD_eq_getD_getElem?, Array.getD_eq_getD_getElem?, Array.getElem?_eq_getElem h4, Array.getElem?_eq_getElem h5, Option.getD_some, Option.getD_some] at h7
    exact h7.scalar_eq (hs _ (by simp))
theorem q_aggne {P : Program} {T : Nat → Value} {H : AHeap} {dst : Option Tmp} {ty : TypeId} {pos : String} {af : Array Edge} {g : Option (Nat × Bool)} {t u : TypeId} {x y : Operand} {c : List Value} (hs : ∀ v ∈ c, Scalar v = true) (hx : ev T x = .agg c.toArray) (hy : ev T y = .agg c.toArray) (hg : P.eqGuardType P.depth t = false)
    (he : ∀ w, (Op.equalIn Op.maxDepth t (.agg c.toArray) (.agg c.toArray)).run P w = .ok true w) : OpQ P ⟨dst, .binOp .neq t x y u, ty, pos, af, g⟩ T H (.bool false) [] :=
  q_val (by simp) fun ρ e w hh h => by
    have h1 := h x (by simp [Op.operands])
    have h2 := h y (by simp [Op.operands])
    rw [hx] at h1
    rw [hy] at h2
    have e1 := vrel_aggsc hs h1
    have e2 := vrel_aggsc hs h2
    refine ⟨.bool false, ?_, .bool _⟩
    simp [execOp, e1, e2, eqGuard, hg, binOp, Op.equal, he, go_sem]
theorem eq27 (a0 : Int) (a1 : Int) (w : World) : (Op.equalIn Op.maxDepth 27 (.agg #[.int .u64 a0, .int .u64 a1]) (.agg #[.int .u64 a0, .int .u64 a1])).run Try.prog w = .ok true w := by
  show (Op.equalIn (9998 + 2) 27 _ _).run _ _ = _
  have hs : Try.prog.stoodInHeld 27 = false := by kernel_rfl
  unfold Op.equalIn
  simp only [Sem.run_bind, run_und Try.underlying27, Result.andThen_ok]
  simp [go_sem, hs, part, asAgg, Try.isAgg25]
  try (unfold Op.equalIn; simp [go_sem, run_und Try.underlying25])
set_option maxRecDepth 100000 in
set_option maxHeartbeats 4000000 in
theorem dynReads_ok {H0 : AHeap} (t : ByteArray) (ht : t.size ≤ 140737488355328) (vl : Value) (l : List DEnt) (hl : SlS entc 2 H0 vl l) (hlw : ∀ x ∈ l, EntW x) (cut : Int) : ACalls Try.prog 3 [.string t, vl, .int .i64 cut] H0 (Rets (.bool true) H0) := by
  have hF : Wd Fence.wide := .inl rfl
  have hM : Try.prog.follows .mixedOrders = true := by kernel_rfl
  have s0 := St.begin H0
  refine acalls_st Try.func3 rfl Try.ntmps3 rfl ?_
  refine awp_seq ?_
  refine awp_regs hF ?_
  refine dv (gyes_none rfl) (q_as (v := .bool false) rfl) rfl (by decide) (cok1 (cconst rfl)) ?_
  refine ⟨_, Wk.refl _ _, ?_⟩
  show awp _ _ _ _ _ _ _
  refine awp_seq ?_
  refine awp_seq ?_
  refine awp_regs hF ?_
  refine dv (gyes_none rfl) (q_call0 Try.call7 rfl (speaks_ok)) rfl (by decide) (cok1 trivial) ?_
  refine dv (gyes_none rfl) (q_not (b := true) rfl) rfl (by decide) (cok1 trivial) ?_
  refine ⟨_, Wk.refl _ _, ?_⟩
  show awp _ _ _ _ _ _ _
  refine awp_cond_f rfl ?_
  refine awp_skip_wk ?_
  refine ⟨_, Wk.refl _ _, ?_⟩
  show awp _ _ _ _ _ _ _
  refine awp_seq ?_
  refine awp_regs hF ?_
  refine dv (gyes_none rfl) (q_as (v := .slice none 0 0) rfl) rfl (by decide) (cok1 (cconst rfl)) ?_
  refine ⟨_, Wk.refl _ _, ?_⟩
  show awp _ _ _ _ _ _ _
  refine awp_seq ?_
  refine awp_seq ?_
  refine awp_regs hF ?_
  refine dv (gyes_none rfl) (q_as (v := .int .i64 0) rfl) rfl (by decide) (cok1 (cconst rfl)) ?_
  refine ⟨_, Wk.refl _ _, ?_⟩
  show awp _ _ _ _ _ _ _
  refine awp_block ?_
  refine awp_nil s0 7 2 rfl (fun b1 H2 hb4 s3 => ?_)
  refine awp_wk (Wk.U [(0, .string t), (1, vl), (2, .int .i64 cut), (7, .slice (some ⟨b1, 0, none⟩) 0 0), (8, .int .i64 0)] ⟨rfl, rfl, rfl, rfl, rfl, trivial⟩) ?_
  refine awp_loop (fun (i : Nat) st => ∃ (H5 : AHeap) (bl : Nat), st = ⟨120, U [(0, .string t), (1, vl), (2, .int .i64 cut), (7, .slice (some ⟨bl, 0, none⟩) i i), (8, .int .i64 ((i : Nat) : Int))], [], H5⟩ ∧ St H0 (none0) (Rd H0) H5 [(bl, .cells true (fl entc (l.take i)) 2)] ∧ (i ≤ l.length ∧ i ≤ 70)) (fun (i : Nat) => 70 - i) (x0 := (0)) ?h0 ?round
  case h0 =>
    exact ⟨_, _, rfl, s3, ⟨Nat.zero_le _, Nat.zero_le _⟩⟩
  case round =>
    rintro i _ ⟨H5, bl, rfl, s6, hi⟩
    have hti : (l.take i).length = i := by rw [List.length_take]; omega
    refine awp_seq ?_
    refine awp_seq ?_
    refine awp_regs hF ?_
    refine dv (gyes_none rfl) (q_mv (v := .int .i64 ((i : Nat) : Int)) rfl) rfl (by decide) (cok1 trivial) ?_
    refine dv (gyes_none rfl) (q_mv (v := vl) rfl) rfl (by decide) (cok1 trivial) ?_
    refine dv (gyes_none rfl) (q_len_sls (l := l) Try.underlying22 (s6.sls hl) rfl) rfl (by decide) (cok1 trivial) ?_
    refine dvb (gyes_none rfl) (q_int rfl rfl rfl) rfl (by decide) (cok2 trivial trivial) (fun c1 => ?_) (fun c1 => ?_)
    ·
      replace c1 := of_decide_eq_true c1
      refine dv (gyes_none rfl) (q_mv (v := .bool true) rfl) rfl (by decide) (cok1 trivial) ?_
      refine dv (gyes_some rfl rfl) (q_mv (v := .int .i64 ((i : Nat) : Int)) rfl) rfl (by decide) (cok1 trivial) ?_
      refine dvb (gyes_some rfl rfl) (q_int rfl rfl rfl) rfl (by decide) (cok2 trivial (cconst rfl)) (fun c2 => ?_) (fun c2 => ?_)
      ·
        replace c2 := of_decide_eq_true c2
        refine dv (gyes_none rfl) (q_pt (v := .bool true) rfl rfl) rfl (by decide) (call_ok rfl) ?_
        refine ⟨_, Wk.refl _ _, ?_⟩
        show awp _ _ _ _ _ _ _
        refine awp_cond_t rfl ?_
        refine awp_skip_wk ?_
        refine ⟨_, Wk.refl _ _, ?_⟩
        show awp _ _ _ _ _ _ _
        refine awp_seq ?_
        refine awp_block ?_
        refine awp_regs hF ?_
        refine dv (gyes_none rfl) (q_mv (v := .slice (some ⟨bl, 0, none⟩) i i) rfl) rfl (by decide) (cok1 trivial) ?_
        refine dv (gyes_none rfl) (q_mv (v := vl) rfl) rfl (by decide) (cok1 trivial) ?_
        refine dv (gyes_none rfl) (q_mv (v := .int .i64 ((i : Nat) : Int)) rfl) rfl (by decide) (cok1 trivial) ?_
        refine dv (gyes_none rfl) (q_index_sls (l := l) (i := i) Try.underlying22 Try.sizeOf28 (s6.sls hl) entc_w rfl rfl (by omega)) rfl (by decide) (cok2 trivial trivial) ?_
        refine dv (gyes_none rfl) (q_loadA_sls (l := l) (i := i) Try.isAgg28 Try.sizeOf28 (s6.sls hl) entc_w rfl (by omega)) rfl (by decide) (cok1 trivial) ?_
        refine x_new (fun b => .slice (some ⟨b, 0, none⟩) 1 1) s6 (gyes_none rfl) (q_buildSliceL (ds := [.int .u64 (((nth l i).1 : Nat) : Int), .int .u64 (((nth l i).2 : Nat) : Int)]) [.agg #[.int .u64 (((nth l i).1 : Nat) : Int), .int .u64 (((nth l i).2 : Nat) : Int)]] rfl Try.underlying24 Try.sizeOf27 Try.zeroValue27 rfl (by decide) (by decide) ⟨rfl, trivial⟩ (lvsC (by exact trivial) lvs0) rfl rfl) rfl (by decide) (cok1 trivial) (fun b7 H8 hb10 s9 => ?_)
        refine x_appendS (m := 2) (l := [((nth l i).1, (nth l i).2)]) (l0 := l.take i) (l' := l.take (i + 1)) (f := entc) [] hF s9 (by kernel_rfl) (j := 1) (i + 1) rfl (gyes_none rfl) Try.underlying24 Try.underlying24 Try.type27 rfl rfl (by decide) rfl entc_w rfl rfl rfl (s9.slsj (l := [((nth l i).1, (nth l i).2)]) entc_w (j := 0) rfl rfl (Nat.le_refl _)) (fun x _ u hu => lc_scalar (entc_sc x u hu)) hti.symm (by show (2 * (i + 1) + 1000) * 16 ≤ _; omega) trivial trivial (by decide) rfl rfl (take_snoc (by omega)) (fun b11 H12 hb14 s13 => ⟨?_, ?_⟩)
        · exact trivial
        refine dv (gyes_none rfl) (q_as (v := .slice (some ⟨b11, 0, none⟩) (i + 1) (i + 1)) rfl) rfl (by decide) (cok1 trivial) ?_
        refine ⟨_, Wk.refl _ _, ?_⟩
        show awp _ _ _ _ _ _ _
        refine awp_regs hF ?_
        refine dv (gyes_none rfl) (q_mv (v := .int .i64 ((i : Nat) : Int)) rfl) rfl (by decide) (cok1 trivial) ?_
        refine dv (gyes_none rfl) (OpQ.cast (v' := .int .i64 ((i + 1 : Nat) : Int)) (q_int rfl rfl rfl) (congrArg _ ((i64_in (by omega)).trans (by first | rfl | omega | (push_cast; rfl))))) rfl (by decide) (cok2 trivial (cconst rfl)) ?_
        refine dv (gyes_none rfl) (q_as (v := .int .i64 ((i + 1 : Nat) : Int)) rfl) rfl (by decide) (cok1 trivial) ?_
        refine ⟨_, Wk.U [(0, .string t), (1, vl), (2, .int .i64 cut), (7, .slice (some ⟨b11, 0, none⟩) (i + 1) (i + 1)), (8, .int .i64 (((i + 1) : Nat) : Int))] ⟨rfl, rfl, rfl, rfl, rfl, trivial⟩, (i + 1), ⟨_, _, rfl, (s13.sub (.cons _ (.cons_cons _ (.refl _)))), ⟨by omega, by omega⟩⟩, (by omega)⟩
      ·
        replace c2 := of_decide_eq_false c2
        refine dv (gyes_none rfl) (q_pt (v := .bool false) rfl rfl) rfl (by decide) (call_ok rfl) ?_
        refine ⟨_, Wk.refl _ _, ?_⟩
        show awp _ _ _ _ _ _ _
        refine awp_cond_f rfl ?_
        refine awp_exit_wk ?_
        refine ⟨_, Wk.refl _ _, ?_⟩
        show awp _ _ _ _ _ _ _
        refine awp_seq ?_
        refine awp_regs hF ?_
        refine dv (gyes_none rfl) (q_mv (v := .slice (some ⟨bl, 0, none⟩) i i) rfl) rfl (by decide) (cok1 trivial) ?_
        refine dv (gyes_none rfl) (q_call0 Try.call8 rfl (packT_ok _ (l.take i) (s6.slsj entc_w (j := 0) rfl hti (Nat.le_refl _)) (by omega) (fun x hx => hlw x (List.mem_of_mem_take hx)))) rfl (by decide) (cok2 trivial trivial) ?_
        refine dv (gyes_none rfl) (q_as (v := .string (packT (l.take i))) rfl) rfl (by decide) (cok1 trivial) ?_
        refine ⟨_, Wk.refl _ _, ?_⟩
        show awp _ _ _ _ _ _ _
        refine awp_seq ?_
        have hpz := packT_size (l.take i)
        rw [hti] at hpz
        have hm1 := imask_le cut 31
        have hm2 := imask_le ((imask cut 31 : Nat) : Int) ((packT (l.take i)).size - 1)
        refine awp_regs hF ?_
        refine dv (gyes_none rfl) (q_mv (v := .string (packT (l.take i))) rfl) rfl (by decide) (cok1 trivial) ?_
        refine dv (gyes_none rfl) (q_mv (v := .string (packT (l.take i))) rfl) rfl (by decide) (cok1 trivial) ?_
        refine dv (gyes_none rfl) (q_len_str Try.underlying9 rfl) rfl (by decide) (cok1 trivial) ?_
        refine dv (gyes_none rfl) (q_mv (v := .int .i64 cut) rfl) rfl (by decide) (cok1 trivial) ?_
        refine dv (gyes_none rfl) (q_imask (m := 31) rfl rfl (by first | decide | omega)) rfl (by decide) (cok2 trivial (cconst rfl)) ?_
        refine dv (gyes_none rfl) (q_mv (v := .string (packT (l.take i))) rfl) rfl (by decide) (cok1 trivial) ?_
        refine dv (gyes_none rfl) (q_len_str Try.underlying9 rfl) rfl (by decide) (cok1 trivial) ?_
        refine dv (gyes_none rfl) (OpQ.cast (v' := .int .i64 ((((packT (l.take i)).size) - 1 : Nat) : Int)) (q_int rfl rfl rfl) (congrArg _ ((i64_in (by omega)).trans (by omega)))) rfl (by decide) (cok2 trivial (cconst rfl)) ?_
        refine dv (gyes_none rfl) (q_imask (m := (((packT (l.take i)).size) - 1)) rfl rfl (by omega)) rfl (by decide) (cok2 trivial trivial) ?_
        refine dv (gyes_none rfl) (OpQ.cast (v' := .int .i64 ((((packT (l.take i)).size) - (imask ((imask cut 31 : Nat) : Int) (((packT (l.take i)).size) - 1)) : Nat) : Int)) (q_int rfl rfl rfl) (congrArg _ ((i64_in (by omega)).trans (by omega)))) rfl (by decide) (cok2 trivial trivial) ?_
        refine dv (gyes_none rfl) (q_substr (i := 0) (j := (((packT (l.take i)).size) - (imask ((imask cut 31 : Nat) : Int) (((packT (l.take i)).size) - 1)))) Try.underlying9 rfl rfl ⟨_, rfl⟩ (by omega) (by omega)) rfl (by decide) (cok2 trivial trivial) ?_
        refine dv (gyes_none rfl) (q_as (v := .string ((packT (l.take i)).extract 0 (((packT (l.take i)).size) - (imask ((imask cut 31 : Nat) : Int) (((packT (l.take i)).size) - 1))))) rfl) rfl (by decide) (cok1 trivial) ?_
        refine ⟨_, Wk.refl _ _, ?_⟩
        show awp _ _ _ _ _ _ _
        refine awp_seq ?_
        have hb : ((packT (l.take i)).extract 0 ((packT (l.take i)).size - imask ((imask cut 31 : Nat) : Int) ((packT (l.take i)).size - 1))).size ≤ 2000 := by rw [size_extract (by omega)]; omega
        generalize (packT (l.take i)).extract 0 ((packT (l.take i)).size - imask ((imask cut 31 : Nat) : Int) ((packT (l.take i)).size - 1)) = b at hb ⊢
        refine awp_regs hF ?_
        refine dv (gyes_none rfl) (q_mv (v := .string t) rfl) rfl (by decide) (cok1 trivial) ?_
        refine dv (gyes_none rfl) (q_mv (v := .string b) rfl) rfl (by decide) (cok1 trivial) ?_
        refine dv (gyes_none rfl) (q_call0 Try.call9 rfl (file_ok t b ht (by omega))) rfl (by decide) (call_ok rfl) ?_
        refine dv (gyes_none rfl) (q_as (v := .string (fileB t b)) rfl) rfl (by decide) (cok1 trivial) ?_
        refine ⟨_, Wk.refl _ _, ?_⟩
        show awp _ _ _ _ _ _ _
        refine awp_seq ?_
        have hS := fileB_size t b (by omega)
        generalize fileB t b = S at hS ⊢
        have hln := hrL_len (s := S)
        refine awp_regs hF ?_
        refine dv (gyes_none rfl) (q_mv (v := .string S) rfl) rfl (by decide) (cok1 trivial) ?_
        refine x_call [] hF (by kernel_rfl) (gyes_none rfl) Try.call10 rfl (args := [.string S]) rfl (read_ok S (by omega)) (show _ < _ by decide) (call_ok rfl) rfl rfl (fun _ _ _ _ hd => by cases hd) ?_
        rintro _ H16 ⟨_, rfl, hk17, b15, rfl, hb18, hg19⟩
        have s20 := s6.callN hk17 hb18 hg19
        refine ⟨trivial, ?_⟩
        show dList _ _ _ _ _ _ _ _ _ _
        refine dv (gyes_none rfl) (q_mv (v := .tuple #[.agg #[.string (hrB S), .int .u64 ((hrE S : Nat) : Int), .slice (some ⟨b15, 0, none⟩) ((hrL S).length) ((hrL S).length)], .agg #[.int .i64 ((hrC S : Nat) : Int), .int .u64 ((hrA S : Nat) : Int), .string (⟨#[]⟩ : ByteArray)]]) rfl) rfl (by decide) (cok1 trivial) ?_
        refine dv (gyes_none rfl) (q_extract (v := .agg #[.string (hrB S), .int .u64 ((hrE S : Nat) : Int), .slice (some ⟨b15, 0, none⟩) ((hrL S).length) ((hrL S).length)]) rfl rfl) rfl (by decide) (cok1 trivial) ?_
        refine dv (gyes_none rfl) (q_extract (v := .agg #[.int .i64 ((hrC S : Nat) : Int), .int .u64 ((hrA S : Nat) : Int), .string (⟨#[]⟩ : ByteArray)]) rfl rfl) rfl (by decide) (cok1 trivial) ?_
        refine x_new (fun b => .pointer (some ⟨b, 0, none⟩)) s20 (gyes_none rfl) (q_alloc (vs := [.string ⟨#[]⟩, .int .u64 0, .slice none 0 0]) 3 Try.zeroValue33 (by first | exact flat_scalar rfl | exact flat_agg rfl) rfl) rfl (by decide) (by simp [Op.operands, Call.operands]) (fun b21 H22 hb24 s23 => ?_)
        refine x_new (fun b => .pointer (some ⟨b, 0, none⟩)) s23 (gyes_none rfl) (q_alloc (vs := [.int .i64 0, .int .u64 0, .string ⟨#[]⟩]) 3 Try.zeroValue36 (by first | exact flat_scalar rfl | exact flat_agg rfl) rfl) rfl (by decide) (by simp [Op.operands, Call.operands]) (fun b25 H26 hb28 s27 => ?_)
        refine x_store [] hF s27 (by kernel_rfl) (gyes_none rfl) (j := 1) (v := .agg #[.string (hrB S), .int .u64 ((hrE S : Nat) : Int), .slice (some ⟨b15, 0, none⟩) ((hrL S).length) ((hrL S).length)]) rfl Try.sizeOf33 rfl rfl rfl rfl rfl trivial (lcsA ⟨(lc_scalar rfl), (lc_scalar rfl), (lc_slice (s27.live (j := 2) rfl)), trivial⟩) (Nat.le_of_ble_eq_true rfl) trivial trivial rfl rfl (F' := [(b25, .cells true [.int .i64 0, .int .u64 0, .string ⟨#[]⟩] 3), (b21, .cells true [.string (hrB S), .int .u64 ((hrE S : Nat) : Int), .slice (some ⟨b15, 0, none⟩) ((hrL S).length) ((hrL S).length)] 3), (b15, .cells true (fl segc (hrL S)) 6), (bl, .cells true (fl entc (l.take i)) 2)]) rfl (fun H29 s30 => ⟨?_, ?_⟩)
        · exact trivial
        refine x_store [] hF s30 (by kernel_rfl) (gyes_none rfl) (j := 0) (v := .agg #[.int .i64 ((hrC S : Nat) : Int), .int .u64 ((hrA S : Nat) : Int), .string (⟨#[]⟩ : ByteArray)]) rfl Try.sizeOf36 rfl rfl rfl rfl rfl trivial (lcsA ⟨(lc_scalar rfl), (lc_scalar rfl), (lc_scalar rfl), trivial⟩) (Nat.le_of_ble_eq_true rfl) trivial trivial rfl rfl (F' := [(b25, .cells true [.int .i64 ((hrC S : Nat) : Int), .int .u64 ((hrA S : Nat) : Int), .string (⟨#[]⟩ : ByteArray)] 3), (b21, .cells true [.string (hrB S), .int .u64 ((hrE S : Nat) : Int), .slice (some ⟨b15, 0, none⟩) ((hrL S).length) ((hrL S).length)] 3), (b15, .cells true (fl segc (hrL S)) 6), (bl, .cells true (fl entc (l.take i)) 2)]) rfl (fun H31 s32 => ⟨?_, ?_⟩)
        · exact trivial
        refine ⟨_, Wk.refl _ _, ?_⟩
        show awp _ _ _ _ _ _ _
        refine awp_seq ?_
        refine awp_regs hF ?_
        refine dv (gyes_none rfl) (q_mv (v := .string S) rfl) rfl (by decide) (cok1 trivial) ?_
        refine x_call [] hF (by kernel_rfl) (gyes_none rfl) Try.call11 rfl (args := [.string S]) rfl (refRead_ok S (by omega)) (show _ < _ by decide) (call_ok rfl) rfl rfl (fun _ _ _ _ hd => by cases hd) ?_
        rintro _ H34 ⟨_, rfl, hk35, b33, rfl, hb36, hg37⟩
        have s38 := s32.callN hk35 hb36 hg37
        refine ⟨trivial, ?_⟩
        show dList _ _ _ _ _ _ _ _ _ _
        refine dv (gyes_none rfl) (q_mv (v := .tuple #[.int .u64 ((hrE S : Nat) : Int), .slice (some ⟨b33, 0, none⟩) ((hrL S).length) ((hrL S).length), .int .i64 ((hrC S : Nat) : Int), .int .u64 ((hrA S : Nat) : Int)]) rfl) rfl (by decide) (cok1 trivial) ?_
        refine dv (gyes_none rfl) (q_extract (v := .int .u64 ((hrE S : Nat) : Int)) rfl rfl) rfl (by decide) (cok1 trivial) ?_
        refine dv (gyes_none rfl) (q_extract (v := .slice (some ⟨b33, 0, none⟩) ((hrL S).length) ((hrL S).length)) rfl rfl) rfl (by decide) (cok1 trivial) ?_
        refine dv (gyes_none rfl) (q_extract (v := .int .i64 ((hrC S : Nat) : Int)) rfl rfl) rfl (by decide) (cok1 trivial) ?_
        refine dv (gyes_none rfl) (q_extract (v := .int .u64 ((hrA S : Nat) : Int)) rfl rfl) rfl (by decide) (cok1 trivial) ?_
        refine dv (gyes_none rfl) (q_as (v := .int .u64 ((hrE S : Nat) : Int)) rfl) rfl (by decide) (cok1 trivial) ?_
        refine dv (gyes_none rfl) (q_as (v := .slice (some ⟨b33, 0, none⟩) ((hrL S).length) ((hrL S).length)) rfl) rfl (by decide) (cok1 trivial) ?_
        refine dv (gyes_none rfl) (q_as (v := .int .i64 ((hrC S : Nat) : Int)) rfl) rfl (by decide) (cok1 trivial) ?_
        refine dv (gyes_none rfl) (q_as (v := .int .u64 ((hrA S : Nat) : Int)) rfl) rfl (by decide) (cok1 trivial) ?_
        refine ⟨_, Wk.refl _ _, ?_⟩
        show awp _ _ _ _ _ _ _
        refine awp_seq ?_
        refine awp_seq ?_
        refine awp_regs hF ?_
        refine dv (gyes_none rfl) (q_field Try.underlying36 rfl Try.sizeOf34 rfl (s38.rd (j := 1) rfl)) rfl (by decide) (cok1 trivial) ?_
        refine dv (gyes_none rfl) (q_load (v := .int .i64 ((hrC S : Nat) : Int)) Try.isAgg34 rfl (s38.rd (j := 1) rfl) rfl) rfl (by decide) (cok1 trivial) ?_
        refine dv (gyes_none rfl) (q_mv (v := .int .i64 ((hrC S : Nat) : Int)) rfl) rfl (by decide) (cok1 trivial) ?_
        refine dv (gyes_none rfl) (OpQ.cast (v' := .bool false) (q_int rfl rfl rfl) (congrArg Value.bool (bne_self_eq_false _))) rfl (by decide) (cok2 trivial trivial) ?_
        refine ⟨_, Wk.refl _ _, ?_⟩
        show awp _ _ _ _ _ _ _
        refine awp_cond_f rfl ?_
        refine awp_skip_wk ?_
        refine ⟨_, Wk.refl _ _, ?_⟩
        show awp _ _ _ _ _ _ _
        refine awp_seq ?_
        refine awp_seq ?_
        refine awp_regs hF ?_
        refine dv (gyes_none rfl) (q_mv (v := .int .i64 ((hrC S : Nat) : Int)) rfl) rfl (by decide) (cok1 trivial) ?_
        refine dvb (gyes_none rfl) (q_int rfl rfl rfl) rfl (by decide) (cok2 trivial (cconst rfl)) (fun c3 => ?_) (fun c3 => ?_)
        ·
          replace c3 := bne_iff_ne.1 c3
          refine ⟨_, Wk.refl _ _, ?_⟩
          show awp _ _ _ _ _ _ _
          refine awp_cond_t rfl ?_
          refine awp_seq ?_
          refine awp_regs hF ?_
          refine dv (gyes_none rfl) (q_as (v := .bool true) rfl) rfl (by decide) (cok1 (cconst rfl)) ?_
          refine ⟨_, Wk.refl _ _, ?_⟩
          show awp _ _ _ _ _ _ _
          refine awp_ret_wk ?_
          refine ⟨_, Wk.refl _ _, ?_⟩
          repeat (with_reducible first | refine then_ret ?_ | refine blk_ret ?_ | refine then_exit ?_ | refine blk_exit ?_ | refine blk_exit' (by decide) ?_ | refine blk_normal ?_ | refine then_normal ?_ | refine retq_ret ?_ | refine retq_normal ?_ | refine ng_normal ?_ | refine ng_ret ?_ | refine ng_exit ?_)
          exact ret_none (v := .bool true) rfl s38.kp (.tmp rfl .nil) rfl rfl ⟨rfl, rfl⟩
        ·
          replace c3 := bne_eq_false_iff_eq.1 c3
          have h0 : hrC S = 0 := by omega
          refine ⟨_, Wk.refl _ _, ?_⟩
          show awp _ _ _ _ _ _ _
          refine awp_cond_f rfl ?_
          refine awp_skip_wk ?_
          refine ⟨_, Wk.refl _ _, ?_⟩
          show awp _ _ _ _ _ _ _
          refine awp_seq ?_
          rw [hrB_y h0] at s38
          try rw [hrB_y h0]
          have hdl := drL_len (B := S) (l := hrL S)
          refine awp_regs hF ?_
          refine dv (gyes_none rfl) (q_loadAgg Try.isAgg33 Try.sizeOf33 rfl (s38.rd (j := 2) rfl) (Nat.le_of_ble_eq_true rfl) rfl) rfl (by decide) (cok1 trivial) ?_
          refine x_call [] hF (by kernel_rfl) (gyes_none rfl) Try.call12 rfl (args := [.agg #[.string S, .int .u64 ((hrE S : Nat) : Int), .slice (some ⟨b15, 0, none⟩) ((hrL S).length) ((hrL S).length)]]) rfl (dread_ok S (hrE S) _ (hrL S) (by omega) (s38.slsj (l := hrL S) segc_w (j := 3) rfl rfl (Nat.le_refl _)) (by omega) hrL_low hrL_in hrL_sgb) (show _ < _ by decide) (call_ok rfl) rfl rfl (fun _ _ _ _ hd => by cases hd) ?_
          rintro _ H40 ⟨_, rfl, hk41, b39, rfl, hb42, hg43⟩
          have s44 := s38.callN hk41 hb42 hg43
          refine ⟨trivial, ?_⟩
          show dList _ _ _ _ _ _ _ _ _ _
          refine dv (gyes_none rfl) (q_mv (v := .tuple #[.slice (some ⟨b39, 0, none⟩) ((drL S (hrL S)).length) ((drL S (hrL S)).length), .agg #[.int .i64 ((drC S (hrL S) : Nat) : Int), .int .u64 ((drA S (hrL S) : Nat) : Int), .string (⟨#[]⟩ : ByteArray)]]) rfl) rfl (by decide) (cok1 trivial) ?_
          refine dv (gyes_none rfl) (q_extract (v := .slice (some ⟨b39, 0, none⟩) ((drL S (hrL S)).length) ((drL S (hrL S)).length)) rfl rfl) rfl (by decide) (cok1 trivial) ?_
          refine dv (gyes_none rfl) (q_extract (v := .agg #[.int .i64 ((drC S (hrL S) : Nat) : Int), .int .u64 ((drA S (hrL S) : Nat) : Int), .string (⟨#[]⟩ : ByteArray)]) rfl rfl) rfl (by decide) (cok1 trivial) ?_
          refine x_new (fun b => .pointer (some ⟨b, 0, none⟩)) s44 (gyes_none rfl) (q_alloc (vs := [.int .i64 0, .int .u64 0, .string ⟨#[]⟩]) 3 Try.zeroValue36 (by first | exact flat_scalar rfl | exact flat_agg rfl) rfl) rfl (by decide) (by simp [Op.operands, Call.operands]) (fun b45 H46 hb48 s47 => ?_)
          refine dv (gyes_none rfl) (q_as (v := .slice (some ⟨b39, 0, none⟩) ((drL S (hrL S)).length) ((drL S (hrL S)).length)) rfl) rfl (by decide) (cok1 trivial) ?_
          refine x_store [] hF s47 (by kernel_rfl) (gyes_none rfl) (j := 0) (v := .agg #[.int .i64 ((drC S (hrL S) : Nat) : Int), .int .u64 ((drA S (hrL S) : Nat) : Int), .string (⟨#[]⟩ : ByteArray)]) rfl Try.sizeOf36 rfl rfl rfl rfl rfl trivial (lcsA ⟨(lc_scalar rfl), (lc_scalar rfl), (lc_scalar rfl), trivial⟩) (Nat.le_of_ble_eq_true rfl) trivial trivial rfl rfl (F' := [(b45, .cells true [.int .i64 ((drC S (hrL S) : Nat) : Int), .int .u64 ((drA S (hrL S) : Nat) : Int), .string (⟨#[]⟩ : ByteArray)] 3), (b39, .cells true (fl entc (drL S (hrL S))) 2), (b33, .cells true (fl segr (hrL S)) 6), (b25, .cells true [.int .i64 ((hrC S : Nat) : Int), .int .u64 ((hrA S : Nat) : Int), .string (⟨#[]⟩ : ByteArray)] 3), (b21, .cells true [.string S, .int .u64 ((hrE S : Nat) : Int), .slice (some ⟨b15, 0, none⟩) ((hrL S).length) ((hrL S).length)] 3), (b15, .cells true (fl segc (hrL S)) 6), (bl, .cells true (fl entc (l.take i)) 2)]) rfl (fun H49 s50 => ⟨?_, ?_⟩)
          · exact trivial
          refine ⟨_, Wk.refl _ _, ?_⟩
          show awp _ _ _ _ _ _ _
          refine awp_seq ?_
          refine awp_regs hF ?_
          refine dv (gyes_none rfl) (q_mv (v := .string S) rfl) rfl (by decide) (cok1 trivial) ?_
          refine dv (gyes_none rfl) (q_mv (v := .slice (some ⟨b33, 0, none⟩) ((hrL S).length) ((hrL S).length)) rfl) rfl (by decide) (cok1 trivial) ?_
          refine x_call [] hF (by kernel_rfl) (gyes_none rfl) Try.call13 rfl (args := [.string S, .slice (some ⟨b33, 0, none⟩) ((hrL S).length) ((hrL S).length)]) rfl (rdread_ok S _ (hrL S) (by omega) (s50.slsj (l := hrL S) segr_w (j := 2) rfl rfl (Nat.le_refl _)) (by omega) hrL_low hrL_in hrL_sgb) (show _ < _ by decide) (call_ok rfl) rfl rfl (fun _ _ _ _ hd => by cases hd) ?_
          rintro _ H52 ⟨_, rfl, hk53, b51, rfl, hb54, hg55⟩
          have s56 := s50.callN hk53 hb54 hg55
          refine ⟨trivial, ?_⟩
          show dList _ _ _ _ _ _ _ _ _ _
          refine dv (gyes_none rfl) (q_mv (v := .tuple #[.slice (some ⟨b51, 0, none⟩) ((drL S (hrL S)).length) ((drL S (hrL S)).length), .int .i64 ((drC S (hrL S) : Nat) : Int), .int .u64 ((drA S (hrL S) : Nat) : Int)]) rfl) rfl (by decide) (cok1 trivial) ?_
          refine dv (gyes_none rfl) (q_extract (v := .slice (some ⟨b51, 0, none⟩) ((drL S (hrL S)).length) ((drL S (hrL S)).length)) rfl rfl) rfl (by decide) (cok1 trivial) ?_
          refine dv (gyes_none rfl) (q_extract (v := .int .i64 ((drC S (hrL S) : Nat) : Int)) rfl rfl) rfl (by decide) (cok1 trivial) ?_
          refine dv (gyes_none rfl) (q_extract (v := .int .u64 ((drA S (hrL S) : Nat) : Int)) rfl rfl) rfl (by decide) (cok1 trivial) ?_
          refine dv (gyes_none rfl) (q_as (v := .slice (some ⟨b51, 0, none⟩) ((drL S (hrL S)).length) ((drL S (hrL S)).length)) rfl) rfl (by decide) (cok1 trivial) ?_
          refine dv (gyes_none rfl) (q_as (v := .int .i64 ((drC S (hrL S) : Nat) : Int)) rfl) rfl (by decide) (cok1 trivial) ?_
          refine dv (gyes_none rfl) (q_as (v := .int .u64 ((drA S (hrL S) : Nat) : Int)) rfl) rfl (by decide) (cok1 trivial) ?_
          refine ⟨_, Wk.refl _ _, ?_⟩
          show awp _ _ _ _ _ _ _
          refine awp_seq ?_
          refine awp_seq ?_
          refine awp_regs hF ?_
          refine dv (gyes_none rfl) (q_field Try.underlying36 rfl Try.sizeOf34 rfl (s56.rd (j := 1) rfl)) rfl (by decide) (cok1 trivial) ?_
          refine dv (gyes_none rfl) (q_load (v := .int .i64 ((drC S (hrL S) : Nat) : Int)) Try.isAgg34 rfl (s56.rd (j := 1) rfl) rfl) rfl (by decide) (cok1 trivial) ?_
          refine dv (gyes_none rfl) (q_mv (v := .int .i64 ((drC S (hrL S) : Nat) : Int)) rfl) rfl (by decide) (cok1 trivial) ?_
          refine dv (gyes_none rfl) (OpQ.cast (v' := .bool false) (q_int rfl rfl rfl) (congrArg Value.bool (bne_self_eq_false _))) rfl (by decide) (cok2 trivial trivial) ?_
          refine dv (gyes_none rfl) (q_mv (v := .bool false) rfl) rfl (by decide) (cok1 trivial) ?_
          refine dv (gyes_some rfl rfl) (q_field Try.underlying36 rfl Try.sizeOf25 rfl (s56.rd (j := 1) rfl)) rfl (by decide) (cok1 trivial) ?_
          refine dv (gyes_some rfl rfl) (q_load (v := .int .u64 ((drA S (hrL S) : Nat) : Int)) Try.isAgg25 rfl (s56.rd (j := 1) rfl) rfl) rfl (by decide) (cok1 trivial) ?_
          refine dv (gyes_some rfl rfl) (q_mv (v := .int .u64 ((drA S (hrL S) : Nat) : Int)) rfl) rfl (by decide) (cok1 trivial) ?_
          refine dv (gyes_some rfl rfl) (OpQ.cast (v' := .bool false) (q_int rfl rfl rfl) (congrArg Value.bool (bne_self_eq_false _))) rfl (by decide) (cok2 trivial trivial) ?_
          refine dv (gyes_none rfl) (q_pf (v := .bool false) rfl rfl) rfl (by decide) (call_ok rfl) ?_
          refine dv (gyes_none rfl) (q_mv (v := .bool false) rfl) rfl (by decide) (cok1 trivial) ?_
          refine dv (gyes_some rfl rfl) (q_mv (v := .slice (some ⟨b39, 0, none⟩) ((drL S (hrL S)).length) ((drL S (hrL S)).length)) rfl) rfl (by decide) (cok1 trivial) ?_
          refine dv (gyes_some rfl rfl) (q_len_slice Try.underlying43 rfl (s56.rd (j := 2) rfl)) rfl (by decide) (cok1 trivial) ?_
          refine dv (gyes_some rfl rfl) (q_mv (v := .slice (some ⟨b51, 0, none⟩) ((drL S (hrL S)).length) ((drL S (hrL S)).length)) rfl) rfl (by decide) (cok1 trivial) ?_
          refine dv (gyes_some rfl rfl) (q_len_slice Try.underlying24 rfl (s56.rd (j := 0) rfl)) rfl (by decide) (cok1 trivial) ?_
          refine dv (gyes_some rfl rfl) (OpQ.cast (v' := .bool false) (q_int rfl rfl rfl) (congrArg Value.bool (bne_self_eq_false _))) rfl (by decide) (cok2 trivial trivial) ?_
          refine dv (gyes_none rfl) (q_pf (v := .bool false) rfl rfl) rfl (by decide) (call_ok rfl) ?_
          refine ⟨_, Wk.refl _ _, ?_⟩
          show awp _ _ _ _ _ _ _
          refine awp_cond_f rfl ?_
          refine awp_skip_wk ?_
          refine ⟨_, Wk.refl _ _, ?_⟩
          show awp _ _ _ _ _ _ _
          refine awp_seq ?_
          refine awp_seq ?_
          refine awp_regs hF ?_
          refine dv (gyes_none rfl) (q_as (v := .int .i64 0) rfl) rfl (by decide) (cok1 (cconst rfl)) ?_
          refine ⟨_, Wk.refl _ _, ?_⟩
          show awp _ _ _ _ _ _ _
          refine awp_block ?_
          refine awp_wk (Wk.U [(17, .slice (some ⟨b39, 0, none⟩) ((drL S (hrL S)).length) ((drL S (hrL S)).length)), (19, .slice (some ⟨b51, 0, none⟩) ((drL S (hrL S)).length) ((drL S (hrL S)).length)), (22, .int .i64 0)] ⟨rfl, rfl, rfl, trivial⟩) ?_
          refine awp_loop (fun (k : Nat) st => ∃ (H57 : AHeap), st = ⟨120, U [(17, .slice (some ⟨b39, 0, none⟩) ((drL S (hrL S)).length) ((drL S (hrL S)).length)), (19, .slice (some ⟨b51, 0, none⟩) ((drL S (hrL S)).length) ((drL S (hrL S)).length)), (22, .int .i64 ((k : Nat) : Int))], [], H57⟩ ∧ St H0 (none0) (Rd H0) H57 [(b51, .cells true (fl entc (drL S (hrL S))) 2), (b45, .cells true [.int .i64 ((drC S (hrL S) : Nat) : Int), .int .u64 ((drA S (hrL S) : Nat) : Int), .string (⟨#[]⟩ : ByteArray)] 3), (b39, .cells true (fl entc (drL S (hrL S))) 2), (b33, .cells true (fl segr (hrL S)) 6), (b25, .cells true [.int .i64 ((hrC S : Nat) : Int), .int .u64 ((hrA S : Nat) : Int), .string (⟨#[]⟩ : ByteArray)] 3), (b21, .cells true [.string S, .int .u64 ((hrE S : Nat) : Int), .slice (some ⟨b15, 0, none⟩) ((hrL S).length) ((hrL S).length)] 3), (b15, .cells true (fl segc (hrL S)) 6), (bl, .cells true (fl entc (l.take i)) 2)]) (fun (k : Nat) => (drL S (hrL S)).length - k) (x0 := (0)) ?h0 ?round
          case h0 =>
            exact ⟨_, rfl, s56⟩
          case round =>
            rintro k _ ⟨H57, rfl, s58⟩
            refine awp_seq ?_
            refine awp_seq ?_
            refine awp_regs hF ?_
            refine dv (gyes_none rfl) (q_mv (v := .int .i64 ((k : Nat) : Int)) rfl) rfl (by decide) (cok1 trivial) ?_
            refine dv (gyes_none rfl) (q_mv (v := .slice (some ⟨b51, 0, none⟩) ((drL S (hrL S)).length) ((drL S (hrL S)).length)) rfl) rfl (by decide) (cok1 trivial) ?_
            refine dv (gyes_none rfl) (q_len_slice Try.underlying24 rfl (s58.rd (j := 0) rfl)) rfl (by decide) (cok1 trivial) ?_
            refine dvb (gyes_none rfl) (q_int rfl rfl rfl) rfl (by decide) (cok2 trivial trivial) (fun c4 => ?_) (fun c4 => ?_)
            ·
              replace c4 := of_decide_eq_true c4
              refine ⟨_, Wk.refl _ _, ?_⟩
              show awp _ _ _ _ _ _ _
              refine awp_cond_t rfl ?_
              refine awp_skip_wk ?_
              refine ⟨_, Wk.refl _ _, ?_⟩
              show awp _ _ _ _ _ _ _
              refine awp_seq ?_
              refine awp_block ?_
              refine awp_seq ?_
              refine awp_regt hF hM (by kernel_rfl) (by kernel_rfl) ?_
              refine dv (gyes_none rfl) (q_mv (v := .slice (some ⟨b39, 0, none⟩) ((drL S (hrL S)).length) ((drL S (hrL S)).length)) rfl) rfl (by decide) (cok1 trivial) ?_
              refine dv (gyes_none rfl) (q_mv (v := .int .i64 ((k : Nat) : Int)) rfl) rfl (by decide) (cok1 trivial) ?_
              refine dv (gyes_none rfl) (OpQ.cast (v' := .pointer (some ⟨b39, k * 2, none⟩)) (q_index (u := 0) (i := k) Try.underlying43 Try.sizeOf48 rfl rfl (by omega) (s58.rd (j := 2) rfl)) (by rw [Nat.zero_add])) rfl (by decide) (cok2 trivial trivial) ?_
              refine dv (gyes_none rfl) (q_loadAgg (us := entc (nth (drL S (hrL S)) k)) Try.isAgg48 Try.sizeOf48 rfl (s58.rd (j := 2) rfl) (fl_room entc_w (by omega)) (fl_at entc_w (by omega))) rfl (by decide) (cok1 trivial) ?_
              refine dv (gyes_none rfl) (q_mv (v := .slice (some ⟨b51, 0, none⟩) ((drL S (hrL S)).length) ((drL S (hrL S)).length)) rfl) rfl (by decide) (cok1 trivial) ?_
              refine dv (gyes_none rfl) (q_mv (v := .int .i64 ((k : Nat) : Int)) rfl) rfl (by decide) (cok1 trivial) ?_
              refine dv (gyes_none rfl) (OpQ.cast (v' := .pointer (some ⟨b51, k * 2, none⟩)) (q_index (u := 0) (i := k) Try.underlying24 Try.sizeOf27 rfl rfl (by omega) (s58.rd (j := 0) rfl)) (by rw [Nat.zero_add])) rfl (by decide) (cok2 trivial trivial) ?_
              refine dv (gyes_none rfl) (q_loadAgg (us := entc (nth (drL S (hrL S)) k)) Try.isAgg27 Try.sizeOf27 rfl (s58.rd (j := 0) rfl) (fl_room entc_w (by omega)) (fl_at entc_w (by omega))) rfl (by decide) (cok1 trivial) ?_
              refine dv (gyes_none rfl) (q_aggne (c := [.int .u64 (((nth (drL S (hrL S)) k).1 : Nat) : Int), .int .u64 (((nth (drL S (hrL S)) k).2 : Nat) : Int)]) (fun v hv => by simp at hv; rcases hv with rfl | rfl <;> rfl) rfl rfl (by kernel_rfl) (fun w => eq27 _ _ w)) rfl (by decide) (cok2 trivial trivial) ?_
              refine ⟨_, Wk.refl _ _, ?_⟩
              show awp _ _ _ _ _ _ _
              refine awp_cond_f rfl ?_
              refine awp_skip_wk ?_
              refine ⟨_, Wk.refl _ _, ?_⟩
              show awp _ _ _ _ _ _ _
              refine awp_regs hF ?_
              refine dv (gyes_none rfl) (q_mv (v := .int .i64 ((k : Nat) : Int)) rfl) rfl (by decide) (cok1 trivial) ?_
              refine dv (gyes_none rfl) (OpQ.cast (v' := .int .i64 ((k + 1 : Nat) : Int)) (q_int rfl rfl rfl) (congrArg _ ((i64_in (by omega)).trans (by first | rfl | omega | (push_cast; rfl))))) rfl (by decide) (cok2 trivial (cconst rfl)) ?_
              refine dv (gyes_none rfl) (q_as (v := .int .i64 ((k + 1 : Nat) : Int)) rfl) rfl (by decide) (cok1 trivial) ?_
              refine ⟨_, Wk.U [(17, .slice (some ⟨b39, 0, none⟩) ((drL S (hrL S)).length) ((drL S (hrL S)).length)), (19, .slice (some ⟨b51, 0, none⟩) ((drL S (hrL S)).length) ((drL S (hrL S)).length)), (22, .int .i64 (((k + 1) : Nat) : Int))] ⟨rfl, rfl, rfl, trivial⟩, (k + 1), ⟨_, rfl, s58⟩, (by omega)⟩
            ·
              replace c4 := of_decide_eq_false c4
              refine ⟨_, Wk.refl _ _, ?_⟩
              show awp _ _ _ _ _ _ _
              refine awp_cond_f rfl ?_
              refine awp_exit_wk ?_
              refine ⟨_, Wk.refl _ _, ?_⟩
              show awp _ _ _ _ _ _ _
              refine awp_seq ?_
              refine awp_regs hF ?_
              refine dv (gyes_none rfl) (q_as (v := .bool true) rfl) rfl (by decide) (cok1 (cconst rfl)) ?_
              refine ⟨_, Wk.refl _ _, ?_⟩
              show awp _ _ _ _ _ _ _
              refine awp_ret_wk ?_
              refine ⟨_, Wk.refl _ _, ?_⟩
              repeat (with_reducible first | refine then_ret ?_ | refine blk_ret ?_ | refine then_exit ?_ | refine blk_exit ?_ | refine blk_exit' (by decide) ?_ | refine blk_normal ?_ | refine then_normal ?_ | refine retq_ret ?_ | refine retq_normal ?_ | refine ng_normal ?_ | refine ng_ret ?_ | refine ng_exit ?_)
              exact ret_none (v := .bool true) rfl s58.kp (.tmp rfl .nil) rfl rfl ⟨rfl, rfl⟩
    ·
      replace c1 := of_decide_eq_false c1
      refine dv (gyes_none rfl) (q_mv (v := .bool false) rfl) rfl (by decide) (cok1 trivial) ?_
      refine dno rfl (.inl rfl) rfl (by decide) ?_
      refine dno rfl (.inl rfl) rfl (by decide) ?_
      refine dv (gyes_none rfl) (q_pf (v := .bool false) rfl rfl) rfl (by decide) (call_ok rfl) ?_
      refine ⟨_, Wk.refl _ _, ?_⟩
      show awp _ _ _ _ _ _ _
      refine awp_cond_f rfl ?_
      refine awp_exit_wk ?_
      refine ⟨_, Wk.refl _ _, ?_⟩
      show awp _ _ _ _ _ _ _
      refine awp_seq ?_
      refine awp_regs hF ?_
      refine dv (gyes_none rfl) (q_mv (v := .slice (some ⟨bl, 0, none⟩) i i) rfl) rfl (by decide) (cok1 trivial) ?_
      refine dv (gyes_none rfl) (q_call0 Try.call8 rfl (packT_ok _ (l.take i) (s6.slsj entc_w (j := 0) rfl hti (Nat.le_refl _)) (by omega) (fun x hx => hlw x (List.mem_of_mem_take hx)))) rfl (by decide) (cok2 trivial trivial) ?_
      refine dv (gyes_none rfl) (q_as (v := .string (packT (l.take i))) rfl) rfl (by decide) (cok1 trivial) ?_
      refine ⟨_, Wk.refl _ _, ?_⟩
      show awp _ _ _ _ _ _ _
      refine awp_seq ?_
      have hpz := packT_size (l.take i)
      rw [hti] at hpz
      have hm1 := imask_le cut 31
      have hm2 := imask_le ((imask cut 31 : Nat) : Int) ((packT (l.take i)).size - 1)
      refine awp_regs hF ?_
      refine dv (gyes_none rfl) (q_mv (v := .string (packT (l.take i))) rfl) rfl (by decide) (cok1 trivial) ?_
      refine dv (gyes_none rfl) (q_mv (v := .string (packT (l.take i))) rfl) rfl (by decide) (cok1 trivial) ?_
      refine dv (gyes_none rfl) (q_len_str Try.underlying9 rfl) rfl (by decide) (cok1 trivial) ?_
      refine dv (gyes_none rfl) (q_mv (v := .int .i64 cut) rfl) rfl (by decide) (cok1 trivial) ?_
      refine dv (gyes_none rfl) (q_imask (m := 31) rfl rfl (by first | decide | omega)) rfl (by decide) (cok2 trivial (cconst rfl)) ?_
      refine dv (gyes_none rfl) (q_mv (v := .string (packT (l.take i))) rfl) rfl (by decide) (cok1 trivial) ?_
      refine dv (gyes_none rfl) (q_len_str Try.underlying9 rfl) rfl (by decide) (cok1 trivial) ?_
      refine dv (gyes_none rfl) (OpQ.cast (v' := .int .i64 ((((packT (l.take i)).size) - 1 : Nat) : Int)) (q_int rfl rfl rfl) (congrArg _ ((i64_in (by omega)).trans (by omega)))) rfl (by decide) (cok2 trivial (cconst rfl)) ?_
      refine dv (gyes_none rfl) (q_imask (m := (((packT (l.take i)).size) - 1)) rfl rfl (by omega)) rfl (by decide) (cok2 trivial trivial) ?_
      refine dv (gyes_none rfl) (OpQ.cast (v' := .int .i64 ((((packT (l.take i)).size) - (imask ((imask cut 31 : Nat) : Int) (((packT (l.take i)).size) - 1)) : Nat) : Int)) (q_int rfl rfl rfl) (congrArg _ ((i64_in (by omega)).trans (by omega)))) rfl (by decide) (cok2 trivial trivial) ?_
      refine dv (gyes_none rfl) (q_substr (i := 0) (j := (((packT (l.take i)).size) - (imask ((imask cut 31 : Nat) : Int) (((packT (l.take i)).size) - 1)))) Try.underlying9 rfl rfl ⟨_, rfl⟩ (by omega) (by omega)) rfl (by decide) (cok2 trivial trivial) ?_
      refine dv (gyes_none rfl) (q_as (v := .string ((packT (l.take i)).extract 0 (((packT (l.take i)).size) - (imask ((imask cut 31 : Nat) : Int) (((packT (l.take i)).size) - 1))))) rfl) rfl (by decide) (cok1 trivial) ?_
      refine ⟨_, Wk.refl _ _, ?_⟩
      show awp _ _ _ _ _ _ _
      refine awp_seq ?_
      have hb : ((packT (l.take i)).extract 0 ((packT (l.take i)).size - imask ((imask cut 31 : Nat) : Int) ((packT (l.take i)).size - 1))).size ≤ 2000 := by rw [size_extract (by omega)]; omega
      generalize (packT (l.take i)).extract 0 ((packT (l.take i)).size - imask ((imask cut 31 : Nat) : Int) ((packT (l.take i)).size - 1)) = b at hb ⊢
      refine awp_regs hF ?_
      refine dv (gyes_none rfl) (q_mv (v := .string t) rfl) rfl (by decide) (cok1 trivial) ?_
      refine dv (gyes_none rfl) (q_mv (v := .string b) rfl) rfl (by decide) (cok1 trivial) ?_
      refine dv (gyes_none rfl) (q_call0 Try.call9 rfl (file_ok t b ht (by omega))) rfl (by decide) (call_ok rfl) ?_
      refine dv (gyes_none rfl) (q_as (v := .string (fileB t b)) rfl) rfl (by decide) (cok1 trivial) ?_
      refine ⟨_, Wk.refl _ _, ?_⟩
      show awp _ _ _ _ _ _ _
      refine awp_seq ?_
      have hS := fileB_size t b (by omega)
      generalize fileB t b = S at hS ⊢
      have hln := hrL_len (s := S)
      refine awp_regs hF ?_
      refine dv (gyes_none rfl) (q_mv (v := .string S) rfl) rfl (by decide) (cok1 trivial) ?_
      refine x_call [] hF (by kernel_rfl) (gyes_none rfl) Try.call10 rfl (args := [.string S]) rfl (read_ok S (by omega)) (show _ < _ by decide) (call_ok rfl) rfl rfl (fun _ _ _ _ hd => by cases hd) ?_
      rintro _ H60 ⟨_, rfl, hk61, b59, rfl, hb62, hg63⟩
      have s64 := s6.callN hk61 hb62 hg63
      refine ⟨trivial, ?_⟩
      show dList _ _ _ _ _ _ _ _ _ _
      refine dv (gyes_none rfl) (q_mv (v := .tuple #[.agg #[.string (hrB S), .int .u64 ((hrE S : Nat) : Int), .slice (some ⟨b59, 0, none⟩) ((hrL S).length) ((hrL S).length)], .agg #[.int .i64 ((hrC S : Nat) : Int), .int .u64 ((hrA S : Nat) : Int), .string (⟨#[]⟩ : ByteArray)]]) rfl) rfl (by decide) (cok1 trivial) ?_
      refine dv (gyes_none rfl) (q_extract (v := .agg #[.string (hrB S), .int .u64 ((hrE S : Nat) : Int), .slice (some ⟨b59, 0, none⟩) ((hrL S).length) ((hrL S).length)]) rfl rfl) rfl (by decide) (cok1 trivial) ?_
      refine dv (gyes_none rfl) (q_extract (v := .agg #[.int .i64 ((hrC S : Nat) : Int), .int .u64 ((hrA S : Nat) : Int), .string (⟨#[]⟩ : ByteArray)]) rfl rfl) rfl (by decide) (cok1 trivial) ?_
      refine x_new (fun b => .pointer (some ⟨b, 0, none⟩)) s64 (gyes_none rfl) (q_alloc (vs := [.string ⟨#[]⟩, .int .u64 0, .slice none 0 0]) 3 Try.zeroValue33 (by first | exact flat_scalar rfl | exact flat_agg rfl) rfl) rfl (by decide) (by simp [Op.operands, Call.operands]) (fun b65 H66 hb68 s67 => ?_)
      refine x_new (fun b => .pointer (some ⟨b, 0, none⟩)) s67 (gyes_none rfl) (q_alloc (vs := [.int .i64 0, .int .u64 0, .string ⟨#[]⟩]) 3 Try.zeroValue36 (by first | exact flat_scalar rfl | exact flat_agg rfl) rfl) rfl (by decide) (by simp [Op.operands, Call.operands]) (fun b69 H70 hb72 s71 => ?_)
      refine x_store [] hF s71 (by kernel_rfl) (gyes_none rfl) (j := 1) (v := .agg #[.string (hrB S), .int .u64 ((hrE S : Nat) : Int), .slice (some ⟨b59, 0, none⟩) ((hrL S).length) ((hrL S).length)]) rfl Try.sizeOf33 rfl rfl rfl rfl rfl trivial (lcsA ⟨(lc_scalar rfl), (lc_scalar rfl), (lc_slice (s71.live (j := 2) rfl)), trivial⟩) (Nat.le_of_ble_eq_true rfl) trivial trivial rfl rfl (F' := [(b69, .cells true [.int .i64 0, .int .u64 0, .string ⟨#[]⟩] 3), (b65, .cells true [.string (hrB S), .int .u64 ((hrE S : Nat) : Int), .slice (some ⟨b59, 0, none⟩) ((hrL S).length) ((hrL S).length)] 3), (b59, .cells true (fl segc (hrL S)) 6), (bl, .cells true (fl entc (l.take i)) 2)]) rfl (fun H73 s74 => ⟨?_, ?_⟩)
      · exact trivial
      refine x_store [] hF s74 (by kernel_rfl) (gyes_none rfl) (j := 0) (v := .agg #[.int .i64 ((hrC S : Nat) : Int), .int .u64 ((hrA S : Nat) : Int), .string (⟨#[]⟩ : ByteArray)]) rfl Try.sizeOf36 rfl rfl rfl rfl rfl trivial (lcsA ⟨(lc_scalar rfl), (lc_scalar rfl), (lc_scalar rfl), trivial⟩) (Nat.le_of_ble_eq_true rfl) trivial trivial rfl rfl (F' := [(b69, .cells true [.int .i64 ((hrC S : Nat) : Int), .int .u64 ((hrA S : Nat) : Int), .string (⟨#[]⟩ : ByteArray)] 3), (b65, .cells true [.string (hrB S), .int .u64 ((hrE S : Nat) : Int), .slice (some ⟨b59, 0, none⟩) ((hrL S).length) ((hrL S).length)] 3), (b59, .cells true (fl segc (hrL S)) 6), (bl, .cells true (fl entc (l.take i)) 2)]) rfl (fun H75 s76 => ⟨?_, ?_⟩)
      · exact trivial
      refine ⟨_, Wk.refl _ _, ?_⟩
      show awp _ _ _ _ _ _ _
      refine awp_seq ?_
      refine awp_regs hF ?_
      refine dv (gyes_none rfl) (q_mv (v := .string S) rfl) rfl (by decide) (cok1 trivial) ?_
      refine x_call [] hF (by kernel_rfl) (gyes_none rfl) Try.call11 rfl (args := [.string S]) rfl (refRead_ok S (by omega)) (show _ < _ by decide) (call_ok rfl) rfl rfl (fun _ _ _ _ hd => by cases hd) ?_
      rintro _ H78 ⟨_, rfl, hk79, b77, rfl, hb80, hg81⟩
      have s82 := s76.callN hk79 hb80 hg81
      refine ⟨trivial, ?_⟩
      show dList _ _ _ _ _ _ _ _ _ _
      refine dv (gyes_none rfl) (q_mv (v := .tuple #[.int .u64 ((hrE S : Nat) : Int), .slice (some ⟨b77, 0, none⟩) ((hrL S).length) ((hrL S).length), .int .i64 ((hrC S : Nat) : Int), .int .u64 ((hrA S : Nat) : Int)]) rfl) rfl (by decide) (cok1 trivial) ?_
      refine dv (gyes_none rfl) (q_extract (v := .int .u64 ((hrE S : Nat) : Int)) rfl rfl) rfl (by decide) (cok1 trivial) ?_
      refine dv (gyes_none rfl) (q_extract (v := .slice (some ⟨b77, 0, none⟩) ((hrL S).length) ((hrL S).length)) rfl rfl) rfl (by decide) (cok1 trivial) ?_
      refine dv (gyes_none rfl) (q_extract (v := .int .i64 ((hrC S : Nat) : Int)) rfl rfl) rfl (by decide) (cok1 trivial) ?_
      refine dv (gyes_none rfl) (q_extract (v := .int .u64 ((hrA S : Nat) : Int)) rfl rfl) rfl (by decide) (cok1 trivial) ?_
      refine dv (gyes_none rfl) (q_as (v := .int .u64 ((hrE S : Nat) : Int)) rfl) rfl (by decide) (cok1 trivial) ?_
      refine dv (gyes_none rfl) (q_as (v := .slice (some ⟨b77, 0, none⟩) ((hrL S).length) ((hrL S).length)) rfl) rfl (by decide) (cok1 trivial) ?_
      refine dv (gyes_none rfl) (q_as (v := .int .i64 ((hrC S : Nat) : Int)) rfl) rfl (by decide) (cok1 trivial) ?_
      refine dv (gyes_none rfl) (q_as (v := .int .u64 ((hrA S : Nat) : Int)) rfl) rfl (by decide) (cok1 trivial) ?_
      refine ⟨_, Wk.refl _ _, ?_⟩
      show awp _ _ _ _ _ _ _
      refine awp_seq ?_
      refine awp_seq ?_
      refine awp_regs hF ?_
      refine dv (gyes_none rfl) (q_field Try.underlying36 rfl Try.sizeOf34 rfl (s82.rd (j := 1) rfl)) rfl (by decide) (cok1 trivial) ?_
      refine dv (gyes_none rfl) (q_load (v := .int .i64 ((hrC S : Nat) : Int)) Try.isAgg34 rfl (s82.rd (j := 1) rfl) rfl) rfl (by decide) (cok1 trivial) ?_
      refine dv (gyes_none rfl) (q_mv (v := .int .i64 ((hrC S : Nat) : Int)) rfl) rfl (by decide) (cok1 trivial) ?_
      refine dv (gyes_none rfl) (OpQ.cast (v' := .bool false) (q_int rfl rfl rfl) (congrArg Value.bool (bne_self_eq_false _))) rfl (by decide) (cok2 trivial trivial) ?_
      refine ⟨_, Wk.refl _ _, ?_⟩
      show awp _ _ _ _ _ _ _
      refine awp_cond_f rfl ?_
      refine awp_skip_wk ?_
      refine ⟨_, Wk.refl _ _, ?_⟩
      show awp _ _ _ _ _ _ _
      refine awp_seq ?_
      refine awp_seq ?_
      refine awp_regs hF ?_
      refine dv (gyes_none rfl) (q_mv (v := .int .i64 ((hrC S : Nat) : Int)) rfl) rfl (by decide) (cok1 trivial) ?_
      refine dvb (gyes_none rfl) (q_int rfl rfl rfl) rfl (by decide) (cok2 trivial (cconst rfl)) (fun c5 => ?_) (fun c5 => ?_)
      ·
        replace c5 := bne_iff_ne.1 c5
        refine ⟨_, Wk.refl _ _, ?_⟩
        show awp _ _ _ _ _ _ _
        refine awp_cond_t rfl ?_
        refine awp_seq ?_
        refine awp_regs hF ?_
        refine dv (gyes_none rfl) (q_as (v := .bool true) rfl) rfl (by decide) (cok1 (cconst rfl)) ?_
        refine ⟨_, Wk.refl _ _, ?_⟩
        show awp _ _ _ _ _ _ _
        refine awp_ret_wk ?_
        refine ⟨_, Wk.refl _ _, ?_⟩
        repeat (with_reducible first | refine then_ret ?_ | refine blk_ret ?_ | refine then_exit ?_ | refine blk_exit ?_ | refine blk_exit' (by decide) ?_ | refine blk_normal ?_ | refine then_normal ?_ | refine retq_ret ?_ | refine retq_normal ?_ | refine ng_normal ?_ | refine ng_ret ?_ | refine ng_exit ?_)
        exact ret_none (v := .bool true) rfl s82.kp (.tmp rfl .nil) rfl rfl ⟨rfl, rfl⟩
      ·
        replace c5 := bne_eq_false_iff_eq.1 c5
        have h0 : hrC S = 0 := by omega
        refine ⟨_, Wk.refl _ _, ?_⟩
        show awp _ _ _ _ _ _ _
        refine awp_cond_f rfl ?_
        refine awp_skip_wk ?_
        refine ⟨_, Wk.refl _ _, ?_⟩
        show awp _ _ _ _ _ _ _
        refine awp_seq ?_
        rw [hrB_y h0] at s82
        try rw [hrB_y h0]
        have hdl := drL_len (B := S) (l := hrL S)
        refine awp_regs hF ?_
        refine dv (gyes_none rfl) (q_loadAgg Try.isAgg33 Try.sizeOf33 rfl (s82.rd (j := 2) rfl) (Nat.le_of_ble_eq_true rfl) rfl) rfl (by decide) (cok1 trivial) ?_
        refine x_call [] hF (by kernel_rfl) (gyes_none rfl) Try.call12 rfl (args := [.agg #[.string S, .int .u64 ((hrE S : Nat) : Int), .slice (some ⟨b59, 0, none⟩) ((hrL S).length) ((hrL S).length)]]) rfl (dread_ok S (hrE S) _ (hrL S) (by omega) (s82.slsj (l := hrL S) segc_w (j := 3) rfl rfl (Nat.le_refl _)) (by omega) hrL_low hrL_in hrL_sgb) (show _ < _ by decide) (call_ok rfl) rfl rfl (fun _ _ _ _ hd => by cases hd) ?_
        rintro _ H84 ⟨_, rfl, hk85, b83, rfl, hb86, hg87⟩
        have s88 := s82.callN hk85 hb86 hg87
        refine ⟨trivial, ?_⟩
        show dList _ _ _ _ _ _ _ _ _ _
        refine dv (gyes_none rfl) (q_mv (v := .tuple #[.slice (some ⟨b83, 0, none⟩) ((drL S (hrL S)).length) ((drL S (hrL S)).length), .agg #[.int .i64 ((drC S (hrL S) : Nat) : Int), .int .u64 ((drA S (hrL S) : Nat) : Int), .string (⟨#[]⟩ : ByteArray)]]) rfl) rfl (by decide) (cok1 trivial) ?_
        refine dv (gyes_none rfl) (q_extract (v := .slice (some ⟨b83, 0, none⟩) ((drL S (hrL S)).length) ((drL S (hrL S)).length)) rfl rfl) rfl (by decide) (cok1 trivial) ?_
        refine dv (gyes_none rfl) (q_extract (v := .agg #[.int .i64 ((drC S (hrL S) : Nat) : Int), .int .u64 ((drA S (hrL S) : Nat) : Int), .string (⟨#[]⟩ : ByteArray)]) rfl rfl) rfl (by decide) (cok1 trivial) ?_
        refine x_new (fun b => .pointer (some ⟨b, 0, none⟩)) s88 (gyes_none rfl) (q_alloc (vs := [.int .i64 0, .int .u64 0, .string ⟨#[]⟩]) 3 Try.zeroValue36 (by first | exact flat_scalar rfl | exact flat_agg rfl) rfl) rfl (by decide) (by simp [Op.operands, Call.operands]) (fun b89 H90 hb92 s91 => ?_)
        refine dv (gyes_none rfl) (q_as (v := .slice (some ⟨b83, 0, none⟩) ((drL S (hrL S)).length) ((drL S (hrL S)).length)) rfl) rfl (by decide) (cok1 trivial) ?_
        refine x_store [] hF s91 (by kernel_rfl) (gyes_none rfl) (j := 0) (v := .agg #[.int .i64 ((drC S (hrL S) : Nat) : Int), .int .u64 ((drA S (hrL S) : Nat) : Int), .string (⟨#[]⟩ : ByteArray)]) rfl Try.sizeOf36 rfl rfl rfl rfl rfl trivial (lcsA ⟨(lc_scalar rfl), (lc_scalar rfl), (lc_scalar rfl), trivial⟩) (Nat.le_of_ble_eq_true rfl) trivial trivial rfl rfl (F' := [(b89, .cells true [.int .i64 ((drC S (hrL S) : Nat) : Int), .int .u64 ((drA S (hrL S) : Nat) : Int), .string (⟨#[]⟩ : ByteArray)] 3), (b83, .cells true (fl entc (drL S (hrL S))) 2), (b77, .cells true (fl segr (hrL S)) 6), (b69, .cells true [.int .i64 ((hrC S : Nat) : Int), .int .u64 ((hrA S : Nat) : Int), .string (⟨#[]⟩ : ByteArray)] 3), (b65, .cells true [.string S, .int .u64 ((hrE S : Nat) : Int), .slice (some ⟨b59, 0, none⟩) ((hrL S).length) ((hrL S).length)] 3), (b59, .cells true (fl segc (hrL S)) 6), (bl, .cells true (fl entc (l.take i)) 2)]) rfl (fun H93 s94 => ⟨?_, ?_⟩)
        · exact trivial
        refine ⟨_, Wk.refl _ _, ?_⟩
        show awp _ _ _ _ _ _ _
        refine awp_seq ?_
        refine awp_regs hF ?_
        refine dv (gyes_none rfl) (q_mv (v := .string S) rfl) rfl (by decide) (cok1 trivial) ?_
        refine dv (gyes_none rfl) (q_mv (v := .slice (some ⟨b77, 0, none⟩) ((hrL S).length) ((hrL S).length)) rfl) rfl (by decide) (cok1 trivial) ?_
        refine x_call [] hF (by kernel_rfl) (gyes_none rfl) Try.call13 rfl (args := [.string S, .slice (some ⟨b77, 0, none⟩) ((hrL S).length) ((hrL S).length)]) rfl (rdread_ok S _ (hrL S) (by omega) (s94.slsj (l := hrL S) segr_w (j := 2) rfl rfl (Nat.le_refl _)) (by omega) hrL_low hrL_in hrL_sgb) (show _ < _ by decide) (call_ok rfl) rfl rfl (fun _ _ _ _ hd => by cases hd) ?_
        rintro _ H96 ⟨_, rfl, hk97, b95, rfl, hb98, hg99⟩
        have s100 := s94.callN hk97 hb98 hg99
        refine ⟨trivial, ?_⟩
        show dList _ _ _ _ _ _ _ _ _ _
        refine dv (gyes_none rfl) (q_mv (v := .tuple #[.slice (some ⟨b95, 0, none⟩) ((drL S (hrL S)).length) ((drL S (hrL S)).length), .int .i64 ((drC S (hrL S) : Nat) : Int), .int .u64 ((drA S (hrL S) : Nat) : Int)]) rfl) rfl (by decide) (cok1 trivial) ?_
        refine dv (gyes_none rfl) (q_extract (v := .slice (some ⟨b95, 0, none⟩) ((drL S (hrL S)).length) ((drL S (hrL S)).length)) rfl rfl) rfl (by decide) (cok1 trivial) ?_
        refine dv (gyes_none rfl) (q_extract (v := .int .i64 ((drC S (hrL S) : Nat) : Int)) rfl rfl) rfl (by decide) (cok1 trivial) ?_
        refine dv (gyes_none rfl) (q_extract (v := .int .u64 ((drA S (hrL S) : Nat) : Int)) rfl rfl) rfl (by decide) (cok1 trivial) ?_
        refine dv (gyes_none rfl) (q_as (v := .slice (some ⟨b95, 0, none⟩) ((drL S (hrL S)).length) ((drL S (hrL S)).length)) rfl) rfl (by decide) (cok1 trivial) ?_
        refine dv (gyes_none rfl) (q_as (v := .int .i64 ((drC S (hrL S) : Nat) : Int)) rfl) rfl (by decide) (cok1 trivial) ?_
        refine dv (gyes_none rfl) (q_as (v := .int .u64 ((drA S (hrL S) : Nat) : Int)) rfl) rfl (by decide) (cok1 trivial) ?_
        refine ⟨_, Wk.refl _ _, ?_⟩
        show awp _ _ _ _ _ _ _
        refine awp_seq ?_
        refine awp_seq ?_
        refine awp_regs hF ?_
        refine dv (gyes_none rfl) (q_field Try.underlying36 rfl Try.sizeOf34 rfl (s100.rd (j := 1) rfl)) rfl (by decide) (cok1 trivial) ?_
        refine dv (gyes_none rfl) (q_load (v := .int .i64 ((drC S (hrL S) : Nat) : Int)) Try.isAgg34 rfl (s100.rd (j := 1) rfl) rfl) rfl (by decide) (cok1 trivial) ?_
        refine dv (gyes_none rfl) (q_mv (v := .int .i64 ((drC S (hrL S) : Nat) : Int)) rfl) rfl (by decide) (cok1 trivial) ?_
        refine dv (gyes_none rfl) (OpQ.cast (v' := .bool false) (q_int rfl rfl rfl) (congrArg Value.bool (bne_self_eq_false _))) rfl (by decide) (cok2 trivial trivial) ?_
        refine dv (gyes_none rfl) (q_mv (v := .bool false) rfl) rfl (by decide) (cok1 trivial) ?_
        refine dv (gyes_some rfl rfl) (q_field Try.underlying36 rfl Try.sizeOf25 rfl (s100.rd (j := 1) rfl)) rfl (by decide) (cok1 trivial) ?_
        refine dv (gyes_some rfl rfl) (q_load (v := .int .u64 ((drA S (hrL S) : Nat) : Int)) Try.isAgg25 rfl (s100.rd (j := 1) rfl) rfl) rfl (by decide) (cok1 trivial) ?_
        refine dv (gyes_some rfl rfl) (q_mv (v := .int .u64 ((drA S (hrL S) : Nat) : Int)) rfl) rfl (by decide) (cok1 trivial) ?_
        refine dv (gyes_some rfl rfl) (OpQ.cast (v' := .bool false) (q_int rfl rfl rfl) (congrArg Value.bool (bne_self_eq_false _))) rfl (by decide) (cok2 trivial trivial) ?_
        refine dv (gyes_none rfl) (q_pf (v := .bool false) rfl rfl) rfl (by decide) (call_ok rfl) ?_
        refine dv (gyes_none rfl) (q_mv (v := .bool false) rfl) rfl (by decide) (cok1 trivial) ?_
        refine dv (gyes_some rfl rfl) (q_mv (v := .slice (some ⟨b83, 0, none⟩) ((drL S (hrL S)).length) ((drL S (hrL S)).length)) rfl) rfl (by decide) (cok1 trivial) ?_
        refine dv (gyes_some rfl rfl) (q_len_slice Try.underlying43 rfl (s100.rd (j := 2) rfl)) rfl (by decide) (cok1 trivial) ?_
        refine dv (gyes_some rfl rfl) (q_mv (v := .slice (some ⟨b95, 0, none⟩) ((drL S (hrL S)).length) ((drL S (hrL S)).length)) rfl) rfl (by decide) (cok1 trivial) ?_
        refine dv (gyes_some rfl rfl) (q_len_slice Try.underlying24 rfl (s100.rd (j := 0) rfl)) rfl (by decide) (cok1 trivial) ?_
        refine dv (gyes_some rfl rfl) (OpQ.cast (v' := .bool false) (q_int rfl rfl rfl) (congrArg Value.bool (bne_self_eq_false _))) rfl (by decide) (cok2 trivial trivial) ?_
        refine dv (gyes_none rfl) (q_pf (v := .bool false) rfl rfl) rfl (by decide) (call_ok rfl) ?_
        refine ⟨_, Wk.refl _ _, ?_⟩
        show awp _ _ _ _ _ _ _
        refine awp_cond_f rfl ?_
        refine awp_skip_wk ?_
        refine ⟨_, Wk.refl _ _, ?_⟩
        show awp _ _ _ _ _ _ _
        refine awp_seq ?_
        refine awp_seq ?_
        refine awp_regs hF ?_
        refine dv (gyes_none rfl) (q_as (v := .int .i64 0) rfl) rfl (by decide) (cok1 (cconst rfl)) ?_
        refine ⟨_, Wk.refl _ _, ?_⟩
        show awp _ _ _ _ _ _ _
        refine awp_block ?_
        refine awp_wk (Wk.U [(17, .slice (some ⟨b83, 0, none⟩) ((drL S (hrL S)).length) ((drL S (hrL S)).length)), (19, .slice (some ⟨b95, 0, none⟩) ((drL S (hrL S)).length) ((drL S (hrL S)).length)), (22, .int .i64 0)] ⟨rfl, rfl, rfl, trivial⟩) ?_
        refine awp_loop (fun (k : Nat) st => ∃ (H101 : AHeap), st = ⟨120, U [(17, .slice (some ⟨b83, 0, none⟩) ((drL S (hrL S)).length) ((drL S (hrL S)).length)), (19, .slice (some ⟨b95, 0, none⟩) ((drL S (hrL S)).length) ((drL S (hrL S)).length)), (22, .int .i64 ((k : Nat) : Int))], [], H101⟩ ∧ St H0 (none0) (Rd H0) H101 [(b95, .cells true (fl entc (drL S (hrL S))) 2), (b89, .cells true [.int .i64 ((drC S (hrL S) : Nat) : Int), .int .u64 ((drA S (hrL S) : Nat) : Int), .string (⟨#[]⟩ : ByteArray)] 3), (b83, .cells true (fl entc (drL S (hrL S))) 2), (b77, .cells true (fl segr (hrL S)) 6), (b69, .cells true [.int .i64 ((hrC S : Nat) : Int), .int .u64 ((hrA S : Nat) : Int), .string (⟨#[]⟩ : ByteArray)] 3), (b65, .cells true [.string S, .int .u64 ((hrE S : Nat) : Int), .slice (some ⟨b59, 0, none⟩) ((hrL S).length) ((hrL S).length)] 3), (b59, .cells true (fl segc (hrL S)) 6), (bl, .cells true (fl entc (l.take i)) 2)]) (fun (k : Nat) => (drL S (hrL S)).length - k) (x0 := (0)) ?h0 ?round
        case h0 =>
          exact ⟨_, rfl, s100⟩
        case round =>
          rintro k _ ⟨H101, rfl, s102⟩
          refine awp_seq ?_
          refine awp_seq ?_
          refine awp_regs hF ?_
          refine dv (gyes_none rfl) (q_mv (v := .int .i64 ((k : Nat) : Int)) rfl) rfl (by decide) (cok1 trivial) ?_
          refine dv (gyes_none rfl) (q_mv (v := .slice (some ⟨b95, 0, none⟩) ((drL S (hrL S)).length) ((drL S (hrL S)).length)) rfl) rfl (by decide) (cok1 trivial) ?_
          refine dv (gyes_none rfl) (q_len_slice Try.underlying24 rfl (s102.rd (j := 0) rfl)) rfl (by decide) (cok1 trivial) ?_
          refine dvb (gyes_none rfl) (q_int rfl rfl rfl) rfl (by decide) (cok2 trivial trivial) (fun c6 => ?_) (fun c6 => ?_)
          ·
            replace c6 := of_decide_eq_true c6
            refine ⟨_, Wk.refl _ _, ?_⟩
            show awp _ _ _ _ _ _ _
            refine awp_cond_t rfl ?_
            refine awp_skip_wk ?_
            refine ⟨_, Wk.refl _ _, ?_⟩
            show awp _ _ _ _ _ _ _
            refine awp_seq ?_
            refine awp_block ?_
            refine awp_seq ?_
            refine awp_regt hF hM (by kernel_rfl) (by kernel_rfl) ?_
            refine dv (gyes_none rfl) (q_mv (v := .slice (some ⟨b83, 0, none⟩) ((drL S (hrL S)).length) ((drL S (hrL S)).length)) rfl) rfl (by decide) (cok1 trivial) ?_
            refine dv (gyes_none rfl) (q_mv (v := .int .i64 ((k : Nat) : Int)) rfl) rfl (by decide) (cok1 trivial) ?_
            refine dv (gyes_none rfl) (OpQ.cast (v' := .pointer (some ⟨b83, k * 2, none⟩)) (q_index (u := 0) (i := k) Try.underlying43 Try.sizeOf48 rfl rfl (by omega) (s102.rd (j := 2) rfl)) (by rw [Nat.zero_add])) rfl (by decide) (cok2 trivial trivial) ?_
            refine dv (gyes_none rfl) (q_loadAgg (us := entc (nth (drL S (hrL S)) k)) Try.isAgg48 Try.sizeOf48 rfl (s102.rd (j := 2) rfl) (fl_room entc_w (by omega)) (fl_at entc_w (by omega))) rfl (by decide) (cok1 trivial) ?_
            refine dv (gyes_none rfl) (q_mv (v := .slice (some ⟨b95, 0, none⟩) ((drL S (hrL S)).length) ((drL S (hrL S)).length)) rfl) rfl (by decide) (cok1 trivial) ?_
            refine dv (gyes_none rfl) (q_mv (v := .int .i64 ((k : Nat) : Int)) rfl) rfl (by decide) (cok1 trivial) ?_
            refine dv (gyes_none rfl) (OpQ.cast (v' := .pointer (some ⟨b95, k * 2, none⟩)) (q_index (u := 0) (i := k) Try.underlying24 Try.sizeOf27 rfl rfl (by omega) (s102.rd (j := 0) rfl)) (by rw [Nat.zero_add])) rfl (by decide) (cok2 trivial trivial) ?_
            refine dv (gyes_none rfl) (q_loadAgg (us := entc (nth (drL S (hrL S)) k)) Try.isAgg27 Try.sizeOf27 rfl (s102.rd (j := 0) rfl) (fl_room entc_w (by omega)) (fl_at entc_w (by omega))) rfl (by decide) (cok1 trivial) ?_
            refine dv (gyes_none rfl) (q_aggne (c := [.int .u64 (((nth (drL S (hrL S)) k).1 : Nat) : Int), .int .u64 (((nth (drL S (hrL S)) k).2 : Nat) : Int)]) (fun v hv => by simp at hv; rcases hv with rfl | rfl <;> rfl) rfl rfl (by kernel_rfl) (fun w => eq27 _ _ w)) rfl (by decide) (cok2 trivial trivial) ?_
            refine ⟨_, Wk.refl _ _, ?_⟩
            show awp _ _ _ _ _ _ _
            refine awp_cond_f rfl ?_
            refine awp_skip_wk ?_
            refine ⟨_, Wk.refl _ _, ?_⟩
            show awp _ _ _ _ _ _ _
            refine awp_regs hF ?_
            refine dv (gyes_none rfl) (q_mv (v := .int .i64 ((k : Nat) : Int)) rfl) rfl (by decide) (cok1 trivial) ?_
            refine dv (gyes_none rfl) (OpQ.cast (v' := .int .i64 ((k + 1 : Nat) : Int)) (q_int rfl rfl rfl) (congrArg _ ((i64_in (by omega)).trans (by first | rfl | omega | (push_cast; rfl))))) rfl (by decide) (cok2 trivial (cconst rfl)) ?_
            refine dv (gyes_none rfl) (q_as (v := .int .i64 ((k + 1 : Nat) : Int)) rfl) rfl (by decide) (cok1 trivial) ?_
            refine ⟨_, Wk.U [(17, .slice (some ⟨b83, 0, none⟩) ((drL S (hrL S)).length) ((drL S (hrL S)).length)), (19, .slice (some ⟨b95, 0, none⟩) ((drL S (hrL S)).length) ((drL S (hrL S)).length)), (22, .int .i64 (((k + 1) : Nat) : Int))] ⟨rfl, rfl, rfl, trivial⟩, (k + 1), ⟨_, rfl, s102⟩, (by omega)⟩
          ·
            replace c6 := of_decide_eq_false c6
            refine ⟨_, Wk.refl _ _, ?_⟩
            show awp _ _ _ _ _ _ _
            refine awp_cond_f rfl ?_
            refine awp_exit_wk ?_
            refine ⟨_, Wk.refl _ _, ?_⟩
            show awp _ _ _ _ _ _ _
            refine awp_seq ?_
            refine awp_regs hF ?_
            refine dv (gyes_none rfl) (q_as (v := .bool true) rfl) rfl (by decide) (cok1 (cconst rfl)) ?_
            refine ⟨_, Wk.refl _ _, ?_⟩
            show awp _ _ _ _ _ _ _
            refine awp_ret_wk ?_
            refine ⟨_, Wk.refl _ _, ?_⟩
            repeat (with_reducible first | refine then_ret ?_ | refine blk_ret ?_ | refine then_exit ?_ | refine blk_exit ?_ | refine blk_exit' (by decide) ?_ | refine blk_normal ?_ | refine then_normal ?_ | refine retq_ret ?_ | refine retq_normal ?_ | refine ng_normal ?_ | refine ng_ret ?_ | refine ng_exit ?_)
            exact ret_none (v := .bool true) rfl s102.kp (.tmp rfl .nil) rfl rfl ⟨rfl, rfl⟩

end Go.Proofs.YthfndghgfabbjaaA


/-
  From a law's arguments, slices among them, to abstract states.
-/
namespace Go.Proofs.YthfndghgfabbjaaA
set_option linter.unusedVariables false
open Go Go.RowKit Go.Shelf
/-- The places of the arguments' blocks. -/
def rhoOf (ls : List (Option Loc)) : Ren := fun b => match ls[b]? with | some (some l) => .at l | _ => .none
/-- A block of an argument, or none. -/
def ArgO (W : World) (ol : Option Loc) (o : AObj) : Prop :=
  (ol = none ∧ o = .none) ∨ ∃ lc vs, ol = some lc ∧ o = .cells false vs 1 ∧ lc.blk < W.heap.size ∧ ∀ ρ, ORel ρ lc W (.cells false vs 1)
def ArgOs (W : World) : List (Option Loc) → AHeap → Prop
  | [], [] => True
  | ol :: ls, o :: H => ArgO W ol o ∧ ArgOs W ls H
  | _, _ => False
theorem ArgOs.at {W : World} : ∀ {ls : List (Option Loc)} {H : AHeap}, ArgOs W ls H → ∀ (b : Nat) (ol : Option Loc), ls[b]? = some ol → ∃ o : AObj, H[b]? = some o ∧ ArgO W ol o
  | [], [], _, b, ol, h => by simp at h
  | [], _ :: _, h, _, _, _ => h.elim
  | _ :: _, [], h, _, _, _ => h.elim
  | x :: ls, o :: H, ⟨h1, h2⟩, b, ol, h => by
    cases b with
    | zero => simp at h; subst h; exact ⟨o, by simp, h1⟩
    | succ b => simpa using ArgOs.at h2 b ol (by simpa using h)
theorem ArgOs.at' {W : World} : ∀ {ls : List (Option Loc)} {H : AHeap}, ArgOs W ls H → ∀ (b : Nat) (o : AObj), H[b]? = some o → ∃ ol : Option Loc, ls[b]? = some ol ∧ ArgO W ol o
  | [], [], _, b, o, h => by simp at h
  | [], _ :: _, h, _, _, _ => h.elim
  | _ :: _, [], h, _, _, _ => h.elim
  | x :: ls, o' :: H, ⟨h1, h2⟩, b, o, h => by
    cases b with
    | zero => simp at h; subst h; exact ⟨x, by simp, h1⟩
    | succ b => simpa using ArgOs.at' h2 b o (by simpa using h)
theorem ArgOs.len {W : World} : ∀ {ls : List (Option Loc)} {H : AHeap}, ArgOs W ls H → ls.length = H.length
  | [], [], _ => rfl
  | [], _ :: _, h => h.elim
  | _ :: _, [], h => h.elim
  | x :: ls, o' :: H, ⟨h1, h2⟩ => by simp [ArgOs.len h2]
/-- A slice that came as an argument: its block, its value. -/
structure SArg {α : Type} (f : α → Value) (w : World) (v : Value) (l : List α) (b : Nat) (ol : Option Loc) (o : AObj) (va : Value) : Prop where
  obj : ArgO w ol o
  val : ∀ ρ : Ren, (∀ lc, ol = some lc → ρ b = .at lc) → VRel ρ va v
  sl : ∀ H : AHeap, H[b]? = some o → Sl f H va l
end Go.Proofs.YthfndghgfabbjaaA


/-
  Slices among a law's arguments, as the row's facts tell of them.
-/
namespace Go.Proofs.YthfndghgfabbjaaA
set_option linter.unusedVariables false
open Go Go.RowKit Go.Shelf Go.ChangeShapes
def RowF {α : Type} (f : α → Value) (w : World) (a : Option Addr) (len cap : Nat) (zs : List α) : Prop :=
  (a = none ∧ len = 0 ∧ cap = 0) ∨ ∃ x, a = some x ∧ x.spot = none ∧ len ≤ cap ∧ zs.length = cap ∧ (∃ cs T fr, w.heap[x.block]? = some (.cells cs T fr)) ∧ ∀ i (h : i < zs.length), w.cell? (x.add i) = some (f zs[i])
end Go.Proofs.YthfndghgfabbjaaA


/-
  A law's arguments, slices and slices of slices among them, as blocks.
-/
namespace Go.Proofs.YthfndghgfabbjaaA
set_option linter.unusedVariables false
open Go Go.RowKit Go.Shelf Go.ChangeShapes
def rhoP (ls : List Plc) : Ren := fun b => ls.getD b .none
def AtOff (ρ : Ren) (off : Nat) (ls : List Plc) : Prop := ∀ (i : Nat) (p : Plc), ls[i]? = some p → ρ (off + i) = p
def InH (H : AHeap) (off : Nat) (L : AHeap) : Prop := ∀ (i : Nat) (o : AObj), L[i]? = some o → H[off + i]? = some o
theorem AtOff.app {ρ : Ren} {off : Nat} {a b : List Plc} (h : AtOff ρ off (a ++ b)) : AtOff ρ off a ∧ AtOff ρ (off + a.length) b := by
  refine ⟨fun i p hi => h i p ?_, fun i p hi => ?_⟩
  · rw [List.getElem?_append_left (List.getElem?_eq_some_iff.1 hi).1]; exact hi
  · have := h (a.length + i) p (by rw [List.getElem?_append_right (by omega)]; simpa using hi)
    rw [Nat.add_assoc]; exact this
theorem InH.app {H : AHeap} {off : Nat} {a b : AHeap} (h : InH H off (a ++ b)) : InH H off a ∧ InH H (off + a.length) b := by
  refine ⟨fun i p hi => h i p ?_, fun i p hi => ?_⟩
  · rw [List.getElem?_append_left (List.getElem?_eq_some_iff.1 hi).1]; exact hi
  · have := h (a.length + i) p (by rw [List.getElem?_append_right (by omega)]; simpa using hi)
    rw [Nat.add_assoc]; exact this
theorem InH.refl (H : AHeap) : InH H 0 H := fun i o h => by rw [Nat.zero_add]; exact h
def ArgP (ρ : Ren) (w : World) (p : Plc) (o : AObj) : Prop :=
  (p = .none ∧ o = .none) ∨ (p = .null ∧ o = .null) ∨ ∃ lc vs sz, p = .at lc ∧ o = .cells false vs sz ∧ lc.blk < w.heap.size ∧ ORel ρ lc w (.cells false vs sz)
structure PArg (w : World) (v : Value) (off : Nat) (ls : List Plc) (L : AHeap) (va : Value) : Prop where
  len : ls.length = L.length
  obj : ∀ ρ : Ren, AtOff ρ off ls → ∀ (i : Nat) (p : Plc), ls[i]? = some p → ∃ o : AObj, L[i]? = some o ∧ ArgP ρ w p o
  val : ∀ ρ, AtOff ρ off ls → VRel ρ va v
inductive PAll (w : World) : Nat → List Value → List Plc → AHeap → List Value → Prop
  | nil (off : Nat) : PAll w off [] [] [] []
  | cons {off : Nat} {v va : Value} {vs vas : List Value} {ls ls' : List Plc} {L L' : AHeap} (h : PArg w v off ls L va) (k : PAll w (off + ls.length) vs ls' L' vas) : PAll w off (v :: vs) (ls ++ ls') (L ++ L') (va :: vas)
theorem PArg.scalar {w : World} {v : Value} (off : Nat) (h : Scalar v = true) : PArg w v off [] [] v := ⟨rfl, fun ρ _ i p h => by simp at h, fun ρ _ => .scalar h ρ⟩
theorem PAll.sum {w : World} : ∀ {off : Nat} {vs vas : List Value} {ls : List Plc} {L : AHeap}, PAll w off vs ls L vas → ls.length = L.length ∧ (∀ ρ : Ren, AtOff ρ off ls → (∀ (i : Nat) (p : Plc), ls[i]? = some p → ∃ o : AObj, L[i]? = some o ∧ ArgP ρ w p o) ∧ LRel ρ vas vs) := by
  intro off vs vas ls L h
  induction h with
  | nil off => exact ⟨rfl, fun ρ _ => ⟨fun i p h => by simp at h, .nil ρ⟩⟩
  | @cons off v va vs vas ls ls' L L' h k ih =>
    refine ⟨by rw [List.length_append, List.length_append, h.len, ih.1], fun ρ hρ => ?_⟩
    obtain ⟨h1, h2⟩ := hρ.app
    obtain ⟨h3, h4⟩ := ih.2 ρ h2
    refine ⟨fun i p hi => ?_, .cons (h.val ρ h1) h4⟩
    by_cases e : i < ls.length
    · rw [List.getElem?_append_left e] at hi
      obtain ⟨o, k1, k2⟩ := h.obj ρ h1 i p hi
      exact ⟨o, by rw [List.getElem?_append_left (by rw [← h.len]; exact e)]; exact k1, k2⟩
    · rw [List.getElem?_append_right (by omega)] at hi
      obtain ⟨o, k1, k2⟩ := h3 _ p hi
      exact ⟨o, by rw [List.getElem?_append_right (by rw [← h.len]; omega), ← h.len]; exact k1, k2⟩
theorem world_of_acallsP {P : Program} {f : FuncId} {args : List Value} {args' : Array Value} {H : AHeap} {ls : List Plc} {v : Value} {w : World} (hA : PAll w 0 args'.toList ls H args) (hv : Scalar v = true) (h : ACalls P f args H (Rets v H)) :
    Calls P f args' w fun e w' => e = .returned v ∧ Below w.heap.size w w' := by
  obtain ⟨hlen, hs⟩ := hA.sum
  have hat : AtOff (rhoP ls) 0 ls := fun i p hi => by
    rw [Nat.zero_add]; unfold rhoP; rw [List.getD_eq_getElem?_getD, hi]; rfl
  obtain ⟨hob, hval⟩ := hs _ hat
  have hrev : ∀ (b : Nat) (o : AObj), H[b]? = some o → ∃ p, ls[b]? = some p ∧ ArgP (rhoP ls) w p o := fun b o hb => by
    have hbl := (List.getElem?_eq_some_iff.1 hb).1
    obtain ⟨o', h1, h2⟩ := hob b _ (List.getElem?_eq_getElem (by rw [hlen]; exact hbl))
    rw [hb] at h1; cases h1
    exact ⟨_, List.getElem?_eq_getElem (by rw [hlen]; exact hbl), h2⟩
  have hget : ∀ b p, rhoP ls b = p → p ≠ .none → ls[b]? = some p := fun b p hb hn => by
    unfold rhoP at hb
    rw [List.getD_eq_getElem?_getD] at hb
    cases e : ls[b]? with
    | none => rw [e] at hb; exact absurd hb.symm hn
    | some q => rw [e] at hb; exact congrArg some hb
  have hnw : ∀ b l, rhoP ls b = .at l → ¬ wr H b := fun b l hb ⟨o, h1, h2⟩ => by
    obtain ⟨o', h3, h4⟩ := hob b _ (hget b _ hb (by simp))
    rw [h1] at h3; cases h3
    rcases h4 with ⟨h3, _⟩ | ⟨h3, _⟩ | ⟨lc, vs, sz, h3, rfl, _⟩
    · cases h3
    · cases h3
    · cases h2
  have hh : HRel (rhoP ls) H w := by
    refine ⟨fun b hb => ?_, fun b l hb => ?_, fun b c l m _ hb _ hw => absurd hw (hnw b l hb), fun g vs sz hg => ?_, fun b hb => ?_⟩
    · unfold rhoP
      rw [List.getD_eq_getElem?_getD, List.getElem?_eq_none (by rw [hlen]; exact hb)]; rfl
    · obtain ⟨o, h1, h2⟩ := hob b _ (hget b _ hb (by simp))
      rcases h2 with ⟨h3, _⟩ | ⟨h3, _⟩ | ⟨lc, vs, sz, h3, rfl, h4, h5⟩
      · cases h3
      · cases h3
      · cases h3; exact ⟨_, h1, h4, h5⟩
    · obtain ⟨p, _, h3⟩ := hrev g _ hg
      rcases h3 with ⟨_, h3⟩ | ⟨_, h3⟩ | ⟨lc, vs, sz, _, h3, _⟩ <;> cases h3
    · obtain ⟨o, h1, h2⟩ := hob b _ (hget b _ hb (by simp))
      rcases h2 with ⟨h3, _⟩ | ⟨h3, _⟩ | ⟨lc, vs, sz, h3, _⟩ <;> cases h3
  refine (h _ w args' hh hval).mono ?_
  rintro e w' ⟨v1, v', H', ρ', rfl, ⟨rfl, rfl⟩, k1, k2, k3, k4⟩
  rw [k1.scalar_eq hv]
  exact ⟨rfl, k3.os, k3.tape, k3.output, k3.size, fun k hk => k3.keep k hk fun ⟨b, l, hb, _, hw⟩ => hnw b l hb hw⟩
/-! ### Slices that came in -/
/-- A slice in the world: its elements, of one cell each. -/
def SlC {α : Type} (f : α → Value) (w : World) (u : Value) (r : List α) : Prop :=
  (u = .slice none 0 0 ∧ r = []) ∨ ∃ x l c, u = .slice (some x) l c ∧ l ≤ c ∧ r.length = l ∧ (c = 0 ∨ (x.spot = none ∧ ∃ cs T fr, w.heap[x.block]? = some (.cells cs T fr) ∧ x.off + c ≤ cs.size ∧ ∀ i (h : i < r.length), cs[x.off + i]? = some (f r[i])))
theorem AtOff.one {ρ : Ren} {off : Nat} {p : Plc} (h : AtOff ρ off [p]) : ρ off = p := h 0 p rfl
theorem parg_one {w : World} {v va : Value} {off : Nat} {p : Plc} {o : AObj} (h1 : ∀ ρ, ρ off = p → ArgP ρ w p o) (h2 : ∀ ρ, ρ off = p → VRel ρ va v) : PArg w v off [p] [o] va :=
  ⟨rfl, fun ρ hρ i q hi => by
    cases i with
    | zero => simp at hi; subst hi; exact ⟨o, rfl, h1 ρ hρ.one⟩
    | succ i => simp at hi, fun ρ hρ => h2 ρ hρ.one⟩
/-- A slice of slices. -/
structure Sl2C {α : Type} (f : α → Value) (w : World) (u : Value) (us : List Value) (rs : List (List α)) : Prop where
  out : SlC (fun v : Value => v) w u us
  len : us.length = rs.length
  row : ∀ i (h : i < us.length), SlC f w us[i] (nth rs i)
/-! ### From the row's facts -/
theorem addr_at {x : Addr} (hsp : x.spot = none) (i : Nat) : x.add i = ⟨x.block, x.off + i, none⟩ := by
  have hx : x = ⟨x.block, x.off, none⟩ := by cases x; simp at hsp; subst hsp; rfl
  rw [hx]
  unfold Addr.add
  split
  · subst i; rfl
  · rfl
theorem cell_some {w : World} {a : Addr} {v : Value} (h : w.cell? a = some v) : a.spot = none ∧ ∃ cs T fr, w.heap[a.block]? = some (.cells cs T fr) ∧ cs[a.off]? = some v := by
  unfold World.cell? at h
  split at h
  · rename_i c T fr hb
    split at h
    · cases h
    · rename_i hs
      exact ⟨by simpa using hs, c, T, fr, hb, h⟩
  · cases h
/-! ### Arrays that came in -/
end Go.Proofs.YthfndghgfabbjaaA


/-
  A law's arguments: slices whose elements are structs or arrays, and arrays of numbers.
-/
namespace Go.Proofs.YthfndghgfabbjaaA
set_option linter.unusedVariables false
open Go Go.RowKit Go.Shelf Go.ChangeShapes Go.WideShapes
section
variable {α : Type} [Inhabited α] {f : α → List Value} {m : Nat}
def SlCm (f : α → List Value) (m : Nat) (w : World) (u : Value) (r : List α) : Prop :=
  (u = .slice none 0 0 ∧ r = []) ∨ ∃ x l c, u = .slice (some x) l c ∧ l ≤ c ∧ r.length = l ∧ (c = 0 ∨ (x.spot = none ∧ ∃ cs T fr, w.heap[x.block]? = some (.cells cs T fr) ∧ x.off + c * m ≤ cs.size ∧ ∀ i (h : i < r.length), ∀ j, j < m → cs[x.off + i * m + j]? = (f (nth r i))[j]?))
theorem parg_rowm (hw : Wm f m) (hm : 0 < m) (hf : ∀ x, ∀ u ∈ f x, Scalar u = true) {w : World} {u : Value} {r : List α} (h : SlCm f m w u r) (off : Nat) : ∃ p o va, PArg w u off [p] [o] va ∧ ∀ H, InH H off [o] → SlS f m H va r := by
  rcases h with ⟨rfl, rfl⟩ | ⟨x, l, c, rfl, hl, hr, h⟩
  · exact ⟨.none, .none, .slice none 0 0, parg_one (fun ρ _ => .inl ⟨rfl, rfl⟩) (fun ρ _ => .nilSlice), fun H _ => .nil⟩
  · by_cases h0 : c = 0
    · subst h0
      obtain rfl : l = 0 := by omega
      obtain rfl : r = [] := List.length_eq_zero_iff.1 hr
      exact ⟨.null, .null, .slice (some ⟨off, 0, none⟩) 0 0, parg_one (fun ρ _ => .inr (.inl ⟨rfl, rfl⟩)) (fun ρ h => .empty h), fun H hH => .inr ⟨off, 0, 0, [], rfl, .inr (.inr ⟨hH 0 _ rfl, rfl⟩), by simp, by simp, by simp [fl]⟩⟩
    · obtain ⟨hsp, cs, T, fr, hb, hsz, hc⟩ := h.resolve_left h0
      have hlt : x.block < w.heap.size := (Array.getElem?_eq_some_iff.1 hb).1
      have hx : x = ⟨x.block, x.off, none⟩ := by cases x; simp at hsp; subst hsp; rfl
      have hlen : (fl f r).length = l * m := by rw [fl_len hw, hr]
      have hlm : l * m ≤ c * m := Nat.mul_le_mul_right m hl
      refine ⟨.at ⟨x.block, x.off, x.off + c * m, m⟩, .cells false (fl f r) m, .slice (some ⟨off, 0, none⟩) l c, parg_one (fun ρ hρ => .inr (.inr ⟨_, _, _, rfl, rfl, hlt, rfl, cs, T, fr, hb, by rw [hlen]; show x.off + l * m ≤ x.off + c * m; omega, hsz, fun i hi => ?_, fun h => by cases h⟩)) (fun ρ hρ => ?_), fun H hH => ?_⟩
      · have hi1 : i < l * m := by rw [← hlen]; exact hi
        have hq : i / m < r.length := by rw [hr]; exact Nat.div_lt_of_lt_mul (by rw [Nat.mul_comm]; exact hi1)
        have hj : i % m < m := Nat.mod_lt _ hm
        have hij : i / m * m + i % m = i := by rw [Nat.mul_comm]; exact Nat.div_add_mod i m
        have h1 := hc (i / m) hq (i % m) hj
        have h2 := fl_get hw hq hj
        rw [hij] at h2
        rw [show x.off + i / m * m + i % m = x.off + i by omega, ← h2] at h1
        have h3 : (fl f r)[i]? = some (fl f r)[i] := List.getElem?_eq_getElem hi
        rw [h3] at h1
        show VRel ρ ((fl f r).getD i undef) (cs.getD (x.off + i) undef)
        rw [List.getD_eq_getElem?_getD, h3, Array.getD_eq_getD_getElem?, h1]
        have hmem : (fl f r)[i] ∈ fl f r := List.getElem_mem hi
        obtain ⟨y, _, hy⟩ := List.mem_flatMap.1 hmem
        exact .scalar (hf y _ hy) ρ
      · rw [hx]
        exact .slice hρ hl (Nat.le_refl _) (.inl rfl) (by show x.off + 0 + c * m ≤ x.off + c * m; omega)
      · exact .inr ⟨off, 0, c, fl f r, by rw [hr], .inl ⟨false, hH 0 _ rfl⟩, by rw [hlen, hr]; omega, by omega, by rw [List.drop_zero, List.take_of_length_le (by rw [hlen, hr]; exact Nat.le_refl _)]⟩
def ElemOk (P : Program) (e : TypeId) (f : α → List Value) (ok : α → Prop) : Prop := ∀ (H : Type) (enc : TypeId × Value → H) (w : World) (base fuel : Nat) (cs : List Value) (x : DataW H × List MemPlace), DataW.trod enc P w base (fun _ => true) true fuel e cs = some x → ∃ a, cs = f a ∧ ok a
theorem trod_elems {H : Type} {enc : TypeId × Value → H} {P : Program} {w : World} {base fuel : Nat} {t e : TypeId} {u : Value} {x : DataW H × List MemPlace} {ok : α → Prop} (ht : P.underlying t = some (.slice e)) (hc : P.cellsOf e = m) (hm : 0 < m) (hw : Wm f m) (hE : ElemOk P e f ok)
    (h : DataW.trod enc P w base (fun _ => true) true fuel t [u] = some x) : ∃ r, SlCm f m w u r ∧ ∀ a ∈ r, ok a := by
  rcases Go.Deep.open_slice ht h with ⟨hcs, _⟩ | ⟨a, l, c, mm, n, D, Pl, hcs, hb, hl, hmx, hmm, _, hx⟩
  · simp at hcs; subst hcs
    exact ⟨[], .inl ⟨rfl, rfl⟩, by simp⟩
  · simp at hcs; subst hcs
    simp at hmm
    subst hmm
    rw [hc] at hx
    have hex : ∀ i : Nat, ∃ g : α, i < mm → ok g ∧ ∀ j, j < m → w.cell? (a.add (i * m + j)) = (f g)[j]? := fun i => by
      by_cases hi : i < mm
      · obtain ⟨cs', h1, h2⟩ := hx i hi
        obtain ⟨g, rfl, hg⟩ := hE _ _ _ _ _ _ _ h2
        obtain ⟨_, _, hcell⟩ := World.cells?_some h1
        exact ⟨g, fun _ => ⟨hg, fun j hj => by have := hcell j hj; rwa [Go.Deep.add_add] at this⟩⟩
      · exact ⟨default, fun h => absurd h hi⟩
    obtain ⟨g, hg⟩ : ∃ g : Nat → α, ∀ i, i < mm → ok (g i) ∧ ∀ j, j < m → w.cell? (a.add (i * m + j)) = (f (g i))[j]? := ⟨fun i => (hex i).choose, fun i => (hex i).choose_spec⟩
    refine ⟨(List.range l).map g, .inr ⟨a, l, mm, rfl, hl, by simp, ?_⟩, fun b hb' => ?_⟩
    · by_cases h0 : mm = 0
      · exact .inl h0
      · right
        have some' : ∀ i j, i < mm → j < m → ∃ v, w.cell? (a.add (i * m + j)) = some v := fun i j hi hj => by
          rw [(hg i hi).2 j hj]; exact ⟨_, List.getElem?_eq_getElem (by rw [hw]; exact hj)⟩
        obtain ⟨v0, h1⟩ := some' 0 0 (by omega) hm
        have e0 : a.add (0 * m + 0) = a := by rw [Nat.zero_mul]; unfold Addr.add; rw [if_pos rfl]
        rw [e0] at h1
        obtain ⟨hsp, cs, T, fr, hbk, _⟩ := cell_some h1
        have at' : ∀ i v, w.cell? (a.add i) = some v → cs[a.off + i]? = some v := fun i v h => by
          rw [addr_at hsp] at h
          obtain ⟨_, cs', T', fr', hb', h2⟩ := cell_some h
          simp only at hb' h2
          rw [hbk] at hb'; cases hb'
          exact h2
        refine ⟨hsp, cs, T, fr, hbk, ?_, fun i h j hj => ?_⟩
        · obtain ⟨v, h2⟩ := some' (mm - 1) (m - 1) (by omega) (by omega)
          have h3 := (Array.getElem?_eq_some_iff.1 (at' _ _ h2)).1
          have h4 : (mm - 1) * m + m = mm * m := by
            conv => rhs; rw [show mm = (mm - 1) + 1 by omega, Nat.add_mul, Nat.one_mul]
          omega
        · have hil : i < l := by simpa using h
          obtain ⟨v, h2⟩ := some' i j (by omega) hj
          have h3 := at' _ _ h2
          rw [(hg i (by omega)).2 j hj] at h2
          rw [Nat.add_assoc, h3, nth_eq (by simpa using hil)]
          simp only [List.getElem_map, List.getElem_range]
          exact h2.symm
    · obtain ⟨i, hi, rfl⟩ := List.mem_map.1 hb'
      exact (hg i (by have := List.mem_range.1 hi; omega)).1
end
section
variable {H : Type} {enc : TypeId × Value → H} {P : Program} {w : World} {base fuel : Nat} {t e : TypeId} {cs : List Value} {x : DataW H × List MemPlace}
theorem take1 {o : Nat} {v : Value} (h : (cs.drop o).take 1 = [v]) : cs[o]? = some v := by
  have h1 : ((cs.drop o).take 1)[0]? = some v := by rw [h]; rfl
  rw [List.getElem?_take, if_pos (by decide), List.getElem?_drop] at h1
  exact h1
theorem trod_len {fs : Array Field} (hs : P.underlying e = some (.struct fs)) (h : DataW.trod enc P w base (fun _ => true) true fuel e cs = some x) : cs.length = P.cellsOf e := by
  obtain ⟨_, _, _, _, hl, _⟩ := DataW.trod_struct hs h
  exact hl
theorem fld {fs : Array Field} (hs : P.underlying e = some (.struct fs)) (h : DataW.trod enc P w base (fun _ => true) true fuel e cs = some x) {i : Nat} {fd : Field} (hi : fs[i]? = some fd) : ∃ n y, DataW.trod enc P w base (fun _ => true) true n fd.type ((cs.drop fd.offset).take (P.cellsOf fd.type)) = some y := by
  obtain ⟨xs, n, _, _, _, hl, hx⟩ := DataW.trod_struct hs h
  have h1 := hx i fd hi
  have h2 := (Array.getElem?_eq_some_iff.1 hi).1
  rw [List.getElem?_eq_getElem (by omega)] at h1
  exact ⟨n, _, h1⟩
theorem fld_int {fs : Array Field} {k : IntKind} (hs : P.underlying e = some (.struct fs)) (h : DataW.trod enc P w base (fun _ => true) true fuel e cs = some x) {i : Nat} {fd : Field} (hi : fs[i]? = some fd) (hc : P.cellsOf fd.type = 1) (hu : P.underlying fd.type = some (.int k)) : ∃ n : Int, cs[fd.offset]? = some (.int k n) ∧ (Lit.int k n).wf = true := by
  obtain ⟨n, y, h1⟩ := fld hs h hi
  rw [hc] at h1
  obtain ⟨z, e1, _, hw⟩ := DataW.trod_int hu h1
  exact ⟨z, take1 e1, hw⟩
theorem nat_of_u64 {n : Int} (hw : (Lit.int .u64 n).wf = true) : ∃ k : Nat, n = (k : Int) ∧ k < 18446744073709551616 := by
  simp [Lit.wf, IntKind.min, IntKind.max, IntKind.signed, IntKind.bits] at hw
  exact ⟨n.toNat, by omega, by omega⟩
theorem fld_u64 {fs : Array Field} (hs : P.underlying e = some (.struct fs)) (h : DataW.trod enc P w base (fun _ => true) true fuel e cs = some x) {i : Nat} {fd : Field} (hi : fs[i]? = some fd) (hc : P.cellsOf fd.type = 1) (hu : P.underlying fd.type = some (.int .u64)) : ∃ n : Nat, cs[fd.offset]? = some (.int .u64 ((n : Nat) : Int)) ∧ n < 18446744073709551616 := by
  obtain ⟨z, h1, hw⟩ := fld_int hs h hi hc hu
  obtain ⟨k, rfl, hk⟩ := nat_of_u64 hw
  exact ⟨k, h1, hk⟩
end
end Go.Proofs.YthfndghgfabbjaaA


/-
  Walks of functions of the given program, and what they compute.
-/
namespace Go.Proofs.YthfndghgfabbjaaA
set_option linter.unusedVariables false
open Go Go.RowKit Go.Shelf Go.Proofs
theorem elem_entc : ElemOk Try.prog 28 entc EntW := fun H enc w base fuel cs x h => by
  obtain ⟨n0, g0, b0⟩ := fld_u64 Try.underlying28 h (i := 0) rfl (by kernel_rfl) Try.underlying25
  obtain ⟨n1, g1, b1⟩ := fld_u64 Try.underlying28 h (i := 1) rfl (by kernel_rfl) Try.underlying25
  have hl : cs.length = 2 := (trod_len Try.underlying28 h).trans (by kernel_rfl)
  match cs, hl with
  | [c0, c1], _ =>
    obtain rfl : c0 = _ := Option.some.inj g0
    obtain rfl : c1 = _ := Option.some.inj g1
    exact ⟨(n0, n1), rfl, ⟨b0, b1⟩⟩

end Go.Proofs.YthfndghgfabbjaaA

