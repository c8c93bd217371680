/-
  Walks over abstract states: texts of one claim, merged.
-/
import Derived.Test.YthfndghgfabbjaaM3
import Derived.Test.YthfndghgfabbjaaStrCut
import Derived.Test.YthfndghgfabbjaaProg
import Derived.KernelRfl
import Derived.ChangeSlices
import Derived.SliceStrings
import Derived.WideShapes
import Derived.SizedLaws
import Derived.OpenShut
import Derived.Deep.Slices
/-
  Walks of functions of the given program, and what they compute.
-/
namespace Go.Proofs.YthfndghgfabbjaaA
set_option linter.unusedVariables false
open Go Go.RowKit Go.Shelf Go.Proofs
abbrev DEnt := Nat × Nat
def entc (e : DEnt) : List Value := [.int .u64 ((e.1 : Nat) : Int), .int .u64 ((e.2 : Nat) : Int)]
theorem entc_w : Wm entc 2 := fun _ => rfl
theorem entc_sc : ∀ x, ∀ u ∈ entc x, Scalar u = true := fun x u hu => by simp [entc] at hu; rcases hu with rfl | rfl <;> rfl
def EntW (e : DEnt) : Prop := e.1 < 18446744073709551616 ∧ e.2 < 18446744073709551616
/-- The first byte 0. -/
def zB (s : ByteArray) : Nat := firstK (fun j => byt s j == 0) s.size
def cutV (s : ByteArray) : ByteArray × ByteArray × Bool := if zB s < s.size then (s.extract 0 (zB s), s.extract (zB s + 1) s.size, true) else (s, ⟨#[]⟩, false)
theorem indexByte_find (c : UInt8) : ∀ l : List UInt8, Go.Lib.indexByte l c = match l.findIdx? (· == c) with | some i => ((i : Nat) : Int) | none => -1
  | [] => rfl
  | b :: l => by
    have ih := indexByte_find c l
    rw [List.findIdx?_cons]
    unfold Go.Lib.indexByte
    cases e : (b == c) with
    | true => simp
    | false =>
      rw [ih]
      cases e2 : l.findIdx? (· == c) with
      | none => simp
      | some i =>
        simp only [Bool.false_eq_true, if_false, Option.map_some]
        rw [if_neg (by rw [beq_iff_eq]; omega)]
        simp
theorem firstK_none {p : Nat → Bool} {n : Nat} (h : ¬ firstK p n < n) : ∀ j, j < n → p j = false := fun j hj => by
  unfold firstK at h
  cases e : (List.range n).find? p with
  | none => exact Bool.eq_false_iff.2 (List.find?_eq_none.1 e j (List.mem_range.2 hj))
  | some i => rw [e] at h; exact absurd (List.mem_range.1 (List.mem_of_find?_eq_some e)) h
theorem byt_get {s : ByteArray} {i : Nat} (h : i < s.data.toList.length) : byt s i = (s.data.toList[i]).toNat := by
  unfold byt; rw [List.getD_eq_getElem?_getD, List.getElem?_eq_getElem h]; rfl
theorem indexByte_z (s : ByteArray) : Go.Lib.indexByte s.data.toList 0 = if zB s < s.size then ((zB s : Nat) : Int) else -1 := by
  rw [indexByte_find]
  have hl : s.data.toList.length = s.size := by simp
  cases e : s.data.toList.findIdx? (· == 0) with
  | none =>
    have h : zB s = s.size := firstK_no fun j hj => by
      have h1 := List.findIdx?_eq_none_iff.1 e _ (List.getElem_mem (by omega : j < s.data.toList.length))
      rw [byt_get (by omega)]
      rw [beq_eq_false_iff_ne] at h1 ⊢
      exact fun h2 => h1 (UInt8.toNat_inj.1 h2)
    rw [h, if_neg (Nat.lt_irrefl _)]
  | some i =>
    obtain ⟨h1, h2, h3⟩ := List.findIdx?_eq_some_iff_getElem.1 e
    have h : zB s = i := firstK_yes (by omega) (by rw [byt_get h1, eq_of_beq h2]; rfl) fun j hj => by
      have h4 := h3 j hj
      rw [byt_get (by omega), beq_eq_false_iff_ne]
      exact fun h5 => h4 (beq_iff_eq.2 (UInt8.toNat_inj.1 h5))
    rw [h, if_pos (by omega)]
theorem cut_z (s : ByteArray) : Go.Proofs.YthfndghgfabbjaaCut.cut1 s 0 = cutV s := by
  unfold Go.Proofs.YthfndghgfabbjaaCut.cut1 cutV
  rw [indexByte_z]
  by_cases h : zB s < s.size
  · rw [if_pos h, if_pos (by omega), if_pos h]; rfl
  · rw [if_neg h, if_neg (by omega), if_neg h]
theorem below_drewN (w : World) (n : Nat) : Below w.heap.size w (w.drewN n) := ⟨rfl, rfl, rfl, Nat.le_refl _, fun _ _ => rfl⟩
theorem cut_ok {H0 : AHeap} (s : ByteArray) (hs : s.size ≤ 140737488351232) : ACalls Try.prog 48 [.string s, .string (⟨#[0]⟩ : ByteArray)] H0 (Rets (.tuple #[.string (cutV s).1, .string (cutV s).2.1, .bool (cutV s).2.2]) H0) := by
  rw [← cut_z]
  refine acalls_of_world rfl rfl (fun w => (Go.Proofs.YthfndghgfabbjaaCut.cut_calls s 0 w hs).mono ?_) H0
  rintro e w' ⟨rfl, n, rfl⟩
  exact ⟨rfl, below_drewN w n⟩
def textV (s : ByteArray) (a m : Nat) : ByteArray × Bool := if s.size < a then (⟨#[]⟩, false) else if zB (s.extract a s.size) < s.size - a ∧ zB (s.extract a s.size) ≤ m then (s.extract a (a + zB (s.extract a s.size)), true) else (⟨#[]⟩, false)
theorem ext_ext {b : ByteArray} {i j x y : Nat} (h : y ≤ j - i) : (b.extract i j).extract x y = b.extract (i + x) (i + y) := bl_inj (by
  rw [bl_extract, bl_extract, bl_extract, List.drop_take, List.take_take, List.drop_drop, show i + y - (i + x) = min (y - x) (j - i - x) by omega])
theorem textV_no {s : ByteArray} {a m : Nat} (ha : a ≤ s.size) (h : ¬ (zB (s.extract a s.size) < s.size - a ∧ zB (s.extract a s.size) ≤ m)) : textV s a m = (⟨#[]⟩, false) := by unfold textV; rw [if_neg (by omega), if_neg h]
theorem textV_yes {s : ByteArray} {a m : Nat} (ha : a ≤ s.size) (h1 : zB (s.extract a s.size) < s.size - a) (h2 : zB (s.extract a s.size) ≤ m) : textV s a m = (s.extract a (a + zB (s.extract a s.size)), true) := by unfold textV; rw [if_neg (by omega), if_pos ⟨h1, h2⟩]
theorem cutV_t {s : ByteArray} {a : Nat} (ha : a ≤ s.size) (h : (cutV (s.extract a s.size)).2.2 = true) : zB (s.extract a s.size) < s.size - a ∧ (cutV (s.extract a s.size)).1 = s.extract a (a + zB (s.extract a s.size)) := by
  have hs : (s.extract a s.size).size = s.size - a := size_extract (Nat.le_refl _)
  unfold cutV at h ⊢
  by_cases h1 : zB (s.extract a s.size) < (s.extract a s.size).size
  · rw [if_pos h1]
    refine ⟨by omega, ?_⟩
    show (s.extract a s.size).extract 0 (zB (s.extract a s.size)) = _
    rw [ext_ext (by omega)]; rfl
  · rw [if_neg h1] at h; cases h
theorem cutV_f {s : ByteArray} {a m : Nat} (ha : a ≤ s.size) (h : (cutV (s.extract a s.size)).2.2 = false) : ¬ (zB (s.extract a s.size) < s.size - a ∧ zB (s.extract a s.size) ≤ m) := by
  have hs : (s.extract a s.size).size = s.size - a := size_extract (Nat.le_refl _)
  unfold cutV at h
  by_cases h1 : zB (s.extract a s.size) < (s.extract a s.size).size
  · rw [if_pos h1] at h; cases h
  · omega
set_option maxRecDepth 100000 in
set_option maxHeartbeats 4000000 in
theorem leText_ok {H0 : AHeap} (s : ByteArray) (a m : Nat) (hs : s.size ≤ 140737488351232) (ha : a < 18446744073709551616) (hm : m ≤ 1000000) : ACalls Try.prog 41 [.string s, .int .u64 ((a : Nat) : Int), .int .i64 ((m : Nat) : Int)] H0 (Rets (.tuple #[.string (textV s a m).1, .bool (textV s a m).2]) H0) := by
  have hF : Wd Fence.wide := .inl rfl
  have hM : Try.prog.follows .mixedOrders = true := by kernel_rfl
  have s0 := St.begin H0
  refine acalls_st Try.func41 rfl Try.ntmps41 rfl ?_
  refine awp_seq ?_
  refine awp_regs hF ?_
  refine dv (gyes_none rfl) (q_as (v := .string (⟨#[]⟩ : ByteArray)) rfl) rfl (by decide) (cok1 (cconst rfl)) ?_
  refine dv (gyes_none rfl) (q_as (v := .bool false) rfl) rfl (by decide) (cok1 (cconst rfl)) ?_
  refine ⟨_, Wk.refl _ _, ?_⟩
  show awp _ _ _ _ _ _ _
  refine awp_seq ?_
  refine awp_seq ?_
  refine awp_regs hF ?_
  refine dv (gyes_none rfl) (q_mv (v := .int .u64 ((a : Nat) : Int)) rfl) rfl (by decide) (cok1 trivial) ?_
  refine dv (gyes_none rfl) (q_mv (v := .string s) rfl) rfl (by decide) (cok1 trivial) ?_
  refine dv (gyes_none rfl) (q_len_str Try.underlying9 rfl) rfl (by decide) (cok1 trivial) ?_
  refine dv (gyes_none rfl) (q_convin (a := ((s.size : Nat) : Int)) Try.underlying3 Try.underlying25 rfl (u64_in (by omega))) rfl (by decide) (cok1 trivial) ?_
  refine dvb (gyes_none rfl) (q_int rfl rfl rfl) rfl (by decide) (cok2 trivial trivial) (fun c1 => ?_) (fun c1 => ?_)
  ·
    replace c1 := of_decide_eq_true c1
    refine ⟨_, Wk.refl _ _, ?_⟩
    show awp _ _ _ _ _ _ _
    refine awp_cond_t rfl ?_
    refine awp_seq ?_
    refine awp_regs hF ?_
    refine dv (gyes_none rfl) (q_as (v := .string (⟨#[]⟩ : ByteArray)) rfl) rfl (by decide) (cok1 (cconst rfl)) ?_
    refine dv (gyes_none rfl) (q_as (v := .bool false) rfl) rfl (by decide) (cok1 (cconst rfl)) ?_
    refine ⟨_, Wk.refl _ _, ?_⟩
    show awp _ _ _ _ _ _ _
    refine awp_ret_wk ?_
    refine ⟨_, Wk.refl _ _, ?_⟩
    repeat (with_reducible first | refine then_ret ?_ | refine blk_ret ?_ | refine then_exit ?_ | refine blk_exit ?_ | refine blk_exit' (by decide) ?_ | refine blk_normal ?_ | refine then_normal ?_ | refine retq_ret ?_ | refine retq_normal ?_ | refine ng_normal ?_ | refine ng_ret ?_ | refine ng_exit ?_)
    exact ret_none (v := .tuple #[.string (⟨#[]⟩ : ByteArray), .bool false]) rfl s0.kp (.tmp rfl (.tmp rfl .nil)) rfl rfl ⟨by rw [textV, if_pos (by omega)], rfl⟩
  ·
    replace c1 := of_decide_eq_false c1
    refine ⟨_, Wk.refl _ _, ?_⟩
    show awp _ _ _ _ _ _ _
    refine awp_cond_f rfl ?_
    refine awp_skip_wk ?_
    refine ⟨_, Wk.refl _ _, ?_⟩
    show awp _ _ _ _ _ _ _
    refine awp_seq ?_
    refine awp_regs hF ?_
    refine dv (gyes_none rfl) (q_mv (v := .string s) rfl) rfl (by decide) (cok1 trivial) ?_
    refine dv (gyes_none rfl) (q_mv (v := .int .u64 ((a : Nat) : Int)) rfl) rfl (by decide) (cok1 trivial) ?_
    refine dv (gyes_none rfl) (q_substr (i := a) (j := s.size) Try.underlying9 rfl ⟨_, rfl⟩ rfl (by omega) (by omega)) rfl (by decide) (cok2 trivial trivial) ?_
    refine dv (gyes_none rfl) (q_call0 Try.call48 rfl (cut_ok (s.extract a s.size) (by rw [size_extract (by omega)]; omega))) rfl (by decide) (call_ok rfl) ?_
    refine dv (gyes_none rfl) (q_mv (v := .tuple #[.string ((cutV (s.extract a s.size)).1), .string ((cutV (s.extract a s.size)).2.1), .bool ((cutV (s.extract a s.size)).2.2)]) rfl) rfl (by decide) (cok1 trivial) ?_
    refine dv (gyes_none rfl) (q_extract (v := .string ((cutV (s.extract a s.size)).1)) rfl rfl) rfl (by decide) (cok1 trivial) ?_
    refine dv (gyes_none rfl) (q_extract (v := .string ((cutV (s.extract a s.size)).2.1)) rfl rfl) rfl (by decide) (cok1 trivial) ?_
    refine dvb (gyes_none rfl) (q_extract (v := .bool ((cutV (s.extract a s.size)).2.2)) rfl rfl) rfl (by decide) (cok1 trivial) (fun c2 => ?_) (fun c2 => ?_)
    ·
      obtain ⟨hz1, hcz⟩ := cutV_t (by omega) c2
      have hzs : (cutV (s.extract a s.size)).1.size = zB (s.extract a s.size) := by rw [hcz, size_extract (by omega)]; omega
      refine dv (gyes_none rfl) (q_as (v := .string ((cutV (s.extract a s.size)).1)) rfl) rfl (by decide) (cok1 trivial) ?_
      refine dv (gyes_none rfl) (q_as (v := .string ((cutV (s.extract a s.size)).2.1)) rfl) rfl (by decide) (cok1 trivial) ?_
      refine dv (gyes_none rfl) (q_as (v := .bool true) rfl) rfl (by decide) (cok1 trivial) ?_
      refine ⟨_, Wk.refl _ _, ?_⟩
      show awp _ _ _ _ _ _ _
      refine awp_seq ?_
      refine awp_seq ?_
      refine awp_regs hF ?_
      refine dv (gyes_none rfl) (q_mv (v := .bool true) rfl) rfl (by decide) (cok1 trivial) ?_
      refine dv (gyes_none rfl) (q_not (b := true) rfl) rfl (by decide) (cok1 trivial) ?_
      refine dv (gyes_none rfl) (q_mv (v := .bool false) rfl) rfl (by decide) (cok1 trivial) ?_
      refine dv (gyes_some rfl rfl) (q_mv (v := .string ((cutV (s.extract a s.size)).1)) rfl) rfl (by decide) (cok1 trivial) ?_
      refine dv (gyes_some rfl rfl) (q_len_str Try.underlying9 rfl) rfl (by decide) (cok1 trivial) ?_
      refine dv (gyes_some rfl rfl) (q_mv (v := .int .i64 ((m : Nat) : Int)) rfl) rfl (by decide) (cok1 trivial) ?_
      refine dvb (gyes_some rfl rfl) (q_int rfl rfl rfl) rfl (by decide) (cok2 trivial trivial) (fun c3 => ?_) (fun c3 => ?_)
      ·
        replace c3 := of_decide_eq_true c3
        have hx : ¬ (zB (s.extract a s.size) < s.size - a ∧ zB (s.extract a s.size) ≤ m) := by omega
        refine dv (gyes_none rfl) (q_pf (v := .bool true) rfl rfl) rfl (by decide) (call_ok rfl) ?_
        refine ⟨_, Wk.refl _ _, ?_⟩
        show awp _ _ _ _ _ _ _
        refine awp_cond_t rfl ?_
        refine awp_seq ?_
        refine awp_regs hF ?_
        refine dv (gyes_none rfl) (q_as (v := .string (⟨#[]⟩ : ByteArray)) rfl) rfl (by decide) (cok1 (cconst rfl)) ?_
        refine dv (gyes_none rfl) (q_as (v := .bool false) rfl) rfl (by decide) (cok1 (cconst rfl)) ?_
        refine ⟨_, Wk.refl _ _, ?_⟩
        show awp _ _ _ _ _ _ _
        refine awp_ret_wk ?_
        refine ⟨_, Wk.refl _ _, ?_⟩
        repeat (with_reducible first | refine then_ret ?_ | refine blk_ret ?_ | refine then_exit ?_ | refine blk_exit ?_ | refine blk_exit' (by decide) ?_ | refine blk_normal ?_ | refine then_normal ?_ | refine retq_ret ?_ | refine retq_normal ?_ | refine ng_normal ?_ | refine ng_ret ?_ | refine ng_exit ?_)
        exact ret_none (v := .tuple #[.string (⟨#[]⟩ : ByteArray), .bool false]) rfl s0.kp (.tmp rfl (.tmp rfl .nil)) rfl rfl ⟨by rw [textV_no (by omega) hx], rfl⟩
      ·
        replace c3 := of_decide_eq_false c3
        refine dv (gyes_none rfl) (q_pf (v := .bool false) rfl rfl) rfl (by decide) (call_ok rfl) ?_
        refine ⟨_, Wk.refl _ _, ?_⟩
        show awp _ _ _ _ _ _ _
        refine awp_cond_f rfl ?_
        refine awp_skip_wk ?_
        refine ⟨_, Wk.refl _ _, ?_⟩
        show awp _ _ _ _ _ _ _
        refine awp_seq ?_
        refine awp_regs hF ?_
        refine dv (gyes_none rfl) (q_mv (v := .string ((cutV (s.extract a s.size)).1)) rfl) rfl (by decide) (cok1 trivial) ?_
        refine dv (gyes_none rfl) (q_as (v := .string ((cutV (s.extract a s.size)).1)) rfl) rfl (by decide) (cok1 trivial) ?_
        refine dv (gyes_none rfl) (q_as (v := .bool true) rfl) rfl (by decide) (cok1 (cconst rfl)) ?_
        refine ⟨_, Wk.refl _ _, ?_⟩
        show awp _ _ _ _ _ _ _
        refine awp_ret_wk ?_
        refine ⟨_, Wk.refl _ _, ?_⟩
        repeat (with_reducible first | refine then_ret ?_ | refine blk_ret ?_ | refine then_exit ?_ | refine blk_exit ?_ | refine blk_exit' (by decide) ?_ | refine blk_normal ?_ | refine then_normal ?_ | refine retq_ret ?_ | refine retq_normal ?_ | refine ng_normal ?_ | refine ng_ret ?_ | refine ng_exit ?_)
        exact ret_none (v := .tuple #[.string ((cutV (s.extract a s.size)).1), .bool true]) rfl s0.kp (.tmp rfl (.tmp rfl .nil)) rfl rfl ⟨by rw [textV_yes (by omega) hz1 (by omega), hcz], rfl⟩
    ·
      have hx := cutV_f (m := m) (by omega) c2
      refine dv (gyes_none rfl) (q_as (v := .string ((cutV (s.extract a s.size)).1)) rfl) rfl (by decide) (cok1 trivial) ?_
      refine dv (gyes_none rfl) (q_as (v := .string ((cutV (s.extract a s.size)).2.1)) rfl) rfl (by decide) (cok1 trivial) ?_
      refine dv (gyes_none rfl) (q_as (v := .bool false) rfl) rfl (by decide) (cok1 trivial) ?_
      refine ⟨_, Wk.refl _ _, ?_⟩
      show awp _ _ _ _ _ _ _
      refine awp_seq ?_
      refine awp_seq ?_
      refine awp_regs hF ?_
      refine dv (gyes_none rfl) (q_mv (v := .bool false) rfl) rfl (by decide) (cok1 trivial) ?_
      refine dv (gyes_none rfl) (q_not (b := false) rfl) rfl (by decide) (cok1 trivial) ?_
      refine dv (gyes_none rfl) (q_mv (v := .bool true) rfl) rfl (by decide) (cok1 trivial) ?_
      refine dno rfl (.inl rfl) rfl (by decide) ?_
      refine dno rfl (.inl rfl) rfl (by decide) ?_
      refine dno rfl (.inl rfl) rfl (by decide) ?_
      refine dno rfl (.inl rfl) rfl (by decide) ?_
      refine dv (gyes_none rfl) (q_pt (v := .bool true) rfl rfl) rfl (by decide) (call_ok rfl) ?_
      refine ⟨_, Wk.refl _ _, ?_⟩
      show awp _ _ _ _ _ _ _
      refine awp_cond_t rfl ?_
      refine awp_seq ?_
      refine awp_regs hF ?_
      refine dv (gyes_none rfl) (q_as (v := .string (⟨#[]⟩ : ByteArray)) rfl) rfl (by decide) (cok1 (cconst rfl)) ?_
      refine dv (gyes_none rfl) (q_as (v := .bool false) rfl) rfl (by decide) (cok1 (cconst rfl)) ?_
      refine ⟨_, Wk.refl _ _, ?_⟩
      show awp _ _ _ _ _ _ _
      refine awp_ret_wk ?_
      refine ⟨_, Wk.refl _ _, ?_⟩
      repeat (with_reducible first | refine then_ret ?_ | refine blk_ret ?_ | refine then_exit ?_ | refine blk_exit ?_ | refine blk_exit' (by decide) ?_ | refine blk_normal ?_ | refine then_normal ?_ | refine retq_ret ?_ | refine retq_normal ?_ | refine ng_normal ?_ | refine ng_ret ?_ | refine ng_exit ?_)
      exact ret_none (v := .tuple #[.string (⟨#[]⟩ : ByteArray), .bool false]) rfl s0.kp (.tmp rfl (.tmp rfl .nil)) rfl rfl ⟨by rw [textV_no (by omega) hx], rfl⟩
end Go.Proofs.YthfndghgfabbjaaA


/-
  Walks of functions of the given program, and what they compute.
-/
namespace Go.Proofs.YthfndghgfabbjaaA
set_option linter.unusedVariables false
open Go Go.RowKit Go.Shelf Go.Proofs
theorem SlS.cells {α : Type} [Inhabited α] {f : α → List Value} {m : Nat} {H : AHeap} {v : Value} {l : List α} (h : SlS f m H v l) : v.cells.toList = [v] := by
  rcases h with ⟨rfl, _⟩ | ⟨b, o, c, vs, rfl, _⟩ <;> rfl
def getV (l : List DEnt) (t : Nat) : Nat × Bool := if firstK (fun i => (nth l i).1 == t) l.length < l.length then ((nth l (firstK (fun i => (nth l i).1 == t) l.length)).2, true) else (0, false)
theorem getV_yes {l : List DEnt} {t i : Nat} (hi : i < l.length) (h : (nth l i).1 = t) (hn : ∀ j, j < i → ((nth l j).1 == t) = false) : getV l t = ((nth l i).2, true) := by
  have : firstK (fun i => (nth l i).1 == t) l.length = i := firstK_yes hi (beq_iff_eq.2 h) hn
  unfold getV; rw [this, if_pos hi]
theorem getV_no {l : List DEnt} {t : Nat} (hn : ∀ j, j < l.length → ((nth l j).1 == t) = false) : getV l t = (0, false) := by
  have : firstK (fun i => (nth l i).1 == t) l.length = l.length := firstK_no hn
  unfold getV; rw [this, if_neg (Nat.lt_irrefl _)]
theorem getV_lt {l : List DEnt} (h : ∀ e ∈ l, EntW e) (t : Nat) : (getV l t).1 < 18446744073709551616 := by
  unfold getV
  split
  · rename_i h1
    exact (h _ (nthN_mem h1)).2
  · exact (by decide : 0 < 18446744073709551616)
def spanV (B : ByteArray) (l : List Sg) (e : List DEnt) (t z : Nat) : ByteArray × Bool := if (getV e t).2 = false then (⟨#[]⟩, true) else if (getV e z).2 = false ∨ 65536 < (getV e z).1 then (⟨#[]⟩, false) else imgAt B l (getV e t).1 (getV e z).1
def tabV (B : ByteArray) (l : List Sg) (e : List DEnt) (a : Nat) : ByteArray × Bool := if (getV e 5).2 = false then (⟨#[]⟩, false) else if (spanV B l e 5 10).2 = false then (⟨#[]⟩, false) else textV (spanV B l e 5 10).1 a 32
theorem imgAt_size {B : ByteArray} {l : List Sg} {a n : Nat} (h : InB B l) : (imgAt B l a n).1.size ≤ n := by
  unfold imgAt
  split
  · rename_i h1; exact Nat.le_of_eq (segB_size (h _ (nthN_mem h1)))
  · exact Nat.zero_le _
theorem spanV_size {B : ByteArray} {l : List Sg} {e : List DEnt} {t z : Nat} (h : InB B l) : (spanV B l e t z).1.size ≤ 65536 := by
  unfold spanV
  split
  · exact Nat.zero_le _
  split
  · exact Nat.zero_le _
  · rename_i h2
    exact Nat.le_trans (imgAt_size h) (by omega)
def entAt (b : ByteArray) (k : Nat) : DEnt := (getB (b.extract (k * 16) (k * 16 + 8)), getB (b.extract (k * 16 + 8) (k * 16 + 16)))
def ents (b : ByteArray) (m : Nat) : List DEnt := (List.range m).map (entAt b)
theorem ents_len (b : ByteArray) (m : Nat) : (ents b m).length = m := by simp [ents]
theorem ents_succ (b : ByteArray) (m : Nat) : ents b m ++ [entAt b m] = ents b (m + 1) := by simp [ents, List.range_succ]
def zeroK (b : ByteArray) : Nat := firstK (fun k => (entAt b k).1 == 0) (b.size / 16)
def dynI (l : List Sg) : Nat := firstK (fun i => (nth l i).1 == 2) l.length
def dynX (l : List Sg) : Sg := if dynI l < l.length then nth l (dynI l) else (0, 0, 0, 0, 0, 0)
def dynB (B : ByteArray) (l : List Sg) : ByteArray := (imgAt B l (dynX l).2.2.2.1 (dynX l).2.2.2.2.2).1
def drC (B : ByteArray) (l : List Sg) : Nat := if ¬ dynI l < l.length then 18 else if 65536 < (dynX l).2.2.2.2.2 then 5 else if (imgAt B l (dynX l).2.2.2.1 (dynX l).2.2.2.2.2).2 = false then 5 else if ¬ zeroK (dynB B l) < (dynB B l).size / 16 then 2 else if 64 < zeroK (dynB B l) then 6 else 0
def drA (B : ByteArray) (l : List Sg) : Nat := if ¬ dynI l < l.length then 0 else if drC B l = 0 then 0 else (dynX l).2.2.2.1
def drL (B : ByteArray) (l : List Sg) : List DEnt := if drC B l = 0 then ents (dynB B l) (zeroK (dynB B l)) else []
section
variable {B : ByteArray} {l : List Sg}
theorem dr_none (h : ∀ j, j < l.length → ((nth l j).1 == 2) = false) : drC B l = 18 ∧ drA B l = 0 ∧ drL B l = [] := by
  have hi : ¬ dynI l < l.length := by rw [show dynI l = l.length from firstK_no h]; omega
  have e : drC B l = 18 := if_pos hi
  exact ⟨e, if_pos hi, if_neg (by rw [e]; decide)⟩
theorem dynI_of {i : Nat} (hi : i < l.length) (h : (nth l i).1 = 2) (hn : ∀ j, j < i → ((nth l j).1 == 2) = false) : dynI l = i := firstK_yes hi (beq_iff_eq.2 h) hn
theorem dr_err {c : Nat} (hi : dynI l < l.length) (e : drC B l = c) (hc : c ≠ 0) : drC B l = c ∧ drA B l = (dynX l).2.2.2.1 ∧ drL B l = [] :=
  ⟨e, by unfold drA; rw [if_neg (fun h => h hi), if_neg (by rw [e]; exact hc)], if_neg (by rw [e]; exact hc)⟩
theorem dr_big (hi : dynI l < l.length) (h : 65536 < (dynX l).2.2.2.2.2) : drC B l = 5 ∧ drA B l = (dynX l).2.2.2.1 ∧ drL B l = [] := dr_err hi (by unfold drC; rw [if_neg (fun h => h hi), if_pos h]) (by decide)
theorem dr_out (hi : dynI l < l.length) (h1 : ¬ 65536 < (dynX l).2.2.2.2.2) (h : (imgAt B l (dynX l).2.2.2.1 (dynX l).2.2.2.2.2).2 = false) : drC B l = 5 ∧ drA B l = (dynX l).2.2.2.1 ∧ drL B l = [] := dr_err hi (by unfold drC; rw [if_neg (fun h => h hi), if_neg h1, if_pos h]) (by decide)
theorem dr_open (hi : dynI l < l.length) (h1 : ¬ 65536 < (dynX l).2.2.2.2.2) (h2 : (imgAt B l (dynX l).2.2.2.1 (dynX l).2.2.2.2.2).2 = true) (h : zeroK (dynB B l) = (dynB B l).size / 16) : drC B l = 2 ∧ drA B l = (dynX l).2.2.2.1 ∧ drL B l = [] := dr_err hi (by unfold drC; rw [if_neg (fun h => h hi), if_neg h1, if_neg (by rw [h2]; exact fun h => nomatch h), if_pos (by omega)]) (by decide)
theorem dr_many (hi : dynI l < l.length) (h1 : ¬ 65536 < (dynX l).2.2.2.2.2) (h2 : (imgAt B l (dynX l).2.2.2.1 (dynX l).2.2.2.2.2).2 = true) (h3 : zeroK (dynB B l) < (dynB B l).size / 16) (h : 64 < zeroK (dynB B l)) : drC B l = 6 ∧ drA B l = (dynX l).2.2.2.1 ∧ drL B l = [] := dr_err hi (by unfold drC; rw [if_neg (fun h => h hi), if_neg h1, if_neg (by rw [h2]; exact fun h => nomatch h), if_neg (fun h => h h3), if_pos h]) (by decide)
theorem dr_ok (hi : dynI l < l.length) (h1 : ¬ 65536 < (dynX l).2.2.2.2.2) (h2 : (imgAt B l (dynX l).2.2.2.1 (dynX l).2.2.2.2.2).2 = true) (h3 : zeroK (dynB B l) < (dynB B l).size / 16) (h : ¬ 64 < zeroK (dynB B l)) : drC B l = 0 ∧ drA B l = 0 ∧ drL B l = ents (dynB B l) (zeroK (dynB B l)) := by
  have e : drC B l = 0 := by unfold drC; rw [if_neg (fun h => h hi), if_neg h1, if_neg (by rw [h2]; exact fun h => nomatch h), if_neg (fun h => h h3), if_neg h]
  exact ⟨e, by unfold drA; rw [if_neg (fun h => h hi), if_pos e], if_pos e⟩
end
theorem dynX_of {l : List Sg} {i : Nat} (h : dynI l = i) (hi : i < l.length) : dynX l = nth l i := by unfold dynX; rw [h, if_pos hi]
theorem dynX_no {l : List Sg} (h : ¬ dynI l < l.length) : dynX l = (0, 0, 0, 0, 0, 0) := if_neg h
theorem dynX_b {l : List Sg} (h : ∀ x ∈ l, SgB x) : SgB (dynX l) := by
  unfold dynX
  split
  · rename_i h1; exact h _ (nthN_mem h1)
  · unfold SgB; decide
theorem dynB_size {B : ByteArray} {l : List Sg} (h : InB B l) : (dynB B l).size ≤ (dynX l).2.2.2.2.2 := imgAt_size h
theorem zeroK_yes {b : ByteArray} {i : Nat} (hi : i < b.size / 16) (h : (entAt b i).1 = 0) (hn : ∀ j, j < i → ((entAt b j).1 == 0) = false) : zeroK b = i := firstK_yes hi (beq_iff_eq.2 h) hn
theorem zeroK_no {b : ByteArray} {n : Nat} (e : n = b.size / 16) (hn : ∀ j, j < n → ((entAt b j).1 == 0) = false) : zeroK b = b.size / 16 := firstK_no (e ▸ hn)
theorem entAt_e {b : ByteArray} {k : Nat} (h : k < b.size / 16) : entAt b k = (getB ((b.extract (k * 16) ((k + 1) * 16)).extract 0 8), getB ((b.extract (k * 16) ((k + 1) * 16)).extract 8 (b.extract (k * 16) ((k + 1) * 16)).size)) := by
  rw [size_extract (by omega), ext_ext (by omega), ext_ext (by omega), show k * 16 + ((k + 1) * 16 - k * 16) = k * 16 + 16 by omega]; rfl
set_option maxRecDepth 100000 in
set_option maxHeartbeats 4000000 in
theorem all_ok {H0 : AHeap} (k : Nat) (vT : Value) (e : List DEnt) (hT : SlS entc 2 H0 vT e) : ACalls Try.prog 17 [vT, .int .u64 ((k : Nat) : Int)] H0 (fun v H' => ∃ bk bi, v = .func (.func 40) #[] #[.pointer (some ⟨bi, 0, none⟩), .pointer (some ⟨bk, 0, none⟩)] ∧ NewL H0 H' [(bk, .cells true [.int .u64 ((k : Nat) : Int)] 1), (bi, .cells true [vT] 1)]) := by
  have hF : Wd Fence.wide := .inl rfl
  have hM : Try.prog.follows .mixedOrders = true := by kernel_rfl
  have s0 := St.begin H0
  refine acalls_st Try.func17 rfl Try.ntmps17 rfl ?_
  refine awp_seq ?_
  refine awp_regs hF ?_
  refine x_new (fun b => .pointer (some ⟨b, 0, none⟩)) s0 (gyes_none rfl) (q_box (v := vT) (vs := [vT]) 1 rfl (SlS.lc (s0.sls hT)).1 (SlS.cells (s0.sls hT))) rfl (by decide) (cok1 trivial) (fun b1 H2 hb4 s3 => ?_)
  refine x_new (fun b => .pointer (some ⟨b, 0, none⟩)) s3 (gyes_none rfl) (q_box (v := .int .u64 ((k : Nat) : Int)) (vs := [.int .u64 ((k : Nat) : Int)]) 1 rfl (by exact trivial) rfl) rfl (by decide) (cok1 trivial) (fun b5 H6 hb8 s7 => ?_)
  refine dv (gyes_none rfl) (q_as (v := .nilFunc) rfl) rfl (by decide) (cok1 (cconst rfl)) ?_
  refine ⟨_, Wk.refl _ _, ?_⟩
  show awp _ _ _ _ _ _ _
  refine awp_seq ?_
  refine awp_regs hF ?_
  refine dv (gyes_none rfl) (q_makeFuncL [.pointer (some ⟨b1, 0, none⟩), .pointer (some ⟨b5, 0, none⟩)] ⟨rfl, rfl, trivial⟩) rfl (by decide) (cok2 trivial trivial) ?_
  refine dv (gyes_none rfl) (q_as (v := .func (.func 40) #[] #[.pointer (some ⟨b1, 0, none⟩), .pointer (some ⟨b5, 0, none⟩)]) rfl) rfl (by decide) (cok1 trivial) ?_
  refine ⟨_, Wk.refl _ _, ?_⟩
  show awp _ _ _ _ _ _ _
  refine awp_ret_wk ?_
  refine ⟨_, Wk.refl _ _, ?_⟩
  repeat (with_reducible first | refine then_ret ?_ | refine blk_ret ?_ | refine then_exit ?_ | refine blk_exit ?_ | refine blk_exit' (by decide) ?_ | refine blk_normal ?_ | refine then_normal ?_ | refine retq_ret ?_ | refine retq_normal ?_ | refine ng_normal ?_ | refine ng_ret ?_ | refine ng_exit ?_)
  refine ret_is (v := .func (.func 40) #[] #[.pointer (some ⟨b1, 0, none⟩), .pointer (some ⟨b5, 0, none⟩)]) rfl (.tmp rfl .nil) rfl ?_
  exact ⟨_, _, rfl, s7.newL⟩
set_option maxRecDepth 100000 in
set_option maxHeartbeats 4000000 in
theorem all1_ok {H0 : AHeap} (k : Nat) (vT : Value) (e : List DEnt) (hl : e.length ≤ 1000000) (y : Value) (bi bk : Nat) (Iv E' : Nat → AHeap → Prop) (h0 : Iv 0 H0)
    (hm : ∀ i H H', Iv i H → K0 H H' → Iv i H') (hsk : ∀ i H, Iv i H → i < e.length → (nth e i).1 ≠ k → Iv (i + 1) H)
    (hb : ∀ i H, Iv i H → Rd H bi [vT] 1 ∧ Rd H bk [.int .u64 ((k : Nat) : Int)] 1 ∧ SlS entc 2 H vT e)
    (hy : ∀ i H, Iv i H → i < e.length → (nth e i).1 = k → Ylds Try.prog y [.int .u64 (((nth e i).2 : Nat) : Int)] H (fun b H' => (b = true → Iv (i + 1) H') ∧ (b = false → E' (i + 1) H'))) : ACalls Try.prog 40 [y, .pointer (some ⟨bi, 0, none⟩), .pointer (some ⟨bk, 0, none⟩)] H0 (fun v H' => v = .tuple #[] ∧ (Iv e.length H' ∨ ∃ i, i < e.length ∧ E' (i + 1) H')) := by
  have hF : Wd Fence.wide := .inl rfl
  have hM : Try.prog.follows .mixedOrders = true := by kernel_rfl
  have s0 := St.begin H0
  obtain ⟨hi_, hk_, hT⟩ := hb _ _ h0
  refine acalls_st Try.func40 rfl Try.ntmps40 rfl ?_
  refine awp_seq ?_
  refine awp_regs hF ?_
  refine dv (gyes_none rfl) (q_load (v := vT) Try.isAgg43 rfl (s0.zrd hi_) rfl) rfl (by decide) (cok1 trivial) ?_
  refine dv (gyes_none rfl) (q_len_sls (l := e) Try.underlying43 (hT) rfl) rfl (by decide) (cok1 trivial) ?_
  refine dv (gyes_none rfl) (q_mv (v := .int .i64 0) rfl) rfl (by decide) (cok1 (cconst rfl)) ?_
  refine ⟨_, Wk.refl _ _, ?_⟩
  show awp _ _ _ _ _ _ _
  refine awp_block ?_
  refine awp_wk (Wk.U [(0, y), (1, .pointer (some ⟨bi, 0, none⟩)), (2, .pointer (some ⟨bk, 0, none⟩)), (6, vT), (7, .int .i64 ((e.length : Nat) : Int)), (8, .int .i64 0)] ⟨rfl, rfl, rfl, rfl, rfl, rfl, trivial⟩) ?_
  refine awp_loop (fun (i : Nat) st => ∃ (H1 : AHeap), st = ⟨24, U [(0, y), (1, .pointer (some ⟨bi, 0, none⟩)), (2, .pointer (some ⟨bk, 0, none⟩)), (6, vT), (7, .int .i64 ((e.length : Nat) : Int)), (8, .int .i64 ((i : Nat) : Int))], [], H1⟩ ∧ St H1 (none0) (Rd H1) H1 [] ∧ (i ≤ e.length ∧ Iv i H1)) (fun (i : Nat) => e.length - i) (x0 := (0)) ?h0 ?round
  case h0 =>
    exact ⟨_, rfl, s0, ⟨Nat.zero_le _, hm _ _ _ h0 s0.kp⟩⟩
  case round =>
    rintro i _ ⟨H1, rfl, s2, hI⟩
    obtain ⟨hi_, hk_, hT⟩ := hb _ _ hI.2
    refine awp_seq ?_
    refine awp_regs hF ?_
    refine dvb (gyes_none rfl) (q_int rfl rfl rfl) rfl (by decide) (cok2 trivial trivial) (fun c1 => ?_) (fun c1 => ?_)
    ·
      replace c1 := of_decide_eq_true c1
      refine ⟨_, Wk.refl _ _, ?_⟩
      show awp _ _ _ _ _ _ _
      refine awp_seq ?_
      refine awp_cond_t rfl ?_
      refine awp_skip_wk ?_
      refine ⟨_, Wk.refl _ _, ?_⟩
      show awp _ _ _ _ _ _ _
      refine awp_seq ?_
      refine awp_block ?_
      refine awp_seq ?_
      refine awp_regs hF ?_
      refine dv (gyes_none rfl) (q_index_sls (l := e) (i := i) Try.underlying43 Try.sizeOf48 (hT) entc_w rfl rfl (by omega)) rfl (by decide) (cok2 trivial trivial) ?_
      refine dv (gyes_none rfl) (q_loadA_sls (l := e) (i := i) Try.isAgg48 Try.sizeOf48 (hT) entc_w rfl (by omega)) rfl (by decide) (cok1 trivial) ?_
      refine x_new (fun b => .pointer (some ⟨b, 0, none⟩)) s2 (gyes_none rfl) (q_alloc (vs := [.int .u64 0, .int .u64 0]) 2 Try.zeroValue48 (by first | exact flat_scalar rfl | exact flat_agg rfl) rfl) rfl (by decide) (by simp [Op.operands, Call.operands]) (fun b3 H4 hb6 s5 => ?_)
      refine x_store [] hF s5 (by kernel_rfl) (gyes_none rfl) (j := 0) (v := .agg #[.int .u64 (((nth e i).1 : Nat) : Int), .int .u64 (((nth e i).2 : Nat) : Int)]) rfl Try.sizeOf48 rfl rfl rfl rfl rfl trivial (lcsA ⟨(lc_scalar rfl), (lc_scalar rfl), trivial⟩) (Nat.le_of_ble_eq_true rfl) trivial trivial rfl rfl (F' := [(b3, .cells true [.int .u64 (((nth e i).1 : Nat) : Int), .int .u64 (((nth e i).2 : Nat) : Int)] 2)]) rfl (fun H7 s8 => ⟨?_, ?_⟩)
      · exact trivial
      refine ⟨_, Wk.refl _ _, ?_⟩
      show awp _ _ _ _ _ _ _
      refine awp_seq ?_
      refine awp_regs hF ?_
      refine dv (gyes_none rfl) (q_field Try.underlying48 rfl Try.sizeOf25 rfl (s8.rd (j := 0) rfl)) rfl (by decide) (cok1 trivial) ?_
      refine dv (gyes_none rfl) (q_load (v := .int .u64 (((nth e i).1 : Nat) : Int)) Try.isAgg25 rfl (s8.rd (j := 0) rfl) rfl) rfl (by decide) (cok1 trivial) ?_
      refine dv (gyes_none rfl) (q_load (v := .int .u64 ((k : Nat) : Int)) Try.isAgg25 rfl (s8.zrd hk_) rfl) rfl (by decide) (cok1 trivial) ?_
      refine dvb (gyes_none rfl) (q_int rfl rfl rfl) rfl (by decide) (cok2 trivial trivial) (fun c2 => ?_) (fun c2 => ?_)
      ·
        replace c2 := eq_of_beq c2
        refine dv (gyes_none rfl) (q_mv (v := .bool true) rfl) rfl (by decide) (cok1 trivial) ?_
        refine dv (gyes_some rfl rfl) (q_mv (v := y) rfl) rfl (by decide) (cok1 trivial) ?_
        refine dv (gyes_some rfl rfl) (q_field Try.underlying48 rfl Try.sizeOf25 rfl (s8.rd (j := 0) rfl)) rfl (by decide) (cok1 trivial) ?_
        refine dv (gyes_some rfl rfl) (q_load (v := .int .u64 (((nth e i).2 : Nat) : Int)) Try.isAgg25 rfl (s8.rd (j := 0) rfl) rfl) rfl (by decide) (cok1 trivial) ?_
        refine x_yield [] (by kernel_rfl) (gyes_some rfl rfl) (y := y) (args := [.int .u64 (((nth e i).2 : Nat) : Int)]) rfl rfl (hy i _ (hm _ _ _ hI.2 s8.kp) (by omega) (by omega)) (show _ < _ by decide) (cok1 trivial) rfl rfl (fun y9 H10 hy11 => ⟨trivial, ?_⟩)
        show dList _ _ _ _ _ _ _ _ _ _
        cases y9
        case false =>
          refine dv (gyes_some rfl rfl) (q_not (b := false) rfl) rfl (by decide) (cok1 trivial) ?_
          refine dv (gyes_none rfl) (q_pt (v := .bool true) rfl rfl) rfl (by decide) (call_ok rfl) ?_
          refine ⟨_, Wk.refl _ _, ?_⟩
          show awp _ _ _ _ _ _ _
          refine awp_cond_t rfl ?_
          refine awp_ret_wk ?_
          refine ⟨_, Wk.refl _ _, ?_⟩
          repeat (with_reducible first | refine then_ret ?_ | refine blk_ret ?_ | refine then_exit ?_ | refine blk_exit ?_ | refine blk_exit' (by decide) ?_ | refine blk_normal ?_ | refine then_normal ?_ | refine retq_ret ?_ | refine retq_normal ?_ | refine ng_normal ?_ | refine ng_ret ?_ | refine ng_exit ?_)
          refine ret_is (v := .tuple #[]) rfl .nil rfl ?_
          exact ⟨rfl, .inr ⟨i, by omega, hy11.2 rfl⟩⟩
        case true =>
          have h12 := hy11.1 rfl
          have s13 := St.begin H10
          refine dv (gyes_some rfl rfl) (q_not (b := true) rfl) rfl (by decide) (cok1 trivial) ?_
          refine dv (gyes_none rfl) (q_pt (v := .bool false) rfl rfl) rfl (by decide) (call_ok rfl) ?_
          refine ⟨_, Wk.refl _ _, ?_⟩
          show awp _ _ _ _ _ _ _
          refine awp_cond_f rfl ?_
          refine awp_skip_wk ?_
          refine ⟨_, Wk.refl _ _, ?_⟩
          show awp _ _ _ _ _ _ _
          refine awp_regs hF ?_
          refine dv (gyes_none rfl) (OpQ.cast (v' := .int .i64 ((i + 1 : Nat) : Int)) (q_int rfl rfl rfl) (congrArg _ ((i64_in (by omega)).trans (by first | rfl | omega | (push_cast; rfl))))) rfl (by decide) (cok2 trivial (cconst rfl)) ?_
          refine dv (gyes_none rfl) (q_mv (v := .int .i64 ((i + 1 : Nat) : Int)) rfl) rfl (by decide) (cok1 trivial) ?_
          refine ⟨_, Wk.U [(0, y), (1, .pointer (some ⟨bi, 0, none⟩)), (2, .pointer (some ⟨bk, 0, none⟩)), (6, vT), (7, .int .i64 ((e.length : Nat) : Int)), (8, .int .i64 (((i + 1) : Nat) : Int))] ⟨rfl, rfl, rfl, rfl, rfl, rfl, trivial⟩, (i + 1), ⟨_, rfl, (St.begin _), ⟨by omega, h12⟩⟩, (by omega)⟩
      ·
        replace c2 := ne_of_beq_false c2
        refine dv (gyes_none rfl) (q_mv (v := .bool false) rfl) rfl (by decide) (cok1 trivial) ?_
        refine dno rfl (.inl rfl) rfl (by decide) ?_
        refine dno rfl (.inl rfl) rfl (by decide) ?_
        refine dno rfl (.inl rfl) rfl (by decide) ?_
        refine dno rfl (.inl rfl) rfl (by decide) ?_
        refine dno rfl (.inl rfl) rfl (by decide) ?_
        refine dv (gyes_none rfl) (q_pf (v := .bool false) rfl rfl) rfl (by decide) (call_ok rfl) ?_
        refine ⟨_, Wk.refl _ _, ?_⟩
        show awp _ _ _ _ _ _ _
        refine awp_cond_f rfl ?_
        refine awp_skip_wk ?_
        refine ⟨_, Wk.refl _ _, ?_⟩
        show awp _ _ _ _ _ _ _
        refine awp_regs hF ?_
        refine dv (gyes_none rfl) (OpQ.cast (v' := .int .i64 ((i + 1 : Nat) : Int)) (q_int rfl rfl rfl) (congrArg _ ((i64_in (by omega)).trans (by first | rfl | omega | (push_cast; rfl))))) rfl (by decide) (cok2 trivial (cconst rfl)) ?_
        refine dv (gyes_none rfl) (q_mv (v := .int .i64 ((i + 1 : Nat) : Int)) rfl) rfl (by decide) (cok1 trivial) ?_
        refine ⟨_, Wk.U [(0, y), (1, .pointer (some ⟨bi, 0, none⟩)), (2, .pointer (some ⟨bk, 0, none⟩)), (6, vT), (7, .int .i64 ((e.length : Nat) : Int)), (8, .int .i64 (((i + 1) : Nat) : Int))] ⟨rfl, rfl, rfl, rfl, rfl, rfl, trivial⟩, (i + 1), ⟨_, rfl, (St.begin _), ⟨by omega, hm _ _ _ (hsk i _ hI.2 (by omega) (by omega)) s8.kp⟩⟩, (by omega)⟩
    ·
      replace c1 := of_decide_eq_false c1
      refine ⟨_, Wk.refl _ _, ?_⟩
      show awp _ _ _ _ _ _ _
      refine awp_seq ?_
      refine awp_cond_f rfl ?_
      refine awp_exit_wk ?_
      refine ⟨_, Wk.refl _ _, ?_⟩
      repeat (with_reducible first | refine then_ret ?_ | refine blk_ret ?_ | refine then_exit ?_ | refine blk_exit ?_ | refine blk_exit' (by decide) ?_ | refine blk_normal ?_ | refine then_normal ?_ | refine retq_ret ?_ | refine retq_normal ?_ | refine ng_normal ?_ | refine ng_ret ?_ | refine ng_exit ?_)
      refine ret_is (v := .tuple #[]) rfl .nil rfl ?_
      obtain rfl : i = e.length := by omega
      exact ⟨rfl, .inl hI.2⟩
set_option maxRecDepth 100000 in
set_option maxHeartbeats 4000000 in
theorem get_t_ok {H0 : AHeap} (k0 : Nat) (hk0 : k0 < 18446744073709551616) (vT : Value) (e : List DEnt) (hT : SlS entc 2 H0 vT e) (hl : e.length ≤ 1000000) : ACalls Try.prog 14 [vT, .int .u64 ((k0 : Nat) : Int)] H0 (Rets (.tuple #[.int .u64 (((getV e k0).1 : Nat) : Int), .bool (getV e k0).2]) H0) := by
  have hF : Wd Fence.wide := .inl rfl
  have hM : Try.prog.follows .mixedOrders = true := by kernel_rfl
  have s0 := St.begin H0
  refine acalls_st Try.func14 rfl Try.ntmps14 rfl ?_
  refine awp_seq ?_
  refine awp_regs hF ?_
  refine x_new (fun b => .pointer (some ⟨b, 0, none⟩)) s0 (gyes_none rfl) (q_alloc (vs := [.int .u64 0]) 1 Try.zeroValue25 (by first | exact flat_scalar rfl | exact flat_agg rfl) rfl) rfl (by decide) (by simp [Op.operands, Call.operands]) (fun b1 H2 hb4 s3 => ?_)
  refine x_new (fun b => .pointer (some ⟨b, 0, none⟩)) s3 (gyes_none rfl) (q_alloc (vs := [.bool false]) 1 Try.zeroValue4 (by first | exact flat_scalar rfl | exact flat_agg rfl) rfl) rfl (by decide) (by simp [Op.operands, Call.operands]) (fun b5 H6 hb8 s7 => ?_)
  refine ⟨_, Wk.refl _ _, ?_⟩
  show awp _ _ _ _ _ _ _
  refine awp_seq ?_
  refine awp_seq ?_
  refine awp_regs hF ?_
  refine dv (gyes_none rfl) (q_mv (v := vT) rfl) rfl (by decide) (cok1 trivial) ?_
  refine dv (gyes_none rfl) (q_mv (v := .int .u64 ((k0 : Nat) : Int)) rfl) rfl (by decide) (cok1 trivial) ?_
  refine x_call [] hF (by kernel_rfl) (gyes_none rfl) Try.call17 rfl (args := [vT, .int .u64 ((k0 : Nat) : Int)]) rfl (all_ok k0 vT e (s7.sls hT)) (show _ < _ by decide) (call_ok rfl) rfl rfl (fun _ _ _ _ hd => by cases hd) ?_
  rintro _ H11 ⟨b9, b10, rfl, hn12⟩
  have s13 := s7.callL hn12
  refine ⟨trivial, ?_⟩
  show dList _ _ _ _ _ _ _ _ _ _
  refine ⟨_, Wk.refl _ _, ?_⟩
  show awp _ _ _ _ _ _ _
  refine awp_block ?_
  refine range_st s13 rfl Try.call40 (fun fn14 lp15 d16 l17 H18 hlp19 hd20 s21 => ?_)
  refine (all1_ok (H0 := H18) k0 vT e hl _ b10 b9 (fun (k : Nat) (H22 : AHeap) => St H0 (none0) (Rd H0) H22 [(l17, lp15 .ready none), (d16, .mark), (b9, .cells true [.int .u64 ((k0 : Nat) : Int)] 1), (b10, .cells true [vT] 1), (b5, .cells true [.bool false] 1), (b1, .cells true [.int .u64 0] 1)] ∧ (∀ j, j < k → ((nth e j).1 == k0) = false)) (fun (k' : Nat) (H22 : AHeap) => ∃ (r : Nat), St H0 (none0) (Rd H0) H22 [(l17, lp15 (.done) (some .ret)), (d16, .mark), (b9, .cells true [.int .u64 ((k0 : Nat) : Int)] 1), (b10, .cells true [vT] 1), (b5, .cells true [.bool true] 1), (b1, .cells true [.int .u64 ((r : Nat) : Int)] 1)] ∧ (getV e k0 = (r, true))) ?h00 (fun _ _ _ ⟨s_, hq⟩ k_ => ⟨s_.call0 k_, hq⟩) (fun k _ ⟨s_, hq⟩ hi_ hne => ⟨s_, lt_succ_casesN hq (beq_eq_false_iff_ne.2 hne)⟩) ?hb ?round).mono ?after
  case h00 => exact ⟨s21, fun j h => absurd h (Nat.not_lt_zero _)⟩
  case hb =>
    rintro k H22 ⟨s23, hq⟩
    exact ⟨s23.rd (j := 3) rfl, s23.rd (j := 2) rfl, s23.sls hT⟩
  case round =>
    rintro k H22  ⟨s23, hq⟩ hx hkd
    refine ylds_roundB hlp19 (s23.getj (j := 0) rfl) rfl rfl (fun l24 hF => ?_)
    refine awp_regs hF ?_
    refine dv (gyes_none rfl) (q_as (v := .int .u64 (((nth e k).2 : Nat) : Int)) rfl) rfl (by decide) (cok1 trivial) ?_
    refine ⟨_, Wk.refl _ _, ?_⟩
    refine then_normal ?_
    refine ⟨_, _, rfl, s23.getj (j := 0) rfl, ?body⟩
    case body =>
      have s25 := s23.setAt (j := 0) rfl (lp15 .busy none)
      show awp _ _ _ _ _ _ _
      refine awp_block ?_
      refine awp_seq ?_
      refine awp_regs hF ?_
      refine dv (gyes_none rfl) (q_mv (v := .int .u64 (((nth e k).2 : Nat) : Int)) rfl) rfl (by decide) (cok1 trivial) ?_
      refine x_store1 [] hF s25 (by kernel_rfl) (gyes_none rfl) (j := 5) (v := .int .u64 (((nth e k).2 : Nat) : Int)) rfl Try.sizeOf25 rfl rfl rfl (lc_scalar rfl) (Nat.le_of_ble_eq_true rfl) trivial trivial rfl rfl (F' := [(l17, lp15 .busy none), (d16, .mark), (b9, .cells true [.int .u64 ((k0 : Nat) : Int)] 1), (b10, .cells true [vT] 1), (b5, .cells true [.bool false] 1), (b1, .cells true [.int .u64 (((nth e k).2 : Nat) : Int)] 1)]) rfl (fun H26 s27 => ⟨?_, ?_⟩)
      · exact trivial
      refine x_store1 [] hF s27 (by kernel_rfl) (gyes_none rfl) (j := 4) (v := .bool true) rfl Try.sizeOf4 rfl rfl rfl (lc_scalar rfl) (Nat.le_of_ble_eq_true rfl) trivial (cconst rfl) rfl rfl (F' := [(l17, lp15 .busy none), (d16, .mark), (b9, .cells true [.int .u64 ((k0 : Nat) : Int)] 1), (b10, .cells true [vT] 1), (b5, .cells true [.bool true] 1), (b1, .cells true [.int .u64 (((nth e k).2 : Nat) : Int)] 1)]) rfl (fun H28 s29 => ⟨?_, ?_⟩)
      · exact trivial
      refine ⟨_, Wk.refl _ _, ?_⟩
      show awp _ _ _ _ _ _ _
      refine awp_ret_wk ?_
      refine ⟨_, Wk.refl _ _, ?_⟩
      repeat (with_reducible first | refine then_ret ?_ | refine blk_ret ?_ | refine then_exit ?_ | refine blk_exit ?_ | refine blk_exit' (by decide) ?_ | refine blk_normal ?_ | refine then_normal ?_ | refine retq_ret ?_ | refine retq_normal ?_ | refine ng_normal ?_ | refine ng_ret ?_ | refine ng_exit ?_)
      exact ⟨s29.getj (j := 0) rfl, (fun h => nomatch h), (fun _ => ⟨_, (s29.setAt (j := 0) rfl (lp15 .done (some .ret))), getV_yes hx hkd hq⟩)⟩
  case after =>
    rintro v H' ⟨rfl, hpost⟩
    rcases hpost with ⟨s30, hq⟩ | ⟨i_, hi_, ⟨r, s31, hr⟩⟩
    ·
      refine ⟨(by
          intro e he
          rcases List.mem_cons.1 he with rfl | he
          · exact s30.getj (j := 1) rfl
          · cases he), .inl ⟨s30.getj (j := 0) rfl, ?_⟩⟩
      have s32 := (s30.setAt (j := 0) rfl .none).forget 0
      refine ⟨_, Wk.refl _ _, ?_⟩
      show awp _ _ _ _ _ _ _
      refine awp_seq ?_
      refine awp_regs hF ?_
      refine x_store1 [] hF s32 (by kernel_rfl) (gyes_none rfl) (j := 4) (v := .int .u64 0) rfl Try.sizeOf25 rfl rfl rfl (lc_scalar rfl) (Nat.le_of_ble_eq_true rfl) trivial (cconst rfl) rfl rfl (F' := [(d16, .mark), (b9, .cells true [.int .u64 ((k0 : Nat) : Int)] 1), (b10, .cells true [vT] 1), (b5, .cells true [.bool false] 1), (b1, .cells true [.int .u64 0] 1)]) rfl (fun H33 s34 => ⟨?_, ?_⟩)
      · exact trivial
      refine x_store1 [] hF s34 (by kernel_rfl) (gyes_none rfl) (j := 3) (v := .bool false) rfl Try.sizeOf4 rfl rfl rfl (lc_scalar rfl) (Nat.le_of_ble_eq_true rfl) trivial (cconst rfl) rfl rfl (F' := [(d16, .mark), (b9, .cells true [.int .u64 ((k0 : Nat) : Int)] 1), (b10, .cells true [vT] 1), (b5, .cells true [.bool false] 1), (b1, .cells true [.int .u64 0] 1)]) rfl (fun H35 s36 => ⟨?_, ?_⟩)
      · exact trivial
      refine ⟨_, Wk.refl _ _, ?_⟩
      show awp _ _ _ _ _ _ _
      refine awp_ret_wk ?_
      refine ⟨_, Wk.refl _ _, ?_⟩
      repeat (with_reducible first | refine then_ret ?_ | refine blk_ret ?_ | refine then_exit ?_ | refine blk_exit ?_ | refine blk_exit' (by decide) ?_ | refine blk_normal ?_ | refine then_normal ?_ | refine retq_ret ?_ | refine retq_normal ?_ | refine ng_normal ?_ | refine ng_ret ?_ | refine ng_exit ?_)
      exact ret_noneD (v := .tuple #[.int .u64 0, .bool false]) rfl (s36.setAt (j := 0) rfl .none).kp (.cell rfl Try.isAgg25 ((s36.setAt (j := 0) rfl .none).rd (j := 4) rfl) rfl (.cell rfl Try.isAgg4 ((s36.setAt (j := 0) rfl .none).rd (j := 3) rfl) rfl .nil)) rfl rfl ⟨by rw [getV_no hq]; first | done | rfl, rfl⟩
    ·
      refine ⟨(by
          intro e he
          rcases List.mem_cons.1 he with rfl | he
          · exact s31.getj (j := 1) rfl
          · cases he), .inr ⟨_, s31.getj (j := 0) rfl, ?_⟩⟩
      have s37 := (s31.setAt (j := 0) rfl .none).forget 0
      refine awp_ret_wk ?_
      refine ⟨_, Wk.refl _ _, ?_⟩
      repeat (with_reducible first | refine then_ret ?_ | refine blk_ret ?_ | refine then_exit ?_ | refine blk_exit ?_ | refine blk_exit' (by decide) ?_ | refine blk_normal ?_ | refine then_normal ?_ | refine retq_ret ?_ | refine retq_normal ?_ | refine ng_normal ?_ | refine ng_ret ?_ | refine ng_exit ?_)
      exact ret_noneD (v := .tuple #[.int .u64 ((r : Nat) : Int), .bool true]) rfl (s37.setAt (j := 0) rfl .none).kp (.cell rfl Try.isAgg25 ((s37.setAt (j := 0) rfl .none).rd (j := 4) rfl) rfl (.cell rfl Try.isAgg4 ((s37.setAt (j := 0) rfl .none).rd (j := 3) rfl) rfl .nil)) rfl rfl ⟨by rw [hr]; first | done | rfl, rfl⟩
set_option maxRecDepth 100000 in
set_option maxHeartbeats 4000000 in
theorem span_ok {H0 : AHeap} (t z : Nat) (ht : t < 18446744073709551616) (hz : z < 18446744073709551616) (vT : Value) (e : List DEnt) (hT : SlS entc 2 H0 vT e) (hl : e.length ≤ 1000000) (hew : ∀ x ∈ e, EntW x) (B : ByteArray) (E : Nat) (vL : Value) (l : List Sg) (hB : B.size ≤ 140737488355328) (hL : SlS segc 6 H0 vL l) (hl2 : l.length ≤ 1000000) (hlow : LowL l) (hinb : InB B l) : ACalls Try.prog 19 [vT, .agg #[.string B, .int .u64 ((E : Nat) : Int), vL], .int .u64 ((t : Nat) : Int), .int .u64 ((z : Nat) : Int)] H0 (Rets (.tuple #[.string (spanV B l e t z).1, .bool (spanV B l e t z).2]) H0) := by
  have hF : Wd Fence.wide := .inl rfl
  have hM : Try.prog.follows .mixedOrders = true := by kernel_rfl
  have h1 := getV_lt hew t
  have h2 := getV_lt hew z
  have s0 := St.begin H0
  refine acalls_st Try.func19 rfl Try.ntmps19 rfl ?_
  refine awp_seq ?_
  refine awp_regs hF ?_
  refine x_new (fun b => .pointer (some ⟨b, 0, none⟩)) s0 (gyes_none rfl) (q_box (v := .agg #[.string B, .int .u64 ((E : Nat) : Int), vL]) (vs := [.string B, .int .u64 ((E : Nat) : Int), vL]) 3 rfl (by exact trivial) rfl) rfl (by decide) (cok1 trivial) (fun b1 H2 hb4 s3 => ?_)
  refine dv (gyes_none rfl) (q_as (v := .string (⟨#[]⟩ : ByteArray)) rfl) rfl (by decide) (cok1 (cconst rfl)) ?_
  refine dv (gyes_none rfl) (q_as (v := .bool false) rfl) rfl (by decide) (cok1 (cconst rfl)) ?_
  refine ⟨_, Wk.refl _ _, ?_⟩
  show awp _ _ _ _ _ _ _
  refine awp_seq ?_
  refine awp_regs hF ?_
  refine dv (gyes_none rfl) (q_mv (v := vT) rfl) rfl (by decide) (cok1 trivial) ?_
  refine dv (gyes_none rfl) (q_mv (v := .int .u64 ((t : Nat) : Int)) rfl) rfl (by decide) (cok1 trivial) ?_
  refine dv (gyes_none rfl) (q_call0 Try.call14 rfl (get_t_ok t (by omega) _ e (s3.sls hT) hl)) rfl (by decide) (call_ok rfl) ?_
  refine dv (gyes_none rfl) (q_mv (v := .tuple #[.int .u64 (((getV e t).1 : Nat) : Int), .bool ((getV e t).2)]) rfl) rfl (by decide) (cok1 trivial) ?_
  refine dv (gyes_none rfl) (q_extract (v := .int .u64 (((getV e t).1 : Nat) : Int)) rfl rfl) rfl (by decide) (cok1 trivial) ?_
  refine dvb (gyes_none rfl) (q_extract (v := .bool ((getV e t).2)) rfl rfl) rfl (by decide) (cok1 trivial) (fun c1 => ?_) (fun c1 => ?_)
  ·
    refine dv (gyes_none rfl) (q_as (v := .int .u64 (((getV e t).1 : Nat) : Int)) rfl) rfl (by decide) (cok1 trivial) ?_
    refine dv (gyes_none rfl) (q_as (v := .bool true) rfl) rfl (by decide) (cok1 trivial) ?_
    refine ⟨_, Wk.refl _ _, ?_⟩
    show awp _ _ _ _ _ _ _
    refine awp_seq ?_
    refine awp_seq ?_
    refine awp_regs hF ?_
    refine dv (gyes_none rfl) (q_mv (v := .bool true) rfl) rfl (by decide) (cok1 trivial) ?_
    refine dv (gyes_none rfl) (q_not (b := true) rfl) rfl (by decide) (cok1 trivial) ?_
    refine ⟨_, Wk.refl _ _, ?_⟩
    show awp _ _ _ _ _ _ _
    refine awp_cond_f rfl ?_
    refine awp_skip_wk ?_
    refine ⟨_, Wk.refl _ _, ?_⟩
    show awp _ _ _ _ _ _ _
    refine awp_seq ?_
    refine awp_regs hF ?_
    refine dv (gyes_none rfl) (q_mv (v := vT) rfl) rfl (by decide) (cok1 trivial) ?_
    refine dv (gyes_none rfl) (q_mv (v := .int .u64 ((z : Nat) : Int)) rfl) rfl (by decide) (cok1 trivial) ?_
    refine dv (gyes_none rfl) (q_call0 Try.call14 rfl (get_t_ok z (by omega) _ e (s3.sls hT) hl)) rfl (by decide) (call_ok rfl) ?_
    refine dv (gyes_none rfl) (q_mv (v := .tuple #[.int .u64 (((getV e z).1 : Nat) : Int), .bool ((getV e z).2)]) rfl) rfl (by decide) (cok1 trivial) ?_
    refine dv (gyes_none rfl) (q_extract (v := .int .u64 (((getV e z).1 : Nat) : Int)) rfl rfl) rfl (by decide) (cok1 trivial) ?_
    refine dvb (gyes_none rfl) (q_extract (v := .bool ((getV e z).2)) rfl rfl) rfl (by decide) (cok1 trivial) (fun c2 => ?_) (fun c2 => ?_)
    ·
      refine dv (gyes_none rfl) (q_as (v := .int .u64 (((getV e z).1 : Nat) : Int)) rfl) rfl (by decide) (cok1 trivial) ?_
      refine dv (gyes_none rfl) (q_as (v := .bool true) rfl) rfl (by decide) (cok1 trivial) ?_
      refine ⟨_, Wk.refl _ _, ?_⟩
      show awp _ _ _ _ _ _ _
      refine awp_seq ?_
      refine awp_seq ?_
      refine awp_regs hF ?_
      refine dv (gyes_none rfl) (q_mv (v := .bool true) rfl) rfl (by decide) (cok1 trivial) ?_
      refine dv (gyes_none rfl) (q_not (b := true) rfl) rfl (by decide) (cok1 trivial) ?_
      refine dv (gyes_none rfl) (q_mv (v := .bool false) rfl) rfl (by decide) (cok1 trivial) ?_
      refine dv (gyes_some rfl rfl) (q_mv (v := .int .u64 (((getV e z).1 : Nat) : Int)) rfl) rfl (by decide) (cok1 trivial) ?_
      refine dvb (gyes_some rfl rfl) (q_int rfl rfl rfl) rfl (by decide) (cok2 trivial (cconst rfl)) (fun c3 => ?_) (fun c3 => ?_)
      ·
        replace c3 := of_decide_eq_true c3
        refine dv (gyes_none rfl) (q_pf (v := .bool true) rfl rfl) rfl (by decide) (call_ok rfl) ?_
        refine ⟨_, Wk.refl _ _, ?_⟩
        show awp _ _ _ _ _ _ _
        refine awp_cond_t rfl ?_
        refine awp_seq ?_
        refine awp_regs hF ?_
        refine dv (gyes_none rfl) (q_as (v := .string (⟨#[]⟩ : ByteArray)) rfl) rfl (by decide) (cok1 (cconst rfl)) ?_
        refine dv (gyes_none rfl) (q_as (v := .bool false) rfl) rfl (by decide) (cok1 (cconst rfl)) ?_
        refine ⟨_, Wk.refl _ _, ?_⟩
        show awp _ _ _ _ _ _ _
        refine awp_ret_wk ?_
        refine ⟨_, Wk.refl _ _, ?_⟩
        repeat (with_reducible first | refine then_ret ?_ | refine blk_ret ?_ | refine then_exit ?_ | refine blk_exit ?_ | refine blk_exit' (by decide) ?_ | refine blk_normal ?_ | refine then_normal ?_ | refine retq_ret ?_ | refine retq_normal ?_ | refine ng_normal ?_ | refine ng_ret ?_ | refine ng_exit ?_)
        exact ret_none (v := .tuple #[.string (⟨#[]⟩ : ByteArray), .bool false]) rfl s3.kp (.tmp rfl (.tmp rfl .nil)) rfl rfl ⟨by rw [spanV, if_neg (by simp [*]), if_pos (by first | exact .inl (by assumption) | exact .inr (by omega))], rfl⟩
      ·
        replace c3 := of_decide_eq_false c3
        refine dv (gyes_none rfl) (q_pf (v := .bool false) rfl rfl) rfl (by decide) (call_ok rfl) ?_
        refine ⟨_, Wk.refl _ _, ?_⟩
        show awp _ _ _ _ _ _ _
        refine awp_cond_f rfl ?_
        refine awp_skip_wk ?_
        refine ⟨_, Wk.refl _ _, ?_⟩
        show awp _ _ _ _ _ _ _
        refine awp_seq ?_
        refine awp_regs hF ?_
        refine dv (gyes_none rfl) (q_loadAgg Try.isAgg33 Try.sizeOf33 rfl (s3.rd (j := 0) rfl) (Nat.le_of_ble_eq_true rfl) rfl) rfl (by decide) (cok1 trivial) ?_
        refine dv (gyes_none rfl) (q_mv (v := .int .u64 (((getV e t).1 : Nat) : Int)) rfl) rfl (by decide) (cok1 trivial) ?_
        refine dv (gyes_none rfl) (q_mv (v := .int .u64 (((getV e z).1 : Nat) : Int)) rfl) rfl (by decide) (cok1 trivial) ?_
        refine dv (gyes_none rfl) (q_call0 Try.call35 rfl (imgAt_ok B E ((getV e t).1) ((getV e z).1) (by omega) (by omega) vL l hB (s3.sls hL) hl2 hlow hinb)) rfl (by decide) (call_ok rfl) ?_
        refine dv (gyes_none rfl) (q_extract (v := .string ((imgAt B l ((getV e t).1) ((getV e z).1)).1)) rfl rfl) rfl (by decide) (cok1 trivial) ?_
        refine dv (gyes_none rfl) (q_extract (v := .bool ((imgAt B l ((getV e t).1) ((getV e z).1)).2)) rfl rfl) rfl (by decide) (cok1 trivial) ?_
        refine dv (gyes_none rfl) (q_as (v := .string ((imgAt B l ((getV e t).1) ((getV e z).1)).1)) rfl) rfl (by decide) (cok1 trivial) ?_
        refine dv (gyes_none rfl) (q_as (v := .bool ((imgAt B l ((getV e t).1) ((getV e z).1)).2)) rfl) rfl (by decide) (cok1 trivial) ?_
        refine ⟨_, Wk.refl _ _, ?_⟩
        show awp _ _ _ _ _ _ _
        refine awp_ret_wk ?_
        refine ⟨_, Wk.refl _ _, ?_⟩
        repeat (with_reducible first | refine then_ret ?_ | refine blk_ret ?_ | refine then_exit ?_ | refine blk_exit ?_ | refine blk_exit' (by decide) ?_ | refine blk_normal ?_ | refine then_normal ?_ | refine retq_ret ?_ | refine retq_normal ?_ | refine ng_normal ?_ | refine ng_ret ?_ | refine ng_exit ?_)
        exact ret_none (v := .tuple #[.string ((imgAt B l ((getV e t).1) ((getV e z).1)).1), .bool ((imgAt B l ((getV e t).1) ((getV e z).1)).2)]) rfl s3.kp (.tmp rfl (.tmp rfl .nil)) rfl rfl ⟨by rw [spanV, if_neg (by simp [*]), if_neg (by rintro (h | h) <;> first | omega | simp_all)], rfl⟩
    ·
      refine dv (gyes_none rfl) (q_as (v := .int .u64 (((getV e z).1 : Nat) : Int)) rfl) rfl (by decide) (cok1 trivial) ?_
      refine dv (gyes_none rfl) (q_as (v := .bool false) rfl) rfl (by decide) (cok1 trivial) ?_
      refine ⟨_, Wk.refl _ _, ?_⟩
      show awp _ _ _ _ _ _ _
      refine awp_seq ?_
      refine awp_seq ?_
      refine awp_regs hF ?_
      refine dv (gyes_none rfl) (q_mv (v := .bool false) rfl) rfl (by decide) (cok1 trivial) ?_
      refine dv (gyes_none rfl) (q_not (b := false) rfl) rfl (by decide) (cok1 trivial) ?_
      refine dv (gyes_none rfl) (q_mv (v := .bool true) rfl) rfl (by decide) (cok1 trivial) ?_
      refine dno rfl (.inl rfl) rfl (by decide) ?_
      refine dno rfl (.inl rfl) rfl (by decide) ?_
      refine dv (gyes_none rfl) (q_pt (v := .bool true) rfl rfl) rfl (by decide) (call_ok rfl) ?_
      refine ⟨_, Wk.refl _ _, ?_⟩
      show awp _ _ _ _ _ _ _
      refine awp_cond_t rfl ?_
      refine awp_seq ?_
      refine awp_regs hF ?_
      refine dv (gyes_none rfl) (q_as (v := .string (⟨#[]⟩ : ByteArray)) rfl) rfl (by decide) (cok1 (cconst rfl)) ?_
      refine dv (gyes_none rfl) (q_as (v := .bool false) rfl) rfl (by decide) (cok1 (cconst rfl)) ?_
      refine ⟨_, Wk.refl _ _, ?_⟩
      show awp _ _ _ _ _ _ _
      refine awp_ret_wk ?_
      refine ⟨_, Wk.refl _ _, ?_⟩
      repeat (with_reducible first | refine then_ret ?_ | refine blk_ret ?_ | refine then_exit ?_ | refine blk_exit ?_ | refine blk_exit' (by decide) ?_ | refine blk_normal ?_ | refine then_normal ?_ | refine retq_ret ?_ | refine retq_normal ?_ | refine ng_normal ?_ | refine ng_ret ?_ | refine ng_exit ?_)
      exact ret_none (v := .tuple #[.string (⟨#[]⟩ : ByteArray), .bool false]) rfl s3.kp (.tmp rfl (.tmp rfl .nil)) rfl rfl ⟨by rw [spanV, if_neg (by simp [*]), if_pos (by first | exact .inl (by assumption) | exact .inr (by omega))], rfl⟩
  ·
    refine dv (gyes_none rfl) (q_as (v := .int .u64 (((getV e t).1 : Nat) : Int)) rfl) rfl (by decide) (cok1 trivial) ?_
    refine dv (gyes_none rfl) (q_as (v := .bool false) rfl) rfl (by decide) (cok1 trivial) ?_
    refine ⟨_, Wk.refl _ _, ?_⟩
    show awp _ _ _ _ _ _ _
    refine awp_seq ?_
    refine awp_seq ?_
    refine awp_regs hF ?_
    refine dv (gyes_none rfl) (q_mv (v := .bool false) rfl) rfl (by decide) (cok1 trivial) ?_
    refine dv (gyes_none rfl) (q_not (b := false) rfl) rfl (by decide) (cok1 trivial) ?_
    refine ⟨_, Wk.refl _ _, ?_⟩
    show awp _ _ _ _ _ _ _
    refine awp_cond_t rfl ?_
    refine awp_seq ?_
    refine awp_regs hF ?_
    refine dv (gyes_none rfl) (q_as (v := .string (⟨#[]⟩ : ByteArray)) rfl) rfl (by decide) (cok1 (cconst rfl)) ?_
    refine dv (gyes_none rfl) (q_as (v := .bool true) rfl) rfl (by decide) (cok1 (cconst rfl)) ?_
    refine ⟨_, Wk.refl _ _, ?_⟩
    show awp _ _ _ _ _ _ _
    refine awp_ret_wk ?_
    refine ⟨_, Wk.refl _ _, ?_⟩
    repeat (with_reducible first | refine then_ret ?_ | refine blk_ret ?_ | refine then_exit ?_ | refine blk_exit ?_ | refine blk_exit' (by decide) ?_ | refine blk_normal ?_ | refine then_normal ?_ | refine retq_ret ?_ | refine retq_normal ?_ | refine ng_normal ?_ | refine ng_ret ?_ | refine ng_exit ?_)
    exact ret_none (v := .tuple #[.string (⟨#[]⟩ : ByteArray), .bool true]) rfl s3.kp (.tmp rfl (.tmp rfl .nil)) rfl rfl ⟨by rw [spanV, if_pos (by assumption)], rfl⟩
set_option maxRecDepth 100000 in
set_option maxHeartbeats 4000000 in
theorem tab_ok {H0 : AHeap} (a : Nat) (ha : a < 18446744073709551616) (vT : Value) (e : List DEnt) (hT : SlS entc 2 H0 vT e) (hl : e.length ≤ 1000000) (hew : ∀ x ∈ e, EntW x) (B : ByteArray) (E : Nat) (vL : Value) (l : List Sg) (hB : B.size ≤ 140737488355328) (hL : SlS segc 6 H0 vL l) (hl2 : l.length ≤ 1000000) (hlow : LowL l) (hinb : InB B l) : ACalls Try.prog 21 [vT, .agg #[.string B, .int .u64 ((E : Nat) : Int), vL], .int .u64 ((a : Nat) : Int)] H0 (Rets (.tuple #[.string (tabV B l e a).1, .bool (tabV B l e a).2]) H0) := by
  have hF : Wd Fence.wide := .inl rfl
  have hM : Try.prog.follows .mixedOrders = true := by kernel_rfl
  have hsz := spanV_size (e := e) (t := 5) (z := 10) hinb
  have s0 := St.begin H0
  refine acalls_st Try.func21 rfl Try.ntmps21 rfl ?_
  refine awp_seq ?_
  refine awp_regs hF ?_
  refine x_new (fun b => .pointer (some ⟨b, 0, none⟩)) s0 (gyes_none rfl) (q_box (v := .agg #[.string B, .int .u64 ((E : Nat) : Int), vL]) (vs := [.string B, .int .u64 ((E : Nat) : Int), vL]) 3 rfl (by exact trivial) rfl) rfl (by decide) (cok1 trivial) (fun b1 H2 hb4 s3 => ?_)
  refine dv (gyes_none rfl) (q_as (v := .string (⟨#[]⟩ : ByteArray)) rfl) rfl (by decide) (cok1 (cconst rfl)) ?_
  refine dv (gyes_none rfl) (q_as (v := .bool false) rfl) rfl (by decide) (cok1 (cconst rfl)) ?_
  refine ⟨_, Wk.refl _ _, ?_⟩
  show awp _ _ _ _ _ _ _
  refine awp_seq ?_
  refine awp_seq ?_
  refine awp_regs hF ?_
  refine dv (gyes_none rfl) (q_mv (v := vT) rfl) rfl (by decide) (cok1 trivial) ?_
  refine dv (gyes_none rfl) (q_call0 Try.call14 rfl (get_t_ok 5 (by omega) _ e (s3.sls hT) hl)) rfl (by decide) (call_ok rfl) ?_
  refine dv (gyes_none rfl) (q_mv (v := .tuple #[.int .u64 (((getV e 5).1 : Nat) : Int), .bool ((getV e 5).2)]) rfl) rfl (by decide) (cok1 trivial) ?_
  refine dv (gyes_none rfl) (q_extract (v := .int .u64 (((getV e 5).1 : Nat) : Int)) rfl rfl) rfl (by decide) (cok1 trivial) ?_
  refine dvb (gyes_none rfl) (q_extract (v := .bool ((getV e 5).2)) rfl rfl) rfl (by decide) (cok1 trivial) (fun c1 => ?_) (fun c1 => ?_)
  ·
    refine dv (gyes_none rfl) (q_as (v := .int .u64 (((getV e 5).1 : Nat) : Int)) rfl) rfl (by decide) (cok1 trivial) ?_
    refine dv (gyes_none rfl) (q_as (v := .bool true) rfl) rfl (by decide) (cok1 trivial) ?_
    refine ⟨_, Wk.refl _ _, ?_⟩
    show awp _ _ _ _ _ _ _
    refine awp_seq ?_
    refine awp_regs hF ?_
    refine dv (gyes_none rfl) (q_mv (v := .bool true) rfl) rfl (by decide) (cok1 trivial) ?_
    refine dv (gyes_none rfl) (q_not (b := true) rfl) rfl (by decide) (cok1 trivial) ?_
    refine ⟨_, Wk.refl _ _, ?_⟩
    show awp _ _ _ _ _ _ _
    refine awp_cond_f rfl ?_
    refine awp_skip_wk ?_
    refine ⟨_, Wk.refl _ _, ?_⟩
    show awp _ _ _ _ _ _ _
    refine awp_seq ?_
    refine awp_regs hF ?_
    refine dv (gyes_none rfl) (q_mv (v := vT) rfl) rfl (by decide) (cok1 trivial) ?_
    refine dv (gyes_none rfl) (q_loadAgg Try.isAgg33 Try.sizeOf33 rfl (s3.rd (j := 0) rfl) (Nat.le_of_ble_eq_true rfl) rfl) rfl (by decide) (cok1 trivial) ?_
    refine dv (gyes_none rfl) (q_call0 Try.call19 rfl (span_ok 5 10 (by decide) (by decide) _ e (s3.sls hT) hl hew B E vL l hB (s3.sls hL) hl2 hlow hinb)) rfl (by decide) (call_ok rfl) ?_
    refine dv (gyes_none rfl) (q_mv (v := .tuple #[.string ((spanV B l e 5 10).1), .bool ((spanV B l e 5 10).2)]) rfl) rfl (by decide) (cok1 trivial) ?_
    refine dv (gyes_none rfl) (q_extract (v := .string ((spanV B l e 5 10).1)) rfl rfl) rfl (by decide) (cok1 trivial) ?_
    refine dvb (gyes_none rfl) (q_extract (v := .bool ((spanV B l e 5 10).2)) rfl rfl) rfl (by decide) (cok1 trivial) (fun c2 => ?_) (fun c2 => ?_)
    ·
      refine dv (gyes_none rfl) (q_as (v := .string ((spanV B l e 5 10).1)) rfl) rfl (by decide) (cok1 trivial) ?_
      refine dv (gyes_none rfl) (q_as (v := .bool true) rfl) rfl (by decide) (cok1 trivial) ?_
      refine ⟨_, Wk.refl _ _, ?_⟩
      show awp _ _ _ _ _ _ _
      refine awp_seq ?_
      refine awp_seq ?_
      refine awp_regs hF ?_
      refine dv (gyes_none rfl) (q_mv (v := .bool true) rfl) rfl (by decide) (cok1 trivial) ?_
      refine dv (gyes_none rfl) (q_not (b := true) rfl) rfl (by decide) (cok1 trivial) ?_
      refine ⟨_, Wk.refl _ _, ?_⟩
      show awp _ _ _ _ _ _ _
      refine awp_cond_f rfl ?_
      refine awp_skip_wk ?_
      refine ⟨_, Wk.refl _ _, ?_⟩
      show awp _ _ _ _ _ _ _
      refine awp_seq ?_
      refine awp_regs hF ?_
      refine dv (gyes_none rfl) (q_mv (v := .string ((spanV B l e 5 10).1)) rfl) rfl (by decide) (cok1 trivial) ?_
      refine dv (gyes_none rfl) (q_mv (v := .int .u64 ((a : Nat) : Int)) rfl) rfl (by decide) (cok1 trivial) ?_
      refine dv (gyes_none rfl) (q_call0 Try.call41 rfl (leText_ok (spanV B l e 5 10).1 a 32 (Nat.le_trans hsz (by decide)) ha (by decide))) rfl (by decide) (call_ok rfl) ?_
      refine dv (gyes_none rfl) (q_extract (v := .string ((textV (spanV B l e 5 10).1 a 32).1)) rfl rfl) rfl (by decide) (cok1 trivial) ?_
      refine dv (gyes_none rfl) (q_extract (v := .bool ((textV (spanV B l e 5 10).1 a 32).2)) rfl rfl) rfl (by decide) (cok1 trivial) ?_
      refine dv (gyes_none rfl) (q_as (v := .string ((textV (spanV B l e 5 10).1 a 32).1)) rfl) rfl (by decide) (cok1 trivial) ?_
      refine dv (gyes_none rfl) (q_as (v := .bool ((textV (spanV B l e 5 10).1 a 32).2)) rfl) rfl (by decide) (cok1 trivial) ?_
      refine ⟨_, Wk.refl _ _, ?_⟩
      show awp _ _ _ _ _ _ _
      refine awp_ret_wk ?_
      refine ⟨_, Wk.refl _ _, ?_⟩
      repeat (with_reducible first | refine then_ret ?_ | refine blk_ret ?_ | refine then_exit ?_ | refine blk_exit ?_ | refine blk_exit' (by decide) ?_ | refine blk_normal ?_ | refine then_normal ?_ | refine retq_ret ?_ | refine retq_normal ?_ | refine ng_normal ?_ | refine ng_ret ?_ | refine ng_exit ?_)
      exact ret_none (v := .tuple #[.string ((textV (spanV B l e 5 10).1 a 32).1), .bool ((textV (spanV B l e 5 10).1 a 32).2)]) rfl s3.kp (.tmp rfl (.tmp rfl .nil)) rfl rfl ⟨by rw [tabV, if_neg (by simp [*]), if_neg (by simp [*])], rfl⟩
    ·
      refine dv (gyes_none rfl) (q_as (v := .string ((spanV B l e 5 10).1)) rfl) rfl (by decide) (cok1 trivial) ?_
      refine dv (gyes_none rfl) (q_as (v := .bool false) rfl) rfl (by decide) (cok1 trivial) ?_
      refine ⟨_, Wk.refl _ _, ?_⟩
      show awp _ _ _ _ _ _ _
      refine awp_seq ?_
      refine awp_seq ?_
      refine awp_regs hF ?_
      refine dv (gyes_none rfl) (q_mv (v := .bool false) rfl) rfl (by decide) (cok1 trivial) ?_
      refine dv (gyes_none rfl) (q_not (b := false) rfl) rfl (by decide) (cok1 trivial) ?_
      refine ⟨_, Wk.refl _ _, ?_⟩
      show awp _ _ _ _ _ _ _
      refine awp_cond_t rfl ?_
      refine awp_seq ?_
      refine awp_regs hF ?_
      refine dv (gyes_none rfl) (q_as (v := .string (⟨#[]⟩ : ByteArray)) rfl) rfl (by decide) (cok1 (cconst rfl)) ?_
      refine dv (gyes_none rfl) (q_as (v := .bool false) rfl) rfl (by decide) (cok1 (cconst rfl)) ?_
      refine ⟨_, Wk.refl _ _, ?_⟩
      show awp _ _ _ _ _ _ _
      refine awp_ret_wk ?_
      refine ⟨_, Wk.refl _ _, ?_⟩
      repeat (with_reducible first | refine then_ret ?_ | refine blk_ret ?_ | refine then_exit ?_ | refine blk_exit ?_ | refine blk_exit' (by decide) ?_ | refine blk_normal ?_ | refine then_normal ?_ | refine retq_ret ?_ | refine retq_normal ?_ | refine ng_normal ?_ | refine ng_ret ?_ | refine ng_exit ?_)
      exact ret_none (v := .tuple #[.string (⟨#[]⟩ : ByteArray), .bool false]) rfl s3.kp (.tmp rfl (.tmp rfl .nil)) rfl rfl ⟨by rw [tabV, if_neg (by simp [*]), if_pos (by assumption)], rfl⟩
  ·
    refine dv (gyes_none rfl) (q_as (v := .int .u64 (((getV e 5).1 : Nat) : Int)) rfl) rfl (by decide) (cok1 trivial) ?_
    refine dv (gyes_none rfl) (q_as (v := .bool false) rfl) rfl (by decide) (cok1 trivial) ?_
    refine ⟨_, Wk.refl _ _, ?_⟩
    show awp _ _ _ _ _ _ _
    refine awp_seq ?_
    refine awp_regs hF ?_
    refine dv (gyes_none rfl) (q_mv (v := .bool false) rfl) rfl (by decide) (cok1 trivial) ?_
    refine dv (gyes_none rfl) (q_not (b := false) rfl) rfl (by decide) (cok1 trivial) ?_
    refine ⟨_, Wk.refl _ _, ?_⟩
    show awp _ _ _ _ _ _ _
    refine awp_cond_t rfl ?_
    refine awp_seq ?_
    refine awp_regs hF ?_
    refine dv (gyes_none rfl) (q_as (v := .string (⟨#[]⟩ : ByteArray)) rfl) rfl (by decide) (cok1 (cconst rfl)) ?_
    refine dv (gyes_none rfl) (q_as (v := .bool false) rfl) rfl (by decide) (cok1 (cconst rfl)) ?_
    refine ⟨_, Wk.refl _ _, ?_⟩
    show awp _ _ _ _ _ _ _
    refine awp_ret_wk ?_
    refine ⟨_, Wk.refl _ _, ?_⟩
    repeat (with_reducible first | refine then_ret ?_ | refine blk_ret ?_ | refine then_exit ?_ | refine blk_exit ?_ | refine blk_exit' (by decide) ?_ | refine blk_normal ?_ | refine then_normal ?_ | refine retq_ret ?_ | refine retq_normal ?_ | refine ng_normal ?_ | refine ng_ret ?_ | refine ng_exit ?_)
    exact ret_none (v := .tuple #[.string (⟨#[]⟩ : ByteArray), .bool false]) rfl s3.kp (.tmp rfl (.tmp rfl .nil)) rfl rfl ⟨by rw [tabV, if_pos (by assumption)], rfl⟩

end Go.Proofs.YthfndghgfabbjaaA


/-
  Walks of functions of the given program, and what they compute.
-/
namespace Go.Proofs.YthfndghgfabbjaaA
set_option linter.unusedVariables false
open Go Go.RowKit Go.Shelf Go.Proofs
set_option maxRecDepth 100000 in
set_option maxHeartbeats 4000000 in
theorem section_ok {H0 : AHeap} (B : ByteArray) (E : Nat) (vL : Value) (l : List Sg) (hL : SlS segc 6 H0 vL l) (hl : l.length ≤ 1000000) : ACalls Try.prog 34 [.agg #[.string B, .int .u64 ((E : Nat) : Int), vL]] H0 (Rets (.tuple #[.agg (segc (dynX l)).toArray, .bool (decide (dynI l < l.length))]) H0) := by
  have hF : Wd Fence.wide := .inl rfl
  have hM : Try.prog.follows .mixedOrders = true := by kernel_rfl
  have s0 := St.begin H0
  refine acalls_st Try.func34 rfl Try.ntmps34 rfl ?_
  refine awp_seq ?_
  refine awp_regs hF ?_
  refine x_new (fun b => .pointer (some ⟨b, 0, none⟩)) s0 (gyes_none rfl) (q_box (v := .agg #[.string B, .int .u64 ((E : Nat) : Int), vL]) (vs := [.string B, .int .u64 ((E : Nat) : Int), vL]) 3 rfl (by exact trivial) rfl) rfl (by decide) (cok1 trivial) (fun b1 H2 hb4 s3 => ?_)
  refine x_new (fun b => .pointer (some ⟨b, 0, none⟩)) s3 (gyes_none rfl) (q_alloc (vs := [.int .u32 0, .int .i64 0, .int .u64 0, .int .u64 0, .int .u64 0, .int .u64 0]) 6 Try.zeroValue75 (by first | exact flat_scalar rfl | exact flat_agg rfl) rfl) rfl (by decide) (by simp [Op.operands, Call.operands]) (fun b5 H6 hb8 s7 => ?_)
  refine x_new (fun b => .pointer (some ⟨b, 0, none⟩)) s7 (gyes_none rfl) (q_alloc (vs := [.bool false]) 1 Try.zeroValue4 (by first | exact flat_scalar rfl | exact flat_agg rfl) rfl) rfl (by decide) (by simp [Op.operands, Call.operands]) (fun b9 H10 hb12 s11 => ?_)
  refine ⟨_, Wk.refl _ _, ?_⟩
  show awp _ _ _ _ _ _ _
  refine awp_seq ?_
  refine awp_seq ?_
  refine awp_regs hF ?_
  refine dv (gyes_none rfl) (q_loadAgg Try.isAgg33 Try.sizeOf33 rfl (s11.rd (j := 2) rfl) (Nat.le_of_ble_eq_true rfl) rfl) rfl (by decide) (cok1 trivial) ?_
  refine x_call [] hF (by kernel_rfl) (gyes_none rfl) Try.call45 rfl (args := [.agg #[.string B, .int .u64 ((E : Nat) : Int), vL], .int .u32 2]) rfl (of_ok B E 2 vL l (s11.sls hL)) (show _ < _ by decide) (call_ok rfl) rfl rfl (fun _ _ _ _ hd => by cases hd) ?_
  rintro _ H15 ⟨b13, b14, rfl, hn16⟩
  have s17 := s11.callL hn16
  refine ⟨trivial, ?_⟩
  show dList _ _ _ _ _ _ _ _ _ _
  refine ⟨_, Wk.refl _ _, ?_⟩
  show awp _ _ _ _ _ _ _
  refine awp_block ?_
  refine range_st s17 rfl Try.call51 (fun fn18 lp19 d20 l21 H22 hlp23 hd24 s25 => ?_)
  refine (of1_ok (H0 := H22) B E 2 vL l (by omega) _ b14 b13 (fun (k : Nat) (H26 : AHeap) => St H0 (none0) (Rd H0) H26 [(l21, lp19 .ready none), (d20, .mark), (b13, .cells true [.int .u32 2] 1), (b14, .cells true [.string B, .int .u64 ((E : Nat) : Int), vL] 3), (b9, .cells true [.bool false] 1), (b5, .cells true [.int .u32 0, .int .i64 0, .int .u64 0, .int .u64 0, .int .u64 0, .int .u64 0] 6), (b1, .cells true [.string B, .int .u64 ((E : Nat) : Int), vL] 3)] ∧ (∀ j, j < k → ((nth l j).1 == 2) = false)) (fun (k' : Nat) (H26 : AHeap) => ∃ (q : Nat), St H0 (none0) (Rd H0) H26 [(l21, lp19 (.done) (some .ret)), (d20, .mark), (b13, .cells true [.int .u32 2] 1), (b14, .cells true [.string B, .int .u64 ((E : Nat) : Int), vL] 3), (b9, .cells true [.bool true] 1), (b5, .cells true [.int .u32 (((nth l q).1 : Nat) : Int), .int .i64 (((nth l q).2.1 : Nat) : Int), .int .u64 (((nth l q).2.2.1 : Nat) : Int), .int .u64 (((nth l q).2.2.2.1 : Nat) : Int), .int .u64 (((nth l q).2.2.2.2.1 : Nat) : Int), .int .u64 (((nth l q).2.2.2.2.2 : Nat) : Int)] 6), (b1, .cells true [.string B, .int .u64 ((E : Nat) : Int), vL] 3)] ∧ (q < l.length ∧ dynI l = q)) ?h00 (fun _ _ _ ⟨s_, hq⟩ k_ => ⟨s_.call0 k_, hq⟩) (fun k _ ⟨s_, hq⟩ hi_ hne => ⟨s_, lt_succ_casesN hq (beq_eq_false_iff_ne.2 hne)⟩) ?hb ?round).mono ?after
  case h00 => exact ⟨s25, fun j h => absurd h (Nat.not_lt_zero _)⟩
  case hb =>
    rintro k H26 ⟨s27, hq⟩
    exact ⟨s27.rd (j := 3) rfl, s27.rd (j := 2) rfl, s27.sls hL⟩
  case round =>
    rintro k H26  ⟨s27, hq⟩ hx hkd
    refine ylds_roundB hlp23 (s27.getj (j := 0) rfl) rfl rfl (fun l28 hF => ?_)
    refine awp_regs hF ?_
    refine x_new (fun b => .pointer (some ⟨b, 0, none⟩)) s27 (gyes_none rfl) (q_alloc (vs := [.int .u32 0, .int .i64 0, .int .u64 0, .int .u64 0, .int .u64 0, .int .u64 0]) 6 Try.zeroValue75 (by first | exact flat_scalar rfl | exact flat_agg rfl) rfl) rfl (by decide) (by simp [Op.operands, Call.operands]) (fun b29 H30 hb32 s31 => ?_)
    refine x_store [] hF s31 (by kernel_rfl) (gyes_none rfl) (j := 0) (v := .agg #[.int .u32 (((nth l k).1 : Nat) : Int), .int .i64 (((nth l k).2.1 : Nat) : Int), .int .u64 (((nth l k).2.2.1 : Nat) : Int), .int .u64 (((nth l k).2.2.2.1 : Nat) : Int), .int .u64 (((nth l k).2.2.2.2.1 : Nat) : Int), .int .u64 (((nth l k).2.2.2.2.2 : Nat) : Int)]) rfl Try.sizeOf75 rfl rfl rfl rfl rfl trivial (lcsA ⟨(lc_scalar rfl), (lc_scalar rfl), (lc_scalar rfl), (lc_scalar rfl), (lc_scalar rfl), (lc_scalar rfl), trivial⟩) (Nat.le_of_ble_eq_true rfl) trivial trivial rfl rfl (F' := [(b29, .cells true [.int .u32 (((nth l k).1 : Nat) : Int), .int .i64 (((nth l k).2.1 : Nat) : Int), .int .u64 (((nth l k).2.2.1 : Nat) : Int), .int .u64 (((nth l k).2.2.2.1 : Nat) : Int), .int .u64 (((nth l k).2.2.2.2.1 : Nat) : Int), .int .u64 (((nth l k).2.2.2.2.2 : Nat) : Int)] 6), (l21, lp19 .ready none), (d20, .mark), (b13, .cells true [.int .u32 2] 1), (b14, .cells true [.string B, .int .u64 ((E : Nat) : Int), vL] 3), (b9, .cells true [.bool false] 1), (b5, .cells true [.int .u32 0, .int .i64 0, .int .u64 0, .int .u64 0, .int .u64 0, .int .u64 0] 6), (b1, .cells true [.string B, .int .u64 ((E : Nat) : Int), vL] 3)]) rfl (fun H33 s34 => ⟨?_, ?_⟩)
    · exact trivial
    refine ⟨_, Wk.refl _ _, ?_⟩
    refine then_normal ?_
    refine ⟨_, _, rfl, s34.getj (j := 1) rfl, ?body⟩
    case body =>
      have s35 := s34.setAt (j := 1) rfl (lp19 .busy none)
      show awp _ _ _ _ _ _ _
      refine awp_block ?_
      refine awp_seq ?_
      refine awp_regs hF ?_
      refine dv (gyes_none rfl) (q_loadAgg Try.isAgg75 Try.sizeOf75 rfl (s35.rd (j := 0) rfl) (Nat.le_of_ble_eq_true rfl) rfl) rfl (by decide) (cok1 trivial) ?_
      refine x_store [] hF s35 (by kernel_rfl) (gyes_none rfl) (j := 6) (v := .agg #[.int .u32 (((nth l k).1 : Nat) : Int), .int .i64 (((nth l k).2.1 : Nat) : Int), .int .u64 (((nth l k).2.2.1 : Nat) : Int), .int .u64 (((nth l k).2.2.2.1 : Nat) : Int), .int .u64 (((nth l k).2.2.2.2.1 : Nat) : Int), .int .u64 (((nth l k).2.2.2.2.2 : Nat) : Int)]) rfl Try.sizeOf75 rfl rfl rfl rfl rfl trivial (lcsA ⟨(lc_scalar rfl), (lc_scalar rfl), (lc_scalar rfl), (lc_scalar rfl), (lc_scalar rfl), (lc_scalar rfl), trivial⟩) (Nat.le_of_ble_eq_true rfl) trivial trivial rfl rfl (F' := [(b29, .cells true [.int .u32 (((nth l k).1 : Nat) : Int), .int .i64 (((nth l k).2.1 : Nat) : Int), .int .u64 (((nth l k).2.2.1 : Nat) : Int), .int .u64 (((nth l k).2.2.2.1 : Nat) : Int), .int .u64 (((nth l k).2.2.2.2.1 : Nat) : Int), .int .u64 (((nth l k).2.2.2.2.2 : Nat) : Int)] 6), (l21, lp19 .busy none), (d20, .mark), (b13, .cells true [.int .u32 2] 1), (b14, .cells true [.string B, .int .u64 ((E : Nat) : Int), vL] 3), (b9, .cells true [.bool false] 1), (b5, .cells true [.int .u32 (((nth l k).1 : Nat) : Int), .int .i64 (((nth l k).2.1 : Nat) : Int), .int .u64 (((nth l k).2.2.1 : Nat) : Int), .int .u64 (((nth l k).2.2.2.1 : Nat) : Int), .int .u64 (((nth l k).2.2.2.2.1 : Nat) : Int), .int .u64 (((nth l k).2.2.2.2.2 : Nat) : Int)] 6), (b1, .cells true [.string B, .int .u64 ((E : Nat) : Int), vL] 3)]) rfl (fun H36 s37 => ⟨?_, ?_⟩)
      · exact trivial
      refine x_store1 [] hF s37 (by kernel_rfl) (gyes_none rfl) (j := 5) (v := .bool true) rfl Try.sizeOf4 rfl rfl rfl (lc_scalar rfl) (Nat.le_of_ble_eq_true rfl) trivial (cconst rfl) rfl rfl (F' := [(b29, .cells true [.int .u32 (((nth l k).1 : Nat) : Int), .int .i64 (((nth l k).2.1 : Nat) : Int), .int .u64 (((nth l k).2.2.1 : Nat) : Int), .int .u64 (((nth l k).2.2.2.1 : Nat) : Int), .int .u64 (((nth l k).2.2.2.2.1 : Nat) : Int), .int .u64 (((nth l k).2.2.2.2.2 : Nat) : Int)] 6), (l21, lp19 .busy none), (d20, .mark), (b13, .cells true [.int .u32 2] 1), (b14, .cells true [.string B, .int .u64 ((E : Nat) : Int), vL] 3), (b9, .cells true [.bool true] 1), (b5, .cells true [.int .u32 (((nth l k).1 : Nat) : Int), .int .i64 (((nth l k).2.1 : Nat) : Int), .int .u64 (((nth l k).2.2.1 : Nat) : Int), .int .u64 (((nth l k).2.2.2.1 : Nat) : Int), .int .u64 (((nth l k).2.2.2.2.1 : Nat) : Int), .int .u64 (((nth l k).2.2.2.2.2 : Nat) : Int)] 6), (b1, .cells true [.string B, .int .u64 ((E : Nat) : Int), vL] 3)]) rfl (fun H38 s39 => ⟨?_, ?_⟩)
      · exact trivial
      refine ⟨_, Wk.refl _ _, ?_⟩
      show awp _ _ _ _ _ _ _
      refine awp_ret_wk ?_
      refine ⟨_, Wk.refl _ _, ?_⟩
      repeat (with_reducible first | refine then_ret ?_ | refine blk_ret ?_ | refine then_exit ?_ | refine blk_exit ?_ | refine blk_exit' (by decide) ?_ | refine blk_normal ?_ | refine then_normal ?_ | refine retq_ret ?_ | refine retq_normal ?_ | refine ng_normal ?_ | refine ng_ret ?_ | refine ng_exit ?_)
      exact ⟨(s39.forget 0).getj (j := 0) rfl, (fun h => nomatch h), (fun _ => ⟨_, ((s39.forget 0).setAt (j := 0) rfl (lp19 .done (some .ret))), ⟨hx, dynI_of hx hkd hq⟩⟩)⟩
  case after =>
    rintro v H' ⟨rfl, hpost⟩
    rcases hpost with ⟨s40, hq⟩ | ⟨i_, hi_, ⟨q, s41, hr⟩⟩
    ·
      refine ⟨(by
          intro e he
          rcases List.mem_cons.1 he with rfl | he
          · exact s40.getj (j := 1) rfl
          · cases he), .inl ⟨s40.getj (j := 0) rfl, ?_⟩⟩
      have s42 := (s40.setAt (j := 0) rfl .none).forget 0
      refine ⟨_, Wk.refl _ _, ?_⟩
      show awp _ _ _ _ _ _ _
      refine awp_seq ?_
      refine awp_regs hF ?_
      refine dv (gyes_none rfl) (q_buildL (ds := [.int .u32 0, .int .i64 0, .int .u64 0, .int .u64 0, .int .u64 0, .int .u64 0]) [(0, 1), (1, 1), (2, 1), (3, 1), (4, 1), (5, 1)] [] Try.underlying75 Try.zeroValue75 (by first | exact flat_agg rfl | exact flat_scalar rfl) (by kernel_rfl) trivial lvs0 rfl) rfl (by decide) (by simp [Op.operands, Call.operands]) ?_
      refine x_store [] hF s42 (by kernel_rfl) (gyes_none rfl) (j := 4) (v := .agg #[.int .u32 0, .int .i64 0, .int .u64 0, .int .u64 0, .int .u64 0, .int .u64 0]) rfl Try.sizeOf75 rfl rfl rfl rfl rfl trivial (lcsA ⟨(lc_scalar rfl), (lc_scalar rfl), (lc_scalar rfl), (lc_scalar rfl), (lc_scalar rfl), (lc_scalar rfl), trivial⟩) (Nat.le_of_ble_eq_true rfl) trivial trivial rfl rfl (F' := [(d20, .mark), (b13, .cells true [.int .u32 2] 1), (b14, .cells true [.string B, .int .u64 ((E : Nat) : Int), vL] 3), (b9, .cells true [.bool false] 1), (b5, .cells true [.int .u32 0, .int .i64 0, .int .u64 0, .int .u64 0, .int .u64 0, .int .u64 0] 6), (b1, .cells true [.string B, .int .u64 ((E : Nat) : Int), vL] 3)]) rfl (fun H43 s44 => ⟨?_, ?_⟩)
      · exact trivial
      refine x_store1 [] hF s44 (by kernel_rfl) (gyes_none rfl) (j := 3) (v := .bool false) rfl Try.sizeOf4 rfl rfl rfl (lc_scalar rfl) (Nat.le_of_ble_eq_true rfl) trivial (cconst rfl) rfl rfl (F' := [(d20, .mark), (b13, .cells true [.int .u32 2] 1), (b14, .cells true [.string B, .int .u64 ((E : Nat) : Int), vL] 3), (b9, .cells true [.bool false] 1), (b5, .cells true [.int .u32 0, .int .i64 0, .int .u64 0, .int .u64 0, .int .u64 0, .int .u64 0] 6), (b1, .cells true [.string B, .int .u64 ((E : Nat) : Int), vL] 3)]) rfl (fun H45 s46 => ⟨?_, ?_⟩)
      · exact trivial
      refine ⟨_, Wk.refl _ _, ?_⟩
      show awp _ _ _ _ _ _ _
      refine awp_ret_wk ?_
      have hno : ¬ dynI l < l.length := by rw [show dynI l = l.length from firstK_no hq]; omega
      refine ⟨_, Wk.refl _ _, ?_⟩
      repeat (with_reducible first | refine then_ret ?_ | refine blk_ret ?_ | refine then_exit ?_ | refine blk_exit ?_ | refine blk_exit' (by decide) ?_ | refine blk_normal ?_ | refine then_normal ?_ | refine retq_ret ?_ | refine retq_normal ?_ | refine ng_normal ?_ | refine ng_ret ?_ | refine ng_exit ?_)
      exact ret_noneD (v := .tuple #[.agg #[.int .u32 0, .int .i64 0, .int .u64 0, .int .u64 0, .int .u64 0, .int .u64 0], .bool false]) rfl (s46.setAt (j := 0) rfl .none).kp (.agg rfl Try.isAgg75 Try.sizeOf75 ((s46.setAt (j := 0) rfl .none).rd (j := 4) rfl) (Nat.le_of_ble_eq_true rfl) rfl (.cell rfl Try.isAgg4 ((s46.setAt (j := 0) rfl .none).rd (j := 3) rfl) rfl .nil)) rfl rfl ⟨by rw [dynX_no hno, decide_eq_false hno]; rfl, rfl⟩
    ·
      refine ⟨(by
          intro e he
          rcases List.mem_cons.1 he with rfl | he
          · exact s41.getj (j := 1) rfl
          · cases he), .inr ⟨_, s41.getj (j := 0) rfl, ?_⟩⟩
      have s47 := (s41.setAt (j := 0) rfl .none).forget 0
      refine awp_ret_wk ?_
      refine ⟨_, Wk.refl _ _, ?_⟩
      repeat (with_reducible first | refine then_ret ?_ | refine blk_ret ?_ | refine then_exit ?_ | refine blk_exit ?_ | refine blk_exit' (by decide) ?_ | refine blk_normal ?_ | refine then_normal ?_ | refine retq_ret ?_ | refine retq_normal ?_ | refine ng_normal ?_ | refine ng_ret ?_ | refine ng_exit ?_)
      exact ret_noneD (v := .tuple #[.agg #[.int .u32 (((nth l q).1 : Nat) : Int), .int .i64 (((nth l q).2.1 : Nat) : Int), .int .u64 (((nth l q).2.2.1 : Nat) : Int), .int .u64 (((nth l q).2.2.2.1 : Nat) : Int), .int .u64 (((nth l q).2.2.2.2.1 : Nat) : Int), .int .u64 (((nth l q).2.2.2.2.2 : Nat) : Int)], .bool true]) rfl (s47.setAt (j := 0) rfl .none).kp (.agg rfl Try.isAgg75 Try.sizeOf75 ((s47.setAt (j := 0) rfl .none).rd (j := 4) rfl) (Nat.le_of_ble_eq_true rfl) rfl (.cell rfl Try.isAgg4 ((s47.setAt (j := 0) rfl .none).rd (j := 3) rfl) rfl .nil)) rfl rfl ⟨by rw [dynX_of hr.2 hr.1, hr.2, decide_eq_true hr.1]; rfl, rfl⟩
set_option maxRecDepth 100000 in
set_option maxHeartbeats 4000000 in
theorem dread_ok {H0 : AHeap} (B : ByteArray) (E : Nat) (vL : Value) (l : List Sg) (hB : B.size ≤ 140737488355328) (hL : SlS segc 6 H0 vL l) (hl2 : l.length ≤ 1000000) (hlow : LowL l) (hinb : InB B l) (hxs : ∀ x ∈ l, SgB x) : ACalls Try.prog 12 [.agg #[.string B, .int .u64 ((E : Nat) : Int), vL]] H0 (fun v H' => ∃ vT, v = .tuple #[vT, .agg #[.int .i64 ((drC B l : Nat) : Int), .int .u64 ((drA B l : Nat) : Int), .string ⟨#[]⟩]] ∧ FreshS entc 2 (drL B l) H0 vT H') := by
  have hF : Wd Fence.wide := .inl rfl
  have hM : Try.prog.follows .mixedOrders = true := by kernel_rfl
  obtain ⟨hxb1, hxb2, hxb3, hxb4⟩ := dynX_b hxs
  have s0 := St.begin H0
  refine acalls_st Try.func12 rfl Try.ntmps12 rfl ?_
  refine awp_seq ?_
  refine awp_regs hF ?_
  refine x_new (fun b => .pointer (some ⟨b, 0, none⟩)) s0 (gyes_none rfl) (q_box (v := .agg #[.string B, .int .u64 ((E : Nat) : Int), vL]) (vs := [.string B, .int .u64 ((E : Nat) : Int), vL]) 3 rfl (by exact trivial) rfl) rfl (by decide) (cok1 trivial) (fun b1 H2 hb4 s3 => ?_)
  refine dv (gyes_none rfl) (q_as (v := .slice none 0 0) rfl) rfl (by decide) (cok1 (cconst rfl)) ?_
  refine x_new (fun b => .pointer (some ⟨b, 0, none⟩)) s3 (gyes_none rfl) (q_alloc (vs := [.int .i64 0, .int .u64 0, .string ⟨#[]⟩]) 3 Try.zeroValue36 (by first | exact flat_scalar rfl | exact flat_agg rfl) rfl) rfl (by decide) (by simp [Op.operands, Call.operands]) (fun b5 H6 hb8 s7 => ?_)
  refine ⟨_, Wk.refl _ _, ?_⟩
  show awp _ _ _ _ _ _ _
  refine awp_scope ?_
  refine awp_seq ?_
  refine awp_regs hF ?_
  refine dv (gyes_none rfl) (q_loadAgg Try.isAgg33 Try.sizeOf33 rfl (s7.rd (j := 1) rfl) (Nat.le_of_ble_eq_true rfl) rfl) rfl (by decide) (cok1 trivial) ?_
  refine dv (gyes_none rfl) (q_call0 Try.call34 rfl (section_ok B E vL l (s7.sls hL) hl2)) rfl (by decide) (cok2 trivial trivial) ?_
  refine dv (gyes_none rfl) (q_mv (v := .tuple #[.agg #[.int .u32 (((dynX l).1 : Nat) : Int), .int .i64 (((dynX l).2.1 : Nat) : Int), .int .u64 (((dynX l).2.2.1 : Nat) : Int), .int .u64 (((dynX l).2.2.2.1 : Nat) : Int), .int .u64 (((dynX l).2.2.2.2.1 : Nat) : Int), .int .u64 (((dynX l).2.2.2.2.2 : Nat) : Int)], .bool (decide (dynI l < l.length))]) rfl) rfl (by decide) (cok1 trivial) ?_
  refine dv (gyes_none rfl) (q_extract (v := .agg #[.int .u32 (((dynX l).1 : Nat) : Int), .int .i64 (((dynX l).2.1 : Nat) : Int), .int .u64 (((dynX l).2.2.1 : Nat) : Int), .int .u64 (((dynX l).2.2.2.1 : Nat) : Int), .int .u64 (((dynX l).2.2.2.2.1 : Nat) : Int), .int .u64 (((dynX l).2.2.2.2.2 : Nat) : Int)]) rfl rfl) rfl (by decide) (cok1 trivial) ?_
  refine dvb (gyes_none rfl) (q_extract (v := .bool (decide (dynI l < l.length))) rfl rfl) rfl (by decide) (cok1 trivial) (fun c1 => ?_) (fun c1 => ?_)
  ·
    replace c1 := of_decide_eq_true c1
    have hdi := c1
    have hbs := dynB_size (l := l) hinb
    refine x_new (fun b => .pointer (some ⟨b, 0, none⟩)) s7 (gyes_none rfl) (q_alloc (vs := [.int .u32 0, .int .i64 0, .int .u64 0, .int .u64 0, .int .u64 0, .int .u64 0]) 6 Try.zeroValue75 (by first | exact flat_scalar rfl | exact flat_agg rfl) rfl) rfl (by decide) (by simp [Op.operands, Call.operands]) (fun b9 H10 hb12 s11 => ?_)
    refine x_store [] hF s11 (by kernel_rfl) (gyes_none rfl) (j := 0) (v := .agg #[.int .u32 (((dynX l).1 : Nat) : Int), .int .i64 (((dynX l).2.1 : Nat) : Int), .int .u64 (((dynX l).2.2.1 : Nat) : Int), .int .u64 (((dynX l).2.2.2.1 : Nat) : Int), .int .u64 (((dynX l).2.2.2.2.1 : Nat) : Int), .int .u64 (((dynX l).2.2.2.2.2 : Nat) : Int)]) rfl Try.sizeOf75 rfl rfl rfl rfl rfl trivial (lcsA ⟨(lc_scalar rfl), (lc_scalar rfl), (lc_scalar rfl), (lc_scalar rfl), (lc_scalar rfl), (lc_scalar rfl), trivial⟩) (Nat.le_of_ble_eq_true rfl) trivial trivial rfl rfl (F' := [(b9, .cells true [.int .u32 (((dynX l).1 : Nat) : Int), .int .i64 (((dynX l).2.1 : Nat) : Int), .int .u64 (((dynX l).2.2.1 : Nat) : Int), .int .u64 (((dynX l).2.2.2.1 : Nat) : Int), .int .u64 (((dynX l).2.2.2.2.1 : Nat) : Int), .int .u64 (((dynX l).2.2.2.2.2 : Nat) : Int)] 6), (b5, .cells true [.int .i64 0, .int .u64 0, .string ⟨#[]⟩] 3), (b1, .cells true [.string B, .int .u64 ((E : Nat) : Int), vL] 3)]) rfl (fun H13 s14 => ⟨?_, ?_⟩)
    · exact trivial
    refine dv (gyes_none rfl) (q_as (v := .bool true) rfl) rfl (by decide) (cok1 trivial) ?_
    refine ⟨_, Wk.refl _ _, ?_⟩
    show awp _ _ _ _ _ _ _
    refine awp_seq ?_
    refine awp_seq ?_
    refine awp_regs hF ?_
    refine dv (gyes_none rfl) (q_mv (v := .bool true) rfl) rfl (by decide) (cok1 trivial) ?_
    refine dv (gyes_none rfl) (q_not (b := true) rfl) rfl (by decide) (cok1 trivial) ?_
    refine ⟨_, Wk.refl _ _, ?_⟩
    show awp _ _ _ _ _ _ _
    refine awp_cond_f rfl ?_
    refine awp_skip_wk ?_
    refine ⟨_, Wk.refl _ _, ?_⟩
    show awp _ _ _ _ _ _ _
    refine awp_seq ?_
    refine awp_seq ?_
    refine awp_regs hF ?_
    refine dv (gyes_none rfl) (q_field Try.underlying75 rfl Try.sizeOf25 rfl (s14.rd (j := 0) rfl)) rfl (by decide) (cok1 trivial) ?_
    refine dv (gyes_none rfl) (q_load (v := .int .u64 (((dynX l).2.2.2.2.2 : Nat) : Int)) Try.isAgg25 rfl (s14.rd (j := 0) rfl) rfl) rfl (by decide) (cok1 trivial) ?_
    refine dvb (gyes_none rfl) (q_int rfl rfl rfl) rfl (by decide) (cok2 trivial (cconst rfl)) (fun c2 => ?_) (fun c2 => ?_)
    ·
      replace c2 := of_decide_eq_true c2
      refine ⟨_, Wk.refl _ _, ?_⟩
      show awp _ _ _ _ _ _ _
      refine awp_cond_t rfl ?_
      refine awp_seq ?_
      refine awp_regs hF ?_
      refine dv (gyes_none rfl) (q_field Try.underlying75 rfl Try.sizeOf25 rfl (s14.rd (j := 0) rfl)) rfl (by decide) (cok1 trivial) ?_
      refine dv (gyes_none rfl) (q_load (v := .int .u64 (((dynX l).2.2.2.1 : Nat) : Int)) Try.isAgg25 rfl (s14.rd (j := 0) rfl) rfl) rfl (by decide) (cok1 trivial) ?_
      refine dv (gyes_none rfl) (q_call0 Try.call30 rfl (failAt_ok 5 ((dynX l).2.2.2.1))) rfl (by decide) (call_ok rfl) ?_
      refine dv (gyes_none rfl) (q_as (v := .slice none 0 0) rfl) rfl (by decide) (cok1 (cconst rfl)) ?_
      refine x_store [] hF s14 (by kernel_rfl) (gyes_none rfl) (j := 1) (v := .agg #[.int .i64 5, .int .u64 (((dynX l).2.2.2.1 : Nat) : Int), .string ⟨#[]⟩]) rfl Try.sizeOf36 rfl rfl rfl rfl rfl trivial (lcsA ⟨(lc_scalar rfl), (lc_scalar rfl), (lc_scalar rfl), trivial⟩) (Nat.le_of_ble_eq_true rfl) trivial trivial rfl rfl (F' := [(b9, .cells true [.int .u32 (((dynX l).1 : Nat) : Int), .int .i64 (((dynX l).2.1 : Nat) : Int), .int .u64 (((dynX l).2.2.1 : Nat) : Int), .int .u64 (((dynX l).2.2.2.1 : Nat) : Int), .int .u64 (((dynX l).2.2.2.2.1 : Nat) : Int), .int .u64 (((dynX l).2.2.2.2.2 : Nat) : Int)] 6), (b5, .cells true [.int .i64 5, .int .u64 (((dynX l).2.2.2.1 : Nat) : Int), .string ⟨#[]⟩] 3), (b1, .cells true [.string B, .int .u64 ((E : Nat) : Int), vL] 3)]) rfl (fun H15 s16 => ⟨?_, ?_⟩)
      · exact trivial
      refine ⟨_, Wk.refl _ _, ?_⟩
      show awp _ _ _ _ _ _ _
      refine awp_nil s16 2 2 rfl (fun b17 H18 hb20 s19 => ?_)
      refine awp_ret_wk ?_
      obtain ⟨e1, e2, e3⟩ := dr_big hdi (by omega)
      refine ⟨_, Wk.refl _ _, ?_⟩
      repeat (with_reducible first | refine then_ret ?_ | refine blk_ret ?_ | refine then_exit ?_ | refine blk_exit ?_ | refine blk_exit' (by decide) ?_ | refine blk_normal ?_ | refine then_normal ?_ | refine retq_ret ?_ | refine retq_normal ?_ | refine ng_normal ?_ | refine ng_ret ?_ | refine ng_exit ?_)
      refine ret_is (v := .tuple #[.slice (some ⟨b17, 0, none⟩) 0 0, .agg #[.int .i64 5, .int .u64 (((dynX l).2.2.2.1 : Nat) : Int), .string ⟨#[]⟩]]) rfl (.tmp rfl (.agg rfl Try.isAgg36 Try.sizeOf36 (s19.rd (j := 2) rfl) (Nat.le_of_ble_eq_true rfl) rfl .nil)) rfl ?_
      exact ⟨_, by rw [e1, e2]; first | done | rfl, freshS_of (l := []) s19 (j := 0) rfl rfl e3⟩
    ·
      replace c2 := of_decide_eq_false c2
      refine ⟨_, Wk.refl _ _, ?_⟩
      show awp _ _ _ _ _ _ _
      refine awp_cond_f rfl ?_
      refine awp_skip_wk ?_
      refine ⟨_, Wk.refl _ _, ?_⟩
      show awp _ _ _ _ _ _ _
      refine awp_seq ?_
      refine awp_regs hF ?_
      refine dv (gyes_none rfl) (q_loadAgg Try.isAgg33 Try.sizeOf33 rfl (s14.rd (j := 2) rfl) (Nat.le_of_ble_eq_true rfl) rfl) rfl (by decide) (cok1 trivial) ?_
      refine dv (gyes_none rfl) (q_field Try.underlying75 rfl Try.sizeOf25 rfl (s14.rd (j := 0) rfl)) rfl (by decide) (cok1 trivial) ?_
      refine dv (gyes_none rfl) (q_load (v := .int .u64 (((dynX l).2.2.2.1 : Nat) : Int)) Try.isAgg25 rfl (s14.rd (j := 0) rfl) rfl) rfl (by decide) (cok1 trivial) ?_
      refine dv (gyes_none rfl) (q_field Try.underlying75 rfl Try.sizeOf25 rfl (s14.rd (j := 0) rfl)) rfl (by decide) (cok1 trivial) ?_
      refine dv (gyes_none rfl) (q_load (v := .int .u64 (((dynX l).2.2.2.2.2 : Nat) : Int)) Try.isAgg25 rfl (s14.rd (j := 0) rfl) rfl) rfl (by decide) (cok1 trivial) ?_
      refine dv (gyes_none rfl) (q_call0 Try.call35 rfl (imgAt_ok B E (dynX l).2.2.2.1 (dynX l).2.2.2.2.2 hxb2 hxb4 vL l hB (s14.sls hL) hl2 hlow hinb)) rfl (by decide) (call_ok rfl) ?_
      refine dv (gyes_none rfl) (q_mv (v := .tuple #[.string (dynB B l), .bool ((imgAt B l (dynX l).2.2.2.1 (dynX l).2.2.2.2.2).2)]) rfl) rfl (by decide) (cok1 trivial) ?_
      refine dv (gyes_none rfl) (q_extract (v := .string (dynB B l)) rfl rfl) rfl (by decide) (cok1 trivial) ?_
      refine dvb (gyes_none rfl) (q_extract (v := .bool ((imgAt B l (dynX l).2.2.2.1 (dynX l).2.2.2.2.2).2)) rfl rfl) rfl (by decide) (cok1 trivial) (fun c3 => ?_) (fun c3 => ?_)
      ·
        have hok : (imgAt B l (dynX l).2.2.2.1 (dynX l).2.2.2.2.2).2 = true := c3
        refine dv (gyes_none rfl) (q_as (v := .string (dynB B l)) rfl) rfl (by decide) (cok1 trivial) ?_
        refine dv (gyes_none rfl) (q_as (v := .bool true) rfl) rfl (by decide) (cok1 trivial) ?_
        refine ⟨_, Wk.refl _ _, ?_⟩
        show awp _ _ _ _ _ _ _
        refine awp_seq ?_
        refine awp_seq ?_
        refine awp_regs hF ?_
        refine dv (gyes_none rfl) (q_mv (v := .bool true) rfl) rfl (by decide) (cok1 trivial) ?_
        refine dv (gyes_none rfl) (q_not (b := true) rfl) rfl (by decide) (cok1 trivial) ?_
        refine ⟨_, Wk.refl _ _, ?_⟩
        show awp _ _ _ _ _ _ _
        refine awp_cond_f rfl ?_
        refine awp_skip_wk ?_
        refine ⟨_, Wk.refl _ _, ?_⟩
        show awp _ _ _ _ _ _ _
        refine awp_seq ?_
        refine awp_regs hF ?_
        refine x_new (fun b => .pointer (some ⟨b, 0, none⟩)) s14 (gyes_none rfl) (q_alloc (vs := [.slice none 0 0]) 1 Try.zeroValue43 (by first | exact flat_scalar rfl | exact flat_agg rfl) rfl) rfl (by decide) (by simp [Op.operands, Call.operands]) (fun b21 H22 hb24 s23 => ?_)
        refine ⟨_, Wk.refl _ _, ?_⟩
        show awp _ _ _ _ _ _ _
        refine awp_seq ?_
        refine awp_regs hF ?_
        refine x_new (fun b => .pointer (some ⟨b, 0, none⟩)) s23 (gyes_none rfl) (q_alloc (vs := [.bool false]) 1 Try.zeroValue4 (by first | exact flat_scalar rfl | exact flat_agg rfl) rfl) rfl (by decide) (by simp [Op.operands, Call.operands]) (fun b25 H26 hb28 s27 => ?_)
        refine x_store1 [] hF s27 (by kernel_rfl) (gyes_none rfl) (j := 0) (v := .bool false) rfl Try.sizeOf4 rfl rfl rfl (lc_scalar rfl) (Nat.le_of_ble_eq_true rfl) trivial (cconst rfl) rfl rfl (F' := [(b25, .cells true [.bool false] 1), (b21, .cells true [.slice none 0 0] 1), (b9, .cells true [.int .u32 (((dynX l).1 : Nat) : Int), .int .i64 (((dynX l).2.1 : Nat) : Int), .int .u64 (((dynX l).2.2.1 : Nat) : Int), .int .u64 (((dynX l).2.2.2.1 : Nat) : Int), .int .u64 (((dynX l).2.2.2.2.1 : Nat) : Int), .int .u64 (((dynX l).2.2.2.2.2 : Nat) : Int)] 6), (b5, .cells true [.int .i64 0, .int .u64 0, .string ⟨#[]⟩] 3), (b1, .cells true [.string B, .int .u64 ((E : Nat) : Int), vL] 3)]) rfl (fun H29 s30 => ⟨?_, ?_⟩)
        · exact trivial
        refine ⟨_, Wk.refl _ _, ?_⟩
        show awp _ _ _ _ _ _ _
        refine awp_seq ?_
        refine awp_label_wk ?_
        refine ⟨_, Wk.refl _ _, ?_⟩
        show awp _ _ _ _ _ _ _
        refine awp_seq ?_
        refine awp_seq ?_
        refine awp_nilc s30 (j := 1) (o := 0) (sz' := 2) rfl rfl (fun b31 H32 hb34 s33 => ?_)
        refine awp_regs hF ?_
        refine dv (gyes_none rfl) (q_mv (v := .string (dynB B l)) rfl) rfl (by decide) (cok1 trivial) ?_
        refine x_call [] hF (by kernel_rfl) (gyes_none rfl) Try.call36 rfl (args := [.string (dynB B l), .int .i64 16]) rfl (each_ok (dynB B l) 16) (show _ < _ by decide) (call_ok rfl) rfl rfl (fun _ _ _ _ hd => by cases hd) ?_
        rintro _ H37 ⟨b35, b36, rfl, hn38⟩
        have s39 := s33.callL hn38
        refine ⟨trivial, ?_⟩
        show dList _ _ _ _ _ _ _ _ _ _
        refine ⟨_, Wk.refl _ _, ?_⟩
        show awp _ _ _ _ _ _ _
        refine awp_block ?_
        refine range_st s39 rfl Try.call47 (fun fn40 lp41 d42 l43 H44 hlp45 hd46 s47 => ?_)
        refine (each1_ok (H0 := H44) (dynB B l) 16 (by decide) (by decide) (by omega) _ b35 b36 (nod2 (s47.nej (i := 2) (j := 3) rfl rfl (by decide))) (fun (k : Nat) (H48 : AHeap) => ∃ (bt : Nat) (m : Nat), St H0 (none0) (Rd H0) H48 [(l43, lp41 .ready none), (d42, .mark), (b35, .cells true [.int .i64 16] 1), (b36, .cells true [.string (dynB B l)] 1), (bt, .cells true (fl entc (ents (dynB B l) m)) 2), (b25, .cells true [.bool false] 1), (b21, .cells true [.slice (some ⟨bt, 0, none⟩) m m] 1), (b9, .cells true [.int .u32 (((dynX l).1 : Nat) : Int), .int .i64 (((dynX l).2.1 : Nat) : Int), .int .u64 (((dynX l).2.2.1 : Nat) : Int), .int .u64 (((dynX l).2.2.2.1 : Nat) : Int), .int .u64 (((dynX l).2.2.2.2.1 : Nat) : Int), .int .u64 (((dynX l).2.2.2.2.2 : Nat) : Int)] 6), (b5, .cells true [.int .i64 0, .int .u64 0, .string ⟨#[]⟩] 3), (b1, .cells true [.string B, .int .u64 ((E : Nat) : Int), vL] 3)] ∧ (m = min k 65 ∧ k ≤ (dynB B l).size / 16) ∧ (∀ j, j < k → ((entAt (dynB B l) j).1 == 0) = false)) (fun (k' : Nat) (H48 : AHeap) => ∃ (bt : Nat) (m : Nat) (q : Nat), St H0 (none0) (Rd H0) H48 [(l43, lp41 (.done) (some (.exit 0))), (d42, .mark), (b35, .cells true [.int .i64 16] 1), (b36, .cells true [.string (dynB B l)] 1), (bt, .cells true (fl entc (ents (dynB B l) m)) 2), (b25, .cells true [.bool true] 1), (b21, .cells true [.slice (some ⟨bt, 0, none⟩) m m] 1), (b9, .cells true [.int .u32 (((dynX l).1 : Nat) : Int), .int .i64 (((dynX l).2.1 : Nat) : Int), .int .u64 (((dynX l).2.2.1 : Nat) : Int), .int .u64 (((dynX l).2.2.2.1 : Nat) : Int), .int .u64 (((dynX l).2.2.2.2.1 : Nat) : Int), .int .u64 (((dynX l).2.2.2.2.2 : Nat) : Int)] 6), (b5, .cells true [.int .i64 0, .int .u64 0, .string ⟨#[]⟩] 3), (b1, .cells true [.string B, .int .u64 ((E : Nat) : Int), vL] 3)] ∧ (m = min q 65 ∧ q < (dynB B l).size / 16 ∧ zeroK (dynB B l) = q)) ?h00 ?hb ?round).mono ?after
        case h00 => exact ⟨_, 0, s47, ⟨rfl, Nat.zero_le _⟩, fun j h => absurd h (Nat.not_lt_zero _)⟩
        case hb =>
          rintro k H48 ⟨bt, m, s49, hm, hz⟩
          exact ⟨s49.getj (j := 2) rfl, s49.getj (j := 3) rfl⟩
        case round =>
          rintro k H48  ⟨bt, m, s49, hm, hz⟩ hx
          have hee := entAt_e hx
          have hps : ((dynB B l).extract (k * 16) ((k + 1) * 16)).size = 16 := by rw [size_extract (by omega)]; omega
          refine ylds_roundB hlp45 (s49.getj (j := 0) rfl) rfl rfl (fun l50 hF => ?_)
          refine awp_regs hF ?_
          refine dv (gyes_none rfl) (q_as (v := .string ((dynB B l).extract (k * 16) ((k + 1) * 16))) rfl) rfl (by decide) (cok1 trivial) ?_
          refine ⟨_, Wk.refl _ _, ?_⟩
          refine then_normal ?_
          refine ⟨_, _, rfl, s49.getj (j := 0) rfl, ?body⟩
          case body =>
            have s51 := s49.setAt (j := 0) rfl (lp41 .busy none)
            show awp _ _ _ _ _ _ _
            refine awp_block ?_
            refine awp_seq ?_
            refine awp_regt hF hM (by kernel_rfl) (by kernel_rfl) ?_
            refine dv (gyes_none rfl) (q_mv (v := .string ((dynB B l).extract (k * 16) ((k + 1) * 16))) rfl) rfl (by decide) (cok1 trivial) ?_
            refine dv (gyes_none rfl) (q_substr (i := 0) (j := 8) Try.underlying9 rfl rfl ⟨_, rfl⟩ (by omega) (by omega)) rfl (by decide) (cok2 trivial (cconst rfl)) ?_
            refine dv (gyes_none rfl) (q_call0 Try.call37 rfl (get_ok (((dynB B l).extract (k * 16) ((k + 1) * 16)).extract 0 8) (by rw [size_extract (by omega)]; omega))) rfl (by decide) (cok2 trivial trivial) ?_
            refine dv (gyes_none rfl) (q_mv (v := .string ((dynB B l).extract (k * 16) ((k + 1) * 16))) rfl) rfl (by decide) (cok1 trivial) ?_
            refine dv (gyes_none rfl) (q_substr (i := 8) (j := (((dynB B l).extract (k * 16) ((k + 1) * 16)).size)) Try.underlying9 rfl ⟨_, rfl⟩ rfl (by omega) (by omega)) rfl (by decide) (cok2 trivial (cconst rfl)) ?_
            refine dv (gyes_none rfl) (q_call0 Try.call37 rfl (get_ok (((dynB B l).extract (k * 16) ((k + 1) * 16)).extract 8 (((dynB B l).extract (k * 16) ((k + 1) * 16)).size)) (by rw [size_extract (by omega)]; omega))) rfl (by decide) (cok2 trivial trivial) ?_
            refine dv (gyes_none rfl) (OpQ.cast (v' := .agg #[.int .u64 (((entAt (dynB B l) k).1 : Nat) : Int), .int .u64 (((entAt (dynB B l) k).2 : Nat) : Int)]) (q_buildL (ds := [.int .u64 ((getB (((dynB B l).extract (k * 16) ((k + 1) * 16)).extract 0 8) : Nat) : Int), .int .u64 ((getB (((dynB B l).extract (k * 16) ((k + 1) * 16)).extract 8 (((dynB B l).extract (k * 16) ((k + 1) * 16)).size)) : Nat) : Int)]) [(0, 1), (1, 1)] [.int .u64 ((getB (((dynB B l).extract (k * 16) ((k + 1) * 16)).extract 0 8) : Nat) : Int), .int .u64 ((getB (((dynB B l).extract (k * 16) ((k + 1) * 16)).extract 8 (((dynB B l).extract (k * 16) ((k + 1) * 16)).size)) : Nat) : Int)] Try.underlying48 Try.zeroValue48 (by first | exact flat_agg rfl | exact flat_scalar rfl) (by kernel_rfl) ⟨rfl, rfl, trivial⟩ (lvsC (by exact trivial) (lvsC (by exact trivial) lvs0)) rfl) (by rw [hee])) rfl (by decide) (cok2 trivial trivial) ?_
            refine x_new (fun b => .pointer (some ⟨b, 0, none⟩)) s51 (gyes_none rfl) (q_alloc (vs := [.int .u64 0, .int .u64 0]) 2 Try.zeroValue48 (by first | exact flat_scalar rfl | exact flat_agg rfl) rfl) rfl (by decide) (by simp [Op.operands, Call.operands]) (fun b52 H53 hb55 s54 => ?_)
            refine x_store [] hF s54 (by kernel_rfl) (gyes_none rfl) (j := 0) (v := .agg #[.int .u64 (((entAt (dynB B l) k).1 : Nat) : Int), .int .u64 (((entAt (dynB B l) k).2 : Nat) : Int)]) rfl Try.sizeOf48 rfl rfl rfl rfl rfl trivial (lcsA ⟨(lc_scalar rfl), (lc_scalar rfl), trivial⟩) (Nat.le_of_ble_eq_true rfl) trivial trivial rfl rfl (F' := [(b52, .cells true [.int .u64 (((entAt (dynB B l) k).1 : Nat) : Int), .int .u64 (((entAt (dynB B l) k).2 : Nat) : Int)] 2), (l43, lp41 .busy none), (d42, .mark), (b35, .cells true [.int .i64 16] 1), (b36, .cells true [.string (dynB B l)] 1), (bt, .cells true (fl entc (ents (dynB B l) m)) 2), (b25, .cells true [.bool false] 1), (b21, .cells true [.slice (some ⟨bt, 0, none⟩) m m] 1), (b9, .cells true [.int .u32 (((dynX l).1 : Nat) : Int), .int .i64 (((dynX l).2.1 : Nat) : Int), .int .u64 (((dynX l).2.2.1 : Nat) : Int), .int .u64 (((dynX l).2.2.2.1 : Nat) : Int), .int .u64 (((dynX l).2.2.2.2.1 : Nat) : Int), .int .u64 (((dynX l).2.2.2.2.2 : Nat) : Int)] 6), (b5, .cells true [.int .i64 0, .int .u64 0, .string ⟨#[]⟩] 3), (b1, .cells true [.string B, .int .u64 ((E : Nat) : Int), vL] 3)]) rfl (fun H56 s57 => ⟨?_, ?_⟩)
            · exact trivial
            refine ⟨_, Wk.refl _ _, ?_⟩
            show awp _ _ _ _ _ _ _
            refine awp_block ?_
            refine awp_seq ?_
            refine awp_regs hF ?_
            refine dv (gyes_none rfl) (q_field Try.underlying48 rfl Try.sizeOf25 rfl (s57.rd (j := 0) rfl)) rfl (by decide) (cok1 trivial) ?_
            refine dv (gyes_none rfl) (q_load (v := .int .u64 (((entAt (dynB B l) k).1 : Nat) : Int)) Try.isAgg25 rfl (s57.rd (j := 0) rfl) rfl) rfl (by decide) (cok1 trivial) ?_
            refine dvb (gyes_none rfl) (q_int rfl rfl rfl) rfl (by decide) (cok2 trivial (cconst rfl)) (fun c4 => ?_) (fun c4 => ?_)
            ·
              replace c4 := eq_of_beq c4
              refine dv (gyes_none rfl) (q_as (v := .bool true) rfl) rfl (by decide) (cok1 trivial) ?_
              refine ⟨_, Wk.refl _ _, ?_⟩
              show awp _ _ _ _ _ _ _
              refine awp_cond_t rfl ?_
              refine awp_seq ?_
              refine awp_regs hF ?_
              refine x_store1 [] hF s57 (by kernel_rfl) (gyes_none rfl) (j := 6) (v := .bool true) rfl Try.sizeOf4 rfl rfl rfl (lc_scalar rfl) (Nat.le_of_ble_eq_true rfl) trivial (cconst rfl) rfl rfl (F' := [(b52, .cells true [.int .u64 (((entAt (dynB B l) k).1 : Nat) : Int), .int .u64 (((entAt (dynB B l) k).2 : Nat) : Int)] 2), (l43, lp41 .busy none), (d42, .mark), (b35, .cells true [.int .i64 16] 1), (b36, .cells true [.string (dynB B l)] 1), (bt, .cells true (fl entc (ents (dynB B l) m)) 2), (b25, .cells true [.bool true] 1), (b21, .cells true [.slice (some ⟨bt, 0, none⟩) m m] 1), (b9, .cells true [.int .u32 (((dynX l).1 : Nat) : Int), .int .i64 (((dynX l).2.1 : Nat) : Int), .int .u64 (((dynX l).2.2.1 : Nat) : Int), .int .u64 (((dynX l).2.2.2.1 : Nat) : Int), .int .u64 (((dynX l).2.2.2.2.1 : Nat) : Int), .int .u64 (((dynX l).2.2.2.2.2 : Nat) : Int)] 6), (b5, .cells true [.int .i64 0, .int .u64 0, .string ⟨#[]⟩] 3), (b1, .cells true [.string B, .int .u64 ((E : Nat) : Int), vL] 3)]) rfl (fun H58 s59 => ⟨?_, ?_⟩)
              · exact trivial
              refine ⟨_, Wk.refl _ _, ?_⟩
              show awp _ _ _ _ _ _ _
              refine awp_exit_wk ?_
              refine ⟨_, Wk.refl _ _, ?_⟩
              repeat (with_reducible first | refine then_ret ?_ | refine blk_ret ?_ | refine then_exit ?_ | refine blk_exit ?_ | refine blk_exit' (by decide) ?_ | refine blk_normal ?_ | refine then_normal ?_ | refine retq_ret ?_ | refine retq_normal ?_ | refine ng_normal ?_ | refine ng_ret ?_ | refine ng_exit ?_)
              exact ⟨(s59.forget 0).getj (j := 0) rfl, (fun h => nomatch h), (fun _ => ⟨_, _, _, ((s59.forget 0).setAt (j := 0) rfl (lp41 .done (some (.exit 0)))), ⟨hm.1, hx, zeroK_yes hx (by omega) hz⟩⟩)⟩
            ·
              replace c4 := ne_of_beq_false c4
              refine dv (gyes_none rfl) (q_as (v := .bool false) rfl) rfl (by decide) (cok1 trivial) ?_
              refine ⟨_, Wk.refl _ _, ?_⟩
              show awp _ _ _ _ _ _ _
              refine awp_cond_f rfl ?_
              refine awp_seq ?_
              refine awp_regs hF ?_
              refine dv (gyes_none rfl) (q_load (v := .slice (some ⟨bt, 0, none⟩) m m) Try.isAgg43 rfl (s57.rd (j := 7) rfl) rfl) rfl (by decide) (cok1 trivial) ?_
              refine dv (gyes_none rfl) (q_len_slice Try.underlying43 rfl (s57.rd (j := 5) rfl)) rfl (by decide) (cok1 trivial) ?_
              refine dvb (gyes_none rfl) (q_int rfl rfl rfl) rfl (by decide) (cok2 trivial (cconst rfl)) (fun c5 => ?_) (fun c5 => ?_)
              ·
                replace c5 := of_decide_eq_true c5
                refine dv (gyes_none rfl) (q_as (v := .bool true) rfl) rfl (by decide) (cok1 trivial) ?_
                refine ⟨_, Wk.refl _ _, ?_⟩
                show awp _ _ _ _ _ _ _
                refine awp_cond_t rfl ?_
                refine awp_regs hF ?_
                refine dv (gyes_none rfl) (q_load (v := .slice (some ⟨bt, 0, none⟩) m m) Try.isAgg43 rfl (s57.rd (j := 7) rfl) rfl) rfl (by decide) (cok1 trivial) ?_
                refine dv (gyes_none rfl) (q_loadAgg Try.isAgg48 Try.sizeOf48 rfl (s57.rd (j := 0) rfl) (Nat.le_of_ble_eq_true rfl) rfl) rfl (by decide) (cok1 trivial) ?_
                refine x_new (fun b => .slice (some ⟨b, 0, none⟩) 1 1) s57 (gyes_none rfl) (q_buildSliceL (ds := [.int .u64 (((entAt (dynB B l) k).1 : Nat) : Int), .int .u64 (((entAt (dynB B l) k).2 : Nat) : Int)]) [.agg #[.int .u64 (((entAt (dynB B l) k).1 : Nat) : Int), .int .u64 (((entAt (dynB B l) k).2 : Nat) : Int)]] rfl Try.underlying43 Try.sizeOf48 Try.zeroValue48 rfl (by decide) (by decide) ⟨rfl, trivial⟩ (lvsC (by exact trivial) lvs0) rfl rfl) rfl (by decide) (cok1 trivial) (fun b60 H61 hb63 s62 => ?_)
                refine x_appendS (m := 2) (l := [((entAt (dynB B l) k).1, (entAt (dynB B l) k).2)]) (l0 := ents (dynB B l) m) (l' := ents (dynB B l) (m + 1)) (f := entc) [] hF s62 (by kernel_rfl) (j := 6) (m + 1) rfl (gyes_none rfl) Try.underlying43 Try.underlying43 Try.type48 rfl rfl (by decide) rfl entc_w rfl rfl rfl (s62.slsj (l := [((entAt (dynB B l) k).1, (entAt (dynB B l) k).2)]) entc_w (j := 0) rfl rfl (Nat.le_refl _)) (fun x _ u hu => lc_scalar (entc_sc x u hu)) (ents_len _ m).symm (by show (2 * (m + 1) + 1000) * 16 ≤ _; omega) trivial trivial (by decide) rfl rfl (show ents (dynB B l) m ++ [entAt (dynB B l) k] = ents (dynB B l) (m + 1) by rw [show k = m by omega]; exact ents_succ _ m) (fun b64 H65 hb67 s66 => ⟨?_, ?_⟩)
                · exact trivial
                refine x_store1 [] hF s66 (by kernel_rfl) (gyes_none rfl) (j := 8) (v := .slice (some ⟨b64, 0, none⟩) (m + 1) (m + 1)) rfl Try.sizeOf43 rfl rfl rfl (lc_slice (s66.live (j := 6) rfl)) (Nat.le_of_ble_eq_true rfl) trivial trivial rfl rfl (F' := [(b60, .cells true [.int .u64 (((entAt (dynB B l) k).1 : Nat) : Int), .int .u64 (((entAt (dynB B l) k).2 : Nat) : Int)] 2), (b52, .cells true [.int .u64 (((entAt (dynB B l) k).1 : Nat) : Int), .int .u64 (((entAt (dynB B l) k).2 : Nat) : Int)] 2), (l43, lp41 .busy none), (d42, .mark), (b35, .cells true [.int .i64 16] 1), (b36, .cells true [.string (dynB B l)] 1), (b64, .cells true (fl entc (ents (dynB B l) (m + 1))) 2), (b25, .cells true [.bool false] 1), (b21, .cells true [.slice (some ⟨b64, 0, none⟩) (m + 1) (m + 1)] 1), (b9, .cells true [.int .u32 (((dynX l).1 : Nat) : Int), .int .i64 (((dynX l).2.1 : Nat) : Int), .int .u64 (((dynX l).2.2.1 : Nat) : Int), .int .u64 (((dynX l).2.2.2.1 : Nat) : Int), .int .u64 (((dynX l).2.2.2.2.1 : Nat) : Int), .int .u64 (((dynX l).2.2.2.2.2 : Nat) : Int)] 6), (b5, .cells true [.int .i64 0, .int .u64 0, .string ⟨#[]⟩] 3), (b1, .cells true [.string B, .int .u64 ((E : Nat) : Int), vL] 3)]) rfl (fun H68 s69 => ⟨?_, ?_⟩)
                · exact trivial
                refine ⟨_, Wk.refl _ _, ?_⟩
                repeat (with_reducible first | refine then_ret ?_ | refine blk_ret ?_ | refine then_exit ?_ | refine blk_exit ?_ | refine blk_exit' (by decide) ?_ | refine blk_normal ?_ | refine then_normal ?_ | refine retq_ret ?_ | refine retq_normal ?_ | refine ng_normal ?_ | refine ng_ret ?_ | refine ng_exit ?_)
                exact ⟨((s69.forget 0).forget 0).getj (j := 0) rfl, (fun _ => ⟨_, _, (((s69.forget 0).forget 0).setAt (j := 0) rfl (lp41 .ready none)), ⟨by omega, by omega⟩, (lt_succ_casesN hz (beq_eq_false_iff_ne.2 (by omega)))⟩), (fun h => nomatch h)⟩
              ·
                replace c5 := of_decide_eq_false c5
                refine dv (gyes_none rfl) (q_as (v := .bool false) rfl) rfl (by decide) (cok1 trivial) ?_
                refine ⟨_, Wk.refl _ _, ?_⟩
                show awp _ _ _ _ _ _ _
                refine awp_cond_f rfl ?_
                refine awp_skip_wk ?_
                refine ⟨_, Wk.refl _ _, ?_⟩
                repeat (with_reducible first | refine then_ret ?_ | refine blk_ret ?_ | refine then_exit ?_ | refine blk_exit ?_ | refine blk_exit' (by decide) ?_ | refine blk_normal ?_ | refine then_normal ?_ | refine retq_ret ?_ | refine retq_normal ?_ | refine ng_normal ?_ | refine ng_ret ?_ | refine ng_exit ?_)
                exact ⟨(s57.forget 0).getj (j := 0) rfl, (fun _ => ⟨_, _, ((s57.forget 0).setAt (j := 0) rfl (lp41 .ready none)), ⟨by omega, by omega⟩, (lt_succ_casesN hz (beq_eq_false_iff_ne.2 (by omega)))⟩), (fun h => nomatch h)⟩
        case after =>
          rintro v H' ⟨rfl, hpost⟩
          rcases hpost with ⟨bt, m, s70, hm, hz⟩ | ⟨i_, hi_, ⟨bt, m, q, s71, hm⟩⟩
          ·
            have hzk : zeroK (dynB B l) = (dynB B l).size / 16 := zeroK_no rfl hz
            generalize hkk : (dynB B l).size / 16 = k at *
            refine ⟨(by
                intro e he
                rcases List.mem_cons.1 he with rfl | he
                · exact s70.getj (j := 1) rfl
                · cases he), .inl ⟨s70.getj (j := 0) rfl, ?_⟩⟩
            have s72 := (s70.setAt (j := 0) rfl .none).forget 0
            refine ⟨_, Wk.refl _ _, ?_⟩
            show awp _ _ _ _ _ _ _
            refine awp_seq ?_
            refine awp_block ?_
            refine awp_seq ?_
            refine awp_regs hF ?_
            refine dv (gyes_none rfl) (q_load (v := .bool false) Try.isAgg4 rfl (s72.rd (j := 4) rfl) rfl) rfl (by decide) (cok1 trivial) ?_
            refine dv (gyes_none rfl) (q_not (b := false) rfl) rfl (by decide) (cok1 trivial) ?_
            refine dv (gyes_none rfl) (q_as (v := .bool true) rfl) rfl (by decide) (cok1 trivial) ?_
            refine ⟨_, Wk.refl _ _, ?_⟩
            show awp _ _ _ _ _ _ _
            refine awp_cond_t rfl ?_
            refine awp_seq ?_
            refine awp_regs hF ?_
            refine dv (gyes_none rfl) (q_field Try.underlying75 rfl Try.sizeOf25 rfl (s72.rd (j := 6) rfl)) rfl (by decide) (cok1 trivial) ?_
            refine dv (gyes_none rfl) (q_load (v := .int .u64 (((dynX l).2.2.2.1 : Nat) : Int)) Try.isAgg25 rfl (s72.rd (j := 6) rfl) rfl) rfl (by decide) (cok1 trivial) ?_
            refine dv (gyes_none rfl) (q_call0 Try.call30 rfl (failAt_ok 2 ((dynX l).2.2.2.1))) rfl (by decide) (call_ok rfl) ?_
            refine dv (gyes_none rfl) (q_as (v := .slice none 0 0) rfl) rfl (by decide) (cok1 (cconst rfl)) ?_
            refine x_store [] hF s72 (by kernel_rfl) (gyes_none rfl) (j := 7) (v := .agg #[.int .i64 2, .int .u64 (((dynX l).2.2.2.1 : Nat) : Int), .string ⟨#[]⟩]) rfl Try.sizeOf36 rfl rfl rfl rfl rfl trivial (lcsA ⟨(lc_scalar rfl), (lc_scalar rfl), (lc_scalar rfl), trivial⟩) (Nat.le_of_ble_eq_true rfl) trivial trivial rfl rfl (F' := [(d42, .mark), (b35, .cells true [.int .i64 16] 1), (b36, .cells true [.string (dynB B l)] 1), (bt, .cells true (fl entc (ents (dynB B l) m)) 2), (b25, .cells true [.bool false] 1), (b21, .cells true [.slice (some ⟨bt, 0, none⟩) m m] 1), (b9, .cells true [.int .u32 (((dynX l).1 : Nat) : Int), .int .i64 (((dynX l).2.1 : Nat) : Int), .int .u64 (((dynX l).2.2.1 : Nat) : Int), .int .u64 (((dynX l).2.2.2.1 : Nat) : Int), .int .u64 (((dynX l).2.2.2.2.1 : Nat) : Int), .int .u64 (((dynX l).2.2.2.2.2 : Nat) : Int)] 6), (b5, .cells true [.int .i64 2, .int .u64 (((dynX l).2.2.2.1 : Nat) : Int), .string ⟨#[]⟩] 3), (b1, .cells true [.string B, .int .u64 ((E : Nat) : Int), vL] 3)]) rfl (fun H73 s74 => ⟨?_, ?_⟩)
            · exact trivial
            refine ⟨_, Wk.refl _ _, ?_⟩
            show awp _ _ _ _ _ _ _
            refine awp_nil s74 2 2 rfl (fun b75 H76 hb78 s77 => ?_)
            refine awp_ret_wk ?_
            obtain ⟨e1, e2, e3⟩ := dr_open hdi (by omega) hok (by first | exact hzk | omega)
            refine ⟨_, Wk.refl _ _, ?_⟩
            repeat (with_reducible first | refine then_ret ?_ | refine blk_ret ?_ | refine then_exit ?_ | refine blk_exit ?_ | refine blk_exit' (by decide) ?_ | refine blk_normal ?_ | refine then_normal ?_ | refine retq_ret ?_ | refine retq_normal ?_ | refine ng_normal ?_ | refine ng_ret ?_ | refine ng_exit ?_)
            refine ret_isD (v := .tuple #[.slice (some ⟨b75, 0, none⟩) 0 0, .agg #[.int .i64 2, .int .u64 (((dynX l).2.2.2.1 : Nat) : Int), .string ⟨#[]⟩]]) rfl (.tmp rfl (.agg rfl Try.isAgg36 Try.sizeOf36 ((s77.setAt (j := 1) rfl .none).rd (j := 8) rfl) (Nat.le_of_ble_eq_true rfl) rfl .nil)) rfl ?_
            exact ⟨_, by rw [e1, e2]; first | done | rfl, freshS_of (l := []) (s77.setAt (j := 1) rfl .none) (j := 0) rfl rfl e3⟩
          ·
            refine ⟨(by
                intro e he
                rcases List.mem_cons.1 he with rfl | he
                · exact s71.getj (j := 1) rfl
                · cases he), .inr ⟨_, s71.getj (j := 0) rfl, ?_⟩⟩
            have s79 := (s71.setAt (j := 0) rfl .none).forget 0
            refine awp_exit_wk ?_
            refine ⟨_, Wk.refl _ _, ?_⟩
            show awp _ _ _ _ _ _ _
            refine awp_seq ?_
            refine awp_block ?_
            refine awp_seq ?_
            refine awp_regs hF ?_
            refine dv (gyes_none rfl) (q_load (v := .bool true) Try.isAgg4 rfl (s79.rd (j := 4) rfl) rfl) rfl (by decide) (cok1 trivial) ?_
            refine dv (gyes_none rfl) (q_not (b := true) rfl) rfl (by decide) (cok1 trivial) ?_
            refine dv (gyes_none rfl) (q_as (v := .bool false) rfl) rfl (by decide) (cok1 trivial) ?_
            refine ⟨_, Wk.refl _ _, ?_⟩
            show awp _ _ _ _ _ _ _
            refine awp_cond_f rfl ?_
            refine awp_seq ?_
            refine awp_regs hF ?_
            refine dv (gyes_none rfl) (q_load (v := .slice (some ⟨bt, 0, none⟩) m m) Try.isAgg43 rfl (s79.rd (j := 5) rfl) rfl) rfl (by decide) (cok1 trivial) ?_
            refine dv (gyes_none rfl) (q_len_slice Try.underlying43 rfl (s79.rd (j := 3) rfl)) rfl (by decide) (cok1 trivial) ?_
            refine dvb (gyes_none rfl) (q_int rfl rfl rfl) rfl (by decide) (cok2 trivial (cconst rfl)) (fun c6 => ?_) (fun c6 => ?_)
            ·
              replace c6 := of_decide_eq_true c6
              refine dv (gyes_none rfl) (q_as (v := .bool true) rfl) rfl (by decide) (cok1 trivial) ?_
              refine ⟨_, Wk.refl _ _, ?_⟩
              show awp _ _ _ _ _ _ _
              refine awp_cond_t rfl ?_
              refine awp_seq ?_
              refine awp_regs hF ?_
              refine dv (gyes_none rfl) (q_field Try.underlying75 rfl Try.sizeOf25 rfl (s79.rd (j := 6) rfl)) rfl (by decide) (cok1 trivial) ?_
              refine dv (gyes_none rfl) (q_load (v := .int .u64 (((dynX l).2.2.2.1 : Nat) : Int)) Try.isAgg25 rfl (s79.rd (j := 6) rfl) rfl) rfl (by decide) (cok1 trivial) ?_
              refine dv (gyes_none rfl) (q_call0 Try.call30 rfl (failAt_ok 6 ((dynX l).2.2.2.1))) rfl (by decide) (call_ok rfl) ?_
              refine dv (gyes_none rfl) (q_as (v := .slice none 0 0) rfl) rfl (by decide) (cok1 (cconst rfl)) ?_
              refine x_store [] hF s79 (by kernel_rfl) (gyes_none rfl) (j := 7) (v := .agg #[.int .i64 6, .int .u64 (((dynX l).2.2.2.1 : Nat) : Int), .string ⟨#[]⟩]) rfl Try.sizeOf36 rfl rfl rfl rfl rfl trivial (lcsA ⟨(lc_scalar rfl), (lc_scalar rfl), (lc_scalar rfl), trivial⟩) (Nat.le_of_ble_eq_true rfl) trivial trivial rfl rfl (F' := [(d42, .mark), (b35, .cells true [.int .i64 16] 1), (b36, .cells true [.string (dynB B l)] 1), (bt, .cells true (fl entc (ents (dynB B l) m)) 2), (b25, .cells true [.bool true] 1), (b21, .cells true [.slice (some ⟨bt, 0, none⟩) m m] 1), (b9, .cells true [.int .u32 (((dynX l).1 : Nat) : Int), .int .i64 (((dynX l).2.1 : Nat) : Int), .int .u64 (((dynX l).2.2.1 : Nat) : Int), .int .u64 (((dynX l).2.2.2.1 : Nat) : Int), .int .u64 (((dynX l).2.2.2.2.1 : Nat) : Int), .int .u64 (((dynX l).2.2.2.2.2 : Nat) : Int)] 6), (b5, .cells true [.int .i64 6, .int .u64 (((dynX l).2.2.2.1 : Nat) : Int), .string ⟨#[]⟩] 3), (b1, .cells true [.string B, .int .u64 ((E : Nat) : Int), vL] 3)]) rfl (fun H80 s81 => ⟨?_, ?_⟩)
              · exact trivial
              refine ⟨_, Wk.refl _ _, ?_⟩
              show awp _ _ _ _ _ _ _
              refine awp_nil s81 2 2 rfl (fun b82 H83 hb85 s84 => ?_)
              refine awp_ret_wk ?_
              obtain ⟨e1, e2, e3⟩ := dr_many hdi (by omega) hok (by omega) (by omega)
              refine ⟨_, Wk.refl _ _, ?_⟩
              repeat (with_reducible first | refine then_ret ?_ | refine blk_ret ?_ | refine then_exit ?_ | refine blk_exit ?_ | refine blk_exit' (by decide) ?_ | refine blk_normal ?_ | refine then_normal ?_ | refine retq_ret ?_ | refine retq_normal ?_ | refine ng_normal ?_ | refine ng_ret ?_ | refine ng_exit ?_)
              refine ret_isD (v := .tuple #[.slice (some ⟨b82, 0, none⟩) 0 0, .agg #[.int .i64 6, .int .u64 (((dynX l).2.2.2.1 : Nat) : Int), .string ⟨#[]⟩]]) rfl (.tmp rfl (.agg rfl Try.isAgg36 Try.sizeOf36 ((s84.setAt (j := 1) rfl .none).rd (j := 8) rfl) (Nat.le_of_ble_eq_true rfl) rfl .nil)) rfl ?_
              exact ⟨_, by rw [e1, e2]; first | done | rfl, freshS_of (l := []) (s84.setAt (j := 1) rfl .none) (j := 0) rfl rfl e3⟩
            ·
              replace c6 := of_decide_eq_false c6
              refine dv (gyes_none rfl) (q_as (v := .bool false) rfl) rfl (by decide) (cok1 trivial) ?_
              refine ⟨_, Wk.refl _ _, ?_⟩
              show awp _ _ _ _ _ _ _
              refine awp_cond_f rfl ?_
              refine awp_skip_wk ?_
              refine ⟨_, Wk.refl _ _, ?_⟩
              show awp _ _ _ _ _ _ _
              refine awp_seq ?_
              refine awp_regs hF ?_
              refine dv (gyes_none rfl) (q_load (v := .slice (some ⟨bt, 0, none⟩) m m) Try.isAgg43 rfl (s79.rd (j := 5) rfl) rfl) rfl (by decide) (cok1 trivial) ?_
              refine dv (gyes_none rfl) (q_buildL (ds := [.int .i64 0, .int .u64 0, .string ⟨#[]⟩]) [(0, 1), (1, 1), (2, 1)] [] Try.underlying36 Try.zeroValue36 (by first | exact flat_agg rfl | exact flat_scalar rfl) (by kernel_rfl) trivial lvs0 rfl) rfl (by decide) (by simp [Op.operands, Call.operands]) ?_
              refine dv (gyes_none rfl) (q_as (v := .slice (some ⟨bt, 0, none⟩) m m) rfl) rfl (by decide) (cok1 trivial) ?_
              refine x_store [] hF s79 (by kernel_rfl) (gyes_none rfl) (j := 7) (v := .agg #[.int .i64 0, .int .u64 0, .string ⟨#[]⟩]) rfl Try.sizeOf36 rfl rfl rfl rfl rfl trivial (lcsA ⟨(lc_scalar rfl), (lc_scalar rfl), (lc_scalar rfl), trivial⟩) (Nat.le_of_ble_eq_true rfl) trivial trivial rfl rfl (F' := [(d42, .mark), (b35, .cells true [.int .i64 16] 1), (b36, .cells true [.string (dynB B l)] 1), (bt, .cells true (fl entc (ents (dynB B l) m)) 2), (b25, .cells true [.bool true] 1), (b21, .cells true [.slice (some ⟨bt, 0, none⟩) m m] 1), (b9, .cells true [.int .u32 (((dynX l).1 : Nat) : Int), .int .i64 (((dynX l).2.1 : Nat) : Int), .int .u64 (((dynX l).2.2.1 : Nat) : Int), .int .u64 (((dynX l).2.2.2.1 : Nat) : Int), .int .u64 (((dynX l).2.2.2.2.1 : Nat) : Int), .int .u64 (((dynX l).2.2.2.2.2 : Nat) : Int)] 6), (b5, .cells true [.int .i64 0, .int .u64 0, .string ⟨#[]⟩] 3), (b1, .cells true [.string B, .int .u64 ((E : Nat) : Int), vL] 3)]) rfl (fun H86 s87 => ⟨?_, ?_⟩)
              · exact trivial
              refine ⟨_, Wk.refl _ _, ?_⟩
              show awp _ _ _ _ _ _ _
              refine awp_ret_wk ?_
              obtain ⟨e1, e2, e3⟩ := dr_ok hdi (by omega) hok (by omega) (by omega)
              refine ⟨_, Wk.refl _ _, ?_⟩
              repeat (with_reducible first | refine then_ret ?_ | refine blk_ret ?_ | refine then_exit ?_ | refine blk_exit ?_ | refine blk_exit' (by decide) ?_ | refine blk_normal ?_ | refine then_normal ?_ | refine retq_ret ?_ | refine retq_normal ?_ | refine ng_normal ?_ | refine ng_ret ?_ | refine ng_exit ?_)
              refine ret_isD (v := .tuple #[.slice (some ⟨bt, 0, none⟩) m m, .agg #[.int .i64 0, .int .u64 0, .string ⟨#[]⟩]]) rfl (.tmp rfl (.agg rfl Try.isAgg36 Try.sizeOf36 ((s87.setAt (j := 0) rfl .none).rd (j := 7) rfl) (Nat.le_of_ble_eq_true rfl) rfl .nil)) rfl ?_
              exact ⟨_, by rw [e1, e2]; first | done | rfl, freshS_of (l := ents (dynB B l) m) (s87.setAt (j := 0) rfl .none) (j := 3) rfl (ents_len _ _) (e3.trans (by rw [show zeroK (dynB B l) = m by omega]))⟩
      ·
        have hok : (imgAt B l (dynX l).2.2.2.1 (dynX l).2.2.2.2.2).2 = false := c3
        refine dv (gyes_none rfl) (q_as (v := .string (dynB B l)) rfl) rfl (by decide) (cok1 trivial) ?_
        refine dv (gyes_none rfl) (q_as (v := .bool false) rfl) rfl (by decide) (cok1 trivial) ?_
        refine ⟨_, Wk.refl _ _, ?_⟩
        show awp _ _ _ _ _ _ _
        refine awp_seq ?_
        refine awp_seq ?_
        refine awp_regs hF ?_
        refine dv (gyes_none rfl) (q_mv (v := .bool false) rfl) rfl (by decide) (cok1 trivial) ?_
        refine dv (gyes_none rfl) (q_not (b := false) rfl) rfl (by decide) (cok1 trivial) ?_
        refine ⟨_, Wk.refl _ _, ?_⟩
        show awp _ _ _ _ _ _ _
        refine awp_cond_t rfl ?_
        refine awp_seq ?_
        refine awp_regs hF ?_
        refine dv (gyes_none rfl) (q_field Try.underlying75 rfl Try.sizeOf25 rfl (s14.rd (j := 0) rfl)) rfl (by decide) (cok1 trivial) ?_
        refine dv (gyes_none rfl) (q_load (v := .int .u64 (((dynX l).2.2.2.1 : Nat) : Int)) Try.isAgg25 rfl (s14.rd (j := 0) rfl) rfl) rfl (by decide) (cok1 trivial) ?_
        refine dv (gyes_none rfl) (q_call0 Try.call30 rfl (failAt_ok 5 ((dynX l).2.2.2.1))) rfl (by decide) (call_ok rfl) ?_
        refine dv (gyes_none rfl) (q_as (v := .slice none 0 0) rfl) rfl (by decide) (cok1 (cconst rfl)) ?_
        refine x_store [] hF s14 (by kernel_rfl) (gyes_none rfl) (j := 1) (v := .agg #[.int .i64 5, .int .u64 (((dynX l).2.2.2.1 : Nat) : Int), .string ⟨#[]⟩]) rfl Try.sizeOf36 rfl rfl rfl rfl rfl trivial (lcsA ⟨(lc_scalar rfl), (lc_scalar rfl), (lc_scalar rfl), trivial⟩) (Nat.le_of_ble_eq_true rfl) trivial trivial rfl rfl (F' := [(b9, .cells true [.int .u32 (((dynX l).1 : Nat) : Int), .int .i64 (((dynX l).2.1 : Nat) : Int), .int .u64 (((dynX l).2.2.1 : Nat) : Int), .int .u64 (((dynX l).2.2.2.1 : Nat) : Int), .int .u64 (((dynX l).2.2.2.2.1 : Nat) : Int), .int .u64 (((dynX l).2.2.2.2.2 : Nat) : Int)] 6), (b5, .cells true [.int .i64 5, .int .u64 (((dynX l).2.2.2.1 : Nat) : Int), .string ⟨#[]⟩] 3), (b1, .cells true [.string B, .int .u64 ((E : Nat) : Int), vL] 3)]) rfl (fun H88 s89 => ⟨?_, ?_⟩)
        · exact trivial
        refine ⟨_, Wk.refl _ _, ?_⟩
        show awp _ _ _ _ _ _ _
        refine awp_nil s89 2 2 rfl (fun b90 H91 hb93 s92 => ?_)
        refine awp_ret_wk ?_
        obtain ⟨e1, e2, e3⟩ := dr_out hdi (by omega) hok
        refine ⟨_, Wk.refl _ _, ?_⟩
        repeat (with_reducible first | refine then_ret ?_ | refine blk_ret ?_ | refine then_exit ?_ | refine blk_exit ?_ | refine blk_exit' (by decide) ?_ | refine blk_normal ?_ | refine then_normal ?_ | refine retq_ret ?_ | refine retq_normal ?_ | refine ng_normal ?_ | refine ng_ret ?_ | refine ng_exit ?_)
        refine ret_is (v := .tuple #[.slice (some ⟨b90, 0, none⟩) 0 0, .agg #[.int .i64 5, .int .u64 (((dynX l).2.2.2.1 : Nat) : Int), .string ⟨#[]⟩]]) rfl (.tmp rfl (.agg rfl Try.isAgg36 Try.sizeOf36 (s92.rd (j := 2) rfl) (Nat.le_of_ble_eq_true rfl) rfl .nil)) rfl ?_
        exact ⟨_, by rw [e1, e2]; first | done | rfl, freshS_of (l := []) s92 (j := 0) rfl rfl e3⟩
  ·
    replace c1 := of_decide_eq_false c1
    have hnd := c1
    refine x_new (fun b => .pointer (some ⟨b, 0, none⟩)) s7 (gyes_none rfl) (q_alloc (vs := [.int .u32 0, .int .i64 0, .int .u64 0, .int .u64 0, .int .u64 0, .int .u64 0]) 6 Try.zeroValue75 (by first | exact flat_scalar rfl | exact flat_agg rfl) rfl) rfl (by decide) (by simp [Op.operands, Call.operands]) (fun b94 H95 hb97 s96 => ?_)
    refine x_store [] hF s96 (by kernel_rfl) (gyes_none rfl) (j := 0) (v := .agg #[.int .u32 (((dynX l).1 : Nat) : Int), .int .i64 (((dynX l).2.1 : Nat) : Int), .int .u64 (((dynX l).2.2.1 : Nat) : Int), .int .u64 (((dynX l).2.2.2.1 : Nat) : Int), .int .u64 (((dynX l).2.2.2.2.1 : Nat) : Int), .int .u64 (((dynX l).2.2.2.2.2 : Nat) : Int)]) rfl Try.sizeOf75 rfl rfl rfl rfl rfl trivial (lcsA ⟨(lc_scalar rfl), (lc_scalar rfl), (lc_scalar rfl), (lc_scalar rfl), (lc_scalar rfl), (lc_scalar rfl), trivial⟩) (Nat.le_of_ble_eq_true rfl) trivial trivial rfl rfl (F' := [(b94, .cells true [.int .u32 (((dynX l).1 : Nat) : Int), .int .i64 (((dynX l).2.1 : Nat) : Int), .int .u64 (((dynX l).2.2.1 : Nat) : Int), .int .u64 (((dynX l).2.2.2.1 : Nat) : Int), .int .u64 (((dynX l).2.2.2.2.1 : Nat) : Int), .int .u64 (((dynX l).2.2.2.2.2 : Nat) : Int)] 6), (b5, .cells true [.int .i64 0, .int .u64 0, .string ⟨#[]⟩] 3), (b1, .cells true [.string B, .int .u64 ((E : Nat) : Int), vL] 3)]) rfl (fun H98 s99 => ⟨?_, ?_⟩)
    · exact trivial
    refine dv (gyes_none rfl) (q_as (v := .bool false) rfl) rfl (by decide) (cok1 trivial) ?_
    refine ⟨_, Wk.refl _ _, ?_⟩
    show awp _ _ _ _ _ _ _
    refine awp_seq ?_
    refine awp_seq ?_
    refine awp_regs hF ?_
    refine dv (gyes_none rfl) (q_mv (v := .bool false) rfl) rfl (by decide) (cok1 trivial) ?_
    refine dv (gyes_none rfl) (q_not (b := false) rfl) rfl (by decide) (cok1 trivial) ?_
    refine ⟨_, Wk.refl _ _, ?_⟩
    show awp _ _ _ _ _ _ _
    refine awp_cond_t rfl ?_
    refine awp_seq ?_
    refine awp_regs hF ?_
    refine dv (gyes_none rfl) (q_call0 Try.call32 rfl (failOf_ok 18)) rfl (by decide) (cok2 trivial (cconst rfl)) ?_
    refine dv (gyes_none rfl) (q_as (v := .slice none 0 0) rfl) rfl (by decide) (cok1 (cconst rfl)) ?_
    refine x_store [] hF s99 (by kernel_rfl) (gyes_none rfl) (j := 1) (v := .agg #[.int .i64 18, .int .u64 0, .string ⟨#[]⟩]) rfl Try.sizeOf36 rfl rfl rfl rfl rfl trivial (lcsA ⟨(lc_scalar rfl), (lc_scalar rfl), (lc_scalar rfl), trivial⟩) (Nat.le_of_ble_eq_true rfl) trivial trivial rfl rfl (F' := [(b94, .cells true [.int .u32 (((dynX l).1 : Nat) : Int), .int .i64 (((dynX l).2.1 : Nat) : Int), .int .u64 (((dynX l).2.2.1 : Nat) : Int), .int .u64 (((dynX l).2.2.2.1 : Nat) : Int), .int .u64 (((dynX l).2.2.2.2.1 : Nat) : Int), .int .u64 (((dynX l).2.2.2.2.2 : Nat) : Int)] 6), (b5, .cells true [.int .i64 18, .int .u64 0, .string ⟨#[]⟩] 3), (b1, .cells true [.string B, .int .u64 ((E : Nat) : Int), vL] 3)]) rfl (fun H100 s101 => ⟨?_, ?_⟩)
    · exact trivial
    refine ⟨_, Wk.refl _ _, ?_⟩
    show awp _ _ _ _ _ _ _
    refine awp_nil s101 2 2 rfl (fun b102 H103 hb105 s104 => ?_)
    refine awp_ret_wk ?_
    obtain ⟨e1, e2, e3⟩ := dr_none (B := B) (firstK_none hnd)
    refine ⟨_, Wk.refl _ _, ?_⟩
    repeat (with_reducible first | refine then_ret ?_ | refine blk_ret ?_ | refine then_exit ?_ | refine blk_exit ?_ | refine blk_exit' (by decide) ?_ | refine blk_normal ?_ | refine then_normal ?_ | refine retq_ret ?_ | refine retq_normal ?_ | refine ng_normal ?_ | refine ng_ret ?_ | refine ng_exit ?_)
    refine ret_is (v := .tuple #[.slice (some ⟨b102, 0, none⟩) 0 0, .agg #[.int .i64 18, .int .u64 0, .string ⟨#[]⟩]]) rfl (.tmp rfl (.agg rfl Try.isAgg36 Try.sizeOf36 (s104.rd (j := 2) rfl) (Nat.le_of_ble_eq_true rfl) rfl .nil)) rfl ?_
    exact ⟨_, by rw [e1, e2]; first | done | rfl, freshS_of (l := []) s104 (j := 0) rfl rfl e3⟩
end Go.Proofs.YthfndghgfabbjaaA


/-
  Walks of functions of the given program, and what they compute.
-/
namespace Go.Proofs.YthfndghgfabbjaaA
set_option linter.unusedVariables false
open Go Go.RowKit Go.Shelf Go.Proofs
def packE (l : List DEnt) : Nat → ByteArray
  | 0 => ⟨#[]⟩
  | k + 1 => packE l k ++ (putB (nth l k).1 8 ++ putB (nth l k).2 8)
theorem packE_size (l : List DEnt) : ∀ k, (packE l k).size = 16 * k
  | 0 => rfl
  | k + 1 => by rw [packE, size_append, size_append, packE_size l k, putB_size, putB_size]; omega
def packT (l : List DEnt) : ByteArray := packE l l.length ++ zerosB 16
def fileL (t b : ByteArray) : List Sg := [(1, 6, 176, 0, t.size + b.size, t.size + b.size + 100), (2, 0, 176 + t.size, t.size, b.size, b.size)]
def cut2 (t : ByteArray) : ByteArray := t.extract 0 (min t.size 200)
def fileB (t b : ByteArray) : ByteArray := packB 0 (fileL (cut2 t) b) [cut2 t, b]
theorem cut2_size (t : ByteArray) : (cut2 t).size ≤ 200 := by unfold cut2; rw [size_extract (by omega)]; omega
theorem fileL_w (t b : ByteArray) (ht : t.size ≤ 200) (hb : b.size ≤ 100000) : ∀ x ∈ fileL t b, SgW x := fun x hx => by
  rcases List.mem_cons.1 hx with rfl | hx
  · unfold SgW; dsimp only; omega
  · rcases List.mem_cons.1 hx with rfl | hx
    · unfold SgW; dsimp only; omega
    · cases hx
set_option maxRecDepth 100000 in
set_option maxHeartbeats 4000000 in
theorem packT_ok {H0 : AHeap} (vT : Value) (e : List DEnt) (hT : SlS entc 2 H0 vT e) (hl : e.length ≤ 1000000) (hew : ∀ x ∈ e, EntW x) : ACalls Try.prog 8 [vT] H0 (Rets (.string (packT e)) H0) := by
  have hF : Wd Fence.wide := .inl rfl
  have hM : Try.prog.follows .mixedOrders = true := by kernel_rfl
  have s0 := St.begin H0
  refine acalls_st Try.func8 rfl Try.ntmps8 rfl ?_
  refine awp_seq ?_
  refine awp_regs hF ?_
  refine dv (gyes_none rfl) (q_as (v := .string (⟨#[]⟩ : ByteArray)) rfl) rfl (by decide) (cok1 (cconst rfl)) ?_
  refine ⟨_, Wk.refl _ _, ?_⟩
  show awp _ _ _ _ _ _ _
  refine awp_seq ?_
  refine awp_regs hF ?_
  refine dv (gyes_none rfl) (q_as (v := .string (⟨#[]⟩ : ByteArray)) rfl) rfl (by decide) (cok1 (cconst rfl)) ?_
  refine ⟨_, Wk.refl _ _, ?_⟩
  show awp _ _ _ _ _ _ _
  refine awp_seq ?_
  refine awp_seq ?_
  refine awp_regs hF ?_
  refine dv (gyes_none rfl) (q_as (v := .int .i64 0) rfl) rfl (by decide) (cok1 (cconst rfl)) ?_
  refine ⟨_, Wk.refl _ _, ?_⟩
  show awp _ _ _ _ _ _ _
  refine awp_block ?_
  refine awp_wk (Wk.U [(0, vT), (3, .string (⟨#[]⟩ : ByteArray)), (4, .int .i64 0)] ⟨rfl, rfl, rfl, trivial⟩) ?_
  refine awp_loop (fun ((i, o) : Nat × ByteArray) st => ∃ (H1 : AHeap), st = ⟨30, U [(0, vT), (3, .string o), (4, .int .i64 ((i : Nat) : Int))], [], H1⟩ ∧ St H0 (none0) (Rd H0) H1 [] ∧ (o = packE e i ∧ i ≤ e.length)) (fun ((i, o) : Nat × ByteArray) => e.length - i) (x0 := (0, (⟨#[]⟩ : ByteArray))) ?h0 ?round
  case h0 =>
    exact ⟨_, rfl, s0, ⟨rfl, Nat.zero_le _⟩⟩
  case round =>
    rintro ⟨i, o⟩ _ ⟨H1, rfl, s2, ho⟩
    dsimp only at *
    have hos : o.size = 16 * i := by rw [ho.1, packE_size]
    refine awp_seq ?_
    refine awp_seq ?_
    refine awp_regs hF ?_
    refine dv (gyes_none rfl) (q_mv (v := .int .i64 ((i : Nat) : Int)) rfl) rfl (by decide) (cok1 trivial) ?_
    refine dv (gyes_none rfl) (q_mv (v := vT) rfl) rfl (by decide) (cok1 trivial) ?_
    refine dv (gyes_none rfl) (q_len_sls (l := e) Try.underlying24 (s2.sls hT) rfl) rfl (by decide) (cok1 trivial) ?_
    refine dvb (gyes_none rfl) (q_int rfl rfl rfl) rfl (by decide) (cok2 trivial trivial) (fun c1 => ?_) (fun c1 => ?_)
    ·
      replace c1 := of_decide_eq_true c1
      obtain ⟨q1, q2⟩ := hew _ (nthN_mem (l := e) (k := i) (by omega))
      refine ⟨_, Wk.refl _ _, ?_⟩
      show awp _ _ _ _ _ _ _
      refine awp_cond_t rfl ?_
      refine awp_skip_wk ?_
      refine ⟨_, Wk.refl _ _, ?_⟩
      show awp _ _ _ _ _ _ _
      refine awp_seq ?_
      refine awp_block ?_
      refine awp_regt hF hM (by kernel_rfl) (by kernel_rfl) ?_
      refine dv (gyes_none rfl) (q_mv (v := .string o) rfl) rfl (by decide) (cok1 trivial) ?_
      refine dv (gyes_none rfl) (q_mv (v := vT) rfl) rfl (by decide) (cok1 trivial) ?_
      refine dv (gyes_none rfl) (q_mv (v := .int .i64 ((i : Nat) : Int)) rfl) rfl (by decide) (cok1 trivial) ?_
      refine dv (gyes_none rfl) (q_index_sls (l := e) (i := i) Try.underlying24 Try.sizeOf27 (s2.sls hT) entc_w rfl rfl (by omega)) rfl (by decide) (cok2 trivial trivial) ?_
      refine dv (gyes_none rfl) (q_field_sls (l := e) (i := i) Try.underlying27 rfl Try.sizeOf25 (s2.sls hT) entc_w rfl (by omega)) rfl (by decide) (cok1 trivial) ?_
      refine dv (gyes_none rfl) (q_load_sls0 (l := e) (i := i) (u := .int .u64 (((nth e i).1 : Nat) : Int)) Try.isAgg25 (s2.sls hT) entc_w rfl (by omega) (by decide) rfl) rfl (by decide) (cok1 trivial) ?_
      refine dv (gyes_none rfl) (q_call0 Try.call24 rfl (rput_ok ((nth e i).1) 8 (by omega) (by omega))) rfl (by decide) (call_ok rfl) ?_
      refine dv (gyes_none rfl) (q_mv (v := vT) rfl) rfl (by decide) (cok1 trivial) ?_
      refine dv (gyes_none rfl) (q_mv (v := .int .i64 ((i : Nat) : Int)) rfl) rfl (by decide) (cok1 trivial) ?_
      refine dv (gyes_none rfl) (q_index_sls (l := e) (i := i) Try.underlying24 Try.sizeOf27 (s2.sls hT) entc_w rfl rfl (by omega)) rfl (by decide) (cok2 trivial trivial) ?_
      refine dv (gyes_none rfl) (q_field_sls (l := e) (i := i) Try.underlying27 rfl Try.sizeOf25 (s2.sls hT) entc_w rfl (by omega)) rfl (by decide) (cok1 trivial) ?_
      refine dv (gyes_none rfl) (q_load_sls (l := e) (i := i) (u := .int .u64 (((nth e i).2 : Nat) : Int)) Try.isAgg25 (s2.sls hT) entc_w rfl (by omega) (by decide) rfl) rfl (by decide) (cok1 trivial) ?_
      refine dv (gyes_none rfl) (q_call0 Try.call24 rfl (rput_ok ((nth e i).2) 8 (by omega) (by omega))) rfl (by decide) (call_ok rfl) ?_
      refine dv (gyes_none rfl) (q_cat rfl rfl (by simp only [size_append, putB_size, zerosB_size]; omega)) rfl (by decide) (cok2 trivial trivial) ?_
      refine dv (gyes_none rfl) (q_cat rfl rfl (by simp only [size_append, putB_size, zerosB_size]; omega)) rfl (by decide) (cok2 trivial trivial) ?_
      refine dv (gyes_none rfl) (q_as (v := .string (o ++ ((putB ((nth e i).1) 8) ++ (putB ((nth e i).2) 8)))) rfl) rfl (by decide) (cok1 trivial) ?_
      refine ⟨_, Wk.refl _ _, ?_⟩
      show awp _ _ _ _ _ _ _
      refine awp_regs hF ?_
      refine dv (gyes_none rfl) (q_mv (v := .int .i64 ((i : Nat) : Int)) rfl) rfl (by decide) (cok1 trivial) ?_
      refine dv (gyes_none rfl) (OpQ.cast (v' := .int .i64 ((i + 1 : Nat) : Int)) (q_int rfl rfl rfl) (congrArg _ ((i64_in (by omega)).trans (by first | rfl | omega | (push_cast; rfl))))) rfl (by decide) (cok2 trivial (cconst rfl)) ?_
      refine dv (gyes_none rfl) (q_as (v := .int .i64 ((i + 1 : Nat) : Int)) rfl) rfl (by decide) (cok1 trivial) ?_
      refine ⟨_, Wk.U [(0, vT), (3, .string (o ++ ((putB ((nth e i).1) 8) ++ (putB ((nth e i).2) 8)))), (4, .int .i64 (((i + 1) : Nat) : Int))] ⟨rfl, rfl, rfl, trivial⟩, ((i + 1), (o ++ ((putB ((nth e i).1) 8) ++ (putB ((nth e i).2) 8)))), ⟨_, rfl, s2, ⟨by rw [ho.1]; rfl, by omega⟩⟩, (by omega)⟩
    ·
      replace c1 := of_decide_eq_false c1
      refine ⟨_, Wk.refl _ _, ?_⟩
      show awp _ _ _ _ _ _ _
      refine awp_cond_f rfl ?_
      refine awp_exit_wk ?_
      refine ⟨_, Wk.refl _ _, ?_⟩
      show awp _ _ _ _ _ _ _
      refine awp_seq ?_
      refine awp_regs hF ?_
      refine dv (gyes_none rfl) (q_mv (v := .string o) rfl) rfl (by decide) (cok1 trivial) ?_
      refine x_new (fun b => .slice (some ⟨b, 0, none⟩) 16 16) s2 (gyes_none rfl) (q_makeSlice1 (len := 16) (m := 16) rfl Try.underlying65 Try.typeInfo5 rfl Try.zeroValue5 rfl rfl rfl rfl (by omega) (by omega) (by show 1 * _ ≤ _; omega) (vs := (List.replicate 16 (0 : UInt8)).map bytv) (by simp [bytv])) rfl (by decide) (cok2 (cconst rfl) (cconst rfl)) (fun b3 H4 hb6 s5 => ?_)
      refine dv (gyes_none rfl) (OpQ.cast (v' := .string (zerosB 16)) (q_bytesl (l := List.replicate 16 (0 : UInt8)) Try.underlying65 Try.underlying9 Try.underlying5 rfl (s5.rd (j := 0) rfl) rfl) rfl) rfl (by decide) (cok1 trivial) ?_
      refine dv (gyes_none rfl) (q_cat rfl rfl (by simp only [size_append, putB_size, zerosB_size]; omega)) rfl (by decide) (cok2 trivial trivial) ?_
      refine dv (gyes_none rfl) (q_as (v := .string (o ++ (zerosB 16))) rfl) rfl (by decide) (cok1 trivial) ?_
      refine ⟨_, Wk.refl _ _, ?_⟩
      show awp _ _ _ _ _ _ _
      refine awp_ret_wk ?_
      refine ⟨_, Wk.refl _ _, ?_⟩
      repeat (with_reducible first | refine then_ret ?_ | refine blk_ret ?_ | refine then_exit ?_ | refine blk_exit ?_ | refine blk_exit' (by decide) ?_ | refine blk_normal ?_ | refine then_normal ?_ | refine retq_ret ?_ | refine retq_normal ?_ | refine ng_normal ?_ | refine ng_ret ?_ | refine ng_exit ?_)
      exact ret_none (v := .string (o ++ (zerosB 16))) rfl s5.kp (.tmp rfl .nil) rfl rfl ⟨by rw [packT, ho.1, show i = e.length by omega], rfl⟩
set_option maxRecDepth 100000 in
set_option maxHeartbeats 4000000 in
theorem file_ok {H0 : AHeap} (t b : ByteArray) (ht : t.size ≤ 140737488355328) (hb : b.size ≤ 100000) : ACalls Try.prog 9 [.string t, .string b] H0 (Rets (.string (fileB t b)) H0) := by
  have hF : Wd Fence.wide := .inl rfl
  have hM : Try.prog.follows .mixedOrders = true := by kernel_rfl
  have hc2 := cut2_size t
  have s0 := St.begin H0
  refine acalls_st Try.func9 rfl Try.ntmps9 rfl ?_
  refine awp_seq ?_
  refine awp_regs hF ?_
  refine dv (gyes_none rfl) (q_as (v := .string (⟨#[]⟩ : ByteArray)) rfl) rfl (by decide) (cok1 (cconst rfl)) ?_
  refine ⟨_, Wk.refl _ _, ?_⟩
  show awp _ _ _ _ _ _ _
  refine awp_seq ?_
  refine awp_regs hF ?_
  refine dv (gyes_none rfl) (q_mv (v := .string t) rfl) rfl (by decide) (cok1 trivial) ?_
  refine dv (gyes_none rfl) (q_mv (v := .string t) rfl) rfl (by decide) (cok1 trivial) ?_
  refine dv (gyes_none rfl) (q_len_str Try.underlying9 rfl) rfl (by decide) (cok1 trivial) ?_
  refine dv (gyes_none rfl) (OpQ.cast (v' := .int .i64 ((min t.size 200 : Nat) : Int)) (q_min rfl rfl) (by congr 1; split <;> omega)) rfl (by decide) (cok2 trivial (cconst rfl)) ?_
  refine dv (gyes_none rfl) (OpQ.cast (v' := .string (cut2 t)) (q_substr (i := 0) (j := min t.size 200) Try.underlying9 rfl rfl ⟨_, rfl⟩ (by omega) (by omega)) rfl) rfl (by decide) (cok2 trivial trivial) ?_
  refine dv (gyes_none rfl) (q_as (v := .string (cut2 t)) rfl) rfl (by decide) (cok1 trivial) ?_
  refine ⟨_, Wk.refl _ _, ?_⟩
  show awp _ _ _ _ _ _ _
  refine awp_seq ?_
  refine awp_regs hF ?_
  refine dv (gyes_none rfl) (q_mv (v := .string (cut2 t)) rfl) rfl (by decide) (cok1 trivial) ?_
  refine dv (gyes_none rfl) (q_len_str Try.underlying9 rfl) rfl (by decide) (cok1 trivial) ?_
  refine dv (gyes_none rfl) (q_mv (v := .string b) rfl) rfl (by decide) (cok1 trivial) ?_
  refine dv (gyes_none rfl) (q_len_str Try.underlying9 rfl) rfl (by decide) (cok1 trivial) ?_
  refine dv (gyes_none rfl) (OpQ.cast (v' := .int .i64 (((cut2 t).size + b.size : Nat) : Int)) (q_int rfl rfl rfl) (congrArg _ ((i64_in (by omega)).trans (by first | rfl | omega | (push_cast; rfl))))) rfl (by decide) (cok2 trivial trivial) ?_
  refine dv (gyes_none rfl) (q_convin (a := (((cut2 t).size + b.size : Nat) : Int)) Try.underlying3 Try.underlying25 rfl (u64_in (by omega))) rfl (by decide) (cok1 trivial) ?_
  refine dv (gyes_none rfl) (q_as (v := .int .u64 (((cut2 t).size + b.size : Nat) : Int)) rfl) rfl (by decide) (cok1 trivial) ?_
  refine ⟨_, Wk.refl _ _, ?_⟩
  show awp _ _ _ _ _ _ _
  refine awp_seq ?_
  refine awp_regs hF ?_
  refine dv (gyes_none rfl) (q_mv (v := .int .u64 (((cut2 t).size + b.size : Nat) : Int)) rfl) rfl (by decide) (cok1 trivial) ?_
  refine dv (gyes_none rfl) (q_mv (v := .int .u64 (((cut2 t).size + b.size : Nat) : Int)) rfl) rfl (by decide) (cok1 trivial) ?_
  refine dv (gyes_none rfl) (OpQ.cast (v' := .int .u64 (((cut2 t).size + b.size + 100 : Nat) : Int)) (q_int rfl rfl rfl) (congrArg _ ((u64_in (by omega)).trans (by first | rfl | omega | (push_cast; rfl))))) rfl (by decide) (cok2 trivial (cconst rfl)) ?_
  refine dv (gyes_none rfl) (q_buildL (ds := [.int .u64 1, .int .u64 6, .int .u64 176, .int .u64 0, .int .u64 (((cut2 t).size + b.size : Nat) : Int), .int .u64 (((cut2 t).size + b.size + 100 : Nat) : Int)]) [(0, 1), (1, 1), (2, 1), (3, 1), (4, 1), (5, 1)] [.int .u64 1, .int .u64 6, .int .u64 176, .int .u64 (((cut2 t).size + b.size : Nat) : Int), .int .u64 (((cut2 t).size + b.size + 100 : Nat) : Int)] Try.underlying67 Try.zeroValue67 (by first | exact flat_agg rfl | exact flat_scalar rfl) (by kernel_rfl) ⟨rfl, rfl, rfl, rfl, rfl, trivial⟩ (lvsC (by exact trivial) (lvsC (by exact trivial) (lvsC (by exact trivial) (lvsC (by exact trivial) (lvsC (by exact trivial) lvs0))))) rfl) rfl (by decide) (call_ok rfl) ?_
  refine dv (gyes_none rfl) (q_mv (v := .string (cut2 t)) rfl) rfl (by decide) (cok1 trivial) ?_
  refine dv (gyes_none rfl) (q_len_str Try.underlying9 rfl) rfl (by decide) (cok1 trivial) ?_
  refine dv (gyes_none rfl) (q_convin (a := (((cut2 t).size : Nat) : Int)) Try.underlying3 Try.underlying25 rfl (u64_in (by omega))) rfl (by decide) (cok1 trivial) ?_
  refine dv (gyes_none rfl) (OpQ.cast (v' := .int .u64 ((176 + ((cut2 t).size) : Nat) : Int)) (q_int rfl rfl rfl) (congrArg _ ((u64_in (by omega)).trans (by first | rfl | omega | (push_cast; rfl))))) rfl (by decide) (cok2 (cconst rfl) trivial) ?_
  refine dv (gyes_none rfl) (q_mv (v := .string (cut2 t)) rfl) rfl (by decide) (cok1 trivial) ?_
  refine dv (gyes_none rfl) (q_len_str Try.underlying9 rfl) rfl (by decide) (cok1 trivial) ?_
  refine dv (gyes_none rfl) (q_convin (a := (((cut2 t).size : Nat) : Int)) Try.underlying3 Try.underlying25 rfl (u64_in (by omega))) rfl (by decide) (cok1 trivial) ?_
  refine dv (gyes_none rfl) (q_mv (v := .string b) rfl) rfl (by decide) (cok1 trivial) ?_
  refine dv (gyes_none rfl) (q_len_str Try.underlying9 rfl) rfl (by decide) (cok1 trivial) ?_
  refine dv (gyes_none rfl) (q_convin (a := ((b.size : Nat) : Int)) Try.underlying3 Try.underlying25 rfl (u64_in (by omega))) rfl (by decide) (cok1 trivial) ?_
  refine dv (gyes_none rfl) (q_mv (v := .string b) rfl) rfl (by decide) (cok1 trivial) ?_
  refine dv (gyes_none rfl) (q_len_str Try.underlying9 rfl) rfl (by decide) (cok1 trivial) ?_
  refine dv (gyes_none rfl) (q_convin (a := ((b.size : Nat) : Int)) Try.underlying3 Try.underlying25 rfl (u64_in (by omega))) rfl (by decide) (cok1 trivial) ?_
  refine dv (gyes_none rfl) (q_buildL (ds := [.int .u64 2, .int .u64 0, .int .u64 ((176 + ((cut2 t).size) : Nat) : Int), .int .u64 (((cut2 t).size : Nat) : Int), .int .u64 ((b.size : Nat) : Int), .int .u64 ((b.size : Nat) : Int)]) [(0, 1), (1, 1), (2, 1), (3, 1), (4, 1), (5, 1)] [.int .u64 2, .int .u64 ((176 + ((cut2 t).size) : Nat) : Int), .int .u64 (((cut2 t).size : Nat) : Int), .int .u64 ((b.size : Nat) : Int), .int .u64 ((b.size : Nat) : Int)] Try.underlying67 Try.zeroValue67 (by first | exact flat_agg rfl | exact flat_scalar rfl) (by kernel_rfl) ⟨rfl, rfl, rfl, rfl, rfl, trivial⟩ (lvsC (by exact trivial) (lvsC (by exact trivial) (lvsC (by exact trivial) (lvsC (by exact trivial) (lvsC (by exact trivial) lvs0))))) rfl) rfl (by decide) (call_ok rfl) ?_
  refine x_new (fun b => .slice (some ⟨b, 0, none⟩) 2 2) s0 (gyes_none rfl) (q_buildSliceL (ds := [.int .u64 1, .int .u64 6, .int .u64 176, .int .u64 0, .int .u64 (((cut2 t).size + b.size : Nat) : Int), .int .u64 (((cut2 t).size + b.size + 100 : Nat) : Int), .int .u64 2, .int .u64 0, .int .u64 ((176 + ((cut2 t).size) : Nat) : Int), .int .u64 (((cut2 t).size : Nat) : Int), .int .u64 ((b.size : Nat) : Int), .int .u64 ((b.size : Nat) : Int)]) [.agg #[.int .u64 1, .int .u64 6, .int .u64 176, .int .u64 0, .int .u64 (((cut2 t).size + b.size : Nat) : Int), .int .u64 (((cut2 t).size + b.size + 100 : Nat) : Int)], .agg #[.int .u64 2, .int .u64 0, .int .u64 ((176 + ((cut2 t).size) : Nat) : Int), .int .u64 (((cut2 t).size : Nat) : Int), .int .u64 ((b.size : Nat) : Int), .int .u64 ((b.size : Nat) : Int)]] rfl Try.underlying39 Try.sizeOf67 Try.zeroValue67 rfl (by decide) (by decide) ⟨rfl, rfl, trivial⟩ (lvsC (by exact trivial) (lvsC (by exact trivial) lvs0)) rfl rfl) rfl (by decide) (cok2 trivial trivial) (fun b1 H2 hb4 s3 => ?_)
  refine dv (gyes_none rfl) (q_as (v := .slice (some ⟨b1, 0, none⟩) 2 2) rfl) rfl (by decide) (cok1 trivial) ?_
  refine ⟨_, Wk.refl _ _, ?_⟩
  show awp _ _ _ _ _ _ _
  refine awp_seq ?_
  refine awp_regs hF ?_
  refine dv (gyes_none rfl) (q_mv (v := .slice (some ⟨b1, 0, none⟩) 2 2) rfl) rfl (by decide) (cok1 trivial) ?_
  refine dv (gyes_none rfl) (q_mv (v := .string (cut2 t)) rfl) rfl (by decide) (cok1 trivial) ?_
  refine dv (gyes_none rfl) (q_mv (v := .string b) rfl) rfl (by decide) (cok1 trivial) ?_
  refine x_new (fun b => .slice (some ⟨b, 0, none⟩) 2 2) s3 (gyes_none rfl) (q_buildSliceL (ds := [.string (cut2 t), .string b]) [.string (cut2 t), .string b] rfl Try.underlying69 Try.sizeOf9 Try.zeroValue9 rfl (by decide) (by decide) ⟨rfl, rfl, trivial⟩ (lvsC (by exact trivial) (lvsC (by exact trivial) lvs0)) rfl rfl) rfl (by decide) (cok2 trivial trivial) (fun b5 H6 hb8 s7 => ?_)
  refine dv (gyes_none rfl) (q_call0 Try.call25 rfl (pack_ok 0 (by decide) _ _ (fileL (cut2 t) b) [cut2 t, b] (s7.slsj (l := fileL (cut2 t) b) segr_w (j := 1) rfl rfl (Nat.le_refl _)) (s7.slj (l := [cut2 t, b]) (f := strv) (j := 0) rfl rfl (Nat.le_refl _)) (by show 2 ≤ _; decide) (by show 2 ≤ _; decide) (fileL_w _ _ hc2 hb) (fun x hx => by
      rcases List.mem_cons.1 hx with rfl | hx
      · omega
      · rcases List.mem_cons.1 hx with rfl | hx
        · exact hb
        · cases hx))) rfl (by decide) (call_ok rfl) ?_
  refine dv (gyes_none rfl) (q_as (v := .string (fileB t b)) rfl) rfl (by decide) (cok1 trivial) ?_
  refine ⟨_, Wk.refl _ _, ?_⟩
  show awp _ _ _ _ _ _ _
  refine awp_ret_wk ?_
  refine ⟨_, Wk.refl _ _, ?_⟩
  repeat (with_reducible first | refine then_ret ?_ | refine blk_ret ?_ | refine then_exit ?_ | refine blk_exit ?_ | refine blk_exit' (by decide) ?_ | refine blk_normal ?_ | refine then_normal ?_ | refine retq_ret ?_ | refine retq_normal ?_ | refine ng_normal ?_ | refine ng_ret ?_ | refine ng_exit ?_)
  exact ret_none (v := .string (fileB t b)) rfl s7.kp (.tmp rfl .nil) rfl rfl ⟨rfl, rfl⟩

end Go.Proofs.YthfndghgfabbjaaA


/-
  Walks of functions of the given program, and what they compute.
-/
namespace Go.Proofs.YthfndghgfabbjaaA
set_option linter.unusedVariables false
open Go Go.RowKit Go.Shelf Go.Proofs
def speaks_unit : Unit := ()
def spE : List DEnt := [(1, 1), (5, 0), (10, 4)]
def spT : ByteArray := packT spE
def spS : ByteArray := fileB ⟨#[0, 97, 98, 0]⟩ spT
def spL : List Sg := hrL spS
theorem sp_C : hrC spS = 0 := by decide +kernel
theorem sp_A : hrA spS = 0 := by decide +kernel
theorem sp_E : hrE spS = 0 := by decide +kernel
theorem sp_B : hrB spS = spS := if_pos sp_C
theorem sp_n : spS.size ≤ 1000 := by decide +kernel
theorem sp_b : spT.size ≤ 1000 := by decide +kernel
theorem sp_dC : drC spS spL = 0 := by decide +kernel
theorem sp_dA : drA spS spL = 0 := by decide +kernel
theorem sp_dL : drL spS spL = spE := by decide +kernel
theorem sp_get : getV spE 1 = (1, true) := by decide +kernel
theorem sp_tab : tabV spS spL spE 1 = (⟨#[97, 98]⟩, true) := by decide +kernel
theorem sp_w : ∀ x ∈ spE, EntW x := fun x hx => by
  rcases List.mem_cons.1 hx with rfl | hx
  · unfold EntW; decide
  rcases List.mem_cons.1 hx with rfl | hx
  · unfold EntW; decide
  rcases List.mem_cons.1 hx with rfl | hx
  · unfold EntW; decide
  cases hx
theorem hrL_sgb {s : ByteArray} : ∀ x ∈ hrL s, SgB x := fun x hx => (hrL_b x hx).2.2
theorem spRead {H0 : AHeap} : ACalls Try.prog 10 [.string spS] H0 (fun v H' => ∃ vL, v = .tuple #[.agg #[.string spS, .int .u64 0, vL], .agg #[.int .i64 0, .int .u64 0, .string ⟨#[]⟩]] ∧ FreshS segc 6 spL H0 vL H') := by
  have h := read_ok (H0 := H0) spS (Nat.le_trans sp_n (by decide))
  rw [sp_B, sp_E, sp_C, sp_A] at h
  exact h
theorem spD {H0 : AHeap} {vL : Value} (hL : SlS segc 6 H0 vL spL) : ACalls Try.prog 12 [.agg #[.string spS, .int .u64 0, vL]] H0 (fun v H' => ∃ vT, v = .tuple #[vT, .agg #[.int .i64 0, .int .u64 0, .string ⟨#[]⟩]] ∧ FreshS entc 2 spE H0 vT H') := by
  have h := dread_ok (H0 := H0) spS 0 vL spL (Nat.le_trans sp_n (by decide)) hL (Nat.le_trans hrL_len (by decide)) hrL_low hrL_in hrL_sgb
  rw [sp_dC, sp_dA, sp_dL] at h
  exact h
set_option maxRecDepth 100000 in
set_option maxHeartbeats 4000000 in
theorem speaks_ok {H0 : AHeap}  : ACalls Try.prog 7 [] H0 (Rets (.bool true) H0) := by
  have hF : Wd Fence.wide := .inl rfl
  have hM : Try.prog.follows .mixedOrders = true := by kernel_rfl
  have s0 := St.begin H0
  refine acalls_st Try.func7 rfl Try.ntmps7 rfl ?_
  refine awp_seq ?_
  refine awp_regs hF ?_
  refine dv (gyes_none rfl) (q_as (v := .bool false) rfl) rfl (by decide) (cok1 (cconst rfl)) ?_
  refine ⟨_, Wk.refl _ _, ?_⟩
  show awp _ _ _ _ _ _ _
  refine awp_seq ?_
  refine awp_regs hF ?_
  refine dv (gyes_none rfl) (q_buildL (ds := [.int .u64 1, .int .u64 1]) [(0, 1), (1, 1)] [.int .u64 1, .int .u64 1] Try.underlying27 Try.zeroValue27 (by first | exact flat_agg rfl | exact flat_scalar rfl) (by kernel_rfl) ⟨rfl, rfl, trivial⟩ (lvsC (by exact trivial) (lvsC (by exact trivial) lvs0)) rfl) rfl (by decide) (cok2 (cconst rfl) (cconst rfl)) ?_
  refine dv (gyes_none rfl) (q_buildL (ds := [.int .u64 5, .int .u64 0]) [(0, 1), (1, 1)] [.int .u64 5, .int .u64 0] Try.underlying27 Try.zeroValue27 (by first | exact flat_agg rfl | exact flat_scalar rfl) (by kernel_rfl) ⟨rfl, rfl, trivial⟩ (lvsC (by exact trivial) (lvsC (by exact trivial) lvs0)) rfl) rfl (by decide) (cok2 (cconst rfl) (cconst rfl)) ?_
  refine dv (gyes_none rfl) (q_buildL (ds := [.int .u64 10, .int .u64 4]) [(0, 1), (1, 1)] [.int .u64 10, .int .u64 4] Try.underlying27 Try.zeroValue27 (by first | exact flat_agg rfl | exact flat_scalar rfl) (by kernel_rfl) ⟨rfl, rfl, trivial⟩ (lvsC (by exact trivial) (lvsC (by exact trivial) lvs0)) rfl) rfl (by decide) (cok2 (cconst rfl) (cconst rfl)) ?_
  refine x_new (fun b => .slice (some ⟨b, 0, none⟩) 3 3) s0 (gyes_none rfl) (q_buildSliceL (ds := [.int .u64 1, .int .u64 1, .int .u64 5, .int .u64 0, .int .u64 10, .int .u64 4]) [.agg #[.int .u64 1, .int .u64 1], .agg #[.int .u64 5, .int .u64 0], .agg #[.int .u64 10, .int .u64 4]] rfl Try.underlying24 Try.sizeOf27 Try.zeroValue27 rfl (by decide) (by decide) ⟨rfl, rfl, rfl, trivial⟩ (lvsC (by exact trivial) (lvsC (by exact trivial) (lvsC (by exact trivial) lvs0))) rfl rfl) rfl (by decide) (call_ok rfl) (fun b1 H2 hb4 s3 => ?_)
  refine dv (gyes_none rfl) (q_call0 Try.call8 rfl (packT_ok _ spE (s3.slsj (l := spE) entc_w (j := 0) rfl rfl (Nat.le_refl _)) (by decide) sp_w)) rfl (by decide) (cok2 trivial trivial) ?_
  refine dv (gyes_none rfl) (q_call0 Try.call9 rfl (file_ok ⟨#[0, 97, 98, 0]⟩ spT (by decide) (Nat.le_trans sp_b (by decide)))) rfl (by decide) (call_ok rfl) ?_
  refine x_call [] hF (by kernel_rfl) (gyes_none rfl) Try.call10 rfl (args := [.string spS]) rfl (spRead) (show _ < _ by decide) (call_ok rfl) rfl rfl (fun _ _ _ _ hd => by cases hd) ?_
  rintro _ H6 ⟨_, rfl, hk7, b5, rfl, hb8, hg9⟩
  have s10 := s3.callN hk7 hb8 hg9
  refine ⟨trivial, ?_⟩
  show dList _ _ _ _ _ _ _ _ _ _
  refine dv (gyes_none rfl) (q_mv (v := .tuple #[.agg #[.string spS, .int .u64 0, .slice (some ⟨b5, 0, none⟩) spL.length spL.length], .agg #[.int .i64 0, .int .u64 0, .string (⟨#[]⟩ : ByteArray)]]) rfl) rfl (by decide) (cok1 trivial) ?_
  refine dv (gyes_none rfl) (q_extract (v := .agg #[.string spS, .int .u64 0, .slice (some ⟨b5, 0, none⟩) spL.length spL.length]) rfl rfl) rfl (by decide) (cok1 trivial) ?_
  refine dv (gyes_none rfl) (q_extract (v := .agg #[.int .i64 0, .int .u64 0, .string (⟨#[]⟩ : ByteArray)]) rfl rfl) rfl (by decide) (cok1 trivial) ?_
  refine x_new (fun b => .pointer (some ⟨b, 0, none⟩)) s10 (gyes_none rfl) (q_alloc (vs := [.string ⟨#[]⟩, .int .u64 0, .slice none 0 0]) 3 Try.zeroValue33 (by first | exact flat_scalar rfl | exact flat_agg rfl) rfl) rfl (by decide) (by simp [Op.operands, Call.operands]) (fun b11 H12 hb14 s13 => ?_)
  refine x_new (fun b => .pointer (some ⟨b, 0, none⟩)) s13 (gyes_none rfl) (q_alloc (vs := [.int .i64 0, .int .u64 0, .string ⟨#[]⟩]) 3 Try.zeroValue36 (by first | exact flat_scalar rfl | exact flat_agg rfl) rfl) rfl (by decide) (by simp [Op.operands, Call.operands]) (fun b15 H16 hb18 s17 => ?_)
  refine x_store [] hF s17 (by kernel_rfl) (gyes_none rfl) (j := 1) (v := .agg #[.string spS, .int .u64 0, .slice (some ⟨b5, 0, none⟩) spL.length spL.length]) rfl Try.sizeOf33 rfl rfl rfl rfl rfl trivial (lcsA ⟨(lc_scalar rfl), (lc_scalar rfl), (lc_slice (s17.live (j := 2) rfl)), trivial⟩) (Nat.le_of_ble_eq_true rfl) trivial trivial rfl rfl (F' := [(b15, .cells true [.int .i64 0, .int .u64 0, .string ⟨#[]⟩] 3), (b11, .cells true [.string spS, .int .u64 0, .slice (some ⟨b5, 0, none⟩) spL.length spL.length] 3), (b5, .cells true (fl segc spL) 6), (b1, .cells true [.int .u64 1, .int .u64 1, .int .u64 5, .int .u64 0, .int .u64 10, .int .u64 4] 2)]) rfl (fun H19 s20 => ⟨?_, ?_⟩)
  · exact trivial
  refine x_store [] hF s20 (by kernel_rfl) (gyes_none rfl) (j := 0) (v := .agg #[.int .i64 0, .int .u64 0, .string (⟨#[]⟩ : ByteArray)]) rfl Try.sizeOf36 rfl rfl rfl rfl rfl trivial (lcsA ⟨(lc_scalar rfl), (lc_scalar rfl), (lc_scalar rfl), trivial⟩) (Nat.le_of_ble_eq_true rfl) trivial trivial rfl rfl (F' := [(b15, .cells true [.int .i64 0, .int .u64 0, .string (⟨#[]⟩ : ByteArray)] 3), (b11, .cells true [.string spS, .int .u64 0, .slice (some ⟨b5, 0, none⟩) spL.length spL.length] 3), (b5, .cells true (fl segc spL) 6), (b1, .cells true [.int .u64 1, .int .u64 1, .int .u64 5, .int .u64 0, .int .u64 10, .int .u64 4] 2)]) rfl (fun H21 s22 => ⟨?_, ?_⟩)
  · exact trivial
  refine ⟨_, Wk.refl _ _, ?_⟩
  show awp _ _ _ _ _ _ _
  refine awp_seq ?_
  refine awp_regs hF ?_
  refine dv (gyes_none rfl) (q_loadAgg Try.isAgg33 Try.sizeOf33 rfl (s22.rd (j := 1) rfl) (Nat.le_of_ble_eq_true rfl) rfl) rfl (by decide) (cok1 trivial) ?_
  refine x_call [] hF (by kernel_rfl) (gyes_none rfl) Try.call12 rfl (args := [.agg #[.string spS, .int .u64 0, .slice (some ⟨b5, 0, none⟩) spL.length spL.length]]) rfl (spD (s22.slsj (l := spL) segc_w (j := 2) rfl rfl (Nat.le_refl _))) (show _ < _ by decide) (call_ok rfl) rfl rfl (fun _ _ _ _ hd => by cases hd) ?_
  rintro _ H24 ⟨_, rfl, hk25, b23, rfl, hb26, hg27⟩
  have s28 := s22.callN hk25 hb26 hg27
  refine ⟨trivial, ?_⟩
  show dList _ _ _ _ _ _ _ _ _ _
  refine dv (gyes_none rfl) (q_mv (v := .tuple #[.slice (some ⟨b23, 0, none⟩) spE.length spE.length, .agg #[.int .i64 0, .int .u64 0, .string (⟨#[]⟩ : ByteArray)]]) rfl) rfl (by decide) (cok1 trivial) ?_
  refine dv (gyes_none rfl) (q_extract (v := .slice (some ⟨b23, 0, none⟩) spE.length spE.length) rfl rfl) rfl (by decide) (cok1 trivial) ?_
  refine dv (gyes_none rfl) (q_extract (v := .agg #[.int .i64 0, .int .u64 0, .string (⟨#[]⟩ : ByteArray)]) rfl rfl) rfl (by decide) (cok1 trivial) ?_
  refine x_new (fun b => .pointer (some ⟨b, 0, none⟩)) s28 (gyes_none rfl) (q_alloc (vs := [.int .i64 0, .int .u64 0, .string ⟨#[]⟩]) 3 Try.zeroValue36 (by first | exact flat_scalar rfl | exact flat_agg rfl) rfl) rfl (by decide) (by simp [Op.operands, Call.operands]) (fun b29 H30 hb32 s31 => ?_)
  refine dv (gyes_none rfl) (q_as (v := .slice (some ⟨b23, 0, none⟩) spE.length spE.length) rfl) rfl (by decide) (cok1 trivial) ?_
  refine x_store [] hF s31 (by kernel_rfl) (gyes_none rfl) (j := 0) (v := .agg #[.int .i64 0, .int .u64 0, .string (⟨#[]⟩ : ByteArray)]) rfl Try.sizeOf36 rfl rfl rfl rfl rfl trivial (lcsA ⟨(lc_scalar rfl), (lc_scalar rfl), (lc_scalar rfl), trivial⟩) (Nat.le_of_ble_eq_true rfl) trivial trivial rfl rfl (F' := [(b29, .cells true [.int .i64 0, .int .u64 0, .string (⟨#[]⟩ : ByteArray)] 3), (b23, .cells true (fl entc spE) 2), (b15, .cells true [.int .i64 0, .int .u64 0, .string (⟨#[]⟩ : ByteArray)] 3), (b11, .cells true [.string spS, .int .u64 0, .slice (some ⟨b5, 0, none⟩) spL.length spL.length] 3), (b5, .cells true (fl segc spL) 6), (b1, .cells true [.int .u64 1, .int .u64 1, .int .u64 5, .int .u64 0, .int .u64 10, .int .u64 4] 2)]) rfl (fun H33 s34 => ⟨?_, ?_⟩)
  · exact trivial
  refine ⟨_, Wk.refl _ _, ?_⟩
  show awp _ _ _ _ _ _ _
  refine awp_seq ?_
  refine awp_regs hF ?_
  refine dv (gyes_none rfl) (q_mv (v := .slice (some ⟨b23, 0, none⟩) spE.length spE.length) rfl) rfl (by decide) (cok1 trivial) ?_
  refine dv (gyes_none rfl) (q_call0 Try.call14 rfl (ACalls.castV (v' := .tuple #[.int .u64 1, .bool true]) (get_t_ok 1 (by decide) _ spE (s34.slsj (l := spE) entc_w (j := 1) rfl rfl (Nat.le_refl _)) (by decide)) (by rw [sp_get]; rfl))) rfl (by decide) (call_ok rfl) ?_
  refine dv (gyes_none rfl) (q_mv (v := .tuple #[.int .u64 1, .bool true]) rfl) rfl (by decide) (cok1 trivial) ?_
  refine dv (gyes_none rfl) (q_extract (v := .int .u64 1) rfl rfl) rfl (by decide) (cok1 trivial) ?_
  refine dv (gyes_none rfl) (q_extract (v := .bool true) rfl rfl) rfl (by decide) (cok1 trivial) ?_
  refine dv (gyes_none rfl) (q_as (v := .int .u64 1) rfl) rfl (by decide) (cok1 trivial) ?_
  refine dv (gyes_none rfl) (q_as (v := .bool true) rfl) rfl (by decide) (cok1 trivial) ?_
  refine ⟨_, Wk.refl _ _, ?_⟩
  show awp _ _ _ _ _ _ _
  refine awp_seq ?_
  refine awp_regs hF ?_
  refine dv (gyes_none rfl) (q_mv (v := .slice (some ⟨b23, 0, none⟩) spE.length spE.length) rfl) rfl (by decide) (cok1 trivial) ?_
  refine dv (gyes_none rfl) (q_loadAgg Try.isAgg33 Try.sizeOf33 rfl (s34.rd (j := 3) rfl) (Nat.le_of_ble_eq_true rfl) rfl) rfl (by decide) (cok1 trivial) ?_
  refine dv (gyes_none rfl) (q_mv (v := .int .u64 1) rfl) rfl (by decide) (cok1 trivial) ?_
  refine dv (gyes_none rfl) (q_call0 Try.call21 rfl (ACalls.castV (v' := .tuple #[.string (⟨#[97, 98]⟩ : ByteArray), .bool true]) (tab_ok 1 (by decide) _ spE (s34.slsj (l := spE) entc_w (j := 1) rfl rfl (Nat.le_refl _)) (by decide) sp_w spS 0 _ spL (Nat.le_trans sp_n (by decide)) (s34.slsj (l := spL) segc_w (j := 4) rfl rfl (Nat.le_refl _)) (Nat.le_trans hrL_len (by decide)) hrL_low hrL_in) (by rw [sp_tab]))) rfl (by decide) (call_ok rfl) ?_
  refine dv (gyes_none rfl) (q_mv (v := .tuple #[.string (⟨#[97, 98]⟩ : ByteArray), .bool true]) rfl) rfl (by decide) (cok1 trivial) ?_
  refine dv (gyes_none rfl) (q_extract (v := .string (⟨#[97, 98]⟩ : ByteArray)) rfl rfl) rfl (by decide) (cok1 trivial) ?_
  refine dv (gyes_none rfl) (q_extract (v := .bool true) rfl rfl) rfl (by decide) (cok1 trivial) ?_
  refine dv (gyes_none rfl) (q_as (v := .string (⟨#[97, 98]⟩ : ByteArray)) rfl) rfl (by decide) (cok1 trivial) ?_
  refine dv (gyes_none rfl) (q_as (v := .bool true) rfl) rfl (by decide) (cok1 trivial) ?_
  refine ⟨_, Wk.refl _ _, ?_⟩
  show awp _ _ _ _ _ _ _
  refine awp_seq ?_
  refine awp_regs hF ?_
  refine dv (gyes_none rfl) (q_loadAgg Try.isAgg36 Try.sizeOf36 rfl (s34.rd (j := 2) rfl) (Nat.le_of_ble_eq_true rfl) rfl) rfl (by decide) (cok1 trivial) ?_
  refine dv (gyes_none rfl) (q_call0 Try.call16 rfl (ACalls.castV (faultOK_ok 0 0 (⟨#[]⟩ : ByteArray)) (congrArg Value.bool rfl))) rfl (by decide) (cok2 trivial trivial) ?_
  refine dv (gyes_none rfl) (q_mv (v := .bool true) rfl) rfl (by decide) (cok1 trivial) ?_
  refine dv (gyes_some rfl rfl) (q_loadAgg Try.isAgg36 Try.sizeOf36 rfl (s34.rd (j := 0) rfl) (Nat.le_of_ble_eq_true rfl) rfl) rfl (by decide) (cok1 trivial) ?_
  refine dv (gyes_some rfl rfl) (q_call0 Try.call16 rfl (ACalls.castV (faultOK_ok 0 0 (⟨#[]⟩ : ByteArray)) (congrArg Value.bool rfl))) rfl (by decide) (cok2 trivial trivial) ?_
  refine dv (gyes_none rfl) (q_pt (v := .bool true) rfl rfl) rfl (by decide) (call_ok rfl) ?_
  refine dv (gyes_none rfl) (q_mv (v := .bool true) rfl) rfl (by decide) (cok1 trivial) ?_
  refine dv (gyes_some rfl rfl) (q_mv (v := .slice (some ⟨b23, 0, none⟩) spE.length spE.length) rfl) rfl (by decide) (cok1 trivial) ?_
  refine dv (gyes_some rfl rfl) (q_len_slice Try.underlying43 rfl (s34.rd (j := 1) rfl)) rfl (by decide) (cok1 trivial) ?_
  refine dv (gyes_some rfl rfl) (OpQ.cast (v' := .bool true) (q_int rfl rfl rfl) (congrArg Value.bool rfl)) rfl (by decide) (cok2 trivial (cconst rfl)) ?_
  refine dv (gyes_none rfl) (q_pt (v := .bool true) rfl rfl) rfl (by decide) (call_ok rfl) ?_
  refine dv (gyes_none rfl) (q_mv (v := .bool true) rfl) rfl (by decide) (cok1 trivial) ?_
  refine dv (gyes_some rfl rfl) (q_mv (v := .bool true) rfl) rfl (by decide) (cok1 trivial) ?_
  refine dv (gyes_none rfl) (q_pt (v := .bool true) rfl rfl) rfl (by decide) (call_ok rfl) ?_
  refine dv (gyes_none rfl) (q_mv (v := .bool true) rfl) rfl (by decide) (cok1 trivial) ?_
  refine dv (gyes_some rfl rfl) (q_mv (v := .int .u64 1) rfl) rfl (by decide) (cok1 trivial) ?_
  refine dv (gyes_some rfl rfl) (OpQ.cast (v' := .bool true) (q_int rfl rfl rfl) (congrArg Value.bool (beq_self_eq_true _))) rfl (by decide) (cok2 trivial (cconst rfl)) ?_
  refine dv (gyes_none rfl) (q_pt (v := .bool true) rfl rfl) rfl (by decide) (call_ok rfl) ?_
  refine dv (gyes_none rfl) (q_mv (v := .bool true) rfl) rfl (by decide) (cok1 trivial) ?_
  refine dv (gyes_some rfl rfl) (q_mv (v := .bool true) rfl) rfl (by decide) (cok1 trivial) ?_
  refine dv (gyes_none rfl) (q_pt (v := .bool true) rfl rfl) rfl (by decide) (call_ok rfl) ?_
  refine dv (gyes_none rfl) (q_mv (v := .bool true) rfl) rfl (by decide) (cok1 trivial) ?_
  refine dv (gyes_some rfl rfl) (q_mv (v := .string (⟨#[97, 98]⟩ : ByteArray)) rfl) rfl (by decide) (cok1 trivial) ?_
  refine dv (gyes_some rfl rfl) (OpQ.cast (v' := .bool true) (q_streq rfl rfl) (congrArg Value.bool (by simp))) rfl (by decide) (cok2 trivial (cconst rfl)) ?_
  refine dv (gyes_none rfl) (q_pt (v := .bool true) rfl rfl) rfl (by decide) (call_ok rfl) ?_
  refine dv (gyes_none rfl) (q_as (v := .bool true) rfl) rfl (by decide) (cok1 trivial) ?_
  refine ⟨_, Wk.refl _ _, ?_⟩
  show awp _ _ _ _ _ _ _
  refine awp_ret_wk ?_
  refine ⟨_, Wk.refl _ _, ?_⟩
  repeat (with_reducible first | refine then_ret ?_ | refine blk_ret ?_ | refine then_exit ?_ | refine blk_exit ?_ | refine blk_exit' (by decide) ?_ | refine blk_normal ?_ | refine then_normal ?_ | refine retq_ret ?_ | refine retq_normal ?_ | refine ng_normal ?_ | refine ng_ret ?_ | refine ng_exit ?_)
  exact ret_none (v := .bool true) rfl s34.kp (.tmp rfl .nil) rfl rfl ⟨rfl, rfl⟩
end Go.Proofs.YthfndghgfabbjaaA


/-
  Walks of functions of the given program, and what they compute.
-/
namespace Go.Proofs.YthfndghgfabbjaaA
set_option linter.unusedVariables false
open Go Go.RowKit Go.Shelf Go.Proofs
theorem take_snoc {α : Type} [Inhabited α] {l : List α} {i : Nat} (h : i < l.length) : l.take i ++ [nth l i] = l.take (i + 1) := by rw [nth_eq h, List.take_append_getElem]
end Go.Proofs.YthfndghgfabbjaaA


/-
  From a law's arguments, slices among them, to abstract states.
-/
namespace Go.Proofs.YthfndghgfabbjaaA
set_option linter.unusedVariables false
open Go Go.RowKit Go.Shelf
/-- The places of the arguments' blocks. -/
def rhoOf (ls : List (Option Loc)) : Ren := fun b => match ls[b]? with | some (some l) => .at l | _ => .none
/-- A block of an argument, or none. -/
def ArgO (W : World) (ol : Option Loc) (o : AObj) : Prop :=
  (ol = none ∧ o = .none) ∨ ∃ lc vs, ol = some lc ∧ o = .cells false vs 1 ∧ lc.blk < W.heap.size ∧ ∀ ρ, ORel ρ lc W (.cells false vs 1)
def ArgOs (W : World) : List (Option Loc) → AHeap → Prop
  | [], [] => True
  | ol :: ls, o :: H => ArgO W ol o ∧ ArgOs W ls H
  | _, _ => False
theorem ArgOs.at {W : World} : ∀ {ls : List (Option Loc)} {H : AHeap}, ArgOs W ls H → ∀ (b : Nat) (ol : Option Loc), ls[b]? = some ol → ∃ o : AObj, H[b]? = some o ∧ ArgO W ol o
  | [], [], _, b, ol, h => by simp at h
  | [], _ :: _, h, _, _, _ => h.elim
  | _ :: _, [], h, _, _, _ => h.elim
  | x :: ls, o :: H, ⟨h1, h2⟩, b, ol, h => by
    cases b with
    | zero => simp at h; subst h; exact ⟨o, by simp, h1⟩
    | succ b => simpa using ArgOs.at h2 b ol (by simpa using h)
theorem ArgOs.at' {W : World} : ∀ {ls : List (Option Loc)} {H : AHeap}, ArgOs W ls H → ∀ (b : Nat) (o : AObj), H[b]? = some o → ∃ ol : Option Loc, ls[b]? = some ol ∧ ArgO W ol o
  | [], [], _, b, o, h => by simp at h
  | [], _ :: _, h, _, _, _ => h.elim
  | _ :: _, [], h, _, _, _ => h.elim
  | x :: ls, o' :: H, ⟨h1, h2⟩, b, o, h => by
    cases b with
    | zero => simp at h; subst h; exact ⟨x, by simp, h1⟩
    | succ b => simpa using ArgOs.at' h2 b o (by simpa using h)
theorem ArgOs.len {W : World} : ∀ {ls : List (Option Loc)} {H : AHeap}, ArgOs W ls H → ls.length = H.length
  | [], [], _ => rfl
  | [], _ :: _, h => h.elim
  | _ :: _, [], h => h.elim
  | x :: ls, o' :: H, ⟨h1, h2⟩ => by simp [ArgOs.len h2]
/-- A slice that came as an argument: its block, its value. -/
structure SArg {α : Type} (f : α → Value) (w : World) (v : Value) (l : List α) (b : Nat) (ol : Option Loc) (o : AObj) (va : Value) : Prop where
  obj : ArgO w ol o
  val : ∀ ρ : Ren, (∀ lc, ol = some lc → ρ b = .at lc) → VRel ρ va v
  sl : ∀ H : AHeap, H[b]? = some o → Sl f H va l
end Go.Proofs.YthfndghgfabbjaaA


/-
  Slices among a law's arguments, as the row's facts tell of them.
-/
namespace Go.Proofs.YthfndghgfabbjaaA
set_option linter.unusedVariables false
open Go Go.RowKit Go.Shelf Go.ChangeShapes
def RowF {α : Type} (f : α → Value) (w : World) (a : Option Addr) (len cap : Nat) (zs : List α) : Prop :=
  (a = none ∧ len = 0 ∧ cap = 0) ∨ ∃ x, a = some x ∧ x.spot = none ∧ len ≤ cap ∧ zs.length = cap ∧ (∃ cs T fr, w.heap[x.block]? = some (.cells cs T fr)) ∧ ∀ i (h : i < zs.length), w.cell? (x.add i) = some (f zs[i])
end Go.Proofs.YthfndghgfabbjaaA


/-
  A law's arguments, slices and slices of slices among them, as blocks.
-/
namespace Go.Proofs.YthfndghgfabbjaaA
set_option linter.unusedVariables false
open Go Go.RowKit Go.Shelf Go.ChangeShapes
def rhoP (ls : List Plc) : Ren := fun b => ls.getD b .none
def AtOff (ρ : Ren) (off : Nat) (ls : List Plc) : Prop := ∀ (i : Nat) (p : Plc), ls[i]? = some p → ρ (off + i) = p
def InH (H : AHeap) (off : Nat) (L : AHeap) : Prop := ∀ (i : Nat) (o : AObj), L[i]? = some o → H[off + i]? = some o
theorem AtOff.app {ρ : Ren} {off : Nat} {a b : List Plc} (h : AtOff ρ off (a ++ b)) : AtOff ρ off a ∧ AtOff ρ (off + a.length) b := by
  refine ⟨fun i p hi => h i p ?_, fun i p hi => ?_⟩
  · rw [List.getElem?_append_left (List.getElem?_eq_some_iff.1 hi).1]; exact hi
  · have := h (a.length + i) p (by rw [List.getElem?_append_right (by omega)]; simpa using hi)
    rw [Nat.add_assoc]; exact this
theorem InH.app {H : AHeap} {off : Nat} {a b : AHeap} (h : InH H off (a ++ b)) : InH H off a ∧ InH H (off + a.length) b := by
  refine ⟨fun i p hi => h i p ?_, fun i p hi => ?_⟩
  · rw [List.getElem?_append_left (List.getElem?_eq_some_iff.1 hi).1]; exact hi
  · have := h (a.length + i) p (by rw [List.getElem?_append_right (by omega)]; simpa using hi)
    rw [Nat.add_assoc]; exact this
theorem InH.refl (H : AHeap) : InH H 0 H := fun i o h => by rw [Nat.zero_add]; exact h
def ArgP (ρ : Ren) (w : World) (p : Plc) (o : AObj) : Prop :=
  (p = .none ∧ o = .none) ∨ (p = .null ∧ o = .null) ∨ ∃ lc vs sz, p = .at lc ∧ o = .cells false vs sz ∧ lc.blk < w.heap.size ∧ ORel ρ lc w (.cells false vs sz)
structure PArg (w : World) (v : Value) (off : Nat) (ls : List Plc) (L : AHeap) (va : Value) : Prop where
  len : ls.length = L.length
  obj : ∀ ρ : Ren, AtOff ρ off ls → ∀ (i : Nat) (p : Plc), ls[i]? = some p → ∃ o : AObj, L[i]? = some o ∧ ArgP ρ w p o
  val : ∀ ρ, AtOff ρ off ls → VRel ρ va v
inductive PAll (w : World) : Nat → List Value → List Plc → AHeap → List Value → Prop
  | nil (off : Nat) : PAll w off [] [] [] []
  | cons {off : Nat} {v va : Value} {vs vas : List Value} {ls ls' : List Plc} {L L' : AHeap} (h : PArg w v off ls L va) (k : PAll w (off + ls.length) vs ls' L' vas) : PAll w off (v :: vs) (ls ++ ls') (L ++ L') (va :: vas)
theorem PArg.scalar {w : World} {v : Value} (off : Nat) (h : Scalar v = true) : PArg w v off [] [] v := ⟨rfl, fun ρ _ i p h => by simp at h, fun ρ _ => .scalar h ρ⟩
theorem PAll.sum {w : World} : ∀ {off : Nat} {vs vas : List Value} {ls : List Plc} {L : AHeap}, PAll w off vs ls L vas → ls.length = L.length ∧ (∀ ρ : Ren, AtOff ρ off ls → (∀ (i : Nat) (p : Plc), ls[i]? = some p → ∃ o : AObj, L[i]? = some o ∧ ArgP ρ w p o) ∧ LRel ρ vas vs) := by
  intro off vs vas ls L h
  induction h with
  | nil off => exact ⟨rfl, fun ρ _ => ⟨fun i p h => by simp at h, .nil ρ⟩⟩
  | @cons off v va vs vas ls ls' L L' h k ih =>
    refine ⟨by rw [List.length_append, List.length_append, h.len, ih.1], fun ρ hρ => ?_⟩
    obtain ⟨h1, h2⟩ := hρ.app
    obtain ⟨h3, h4⟩ := ih.2 ρ h2
    refine ⟨fun i p hi => ?_, .cons (h.val ρ h1) h4⟩
    by_cases e : i < ls.length
    · rw [List.getElem?_append_left e] at hi
      obtain ⟨o, k1, k2⟩ := h.obj ρ h1 i p hi
      exact ⟨o, by rw [List.getElem?_append_left (by rw [← h.len]; exact e)]; exact k1, k2⟩
    · rw [List.getElem?_append_right (by omega)] at hi
      obtain ⟨o, k1, k2⟩ := h3 _ p hi
      exact ⟨o, by rw [List.getElem?_append_right (by rw [← h.len]; omega), ← h.len]; exact k1, k2⟩
theorem world_of_acallsP {P : Program} {f : FuncId} {args : List Value} {args' : Array Value} {H : AHeap} {ls : List Plc} {v : Value} {w : World} (hA : PAll w 0 args'.toList ls H args) (hv : Scalar v = true) (h : ACalls P f args H (Rets v H)) :
    Calls P f args' w fun e w' => e = .returned v ∧ Below w.heap.size w w' := by
  obtain ⟨hlen, hs⟩ := hA.sum
  have hat : AtOff (rhoP ls) 0 ls := fun i p hi => by
    rw [Nat.zero_add]; unfold rhoP; rw [List.getD_eq_getElem?_getD, hi]; rfl
  obtain ⟨hob, hval⟩ := hs _ hat
  have hrev : ∀ (b : Nat) (o : AObj), H[b]? = some o → ∃ p, ls[b]? = some p ∧ ArgP (rhoP ls) w p o := fun b o hb => by
    have hbl := (List.getElem?_eq_some_iff.1 hb).1
    obtain ⟨o', h1, h2⟩ := hob b _ (List.getElem?_eq_getElem (by rw [hlen]; exact hbl))
    rw [hb] at h1; cases h1
    exact ⟨_, List.getElem?_eq_getElem (by rw [hlen]; exact hbl), h2⟩
  have hget : ∀ b p, rhoP ls b = p → p ≠ .none → ls[b]? = some p := fun b p hb hn => by
    unfold rhoP at hb
    rw [List.getD_eq_getElem?_getD] at hb
    cases e : ls[b]? with
    | none => rw [e] at hb; exact absurd hb.symm hn
    | some q => rw [e] at hb; exact congrArg some hb
  have hnw : ∀ b l, rhoP ls b = .at l → ¬ wr H b := fun b l hb ⟨o, h1, h2⟩ => by
    obtain ⟨o', h3, h4⟩ := hob b _ (hget b _ hb (by simp))
    rw [h1] at h3; cases h3
    rcases h4 with ⟨h3, _⟩ | ⟨h3, _⟩ | ⟨lc, vs, sz, h3, rfl, _⟩
    · cases h3
    · cases h3
    · cases h2
  have hh : HRel (rhoP ls) H w := by
    refine ⟨fun b hb => ?_, fun b l hb => ?_, fun b c l m _ hb _ hw => absurd hw (hnw b l hb), fun g vs sz hg => ?_, fun b hb => ?_⟩
    · unfold rhoP
      rw [List.getD_eq_getElem?_getD, List.getElem?_eq_none (by rw [hlen]; exact hb)]; rfl
    · obtain ⟨o, h1, h2⟩ := hob b _ (hget b _ hb (by simp))
      rcases h2 with ⟨h3, _⟩ | ⟨h3, _⟩ | ⟨lc, vs, sz, h3, rfl, h4, h5⟩
      · cases h3
      · cases h3
      · cases h3; exact ⟨_, h1, h4, h5⟩
    · obtain ⟨p, _, h3⟩ := hrev g _ hg
      rcases h3 with ⟨_, h3⟩ | ⟨_, h3⟩ | ⟨lc, vs, sz, _, h3, _⟩ <;> cases h3
    · obtain ⟨o, h1, h2⟩ := hob b _ (hget b _ hb (by simp))
      rcases h2 with ⟨h3, _⟩ | ⟨h3, _⟩ | ⟨lc, vs, sz, h3, _⟩ <;> cases h3
  refine (h _ w args' hh hval).mono ?_
  rintro e w' ⟨v1, v', H', ρ', rfl, ⟨rfl, rfl⟩, k1, k2, k3, k4⟩
  rw [k1.scalar_eq hv]
  exact ⟨rfl, k3.os, k3.tape, k3.output, k3.size, fun k hk => k3.keep k hk fun ⟨b, l, hb, _, hw⟩ => hnw b l hb hw⟩
/-! ### Slices that came in -/
/-- A slice in the world: its elements, of one cell each. -/
def SlC {α : Type} (f : α → Value) (w : World) (u : Value) (r : List α) : Prop :=
  (u = .slice none 0 0 ∧ r = []) ∨ ∃ x l c, u = .slice (some x) l c ∧ l ≤ c ∧ r.length = l ∧ (c = 0 ∨ (x.spot = none ∧ ∃ cs T fr, w.heap[x.block]? = some (.cells cs T fr) ∧ x.off + c ≤ cs.size ∧ ∀ i (h : i < r.length), cs[x.off + i]? = some (f r[i])))
theorem AtOff.one {ρ : Ren} {off : Nat} {p : Plc} (h : AtOff ρ off [p]) : ρ off = p := h 0 p rfl
theorem parg_one {w : World} {v va : Value} {off : Nat} {p : Plc} {o : AObj} (h1 : ∀ ρ, ρ off = p → ArgP ρ w p o) (h2 : ∀ ρ, ρ off = p → VRel ρ va v) : PArg w v off [p] [o] va :=
  ⟨rfl, fun ρ hρ i q hi => by
    cases i with
    | zero => simp at hi; subst hi; exact ⟨o, rfl, h1 ρ hρ.one⟩
    | succ i => simp at hi, fun ρ hρ => h2 ρ hρ.one⟩
/-- A slice of slices. -/
structure Sl2C {α : Type} (f : α → Value) (w : World) (u : Value) (us : List Value) (rs : List (List α)) : Prop where
  out : SlC (fun v : Value => v) w u us
  len : us.length = rs.length
  row : ∀ i (h : i < us.length), SlC f w us[i] (nth rs i)
/-! ### From the row's facts -/
theorem addr_at {x : Addr} (hsp : x.spot = none) (i : Nat) : x.add i = ⟨x.block, x.off + i, none⟩ := by
  have hx : x = ⟨x.block, x.off, none⟩ := by cases x; simp at hsp; subst hsp; rfl
  rw [hx]
  unfold Addr.add
  split
  · subst i; rfl
  · rfl
theorem cell_some {w : World} {a : Addr} {v : Value} (h : w.cell? a = some v) : a.spot = none ∧ ∃ cs T fr, w.heap[a.block]? = some (.cells cs T fr) ∧ cs[a.off]? = some v := by
  unfold World.cell? at h
  split at h
  · rename_i c T fr hb
    split at h
    · cases h
    · rename_i hs
      exact ⟨by simpa using hs, c, T, fr, hb, h⟩
  · cases h
/-! ### Arrays that came in -/
end Go.Proofs.YthfndghgfabbjaaA


/-
  A law's arguments: slices whose elements are structs or arrays, and arrays of numbers.
-/
namespace Go.Proofs.YthfndghgfabbjaaA
set_option linter.unusedVariables false
open Go Go.RowKit Go.Shelf Go.ChangeShapes Go.WideShapes
section
variable {α : Type} [Inhabited α] {f : α → List Value} {m : Nat}
def SlCm (f : α → List Value) (m : Nat) (w : World) (u : Value) (r : List α) : Prop :=
  (u = .slice none 0 0 ∧ r = []) ∨ ∃ x l c, u = .slice (some x) l c ∧ l ≤ c ∧ r.length = l ∧ (c = 0 ∨ (x.spot = none ∧ ∃ cs T fr, w.heap[x.block]? = some (.cells cs T fr) ∧ x.off + c * m ≤ cs.size ∧ ∀ i (h : i < r.length), ∀ j, j < m → cs[x.off + i * m + j]? = (f (nth r i))[j]?))
theorem parg_rowm (hw : Wm f m) (hm : 0 < m) (hf : ∀ x, ∀ u ∈ f x, Scalar u = true) {w : World} {u : Value} {r : List α} (h : SlCm f m w u r) (off : Nat) : ∃ p o va, PArg w u off [p] [o] va ∧ ∀ H, InH H off [o] → SlS f m H va r := by
  rcases h with ⟨rfl, rfl⟩ | ⟨x, l, c, rfl, hl, hr, h⟩
  · exact ⟨.none, .none, .slice none 0 0, parg_one (fun ρ _ => .inl ⟨rfl, rfl⟩) (fun ρ _ => .nilSlice), fun H _ => .nil⟩
  · by_cases h0 : c = 0
    · subst h0
      obtain rfl : l = 0 := by omega
      obtain rfl : r = [] := List.length_eq_zero_iff.1 hr
      exact ⟨.null, .null, .slice (some ⟨off, 0, none⟩) 0 0, parg_one (fun ρ _ => .inr (.inl ⟨rfl, rfl⟩)) (fun ρ h => .empty h), fun H hH => .inr ⟨off, 0, 0, [], rfl, .inr (.inr ⟨hH 0 _ rfl, rfl⟩), by simp, by simp, by simp [fl]⟩⟩
    · obtain ⟨hsp, cs, T, fr, hb, hsz, hc⟩ := h.resolve_left h0
      have hlt : x.block < w.heap.size := (Array.getElem?_eq_some_iff.1 hb).1
      have hx : x = ⟨x.block, x.off, none⟩ := by cases x; simp at hsp; subst hsp; rfl
      have hlen : (fl f r).length = l * m := by rw [fl_len hw, hr]
      have hlm : l * m ≤ c * m := Nat.mul_le_mul_right m hl
      refine ⟨.at ⟨x.block, x.off, x.off + c * m, m⟩, .cells false (fl f r) m, .slice (some ⟨off, 0, none⟩) l c, parg_one (fun ρ hρ => .inr (.inr ⟨_, _, _, rfl, rfl, hlt, rfl, cs, T, fr, hb, by rw [hlen]; show x.off + l * m ≤ x.off + c * m; omega, hsz, fun i hi => ?_, fun h => by cases h⟩)) (fun ρ hρ => ?_), fun H hH => ?_⟩
      · have hi1 : i < l * m := by rw [← hlen]; exact hi
        have hq : i / m < r.length := by rw [hr]; exact Nat.div_lt_of_lt_mul (by rw [Nat.mul_comm]; exact hi1)
        have hj : i % m < m := Nat.mod_lt _ hm
        have hij : i / m * m + i % m = i := by rw [Nat.mul_comm]; exact Nat.div_add_mod i m
        have h1 := hc (i / m) hq (i % m) hj
        have h2 := fl_get hw hq hj
        rw [hij] at h2
        rw [show x.off + i / m * m + i % m = x.off + i by omega, ← h2] at h1
        have h3 : (fl f r)[i]? = some (fl f r)[i] := List.getElem?_eq_getElem hi
        rw [h3] at h1
        show VRel ρ ((fl f r).getD i undef) (cs.getD (x.off + i) undef)
        rw [List.getD_eq_getElem?_getD, h3, Array.getD_eq_getD_getElem?, h1]
        have hmem : (fl f r)[i] ∈ fl f r := List.getElem_mem hi
        obtain ⟨y, _, hy⟩ := List.mem_flatMap.1 hmem
        exact .scalar (hf y _ hy) ρ
      · rw [hx]
        exact .slice hρ hl (Nat.le_refl _) (.inl rfl) (by show x.off + 0 + c * m ≤ x.off + c * m; omega)
      · exact .inr ⟨off, 0, c, fl f r, by rw [hr], .inl ⟨false, hH 0 _ rfl⟩, by rw [hlen, hr]; omega, by omega, by rw [List.drop_zero, List.take_of_length_le (by rw [hlen, hr]; exact Nat.le_refl _)]⟩
def ElemOk (P : Program) (e : TypeId) (f : α → List Value) (ok : α → Prop) : Prop := ∀ (H : Type) (enc : TypeId × Value → H) (w : World) (base fuel : Nat) (cs : List Value) (x : DataW H × List MemPlace), DataW.trod enc P w base (fun _ => true) true fuel e cs = some x → ∃ a, cs = f a ∧ ok a
theorem trod_elems {H : Type} {enc : TypeId × Value → H} {P : Program} {w : World} {base fuel : Nat} {t e : TypeId} {u : Value} {x : DataW H × List MemPlace} {ok : α → Prop} (ht : P.underlying t = some (.slice e)) (hc : P.cellsOf e = m) (hm : 0 < m) (hw : Wm f m) (hE : ElemOk P e f ok)
    (h : DataW.trod enc P w base (fun _ => true) true fuel t [u] = some x) : ∃ r, SlCm f m w u r ∧ ∀ a ∈ r, ok a := by
  rcases Go.Deep.open_slice ht h with ⟨hcs, _⟩ | ⟨a, l, c, mm, n, D, Pl, hcs, hb, hl, hmx, hmm, _, hx⟩
  · simp at hcs; subst hcs
    exact ⟨[], .inl ⟨rfl, rfl⟩, by simp⟩
  · simp at hcs; subst hcs
    simp at hmm
    subst hmm
    rw [hc] at hx
    have hex : ∀ i : Nat, ∃ g : α, i < mm → ok g ∧ ∀ j, j < m → w.cell? (a.add (i * m + j)) = (f g)[j]? := fun i => by
      by_cases hi : i < mm
      · obtain ⟨cs', h1, h2⟩ := hx i hi
        obtain ⟨g, rfl, hg⟩ := hE _ _ _ _ _ _ _ h2
        obtain ⟨_, _, hcell⟩ := World.cells?_some h1
        exact ⟨g, fun _ => ⟨hg, fun j hj => by have := hcell j hj; rwa [Go.Deep.add_add] at this⟩⟩
      · exact ⟨default, fun h => absurd h hi⟩
    obtain ⟨g, hg⟩ : ∃ g : Nat → α, ∀ i, i < mm → ok (g i) ∧ ∀ j, j < m → w.cell? (a.add (i * m + j)) = (f (g i))[j]? := ⟨fun i => (hex i).choose, fun i => (hex i).choose_spec⟩
    refine ⟨(List.range l).map g, .inr ⟨a, l, mm, rfl, hl, by simp, ?_⟩, fun b hb' => ?_⟩
    · by_cases h0 : mm = 0
      · exact .inl h0
      · right
        have some' : ∀ i j, i < mm → j < m → ∃ v, w.cell? (a.add (i * m + j)) = some v := fun i j hi hj => by
          rw [(hg i hi).2 j hj]; exact ⟨_, List.getElem?_eq_getElem (by rw [hw]; exact hj)⟩
        obtain ⟨v0, h1⟩ := some' 0 0 (by omega) hm
        have e0 : a.add (0 * m + 0) = a := by rw [Nat.zero_mul]; unfold Addr.add; rw [if_pos rfl]
        rw [e0] at h1
        obtain ⟨hsp, cs, T, fr, hbk, _⟩ := cell_some h1
        have at' : ∀ i v, w.cell? (a.add i) = some v → cs[a.off + i]? = some v := fun i v h => by
          rw [addr_at hsp] at h
          obtain ⟨_, cs', T', fr', hb', h2⟩ := cell_some h
          simp only at hb' h2
          rw [hbk] at hb'; cases hb'
          exact h2
        refine ⟨hsp, cs, T, fr, hbk, ?_, fun i h j hj => ?_⟩
        · obtain ⟨v, h2⟩ := some' (mm - 1) (m - 1) (by omega) (by omega)
          have h3 := (Array.getElem?_eq_some_iff.1 (at' _ _ h2)).1
          have h4 : (mm - 1) * m + m = mm * m := by
            conv => rhs; rw [show mm = (mm - 1) + 1 by omega, Nat.add_mul, Nat.one_mul]
          omega
        · have hil : i < l := by simpa using h
          obtain ⟨v, h2⟩ := some' i j (by omega) hj
          have h3 := at' _ _ h2
          rw [(hg i (by omega)).2 j hj] at h2
          rw [Nat.add_assoc, h3, nth_eq (by simpa using hil)]
          simp only [List.getElem_map, List.getElem_range]
          exact h2.symm
    · obtain ⟨i, hi, rfl⟩ := List.mem_map.1 hb'
      exact (hg i (by have := List.mem_range.1 hi; omega)).1
end
section
variable {H : Type} {enc : TypeId × Value → H} {P : Program} {w : World} {base fuel : Nat} {t e : TypeId} {cs : List Value} {x : DataW H × List MemPlace}
theorem take1 {o : Nat} {v : Value} (h : (cs.drop o).take 1 = [v]) : cs[o]? = some v := by
  have h1 : ((cs.drop o).take 1)[0]? = some v := by rw [h]; rfl
  rw [List.getElem?_take, if_pos (by decide), List.getElem?_drop] at h1
  exact h1
theorem trod_len {fs : Array Field} (hs : P.underlying e = some (.struct fs)) (h : DataW.trod enc P w base (fun _ => true) true fuel e cs = some x) : cs.length = P.cellsOf e := by
  obtain ⟨_, _, _, _, hl, _⟩ := DataW.trod_struct hs h
  exact hl
theorem fld {fs : Array Field} (hs : P.underlying e = some (.struct fs)) (h : DataW.trod enc P w base (fun _ => true) true fuel e cs = some x) {i : Nat} {fd : Field} (hi : fs[i]? = some fd) : ∃ n y, DataW.trod enc P w base (fun _ => true) true n fd.type ((cs.drop fd.offset).take (P.cellsOf fd.type)) = some y := by
  obtain ⟨xs, n, _, _, _, hl, hx⟩ := DataW.trod_struct hs h
  have h1 := hx i fd hi
  have h2 := (Array.getElem?_eq_some_iff.1 hi).1
  rw [List.getElem?_eq_getElem (by omega)] at h1
  exact ⟨n, _, h1⟩
theorem fld_int {fs : Array Field} {k : IntKind} (hs : P.underlying e = some (.struct fs)) (h : DataW.trod enc P w base (fun _ => true) true fuel e cs = some x) {i : Nat} {fd : Field} (hi : fs[i]? = some fd) (hc : P.cellsOf fd.type = 1) (hu : P.underlying fd.type = some (.int k)) : ∃ n : Int, cs[fd.offset]? = some (.int k n) ∧ (Lit.int k n).wf = true := by
  obtain ⟨n, y, h1⟩ := fld hs h hi
  rw [hc] at h1
  obtain ⟨z, e1, _, hw⟩ := DataW.trod_int hu h1
  exact ⟨z, take1 e1, hw⟩
theorem nat_of_u64 {n : Int} (hw : (Lit.int .u64 n).wf = true) : ∃ k : Nat, n = (k : Int) ∧ k < 18446744073709551616 := by
  simp [Lit.wf, IntKind.min, IntKind.max, IntKind.signed, IntKind.bits] at hw
  exact ⟨n.toNat, by omega, by omega⟩
theorem fld_u64 {fs : Array Field} (hs : P.underlying e = some (.struct fs)) (h : DataW.trod enc P w base (fun _ => true) true fuel e cs = some x) {i : Nat} {fd : Field} (hi : fs[i]? = some fd) (hc : P.cellsOf fd.type = 1) (hu : P.underlying fd.type = some (.int .u64)) : ∃ n : Nat, cs[fd.offset]? = some (.int .u64 ((n : Nat) : Int)) ∧ n < 18446744073709551616 := by
  obtain ⟨z, h1, hw⟩ := fld_int hs h hi hc hu
  obtain ⟨k, rfl, hk⟩ := nat_of_u64 hw
  exact ⟨k, h1, hk⟩
end
end Go.Proofs.YthfndghgfabbjaaA


/-
  Walks of functions of the given program, and what they compute.
-/
namespace Go.Proofs.YthfndghgfabbjaaA
set_option linter.unusedVariables false
open Go Go.RowKit Go.Shelf Go.Proofs
theorem elem_entc : ElemOk Try.prog 28 entc EntW := fun H enc w base fuel cs x h => by
  obtain ⟨n0, g0, b0⟩ := fld_u64 Try.underlying28 h (i := 0) rfl (by kernel_rfl) Try.underlying25
  obtain ⟨n1, g1, b1⟩ := fld_u64 Try.underlying28 h (i := 1) rfl (by kernel_rfl) Try.underlying25
  have hl : cs.length = 2 := (trod_len Try.underlying28 h).trans (by kernel_rfl)
  match cs, hl with
  | [c0, c1], _ =>
    obtain rfl : c0 = _ := Option.some.inj g0
    obtain rfl : c1 = _ := Option.some.inj g1
    exact ⟨(n0, n1), rfl, ⟨b0, b1⟩⟩

end Go.Proofs.YthfndghgfabbjaaA

