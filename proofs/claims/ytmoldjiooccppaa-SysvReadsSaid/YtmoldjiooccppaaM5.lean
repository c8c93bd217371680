/-
  Walks over abstract states: texts of one claim, merged.
-/
import Derived.Test.YtmoldjiooccppaaM4
import Derived.Test.YtmoldjiooccppaaProg
import Derived.KernelRfl
/-
  Walks of functions of the given program, and what they compute.
-/
namespace Go.Proofs.YtmoldjiooccppaaA
set_option linter.unusedVariables false
open Go Go.RowKit Go.Shelf Go.Proofs
end Go.Proofs.YtmoldjiooccppaaA


/-
  Walks of functions of the given program, and what they compute.
-/
namespace Go.Proofs.YtmoldjiooccppaaA
set_option linter.unusedVariables false
open Go Go.RowKit Go.Shelf Go.Proofs
def chkO (B C : List Nat) (names : List ByteArray) : Option Nat := (List.range (min C.length names.length)).find? fun i => decide (1 ≤ i ∧ i ∉ walkL B C (nth names i))
def chkV : Option Nat → Value
  | none => .tuple #[.int .i64 0, .bool true]
  | some i => .tuple #[.int .i64 ((i : Nat) : Int), .bool false]
end Go.Proofs.YtmoldjiooccppaaA


/-
  Walks of functions of the given program, and what they compute.
-/
namespace Go.Proofs.YtmoldjiooccppaaA
set_option linter.unusedVariables false
open Go Go.RowKit Go.Shelf Go.Proofs
def vN (B : ByteArray) (i : Nat) : Nat := getB (B.extract (8 + 4 * i) (12 + 4 * i))
def allL (B : ByteArray) (k : Nat) : List Nat := (List.range k).map (vN B)
theorem allL_len (B : ByteArray) (k : Nat) : (allL B k).length = k := by simp [allL]
theorem allL_nth {B : ByteArray} {k i : Nat} (h : i < k) : nth (allL B k) i = vN B i := by rw [nth_eq (by rw [allL_len]; exact h)]; simp [allL]
theorem allL_succ (B : ByteArray) (k : Nat) : allL B k ++ [vN B k] = allL B (k + 1) := by simp [allL, List.range_succ]
theorem vN_lt (B : ByteArray) (i : Nat) : vN B i < 4294967296 := getB_lt (k := 4) (by rw [ByteArray.size_extract]; omega)
theorem num_all {B : ByteArray} {k : Nat} (h : 8 + k * 4 ≤ B.size) : numL (partV B 8 (k * 4)) = allL B k := by
  rw [partV_in h]
  unfold numL numN allL
  have hs : (B.extract 8 (8 + k * 4)).size / 4 = k := by rw [size_extract h]; omega
  rw [hs]
  refine List.map_congr_left fun i hi => ?_
  have hi := List.mem_range.1 hi
  unfold vN
  rw [ByteArray.extract_extract]
  congr 2 <;> omega
def nmS (B : ByteArray) : Nat := atV B 0 4 + atV B 4 4
def badV (B : ByteArray) (i : Nat) : Bool := decide (vN B i ≠ 0 ∧ atV B 4 4 ≤ vN B i)
def firstV (B : ByteArray) (n : Nat) : Nat := ((List.range n).find? (badV B)).getD n
theorem firstV_yes {B : ByteArray} {n i : Nat} (hi : i < n) (h : badV B i = true) (hn : ∀ j, j < i → badV B j = false) : firstV B n = i := by
  have : (List.range n).find? (badV B) = some i := by
    rw [List.find?_range_eq_some]
    exact ⟨h, List.mem_range.2 hi, fun j hj => by rw [hn j hj]; rfl⟩
  unfold firstV; rw [this]; rfl
theorem firstV_no {B : ByteArray} {n : Nat} (hn : ∀ j, j < n → badV B j = false) : firstV B n = n := by
  have : (List.range n).find? (badV B) = none := by
    rw [List.find?_range_eq_none]
    exact fun j hj => by rw [hn j hj]; rfl
  unfold firstV; rw [this]; rfl
def syC (B : ByteArray) : Nat := if B.size < 8 then 2 else if atV B 0 4 = 0 then 4 else if 256 < atV B 0 4 ∨ 256 < atV B 4 4 then 6 else if ¬ (8 + nmS B * 4 ≤ B.size) then 2 else if firstV B (nmS B) < nmS B then 5 else 0
def syA (B : ByteArray) : Nat := if syC B = 5 then 8 + 4 * firstV B (nmS B) else 0
section
variable {B : ByteArray}
theorem sy_short (h : B.size < 8) : syC B = 2 ∧ syA B = 0 := by
  have e : syC B = 2 := by unfold syC; rw [if_pos h]
  exact ⟨e, by unfold syA; rw [e]; rfl⟩
theorem sy_zero (h1 : ¬ B.size < 8) (h : atV B 0 4 = 0) : syC B = 4 ∧ syA B = 0 := by
  have e : syC B = 4 := by unfold syC; rw [if_neg h1, if_pos h]
  exact ⟨e, by unfold syA; rw [e]; rfl⟩
theorem sy_many (h1 : ¬ B.size < 8) (h2 : atV B 0 4 ≠ 0) (h : 256 < atV B 0 4 ∨ 256 < atV B 4 4) : syC B = 6 ∧ syA B = 0 := by
  have e : syC B = 6 := by unfold syC; rw [if_neg h1, if_neg h2, if_pos h]
  exact ⟨e, by unfold syA; rw [e]; rfl⟩
theorem sy_out (h1 : ¬ B.size < 8) (h2 : atV B 0 4 ≠ 0) (h3 : ¬ (256 < atV B 0 4 ∨ 256 < atV B 4 4)) (h : ¬ (8 + nmS B * 4 ≤ B.size)) : syC B = 2 ∧ syA B = 0 := by
  have e : syC B = 2 := by unfold syC; rw [if_neg h1, if_neg h2, if_neg h3, if_pos h]
  exact ⟨e, by unfold syA; rw [e]; rfl⟩
theorem sy_bad (h1 : ¬ B.size < 8) (h2 : atV B 0 4 ≠ 0) (h3 : ¬ (256 < atV B 0 4 ∨ 256 < atV B 4 4)) (h4 : 8 + nmS B * 4 ≤ B.size) {i : Nat} (hi : i < nmS B) (h : badV B i = true) (hn : ∀ j, j < i → badV B j = false) : syC B = 5 ∧ syA B = 8 + 4 * i := by
  have ef := firstV_yes hi h hn
  have e : syC B = 5 := by unfold syC; rw [if_neg h1, if_neg h2, if_neg h3, if_neg (fun h => h h4), ef, if_pos hi]
  exact ⟨e, by unfold syA; rw [e, ef]; rfl⟩
theorem sy_good (h1 : ¬ B.size < 8) (h2 : atV B 0 4 ≠ 0) (h3 : ¬ (256 < atV B 0 4 ∨ 256 < atV B 4 4)) (h4 : 8 + nmS B * 4 ≤ B.size) (hn : ∀ j, j < nmS B → badV B j = false) : syC B = 0 ∧ syA B = 0 := by
  have e : syC B = 0 := by unfold syC; rw [if_neg h1, if_neg h2, if_neg h3, if_neg (fun h => h h4), firstV_no hn, if_neg (Nat.lt_irrefl _)]
  exact ⟨e, by unfold syA; rw [e]; rfl⟩
theorem sy_yes (h : syC B = 0) : 8 ≤ B.size ∧ atV B 0 4 ≠ 0 ∧ atV B 0 4 ≤ 256 ∧ atV B 4 4 ≤ 256 ∧ 8 + nmS B * 4 ≤ B.size := by
  unfold syC at h
  split at h; · cases h
  split at h; · cases h
  split at h; · cases h
  split at h; · cases h
  rename_i h1 h2 h3 h4
  exact ⟨by omega, h2, by omega, by omega, Decidable.of_not_not h4⟩
end
theorem badV_y {B : ByteArray} {i : Nat} (h1 : vN B i ≠ 0) (h2 : atV B 4 4 ≤ vN B i) : badV B i = true := decide_eq_true ⟨h1, h2⟩
theorem badV_n {B : ByteArray} {i : Nat} (h : ¬ (vN B i ≠ 0 ∧ atV B 4 4 ≤ vN B i)) : badV B i = false := decide_eq_false h
theorem lt_succ_casesN {p : Nat → Prop} {i : Nat} (h : ∀ j, j < i → p j) (hi : p i) : ∀ j, j < i + 1 → p j := fun j hj => by
  by_cases e : j = i
  · subst e; exact hi
  · exact h j (by omega)
theorem sl_part {α : Type} {f : α → Value} {H : AHeap} {b : Nat} {L : List α} (hR : Rd H b (L.map f) 1) {j n c : Nat} (hj : j + n ≤ L.length) (hc : n ≤ c) : Sl f H (.slice (some ⟨b, j, none⟩) n c) ((L.drop j).take n) := by
  have e : ((L.drop j).take n).length = n := by rw [List.length_take, List.length_drop]; omega
  refine .inr ⟨b, j, c, L.map f, by rw [e], hR, by rw [e, List.length_map]; omega, by rw [e]; exact hc, fun i h => ?_⟩
  rw [e] at h
  simp [show j + i < L.length by omega, List.getElem_take]
/-- A table's bytes. -/
def bytL (l : List Nat) : List UInt8 := l.flatMap fun x => putL x 4
theorem bytL_app (l m : List Nat) : bytL (l ++ m) = bytL l ++ bytL m := by simp [bytL]
theorem bytL_one (x : Nat) : bytL [x] = putL x 4 := by simp [bytL]
theorem bytL_len (l : List Nat) : (bytL l).length = 4 * l.length := by
  induction l with
  | nil => rfl
  | cons x l ih => rw [show x :: l = [x] ++ l from rfl, bytL_app, bytL_one, List.length_append, putL_length, ih, List.length_append]; show 4 + _ = 4 * (1 + _); omega
def putT (X Y : List Nat) : ByteArray := ⟨(putL X.length 4 ++ putL Y.length 4 ++ bytL (X ++ Y)).toArray⟩
def seli {α : Type} (a b : α) (j : Nat) : α := if j = 0 then a else b
theorem bl_put2 (a b : Nat) : (putB a 4 ++ putB b 4).data.toList = putL a 4 ++ putL b 4 := by
  have := bl_append (putB a 4) (putB b 4)
  rw [bl_putB, bl_putB] at this; exact this
theorem take_snocN {l : List Nat} {i : Nat} (h : i < l.length) : l.take i ++ [nth l i] = l.take (i + 1) := by rw [nth_eq h, List.take_append_getElem]
set_option maxRecDepth 100000 in
set_option maxHeartbeats 4000000 in
theorem same_ok {H0 : AHeap} (va vb : Value) (l : List Nat) (ha : Sl u32v H0 va l) (hb : Sl u32v H0 vb l) (hl : l.length ≤ 1000000) : ACalls Try.prog 17 [va, vb] H0 (Rets (.bool true) H0) := by
  have hF : Wd Fence.wide := .inl rfl
  have hM : Try.prog.follows .mixedOrders = true := by kernel_rfl
  have s0 := St.begin H0
  refine acalls_st Try.func17 rfl Try.ntmps17 rfl ?_
  refine awp_seq ?_
  refine awp_regs hF ?_
  refine dv (gyes_none rfl) (q_as (v := .bool false) rfl) rfl (by decide) (cok1 (cconst rfl)) ?_
  refine ⟨_, Wk.refl _ _, ?_⟩
  show awp _ _ _ _ _ _ _
  refine awp_seq ?_
  refine awp_seq ?_
  refine awp_regs hF ?_
  refine dv (gyes_none rfl) (q_mv (v := va) rfl) rfl (by decide) (cok1 trivial) ?_
  refine dv (gyes_none rfl) (q_len_sl (l := l) Try.underlying24 (s0.sl ha) rfl) rfl (by decide) (cok1 trivial) ?_
  refine dv (gyes_none rfl) (q_mv (v := vb) rfl) rfl (by decide) (cok1 trivial) ?_
  refine dv (gyes_none rfl) (q_len_sl (l := l) Try.underlying24 (s0.sl hb) rfl) rfl (by decide) (cok1 trivial) ?_
  refine dv (gyes_none rfl) (OpQ.cast (v' := .bool false) (q_int rfl rfl rfl) (congrArg Value.bool (bne_self_eq_false _))) rfl (by decide) (cok2 trivial trivial) ?_
  refine ⟨_, Wk.refl _ _, ?_⟩
  show awp _ _ _ _ _ _ _
  refine awp_cond_f rfl ?_
  refine awp_skip_wk ?_
  refine ⟨_, Wk.refl _ _, ?_⟩
  show awp _ _ _ _ _ _ _
  refine awp_seq ?_
  refine awp_seq ?_
  refine awp_regs hF ?_
  refine dv (gyes_none rfl) (q_as (v := .int .i64 0) rfl) rfl (by decide) (cok1 (cconst rfl)) ?_
  refine ⟨_, Wk.refl _ _, ?_⟩
  show awp _ _ _ _ _ _ _
  refine awp_block ?_
  refine awp_wk (Wk.U [(0, va), (1, vb), (5, .int .i64 0)] ⟨rfl, rfl, rfl, trivial⟩) ?_
  refine awp_loop (fun (i : Nat) st => ∃ (H1 : AHeap), st = ⟨26, U [(0, va), (1, vb), (5, .int .i64 ((i : Nat) : Int))], [], H1⟩ ∧ St H0 (none0) (Rd H0) H1 []) (fun (i : Nat) => l.length - i) (x0 := (0)) ?h0 ?round
  case h0 =>
    exact ⟨_, rfl, s0⟩
  case round =>
    rintro i _ ⟨H1, rfl, s2⟩
    refine awp_seq ?_
    refine awp_seq ?_
    refine awp_regs hF ?_
    refine dv (gyes_none rfl) (q_mv (v := .int .i64 ((i : Nat) : Int)) rfl) rfl (by decide) (cok1 trivial) ?_
    refine dv (gyes_none rfl) (q_mv (v := va) rfl) rfl (by decide) (cok1 trivial) ?_
    refine dv (gyes_none rfl) (q_len_sl (l := l) Try.underlying24 (s2.sl ha) rfl) rfl (by decide) (cok1 trivial) ?_
    refine dvb (gyes_none rfl) (q_int rfl rfl rfl) rfl (by decide) (cok2 trivial trivial) (fun c1 => ?_) (fun c1 => ?_)
    ·
      replace c1 := of_decide_eq_true c1
      refine ⟨_, Wk.refl _ _, ?_⟩
      show awp _ _ _ _ _ _ _
      refine awp_cond_t rfl ?_
      refine awp_skip_wk ?_
      refine ⟨_, Wk.refl _ _, ?_⟩
      show awp _ _ _ _ _ _ _
      refine awp_seq ?_
      refine awp_block ?_
      refine awp_seq ?_
      refine awp_regt hF hM (by kernel_rfl) (by kernel_rfl) ?_
      refine dv (gyes_none rfl) (q_mv (v := va) rfl) rfl (by decide) (cok1 trivial) ?_
      refine dv (gyes_none rfl) (q_mv (v := .int .i64 ((i : Nat) : Int)) rfl) rfl (by decide) (cok1 trivial) ?_
      refine dv (gyes_none rfl) (q_index_sl (l := l) (i := i) Try.underlying24 Try.sizeOf31 (s2.sl ha) rfl rfl (by omega)) rfl (by decide) (cok2 trivial trivial) ?_
      refine dv (gyes_none rfl) (q_load_sl (l := l) (i := i) Try.isAgg31 (s2.sl ha) rfl (by omega)) rfl (by decide) (cok1 trivial) ?_
      refine dv (gyes_none rfl) (q_mv (v := vb) rfl) rfl (by decide) (cok1 trivial) ?_
      refine dv (gyes_none rfl) (q_mv (v := .int .i64 ((i : Nat) : Int)) rfl) rfl (by decide) (cok1 trivial) ?_
      refine dv (gyes_none rfl) (q_index_sl (l := l) (i := i) Try.underlying24 Try.sizeOf31 (s2.sl hb) rfl rfl (by omega)) rfl (by decide) (cok2 trivial trivial) ?_
      refine dv (gyes_none rfl) (q_load_sl (l := l) (i := i) Try.isAgg31 (s2.sl hb) rfl (by omega)) rfl (by decide) (cok1 trivial) ?_
      refine dv (gyes_none rfl) (OpQ.cast (v' := .bool false) (q_int rfl rfl rfl) (congrArg Value.bool (bne_self_eq_false _))) rfl (by decide) (cok2 trivial trivial) ?_
      refine ⟨_, Wk.refl _ _, ?_⟩
      show awp _ _ _ _ _ _ _
      refine awp_cond_f rfl ?_
      refine awp_skip_wk ?_
      refine ⟨_, Wk.refl _ _, ?_⟩
      show awp _ _ _ _ _ _ _
      refine awp_regs hF ?_
      refine dv (gyes_none rfl) (q_mv (v := .int .i64 ((i : Nat) : Int)) rfl) rfl (by decide) (cok1 trivial) ?_
      refine dv (gyes_none rfl) (OpQ.cast (v' := .int .i64 ((i + 1 : Nat) : Int)) (q_int rfl rfl rfl) (congrArg _ ((i64_in (by omega)).trans (by first | rfl | omega | (push_cast; rfl))))) rfl (by decide) (cok2 trivial (cconst rfl)) ?_
      refine dv (gyes_none rfl) (q_as (v := .int .i64 ((i + 1 : Nat) : Int)) rfl) rfl (by decide) (cok1 trivial) ?_
      refine ⟨_, Wk.U [(0, va), (1, vb), (5, .int .i64 (((i + 1) : Nat) : Int))] ⟨rfl, rfl, rfl, trivial⟩, (i + 1), ⟨_, rfl, s2⟩, (by omega)⟩
    ·
      replace c1 := of_decide_eq_false c1
      refine ⟨_, Wk.refl _ _, ?_⟩
      show awp _ _ _ _ _ _ _
      refine awp_cond_f rfl ?_
      refine awp_exit_wk ?_
      refine ⟨_, Wk.refl _ _, ?_⟩
      show awp _ _ _ _ _ _ _
      refine awp_seq ?_
      refine awp_regs hF ?_
      refine dv (gyes_none rfl) (q_as (v := .bool true) rfl) rfl (by decide) (cok1 (cconst rfl)) ?_
      refine ⟨_, Wk.refl _ _, ?_⟩
      show awp _ _ _ _ _ _ _
      refine awp_ret_wk ?_
      refine ⟨_, Wk.refl _ _, ?_⟩
      repeat (with_reducible first | refine then_ret ?_ | refine blk_ret ?_ | refine then_exit ?_ | refine blk_exit ?_ | refine blk_exit' (by decide) ?_ | refine blk_normal ?_ | refine then_normal ?_ | refine retq_ret ?_ | refine retq_normal ?_ | refine ng_normal ?_ | refine ng_ret ?_ | refine ng_exit ?_)
      exact ret_none (v := .bool true) rfl s2.kp (.tmp rfl .nil) rfl rfl ⟨rfl, rfl⟩
theorem nthS_mem {α : Type} [Inhabited α] {l : List α} {k : Nat} (h : k < l.length) : nth l k ∈ l := by rw [nth_eq h]; exact List.getElem_mem h
set_option maxRecDepth 100000 in
set_option maxHeartbeats 4000000 in
theorem tput_ok {H0 : AHeap} (va vb : Value) (X Y : List Nat) (ha : Sl u32v H0 va X) (hb : Sl u32v H0 vb Y) (hXl : X.length ≤ 256) (hYl : Y.length ≤ 256) (hXw : ∀ x ∈ X, x < 4294967296) (hYw : ∀ x ∈ Y, x < 4294967296) : ACalls Try.prog 18 [.agg #[va, vb]] H0 (Rets (.string (putT X Y)) H0) := by
  have hF : Wd Fence.wide := .inl rfl
  have hM : Try.prog.follows .mixedOrders = true := by kernel_rfl
  have s0 := St.begin H0
  refine acalls_st Try.func18 rfl Try.ntmps18 rfl ?_
  refine awp_seq ?_
  refine awp_regs hF ?_
  refine x_new (fun b => .pointer (some ⟨b, 0, none⟩)) s0 (gyes_none rfl) (q_box (v := .agg #[va, vb]) (vs := [va, vb]) 2 rfl (by exact trivial) rfl) rfl (by decide) (cok1 trivial) (fun b1 H2 hb4 s3 => ?_)
  refine dv (gyes_none rfl) (q_as (v := .string (⟨#[]⟩ : ByteArray)) rfl) rfl (by decide) (cok1 (cconst rfl)) ?_
  refine ⟨_, Wk.refl _ _, ?_⟩
  show awp _ _ _ _ _ _ _
  refine awp_seq ?_
  refine awp_regs hF ?_
  refine x_newB s3 (gyes_none rfl) (te := 5) Try.zeroValue66 rfl (by decide) (by simp [Op.operands]) (fun b5 b6 H7 hb9 hb10 s8 => ?_)
  refine ⟨_, Wk.refl _ _, ?_⟩
  show awp _ _ _ _ _ _ _
  refine awp_seq ?_
  have hp8 : (putB X.length 4 ++ putB Y.length 4).size = 8 := by rw [ByteArray.size_append, putB_size, putB_size]
  refine awp_regt hF hM (by kernel_rfl) (by kernel_rfl) ?_
  refine dv (gyes_none rfl) (q_field Try.underlying26 rfl Try.sizeOf24 rfl (s8.rd (j := 2) rfl)) rfl (by decide) (cok1 trivial) ?_
  refine dv (gyes_none rfl) (q_load (v := va) Try.isAgg24 rfl (s8.rd (j := 2) rfl) rfl) rfl (by decide) (cok1 trivial) ?_
  refine dv (gyes_none rfl) (q_len_sl (l := X) Try.underlying24 (s8.sl ha) rfl) rfl (by decide) (cok1 trivial) ?_
  refine dv (gyes_none rfl) (q_convin (a := ((X.length : Nat) : Int)) Try.underlying3 Try.underlying42 rfl (u64_in (by omega))) rfl (by decide) (cok1 trivial) ?_
  refine dv (gyes_none rfl) (q_call0 Try.call30 rfl (put_ok X.length 4 (by omega) (by omega) (by omega))) rfl (by decide) (call_ok rfl) ?_
  refine dv (gyes_none rfl) (q_field Try.underlying26 rfl Try.sizeOf24 rfl (s8.rd (j := 2) rfl)) rfl (by decide) (cok1 trivial) ?_
  refine dv (gyes_none rfl) (q_load (v := vb) Try.isAgg24 rfl (s8.rd (j := 2) rfl) rfl) rfl (by decide) (cok1 trivial) ?_
  refine dv (gyes_none rfl) (q_len_sl (l := Y) Try.underlying24 (s8.sl hb) rfl) rfl (by decide) (cok1 trivial) ?_
  refine dv (gyes_none rfl) (q_convin (a := ((Y.length : Nat) : Int)) Try.underlying3 Try.underlying42 rfl (u64_in (by omega))) rfl (by decide) (cok1 trivial) ?_
  refine dv (gyes_none rfl) (q_call0 Try.call30 rfl (put_ok Y.length 4 (by omega) (by omega) (by omega))) rfl (by decide) (call_ok rfl) ?_
  refine dv (gyes_none rfl) (q_cat rfl rfl (by rw [putB_size, putB_size]; decide)) rfl (by decide) (cok2 trivial trivial) ?_
  refine x_call [] hF (by kernel_rfl) (gyes_none rfl) Try.call29 rfl (args := [.pointer (some ⟨b6, 0, none⟩), .string ((putB X.length 4) ++ (putB Y.length 4))]) rfl (wstr_n b6 b5 0 ([] : List UInt8) (by first | rfl | (simp only [List.length_append, Array.length_toList]; first | rfl | omega) | assumption | omega) (nod2 (s8.nej (i := 1) (j := 0) rfl rfl (by decide))) (s8.getj (j := 1) rfl) (s8.getj (j := 0) rfl) ((putB X.length 4) ++ (putB Y.length 4)) (by omega)) (show _ < _ by decide) (call_ok rfl) rfl rfl (fun _ _ _ _ hd => by cases hd) ?_
  rintro _ H11 ⟨b12, rfl, hk13, ho14, hn15, h16, h17⟩
  have s18 := s8.turn2 (j9 := 1) (jl := 0) rfl rfl (by decide) hk13 ho14 hn15 h16 h17
  refine ⟨trivial, ?_⟩
  show dList _ _ _ _ _ _ _ _ _ _
  refine ⟨_, Wk.refl _ _, ?_⟩
  show awp _ _ _ _ _ _ _
  refine awp_seq ?_
  refine awp_seq ?_
  have hl0 : ([] : List UInt8) ++ ((putB X.length 4) ++ (putB Y.length 4)).data.toList = putL X.length 4 ++ putL Y.length 4 ++ bytL ((X ++ Y).take 0) := by rw [List.take_zero]; show _ = _ ++ []; rw [List.append_nil, List.nil_append, bl_put2]
  rw [hl0] at s18
  refine awp_regs hF ?_
  refine dv (gyes_none rfl) (q_field Try.underlying26 rfl Try.sizeOf24 rfl (s18.rd (j := 2) rfl)) rfl (by decide) (cok1 trivial) ?_
  refine dv (gyes_none rfl) (q_load (v := va) Try.isAgg24 rfl (s18.rd (j := 2) rfl) rfl) rfl (by decide) (cok1 trivial) ?_
  refine dv (gyes_none rfl) (q_field Try.underlying26 rfl Try.sizeOf24 rfl (s18.rd (j := 2) rfl)) rfl (by decide) (cok1 trivial) ?_
  refine dv (gyes_none rfl) (q_load (v := vb) Try.isAgg24 rfl (s18.rd (j := 2) rfl) rfl) rfl (by decide) (cok1 trivial) ?_
  refine dv (gyes_none rfl) (q_buildArrL (ds := [va, vb]) [va, vb] Try.underlying72 Try.sizeOf24 Try.zeroValue72 (by first | exact flat_agg rfl | exact flat_scalar rfl) ⟨rfl, rfl, trivial⟩ (lvsC (Sl.lc (s18.sl ha)).1 (lvsC (Sl.lc (s18.sl hb)).1 lvs0)) (by show fillL (fun i => some (i * 1, 1)) [.slice none 0 0, .slice none 0 0] [(0, va), (1, vb)] = _; simp only [fillL, Sl.cells ha, Sl.cells hb]; rfl)) rfl (by decide) (cok2 trivial trivial) ?_
  refine dv (gyes_none rfl) (q_mv (v := .int .i64 0) rfl) rfl (by decide) (cok1 (cconst rfl)) ?_
  refine ⟨_, Wk.refl _ _, ?_⟩
  show awp _ _ _ _ _ _ _
  refine awp_block ?_
  refine awp_wk (Wk.U [(1, .pointer (some ⟨b1, 0, none⟩)), (2, .string (⟨#[]⟩ : ByteArray)), (3, .pointer (some ⟨b6, 0, none⟩)), (24, .agg #[va, vb]), (25, .int .i64 0)] ⟨rfl, rfl, rfl, rfl, rfl, trivial⟩) ?_
  refine awp_loop (fun ((j, n9, l9) : Nat × Nat × (List UInt8)) st => ∃ (H19 : AHeap) (r9 : Nat), st = ⟨41, U [(1, .pointer (some ⟨b1, 0, none⟩)), (2, .string (⟨#[]⟩ : ByteArray)), (3, .pointer (some ⟨b6, 0, none⟩)), (24, .agg #[va, vb]), (25, .int .i64 ((j : Nat) : Int))], [], H19⟩ ∧ St H0 (none0) (Rd H0) H19 [(r9, .typed 5 (l9.map bytv) 1), (b6, .typed 66 [.pointer (some ⟨b6, 0, none⟩), .slice (some ⟨r9, 0, none⟩) n9 n9] 2), (b1, .cells true [va, vb] 2)] ∧ (j ≤ 2 ∧ l9.length = n9 ∧ (8 ≤ n9 ∧ n9 ≤ 10000) ∧ l9 = putL X.length 4 ++ putL Y.length 4 ++ bytL ((X ++ Y).take (if j = 0 then 0 else if j = 1 then X.length else X.length + Y.length)))) (fun ((j, n9, l9) : Nat × Nat × (List UInt8)) => 2 - j) (x0 := (0, (0 + ((putB X.length 4) ++ (putB Y.length 4)).size), (putL X.length 4 ++ putL Y.length 4 ++ bytL ((X ++ Y).take 0)))) ?h0 ?round
  case h0 =>
    exact ⟨_, _, rfl, s18, ⟨by decide, by rw [List.length_append, List.length_append, putL_length, putL_length, bytL_len, List.take_zero]; show 4 + 4 + 4 * 0 = _; omega, by omega, rfl⟩⟩
  case round =>
    rintro ⟨j, n9, l9⟩ _ ⟨H19, r9, rfl, s20, hj⟩
    dsimp only at *
    refine awp_seq ?_
    refine awp_regs hF ?_
    refine dvb (gyes_none rfl) (q_int rfl rfl rfl) rfl (by decide) (cok2 trivial (cconst rfl)) (fun c1 => ?_) (fun c1 => ?_)
    ·
      replace c1 := of_decide_eq_true c1
      refine ⟨_, Wk.refl _ _, ?_⟩
      show awp _ _ _ _ _ _ _
      refine awp_seq ?_
      refine awp_cond_t rfl ?_
      refine awp_skip_wk ?_
      refine ⟨_, Wk.refl _ _, ?_⟩
      show awp _ _ _ _ _ _ _
      refine awp_seq ?_
      refine awp_block ?_
      refine awp_seq ?_
      have hsj : SlZ u32v (Rd H0) (seli va vb j) (seli X Y j) := by unfold seli; split; exact ha; exact hb
      have hsl : (seli X Y j).length ≤ 256 := by unfold seli; split; exact hXl; exact hYl
      have hsw : ∀ x ∈ seli X Y j, x < 4294967296 := by unfold seli; split; exact hXw; exact hYw
      refine awp_regs hF ?_
      refine dv (gyes_none rfl) (q_indexA1 (v := (seli va vb j)) (i := j) Try.underlying72 Try.isAgg24 Try.sizeOf24 rfl rfl (by omega) (by rcases (show j = 0 ∨ j = 1 by omega) with rfl | rfl <;> rfl)) rfl (by decide) (cok2 trivial trivial) ?_
      refine dv (gyes_none rfl) (q_as (v := (seli va vb j)) rfl) rfl (by decide) (cok1 trivial) ?_
      refine ⟨_, Wk.refl _ _, ?_⟩
      show awp _ _ _ _ _ _ _
      refine awp_seq ?_
      refine awp_regs hF ?_
      refine dv (gyes_none rfl) (q_mv (v := (seli va vb j)) rfl) rfl (by decide) (cok1 trivial) ?_
      refine dv (gyes_none rfl) (q_len_sl (l := (seli X Y j)) Try.underlying24 (s20.sl hsj) rfl) rfl (by decide) (cok1 trivial) ?_
      refine dv (gyes_none rfl) (q_mv (v := .int .i64 0) rfl) rfl (by decide) (cok1 (cconst rfl)) ?_
      refine ⟨_, Wk.refl _ _, ?_⟩
      show awp _ _ _ _ _ _ _
      refine awp_block ?_
      refine awp_wk (Wk.U [(1, .pointer (some ⟨b1, 0, none⟩)), (2, .string (⟨#[]⟩ : ByteArray)), (3, .pointer (some ⟨b6, 0, none⟩)), (24, .agg #[va, vb]), (25, .int .i64 ((j : Nat) : Int)), (28, (seli va vb j)), (29, .int .i64 (((seli X Y j).length : Nat) : Int)), (30, .int .i64 0)] ⟨rfl, rfl, rfl, rfl, rfl, rfl, rfl, rfl, trivial⟩) ?_
      refine awp_loop (fun ((k, n8, l8) : Nat × Nat × (List UInt8)) st => ∃ (H21 : AHeap) (r8 : Nat), st = ⟨41, U [(1, .pointer (some ⟨b1, 0, none⟩)), (2, .string (⟨#[]⟩ : ByteArray)), (3, .pointer (some ⟨b6, 0, none⟩)), (24, .agg #[va, vb]), (25, .int .i64 ((j : Nat) : Int)), (28, (seli va vb j)), (29, .int .i64 (((seli X Y j).length : Nat) : Int)), (30, .int .i64 ((k : Nat) : Int))], [], H21⟩ ∧ St H0 (none0) (Rd H0) H21 [(r8, .typed 5 (l8.map bytv) 1), (b6, .typed 66 [.pointer (some ⟨b6, 0, none⟩), .slice (some ⟨r8, 0, none⟩) n8 n8] 2), (b1, .cells true [va, vb] 2)] ∧ (k ≤ (seli X Y j).length ∧ l8.length = n8 ∧ (8 ≤ n8 ∧ n8 ≤ 10000) ∧ l8 = putL X.length 4 ++ putL Y.length 4 ++ bytL ((X ++ Y).take ((if j = 0 then 0 else X.length) + k)))) (fun ((k, n8, l8) : Nat × Nat × (List UInt8)) => (seli X Y j).length - k) (x0 := (0, n9, l9)) ?h0 ?round
      case h0 =>
        exact ⟨_, _, rfl, s20, ⟨Nat.zero_le _, hj.2.1, hj.2.2.1, by rw [hj.2.2.2]; congr 3; split <;> simp [*] <;> omega⟩⟩
      case round =>
        rintro ⟨k, n8, l8⟩ _ ⟨H21, r8, rfl, s22, hk9⟩
        dsimp only at *
        refine awp_seq ?_
        refine awp_regs hF ?_
        refine dvb (gyes_none rfl) (q_int rfl rfl rfl) rfl (by decide) (cok2 trivial trivial) (fun c2 => ?_) (fun c2 => ?_)
        ·
          replace c2 := of_decide_eq_true c2
          refine ⟨_, Wk.refl _ _, ?_⟩
          show awp _ _ _ _ _ _ _
          refine awp_seq ?_
          refine awp_cond_t rfl ?_
          refine awp_skip_wk ?_
          refine ⟨_, Wk.refl _ _, ?_⟩
          show awp _ _ _ _ _ _ _
          refine awp_seq ?_
          refine awp_block ?_
          refine awp_seq ?_
          have hps := putB_size (nth (seli X Y j) k) 4
          have hxw := hsw _ (nthS_mem (show k < (seli X Y j).length by omega))
          have hpl : (if j = 0 then 0 else X.length) + k < X.length + Y.length := by
            have h9 : k < (seli X Y j).length := by omega
            unfold seli at h9
            split at h9 <;> simp [*] <;> omega
          have hpn : nth (X ++ Y) ((if j = 0 then 0 else X.length) + k) = nth (seli X Y j) k := by
            have h9 : k < (seli X Y j).length := by omega
            unfold seli at h9 ⊢
            split at h9
            · rw [if_pos (by assumption), if_pos (by assumption), Nat.zero_add, nth_eq h9, nth_eq (by rw [List.length_append]; omega), List.getElem_append_left h9]
            · rw [if_neg (by assumption), if_neg (by assumption), nth_eq h9, nth_eq (by rw [List.length_append]; omega), List.getElem_append_right (by omega)]; simp
          refine awp_regs hF ?_
          refine dv (gyes_none rfl) (q_index_sl (l := (seli X Y j)) (i := k) Try.underlying24 Try.sizeOf31 (s22.sl hsj) rfl rfl (by omega)) rfl (by decide) (cok2 trivial trivial) ?_
          refine dv (gyes_none rfl) (q_load_sl (l := (seli X Y j)) (i := k) Try.isAgg31 (s22.sl hsj) rfl (by omega)) rfl (by decide) (cok1 trivial) ?_
          refine dv (gyes_none rfl) (q_as (v := .int .u32 ((nth (seli X Y j) k : Nat) : Int)) rfl) rfl (by decide) (cok1 trivial) ?_
          refine ⟨_, Wk.refl _ _, ?_⟩
          show awp _ _ _ _ _ _ _
          refine awp_regs hF ?_
          refine dv (gyes_none rfl) (q_mv (v := .int .u32 ((nth (seli X Y j) k : Nat) : Int)) rfl) rfl (by decide) (cok1 trivial) ?_
          refine dv (gyes_none rfl) (q_convin (a := ((nth (seli X Y j) k : Nat) : Int)) Try.underlying31 Try.underlying42 rfl (u64_in (by omega))) rfl (by decide) (cok1 trivial) ?_
          refine dv (gyes_none rfl) (q_call0 Try.call30 rfl (put_ok (nth (seli X Y j) k) 4 (by omega) (by omega) (by omega))) rfl (by decide) (call_ok rfl) ?_
          refine x_call [] hF (by kernel_rfl) (gyes_none rfl) Try.call29 rfl (args := [.pointer (some ⟨b6, 0, none⟩), .string (putB (nth (seli X Y j) k) 4)]) rfl (wstr_u b6 r8 n8 l8 (by first | rfl | (simp only [List.length_append, Array.length_toList]; first | rfl | omega) | assumption | omega) (nod2 (s22.nej (i := 1) (j := 0) rfl rfl (by decide))) (s22.getj (j := 1) rfl) (s22.getj (j := 0) rfl) (putB (nth (seli X Y j) k) 4) (by omega)) (show _ < _ by decide) (call_ok rfl) rfl rfl (fun _ _ _ _ hd => by cases hd) ?_
          rintro _ H23 ⟨b24, rfl, hk25, ho26, hn27, h28, h29⟩
          have s30 := s22.turn2 (j9 := 1) (jl := 0) rfl rfl (by decide) hk25 ho26 hn27 h28 h29
          refine ⟨trivial, ?_⟩
          show dList _ _ _ _ _ _ _ _ _ _
          refine ⟨_, Wk.refl _ _, ?_⟩
          show awp _ _ _ _ _ _ _
          refine awp_regs hF ?_
          refine dv (gyes_none rfl) (OpQ.cast (v' := .int .i64 ((k + 1 : Nat) : Int)) (q_int rfl rfl rfl) (congrArg _ ((i64_in (by omega)).trans (by first | rfl | omega | (push_cast; rfl))))) rfl (by decide) (cok2 trivial (cconst rfl)) ?_
          refine dv (gyes_none rfl) (q_mv (v := .int .i64 ((k + 1 : Nat) : Int)) rfl) rfl (by decide) (cok1 trivial) ?_
          have hl9 : l8 ++ (putB (nth (seli X Y j) k) 4).data.toList = putL X.length 4 ++ putL Y.length 4 ++ bytL ((X ++ Y).take ((if j = 0 then 0 else X.length) + (k + 1))) := by
            rw [hk9.2.2.2]
            have e : (putB (nth (seli X Y j) k) 4).data.toList = bytL [nth (seli X Y j) k] := by rw [bytL_one]; exact bl_putB _ _
            rw [e, List.append_assoc, ← bytL_app]
            congr 2
            rw [← Nat.add_assoc, ← take_snocN (by rw [List.length_append]; exact hpl), hpn]
          have hlen9 : (l8 ++ (putB (nth (seli X Y j) k) 4).data.toList).length = n8 + (putB (nth (seli X Y j) k) 4).size := by rw [List.length_append, hk9.2.1]; rfl
          have hb9 : (n8 + (putB (nth (seli X Y j) k) 4).size) ≤ 10000 := by
            have h1 := hlen9
            rw [hl9, List.length_append, List.length_append, putL_length, putL_length, bytL_len, List.length_take, List.length_append] at h1
            omega
          refine ⟨_, Wk.U [(1, .pointer (some ⟨b1, 0, none⟩)), (2, .string (⟨#[]⟩ : ByteArray)), (3, .pointer (some ⟨b6, 0, none⟩)), (24, .agg #[va, vb]), (25, .int .i64 ((j : Nat) : Int)), (28, (seli va vb j)), (29, .int .i64 (((seli X Y j).length : Nat) : Int)), (30, .int .i64 (((k + 1) : Nat) : Int))] ⟨rfl, rfl, rfl, rfl, rfl, rfl, rfl, rfl, trivial⟩, ((k + 1), (n8 + (putB (nth (seli X Y j) k) 4).size), (l8 ++ (putB (nth (seli X Y j) k) 4).data.toList)), ⟨_, _, rfl, s30, ⟨by dsimp only; omega, hlen9, by dsimp only; omega, hl9⟩⟩, (by omega)⟩
        ·
          replace c2 := of_decide_eq_false c2
          have hend : k = (seli X Y j).length := by omega
          refine ⟨_, Wk.refl _ _, ?_⟩
          show awp _ _ _ _ _ _ _
          refine awp_seq ?_
          refine awp_cond_f rfl ?_
          refine awp_exit_wk ?_
          refine ⟨_, Wk.refl _ _, ?_⟩
          show awp _ _ _ _ _ _ _
          refine awp_regs hF ?_
          refine dv (gyes_none rfl) (OpQ.cast (v' := .int .i64 ((j + 1 : Nat) : Int)) (q_int rfl rfl rfl) (congrArg _ ((i64_in (by omega)).trans (by first | rfl | omega | (push_cast; rfl))))) rfl (by decide) (cok2 trivial (cconst rfl)) ?_
          refine dv (gyes_none rfl) (q_mv (v := .int .i64 ((j + 1 : Nat) : Int)) rfl) rfl (by decide) (cok1 trivial) ?_
          refine ⟨_, Wk.U [(1, .pointer (some ⟨b1, 0, none⟩)), (2, .string (⟨#[]⟩ : ByteArray)), (3, .pointer (some ⟨b6, 0, none⟩)), (24, .agg #[va, vb]), (25, .int .i64 (((j + 1) : Nat) : Int))] ⟨rfl, rfl, rfl, rfl, rfl, trivial⟩, ((j + 1), n8, l8), ⟨_, _, rfl, s22, ⟨by dsimp only; omega, hk9.2.1, hk9.2.2.1, by rw [hk9.2.2.2]; congr 3; dsimp only; unfold seli at hk9 hend; split at hend <;> simp [*] <;> omega⟩⟩, (by omega)⟩
    ·
      replace c1 := of_decide_eq_false c1
      refine ⟨_, Wk.refl _ _, ?_⟩
      show awp _ _ _ _ _ _ _
      refine awp_seq ?_
      refine awp_cond_f rfl ?_
      refine awp_exit_wk ?_
      refine ⟨_, Wk.refl _ _, ?_⟩
      show awp _ _ _ _ _ _ _
      refine awp_seq ?_
      refine awp_regs hF ?_
      refine x_call [] hF (by kernel_rfl) (gyes_none rfl) Try.call31 rfl (args := [.pointer (some ⟨b6, 0, none⟩)]) rfl (bstr_ok b6 r9 n9 l9 (by first | rfl | (simp only [List.length_append, Array.length_toList]; first | rfl | omega) | assumption | omega) (by omega) (by omega) (nod2 (s20.nej (i := 1) (j := 0) rfl rfl (by decide))) (s20.getj (j := 1) rfl) (s20.getj (j := 0) rfl)) (show _ < _ by decide) (call_ok rfl) rfl rfl (fun _ _ _ _ hd => by cases hd) ?_
      rintro _ H31 ⟨rfl, hk32, h33, h34⟩
      have s35 := s20.turn2 (j9 := 1) (jl := 0) rfl rfl (by decide) hk32 (.inr (by simp)) (s20.nej (i := 0) (j := 1) rfl rfl (by decide)) h33 h34
      refine ⟨trivial, ?_⟩
      show dList _ _ _ _ _ _ _ _ _ _
      refine dv (gyes_none rfl) (q_as (v := .string ⟨(l9).toArray⟩) rfl) rfl (by decide) (cok1 trivial) ?_
      refine ⟨_, Wk.refl _ _, ?_⟩
      show awp _ _ _ _ _ _ _
      refine awp_ret_wk ?_
      refine ⟨_, Wk.refl _ _, ?_⟩
      repeat (with_reducible first | refine then_ret ?_ | refine blk_ret ?_ | refine then_exit ?_ | refine blk_exit ?_ | refine blk_exit' (by decide) ?_ | refine blk_normal ?_ | refine then_normal ?_ | refine retq_ret ?_ | refine retq_normal ?_ | refine ng_normal ?_ | refine ng_ret ?_ | refine ng_exit ?_)
      exact ret_none (v := .string ⟨(l9).toArray⟩) rfl s35.kp (.tmp rfl .nil) rfl rfl ⟨by show Value.string _ = Value.string _; rw [hj.2.2.2, show j = 2 by omega]; simp only [if_neg (show ¬ (2 = 0) by decide), if_neg (show ¬ (2 = 1) by decide)]; rw [List.take_of_length_le (by rw [List.length_append]; exact Nat.le_refl _)]; rfl, rfl⟩

end Go.Proofs.YtmoldjiooccppaaA


/-
  Walks of functions of the given program, and what they compute.
-/
namespace Go.Proofs.YtmoldjiooccppaaA
set_option linter.unusedVariables false
open Go Go.RowKit Go.Shelf Go.Proofs
theorem ACalls.castV {P : Program} {f : FuncId} {a : List Value} {H : AHeap} {H' : AHeap} {v v' : Value} (h : ACalls P f a H (Rets v H')) (e : v = v') : ACalls P f a H (Rets v' H') := e ▸ h
set_option maxRecDepth 100000 in
set_option maxHeartbeats 4000000 in
theorem failOf_ok {H0 : AHeap} (c : Nat) : ACalls Try.prog 24 [.int .i64 ((c : Nat) : Int)] H0 (Rets (.agg #[.int .i64 ((c : Nat) : Int), .int .u64 0, .string ⟨#[]⟩]) H0) := by
  have hF : Wd Fence.wide := .inl rfl
  have hM : Try.prog.follows .mixedOrders = true := by kernel_rfl
  have s0 := St.begin H0
  refine acalls_st Try.func24 rfl Try.ntmps24 rfl ?_
  refine awp_seq ?_
  refine awp_regs hF ?_
  refine x_new (fun b => .pointer (some ⟨b, 0, none⟩)) s0 (gyes_none rfl) (q_alloc (vs := [.int .i64 0, .int .u64 0, .string ⟨#[]⟩]) 3 Try.zeroValue44 (by first | exact flat_scalar rfl | exact flat_agg rfl) rfl) rfl (by decide) (by simp [Op.operands]) (fun b1 H2 hb4 s3 => ?_)
  refine ⟨_, Wk.refl _ _, ?_⟩
  show awp _ _ _ _ _ _ _
  refine awp_seq ?_
  refine awp_regs hF ?_
  refine dv (gyes_none rfl) (q_mv (v := .int .i64 ((c : Nat) : Int)) rfl) rfl (by decide) (cok1 trivial) ?_
  refine dv (gyes_none rfl) (q_buildL (ds := [.int .i64 ((c : Nat) : Int), .int .u64 0, .string ⟨#[]⟩]) [(0, 1), (1, 1), (2, 1)] [.int .i64 ((c : Nat) : Int)] Try.underlying44 Try.zeroValue44 (by first | exact flat_agg rfl | exact flat_scalar rfl) (by kernel_rfl) ⟨rfl, trivial⟩ (lvsC (by exact trivial) lvs0) rfl) rfl (by decide) (cok1 trivial) ?_
  refine x_store [] hF s3 (by kernel_rfl) (gyes_none rfl) (j := 0) (v := .agg #[.int .i64 ((c : Nat) : Int), .int .u64 0, .string ⟨#[]⟩]) rfl Try.sizeOf44 rfl rfl rfl rfl rfl trivial (lcsA ⟨(lc_scalar rfl), (lc_scalar rfl), (lc_scalar rfl), trivial⟩) (Nat.le_of_ble_eq_true rfl) trivial trivial rfl rfl (F' := [(b1, .cells true [.int .i64 ((c : Nat) : Int), .int .u64 0, .string ⟨#[]⟩] 3)]) rfl (fun H5 s6 => ⟨?_, ?_⟩)
  · exact trivial
  refine ⟨_, Wk.refl _ _, ?_⟩
  show awp _ _ _ _ _ _ _
  refine awp_ret_wk ?_
  refine ⟨_, Wk.refl _ _, ?_⟩
  repeat (with_reducible first | refine then_ret ?_ | refine blk_ret ?_ | refine then_exit ?_ | refine blk_exit ?_ | refine blk_exit' (by decide) ?_ | refine blk_normal ?_ | refine then_normal ?_ | refine retq_ret ?_ | refine retq_normal ?_ | refine ng_normal ?_ | refine ng_ret ?_ | refine ng_exit ?_)
  exact ret_none (v := .agg #[.int .i64 ((c : Nat) : Int), .int .u64 0, .string ⟨#[]⟩]) rfl s6.kp (.agg rfl Try.isAgg44 Try.sizeOf44 (s6.rd (j := 0) rfl) (Nat.le_of_ble_eq_true rfl) rfl .nil) rfl rfl ⟨rfl, rfl⟩
set_option maxRecDepth 100000 in
set_option maxHeartbeats 4000000 in
theorem failAt_ok {H0 : AHeap} (c a : Nat) : ACalls Try.prog 27 [.int .i64 ((c : Nat) : Int), .int .u64 ((a : Nat) : Int)] H0 (Rets (.agg #[.int .i64 ((c : Nat) : Int), .int .u64 ((a : Nat) : Int), .string ⟨#[]⟩]) H0) := by
  have hF : Wd Fence.wide := .inl rfl
  have hM : Try.prog.follows .mixedOrders = true := by kernel_rfl
  have s0 := St.begin H0
  refine acalls_st Try.func27 rfl Try.ntmps27 rfl ?_
  refine awp_seq ?_
  refine awp_regs hF ?_
  refine x_new (fun b => .pointer (some ⟨b, 0, none⟩)) s0 (gyes_none rfl) (q_alloc (vs := [.int .i64 0, .int .u64 0, .string ⟨#[]⟩]) 3 Try.zeroValue44 (by first | exact flat_scalar rfl | exact flat_agg rfl) rfl) rfl (by decide) (by simp [Op.operands]) (fun b1 H2 hb4 s3 => ?_)
  refine ⟨_, Wk.refl _ _, ?_⟩
  show awp _ _ _ _ _ _ _
  refine awp_seq ?_
  refine awp_regs hF ?_
  refine dv (gyes_none rfl) (q_mv (v := .int .i64 ((c : Nat) : Int)) rfl) rfl (by decide) (cok1 trivial) ?_
  refine dv (gyes_none rfl) (q_mv (v := .int .u64 ((a : Nat) : Int)) rfl) rfl (by decide) (cok1 trivial) ?_
  refine dv (gyes_none rfl) (q_buildL (ds := [.int .i64 ((c : Nat) : Int), .int .u64 ((a : Nat) : Int), .string ⟨#[]⟩]) [(0, 1), (1, 1), (2, 1)] [.int .i64 ((c : Nat) : Int), .int .u64 ((a : Nat) : Int)] Try.underlying44 Try.zeroValue44 (by first | exact flat_agg rfl | exact flat_scalar rfl) (by kernel_rfl) ⟨rfl, rfl, trivial⟩ (lvsC (by exact trivial) (lvsC (by exact trivial) lvs0)) rfl) rfl (by decide) (cok2 trivial trivial) ?_
  refine x_store [] hF s3 (by kernel_rfl) (gyes_none rfl) (j := 0) (v := .agg #[.int .i64 ((c : Nat) : Int), .int .u64 ((a : Nat) : Int), .string ⟨#[]⟩]) rfl Try.sizeOf44 rfl rfl rfl rfl rfl trivial (lcsA ⟨(lc_scalar rfl), (lc_scalar rfl), (lc_scalar rfl), trivial⟩) (Nat.le_of_ble_eq_true rfl) trivial trivial rfl rfl (F' := [(b1, .cells true [.int .i64 ((c : Nat) : Int), .int .u64 ((a : Nat) : Int), .string ⟨#[]⟩] 3)]) rfl (fun H5 s6 => ⟨?_, ?_⟩)
  · exact trivial
  refine ⟨_, Wk.refl _ _, ?_⟩
  show awp _ _ _ _ _ _ _
  refine awp_ret_wk ?_
  refine ⟨_, Wk.refl _ _, ?_⟩
  repeat (with_reducible first | refine then_ret ?_ | refine blk_ret ?_ | refine then_exit ?_ | refine blk_exit ?_ | refine blk_exit' (by decide) ?_ | refine blk_normal ?_ | refine then_normal ?_ | refine retq_ret ?_ | refine retq_normal ?_ | refine ng_normal ?_ | refine ng_ret ?_ | refine ng_exit ?_)
  exact ret_none (v := .agg #[.int .i64 ((c : Nat) : Int), .int .u64 ((a : Nat) : Int), .string ⟨#[]⟩]) rfl s6.kp (.agg rfl Try.isAgg44 Try.sizeOf44 (s6.rd (j := 0) rfl) (Nat.le_of_ble_eq_true rfl) rfl .nil) rfl rfl ⟨rfl, rfl⟩
set_option maxRecDepth 100000 in
set_option maxHeartbeats 4000000 in
theorem sread_ok {H0 : AHeap} (B : ByteArray) (hB : B.size ≤ 140737488355328) : ACalls Try.prog 15 [.string B] H0 (fun v H' => (syC B ≠ 0 ∧ v = .tuple #[.agg #[.slice none 0 0, .slice none 0 0], .agg #[.int .i64 ((syC B : Nat) : Int), .int .u64 ((syA B : Nat) : Int), .string ⟨#[]⟩]] ∧ K0 H0 H') ∨ (syC B = 0 ∧ ∃ b, K0 H0 H' ∧ H0.length ≤ b ∧ v = .tuple #[.agg #[.slice (some ⟨b, 0, none⟩) (atV B 0 4) (atV B 0 4), .slice (some ⟨b, atV B 0 4, none⟩) ((allL B (nmS B)).length - (atV B 0 4)) ((allL B (nmS B)).length - (atV B 0 4))], .agg #[.int .i64 0, .int .u64 0, .string ⟨#[]⟩]] ∧ H'[b]? = some (.cells true ((allL B (nmS B)).map u32v) 1))) := by
  have hF : Wd Fence.wide := .inl rfl
  have hM : Try.prog.follows .mixedOrders = true := by kernel_rfl
  have hn4 : atV B 0 4 < 4294967296 := atV_lt B 0 4
  have hm4 : atV B 4 4 < 4294967296 := atV_lt B 4 4
  have s0 := St.begin H0
  refine acalls_st Try.func15 rfl Try.ntmps15 rfl ?_
  refine awp_seq ?_
  refine awp_regs hF ?_
  refine x_new (fun b => .pointer (some ⟨b, 0, none⟩)) s0 (gyes_none rfl) (q_alloc (vs := [.slice none 0 0, .slice none 0 0]) 2 Try.zeroValue26 (by first | exact flat_scalar rfl | exact flat_agg rfl) rfl) rfl (by decide) (by simp [Op.operands]) (fun b1 H2 hb4 s3 => ?_)
  refine x_new (fun b => .pointer (some ⟨b, 0, none⟩)) s3 (gyes_none rfl) (q_alloc (vs := [.int .i64 0, .int .u64 0, .string ⟨#[]⟩]) 3 Try.zeroValue44 (by first | exact flat_scalar rfl | exact flat_agg rfl) rfl) rfl (by decide) (by simp [Op.operands]) (fun b5 H6 hb8 s7 => ?_)
  refine ⟨_, Wk.refl _ _, ?_⟩
  show awp _ _ _ _ _ _ _
  refine awp_seq ?_
  refine awp_regs hF ?_
  refine dv (gyes_none rfl) (q_mv (v := .string B) rfl) rfl (by decide) (cok1 trivial) ?_
  refine dv (gyes_none rfl) (q_call0 Try.call23 rfl (at_ok B 0 4 (by first | assumption | omega) (by omega) (by omega) (by omega))) rfl (by decide) (call_ok rfl) ?_
  refine dv (gyes_none rfl) (q_mv (v := .tuple #[.int .u64 ((atV B 0 4 : Nat) : Int), .bool (decide (0 + 4 ≤ B.size))]) rfl) rfl (by decide) (cok1 trivial) ?_
  refine dv (gyes_none rfl) (q_extract (v := .int .u64 ((atV B 0 4 : Nat) : Int)) rfl rfl) rfl (by decide) (cok1 trivial) ?_
  refine dv (gyes_none rfl) (q_extract (v := .bool (decide (0 + 4 ≤ B.size))) rfl rfl) rfl (by decide) (cok1 trivial) ?_
  refine dv (gyes_none rfl) (q_as (v := .int .u64 ((atV B 0 4 : Nat) : Int)) rfl) rfl (by decide) (cok1 trivial) ?_
  refine dv (gyes_none rfl) (q_as (v := .bool (decide (0 + 4 ≤ B.size))) rfl) rfl (by decide) (cok1 trivial) ?_
  refine ⟨_, Wk.refl _ _, ?_⟩
  show awp _ _ _ _ _ _ _
  refine awp_seq ?_
  refine awp_regs hF ?_
  refine dv (gyes_none rfl) (q_mv (v := .string B) rfl) rfl (by decide) (cok1 trivial) ?_
  refine dv (gyes_none rfl) (q_call0 Try.call23 rfl (at_ok B 4 4 (by first | assumption | omega) (by omega) (by omega) (by omega))) rfl (by decide) (call_ok rfl) ?_
  refine dv (gyes_none rfl) (q_mv (v := .tuple #[.int .u64 ((atV B 4 4 : Nat) : Int), .bool (decide (4 + 4 ≤ B.size))]) rfl) rfl (by decide) (cok1 trivial) ?_
  refine dv (gyes_none rfl) (q_extract (v := .int .u64 ((atV B 4 4 : Nat) : Int)) rfl rfl) rfl (by decide) (cok1 trivial) ?_
  refine dvb (gyes_none rfl) (q_extract (v := .bool (decide (4 + 4 ≤ B.size))) rfl rfl) rfl (by decide) (cok1 trivial) (fun c1 => ?_) (fun c1 => ?_)
  ·
    replace c1 := of_decide_eq_true c1
    refine dv (gyes_none rfl) (q_as (v := .int .u64 ((atV B 4 4 : Nat) : Int)) rfl) rfl (by decide) (cok1 trivial) ?_
    refine dv (gyes_none rfl) (q_as (v := .bool true) rfl) rfl (by decide) (cok1 trivial) ?_
    refine ⟨_, Wk.refl _ _, ?_⟩
    show awp _ _ _ _ _ _ _
    refine awp_seq ?_
    refine awp_block ?_
    refine awp_seq ?_
    refine awp_regs hF ?_
    refine dv (gyes_none rfl) (q_mv (v := .bool true) rfl) rfl (by decide) (cok1 trivial) ?_
    refine dv (gyes_none rfl) (q_not (b := true) rfl) rfl (by decide) (cok1 trivial) ?_
    refine dv (gyes_none rfl) (q_as (v := .bool false) rfl) rfl (by decide) (cok1 trivial) ?_
    refine ⟨_, Wk.refl _ _, ?_⟩
    show awp _ _ _ _ _ _ _
    refine awp_cond_f rfl ?_
    refine awp_seq ?_
    refine awp_regs hF ?_
    refine dv (gyes_none rfl) (q_mv (v := .int .u64 ((atV B 0 4 : Nat) : Int)) rfl) rfl (by decide) (cok1 trivial) ?_
    refine dvb (gyes_none rfl) (q_int rfl rfl rfl) rfl (by decide) (cok2 trivial (cconst rfl)) (fun c2 => ?_) (fun c2 => ?_)
    ·
      replace c2 := eq_of_beq c2
      refine dv (gyes_none rfl) (q_as (v := .bool true) rfl) rfl (by decide) (cok1 trivial) ?_
      refine ⟨_, Wk.refl _ _, ?_⟩
      show awp _ _ _ _ _ _ _
      refine awp_cond_t rfl ?_
      refine awp_seq ?_
      refine awp_regs hF ?_
      refine dv (gyes_none rfl) (q_buildL (ds := [.slice none 0 0, .slice none 0 0]) [(0, 1), (1, 1)] [] Try.underlying26 Try.zeroValue26 (by first | exact flat_agg rfl | exact flat_scalar rfl) (by kernel_rfl) trivial lvs0 rfl) rfl (by decide) (by simp [Op.operands]) ?_
      refine dv (gyes_none rfl) (q_call0 Try.call24 rfl (failOf_ok 4)) rfl (by decide) (cok2 trivial (cconst rfl)) ?_
      refine x_store [] hF s7 (by kernel_rfl) (gyes_none rfl) (j := 1) (v := .agg #[.slice none 0 0, .slice none 0 0]) rfl Try.sizeOf26 rfl rfl rfl rfl rfl trivial (lcsA ⟨(lc_scalar rfl), (lc_scalar rfl), trivial⟩) (Nat.le_of_ble_eq_true rfl) trivial trivial rfl rfl (F' := [(b5, .cells true [.int .i64 0, .int .u64 0, .string ⟨#[]⟩] 3), (b1, .cells true [.slice none 0 0, .slice none 0 0] 2)]) rfl (fun H9 s10 => ⟨?_, ?_⟩)
      · exact trivial
      refine x_store [] hF s10 (by kernel_rfl) (gyes_none rfl) (j := 0) (v := .agg #[.int .i64 4, .int .u64 0, .string (⟨#[]⟩ : ByteArray)]) rfl Try.sizeOf44 rfl rfl rfl rfl rfl trivial (lcsA ⟨(lc_scalar rfl), (lc_scalar rfl), (lc_scalar rfl), trivial⟩) (Nat.le_of_ble_eq_true rfl) trivial trivial rfl rfl (F' := [(b5, .cells true [.int .i64 4, .int .u64 0, .string (⟨#[]⟩ : ByteArray)] 3), (b1, .cells true [.slice none 0 0, .slice none 0 0] 2)]) rfl (fun H11 s12 => ⟨?_, ?_⟩)
      · exact trivial
      refine ⟨_, Wk.refl _ _, ?_⟩
      show awp _ _ _ _ _ _ _
      refine awp_ret_wk ?_
      obtain ⟨e1, e2⟩ := sy_zero (B := B) (by omega) (by omega)
      refine ⟨_, Wk.refl _ _, ?_⟩
      repeat (with_reducible first | refine then_ret ?_ | refine blk_ret ?_ | refine then_exit ?_ | refine blk_exit ?_ | refine blk_exit' (by decide) ?_ | refine blk_normal ?_ | refine then_normal ?_ | refine retq_ret ?_ | refine retq_normal ?_ | refine ng_normal ?_ | refine ng_ret ?_ | refine ng_exit ?_)
      refine ret_is (v := .tuple #[.agg #[.slice none 0 0, .slice none 0 0], .agg #[.int .i64 4, .int .u64 0, .string (⟨#[]⟩ : ByteArray)]]) rfl (.agg rfl Try.isAgg26 Try.sizeOf26 (s12.rd (j := 1) rfl) (Nat.le_of_ble_eq_true rfl) rfl (.agg rfl Try.isAgg44 Try.sizeOf44 (s12.rd (j := 0) rfl) (Nat.le_of_ble_eq_true rfl) rfl .nil)) rfl ?_
      exact .inl ⟨by rw [e1]; decide, by rw [e1, e2]; first | done | rfl | (rw [Nat.mul_comm 4 i]; rfl), s12.kp⟩
    ·
      replace c2 := ne_of_beq_false c2
      refine dv (gyes_none rfl) (q_as (v := .bool false) rfl) rfl (by decide) (cok1 trivial) ?_
      refine ⟨_, Wk.refl _ _, ?_⟩
      show awp _ _ _ _ _ _ _
      refine awp_cond_f rfl ?_
      refine awp_seq ?_
      refine awp_regs hF ?_
      refine dv (gyes_none rfl) (q_mv (v := .int .u64 ((atV B 0 4 : Nat) : Int)) rfl) rfl (by decide) (cok1 trivial) ?_
      refine dvb (gyes_none rfl) (q_int rfl rfl rfl) rfl (by decide) (cok2 trivial (cconst rfl)) (fun c3 => ?_) (fun c3 => ?_)
      ·
        replace c3 := of_decide_eq_true c3
        refine dv (gyes_none rfl) (q_mv (v := .bool true) rfl) rfl (by decide) (cok1 trivial) ?_
        refine dno rfl (.inl rfl) rfl (by decide) ?_
        refine dno rfl (.inl rfl) rfl (by decide) ?_
        refine dv (gyes_none rfl) (q_pt (v := .bool true) rfl rfl) rfl (by decide) (call_ok rfl) ?_
        refine dv (gyes_none rfl) (q_as (v := .bool true) rfl) rfl (by decide) (cok1 trivial) ?_
        refine ⟨_, Wk.refl _ _, ?_⟩
        show awp _ _ _ _ _ _ _
        refine awp_cond_t rfl ?_
        refine awp_seq ?_
        refine awp_regs hF ?_
        refine dv (gyes_none rfl) (q_buildL (ds := [.slice none 0 0, .slice none 0 0]) [(0, 1), (1, 1)] [] Try.underlying26 Try.zeroValue26 (by first | exact flat_agg rfl | exact flat_scalar rfl) (by kernel_rfl) trivial lvs0 rfl) rfl (by decide) (by simp [Op.operands]) ?_
        refine dv (gyes_none rfl) (q_call0 Try.call24 rfl (failOf_ok 6)) rfl (by decide) (cok2 trivial (cconst rfl)) ?_
        refine x_store [] hF s7 (by kernel_rfl) (gyes_none rfl) (j := 1) (v := .agg #[.slice none 0 0, .slice none 0 0]) rfl Try.sizeOf26 rfl rfl rfl rfl rfl trivial (lcsA ⟨(lc_scalar rfl), (lc_scalar rfl), trivial⟩) (Nat.le_of_ble_eq_true rfl) trivial trivial rfl rfl (F' := [(b5, .cells true [.int .i64 0, .int .u64 0, .string ⟨#[]⟩] 3), (b1, .cells true [.slice none 0 0, .slice none 0 0] 2)]) rfl (fun H13 s14 => ⟨?_, ?_⟩)
        · exact trivial
        refine x_store [] hF s14 (by kernel_rfl) (gyes_none rfl) (j := 0) (v := .agg #[.int .i64 6, .int .u64 0, .string (⟨#[]⟩ : ByteArray)]) rfl Try.sizeOf44 rfl rfl rfl rfl rfl trivial (lcsA ⟨(lc_scalar rfl), (lc_scalar rfl), (lc_scalar rfl), trivial⟩) (Nat.le_of_ble_eq_true rfl) trivial trivial rfl rfl (F' := [(b5, .cells true [.int .i64 6, .int .u64 0, .string (⟨#[]⟩ : ByteArray)] 3), (b1, .cells true [.slice none 0 0, .slice none 0 0] 2)]) rfl (fun H15 s16 => ⟨?_, ?_⟩)
        · exact trivial
        refine ⟨_, Wk.refl _ _, ?_⟩
        show awp _ _ _ _ _ _ _
        refine awp_ret_wk ?_
        obtain ⟨e1, e2⟩ := sy_many (B := B) (by omega) (by omega) (by omega)
        refine ⟨_, Wk.refl _ _, ?_⟩
        repeat (with_reducible first | refine then_ret ?_ | refine blk_ret ?_ | refine then_exit ?_ | refine blk_exit ?_ | refine blk_exit' (by decide) ?_ | refine blk_normal ?_ | refine then_normal ?_ | refine retq_ret ?_ | refine retq_normal ?_ | refine ng_normal ?_ | refine ng_ret ?_ | refine ng_exit ?_)
        refine ret_is (v := .tuple #[.agg #[.slice none 0 0, .slice none 0 0], .agg #[.int .i64 6, .int .u64 0, .string (⟨#[]⟩ : ByteArray)]]) rfl (.agg rfl Try.isAgg26 Try.sizeOf26 (s16.rd (j := 1) rfl) (Nat.le_of_ble_eq_true rfl) rfl (.agg rfl Try.isAgg44 Try.sizeOf44 (s16.rd (j := 0) rfl) (Nat.le_of_ble_eq_true rfl) rfl .nil)) rfl ?_
        exact .inl ⟨by rw [e1]; decide, by rw [e1, e2]; first | done | rfl | (rw [Nat.mul_comm 4 i]; rfl), s16.kp⟩
      ·
        replace c3 := of_decide_eq_false c3
        refine dv (gyes_none rfl) (q_mv (v := .bool false) rfl) rfl (by decide) (cok1 trivial) ?_
        refine dv (gyes_some rfl rfl) (q_mv (v := .int .u64 ((atV B 4 4 : Nat) : Int)) rfl) rfl (by decide) (cok1 trivial) ?_
        refine dvb (gyes_some rfl rfl) (q_int rfl rfl rfl) rfl (by decide) (cok2 trivial (cconst rfl)) (fun c4 => ?_) (fun c4 => ?_)
        ·
          replace c4 := of_decide_eq_true c4
          refine dv (gyes_none rfl) (q_pf (v := .bool true) rfl rfl) rfl (by decide) (call_ok rfl) ?_
          refine dv (gyes_none rfl) (q_as (v := .bool true) rfl) rfl (by decide) (cok1 trivial) ?_
          refine ⟨_, Wk.refl _ _, ?_⟩
          show awp _ _ _ _ _ _ _
          refine awp_cond_t rfl ?_
          refine awp_seq ?_
          refine awp_regs hF ?_
          refine dv (gyes_none rfl) (q_buildL (ds := [.slice none 0 0, .slice none 0 0]) [(0, 1), (1, 1)] [] Try.underlying26 Try.zeroValue26 (by first | exact flat_agg rfl | exact flat_scalar rfl) (by kernel_rfl) trivial lvs0 rfl) rfl (by decide) (by simp [Op.operands]) ?_
          refine dv (gyes_none rfl) (q_call0 Try.call24 rfl (failOf_ok 6)) rfl (by decide) (cok2 trivial (cconst rfl)) ?_
          refine x_store [] hF s7 (by kernel_rfl) (gyes_none rfl) (j := 1) (v := .agg #[.slice none 0 0, .slice none 0 0]) rfl Try.sizeOf26 rfl rfl rfl rfl rfl trivial (lcsA ⟨(lc_scalar rfl), (lc_scalar rfl), trivial⟩) (Nat.le_of_ble_eq_true rfl) trivial trivial rfl rfl (F' := [(b5, .cells true [.int .i64 0, .int .u64 0, .string ⟨#[]⟩] 3), (b1, .cells true [.slice none 0 0, .slice none 0 0] 2)]) rfl (fun H17 s18 => ⟨?_, ?_⟩)
          · exact trivial
          refine x_store [] hF s18 (by kernel_rfl) (gyes_none rfl) (j := 0) (v := .agg #[.int .i64 6, .int .u64 0, .string (⟨#[]⟩ : ByteArray)]) rfl Try.sizeOf44 rfl rfl rfl rfl rfl trivial (lcsA ⟨(lc_scalar rfl), (lc_scalar rfl), (lc_scalar rfl), trivial⟩) (Nat.le_of_ble_eq_true rfl) trivial trivial rfl rfl (F' := [(b5, .cells true [.int .i64 6, .int .u64 0, .string (⟨#[]⟩ : ByteArray)] 3), (b1, .cells true [.slice none 0 0, .slice none 0 0] 2)]) rfl (fun H19 s20 => ⟨?_, ?_⟩)
          · exact trivial
          refine ⟨_, Wk.refl _ _, ?_⟩
          show awp _ _ _ _ _ _ _
          refine awp_ret_wk ?_
          obtain ⟨e1, e2⟩ := sy_many (B := B) (by omega) (by omega) (by omega)
          refine ⟨_, Wk.refl _ _, ?_⟩
          repeat (with_reducible first | refine then_ret ?_ | refine blk_ret ?_ | refine then_exit ?_ | refine blk_exit ?_ | refine blk_exit' (by decide) ?_ | refine blk_normal ?_ | refine then_normal ?_ | refine retq_ret ?_ | refine retq_normal ?_ | refine ng_normal ?_ | refine ng_ret ?_ | refine ng_exit ?_)
          refine ret_is (v := .tuple #[.agg #[.slice none 0 0, .slice none 0 0], .agg #[.int .i64 6, .int .u64 0, .string (⟨#[]⟩ : ByteArray)]]) rfl (.agg rfl Try.isAgg26 Try.sizeOf26 (s20.rd (j := 1) rfl) (Nat.le_of_ble_eq_true rfl) rfl (.agg rfl Try.isAgg44 Try.sizeOf44 (s20.rd (j := 0) rfl) (Nat.le_of_ble_eq_true rfl) rfl .nil)) rfl ?_
          exact .inl ⟨by rw [e1]; decide, by rw [e1, e2]; first | done | rfl | (rw [Nat.mul_comm 4 i]; rfl), s20.kp⟩
        ·
          replace c4 := of_decide_eq_false c4
          refine dv (gyes_none rfl) (q_pf (v := .bool false) rfl rfl) rfl (by decide) (call_ok rfl) ?_
          refine dv (gyes_none rfl) (q_as (v := .bool false) rfl) rfl (by decide) (cok1 trivial) ?_
          refine ⟨_, Wk.refl _ _, ?_⟩
          show awp _ _ _ _ _ _ _
          refine awp_cond_f rfl ?_
          refine awp_skip_wk ?_
          refine ⟨_, Wk.refl _ _, ?_⟩
          show awp _ _ _ _ _ _ _
          refine awp_seq ?_
          refine awp_regs hF ?_
          refine dv (gyes_none rfl) (q_mv (v := .string B) rfl) rfl (by decide) (cok1 trivial) ?_
          refine dv (gyes_none rfl) (q_mv (v := .int .u64 ((atV B 0 4 : Nat) : Int)) rfl) rfl (by decide) (cok1 trivial) ?_
          refine dv (gyes_none rfl) (q_mv (v := .int .u64 ((atV B 4 4 : Nat) : Int)) rfl) rfl (by decide) (cok1 trivial) ?_
          refine dv (gyes_none rfl) (OpQ.cast (v' := .int .u64 ((atV B 0 4 + (atV B 4 4) : Nat) : Int)) (q_int rfl rfl rfl) (congrArg _ ((u64_in (by omega)).trans (by first | rfl | omega | (push_cast; rfl))))) rfl (by decide) (cok2 trivial trivial) ?_
          refine dv (gyes_none rfl) (OpQ.cast (v' := .int .u64 (((atV B 0 4 + (atV B 4 4)) * 4 : Nat) : Int)) (q_int rfl rfl rfl) (congrArg _ ((u64_in (by omega)).trans (by first | rfl | omega | (push_cast; rfl))))) rfl (by decide) (cok2 trivial (cconst rfl)) ?_
          refine dv (gyes_none rfl) (q_call0 Try.call25 rfl (part_ok B 8 ((atV B 0 4 + (atV B 4 4)) * 4) (by first | assumption | omega) (by omega) (by omega))) rfl (by decide) (call_ok rfl) ?_
          refine dv (gyes_none rfl) (q_mv (v := .tuple #[.string (partV B 8 ((atV B 0 4 + (atV B 4 4)) * 4)), .bool (decide (8 + (atV B 0 4 + (atV B 4 4)) * 4 ≤ B.size))]) rfl) rfl (by decide) (cok1 trivial) ?_
          refine dv (gyes_none rfl) (q_extract (v := .string (partV B 8 ((atV B 0 4 + (atV B 4 4)) * 4))) rfl rfl) rfl (by decide) (cok1 trivial) ?_
          refine dvb (gyes_none rfl) (q_extract (v := .bool (decide (8 + (atV B 0 4 + (atV B 4 4)) * 4 ≤ B.size))) rfl rfl) rfl (by decide) (cok1 trivial) (fun c5 => ?_) (fun c5 => ?_)
          ·
            replace c5 := of_decide_eq_true c5
            refine dv (gyes_none rfl) (q_as (v := .string (partV B 8 ((atV B 0 4 + (atV B 4 4)) * 4))) rfl) rfl (by decide) (cok1 trivial) ?_
            refine dv (gyes_none rfl) (q_as (v := .bool true) rfl) rfl (by decide) (cok1 trivial) ?_
            refine ⟨_, Wk.refl _ _, ?_⟩
            show awp _ _ _ _ _ _ _
            refine awp_seq ?_
            refine awp_seq ?_
            refine awp_regs hF ?_
            refine dv (gyes_none rfl) (q_mv (v := .bool true) rfl) rfl (by decide) (cok1 trivial) ?_
            refine dv (gyes_none rfl) (q_not (b := true) rfl) rfl (by decide) (cok1 trivial) ?_
            refine ⟨_, Wk.refl _ _, ?_⟩
            show awp _ _ _ _ _ _ _
            refine awp_cond_f rfl ?_
            refine awp_skip_wk ?_
            refine ⟨_, Wk.refl _ _, ?_⟩
            show awp _ _ _ _ _ _ _
            refine awp_seq ?_
            refine awp_regs hF ?_
            refine dv (gyes_none rfl) (q_mv (v := .string (partV B 8 ((atV B 0 4 + (atV B 4 4)) * 4))) rfl) rfl (by decide) (cok1 trivial) ?_
            refine x_new (fun b => .slice (some ⟨b, 0, none⟩) (numL (partV B 8 ((atV B 0 4 + (atV B 4 4)) * 4))).length (numL (partV B 8 ((atV B 0 4 + (atV B 4 4)) * 4))).length) s7 (gyes_none rfl) (q_call (Δ := [.cells true ((numL (partV B 8 ((atV B 0 4 + (atV B 4 4)) * 4))).map u32v) 1]) Try.call26 rfl (by simp [AObj.wr]) (acalls_fresh u32v_sc (numbers_ok (partV B 8 ((atV B 0 4 + (atV B 4 4)) * 4)) (by rw [partV_in (by omega), size_extract (by omega)]; omega)))) rfl (by decide) (cok2 trivial trivial) (fun b21 H22 hb24 s23 => ?_)
            refine dv (gyes_none rfl) (q_as (v := .slice (some ⟨b21, 0, none⟩) ((numL (partV B 8 ((atV B 0 4 + (atV B 4 4)) * 4))).length) ((numL (partV B 8 ((atV B 0 4 + (atV B 4 4)) * 4))).length)) rfl) rfl (by decide) (cok1 trivial) ?_
            refine ⟨_, Wk.refl _ _, ?_⟩
            show awp _ _ _ _ _ _ _
            refine awp_seq ?_
            refine awp_seq ?_
            have hall : numL (partV B 8 ((atV B 0 4 + atV B 4 4) * 4)) = allL B (nmS B) := num_all (by show 8 + (atV B 0 4 + atV B 4 4) * 4 ≤ _; omega)
            have hnmE : nmS B = atV B 0 4 + atV B 4 4 := rfl
            have hln := allL_len B (nmS B)
            rw [hall] at s23
            try rw [hall]
            refine awp_regs hF ?_
            refine dv (gyes_none rfl) (q_mv (v := .slice (some ⟨b21, 0, none⟩) ((allL B (nmS B)).length) ((allL B (nmS B)).length)) rfl) rfl (by decide) (cok1 trivial) ?_
            refine dv (gyes_none rfl) (q_len_slice Try.underlying24 rfl (s23.rd (j := 0) rfl)) rfl (by decide) (cok1 trivial) ?_
            refine dv (gyes_none rfl) (q_mv (v := .int .i64 0) rfl) rfl (by decide) (cok1 (cconst rfl)) ?_
            refine ⟨_, Wk.refl _ _, ?_⟩
            show awp _ _ _ _ _ _ _
            refine awp_block ?_
            refine awp_wk (Wk.U [(0, .string B), (2, .pointer (some ⟨b1, 0, none⟩)), (3, .pointer (some ⟨b5, 0, none⟩)), (4, .int .u64 ((atV B 0 4 : Nat) : Int)), (6, .int .u64 ((atV B 4 4 : Nat) : Int)), (9, .slice (some ⟨b21, 0, none⟩) ((allL B (nmS B)).length) ((allL B (nmS B)).length)), (56, .slice (some ⟨b21, 0, none⟩) ((allL B (nmS B)).length) ((allL B (nmS B)).length)), (57, .int .i64 (((allL B (nmS B)).length : Nat) : Int)), (58, .int .i64 0)] ⟨rfl, rfl, rfl, rfl, rfl, rfl, rfl, rfl, rfl, trivial⟩) ?_
            refine awp_loop (fun (i : Nat) st => ∃ (H25 : AHeap), st = ⟨87, U [(0, .string B), (2, .pointer (some ⟨b1, 0, none⟩)), (3, .pointer (some ⟨b5, 0, none⟩)), (4, .int .u64 ((atV B 0 4 : Nat) : Int)), (6, .int .u64 ((atV B 4 4 : Nat) : Int)), (9, .slice (some ⟨b21, 0, none⟩) ((allL B (nmS B)).length) ((allL B (nmS B)).length)), (56, .slice (some ⟨b21, 0, none⟩) ((allL B (nmS B)).length) ((allL B (nmS B)).length)), (57, .int .i64 (((allL B (nmS B)).length : Nat) : Int)), (58, .int .i64 ((i : Nat) : Int))], [], H25⟩ ∧ St H0 (none0) (Rd H0) H25 [(b21, .cells true ((allL B (nmS B)).map u32v) 1), (b5, .cells true [.int .i64 0, .int .u64 0, .string ⟨#[]⟩] 3), (b1, .cells true [.slice none 0 0, .slice none 0 0] 2)] ∧ (∀ j, j < i → badV B j = false)) (fun (i : Nat) => nmS B - i) (x0 := (0)) ?h0 ?round
            case h0 =>
              exact ⟨_, rfl, s23, fun j h => absurd h (Nat.not_lt_zero _)⟩
            case round =>
              rintro i _ ⟨H25, rfl, s26, hi⟩
              refine awp_seq ?_
              refine awp_regs hF ?_
              refine dvb (gyes_none rfl) (q_int rfl rfl rfl) rfl (by decide) (cok2 trivial trivial) (fun c6 => ?_) (fun c6 => ?_)
              ·
                replace c6 := of_decide_eq_true c6
                refine ⟨_, Wk.refl _ _, ?_⟩
                show awp _ _ _ _ _ _ _
                refine awp_seq ?_
                refine awp_cond_t rfl ?_
                refine awp_skip_wk ?_
                refine ⟨_, Wk.refl _ _, ?_⟩
                show awp _ _ _ _ _ _ _
                refine awp_seq ?_
                refine awp_block ?_
                refine awp_seq ?_
                refine awp_regs hF ?_
                refine dv (gyes_none rfl) (q_mv (v := .int .i64 ((i : Nat) : Int)) rfl) rfl (by decide) (cok1 trivial) ?_
                refine dv (gyes_none rfl) (OpQ.cast (v' := .pointer (some ⟨b21, i, none⟩)) (q_index1 (i := i) Try.underlying24 Try.sizeOf31 rfl rfl (by omega) (s26.rd (j := 0) rfl)) (by rw [Nat.zero_add])) rfl (by decide) (cok2 trivial trivial) ?_
                refine dv (gyes_none rfl) (q_load (v := u32v (nth (allL B (nmS B)) i)) Try.isAgg31 rfl (s26.rd (j := 0) rfl) (get_nth (w := 0) (by omega))) rfl (by decide) (cok1 trivial) ?_
                refine dv (gyes_none rfl) (q_as (v := .int .i64 ((i : Nat) : Int)) rfl) rfl (by decide) (cok1 trivial) ?_
                refine dv (gyes_none rfl) (q_as (v := .int .u32 ((nth (allL B (nmS B)) i : Nat) : Int)) rfl) rfl (by decide) (cok1 trivial) ?_
                refine ⟨_, Wk.refl _ _, ?_⟩
                show awp _ _ _ _ _ _ _
                refine awp_seq ?_
                have hv : nth (allL B (nmS B)) i = vN B i := allL_nth (by omega)
                have hvl := vN_lt B i
                rw [← hv] at hvl
                refine awp_regs hF ?_
                refine dv (gyes_none rfl) (q_mv (v := .int .u32 ((nth (allL B (nmS B)) i : Nat) : Int)) rfl) rfl (by decide) (cok1 trivial) ?_
                refine dvb (gyes_none rfl) (q_int rfl rfl rfl) rfl (by decide) (cok2 trivial (cconst rfl)) (fun c7 => ?_) (fun c7 => ?_)
                ·
                  replace c7 := bne_iff_ne.1 c7
                  refine dv (gyes_none rfl) (q_mv (v := .bool true) rfl) rfl (by decide) (cok1 trivial) ?_
                  refine dv (gyes_some rfl rfl) (q_mv (v := .int .u32 ((nth (allL B (nmS B)) i : Nat) : Int)) rfl) rfl (by decide) (cok1 trivial) ?_
                  refine dv (gyes_some rfl rfl) (q_convin (a := ((nth (allL B (nmS B)) i : Nat) : Int)) Try.underlying31 Try.underlying42 rfl (u64_in (by omega))) rfl (by decide) (cok1 trivial) ?_
                  refine dv (gyes_some rfl rfl) (q_mv (v := .int .u64 ((atV B 4 4 : Nat) : Int)) rfl) rfl (by decide) (cok1 trivial) ?_
                  refine dvb (gyes_some rfl rfl) (q_int rfl rfl rfl) rfl (by decide) (cok2 trivial trivial) (fun c8 => ?_) (fun c8 => ?_)
                  ·
                    replace c8 := of_decide_eq_true c8
                    refine dv (gyes_none rfl) (q_pt (v := .bool true) rfl rfl) rfl (by decide) (call_ok rfl) ?_
                    refine ⟨_, Wk.refl _ _, ?_⟩
                    show awp _ _ _ _ _ _ _
                    refine awp_cond_t rfl ?_
                    refine awp_seq ?_
                    refine awp_regs hF ?_
                    refine dv (gyes_none rfl) (q_buildL (ds := [.slice none 0 0, .slice none 0 0]) [(0, 1), (1, 1)] [] Try.underlying26 Try.zeroValue26 (by first | exact flat_agg rfl | exact flat_scalar rfl) (by kernel_rfl) trivial lvs0 rfl) rfl (by decide) (by simp [Op.operands]) ?_
                    refine dv (gyes_none rfl) (q_mv (v := .int .i64 ((i : Nat) : Int)) rfl) rfl (by decide) (cok1 trivial) ?_
                    refine dv (gyes_none rfl) (q_convin (a := ((i : Nat) : Int)) Try.underlying3 Try.underlying42 rfl (u64_in (by omega))) rfl (by decide) (cok1 trivial) ?_
                    refine dv (gyes_none rfl) (OpQ.cast (v' := .int .u64 ((i * 4 : Nat) : Int)) (q_int rfl rfl rfl) (congrArg _ ((u64_in (by omega)).trans (by first | rfl | omega | (push_cast; rfl))))) rfl (by decide) (cok2 trivial (cconst rfl)) ?_
                    refine dv (gyes_none rfl) (OpQ.cast (v' := .int .u64 ((8 + (i * 4) : Nat) : Int)) (q_int rfl rfl rfl) (congrArg _ ((u64_in (by omega)).trans (by first | rfl | omega | (push_cast; rfl))))) rfl (by decide) (cok2 (cconst rfl) trivial) ?_
                    refine dv (gyes_none rfl) (q_call0 Try.call27 rfl (failAt_ok 5 (8 + (i * 4)))) rfl (by decide) (call_ok rfl) ?_
                    refine x_store [] hF s26 (by kernel_rfl) (gyes_none rfl) (j := 2) (v := .agg #[.slice none 0 0, .slice none 0 0]) rfl Try.sizeOf26 rfl rfl rfl rfl rfl trivial (lcsA ⟨(lc_scalar rfl), (lc_scalar rfl), trivial⟩) (Nat.le_of_ble_eq_true rfl) trivial trivial rfl rfl (F' := [(b21, .cells true ((allL B (nmS B)).map u32v) 1), (b5, .cells true [.int .i64 0, .int .u64 0, .string ⟨#[]⟩] 3), (b1, .cells true [.slice none 0 0, .slice none 0 0] 2)]) rfl (fun H27 s28 => ⟨?_, ?_⟩)
                    · exact trivial
                    refine x_store [] hF s28 (by kernel_rfl) (gyes_none rfl) (j := 1) (v := .agg #[.int .i64 5, .int .u64 ((8 + (i * 4) : Nat) : Int), .string (⟨#[]⟩ : ByteArray)]) rfl Try.sizeOf44 rfl rfl rfl rfl rfl trivial (lcsA ⟨(lc_scalar rfl), (lc_scalar rfl), (lc_scalar rfl), trivial⟩) (Nat.le_of_ble_eq_true rfl) trivial trivial rfl rfl (F' := [(b21, .cells true ((allL B (nmS B)).map u32v) 1), (b5, .cells true [.int .i64 5, .int .u64 ((8 + (i * 4) : Nat) : Int), .string (⟨#[]⟩ : ByteArray)] 3), (b1, .cells true [.slice none 0 0, .slice none 0 0] 2)]) rfl (fun H29 s30 => ⟨?_, ?_⟩)
                    · exact trivial
                    refine ⟨_, Wk.refl _ _, ?_⟩
                    show awp _ _ _ _ _ _ _
                    refine awp_ret_wk ?_
                    obtain ⟨e1, e2⟩ := sy_bad (B := B) (i := i) (by omega) (by omega) (by omega) (by show 8 + (atV B 0 4 + atV B 4 4) * 4 ≤ _; omega) (by omega) (badV_y (by rw [← hv]; omega) (by rw [← hv]; omega)) hi
                    refine ⟨_, Wk.refl _ _, ?_⟩
                    repeat (with_reducible first | refine then_ret ?_ | refine blk_ret ?_ | refine then_exit ?_ | refine blk_exit ?_ | refine blk_exit' (by decide) ?_ | refine blk_normal ?_ | refine then_normal ?_ | refine retq_ret ?_ | refine retq_normal ?_ | refine ng_normal ?_ | refine ng_ret ?_ | refine ng_exit ?_)
                    refine ret_is (v := .tuple #[.agg #[.slice none 0 0, .slice none 0 0], .agg #[.int .i64 5, .int .u64 ((8 + (i * 4) : Nat) : Int), .string (⟨#[]⟩ : ByteArray)]]) rfl (.agg rfl Try.isAgg26 Try.sizeOf26 (s30.rd (j := 2) rfl) (Nat.le_of_ble_eq_true rfl) rfl (.agg rfl Try.isAgg44 Try.sizeOf44 (s30.rd (j := 1) rfl) (Nat.le_of_ble_eq_true rfl) rfl .nil)) rfl ?_
                    exact .inl ⟨by rw [e1]; decide, by rw [e1, e2]; first | done | rfl | (rw [Nat.mul_comm 4 i]; rfl), s30.kp⟩
                  ·
                    replace c8 := of_decide_eq_false c8
                    refine dv (gyes_none rfl) (q_pt (v := .bool false) rfl rfl) rfl (by decide) (call_ok rfl) ?_
                    refine ⟨_, Wk.refl _ _, ?_⟩
                    show awp _ _ _ _ _ _ _
                    refine awp_cond_f rfl ?_
                    refine awp_skip_wk ?_
                    refine ⟨_, Wk.refl _ _, ?_⟩
                    show awp _ _ _ _ _ _ _
                    refine awp_regs hF ?_
                    refine dv (gyes_none rfl) (OpQ.cast (v' := .int .i64 ((i + 1 : Nat) : Int)) (q_int rfl rfl rfl) (congrArg _ ((i64_in (by omega)).trans (by first | rfl | omega | (push_cast; rfl))))) rfl (by decide) (cok2 trivial (cconst rfl)) ?_
                    refine dv (gyes_none rfl) (q_mv (v := .int .i64 ((i + 1 : Nat) : Int)) rfl) rfl (by decide) (cok1 trivial) ?_
                    refine ⟨_, Wk.U [(0, .string B), (2, .pointer (some ⟨b1, 0, none⟩)), (3, .pointer (some ⟨b5, 0, none⟩)), (4, .int .u64 ((atV B 0 4 : Nat) : Int)), (6, .int .u64 ((atV B 4 4 : Nat) : Int)), (9, .slice (some ⟨b21, 0, none⟩) ((allL B (nmS B)).length) ((allL B (nmS B)).length)), (56, .slice (some ⟨b21, 0, none⟩) ((allL B (nmS B)).length) ((allL B (nmS B)).length)), (57, .int .i64 (((allL B (nmS B)).length : Nat) : Int)), (58, .int .i64 (((i + 1) : Nat) : Int))] ⟨rfl, rfl, rfl, rfl, rfl, rfl, rfl, rfl, rfl, trivial⟩, (i + 1), ⟨_, rfl, s26, lt_succ_casesN hi (badV_n (by rw [← hv]; omega))⟩, (by omega)⟩
                ·
                  replace c7 := bne_eq_false_iff_eq.1 c7
                  refine dv (gyes_none rfl) (q_mv (v := .bool false) rfl) rfl (by decide) (cok1 trivial) ?_
                  refine dno rfl (.inl rfl) rfl (by decide) ?_
                  refine dno rfl (.inl rfl) rfl (by decide) ?_
                  refine dno rfl (.inl rfl) rfl (by decide) ?_
                  refine dno rfl (.inl rfl) rfl (by decide) ?_
                  refine dv (gyes_none rfl) (q_pf (v := .bool false) rfl rfl) rfl (by decide) (call_ok rfl) ?_
                  refine ⟨_, Wk.refl _ _, ?_⟩
                  show awp _ _ _ _ _ _ _
                  refine awp_cond_f rfl ?_
                  refine awp_skip_wk ?_
                  refine ⟨_, Wk.refl _ _, ?_⟩
                  show awp _ _ _ _ _ _ _
                  refine awp_regs hF ?_
                  refine dv (gyes_none rfl) (OpQ.cast (v' := .int .i64 ((i + 1 : Nat) : Int)) (q_int rfl rfl rfl) (congrArg _ ((i64_in (by omega)).trans (by first | rfl | omega | (push_cast; rfl))))) rfl (by decide) (cok2 trivial (cconst rfl)) ?_
                  refine dv (gyes_none rfl) (q_mv (v := .int .i64 ((i + 1 : Nat) : Int)) rfl) rfl (by decide) (cok1 trivial) ?_
                  refine ⟨_, Wk.U [(0, .string B), (2, .pointer (some ⟨b1, 0, none⟩)), (3, .pointer (some ⟨b5, 0, none⟩)), (4, .int .u64 ((atV B 0 4 : Nat) : Int)), (6, .int .u64 ((atV B 4 4 : Nat) : Int)), (9, .slice (some ⟨b21, 0, none⟩) ((allL B (nmS B)).length) ((allL B (nmS B)).length)), (56, .slice (some ⟨b21, 0, none⟩) ((allL B (nmS B)).length) ((allL B (nmS B)).length)), (57, .int .i64 (((allL B (nmS B)).length : Nat) : Int)), (58, .int .i64 (((i + 1) : Nat) : Int))] ⟨rfl, rfl, rfl, rfl, rfl, rfl, rfl, rfl, rfl, trivial⟩, (i + 1), ⟨_, rfl, s26, lt_succ_casesN hi (badV_n (by rw [← hv]; omega))⟩, (by omega)⟩
              ·
                replace c6 := of_decide_eq_false c6
                refine ⟨_, Wk.refl _ _, ?_⟩
                show awp _ _ _ _ _ _ _
                refine awp_seq ?_
                refine awp_cond_f rfl ?_
                refine awp_exit_wk ?_
                refine ⟨_, Wk.refl _ _, ?_⟩
                show awp _ _ _ _ _ _ _
                refine awp_seq ?_
                refine awp_regt hF hM (by kernel_rfl) (by kernel_rfl) ?_
                refine dv (gyes_none rfl) (q_mv (v := .slice (some ⟨b21, 0, none⟩) ((allL B (nmS B)).length) ((allL B (nmS B)).length)) rfl) rfl (by decide) (cok1 trivial) ?_
                refine dv (gyes_none rfl) (q_mv (v := .int .u64 ((atV B 0 4 : Nat) : Int)) rfl) rfl (by decide) (cok1 trivial) ?_
                refine dv (gyes_none rfl) (q_mv (v := .int .u64 ((atV B 0 4 : Nat) : Int)) rfl) rfl (by decide) (cok1 trivial) ?_
                refine dv (gyes_none rfl) (OpQ.cast (v' := .slice (some ⟨b21, 0, none⟩) (atV B 0 4) (atV B 0 4)) (q_slice (i := 0) (j := (atV B 0 4)) (m := (atV B 0 4)) Try.underlying24 Try.sizeOf31 rfl (s26.rd (j := 0) rfl) rfl ⟨_, rfl⟩ ⟨_, rfl⟩ (by omega) (by omega) (by omega)) (by simp)) rfl (by decide) (call_ok rfl) ?_
                refine dv (gyes_none rfl) (q_mv (v := .slice (some ⟨b21, 0, none⟩) ((allL B (nmS B)).length) ((allL B (nmS B)).length)) rfl) rfl (by decide) (cok1 trivial) ?_
                refine dv (gyes_none rfl) (q_mv (v := .int .u64 ((atV B 0 4 : Nat) : Int)) rfl) rfl (by decide) (cok1 trivial) ?_
                refine dv (gyes_none rfl) (OpQ.cast (v' := .slice (some ⟨b21, atV B 0 4, none⟩) (((allL B (nmS B)).length) - (atV B 0 4)) (((allL B (nmS B)).length) - (atV B 0 4))) (q_slice (i := (atV B 0 4)) (j := ((allL B (nmS B)).length)) (m := ((allL B (nmS B)).length)) Try.underlying24 Try.sizeOf31 rfl (s26.rd (j := 0) rfl) ⟨_, rfl⟩ ⟨rfl, rfl⟩ rfl (by omega) (by omega) (by omega)) (by simp)) rfl (by decide) (cok2 trivial trivial) ?_
                refine dv (gyes_none rfl) (q_buildL (ds := [.slice (some ⟨b21, 0, none⟩) (atV B 0 4) (atV B 0 4), .slice (some ⟨b21, atV B 0 4, none⟩) (((allL B (nmS B)).length) - (atV B 0 4)) (((allL B (nmS B)).length) - (atV B 0 4))]) [(0, 1), (1, 1)] [.slice (some ⟨b21, 0, none⟩) (atV B 0 4) (atV B 0 4), .slice (some ⟨b21, atV B 0 4, none⟩) (((allL B (nmS B)).length) - (atV B 0 4)) (((allL B (nmS B)).length) - (atV B 0 4))] Try.underlying26 Try.zeroValue26 (by first | exact flat_agg rfl | exact flat_scalar rfl) (by kernel_rfl) ⟨rfl, rfl, trivial⟩ (lvsC (s26.live (j := 0) rfl) (lvsC (s26.live (j := 0) rfl) lvs0)) rfl) rfl (by decide) (cok2 trivial trivial) ?_
                refine dv (gyes_none rfl) (q_buildL (ds := [.int .i64 0, .int .u64 0, .string ⟨#[]⟩]) [(0, 1), (1, 1), (2, 1)] [] Try.underlying44 Try.zeroValue44 (by first | exact flat_agg rfl | exact flat_scalar rfl) (by kernel_rfl) trivial lvs0 rfl) rfl (by decide) (by simp [Op.operands]) ?_
                refine x_store [8] hF s26 (by kernel_rfl) (gyes_none rfl) (j := 2) (v := .agg #[.slice (some ⟨b21, 0, none⟩) (atV B 0 4) (atV B 0 4), .slice (some ⟨b21, atV B 0 4, none⟩) (((allL B (nmS B)).length) - (atV B 0 4)) (((allL B (nmS B)).length) - (atV B 0 4))]) rfl Try.sizeOf26 rfl rfl rfl rfl rfl trivial (lcsA ⟨(lc_slice (s26.live (j := 0) rfl)), (lc_slice (s26.live (j := 0) rfl)), trivial⟩) (Nat.le_of_ble_eq_true rfl) trivial trivial rfl rfl (F' := [(b21, .cells true ((allL B (nmS B)).map u32v) 1), (b5, .cells true [.int .i64 0, .int .u64 0, .string ⟨#[]⟩] 3), (b1, .cells true [.slice (some ⟨b21, 0, none⟩) (atV B 0 4) (atV B 0 4), .slice (some ⟨b21, atV B 0 4, none⟩) (((allL B (nmS B)).length) - (atV B 0 4)) (((allL B (nmS B)).length) - (atV B 0 4))] 2)]) rfl (fun H31 s32 => ⟨?_, ?_⟩)
                · exact ⟨pend_yes rfl (gyes_none rfl) (q_buildL (ds := [.int .i64 0, .int .u64 0, .string ⟨#[]⟩]) [(0, 1), (1, 1), (2, 1)] [] Try.underlying44 Try.zeroValue44 (by first | exact flat_agg rfl | exact flat_scalar rfl) (by kernel_rfl) trivial lvs0 rfl) rfl (by decide) (by simp [Op.operands]) rfl, trivial⟩
                refine x_store [] hF s32 (by kernel_rfl) (gyes_none rfl) (j := 1) (v := .agg #[.int .i64 0, .int .u64 0, .string ⟨#[]⟩]) rfl Try.sizeOf44 rfl rfl rfl rfl rfl trivial (lcsA ⟨(lc_scalar rfl), (lc_scalar rfl), (lc_scalar rfl), trivial⟩) (Nat.le_of_ble_eq_true rfl) trivial trivial rfl rfl (F' := [(b21, .cells true ((allL B (nmS B)).map u32v) 1), (b5, .cells true [.int .i64 0, .int .u64 0, .string ⟨#[]⟩] 3), (b1, .cells true [.slice (some ⟨b21, 0, none⟩) (atV B 0 4) (atV B 0 4), .slice (some ⟨b21, atV B 0 4, none⟩) (((allL B (nmS B)).length) - (atV B 0 4)) (((allL B (nmS B)).length) - (atV B 0 4))] 2)]) rfl (fun H33 s34 => ⟨?_, ?_⟩)
                · exact trivial
                refine ⟨_, Wk.refl _ _, ?_⟩
                show awp _ _ _ _ _ _ _
                refine awp_ret_wk ?_
                obtain ⟨e1, e2⟩ := sy_good (B := B) (by omega) (by omega) (by omega) (by show 8 + (atV B 0 4 + atV B 4 4) * 4 ≤ _; omega) (fun j hj => hi j (by omega))
                refine ⟨_, Wk.refl _ _, ?_⟩
                repeat (with_reducible first | refine then_ret ?_ | refine blk_ret ?_ | refine then_exit ?_ | refine blk_exit ?_ | refine blk_exit' (by decide) ?_ | refine blk_normal ?_ | refine then_normal ?_ | refine retq_ret ?_ | refine retq_normal ?_ | refine ng_normal ?_ | refine ng_ret ?_ | refine ng_exit ?_)
                refine ret_is (v := .tuple #[.agg #[.slice (some ⟨b21, 0, none⟩) (atV B 0 4) (atV B 0 4), .slice (some ⟨b21, atV B 0 4, none⟩) (((allL B (nmS B)).length) - (atV B 0 4)) (((allL B (nmS B)).length) - (atV B 0 4))], .agg #[.int .i64 0, .int .u64 0, .string ⟨#[]⟩]]) rfl (.agg rfl Try.isAgg26 Try.sizeOf26 (s34.rd (j := 2) rfl) (Nat.le_of_ble_eq_true rfl) rfl (.agg rfl Try.isAgg44 Try.sizeOf44 (s34.rd (j := 1) rfl) (Nat.le_of_ble_eq_true rfl) rfl .nil)) rfl ?_
                exact .inr ⟨e1, _, s34.kp, s34.out (j := 0) rfl, rfl, s34.getj (j := 0) rfl⟩
          ·
            replace c5 := of_decide_eq_false c5
            refine dv (gyes_none rfl) (q_as (v := .string (partV B 8 ((atV B 0 4 + (atV B 4 4)) * 4))) rfl) rfl (by decide) (cok1 trivial) ?_
            refine dv (gyes_none rfl) (q_as (v := .bool false) rfl) rfl (by decide) (cok1 trivial) ?_
            refine ⟨_, Wk.refl _ _, ?_⟩
            show awp _ _ _ _ _ _ _
            refine awp_seq ?_
            refine awp_seq ?_
            refine awp_regs hF ?_
            refine dv (gyes_none rfl) (q_mv (v := .bool false) rfl) rfl (by decide) (cok1 trivial) ?_
            refine dv (gyes_none rfl) (q_not (b := false) rfl) rfl (by decide) (cok1 trivial) ?_
            refine ⟨_, Wk.refl _ _, ?_⟩
            show awp _ _ _ _ _ _ _
            refine awp_cond_t rfl ?_
            refine awp_seq ?_
            refine awp_regs hF ?_
            refine dv (gyes_none rfl) (q_buildL (ds := [.slice none 0 0, .slice none 0 0]) [(0, 1), (1, 1)] [] Try.underlying26 Try.zeroValue26 (by first | exact flat_agg rfl | exact flat_scalar rfl) (by kernel_rfl) trivial lvs0 rfl) rfl (by decide) (by simp [Op.operands]) ?_
            refine dv (gyes_none rfl) (q_call0 Try.call24 rfl (failOf_ok 2)) rfl (by decide) (cok2 trivial (cconst rfl)) ?_
            refine x_store [] hF s7 (by kernel_rfl) (gyes_none rfl) (j := 1) (v := .agg #[.slice none 0 0, .slice none 0 0]) rfl Try.sizeOf26 rfl rfl rfl rfl rfl trivial (lcsA ⟨(lc_scalar rfl), (lc_scalar rfl), trivial⟩) (Nat.le_of_ble_eq_true rfl) trivial trivial rfl rfl (F' := [(b5, .cells true [.int .i64 0, .int .u64 0, .string ⟨#[]⟩] 3), (b1, .cells true [.slice none 0 0, .slice none 0 0] 2)]) rfl (fun H35 s36 => ⟨?_, ?_⟩)
            · exact trivial
            refine x_store [] hF s36 (by kernel_rfl) (gyes_none rfl) (j := 0) (v := .agg #[.int .i64 2, .int .u64 0, .string (⟨#[]⟩ : ByteArray)]) rfl Try.sizeOf44 rfl rfl rfl rfl rfl trivial (lcsA ⟨(lc_scalar rfl), (lc_scalar rfl), (lc_scalar rfl), trivial⟩) (Nat.le_of_ble_eq_true rfl) trivial trivial rfl rfl (F' := [(b5, .cells true [.int .i64 2, .int .u64 0, .string (⟨#[]⟩ : ByteArray)] 3), (b1, .cells true [.slice none 0 0, .slice none 0 0] 2)]) rfl (fun H37 s38 => ⟨?_, ?_⟩)
            · exact trivial
            refine ⟨_, Wk.refl _ _, ?_⟩
            show awp _ _ _ _ _ _ _
            refine awp_ret_wk ?_
            obtain ⟨e1, e2⟩ := sy_out (B := B) (by omega) (by omega) (by omega) (by show ¬ (8 + (atV B 0 4 + atV B 4 4) * 4 ≤ _); omega)
            refine ⟨_, Wk.refl _ _, ?_⟩
            repeat (with_reducible first | refine then_ret ?_ | refine blk_ret ?_ | refine then_exit ?_ | refine blk_exit ?_ | refine blk_exit' (by decide) ?_ | refine blk_normal ?_ | refine then_normal ?_ | refine retq_ret ?_ | refine retq_normal ?_ | refine ng_normal ?_ | refine ng_ret ?_ | refine ng_exit ?_)
            refine ret_is (v := .tuple #[.agg #[.slice none 0 0, .slice none 0 0], .agg #[.int .i64 2, .int .u64 0, .string (⟨#[]⟩ : ByteArray)]]) rfl (.agg rfl Try.isAgg26 Try.sizeOf26 (s38.rd (j := 1) rfl) (Nat.le_of_ble_eq_true rfl) rfl (.agg rfl Try.isAgg44 Try.sizeOf44 (s38.rd (j := 0) rfl) (Nat.le_of_ble_eq_true rfl) rfl .nil)) rfl ?_
            exact .inl ⟨by rw [e1]; decide, by rw [e1, e2]; first | done | rfl | (rw [Nat.mul_comm 4 i]; rfl), s38.kp⟩
  ·
    replace c1 := of_decide_eq_false c1
    refine dv (gyes_none rfl) (q_as (v := .int .u64 ((atV B 4 4 : Nat) : Int)) rfl) rfl (by decide) (cok1 trivial) ?_
    refine dv (gyes_none rfl) (q_as (v := .bool false) rfl) rfl (by decide) (cok1 trivial) ?_
    refine ⟨_, Wk.refl _ _, ?_⟩
    show awp _ _ _ _ _ _ _
    refine awp_seq ?_
    refine awp_block ?_
    refine awp_seq ?_
    refine awp_regs hF ?_
    refine dv (gyes_none rfl) (q_mv (v := .bool false) rfl) rfl (by decide) (cok1 trivial) ?_
    refine dv (gyes_none rfl) (q_not (b := false) rfl) rfl (by decide) (cok1 trivial) ?_
    refine dv (gyes_none rfl) (q_as (v := .bool true) rfl) rfl (by decide) (cok1 trivial) ?_
    refine ⟨_, Wk.refl _ _, ?_⟩
    show awp _ _ _ _ _ _ _
    refine awp_cond_t rfl ?_
    refine awp_seq ?_
    refine awp_regs hF ?_
    refine dv (gyes_none rfl) (q_buildL (ds := [.slice none 0 0, .slice none 0 0]) [(0, 1), (1, 1)] [] Try.underlying26 Try.zeroValue26 (by first | exact flat_agg rfl | exact flat_scalar rfl) (by kernel_rfl) trivial lvs0 rfl) rfl (by decide) (by simp [Op.operands]) ?_
    refine dv (gyes_none rfl) (q_call0 Try.call24 rfl (failOf_ok 2)) rfl (by decide) (cok2 trivial (cconst rfl)) ?_
    refine x_store [] hF s7 (by kernel_rfl) (gyes_none rfl) (j := 1) (v := .agg #[.slice none 0 0, .slice none 0 0]) rfl Try.sizeOf26 rfl rfl rfl rfl rfl trivial (lcsA ⟨(lc_scalar rfl), (lc_scalar rfl), trivial⟩) (Nat.le_of_ble_eq_true rfl) trivial trivial rfl rfl (F' := [(b5, .cells true [.int .i64 0, .int .u64 0, .string ⟨#[]⟩] 3), (b1, .cells true [.slice none 0 0, .slice none 0 0] 2)]) rfl (fun H39 s40 => ⟨?_, ?_⟩)
    · exact trivial
    refine x_store [] hF s40 (by kernel_rfl) (gyes_none rfl) (j := 0) (v := .agg #[.int .i64 2, .int .u64 0, .string (⟨#[]⟩ : ByteArray)]) rfl Try.sizeOf44 rfl rfl rfl rfl rfl trivial (lcsA ⟨(lc_scalar rfl), (lc_scalar rfl), (lc_scalar rfl), trivial⟩) (Nat.le_of_ble_eq_true rfl) trivial trivial rfl rfl (F' := [(b5, .cells true [.int .i64 2, .int .u64 0, .string (⟨#[]⟩ : ByteArray)] 3), (b1, .cells true [.slice none 0 0, .slice none 0 0] 2)]) rfl (fun H41 s42 => ⟨?_, ?_⟩)
    · exact trivial
    refine ⟨_, Wk.refl _ _, ?_⟩
    show awp _ _ _ _ _ _ _
    refine awp_ret_wk ?_
    obtain ⟨e1, e2⟩ := sy_short (B := B) (by omega)
    refine ⟨_, Wk.refl _ _, ?_⟩
    repeat (with_reducible first | refine then_ret ?_ | refine blk_ret ?_ | refine then_exit ?_ | refine blk_exit ?_ | refine blk_exit' (by decide) ?_ | refine blk_normal ?_ | refine then_normal ?_ | refine retq_ret ?_ | refine retq_normal ?_ | refine ng_normal ?_ | refine ng_ret ?_ | refine ng_exit ?_)
    refine ret_is (v := .tuple #[.agg #[.slice none 0 0, .slice none 0 0], .agg #[.int .i64 2, .int .u64 0, .string (⟨#[]⟩ : ByteArray)]]) rfl (.agg rfl Try.isAgg26 Try.sizeOf26 (s42.rd (j := 1) rfl) (Nat.le_of_ble_eq_true rfl) rfl (.agg rfl Try.isAgg44 Try.sizeOf44 (s42.rd (j := 0) rfl) (Nat.le_of_ble_eq_true rfl) rfl .nil)) rfl ?_
    exact .inl ⟨by rw [e1]; decide, by rw [e1, e2]; first | done | rfl | (rw [Nat.mul_comm 4 i]; rfl), s42.kp⟩

end Go.Proofs.YtmoldjiooccppaaA


/-
  Walks of functions of the given program, and what they compute.
-/
namespace Go.Proofs.YtmoldjiooccppaaA
set_option linter.unusedVariables false
open Go Go.RowKit Go.Shelf Go.Proofs
set_option maxRecDepth 100000 in
set_option maxHeartbeats 4000000 in
theorem rsread_ok {H0 : AHeap} (B : ByteArray) (hB : B.size ≤ 140737488355328) : ACalls Try.prog 16 [.string B] H0 (fun v H' => (syC B ≠ 0 ∧ v = .tuple #[.slice none 0 0, .slice none 0 0, .int .i64 ((syC B : Nat) : Int), .int .u64 ((syA B : Nat) : Int)] ∧ K0 H0 H') ∨ (syC B = 0 ∧ ∃ bx by_, NewL H0 H' [(by_, .cells true (((allL B (nmS B)).drop (atV B 0 4)).map u32v) 1), (bx, .cells true ((allL B (atV B 0 4)).map u32v) 1)] ∧ v = .tuple #[.slice (some ⟨bx, 0, none⟩) (atV B 0 4) (atV B 0 4), .slice (some ⟨by_, 0, none⟩) (atV B 4 4) (atV B 4 4), .int .i64 0, .int .u64 0])) := by
  have hF : Wd Fence.wide := .inl rfl
  have hM : Try.prog.follows .mixedOrders = true := by kernel_rfl
  have hn4 : atV B 0 4 < 4294967296 := atV_lt B 0 4
  have hm4 : atV B 4 4 < 4294967296 := atV_lt B 4 4
  have hnmE : nmS B = atV B 0 4 + atV B 4 4 := rfl
  have s0 := St.begin H0
  refine acalls_st Try.func16 rfl Try.ntmps16 rfl ?_
  refine awp_seq ?_
  refine awp_regs hF ?_
  refine dv (gyes_none rfl) (q_as (v := .slice none 0 0) rfl) rfl (by decide) (cok1 (cconst rfl)) ?_
  refine dv (gyes_none rfl) (q_as (v := .slice none 0 0) rfl) rfl (by decide) (cok1 (cconst rfl)) ?_
  refine dv (gyes_none rfl) (q_as (v := .int .i64 0) rfl) rfl (by decide) (cok1 (cconst rfl)) ?_
  refine dv (gyes_none rfl) (q_as (v := .int .u64 0) rfl) rfl (by decide) (cok1 (cconst rfl)) ?_
  refine ⟨_, Wk.refl _ _, ?_⟩
  show awp _ _ _ _ _ _ _
  refine awp_seq ?_
  refine awp_seq ?_
  refine awp_regs hF ?_
  refine dv (gyes_none rfl) (q_mv (v := .string B) rfl) rfl (by decide) (cok1 trivial) ?_
  refine dv (gyes_none rfl) (q_len_str Try.underlying9 rfl) rfl (by decide) (cok1 trivial) ?_
  refine dvb (gyes_none rfl) (q_int rfl rfl rfl) rfl (by decide) (cok2 trivial (cconst rfl)) (fun c1 => ?_) (fun c1 => ?_)
  ·
    replace c1 := of_decide_eq_true c1
    refine ⟨_, Wk.refl _ _, ?_⟩
    show awp _ _ _ _ _ _ _
    refine awp_cond_t rfl ?_
    refine awp_seq ?_
    refine awp_regs hF ?_
    refine dv (gyes_none rfl) (q_as (v := .slice none 0 0) rfl) rfl (by decide) (cok1 (cconst rfl)) ?_
    refine dv (gyes_none rfl) (q_as (v := .slice none 0 0) rfl) rfl (by decide) (cok1 (cconst rfl)) ?_
    refine dv (gyes_none rfl) (q_as (v := .int .i64 2) rfl) rfl (by decide) (cok1 (cconst rfl)) ?_
    refine dv (gyes_none rfl) (q_as (v := .int .u64 0) rfl) rfl (by decide) (cok1 (cconst rfl)) ?_
    refine ⟨_, Wk.refl _ _, ?_⟩
    show awp _ _ _ _ _ _ _
    refine awp_ret_wk ?_
    obtain ⟨e1, e2⟩ := sy_short (B := B) (by omega)
    refine ⟨_, Wk.refl _ _, ?_⟩
    repeat (with_reducible first | refine then_ret ?_ | refine blk_ret ?_ | refine then_exit ?_ | refine blk_exit ?_ | refine blk_exit' (by decide) ?_ | refine blk_normal ?_ | refine then_normal ?_ | refine retq_ret ?_ | refine retq_normal ?_ | refine ng_normal ?_ | refine ng_ret ?_ | refine ng_exit ?_)
    refine ret_is (v := .tuple #[.slice none 0 0, .slice none 0 0, .int .i64 2, .int .u64 0]) rfl (.tmp rfl (.tmp rfl (.tmp rfl (.tmp rfl .nil)))) rfl ?_
    exact .inl ⟨by rw [e1]; decide, by rw [e1, e2]; first | done | rfl, s0.kp⟩
  ·
    replace c1 := of_decide_eq_false c1
    refine ⟨_, Wk.refl _ _, ?_⟩
    show awp _ _ _ _ _ _ _
    refine awp_cond_f rfl ?_
    refine awp_skip_wk ?_
    refine ⟨_, Wk.refl _ _, ?_⟩
    show awp _ _ _ _ _ _ _
    refine awp_seq ?_
    refine awp_regt hF hM (by kernel_rfl) (by kernel_rfl) ?_
    refine dv (gyes_none rfl) (q_mv (v := .string B) rfl) rfl (by decide) (cok1 trivial) ?_
    refine dv (gyes_none rfl) (q_substr (i := 0) (j := 4) Try.underlying9 rfl rfl ⟨_, rfl⟩ (by omega) (by omega)) rfl (by decide) (cok2 trivial (cconst rfl)) ?_
    refine dv (gyes_none rfl) (q_call0 Try.call28 rfl (ACalls.castV (v' := .int .u64 ((atV B 0 4 : Nat) : Int)) (rget_ok (B.extract 0 4) (by rw [size_extract (by omega)]; omega)) (by rw [atV_in (by omega)]))) rfl (by decide) (cok2 trivial trivial) ?_
    refine dv (gyes_none rfl) (q_convin (a := ((atV B 0 4 : Nat) : Int)) Try.underlying42 Try.underlying3 rfl (i64_in (by omega))) rfl (by decide) (cok1 trivial) ?_
    refine dv (gyes_none rfl) (q_mv (v := .string B) rfl) rfl (by decide) (cok1 trivial) ?_
    refine dv (gyes_none rfl) (q_substr (i := 4) (j := 8) Try.underlying9 rfl ⟨_, rfl⟩ ⟨_, rfl⟩ (by omega) (by omega)) rfl (by decide) (call_ok rfl) ?_
    refine dv (gyes_none rfl) (q_call0 Try.call28 rfl (ACalls.castV (v' := .int .u64 ((atV B 4 4 : Nat) : Int)) (rget_ok (B.extract 4 8) (by rw [size_extract (by omega)]; omega)) (by rw [atV_in (by omega)]))) rfl (by decide) (cok2 trivial trivial) ?_
    refine dv (gyes_none rfl) (q_convin (a := ((atV B 4 4 : Nat) : Int)) Try.underlying42 Try.underlying3 rfl (i64_in (by omega))) rfl (by decide) (cok1 trivial) ?_
    refine dv (gyes_none rfl) (q_as (v := .int .i64 ((atV B 0 4 : Nat) : Int)) rfl) rfl (by decide) (cok1 trivial) ?_
    refine dv (gyes_none rfl) (q_as (v := .int .i64 ((atV B 4 4 : Nat) : Int)) rfl) rfl (by decide) (cok1 trivial) ?_
    refine ⟨_, Wk.refl _ _, ?_⟩
    show awp _ _ _ _ _ _ _
    refine awp_seq ?_
    refine awp_seq ?_
    refine awp_regs hF ?_
    refine dv (gyes_none rfl) (q_mv (v := .int .i64 ((atV B 0 4 : Nat) : Int)) rfl) rfl (by decide) (cok1 trivial) ?_
    refine dvb (gyes_none rfl) (q_int rfl rfl rfl) rfl (by decide) (cok2 trivial (cconst rfl)) (fun c2 => ?_) (fun c2 => ?_)
    ·
      replace c2 := eq_of_beq c2
      refine ⟨_, Wk.refl _ _, ?_⟩
      show awp _ _ _ _ _ _ _
      refine awp_cond_t rfl ?_
      refine awp_seq ?_
      refine awp_regs hF ?_
      refine dv (gyes_none rfl) (q_as (v := .slice none 0 0) rfl) rfl (by decide) (cok1 (cconst rfl)) ?_
      refine dv (gyes_none rfl) (q_as (v := .slice none 0 0) rfl) rfl (by decide) (cok1 (cconst rfl)) ?_
      refine dv (gyes_none rfl) (q_as (v := .int .i64 4) rfl) rfl (by decide) (cok1 (cconst rfl)) ?_
      refine dv (gyes_none rfl) (q_as (v := .int .u64 0) rfl) rfl (by decide) (cok1 (cconst rfl)) ?_
      refine ⟨_, Wk.refl _ _, ?_⟩
      show awp _ _ _ _ _ _ _
      refine awp_ret_wk ?_
      obtain ⟨e1, e2⟩ := sy_zero (B := B) (by omega) (by omega)
      refine ⟨_, Wk.refl _ _, ?_⟩
      repeat (with_reducible first | refine then_ret ?_ | refine blk_ret ?_ | refine then_exit ?_ | refine blk_exit ?_ | refine blk_exit' (by decide) ?_ | refine blk_normal ?_ | refine then_normal ?_ | refine retq_ret ?_ | refine retq_normal ?_ | refine ng_normal ?_ | refine ng_ret ?_ | refine ng_exit ?_)
      refine ret_is (v := .tuple #[.slice none 0 0, .slice none 0 0, .int .i64 4, .int .u64 0]) rfl (.tmp rfl (.tmp rfl (.tmp rfl (.tmp rfl .nil)))) rfl ?_
      exact .inl ⟨by rw [e1]; decide, by rw [e1, e2]; first | done | rfl, s0.kp⟩
    ·
      replace c2 := ne_of_beq_false c2
      refine ⟨_, Wk.refl _ _, ?_⟩
      show awp _ _ _ _ _ _ _
      refine awp_cond_f rfl ?_
      refine awp_skip_wk ?_
      refine ⟨_, Wk.refl _ _, ?_⟩
      show awp _ _ _ _ _ _ _
      refine awp_seq ?_
      refine awp_seq ?_
      refine awp_regs hF ?_
      refine dv (gyes_none rfl) (q_mv (v := .int .i64 ((atV B 0 4 : Nat) : Int)) rfl) rfl (by decide) (cok1 trivial) ?_
      refine dvb (gyes_none rfl) (q_int rfl rfl rfl) rfl (by decide) (cok2 trivial (cconst rfl)) (fun c3 => ?_) (fun c3 => ?_)
      ·
        replace c3 := of_decide_eq_true c3
        refine dv (gyes_none rfl) (q_mv (v := .bool true) rfl) rfl (by decide) (cok1 trivial) ?_
        refine dno rfl (.inl rfl) rfl (by decide) ?_
        refine dno rfl (.inl rfl) rfl (by decide) ?_
        refine dv (gyes_none rfl) (q_pt (v := .bool true) rfl rfl) rfl (by decide) (call_ok rfl) ?_
        refine ⟨_, Wk.refl _ _, ?_⟩
        show awp _ _ _ _ _ _ _
        refine awp_cond_t rfl ?_
        refine awp_seq ?_
        refine awp_regs hF ?_
        refine dv (gyes_none rfl) (q_as (v := .slice none 0 0) rfl) rfl (by decide) (cok1 (cconst rfl)) ?_
        refine dv (gyes_none rfl) (q_as (v := .slice none 0 0) rfl) rfl (by decide) (cok1 (cconst rfl)) ?_
        refine dv (gyes_none rfl) (q_as (v := .int .i64 6) rfl) rfl (by decide) (cok1 (cconst rfl)) ?_
        refine dv (gyes_none rfl) (q_as (v := .int .u64 0) rfl) rfl (by decide) (cok1 (cconst rfl)) ?_
        refine ⟨_, Wk.refl _ _, ?_⟩
        show awp _ _ _ _ _ _ _
        refine awp_ret_wk ?_
        obtain ⟨e1, e2⟩ := sy_many (B := B) (by omega) (by omega) (by omega)
        refine ⟨_, Wk.refl _ _, ?_⟩
        repeat (with_reducible first | refine then_ret ?_ | refine blk_ret ?_ | refine then_exit ?_ | refine blk_exit ?_ | refine blk_exit' (by decide) ?_ | refine blk_normal ?_ | refine then_normal ?_ | refine retq_ret ?_ | refine retq_normal ?_ | refine ng_normal ?_ | refine ng_ret ?_ | refine ng_exit ?_)
        refine ret_is (v := .tuple #[.slice none 0 0, .slice none 0 0, .int .i64 6, .int .u64 0]) rfl (.tmp rfl (.tmp rfl (.tmp rfl (.tmp rfl .nil)))) rfl ?_
        exact .inl ⟨by rw [e1]; decide, by rw [e1, e2]; first | done | rfl, s0.kp⟩
      ·
        replace c3 := of_decide_eq_false c3
        refine dv (gyes_none rfl) (q_mv (v := .bool false) rfl) rfl (by decide) (cok1 trivial) ?_
        refine dv (gyes_some rfl rfl) (q_mv (v := .int .i64 ((atV B 4 4 : Nat) : Int)) rfl) rfl (by decide) (cok1 trivial) ?_
        refine dvb (gyes_some rfl rfl) (q_int rfl rfl rfl) rfl (by decide) (cok2 trivial (cconst rfl)) (fun c4 => ?_) (fun c4 => ?_)
        ·
          replace c4 := of_decide_eq_true c4
          refine dv (gyes_none rfl) (q_pf (v := .bool true) rfl rfl) rfl (by decide) (call_ok rfl) ?_
          refine ⟨_, Wk.refl _ _, ?_⟩
          show awp _ _ _ _ _ _ _
          refine awp_cond_t rfl ?_
          refine awp_seq ?_
          refine awp_regs hF ?_
          refine dv (gyes_none rfl) (q_as (v := .slice none 0 0) rfl) rfl (by decide) (cok1 (cconst rfl)) ?_
          refine dv (gyes_none rfl) (q_as (v := .slice none 0 0) rfl) rfl (by decide) (cok1 (cconst rfl)) ?_
          refine dv (gyes_none rfl) (q_as (v := .int .i64 6) rfl) rfl (by decide) (cok1 (cconst rfl)) ?_
          refine dv (gyes_none rfl) (q_as (v := .int .u64 0) rfl) rfl (by decide) (cok1 (cconst rfl)) ?_
          refine ⟨_, Wk.refl _ _, ?_⟩
          show awp _ _ _ _ _ _ _
          refine awp_ret_wk ?_
          obtain ⟨e1, e2⟩ := sy_many (B := B) (by omega) (by omega) (by omega)
          refine ⟨_, Wk.refl _ _, ?_⟩
          repeat (with_reducible first | refine then_ret ?_ | refine blk_ret ?_ | refine then_exit ?_ | refine blk_exit ?_ | refine blk_exit' (by decide) ?_ | refine blk_normal ?_ | refine then_normal ?_ | refine retq_ret ?_ | refine retq_normal ?_ | refine ng_normal ?_ | refine ng_ret ?_ | refine ng_exit ?_)
          refine ret_is (v := .tuple #[.slice none 0 0, .slice none 0 0, .int .i64 6, .int .u64 0]) rfl (.tmp rfl (.tmp rfl (.tmp rfl (.tmp rfl .nil)))) rfl ?_
          exact .inl ⟨by rw [e1]; decide, by rw [e1, e2]; first | done | rfl, s0.kp⟩
        ·
          replace c4 := of_decide_eq_false c4
          refine dv (gyes_none rfl) (q_pf (v := .bool false) rfl rfl) rfl (by decide) (call_ok rfl) ?_
          refine ⟨_, Wk.refl _ _, ?_⟩
          show awp _ _ _ _ _ _ _
          refine awp_cond_f rfl ?_
          refine awp_skip_wk ?_
          refine ⟨_, Wk.refl _ _, ?_⟩
          show awp _ _ _ _ _ _ _
          refine awp_seq ?_
          refine awp_seq ?_
          refine awp_regs hF ?_
          refine dv (gyes_none rfl) (q_mv (v := .string B) rfl) rfl (by decide) (cok1 trivial) ?_
          refine dv (gyes_none rfl) (q_len_str Try.underlying9 rfl) rfl (by decide) (cok1 trivial) ?_
          refine dv (gyes_none rfl) (q_mv (v := .int .i64 ((atV B 0 4 : Nat) : Int)) rfl) rfl (by decide) (cok1 trivial) ?_
          refine dv (gyes_none rfl) (OpQ.cast (v' := .int .i64 ((4 * (atV B 0 4) : Nat) : Int)) (q_int rfl rfl rfl) (congrArg _ ((i64_in (by omega)).trans (by first | rfl | omega | (push_cast; rfl))))) rfl (by decide) (cok2 (cconst rfl) trivial) ?_
          refine dv (gyes_none rfl) (OpQ.cast (v' := .int .i64 ((8 + (4 * (atV B 0 4)) : Nat) : Int)) (q_int rfl rfl rfl) (congrArg _ ((i64_in (by omega)).trans (by first | rfl | omega | (push_cast; rfl))))) rfl (by decide) (cok2 (cconst rfl) trivial) ?_
          refine dv (gyes_none rfl) (q_mv (v := .int .i64 ((atV B 4 4 : Nat) : Int)) rfl) rfl (by decide) (cok1 trivial) ?_
          refine dv (gyes_none rfl) (OpQ.cast (v' := .int .i64 ((4 * (atV B 4 4) : Nat) : Int)) (q_int rfl rfl rfl) (congrArg _ ((i64_in (by omega)).trans (by first | rfl | omega | (push_cast; rfl))))) rfl (by decide) (cok2 (cconst rfl) trivial) ?_
          refine dv (gyes_none rfl) (OpQ.cast (v' := .int .i64 ((8 + (4 * (atV B 0 4)) + (4 * (atV B 4 4)) : Nat) : Int)) (q_int rfl rfl rfl) (congrArg _ ((i64_in (by omega)).trans (by first | rfl | omega | (push_cast; rfl))))) rfl (by decide) (cok2 trivial trivial) ?_
          refine dvb (gyes_none rfl) (q_int rfl rfl rfl) rfl (by decide) (cok2 trivial trivial) (fun c5 => ?_) (fun c5 => ?_)
          ·
            replace c5 := of_decide_eq_true c5
            refine ⟨_, Wk.refl _ _, ?_⟩
            show awp _ _ _ _ _ _ _
            refine awp_cond_t rfl ?_
            refine awp_seq ?_
            refine awp_regs hF ?_
            refine dv (gyes_none rfl) (q_as (v := .slice none 0 0) rfl) rfl (by decide) (cok1 (cconst rfl)) ?_
            refine dv (gyes_none rfl) (q_as (v := .slice none 0 0) rfl) rfl (by decide) (cok1 (cconst rfl)) ?_
            refine dv (gyes_none rfl) (q_as (v := .int .i64 2) rfl) rfl (by decide) (cok1 (cconst rfl)) ?_
            refine dv (gyes_none rfl) (q_as (v := .int .u64 0) rfl) rfl (by decide) (cok1 (cconst rfl)) ?_
            refine ⟨_, Wk.refl _ _, ?_⟩
            show awp _ _ _ _ _ _ _
            refine awp_ret_wk ?_
            obtain ⟨e1, e2⟩ := sy_out (B := B) (by omega) (by omega) (by omega) (by show ¬ (8 + (atV B 0 4 + atV B 4 4) * 4 ≤ _); omega)
            refine ⟨_, Wk.refl _ _, ?_⟩
            repeat (with_reducible first | refine then_ret ?_ | refine blk_ret ?_ | refine then_exit ?_ | refine blk_exit ?_ | refine blk_exit' (by decide) ?_ | refine blk_normal ?_ | refine then_normal ?_ | refine retq_ret ?_ | refine retq_normal ?_ | refine ng_normal ?_ | refine ng_ret ?_ | refine ng_exit ?_)
            refine ret_is (v := .tuple #[.slice none 0 0, .slice none 0 0, .int .i64 2, .int .u64 0]) rfl (.tmp rfl (.tmp rfl (.tmp rfl (.tmp rfl .nil)))) rfl ?_
            exact .inl ⟨by rw [e1]; decide, by rw [e1, e2]; first | done | rfl, s0.kp⟩
          ·
            replace c5 := of_decide_eq_false c5
            refine ⟨_, Wk.refl _ _, ?_⟩
            show awp _ _ _ _ _ _ _
            refine awp_cond_f rfl ?_
            refine awp_skip_wk ?_
            refine ⟨_, Wk.refl _ _, ?_⟩
            show awp _ _ _ _ _ _ _
            refine awp_seq ?_
            refine awp_regs hF ?_
            refine dv (gyes_none rfl) (q_as (v := .slice none 0 0) rfl) rfl (by decide) (cok1 (cconst rfl)) ?_
            refine dv (gyes_none rfl) (q_as (v := .slice none 0 0) rfl) rfl (by decide) (cok1 (cconst rfl)) ?_
            refine ⟨_, Wk.refl _ _, ?_⟩
            show awp _ _ _ _ _ _ _
            refine awp_seq ?_
            refine awp_seq ?_
            refine awp_regs hF ?_
            refine dv (gyes_none rfl) (q_as (v := .int .i64 0) rfl) rfl (by decide) (cok1 (cconst rfl)) ?_
            refine ⟨_, Wk.refl _ _, ?_⟩
            show awp _ _ _ _ _ _ _
            refine awp_block ?_
            refine awp_nil s0 8 1 rfl (fun b1 H2 hb4 s3 => ?_)
            refine awp_nil s3 9 1 rfl (fun b5 H6 hb8 s7 => ?_)
            refine awp_wk (Wk.U [(0, .string B), (2, .slice none 0 0), (3, .slice none 0 0), (4, .int .i64 0), (5, .int .u64 0), (6, .int .i64 ((atV B 0 4 : Nat) : Int)), (7, .int .i64 ((atV B 4 4 : Nat) : Int)), (8, .slice (some ⟨b1, 0, none⟩) 0 0), (9, .slice (some ⟨b5, 0, none⟩) 0 0), (10, .int .i64 0)] ⟨rfl, rfl, rfl, rfl, rfl, rfl, rfl, rfl, rfl, rfl, trivial⟩) ?_
            refine awp_loop (fun ((i, mx, my, x, y) : Nat × Nat × Nat × (List Nat) × (List Nat)) st => ∃ (H9 : AHeap) (bz : Nat) (bx : Nat), st = ⟨82, U [(0, .string B), (2, .slice none 0 0), (3, .slice none 0 0), (4, .int .i64 0), (5, .int .u64 0), (6, .int .i64 ((atV B 0 4 : Nat) : Int)), (7, .int .i64 ((atV B 4 4 : Nat) : Int)), (8, .slice (some ⟨bx, 0, none⟩) mx mx), (9, .slice (some ⟨bz, 0, none⟩) my my), (10, .int .i64 ((i : Nat) : Int))], [], H9⟩ ∧ St H0 (none0) (Rd H0) H9 [(bz, .cells true (y.map u32v) 1), (bx, .cells true (x.map u32v) 1)] ∧ (∀ j, j < i → badV B j = false) ∧ (mx = x.length ∧ my = y.length ∧ i ≤ nmS B ∧ x = allL B (min i (atV B 0 4)) ∧ y = (allL B i).drop (atV B 0 4))) (fun ((i, mx, my, x, y) : Nat × Nat × Nat × (List Nat) × (List Nat)) => nmS B - i) (x0 := (0, 0, 0, ([] : List Nat), ([] : List Nat))) ?h0 ?round
            case h0 =>
              exact ⟨_, _, _, rfl, s7, fun j h => absurd h (Nat.not_lt_zero _), ⟨rfl, rfl, Nat.zero_le _, by rw [Nat.zero_min]; rfl, by simp [allL]⟩⟩
            case round =>
              rintro ⟨i, mx, my, x, y⟩ _ ⟨H9, bz, bx, rfl, s10, hi, hx⟩
              dsimp only at *
              refine awp_seq ?_
              refine awp_seq ?_
              refine awp_regs hF ?_
              refine dv (gyes_none rfl) (q_mv (v := .int .i64 ((i : Nat) : Int)) rfl) rfl (by decide) (cok1 trivial) ?_
              refine dv (gyes_none rfl) (q_mv (v := .int .i64 ((atV B 0 4 : Nat) : Int)) rfl) rfl (by decide) (cok1 trivial) ?_
              refine dv (gyes_none rfl) (q_mv (v := .int .i64 ((atV B 4 4 : Nat) : Int)) rfl) rfl (by decide) (cok1 trivial) ?_
              refine dv (gyes_none rfl) (OpQ.cast (v' := .int .i64 ((atV B 0 4 + (atV B 4 4) : Nat) : Int)) (q_int rfl rfl rfl) (congrArg _ ((i64_in (by omega)).trans (by first | rfl | omega | (push_cast; rfl))))) rfl (by decide) (cok2 trivial trivial) ?_
              refine dvb (gyes_none rfl) (q_int rfl rfl rfl) rfl (by decide) (cok2 trivial trivial) (fun c6 => ?_) (fun c6 => ?_)
              ·
                replace c6 := of_decide_eq_true c6
                refine ⟨_, Wk.refl _ _, ?_⟩
                show awp _ _ _ _ _ _ _
                refine awp_cond_t rfl ?_
                refine awp_skip_wk ?_
                refine ⟨_, Wk.refl _ _, ?_⟩
                show awp _ _ _ _ _ _ _
                refine awp_seq ?_
                refine awp_block ?_
                refine awp_seq ?_
                have hvl := vN_lt B i
                refine awp_regs hF ?_
                refine dv (gyes_none rfl) (q_mv (v := .string B) rfl) rfl (by decide) (cok1 trivial) ?_
                refine dv (gyes_none rfl) (q_mv (v := .int .i64 ((i : Nat) : Int)) rfl) rfl (by decide) (cok1 trivial) ?_
                refine dv (gyes_none rfl) (OpQ.cast (v' := .int .i64 ((4 * i : Nat) : Int)) (q_int rfl rfl rfl) (congrArg _ ((i64_in (by omega)).trans (by first | rfl | omega | (push_cast; rfl))))) rfl (by decide) (cok2 (cconst rfl) trivial) ?_
                refine dv (gyes_none rfl) (OpQ.cast (v' := .int .i64 ((8 + (4 * i) : Nat) : Int)) (q_int rfl rfl rfl) (congrArg _ ((i64_in (by omega)).trans (by first | rfl | omega | (push_cast; rfl))))) rfl (by decide) (cok2 (cconst rfl) trivial) ?_
                refine dv (gyes_none rfl) (q_mv (v := .int .i64 ((i : Nat) : Int)) rfl) rfl (by decide) (cok1 trivial) ?_
                refine dv (gyes_none rfl) (OpQ.cast (v' := .int .i64 ((4 * i : Nat) : Int)) (q_int rfl rfl rfl) (congrArg _ ((i64_in (by omega)).trans (by first | rfl | omega | (push_cast; rfl))))) rfl (by decide) (cok2 (cconst rfl) trivial) ?_
                refine dv (gyes_none rfl) (OpQ.cast (v' := .int .i64 ((12 + (4 * i) : Nat) : Int)) (q_int rfl rfl rfl) (congrArg _ ((i64_in (by omega)).trans (by first | rfl | omega | (push_cast; rfl))))) rfl (by decide) (cok2 (cconst rfl) trivial) ?_
                refine dv (gyes_none rfl) (q_substr (i := (8 + (4 * i))) (j := (12 + (4 * i))) Try.underlying9 rfl ⟨_, rfl⟩ ⟨_, rfl⟩ (by omega) (by omega)) rfl (by decide) (call_ok rfl) ?_
                refine dv (gyes_none rfl) (q_call0 Try.call28 rfl (rget_ok (B.extract (8 + (4 * i)) (12 + (4 * i))) (by rw [size_extract (by omega)]; omega))) rfl (by decide) (cok2 trivial trivial) ?_
                refine dv (gyes_none rfl) (q_convin (a := ((vN B i : Nat) : Int)) Try.underlying42 Try.underlying31 rfl (u32_in (by omega))) rfl (by decide) (cok1 trivial) ?_
                refine dv (gyes_none rfl) (q_as (v := .int .u32 ((vN B i : Nat) : Int)) rfl) rfl (by decide) (cok1 trivial) ?_
                refine ⟨_, Wk.refl _ _, ?_⟩
                show awp _ _ _ _ _ _ _
                refine awp_seq ?_
                refine awp_seq ?_
                refine awp_regs hF ?_
                refine dv (gyes_none rfl) (q_mv (v := .int .u32 ((vN B i : Nat) : Int)) rfl) rfl (by decide) (cok1 trivial) ?_
                refine dvb (gyes_none rfl) (q_int rfl rfl rfl) rfl (by decide) (cok2 trivial (cconst rfl)) (fun c7 => ?_) (fun c7 => ?_)
                ·
                  replace c7 := of_decide_eq_true c7
                  refine dv (gyes_none rfl) (q_mv (v := .bool true) rfl) rfl (by decide) (cok1 trivial) ?_
                  refine dv (gyes_some rfl rfl) (q_mv (v := .int .u32 ((vN B i : Nat) : Int)) rfl) rfl (by decide) (cok1 trivial) ?_
                  refine dv (gyes_some rfl rfl) (q_convin (a := ((vN B i : Nat) : Int)) Try.underlying31 Try.underlying3 rfl (i64_in (by omega))) rfl (by decide) (cok1 trivial) ?_
                  refine dv (gyes_some rfl rfl) (q_mv (v := .int .i64 ((atV B 4 4 : Nat) : Int)) rfl) rfl (by decide) (cok1 trivial) ?_
                  refine dvb (gyes_some rfl rfl) (q_int rfl rfl rfl) rfl (by decide) (cok2 trivial trivial) (fun c8 => ?_) (fun c8 => ?_)
                  ·
                    replace c8 := of_decide_eq_true c8
                    refine dv (gyes_none rfl) (q_pt (v := .bool true) rfl rfl) rfl (by decide) (call_ok rfl) ?_
                    refine ⟨_, Wk.refl _ _, ?_⟩
                    show awp _ _ _ _ _ _ _
                    refine awp_cond_t rfl ?_
                    refine awp_seq ?_
                    refine awp_regs hF ?_
                    refine dv (gyes_none rfl) (q_mv (v := .int .i64 ((i : Nat) : Int)) rfl) rfl (by decide) (cok1 trivial) ?_
                    refine dv (gyes_none rfl) (OpQ.cast (v' := .int .i64 ((4 * i : Nat) : Int)) (q_int rfl rfl rfl) (congrArg _ ((i64_in (by omega)).trans (by first | rfl | omega | (push_cast; rfl))))) rfl (by decide) (cok2 (cconst rfl) trivial) ?_
                    refine dv (gyes_none rfl) (OpQ.cast (v' := .int .i64 ((8 + (4 * i) : Nat) : Int)) (q_int rfl rfl rfl) (congrArg _ ((i64_in (by omega)).trans (by first | rfl | omega | (push_cast; rfl))))) rfl (by decide) (cok2 (cconst rfl) trivial) ?_
                    refine dv (gyes_none rfl) (q_convin (a := ((8 + (4 * i) : Nat) : Int)) Try.underlying3 Try.underlying42 rfl (u64_in (by omega))) rfl (by decide) (cok1 trivial) ?_
                    refine dv (gyes_none rfl) (q_as (v := .slice none 0 0) rfl) rfl (by decide) (cok1 (cconst rfl)) ?_
                    refine dv (gyes_none rfl) (q_as (v := .slice none 0 0) rfl) rfl (by decide) (cok1 (cconst rfl)) ?_
                    refine dv (gyes_none rfl) (q_as (v := .int .i64 5) rfl) rfl (by decide) (cok1 (cconst rfl)) ?_
                    refine dv (gyes_none rfl) (q_as (v := .int .u64 ((8 + (4 * i) : Nat) : Int)) rfl) rfl (by decide) (cok1 trivial) ?_
                    refine ⟨_, Wk.refl _ _, ?_⟩
                    show awp _ _ _ _ _ _ _
                    refine awp_ret_wk ?_
                    obtain ⟨e1, e2⟩ := sy_bad (B := B) (i := i) (by omega) (by omega) (by omega) (by show 8 + (atV B 0 4 + atV B 4 4) * 4 ≤ _; omega) (by omega) (badV_y (by omega) (by omega)) hi
                    refine ⟨_, Wk.refl _ _, ?_⟩
                    repeat (with_reducible first | refine then_ret ?_ | refine blk_ret ?_ | refine then_exit ?_ | refine blk_exit ?_ | refine blk_exit' (by decide) ?_ | refine blk_normal ?_ | refine then_normal ?_ | refine retq_ret ?_ | refine retq_normal ?_ | refine ng_normal ?_ | refine ng_ret ?_ | refine ng_exit ?_)
                    refine ret_is (v := .tuple #[.slice none 0 0, .slice none 0 0, .int .i64 5, .int .u64 ((8 + (4 * i) : Nat) : Int)]) rfl (.tmp rfl (.tmp rfl (.tmp rfl (.tmp rfl .nil)))) rfl ?_
                    exact .inl ⟨by rw [e1]; decide, by rw [e1, e2]; first | done | rfl, s10.kp⟩
                  ·
                    replace c8 := of_decide_eq_false c8
                    refine dv (gyes_none rfl) (q_pt (v := .bool false) rfl rfl) rfl (by decide) (call_ok rfl) ?_
                    refine ⟨_, Wk.refl _ _, ?_⟩
                    show awp _ _ _ _ _ _ _
                    refine awp_cond_f rfl ?_
                    refine awp_skip_wk ?_
                    refine ⟨_, Wk.refl _ _, ?_⟩
                    show awp _ _ _ _ _ _ _
                    refine awp_seq ?_
                    refine awp_regs hF ?_
                    refine dv (gyes_none rfl) (q_mv (v := .int .i64 ((i : Nat) : Int)) rfl) rfl (by decide) (cok1 trivial) ?_
                    refine dv (gyes_none rfl) (q_mv (v := .int .i64 ((atV B 0 4 : Nat) : Int)) rfl) rfl (by decide) (cok1 trivial) ?_
                    refine dvb (gyes_none rfl) (q_int rfl rfl rfl) rfl (by decide) (cok2 trivial trivial) (fun c9 => ?_) (fun c9 => ?_)
                    ·
                      replace c9 := of_decide_eq_true c9
                      refine ⟨_, Wk.refl _ _, ?_⟩
                      show awp _ _ _ _ _ _ _
                      refine awp_cond_t rfl ?_
                      refine awp_regs hF ?_
                      refine dv (gyes_none rfl) (q_mv (v := .slice (some ⟨bx, 0, none⟩) mx mx) rfl) rfl (by decide) (cok1 trivial) ?_
                      refine dv (gyes_none rfl) (q_mv (v := .int .u32 ((vN B i : Nat) : Int)) rfl) rfl (by decide) (cok1 trivial) ?_
                      refine x_new (fun b => .slice (some ⟨b, 0, none⟩) 1 1) s10 (gyes_none rfl) (q_buildSliceL (ds := [.int .u32 ((vN B i : Nat) : Int)]) [.int .u32 ((vN B i : Nat) : Int)] rfl Try.underlying24 Try.sizeOf31 Try.zeroValue31 rfl (by decide) (by decide) ⟨rfl, trivial⟩ (lvsC (by exact trivial) lvs0) rfl rfl) rfl (by decide) (cok1 trivial) (fun b11 H12 hb14 s13 => ?_)
                      refine x_append (l := [(vN B i)]) (f := u32v) [] hF s13 (by kernel_rfl) (j := 2) (mx + 1) rfl (gyes_none rfl) Try.underlying24 Try.underlying24 Try.type31 rfl rfl (by decide) rfl rfl rfl rfl (s13.slj (l := [(vN B i)]) (f := u32v) (j := 0) rfl rfl (Nat.le_refl _)) (fun x => lc_scalar rfl) (by rw [List.length_map, ← hx.1, Nat.zero_add]) (by show (2 * (mx + 1) + 1000) * 4 ≤ _; have hq := allL_len B (min i (atV B 0 4)); rw [← hx.2.2.2.1] at hq; omega) trivial trivial (by decide) rfl rfl (vs' := (x ++ [vN B i]).map u32v) (by simp) (fun b15 H16 hb18 s17 => ⟨?_, ?_⟩)
                      · exact trivial
                      refine dv (gyes_none rfl) (q_as (v := .slice (some ⟨b15, 0, none⟩) (mx + 1) (mx + 1)) rfl) rfl (by decide) (cok1 trivial) ?_
                      refine ⟨_, Wk.refl _ _, ?_⟩
                      show awp _ _ _ _ _ _ _
                      refine awp_regs hF ?_
                      refine dv (gyes_none rfl) (q_mv (v := .int .i64 ((i : Nat) : Int)) rfl) rfl (by decide) (cok1 trivial) ?_
                      refine dv (gyes_none rfl) (OpQ.cast (v' := .int .i64 ((i + 1 : Nat) : Int)) (q_int rfl rfl rfl) (congrArg _ ((i64_in (by omega)).trans (by first | rfl | omega | (push_cast; rfl))))) rfl (by decide) (cok2 trivial (cconst rfl)) ?_
                      refine dv (gyes_none rfl) (q_as (v := .int .i64 ((i + 1 : Nat) : Int)) rfl) rfl (by decide) (cok1 trivial) ?_
                      refine ⟨_, Wk.U [(0, .string B), (2, .slice none 0 0), (3, .slice none 0 0), (4, .int .i64 0), (5, .int .u64 0), (6, .int .i64 ((atV B 0 4 : Nat) : Int)), (7, .int .i64 ((atV B 4 4 : Nat) : Int)), (8, .slice (some ⟨b15, 0, none⟩) (mx + 1) (mx + 1)), (9, .slice (some ⟨bz, 0, none⟩) my my), (10, .int .i64 (((i + 1) : Nat) : Int))] ⟨rfl, rfl, rfl, rfl, rfl, rfl, rfl, rfl, rfl, rfl, trivial⟩, ((i + 1), (mx + 1), my, (x ++ [vN B i]), y), ⟨_, _, _, rfl, (s17.sub (.cons _ (.cons_cons _ (.cons_cons _ (.refl _))))), lt_succ_casesN hi (badV_n (by omega)), ⟨by dsimp only; rw [List.length_append, hx.1]; rfl, hx.2.1, by dsimp only; omega, by dsimp only; rw [hx.2.2.2.1, show min i (atV B 0 4) = i by omega, show min (i + 1) (atV B 0 4) = i + 1 by omega]; exact allL_succ B i, by dsimp only; rw [hx.2.2.2.2, List.drop_of_length_le (by rw [allL_len]; omega), List.drop_of_length_le (by rw [allL_len]; omega)]⟩⟩, (by omega)⟩
                    ·
                      replace c9 := of_decide_eq_false c9
                      refine ⟨_, Wk.refl _ _, ?_⟩
                      show awp _ _ _ _ _ _ _
                      refine awp_cond_f rfl ?_
                      refine awp_regs hF ?_
                      refine dv (gyes_none rfl) (q_mv (v := .slice (some ⟨bz, 0, none⟩) my my) rfl) rfl (by decide) (cok1 trivial) ?_
                      refine dv (gyes_none rfl) (q_mv (v := .int .u32 ((vN B i : Nat) : Int)) rfl) rfl (by decide) (cok1 trivial) ?_
                      refine x_new (fun b => .slice (some ⟨b, 0, none⟩) 1 1) s10 (gyes_none rfl) (q_buildSliceL (ds := [.int .u32 ((vN B i : Nat) : Int)]) [.int .u32 ((vN B i : Nat) : Int)] rfl Try.underlying24 Try.sizeOf31 Try.zeroValue31 rfl (by decide) (by decide) ⟨rfl, trivial⟩ (lvsC (by exact trivial) lvs0) rfl rfl) rfl (by decide) (cok1 trivial) (fun b19 H20 hb22 s21 => ?_)
                      refine x_append (l := [(vN B i)]) (f := u32v) [] hF s21 (by kernel_rfl) (j := 1) (my + 1) rfl (gyes_none rfl) Try.underlying24 Try.underlying24 Try.type31 rfl rfl (by decide) rfl rfl rfl rfl (s21.slj (l := [(vN B i)]) (f := u32v) (j := 0) rfl rfl (Nat.le_refl _)) (fun x => lc_scalar rfl) (by rw [List.length_map, ← hx.2.1, Nat.zero_add]) (by show (2 * (my + 1) + 1000) * 4 ≤ _; have hq := allL_len B i; have hq2 : y.length ≤ i := (by rw [hx.2.2.2.2, List.length_drop, hq]; omega); omega) trivial trivial (by decide) rfl rfl (vs' := (y ++ [vN B i]).map u32v) (by simp) (fun b23 H24 hb26 s25 => ⟨?_, ?_⟩)
                      · exact trivial
                      refine dv (gyes_none rfl) (q_as (v := .slice (some ⟨b23, 0, none⟩) (my + 1) (my + 1)) rfl) rfl (by decide) (cok1 trivial) ?_
                      refine ⟨_, Wk.refl _ _, ?_⟩
                      show awp _ _ _ _ _ _ _
                      refine awp_regs hF ?_
                      refine dv (gyes_none rfl) (q_mv (v := .int .i64 ((i : Nat) : Int)) rfl) rfl (by decide) (cok1 trivial) ?_
                      refine dv (gyes_none rfl) (OpQ.cast (v' := .int .i64 ((i + 1 : Nat) : Int)) (q_int rfl rfl rfl) (congrArg _ ((i64_in (by omega)).trans (by first | rfl | omega | (push_cast; rfl))))) rfl (by decide) (cok2 trivial (cconst rfl)) ?_
                      refine dv (gyes_none rfl) (q_as (v := .int .i64 ((i + 1 : Nat) : Int)) rfl) rfl (by decide) (cok1 trivial) ?_
                      refine ⟨_, Wk.U [(0, .string B), (2, .slice none 0 0), (3, .slice none 0 0), (4, .int .i64 0), (5, .int .u64 0), (6, .int .i64 ((atV B 0 4 : Nat) : Int)), (7, .int .i64 ((atV B 4 4 : Nat) : Int)), (8, .slice (some ⟨bx, 0, none⟩) mx mx), (9, .slice (some ⟨b23, 0, none⟩) (my + 1) (my + 1)), (10, .int .i64 (((i + 1) : Nat) : Int))] ⟨rfl, rfl, rfl, rfl, rfl, rfl, rfl, rfl, rfl, rfl, trivial⟩, ((i + 1), mx, (my + 1), x, (y ++ [vN B i])), ⟨_, _, _, rfl, (s25.sub (.cons _ (.cons_cons _ (.cons_cons _ (.refl _))))), lt_succ_casesN hi (badV_n (by omega)), ⟨hx.1, by dsimp only; rw [List.length_append, hx.2.1]; rfl, by dsimp only; omega, by dsimp only; rw [hx.2.2.2.1]; congr 1; omega, by dsimp only; rw [hx.2.2.2.2, ← allL_succ, List.drop_append_of_le_length (by rw [allL_len]; omega)]⟩⟩, (by omega)⟩
                ·
                  replace c7 := of_decide_eq_false c7
                  refine dv (gyes_none rfl) (q_mv (v := .bool false) rfl) rfl (by decide) (cok1 trivial) ?_
                  refine dno rfl (.inl rfl) rfl (by decide) ?_
                  refine dno rfl (.inl rfl) rfl (by decide) ?_
                  refine dno rfl (.inl rfl) rfl (by decide) ?_
                  refine dno rfl (.inl rfl) rfl (by decide) ?_
                  refine dv (gyes_none rfl) (q_pf (v := .bool false) rfl rfl) rfl (by decide) (call_ok rfl) ?_
                  refine ⟨_, Wk.refl _ _, ?_⟩
                  show awp _ _ _ _ _ _ _
                  refine awp_cond_f rfl ?_
                  refine awp_skip_wk ?_
                  refine ⟨_, Wk.refl _ _, ?_⟩
                  show awp _ _ _ _ _ _ _
                  refine awp_seq ?_
                  refine awp_regs hF ?_
                  refine dv (gyes_none rfl) (q_mv (v := .int .i64 ((i : Nat) : Int)) rfl) rfl (by decide) (cok1 trivial) ?_
                  refine dv (gyes_none rfl) (q_mv (v := .int .i64 ((atV B 0 4 : Nat) : Int)) rfl) rfl (by decide) (cok1 trivial) ?_
                  refine dvb (gyes_none rfl) (q_int rfl rfl rfl) rfl (by decide) (cok2 trivial trivial) (fun c10 => ?_) (fun c10 => ?_)
                  ·
                    replace c10 := of_decide_eq_true c10
                    refine ⟨_, Wk.refl _ _, ?_⟩
                    show awp _ _ _ _ _ _ _
                    refine awp_cond_t rfl ?_
                    refine awp_regs hF ?_
                    refine dv (gyes_none rfl) (q_mv (v := .slice (some ⟨bx, 0, none⟩) mx mx) rfl) rfl (by decide) (cok1 trivial) ?_
                    refine dv (gyes_none rfl) (q_mv (v := .int .u32 ((vN B i : Nat) : Int)) rfl) rfl (by decide) (cok1 trivial) ?_
                    refine x_new (fun b => .slice (some ⟨b, 0, none⟩) 1 1) s10 (gyes_none rfl) (q_buildSliceL (ds := [.int .u32 ((vN B i : Nat) : Int)]) [.int .u32 ((vN B i : Nat) : Int)] rfl Try.underlying24 Try.sizeOf31 Try.zeroValue31 rfl (by decide) (by decide) ⟨rfl, trivial⟩ (lvsC (by exact trivial) lvs0) rfl rfl) rfl (by decide) (cok1 trivial) (fun b27 H28 hb30 s29 => ?_)
                    refine x_append (l := [(vN B i)]) (f := u32v) [] hF s29 (by kernel_rfl) (j := 2) (mx + 1) rfl (gyes_none rfl) Try.underlying24 Try.underlying24 Try.type31 rfl rfl (by decide) rfl rfl rfl rfl (s29.slj (l := [(vN B i)]) (f := u32v) (j := 0) rfl rfl (Nat.le_refl _)) (fun x => lc_scalar rfl) (by rw [List.length_map, ← hx.1, Nat.zero_add]) (by show (2 * (mx + 1) + 1000) * 4 ≤ _; have hq := allL_len B (min i (atV B 0 4)); rw [← hx.2.2.2.1] at hq; omega) trivial trivial (by decide) rfl rfl (vs' := (x ++ [vN B i]).map u32v) (by simp) (fun b31 H32 hb34 s33 => ⟨?_, ?_⟩)
                    · exact trivial
                    refine dv (gyes_none rfl) (q_as (v := .slice (some ⟨b31, 0, none⟩) (mx + 1) (mx + 1)) rfl) rfl (by decide) (cok1 trivial) ?_
                    refine ⟨_, Wk.refl _ _, ?_⟩
                    show awp _ _ _ _ _ _ _
                    refine awp_regs hF ?_
                    refine dv (gyes_none rfl) (q_mv (v := .int .i64 ((i : Nat) : Int)) rfl) rfl (by decide) (cok1 trivial) ?_
                    refine dv (gyes_none rfl) (OpQ.cast (v' := .int .i64 ((i + 1 : Nat) : Int)) (q_int rfl rfl rfl) (congrArg _ ((i64_in (by omega)).trans (by first | rfl | omega | (push_cast; rfl))))) rfl (by decide) (cok2 trivial (cconst rfl)) ?_
                    refine dv (gyes_none rfl) (q_as (v := .int .i64 ((i + 1 : Nat) : Int)) rfl) rfl (by decide) (cok1 trivial) ?_
                    refine ⟨_, Wk.U [(0, .string B), (2, .slice none 0 0), (3, .slice none 0 0), (4, .int .i64 0), (5, .int .u64 0), (6, .int .i64 ((atV B 0 4 : Nat) : Int)), (7, .int .i64 ((atV B 4 4 : Nat) : Int)), (8, .slice (some ⟨b31, 0, none⟩) (mx + 1) (mx + 1)), (9, .slice (some ⟨bz, 0, none⟩) my my), (10, .int .i64 (((i + 1) : Nat) : Int))] ⟨rfl, rfl, rfl, rfl, rfl, rfl, rfl, rfl, rfl, rfl, trivial⟩, ((i + 1), (mx + 1), my, (x ++ [vN B i]), y), ⟨_, _, _, rfl, (s33.sub (.cons _ (.cons_cons _ (.cons_cons _ (.refl _))))), lt_succ_casesN hi (badV_n (by omega)), ⟨by dsimp only; rw [List.length_append, hx.1]; rfl, hx.2.1, by dsimp only; omega, by dsimp only; rw [hx.2.2.2.1, show min i (atV B 0 4) = i by omega, show min (i + 1) (atV B 0 4) = i + 1 by omega]; exact allL_succ B i, by dsimp only; rw [hx.2.2.2.2, List.drop_of_length_le (by rw [allL_len]; omega), List.drop_of_length_le (by rw [allL_len]; omega)]⟩⟩, (by omega)⟩
                  ·
                    replace c10 := of_decide_eq_false c10
                    refine ⟨_, Wk.refl _ _, ?_⟩
                    show awp _ _ _ _ _ _ _
                    refine awp_cond_f rfl ?_
                    refine awp_regs hF ?_
                    refine dv (gyes_none rfl) (q_mv (v := .slice (some ⟨bz, 0, none⟩) my my) rfl) rfl (by decide) (cok1 trivial) ?_
                    refine dv (gyes_none rfl) (q_mv (v := .int .u32 ((vN B i : Nat) : Int)) rfl) rfl (by decide) (cok1 trivial) ?_
                    refine x_new (fun b => .slice (some ⟨b, 0, none⟩) 1 1) s10 (gyes_none rfl) (q_buildSliceL (ds := [.int .u32 ((vN B i : Nat) : Int)]) [.int .u32 ((vN B i : Nat) : Int)] rfl Try.underlying24 Try.sizeOf31 Try.zeroValue31 rfl (by decide) (by decide) ⟨rfl, trivial⟩ (lvsC (by exact trivial) lvs0) rfl rfl) rfl (by decide) (cok1 trivial) (fun b35 H36 hb38 s37 => ?_)
                    refine x_append (l := [(vN B i)]) (f := u32v) [] hF s37 (by kernel_rfl) (j := 1) (my + 1) rfl (gyes_none rfl) Try.underlying24 Try.underlying24 Try.type31 rfl rfl (by decide) rfl rfl rfl rfl (s37.slj (l := [(vN B i)]) (f := u32v) (j := 0) rfl rfl (Nat.le_refl _)) (fun x => lc_scalar rfl) (by rw [List.length_map, ← hx.2.1, Nat.zero_add]) (by show (2 * (my + 1) + 1000) * 4 ≤ _; have hq := allL_len B i; have hq2 : y.length ≤ i := (by rw [hx.2.2.2.2, List.length_drop, hq]; omega); omega) trivial trivial (by decide) rfl rfl (vs' := (y ++ [vN B i]).map u32v) (by simp) (fun b39 H40 hb42 s41 => ⟨?_, ?_⟩)
                    · exact trivial
                    refine dv (gyes_none rfl) (q_as (v := .slice (some ⟨b39, 0, none⟩) (my + 1) (my + 1)) rfl) rfl (by decide) (cok1 trivial) ?_
                    refine ⟨_, Wk.refl _ _, ?_⟩
                    show awp _ _ _ _ _ _ _
                    refine awp_regs hF ?_
                    refine dv (gyes_none rfl) (q_mv (v := .int .i64 ((i : Nat) : Int)) rfl) rfl (by decide) (cok1 trivial) ?_
                    refine dv (gyes_none rfl) (OpQ.cast (v' := .int .i64 ((i + 1 : Nat) : Int)) (q_int rfl rfl rfl) (congrArg _ ((i64_in (by omega)).trans (by first | rfl | omega | (push_cast; rfl))))) rfl (by decide) (cok2 trivial (cconst rfl)) ?_
                    refine dv (gyes_none rfl) (q_as (v := .int .i64 ((i + 1 : Nat) : Int)) rfl) rfl (by decide) (cok1 trivial) ?_
                    refine ⟨_, Wk.U [(0, .string B), (2, .slice none 0 0), (3, .slice none 0 0), (4, .int .i64 0), (5, .int .u64 0), (6, .int .i64 ((atV B 0 4 : Nat) : Int)), (7, .int .i64 ((atV B 4 4 : Nat) : Int)), (8, .slice (some ⟨bx, 0, none⟩) mx mx), (9, .slice (some ⟨b39, 0, none⟩) (my + 1) (my + 1)), (10, .int .i64 (((i + 1) : Nat) : Int))] ⟨rfl, rfl, rfl, rfl, rfl, rfl, rfl, rfl, rfl, rfl, trivial⟩, ((i + 1), mx, (my + 1), x, (y ++ [vN B i])), ⟨_, _, _, rfl, (s41.sub (.cons _ (.cons_cons _ (.cons_cons _ (.refl _))))), lt_succ_casesN hi (badV_n (by omega)), ⟨hx.1, by dsimp only; rw [List.length_append, hx.2.1]; rfl, by dsimp only; omega, by dsimp only; rw [hx.2.2.2.1]; congr 1; omega, by dsimp only; rw [hx.2.2.2.2, ← allL_succ, List.drop_append_of_le_length (by rw [allL_len]; omega)]⟩⟩, (by omega)⟩
              ·
                replace c6 := of_decide_eq_false c6
                refine ⟨_, Wk.refl _ _, ?_⟩
                show awp _ _ _ _ _ _ _
                refine awp_cond_f rfl ?_
                refine awp_exit_wk ?_
                refine ⟨_, Wk.refl _ _, ?_⟩
                show awp _ _ _ _ _ _ _
                refine awp_seq ?_
                refine awp_regs hF ?_
                refine dv (gyes_none rfl) (q_mv (v := .slice (some ⟨bx, 0, none⟩) mx mx) rfl) rfl (by decide) (cok1 trivial) ?_
                refine dv (gyes_none rfl) (q_mv (v := .slice (some ⟨bz, 0, none⟩) my my) rfl) rfl (by decide) (cok1 trivial) ?_
                refine dv (gyes_none rfl) (q_as (v := .slice (some ⟨bx, 0, none⟩) mx mx) rfl) rfl (by decide) (cok1 trivial) ?_
                refine dv (gyes_none rfl) (q_as (v := .slice (some ⟨bz, 0, none⟩) my my) rfl) rfl (by decide) (cok1 trivial) ?_
                refine dv (gyes_none rfl) (q_as (v := .int .i64 0) rfl) rfl (by decide) (cok1 (cconst rfl)) ?_
                refine dv (gyes_none rfl) (q_as (v := .int .u64 0) rfl) rfl (by decide) (cok1 (cconst rfl)) ?_
                refine ⟨_, Wk.refl _ _, ?_⟩
                show awp _ _ _ _ _ _ _
                refine awp_ret_wk ?_
                obtain ⟨e1, e2⟩ := sy_good (B := B) (by omega) (by omega) (by omega) (by show 8 + (atV B 0 4 + atV B 4 4) * 4 ≤ _; omega) (fun j hj => hi j (by omega))
                have hxe : x = allL B (atV B 0 4) := by rw [hx.2.2.2.1]; congr 1; omega
                have hye : y = (allL B (nmS B)).drop (atV B 0 4) := by rw [hx.2.2.2.2, show i = nmS B by omega]
                have hxl : mx = atV B 0 4 := by rw [hx.1, hxe, allL_len]
                have hyl : my = atV B 4 4 := by rw [hx.2.1, hye, List.length_drop, allL_len]; omega
                refine ⟨_, Wk.refl _ _, ?_⟩
                repeat (with_reducible first | refine then_ret ?_ | refine blk_ret ?_ | refine then_exit ?_ | refine blk_exit ?_ | refine blk_exit' (by decide) ?_ | refine blk_normal ?_ | refine then_normal ?_ | refine retq_ret ?_ | refine retq_normal ?_ | refine ng_normal ?_ | refine ng_ret ?_ | refine ng_exit ?_)
                refine ret_is (v := .tuple #[.slice (some ⟨bx, 0, none⟩) mx mx, .slice (some ⟨bz, 0, none⟩) my my, .int .i64 0, .int .u64 0]) rfl (.tmp rfl (.tmp rfl (.tmp rfl (.tmp rfl .nil)))) rfl ?_
                exact .inr ⟨e1, bx, bz, by rw [← hxe, ← hye]; exact s10.newL, by rw [hxl, hyl]⟩

end Go.Proofs.YtmoldjiooccppaaA


/-
  Walks of functions of the given program, and what they compute.
-/
namespace Go.Proofs.YtmoldjiooccppaaA
set_option linter.unusedVariables false
open Go Go.RowKit Go.Shelf Go.Proofs
theorem ext_cat {B : ByteArray} {i j k : Nat} (h1 : i ≤ j) (h2 : j ≤ k) : bl (B.extract i k) = bl (B.extract i j) ++ bl (B.extract j k) := by
  rw [← bl_append, ByteArray.extract_append_extract, Nat.min_eq_left h1, Nat.max_eq_right h2]
theorem putL_ext {B : ByteArray} {i j : Nat} (h : j ≤ B.size) (h4 : j - i = 4) : putL (getB (B.extract i j)) 4 = bl (B.extract i j) := by
  have h1 := put_getB (B.extract i j)
  rw [size_extract h, h4] at h1
  rw [← bl_putB, h1]
theorem bytL_all {B : ByteArray} : ∀ k, 8 + 4 * k ≤ B.size → bytL (allL B k) = bl (B.extract 8 (8 + 4 * k))
  | 0, _ => by rw [bl_extract]; simp [bytL, allL]
  | k + 1, h => by
    rw [← allL_succ, bytL_app, bytL_one, bytL_all k (by omega), ext_cat (i := 8) (j := 8 + 4 * k) (k := 8 + 4 * (k + 1)) (by omega) (by omega)]
    congr 1
    unfold vN
    rw [show 12 + 4 * k = 8 + 4 * (k + 1) by omega]
    exact putL_ext (i := 8 + 4 * k) (j := 8 + 4 * (k + 1)) h (by omega)
theorem allL_take {B : ByteArray} {n k : Nat} (h : n ≤ k) : (allL B k).take n = allL B n := by
  unfold allL; rw [← List.map_take, List.take_range, Nat.min_eq_left h]
theorem putT_eq {B : ByteArray} (h : syC B = 0) : putT (allL B (atV B 0 4)) ((allL B (nmS B)).drop (atV B 0 4)) = B.extract 0 (8 + 4 * nmS B) := by
  obtain ⟨h1, h2, h3, h4, h5⟩ := sy_yes h
  have hN : nmS B = atV B 0 4 + atV B 4 4 := rfl
  refine bl_inj ?_
  show (putL _ 4 ++ putL _ 4 ++ bytL _ : List UInt8) = _
  have e : allL B (atV B 0 4) ++ (allL B (nmS B)).drop (atV B 0 4) = allL B (nmS B) := by
    rw [← allL_take (k := nmS B) (show atV B 0 4 ≤ nmS B by omega)]; exact List.take_append_drop _ _
  rw [e, bytL_all _ (by omega), allL_len, List.length_drop, allL_len, show nmS B - atV B 0 4 = atV B 4 4 by omega, atV_in (show 0 + 4 ≤ B.size by omega), atV_in (show 4 + 4 ≤ B.size by omega), putL_ext (i := 0) (j := 0 + 4) (by omega) (by omega), putL_ext (i := 4) (j := 4 + 4) (by omega) (by omega), ext_cat (i := 0) (j := 8) (k := 8 + 4 * nmS B) (Nat.zero_le _) (by omega), ext_cat (i := 0) (j := 4) (k := 8) (by omega) (by omega)]
theorem putT_size (X Y : List Nat) : (putT X Y).size = 8 + 4 * (X.length + Y.length) := by
  show (putL _ 4 ++ putL _ 4 ++ bytL _ : List UInt8).toArray.size = _
  rw [List.size_toArray, List.length_append, List.length_append, putL_length, putL_length, bytL_len, List.length_append]
theorem putT_good {B : ByteArray} (h : syC B = 0) : (putT (allL B (atV B 0 4)) ((allL B (nmS B)).drop (atV B 0 4))).size = 8 + 4 * nmS B := by
  rw [putT_size, allL_len, List.length_drop, allL_len]
  have hN : nmS B = atV B 0 4 + atV B 4 4 := rfl
  omega
theorem sl_bk {B : ByteArray} {H : AHeap} {b : Nat} (hR : Rd H b ((allL B (nmS B)).map u32v) 1) : Sl u32v H (.slice (some ⟨b, 0, none⟩) (atV B 0 4) (atV B 0 4)) (allL B (atV B 0 4)) := by
  have hN : nmS B = atV B 0 4 + atV B 4 4 := rfl
  have := sl_part hR (j := 0) (n := atV B 0 4) (c := atV B 0 4) (by rw [allL_len]; omega) (Nat.le_refl _)
  rwa [List.drop_zero, allL_take (by omega)] at this
theorem sl_ch {B : ByteArray} {H : AHeap} {b : Nat} (hR : Rd H b ((allL B (nmS B)).map u32v) 1) : Sl u32v H (.slice (some ⟨b, atV B 0 4, none⟩) ((allL B (nmS B)).length - atV B 0 4) ((allL B (nmS B)).length - atV B 0 4)) ((allL B (nmS B)).drop (atV B 0 4)) := by
  have hN : nmS B = atV B 0 4 + atV B 4 4 := rfl
  exact sl_drop hR (by rw [allL_len]; omega) rfl (Nat.le_refl _)
theorem allL_w (B : ByteArray) (k : Nat) : ∀ x ∈ allL B k, x < 4294967296 := fun x hx => by
  obtain ⟨i, _, rfl⟩ := List.mem_map.1 hx
  exact vN_lt B i
theorem drop_w {B : ByteArray} {k n : Nat} : ∀ x ∈ (allL B k).drop n, x < 4294967296 := fun x hx => allL_w B k x (List.mem_of_mem_drop hx)
set_option maxRecDepth 100000 in
set_option maxHeartbeats 4000000 in
theorem sysvReads_good {H0 : AHeap} (B : ByteArray) (hB : B.size ≤ 140737488355328) (h : syC B = 0) : ACalls Try.prog 5 [.string B] H0 (Rets (.bool true) H0) := by
  have hF : Wd Fence.wide := .inl rfl
  have hM : Try.prog.follows .mixedOrders = true := by kernel_rfl
  obtain ⟨hz1, hz2, hz3, hz4, hz5⟩ := sy_yes h
  have hnmE : nmS B = atV B 0 4 + atV B 4 4 := rfl
  have hln := allL_len B (nmS B)
  have s0 := St.begin H0
  refine acalls_st Try.func5 rfl Try.ntmps5 rfl ?_
  refine awp_seq ?_
  refine awp_regs hF ?_
  refine dv (gyes_none rfl) (q_as (v := .bool false) rfl) rfl (by decide) (cok1 (cconst rfl)) ?_
  refine ⟨_, Wk.refl _ _, ?_⟩
  show awp _ _ _ _ _ _ _
  refine awp_seq ?_
  refine awp_seq ?_
  refine awp_regs hF ?_
  refine dv (gyes_none rfl) (q_call0 Try.call7 rfl (speaks_ok rfl)) rfl (by decide) (cok1 trivial) ?_
  refine dv (gyes_none rfl) (q_not (b := true) rfl) rfl (by decide) (cok1 trivial) ?_
  refine ⟨_, Wk.refl _ _, ?_⟩
  show awp _ _ _ _ _ _ _
  refine awp_cond_f rfl ?_
  refine awp_skip_wk ?_
  refine ⟨_, Wk.refl _ _, ?_⟩
  show awp _ _ _ _ _ _ _
  refine awp_seq ?_
  refine awp_regs hF ?_
  refine dv (gyes_none rfl) (q_mv (v := .string B) rfl) rfl (by decide) (cok1 trivial) ?_
  refine x_call [] hF (by kernel_rfl) (gyes_none rfl) Try.call15 rfl (args := [.string B]) rfl (sread_ok B hB) (show _ < _ by decide) (call_ok rfl) rfl rfl (fun _ _ _ _ hd => by cases hd) ?_
  rintro _ H2 (⟨hq, _⟩ | ⟨_, b1, hk3, hb4, rfl, hg5⟩)
  · exact absurd h hq
  have s6 := s0.callN hk3 hb4 hg5
  refine ⟨trivial, ?_⟩
  show dList _ _ _ _ _ _ _ _ _ _
  refine dv (gyes_none rfl) (q_mv (v := .tuple #[.agg #[.slice (some ⟨b1, 0, none⟩) (atV B 0 4) (atV B 0 4), .slice (some ⟨b1, atV B 0 4, none⟩) ((allL B (nmS B)).length - (atV B 0 4)) ((allL B (nmS B)).length - (atV B 0 4))], .agg #[.int .i64 0, .int .u64 0, .string (⟨#[]⟩ : ByteArray)]]) rfl) rfl (by decide) (cok1 trivial) ?_
  refine dv (gyes_none rfl) (q_extract (v := .agg #[.slice (some ⟨b1, 0, none⟩) (atV B 0 4) (atV B 0 4), .slice (some ⟨b1, atV B 0 4, none⟩) ((allL B (nmS B)).length - (atV B 0 4)) ((allL B (nmS B)).length - (atV B 0 4))]) rfl rfl) rfl (by decide) (cok1 trivial) ?_
  refine dv (gyes_none rfl) (q_extract (v := .agg #[.int .i64 0, .int .u64 0, .string (⟨#[]⟩ : ByteArray)]) rfl rfl) rfl (by decide) (cok1 trivial) ?_
  refine x_new (fun b => .pointer (some ⟨b, 0, none⟩)) s6 (gyes_none rfl) (q_alloc (vs := [.slice none 0 0, .slice none 0 0]) 2 Try.zeroValue26 (by first | exact flat_scalar rfl | exact flat_agg rfl) rfl) rfl (by decide) (by simp [Op.operands]) (fun b7 H8 hb10 s9 => ?_)
  refine x_new (fun b => .pointer (some ⟨b, 0, none⟩)) s9 (gyes_none rfl) (q_alloc (vs := [.int .i64 0, .int .u64 0, .string ⟨#[]⟩]) 3 Try.zeroValue44 (by first | exact flat_scalar rfl | exact flat_agg rfl) rfl) rfl (by decide) (by simp [Op.operands]) (fun b11 H12 hb14 s13 => ?_)
  refine x_store [] hF s13 (by kernel_rfl) (gyes_none rfl) (j := 1) (v := .agg #[.slice (some ⟨b1, 0, none⟩) (atV B 0 4) (atV B 0 4), .slice (some ⟨b1, atV B 0 4, none⟩) ((allL B (nmS B)).length - (atV B 0 4)) ((allL B (nmS B)).length - (atV B 0 4))]) rfl Try.sizeOf26 rfl rfl rfl rfl rfl trivial (lcsA ⟨(lc_slice (s13.live (j := 2) rfl)), (lc_slice (s13.live (j := 2) rfl)), trivial⟩) (Nat.le_of_ble_eq_true rfl) trivial trivial rfl rfl (F' := [(b11, .cells true [.int .i64 0, .int .u64 0, .string ⟨#[]⟩] 3), (b7, .cells true [.slice (some ⟨b1, 0, none⟩) (atV B 0 4) (atV B 0 4), .slice (some ⟨b1, atV B 0 4, none⟩) ((allL B (nmS B)).length - (atV B 0 4)) ((allL B (nmS B)).length - (atV B 0 4))] 2), (b1, .cells true ((allL B (nmS B)).map u32v) 1)]) rfl (fun H15 s16 => ⟨?_, ?_⟩)
  · exact trivial
  refine x_store [] hF s16 (by kernel_rfl) (gyes_none rfl) (j := 0) (v := .agg #[.int .i64 0, .int .u64 0, .string (⟨#[]⟩ : ByteArray)]) rfl Try.sizeOf44 rfl rfl rfl rfl rfl trivial (lcsA ⟨(lc_scalar rfl), (lc_scalar rfl), (lc_scalar rfl), trivial⟩) (Nat.le_of_ble_eq_true rfl) trivial trivial rfl rfl (F' := [(b11, .cells true [.int .i64 0, .int .u64 0, .string (⟨#[]⟩ : ByteArray)] 3), (b7, .cells true [.slice (some ⟨b1, 0, none⟩) (atV B 0 4) (atV B 0 4), .slice (some ⟨b1, atV B 0 4, none⟩) ((allL B (nmS B)).length - (atV B 0 4)) ((allL B (nmS B)).length - (atV B 0 4))] 2), (b1, .cells true ((allL B (nmS B)).map u32v) 1)]) rfl (fun H17 s18 => ⟨?_, ?_⟩)
  · exact trivial
  refine ⟨_, Wk.refl _ _, ?_⟩
  show awp _ _ _ _ _ _ _
  refine awp_seq ?_
  refine awp_regs hF ?_
  refine dv (gyes_none rfl) (q_mv (v := .string B) rfl) rfl (by decide) (cok1 trivial) ?_
  refine x_call [] hF (by kernel_rfl) (gyes_none rfl) Try.call16 rfl (args := [.string B]) rfl (rsread_ok B hB) (show _ < _ by decide) (call_ok rfl) rfl rfl (fun _ _ _ _ hd => by cases hd) ?_
  rintro _ H21 (⟨hq, _⟩ | ⟨_, b19, b20, hn22, rfl⟩)
  · exact absurd h hq
  have s23 := s18.callL hn22
  refine ⟨trivial, ?_⟩
  show dList _ _ _ _ _ _ _ _ _ _
  refine dv (gyes_none rfl) (q_mv (v := .tuple #[.slice (some ⟨b19, 0, none⟩) (atV B 0 4) (atV B 0 4), .slice (some ⟨b20, 0, none⟩) (atV B 4 4) (atV B 4 4), .int .i64 0, .int .u64 0]) rfl) rfl (by decide) (cok1 trivial) ?_
  refine dv (gyes_none rfl) (q_extract (v := .slice (some ⟨b19, 0, none⟩) (atV B 0 4) (atV B 0 4)) rfl rfl) rfl (by decide) (cok1 trivial) ?_
  refine dv (gyes_none rfl) (q_extract (v := .slice (some ⟨b20, 0, none⟩) (atV B 4 4) (atV B 4 4)) rfl rfl) rfl (by decide) (cok1 trivial) ?_
  refine dv (gyes_none rfl) (q_extract (v := .int .i64 0) rfl rfl) rfl (by decide) (cok1 trivial) ?_
  refine dv (gyes_none rfl) (q_extract (v := .int .u64 0) rfl rfl) rfl (by decide) (cok1 trivial) ?_
  refine dv (gyes_none rfl) (q_as (v := .slice (some ⟨b19, 0, none⟩) (atV B 0 4) (atV B 0 4)) rfl) rfl (by decide) (cok1 trivial) ?_
  refine dv (gyes_none rfl) (q_as (v := .slice (some ⟨b20, 0, none⟩) (atV B 4 4) (atV B 4 4)) rfl) rfl (by decide) (cok1 trivial) ?_
  refine dv (gyes_none rfl) (q_as (v := .int .i64 0) rfl) rfl (by decide) (cok1 trivial) ?_
  refine dv (gyes_none rfl) (q_as (v := .int .u64 0) rfl) rfl (by decide) (cok1 trivial) ?_
  refine ⟨_, Wk.refl _ _, ?_⟩
  show awp _ _ _ _ _ _ _
  refine awp_seq ?_
  refine awp_seq ?_
  refine awp_regs hF ?_
  refine dv (gyes_none rfl) (q_field Try.underlying44 rfl Try.sizeOf41 rfl (s23.rd (j := 2) rfl)) rfl (by decide) (cok1 trivial) ?_
  refine dv (gyes_none rfl) (q_load (v := .int .i64 0) Try.isAgg41 rfl (s23.rd (j := 2) rfl) rfl) rfl (by decide) (cok1 trivial) ?_
  refine dv (gyes_none rfl) (q_mv (v := .int .i64 0) rfl) rfl (by decide) (cok1 trivial) ?_
  refine dv (gyes_none rfl) (OpQ.cast (v' := .bool false) (q_int rfl rfl rfl) (congrArg Value.bool (bne_self_eq_false _))) rfl (by decide) (cok2 trivial trivial) ?_
  refine dv (gyes_none rfl) (q_mv (v := .bool false) rfl) rfl (by decide) (cok1 trivial) ?_
  refine dv (gyes_some rfl rfl) (q_field Try.underlying44 rfl Try.sizeOf42 rfl (s23.rd (j := 2) rfl)) rfl (by decide) (cok1 trivial) ?_
  refine dv (gyes_some rfl rfl) (q_load (v := .int .u64 0) Try.isAgg42 rfl (s23.rd (j := 2) rfl) rfl) rfl (by decide) (cok1 trivial) ?_
  refine dv (gyes_some rfl rfl) (q_mv (v := .int .u64 0) rfl) rfl (by decide) (cok1 trivial) ?_
  refine dv (gyes_some rfl rfl) (OpQ.cast (v' := .bool false) (q_int rfl rfl rfl) (congrArg Value.bool (bne_self_eq_false _))) rfl (by decide) (cok2 trivial trivial) ?_
  refine dv (gyes_none rfl) (q_pf (v := .bool false) rfl rfl) rfl (by decide) (call_ok rfl) ?_
  refine dv (gyes_none rfl) (q_mv (v := .bool false) rfl) rfl (by decide) (cok1 trivial) ?_
  refine dv (gyes_some rfl rfl) (q_field Try.underlying26 rfl Try.sizeOf24 rfl (s23.rd (j := 3) rfl)) rfl (by decide) (cok1 trivial) ?_
  refine dv (gyes_some rfl rfl) (q_load (v := .slice (some ⟨b1, 0, none⟩) (atV B 0 4) (atV B 0 4)) Try.isAgg24 rfl (s23.rd (j := 3) rfl) rfl) rfl (by decide) (cok1 trivial) ?_
  refine dv (gyes_some rfl rfl) (q_mv (v := .slice (some ⟨b19, 0, none⟩) (atV B 0 4) (atV B 0 4)) rfl) rfl (by decide) (cok1 trivial) ?_
  refine dv (gyes_some rfl rfl) (q_call0 Try.call17 rfl (same_ok _ _ (allL B (atV B 0 4)) (sl_bk (s23.rd (j := 4) rfl)) (s23.slj (j := 1) rfl (by first | exact allL_len _ _ | (rw [List.length_drop, allL_len]; omega)) (Nat.le_refl _)) (by first | (rw [allL_len]; omega) | (rw [List.length_drop, allL_len]; omega) | decide))) rfl (by decide) (call_ok rfl) ?_
  refine dv (gyes_some rfl rfl) (q_not (b := true) rfl) rfl (by decide) (cok1 trivial) ?_
  refine dv (gyes_none rfl) (q_pf (v := .bool false) rfl rfl) rfl (by decide) (call_ok rfl) ?_
  refine dv (gyes_none rfl) (q_mv (v := .bool false) rfl) rfl (by decide) (cok1 trivial) ?_
  refine dv (gyes_some rfl rfl) (q_field Try.underlying26 rfl Try.sizeOf24 rfl (s23.rd (j := 3) rfl)) rfl (by decide) (cok1 trivial) ?_
  refine dv (gyes_some rfl rfl) (q_load (v := .slice (some ⟨b1, atV B 0 4, none⟩) ((allL B (nmS B)).length - (atV B 0 4)) ((allL B (nmS B)).length - (atV B 0 4))) Try.isAgg24 rfl (s23.rd (j := 3) rfl) rfl) rfl (by decide) (cok1 trivial) ?_
  refine dv (gyes_some rfl rfl) (q_mv (v := .slice (some ⟨b20, 0, none⟩) (atV B 4 4) (atV B 4 4)) rfl) rfl (by decide) (cok1 trivial) ?_
  refine dv (gyes_some rfl rfl) (q_call0 Try.call17 rfl (same_ok _ _ ((allL B (nmS B)).drop (atV B 0 4)) (sl_ch (s23.rd (j := 4) rfl)) (s23.slj (j := 0) rfl (by first | exact allL_len _ _ | (rw [List.length_drop, allL_len]; omega)) (Nat.le_refl _)) (by first | (rw [allL_len]; omega) | (rw [List.length_drop, allL_len]; omega) | decide))) rfl (by decide) (call_ok rfl) ?_
  refine dv (gyes_some rfl rfl) (q_not (b := true) rfl) rfl (by decide) (cok1 trivial) ?_
  refine dv (gyes_none rfl) (q_pf (v := .bool false) rfl rfl) rfl (by decide) (call_ok rfl) ?_
  refine ⟨_, Wk.refl _ _, ?_⟩
  show awp _ _ _ _ _ _ _
  refine awp_cond_f rfl ?_
  refine awp_skip_wk ?_
  refine ⟨_, Wk.refl _ _, ?_⟩
  show awp _ _ _ _ _ _ _
  refine awp_seq ?_
  refine awp_regs hF ?_
  refine dv (gyes_none rfl) (q_loadAgg Try.isAgg26 Try.sizeOf26 rfl (s23.rd (j := 3) rfl) (Nat.le_of_ble_eq_true rfl) rfl) rfl (by decide) (cok1 trivial) ?_
  refine dv (gyes_none rfl) (q_call0 Try.call18 rfl (tput_ok _ _ (allL B (atV B 0 4)) ((allL B (nmS B)).drop (atV B 0 4)) (sl_bk (s23.rd (j := 4) rfl)) (sl_ch (s23.rd (j := 4) rfl)) (by first | (rw [allL_len]; omega) | (rw [List.length_drop, allL_len]; omega) | decide) (by first | (rw [allL_len]; omega) | (rw [List.length_drop, allL_len]; omega) | decide) (by first | exact allL_w _ _ | exact drop_w | (intro x hx; exact nomatch hx)) (by first | exact allL_w _ _ | exact drop_w | (intro x hx; exact nomatch hx)))) rfl (by decide) (cok2 trivial trivial) ?_
  refine dv (gyes_none rfl) (q_as (v := .string (putT (allL B (atV B 0 4)) ((allL B (nmS B)).drop (atV B 0 4)))) rfl) rfl (by decide) (cok1 trivial) ?_
  refine ⟨_, Wk.refl _ _, ?_⟩
  show awp _ _ _ _ _ _ _
  refine awp_seq ?_
  have hps := putT_good h
  refine awp_regs hF ?_
  refine dv (gyes_none rfl) (q_mv (v := .int .i64 0) rfl) rfl (by decide) (cok1 trivial) ?_
  refine dv (gyes_none rfl) (OpQ.cast (v' := .bool false) (q_int rfl rfl rfl) (congrArg Value.bool (bne_self_eq_false _))) rfl (by decide) (cok2 trivial (cconst rfl)) ?_
  refine dv (gyes_none rfl) (q_mv (v := .bool false) rfl) rfl (by decide) (cok1 trivial) ?_
  refine dv (gyes_some rfl rfl) (q_mv (v := .string (putT (allL B (atV B 0 4)) ((allL B (nmS B)).drop (atV B 0 4)))) rfl) rfl (by decide) (cok1 trivial) ?_
  refine dv (gyes_some rfl rfl) (q_len_str Try.underlying9 rfl) rfl (by decide) (cok1 trivial) ?_
  refine dv (gyes_some rfl rfl) (q_mv (v := .slice (some ⟨b19, 0, none⟩) (atV B 0 4) (atV B 0 4)) rfl) rfl (by decide) (cok1 trivial) ?_
  refine dv (gyes_some rfl rfl) (q_len_slice Try.underlying24 rfl (s23.rd (j := 1) rfl)) rfl (by decide) (cok1 trivial) ?_
  refine dv (gyes_some rfl rfl) (OpQ.cast (v' := .int .i64 ((4 * (atV B 0 4) : Nat) : Int)) (q_int rfl rfl rfl) (congrArg _ ((i64_in (by omega)).trans (by first | rfl | omega | (push_cast; rfl))))) rfl (by decide) (cok2 (cconst rfl) trivial) ?_
  refine dv (gyes_some rfl rfl) (OpQ.cast (v' := .int .i64 ((8 + (4 * (atV B 0 4)) : Nat) : Int)) (q_int rfl rfl rfl) (congrArg _ ((i64_in (by omega)).trans (by first | rfl | omega | (push_cast; rfl))))) rfl (by decide) (cok2 (cconst rfl) trivial) ?_
  refine dv (gyes_some rfl rfl) (q_mv (v := .slice (some ⟨b20, 0, none⟩) (atV B 4 4) (atV B 4 4)) rfl) rfl (by decide) (cok1 trivial) ?_
  refine dv (gyes_some rfl rfl) (q_len_slice Try.underlying24 rfl (s23.rd (j := 0) rfl)) rfl (by decide) (cok1 trivial) ?_
  refine dv (gyes_some rfl rfl) (OpQ.cast (v' := .int .i64 ((4 * (atV B 4 4) : Nat) : Int)) (q_int rfl rfl rfl) (congrArg _ ((i64_in (by omega)).trans (by first | rfl | omega | (push_cast; rfl))))) rfl (by decide) (cok2 (cconst rfl) trivial) ?_
  refine dv (gyes_some rfl rfl) (OpQ.cast (v' := .int .i64 ((8 + (4 * (atV B 0 4)) + (4 * (atV B 4 4)) : Nat) : Int)) (q_int rfl rfl rfl) (congrArg _ ((i64_in (by omega)).trans (by first | rfl | omega | (push_cast; rfl))))) rfl (by decide) (cok2 trivial trivial) ?_
  refine dv (gyes_some rfl rfl) (OpQ.cast (v' := .bool true) (q_int rfl rfl rfl) (congrArg Value.bool (beq_iff_eq.2 (by rw [hps]; omega)))) rfl (by decide) (cok2 trivial trivial) ?_
  refine dv (gyes_some rfl rfl) (q_mv (v := .bool true) rfl) rfl (by decide) (cok1 trivial) ?_
  refine dv (gyes_some rfl rfl) (q_mv (v := .string (putT (allL B (atV B 0 4)) ((allL B (nmS B)).drop (atV B 0 4)))) rfl) rfl (by decide) (cok1 trivial) ?_
  refine dv (gyes_some rfl rfl) (q_mv (v := .string B) rfl) rfl (by decide) (cok1 trivial) ?_
  refine dv (gyes_some rfl rfl) (q_mv (v := .string (putT (allL B (atV B 0 4)) ((allL B (nmS B)).drop (atV B 0 4)))) rfl) rfl (by decide) (cok1 trivial) ?_
  refine dv (gyes_some rfl rfl) (q_len_str Try.underlying9 rfl) rfl (by decide) (cok1 trivial) ?_
  refine dv (gyes_some rfl rfl) (q_substr (i := 0) (j := ((putT (allL B (atV B 0 4)) ((allL B (nmS B)).drop (atV B 0 4))).size)) Try.underlying9 rfl rfl ⟨_, rfl⟩ (by omega) (by omega)) rfl (by decide) (cok2 trivial trivial) ?_
  refine dv (gyes_some rfl rfl) (OpQ.cast (v' := .bool true) (q_streq rfl rfl) (congrArg Value.bool (decide_eq_true (by rw [hps]; exact putT_eq h)))) rfl (by decide) (cok2 trivial trivial) ?_
  refine dv (gyes_some rfl rfl) (q_pt (v := .bool true) rfl rfl) rfl (by decide) (call_ok rfl) ?_
  refine dv (gyes_none rfl) (q_pf (v := .bool true) rfl rfl) rfl (by decide) (call_ok rfl) ?_
  refine dv (gyes_none rfl) (q_as (v := .bool true) rfl) rfl (by decide) (cok1 trivial) ?_
  refine ⟨_, Wk.refl _ _, ?_⟩
  show awp _ _ _ _ _ _ _
  refine awp_ret_wk ?_
  refine ⟨_, Wk.refl _ _, ?_⟩
  repeat (with_reducible first | refine then_ret ?_ | refine blk_ret ?_ | refine then_exit ?_ | refine blk_exit ?_ | refine blk_exit' (by decide) ?_ | refine blk_normal ?_ | refine then_normal ?_ | refine retq_ret ?_ | refine retq_normal ?_ | refine ng_normal ?_ | refine ng_ret ?_ | refine ng_exit ?_)
  exact ret_none (v := .bool true) rfl s23.kp (.tmp rfl .nil) rfl rfl ⟨rfl, rfl⟩
set_option maxRecDepth 100000 in
set_option maxHeartbeats 4000000 in
theorem sysvReads_bad {H0 : AHeap} (B : ByteArray) (hB : B.size ≤ 140737488355328) (h : syC B ≠ 0) : ACalls Try.prog 5 [.string B] H0 (Rets (.bool true) H0) := by
  have hF : Wd Fence.wide := .inl rfl
  have hM : Try.prog.follows .mixedOrders = true := by kernel_rfl
  have s0 := St.begin H0
  refine acalls_st Try.func5 rfl Try.ntmps5 rfl ?_
  refine awp_seq ?_
  refine awp_regs hF ?_
  refine dv (gyes_none rfl) (q_as (v := .bool false) rfl) rfl (by decide) (cok1 (cconst rfl)) ?_
  refine ⟨_, Wk.refl _ _, ?_⟩
  show awp _ _ _ _ _ _ _
  refine awp_seq ?_
  refine awp_seq ?_
  refine awp_regs hF ?_
  refine dv (gyes_none rfl) (q_call0 Try.call7 rfl (speaks_ok rfl)) rfl (by decide) (cok1 trivial) ?_
  refine dv (gyes_none rfl) (q_not (b := true) rfl) rfl (by decide) (cok1 trivial) ?_
  refine ⟨_, Wk.refl _ _, ?_⟩
  show awp _ _ _ _ _ _ _
  refine awp_cond_f rfl ?_
  refine awp_skip_wk ?_
  refine ⟨_, Wk.refl _ _, ?_⟩
  show awp _ _ _ _ _ _ _
  refine awp_seq ?_
  refine awp_regs hF ?_
  refine dv (gyes_none rfl) (q_mv (v := .string B) rfl) rfl (by decide) (cok1 trivial) ?_
  refine x_call [] hF (by kernel_rfl) (gyes_none rfl) Try.call15 rfl (args := [.string B]) rfl (sread_ok B hB) (show _ < _ by decide) (call_ok rfl) rfl rfl (fun _ _ _ _ hd => by cases hd) ?_
  rintro _ H2 (⟨_, rfl, hk3⟩ | ⟨hq, _⟩)
  rotate_left
  · exact absurd hq h
  have s6 := s0.call0 hk3
  refine ⟨trivial, ?_⟩
  show dList _ _ _ _ _ _ _ _ _ _
  refine dv (gyes_none rfl) (q_mv (v := .tuple #[.agg #[.slice none 0 0, .slice none 0 0], .agg #[.int .i64 ((syC B : Nat) : Int), .int .u64 ((syA B : Nat) : Int), .string (⟨#[]⟩ : ByteArray)]]) rfl) rfl (by decide) (cok1 trivial) ?_
  refine dv (gyes_none rfl) (q_extract (v := .agg #[.slice none 0 0, .slice none 0 0]) rfl rfl) rfl (by decide) (cok1 trivial) ?_
  refine dv (gyes_none rfl) (q_extract (v := .agg #[.int .i64 ((syC B : Nat) : Int), .int .u64 ((syA B : Nat) : Int), .string (⟨#[]⟩ : ByteArray)]) rfl rfl) rfl (by decide) (cok1 trivial) ?_
  refine x_new (fun b => .pointer (some ⟨b, 0, none⟩)) s6 (gyes_none rfl) (q_alloc (vs := [.slice none 0 0, .slice none 0 0]) 2 Try.zeroValue26 (by first | exact flat_scalar rfl | exact flat_agg rfl) rfl) rfl (by decide) (by simp [Op.operands]) (fun b7 H8 hb10 s9 => ?_)
  refine x_new (fun b => .pointer (some ⟨b, 0, none⟩)) s9 (gyes_none rfl) (q_alloc (vs := [.int .i64 0, .int .u64 0, .string ⟨#[]⟩]) 3 Try.zeroValue44 (by first | exact flat_scalar rfl | exact flat_agg rfl) rfl) rfl (by decide) (by simp [Op.operands]) (fun b11 H12 hb14 s13 => ?_)
  refine x_store [] hF s13 (by kernel_rfl) (gyes_none rfl) (j := 1) (v := .agg #[.slice none 0 0, .slice none 0 0]) rfl Try.sizeOf26 rfl rfl rfl rfl rfl trivial (lcsA ⟨(lc_scalar rfl), (lc_scalar rfl), trivial⟩) (Nat.le_of_ble_eq_true rfl) trivial trivial rfl rfl (F' := [(b11, .cells true [.int .i64 0, .int .u64 0, .string ⟨#[]⟩] 3), (b7, .cells true [.slice none 0 0, .slice none 0 0] 2)]) rfl (fun H15 s16 => ⟨?_, ?_⟩)
  · exact trivial
  refine x_store [] hF s16 (by kernel_rfl) (gyes_none rfl) (j := 0) (v := .agg #[.int .i64 ((syC B : Nat) : Int), .int .u64 ((syA B : Nat) : Int), .string (⟨#[]⟩ : ByteArray)]) rfl Try.sizeOf44 rfl rfl rfl rfl rfl trivial (lcsA ⟨(lc_scalar rfl), (lc_scalar rfl), (lc_scalar rfl), trivial⟩) (Nat.le_of_ble_eq_true rfl) trivial trivial rfl rfl (F' := [(b11, .cells true [.int .i64 ((syC B : Nat) : Int), .int .u64 ((syA B : Nat) : Int), .string (⟨#[]⟩ : ByteArray)] 3), (b7, .cells true [.slice none 0 0, .slice none 0 0] 2)]) rfl (fun H17 s18 => ⟨?_, ?_⟩)
  · exact trivial
  refine ⟨_, Wk.refl _ _, ?_⟩
  show awp _ _ _ _ _ _ _
  refine awp_seq ?_
  refine awp_regs hF ?_
  refine dv (gyes_none rfl) (q_mv (v := .string B) rfl) rfl (by decide) (cok1 trivial) ?_
  refine x_call [] hF (by kernel_rfl) (gyes_none rfl) Try.call16 rfl (args := [.string B]) rfl (rsread_ok B hB) (show _ < _ by decide) (call_ok rfl) rfl rfl (fun _ _ _ _ hd => by cases hd) ?_
  rintro _ H21 (⟨_, rfl, hn22⟩ | ⟨hq, _⟩)
  rotate_left
  · exact absurd hq h
  have s23 := s18.call0 hn22
  refine ⟨trivial, ?_⟩
  show dList _ _ _ _ _ _ _ _ _ _
  refine dv (gyes_none rfl) (q_mv (v := .tuple #[.slice none 0 0, .slice none 0 0, .int .i64 ((syC B : Nat) : Int), .int .u64 ((syA B : Nat) : Int)]) rfl) rfl (by decide) (cok1 trivial) ?_
  refine dv (gyes_none rfl) (q_extract (v := .slice none 0 0) rfl rfl) rfl (by decide) (cok1 trivial) ?_
  refine dv (gyes_none rfl) (q_extract (v := .slice none 0 0) rfl rfl) rfl (by decide) (cok1 trivial) ?_
  refine dv (gyes_none rfl) (q_extract (v := .int .i64 ((syC B : Nat) : Int)) rfl rfl) rfl (by decide) (cok1 trivial) ?_
  refine dv (gyes_none rfl) (q_extract (v := .int .u64 ((syA B : Nat) : Int)) rfl rfl) rfl (by decide) (cok1 trivial) ?_
  refine dv (gyes_none rfl) (q_as (v := .slice none 0 0) rfl) rfl (by decide) (cok1 trivial) ?_
  refine dv (gyes_none rfl) (q_as (v := .slice none 0 0) rfl) rfl (by decide) (cok1 trivial) ?_
  refine dv (gyes_none rfl) (q_as (v := .int .i64 ((syC B : Nat) : Int)) rfl) rfl (by decide) (cok1 trivial) ?_
  refine dv (gyes_none rfl) (q_as (v := .int .u64 ((syA B : Nat) : Int)) rfl) rfl (by decide) (cok1 trivial) ?_
  refine ⟨_, Wk.refl _ _, ?_⟩
  show awp _ _ _ _ _ _ _
  refine awp_seq ?_
  refine awp_seq ?_
  refine awp_regs hF ?_
  refine dv (gyes_none rfl) (q_field Try.underlying44 rfl Try.sizeOf41 rfl (s23.rd (j := 0) rfl)) rfl (by decide) (cok1 trivial) ?_
  refine dv (gyes_none rfl) (q_load (v := .int .i64 ((syC B : Nat) : Int)) Try.isAgg41 rfl (s23.rd (j := 0) rfl) rfl) rfl (by decide) (cok1 trivial) ?_
  refine dv (gyes_none rfl) (q_mv (v := .int .i64 ((syC B : Nat) : Int)) rfl) rfl (by decide) (cok1 trivial) ?_
  refine dv (gyes_none rfl) (OpQ.cast (v' := .bool false) (q_int rfl rfl rfl) (congrArg Value.bool (bne_self_eq_false _))) rfl (by decide) (cok2 trivial trivial) ?_
  refine dv (gyes_none rfl) (q_mv (v := .bool false) rfl) rfl (by decide) (cok1 trivial) ?_
  refine dv (gyes_some rfl rfl) (q_field Try.underlying44 rfl Try.sizeOf42 rfl (s23.rd (j := 0) rfl)) rfl (by decide) (cok1 trivial) ?_
  refine dv (gyes_some rfl rfl) (q_load (v := .int .u64 ((syA B : Nat) : Int)) Try.isAgg42 rfl (s23.rd (j := 0) rfl) rfl) rfl (by decide) (cok1 trivial) ?_
  refine dv (gyes_some rfl rfl) (q_mv (v := .int .u64 ((syA B : Nat) : Int)) rfl) rfl (by decide) (cok1 trivial) ?_
  refine dv (gyes_some rfl rfl) (OpQ.cast (v' := .bool false) (q_int rfl rfl rfl) (congrArg Value.bool (bne_self_eq_false _))) rfl (by decide) (cok2 trivial trivial) ?_
  refine dv (gyes_none rfl) (q_pf (v := .bool false) rfl rfl) rfl (by decide) (call_ok rfl) ?_
  refine dv (gyes_none rfl) (q_mv (v := .bool false) rfl) rfl (by decide) (cok1 trivial) ?_
  refine dv (gyes_some rfl rfl) (q_field Try.underlying26 rfl Try.sizeOf24 rfl (s23.rd (j := 1) rfl)) rfl (by decide) (cok1 trivial) ?_
  refine dv (gyes_some rfl rfl) (q_load (v := .slice none 0 0) Try.isAgg24 rfl (s23.rd (j := 1) rfl) rfl) rfl (by decide) (cok1 trivial) ?_
  refine dv (gyes_some rfl rfl) (q_mv (v := .slice none 0 0) rfl) rfl (by decide) (cok1 trivial) ?_
  refine dv (gyes_some rfl rfl) (q_call0 Try.call17 rfl (same_ok _ _ ([]) Sl.nil Sl.nil (by first | (rw [allL_len]; omega) | (rw [List.length_drop, allL_len]; omega) | decide))) rfl (by decide) (call_ok rfl) ?_
  refine dv (gyes_some rfl rfl) (q_not (b := true) rfl) rfl (by decide) (cok1 trivial) ?_
  refine dv (gyes_none rfl) (q_pf (v := .bool false) rfl rfl) rfl (by decide) (call_ok rfl) ?_
  refine dv (gyes_none rfl) (q_mv (v := .bool false) rfl) rfl (by decide) (cok1 trivial) ?_
  refine dv (gyes_some rfl rfl) (q_field Try.underlying26 rfl Try.sizeOf24 rfl (s23.rd (j := 1) rfl)) rfl (by decide) (cok1 trivial) ?_
  refine dv (gyes_some rfl rfl) (q_load (v := .slice none 0 0) Try.isAgg24 rfl (s23.rd (j := 1) rfl) rfl) rfl (by decide) (cok1 trivial) ?_
  refine dv (gyes_some rfl rfl) (q_mv (v := .slice none 0 0) rfl) rfl (by decide) (cok1 trivial) ?_
  refine dv (gyes_some rfl rfl) (q_call0 Try.call17 rfl (same_ok _ _ ([]) Sl.nil Sl.nil (by first | (rw [allL_len]; omega) | (rw [List.length_drop, allL_len]; omega) | decide))) rfl (by decide) (call_ok rfl) ?_
  refine dv (gyes_some rfl rfl) (q_not (b := true) rfl) rfl (by decide) (cok1 trivial) ?_
  refine dv (gyes_none rfl) (q_pf (v := .bool false) rfl rfl) rfl (by decide) (call_ok rfl) ?_
  refine ⟨_, Wk.refl _ _, ?_⟩
  show awp _ _ _ _ _ _ _
  refine awp_cond_f rfl ?_
  refine awp_skip_wk ?_
  refine ⟨_, Wk.refl _ _, ?_⟩
  show awp _ _ _ _ _ _ _
  refine awp_seq ?_
  refine awp_regs hF ?_
  refine dv (gyes_none rfl) (q_loadAgg Try.isAgg26 Try.sizeOf26 rfl (s23.rd (j := 1) rfl) (Nat.le_of_ble_eq_true rfl) rfl) rfl (by decide) (cok1 trivial) ?_
  refine dv (gyes_none rfl) (q_call0 Try.call18 rfl (tput_ok _ _ ([]) ([]) Sl.nil Sl.nil (by first | (rw [allL_len]; omega) | (rw [List.length_drop, allL_len]; omega) | decide) (by first | (rw [allL_len]; omega) | (rw [List.length_drop, allL_len]; omega) | decide) (by first | exact allL_w _ _ | exact drop_w | (intro x hx; exact nomatch hx)) (by first | exact allL_w _ _ | exact drop_w | (intro x hx; exact nomatch hx)))) rfl (by decide) (cok2 trivial trivial) ?_
  refine dv (gyes_none rfl) (q_as (v := .string (putT ([]) ([]))) rfl) rfl (by decide) (cok1 trivial) ?_
  refine ⟨_, Wk.refl _ _, ?_⟩
  show awp _ _ _ _ _ _ _
  refine awp_seq ?_
  refine awp_regs hF ?_
  refine dv (gyes_none rfl) (q_mv (v := .int .i64 ((syC B : Nat) : Int)) rfl) rfl (by decide) (cok1 trivial) ?_
  refine dv (gyes_none rfl) (OpQ.cast (v' := .bool true) (q_int rfl rfl rfl) (congrArg Value.bool (bne_iff_ne.2 (by omega)))) rfl (by decide) (cok2 trivial (cconst rfl)) ?_
  refine dv (gyes_none rfl) (q_mv (v := .bool true) rfl) rfl (by decide) (cok1 trivial) ?_
  refine dno rfl (.inl rfl) rfl (by decide) ?_
  refine dno rfl (.inl rfl) rfl (by decide) ?_
  refine dno rfl (.inl rfl) rfl (by decide) ?_
  refine dno rfl (.inl rfl) rfl (by decide) ?_
  refine dno rfl (.inl rfl) rfl (by decide) ?_
  refine dno rfl (.inl rfl) rfl (by decide) ?_
  refine dno rfl (.inl rfl) rfl (by decide) ?_
  refine dno rfl (.inl rfl) rfl (by decide) ?_
  refine dno rfl (.inl rfl) rfl (by decide) ?_
  refine dno rfl (.inl rfl) rfl (by decide) ?_
  refine dno rfl (.inl rfl) rfl (by decide) ?_
  refine dno rfl (.inl rfl) rfl (by decide) ?_
  refine dno rfl (.inr rfl) rfl (by decide) ?_
  refine dno rfl (.inr rfl) rfl (by decide) ?_
  refine dno rfl (.inr rfl) rfl (by decide) ?_
  refine dno rfl (.inr rfl) rfl (by decide) ?_
  refine dno rfl (.inr rfl) rfl (by decide) ?_
  refine dno rfl (.inr rfl) rfl (by decide) ?_
  refine dno rfl (.inl rfl) rfl (by decide) ?_
  refine dv (gyes_none rfl) (q_pt (v := .bool true) rfl rfl) rfl (by decide) (call_ok rfl) ?_
  refine dv (gyes_none rfl) (q_as (v := .bool true) rfl) rfl (by decide) (cok1 trivial) ?_
  refine ⟨_, Wk.refl _ _, ?_⟩
  show awp _ _ _ _ _ _ _
  refine awp_ret_wk ?_
  refine ⟨_, Wk.refl _ _, ?_⟩
  repeat (with_reducible first | refine then_ret ?_ | refine blk_ret ?_ | refine then_exit ?_ | refine blk_exit ?_ | refine blk_exit' (by decide) ?_ | refine blk_normal ?_ | refine then_normal ?_ | refine retq_ret ?_ | refine retq_normal ?_ | refine ng_normal ?_ | refine ng_ret ?_ | refine ng_exit ?_)
  exact ret_none (v := .bool true) rfl s23.kp (.tmp rfl .nil) rfl rfl ⟨rfl, rfl⟩
theorem sysvReads_ok {H0 : AHeap} (B : ByteArray) (hB : B.size ≤ 140737488355328) : ACalls Try.prog 5 [.string B] H0 (Rets (.bool true) H0) := by
  by_cases h : syC B = 0
  · exact sysvReads_good B hB h
  · exact sysvReads_bad B hB h

end Go.Proofs.YtmoldjiooccppaaA

