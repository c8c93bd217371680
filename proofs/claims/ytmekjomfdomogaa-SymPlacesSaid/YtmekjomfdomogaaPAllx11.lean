-- Written by a program of this session (a changed copy of the print of the kit). Not trusted: Lean checks it.
import Derived.Test.YtmekjomfdomogaaPAllx0
import Derived.Test.YtmekjomfdomogaaPAllx10
namespace Go.Proofs.Ytmekjomfdomogaa.PAll
open Go.RowKit Go.Proofs.YtmekjomfdomogaaW.PrintWords Go.Proofs.YtmekjomfdomogaaW.PrintLast Go.Proofs.YtmekjomfdomogaaW.PrintMore
attribute [local go_sem] max2_int min2_int max_two min_two max_three min_three max_four min_four   -- for this text's walks alone
set_option linter.unusedVariables false
set_option linter.unusedSimpArgs false

/-! ### turnbuckleref11_Put: function 9 -/
def turnbuckleref11_Put.j0 : Nat → Int → Int → ByteArray → Int → Int → Int → Bool → Int → Int → Option (ByteArray)
 | 0, _, _, _, _, _, _, _, _, _ => none
 | k + 1, x1, x5, x156000, x156001, x156002, x156003, x156004, x156005, x156006 => (turnbuckleref01_Put.f k (IntKind.u64.wrap (x1)) 4).bind fun t156 => ((some (([(wrap64 ((wrap64 (16 * x156001)) + x156002)) % 256, (x156003) % 256] : List Int) : List Int)).bind fun y157 => (if t156.size + (strOfNums y157).size ≤ 9223372036854775807 then ((turnbuckleref01_Put.f k x5 2).bind fun t160 => (if (t156 ++ (strOfNums y157)).size + t160.size ≤ 9223372036854775807 then ((turnbuckleref01_Put.f k x156005 8).bind fun t161 => (if ((t156 ++ (strOfNums y157)) ++ t160).size + t161.size ≤ 9223372036854775807 then ((turnbuckleref01_Put.f k x156006 8).bind fun t162 => (if (((t156 ++ (strOfNums y157)) ++ t160) ++ t161).size + t162.size ≤ 9223372036854775807 then (some ((((t156 ++ (strOfNums y157)) ++ t160) ++ t161) ++ t162)) else (none))) else (none))) else (none))) else (none)))
def turnbuckleref11_Put.f (k : Nat) (a0_0 : ByteArray) (a0_1 : Int) (a0_2 : Int) (a0_3 : Int) (a0_4 : Bool) (a0_5 : Int) (a0_6 : Int) (a1 : Int) : Option (ByteArray) := if a0_4 = true then (turnbuckleref11_Put.j0 k a1 1 a0_0 a0_1 a0_2 a0_3 a0_4 a0_5 a0_6) else (turnbuckleref11_Put.j0 k a1 0 a0_0 a0_1 a0_2 a0_3 a0_4 a0_5 a0_6)
theorem turnbuckleref11_Put.mono_l : ∀ k, (∀ y0 y1 y2 y3 y4 y5 y6 y7 y8, LeO (turnbuckleref11_Put.j0 k y0 y1 y2 y3 y4 y5 y6 y7 y8) (turnbuckleref11_Put.j0 (k + 1) y0 y1 y2 y3 y4 y5 y6 y7 y8))
 | 0 => fun _ _ _ _ _ _ _ _ _ r h => by simp [turnbuckleref11_Put.j0] at h
 | k + 1 => by
  have ih0 := turnbuckleref11_Put.mono_l k
  ·intro y0 y1 y2 y3 y4 y5 y6 y7 y8
   unfold turnbuckleref11_Put.j0
   repeat' first
   | (with_reducible exact ih0 _ _ _ _ _ _ _ _ _)
   | (with_reducible exact turnbuckleref01_Put.mono _ _ _)
   | (with_reducible exact LeO.refl _)
   | (with_reducible exact LeO.none _)
   | (with_reducible refine LeO.ite ?_ ?_)
   | (with_reducible refine LeO.bind ?_ (fun _ => ?_))
   | exact ih0 _ _ _ _ _ _ _ _ _
   | exact turnbuckleref01_Put.mono _ _ _
   | exact LeO.none _
   | refine LeO.ite ?_ ?_
   | refine LeO.bind ?_ (fun _ => ?_)
theorem turnbuckleref11_Put.mono : ∀ a0 a1 a2 a3 a4 a5 a6 a7 k, LeO (turnbuckleref11_Put.f k a0 a1 a2 a3 a4 a5 a6 a7) (turnbuckleref11_Put.f (k + 1) a0 a1 a2 a3 a4 a5 a6 a7) := by
 intro a0 a1 a2 a3 a4 a5 a6 a7 k
 have ih0 := turnbuckleref11_Put.mono_l k
 unfold turnbuckleref11_Put.f
 repeat' first
   | (with_reducible exact ih0 _ _ _ _ _ _ _ _ _)
   | (with_reducible exact turnbuckleref01_Put.mono _ _ _)
   | (with_reducible exact LeO.refl _)
   | (with_reducible exact LeO.none _)
   | (with_reducible refine LeO.ite ?_ ?_)
   | (with_reducible refine LeO.bind ?_ (fun _ => ?_))
   | exact ih0 _ _ _ _ _ _ _ _ _
   | exact turnbuckleref01_Put.mono _ _ _
   | exact LeO.none _
   | refine LeO.ite ?_ ?_
   | refine LeO.bind ?_ (fun _ => ?_)
def turnbuckleref11_Put.T4 : Bool × List (List Nat × List Nat) := (true, [([], []), ([0], [0]), ([1], [1]), ([], []), ([3], [3]), ([4], [4]), ([], []), ([6], [6]), ([5, 7], [5, 7]), ([8], [8]), ([], []), ([10], [10]), ([11], [11]), ([9, 12], [9, 12]), ([13], [13]), ([2, 14], [2, 14]), ([], []), ([16, 2], [16]), ([15, 17], [15, 17]), ([], []), ([19], [19]), ([20, 17], [20]), ([18, 21], [18, 21]), ([], []), ([23], [23]), ([24, 21], [24]), ([22, 25], [22, 25]), ([26, 25, 0, 1, 2, 3, 4, 5, 6, 7, 8, 9, 10, 11, 12, 13, 14, 15, 16, 17, 18, 19, 20, 21, 22, 23, 24, 25, 26], [26])])
def turnbuckleref11_Put.B4 : List Nat := [0, 1, 3, 0, 8, 24, 0, 64, 248, 504, 0, 1024, 3072, 8184, 16376, 32767, 0, 65543, 262143, 0, 524288, 1769479, 4194303, 0, 8388608, 29032455, 67108863, 134217727]
theorem turnbuckleref11_Put.tab4 : rtab .any (opsOf Try.f9 4) = turnbuckleref11_Put.T4 := by kernel_rfl
theorem turnbuckleref11_Put.bits4 : waitsOk turnbuckleref11_Put.T4.2 turnbuckleref11_Put.B4 = true := by kernel_rfl
set_option maxHeartbeats 8000000 in
set_option maxRecDepth 100000 in
theorem turnbuckleref11_Put.calls (k : Nat) (a0_0 : ByteArray) (a0_1 : Int) (a0_2 : Int) (a0_3 : Int) (a0_4 : Bool) (a0_5 : Int) (a0_6 : Int) (a1 : Int) (r : ByteArray) (w : World) (h : turnbuckleref11_Put.f k a0_0 a0_1 a0_2 a0_3 a0_4 a0_5 a0_6 a1 = some r) :
  Calls Try.prog 9 #[.agg #[.string a0_0, .int .i64 a0_1, .int .i64 a0_2, .int .i64 a0_3, .bool a0_4, .int .u64 a0_5, .int .u64 a0_6], .int .u32 a1] w fun e w' => e = .returned (.string r) ∧ Below w.heap.size w w' := by
 have hu31 := Try.underlying31
 have HB := Aside0.mk (Below.refl w.heap.size w)
 have H : (if a0_4 = true then (turnbuckleref11_Put.j0 k a1 1 a0_0 a0_1 a0_2 a0_3 a0_4 a0_5 a0_6) else (turnbuckleref11_Put.j0 k a1 0 a0_0 a0_1 a0_2 a0_3 a0_4 a0_5 a0_6)) = some r := h
 clear h
 have HC3 := Aside0.mk H
 clear H
 go_enter Try.func9, Try.ntmps9
 go_upto_if 7 with (first | ((with_reducible refine gate_dst (N := 2) rfl ?_); refine box_event ?hg (N := 2) ?hd (cs := #[.string a0_0, .int .i64 a0_1, .int .i64 a0_2, .int .i64 a0_3, .bool a0_4, .int .u64 a0_5, .int .u64 a0_6]) (t := 31) ?hr ?_; (case hd => rfl); (case hg => rfl); (case hr => first | (go_simp; done) | (go_simp; rfl)); intro gb155 hg w4 hbox hb; have n0_ := Aside0.mk (below_step (by repeat (first | (with_reducible first | exact HB.out | apply below_alloc | apply pw_below_drewN | apply below_drew1) | exact HB.out)) hb); have n1_ := Aside0.mk (hbox); have n2_ := Aside0.mk ((by rw [hg]; exact (below_size (by repeat (first | (with_reducible first | exact HB.out | apply below_alloc | apply pw_below_drewN | apply below_drew1) | exact HB.out))) : w.heap.size ≤ gb155)); have n3_ := Aside0.mk ((by rw [hg]; exact (below_size (by repeat (first | (with_reducible first | exact HB.out | apply below_alloc | apply pw_below_drewN | apply below_drew1) | exact HB.out))) : w.heap.size ≤ gb155)); clear HB; have HB := n0_; have BK155 := n1_; have GW155 := n2_; have GE155 := n3_; clear n0_ n1_ n2_ n3_; clear hb hbox hg; have hcz5_0 : w4.cell? ⟨gb155, 0, none⟩ = some (.string a0_0) := (blk_cell BK155.out 0).trans rfl; have hcz5_1 : w4.cell? ⟨gb155, 1, none⟩ = some (.int .i64 a0_1) := (blk_cell BK155.out 1).trans rfl; have hcz5_2 : w4.cell? ⟨gb155, 2, none⟩ = some (.int .i64 a0_2) := (blk_cell BK155.out 2).trans rfl; have hcz5_3 : w4.cell? ⟨gb155, 3, none⟩ = some (.int .i64 a0_3) := (blk_cell BK155.out 3).trans rfl; have hcz5_4 : w4.cell? ⟨gb155, 4, none⟩ = some (.bool a0_4) := (blk_cell BK155.out 4).trans rfl; have hcz5_5 : w4.cell? ⟨gb155, 5, none⟩ = some (.int .u64 a0_5) := (blk_cell BK155.out 5).trans rfl; have hcz5_6 : w4.cell? ⟨gb155, 6, none⟩ = some (.int .u64 a0_6) := (blk_cell BK155.out 6).trans rfl; have hfz5_0 := blk_frozen BK155.out 0; have hfz5_1 := blk_frozen BK155.out 1; have hfz5_2 := blk_frozen BK155.out 2; have hfz5_3 := blk_frozen BK155.out 3; have hfz5_4 := blk_frozen BK155.out 4; have hfz5_5 := blk_frozen BK155.out 5; have hfz5_6 := blk_frozen BK155.out 6))
 (try simp only [Act.put, List.setIfInBounds_toArray, List.set_cons_zero, List.set_cons_succ])
 go_cut [5] (fun v5 wc => ∃ (kq : Nat) (x5_2 : Int), v5 = .int .u64 x5_2 ∧ Aside0 (turnbuckleref11_Put.j0 kq a1 x5_2 a0_0 a0_1 a0_2 a0_3 a0_4 a0_5 a0_6 = some r) ∧ Aside0 (kq ≤ k) ∧ Aside0 (wc.heap[gb155]? = some (.cells #[.string a0_0, .int .i64 a0_1, .int .i64 a0_2, .int .i64 a0_3, .bool a0_4, .int .u64 a0_5, .int .u64 a0_6] 31 (0, 0))) ∧ Aside0 (Below w.heap.size w wc))
 case first =>
  have H := HC3.out
  clear HC3
  by_cases c6 : a0_4 = true
  ·subst c6
   have H1 : (turnbuckleref11_Put.j0 k a1 1 a0_0 a0_1 a0_2 a0_3 true a0_5 a0_6) = some r := by rw [if_pos rfl] at H; exact H
   clear H
   have H := H1
   clear H1
   have H' := Aside0.mk H
   clear H
   go_wp2
   (try subst hji11)
   (try subst hji13)
   go_meet
   case rel => exact ⟨_, (1), (by first | rfl | (simp; done) | (simp [*]; done)), H', ⟨by first | omega | exact Nat.le_refl _⟩, ⟨by (with_reducible repeat (first | refine blk_drewN ?_ _ | refine blk_drew ?_ | refine blk_alloc ?_ _)); exact BK155.out⟩, ⟨by repeat (first | (with_reducible first | exact HB.out | apply below_alloc | apply pw_below_drewN | apply below_drew1 | refine below_set ?_ GE155.out) | exact HB.out)⟩⟩
  ·replace c6 := Bool.eq_false_iff.mpr c6
   subst c6
   have H1 : (turnbuckleref11_Put.j0 k a1 0 a0_0 a0_1 a0_2 a0_3 false a0_5 a0_6) = some r := by rw [if_neg (show ¬ (false = true) by decide)] at H; exact H
   clear H
   have H := H1
   clear H1
   have H' := Aside0.mk H
   clear H
   go_wp2
   (try subst hji11)
   (try subst hji13)
   go_meet
   case rel => exact ⟨_, (0), (by first | rfl | (simp; done) | (simp [*]; done)), H', ⟨by first | omega | exact Nat.le_refl _⟩, ⟨by (with_reducible repeat (first | refine blk_drewN ?_ _ | refine blk_drew ?_ | refine blk_alloc ?_ _)); exact BK155.out⟩, ⟨by repeat (first | (with_reducible first | exact HB.out | apply below_alloc | apply pw_below_drewN | apply below_drew1 | refine below_set ?_ GE155.out) | exact HB.out)⟩⟩
 case rest =>
  clear HC3
  try clear p2
  try clear c6
  try clear hcz5_0
  try clear hcz5_1
  try clear hcz5_2
  try clear hcz5_3
  try clear hcz5_4
  try clear hcz5_5
  try clear hcz5_6
  try clear hfz5_0
  try clear hfz5_1
  try clear hfz5_2
  try clear hfz5_3
  try clear hfz5_4
  try clear hfz5_5
  try clear hfz5_6
  obtain ⟨kq, x5_2, rfl, HA, HJ2, BK155, HB⟩ := hcut
  cases kq with
  | zero => exact absurd HA.out (by simp [turnbuckleref11_Put.j0])
  | succ kj2 =>
   have H := HA.out
   clear HA
   simp only [turnbuckleref11_Put.j0] at H
   replace H := Option.bind_eq_some_iff.mp H
   obtain ⟨t156, A70, H⟩ := H
   replace H : ((some (([(wrap64 ((wrap64 (16 * a0_1)) + a0_2)) % 256, (a0_3) % 256] : List Int) : List Int)).bind fun y157 => (if t156.size + (strOfNums y157).size ≤ 9223372036854775807 then ((turnbuckleref01_Put.f kj2 x5_2 2).bind fun t160 => (if (t156 ++ (strOfNums y157)).size + t160.size ≤ 9223372036854775807 then ((turnbuckleref01_Put.f kj2 a0_5 8).bind fun t161 => (if ((t156 ++ (strOfNums y157)) ++ t160).size + t161.size ≤ 9223372036854775807 then ((turnbuckleref01_Put.f kj2 a0_6 8).bind fun t162 => (if (((t156 ++ (strOfNums y157)) ++ t160) ++ t161).size + t162.size ≤ 9223372036854775807 then (some ((((t156 ++ (strOfNums y157)) ++ t160) ++ t161) ++ t162)) else (none))) else (none))) else (none))) else (none))) = some r := H
   have A7 := Aside0.mk A70
   clear A70
   obtain ⟨y157, hy157⟩ : ∃ y_ : List Int, y_ = (([(wrap64 ((wrap64 (16 * a0_1)) + a0_2)) % 256, (a0_3) % 256] : List Int)) := ⟨_, rfl⟩
   replace H : (if t156.size + (strOfNums y157).size ≤ 9223372036854775807 then ((turnbuckleref01_Put.f kj2 x5_2 2).bind fun t160 => (if (t156 ++ (strOfNums y157)).size + t160.size ≤ 9223372036854775807 then ((turnbuckleref01_Put.f kj2 a0_5 8).bind fun t161 => (if ((t156 ++ (strOfNums y157)) ++ t160).size + t161.size ≤ 9223372036854775807 then ((turnbuckleref01_Put.f kj2 a0_6 8).bind fun t162 => (if (((t156 ++ (strOfNums y157)) ++ t160) ++ t161).size + t162.size ≤ 9223372036854775807 then (some ((((t156 ++ (strOfNums y157)) ++ t160) ++ t161) ++ t162)) else (none))) else (none))) else (none))) else (none)) = some r := by first | (rw [hy157]; with_reducible exact H) | (have H2_ := (Option.bind_some _ _).symm.trans H; rw [hy157]; with_reducible exact H2_) | (have H2_ := (Option.bind_some _ _).symm.trans H; with_reducible exact H2_) | with_reducible exact H | (rw [hy157]; exact H) | exact H
   have Ny157 := Aside0.mk hy157
   clear hy157
   by_cases c8 : t156.size + (strOfNums y157).size ≤ 9223372036854775807
   ·rw [if_pos c8] at H
    have c8b0 := eq_true c8
    have c8b1 : decide (t156.size + (strOfNums y157).size ≤ 9223372036854775807) = true := decide_eq_true c8
    try have c8b2 : (9223372036854775807 < t156.size + (strOfNums y157).size) = False := eq_false (Nat.not_lt.2 c8)
    replace H := Option.bind_eq_some_iff.mp H
    obtain ⟨t160, A90, H⟩ := H
    replace H : (if (t156 ++ (strOfNums y157)).size + t160.size ≤ 9223372036854775807 then ((turnbuckleref01_Put.f kj2 a0_5 8).bind fun t161 => (if ((t156 ++ (strOfNums y157)) ++ t160).size + t161.size ≤ 9223372036854775807 then ((turnbuckleref01_Put.f kj2 a0_6 8).bind fun t162 => (if (((t156 ++ (strOfNums y157)) ++ t160) ++ t161).size + t162.size ≤ 9223372036854775807 then (some ((((t156 ++ (strOfNums y157)) ++ t160) ++ t161) ++ t162)) else (none))) else (none))) else (none)) = some r := H
    have A9 := Aside0.mk A90
    clear A90
    by_cases c10 : (t156 ++ (strOfNums y157)).size + t160.size ≤ 9223372036854775807
    ·rw [if_pos c10] at H
     have c10b0 := eq_true c10
     have c10b1 : decide ((t156 ++ (strOfNums y157)).size + t160.size ≤ 9223372036854775807) = true := decide_eq_true c10
     try have c10b2 : (9223372036854775807 < (t156 ++ (strOfNums y157)).size + t160.size) = False := eq_false (Nat.not_lt.2 c10)
     (try (have c10b3 := c10b2; simp only [ByteArray.size_append] at c10b3))
     (try (have c10b4 := c10b0; simp only [ByteArray.size_append] at c10b4))
     replace H := Option.bind_eq_some_iff.mp H
     obtain ⟨t161, A110, H⟩ := H
     replace H : (if ((t156 ++ (strOfNums y157)) ++ t160).size + t161.size ≤ 9223372036854775807 then ((turnbuckleref01_Put.f kj2 a0_6 8).bind fun t162 => (if (((t156 ++ (strOfNums y157)) ++ t160) ++ t161).size + t162.size ≤ 9223372036854775807 then (some ((((t156 ++ (strOfNums y157)) ++ t160) ++ t161) ++ t162)) else (none))) else (none)) = some r := H
     have A11 := Aside0.mk A110
     clear A110
     by_cases c12 : ((t156 ++ (strOfNums y157)) ++ t160).size + t161.size ≤ 9223372036854775807
     ·rw [if_pos c12] at H
      have c12b0 := eq_true c12
      have c12b1 : decide (((t156 ++ (strOfNums y157)) ++ t160).size + t161.size ≤ 9223372036854775807) = true := decide_eq_true c12
      try have c12b2 : (9223372036854775807 < ((t156 ++ (strOfNums y157)) ++ t160).size + t161.size) = False := eq_false (Nat.not_lt.2 c12)
      (try (have c12b3 := c12b2; simp only [ByteArray.size_append] at c12b3))
      (try (have c12b4 := c12b0; simp only [ByteArray.size_append] at c12b4))
      replace H := Option.bind_eq_some_iff.mp H
      obtain ⟨t162, A130, H⟩ := H
      replace H : (if (((t156 ++ (strOfNums y157)) ++ t160) ++ t161).size + t162.size ≤ 9223372036854775807 then (some ((((t156 ++ (strOfNums y157)) ++ t160) ++ t161) ++ t162)) else (none)) = some r := H
      have A13 := Aside0.mk A130
      clear A130
      by_cases c14 : (((t156 ++ (strOfNums y157)) ++ t160) ++ t161).size + t162.size ≤ 9223372036854775807
      ·rw [if_pos c14] at H
       have c14b0 := eq_true c14
       have c14b1 : decide ((((t156 ++ (strOfNums y157)) ++ t160) ++ t161).size + t162.size ≤ 9223372036854775807) = true := decide_eq_true c14
       try have c14b2 : (9223372036854775807 < (((t156 ++ (strOfNums y157)) ++ t160) ++ t161).size + t162.size) = False := eq_false (Nat.not_lt.2 c14)
       (try (have c14b3 := c14b2; simp only [ByteArray.size_append] at c14b3))
       (try (have c14b4 := c14b0; simp only [ByteArray.size_append] at c14b4))
       obtain rfl := Option.some.inj H
       try go_wp2
       have n0_ := Aside0.mk (blk_drew BK155.out)
       have n1_ := Aside0.mk (below_drew1 HB.out)
       clear BK155
       clear HB
       have BK155 := n0_
       have HB := n1_
       clear n0_ n1_
       refine start_ (n := 28) (S := fun w' => w'.cell? ⟨gb155, 0, none⟩ = some (.string a0_0) ∧ w'.cell? ⟨gb155, 1, none⟩ = some (.int .i64 a0_1) ∧ w'.cell? ⟨gb155, 2, none⟩ = some (.int .i64 a0_2) ∧ w'.cell? ⟨gb155, 3, none⟩ = some (.int .i64 a0_3) ∧ w'.cell? ⟨gb155, 4, none⟩ = some (.bool a0_4) ∧ w'.cell? ⟨gb155, 5, none⟩ = some (.int .u64 a0_5) ∧ w'.cell? ⟨gb155, 6, none⟩ = some (.int .u64 a0_6)) (ds := []) #[false,false,false,false,false,false,false,false,false,false,false,false,false,false,false,false,false,false,false,false,false,false,false,false,false,false,false,false] (by kernel_rfl) rfl rfl ⟨(blk_cell BK155.out 0).trans rfl, (blk_cell BK155.out 1).trans rfl, (blk_cell BK155.out 2).trans rfl, (blk_cell BK155.out 3).trans rfl, (blk_cell BK155.out 4).trans rfl, (blk_cell BK155.out 5).trans rfl, (blk_cell BK155.out 6).trans rfl⟩ (fun hHeld => ?_); refine with_tabW turnbuckleref11_Put.tab4 turnbuckleref11_Put.bits4 (fun HT_ HW_ => ?_)
       generalize wc.drew = w15 at BK155 HB hHeld ⊢
       refine pure_ (i:=0) (N := some 8) (v:=?_) (a':=?_) #[true,false,false,false,false,false,false,false,false,false,false,false,false,false,false,false,false,false,false,false,false,false,false,false,false,false,false,false] rfl rfl (any_of HT_.out (by kernel_rfl)) (fun _ _ _ h=>h) (Or.inl ⟨by rfl, ?_⟩) ?_ ?_
       rotate_left
       ·intro w'
        go_simp
        with_reducible rfl
       rotate_left
       ·simp only [Act.put,lz1,lz2,lz3,i64_w,i32_w]
        rfl
       refine pure_ (i:=1) (N := some 9) (v:=?_) (a':=?_) #[true,true,false,false,false,false,false,false,false,false,false,false,false,false,false,false,false,false,false,false,false,false,false,false,false,false,false,false] rfl rfl (any_of HT_.out (by kernel_rfl)) (fun _ _ _ h=>h) (Or.inl ⟨by rfl, ?_⟩) ?_ ?_
       rotate_left
       ·intro w'
        go_simp
        with_reducible rfl
       rotate_left
       ·simp only [Act.put,lz1,lz2,lz3,i64_w,i32_w]
        rfl
       refine pure_ (i:=3) (N := some 11) (v:=?_) (a':=?_) #[true,true,false,true,false,false,false,false,false,false,false,false,false,false,false,false,false,false,false,false,false,false,false,false,false,false,false,false] rfl rfl (any_of HT_.out (by kernel_rfl)) (fun _ _ _ h=>h) (Or.inl ⟨by rfl, ?_⟩) ?_ ?_
       rotate_left
       ·intro w'
        go_simp
        with_reducible rfl
       rotate_left
       ·simp only [Act.put,lz1,lz2,lz3,i64_w,i32_w]
        rfl
       refine pure_ (i:=6) (N := some 14) (v:=?_) (a':=?_) #[true,true,false,true,false,false,true,false,false,false,false,false,false,false,false,false,false,false,false,false,false,false,false,false,false,false,false,false] rfl rfl (any_of HT_.out (by kernel_rfl)) (fun _ _ _ h=>h) (Or.inl ⟨by rfl, ?_⟩) ?_ ?_
       rotate_left
       ·intro w'
        go_simp
        with_reducible rfl
       rotate_left
       ·simp only [Act.put,lz1,lz2,lz3,i64_w,i32_w]
        rfl
       refine pure_ (i:=10) (N := some 18) (v:=?_) (a':=?_) #[true,true,false,true,false,false,true,false,false,false,true,false,false,false,false,false,false,false,false,false,false,false,false,false,false,false,false,false] rfl rfl (any_of HT_.out (by kernel_rfl)) (fun _ _ _ h=>h) (Or.inl ⟨by rfl, ?_⟩) ?_ ?_
       rotate_left
       ·intro w'
        go_simp
        with_reducible rfl
       rotate_left
       ·simp only [Act.put,lz1,lz2,lz3,i64_w,i32_w]
        rfl
       refine pure_ (i:=16) (N := some 24) (v:=?_) (a':=?_) #[true,true,false,true,false,false,true,false,false,false,true,false,false,false,false,false,true,false,false,false,false,false,false,false,false,false,false,false] rfl rfl (any_of HT_.out (by kernel_rfl)) (fun _ _ _ h=>h) (Or.inl ⟨by rfl, ?_⟩) ?_ ?_
       rotate_left
       ·intro w'
        go_simp
        with_reducible rfl
       rotate_left
       ·simp only [Act.put,lz1,lz2,lz3,i64_w,i32_w]
        rfl
       refine pure_ (i:=19) (N := some 27) (v:=?_) (a':=?_) #[true,true,false,true,false,false,true,false,false,false,true,false,false,false,false,false,true,false,false,true,false,false,false,false,false,false,false,false] rfl rfl (any_of HT_.out (by kernel_rfl)) (fun _ _ _ h=>h) (Or.inl ⟨by rfl, ?_⟩) ?_ ?_
       rotate_left
       ·intro w'
        go_simp
        with_reducible rfl
       rotate_left
       ·simp only [Act.put,lz1,lz2,lz3,i64_w,i32_w]
        rfl
       refine pure_ (i:=23) (N := some 31) (v:=?_) (a':=?_) #[true,true,false,true,false,false,true,false,false,false,true,false,false,false,false,false,true,false,false,true,false,false,false,true,false,false,false,false] rfl rfl (any_of HT_.out (by kernel_rfl)) (fun _ _ _ h=>h) (Or.inl ⟨by rfl, ?_⟩) ?_ ?_
       rotate_left
       ·intro w'
        go_simp
        with_reducible rfl
       rotate_left
       ·simp only [Act.put,lz1,lz2,lz3,i64_w,i32_w]
        rfl
       refine take_ (i := 4) (N := some 12) (v:=?_) (a':=?_) #[true,true,false,true,true,false,true,false,false,false,true,false,false,false,false,false,true,false,false,true,false,false,false,true,false,false,false,false] rfl rfl (take_ofW HT_.out HW_.out (by kernel_rfl)) (fun _ _ _ h=>h) (Or.inl ⟨by rfl, ?_⟩) hHeld ?_ ?_
       rotate_left
       ·rintro w' ⟨s0, s1, s2, s3, s4, s5, s6⟩
        go_simp
        with_reducible rfl
       rotate_left
       ·simp only [Act.put,lz1,lz2,lz3,i64_w,i32_w]
        rfl
       refine pure_ (i:=5) (N := some 13) (v:=?_) (a':=?_) #[true,true,false,true,true,true,true,false,false,false,true,false,false,false,false,false,true,false,false,true,false,false,false,true,false,false,false,false] rfl rfl (any_of HT_.out (by kernel_rfl)) (fun _ _ _ h=>h) (Or.inl ⟨by rfl, ?_⟩) ?_ ?_
       rotate_left
       ·intro w'
        go_simp
        with_reducible rfl
       rotate_left
       ·simp only [Act.put,lz1,lz2,lz3,i64_w,i32_w]
        rfl
       refine take_ (i := 7) (N := some 15) (v:=?_) (a':=?_) #[true,true,false,true,true,true,true,true,false,false,true,false,false,false,false,false,true,false,false,true,false,false,false,true,false,false,false,false] rfl rfl (take_ofW HT_.out HW_.out (by kernel_rfl)) (fun _ _ _ h=>h) (Or.inl ⟨by rfl, ?_⟩) hHeld ?_ ?_
       rotate_left
       ·rintro w' ⟨s0, s1, s2, s3, s4, s5, s6⟩
        go_simp
        with_reducible rfl
       rotate_left
       ·simp only [Act.put,lz1,lz2,lz3,i64_w,i32_w]
        rfl
       refine pure_ (i:=8) (N := some 16) (v:=?_) (a':=?_) #[true,true,false,true,true,true,true,true,true,false,true,false,false,false,false,false,true,false,false,true,false,false,false,true,false,false,false,false] rfl rfl (any_of HT_.out (by kernel_rfl)) (fun _ _ _ h=>h) (Or.inl ⟨by rfl, ?_⟩) ?_ ?_
       rotate_left
       ·intro w'
        go_simp
        first | with_reducible rfl | (refine Eq.trans (b := .ok (.value (.bool true)) w') ?_ (by with_reducible rfl); (repeat' (first | with_reducible rfl | split)); all_goals (first | rfl | (exfalso; simp_all; done))) | (refine Eq.trans (b := .ok (.value (.bool false)) w') ?_ (by with_reducible rfl); (repeat' (first | with_reducible rfl | split)); all_goals (first | rfl | (exfalso; simp_all; done)))
       rotate_left
       ·simp only [Act.put,lz1,lz2,lz3,i64_w,i32_w]
        rfl
       refine pure_ (i:=9) (N := some 17) (v:=?_) (a':=?_) #[true,true,false,true,true,true,true,true,true,true,true,false,false,false,false,false,true,false,false,true,false,false,false,true,false,false,false,false] rfl rfl (any_of HT_.out (by kernel_rfl)) (fun _ _ _ h=>h) (Or.inl ⟨by rfl, ?_⟩) ?_ ?_
       rotate_left
       ·intro w'
        go_simp
        with_reducible rfl
       rotate_left
       ·simp only [Act.put,lz1,lz2,lz3,i64_w,i32_w]
        rfl
       refine take_ (i := 11) (N := some 19) (v:=?_) (a':=?_) #[true,true,false,true,true,true,true,true,true,true,true,true,false,false,false,false,true,false,false,true,false,false,false,true,false,false,false,false] rfl rfl (take_ofW HT_.out HW_.out (by kernel_rfl)) (fun _ _ _ h=>h) (Or.inl ⟨by rfl, ?_⟩) hHeld ?_ ?_
       rotate_left
       ·rintro w' ⟨s0, s1, s2, s3, s4, s5, s6⟩
        go_simp
        with_reducible rfl
       rotate_left
       ·simp only [Act.put,lz1,lz2,lz3,i64_w,i32_w]
        rfl
       refine pure_ (i:=12) (N := some 20) (v:=?_) (a':=?_) #[true,true,false,true,true,true,true,true,true,true,true,true,true,false,false,false,true,false,false,true,false,false,false,true,false,false,false,false] rfl rfl (any_of HT_.out (by kernel_rfl)) (fun _ _ _ h=>h) (Or.inl ⟨by rfl, ?_⟩) ?_ ?_
       rotate_left
       ·intro w'
        go_simp
        with_reducible rfl
       rotate_left
       ·simp only [Act.put,lz1,lz2,lz3,i64_w,i32_w]
        rfl
       refine take_ (i := 20) (N := some 28) (v:=?_) (a':=?_) #[true,true,false,true,true,true,true,true,true,true,true,true,true,false,false,false,true,false,false,true,true,false,false,true,false,false,false,false] rfl rfl (take_ofW HT_.out HW_.out (by kernel_rfl)) (fun _ _ _ h=>h) (Or.inl ⟨by rfl, ?_⟩) hHeld ?_ ?_
       rotate_left
       ·rintro w' ⟨s0, s1, s2, s3, s4, s5, s6⟩
        go_simp
        with_reducible rfl
       rotate_left
       ·simp only [Act.put,lz1,lz2,lz3,i64_w,i32_w]
        rfl
       refine take_ (i := 24) (N := some 32) (v:=?_) (a':=?_) #[true,true,false,true,true,true,true,true,true,true,true,true,true,false,false,false,true,false,false,true,true,false,false,true,true,false,false,false] rfl rfl (take_ofW HT_.out HW_.out (by kernel_rfl)) (fun _ _ _ h=>h) (Or.inl ⟨by rfl, ?_⟩) hHeld ?_ ?_
       rotate_left
       ·rintro w' ⟨s0, s1, s2, s3, s4, s5, s6⟩
        go_simp
        with_reducible rfl
       rotate_left
       ·simp only [Act.put,lz1,lz2,lz3,i64_w,i32_w]
        rfl
       refine join_ (σ := Value) 2 #[true,true,true,true,true,true,true,true,true,true,true,true,true,true,true,true,true,true,true,true,true,true,true,true,true,true,false,false] (fun s_ => [(10, .string t156), (21, s_), (22, .string (strOfNums y157)), (25, .string t160), (29, .string t161), (33, .string t162), (23, .string (t156 ++ (strOfNums y157))), (26, .string ((t156 ++ (strOfNums y157)) ++ t160)), (30, .string (((t156 ++ (strOfNums y157)) ++ t160) ++ t161))]) (fun s_ w' => (w'.cell? ⟨gb155, 0, none⟩ = some (.string a0_0) ∧ w'.cell? ⟨gb155, 1, none⟩ = some (.int .i64 a0_1) ∧ w'.cell? ⟨gb155, 2, none⟩ = some (.int .i64 a0_2) ∧ w'.cell? ⟨gb155, 3, none⟩ = some (.int .i64 a0_3) ∧ w'.cell? ⟨gb155, 4, none⟩ = some (.bool a0_4) ∧ w'.cell? ⟨gb155, 5, none⟩ = some (.int .u64 a0_5) ∧ w'.cell? ⟨gb155, 6, none⟩ = some (.int .u64 a0_6)) ∧ (Kd.R (Kd.int .u8) 5 w' w.heap.size (fun _ => True) s_ y157) ∧ (w'.heap[gb155]? = some (.cells #[.string a0_0, .int .i64 a0_1, .int .i64 a0_2, .int .i64 a0_3, .bool a0_4, .int .u64 a0_5, .int .u64 a0_6] 31 (0, 0))) ∧ (Below w.heap.size w w')) ?_ ?_
       rotate_left
       ·intro hJ2_13_14_17_21_25
        refine join_ (σ := Value) 3 #[true,true,true,true,true,true,true,true,true,true,true,true,true,true,true,true,true,true,true,true,true,true,true,true,true,false,false,false] (fun s_ => [(10, .string t156), (21, s_), (22, .string (strOfNums y157)), (25, .string t160), (29, .string t161), (23, .string (t156 ++ (strOfNums y157))), (26, .string ((t156 ++ (strOfNums y157)) ++ t160)), (30, .string (((t156 ++ (strOfNums y157)) ++ t160) ++ t161))]) (fun s_ w' => (w'.cell? ⟨gb155, 0, none⟩ = some (.string a0_0) ∧ w'.cell? ⟨gb155, 1, none⟩ = some (.int .i64 a0_1) ∧ w'.cell? ⟨gb155, 2, none⟩ = some (.int .i64 a0_2) ∧ w'.cell? ⟨gb155, 3, none⟩ = some (.int .i64 a0_3) ∧ w'.cell? ⟨gb155, 4, none⟩ = some (.bool a0_4) ∧ w'.cell? ⟨gb155, 5, none⟩ = some (.int .u64 a0_5) ∧ w'.cell? ⟨gb155, 6, none⟩ = some (.int .u64 a0_6)) ∧ (Kd.R (Kd.int .u8) 5 w' w.heap.size (fun _ => True) s_ y157) ∧ (w'.heap[gb155]? = some (.cells #[.string a0_0, .int .i64 a0_1, .int .i64 a0_2, .int .i64 a0_3, .bool a0_4, .int .u64 a0_5, .int .u64 a0_6] 31 (0, 0))) ∧ (Below w.heap.size w w')) ?_ ?_
        rotate_left
        ·intro hJ2_13_14_17_21
         refine join_ (σ := Value) 6 #[true,true,true,true,true,true,true,true,true,true,true,true,true,true,false,false,true,true,false,true,true,true,false,true,true,true,false,false] (fun s_ => [(10, .string t156), (21, s_), (25, .string t160), (29, .string t161), (33, .string t162)]) (fun s_ w' => (w'.cell? ⟨gb155, 0, none⟩ = some (.string a0_0) ∧ w'.cell? ⟨gb155, 1, none⟩ = some (.int .i64 a0_1) ∧ w'.cell? ⟨gb155, 2, none⟩ = some (.int .i64 a0_2) ∧ w'.cell? ⟨gb155, 3, none⟩ = some (.int .i64 a0_3) ∧ w'.cell? ⟨gb155, 4, none⟩ = some (.bool a0_4) ∧ w'.cell? ⟨gb155, 5, none⟩ = some (.int .u64 a0_5) ∧ w'.cell? ⟨gb155, 6, none⟩ = some (.int .u64 a0_6)) ∧ (Kd.R (Kd.int .u8) 5 w' w.heap.size (fun _ => True) s_ y157) ∧ (w'.heap[gb155]? = some (.cells #[.string a0_0, .int .i64 a0_1, .int .i64 a0_2, .int .i64 a0_3, .bool a0_4, .int .u64 a0_5, .int .u64 a0_6] 31 (0, 0))) ∧ (Below w.heap.size w w')) ?_ ?_
         rotate_left
         ·intro hJ2_13_17_21_25
          refine join_ (σ := Value) 5 #[true,true,true,true,true,true,true,true,true,true,true,true,true,true,true,true,true,true,true,true,true,false,false,true,true,false,false,false] (fun s_ => [(10, .string t156), (21, s_), (22, .string (strOfNums y157)), (25, .string t160), (23, .string (t156 ++ (strOfNums y157))), (26, .string ((t156 ++ (strOfNums y157)) ++ t160))]) (fun s_ w' => (w'.cell? ⟨gb155, 0, none⟩ = some (.string a0_0) ∧ w'.cell? ⟨gb155, 1, none⟩ = some (.int .i64 a0_1) ∧ w'.cell? ⟨gb155, 2, none⟩ = some (.int .i64 a0_2) ∧ w'.cell? ⟨gb155, 3, none⟩ = some (.int .i64 a0_3) ∧ w'.cell? ⟨gb155, 4, none⟩ = some (.bool a0_4) ∧ w'.cell? ⟨gb155, 5, none⟩ = some (.int .u64 a0_5) ∧ w'.cell? ⟨gb155, 6, none⟩ = some (.int .u64 a0_6)) ∧ (Kd.R (Kd.int .u8) 5 w' w.heap.size (fun _ => True) s_ y157) ∧ (w'.heap[gb155]? = some (.cells #[.string a0_0, .int .i64 a0_1, .int .i64 a0_2, .int .i64 a0_3, .bool a0_4, .int .u64 a0_5, .int .u64 a0_6] 31 (0, 0))) ∧ (Below w.heap.size w w')) ?_ ?_
          rotate_left
          ·intro hJ2_13_14_17
           refine join_ (σ := Value) 7 #[true,true,true,true,true,true,true,true,true,true,true,true,true,true,false,false,true,true,false,true,true,true,false,true,true,false,false,false] (fun s_ => [(10, .string t156), (21, s_), (25, .string t160), (29, .string t161)]) (fun s_ w' => (w'.cell? ⟨gb155, 0, none⟩ = some (.string a0_0) ∧ w'.cell? ⟨gb155, 1, none⟩ = some (.int .i64 a0_1) ∧ w'.cell? ⟨gb155, 2, none⟩ = some (.int .i64 a0_2) ∧ w'.cell? ⟨gb155, 3, none⟩ = some (.int .i64 a0_3) ∧ w'.cell? ⟨gb155, 4, none⟩ = some (.bool a0_4) ∧ w'.cell? ⟨gb155, 5, none⟩ = some (.int .u64 a0_5) ∧ w'.cell? ⟨gb155, 6, none⟩ = some (.int .u64 a0_6)) ∧ (Kd.R (Kd.int .u8) 5 w' w.heap.size (fun _ => True) s_ y157) ∧ (w'.heap[gb155]? = some (.cells #[.string a0_0, .int .i64 a0_1, .int .i64 a0_2, .int .i64 a0_3, .bool a0_4, .int .u64 a0_5, .int .u64 a0_6] 31 (0, 0))) ∧ (Below w.heap.size w w')) ?_ ?_
           rotate_left
           ·intro hJ2_13_17_21
            refine join_ (σ := Unit) 7 #[true,true,true,true,true,true,true,true,true,true,true,true,true,false,false,false,true,true,false,true,true,true,false,true,true,true,false,false] (fun s_ => [(10, .string t156), (25, .string t160), (29, .string t161), (33, .string t162)]) (fun s_ w' => (w'.cell? ⟨gb155, 0, none⟩ = some (.string a0_0) ∧ w'.cell? ⟨gb155, 1, none⟩ = some (.int .i64 a0_1) ∧ w'.cell? ⟨gb155, 2, none⟩ = some (.int .i64 a0_2) ∧ w'.cell? ⟨gb155, 3, none⟩ = some (.int .i64 a0_3) ∧ w'.cell? ⟨gb155, 4, none⟩ = some (.bool a0_4) ∧ w'.cell? ⟨gb155, 5, none⟩ = some (.int .u64 a0_5) ∧ w'.cell? ⟨gb155, 6, none⟩ = some (.int .u64 a0_6)) ∧ (w'.heap[gb155]? = some (.cells #[.string a0_0, .int .i64 a0_1, .int .i64 a0_2, .int .i64 a0_3, .bool a0_4, .int .u64 a0_5, .int .u64 a0_6] 31 (0, 0))) ∧ (Below w.heap.size w w')) ?_ ?_
            rotate_left
            ·intro hJ2_17_21_25
             refine join_ (σ := Value) 7 #[true,true,true,true,true,true,true,true,true,true,true,true,true,true,true,true,true,false,false,true,true,false,false,true,true,false,false,false] (fun s_ => [(10, .string t156), (21, s_), (22, .string (strOfNums y157)), (23, .string (t156 ++ (strOfNums y157)))]) (fun s_ w' => (w'.cell? ⟨gb155, 0, none⟩ = some (.string a0_0) ∧ w'.cell? ⟨gb155, 1, none⟩ = some (.int .i64 a0_1) ∧ w'.cell? ⟨gb155, 2, none⟩ = some (.int .i64 a0_2) ∧ w'.cell? ⟨gb155, 3, none⟩ = some (.int .i64 a0_3) ∧ w'.cell? ⟨gb155, 4, none⟩ = some (.bool a0_4) ∧ w'.cell? ⟨gb155, 5, none⟩ = some (.int .u64 a0_5) ∧ w'.cell? ⟨gb155, 6, none⟩ = some (.int .u64 a0_6)) ∧ (Kd.R (Kd.int .u8) 5 w' w.heap.size (fun _ => True) s_ y157) ∧ (w'.heap[gb155]? = some (.cells #[.string a0_0, .int .i64 a0_1, .int .i64 a0_2, .int .i64 a0_3, .bool a0_4, .int .u64 a0_5, .int .u64 a0_6] 31 (0, 0))) ∧ (Below w.heap.size w w')) ?_ ?_
             rotate_left
             ·intro hJ2_13_14
              refine join_ (σ := Value) 8 #[true,true,true,true,true,true,true,true,true,true,true,true,true,true,false,false,true,true,false,true,true,false,false,true,true,false,false,false] (fun s_ => [(10, .string t156), (21, s_), (25, .string t160)]) (fun s_ w' => (w'.cell? ⟨gb155, 0, none⟩ = some (.string a0_0) ∧ w'.cell? ⟨gb155, 1, none⟩ = some (.int .i64 a0_1) ∧ w'.cell? ⟨gb155, 2, none⟩ = some (.int .i64 a0_2) ∧ w'.cell? ⟨gb155, 3, none⟩ = some (.int .i64 a0_3) ∧ w'.cell? ⟨gb155, 4, none⟩ = some (.bool a0_4) ∧ w'.cell? ⟨gb155, 5, none⟩ = some (.int .u64 a0_5) ∧ w'.cell? ⟨gb155, 6, none⟩ = some (.int .u64 a0_6)) ∧ (Kd.R (Kd.int .u8) 5 w' w.heap.size (fun _ => True) s_ y157) ∧ (w'.heap[gb155]? = some (.cells #[.string a0_0, .int .i64 a0_1, .int .i64 a0_2, .int .i64 a0_3, .bool a0_4, .int .u64 a0_5, .int .u64 a0_6] 31 (0, 0))) ∧ (Below w.heap.size w w')) ?_ ?_
              rotate_left
              ·intro hJ2_13_17
               refine join_ (σ := Unit) 8 #[true,true,true,true,true,true,true,true,true,true,true,true,true,false,false,false,true,true,false,true,true,true,false,true,true,false,false,false] (fun s_ => [(10, .string t156), (25, .string t160), (29, .string t161)]) (fun s_ w' => (w'.cell? ⟨gb155, 0, none⟩ = some (.string a0_0) ∧ w'.cell? ⟨gb155, 1, none⟩ = some (.int .i64 a0_1) ∧ w'.cell? ⟨gb155, 2, none⟩ = some (.int .i64 a0_2) ∧ w'.cell? ⟨gb155, 3, none⟩ = some (.int .i64 a0_3) ∧ w'.cell? ⟨gb155, 4, none⟩ = some (.bool a0_4) ∧ w'.cell? ⟨gb155, 5, none⟩ = some (.int .u64 a0_5) ∧ w'.cell? ⟨gb155, 6, none⟩ = some (.int .u64 a0_6)) ∧ (w'.heap[gb155]? = some (.cells #[.string a0_0, .int .i64 a0_1, .int .i64 a0_2, .int .i64 a0_3, .bool a0_4, .int .u64 a0_5, .int .u64 a0_6] 31 (0, 0))) ∧ (Below w.heap.size w w')) ?_ ?_
               rotate_left
               ·intro hJ2_17_21
                refine join_ (σ := Value) 9 #[true,true,true,true,true,true,true,true,true,true,true,true,true,true,false,false,true,false,false,true,true,false,false,true,true,false,false,false] (fun s_ => [(10, .string t156), (21, s_)]) (fun s_ w' => (w'.cell? ⟨gb155, 0, none⟩ = some (.string a0_0) ∧ w'.cell? ⟨gb155, 1, none⟩ = some (.int .i64 a0_1) ∧ w'.cell? ⟨gb155, 2, none⟩ = some (.int .i64 a0_2) ∧ w'.cell? ⟨gb155, 3, none⟩ = some (.int .i64 a0_3) ∧ w'.cell? ⟨gb155, 4, none⟩ = some (.bool a0_4) ∧ w'.cell? ⟨gb155, 5, none⟩ = some (.int .u64 a0_5) ∧ w'.cell? ⟨gb155, 6, none⟩ = some (.int .u64 a0_6)) ∧ (Kd.R (Kd.int .u8) 5 w' w.heap.size (fun _ => True) s_ y157) ∧ (w'.heap[gb155]? = some (.cells #[.string a0_0, .int .i64 a0_1, .int .i64 a0_2, .int .i64 a0_3, .bool a0_4, .int .u64 a0_5, .int .u64 a0_6] 31 (0, 0))) ∧ (Below w.heap.size w w')) ?_ ?_
                rotate_left
                ·intro hJ2_13
                 refine join_ (σ := Unit) 9 #[true,true,true,true,true,true,true,true,true,true,true,true,true,false,false,false,true,true,false,true,true,false,false,true,true,false,false,false] (fun s_ => [(10, .string t156), (25, .string t160)]) (fun s_ w' => (w'.cell? ⟨gb155, 0, none⟩ = some (.string a0_0) ∧ w'.cell? ⟨gb155, 1, none⟩ = some (.int .i64 a0_1) ∧ w'.cell? ⟨gb155, 2, none⟩ = some (.int .i64 a0_2) ∧ w'.cell? ⟨gb155, 3, none⟩ = some (.int .i64 a0_3) ∧ w'.cell? ⟨gb155, 4, none⟩ = some (.bool a0_4) ∧ w'.cell? ⟨gb155, 5, none⟩ = some (.int .u64 a0_5) ∧ w'.cell? ⟨gb155, 6, none⟩ = some (.int .u64 a0_6)) ∧ (w'.heap[gb155]? = some (.cells #[.string a0_0, .int .i64 a0_1, .int .i64 a0_2, .int .i64 a0_3, .bool a0_4, .int .u64 a0_5, .int .u64 a0_6] 31 (0, 0))) ∧ (Below w.heap.size w w')) ?_ ?_
                 rotate_left
                 ·intro hJ2_17
                  refine join_ (σ := Value) 9 #[true,true,false,true,true,true,true,true,true,true,true,true,true,true,true,false,true,false,false,true,true,false,false,true,true,false,false,false] (fun s_ => [(21, s_), (22, .string (strOfNums y157))]) (fun s_ w' => (w'.cell? ⟨gb155, 0, none⟩ = some (.string a0_0) ∧ w'.cell? ⟨gb155, 1, none⟩ = some (.int .i64 a0_1) ∧ w'.cell? ⟨gb155, 2, none⟩ = some (.int .i64 a0_2) ∧ w'.cell? ⟨gb155, 3, none⟩ = some (.int .i64 a0_3) ∧ w'.cell? ⟨gb155, 4, none⟩ = some (.bool a0_4) ∧ w'.cell? ⟨gb155, 5, none⟩ = some (.int .u64 a0_5) ∧ w'.cell? ⟨gb155, 6, none⟩ = some (.int .u64 a0_6)) ∧ (Kd.R (Kd.int .u8) 5 w' w.heap.size (fun _ => True) s_ y157) ∧ (w'.heap[gb155]? = some (.cells #[.string a0_0, .int .i64 a0_1, .int .i64 a0_2, .int .i64 a0_3, .bool a0_4, .int .u64 a0_5, .int .u64 a0_6] 31 (0, 0))) ∧ (Below w.heap.size w w')) ?_ ?_
                  rotate_left
                  ·intro hJ13_14
                   refine join_ (σ := Unit) 10 #[true,true,true,true,true,true,true,true,true,true,true,true,true,false,false,false,true,false,false,true,true,false,false,true,true,false,false,false] (fun s_ => [(10, .string t156)]) (fun s_ w' => (w'.cell? ⟨gb155, 0, none⟩ = some (.string a0_0) ∧ w'.cell? ⟨gb155, 1, none⟩ = some (.int .i64 a0_1) ∧ w'.cell? ⟨gb155, 2, none⟩ = some (.int .i64 a0_2) ∧ w'.cell? ⟨gb155, 3, none⟩ = some (.int .i64 a0_3) ∧ w'.cell? ⟨gb155, 4, none⟩ = some (.bool a0_4) ∧ w'.cell? ⟨gb155, 5, none⟩ = some (.int .u64 a0_5) ∧ w'.cell? ⟨gb155, 6, none⟩ = some (.int .u64 a0_6)) ∧ (w'.heap[gb155]? = some (.cells #[.string a0_0, .int .i64 a0_1, .int .i64 a0_2, .int .i64 a0_3, .bool a0_4, .int .u64 a0_5, .int .u64 a0_6] 31 (0, 0))) ∧ (Below w.heap.size w w')) ?_ ?_
                   rotate_left
                   ·intro hJ2
                    refine join_ (σ := Value) 10 #[true,true,false,true,true,true,true,true,true,true,true,true,true,true,false,false,true,false,false,true,true,false,false,true,true,false,false,false] (fun s_ => [(21, s_)]) (fun s_ w' => (w'.cell? ⟨gb155, 0, none⟩ = some (.string a0_0) ∧ w'.cell? ⟨gb155, 1, none⟩ = some (.int .i64 a0_1) ∧ w'.cell? ⟨gb155, 2, none⟩ = some (.int .i64 a0_2) ∧ w'.cell? ⟨gb155, 3, none⟩ = some (.int .i64 a0_3) ∧ w'.cell? ⟨gb155, 4, none⟩ = some (.bool a0_4) ∧ w'.cell? ⟨gb155, 5, none⟩ = some (.int .u64 a0_5) ∧ w'.cell? ⟨gb155, 6, none⟩ = some (.int .u64 a0_6)) ∧ (Kd.R (Kd.int .u8) 5 w' w.heap.size (fun _ => True) s_ y157) ∧ (w'.heap[gb155]? = some (.cells #[.string a0_0, .int .i64 a0_1, .int .i64 a0_2, .int .i64 a0_3, .bool a0_4, .int .u64 a0_5, .int .u64 a0_6] 31 (0, 0))) ∧ (Below w.heap.size w w')) ?_ ?_
                    rotate_left
                    ·intro hJ13
                     refine two_ (i := 2) (j := 13) (Ni := some 10) (Nj := some 21) #[true,true,true,true,true,true,true,true,true,true,true,true,true,false,false,false,true,false,false,true,true,false,false,true,true,false,false,false] #[true,true,false,true,true,true,true,true,true,true,true,true,true,true,false,false,true,false,false,true,true,false,false,true,true,false,false,false] rfl rfl rfl rfl (two_of HT_.out (by kernel_rfl)) (by decide) (by decide) (fun K hK => ?_) (fun K hK => ?_)
                     ·skip
                      refine goes_ Try.func17 (by kernel_rfl) rfl #[.int .u64 (IntKind.u64.wrap (a1)), .int .i64 4] (by rfl) rfl rfl (by (try simp only [List.map_toArray, List.map_cons, List.map_nil]); first | done | rfl | (simp only [List.length_drop, List.length_take]; rfl)) ?_
                      with_reducible refine (turnbuckleref01_Put.calls kj2 (IntKind.u64.wrap (a1)) 4 t156 _ A7.out).mono ?_
                      rintro e w16 ⟨rfl, hb⟩
                      refine ⟨_, rfl, ?_⟩
                      have n0_ := Aside0.mk (blk_below (g := gb155) (o := .cells #[.string a0_0, .int .i64 a0_1, .int .i64 a0_2, .int .i64 a0_3, .bool a0_4, .int .u64 a0_5, .int .u64 a0_6] 31 (0, 0)) (by (with_reducible repeat (first | refine blk_drewN ?_ _ | refine blk_drew ?_ | refine blk_alloc ?_ _)); exact BK155.out) hb)
                      have n1_ := Aside0.mk (below_step (by repeat (first | (with_reducible first | exact HB.out | apply below_alloc | apply pw_below_drewN | apply below_drew1 | refine below_set ?_ GE155.out) | exact HB.out)) hb)
                      clear BK155
                      clear HB
                      have BK155 := n0_
                      have HB := n1_
                      clear n0_ n1_
                      (try clear hb)
                      (try clear hb2)
                      (try clear hk)
                      (try clear hi)
                      refine hK.out _ _ ⟨(blk_cell BK155.out 0).trans rfl, (blk_cell BK155.out 1).trans rfl, (blk_cell BK155.out 2).trans rfl, (blk_cell BK155.out 3).trans rfl, (blk_cell BK155.out 4).trans rfl, (blk_cell BK155.out 5).trans rfl, (blk_cell BK155.out 6).trans rfl⟩ (fun hHeld => ?_)
                      clear hK K
                      refine norm_ (a' := ?_) ?_ ?_
                      rotate_left
                      ·show Act.put _ (some 10) _ = _
                       simp only [Act.put,lz1,lz2,lz3,i64_w,i32_w]
                       rfl
                      exact norm_ (by first | (simp only [putAll, Act.put, List.setIfInBounds_toArray, List.set_cons_zero, List.set_cons_succ]; done) | (simp only [putAll, Act.put, List.setIfInBounds_toArray, List.set_cons_zero, List.set_cons_succ]; rfl)) (hJ2 () _ ⟨hHeld, (by (with_reducible repeat (first | refine blk_drewN ?_ _ | refine blk_drew ?_ | refine blk_alloc ?_ _)); exact BK155.out), (by repeat (first | (with_reducible first | exact HB.out | apply below_alloc | apply pw_below_drewN | apply below_drew1 | refine below_set ?_ GE155.out) | exact HB.out))⟩)
                     ·skip
                      refine Kd.R_lit_step (Kd.int .u8) _ 5 ?hg (N := 21) ?hd (xs := ([(wrap64 ((wrap64 (16 * a0_1)) + a0_2)) % 256, (a0_3) % 256] : List Int)) (inner := [.int .u8 ((wrap64 ((wrap64 (16 * a0_1)) + a0_2)) % 256), .int .u8 ((a0_3) % 256)]) (ok := fun _ => True) (okp := fun _ => True) ?hr ?hp (fun _ hk => hk) trivial (Below.refl _ _) (Nat.le_refl _) (by simp) ?_; (case hd => rfl); (case hg => rfl); (case hr => first | (go_simp; done) | (go_simp; rfl)); (case hp => exact (Reps.one (show Kd.M (Kd.int .u8) _ _ _ ((wrap64 ((wrap64 (16 * a0_1)) + a0_2)) % 256) [.int .u8 ((wrap64 ((wrap64 (16 * a0_1)) + a0_2)) % 256)] from rfl) (Reps.one (show Kd.M (Kd.int .u8) _ _ _ ((a0_3) % 256) [.int .u8 ((a0_3) % 256)] from rfl) (Reps.none _ _))))
                      intro v158 w16 ho17 hb hg_ hnew_
                      clear hg_ hnew_
                      (first | rw [← Ny157.out] at ho17 | (simp only [Int.reduceToNat] at ho17; rw [← Ny157.out] at ho17))
                      have n0_ := Aside0.mk (Kd.R_lower ho17 (below_size (by repeat (first | (with_reducible first | exact HB.out | apply below_alloc | apply pw_below_drewN | apply below_drew1 | refine below_set ?_ GE155.out) | exact HB.out))))
                      have n1_ := Aside0.mk (blk_below (g := gb155) (o := .cells #[.string a0_0, .int .i64 a0_1, .int .i64 a0_2, .int .i64 a0_3, .bool a0_4, .int .u64 a0_5, .int .u64 a0_6] 31 (0, 0)) (by (with_reducible repeat (first | refine blk_drewN ?_ _ | refine blk_drew ?_ | refine blk_alloc ?_ _)); exact BK155.out) hb)
                      have n2_ := Aside0.mk (below_step (by repeat (first | (with_reducible first | exact HB.out | apply below_alloc | apply pw_below_drewN | apply below_drew1 | refine below_set ?_ GE155.out) | exact HB.out)) hb)
                      clear BK155
                      clear HB
                      have HO159 := n0_
                      have BK155 := n1_
                      have HB := n2_
                      clear n0_ n1_ n2_
                      clear hb ho17
                      refine hK.out _ _ ⟨(blk_cell BK155.out 0).trans rfl, (blk_cell BK155.out 1).trans rfl, (blk_cell BK155.out 2).trans rfl, (blk_cell BK155.out 3).trans rfl, (blk_cell BK155.out 4).trans rfl, (blk_cell BK155.out 5).trans rfl, (blk_cell BK155.out 6).trans rfl⟩ (fun hHeld => ?_)
                      clear hK K
                      refine norm_ (a' := ?_) ?_ ?_
                      rotate_left
                      ·show Act.put _ (some 21) _ = _
                       simp only [Act.put,lz1,lz2,lz3,i64_w,i32_w]
                       rfl
                      exact norm_ (by first | (simp only [putAll, Act.put, List.setIfInBounds_toArray, List.set_cons_zero, List.set_cons_succ]; done) | (simp only [putAll, Act.put, List.setIfInBounds_toArray, List.set_cons_zero, List.set_cons_succ]; rfl)) (hJ13 (v158) _ ⟨hHeld, (by (with_reducible repeat (first | apply Kd.R_alloc | apply Kd.R_drewN | apply Kd.R_drew)); exact HO159.out), (by (with_reducible repeat (first | refine blk_drewN ?_ _ | refine blk_drew ?_ | refine blk_alloc ?_ _)); exact BK155.out), (by repeat (first | (with_reducible first | exact HB.out | apply below_alloc | apply pw_below_drewN | apply below_drew1 | refine below_set ?_ GE155.out) | exact HB.out))⟩)
                    ·skip
                     rintro v158 w18 ⟨hS_, h0_, h1_, h2_⟩
                     have n0_ : Aside0 (Kd.R (Kd.int .u8) 5 w18 w.heap.size (fun _ => True) v158 y157) := ⟨h0_⟩
                     have n1_ : Aside0 (w18.heap[gb155]? = some (.cells #[.string a0_0, .int .i64 a0_1, .int .i64 a0_2, .int .i64 a0_3, .bool a0_4, .int .u64 a0_5, .int .u64 a0_6] 31 (0, 0))) := ⟨h1_⟩
                     have n2_ : Aside0 (Below w.heap.size w w18) := ⟨h2_⟩
                     clear BK155
                     clear HB
                     clear h0_ h1_ h2_
                     have HO159 := n0_
                     have BK155 := n1_
                     have HB := n2_
                     clear n0_ n1_ n2_
                     have hHeld : w18.cell? ⟨gb155, 0, none⟩ = some (.string a0_0) ∧ w18.cell? ⟨gb155, 1, none⟩ = some (.int .i64 a0_1) ∧ w18.cell? ⟨gb155, 2, none⟩ = some (.int .i64 a0_2) ∧ w18.cell? ⟨gb155, 3, none⟩ = some (.int .i64 a0_3) ∧ w18.cell? ⟨gb155, 4, none⟩ = some (.bool a0_4) ∧ w18.cell? ⟨gb155, 5, none⟩ = some (.int .u64 a0_5) ∧ w18.cell? ⟨gb155, 6, none⟩ = some (.int .u64 a0_6) := hS_
                     refine norm_ (a' := ?_) ?_ ?_
                     rotate_left
                     ·simp only [putAll, Act.put, List.setIfInBounds_toArray, List.set_cons_zero, List.set_cons_succ]
                      rfl
                     refine two_ (i := 2) (j := 14) (Ni := some 10) (Nj := some 22) #[true,true,true,true,true,true,true,true,true,true,true,true,true,true,false,false,true,false,false,true,true,false,false,true,true,false,false,false] #[true,true,false,true,true,true,true,true,true,true,true,true,true,true,true,false,true,false,false,true,true,false,false,true,true,false,false,false] rfl rfl rfl rfl (two_of HT_.out (by kernel_rfl)) (by decide) (by decide) (fun K hK => ?_) (fun K hK => ?_)
                     ·skip
                      refine goes_ Try.func17 (by kernel_rfl) rfl #[.int .u64 (IntKind.u64.wrap (a1)), .int .i64 4] (by rfl) rfl rfl (by (try simp only [List.map_toArray, List.map_cons, List.map_nil]); first | done | rfl | (simp only [List.length_drop, List.length_take]; rfl)) ?_
                      with_reducible refine (turnbuckleref01_Put.calls kj2 (IntKind.u64.wrap (a1)) 4 t156 _ A7.out).mono ?_
                      rintro e w19 ⟨rfl, hb⟩
                      refine ⟨_, rfl, ?_⟩
                      have n0_ := Aside0.mk (Kd.R_below (by (with_reducible repeat (first | apply Kd.R_alloc | apply Kd.R_drewN | apply Kd.R_drew)); exact HO159.out) hb)
                      have n1_ := Aside0.mk (blk_below (g := gb155) (o := .cells #[.string a0_0, .int .i64 a0_1, .int .i64 a0_2, .int .i64 a0_3, .bool a0_4, .int .u64 a0_5, .int .u64 a0_6] 31 (0, 0)) (by (with_reducible repeat (first | refine blk_drewN ?_ _ | refine blk_drew ?_ | refine blk_alloc ?_ _)); exact BK155.out) hb)
                      have n2_ := Aside0.mk (below_step (by repeat (first | (with_reducible first | exact HB.out | apply below_alloc | apply pw_below_drewN | apply below_drew1 | refine below_set ?_ GE155.out) | exact HB.out)) hb)
                      clear HO159
                      clear BK155
                      clear HB
                      have HO159 := n0_
                      have BK155 := n1_
                      have HB := n2_
                      clear n0_ n1_ n2_
                      (try clear hb)
                      (try clear hb2)
                      (try clear hk)
                      (try clear hi)
                      refine hK.out _ _ ⟨(blk_cell BK155.out 0).trans rfl, (blk_cell BK155.out 1).trans rfl, (blk_cell BK155.out 2).trans rfl, (blk_cell BK155.out 3).trans rfl, (blk_cell BK155.out 4).trans rfl, (blk_cell BK155.out 5).trans rfl, (blk_cell BK155.out 6).trans rfl⟩ (fun hHeld => ?_)
                      clear hK K
                      refine norm_ (a' := ?_) ?_ ?_
                      rotate_left
                      ·show Act.put _ (some 10) _ = _
                       simp only [Act.put,lz1,lz2,lz3,i64_w,i32_w]
                       rfl
                      exact norm_ (by first | (simp only [putAll, Act.put, List.setIfInBounds_toArray, List.set_cons_zero, List.set_cons_succ]; done) | (simp only [putAll, Act.put, List.setIfInBounds_toArray, List.set_cons_zero, List.set_cons_succ]; rfl)) (hJ2_13 (v158) _ ⟨hHeld, (by (with_reducible repeat (first | apply Kd.R_alloc | apply Kd.R_drewN | apply Kd.R_drew)); exact HO159.out), (by (with_reducible repeat (first | refine blk_drewN ?_ _ | refine blk_drew ?_ | refine blk_alloc ?_ _)); exact BK155.out), (by repeat (first | (with_reducible first | exact HB.out | apply below_alloc | apply pw_below_drewN | apply below_drew1 | refine below_set ?_ GE155.out) | exact HB.out))⟩)
                     ·skip
                      have hcv19 := own_string (P := Try.prog) Try.underlying47 Try.underlying5 Try.underlying9 (Kd.own_of_R HO159.out)
                      refine value_ (w1 := ?_) (v := ?_) (by rfl) rfl ?_ ?_
                      rotate_left 2
                      ·go_simp
                       constructor
                       ·rfl
                       ·rfl
                      clear hcv19
                      refine hK.out _ _ ⟨(blk_cell BK155.out 0).trans rfl, (blk_cell BK155.out 1).trans rfl, (blk_cell BK155.out 2).trans rfl, (blk_cell BK155.out 3).trans rfl, (blk_cell BK155.out 4).trans rfl, (blk_cell BK155.out 5).trans rfl, (blk_cell BK155.out 6).trans rfl⟩ (fun hHeld => ?_)
                      clear hK K
                      refine norm_ (a' := ?_) ?_ ?_
                      rotate_left
                      ·show Act.put _ (some 22) _ = _
                       simp only [Act.put,lz1,lz2,lz3,i64_w,i32_w]
                       rfl
                      exact norm_ (by first | (simp only [putAll, Act.put, List.setIfInBounds_toArray, List.set_cons_zero, List.set_cons_succ]; done) | (simp only [putAll, Act.put, List.setIfInBounds_toArray, List.set_cons_zero, List.set_cons_succ]; rfl)) (hJ13_14 (v158) _ ⟨hHeld, (by (with_reducible repeat (first | apply Kd.R_alloc | apply Kd.R_drewN | apply Kd.R_drew)); exact HO159.out), (by (with_reducible repeat (first | refine blk_drewN ?_ _ | refine blk_drew ?_ | refine blk_alloc ?_ _)); exact BK155.out), (by repeat (first | (with_reducible first | exact HB.out | apply below_alloc | apply pw_below_drewN | apply below_drew1 | refine below_set ?_ GE155.out) | exact HB.out))⟩)
                   ·skip
                    rintro _ w17 ⟨hS_, h0_, h1_⟩
                    have n0_ : Aside0 (w17.heap[gb155]? = some (.cells #[.string a0_0, .int .i64 a0_1, .int .i64 a0_2, .int .i64 a0_3, .bool a0_4, .int .u64 a0_5, .int .u64 a0_6] 31 (0, 0))) := ⟨h0_⟩
                    have n1_ : Aside0 (Below w.heap.size w w17) := ⟨h1_⟩
                    clear BK155
                    clear HB
                    clear h0_ h1_
                    have BK155 := n0_
                    have HB := n1_
                    clear n0_ n1_
                    have hHeld : w17.cell? ⟨gb155, 0, none⟩ = some (.string a0_0) ∧ w17.cell? ⟨gb155, 1, none⟩ = some (.int .i64 a0_1) ∧ w17.cell? ⟨gb155, 2, none⟩ = some (.int .i64 a0_2) ∧ w17.cell? ⟨gb155, 3, none⟩ = some (.int .i64 a0_3) ∧ w17.cell? ⟨gb155, 4, none⟩ = some (.bool a0_4) ∧ w17.cell? ⟨gb155, 5, none⟩ = some (.int .u64 a0_5) ∧ w17.cell? ⟨gb155, 6, none⟩ = some (.int .u64 a0_6) := hS_
                    refine norm_ (a' := ?_) ?_ ?_
                    rotate_left
                    ·simp only [putAll, Act.put, List.setIfInBounds_toArray, List.set_cons_zero, List.set_cons_succ]
                     rfl
                    refine two_ (i := 13) (j := 17) (Ni := some 21) (Nj := some 25) #[true,true,true,true,true,true,true,true,true,true,true,true,true,true,false,false,true,false,false,true,true,false,false,true,true,false,false,false] #[true,true,true,true,true,true,true,true,true,true,true,true,true,false,false,false,true,true,false,true,true,false,false,true,true,false,false,false] rfl rfl rfl rfl (two_of HT_.out (by kernel_rfl)) (by decide) (by decide) (fun K hK => ?_) (fun K hK => ?_)
                    ·skip
                     refine Kd.R_lit_step (Kd.int .u8) _ 5 ?hg (N := 21) ?hd (xs := ([(wrap64 ((wrap64 (16 * a0_1)) + a0_2)) % 256, (a0_3) % 256] : List Int)) (inner := [.int .u8 ((wrap64 ((wrap64 (16 * a0_1)) + a0_2)) % 256), .int .u8 ((a0_3) % 256)]) (ok := fun _ => True) (okp := fun _ => True) ?hr ?hp (fun _ hk => hk) trivial (Below.refl _ _) (Nat.le_refl _) (by simp) ?_; (case hd => rfl); (case hg => rfl); (case hr => first | (go_simp; done) | (go_simp; rfl)); (case hp => exact (Reps.one (show Kd.M (Kd.int .u8) _ _ _ ((wrap64 ((wrap64 (16 * a0_1)) + a0_2)) % 256) [.int .u8 ((wrap64 ((wrap64 (16 * a0_1)) + a0_2)) % 256)] from rfl) (Reps.one (show Kd.M (Kd.int .u8) _ _ _ ((a0_3) % 256) [.int .u8 ((a0_3) % 256)] from rfl) (Reps.none _ _))))
                     intro v158 w18 ho19 hb hg_ hnew_
                     clear hg_ hnew_
                     (first | rw [← Ny157.out] at ho19 | (simp only [Int.reduceToNat] at ho19; rw [← Ny157.out] at ho19))
                     have n0_ := Aside0.mk (Kd.R_lower ho19 (below_size (by repeat (first | (with_reducible first | exact HB.out | apply below_alloc | apply pw_below_drewN | apply below_drew1 | refine below_set ?_ GE155.out) | exact HB.out))))
                     have n1_ := Aside0.mk (blk_below (g := gb155) (o := .cells #[.string a0_0, .int .i64 a0_1, .int .i64 a0_2, .int .i64 a0_3, .bool a0_4, .int .u64 a0_5, .int .u64 a0_6] 31 (0, 0)) (by (with_reducible repeat (first | refine blk_drewN ?_ _ | refine blk_drew ?_ | refine blk_alloc ?_ _)); exact BK155.out) hb)
                     have n2_ := Aside0.mk (below_step (by repeat (first | (with_reducible first | exact HB.out | apply below_alloc | apply pw_below_drewN | apply below_drew1 | refine below_set ?_ GE155.out) | exact HB.out)) hb)
                     clear BK155
                     clear HB
                     have HO159 := n0_
                     have BK155 := n1_
                     have HB := n2_
                     clear n0_ n1_ n2_
                     clear hb ho19
                     refine hK.out _ _ ⟨(blk_cell BK155.out 0).trans rfl, (blk_cell BK155.out 1).trans rfl, (blk_cell BK155.out 2).trans rfl, (blk_cell BK155.out 3).trans rfl, (blk_cell BK155.out 4).trans rfl, (blk_cell BK155.out 5).trans rfl, (blk_cell BK155.out 6).trans rfl⟩ (fun hHeld => ?_)
                     clear hK K
                     refine norm_ (a' := ?_) ?_ ?_
                     rotate_left
                     ·show Act.put _ (some 21) _ = _
                      simp only [Act.put,lz1,lz2,lz3,i64_w,i32_w]
                      rfl
                     exact norm_ (by first | (simp only [putAll, Act.put, List.setIfInBounds_toArray, List.set_cons_zero, List.set_cons_succ]; done) | (simp only [putAll, Act.put, List.setIfInBounds_toArray, List.set_cons_zero, List.set_cons_succ]; rfl)) (hJ2_13 (v158) _ ⟨hHeld, (by (with_reducible repeat (first | apply Kd.R_alloc | apply Kd.R_drewN | apply Kd.R_drew)); exact HO159.out), (by (with_reducible repeat (first | refine blk_drewN ?_ _ | refine blk_drew ?_ | refine blk_alloc ?_ _)); exact BK155.out), (by repeat (first | (with_reducible first | exact HB.out | apply below_alloc | apply pw_below_drewN | apply below_drew1 | refine below_set ?_ GE155.out) | exact HB.out))⟩)
                    ·skip
                     refine goes_ Try.func17 (by kernel_rfl) rfl #[.int .u64 x5_2, .int .i64 2] (by rfl) rfl rfl (by (try simp only [List.map_toArray, List.map_cons, List.map_nil]); first | done | rfl | (simp only [List.length_drop, List.length_take]; rfl)) ?_
                     with_reducible refine (turnbuckleref01_Put.calls kj2 x5_2 2 t160 _ A9.out).mono ?_
                     rintro e w18 ⟨rfl, hb⟩
                     refine ⟨_, rfl, ?_⟩
                     have n0_ := Aside0.mk (blk_below (g := gb155) (o := .cells #[.string a0_0, .int .i64 a0_1, .int .i64 a0_2, .int .i64 a0_3, .bool a0_4, .int .u64 a0_5, .int .u64 a0_6] 31 (0, 0)) (by (with_reducible repeat (first | refine blk_drewN ?_ _ | refine blk_drew ?_ | refine blk_alloc ?_ _)); exact BK155.out) hb)
                     have n1_ := Aside0.mk (below_step (by repeat (first | (with_reducible first | exact HB.out | apply below_alloc | apply pw_below_drewN | apply below_drew1 | refine below_set ?_ GE155.out) | exact HB.out)) hb)
                     clear BK155
                     clear HB
                     have BK155 := n0_
                     have HB := n1_
                     clear n0_ n1_
                     (try clear hb)
                     (try clear hb2)
                     (try clear hk)
                     (try clear hi)
                     refine hK.out _ _ ⟨(blk_cell BK155.out 0).trans rfl, (blk_cell BK155.out 1).trans rfl, (blk_cell BK155.out 2).trans rfl, (blk_cell BK155.out 3).trans rfl, (blk_cell BK155.out 4).trans rfl, (blk_cell BK155.out 5).trans rfl, (blk_cell BK155.out 6).trans rfl⟩ (fun hHeld => ?_)
                     clear hK K
                     refine norm_ (a' := ?_) ?_ ?_
                     rotate_left
                     ·show Act.put _ (some 25) _ = _
                      simp only [Act.put,lz1,lz2,lz3,i64_w,i32_w]
                      rfl
                     exact norm_ (by first | (simp only [putAll, Act.put, List.setIfInBounds_toArray, List.set_cons_zero, List.set_cons_succ]; done) | (simp only [putAll, Act.put, List.setIfInBounds_toArray, List.set_cons_zero, List.set_cons_succ]; rfl)) (hJ2_17 () _ ⟨hHeld, (by (with_reducible repeat (first | refine blk_drewN ?_ _ | refine blk_drew ?_ | refine blk_alloc ?_ _)); exact BK155.out), (by repeat (first | (with_reducible first | exact HB.out | apply below_alloc | apply pw_below_drewN | apply below_drew1 | refine below_set ?_ GE155.out) | exact HB.out))⟩)
                  ·skip
                   rintro v158 w19 ⟨hS_, h0_, h1_, h2_⟩
                   have n0_ : Aside0 (Kd.R (Kd.int .u8) 5 w19 w.heap.size (fun _ => True) v158 y157) := ⟨h0_⟩
                   have n1_ : Aside0 (w19.heap[gb155]? = some (.cells #[.string a0_0, .int .i64 a0_1, .int .i64 a0_2, .int .i64 a0_3, .bool a0_4, .int .u64 a0_5, .int .u64 a0_6] 31 (0, 0))) := ⟨h1_⟩
                   have n2_ : Aside0 (Below w.heap.size w w19) := ⟨h2_⟩
                   clear BK155
                   clear HB
                   clear h0_ h1_ h2_
                   have HO159 := n0_
                   have BK155 := n1_
                   have HB := n2_
                   clear n0_ n1_ n2_
                   have hHeld : w19.cell? ⟨gb155, 0, none⟩ = some (.string a0_0) ∧ w19.cell? ⟨gb155, 1, none⟩ = some (.int .i64 a0_1) ∧ w19.cell? ⟨gb155, 2, none⟩ = some (.int .i64 a0_2) ∧ w19.cell? ⟨gb155, 3, none⟩ = some (.int .i64 a0_3) ∧ w19.cell? ⟨gb155, 4, none⟩ = some (.bool a0_4) ∧ w19.cell? ⟨gb155, 5, none⟩ = some (.int .u64 a0_5) ∧ w19.cell? ⟨gb155, 6, none⟩ = some (.int .u64 a0_6) := hS_
                   refine norm_ (a' := ?_) ?_ ?_
                   rotate_left
                   ·simp only [putAll, Act.put, List.setIfInBounds_toArray, List.set_cons_zero, List.set_cons_succ]
                    rfl
                   refine one_ (i := 2) (N := some 10) #[true,true,true,true,true,true,true,true,true,true,true,true,true,true,true,false,true,false,false,true,true,false,false,true,true,false,false,false] rfl rfl (one_of HT_.out (by kernel_rfl)) (by decide) (fun K hK => ?_)
                   refine goes_ Try.func17 (by kernel_rfl) rfl #[.int .u64 (IntKind.u64.wrap (a1)), .int .i64 4] (by rfl) rfl rfl (by (try simp only [List.map_toArray, List.map_cons, List.map_nil]); first | done | rfl | (simp only [List.length_drop, List.length_take]; rfl)) ?_
                   with_reducible refine (turnbuckleref01_Put.calls kj2 (IntKind.u64.wrap (a1)) 4 t156 _ A7.out).mono ?_
                   rintro e w20 ⟨rfl, hb⟩
                   refine ⟨_, rfl, ?_⟩
                   have n0_ := Aside0.mk (Kd.R_below (by (with_reducible repeat (first | apply Kd.R_alloc | apply Kd.R_drewN | apply Kd.R_drew)); exact HO159.out) hb)
                   have n1_ := Aside0.mk (blk_below (g := gb155) (o := .cells #[.string a0_0, .int .i64 a0_1, .int .i64 a0_2, .int .i64 a0_3, .bool a0_4, .int .u64 a0_5, .int .u64 a0_6] 31 (0, 0)) (by (with_reducible repeat (first | refine blk_drewN ?_ _ | refine blk_drew ?_ | refine blk_alloc ?_ _)); exact BK155.out) hb)
                   have n2_ := Aside0.mk (below_step (by repeat (first | (with_reducible first | exact HB.out | apply below_alloc | apply pw_below_drewN | apply below_drew1 | refine below_set ?_ GE155.out) | exact HB.out)) hb)
                   clear HO159
                   clear BK155
                   clear HB
                   have HO159 := n0_
                   have BK155 := n1_
                   have HB := n2_
                   clear n0_ n1_ n2_
                   (try clear hb)
                   (try clear hb2)
                   (try clear hk)
                   (try clear hi)
                   refine hK.out _ _ ⟨(blk_cell BK155.out 0).trans rfl, (blk_cell BK155.out 1).trans rfl, (blk_cell BK155.out 2).trans rfl, (blk_cell BK155.out 3).trans rfl, (blk_cell BK155.out 4).trans rfl, (blk_cell BK155.out 5).trans rfl, (blk_cell BK155.out 6).trans rfl⟩ (fun hHeld => ?_)
                   clear hK K
                   refine norm_ (a' := ?_) ?_ ?_
                   rotate_left
                   ·show Act.put _ (some 10) _ = _
                    simp only [Act.put,lz1,lz2,lz3,i64_w,i32_w]
                    rfl
                   refine pure_ (i:=15) (N := some 23) (v:=?_) (a':=?_) #[true,true,true,true,true,true,true,true,true,true,true,true,true,true,true,true,true,false,false,true,true,false,false,true,true,false,false,false] rfl rfl (any_of HT_.out (by kernel_rfl)) (fun _ _ _ h=>h) (Or.inl ⟨by rfl, ?_⟩) ?_ ?_
                   rotate_left
                   ·intro w'
                    go_simp
                    first | with_reducible rfl | (refine Eq.trans (b := .ok (.value (.bool true)) w') ?_ (by with_reducible rfl); (repeat' (first | with_reducible rfl | split)); all_goals (first | rfl | (exfalso; simp_all; done))) | (refine Eq.trans (b := .ok (.value (.bool false)) w') ?_ (by with_reducible rfl); (repeat' (first | with_reducible rfl | split)); all_goals (first | rfl | (exfalso; simp_all; done)))
                   rotate_left
                   ·simp only [Act.put,lz1,lz2,lz3,i64_w,i32_w]
                    rfl
                   exact norm_ (by first | (simp only [putAll, Act.put, List.setIfInBounds_toArray, List.set_cons_zero, List.set_cons_succ]; done) | (simp only [putAll, Act.put, List.setIfInBounds_toArray, List.set_cons_zero, List.set_cons_succ]; rfl)) (hJ2_13_14 (v158) _ ⟨hHeld, (by (with_reducible repeat (first | apply Kd.R_alloc | apply Kd.R_drewN | apply Kd.R_drew)); exact HO159.out), (by (with_reducible repeat (first | refine blk_drewN ?_ _ | refine blk_drew ?_ | refine blk_alloc ?_ _)); exact BK155.out), (by repeat (first | (with_reducible first | exact HB.out | apply below_alloc | apply pw_below_drewN | apply below_drew1 | refine below_set ?_ GE155.out) | exact HB.out))⟩)
                 ·skip
                  rintro _ w18 ⟨hS_, h0_, h1_⟩
                  have n0_ : Aside0 (w18.heap[gb155]? = some (.cells #[.string a0_0, .int .i64 a0_1, .int .i64 a0_2, .int .i64 a0_3, .bool a0_4, .int .u64 a0_5, .int .u64 a0_6] 31 (0, 0))) := ⟨h0_⟩
                  have n1_ : Aside0 (Below w.heap.size w w18) := ⟨h1_⟩
                  clear BK155
                  clear HB
                  clear h0_ h1_
                  have BK155 := n0_
                  have HB := n1_
                  clear n0_ n1_
                  have hHeld : w18.cell? ⟨gb155, 0, none⟩ = some (.string a0_0) ∧ w18.cell? ⟨gb155, 1, none⟩ = some (.int .i64 a0_1) ∧ w18.cell? ⟨gb155, 2, none⟩ = some (.int .i64 a0_2) ∧ w18.cell? ⟨gb155, 3, none⟩ = some (.int .i64 a0_3) ∧ w18.cell? ⟨gb155, 4, none⟩ = some (.bool a0_4) ∧ w18.cell? ⟨gb155, 5, none⟩ = some (.int .u64 a0_5) ∧ w18.cell? ⟨gb155, 6, none⟩ = some (.int .u64 a0_6) := hS_
                  refine norm_ (a' := ?_) ?_ ?_
                  rotate_left
                  ·simp only [putAll, Act.put, List.setIfInBounds_toArray, List.set_cons_zero, List.set_cons_succ]
                   rfl
                  refine two_ (i := 13) (j := 21) (Ni := some 21) (Nj := some 29) #[true,true,true,true,true,true,true,true,true,true,true,true,true,true,false,false,true,true,false,true,true,false,false,true,true,false,false,false] #[true,true,true,true,true,true,true,true,true,true,true,true,true,false,false,false,true,true,false,true,true,true,false,true,true,false,false,false] rfl rfl rfl rfl (two_of HT_.out (by kernel_rfl)) (by decide) (by decide) (fun K hK => ?_) (fun K hK => ?_)
                  ·skip
                   refine Kd.R_lit_step (Kd.int .u8) _ 5 ?hg (N := 21) ?hd (xs := ([(wrap64 ((wrap64 (16 * a0_1)) + a0_2)) % 256, (a0_3) % 256] : List Int)) (inner := [.int .u8 ((wrap64 ((wrap64 (16 * a0_1)) + a0_2)) % 256), .int .u8 ((a0_3) % 256)]) (ok := fun _ => True) (okp := fun _ => True) ?hr ?hp (fun _ hk => hk) trivial (Below.refl _ _) (Nat.le_refl _) (by simp) ?_; (case hd => rfl); (case hg => rfl); (case hr => first | (go_simp; done) | (go_simp; rfl)); (case hp => exact (Reps.one (show Kd.M (Kd.int .u8) _ _ _ ((wrap64 ((wrap64 (16 * a0_1)) + a0_2)) % 256) [.int .u8 ((wrap64 ((wrap64 (16 * a0_1)) + a0_2)) % 256)] from rfl) (Reps.one (show Kd.M (Kd.int .u8) _ _ _ ((a0_3) % 256) [.int .u8 ((a0_3) % 256)] from rfl) (Reps.none _ _))))
                   intro v158 w19 ho20 hb hg_ hnew_
                   clear hg_ hnew_
                   (first | rw [← Ny157.out] at ho20 | (simp only [Int.reduceToNat] at ho20; rw [← Ny157.out] at ho20))
                   have n0_ := Aside0.mk (Kd.R_lower ho20 (below_size (by repeat (first | (with_reducible first | exact HB.out | apply below_alloc | apply pw_below_drewN | apply below_drew1 | refine below_set ?_ GE155.out) | exact HB.out))))
                   have n1_ := Aside0.mk (blk_below (g := gb155) (o := .cells #[.string a0_0, .int .i64 a0_1, .int .i64 a0_2, .int .i64 a0_3, .bool a0_4, .int .u64 a0_5, .int .u64 a0_6] 31 (0, 0)) (by (with_reducible repeat (first | refine blk_drewN ?_ _ | refine blk_drew ?_ | refine blk_alloc ?_ _)); exact BK155.out) hb)
                   have n2_ := Aside0.mk (below_step (by repeat (first | (with_reducible first | exact HB.out | apply below_alloc | apply pw_below_drewN | apply below_drew1 | refine below_set ?_ GE155.out) | exact HB.out)) hb)
                   clear BK155
                   clear HB
                   have HO159 := n0_
                   have BK155 := n1_
                   have HB := n2_
                   clear n0_ n1_ n2_
                   clear hb ho20
                   refine hK.out _ _ ⟨(blk_cell BK155.out 0).trans rfl, (blk_cell BK155.out 1).trans rfl, (blk_cell BK155.out 2).trans rfl, (blk_cell BK155.out 3).trans rfl, (blk_cell BK155.out 4).trans rfl, (blk_cell BK155.out 5).trans rfl, (blk_cell BK155.out 6).trans rfl⟩ (fun hHeld => ?_)
                   clear hK K
                   refine norm_ (a' := ?_) ?_ ?_
                   rotate_left
                   ·show Act.put _ (some 21) _ = _
                    simp only [Act.put,lz1,lz2,lz3,i64_w,i32_w]
                    rfl
                   exact norm_ (by first | (simp only [putAll, Act.put, List.setIfInBounds_toArray, List.set_cons_zero, List.set_cons_succ]; done) | (simp only [putAll, Act.put, List.setIfInBounds_toArray, List.set_cons_zero, List.set_cons_succ]; rfl)) (hJ2_13_17 (v158) _ ⟨hHeld, (by (with_reducible repeat (first | apply Kd.R_alloc | apply Kd.R_drewN | apply Kd.R_drew)); exact HO159.out), (by (with_reducible repeat (first | refine blk_drewN ?_ _ | refine blk_drew ?_ | refine blk_alloc ?_ _)); exact BK155.out), (by repeat (first | (with_reducible first | exact HB.out | apply below_alloc | apply pw_below_drewN | apply below_drew1 | refine below_set ?_ GE155.out) | exact HB.out))⟩)
                  ·skip
                   refine goes_ Try.func17 (by kernel_rfl) rfl #[.int .u64 a0_5, .int .i64 8] (by rfl) rfl rfl (by (try simp only [List.map_toArray, List.map_cons, List.map_nil]); first | done | rfl | (simp only [List.length_drop, List.length_take]; rfl)) ?_
                   with_reducible refine (turnbuckleref01_Put.calls kj2 a0_5 8 t161 _ A11.out).mono ?_
                   rintro e w19 ⟨rfl, hb⟩
                   refine ⟨_, rfl, ?_⟩
                   have n0_ := Aside0.mk (blk_below (g := gb155) (o := .cells #[.string a0_0, .int .i64 a0_1, .int .i64 a0_2, .int .i64 a0_3, .bool a0_4, .int .u64 a0_5, .int .u64 a0_6] 31 (0, 0)) (by (with_reducible repeat (first | refine blk_drewN ?_ _ | refine blk_drew ?_ | refine blk_alloc ?_ _)); exact BK155.out) hb)
                   have n1_ := Aside0.mk (below_step (by repeat (first | (with_reducible first | exact HB.out | apply below_alloc | apply pw_below_drewN | apply below_drew1 | refine below_set ?_ GE155.out) | exact HB.out)) hb)
                   clear BK155
                   clear HB
                   have BK155 := n0_
                   have HB := n1_
                   clear n0_ n1_
                   (try clear hb)
                   (try clear hb2)
                   (try clear hk)
                   (try clear hi)
                   refine hK.out _ _ ⟨(blk_cell BK155.out 0).trans rfl, (blk_cell BK155.out 1).trans rfl, (blk_cell BK155.out 2).trans rfl, (blk_cell BK155.out 3).trans rfl, (blk_cell BK155.out 4).trans rfl, (blk_cell BK155.out 5).trans rfl, (blk_cell BK155.out 6).trans rfl⟩ (fun hHeld => ?_)
                   clear hK K
                   refine norm_ (a' := ?_) ?_ ?_
                   rotate_left
                   ·show Act.put _ (some 29) _ = _
                    simp only [Act.put,lz1,lz2,lz3,i64_w,i32_w]
                    rfl
                   exact norm_ (by first | (simp only [putAll, Act.put, List.setIfInBounds_toArray, List.set_cons_zero, List.set_cons_succ]; done) | (simp only [putAll, Act.put, List.setIfInBounds_toArray, List.set_cons_zero, List.set_cons_succ]; rfl)) (hJ2_17_21 () _ ⟨hHeld, (by (with_reducible repeat (first | refine blk_drewN ?_ _ | refine blk_drew ?_ | refine blk_alloc ?_ _)); exact BK155.out), (by repeat (first | (with_reducible first | exact HB.out | apply below_alloc | apply pw_below_drewN | apply below_drew1 | refine below_set ?_ GE155.out) | exact HB.out))⟩)
                ·skip
                 rintro v158 w19 ⟨hS_, h0_, h1_, h2_⟩
                 have n0_ : Aside0 (Kd.R (Kd.int .u8) 5 w19 w.heap.size (fun _ => True) v158 y157) := ⟨h0_⟩
                 have n1_ : Aside0 (w19.heap[gb155]? = some (.cells #[.string a0_0, .int .i64 a0_1, .int .i64 a0_2, .int .i64 a0_3, .bool a0_4, .int .u64 a0_5, .int .u64 a0_6] 31 (0, 0))) := ⟨h1_⟩
                 have n2_ : Aside0 (Below w.heap.size w w19) := ⟨h2_⟩
                 clear BK155
                 clear HB
                 clear h0_ h1_ h2_
                 have HO159 := n0_
                 have BK155 := n1_
                 have HB := n2_
                 clear n0_ n1_ n2_
                 have hHeld : w19.cell? ⟨gb155, 0, none⟩ = some (.string a0_0) ∧ w19.cell? ⟨gb155, 1, none⟩ = some (.int .i64 a0_1) ∧ w19.cell? ⟨gb155, 2, none⟩ = some (.int .i64 a0_2) ∧ w19.cell? ⟨gb155, 3, none⟩ = some (.int .i64 a0_3) ∧ w19.cell? ⟨gb155, 4, none⟩ = some (.bool a0_4) ∧ w19.cell? ⟨gb155, 5, none⟩ = some (.int .u64 a0_5) ∧ w19.cell? ⟨gb155, 6, none⟩ = some (.int .u64 a0_6) := hS_
                 refine norm_ (a' := ?_) ?_ ?_
                 rotate_left
                 ·simp only [putAll, Act.put, List.setIfInBounds_toArray, List.set_cons_zero, List.set_cons_succ]
                  rfl
                 refine two_ (i := 14) (j := 17) (Ni := some 22) (Nj := some 25) #[true,true,true,true,true,true,true,true,true,true,true,true,true,true,true,false,true,false,false,true,true,false,false,true,true,false,false,false] #[true,true,true,true,true,true,true,true,true,true,true,true,true,true,false,false,true,true,false,true,true,false,false,true,true,false,false,false] rfl rfl rfl rfl (two_of HT_.out (by kernel_rfl)) (by decide) (by decide) (fun K hK => ?_) (fun K hK => ?_)
                 ·skip
                  have hcv20 := own_string (P := Try.prog) Try.underlying47 Try.underlying5 Try.underlying9 (Kd.own_of_R HO159.out)
                  refine value_ (w1 := ?_) (v := ?_) (by rfl) rfl ?_ ?_
                  rotate_left 2
                  ·go_simp
                   constructor
                   ·rfl
                   ·rfl
                  clear hcv20
                  refine hK.out _ _ ⟨(blk_cell BK155.out 0).trans rfl, (blk_cell BK155.out 1).trans rfl, (blk_cell BK155.out 2).trans rfl, (blk_cell BK155.out 3).trans rfl, (blk_cell BK155.out 4).trans rfl, (blk_cell BK155.out 5).trans rfl, (blk_cell BK155.out 6).trans rfl⟩ (fun hHeld => ?_)
                  clear hK K
                  refine norm_ (a' := ?_) ?_ ?_
                  rotate_left
                  ·show Act.put _ (some 22) _ = _
                   simp only [Act.put,lz1,lz2,lz3,i64_w,i32_w]
                   rfl
                  refine pure_ (i:=15) (N := some 23) (v:=?_) (a':=?_) #[true,true,true,true,true,true,true,true,true,true,true,true,true,true,true,true,true,false,false,true,true,false,false,true,true,false,false,false] rfl rfl (any_of HT_.out (by kernel_rfl)) (fun _ _ _ h=>h) (Or.inl ⟨by rfl, ?_⟩) ?_ ?_
                  rotate_left
                  ·intro w'
                   go_simp
                   first | with_reducible rfl | (refine Eq.trans (b := .ok (.value (.bool true)) w') ?_ (by with_reducible rfl); (repeat' (first | with_reducible rfl | split)); all_goals (first | rfl | (exfalso; simp_all; done))) | (refine Eq.trans (b := .ok (.value (.bool false)) w') ?_ (by with_reducible rfl); (repeat' (first | with_reducible rfl | split)); all_goals (first | rfl | (exfalso; simp_all; done)))
                  rotate_left
                  ·simp only [Act.put,lz1,lz2,lz3,i64_w,i32_w]
                   rfl
                  exact norm_ (by first | (simp only [putAll, Act.put, List.setIfInBounds_toArray, List.set_cons_zero, List.set_cons_succ]; done) | (simp only [putAll, Act.put, List.setIfInBounds_toArray, List.set_cons_zero, List.set_cons_succ]; rfl)) (hJ2_13_14 (v158) _ ⟨hHeld, (by (with_reducible repeat (first | apply Kd.R_alloc | apply Kd.R_drewN | apply Kd.R_drew)); exact HO159.out), (by (with_reducible repeat (first | refine blk_drewN ?_ _ | refine blk_drew ?_ | refine blk_alloc ?_ _)); exact BK155.out), (by repeat (first | (with_reducible first | exact HB.out | apply below_alloc | apply pw_below_drewN | apply below_drew1 | refine below_set ?_ GE155.out) | exact HB.out))⟩)
                 ·skip
                  refine goes_ Try.func17 (by kernel_rfl) rfl #[.int .u64 x5_2, .int .i64 2] (by rfl) rfl rfl (by (try simp only [List.map_toArray, List.map_cons, List.map_nil]); first | done | rfl | (simp only [List.length_drop, List.length_take]; rfl)) ?_
                  with_reducible refine (turnbuckleref01_Put.calls kj2 x5_2 2 t160 _ A9.out).mono ?_
                  rintro e w20 ⟨rfl, hb⟩
                  refine ⟨_, rfl, ?_⟩
                  have n0_ := Aside0.mk (Kd.R_below (by (with_reducible repeat (first | apply Kd.R_alloc | apply Kd.R_drewN | apply Kd.R_drew)); exact HO159.out) hb)
                  have n1_ := Aside0.mk (blk_below (g := gb155) (o := .cells #[.string a0_0, .int .i64 a0_1, .int .i64 a0_2, .int .i64 a0_3, .bool a0_4, .int .u64 a0_5, .int .u64 a0_6] 31 (0, 0)) (by (with_reducible repeat (first | refine blk_drewN ?_ _ | refine blk_drew ?_ | refine blk_alloc ?_ _)); exact BK155.out) hb)
                  have n2_ := Aside0.mk (below_step (by repeat (first | (with_reducible first | exact HB.out | apply below_alloc | apply pw_below_drewN | apply below_drew1 | refine below_set ?_ GE155.out) | exact HB.out)) hb)
                  clear HO159
                  clear BK155
                  clear HB
                  have HO159 := n0_
                  have BK155 := n1_
                  have HB := n2_
                  clear n0_ n1_ n2_
                  (try clear hb)
                  (try clear hb2)
                  (try clear hk)
                  (try clear hi)
                  refine hK.out _ _ ⟨(blk_cell BK155.out 0).trans rfl, (blk_cell BK155.out 1).trans rfl, (blk_cell BK155.out 2).trans rfl, (blk_cell BK155.out 3).trans rfl, (blk_cell BK155.out 4).trans rfl, (blk_cell BK155.out 5).trans rfl, (blk_cell BK155.out 6).trans rfl⟩ (fun hHeld => ?_)
                  clear hK K
                  refine norm_ (a' := ?_) ?_ ?_
                  rotate_left
                  ·show Act.put _ (some 25) _ = _
                   simp only [Act.put,lz1,lz2,lz3,i64_w,i32_w]
                   rfl
                  exact norm_ (by first | (simp only [putAll, Act.put, List.setIfInBounds_toArray, List.set_cons_zero, List.set_cons_succ]; done) | (simp only [putAll, Act.put, List.setIfInBounds_toArray, List.set_cons_zero, List.set_cons_succ]; rfl)) (hJ2_13_17 (v158) _ ⟨hHeld, (by (with_reducible repeat (first | apply Kd.R_alloc | apply Kd.R_drewN | apply Kd.R_drew)); exact HO159.out), (by (with_reducible repeat (first | refine blk_drewN ?_ _ | refine blk_drew ?_ | refine blk_alloc ?_ _)); exact BK155.out), (by repeat (first | (with_reducible first | exact HB.out | apply below_alloc | apply pw_below_drewN | apply below_drew1 | refine below_set ?_ GE155.out) | exact HB.out))⟩)
               ·skip
                rintro _ w19 ⟨hS_, h0_, h1_⟩
                have n0_ : Aside0 (w19.heap[gb155]? = some (.cells #[.string a0_0, .int .i64 a0_1, .int .i64 a0_2, .int .i64 a0_3, .bool a0_4, .int .u64 a0_5, .int .u64 a0_6] 31 (0, 0))) := ⟨h0_⟩
                have n1_ : Aside0 (Below w.heap.size w w19) := ⟨h1_⟩
                clear BK155
                clear HB
                clear h0_ h1_
                have BK155 := n0_
                have HB := n1_
                clear n0_ n1_
                have hHeld : w19.cell? ⟨gb155, 0, none⟩ = some (.string a0_0) ∧ w19.cell? ⟨gb155, 1, none⟩ = some (.int .i64 a0_1) ∧ w19.cell? ⟨gb155, 2, none⟩ = some (.int .i64 a0_2) ∧ w19.cell? ⟨gb155, 3, none⟩ = some (.int .i64 a0_3) ∧ w19.cell? ⟨gb155, 4, none⟩ = some (.bool a0_4) ∧ w19.cell? ⟨gb155, 5, none⟩ = some (.int .u64 a0_5) ∧ w19.cell? ⟨gb155, 6, none⟩ = some (.int .u64 a0_6) := hS_
                refine norm_ (a' := ?_) ?_ ?_
                rotate_left
                ·simp only [putAll, Act.put, List.setIfInBounds_toArray, List.set_cons_zero, List.set_cons_succ]
                 rfl
                refine two_ (i := 13) (j := 25) (Ni := some 21) (Nj := some 33) #[true,true,true,true,true,true,true,true,true,true,true,true,true,true,false,false,true,true,false,true,true,true,false,true,true,false,false,false] #[true,true,true,true,true,true,true,true,true,true,true,true,true,false,false,false,true,true,false,true,true,true,false,true,true,true,false,false] rfl rfl rfl rfl (two_of HT_.out (by kernel_rfl)) (by decide) (by decide) (fun K hK => ?_) (fun K hK => ?_)
                ·skip
                 refine Kd.R_lit_step (Kd.int .u8) _ 5 ?hg (N := 21) ?hd (xs := ([(wrap64 ((wrap64 (16 * a0_1)) + a0_2)) % 256, (a0_3) % 256] : List Int)) (inner := [.int .u8 ((wrap64 ((wrap64 (16 * a0_1)) + a0_2)) % 256), .int .u8 ((a0_3) % 256)]) (ok := fun _ => True) (okp := fun _ => True) ?hr ?hp (fun _ hk => hk) trivial (Below.refl _ _) (Nat.le_refl _) (by simp) ?_; (case hd => rfl); (case hg => rfl); (case hr => first | (go_simp; done) | (go_simp; rfl)); (case hp => exact (Reps.one (show Kd.M (Kd.int .u8) _ _ _ ((wrap64 ((wrap64 (16 * a0_1)) + a0_2)) % 256) [.int .u8 ((wrap64 ((wrap64 (16 * a0_1)) + a0_2)) % 256)] from rfl) (Reps.one (show Kd.M (Kd.int .u8) _ _ _ ((a0_3) % 256) [.int .u8 ((a0_3) % 256)] from rfl) (Reps.none _ _))))
                 intro v158 w20 ho21 hb hg_ hnew_
                 clear hg_ hnew_
                 (first | rw [← Ny157.out] at ho21 | (simp only [Int.reduceToNat] at ho21; rw [← Ny157.out] at ho21))
                 have n0_ := Aside0.mk (Kd.R_lower ho21 (below_size (by repeat (first | (with_reducible first | exact HB.out | apply below_alloc | apply pw_below_drewN | apply below_drew1 | refine below_set ?_ GE155.out) | exact HB.out))))
                 have n1_ := Aside0.mk (blk_below (g := gb155) (o := .cells #[.string a0_0, .int .i64 a0_1, .int .i64 a0_2, .int .i64 a0_3, .bool a0_4, .int .u64 a0_5, .int .u64 a0_6] 31 (0, 0)) (by (with_reducible repeat (first | refine blk_drewN ?_ _ | refine blk_drew ?_ | refine blk_alloc ?_ _)); exact BK155.out) hb)
                 have n2_ := Aside0.mk (below_step (by repeat (first | (with_reducible first | exact HB.out | apply below_alloc | apply pw_below_drewN | apply below_drew1 | refine below_set ?_ GE155.out) | exact HB.out)) hb)
                 clear BK155
                 clear HB
                 have HO159 := n0_
                 have BK155 := n1_
                 have HB := n2_
                 clear n0_ n1_ n2_
                 clear hb ho21
                 refine hK.out _ _ ⟨(blk_cell BK155.out 0).trans rfl, (blk_cell BK155.out 1).trans rfl, (blk_cell BK155.out 2).trans rfl, (blk_cell BK155.out 3).trans rfl, (blk_cell BK155.out 4).trans rfl, (blk_cell BK155.out 5).trans rfl, (blk_cell BK155.out 6).trans rfl⟩ (fun hHeld => ?_)
                 clear hK K
                 refine norm_ (a' := ?_) ?_ ?_
                 rotate_left
                 ·show Act.put _ (some 21) _ = _
                  simp only [Act.put,lz1,lz2,lz3,i64_w,i32_w]
                  rfl
                 exact norm_ (by first | (simp only [putAll, Act.put, List.setIfInBounds_toArray, List.set_cons_zero, List.set_cons_succ]; done) | (simp only [putAll, Act.put, List.setIfInBounds_toArray, List.set_cons_zero, List.set_cons_succ]; rfl)) (hJ2_13_17_21 (v158) _ ⟨hHeld, (by (with_reducible repeat (first | apply Kd.R_alloc | apply Kd.R_drewN | apply Kd.R_drew)); exact HO159.out), (by (with_reducible repeat (first | refine blk_drewN ?_ _ | refine blk_drew ?_ | refine blk_alloc ?_ _)); exact BK155.out), (by repeat (first | (with_reducible first | exact HB.out | apply below_alloc | apply pw_below_drewN | apply below_drew1 | refine below_set ?_ GE155.out) | exact HB.out))⟩)
                ·skip
                 refine goes_ Try.func17 (by kernel_rfl) rfl #[.int .u64 a0_6, .int .i64 8] (by rfl) rfl rfl (by (try simp only [List.map_toArray, List.map_cons, List.map_nil]); first | done | rfl | (simp only [List.length_drop, List.length_take]; rfl)) ?_
                 with_reducible refine (turnbuckleref01_Put.calls kj2 a0_6 8 t162 _ A13.out).mono ?_
                 rintro e w20 ⟨rfl, hb⟩
                 refine ⟨_, rfl, ?_⟩
                 have n0_ := Aside0.mk (blk_below (g := gb155) (o := .cells #[.string a0_0, .int .i64 a0_1, .int .i64 a0_2, .int .i64 a0_3, .bool a0_4, .int .u64 a0_5, .int .u64 a0_6] 31 (0, 0)) (by (with_reducible repeat (first | refine blk_drewN ?_ _ | refine blk_drew ?_ | refine blk_alloc ?_ _)); exact BK155.out) hb)
                 have n1_ := Aside0.mk (below_step (by repeat (first | (with_reducible first | exact HB.out | apply below_alloc | apply pw_below_drewN | apply below_drew1 | refine below_set ?_ GE155.out) | exact HB.out)) hb)
                 clear BK155
                 clear HB
                 have BK155 := n0_
                 have HB := n1_
                 clear n0_ n1_
                 (try clear hb)
                 (try clear hb2)
                 (try clear hk)
                 (try clear hi)
                 refine hK.out _ _ ⟨(blk_cell BK155.out 0).trans rfl, (blk_cell BK155.out 1).trans rfl, (blk_cell BK155.out 2).trans rfl, (blk_cell BK155.out 3).trans rfl, (blk_cell BK155.out 4).trans rfl, (blk_cell BK155.out 5).trans rfl, (blk_cell BK155.out 6).trans rfl⟩ (fun hHeld => ?_)
                 clear hK K
                 refine norm_ (a' := ?_) ?_ ?_
                 rotate_left
                 ·show Act.put _ (some 33) _ = _
                  simp only [Act.put,lz1,lz2,lz3,i64_w,i32_w]
                  rfl
                 exact norm_ (by first | (simp only [putAll, Act.put, List.setIfInBounds_toArray, List.set_cons_zero, List.set_cons_succ]; done) | (simp only [putAll, Act.put, List.setIfInBounds_toArray, List.set_cons_zero, List.set_cons_succ]; rfl)) (hJ2_17_21_25 () _ ⟨hHeld, (by (with_reducible repeat (first | refine blk_drewN ?_ _ | refine blk_drew ?_ | refine blk_alloc ?_ _)); exact BK155.out), (by repeat (first | (with_reducible first | exact HB.out | apply below_alloc | apply pw_below_drewN | apply below_drew1 | refine below_set ?_ GE155.out) | exact HB.out))⟩)
              ·skip
               rintro v158 w20 ⟨hS_, h0_, h1_, h2_⟩
               have n0_ : Aside0 (Kd.R (Kd.int .u8) 5 w20 w.heap.size (fun _ => True) v158 y157) := ⟨h0_⟩
               have n1_ : Aside0 (w20.heap[gb155]? = some (.cells #[.string a0_0, .int .i64 a0_1, .int .i64 a0_2, .int .i64 a0_3, .bool a0_4, .int .u64 a0_5, .int .u64 a0_6] 31 (0, 0))) := ⟨h1_⟩
               have n2_ : Aside0 (Below w.heap.size w w20) := ⟨h2_⟩
               clear BK155
               clear HB
               clear h0_ h1_ h2_
               have HO159 := n0_
               have BK155 := n1_
               have HB := n2_
               clear n0_ n1_ n2_
               have hHeld : w20.cell? ⟨gb155, 0, none⟩ = some (.string a0_0) ∧ w20.cell? ⟨gb155, 1, none⟩ = some (.int .i64 a0_1) ∧ w20.cell? ⟨gb155, 2, none⟩ = some (.int .i64 a0_2) ∧ w20.cell? ⟨gb155, 3, none⟩ = some (.int .i64 a0_3) ∧ w20.cell? ⟨gb155, 4, none⟩ = some (.bool a0_4) ∧ w20.cell? ⟨gb155, 5, none⟩ = some (.int .u64 a0_5) ∧ w20.cell? ⟨gb155, 6, none⟩ = some (.int .u64 a0_6) := hS_
               refine norm_ (a' := ?_) ?_ ?_
               rotate_left
               ·simp only [putAll, Act.put, List.setIfInBounds_toArray, List.set_cons_zero, List.set_cons_succ]
                rfl
               refine two_ (i := 14) (j := 21) (Ni := some 22) (Nj := some 29) #[true,true,true,true,true,true,true,true,true,true,true,true,true,true,true,false,true,true,false,true,true,false,false,true,true,false,false,false] #[true,true,true,true,true,true,true,true,true,true,true,true,true,true,false,false,true,true,false,true,true,true,false,true,true,false,false,false] rfl rfl rfl rfl (two_of HT_.out (by kernel_rfl)) (by decide) (by decide) (fun K hK => ?_) (fun K hK => ?_)
               ·skip
                have hcv21 := own_string (P := Try.prog) Try.underlying47 Try.underlying5 Try.underlying9 (Kd.own_of_R HO159.out)
                refine value_ (w1 := ?_) (v := ?_) (by rfl) rfl ?_ ?_
                rotate_left 2
                ·go_simp
                 constructor
                 ·rfl
                 ·rfl
                clear hcv21
                refine hK.out _ _ ⟨(blk_cell BK155.out 0).trans rfl, (blk_cell BK155.out 1).trans rfl, (blk_cell BK155.out 2).trans rfl, (blk_cell BK155.out 3).trans rfl, (blk_cell BK155.out 4).trans rfl, (blk_cell BK155.out 5).trans rfl, (blk_cell BK155.out 6).trans rfl⟩ (fun hHeld => ?_)
                clear hK K
                refine norm_ (a' := ?_) ?_ ?_
                rotate_left
                ·show Act.put _ (some 22) _ = _
                 simp only [Act.put,lz1,lz2,lz3,i64_w,i32_w]
                 rfl
                refine pure_ (i:=15) (N := some 23) (v:=?_) (a':=?_) #[true,true,true,true,true,true,true,true,true,true,true,true,true,true,true,true,true,true,false,true,true,false,false,true,true,false,false,false] rfl rfl (any_of HT_.out (by kernel_rfl)) (fun _ _ _ h=>h) (Or.inl ⟨by rfl, ?_⟩) ?_ ?_
                rotate_left
                ·intro w'
                 go_simp
                 first | with_reducible rfl | (refine Eq.trans (b := .ok (.value (.bool true)) w') ?_ (by with_reducible rfl); (repeat' (first | with_reducible rfl | split)); all_goals (first | rfl | (exfalso; simp_all; done))) | (refine Eq.trans (b := .ok (.value (.bool false)) w') ?_ (by with_reducible rfl); (repeat' (first | with_reducible rfl | split)); all_goals (first | rfl | (exfalso; simp_all; done)))
                rotate_left
                ·simp only [Act.put,lz1,lz2,lz3,i64_w,i32_w]
                 rfl
                refine pure_ (i:=18) (N := some 26) (v:=?_) (a':=?_) #[true,true,true,true,true,true,true,true,true,true,true,true,true,true,true,true,true,true,true,true,true,false,false,true,true,false,false,false] rfl rfl (any_of HT_.out (by kernel_rfl)) (fun _ _ _ h=>h) (Or.inl ⟨by rfl, ?_⟩) ?_ ?_
                rotate_left
                ·intro w'
                 go_simp
                 first | with_reducible rfl | (refine Eq.trans (b := .ok (.value (.bool true)) w') ?_ (by with_reducible rfl); (repeat' (first | with_reducible rfl | split)); all_goals (first | rfl | (exfalso; simp_all; done))) | (refine Eq.trans (b := .ok (.value (.bool false)) w') ?_ (by with_reducible rfl); (repeat' (first | with_reducible rfl | split)); all_goals (first | rfl | (exfalso; simp_all; done)))
                rotate_left
                ·simp only [Act.put,lz1,lz2,lz3,i64_w,i32_w]
                 rfl
                exact norm_ (by first | (simp only [putAll, Act.put, List.setIfInBounds_toArray, List.set_cons_zero, List.set_cons_succ]; done) | (simp only [putAll, Act.put, List.setIfInBounds_toArray, List.set_cons_zero, List.set_cons_succ]; rfl)) (hJ2_13_14_17 (v158) _ ⟨hHeld, (by (with_reducible repeat (first | apply Kd.R_alloc | apply Kd.R_drewN | apply Kd.R_drew)); exact HO159.out), (by (with_reducible repeat (first | refine blk_drewN ?_ _ | refine blk_drew ?_ | refine blk_alloc ?_ _)); exact BK155.out), (by repeat (first | (with_reducible first | exact HB.out | apply below_alloc | apply pw_below_drewN | apply below_drew1 | refine below_set ?_ GE155.out) | exact HB.out))⟩)
               ·skip
                refine goes_ Try.func17 (by kernel_rfl) rfl #[.int .u64 a0_5, .int .i64 8] (by rfl) rfl rfl (by (try simp only [List.map_toArray, List.map_cons, List.map_nil]); first | done | rfl | (simp only [List.length_drop, List.length_take]; rfl)) ?_
                with_reducible refine (turnbuckleref01_Put.calls kj2 a0_5 8 t161 _ A11.out).mono ?_
                rintro e w21 ⟨rfl, hb⟩
                refine ⟨_, rfl, ?_⟩
                have n0_ := Aside0.mk (Kd.R_below (by (with_reducible repeat (first | apply Kd.R_alloc | apply Kd.R_drewN | apply Kd.R_drew)); exact HO159.out) hb)
                have n1_ := Aside0.mk (blk_below (g := gb155) (o := .cells #[.string a0_0, .int .i64 a0_1, .int .i64 a0_2, .int .i64 a0_3, .bool a0_4, .int .u64 a0_5, .int .u64 a0_6] 31 (0, 0)) (by (with_reducible repeat (first | refine blk_drewN ?_ _ | refine blk_drew ?_ | refine blk_alloc ?_ _)); exact BK155.out) hb)
                have n2_ := Aside0.mk (below_step (by repeat (first | (with_reducible first | exact HB.out | apply below_alloc | apply pw_below_drewN | apply below_drew1 | refine below_set ?_ GE155.out) | exact HB.out)) hb)
                clear HO159
                clear BK155
                clear HB
                have HO159 := n0_
                have BK155 := n1_
                have HB := n2_
                clear n0_ n1_ n2_
                (try clear hb)
                (try clear hb2)
                (try clear hk)
                (try clear hi)
                refine hK.out _ _ ⟨(blk_cell BK155.out 0).trans rfl, (blk_cell BK155.out 1).trans rfl, (blk_cell BK155.out 2).trans rfl, (blk_cell BK155.out 3).trans rfl, (blk_cell BK155.out 4).trans rfl, (blk_cell BK155.out 5).trans rfl, (blk_cell BK155.out 6).trans rfl⟩ (fun hHeld => ?_)
                clear hK K
                refine norm_ (a' := ?_) ?_ ?_
                rotate_left
                ·show Act.put _ (some 29) _ = _
                 simp only [Act.put,lz1,lz2,lz3,i64_w,i32_w]
                 rfl
                exact norm_ (by first | (simp only [putAll, Act.put, List.setIfInBounds_toArray, List.set_cons_zero, List.set_cons_succ]; done) | (simp only [putAll, Act.put, List.setIfInBounds_toArray, List.set_cons_zero, List.set_cons_succ]; rfl)) (hJ2_13_17_21 (v158) _ ⟨hHeld, (by (with_reducible repeat (first | apply Kd.R_alloc | apply Kd.R_drewN | apply Kd.R_drew)); exact HO159.out), (by (with_reducible repeat (first | refine blk_drewN ?_ _ | refine blk_drew ?_ | refine blk_alloc ?_ _)); exact BK155.out), (by repeat (first | (with_reducible first | exact HB.out | apply below_alloc | apply pw_below_drewN | apply below_drew1 | refine below_set ?_ GE155.out) | exact HB.out))⟩)
             ·skip
              rintro v158 w20 ⟨hS_, h0_, h1_, h2_⟩
              have n0_ : Aside0 (Kd.R (Kd.int .u8) 5 w20 w.heap.size (fun _ => True) v158 y157) := ⟨h0_⟩
              have n1_ : Aside0 (w20.heap[gb155]? = some (.cells #[.string a0_0, .int .i64 a0_1, .int .i64 a0_2, .int .i64 a0_3, .bool a0_4, .int .u64 a0_5, .int .u64 a0_6] 31 (0, 0))) := ⟨h1_⟩
              have n2_ : Aside0 (Below w.heap.size w w20) := ⟨h2_⟩
              clear BK155
              clear HB
              clear h0_ h1_ h2_
              have HO159 := n0_
              have BK155 := n1_
              have HB := n2_
              clear n0_ n1_ n2_
              have hHeld : w20.cell? ⟨gb155, 0, none⟩ = some (.string a0_0) ∧ w20.cell? ⟨gb155, 1, none⟩ = some (.int .i64 a0_1) ∧ w20.cell? ⟨gb155, 2, none⟩ = some (.int .i64 a0_2) ∧ w20.cell? ⟨gb155, 3, none⟩ = some (.int .i64 a0_3) ∧ w20.cell? ⟨gb155, 4, none⟩ = some (.bool a0_4) ∧ w20.cell? ⟨gb155, 5, none⟩ = some (.int .u64 a0_5) ∧ w20.cell? ⟨gb155, 6, none⟩ = some (.int .u64 a0_6) := hS_
              refine norm_ (a' := ?_) ?_ ?_
              rotate_left
              ·simp only [putAll, Act.put, List.setIfInBounds_toArray, List.set_cons_zero, List.set_cons_succ]
               rfl
              refine one_ (i := 17) (N := some 25) #[true,true,true,true,true,true,true,true,true,true,true,true,true,true,true,true,true,true,false,true,true,false,false,true,true,false,false,false] rfl rfl (one_of HT_.out (by kernel_rfl)) (by decide) (fun K hK => ?_)
              refine goes_ Try.func17 (by kernel_rfl) rfl #[.int .u64 x5_2, .int .i64 2] (by rfl) rfl rfl (by (try simp only [List.map_toArray, List.map_cons, List.map_nil]); first | done | rfl | (simp only [List.length_drop, List.length_take]; rfl)) ?_
              with_reducible refine (turnbuckleref01_Put.calls kj2 x5_2 2 t160 _ A9.out).mono ?_
              rintro e w21 ⟨rfl, hb⟩
              refine ⟨_, rfl, ?_⟩
              have n0_ := Aside0.mk (Kd.R_below (by (with_reducible repeat (first | apply Kd.R_alloc | apply Kd.R_drewN | apply Kd.R_drew)); exact HO159.out) hb)
              have n1_ := Aside0.mk (blk_below (g := gb155) (o := .cells #[.string a0_0, .int .i64 a0_1, .int .i64 a0_2, .int .i64 a0_3, .bool a0_4, .int .u64 a0_5, .int .u64 a0_6] 31 (0, 0)) (by (with_reducible repeat (first | refine blk_drewN ?_ _ | refine blk_drew ?_ | refine blk_alloc ?_ _)); exact BK155.out) hb)
              have n2_ := Aside0.mk (below_step (by repeat (first | (with_reducible first | exact HB.out | apply below_alloc | apply pw_below_drewN | apply below_drew1 | refine below_set ?_ GE155.out) | exact HB.out)) hb)
              clear HO159
              clear BK155
              clear HB
              have HO159 := n0_
              have BK155 := n1_
              have HB := n2_
              clear n0_ n1_ n2_
              (try clear hb)
              (try clear hb2)
              (try clear hk)
              (try clear hi)
              refine hK.out _ _ ⟨(blk_cell BK155.out 0).trans rfl, (blk_cell BK155.out 1).trans rfl, (blk_cell BK155.out 2).trans rfl, (blk_cell BK155.out 3).trans rfl, (blk_cell BK155.out 4).trans rfl, (blk_cell BK155.out 5).trans rfl, (blk_cell BK155.out 6).trans rfl⟩ (fun hHeld => ?_)
              clear hK K
              refine norm_ (a' := ?_) ?_ ?_
              rotate_left
              ·show Act.put _ (some 25) _ = _
               simp only [Act.put,lz1,lz2,lz3,i64_w,i32_w]
               rfl
              refine pure_ (i:=18) (N := some 26) (v:=?_) (a':=?_) #[true,true,true,true,true,true,true,true,true,true,true,true,true,true,true,true,true,true,true,true,true,false,false,true,true,false,false,false] rfl rfl (any_of HT_.out (by kernel_rfl)) (fun _ _ _ h=>h) (Or.inl ⟨by rfl, ?_⟩) ?_ ?_
              rotate_left
              ·intro w'
               go_simp
               first | with_reducible rfl | (refine Eq.trans (b := .ok (.value (.bool true)) w') ?_ (by with_reducible rfl); (repeat' (first | with_reducible rfl | split)); all_goals (first | rfl | (exfalso; simp_all; done))) | (refine Eq.trans (b := .ok (.value (.bool false)) w') ?_ (by with_reducible rfl); (repeat' (first | with_reducible rfl | split)); all_goals (first | rfl | (exfalso; simp_all; done)))
              rotate_left
              ·simp only [Act.put,lz1,lz2,lz3,i64_w,i32_w]
               rfl
              exact norm_ (by first | (simp only [putAll, Act.put, List.setIfInBounds_toArray, List.set_cons_zero, List.set_cons_succ]; done) | (simp only [putAll, Act.put, List.setIfInBounds_toArray, List.set_cons_zero, List.set_cons_succ]; rfl)) (hJ2_13_14_17 (v158) _ ⟨hHeld, (by (with_reducible repeat (first | apply Kd.R_alloc | apply Kd.R_drewN | apply Kd.R_drew)); exact HO159.out), (by (with_reducible repeat (first | refine blk_drewN ?_ _ | refine blk_drew ?_ | refine blk_alloc ?_ _)); exact BK155.out), (by repeat (first | (with_reducible first | exact HB.out | apply below_alloc | apply pw_below_drewN | apply below_drew1 | refine below_set ?_ GE155.out) | exact HB.out))⟩)
            ·skip
             rintro _ w20 ⟨hS_, h0_, h1_⟩
             have n0_ : Aside0 (w20.heap[gb155]? = some (.cells #[.string a0_0, .int .i64 a0_1, .int .i64 a0_2, .int .i64 a0_3, .bool a0_4, .int .u64 a0_5, .int .u64 a0_6] 31 (0, 0))) := ⟨h0_⟩
             have n1_ : Aside0 (Below w.heap.size w w20) := ⟨h1_⟩
             clear BK155
             clear HB
             clear h0_ h1_
             have BK155 := n0_
             have HB := n1_
             clear n0_ n1_
             have hHeld : w20.cell? ⟨gb155, 0, none⟩ = some (.string a0_0) ∧ w20.cell? ⟨gb155, 1, none⟩ = some (.int .i64 a0_1) ∧ w20.cell? ⟨gb155, 2, none⟩ = some (.int .i64 a0_2) ∧ w20.cell? ⟨gb155, 3, none⟩ = some (.int .i64 a0_3) ∧ w20.cell? ⟨gb155, 4, none⟩ = some (.bool a0_4) ∧ w20.cell? ⟨gb155, 5, none⟩ = some (.int .u64 a0_5) ∧ w20.cell? ⟨gb155, 6, none⟩ = some (.int .u64 a0_6) := hS_
             refine norm_ (a' := ?_) ?_ ?_
             rotate_left
             ·simp only [putAll, Act.put, List.setIfInBounds_toArray, List.set_cons_zero, List.set_cons_succ]
              rfl
             refine one_ (i := 13) (N := some 21) #[true,true,true,true,true,true,true,true,true,true,true,true,true,true,false,false,true,true,false,true,true,true,false,true,true,true,false,false] rfl rfl (one_of HT_.out (by kernel_rfl)) (by decide) (fun K hK => ?_)
             refine Kd.R_lit_step (Kd.int .u8) _ 5 ?hg (N := 21) ?hd (xs := ([(wrap64 ((wrap64 (16 * a0_1)) + a0_2)) % 256, (a0_3) % 256] : List Int)) (inner := [.int .u8 ((wrap64 ((wrap64 (16 * a0_1)) + a0_2)) % 256), .int .u8 ((a0_3) % 256)]) (ok := fun _ => True) (okp := fun _ => True) ?hr ?hp (fun _ hk => hk) trivial (Below.refl _ _) (Nat.le_refl _) (by simp) ?_; (case hd => rfl); (case hg => rfl); (case hr => first | (go_simp; done) | (go_simp; rfl)); (case hp => exact (Reps.one (show Kd.M (Kd.int .u8) _ _ _ ((wrap64 ((wrap64 (16 * a0_1)) + a0_2)) % 256) [.int .u8 ((wrap64 ((wrap64 (16 * a0_1)) + a0_2)) % 256)] from rfl) (Reps.one (show Kd.M (Kd.int .u8) _ _ _ ((a0_3) % 256) [.int .u8 ((a0_3) % 256)] from rfl) (Reps.none _ _))))
             intro v158 w21 ho22 hb hg_ hnew_
             clear hg_ hnew_
             (first | rw [← Ny157.out] at ho22 | (simp only [Int.reduceToNat] at ho22; rw [← Ny157.out] at ho22))
             have n0_ := Aside0.mk (Kd.R_lower ho22 (below_size (by repeat (first | (with_reducible first | exact HB.out | apply below_alloc | apply pw_below_drewN | apply below_drew1 | refine below_set ?_ GE155.out) | exact HB.out))))
             have n1_ := Aside0.mk (blk_below (g := gb155) (o := .cells #[.string a0_0, .int .i64 a0_1, .int .i64 a0_2, .int .i64 a0_3, .bool a0_4, .int .u64 a0_5, .int .u64 a0_6] 31 (0, 0)) (by (with_reducible repeat (first | refine blk_drewN ?_ _ | refine blk_drew ?_ | refine blk_alloc ?_ _)); exact BK155.out) hb)
             have n2_ := Aside0.mk (below_step (by repeat (first | (with_reducible first | exact HB.out | apply below_alloc | apply pw_below_drewN | apply below_drew1 | refine below_set ?_ GE155.out) | exact HB.out)) hb)
             clear BK155
             clear HB
             have HO159 := n0_
             have BK155 := n1_
             have HB := n2_
             clear n0_ n1_ n2_
             clear hb ho22
             refine hK.out _ _ ⟨(blk_cell BK155.out 0).trans rfl, (blk_cell BK155.out 1).trans rfl, (blk_cell BK155.out 2).trans rfl, (blk_cell BK155.out 3).trans rfl, (blk_cell BK155.out 4).trans rfl, (blk_cell BK155.out 5).trans rfl, (blk_cell BK155.out 6).trans rfl⟩ (fun hHeld => ?_)
             clear hK K
             refine norm_ (a' := ?_) ?_ ?_
             rotate_left
             ·show Act.put _ (some 21) _ = _
              simp only [Act.put,lz1,lz2,lz3,i64_w,i32_w]
              rfl
             exact norm_ (by first | (simp only [putAll, Act.put, List.setIfInBounds_toArray, List.set_cons_zero, List.set_cons_succ]; done) | (simp only [putAll, Act.put, List.setIfInBounds_toArray, List.set_cons_zero, List.set_cons_succ]; rfl)) (hJ2_13_17_21_25 (v158) _ ⟨hHeld, (by (with_reducible repeat (first | apply Kd.R_alloc | apply Kd.R_drewN | apply Kd.R_drew)); exact HO159.out), (by (with_reducible repeat (first | refine blk_drewN ?_ _ | refine blk_drew ?_ | refine blk_alloc ?_ _)); exact BK155.out), (by repeat (first | (with_reducible first | exact HB.out | apply below_alloc | apply pw_below_drewN | apply below_drew1 | refine below_set ?_ GE155.out) | exact HB.out))⟩)
           ·skip
            rintro v158 w21 ⟨hS_, h0_, h1_, h2_⟩
            have n0_ : Aside0 (Kd.R (Kd.int .u8) 5 w21 w.heap.size (fun _ => True) v158 y157) := ⟨h0_⟩
            have n1_ : Aside0 (w21.heap[gb155]? = some (.cells #[.string a0_0, .int .i64 a0_1, .int .i64 a0_2, .int .i64 a0_3, .bool a0_4, .int .u64 a0_5, .int .u64 a0_6] 31 (0, 0))) := ⟨h1_⟩
            have n2_ : Aside0 (Below w.heap.size w w21) := ⟨h2_⟩
            clear BK155
            clear HB
            clear h0_ h1_ h2_
            have HO159 := n0_
            have BK155 := n1_
            have HB := n2_
            clear n0_ n1_ n2_
            have hHeld : w21.cell? ⟨gb155, 0, none⟩ = some (.string a0_0) ∧ w21.cell? ⟨gb155, 1, none⟩ = some (.int .i64 a0_1) ∧ w21.cell? ⟨gb155, 2, none⟩ = some (.int .i64 a0_2) ∧ w21.cell? ⟨gb155, 3, none⟩ = some (.int .i64 a0_3) ∧ w21.cell? ⟨gb155, 4, none⟩ = some (.bool a0_4) ∧ w21.cell? ⟨gb155, 5, none⟩ = some (.int .u64 a0_5) ∧ w21.cell? ⟨gb155, 6, none⟩ = some (.int .u64 a0_6) := hS_
            refine norm_ (a' := ?_) ?_ ?_
            rotate_left
            ·simp only [putAll, Act.put, List.setIfInBounds_toArray, List.set_cons_zero, List.set_cons_succ]
             rfl
            refine two_ (i := 14) (j := 25) (Ni := some 22) (Nj := some 33) #[true,true,true,true,true,true,true,true,true,true,true,true,true,true,true,false,true,true,false,true,true,true,false,true,true,false,false,false] #[true,true,true,true,true,true,true,true,true,true,true,true,true,true,false,false,true,true,false,true,true,true,false,true,true,true,false,false] rfl rfl rfl rfl (two_of HT_.out (by kernel_rfl)) (by decide) (by decide) (fun K hK => ?_) (fun K hK => ?_)
            ·skip
             have hcv22 := own_string (P := Try.prog) Try.underlying47 Try.underlying5 Try.underlying9 (Kd.own_of_R HO159.out)
             refine value_ (w1 := ?_) (v := ?_) (by rfl) rfl ?_ ?_
             rotate_left 2
             ·go_simp
              constructor
              ·rfl
              ·rfl
             clear hcv22
             refine hK.out _ _ ⟨(blk_cell BK155.out 0).trans rfl, (blk_cell BK155.out 1).trans rfl, (blk_cell BK155.out 2).trans rfl, (blk_cell BK155.out 3).trans rfl, (blk_cell BK155.out 4).trans rfl, (blk_cell BK155.out 5).trans rfl, (blk_cell BK155.out 6).trans rfl⟩ (fun hHeld => ?_)
             clear hK K
             refine norm_ (a' := ?_) ?_ ?_
             rotate_left
             ·show Act.put _ (some 22) _ = _
              simp only [Act.put,lz1,lz2,lz3,i64_w,i32_w]
              rfl
             refine pure_ (i:=15) (N := some 23) (v:=?_) (a':=?_) #[true,true,true,true,true,true,true,true,true,true,true,true,true,true,true,true,true,true,false,true,true,true,false,true,true,false,false,false] rfl rfl (any_of HT_.out (by kernel_rfl)) (fun _ _ _ h=>h) (Or.inl ⟨by rfl, ?_⟩) ?_ ?_
             rotate_left
             ·intro w'
              go_simp
              first | with_reducible rfl | (refine Eq.trans (b := .ok (.value (.bool true)) w') ?_ (by with_reducible rfl); (repeat' (first | with_reducible rfl | split)); all_goals (first | rfl | (exfalso; simp_all; done))) | (refine Eq.trans (b := .ok (.value (.bool false)) w') ?_ (by with_reducible rfl); (repeat' (first | with_reducible rfl | split)); all_goals (first | rfl | (exfalso; simp_all; done)))
             rotate_left
             ·simp only [Act.put,lz1,lz2,lz3,i64_w,i32_w]
              rfl
             refine pure_ (i:=18) (N := some 26) (v:=?_) (a':=?_) #[true,true,true,true,true,true,true,true,true,true,true,true,true,true,true,true,true,true,true,true,true,true,false,true,true,false,false,false] rfl rfl (any_of HT_.out (by kernel_rfl)) (fun _ _ _ h=>h) (Or.inl ⟨by rfl, ?_⟩) ?_ ?_
             rotate_left
             ·intro w'
              go_simp
              first | with_reducible rfl | (refine Eq.trans (b := .ok (.value (.bool true)) w') ?_ (by with_reducible rfl); (repeat' (first | with_reducible rfl | split)); all_goals (first | rfl | (exfalso; simp_all; done))) | (refine Eq.trans (b := .ok (.value (.bool false)) w') ?_ (by with_reducible rfl); (repeat' (first | with_reducible rfl | split)); all_goals (first | rfl | (exfalso; simp_all; done)))
             rotate_left
             ·simp only [Act.put,lz1,lz2,lz3,i64_w,i32_w]
              rfl
             refine pure_ (i:=22) (N := some 30) (v:=?_) (a':=?_) #[true,true,true,true,true,true,true,true,true,true,true,true,true,true,true,true,true,true,true,true,true,true,true,true,true,false,false,false] rfl rfl (any_of HT_.out (by kernel_rfl)) (fun _ _ _ h=>h) (Or.inl ⟨by rfl, ?_⟩) ?_ ?_
             rotate_left
             ·intro w'
              go_simp
              first | with_reducible rfl | (refine Eq.trans (b := .ok (.value (.bool true)) w') ?_ (by with_reducible rfl); (repeat' (first | with_reducible rfl | split)); all_goals (first | rfl | (exfalso; simp_all; done))) | (refine Eq.trans (b := .ok (.value (.bool false)) w') ?_ (by with_reducible rfl); (repeat' (first | with_reducible rfl | split)); all_goals (first | rfl | (exfalso; simp_all; done)))
             rotate_left
             ·simp only [Act.put,lz1,lz2,lz3,i64_w,i32_w]
              rfl
             exact norm_ (by first | (simp only [putAll, Act.put, List.setIfInBounds_toArray, List.set_cons_zero, List.set_cons_succ]; done) | (simp only [putAll, Act.put, List.setIfInBounds_toArray, List.set_cons_zero, List.set_cons_succ]; rfl)) (hJ2_13_14_17_21 (v158) _ ⟨hHeld, (by (with_reducible repeat (first | apply Kd.R_alloc | apply Kd.R_drewN | apply Kd.R_drew)); exact HO159.out), (by (with_reducible repeat (first | refine blk_drewN ?_ _ | refine blk_drew ?_ | refine blk_alloc ?_ _)); exact BK155.out), (by repeat (first | (with_reducible first | exact HB.out | apply below_alloc | apply pw_below_drewN | apply below_drew1 | refine below_set ?_ GE155.out) | exact HB.out))⟩)
            ·skip
             refine goes_ Try.func17 (by kernel_rfl) rfl #[.int .u64 a0_6, .int .i64 8] (by rfl) rfl rfl (by (try simp only [List.map_toArray, List.map_cons, List.map_nil]); first | done | rfl | (simp only [List.length_drop, List.length_take]; rfl)) ?_
             with_reducible refine (turnbuckleref01_Put.calls kj2 a0_6 8 t162 _ A13.out).mono ?_
             rintro e w22 ⟨rfl, hb⟩
             refine ⟨_, rfl, ?_⟩
             have n0_ := Aside0.mk (Kd.R_below (by (with_reducible repeat (first | apply Kd.R_alloc | apply Kd.R_drewN | apply Kd.R_drew)); exact HO159.out) hb)
             have n1_ := Aside0.mk (blk_below (g := gb155) (o := .cells #[.string a0_0, .int .i64 a0_1, .int .i64 a0_2, .int .i64 a0_3, .bool a0_4, .int .u64 a0_5, .int .u64 a0_6] 31 (0, 0)) (by (with_reducible repeat (first | refine blk_drewN ?_ _ | refine blk_drew ?_ | refine blk_alloc ?_ _)); exact BK155.out) hb)
             have n2_ := Aside0.mk (below_step (by repeat (first | (with_reducible first | exact HB.out | apply below_alloc | apply pw_below_drewN | apply below_drew1 | refine below_set ?_ GE155.out) | exact HB.out)) hb)
             clear HO159
             clear BK155
             clear HB
             have HO159 := n0_
             have BK155 := n1_
             have HB := n2_
             clear n0_ n1_ n2_
             (try clear hb)
             (try clear hb2)
             (try clear hk)
             (try clear hi)
             refine hK.out _ _ ⟨(blk_cell BK155.out 0).trans rfl, (blk_cell BK155.out 1).trans rfl, (blk_cell BK155.out 2).trans rfl, (blk_cell BK155.out 3).trans rfl, (blk_cell BK155.out 4).trans rfl, (blk_cell BK155.out 5).trans rfl, (blk_cell BK155.out 6).trans rfl⟩ (fun hHeld => ?_)
             clear hK K
             refine norm_ (a' := ?_) ?_ ?_
             rotate_left
             ·show Act.put _ (some 33) _ = _
              simp only [Act.put,lz1,lz2,lz3,i64_w,i32_w]
              rfl
             exact norm_ (by first | (simp only [putAll, Act.put, List.setIfInBounds_toArray, List.set_cons_zero, List.set_cons_succ]; done) | (simp only [putAll, Act.put, List.setIfInBounds_toArray, List.set_cons_zero, List.set_cons_succ]; rfl)) (hJ2_13_17_21_25 (v158) _ ⟨hHeld, (by (with_reducible repeat (first | apply Kd.R_alloc | apply Kd.R_drewN | apply Kd.R_drew)); exact HO159.out), (by (with_reducible repeat (first | refine blk_drewN ?_ _ | refine blk_drew ?_ | refine blk_alloc ?_ _)); exact BK155.out), (by repeat (first | (with_reducible first | exact HB.out | apply below_alloc | apply pw_below_drewN | apply below_drew1 | refine below_set ?_ GE155.out) | exact HB.out))⟩)
          ·skip
           rintro v158 w21 ⟨hS_, h0_, h1_, h2_⟩
           have n0_ : Aside0 (Kd.R (Kd.int .u8) 5 w21 w.heap.size (fun _ => True) v158 y157) := ⟨h0_⟩
           have n1_ : Aside0 (w21.heap[gb155]? = some (.cells #[.string a0_0, .int .i64 a0_1, .int .i64 a0_2, .int .i64 a0_3, .bool a0_4, .int .u64 a0_5, .int .u64 a0_6] 31 (0, 0))) := ⟨h1_⟩
           have n2_ : Aside0 (Below w.heap.size w w21) := ⟨h2_⟩
           clear BK155
           clear HB
           clear h0_ h1_ h2_
           have HO159 := n0_
           have BK155 := n1_
           have HB := n2_
           clear n0_ n1_ n2_
           have hHeld : w21.cell? ⟨gb155, 0, none⟩ = some (.string a0_0) ∧ w21.cell? ⟨gb155, 1, none⟩ = some (.int .i64 a0_1) ∧ w21.cell? ⟨gb155, 2, none⟩ = some (.int .i64 a0_2) ∧ w21.cell? ⟨gb155, 3, none⟩ = some (.int .i64 a0_3) ∧ w21.cell? ⟨gb155, 4, none⟩ = some (.bool a0_4) ∧ w21.cell? ⟨gb155, 5, none⟩ = some (.int .u64 a0_5) ∧ w21.cell? ⟨gb155, 6, none⟩ = some (.int .u64 a0_6) := hS_
           refine norm_ (a' := ?_) ?_ ?_
           rotate_left
           ·simp only [putAll, Act.put, List.setIfInBounds_toArray, List.set_cons_zero, List.set_cons_succ]
            rfl
           refine one_ (i := 21) (N := some 29) #[true,true,true,true,true,true,true,true,true,true,true,true,true,true,true,true,true,true,true,true,true,true,false,true,true,false,false,false] rfl rfl (one_of HT_.out (by kernel_rfl)) (by decide) (fun K hK => ?_)
           refine goes_ Try.func17 (by kernel_rfl) rfl #[.int .u64 a0_5, .int .i64 8] (by rfl) rfl rfl (by (try simp only [List.map_toArray, List.map_cons, List.map_nil]); first | done | rfl | (simp only [List.length_drop, List.length_take]; rfl)) ?_
           with_reducible refine (turnbuckleref01_Put.calls kj2 a0_5 8 t161 _ A11.out).mono ?_
           rintro e w22 ⟨rfl, hb⟩
           refine ⟨_, rfl, ?_⟩
           have n0_ := Aside0.mk (Kd.R_below (by (with_reducible repeat (first | apply Kd.R_alloc | apply Kd.R_drewN | apply Kd.R_drew)); exact HO159.out) hb)
           have n1_ := Aside0.mk (blk_below (g := gb155) (o := .cells #[.string a0_0, .int .i64 a0_1, .int .i64 a0_2, .int .i64 a0_3, .bool a0_4, .int .u64 a0_5, .int .u64 a0_6] 31 (0, 0)) (by (with_reducible repeat (first | refine blk_drewN ?_ _ | refine blk_drew ?_ | refine blk_alloc ?_ _)); exact BK155.out) hb)
           have n2_ := Aside0.mk (below_step (by repeat (first | (with_reducible first | exact HB.out | apply below_alloc | apply pw_below_drewN | apply below_drew1 | refine below_set ?_ GE155.out) | exact HB.out)) hb)
           clear HO159
           clear BK155
           clear HB
           have HO159 := n0_
           have BK155 := n1_
           have HB := n2_
           clear n0_ n1_ n2_
           (try clear hb)
           (try clear hb2)
           (try clear hk)
           (try clear hi)
           refine hK.out _ _ ⟨(blk_cell BK155.out 0).trans rfl, (blk_cell BK155.out 1).trans rfl, (blk_cell BK155.out 2).trans rfl, (blk_cell BK155.out 3).trans rfl, (blk_cell BK155.out 4).trans rfl, (blk_cell BK155.out 5).trans rfl, (blk_cell BK155.out 6).trans rfl⟩ (fun hHeld => ?_)
           clear hK K
           refine norm_ (a' := ?_) ?_ ?_
           rotate_left
           ·show Act.put _ (some 29) _ = _
            simp only [Act.put,lz1,lz2,lz3,i64_w,i32_w]
            rfl
           refine pure_ (i:=22) (N := some 30) (v:=?_) (a':=?_) #[true,true,true,true,true,true,true,true,true,true,true,true,true,true,true,true,true,true,true,true,true,true,true,true,true,false,false,false] rfl rfl (any_of HT_.out (by kernel_rfl)) (fun _ _ _ h=>h) (Or.inl ⟨by rfl, ?_⟩) ?_ ?_
           rotate_left
           ·intro w'
            go_simp
            first | with_reducible rfl | (refine Eq.trans (b := .ok (.value (.bool true)) w') ?_ (by with_reducible rfl); (repeat' (first | with_reducible rfl | split)); all_goals (first | rfl | (exfalso; simp_all; done))) | (refine Eq.trans (b := .ok (.value (.bool false)) w') ?_ (by with_reducible rfl); (repeat' (first | with_reducible rfl | split)); all_goals (first | rfl | (exfalso; simp_all; done)))
           rotate_left
           ·simp only [Act.put,lz1,lz2,lz3,i64_w,i32_w]
            rfl
           exact norm_ (by first | (simp only [putAll, Act.put, List.setIfInBounds_toArray, List.set_cons_zero, List.set_cons_succ]; done) | (simp only [putAll, Act.put, List.setIfInBounds_toArray, List.set_cons_zero, List.set_cons_succ]; rfl)) (hJ2_13_14_17_21 (v158) _ ⟨hHeld, (by (with_reducible repeat (first | apply Kd.R_alloc | apply Kd.R_drewN | apply Kd.R_drew)); exact HO159.out), (by (with_reducible repeat (first | refine blk_drewN ?_ _ | refine blk_drew ?_ | refine blk_alloc ?_ _)); exact BK155.out), (by repeat (first | (with_reducible first | exact HB.out | apply below_alloc | apply pw_below_drewN | apply below_drew1 | refine below_set ?_ GE155.out) | exact HB.out))⟩)
         ·skip
          rintro v158 w22 ⟨hS_, h0_, h1_, h2_⟩
          have n0_ : Aside0 (Kd.R (Kd.int .u8) 5 w22 w.heap.size (fun _ => True) v158 y157) := ⟨h0_⟩
          have n1_ : Aside0 (w22.heap[gb155]? = some (.cells #[.string a0_0, .int .i64 a0_1, .int .i64 a0_2, .int .i64 a0_3, .bool a0_4, .int .u64 a0_5, .int .u64 a0_6] 31 (0, 0))) := ⟨h1_⟩
          have n2_ : Aside0 (Below w.heap.size w w22) := ⟨h2_⟩
          clear BK155
          clear HB
          clear h0_ h1_ h2_
          have HO159 := n0_
          have BK155 := n1_
          have HB := n2_
          clear n0_ n1_ n2_
          have hHeld : w22.cell? ⟨gb155, 0, none⟩ = some (.string a0_0) ∧ w22.cell? ⟨gb155, 1, none⟩ = some (.int .i64 a0_1) ∧ w22.cell? ⟨gb155, 2, none⟩ = some (.int .i64 a0_2) ∧ w22.cell? ⟨gb155, 3, none⟩ = some (.int .i64 a0_3) ∧ w22.cell? ⟨gb155, 4, none⟩ = some (.bool a0_4) ∧ w22.cell? ⟨gb155, 5, none⟩ = some (.int .u64 a0_5) ∧ w22.cell? ⟨gb155, 6, none⟩ = some (.int .u64 a0_6) := hS_
          refine norm_ (a' := ?_) ?_ ?_
          rotate_left
          ·simp only [putAll, Act.put, List.setIfInBounds_toArray, List.set_cons_zero, List.set_cons_succ]
           rfl
          refine one_ (i := 14) (N := some 22) #[true,true,true,true,true,true,true,true,true,true,true,true,true,true,true,false,true,true,false,true,true,true,false,true,true,true,false,false] rfl rfl (one_of HT_.out (by kernel_rfl)) (by decide) (fun K hK => ?_)
          have hcv23 := own_string (P := Try.prog) Try.underlying47 Try.underlying5 Try.underlying9 (Kd.own_of_R HO159.out)
          refine value_ (w1 := ?_) (v := ?_) (by rfl) rfl ?_ ?_
          rotate_left 2
          ·go_simp
           constructor
           ·rfl
           ·rfl
          clear hcv23
          refine hK.out _ _ ⟨(blk_cell BK155.out 0).trans rfl, (blk_cell BK155.out 1).trans rfl, (blk_cell BK155.out 2).trans rfl, (blk_cell BK155.out 3).trans rfl, (blk_cell BK155.out 4).trans rfl, (blk_cell BK155.out 5).trans rfl, (blk_cell BK155.out 6).trans rfl⟩ (fun hHeld => ?_)
          clear hK K
          refine norm_ (a' := ?_) ?_ ?_
          rotate_left
          ·show Act.put _ (some 22) _ = _
           simp only [Act.put,lz1,lz2,lz3,i64_w,i32_w]
           rfl
          refine pure_ (i:=15) (N := some 23) (v:=?_) (a':=?_) #[true,true,true,true,true,true,true,true,true,true,true,true,true,true,true,true,true,true,false,true,true,true,false,true,true,true,false,false] rfl rfl (any_of HT_.out (by kernel_rfl)) (fun _ _ _ h=>h) (Or.inl ⟨by rfl, ?_⟩) ?_ ?_
          rotate_left
          ·intro w'
           go_simp
           first | with_reducible rfl | (refine Eq.trans (b := .ok (.value (.bool true)) w') ?_ (by with_reducible rfl); (repeat' (first | with_reducible rfl | split)); all_goals (first | rfl | (exfalso; simp_all; done))) | (refine Eq.trans (b := .ok (.value (.bool false)) w') ?_ (by with_reducible rfl); (repeat' (first | with_reducible rfl | split)); all_goals (first | rfl | (exfalso; simp_all; done)))
          rotate_left
          ·simp only [Act.put,lz1,lz2,lz3,i64_w,i32_w]
           rfl
          refine pure_ (i:=18) (N := some 26) (v:=?_) (a':=?_) #[true,true,true,true,true,true,true,true,true,true,true,true,true,true,true,true,true,true,true,true,true,true,false,true,true,true,false,false] rfl rfl (any_of HT_.out (by kernel_rfl)) (fun _ _ _ h=>h) (Or.inl ⟨by rfl, ?_⟩) ?_ ?_
          rotate_left
          ·intro w'
           go_simp
           first | with_reducible rfl | (refine Eq.trans (b := .ok (.value (.bool true)) w') ?_ (by with_reducible rfl); (repeat' (first | with_reducible rfl | split)); all_goals (first | rfl | (exfalso; simp_all; done))) | (refine Eq.trans (b := .ok (.value (.bool false)) w') ?_ (by with_reducible rfl); (repeat' (first | with_reducible rfl | split)); all_goals (first | rfl | (exfalso; simp_all; done)))
          rotate_left
          ·simp only [Act.put,lz1,lz2,lz3,i64_w,i32_w]
           rfl
          refine pure_ (i:=22) (N := some 30) (v:=?_) (a':=?_) #[true,true,true,true,true,true,true,true,true,true,true,true,true,true,true,true,true,true,true,true,true,true,true,true,true,true,false,false] rfl rfl (any_of HT_.out (by kernel_rfl)) (fun _ _ _ h=>h) (Or.inl ⟨by rfl, ?_⟩) ?_ ?_
          rotate_left
          ·intro w'
           go_simp
           first | with_reducible rfl | (refine Eq.trans (b := .ok (.value (.bool true)) w') ?_ (by with_reducible rfl); (repeat' (first | with_reducible rfl | split)); all_goals (first | rfl | (exfalso; simp_all; done))) | (refine Eq.trans (b := .ok (.value (.bool false)) w') ?_ (by with_reducible rfl); (repeat' (first | with_reducible rfl | split)); all_goals (first | rfl | (exfalso; simp_all; done)))
          rotate_left
          ·simp only [Act.put,lz1,lz2,lz3,i64_w,i32_w]
           rfl
          exact norm_ (by first | (simp only [putAll, Act.put, List.setIfInBounds_toArray, List.set_cons_zero, List.set_cons_succ]; done) | (simp only [putAll, Act.put, List.setIfInBounds_toArray, List.set_cons_zero, List.set_cons_succ]; rfl)) (hJ2_13_14_17_21_25 (v158) _ ⟨hHeld, (by (with_reducible repeat (first | apply Kd.R_alloc | apply Kd.R_drewN | apply Kd.R_drew)); exact HO159.out), (by (with_reducible repeat (first | refine blk_drewN ?_ _ | refine blk_drew ?_ | refine blk_alloc ?_ _)); exact BK155.out), (by repeat (first | (with_reducible first | exact HB.out | apply below_alloc | apply pw_below_drewN | apply below_drew1 | refine below_set ?_ GE155.out) | exact HB.out))⟩)
        ·skip
         rintro v158 w22 ⟨hS_, h0_, h1_, h2_⟩
         have n0_ : Aside0 (Kd.R (Kd.int .u8) 5 w22 w.heap.size (fun _ => True) v158 y157) := ⟨h0_⟩
         have n1_ : Aside0 (w22.heap[gb155]? = some (.cells #[.string a0_0, .int .i64 a0_1, .int .i64 a0_2, .int .i64 a0_3, .bool a0_4, .int .u64 a0_5, .int .u64 a0_6] 31 (0, 0))) := ⟨h1_⟩
         have n2_ : Aside0 (Below w.heap.size w w22) := ⟨h2_⟩
         clear BK155
         clear HB
         clear h0_ h1_ h2_
         have HO159 := n0_
         have BK155 := n1_
         have HB := n2_
         clear n0_ n1_ n2_
         have hHeld : w22.cell? ⟨gb155, 0, none⟩ = some (.string a0_0) ∧ w22.cell? ⟨gb155, 1, none⟩ = some (.int .i64 a0_1) ∧ w22.cell? ⟨gb155, 2, none⟩ = some (.int .i64 a0_2) ∧ w22.cell? ⟨gb155, 3, none⟩ = some (.int .i64 a0_3) ∧ w22.cell? ⟨gb155, 4, none⟩ = some (.bool a0_4) ∧ w22.cell? ⟨gb155, 5, none⟩ = some (.int .u64 a0_5) ∧ w22.cell? ⟨gb155, 6, none⟩ = some (.int .u64 a0_6) := hS_
         refine norm_ (a' := ?_) ?_ ?_
         rotate_left
         ·simp only [putAll, Act.put, List.setIfInBounds_toArray, List.set_cons_zero, List.set_cons_succ]
          rfl
         refine one_ (i := 25) (N := some 33) #[true,true,true,true,true,true,true,true,true,true,true,true,true,true,true,true,true,true,true,true,true,true,true,true,true,true,false,false] rfl rfl (one_of HT_.out (by kernel_rfl)) (by decide) (fun K hK => ?_)
         refine goes_ Try.func17 (by kernel_rfl) rfl #[.int .u64 a0_6, .int .i64 8] (by rfl) rfl rfl (by (try simp only [List.map_toArray, List.map_cons, List.map_nil]); first | done | rfl | (simp only [List.length_drop, List.length_take]; rfl)) ?_
         with_reducible refine (turnbuckleref01_Put.calls kj2 a0_6 8 t162 _ A13.out).mono ?_
         rintro e w23 ⟨rfl, hb⟩
         refine ⟨_, rfl, ?_⟩
         have n0_ := Aside0.mk (Kd.R_below (by (with_reducible repeat (first | apply Kd.R_alloc | apply Kd.R_drewN | apply Kd.R_drew)); exact HO159.out) hb)
         have n1_ := Aside0.mk (blk_below (g := gb155) (o := .cells #[.string a0_0, .int .i64 a0_1, .int .i64 a0_2, .int .i64 a0_3, .bool a0_4, .int .u64 a0_5, .int .u64 a0_6] 31 (0, 0)) (by (with_reducible repeat (first | refine blk_drewN ?_ _ | refine blk_drew ?_ | refine blk_alloc ?_ _)); exact BK155.out) hb)
         have n2_ := Aside0.mk (below_step (by repeat (first | (with_reducible first | exact HB.out | apply below_alloc | apply pw_below_drewN | apply below_drew1 | refine below_set ?_ GE155.out) | exact HB.out)) hb)
         clear HO159
         clear BK155
         clear HB
         have HO159 := n0_
         have BK155 := n1_
         have HB := n2_
         clear n0_ n1_ n2_
         (try clear hb)
         (try clear hb2)
         (try clear hk)
         (try clear hi)
         refine hK.out _ _ ⟨(blk_cell BK155.out 0).trans rfl, (blk_cell BK155.out 1).trans rfl, (blk_cell BK155.out 2).trans rfl, (blk_cell BK155.out 3).trans rfl, (blk_cell BK155.out 4).trans rfl, (blk_cell BK155.out 5).trans rfl, (blk_cell BK155.out 6).trans rfl⟩ (fun hHeld => ?_)
         clear hK K
         refine norm_ (a' := ?_) ?_ ?_
         rotate_left
         ·show Act.put _ (some 33) _ = _
          simp only [Act.put,lz1,lz2,lz3,i64_w,i32_w]
          rfl
         exact norm_ (by first | (simp only [putAll, Act.put, List.setIfInBounds_toArray, List.set_cons_zero, List.set_cons_succ]; done) | (simp only [putAll, Act.put, List.setIfInBounds_toArray, List.set_cons_zero, List.set_cons_succ]; rfl)) (hJ2_13_14_17_21_25 (v158) _ ⟨hHeld, (by (with_reducible repeat (first | apply Kd.R_alloc | apply Kd.R_drewN | apply Kd.R_drew)); exact HO159.out), (by (with_reducible repeat (first | refine blk_drewN ?_ _ | refine blk_drew ?_ | refine blk_alloc ?_ _)); exact BK155.out), (by repeat (first | (with_reducible first | exact HB.out | apply below_alloc | apply pw_below_drewN | apply below_drew1 | refine below_set ?_ GE155.out) | exact HB.out))⟩)
       rintro v158 w23 ⟨hS_, h0_, h1_, h2_⟩
       have n0_ : Aside0 (Kd.R (Kd.int .u8) 5 w23 w.heap.size (fun _ => True) v158 y157) := ⟨h0_⟩
       have n1_ : Aside0 (w23.heap[gb155]? = some (.cells #[.string a0_0, .int .i64 a0_1, .int .i64 a0_2, .int .i64 a0_3, .bool a0_4, .int .u64 a0_5, .int .u64 a0_6] 31 (0, 0))) := ⟨h1_⟩
       have n2_ : Aside0 (Below w.heap.size w w23) := ⟨h2_⟩
       clear BK155
       clear HB
       clear h0_ h1_ h2_
       have HO159 := n0_
       have BK155 := n1_
       have HB := n2_
       clear n0_ n1_ n2_
       have hHeld : w23.cell? ⟨gb155, 0, none⟩ = some (.string a0_0) ∧ w23.cell? ⟨gb155, 1, none⟩ = some (.int .i64 a0_1) ∧ w23.cell? ⟨gb155, 2, none⟩ = some (.int .i64 a0_2) ∧ w23.cell? ⟨gb155, 3, none⟩ = some (.int .i64 a0_3) ∧ w23.cell? ⟨gb155, 4, none⟩ = some (.bool a0_4) ∧ w23.cell? ⟨gb155, 5, none⟩ = some (.int .u64 a0_5) ∧ w23.cell? ⟨gb155, 6, none⟩ = some (.int .u64 a0_6) := hS_
       refine norm_ (a' := ?_) ?_ ?_
       rotate_left
       ·simp only [putAll, Act.put, List.setIfInBounds_toArray, List.set_cons_zero, List.set_cons_succ]
        rfl
       refine pure_ (i:=26) (N := some 34) (v:=?_) (a':=?_) #[true,true,true,true,true,true,true,true,true,true,true,true,true,true,true,true,true,true,true,true,true,true,true,true,true,true,true,false] rfl rfl (any_of HT_.out (by kernel_rfl)) (fun _ _ _ h=>h) (Or.inl ⟨by rfl, ?_⟩) ?_ ?_
       rotate_left
       ·intro w'
        go_simp
        first | with_reducible rfl | (refine Eq.trans (b := .ok (.value (.bool true)) w') ?_ (by with_reducible rfl); (repeat' (first | with_reducible rfl | split)); all_goals (first | rfl | (exfalso; simp_all; done))) | (refine Eq.trans (b := .ok (.value (.bool false)) w') ?_ (by with_reducible rfl); (repeat' (first | with_reducible rfl | split)); all_goals (first | rfl | (exfalso; simp_all; done)))
       rotate_left
       ·simp only [Act.put,lz1,lz2,lz3,i64_w,i32_w]
        rfl
       refine pure_ (i:=27) (N := some 4) (v:=?_) (a':=?_) #[true,true,true,true,true,true,true,true,true,true,true,true,true,true,true,true,true,true,true,true,true,true,true,true,true,true,true,true] rfl rfl (any_of HT_.out (by kernel_rfl)) (fun _ _ _ h=>h) (Or.inl ⟨by rfl, ?_⟩) ?_ ?_
       rotate_left
       ·intro w'
        go_simp
        with_reducible rfl
       rotate_left
       ·simp only [Act.put,lz1,lz2,lz3,i64_w,i32_w]
        rfl
       refine done_ (done_of HT_.out (by kernel_rfl)) ?_
       try go_wp2
       go_ret
       exact ⟨by first | rfl | (simp [errW_none, errW_some] <;> rfl) | (simp [*, errW_none, errW_some] <;> rfl), by repeat (first | (with_reducible first | exact HB.out | apply below_alloc | apply pw_below_drewN | apply below_drew1 | refine below_set ?_ GE155.out) | exact HB.out)⟩
      ·rw [if_neg c14] at H
       exact absurd H (by simp)
     ·rw [if_neg c12] at H
      exact absurd H (by simp)
    ·rw [if_neg c10] at H
     exact absurd H (by simp)
   ·rw [if_neg c8] at H
    exact absurd H (by simp)

end Go.Proofs.Ytmekjomfdomogaa.PAll
