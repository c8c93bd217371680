-- Written by a program of this session (a changed copy of the print of the kit). Not trusted: Lean checks it.
import Derived.Test.YtoaliamemkjfhaaPAllx0
namespace Go.Proofs.Ytoaliamemkjfhaa.PAll
open Go.RowKit Go.Proofs.YtoaliamemkjfhaaW.PrintWords Go.Proofs.YtoaliamemkjfhaaW.PrintLast Go.Proofs.YtoaliamemkjfhaaW.PrintMore
attribute [local go_sem] max2_int min2_int max_two min_two max_three min_three max_four min_four   -- for this text's walks alone
set_option linter.unusedVariables false
set_option linter.unusedSimpArgs false

/-! ### turnbuckleref01_Put: function 27 -/
def turnbuckleref01_Put.l0 : Nat → Int → Int → ByteArray → Int → Option (ByteArray)
 | 0, _, _, _, _ => none
 | k + 1, x0, x1, x5, x6 => if x6 < x1 then (if x1 ≤ 8 then ((some (([(Int.tmod x0 256) % 256] : List Int) : List Int)).bind fun y126 => (if x5.size + (strOfNums y126).size ≤ 9223372036854775807 then (turnbuckleref01_Put.l0 k (IntKind.u64.wrap (Int.tdiv x0 256)) x1 (x5 ++ (strOfNums y126)) (wrap64 (x6 + 1))) else (none))) else (some x5)) else (some x5)
def turnbuckleref01_Put.f (k : Nat) (a0 : Int) (a1 : Int) : Option (ByteArray) := turnbuckleref01_Put.l0 k a0 a1 (⟨#[]⟩ : ByteArray) 0
theorem turnbuckleref01_Put.mono_l : ∀ k, (∀ y0 y1 y2 y3, LeO (turnbuckleref01_Put.l0 k y0 y1 y2 y3) (turnbuckleref01_Put.l0 (k + 1) y0 y1 y2 y3))
 | 0 => fun _ _ _ _ r h => by simp [turnbuckleref01_Put.l0] at h
 | k + 1 => by
  have ih0 := turnbuckleref01_Put.mono_l k
  ·intro y0 y1 y2 y3
   unfold turnbuckleref01_Put.l0
   repeat' first
   | (with_reducible exact ih0 _ _ _ _)
   | (with_reducible exact LeO.refl _)
   | (with_reducible exact LeO.none _)
   | (with_reducible refine LeO.ite ?_ ?_)
   | (with_reducible refine LeO.bind ?_ (fun _ => ?_))
   | exact ih0 _ _ _ _
   | exact LeO.none _
   | refine LeO.ite ?_ ?_
   | refine LeO.bind ?_ (fun _ => ?_)
theorem turnbuckleref01_Put.mono : ∀ a0 a1 k, LeO (turnbuckleref01_Put.f k a0 a1) (turnbuckleref01_Put.f (k + 1) a0 a1) := by
 intro a0 a1 k
 have ih0 := turnbuckleref01_Put.mono_l k
 unfold turnbuckleref01_Put.f
 repeat' first
   | (with_reducible exact ih0 _ _ _ _)
   | (with_reducible exact LeO.refl _)
   | (with_reducible exact LeO.none _)
   | (with_reducible refine LeO.ite ?_ ?_)
   | (with_reducible refine LeO.bind ?_ (fun _ => ?_))
   | exact ih0 _ _ _ _
   | exact LeO.none _
   | refine LeO.ite ?_ ?_
   | refine LeO.bind ?_ (fun _ => ?_)
set_option maxHeartbeats 8000000 in
set_option maxRecDepth 100000 in
theorem turnbuckleref01_Put.calls (k : Nat) (a0 : Int) (a1 : Int) (r : ByteArray) (w : World) (h : turnbuckleref01_Put.f k a0 a1 = some r) :
  Calls Try.prog 27 #[.int .u64 a0, .int .i64 a1] w fun e w' => e = .returned (.string r) ∧ Below w.heap.size w w' := by
 have HB := Aside0.mk (Below.refl w.heap.size w)
 have H : (turnbuckleref01_Put.l0 k a0 a1 (⟨#[]⟩ : ByteArray) 0) = some r := h
 clear h
 have H' := Aside0.mk H
 clear H
 go_enter Try.func27, Try.ntmps27
 go_wp2
 go_loopg [0, 5, 6] k (fun kq v0 v5 v6 w' => ∃ (x0_1 : Int) (x5_1 : ByteArray) (x6_1 : Int), v0 = .int .u64 x0_1 ∧ v5 = .string x5_1 ∧ v6 = .int .i64 x6_1 ∧ Aside0 (turnbuckleref01_Put.l0 kq x0_1 a1 x5_1 x6_1 = some r) ∧ Aside0 (kq ≤ k) ∧ Aside0 (Below w.heap.size w w'))
 case atStart => exact ⟨(a0), ((⟨#[]⟩ : ByteArray)), (0), (by first | rfl | (simp; done) | (simp [*]; done)), (by first | rfl | (simp; done) | (simp [*]; done)), (by first | rfl | (simp; done) | (simp [*]; done)), H', ⟨Nat.le_refl _⟩, ⟨by repeat (first | (with_reducible first | exact HB.out | apply below_alloc | apply pw_below_drewN | apply below_drew1) | exact HB.out)⟩⟩
 case round =>
  clear H'
  try clear c2
  try clear p2
  obtain ⟨x0_1, x5_1, x6_1, rfl, rfl, rfl, HA, HK1, HB⟩ := hrel
  cases gk with
  | zero => exact absurd HA.out (by simp [turnbuckleref01_Put.l0])
  | succ k1 =>
   have H := HA.out
   clear HA
   simp only [turnbuckleref01_Put.l0] at H
   by_cases c3 : x6_1 < a1
   ·rw [if_pos c3] at H
    have c3b0 : decide (x6_1 < a1) = true := decide_eq_true c3
    clear c3
    by_cases c4 : a1 ≤ 8
    ·rw [if_pos c4] at H
     have c4b0 : decide (a1 ≤ 8) = true := decide_eq_true c4
     clear c4
     obtain ⟨y126, hy126⟩ : ∃ y_ : List Int, y_ = (([(Int.tmod x0_1 256) % 256] : List Int)) := ⟨_, rfl⟩
     replace H : (if x5_1.size + (strOfNums y126).size ≤ 9223372036854775807 then (turnbuckleref01_Put.l0 k1 (IntKind.u64.wrap (Int.tdiv x0_1 256)) a1 (x5_1 ++ (strOfNums y126)) (wrap64 (x6_1 + 1))) else (none)) = some r := by first | (rw [hy126]; with_reducible exact H) | (have H2_ := (Option.bind_some _ _).symm.trans H; rw [hy126]; with_reducible exact H2_) | (have H2_ := (Option.bind_some _ _).symm.trans H; with_reducible exact H2_) | with_reducible exact H | (rw [hy126]; exact H) | exact H
     have Ny126 := Aside0.mk hy126
     clear hy126
     by_cases c5 : x5_1.size + (strOfNums y126).size ≤ 9223372036854775807
     ·rw [if_pos c5] at H
      have c5b0 := eq_true c5
      have c5b1 : decide (x5_1.size + (strOfNums y126).size ≤ 9223372036854775807) = true := decide_eq_true c5
      try have c5b2 : (9223372036854775807 < x5_1.size + (strOfNums y126).size) = False := eq_false (Nat.not_lt.2 c5)
      have H' := Aside0.mk H
      clear H
      go_wp2_with (first | ((with_reducible refine gate_dst (N := 20) rfl ?_); refine Kd.R_lit (Kd.int .u8) _ 5 ?hg (N := 20) ?hd (xs := ([(Int.tmod x0_1 256) % 256] : List Int)) (inner := [.int .u8 ((Int.tmod x0_1 256) % 256)]) (ok := fun _ => True) (okp := fun _ => True) ?hr ?hp (fun _ hk => hk) trivial (Below.refl _ _) (Nat.le_refl _) (by simp) ?_; (case hd => rfl); (case hg => rfl); (case hr => first | (go_simp; done) | (go_simp; rfl)); (case hp => exact (Reps.one (show Kd.M (Kd.int .u8) _ _ _ ((Int.tmod x0_1 256) % 256) [.int .u8 ((Int.tmod x0_1 256) % 256)] from rfl) (Reps.none _ _))); intro v127 w6 ho7 hb hg_ hnew_; clear hg_ hnew_; (first | rw [← Ny126.out] at ho7 | (simp only [Int.reduceToNat] at ho7; rw [← Ny126.out] at ho7)); have n0_ := Aside0.mk (Kd.R_lower ho7 (below_size (by repeat (first | (with_reducible first | exact HB.out | apply below_alloc | apply pw_below_drewN | apply below_drew1) | exact HB.out)))); have n1_ := Aside0.mk (below_step (by repeat (first | (with_reducible first | exact HB.out | apply below_alloc | apply pw_below_drewN | apply below_drew1) | exact HB.out)) hb); clear HB; have HO128 := n0_; have HB := n1_; clear n0_ n1_; clear hb ho7; have hcv8 := own_string (P := Try.prog) Try.underlying48 Try.underlying5 Try.underlying9 (Kd.own_of_R HO128.out)))
      go_roundg k1
      case measure => have := HK1.out; omega
      case rel => exact ⟨(IntKind.u64.wrap (Int.tdiv x0_1 256)), (x5_1 ++ (strOfNums y126)), (wrap64 (x6_1 + 1)), (by first | rfl | (simp; done) | (simp [*]; done)), (by first | rfl | (simp; done) | (simp [*]; done)), (by first | rfl | (simp; done) | (simp [*]; done)), H', ⟨by have := HK1.out; omega⟩, ⟨by repeat (first | (with_reducible first | exact HB.out | apply below_alloc | apply pw_below_drewN | apply below_drew1) | exact HB.out)⟩⟩
     ·rw [if_neg c5] at H
      exact absurd H (by simp)
    ·rw [if_neg c4] at H
     have c4b0 : decide (a1 ≤ 8) = false := decide_eq_false c4
     clear c4
     obtain rfl := Option.some.inj H
     go_wp2
     go_ret
     exact ⟨by first | rfl | (simp [errW_none, errW_some] <;> rfl) | (simp [*, errW_none, errW_some] <;> rfl), by repeat (first | (with_reducible first | exact HB.out | apply below_alloc | apply pw_below_drewN | apply below_drew1) | exact HB.out)⟩
   ·rw [if_neg c3] at H
    have c3b0 : decide (x6_1 < a1) = false := decide_eq_false c3
    clear c3
    obtain rfl := Option.some.inj H
    go_wp2
    go_ret
    exact ⟨by first | rfl | (simp [errW_none, errW_some] <;> rfl) | (simp [*, errW_none, errW_some] <;> rfl), by repeat (first | (with_reducible first | exact HB.out | apply below_alloc | apply pw_below_drewN | apply below_drew1) | exact HB.out)⟩

/-! ### turnbuckleref12_PackDefs: function 13 -/
mutual
def turnbuckleref12_PackDefs.l0 : Nat → List Int → List Int → ByteArray → Int → Option (ByteArray)
 | 0, _, _, _, _ => none
 | k + 1, x0, x1, x5, x6 => if x6 < (x0.length : Int) then (turnbuckleref12_PackDefs.j1 k x0 x1 x5 x6 (decide (x6 < (x1.length : Int)))) else (turnbuckleref12_PackDefs.j1 k x0 x1 x5 x6 false)
def turnbuckleref12_PackDefs.j1 : Nat → List Int → List Int → ByteArray → Int → Bool → Option (ByteArray)
 | 0, _, _, _, _, _ => none
 | k + 1, x0, x1, x5, x6, x16 => if x16 = true then ((turnbuckleref01_Put.f k 1 2).bind fun t129 => ((turnbuckleref01_Put.f k 0 2).bind fun t130 => (if t129.size + t130.size ≤ 9223372036854775807 then (if 0 ≤ x6 then (if x6 < (x0.length : Int) then ((turnbuckleref01_Put.f k (IntKind.u64.wrap (rd x0 x6)) 2).bind fun t132 => (if (t129 ++ t130).size + t132.size ≤ 9223372036854775807 then ((turnbuckleref01_Put.f k 1 2).bind fun t133 => (if ((t129 ++ t130) ++ t132).size + t133.size ≤ 9223372036854775807 then ((turnbuckleref01_Put.f k 0 4).bind fun t134 => (if (((t129 ++ t130) ++ t132) ++ t133).size + t134.size ≤ 9223372036854775807 then ((turnbuckleref01_Put.f k 20 4).bind fun t135 => (if ((((t129 ++ t130) ++ t132) ++ t133) ++ t134).size + t135.size ≤ 9223372036854775807 then ((turnbuckleref01_Put.f k 28 4).bind fun t136 => (if (((((t129 ++ t130) ++ t132) ++ t133) ++ t134) ++ t135).size + t136.size ≤ 9223372036854775807 then (if x6 < (x1.length : Int) then ((turnbuckleref01_Put.f k (IntKind.u64.wrap (rd x1 x6)) 4).bind fun t138 => (if ((((((t129 ++ t130) ++ t132) ++ t133) ++ t134) ++ t135) ++ t136).size + t138.size ≤ 9223372036854775807 then ((turnbuckleref01_Put.f k 0 4).bind fun t139 => (if (((((((t129 ++ t130) ++ t132) ++ t133) ++ t134) ++ t135) ++ t136) ++ t138).size + t139.size ≤ 9223372036854775807 then (if x5.size + ((((((((t129 ++ t130) ++ t132) ++ t133) ++ t134) ++ t135) ++ t136) ++ t138) ++ t139).size ≤ 9223372036854775807 then (turnbuckleref12_PackDefs.l0 k x0 x1 (x5 ++ ((((((((t129 ++ t130) ++ t132) ++ t133) ++ t134) ++ t135) ++ t136) ++ t138) ++ t139)) (wrap64 (x6 + 1))) else (none)) else (none))) else (none))) else (none)) else (none))) else (none))) else (none))) else (none))) else (none))) else (none)) else (none)) else (none)))) else (some x5)
end
def turnbuckleref12_PackDefs.f (k : Nat) (l0 : List Int) (l1 : List Int) : Option (ByteArray) := turnbuckleref12_PackDefs.l0 k l0 l1 (⟨#[]⟩ : ByteArray) 0
theorem turnbuckleref12_PackDefs.mono_l : ∀ k, (∀ y0 y1 y2 y3, LeO (turnbuckleref12_PackDefs.l0 k y0 y1 y2 y3) (turnbuckleref12_PackDefs.l0 (k + 1) y0 y1 y2 y3)) ∧ (∀ y0 y1 y2 y3 y4, LeO (turnbuckleref12_PackDefs.j1 k y0 y1 y2 y3 y4) (turnbuckleref12_PackDefs.j1 (k + 1) y0 y1 y2 y3 y4))
 | 0 => ⟨fun _ _ _ _ r h => by simp [turnbuckleref12_PackDefs.l0] at h, fun _ _ _ _ _ r h => by simp [turnbuckleref12_PackDefs.j1] at h⟩
 | k + 1 => by
  obtain ⟨ih0, ih1⟩ := turnbuckleref12_PackDefs.mono_l k
  refine ⟨?_, ?_⟩
  ·intro y0 y1 y2 y3
   unfold turnbuckleref12_PackDefs.l0
   repeat' first
   | (with_reducible exact ih0 _ _ _ _)
   | (with_reducible exact ih1 _ _ _ _ _)
   | (with_reducible exact turnbuckleref01_Put.mono _ _ _)
   | (with_reducible exact LeO.refl _)
   | (with_reducible exact LeO.none _)
   | (with_reducible refine LeO.ite ?_ ?_)
   | (with_reducible refine LeO.bind ?_ (fun _ => ?_))
   | exact ih0 _ _ _ _
   | exact ih1 _ _ _ _ _
   | exact turnbuckleref01_Put.mono _ _ _
   | exact LeO.none _
   | refine LeO.ite ?_ ?_
   | refine LeO.bind ?_ (fun _ => ?_)
  ·intro y0 y1 y2 y3 y4
   unfold turnbuckleref12_PackDefs.j1
   repeat' first
   | (with_reducible exact ih0 _ _ _ _)
   | (with_reducible exact ih1 _ _ _ _ _)
   | (with_reducible exact turnbuckleref01_Put.mono _ _ _)
   | (with_reducible exact LeO.refl _)
   | (with_reducible exact LeO.none _)
   | (with_reducible refine LeO.ite ?_ ?_)
   | (with_reducible refine LeO.bind ?_ (fun _ => ?_))
   | exact ih0 _ _ _ _
   | exact ih1 _ _ _ _ _
   | exact turnbuckleref01_Put.mono _ _ _
   | exact LeO.none _
   | refine LeO.ite ?_ ?_
   | refine LeO.bind ?_ (fun _ => ?_)
theorem turnbuckleref12_PackDefs.mono : ∀ a0 a1 k, LeO (turnbuckleref12_PackDefs.f k a0 a1) (turnbuckleref12_PackDefs.f (k + 1) a0 a1) := by
 intro a0 a1 k
 obtain ⟨ih0, ih1⟩ := turnbuckleref12_PackDefs.mono_l k
 unfold turnbuckleref12_PackDefs.f
 repeat' first
   | (with_reducible exact ih0 _ _ _ _)
   | (with_reducible exact ih1 _ _ _ _ _)
   | (with_reducible exact turnbuckleref01_Put.mono _ _ _)
   | (with_reducible exact LeO.refl _)
   | (with_reducible exact LeO.none _)
   | (with_reducible refine LeO.ite ?_ ?_)
   | (with_reducible refine LeO.bind ?_ (fun _ => ?_))
   | exact ih0 _ _ _ _
   | exact ih1 _ _ _ _ _
   | exact turnbuckleref01_Put.mono _ _ _
   | exact LeO.none _
   | refine LeO.ite ?_ ?_
   | refine LeO.bind ?_ (fun _ => ?_)
def turnbuckleref12_PackDefs.T5 : Bool × List (List Nat × List Nat) := (true, [([], []), ([], []), ([1], []), ([1, 2], [1, 2]), ([], []), ([], []), ([4, 5], [4, 5]), ([6], [6]), ([7], [7]), ([8, 2], [8]), ([3, 9], [3, 9]), ([9], []), ([10, 11], [10, 11]), ([11], []), ([12, 13], [12, 13]), ([13], []), ([14, 15], [14, 15]), ([15], []), ([16, 17], [16, 17]), ([], []), ([], []), ([19, 20], [19, 20]), ([21], [21]), ([22], [22]), ([23, 17], [23]), ([18, 24], [18, 24]), ([24], []), ([25, 26], [25, 26]), ([0, 27], [0, 27]), ([28, 26, 0, 1, 2, 3, 4, 5, 6, 7, 8, 9, 10, 11, 12, 13, 14, 15, 16, 17, 18, 19, 20, 21, 22, 23, 24, 25, 26, 27, 28], [0, 28])])
def turnbuckleref12_PackDefs.B5 : List Nat := [0, 0, 2, 6, 0, 0, 48, 112, 240, 502, 1022, 1014, 4094, 3062, 16382, 11254, 65534, 44022, 262142, 0, 0, 1572864, 3670016, 7864320, 16428022, 33554430, 33205238, 134217726, 268435455, 536870911]
theorem turnbuckleref12_PackDefs.tab5 : rtab .any (opsOf Try.f13 5) = turnbuckleref12_PackDefs.T5 := by kernel_rfl
theorem turnbuckleref12_PackDefs.bits5 : waitsOk turnbuckleref12_PackDefs.T5.2 turnbuckleref12_PackDefs.B5 = true := by kernel_rfl
set_option maxHeartbeats 8000000 in
set_option maxRecDepth 100000 in
theorem turnbuckleref12_PackDefs.calls (k : Nat) (A0 : Option Addr) (c0 : Nat) (l0 : List Int) (A1 : Option Addr) (c1 : Nat) (l1 : List Int) (r : ByteArray) (w : World) (hr0 : Kd.C (Kd.int .i64) w A0 l0.length l0) (hc0 : l0.length ≤ c0) (hr1 : Kd.C (Kd.int .u32) w A1 l1.length l1) (hc1 : l1.length ≤ c1) (h : turnbuckleref12_PackDefs.f k l0 l1 = some r) :
  Calls Try.prog 13 #[.slice A0 l0.length c0, .slice A1 l1.length c1] w fun e w' => e = .returned (.string r) ∧ Below w.heap.size w w' := by
 have HR0 := Aside0.mk hr0
 have HC0 := Aside0.mk hc0
 clear hr0 hc0
 have HR1 := Aside0.mk hr1
 have HC1 := Aside0.mk hc1
 clear hr1 hc1
 have HB := Aside0.mk (Below.refl w.heap.size w)
 have H : (turnbuckleref12_PackDefs.l0 k l0 l1 (⟨#[]⟩ : ByteArray) 0) = some r := h
 clear h
 have H' := Aside0.mk H
 clear H
 go_enter Try.func13, Try.ntmps13
 go_wp2
 go_loopg [5, 6] k (fun kq v5 v6 w' => ∃ (x5_1 : ByteArray) (x6_1 : Int), v5 = .string x5_1 ∧ v6 = .int .i64 x6_1 ∧ Aside0 (turnbuckleref12_PackDefs.l0 kq l0 l1 x5_1 x6_1 = some r) ∧ Aside0 (kq ≤ k) ∧ Aside0 (Below w.heap.size w w'))
 case atStart => exact ⟨((⟨#[]⟩ : ByteArray)), (0), (by first | rfl | (simp; done) | (simp [*]; done)), (by first | rfl | (simp; done) | (simp [*]; done)), H', ⟨Nat.le_refl _⟩, ⟨by repeat (first | (with_reducible first | exact HB.out | apply below_alloc | apply pw_below_drewN | apply below_drew1) | exact HB.out)⟩⟩
 case round =>
  clear H'
  try clear c1
  try clear p2
  obtain ⟨x5_1, x6_1, rfl, rfl, HA, HK1, HB⟩ := hrel
  cases gk with
  | zero => exact absurd HA.out (by simp [turnbuckleref12_PackDefs.l0])
  | succ k1 =>
   have H := HA.out
   clear HA
   simp only [turnbuckleref12_PackDefs.l0] at H
   have HC3 := Aside0.mk H
   clear H
   go_upto_region 3 with (fail)
   go_cut [16] (fun v16 wc => ∃ (kq : Nat) (x16_2 : Bool), v16 = .bool x16_2 ∧ Aside0 (turnbuckleref12_PackDefs.j1 kq l0 l1 x5_1 x6_1 x16_2 = some r) ∧ Aside0 (kq ≤ k1) ∧ Aside0 (Below w.heap.size w wc))
   case first =>
    have H := HC3.out
    clear HC3
    by_cases c4 : x6_1 < (l0.length : Int)
    ·rw [if_pos c4] at H
     have c4b0 : decide (x6_1 < (l0.length : Int)) = true := decide_eq_true c4
     clear c4
     (first | rw [c4b0] | (simp only [i64_w, i32_w]; rw [c4b0]) | skip)
     have H' := Aside0.mk H
     clear H
     go_wp2
     go_meet
     case rel => exact ⟨_, (decide (x6_1 < (l1.length : Int))), (by first | rfl | (simp; done) | (simp [*]; done)), H', ⟨by have := HK1.out; first | omega | exact Nat.le_refl _⟩, ⟨by repeat (first | (with_reducible first | exact HB.out | apply below_alloc | apply pw_below_drewN | apply below_drew1) | exact HB.out)⟩⟩
    ·rw [if_neg c4] at H
     have c4b0 : decide (x6_1 < (l0.length : Int)) = false := decide_eq_false c4
     clear c4
     (first | rw [c4b0] | (simp only [i64_w, i32_w]; rw [c4b0]) | skip)
     have H' := Aside0.mk H
     clear H
     go_wp2
     go_meet
     case rel => exact ⟨_, (false), (by first | rfl | (simp; done) | (simp [*]; done)), H', ⟨by have := HK1.out; first | omega | exact Nat.le_refl _⟩, ⟨by repeat (first | (with_reducible first | exact HB.out | apply below_alloc | apply pw_below_drewN | apply below_drew1) | exact HB.out)⟩⟩
   case rest =>
    clear HC3
    try clear c1
    try clear p2
    try clear c4
    try clear c4b0
    try clear p2
    obtain ⟨kq, x16_2, rfl, HA, HJ2, HB⟩ := hcut
    cases kq with
    | zero => exact absurd HA.out (by simp [turnbuckleref12_PackDefs.j1])
    | succ kj2 =>
     have H := HA.out
     clear HA
     simp only [turnbuckleref12_PackDefs.j1] at H
     by_cases c5 : x16_2 = true
     ·subst c5
      have H1 : ((turnbuckleref01_Put.f kj2 1 2).bind fun t129 => ((turnbuckleref01_Put.f kj2 0 2).bind fun t130 => (if t129.size + t130.size ≤ 9223372036854775807 then (if 0 ≤ x6_1 then (if x6_1 < (l0.length : Int) then ((turnbuckleref01_Put.f kj2 (IntKind.u64.wrap (rd l0 x6_1)) 2).bind fun t132 => (if (t129 ++ t130).size + t132.size ≤ 9223372036854775807 then ((turnbuckleref01_Put.f kj2 1 2).bind fun t133 => (if ((t129 ++ t130) ++ t132).size + t133.size ≤ 9223372036854775807 then ((turnbuckleref01_Put.f kj2 0 4).bind fun t134 => (if (((t129 ++ t130) ++ t132) ++ t133).size + t134.size ≤ 9223372036854775807 then ((turnbuckleref01_Put.f kj2 20 4).bind fun t135 => (if ((((t129 ++ t130) ++ t132) ++ t133) ++ t134).size + t135.size ≤ 9223372036854775807 then ((turnbuckleref01_Put.f kj2 28 4).bind fun t136 => (if (((((t129 ++ t130) ++ t132) ++ t133) ++ t134) ++ t135).size + t136.size ≤ 9223372036854775807 then (if x6_1 < (l1.length : Int) then ((turnbuckleref01_Put.f kj2 (IntKind.u64.wrap (rd l1 x6_1)) 4).bind fun t138 => (if ((((((t129 ++ t130) ++ t132) ++ t133) ++ t134) ++ t135) ++ t136).size + t138.size ≤ 9223372036854775807 then ((turnbuckleref01_Put.f kj2 0 4).bind fun t139 => (if (((((((t129 ++ t130) ++ t132) ++ t133) ++ t134) ++ t135) ++ t136) ++ t138).size + t139.size ≤ 9223372036854775807 then (if x5_1.size + ((((((((t129 ++ t130) ++ t132) ++ t133) ++ t134) ++ t135) ++ t136) ++ t138) ++ t139).size ≤ 9223372036854775807 then (turnbuckleref12_PackDefs.l0 kj2 l0 l1 (x5_1 ++ ((((((((t129 ++ t130) ++ t132) ++ t133) ++ t134) ++ t135) ++ t136) ++ t138) ++ t139)) (wrap64 (x6_1 + 1))) else (none)) else (none))) else (none))) else (none)) else (none))) else (none))) else (none))) else (none))) else (none))) else (none)) else (none)) else (none)))) = some r := by rw [if_pos rfl] at H; exact H
      clear H
      have H := H1
      clear H1
      replace H := Option.bind_eq_some_iff.mp H
      obtain ⟨t129, A60, H⟩ := H
      replace H : ((turnbuckleref01_Put.f kj2 0 2).bind fun t130 => (if t129.size + t130.size ≤ 9223372036854775807 then (if 0 ≤ x6_1 then (if x6_1 < (l0.length : Int) then ((turnbuckleref01_Put.f kj2 (IntKind.u64.wrap (rd l0 x6_1)) 2).bind fun t132 => (if (t129 ++ t130).size + t132.size ≤ 9223372036854775807 then ((turnbuckleref01_Put.f kj2 1 2).bind fun t133 => (if ((t129 ++ t130) ++ t132).size + t133.size ≤ 9223372036854775807 then ((turnbuckleref01_Put.f kj2 0 4).bind fun t134 => (if (((t129 ++ t130) ++ t132) ++ t133).size + t134.size ≤ 9223372036854775807 then ((turnbuckleref01_Put.f kj2 20 4).bind fun t135 => (if ((((t129 ++ t130) ++ t132) ++ t133) ++ t134).size + t135.size ≤ 9223372036854775807 then ((turnbuckleref01_Put.f kj2 28 4).bind fun t136 => (if (((((t129 ++ t130) ++ t132) ++ t133) ++ t134) ++ t135).size + t136.size ≤ 9223372036854775807 then (if x6_1 < (l1.length : Int) then ((turnbuckleref01_Put.f kj2 (IntKind.u64.wrap (rd l1 x6_1)) 4).bind fun t138 => (if ((((((t129 ++ t130) ++ t132) ++ t133) ++ t134) ++ t135) ++ t136).size + t138.size ≤ 9223372036854775807 then ((turnbuckleref01_Put.f kj2 0 4).bind fun t139 => (if (((((((t129 ++ t130) ++ t132) ++ t133) ++ t134) ++ t135) ++ t136) ++ t138).size + t139.size ≤ 9223372036854775807 then (if x5_1.size + ((((((((t129 ++ t130) ++ t132) ++ t133) ++ t134) ++ t135) ++ t136) ++ t138) ++ t139).size ≤ 9223372036854775807 then (turnbuckleref12_PackDefs.l0 kj2 l0 l1 (x5_1 ++ ((((((((t129 ++ t130) ++ t132) ++ t133) ++ t134) ++ t135) ++ t136) ++ t138) ++ t139)) (wrap64 (x6_1 + 1))) else (none)) else (none))) else (none))) else (none)) else (none))) else (none))) else (none))) else (none))) else (none))) else (none)) else (none)) else (none))) = some r := H
      have A6 := Aside0.mk A60
      clear A60
      replace H := Option.bind_eq_some_iff.mp H
      obtain ⟨t130, A70, H⟩ := H
      replace H : (if t129.size + t130.size ≤ 9223372036854775807 then (if 0 ≤ x6_1 then (if x6_1 < (l0.length : Int) then ((turnbuckleref01_Put.f kj2 (IntKind.u64.wrap (rd l0 x6_1)) 2).bind fun t132 => (if (t129 ++ t130).size + t132.size ≤ 9223372036854775807 then ((turnbuckleref01_Put.f kj2 1 2).bind fun t133 => (if ((t129 ++ t130) ++ t132).size + t133.size ≤ 9223372036854775807 then ((turnbuckleref01_Put.f kj2 0 4).bind fun t134 => (if (((t129 ++ t130) ++ t132) ++ t133).size + t134.size ≤ 9223372036854775807 then ((turnbuckleref01_Put.f kj2 20 4).bind fun t135 => (if ((((t129 ++ t130) ++ t132) ++ t133) ++ t134).size + t135.size ≤ 9223372036854775807 then ((turnbuckleref01_Put.f kj2 28 4).bind fun t136 => (if (((((t129 ++ t130) ++ t132) ++ t133) ++ t134) ++ t135).size + t136.size ≤ 9223372036854775807 then (if x6_1 < (l1.length : Int) then ((turnbuckleref01_Put.f kj2 (IntKind.u64.wrap (rd l1 x6_1)) 4).bind fun t138 => (if ((((((t129 ++ t130) ++ t132) ++ t133) ++ t134) ++ t135) ++ t136).size + t138.size ≤ 9223372036854775807 then ((turnbuckleref01_Put.f kj2 0 4).bind fun t139 => (if (((((((t129 ++ t130) ++ t132) ++ t133) ++ t134) ++ t135) ++ t136) ++ t138).size + t139.size ≤ 9223372036854775807 then (if x5_1.size + ((((((((t129 ++ t130) ++ t132) ++ t133) ++ t134) ++ t135) ++ t136) ++ t138) ++ t139).size ≤ 9223372036854775807 then (turnbuckleref12_PackDefs.l0 kj2 l0 l1 (x5_1 ++ ((((((((t129 ++ t130) ++ t132) ++ t133) ++ t134) ++ t135) ++ t136) ++ t138) ++ t139)) (wrap64 (x6_1 + 1))) else (none)) else (none))) else (none))) else (none)) else (none))) else (none))) else (none))) else (none))) else (none))) else (none)) else (none)) else (none)) = some r := H
      have A7 := Aside0.mk A70
      clear A70
      by_cases c8 : t129.size + t130.size ≤ 9223372036854775807
      ·rw [if_pos c8] at H
       have c8b0 := eq_true c8
       have c8b1 : decide (t129.size + t130.size ≤ 9223372036854775807) = true := decide_eq_true c8
       try have c8b2 : (9223372036854775807 < t129.size + t130.size) = False := eq_false (Nat.not_lt.2 c8)
       by_cases c9 : 0 ≤ x6_1
       ·rw [if_pos c9] at H
        have c9b0 : decide (0 ≤ x6_1) = true := decide_eq_true c9
        clear c9
        by_cases c10 : x6_1 < (l0.length : Int)
        ·rw [if_pos c10] at H
         have c10b0 : decide (x6_1 < (l0.length : Int)) = true := decide_eq_true c10
         clear c10
         replace H := Option.bind_eq_some_iff.mp H
         obtain ⟨t132, A110, H⟩ := H
         replace H : (if (t129 ++ t130).size + t132.size ≤ 9223372036854775807 then ((turnbuckleref01_Put.f kj2 1 2).bind fun t133 => (if ((t129 ++ t130) ++ t132).size + t133.size ≤ 9223372036854775807 then ((turnbuckleref01_Put.f kj2 0 4).bind fun t134 => (if (((t129 ++ t130) ++ t132) ++ t133).size + t134.size ≤ 9223372036854775807 then ((turnbuckleref01_Put.f kj2 20 4).bind fun t135 => (if ((((t129 ++ t130) ++ t132) ++ t133) ++ t134).size + t135.size ≤ 9223372036854775807 then ((turnbuckleref01_Put.f kj2 28 4).bind fun t136 => (if (((((t129 ++ t130) ++ t132) ++ t133) ++ t134) ++ t135).size + t136.size ≤ 9223372036854775807 then (if x6_1 < (l1.length : Int) then ((turnbuckleref01_Put.f kj2 (IntKind.u64.wrap (rd l1 x6_1)) 4).bind fun t138 => (if ((((((t129 ++ t130) ++ t132) ++ t133) ++ t134) ++ t135) ++ t136).size + t138.size ≤ 9223372036854775807 then ((turnbuckleref01_Put.f kj2 0 4).bind fun t139 => (if (((((((t129 ++ t130) ++ t132) ++ t133) ++ t134) ++ t135) ++ t136) ++ t138).size + t139.size ≤ 9223372036854775807 then (if x5_1.size + ((((((((t129 ++ t130) ++ t132) ++ t133) ++ t134) ++ t135) ++ t136) ++ t138) ++ t139).size ≤ 9223372036854775807 then (turnbuckleref12_PackDefs.l0 kj2 l0 l1 (x5_1 ++ ((((((((t129 ++ t130) ++ t132) ++ t133) ++ t134) ++ t135) ++ t136) ++ t138) ++ t139)) (wrap64 (x6_1 + 1))) else (none)) else (none))) else (none))) else (none)) else (none))) else (none))) else (none))) else (none))) else (none)) = some r := H
         have A11 := Aside0.mk A110
         clear A110
         by_cases c12 : (t129 ++ t130).size + t132.size ≤ 9223372036854775807
         ·rw [if_pos c12] at H
          have c12b0 := eq_true c12
          have c12b1 : decide ((t129 ++ t130).size + t132.size ≤ 9223372036854775807) = true := decide_eq_true c12
          try have c12b2 : (9223372036854775807 < (t129 ++ t130).size + t132.size) = False := eq_false (Nat.not_lt.2 c12)
          (try (have c12b3 := c12b2; simp only [ByteArray.size_append] at c12b3))
          (try (have c12b4 := c12b0; simp only [ByteArray.size_append] at c12b4))
          replace H := Option.bind_eq_some_iff.mp H
          obtain ⟨t133, A130, H⟩ := H
          replace H : (if ((t129 ++ t130) ++ t132).size + t133.size ≤ 9223372036854775807 then ((turnbuckleref01_Put.f kj2 0 4).bind fun t134 => (if (((t129 ++ t130) ++ t132) ++ t133).size + t134.size ≤ 9223372036854775807 then ((turnbuckleref01_Put.f kj2 20 4).bind fun t135 => (if ((((t129 ++ t130) ++ t132) ++ t133) ++ t134).size + t135.size ≤ 9223372036854775807 then ((turnbuckleref01_Put.f kj2 28 4).bind fun t136 => (if (((((t129 ++ t130) ++ t132) ++ t133) ++ t134) ++ t135).size + t136.size ≤ 9223372036854775807 then (if x6_1 < (l1.length : Int) then ((turnbuckleref01_Put.f kj2 (IntKind.u64.wrap (rd l1 x6_1)) 4).bind fun t138 => (if ((((((t129 ++ t130) ++ t132) ++ t133) ++ t134) ++ t135) ++ t136).size + t138.size ≤ 9223372036854775807 then ((turnbuckleref01_Put.f kj2 0 4).bind fun t139 => (if (((((((t129 ++ t130) ++ t132) ++ t133) ++ t134) ++ t135) ++ t136) ++ t138).size + t139.size ≤ 9223372036854775807 then (if x5_1.size + ((((((((t129 ++ t130) ++ t132) ++ t133) ++ t134) ++ t135) ++ t136) ++ t138) ++ t139).size ≤ 9223372036854775807 then (turnbuckleref12_PackDefs.l0 kj2 l0 l1 (x5_1 ++ ((((((((t129 ++ t130) ++ t132) ++ t133) ++ t134) ++ t135) ++ t136) ++ t138) ++ t139)) (wrap64 (x6_1 + 1))) else (none)) else (none))) else (none))) else (none)) else (none))) else (none))) else (none))) else (none)) = some r := H
          have A13 := Aside0.mk A130
          clear A130
          by_cases c14 : ((t129 ++ t130) ++ t132).size + t133.size ≤ 9223372036854775807
          ·rw [if_pos c14] at H
           have c14b0 := eq_true c14
           have c14b1 : decide (((t129 ++ t130) ++ t132).size + t133.size ≤ 9223372036854775807) = true := decide_eq_true c14
           try have c14b2 : (9223372036854775807 < ((t129 ++ t130) ++ t132).size + t133.size) = False := eq_false (Nat.not_lt.2 c14)
           (try (have c14b3 := c14b2; simp only [ByteArray.size_append] at c14b3))
           (try (have c14b4 := c14b0; simp only [ByteArray.size_append] at c14b4))
           replace H := Option.bind_eq_some_iff.mp H
           obtain ⟨t134, A150, H⟩ := H
           replace H : (if (((t129 ++ t130) ++ t132) ++ t133).size + t134.size ≤ 9223372036854775807 then ((turnbuckleref01_Put.f kj2 20 4).bind fun t135 => (if ((((t129 ++ t130) ++ t132) ++ t133) ++ t134).size + t135.size ≤ 9223372036854775807 then ((turnbuckleref01_Put.f kj2 28 4).bind fun t136 => (if (((((t129 ++ t130) ++ t132) ++ t133) ++ t134) ++ t135).size + t136.size ≤ 9223372036854775807 then (if x6_1 < (l1.length : Int) then ((turnbuckleref01_Put.f kj2 (IntKind.u64.wrap (rd l1 x6_1)) 4).bind fun t138 => (if ((((((t129 ++ t130) ++ t132) ++ t133) ++ t134) ++ t135) ++ t136).size + t138.size ≤ 9223372036854775807 then ((turnbuckleref01_Put.f kj2 0 4).bind fun t139 => (if (((((((t129 ++ t130) ++ t132) ++ t133) ++ t134) ++ t135) ++ t136) ++ t138).size + t139.size ≤ 9223372036854775807 then (if x5_1.size + ((((((((t129 ++ t130) ++ t132) ++ t133) ++ t134) ++ t135) ++ t136) ++ t138) ++ t139).size ≤ 9223372036854775807 then (turnbuckleref12_PackDefs.l0 kj2 l0 l1 (x5_1 ++ ((((((((t129 ++ t130) ++ t132) ++ t133) ++ t134) ++ t135) ++ t136) ++ t138) ++ t139)) (wrap64 (x6_1 + 1))) else (none)) else (none))) else (none))) else (none)) else (none))) else (none))) else (none)) = some r := H
           have A15 := Aside0.mk A150
           clear A150
           by_cases c16 : (((t129 ++ t130) ++ t132) ++ t133).size + t134.size ≤ 9223372036854775807
           ·rw [if_pos c16] at H
            have c16b0 := eq_true c16
            have c16b1 : decide ((((t129 ++ t130) ++ t132) ++ t133).size + t134.size ≤ 9223372036854775807) = true := decide_eq_true c16
            try have c16b2 : (9223372036854775807 < (((t129 ++ t130) ++ t132) ++ t133).size + t134.size) = False := eq_false (Nat.not_lt.2 c16)
            (try (have c16b3 := c16b2; simp only [ByteArray.size_append] at c16b3))
            (try (have c16b4 := c16b0; simp only [ByteArray.size_append] at c16b4))
            replace H := Option.bind_eq_some_iff.mp H
            obtain ⟨t135, A170, H⟩ := H
            replace H : (if ((((t129 ++ t130) ++ t132) ++ t133) ++ t134).size + t135.size ≤ 9223372036854775807 then ((turnbuckleref01_Put.f kj2 28 4).bind fun t136 => (if (((((t129 ++ t130) ++ t132) ++ t133) ++ t134) ++ t135).size + t136.size ≤ 9223372036854775807 then (if x6_1 < (l1.length : Int) then ((turnbuckleref01_Put.f kj2 (IntKind.u64.wrap (rd l1 x6_1)) 4).bind fun t138 => (if ((((((t129 ++ t130) ++ t132) ++ t133) ++ t134) ++ t135) ++ t136).size + t138.size ≤ 9223372036854775807 then ((turnbuckleref01_Put.f kj2 0 4).bind fun t139 => (if (((((((t129 ++ t130) ++ t132) ++ t133) ++ t134) ++ t135) ++ t136) ++ t138).size + t139.size ≤ 9223372036854775807 then (if x5_1.size + ((((((((t129 ++ t130) ++ t132) ++ t133) ++ t134) ++ t135) ++ t136) ++ t138) ++ t139).size ≤ 9223372036854775807 then (turnbuckleref12_PackDefs.l0 kj2 l0 l1 (x5_1 ++ ((((((((t129 ++ t130) ++ t132) ++ t133) ++ t134) ++ t135) ++ t136) ++ t138) ++ t139)) (wrap64 (x6_1 + 1))) else (none)) else (none))) else (none))) else (none)) else (none))) else (none)) = some r := H
            have A17 := Aside0.mk A170
            clear A170
            by_cases c18 : ((((t129 ++ t130) ++ t132) ++ t133) ++ t134).size + t135.size ≤ 9223372036854775807
            ·rw [if_pos c18] at H
             have c18b0 := eq_true c18
             have c18b1 : decide (((((t129 ++ t130) ++ t132) ++ t133) ++ t134).size + t135.size ≤ 9223372036854775807) = true := decide_eq_true c18
             try have c18b2 : (9223372036854775807 < ((((t129 ++ t130) ++ t132) ++ t133) ++ t134).size + t135.size) = False := eq_false (Nat.not_lt.2 c18)
             (try (have c18b3 := c18b2; simp only [ByteArray.size_append] at c18b3))
             (try (have c18b4 := c18b0; simp only [ByteArray.size_append] at c18b4))
             replace H := Option.bind_eq_some_iff.mp H
             obtain ⟨t136, A190, H⟩ := H
             replace H : (if (((((t129 ++ t130) ++ t132) ++ t133) ++ t134) ++ t135).size + t136.size ≤ 9223372036854775807 then (if x6_1 < (l1.length : Int) then ((turnbuckleref01_Put.f kj2 (IntKind.u64.wrap (rd l1 x6_1)) 4).bind fun t138 => (if ((((((t129 ++ t130) ++ t132) ++ t133) ++ t134) ++ t135) ++ t136).size + t138.size ≤ 9223372036854775807 then ((turnbuckleref01_Put.f kj2 0 4).bind fun t139 => (if (((((((t129 ++ t130) ++ t132) ++ t133) ++ t134) ++ t135) ++ t136) ++ t138).size + t139.size ≤ 9223372036854775807 then (if x5_1.size + ((((((((t129 ++ t130) ++ t132) ++ t133) ++ t134) ++ t135) ++ t136) ++ t138) ++ t139).size ≤ 9223372036854775807 then (turnbuckleref12_PackDefs.l0 kj2 l0 l1 (x5_1 ++ ((((((((t129 ++ t130) ++ t132) ++ t133) ++ t134) ++ t135) ++ t136) ++ t138) ++ t139)) (wrap64 (x6_1 + 1))) else (none)) else (none))) else (none))) else (none)) else (none)) = some r := H
             have A19 := Aside0.mk A190
             clear A190
             by_cases c20 : (((((t129 ++ t130) ++ t132) ++ t133) ++ t134) ++ t135).size + t136.size ≤ 9223372036854775807
             ·rw [if_pos c20] at H
              have c20b0 := eq_true c20
              have c20b1 : decide ((((((t129 ++ t130) ++ t132) ++ t133) ++ t134) ++ t135).size + t136.size ≤ 9223372036854775807) = true := decide_eq_true c20
              try have c20b2 : (9223372036854775807 < (((((t129 ++ t130) ++ t132) ++ t133) ++ t134) ++ t135).size + t136.size) = False := eq_false (Nat.not_lt.2 c20)
              (try (have c20b3 := c20b2; simp only [ByteArray.size_append] at c20b3))
              (try (have c20b4 := c20b0; simp only [ByteArray.size_append] at c20b4))
              by_cases c21 : x6_1 < (l1.length : Int)
              ·rw [if_pos c21] at H
               have c21b0 : decide (x6_1 < (l1.length : Int)) = true := decide_eq_true c21
               clear c21
               replace H := Option.bind_eq_some_iff.mp H
               obtain ⟨t138, A220, H⟩ := H
               replace H : (if ((((((t129 ++ t130) ++ t132) ++ t133) ++ t134) ++ t135) ++ t136).size + t138.size ≤ 9223372036854775807 then ((turnbuckleref01_Put.f kj2 0 4).bind fun t139 => (if (((((((t129 ++ t130) ++ t132) ++ t133) ++ t134) ++ t135) ++ t136) ++ t138).size + t139.size ≤ 9223372036854775807 then (if x5_1.size + ((((((((t129 ++ t130) ++ t132) ++ t133) ++ t134) ++ t135) ++ t136) ++ t138) ++ t139).size ≤ 9223372036854775807 then (turnbuckleref12_PackDefs.l0 kj2 l0 l1 (x5_1 ++ ((((((((t129 ++ t130) ++ t132) ++ t133) ++ t134) ++ t135) ++ t136) ++ t138) ++ t139)) (wrap64 (x6_1 + 1))) else (none)) else (none))) else (none)) = some r := H
               have A22 := Aside0.mk A220
               clear A220
               by_cases c23 : ((((((t129 ++ t130) ++ t132) ++ t133) ++ t134) ++ t135) ++ t136).size + t138.size ≤ 9223372036854775807
               ·rw [if_pos c23] at H
                have c23b0 := eq_true c23
                have c23b1 : decide (((((((t129 ++ t130) ++ t132) ++ t133) ++ t134) ++ t135) ++ t136).size + t138.size ≤ 9223372036854775807) = true := decide_eq_true c23
                try have c23b2 : (9223372036854775807 < ((((((t129 ++ t130) ++ t132) ++ t133) ++ t134) ++ t135) ++ t136).size + t138.size) = False := eq_false (Nat.not_lt.2 c23)
                (try (have c23b3 := c23b2; simp only [ByteArray.size_append] at c23b3))
                (try (have c23b4 := c23b0; simp only [ByteArray.size_append] at c23b4))
                replace H := Option.bind_eq_some_iff.mp H
                obtain ⟨t139, A240, H⟩ := H
                replace H : (if (((((((t129 ++ t130) ++ t132) ++ t133) ++ t134) ++ t135) ++ t136) ++ t138).size + t139.size ≤ 9223372036854775807 then (if x5_1.size + ((((((((t129 ++ t130) ++ t132) ++ t133) ++ t134) ++ t135) ++ t136) ++ t138) ++ t139).size ≤ 9223372036854775807 then (turnbuckleref12_PackDefs.l0 kj2 l0 l1 (x5_1 ++ ((((((((t129 ++ t130) ++ t132) ++ t133) ++ t134) ++ t135) ++ t136) ++ t138) ++ t139)) (wrap64 (x6_1 + 1))) else (none)) else (none)) = some r := H
                have A24 := Aside0.mk A240
                clear A240
                by_cases c25 : (((((((t129 ++ t130) ++ t132) ++ t133) ++ t134) ++ t135) ++ t136) ++ t138).size + t139.size ≤ 9223372036854775807
                ·rw [if_pos c25] at H
                 have c25b0 := eq_true c25
                 have c25b1 : decide ((((((((t129 ++ t130) ++ t132) ++ t133) ++ t134) ++ t135) ++ t136) ++ t138).size + t139.size ≤ 9223372036854775807) = true := decide_eq_true c25
                 try have c25b2 : (9223372036854775807 < (((((((t129 ++ t130) ++ t132) ++ t133) ++ t134) ++ t135) ++ t136) ++ t138).size + t139.size) = False := eq_false (Nat.not_lt.2 c25)
                 (try (have c25b3 := c25b2; simp only [ByteArray.size_append] at c25b3))
                 (try (have c25b4 := c25b0; simp only [ByteArray.size_append] at c25b4))
                 by_cases c26 : x5_1.size + ((((((((t129 ++ t130) ++ t132) ++ t133) ++ t134) ++ t135) ++ t136) ++ t138) ++ t139).size ≤ 9223372036854775807
                 ·rw [if_pos c26] at H
                  have c26b0 := eq_true c26
                  have c26b1 : decide (x5_1.size + ((((((((t129 ++ t130) ++ t132) ++ t133) ++ t134) ++ t135) ++ t136) ++ t138) ++ t139).size ≤ 9223372036854775807) = true := decide_eq_true c26
                  try have c26b2 : (9223372036854775807 < x5_1.size + ((((((((t129 ++ t130) ++ t132) ++ t133) ++ t134) ++ t135) ++ t136) ++ t138) ++ t139).size) = False := eq_false (Nat.not_lt.2 c26)
                  (try (have c26b3 := c26b2; simp only [ByteArray.size_append] at c26b3))
                  (try (have c26b4 := c26b0; simp only [ByteArray.size_append] at c26b4))
                  have H' := Aside0.mk H
                  clear H
                  try go_wp2
                  have n0_ := Aside0.mk (below_drew1 HB.out)
                  clear HB
                  have HB := n0_
                  clear n0_
                  have p131 : 0 ≤ (x6_1 : Int) := of_decide_eq_true (by first | (with_reducible assumption) | assumption)
                  have q131 : x6_1 < (l0.length : Int) := of_decide_eq_true (by first | (with_reducible assumption) | assumption)
                  obtain ⟨ad131, e131, hx131_0⟩ := Kd.at_int HR0.out x6_1 p131 q131
                  have hw131_0 := hx131_0
                  cases e131
                  replace hx131_0 := (HB.out.cell (World.block_lt_of_cell? w _ hx131_0)).trans hx131_0
                  replace p131 := eq_true p131
                  replace q131 := eq_true q131
                  have p137 : 0 ≤ (x6_1 : Int) := of_decide_eq_true (by first | (with_reducible assumption) | assumption)
                  have q137 : x6_1 < (l1.length : Int) := of_decide_eq_true (by first | (with_reducible assumption) | assumption)
                  obtain ⟨ad137, e137, hx137_0⟩ := Kd.at_int HR1.out x6_1 p137 q137
                  have hw137_0 := hx137_0
                  cases e137
                  replace hx137_0 := (HB.out.cell (World.block_lt_of_cell? w _ hx137_0)).trans hx137_0
                  replace p137 := eq_true p137
                  replace q137 := eq_true q137
                  refine start_ (n := 30) (S := fun w' => w'.cell? (ad131.add (x6_1).toNat) = some (.int .i64 (rd l0 x6_1)) ∧ w'.cell? (ad137.add (x6_1).toNat) = some (.int .u32 (rd l1 x6_1))) (ds := []) #[false,false,false,false,false,false,false,false,false,false,false,false,false,false,false,false,false,false,false,false,false,false,false,false,false,false,false,false,false,false] (by kernel_rfl) rfl rfl ⟨((HB.out.cell (World.block_lt_of_cell? w _ hw131_0)).trans hw131_0), ((HB.out.cell (World.block_lt_of_cell? w _ hw137_0)).trans hw137_0)⟩ (fun hHeld => ?_); refine with_tabW turnbuckleref12_PackDefs.tab5 turnbuckleref12_PackDefs.bits5 (fun HT_ HW_ => ?_)
                  generalize wc.drew = w27 at HB hx131_0 hx137_0 hHeld ⊢
                  refine pure_ (i:=0) (N := some 19) (v:=?_) (a':=?_) #[true,false,false,false,false,false,false,false,false,false,false,false,false,false,false,false,false,false,false,false,false,false,false,false,false,false,false,false,false,false] rfl rfl (any_of HT_.out (by kernel_rfl)) (fun _ _ _ h=>h) (Or.inl ⟨by rfl, ?_⟩) ?_ ?_
                  rotate_left
                  ·intro w'
                   go_simp
                   with_reducible rfl
                  rotate_left
                  ·simp only [Act.put,lz1,lz2,lz3,i64_w,i32_w]
                   rfl
                  refine pure_ (i:=4) (N := some 23) (v:=?_) (a':=?_) #[true,false,false,false,true,false,false,false,false,false,false,false,false,false,false,false,false,false,false,false,false,false,false,false,false,false,false,false,false,false] rfl rfl (any_of HT_.out (by kernel_rfl)) (fun _ _ _ h=>h) (Or.inl ⟨by rfl, ?_⟩) ?_ ?_
                  rotate_left
                  ·intro w'
                   go_simp
                   with_reducible rfl
                  rotate_left
                  ·simp only [Act.put,lz1,lz2,lz3,i64_w,i32_w]
                   rfl
                  refine pure_ (i:=5) (N := some 24) (v:=?_) (a':=?_) #[true,false,false,false,true,true,false,false,false,false,false,false,false,false,false,false,false,false,false,false,false,false,false,false,false,false,false,false,false,false] rfl rfl (any_of HT_.out (by kernel_rfl)) (fun _ _ _ h=>h) (Or.inl ⟨by rfl, ?_⟩) ?_ ?_
                  rotate_left
                  ·intro w'
                   go_simp
                   with_reducible rfl
                  rotate_left
                  ·simp only [Act.put,lz1,lz2,lz3,i64_w,i32_w]
                   rfl
                  refine pure_ (i:=6) (N := some 25) (v:=?_) (a':=?_) #[true,false,false,false,true,true,true,false,false,false,false,false,false,false,false,false,false,false,false,false,false,false,false,false,false,false,false,false,false,false] rfl rfl (any_of HT_.out (by kernel_rfl)) (fun _ _ _ h=>h) (Or.inl ⟨by rfl, ?_⟩) ?_ ?_
                  rotate_left
                  ·intro w'
                   go_simp
                   with_reducible rfl
                  rotate_left
                  ·simp only [Act.put,lz1,lz2,lz3,i64_w,i32_w]
                   rfl
                  refine pure_ (i:=19) (N := some 38) (v:=?_) (a':=?_) #[true,false,false,false,true,true,true,false,false,false,false,false,false,false,false,false,false,false,false,true,false,false,false,false,false,false,false,false,false,false] rfl rfl (any_of HT_.out (by kernel_rfl)) (fun _ _ _ h=>h) (Or.inl ⟨by rfl, ?_⟩) ?_ ?_
                  rotate_left
                  ·intro w'
                   go_simp
                   with_reducible rfl
                  rotate_left
                  ·simp only [Act.put,lz1,lz2,lz3,i64_w,i32_w]
                   rfl
                  refine pure_ (i:=20) (N := some 39) (v:=?_) (a':=?_) #[true,false,false,false,true,true,true,false,false,false,false,false,false,false,false,false,false,false,false,true,true,false,false,false,false,false,false,false,false,false] rfl rfl (any_of HT_.out (by kernel_rfl)) (fun _ _ _ h=>h) (Or.inl ⟨by rfl, ?_⟩) ?_ ?_
                  rotate_left
                  ·intro w'
                   go_simp
                   with_reducible rfl
                  rotate_left
                  ·simp only [Act.put,lz1,lz2,lz3,i64_w,i32_w]
                   rfl
                  refine pure_ (i:=21) (N := some 40) (v:=?_) (a':=?_) #[true,false,false,false,true,true,true,false,false,false,false,false,false,false,false,false,false,false,false,true,true,true,false,false,false,false,false,false,false,false] rfl rfl (any_of HT_.out (by kernel_rfl)) (fun _ _ _ h=>h) (Or.inl ⟨by rfl, ?_⟩) ?_ ?_
                  rotate_left
                  ·intro w'
                   go_simp
                   with_reducible rfl
                  rotate_left
                  ·simp only [Act.put,lz1,lz2,lz3,i64_w,i32_w]
                   rfl
                  refine take_ (i := 7) (N := some 26) (v:=?_) (a':=?_) #[true,false,false,false,true,true,true,true,false,false,false,false,false,false,false,false,false,false,false,true,true,true,false,false,false,false,false,false,false,false] rfl rfl (take_ofW HT_.out HW_.out (by kernel_rfl)) (fun _ _ _ h=>h) (Or.inl ⟨by rfl, ?_⟩) hHeld ?_ ?_
                  rotate_left
                  ·rintro w' ⟨s0, s1⟩
                   go_simp
                   with_reducible rfl
                  rotate_left
                  ·simp only [Act.put,lz1,lz2,lz3,i64_w,i32_w]
                   rfl
                  refine pure_ (i:=8) (N := some 27) (v:=?_) (a':=?_) #[true,false,false,false,true,true,true,true,true,false,false,false,false,false,false,false,false,false,false,true,true,true,false,false,false,false,false,false,false,false] rfl rfl (any_of HT_.out (by kernel_rfl)) (fun _ _ _ h=>h) (Or.inl ⟨by rfl, ?_⟩) ?_ ?_
                  rotate_left
                  ·intro w'
                   go_simp
                   with_reducible rfl
                  rotate_left
                  ·simp only [Act.put,lz1,lz2,lz3,i64_w,i32_w]
                   rfl
                  refine take_ (i := 22) (N := some 41) (v:=?_) (a':=?_) #[true,false,false,false,true,true,true,true,true,false,false,false,false,false,false,false,false,false,false,true,true,true,true,false,false,false,false,false,false,false] rfl rfl (take_ofW HT_.out HW_.out (by kernel_rfl)) (fun _ _ _ h=>h) (Or.inl ⟨by rfl, ?_⟩) hHeld ?_ ?_
                  rotate_left
                  ·rintro w' ⟨s0, s1⟩
                   go_simp
                   with_reducible rfl
                  rotate_left
                  ·simp only [Act.put,lz1,lz2,lz3,i64_w,i32_w]
                   rfl
                  refine pure_ (i:=23) (N := some 42) (v:=?_) (a':=?_) #[true,false,false,false,true,true,true,true,true,false,false,false,false,false,false,false,false,false,false,true,true,true,true,true,false,false,false,false,false,false] rfl rfl (any_of HT_.out (by kernel_rfl)) (fun _ _ _ h=>h) (Or.inl ⟨by rfl, ?_⟩) ?_ ?_
                  rotate_left
                  ·intro w'
                   go_simp
                   with_reducible rfl
                  rotate_left
                  ·simp only [Act.put,lz1,lz2,lz3,i64_w,i32_w]
                   rfl
                  refine one_ (i := 1) (N := some 20) #[true,true,false,false,true,true,true,true,true,false,false,false,false,false,false,false,false,false,false,true,true,true,true,true,false,false,false,false,false,false] rfl rfl (one_of HT_.out (by kernel_rfl)) (by decide) (fun K hK => ?_)
                  refine goes_ Try.func27 (by kernel_rfl) rfl #[.int .u64 1, .int .i64 2] (by rfl) rfl rfl (by (try simp only [List.map_toArray, List.map_cons, List.map_nil]); first | done | rfl | (simp only [List.length_drop, List.length_take]; rfl)) ?_
                  with_reducible refine (turnbuckleref01_Put.calls kj2 1 2 t129 _ A6.out).mono ?_
                  rintro e w28 ⟨rfl, hb⟩
                  refine ⟨_, rfl, ?_⟩
                  have n0_ := Aside0.mk (below_step (by repeat (first | (with_reducible first | exact HB.out | apply below_alloc | apply pw_below_drewN | apply below_drew1) | exact HB.out)) hb)
                  clear HB
                  have HB := n0_
                  clear n0_
                  (try clear hb)
                  (try clear hb2)
                  (try clear hk)
                  (try clear hi)
                  refine hK.out _ _ ⟨((HB.out.cell (World.block_lt_of_cell? w _ hw131_0)).trans hw131_0), ((HB.out.cell (World.block_lt_of_cell? w _ hw137_0)).trans hw137_0)⟩ (fun hHeld => ?_)
                  clear hK K
                  refine norm_ (a' := ?_) ?_ ?_
                  rotate_left
                  ·show Act.put _ (some 20) _ = _
                   simp only [Act.put,lz1,lz2,lz3,i64_w,i32_w]
                   rfl
                  refine one_ (i := 2) (N := some 21) #[true,true,true,false,true,true,true,true,true,false,false,false,false,false,false,false,false,false,false,true,true,true,true,true,false,false,false,false,false,false] rfl rfl (one_of HT_.out (by kernel_rfl)) (by decide) (fun K hK => ?_)
                  refine goes_ Try.func27 (by kernel_rfl) rfl #[.int .u64 0, .int .i64 2] (by rfl) rfl rfl (by (try simp only [List.map_toArray, List.map_cons, List.map_nil]); first | done | rfl | (simp only [List.length_drop, List.length_take]; rfl)) ?_
                  with_reducible refine (turnbuckleref01_Put.calls kj2 0 2 t130 _ A7.out).mono ?_
                  rintro e w29 ⟨rfl, hb⟩
                  refine ⟨_, rfl, ?_⟩
                  have n0_ := Aside0.mk (below_step (by repeat (first | (with_reducible first | exact HB.out | apply below_alloc | apply pw_below_drewN | apply below_drew1) | exact HB.out)) hb)
                  clear HB
                  have HB := n0_
                  clear n0_
                  (try clear hb)
                  (try clear hb2)
                  (try clear hk)
                  (try clear hi)
                  refine hK.out _ _ ⟨((HB.out.cell (World.block_lt_of_cell? w _ hw131_0)).trans hw131_0), ((HB.out.cell (World.block_lt_of_cell? w _ hw137_0)).trans hw137_0)⟩ (fun hHeld => ?_)
                  clear hK K
                  refine norm_ (a' := ?_) ?_ ?_
                  rotate_left
                  ·show Act.put _ (some 21) _ = _
                   simp only [Act.put,lz1,lz2,lz3,i64_w,i32_w]
                   rfl
                  refine pure_ (i:=3) (N := some 22) (v:=?_) (a':=?_) #[true,true,true,true,true,true,true,true,true,false,false,false,false,false,false,false,false,false,false,true,true,true,true,true,false,false,false,false,false,false] rfl rfl (any_of HT_.out (by kernel_rfl)) (fun _ _ _ h=>h) (Or.inl ⟨by rfl, ?_⟩) ?_ ?_
                  rotate_left
                  ·intro w'
                   go_simp
                   first | with_reducible rfl | (refine Eq.trans (b := .ok (.value (.bool true)) w') ?_ (by with_reducible rfl); (repeat' (first | with_reducible rfl | split)); all_goals (first | rfl | (exfalso; simp_all; done))) | (refine Eq.trans (b := .ok (.value (.bool false)) w') ?_ (by with_reducible rfl); (repeat' (first | with_reducible rfl | split)); all_goals (first | rfl | (exfalso; simp_all; done)))
                  rotate_left
                  ·simp only [Act.put,lz1,lz2,lz3,i64_w,i32_w]
                   rfl
                  refine one_ (i := 9) (N := some 28) #[true,true,true,true,true,true,true,true,true,true,false,false,false,false,false,false,false,false,false,true,true,true,true,true,false,false,false,false,false,false] rfl rfl (one_of HT_.out (by kernel_rfl)) (by decide) (fun K hK => ?_)
                  refine goes_ Try.func27 (by kernel_rfl) rfl #[.int .u64 (IntKind.u64.wrap (rd l0 x6_1)), .int .i64 2] (by rfl) rfl rfl (by (try simp only [List.map_toArray, List.map_cons, List.map_nil]); first | done | rfl | (simp only [List.length_drop, List.length_take]; rfl)) ?_
                  with_reducible refine (turnbuckleref01_Put.calls kj2 (IntKind.u64.wrap (rd l0 x6_1)) 2 t132 _ A11.out).mono ?_
                  rintro e w30 ⟨rfl, hb⟩
                  refine ⟨_, rfl, ?_⟩
                  have n0_ := Aside0.mk (below_step (by repeat (first | (with_reducible first | exact HB.out | apply below_alloc | apply pw_below_drewN | apply below_drew1) | exact HB.out)) hb)
                  clear HB
                  have HB := n0_
                  clear n0_
                  (try clear hb)
                  (try clear hb2)
                  (try clear hk)
                  (try clear hi)
                  refine hK.out _ _ ⟨((HB.out.cell (World.block_lt_of_cell? w _ hw131_0)).trans hw131_0), ((HB.out.cell (World.block_lt_of_cell? w _ hw137_0)).trans hw137_0)⟩ (fun hHeld => ?_)
                  clear hK K
                  refine norm_ (a' := ?_) ?_ ?_
                  rotate_left
                  ·show Act.put _ (some 28) _ = _
                   simp only [Act.put,lz1,lz2,lz3,i64_w,i32_w]
                   rfl
                  refine pure_ (i:=10) (N := some 29) (v:=?_) (a':=?_) #[true,true,true,true,true,true,true,true,true,true,true,false,false,false,false,false,false,false,false,true,true,true,true,true,false,false,false,false,false,false] rfl rfl (any_of HT_.out (by kernel_rfl)) (fun _ _ _ h=>h) (Or.inl ⟨by rfl, ?_⟩) ?_ ?_
                  rotate_left
                  ·intro w'
                   go_simp
                   first | with_reducible rfl | (refine Eq.trans (b := .ok (.value (.bool true)) w') ?_ (by with_reducible rfl); (repeat' (first | with_reducible rfl | split)); all_goals (first | rfl | (exfalso; simp_all; done))) | (refine Eq.trans (b := .ok (.value (.bool false)) w') ?_ (by with_reducible rfl); (repeat' (first | with_reducible rfl | split)); all_goals (first | rfl | (exfalso; simp_all; done)))
                  rotate_left
                  ·simp only [Act.put,lz1,lz2,lz3,i64_w,i32_w]
                   rfl
                  refine one_ (i := 11) (N := some 30) #[true,true,true,true,true,true,true,true,true,true,true,true,false,false,false,false,false,false,false,true,true,true,true,true,false,false,false,false,false,false] rfl rfl (one_of HT_.out (by kernel_rfl)) (by decide) (fun K hK => ?_)
                  refine goes_ Try.func27 (by kernel_rfl) rfl #[.int .u64 1, .int .i64 2] (by rfl) rfl rfl (by (try simp only [List.map_toArray, List.map_cons, List.map_nil]); first | done | rfl | (simp only [List.length_drop, List.length_take]; rfl)) ?_
                  with_reducible refine (turnbuckleref01_Put.calls kj2 1 2 t133 _ A13.out).mono ?_
                  rintro e w31 ⟨rfl, hb⟩
                  refine ⟨_, rfl, ?_⟩
                  have n0_ := Aside0.mk (below_step (by repeat (first | (with_reducible first | exact HB.out | apply below_alloc | apply pw_below_drewN | apply below_drew1) | exact HB.out)) hb)
                  clear HB
                  have HB := n0_
                  clear n0_
                  (try clear hb)
                  (try clear hb2)
                  (try clear hk)
                  (try clear hi)
                  refine hK.out _ _ ⟨((HB.out.cell (World.block_lt_of_cell? w _ hw131_0)).trans hw131_0), ((HB.out.cell (World.block_lt_of_cell? w _ hw137_0)).trans hw137_0)⟩ (fun hHeld => ?_)
                  clear hK K
                  refine norm_ (a' := ?_) ?_ ?_
                  rotate_left
                  ·show Act.put _ (some 30) _ = _
                   simp only [Act.put,lz1,lz2,lz3,i64_w,i32_w]
                   rfl
                  refine pure_ (i:=12) (N := some 31) (v:=?_) (a':=?_) #[true,true,true,true,true,true,true,true,true,true,true,true,true,false,false,false,false,false,false,true,true,true,true,true,false,false,false,false,false,false] rfl rfl (any_of HT_.out (by kernel_rfl)) (fun _ _ _ h=>h) (Or.inl ⟨by rfl, ?_⟩) ?_ ?_
                  rotate_left
                  ·intro w'
                   go_simp
                   first | with_reducible rfl | (refine Eq.trans (b := .ok (.value (.bool true)) w') ?_ (by with_reducible rfl); (repeat' (first | with_reducible rfl | split)); all_goals (first | rfl | (exfalso; simp_all; done))) | (refine Eq.trans (b := .ok (.value (.bool false)) w') ?_ (by with_reducible rfl); (repeat' (first | with_reducible rfl | split)); all_goals (first | rfl | (exfalso; simp_all; done)))
                  rotate_left
                  ·simp only [Act.put,lz1,lz2,lz3,i64_w,i32_w]
                   rfl
                  refine one_ (i := 13) (N := some 32) #[true,true,true,true,true,true,true,true,true,true,true,true,true,true,false,false,false,false,false,true,true,true,true,true,false,false,false,false,false,false] rfl rfl (one_of HT_.out (by kernel_rfl)) (by decide) (fun K hK => ?_)
                  refine goes_ Try.func27 (by kernel_rfl) rfl #[.int .u64 0, .int .i64 4] (by rfl) rfl rfl (by (try simp only [List.map_toArray, List.map_cons, List.map_nil]); first | done | rfl | (simp only [List.length_drop, List.length_take]; rfl)) ?_
                  with_reducible refine (turnbuckleref01_Put.calls kj2 0 4 t134 _ A15.out).mono ?_
                  rintro e w32 ⟨rfl, hb⟩
                  refine ⟨_, rfl, ?_⟩
                  have n0_ := Aside0.mk (below_step (by repeat (first | (with_reducible first | exact HB.out | apply below_alloc | apply pw_below_drewN | apply below_drew1) | exact HB.out)) hb)
                  clear HB
                  have HB := n0_
                  clear n0_
                  (try clear hb)
                  (try clear hb2)
                  (try clear hk)
                  (try clear hi)
                  refine hK.out _ _ ⟨((HB.out.cell (World.block_lt_of_cell? w _ hw131_0)).trans hw131_0), ((HB.out.cell (World.block_lt_of_cell? w _ hw137_0)).trans hw137_0)⟩ (fun hHeld => ?_)
                  clear hK K
                  refine norm_ (a' := ?_) ?_ ?_
                  rotate_left
                  ·show Act.put _ (some 32) _ = _
                   simp only [Act.put,lz1,lz2,lz3,i64_w,i32_w]
                   rfl
                  refine pure_ (i:=14) (N := some 33) (v:=?_) (a':=?_) #[true,true,true,true,true,true,true,true,true,true,true,true,true,true,true,false,false,false,false,true,true,true,true,true,false,false,false,false,false,false] rfl rfl (any_of HT_.out (by kernel_rfl)) (fun _ _ _ h=>h) (Or.inl ⟨by rfl, ?_⟩) ?_ ?_
                  rotate_left
                  ·intro w'
                   go_simp
                   first | with_reducible rfl | (refine Eq.trans (b := .ok (.value (.bool true)) w') ?_ (by with_reducible rfl); (repeat' (first | with_reducible rfl | split)); all_goals (first | rfl | (exfalso; simp_all; done))) | (refine Eq.trans (b := .ok (.value (.bool false)) w') ?_ (by with_reducible rfl); (repeat' (first | with_reducible rfl | split)); all_goals (first | rfl | (exfalso; simp_all; done)))
                  rotate_left
                  ·simp only [Act.put,lz1,lz2,lz3,i64_w,i32_w]
                   rfl
                  refine one_ (i := 15) (N := some 34) #[true,true,true,true,true,true,true,true,true,true,true,true,true,true,true,true,false,false,false,true,true,true,true,true,false,false,false,false,false,false] rfl rfl (one_of HT_.out (by kernel_rfl)) (by decide) (fun K hK => ?_)
                  refine goes_ Try.func27 (by kernel_rfl) rfl #[.int .u64 20, .int .i64 4] (by rfl) rfl rfl (by (try simp only [List.map_toArray, List.map_cons, List.map_nil]); first | done | rfl | (simp only [List.length_drop, List.length_take]; rfl)) ?_
                  with_reducible refine (turnbuckleref01_Put.calls kj2 20 4 t135 _ A17.out).mono ?_
                  rintro e w33 ⟨rfl, hb⟩
                  refine ⟨_, rfl, ?_⟩
                  have n0_ := Aside0.mk (below_step (by repeat (first | (with_reducible first | exact HB.out | apply below_alloc | apply pw_below_drewN | apply below_drew1) | exact HB.out)) hb)
                  clear HB
                  have HB := n0_
                  clear n0_
                  (try clear hb)
                  (try clear hb2)
                  (try clear hk)
                  (try clear hi)
                  refine hK.out _ _ ⟨((HB.out.cell (World.block_lt_of_cell? w _ hw131_0)).trans hw131_0), ((HB.out.cell (World.block_lt_of_cell? w _ hw137_0)).trans hw137_0)⟩ (fun hHeld => ?_)
                  clear hK K
                  refine norm_ (a' := ?_) ?_ ?_
                  rotate_left
                  ·show Act.put _ (some 34) _ = _
                   simp only [Act.put,lz1,lz2,lz3,i64_w,i32_w]
                   rfl
                  refine pure_ (i:=16) (N := some 35) (v:=?_) (a':=?_) #[true,true,true,true,true,true,true,true,true,true,true,true,true,true,true,true,true,false,false,true,true,true,true,true,false,false,false,false,false,false] rfl rfl (any_of HT_.out (by kernel_rfl)) (fun _ _ _ h=>h) (Or.inl ⟨by rfl, ?_⟩) ?_ ?_
                  rotate_left
                  ·intro w'
                   go_simp
                   first | with_reducible rfl | (refine Eq.trans (b := .ok (.value (.bool true)) w') ?_ (by with_reducible rfl); (repeat' (first | with_reducible rfl | split)); all_goals (first | rfl | (exfalso; simp_all; done))) | (refine Eq.trans (b := .ok (.value (.bool false)) w') ?_ (by with_reducible rfl); (repeat' (first | with_reducible rfl | split)); all_goals (first | rfl | (exfalso; simp_all; done)))
                  rotate_left
                  ·simp only [Act.put,lz1,lz2,lz3,i64_w,i32_w]
                   rfl
                  refine one_ (i := 17) (N := some 36) #[true,true,true,true,true,true,true,true,true,true,true,true,true,true,true,true,true,true,false,true,true,true,true,true,false,false,false,false,false,false] rfl rfl (one_of HT_.out (by kernel_rfl)) (by decide) (fun K hK => ?_)
                  refine goes_ Try.func27 (by kernel_rfl) rfl #[.int .u64 28, .int .i64 4] (by rfl) rfl rfl (by (try simp only [List.map_toArray, List.map_cons, List.map_nil]); first | done | rfl | (simp only [List.length_drop, List.length_take]; rfl)) ?_
                  with_reducible refine (turnbuckleref01_Put.calls kj2 28 4 t136 _ A19.out).mono ?_
                  rintro e w34 ⟨rfl, hb⟩
                  refine ⟨_, rfl, ?_⟩
                  have n0_ := Aside0.mk (below_step (by repeat (first | (with_reducible first | exact HB.out | apply below_alloc | apply pw_below_drewN | apply below_drew1) | exact HB.out)) hb)
                  clear HB
                  have HB := n0_
                  clear n0_
                  (try clear hb)
                  (try clear hb2)
                  (try clear hk)
                  (try clear hi)
                  refine hK.out _ _ ⟨((HB.out.cell (World.block_lt_of_cell? w _ hw131_0)).trans hw131_0), ((HB.out.cell (World.block_lt_of_cell? w _ hw137_0)).trans hw137_0)⟩ (fun hHeld => ?_)
                  clear hK K
                  refine norm_ (a' := ?_) ?_ ?_
                  rotate_left
                  ·show Act.put _ (some 36) _ = _
                   simp only [Act.put,lz1,lz2,lz3,i64_w,i32_w]
                   rfl
                  refine pure_ (i:=18) (N := some 37) (v:=?_) (a':=?_) #[true,true,true,true,true,true,true,true,true,true,true,true,true,true,true,true,true,true,true,true,true,true,true,true,false,false,false,false,false,false] rfl rfl (any_of HT_.out (by kernel_rfl)) (fun _ _ _ h=>h) (Or.inl ⟨by rfl, ?_⟩) ?_ ?_
                  rotate_left
                  ·intro w'
                   go_simp
                   first | with_reducible rfl | (refine Eq.trans (b := .ok (.value (.bool true)) w') ?_ (by with_reducible rfl); (repeat' (first | with_reducible rfl | split)); all_goals (first | rfl | (exfalso; simp_all; done))) | (refine Eq.trans (b := .ok (.value (.bool false)) w') ?_ (by with_reducible rfl); (repeat' (first | with_reducible rfl | split)); all_goals (first | rfl | (exfalso; simp_all; done)))
                  rotate_left
                  ·simp only [Act.put,lz1,lz2,lz3,i64_w,i32_w]
                   rfl
                  refine one_ (i := 24) (N := some 43) #[true,true,true,true,true,true,true,true,true,true,true,true,true,true,true,true,true,true,true,true,true,true,true,true,true,false,false,false,false,false] rfl rfl (one_of HT_.out (by kernel_rfl)) (by decide) (fun K hK => ?_)
                  refine goes_ Try.func27 (by kernel_rfl) rfl #[.int .u64 (IntKind.u64.wrap (rd l1 x6_1)), .int .i64 4] (by rfl) rfl rfl (by (try simp only [List.map_toArray, List.map_cons, List.map_nil]); first | done | rfl | (simp only [List.length_drop, List.length_take]; rfl)) ?_
                  with_reducible refine (turnbuckleref01_Put.calls kj2 (IntKind.u64.wrap (rd l1 x6_1)) 4 t138 _ A22.out).mono ?_
                  rintro e w35 ⟨rfl, hb⟩
                  refine ⟨_, rfl, ?_⟩
                  have n0_ := Aside0.mk (below_step (by repeat (first | (with_reducible first | exact HB.out | apply below_alloc | apply pw_below_drewN | apply below_drew1) | exact HB.out)) hb)
                  clear HB
                  have HB := n0_
                  clear n0_
                  (try clear hb)
                  (try clear hb2)
                  (try clear hk)
                  (try clear hi)
                  refine hK.out _ _ ⟨((HB.out.cell (World.block_lt_of_cell? w _ hw131_0)).trans hw131_0), ((HB.out.cell (World.block_lt_of_cell? w _ hw137_0)).trans hw137_0)⟩ (fun hHeld => ?_)
                  clear hK K
                  refine norm_ (a' := ?_) ?_ ?_
                  rotate_left
                  ·show Act.put _ (some 43) _ = _
                   simp only [Act.put,lz1,lz2,lz3,i64_w,i32_w]
                   rfl
                  refine pure_ (i:=25) (N := some 44) (v:=?_) (a':=?_) #[true,true,true,true,true,true,true,true,true,true,true,true,true,true,true,true,true,true,true,true,true,true,true,true,true,true,false,false,false,false] rfl rfl (any_of HT_.out (by kernel_rfl)) (fun _ _ _ h=>h) (Or.inl ⟨by rfl, ?_⟩) ?_ ?_
                  rotate_left
                  ·intro w'
                   go_simp
                   first | with_reducible rfl | (refine Eq.trans (b := .ok (.value (.bool true)) w') ?_ (by with_reducible rfl); (repeat' (first | with_reducible rfl | split)); all_goals (first | rfl | (exfalso; simp_all; done))) | (refine Eq.trans (b := .ok (.value (.bool false)) w') ?_ (by with_reducible rfl); (repeat' (first | with_reducible rfl | split)); all_goals (first | rfl | (exfalso; simp_all; done)))
                  rotate_left
                  ·simp only [Act.put,lz1,lz2,lz3,i64_w,i32_w]
                   rfl
                  refine one_ (i := 26) (N := some 45) #[true,true,true,true,true,true,true,true,true,true,true,true,true,true,true,true,true,true,true,true,true,true,true,true,true,true,true,false,false,false] rfl rfl (one_of HT_.out (by kernel_rfl)) (by decide) (fun K hK => ?_)
                  refine goes_ Try.func27 (by kernel_rfl) rfl #[.int .u64 0, .int .i64 4] (by rfl) rfl rfl (by (try simp only [List.map_toArray, List.map_cons, List.map_nil]); first | done | rfl | (simp only [List.length_drop, List.length_take]; rfl)) ?_
                  with_reducible refine (turnbuckleref01_Put.calls kj2 0 4 t139 _ A24.out).mono ?_
                  rintro e w36 ⟨rfl, hb⟩
                  refine ⟨_, rfl, ?_⟩
                  have n0_ := Aside0.mk (below_step (by repeat (first | (with_reducible first | exact HB.out | apply below_alloc | apply pw_below_drewN | apply below_drew1) | exact HB.out)) hb)
                  clear HB
                  have HB := n0_
                  clear n0_
                  (try clear hb)
                  (try clear hb2)
                  (try clear hk)
                  (try clear hi)
                  refine hK.out _ _ ⟨((HB.out.cell (World.block_lt_of_cell? w _ hw131_0)).trans hw131_0), ((HB.out.cell (World.block_lt_of_cell? w _ hw137_0)).trans hw137_0)⟩ (fun hHeld => ?_)
                  clear hK K
                  refine norm_ (a' := ?_) ?_ ?_
                  rotate_left
                  ·show Act.put _ (some 45) _ = _
                   simp only [Act.put,lz1,lz2,lz3,i64_w,i32_w]
                   rfl
                  refine pure_ (i:=27) (N := some 46) (v:=?_) (a':=?_) #[true,true,true,true,true,true,true,true,true,true,true,true,true,true,true,true,true,true,true,true,true,true,true,true,true,true,true,true,false,false] rfl rfl (any_of HT_.out (by kernel_rfl)) (fun _ _ _ h=>h) (Or.inl ⟨by rfl, ?_⟩) ?_ ?_
                  rotate_left
                  ·intro w'
                   go_simp
                   first | with_reducible rfl | (refine Eq.trans (b := .ok (.value (.bool true)) w') ?_ (by with_reducible rfl); (repeat' (first | with_reducible rfl | split)); all_goals (first | rfl | (exfalso; simp_all; done))) | (refine Eq.trans (b := .ok (.value (.bool false)) w') ?_ (by with_reducible rfl); (repeat' (first | with_reducible rfl | split)); all_goals (first | rfl | (exfalso; simp_all; done)))
                  rotate_left
                  ·simp only [Act.put,lz1,lz2,lz3,i64_w,i32_w]
                   rfl
                  refine pure_ (i:=28) (N := some 47) (v:=?_) (a':=?_) #[true,true,true,true,true,true,true,true,true,true,true,true,true,true,true,true,true,true,true,true,true,true,true,true,true,true,true,true,true,false] rfl rfl (any_of HT_.out (by kernel_rfl)) (fun _ _ _ h=>h) (Or.inl ⟨by rfl, ?_⟩) ?_ ?_
                  rotate_left
                  ·intro w'
                   go_simp
                   first | with_reducible rfl | (refine Eq.trans (b := .ok (.value (.bool true)) w') ?_ (by with_reducible rfl); (repeat' (first | with_reducible rfl | split)); all_goals (first | rfl | (exfalso; simp_all; done))) | (refine Eq.trans (b := .ok (.value (.bool false)) w') ?_ (by with_reducible rfl); (repeat' (first | with_reducible rfl | split)); all_goals (first | rfl | (exfalso; simp_all; done)))
                  rotate_left
                  ·simp only [Act.put,lz1,lz2,lz3,i64_w,i32_w]
                   rfl
                  refine pure_ (i:=29) (N := some 5) (v:=?_) (a':=?_) #[true,true,true,true,true,true,true,true,true,true,true,true,true,true,true,true,true,true,true,true,true,true,true,true,true,true,true,true,true,true] rfl rfl (any_of HT_.out (by kernel_rfl)) (fun _ _ _ h=>h) (Or.inl ⟨by rfl, ?_⟩) ?_ ?_
                  rotate_left
                  ·intro w'
                   go_simp
                   with_reducible rfl
                  rotate_left
                  ·simp only [Act.put,lz1,lz2,lz3,i64_w,i32_w]
                   rfl
                  refine done_ (done_of HT_.out (by kernel_rfl)) ?_
                  try go_wp2
                  go_roundg kj2
                  case measure => have := HK1.out; have := HJ2.out; omega
                  case rel => exact ⟨(x5_1 ++ ((((((((t129 ++ t130) ++ t132) ++ t133) ++ t134) ++ t135) ++ t136) ++ t138) ++ t139)), (wrap64 (x6_1 + 1)), (by first | rfl | (simp; done) | (simp [*]; done)), (by first | rfl | (simp; done) | (simp [*]; done)), H', ⟨by have := HK1.out; have := HJ2.out; omega⟩, ⟨by repeat (first | (with_reducible first | exact HB.out | apply below_alloc | apply pw_below_drewN | apply below_drew1) | exact HB.out)⟩⟩
                 ·rw [if_neg c26] at H
                  exact absurd H (by simp)
                ·rw [if_neg c25] at H
                 exact absurd H (by simp)
               ·rw [if_neg c23] at H
                exact absurd H (by simp)
              ·rw [if_neg c21] at H
               exact absurd H (by simp)
             ·rw [if_neg c20] at H
              exact absurd H (by simp)
            ·rw [if_neg c18] at H
             exact absurd H (by simp)
           ·rw [if_neg c16] at H
            exact absurd H (by simp)
          ·rw [if_neg c14] at H
           exact absurd H (by simp)
         ·rw [if_neg c12] at H
          exact absurd H (by simp)
        ·rw [if_neg c10] at H
         exact absurd H (by simp)
       ·rw [if_neg c9] at H
        exact absurd H (by simp)
      ·rw [if_neg c8] at H
       exact absurd H (by simp)
     ·replace c5 := Bool.eq_false_iff.mpr c5
      subst c5
      have H1 : (some x5_1) = some r := by rw [if_neg (show ¬ (false = true) by decide)] at H; exact H
      clear H
      have H := H1
      clear H1
      obtain rfl := Option.some.inj H
      go_wp2
      go_ret
      exact ⟨by first | rfl | (simp [errW_none, errW_some] <;> rfl) | (simp [*, errW_none, errW_some] <;> rfl), by repeat (first | (with_reducible first | exact HB.out | apply below_alloc | apply pw_below_drewN | apply below_drew1) | exact HB.out)⟩

/-! ### fail_Fault_OK: function 14 -/
def fail_Fault_OK.f (a0_0 : Int) (a0_1 : Int) (a0_2 : ByteArray) : Option (Bool) := some (a0_0 == 0)
set_option maxHeartbeats 8000000 in
set_option maxRecDepth 100000 in
theorem fail_Fault_OK.calls (a0_0 : Int) (a0_1 : Int) (a0_2 : ByteArray) (r : Bool) (w : World) (h : fail_Fault_OK.f a0_0 a0_1 a0_2 = some r) :
  Calls Try.prog 14 #[.agg #[.int .i64 a0_0, .int .u64 a0_1, .string a0_2]] w fun e w' => e = .returned (.bool r) ∧ Below w.heap.size w w' := by
 have hu30 := Try.underlying30
 have HB := Aside0.mk (Below.refl w.heap.size w)
 have H : (some (a0_0 == 0)) = some r := h
 clear h
 obtain rfl := Option.some.inj H
 go_enter Try.func14, Try.ntmps14
 go_wp2_with (first | ((with_reducible refine gate_dst (N := 1) rfl ?_); refine box_event ?hg (N := 1) ?hd (cs := #[.int .i64 a0_0, .int .u64 a0_1, .string a0_2]) (t := 30) ?hr ?_; (case hd => rfl); (case hg => rfl); (case hr => first | (go_simp; done) | (go_simp; rfl)); intro gb140 hg w2 hbox hb; have n0_ := Aside0.mk (below_step (by repeat (first | (with_reducible first | exact HB.out | apply below_alloc | apply pw_below_drewN | apply below_drew1) | exact HB.out)) hb); have n1_ := Aside0.mk (hbox); have n2_ := Aside0.mk ((by rw [hg]; exact (below_size (by repeat (first | (with_reducible first | exact HB.out | apply below_alloc | apply pw_below_drewN | apply below_drew1) | exact HB.out))) : w.heap.size ≤ gb140)); have n3_ := Aside0.mk ((by rw [hg]; exact (below_size (by repeat (first | (with_reducible first | exact HB.out | apply below_alloc | apply pw_below_drewN | apply below_drew1) | exact HB.out))) : w.heap.size ≤ gb140)); clear HB; have HB := n0_; have BK140 := n1_; have GW140 := n2_; have GE140 := n3_; clear n0_ n1_ n2_ n3_; clear hb hbox hg; have hcz3_0 : w2.cell? ⟨gb140, 0, none⟩ = some (.int .i64 a0_0) := (blk_cell BK140.out 0).trans rfl; have hcz3_1 : w2.cell? ⟨gb140, 1, none⟩ = some (.int .u64 a0_1) := (blk_cell BK140.out 1).trans rfl; have hcz3_2 : w2.cell? ⟨gb140, 2, none⟩ = some (.string a0_2) := (blk_cell BK140.out 2).trans rfl; have hfz3_0 := blk_frozen BK140.out 0; have hfz3_1 := blk_frozen BK140.out 1; have hfz3_2 := blk_frozen BK140.out 2))
 go_ret
 exact ⟨by first | rfl | (simp [errW_none, errW_some] <;> rfl) | (simp [*, errW_none, errW_some] <;> rfl), by repeat (first | (with_reducible first | exact HB.out | apply below_alloc | apply pw_below_drewN | apply below_drew1 | refine below_set ?_ GE140.out) | exact HB.out)⟩

end Go.Proofs.Ytoaliamemkjfhaa.PAll
