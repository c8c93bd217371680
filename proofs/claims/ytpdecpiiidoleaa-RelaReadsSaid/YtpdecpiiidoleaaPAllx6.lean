-- Written by a program of this session (a changed copy of the print of the kit). Not trusted: Lean checks it.
import Derived.Test.YtpdecpiiidoleaaPAllx0
import Derived.Test.YtpdecpiiidoleaaPAllx5
namespace Go.Proofs.Ytpdecpiiidoleaa.PAll
open Go.RowKit Go.Proofs.YtpdecpiiidoleaaW.PrintWords Go.Proofs.YtpdecpiiidoleaaW.PrintLast Go.Proofs.YtpdecpiiidoleaaW.PrintMore
attribute [local go_sem] max2_int min2_int max_two min_two max_three min_three max_four min_four   -- for this text's walks alone
set_option linter.unusedVariables false
set_option linter.unusedSimpArgs false

/-! ### turnbuckleref15_Read: function 10 -/
mutual
def turnbuckleref15_Read.l0 : Nat → ByteArray → Int → List (S27) → Int → Option ((List (S27)) × Int × Int)
 | 0, _, _, _, _ => none
 | k + 1, x0, x1, x7, x8 => if x8 < (x0.size : Int) then (if 0 ≤ x8 then (if x8 ≤ (wrap64 (x8 + 8)) then (if (wrap64 (x8 + 8)) ≤ (x0.size : Int) then ((turnbuckleref01_Get.f k (x0.extract (x8 : Int).toNat ((wrap64 (x8 + 8)) : Int).toNat)).bind fun t136 => (if 0 ≤ (wrap64 (x8 + 8)) then (if (wrap64 (x8 + 8)) ≤ (wrap64 (x8 + 12)) then (if (wrap64 (x8 + 12)) ≤ (x0.size : Int) then ((turnbuckleref01_Get.f k (x0.extract ((wrap64 (x8 + 8)) : Int).toNat ((wrap64 (x8 + 12)) : Int).toNat)).bind fun t137 => (if 0 ≤ (wrap64 (x8 + 12)) then (if (wrap64 (x8 + 12)) ≤ (wrap64 (x8 + 16)) then (if (wrap64 (x8 + 16)) ≤ (x0.size : Int) then ((turnbuckleref01_Get.f k (x0.extract ((wrap64 (x8 + 12)) : Int).toNat ((wrap64 (x8 + 16)) : Int).toNat)).bind fun t138 => (if 0 ≤ (wrap64 (x8 + 16)) then (if (wrap64 (x8 + 16)) ≤ (wrap64 (x8 + 24)) then (if (wrap64 (x8 + 24)) ≤ (x0.size : Int) then ((turnbuckleref01_Get.f k (x0.extract ((wrap64 (x8 + 16)) : Int).toNat ((wrap64 (x8 + 24)) : Int).toNat)).bind fun t139 => (if (Int.tmod t136 8) = 0 then (turnbuckleref15_Read.j1 k x0 x1 x7 x8 0 t136 (wrap64 (t137)) (wrap64 (t138)) t139) else (turnbuckleref15_Read.j1 k x0 x1 x7 x8 13 t136 (wrap64 (t137)) (wrap64 (t138)) t139))) else (none)) else (none)) else (none))) else (none)) else (none)) else (none))) else (none)) else (none)) else (none))) else (none)) else (none)) else (none)) else (some (x7, 0, 0))
def turnbuckleref15_Read.j1 : Nat → ByteArray → Int → List (S27) → Int → Int → Int → Int → Int → Int → Option ((List (S27)) × Int × Int)
 | 0, _, _, _, _, _, _, _, _, _ => none
 | k + 1, x0, x1, x7, x8, x10, x141000, x141001, x141002, x141003 => if x141001 = 3 then (turnbuckleref15_Read.j2 k x0 x1 x7 x8 x10 (decide (x141002 > 0)) x141000 x141001 x141002 x141003) else (turnbuckleref15_Read.j2 k x0 x1 x7 x8 x10 false x141000 x141001 x141002 x141003)
def turnbuckleref15_Read.j2 : Nat → ByteArray → Int → List (S27) → Int → Int → Bool → Int → Int → Int → Int → Option ((List (S27)) × Int × Int)
 | 0, _, _, _, _, _, _, _, _, _, _ => none
 | k + 1, x0, x1, x7, x8, x10, x66, x141000, x141001, x141002, x141003 => if x66 = true then (turnbuckleref15_Read.j3 k x0 x1 x7 x8 4 x141000 x141001 x141002 x141003) else (turnbuckleref15_Read.j3 k x0 x1 x7 x8 x10 x141000 x141001 x141002 x141003)
def turnbuckleref15_Read.j3 : Nat → ByteArray → Int → List (S27) → Int → Int → Int → Int → Int → Int → Option ((List (S27)) × Int × Int)
 | 0, _, _, _, _, _, _, _, _, _ => none
 | k + 1, x0, x1, x7, x8, x10, x141000, x141001, x141002, x141003 => if x141001 = 3 then (turnbuckleref15_Read.j4 k x0 x1 x7 x8 x10 false x141000 x141001 x141002 x141003) else (turnbuckleref15_Read.j4 k x0 x1 x7 x8 x10 (decide (x141002 ≥ x1)) x141000 x141001 x141002 x141003)
def turnbuckleref15_Read.j4 : Nat → ByteArray → Int → List (S27) → Int → Int → Bool → Int → Int → Int → Int → Option ((List (S27)) × Int × Int)
 | 0, _, _, _, _, _, _, _, _, _, _ => none
 | k + 1, x0, x1, x7, x8, x10, x75, x141000, x141001, x141002, x141003 => if x75 = true then (turnbuckleref15_Read.j5 k x0 x1 x7 x8 5 x141000 x141001 x141002 x141003) else (turnbuckleref15_Read.j5 k x0 x1 x7 x8 x10 x141000 x141001 x141002 x141003)
def turnbuckleref15_Read.j5 : Nat → ByteArray → Int → List (S27) → Int → Int → Int → Int → Int → Int → Option ((List (S27)) × Int × Int)
 | 0, _, _, _, _, _, _, _, _, _ => none
 | k + 1, x0, x1, x7, x8, x10, x141000, x141001, x141002, x141003 => if x141001 < 2 then (turnbuckleref15_Read.j6 k x0 x1 x7 x8 x10 true x141000 x141001 x141002 x141003) else (turnbuckleref15_Read.j6 k x0 x1 x7 x8 x10 (decide (x141001 > 5)) x141000 x141001 x141002 x141003)
def turnbuckleref15_Read.j6 : Nat → ByteArray → Int → List (S27) → Int → Int → Bool → Int → Int → Int → Int → Option ((List (S27)) × Int × Int)
 | 0, _, _, _, _, _, _, _, _, _, _ => none
 | k + 1, x0, x1, x7, x8, x10, x83, x141000, x141001, x141002, x141003 => if x83 = true then (if 22 = 0 then (if x7.length < 4398046511104 then (turnbuckleref15_Read.l0 k x0 x1 (x7 ++ [(⟨x141000, x141001, x141002, x141003⟩ : S27)]) (wrap64 (x8 + 24))) else (none)) else (some (([] : List (S27)), 22, IntKind.u64.wrap (x8)))) else (if x10 = 0 then (if x7.length < 4398046511104 then (turnbuckleref15_Read.l0 k x0 x1 (x7 ++ [(⟨x141000, x141001, x141002, x141003⟩ : S27)]) (wrap64 (x8 + 24))) else (none)) else (some (([] : List (S27)), x10, IntKind.u64.wrap (x8))))
end
def turnbuckleref15_Read.f (k : Nat) (a0 : ByteArray) (a1 : Int) : Option ((List (S27)) × Int × Int) := if ((a0.size : Int) % 24) = 0 then (if (wrap64 ((a0.size : Int) / 24)) > 256 then (some (([] : List (S27)), 6, 0)) else (turnbuckleref15_Read.l0 k a0 a1 ([] : List (S27)) 0)) else (some (([] : List (S27)), 4, 0))
theorem turnbuckleref15_Read.mono_l : ∀ k, (∀ y0 y1 y2 y3, LeO (turnbuckleref15_Read.l0 k y0 y1 y2 y3) (turnbuckleref15_Read.l0 (k + 1) y0 y1 y2 y3)) ∧ (∀ y0 y1 y2 y3 y4 y5 y6 y7 y8, LeO (turnbuckleref15_Read.j1 k y0 y1 y2 y3 y4 y5 y6 y7 y8) (turnbuckleref15_Read.j1 (k + 1) y0 y1 y2 y3 y4 y5 y6 y7 y8)) ∧ (∀ y0 y1 y2 y3 y4 y5 y6 y7 y8 y9, LeO (turnbuckleref15_Read.j2 k y0 y1 y2 y3 y4 y5 y6 y7 y8 y9) (turnbuckleref15_Read.j2 (k + 1) y0 y1 y2 y3 y4 y5 y6 y7 y8 y9)) ∧ (∀ y0 y1 y2 y3 y4 y5 y6 y7 y8, LeO (turnbuckleref15_Read.j3 k y0 y1 y2 y3 y4 y5 y6 y7 y8) (turnbuckleref15_Read.j3 (k + 1) y0 y1 y2 y3 y4 y5 y6 y7 y8)) ∧ (∀ y0 y1 y2 y3 y4 y5 y6 y7 y8 y9, LeO (turnbuckleref15_Read.j4 k y0 y1 y2 y3 y4 y5 y6 y7 y8 y9) (turnbuckleref15_Read.j4 (k + 1) y0 y1 y2 y3 y4 y5 y6 y7 y8 y9)) ∧ (∀ y0 y1 y2 y3 y4 y5 y6 y7 y8, LeO (turnbuckleref15_Read.j5 k y0 y1 y2 y3 y4 y5 y6 y7 y8) (turnbuckleref15_Read.j5 (k + 1) y0 y1 y2 y3 y4 y5 y6 y7 y8)) ∧ (∀ y0 y1 y2 y3 y4 y5 y6 y7 y8 y9, LeO (turnbuckleref15_Read.j6 k y0 y1 y2 y3 y4 y5 y6 y7 y8 y9) (turnbuckleref15_Read.j6 (k + 1) y0 y1 y2 y3 y4 y5 y6 y7 y8 y9))
 | 0 => ⟨fun _ _ _ _ r h => by simp [turnbuckleref15_Read.l0] at h, fun _ _ _ _ _ _ _ _ _ r h => by simp [turnbuckleref15_Read.j1] at h, fun _ _ _ _ _ _ _ _ _ _ r h => by simp [turnbuckleref15_Read.j2] at h, fun _ _ _ _ _ _ _ _ _ r h => by simp [turnbuckleref15_Read.j3] at h, fun _ _ _ _ _ _ _ _ _ _ r h => by simp [turnbuckleref15_Read.j4] at h, fun _ _ _ _ _ _ _ _ _ r h => by simp [turnbuckleref15_Read.j5] at h, fun _ _ _ _ _ _ _ _ _ _ r h => by simp [turnbuckleref15_Read.j6] at h⟩
 | k + 1 => by
  obtain ⟨ih0, ih1, ih2, ih3, ih4, ih5, ih6⟩ := turnbuckleref15_Read.mono_l k
  refine ⟨?_, ?_, ?_, ?_, ?_, ?_, ?_⟩
  ·intro y0 y1 y2 y3
   unfold turnbuckleref15_Read.l0
   repeat' first
   | (with_reducible exact ih0 _ _ _ _)
   | (with_reducible exact ih1 _ _ _ _ _ _ _ _ _)
   | (with_reducible exact ih2 _ _ _ _ _ _ _ _ _ _)
   | (with_reducible exact ih3 _ _ _ _ _ _ _ _ _)
   | (with_reducible exact ih4 _ _ _ _ _ _ _ _ _ _)
   | (with_reducible exact ih5 _ _ _ _ _ _ _ _ _)
   | (with_reducible exact ih6 _ _ _ _ _ _ _ _ _ _)
   | (with_reducible exact turnbuckleref01_Get.mono _ _)
   | (with_reducible exact LeO.refl _)
   | (with_reducible exact LeO.none _)
   | (with_reducible refine LeO.ite ?_ ?_)
   | (with_reducible refine LeO.bind ?_ (fun _ => ?_))
   | exact ih0 _ _ _ _
   | exact ih1 _ _ _ _ _ _ _ _ _
   | exact ih2 _ _ _ _ _ _ _ _ _ _
   | exact ih3 _ _ _ _ _ _ _ _ _
   | exact ih4 _ _ _ _ _ _ _ _ _ _
   | exact ih5 _ _ _ _ _ _ _ _ _
   | exact ih6 _ _ _ _ _ _ _ _ _ _
   | exact turnbuckleref01_Get.mono _ _
   | exact LeO.none _
   | refine LeO.ite ?_ ?_
   | refine LeO.bind ?_ (fun _ => ?_)
  ·intro y0 y1 y2 y3 y4 y5 y6 y7 y8
   unfold turnbuckleref15_Read.j1
   repeat' first
   | (with_reducible exact ih0 _ _ _ _)
   | (with_reducible exact ih1 _ _ _ _ _ _ _ _ _)
   | (with_reducible exact ih2 _ _ _ _ _ _ _ _ _ _)
   | (with_reducible exact ih3 _ _ _ _ _ _ _ _ _)
   | (with_reducible exact ih4 _ _ _ _ _ _ _ _ _ _)
   | (with_reducible exact ih5 _ _ _ _ _ _ _ _ _)
   | (with_reducible exact ih6 _ _ _ _ _ _ _ _ _ _)
   | (with_reducible exact turnbuckleref01_Get.mono _ _)
   | (with_reducible exact LeO.refl _)
   | (with_reducible exact LeO.none _)
   | (with_reducible refine LeO.ite ?_ ?_)
   | (with_reducible refine LeO.bind ?_ (fun _ => ?_))
   | exact ih0 _ _ _ _
   | exact ih1 _ _ _ _ _ _ _ _ _
   | exact ih2 _ _ _ _ _ _ _ _ _ _
   | exact ih3 _ _ _ _ _ _ _ _ _
   | exact ih4 _ _ _ _ _ _ _ _ _ _
   | exact ih5 _ _ _ _ _ _ _ _ _
   | exact ih6 _ _ _ _ _ _ _ _ _ _
   | exact turnbuckleref01_Get.mono _ _
   | exact LeO.none _
   | refine LeO.ite ?_ ?_
   | refine LeO.bind ?_ (fun _ => ?_)
  ·intro y0 y1 y2 y3 y4 y5 y6 y7 y8 y9
   unfold turnbuckleref15_Read.j2
   repeat' first
   | (with_reducible exact ih0 _ _ _ _)
   | (with_reducible exact ih1 _ _ _ _ _ _ _ _ _)
   | (with_reducible exact ih2 _ _ _ _ _ _ _ _ _ _)
   | (with_reducible exact ih3 _ _ _ _ _ _ _ _ _)
   | (with_reducible exact ih4 _ _ _ _ _ _ _ _ _ _)
   | (with_reducible exact ih5 _ _ _ _ _ _ _ _ _)
   | (with_reducible exact ih6 _ _ _ _ _ _ _ _ _ _)
   | (with_reducible exact turnbuckleref01_Get.mono _ _)
   | (with_reducible exact LeO.refl _)
   | (with_reducible exact LeO.none _)
   | (with_reducible refine LeO.ite ?_ ?_)
   | (with_reducible refine LeO.bind ?_ (fun _ => ?_))
   | exact ih0 _ _ _ _
   | exact ih1 _ _ _ _ _ _ _ _ _
   | exact ih2 _ _ _ _ _ _ _ _ _ _
   | exact ih3 _ _ _ _ _ _ _ _ _
   | exact ih4 _ _ _ _ _ _ _ _ _ _
   | exact ih5 _ _ _ _ _ _ _ _ _
   | exact ih6 _ _ _ _ _ _ _ _ _ _
   | exact turnbuckleref01_Get.mono _ _
   | exact LeO.none _
   | refine LeO.ite ?_ ?_
   | refine LeO.bind ?_ (fun _ => ?_)
  ·intro y0 y1 y2 y3 y4 y5 y6 y7 y8
   unfold turnbuckleref15_Read.j3
   repeat' first
   | (with_reducible exact ih0 _ _ _ _)
   | (with_reducible exact ih1 _ _ _ _ _ _ _ _ _)
   | (with_reducible exact ih2 _ _ _ _ _ _ _ _ _ _)
   | (with_reducible exact ih3 _ _ _ _ _ _ _ _ _)
   | (with_reducible exact ih4 _ _ _ _ _ _ _ _ _ _)
   | (with_reducible exact ih5 _ _ _ _ _ _ _ _ _)
   | (with_reducible exact ih6 _ _ _ _ _ _ _ _ _ _)
   | (with_reducible exact turnbuckleref01_Get.mono _ _)
   | (with_reducible exact LeO.refl _)
   | (with_reducible exact LeO.none _)
   | (with_reducible refine LeO.ite ?_ ?_)
   | (with_reducible refine LeO.bind ?_ (fun _ => ?_))
   | exact ih0 _ _ _ _
   | exact ih1 _ _ _ _ _ _ _ _ _
   | exact ih2 _ _ _ _ _ _ _ _ _ _
   | exact ih3 _ _ _ _ _ _ _ _ _
   | exact ih4 _ _ _ _ _ _ _ _ _ _
   | exact ih5 _ _ _ _ _ _ _ _ _
   | exact ih6 _ _ _ _ _ _ _ _ _ _
   | exact turnbuckleref01_Get.mono _ _
   | exact LeO.none _
   | refine LeO.ite ?_ ?_
   | refine LeO.bind ?_ (fun _ => ?_)
  ·intro y0 y1 y2 y3 y4 y5 y6 y7 y8 y9
   unfold turnbuckleref15_Read.j4
   repeat' first
   | (with_reducible exact ih0 _ _ _ _)
   | (with_reducible exact ih1 _ _ _ _ _ _ _ _ _)
   | (with_reducible exact ih2 _ _ _ _ _ _ _ _ _ _)
   | (with_reducible exact ih3 _ _ _ _ _ _ _ _ _)
   | (with_reducible exact ih4 _ _ _ _ _ _ _ _ _ _)
   | (with_reducible exact ih5 _ _ _ _ _ _ _ _ _)
   | (with_reducible exact ih6 _ _ _ _ _ _ _ _ _ _)
   | (with_reducible exact turnbuckleref01_Get.mono _ _)
   | (with_reducible exact LeO.refl _)
   | (with_reducible exact LeO.none _)
   | (with_reducible refine LeO.ite ?_ ?_)
   | (with_reducible refine LeO.bind ?_ (fun _ => ?_))
   | exact ih0 _ _ _ _
   | exact ih1 _ _ _ _ _ _ _ _ _
   | exact ih2 _ _ _ _ _ _ _ _ _ _
   | exact ih3 _ _ _ _ _ _ _ _ _
   | exact ih4 _ _ _ _ _ _ _ _ _ _
   | exact ih5 _ _ _ _ _ _ _ _ _
   | exact ih6 _ _ _ _ _ _ _ _ _ _
   | exact turnbuckleref01_Get.mono _ _
   | exact LeO.none _
   | refine LeO.ite ?_ ?_
   | refine LeO.bind ?_ (fun _ => ?_)
  ·intro y0 y1 y2 y3 y4 y5 y6 y7 y8
   unfold turnbuckleref15_Read.j5
   repeat' first
   | (with_reducible exact ih0 _ _ _ _)
   | (with_reducible exact ih1 _ _ _ _ _ _ _ _ _)
   | (with_reducible exact ih2 _ _ _ _ _ _ _ _ _ _)
   | (with_reducible exact ih3 _ _ _ _ _ _ _ _ _)
   | (with_reducible exact ih4 _ _ _ _ _ _ _ _ _ _)
   | (with_reducible exact ih5 _ _ _ _ _ _ _ _ _)
   | (with_reducible exact ih6 _ _ _ _ _ _ _ _ _ _)
   | (with_reducible exact turnbuckleref01_Get.mono _ _)
   | (with_reducible exact LeO.refl _)
   | (with_reducible exact LeO.none _)
   | (with_reducible refine LeO.ite ?_ ?_)
   | (with_reducible refine LeO.bind ?_ (fun _ => ?_))
   | exact ih0 _ _ _ _
   | exact ih1 _ _ _ _ _ _ _ _ _
   | exact ih2 _ _ _ _ _ _ _ _ _ _
   | exact ih3 _ _ _ _ _ _ _ _ _
   | exact ih4 _ _ _ _ _ _ _ _ _ _
   | exact ih5 _ _ _ _ _ _ _ _ _
   | exact ih6 _ _ _ _ _ _ _ _ _ _
   | exact turnbuckleref01_Get.mono _ _
   | exact LeO.none _
   | refine LeO.ite ?_ ?_
   | refine LeO.bind ?_ (fun _ => ?_)
  ·intro y0 y1 y2 y3 y4 y5 y6 y7 y8 y9
   unfold turnbuckleref15_Read.j6
   repeat' first
   | (with_reducible exact ih0 _ _ _ _)
   | (with_reducible exact ih1 _ _ _ _ _ _ _ _ _)
   | (with_reducible exact ih2 _ _ _ _ _ _ _ _ _ _)
   | (with_reducible exact ih3 _ _ _ _ _ _ _ _ _)
   | (with_reducible exact ih4 _ _ _ _ _ _ _ _ _ _)
   | (with_reducible exact ih5 _ _ _ _ _ _ _ _ _)
   | (with_reducible exact ih6 _ _ _ _ _ _ _ _ _ _)
   | (with_reducible exact turnbuckleref01_Get.mono _ _)
   | (with_reducible exact LeO.refl _)
   | (with_reducible exact LeO.none _)
   | (with_reducible refine LeO.ite ?_ ?_)
   | (with_reducible refine LeO.bind ?_ (fun _ => ?_))
   | exact ih0 _ _ _ _
   | exact ih1 _ _ _ _ _ _ _ _ _
   | exact ih2 _ _ _ _ _ _ _ _ _ _
   | exact ih3 _ _ _ _ _ _ _ _ _
   | exact ih4 _ _ _ _ _ _ _ _ _ _
   | exact ih5 _ _ _ _ _ _ _ _ _
   | exact ih6 _ _ _ _ _ _ _ _ _ _
   | exact turnbuckleref01_Get.mono _ _
   | exact LeO.none _
   | refine LeO.ite ?_ ?_
   | refine LeO.bind ?_ (fun _ => ?_)
theorem turnbuckleref15_Read.mono : ∀ a0 a1 k, LeO (turnbuckleref15_Read.f k a0 a1) (turnbuckleref15_Read.f (k + 1) a0 a1) := by
 intro a0 a1 k
 obtain ⟨ih0, ih1, ih2, ih3, ih4, ih5, ih6⟩ := turnbuckleref15_Read.mono_l k
 unfold turnbuckleref15_Read.f
 repeat' first
   | (with_reducible exact ih0 _ _ _ _)
   | (with_reducible exact ih1 _ _ _ _ _ _ _ _ _)
   | (with_reducible exact ih2 _ _ _ _ _ _ _ _ _ _)
   | (with_reducible exact ih3 _ _ _ _ _ _ _ _ _)
   | (with_reducible exact ih4 _ _ _ _ _ _ _ _ _ _)
   | (with_reducible exact ih5 _ _ _ _ _ _ _ _ _)
   | (with_reducible exact ih6 _ _ _ _ _ _ _ _ _ _)
   | (with_reducible exact turnbuckleref01_Get.mono _ _)
   | (with_reducible exact LeO.refl _)
   | (with_reducible exact LeO.none _)
   | (with_reducible refine LeO.ite ?_ ?_)
   | (with_reducible refine LeO.bind ?_ (fun _ => ?_))
   | exact ih0 _ _ _ _
   | exact ih1 _ _ _ _ _ _ _ _ _
   | exact ih2 _ _ _ _ _ _ _ _ _ _
   | exact ih3 _ _ _ _ _ _ _ _ _
   | exact ih4 _ _ _ _ _ _ _ _ _ _
   | exact ih5 _ _ _ _ _ _ _ _ _
   | exact ih6 _ _ _ _ _ _ _ _ _ _
   | exact turnbuckleref01_Get.mono _ _
   | exact LeO.none _
   | refine LeO.ite ?_ ?_
   | refine LeO.bind ?_ (fun _ => ?_)
def turnbuckleref15_Read.T9 : Bool × List (List Nat × List Nat) := (true, [([], []), ([], []), ([], []), ([2], [2]), ([0, 1, 3], [0, 1, 3]), ([4], [4]), ([], []), ([], []), ([7], [7]), ([], []), ([9], [9]), ([6, 8, 10], [6, 8, 10]), ([11, 5], [11]), ([12], [12]), ([], []), ([], []), ([15], [15]), ([], []), ([17], [17]), ([14, 16, 18], [14, 16, 18]), ([19, 12], [19]), ([20], [20]), ([], []), ([], []), ([23], [23]), ([], []), ([25], [25]), ([22, 24, 26], [22, 24, 26]), ([27, 20], [27]), ([5, 13, 21, 28], [5, 13, 21, 28]), ([], []), ([30, 29, 28, 0, 1, 2, 3, 4, 5, 6, 7, 8, 9, 10, 11, 12, 13, 14, 15, 16, 17, 18, 19, 20, 21, 22, 23, 24, 25, 26, 27, 28, 29, 30], [29, 30])])
def turnbuckleref15_Read.B9 : List Nat := [0, 0, 0, 4, 15, 31, 0, 0, 128, 0, 512, 1984, 4095, 8191, 0, 0, 32768, 0, 131072, 507904, 1040383, 2088959, 0, 0, 8388608, 0, 33554432, 130023424, 266330111, 536870911, 0, 2147483647]
theorem turnbuckleref15_Read.tab9 : rtab .any (opsOf Try.f10 9) = turnbuckleref15_Read.T9 := by kernel_rfl
theorem turnbuckleref15_Read.bits9 : waitsOk turnbuckleref15_Read.T9.2 turnbuckleref15_Read.B9 = true := by kernel_rfl
set_option maxHeartbeats 8000000 in
set_option maxRecDepth 100000 in
theorem turnbuckleref15_Read.calls (k : Nat) (a0 : ByteArray) (a1 : Int) (r1 : List (S27)) (r2 : Int) (r3 : Int) (w : World) (h : turnbuckleref15_Read.f k a0 a1 = some (r1, r2, r3)) :
  Calls Try.prog 10 #[.string a0, .int .i64 a1] w fun e w' => ∃ v0_ : Value, e = .returned (.tuple #[v0_, .int .i64 r2, .int .u64 r3]) ∧ Kd.R k27 27 w' w.heap.size (fun _ => True) v0_ r1 ∧ Below w.heap.size w w' := by
 have hu27 := Try.underlying27
 have HB := Aside0.mk (Below.refl w.heap.size w)
 have H : (if ((a0.size : Int) % 24) = 0 then (if (wrap64 ((a0.size : Int) / 24)) > 256 then (some (([] : List (S27)), 6, 0)) else (turnbuckleref15_Read.l0 k a0 a1 ([] : List (S27)) 0)) else (some (([] : List (S27)), 4, 0))) = some (r1, r2, r3) := h
 clear h
 by_cases c3 : ((a0.size : Int) % 24) = 0
 ·rw [if_pos c3] at H
  have c3b0 : (((a0.size : Int) % 24) == 0) = true := beq_iff_eq.mpr c3
  have c3b1 : (((a0.size : Int) % 24) != 0) = false := bne_eq_false_iff_eq.mpr c3
  clear c3
  by_cases c4 : (wrap64 ((a0.size : Int) / 24)) > 256
  ·rw [if_pos c4] at H
   have c4b0 : decide (256 < (wrap64 ((a0.size : Int) / 24))) = true := decide_eq_true c4
   clear c4
   simp only [Option.some.injEq, Prod.mk.injEq] at H
   obtain ⟨rfl, rfl, rfl⟩ := H
   go_enter Try.func10, Try.ntmps10
   go_wp2
   go_ret3
   exact ⟨_, by first | rfl | (simp [errW_none, errW_some] <;> rfl) | (simp [*, errW_none, errW_some] <;> rfl), by first | exact Kd.R_nil _ _ _ _ _ | exact Kd.N_nil _ _ _ _ _ | exact Kd.V_nil _ _ _ _ _ | exact Kd.Q_nil _ _ _ _ _ | exact Kd.S_nil _ _ _ _ _, by repeat (first | (with_reducible first | exact HB.out | apply below_alloc | apply pw_below_drewN | apply below_drew1) | exact HB.out)⟩
  ·rw [if_neg c4] at H
   have c4b0 : decide (256 < (wrap64 ((a0.size : Int) / 24))) = false := decide_eq_false c4
   clear c4
   have H' := Aside0.mk H
   clear H
   go_enter Try.func10, Try.ntmps10
   go_wp2
   go_loopg [7, 8] k (fun kq v7 v8 w' => ∃ (x7_1 : List (S27)) (x8_1 : Int), v8 = .int .i64 x8_1 ∧ Aside0 (turnbuckleref15_Read.l0 kq a0 a1 x7_1 x8_1 = some (r1, r2, r3)) ∧ Aside0 (kq ≤ k) ∧ Aside0 (Kd.R k27 27 w' w.heap.size (fun _ => True) v7 x7_1) ∧ Aside0 (Below w.heap.size w w'))
   case atStart => exact ⟨(([] : List (S27))), (0), (by first | rfl | (simp; done) | (simp [*]; done)), H', ⟨Nat.le_refl _⟩, ⟨by first | exact Kd.R_nil _ _ _ _ _ | exact Kd.N_nil _ _ _ _ _ | exact Kd.V_nil _ _ _ _ _ | exact Kd.Q_nil _ _ _ _ _ | exact Kd.S_nil _ _ _ _ _⟩, ⟨by repeat (first | (with_reducible first | exact HB.out | apply below_alloc | apply pw_below_drewN | apply below_drew1) | exact HB.out)⟩⟩
   case round =>
    clear H'
    try clear c1
    try clear p2
    try clear c3
    try clear c3b0
    try clear c3b1
    try clear c4
    try clear c4b0
    obtain ⟨x7_1, x8_1, rfl, HA, HK1, HO_7, HB⟩ := hrel
    cases gk with
    | zero => exact absurd HA.out (by simp [turnbuckleref15_Read.l0])
    | succ k1 =>
     have H := HA.out
     clear HA
     simp only [turnbuckleref15_Read.l0] at H
     by_cases c5 : x8_1 < (a0.size : Int)
     ·rw [if_pos c5] at H
      have c5b0 : decide (x8_1 < (a0.size : Int)) = true := decide_eq_true c5
      clear c5
      by_cases c6 : 0 ≤ x8_1
      ·rw [if_pos c6] at H
       have c6b0 := eq_true c6
       have c6b1 : decide (0 ≤ x8_1) = true := decide_eq_true c6
       clear c6
       by_cases c7 : x8_1 ≤ (wrap64 (x8_1 + 8))
       ·rw [if_pos c7] at H
        have c7b0 := eq_true c7
        have c7b1 : decide (x8_1 ≤ (wrap64 (x8_1 + 8))) = true := decide_eq_true c7
        by_cases c8 : (wrap64 (x8_1 + 8)) ≤ (a0.size : Int)
        ·rw [if_pos c8] at H
         have c8b0 := eq_true c8
         have c8b1 : decide ((wrap64 (x8_1 + 8)) ≤ (a0.size : Int)) = true := decide_eq_true c8
         replace H := Option.bind_eq_some_iff.mp H
         obtain ⟨t136, A90, H⟩ := H
         replace H : (if 0 ≤ (wrap64 (x8_1 + 8)) then (if (wrap64 (x8_1 + 8)) ≤ (wrap64 (x8_1 + 12)) then (if (wrap64 (x8_1 + 12)) ≤ (a0.size : Int) then ((turnbuckleref01_Get.f k1 (a0.extract ((wrap64 (x8_1 + 8)) : Int).toNat ((wrap64 (x8_1 + 12)) : Int).toNat)).bind fun t137 => (if 0 ≤ (wrap64 (x8_1 + 12)) then (if (wrap64 (x8_1 + 12)) ≤ (wrap64 (x8_1 + 16)) then (if (wrap64 (x8_1 + 16)) ≤ (a0.size : Int) then ((turnbuckleref01_Get.f k1 (a0.extract ((wrap64 (x8_1 + 12)) : Int).toNat ((wrap64 (x8_1 + 16)) : Int).toNat)).bind fun t138 => (if 0 ≤ (wrap64 (x8_1 + 16)) then (if (wrap64 (x8_1 + 16)) ≤ (wrap64 (x8_1 + 24)) then (if (wrap64 (x8_1 + 24)) ≤ (a0.size : Int) then ((turnbuckleref01_Get.f k1 (a0.extract ((wrap64 (x8_1 + 16)) : Int).toNat ((wrap64 (x8_1 + 24)) : Int).toNat)).bind fun t139 => (if (Int.tmod t136 8) = 0 then (turnbuckleref15_Read.j1 k1 a0 a1 x7_1 x8_1 0 t136 (wrap64 (t137)) (wrap64 (t138)) t139) else (turnbuckleref15_Read.j1 k1 a0 a1 x7_1 x8_1 13 t136 (wrap64 (t137)) (wrap64 (t138)) t139))) else (none)) else (none)) else (none))) else (none)) else (none)) else (none))) else (none)) else (none)) else (none)) = some (r1, r2, r3) := H
         have A9 := Aside0.mk A90
         clear A90
         obtain ⟨ji10, hji10⟩ : ∃ j_ : Int, (wrap64 (x8_1 + 8)) = j_ := ⟨_, rfl⟩
         replace H : (if 0 ≤ (ji10) then (if (ji10) ≤ (wrap64 (x8_1 + 12)) then (if (wrap64 (x8_1 + 12)) ≤ (a0.size : Int) then ((turnbuckleref01_Get.f k1 (a0.extract ((ji10) : Int).toNat ((wrap64 (x8_1 + 12)) : Int).toNat)).bind fun t137 => (if 0 ≤ (wrap64 (x8_1 + 12)) then (if (wrap64 (x8_1 + 12)) ≤ (wrap64 (x8_1 + 16)) then (if (wrap64 (x8_1 + 16)) ≤ (a0.size : Int) then ((turnbuckleref01_Get.f k1 (a0.extract ((wrap64 (x8_1 + 12)) : Int).toNat ((wrap64 (x8_1 + 16)) : Int).toNat)).bind fun t138 => (if 0 ≤ (wrap64 (x8_1 + 16)) then (if (wrap64 (x8_1 + 16)) ≤ (wrap64 (x8_1 + 24)) then (if (wrap64 (x8_1 + 24)) ≤ (a0.size : Int) then ((turnbuckleref01_Get.f k1 (a0.extract ((wrap64 (x8_1 + 16)) : Int).toNat ((wrap64 (x8_1 + 24)) : Int).toNat)).bind fun t139 => (if (Int.tmod t136 8) = 0 then (turnbuckleref15_Read.j1 k1 a0 a1 x7_1 x8_1 0 t136 (wrap64 (t137)) (wrap64 (t138)) t139) else (turnbuckleref15_Read.j1 k1 a0 a1 x7_1 x8_1 13 t136 (wrap64 (t137)) (wrap64 (t138)) t139))) else (none)) else (none)) else (none))) else (none)) else (none)) else (none))) else (none)) else (none)) else (none)) = some (r1, r2, r3) := by first | (rw [hji10] at H; exact H) | (simp only [hji10] at H ⊢; exact H)
         (try rw [hji10] at c7b0)
         (try rw [hji10] at c7b1)
         (try rw [hji10] at c7)
         (try rw [hji10] at c8b0)
         (try rw [hji10] at c8b1)
         (try rw [hji10] at c8)
         (try rw [hji10] at A9)
         have hji10w : (IntKind.i64.wrap (x8_1 + 8)) = ji10 := (i64_w _).trans hji10
         by_cases c11 : 0 ≤ (ji10)
         ·rw [if_pos c11] at H
          have c11b0 := eq_true c11
          have c11b1 : decide (0 ≤ (ji10)) = true := decide_eq_true c11
          clear c11
          by_cases c12 : (ji10) ≤ (wrap64 (x8_1 + 12))
          ·rw [if_pos c12] at H
           have c12b0 := eq_true c12
           have c12b1 : decide ((ji10) ≤ (wrap64 (x8_1 + 12))) = true := decide_eq_true c12
           by_cases c13 : (wrap64 (x8_1 + 12)) ≤ (a0.size : Int)
           ·rw [if_pos c13] at H
            have c13b0 := eq_true c13
            have c13b1 : decide ((wrap64 (x8_1 + 12)) ≤ (a0.size : Int)) = true := decide_eq_true c13
            replace H := Option.bind_eq_some_iff.mp H
            obtain ⟨t137, A140, H⟩ := H
            replace H : (if 0 ≤ (wrap64 (x8_1 + 12)) then (if (wrap64 (x8_1 + 12)) ≤ (wrap64 (x8_1 + 16)) then (if (wrap64 (x8_1 + 16)) ≤ (a0.size : Int) then ((turnbuckleref01_Get.f k1 (a0.extract ((wrap64 (x8_1 + 12)) : Int).toNat ((wrap64 (x8_1 + 16)) : Int).toNat)).bind fun t138 => (if 0 ≤ (wrap64 (x8_1 + 16)) then (if (wrap64 (x8_1 + 16)) ≤ (wrap64 (x8_1 + 24)) then (if (wrap64 (x8_1 + 24)) ≤ (a0.size : Int) then ((turnbuckleref01_Get.f k1 (a0.extract ((wrap64 (x8_1 + 16)) : Int).toNat ((wrap64 (x8_1 + 24)) : Int).toNat)).bind fun t139 => (if (Int.tmod t136 8) = 0 then (turnbuckleref15_Read.j1 k1 a0 a1 x7_1 x8_1 0 t136 (wrap64 (t137)) (wrap64 (t138)) t139) else (turnbuckleref15_Read.j1 k1 a0 a1 x7_1 x8_1 13 t136 (wrap64 (t137)) (wrap64 (t138)) t139))) else (none)) else (none)) else (none))) else (none)) else (none)) else (none)) = some (r1, r2, r3) := H
            have A14 := Aside0.mk A140
            clear A140
            obtain ⟨ji15, hji15⟩ : ∃ j_ : Int, (wrap64 (x8_1 + 12)) = j_ := ⟨_, rfl⟩
            replace H : (if 0 ≤ (ji15) then (if (ji15) ≤ (wrap64 (x8_1 + 16)) then (if (wrap64 (x8_1 + 16)) ≤ (a0.size : Int) then ((turnbuckleref01_Get.f k1 (a0.extract ((ji15) : Int).toNat ((wrap64 (x8_1 + 16)) : Int).toNat)).bind fun t138 => (if 0 ≤ (wrap64 (x8_1 + 16)) then (if (wrap64 (x8_1 + 16)) ≤ (wrap64 (x8_1 + 24)) then (if (wrap64 (x8_1 + 24)) ≤ (a0.size : Int) then ((turnbuckleref01_Get.f k1 (a0.extract ((wrap64 (x8_1 + 16)) : Int).toNat ((wrap64 (x8_1 + 24)) : Int).toNat)).bind fun t139 => (if (Int.tmod t136 8) = 0 then (turnbuckleref15_Read.j1 k1 a0 a1 x7_1 x8_1 0 t136 (wrap64 (t137)) (wrap64 (t138)) t139) else (turnbuckleref15_Read.j1 k1 a0 a1 x7_1 x8_1 13 t136 (wrap64 (t137)) (wrap64 (t138)) t139))) else (none)) else (none)) else (none))) else (none)) else (none)) else (none)) = some (r1, r2, r3) := by first | (rw [hji15] at H; exact H) | (simp only [hji15] at H ⊢; exact H)
            (try rw [hji15] at c12b0)
            (try rw [hji15] at c12b1)
            (try rw [hji15] at c12)
            (try rw [hji15] at c13b0)
            (try rw [hji15] at c13b1)
            (try rw [hji15] at c13)
            (try rw [hji15] at A9)
            (try rw [hji15] at A14)
            have hji15w : (IntKind.i64.wrap (x8_1 + 12)) = ji15 := (i64_w _).trans hji15
            by_cases c16 : 0 ≤ (ji15)
            ·rw [if_pos c16] at H
             have c16b0 := eq_true c16
             have c16b1 : decide (0 ≤ (ji15)) = true := decide_eq_true c16
             clear c16
             by_cases c17 : (ji15) ≤ (wrap64 (x8_1 + 16))
             ·rw [if_pos c17] at H
              have c17b0 := eq_true c17
              have c17b1 : decide ((ji15) ≤ (wrap64 (x8_1 + 16))) = true := decide_eq_true c17
              by_cases c18 : (wrap64 (x8_1 + 16)) ≤ (a0.size : Int)
              ·rw [if_pos c18] at H
               have c18b0 := eq_true c18
               have c18b1 : decide ((wrap64 (x8_1 + 16)) ≤ (a0.size : Int)) = true := decide_eq_true c18
               replace H := Option.bind_eq_some_iff.mp H
               obtain ⟨t138, A190, H⟩ := H
               replace H : (if 0 ≤ (wrap64 (x8_1 + 16)) then (if (wrap64 (x8_1 + 16)) ≤ (wrap64 (x8_1 + 24)) then (if (wrap64 (x8_1 + 24)) ≤ (a0.size : Int) then ((turnbuckleref01_Get.f k1 (a0.extract ((wrap64 (x8_1 + 16)) : Int).toNat ((wrap64 (x8_1 + 24)) : Int).toNat)).bind fun t139 => (if (Int.tmod t136 8) = 0 then (turnbuckleref15_Read.j1 k1 a0 a1 x7_1 x8_1 0 t136 (wrap64 (t137)) (wrap64 (t138)) t139) else (turnbuckleref15_Read.j1 k1 a0 a1 x7_1 x8_1 13 t136 (wrap64 (t137)) (wrap64 (t138)) t139))) else (none)) else (none)) else (none)) = some (r1, r2, r3) := H
               have A19 := Aside0.mk A190
               clear A190
               obtain ⟨ji20, hji20⟩ : ∃ j_ : Int, (wrap64 (x8_1 + 16)) = j_ := ⟨_, rfl⟩
               replace H : (if 0 ≤ (ji20) then (if (ji20) ≤ (wrap64 (x8_1 + 24)) then (if (wrap64 (x8_1 + 24)) ≤ (a0.size : Int) then ((turnbuckleref01_Get.f k1 (a0.extract ((ji20) : Int).toNat ((wrap64 (x8_1 + 24)) : Int).toNat)).bind fun t139 => (if (Int.tmod t136 8) = 0 then (turnbuckleref15_Read.j1 k1 a0 a1 x7_1 x8_1 0 t136 (wrap64 (t137)) (wrap64 (t138)) t139) else (turnbuckleref15_Read.j1 k1 a0 a1 x7_1 x8_1 13 t136 (wrap64 (t137)) (wrap64 (t138)) t139))) else (none)) else (none)) else (none)) = some (r1, r2, r3) := by first | (rw [hji20] at H; exact H) | (simp only [hji20] at H ⊢; exact H)
               (try rw [hji20] at c17b0)
               (try rw [hji20] at c17b1)
               (try rw [hji20] at c17)
               (try rw [hji20] at c18b0)
               (try rw [hji20] at c18b1)
               (try rw [hji20] at c18)
               (try rw [hji20] at A9)
               (try rw [hji20] at A14)
               (try rw [hji20] at A19)
               have hji20w : (IntKind.i64.wrap (x8_1 + 16)) = ji20 := (i64_w _).trans hji20
               by_cases c21 : 0 ≤ (ji20)
               ·rw [if_pos c21] at H
                have c21b0 := eq_true c21
                have c21b1 : decide (0 ≤ (ji20)) = true := decide_eq_true c21
                clear c21
                by_cases c22 : (ji20) ≤ (wrap64 (x8_1 + 24))
                ·rw [if_pos c22] at H
                 have c22b0 := eq_true c22
                 have c22b1 : decide ((ji20) ≤ (wrap64 (x8_1 + 24))) = true := decide_eq_true c22
                 by_cases c23 : (wrap64 (x8_1 + 24)) ≤ (a0.size : Int)
                 ·rw [if_pos c23] at H
                  have c23b0 := eq_true c23
                  have c23b1 : decide ((wrap64 (x8_1 + 24)) ≤ (a0.size : Int)) = true := decide_eq_true c23
                  replace H := Option.bind_eq_some_iff.mp H
                  obtain ⟨t139, A240, H⟩ := H
                  replace H : (if (Int.tmod t136 8) = 0 then (turnbuckleref15_Read.j1 k1 a0 a1 x7_1 x8_1 0 t136 (wrap64 (t137)) (wrap64 (t138)) t139) else (turnbuckleref15_Read.j1 k1 a0 a1 x7_1 x8_1 13 t136 (wrap64 (t137)) (wrap64 (t138)) t139)) = some (r1, r2, r3) := H
                  have A24 := Aside0.mk A240
                  clear A240
                  have HC25 := Aside0.mk H
                  clear H
                  try go_wp2
                  have n0_ := Aside0.mk (Kd.R_drew HO_7.out)
                  have n1_ := Aside0.mk (below_drew1 HB.out)
                  clear HO_7
                  clear HB
                  have HO_7 := n0_
                  have HB := n1_
                  clear n0_ n1_
                  refine start_ (n := 32) (S := fun w' => True) (ds := []) #[false, false, false, false, false, false, false, false, false, false, false, false, false, false, false, false, false, false, false, false, false, false, false, false, false, false, false, false, false, false, false, false] (by kernel_rfl) rfl rfl trivial (fun hHeld => ?_); refine with_tabW turnbuckleref15_Read.tab9 turnbuckleref15_Read.bits9 (fun HT_ HW_ => ?_)
                  generalize wr.drew = w26 at HO_7 HB hHeld ⊢
                  refine pure_ (i := 0) (N := some 25) (v := ?_) (a' := ?_) #[true, false, false, false, false, false, false, false, false, false, false, false, false, false, false, false, false, false, false, false, false, false, false, false, false, false, false, false, false, false, false, false] rfl rfl (any_of HT_.out (by kernel_rfl)) (fun _ _ _ h => h) (Or.inl ⟨by rfl, ?_⟩) ?_ ?_
                  rotate_left
                  ·intro w'
                   go_simp
                   with_reducible rfl
                  rotate_left
                  ·simp only [Act.put, List.setIfInBounds_toArray, List.set_cons_zero, List.set_cons_succ, i64_w, i32_w]
                   rfl
                  refine pure_ (i := 1) (N := some 26) (v := ?_) (a' := ?_) #[true, true, false, false, false, false, false, false, false, false, false, false, false, false, false, false, false, false, false, false, false, false, false, false, false, false, false, false, false, false, false, false] rfl rfl (any_of HT_.out (by kernel_rfl)) (fun _ _ _ h => h) (Or.inl ⟨by rfl, ?_⟩) ?_ ?_
                  rotate_left
                  ·intro w'
                   go_simp
                   with_reducible rfl
                  rotate_left
                  ·simp only [Act.put, List.setIfInBounds_toArray, List.set_cons_zero, List.set_cons_succ, i64_w, i32_w]
                   rfl
                  refine pure_ (i := 2) (N := some 27) (v := ?_) (a' := ?_) #[true, true, true, false, false, false, false, false, false, false, false, false, false, false, false, false, false, false, false, false, false, false, false, false, false, false, false, false, false, false, false, false] rfl rfl (any_of HT_.out (by kernel_rfl)) (fun _ _ _ h => h) (Or.inl ⟨by rfl, ?_⟩) ?_ ?_
                  rotate_left
                  ·intro w'
                   go_simp
                   with_reducible rfl
                  rotate_left
                  ·simp only [Act.put, List.setIfInBounds_toArray, List.set_cons_zero, List.set_cons_succ, i64_w, i32_w]
                   rfl
                  refine pure_ (i := 3) (N := some 28) (v := ?_) (a' := ?_) #[true, true, true, true, false, false, false, false, false, false, false, false, false, false, false, false, false, false, false, false, false, false, false, false, false, false, false, false, false, false, false, false] rfl rfl (any_of HT_.out (by kernel_rfl)) (fun _ _ _ h => h) (Or.inl ⟨by rfl, ?_⟩) ?_ ?_
                  rotate_left
                  ·intro w'
                   go_simp
                   with_reducible rfl
                  rotate_left
                  ·simp only [Act.put, List.setIfInBounds_toArray, List.set_cons_zero, List.set_cons_succ, i64_w, i32_w]
                   rfl
                  refine pure_ (i := 4) (N := some 29) (v := ?_) (a' := ?_) #[true, true, true, true, true, false, false, false, false, false, false, false, false, false, false, false, false, false, false, false, false, false, false, false, false, false, false, false, false, false, false, false] rfl rfl (any_of HT_.out (by kernel_rfl)) (fun _ _ _ h => h) (Or.inl ⟨by rfl, ?_⟩) ?_ ?_
                  rotate_left
                  ·intro w'
                   go_simp
                   with_reducible rfl
                  rotate_left
                  ·simp only [Act.put, List.setIfInBounds_toArray, List.set_cons_zero, List.set_cons_succ, i64_w, i32_w]
                   rfl
                  refine pure_ (i := 6) (N := some 31) (v := ?_) (a' := ?_) #[true, true, true, true, true, false, true, false, false, false, false, false, false, false, false, false, false, false, false, false, false, false, false, false, false, false, false, false, false, false, false, false] rfl rfl (any_of HT_.out (by kernel_rfl)) (fun _ _ _ h => h) (Or.inl ⟨by rfl, ?_⟩) ?_ ?_
                  rotate_left
                  ·intro w'
                   go_simp
                   with_reducible rfl
                  rotate_left
                  ·simp only [Act.put, List.setIfInBounds_toArray, List.set_cons_zero, List.set_cons_succ, i64_w, i32_w]
                   rfl
                  refine pure_ (i := 7) (N := some 32) (v := ?_) (a' := ?_) #[true, true, true, true, true, false, true, true, false, false, false, false, false, false, false, false, false, false, false, false, false, false, false, false, false, false, false, false, false, false, false, false] rfl rfl (any_of HT_.out (by kernel_rfl)) (fun _ _ _ h => h) (Or.inl ⟨by rfl, ?_⟩) ?_ ?_
                  rotate_left
                  ·intro w'
                   go_simp
                   with_reducible rfl
                  rotate_left
                  ·simp only [Act.put, List.setIfInBounds_toArray, List.set_cons_zero, List.set_cons_succ, i64_w, i32_w]
                   rfl
                  refine pure_ (i := 8) (N := some 33) (v := ?_) (a' := ?_) #[true, true, true, true, true, false, true, true, true, false, false, false, false, false, false, false, false, false, false, false, false, false, false, false, false, false, false, false, false, false, false, false] rfl rfl (any_of HT_.out (by kernel_rfl)) (fun _ _ _ h => h) (Or.inl ⟨by rfl, ?_⟩) ?_ ?_
                  rotate_left
                  ·intro w'
                   go_simp
                   with_reducible rfl
                  rotate_left
                  ·simp only [Act.put, List.setIfInBounds_toArray, List.set_cons_zero, List.set_cons_succ, i64_w, i32_w]
                   rfl
                  refine pure_ (i := 9) (N := some 34) (v := ?_) (a' := ?_) #[true, true, true, true, true, false, true, true, true, true, false, false, false, false, false, false, false, false, false, false, false, false, false, false, false, false, false, false, false, false, false, false] rfl rfl (any_of HT_.out (by kernel_rfl)) (fun _ _ _ h => h) (Or.inl ⟨by rfl, ?_⟩) ?_ ?_
                  rotate_left
                  ·intro w'
                   go_simp
                   with_reducible rfl
                  rotate_left
                  ·simp only [Act.put, List.setIfInBounds_toArray, List.set_cons_zero, List.set_cons_succ, i64_w, i32_w]
                   rfl
                  refine pure_ (i := 10) (N := some 35) (v := ?_) (a' := ?_) #[true, true, true, true, true, false, true, true, true, true, true, false, false, false, false, false, false, false, false, false, false, false, false, false, false, false, false, false, false, false, false, false] rfl rfl (any_of HT_.out (by kernel_rfl)) (fun _ _ _ h => h) (Or.inl ⟨by rfl, ?_⟩) ?_ ?_
                  rotate_left
                  ·intro w'
                   go_simp
                   with_reducible rfl
                  rotate_left
                  ·simp only [Act.put, List.setIfInBounds_toArray, List.set_cons_zero, List.set_cons_succ, i64_w, i32_w]
                   rfl
                  refine pure_ (i := 11) (N := some 36) (v := ?_) (a' := ?_) #[true, true, true, true, true, false, true, true, true, true, true, true, false, false, false, false, false, false, false, false, false, false, false, false, false, false, false, false, false, false, false, false] rfl rfl (any_of HT_.out (by kernel_rfl)) (fun _ _ _ h => h) (Or.inl ⟨by rfl, ?_⟩) ?_ ?_
                  rotate_left
                  ·intro w'
                   go_simp
                   with_reducible rfl
                  rotate_left
                  ·simp only [Act.put, List.setIfInBounds_toArray, List.set_cons_zero, List.set_cons_succ, i64_w, i32_w]
                   rfl
                  refine pure_ (i := 14) (N := some 39) (v := ?_) (a' := ?_) #[true, true, true, true, true, false, true, true, true, true, true, true, false, false, true, false, false, false, false, false, false, false, false, false, false, false, false, false, false, false, false, false] rfl rfl (any_of HT_.out (by kernel_rfl)) (fun _ _ _ h => h) (Or.inl ⟨by rfl, ?_⟩) ?_ ?_
                  rotate_left
                  ·intro w'
                   go_simp
                   with_reducible rfl
                  rotate_left
                  ·simp only [Act.put, List.setIfInBounds_toArray, List.set_cons_zero, List.set_cons_succ, i64_w, i32_w]
                   rfl
                  refine pure_ (i := 15) (N := some 40) (v := ?_) (a' := ?_) #[true, true, true, true, true, false, true, true, true, true, true, true, false, false, true, true, false, false, false, false, false, false, false, false, false, false, false, false, false, false, false, false] rfl rfl (any_of HT_.out (by kernel_rfl)) (fun _ _ _ h => h) (Or.inl ⟨by rfl, ?_⟩) ?_ ?_
                  rotate_left
                  ·intro w'
                   go_simp
                   with_reducible rfl
                  rotate_left
                  ·simp only [Act.put, List.setIfInBounds_toArray, List.set_cons_zero, List.set_cons_succ, i64_w, i32_w]
                   rfl
                  refine pure_ (i := 16) (N := some 41) (v := ?_) (a' := ?_) #[true, true, true, true, true, false, true, true, true, true, true, true, false, false, true, true, true, false, false, false, false, false, false, false, false, false, false, false, false, false, false, false] rfl rfl (any_of HT_.out (by kernel_rfl)) (fun _ _ _ h => h) (Or.inl ⟨by rfl, ?_⟩) ?_ ?_
                  rotate_left
                  ·intro w'
                   go_simp
                   with_reducible rfl
                  rotate_left
                  ·simp only [Act.put, List.setIfInBounds_toArray, List.set_cons_zero, List.set_cons_succ, i64_w, i32_w]
                   rfl
                  refine pure_ (i := 17) (N := some 42) (v := ?_) (a' := ?_) #[true, true, true, true, true, false, true, true, true, true, true, true, false, false, true, true, true, true, false, false, false, false, false, false, false, false, false, false, false, false, false, false] rfl rfl (any_of HT_.out (by kernel_rfl)) (fun _ _ _ h => h) (Or.inl ⟨by rfl, ?_⟩) ?_ ?_
                  rotate_left
                  ·intro w'
                   go_simp
                   with_reducible rfl
                  rotate_left
                  ·simp only [Act.put, List.setIfInBounds_toArray, List.set_cons_zero, List.set_cons_succ, i64_w, i32_w]
                   rfl
                  refine pure_ (i := 18) (N := some 43) (v := ?_) (a' := ?_) #[true, true, true, true, true, false, true, true, true, true, true, true, false, false, true, true, true, true, true, false, false, false, false, false, false, false, false, false, false, false, false, false] rfl rfl (any_of HT_.out (by kernel_rfl)) (fun _ _ _ h => h) (Or.inl ⟨by rfl, ?_⟩) ?_ ?_
                  rotate_left
                  ·intro w'
                   go_simp
                   with_reducible rfl
                  rotate_left
                  ·simp only [Act.put, List.setIfInBounds_toArray, List.set_cons_zero, List.set_cons_succ, i64_w, i32_w]
                   rfl
                  refine pure_ (i := 19) (N := some 44) (v := ?_) (a' := ?_) #[true, true, true, true, true, false, true, true, true, true, true, true, false, false, true, true, true, true, true, true, false, false, false, false, false, false, false, false, false, false, false, false] rfl rfl (any_of HT_.out (by kernel_rfl)) (fun _ _ _ h => h) (Or.inl ⟨by rfl, ?_⟩) ?_ ?_
                  rotate_left
                  ·intro w'
                   go_simp
                   with_reducible rfl
                  rotate_left
                  ·simp only [Act.put, List.setIfInBounds_toArray, List.set_cons_zero, List.set_cons_succ, i64_w, i32_w]
                   rfl
                  refine pure_ (i := 22) (N := some 47) (v := ?_) (a' := ?_) #[true, true, true, true, true, false, true, true, true, true, true, true, false, false, true, true, true, true, true, true, false, false, true, false, false, false, false, false, false, false, false, false] rfl rfl (any_of HT_.out (by kernel_rfl)) (fun _ _ _ h => h) (Or.inl ⟨by rfl, ?_⟩) ?_ ?_
                  rotate_left
                  ·intro w'
                   go_simp
                   with_reducible rfl
                  rotate_left
                  ·simp only [Act.put, List.setIfInBounds_toArray, List.set_cons_zero, List.set_cons_succ, i64_w, i32_w]
                   rfl
                  refine pure_ (i := 23) (N := some 48) (v := ?_) (a' := ?_) #[true, true, true, true, true, false, true, true, true, true, true, true, false, false, true, true, true, true, true, true, false, false, true, true, false, false, false, false, false, false, false, false] rfl rfl (any_of HT_.out (by kernel_rfl)) (fun _ _ _ h => h) (Or.inl ⟨by rfl, ?_⟩) ?_ ?_
                  rotate_left
                  ·intro w'
                   go_simp
                   with_reducible rfl
                  rotate_left
                  ·simp only [Act.put, List.setIfInBounds_toArray, List.set_cons_zero, List.set_cons_succ, i64_w, i32_w]
                   rfl
                  refine pure_ (i := 24) (N := some 49) (v := ?_) (a' := ?_) #[true, true, true, true, true, false, true, true, true, true, true, true, false, false, true, true, true, true, true, true, false, false, true, true, true, false, false, false, false, false, false, false] rfl rfl (any_of HT_.out (by kernel_rfl)) (fun _ _ _ h => h) (Or.inl ⟨by rfl, ?_⟩) ?_ ?_
                  rotate_left
                  ·intro w'
                   go_simp
                   with_reducible rfl
                  rotate_left
                  ·simp only [Act.put, List.setIfInBounds_toArray, List.set_cons_zero, List.set_cons_succ, i64_w, i32_w]
                   rfl
                  refine pure_ (i := 25) (N := some 50) (v := ?_) (a' := ?_) #[true, true, true, true, true, false, true, true, true, true, true, true, false, false, true, true, true, true, true, true, false, false, true, true, true, true, false, false, false, false, false, false] rfl rfl (any_of HT_.out (by kernel_rfl)) (fun _ _ _ h => h) (Or.inl ⟨by rfl, ?_⟩) ?_ ?_
                  rotate_left
                  ·intro w'
                   go_simp
                   with_reducible rfl
                  rotate_left
                  ·simp only [Act.put, List.setIfInBounds_toArray, List.set_cons_zero, List.set_cons_succ, i64_w, i32_w]
                   rfl
                  refine pure_ (i := 26) (N := some 51) (v := ?_) (a' := ?_) #[true, true, true, true, true, false, true, true, true, true, true, true, false, false, true, true, true, true, true, true, false, false, true, true, true, true, true, false, false, false, false, false] rfl rfl (any_of HT_.out (by kernel_rfl)) (fun _ _ _ h => h) (Or.inl ⟨by rfl, ?_⟩) ?_ ?_
                  rotate_left
                  ·intro w'
                   go_simp
                   with_reducible rfl
                  rotate_left
                  ·simp only [Act.put, List.setIfInBounds_toArray, List.set_cons_zero, List.set_cons_succ, i64_w, i32_w]
                   rfl
                  refine pure_ (i := 27) (N := some 52) (v := ?_) (a' := ?_) #[true, true, true, true, true, false, true, true, true, true, true, true, false, false, true, true, true, true, true, true, false, false, true, true, true, true, true, true, false, false, false, false] rfl rfl (any_of HT_.out (by kernel_rfl)) (fun _ _ _ h => h) (Or.inl ⟨by rfl, ?_⟩) ?_ ?_
                  rotate_left
                  ·intro w'
                   go_simp
                   with_reducible rfl
                  rotate_left
                  ·simp only [Act.put, List.setIfInBounds_toArray, List.set_cons_zero, List.set_cons_succ, i64_w, i32_w]
                   rfl
                  refine join_ (σ := Nat) 1 #[true, true, true, true, true, true, true, true, true, true, true, true, true, true, true, true, true, true, true, true, true, true, true, true, true, true, true, true, true, true, true, false] (fun s_ => [(30, .int .u64 t136), (37, .int .u64 t137), (45, .int .u64 t138), (53, .int .u64 t139), (9, .pointer (some ⟨s_, 0, none⟩)), (38, .int .i64 (wrap64 (t137))), (46, .int .i64 (wrap64 (t138))), (54, .agg #[.int .u64 t136, .int .i64 (wrap64 (t137)), .int .i64 (wrap64 (t138)), .int .u64 t139])]) (fun s_ w' => (Kd.R k27 27 w' w.heap.size (fun k_ => k_ ≠ s_) u7 x7_1) ∧ (w'.heap[s_]? = some (.cells #[.int .u64 0, .int .i64 0, .int .i64 0, .int .u64 0] 27 (0, 0))) ∧ (w.heap.size ≤ s_) ∧ (w.heap.size ≤ s_) ∧ (Below w.heap.size w w')) ?_ ?_
                  rotate_left
                  ·intro hJ5_12_20_28_30
                   refine join_ (σ := Unit) 2 #[true, true, true, true, true, true, true, true, true, true, true, true, true, true, true, true, true, true, true, true, true, true, true, true, true, true, true, true, true, true, false, false] (fun s_ => [(30, .int .u64 t136), (37, .int .u64 t137), (45, .int .u64 t138), (53, .int .u64 t139), (38, .int .i64 (wrap64 (t137))), (46, .int .i64 (wrap64 (t138))), (54, .agg #[.int .u64 t136, .int .i64 (wrap64 (t137)), .int .i64 (wrap64 (t138)), .int .u64 t139])]) (fun s_ w' => (Kd.R k27 27 w' w.heap.size (fun _ => True) u7 x7_1) ∧ (Below w.heap.size w w')) ?_ ?_
                   rotate_left
                   ·intro hJ5_12_20_28
                    refine join_ (σ := Nat) 3 #[true, true, true, true, true, true, true, true, true, true, true, true, true, true, true, true, true, true, true, true, true, true, true, true, true, true, true, true, false, false, true, false] (fun s_ => [(30, .int .u64 t136), (37, .int .u64 t137), (45, .int .u64 t138), (9, .pointer (some ⟨s_, 0, none⟩)), (38, .int .i64 (wrap64 (t137))), (46, .int .i64 (wrap64 (t138)))]) (fun s_ w' => (Kd.R k27 27 w' w.heap.size (fun k_ => k_ ≠ s_) u7 x7_1) ∧ (w'.heap[s_]? = some (.cells #[.int .u64 0, .int .i64 0, .int .i64 0, .int .u64 0] 27 (0, 0))) ∧ (w.heap.size ≤ s_) ∧ (w.heap.size ≤ s_) ∧ (Below w.heap.size w w')) ?_ ?_
                    rotate_left
                    ·intro hJ5_12_20_30
                     refine join_ (σ := Unit) 4 #[true, true, true, true, true, true, true, true, true, true, true, true, true, true, true, true, true, true, true, true, true, true, true, true, true, true, true, true, false, false, false, false] (fun s_ => [(30, .int .u64 t136), (37, .int .u64 t137), (45, .int .u64 t138), (38, .int .i64 (wrap64 (t137))), (46, .int .i64 (wrap64 (t138)))]) (fun s_ w' => (Kd.R k27 27 w' w.heap.size (fun _ => True) u7 x7_1) ∧ (Below w.heap.size w w')) ?_ ?_
                     rotate_left
                     ·intro hJ5_12_20
                      refine join_ (σ := Nat) 5 #[true, true, true, true, true, true, true, true, true, true, true, true, true, true, true, true, true, true, true, true, false, false, true, true, true, true, true, true, false, false, true, false] (fun s_ => [(30, .int .u64 t136), (37, .int .u64 t137), (9, .pointer (some ⟨s_, 0, none⟩)), (38, .int .i64 (wrap64 (t137)))]) (fun s_ w' => (Kd.R k27 27 w' w.heap.size (fun k_ => k_ ≠ s_) u7 x7_1) ∧ (w'.heap[s_]? = some (.cells #[.int .u64 0, .int .i64 0, .int .i64 0, .int .u64 0] 27 (0, 0))) ∧ (w.heap.size ≤ s_) ∧ (w.heap.size ≤ s_) ∧ (Below w.heap.size w w')) ?_ ?_
                      rotate_left
                      ·intro hJ5_12_30
                       refine join_ (σ := Unit) 6 #[true, true, true, true, true, true, true, true, true, true, true, true, true, true, true, true, true, true, true, true, false, false, true, true, true, true, true, true, false, false, false, false] (fun s_ => [(30, .int .u64 t136), (37, .int .u64 t137), (38, .int .i64 (wrap64 (t137)))]) (fun s_ w' => (Kd.R k27 27 w' w.heap.size (fun _ => True) u7 x7_1) ∧ (Below w.heap.size w w')) ?_ ?_
                       rotate_left
                       ·intro hJ5_12
                        refine join_ (σ := Nat) 7 #[true, true, true, true, true, true, true, true, true, true, true, true, false, false, true, true, true, true, true, true, false, false, true, true, true, true, true, true, false, false, true, false] (fun s_ => [(30, .int .u64 t136), (9, .pointer (some ⟨s_, 0, none⟩))]) (fun s_ w' => (Kd.R k27 27 w' w.heap.size (fun k_ => k_ ≠ s_) u7 x7_1) ∧ (w'.heap[s_]? = some (.cells #[.int .u64 0, .int .i64 0, .int .i64 0, .int .u64 0] 27 (0, 0))) ∧ (w.heap.size ≤ s_) ∧ (w.heap.size ≤ s_) ∧ (Below w.heap.size w w')) ?_ ?_
                        rotate_left
                        ·intro hJ5_30
                         refine join_ (σ := Unit) 8 #[true, true, true, true, true, true, true, true, true, true, true, true, false, false, true, true, true, true, true, true, false, false, true, true, true, true, true, true, false, false, false, false] (fun s_ => [(30, .int .u64 t136)]) (fun s_ w' => (Kd.R k27 27 w' w.heap.size (fun _ => True) u7 x7_1) ∧ (Below w.heap.size w w')) ?_ ?_
                         rotate_left
                         ·intro hJ5
                          refine join_ (σ := Nat) 8 #[true, true, true, true, true, false, true, true, true, true, true, true, false, false, true, true, true, true, true, true, false, false, true, true, true, true, true, true, false, false, true, false] (fun s_ => [(9, .pointer (some ⟨s_, 0, none⟩))]) (fun s_ w' => (Kd.R k27 27 w' w.heap.size (fun k_ => k_ ≠ s_) u7 x7_1) ∧ (w'.heap[s_]? = some (.cells #[.int .u64 0, .int .i64 0, .int .i64 0, .int .u64 0] 27 (0, 0))) ∧ (w.heap.size ≤ s_) ∧ (w.heap.size ≤ s_) ∧ (Below w.heap.size w w')) ?_ ?_
                          rotate_left
                          ·intro hJ30
                           refine two_ (i := 5) (j := 30) (Ni := some 30) (Nj := some 9) #[true, true, true, true, true, true, true, true, true, true, true, true, false, false, true, true, true, true, true, true, false, false, true, true, true, true, true, true, false, false, false, false] #[true, true, true, true, true, false, true, true, true, true, true, true, false, false, true, true, true, true, true, true, false, false, true, true, true, true, true, true, false, false, true, false] rfl rfl rfl rfl (two_of HT_.out (by kernel_rfl)) (by decide) (by decide) (fun K hK => ?_) (fun K hK => ?_)
                           ·skip
                            refine goes_ Try.func20 (by kernel_rfl) rfl #[.string (a0.extract (x8_1 : Int).toNat ((ji10) : Int).toNat)] (by rfl) rfl rfl (by (try simp only [List.map_toArray, List.map_cons, List.map_nil]); first | done | (simp only [hji10]; rfl) | rfl | (simp only [List.length_drop, List.length_take]; rfl)) ?_
                            with_reducible refine (turnbuckleref01_Get.calls k1 (a0.extract (x8_1 : Int).toNat ((ji10) : Int).toNat) t136 _ A9.out).mono ?_
                            rintro e w' ⟨rfl, ⟨nd, rfl⟩⟩
                            refine ⟨_, rfl, ?_⟩
                            refine hK.out _ _ trivial (fun hHeld => ?_)
                            clear hK K
                            refine norm_ (a' := ?_) ?_ ?_
                            rotate_left
                            ·show Act.put _ (some 30) _ = _
                             simp only [Act.put, List.setIfInBounds_toArray, List.set_cons_zero, List.set_cons_succ, i64_w, i32_w]
                             rfl
                            exact norm_ (by first | (simp only [putAll, Act.put, List.setIfInBounds_toArray, List.set_cons_zero, List.set_cons_succ]; done) | (simp only [putAll, Act.put, List.setIfInBounds_toArray, List.set_cons_zero, List.set_cons_succ]; rfl)) (hJ5 () _ ⟨(by (with_reducible repeat (first | apply Kd.R_alloc | apply Kd.R_drewN | apply Kd.R_drew)); exact HO_7.out), (by repeat (first | (with_reducible first | exact HB.out | apply below_alloc | apply pw_below_drewN | apply below_drew1) | exact HB.out))⟩)
                           ·skip
                            refine box_step ?hg (N := 9) ?hd (cs := #[.int .u64 0, .int .i64 0, .int .i64 0, .int .u64 0]) (t := 27) ?hr ?_; (case hd => rfl); (case hg => rfl); (case hr => first | (go_simp; done) | (go_simp; rfl))
                            intro gb140 hg w27 hbox hb
                            have n0_ := Aside0.mk (Kd.R_below (Kd.R_elderB (by (with_reducible repeat (first | apply Kd.R_alloc | apply Kd.R_drewN | apply Kd.R_drew)); exact HO_7.out) gb140 (Nat.le_of_eq hg.symm)) hb)
                            have n1_ := Aside0.mk (below_step (by repeat (first | (with_reducible first | exact HB.out | apply below_alloc | apply pw_below_drewN | apply below_drew1) | exact HB.out)) hb)
                            have n2_ := Aside0.mk (hbox)
                            have n3_ := Aside0.mk ((by rw [hg]; exact (below_size (by repeat (first | (with_reducible first | exact HB.out | apply below_alloc | apply pw_below_drewN | apply below_drew1) | exact HB.out))) : w.heap.size ≤ gb140))
                            have n4_ := Aside0.mk ((by rw [hg]; exact (below_size (by repeat (first | (with_reducible first | exact HB.out | apply below_alloc | apply pw_below_drewN | apply below_drew1) | exact HB.out))) : w.heap.size ≤ gb140))
                            clear HO_7
                            clear HB
                            have HO_7 := n0_
                            have HB := n1_
                            have BK140 := n2_
                            have GW140 := n3_
                            have GE140 := n4_
                            clear n0_ n1_ n2_ n3_ n4_
                            clear hb hbox hg
                            refine hK.out _ _ trivial (fun hHeld => ?_)
                            clear hK K
                            refine norm_ (a' := ?_) ?_ ?_
                            rotate_left
                            ·show Act.put _ (some 9) _ = _
                             simp only [Act.put, List.setIfInBounds_toArray, List.set_cons_zero, List.set_cons_succ, i64_w, i32_w]
                             rfl
                            exact norm_ (by first | (simp only [putAll, Act.put, List.setIfInBounds_toArray, List.set_cons_zero, List.set_cons_succ]; done) | (simp only [putAll, Act.put, List.setIfInBounds_toArray, List.set_cons_zero, List.set_cons_succ]; rfl)) (hJ30 (gb140) _ ⟨(by (with_reducible repeat (first | apply Kd.R_alloc | apply Kd.R_drewN | apply Kd.R_drew)); exact Kd.R_mono HO_7.out (fun _ hk => hk.2)), (by (with_reducible repeat (first | refine blk_drewN ?_ _ | refine blk_drew ?_ | refine blk_alloc ?_ _)); exact BK140.out), GW140.out, GE140.out, (by repeat (first | (with_reducible first | exact HB.out | apply below_alloc | apply pw_below_drewN | apply below_drew1 | refine below_set ?_ GE140.out) | exact HB.out))⟩)
                          ·skip
                           rintro gb140 w28 ⟨h0_, h1_, h2_, h3_, h4_⟩
                           have n0_ : Aside0 (Kd.R k27 27 w28 w.heap.size (fun k_ => k_ ≠ gb140) u7 x7_1) := ⟨h0_⟩
                           have n1_ : Aside0 (w28.heap[gb140]? = some (.cells #[.int .u64 0, .int .i64 0, .int .i64 0, .int .u64 0] 27 (0, 0))) := ⟨h1_⟩
                           have n2_ : Aside0 (w.heap.size ≤ gb140) := ⟨h2_⟩
                           have n3_ : Aside0 (w.heap.size ≤ gb140) := ⟨h3_⟩
                           have n4_ : Aside0 (Below w.heap.size w w28) := ⟨h4_⟩
                           clear HO_7
                           clear HB
                           clear h0_ h1_ h2_ h3_ h4_
                           have HO_7 := n0_
                           have BK140 := n1_
                           have GW140 := n2_
                           have GE140 := n3_
                           have HB := n4_
                           clear n0_ n1_ n2_ n3_ n4_
                           have hHeld := trivial
                           refine norm_ (a' := ?_) ?_ ?_
                           rotate_left
                           ·simp only [putAll, Act.put, List.setIfInBounds_toArray, List.set_cons_zero, List.set_cons_succ]
                            rfl
                           refine one_ (i := 5) (N := some 30) #[true, true, true, true, true, true, true, true, true, true, true, true, false, false, true, true, true, true, true, true, false, false, true, true, true, true, true, true, false, false, true, false] rfl rfl (one_of HT_.out (by kernel_rfl)) (by decide) (fun K hK => ?_)
                           refine goes_ Try.func20 (by kernel_rfl) rfl #[.string (a0.extract (x8_1 : Int).toNat ((ji10) : Int).toNat)] (by rfl) rfl rfl (by (try simp only [List.map_toArray, List.map_cons, List.map_nil]); first | done | (simp only [hji10]; rfl) | rfl | (simp only [List.length_drop, List.length_take]; rfl)) ?_
                           with_reducible refine (turnbuckleref01_Get.calls k1 (a0.extract (x8_1 : Int).toNat ((ji10) : Int).toNat) t136 _ A9.out).mono ?_
                           rintro e w' ⟨rfl, ⟨nd, rfl⟩⟩
                           refine ⟨_, rfl, ?_⟩
                           refine hK.out _ _ trivial (fun hHeld => ?_)
                           clear hK K
                           refine norm_ (a' := ?_) ?_ ?_
                           rotate_left
                           ·show Act.put _ (some 30) _ = _
                            simp only [Act.put, List.setIfInBounds_toArray, List.set_cons_zero, List.set_cons_succ, i64_w, i32_w]
                            rfl
                           exact norm_ (by first | (simp only [putAll, Act.put, List.setIfInBounds_toArray, List.set_cons_zero, List.set_cons_succ]; done) | (simp only [putAll, Act.put, List.setIfInBounds_toArray, List.set_cons_zero, List.set_cons_succ]; rfl)) (hJ5_30 (gb140) _ ⟨(by (with_reducible repeat (first | apply Kd.R_alloc | apply Kd.R_drewN | apply Kd.R_drew)); exact HO_7.out), (by (with_reducible repeat (first | refine blk_drewN ?_ _ | refine blk_drew ?_ | refine blk_alloc ?_ _)); exact BK140.out), GW140.out, GE140.out, (by repeat (first | (with_reducible first | exact HB.out | apply below_alloc | apply pw_below_drewN | apply below_drew1 | refine below_set ?_ GE140.out) | exact HB.out))⟩)
                         ·skip
                          rintro _ w27 ⟨h0_, h1_⟩
                          have n0_ : Aside0 (Kd.R k27 27 w27 w.heap.size (fun _ => True) u7 x7_1) := ⟨h0_⟩
                          have n1_ : Aside0 (Below w.heap.size w w27) := ⟨h1_⟩
                          clear HO_7
                          clear HB
                          clear h0_ h1_
                          have HO_7 := n0_
                          have HB := n1_
                          clear n0_ n1_
                          have hHeld := trivial
                          refine norm_ (a' := ?_) ?_ ?_
                          rotate_left
                          ·simp only [putAll, Act.put, List.setIfInBounds_toArray, List.set_cons_zero, List.set_cons_succ]
                           rfl
                          refine two_ (i := 12) (j := 30) (Ni := some 37) (Nj := some 9) #[true, true, true, true, true, true, true, true, true, true, true, true, true, false, true, true, true, true, true, true, false, false, true, true, true, true, true, true, false, false, false, false] #[true, true, true, true, true, true, true, true, true, true, true, true, false, false, true, true, true, true, true, true, false, false, true, true, true, true, true, true, false, false, true, false] rfl rfl rfl rfl (two_of HT_.out (by kernel_rfl)) (by decide) (by decide) (fun K hK => ?_) (fun K hK => ?_)
                          ·skip
                           refine goes_ Try.func20 (by kernel_rfl) rfl #[.string (a0.extract ((ji10) : Int).toNat ((ji15) : Int).toNat)] (by rfl) rfl rfl (by (try simp only [List.map_toArray, List.map_cons, List.map_nil]); first | done | (simp only [hji10, hji15]; rfl) | rfl | (simp only [List.length_drop, List.length_take]; rfl)) ?_
                           with_reducible refine (turnbuckleref01_Get.calls k1 (a0.extract ((ji10) : Int).toNat ((ji15) : Int).toNat) t137 _ A14.out).mono ?_
                           rintro e w' ⟨rfl, ⟨nd, rfl⟩⟩
                           refine ⟨_, rfl, ?_⟩
                           refine hK.out _ _ trivial (fun hHeld => ?_)
                           clear hK K
                           refine norm_ (a' := ?_) ?_ ?_
                           rotate_left
                           ·show Act.put _ (some 37) _ = _
                            simp only [Act.put, List.setIfInBounds_toArray, List.set_cons_zero, List.set_cons_succ, i64_w, i32_w]
                            rfl
                           refine pure_ (i := 13) (N := some 38) (v := ?_) (a' := ?_) #[true, true, true, true, true, true, true, true, true, true, true, true, true, true, true, true, true, true, true, true, false, false, true, true, true, true, true, true, false, false, false, false] rfl rfl (any_of HT_.out (by kernel_rfl)) (fun _ _ _ h => h) (Or.inl ⟨by rfl, ?_⟩) ?_ ?_
                           rotate_left
                           ·intro w'
                            go_simp
                            with_reducible rfl
                           rotate_left
                           ·simp only [Act.put, List.setIfInBounds_toArray, List.set_cons_zero, List.set_cons_succ, i64_w, i32_w]
                            rfl
                           exact norm_ (by first | (simp only [putAll, Act.put, List.setIfInBounds_toArray, List.set_cons_zero, List.set_cons_succ]; done) | (simp only [putAll, Act.put, List.setIfInBounds_toArray, List.set_cons_zero, List.set_cons_succ]; rfl)) (hJ5_12 () _ ⟨(by (with_reducible repeat (first | apply Kd.R_alloc | apply Kd.R_drewN | apply Kd.R_drew)); exact HO_7.out), (by repeat (first | (with_reducible first | exact HB.out | apply below_alloc | apply pw_below_drewN | apply below_drew1) | exact HB.out))⟩)
                          ·skip
                           refine box_step ?hg (N := 9) ?hd (cs := #[.int .u64 0, .int .i64 0, .int .i64 0, .int .u64 0]) (t := 27) ?hr ?_; (case hd => rfl); (case hg => rfl); (case hr => first | (go_simp; done) | (go_simp; rfl))
                           intro gb140 hg w28 hbox hb
                           have n0_ := Aside0.mk (Kd.R_below (Kd.R_elderB (by (with_reducible repeat (first | apply Kd.R_alloc | apply Kd.R_drewN | apply Kd.R_drew)); exact HO_7.out) gb140 (Nat.le_of_eq hg.symm)) hb)
                           have n1_ := Aside0.mk (below_step (by repeat (first | (with_reducible first | exact HB.out | apply below_alloc | apply pw_below_drewN | apply below_drew1) | exact HB.out)) hb)
                           have n2_ := Aside0.mk (hbox)
                           have n3_ := Aside0.mk ((by rw [hg]; exact (below_size (by repeat (first | (with_reducible first | exact HB.out | apply below_alloc | apply pw_below_drewN | apply below_drew1) | exact HB.out))) : w.heap.size ≤ gb140))
                           have n4_ := Aside0.mk ((by rw [hg]; exact (below_size (by repeat (first | (with_reducible first | exact HB.out | apply below_alloc | apply pw_below_drewN | apply below_drew1) | exact HB.out))) : w.heap.size ≤ gb140))
                           clear HO_7
                           clear HB
                           have HO_7 := n0_
                           have HB := n1_
                           have BK140 := n2_
                           have GW140 := n3_
                           have GE140 := n4_
                           clear n0_ n1_ n2_ n3_ n4_
                           clear hb hbox hg
                           refine hK.out _ _ trivial (fun hHeld => ?_)
                           clear hK K
                           refine norm_ (a' := ?_) ?_ ?_
                           rotate_left
                           ·show Act.put _ (some 9) _ = _
                            simp only [Act.put, List.setIfInBounds_toArray, List.set_cons_zero, List.set_cons_succ, i64_w, i32_w]
                            rfl
                           exact norm_ (by first | (simp only [putAll, Act.put, List.setIfInBounds_toArray, List.set_cons_zero, List.set_cons_succ]; done) | (simp only [putAll, Act.put, List.setIfInBounds_toArray, List.set_cons_zero, List.set_cons_succ]; rfl)) (hJ5_30 (gb140) _ ⟨(by (with_reducible repeat (first | apply Kd.R_alloc | apply Kd.R_drewN | apply Kd.R_drew)); exact Kd.R_mono HO_7.out (fun _ hk => hk.2)), (by (with_reducible repeat (first | refine blk_drewN ?_ _ | refine blk_drew ?_ | refine blk_alloc ?_ _)); exact BK140.out), GW140.out, GE140.out, (by repeat (first | (with_reducible first | exact HB.out | apply below_alloc | apply pw_below_drewN | apply below_drew1 | refine below_set ?_ GE140.out) | exact HB.out))⟩)
                        ·skip
                         rintro gb140 w28 ⟨h0_, h1_, h2_, h3_, h4_⟩
                         have n0_ : Aside0 (Kd.R k27 27 w28 w.heap.size (fun k_ => k_ ≠ gb140) u7 x7_1) := ⟨h0_⟩
                         have n1_ : Aside0 (w28.heap[gb140]? = some (.cells #[.int .u64 0, .int .i64 0, .int .i64 0, .int .u64 0] 27 (0, 0))) := ⟨h1_⟩
                         have n2_ : Aside0 (w.heap.size ≤ gb140) := ⟨h2_⟩
                         have n3_ : Aside0 (w.heap.size ≤ gb140) := ⟨h3_⟩
                         have n4_ : Aside0 (Below w.heap.size w w28) := ⟨h4_⟩
                         clear HO_7
                         clear HB
                         clear h0_ h1_ h2_ h3_ h4_
                         have HO_7 := n0_
                         have BK140 := n1_
                         have GW140 := n2_
                         have GE140 := n3_
                         have HB := n4_
                         clear n0_ n1_ n2_ n3_ n4_
                         have hHeld := trivial
                         refine norm_ (a' := ?_) ?_ ?_
                         rotate_left
                         ·simp only [putAll, Act.put, List.setIfInBounds_toArray, List.set_cons_zero, List.set_cons_succ]
                          rfl
                         refine one_ (i := 12) (N := some 37) #[true, true, true, true, true, true, true, true, true, true, true, true, true, false, true, true, true, true, true, true, false, false, true, true, true, true, true, true, false, false, true, false] rfl rfl (one_of HT_.out (by kernel_rfl)) (by decide) (fun K hK => ?_)
                         refine goes_ Try.func20 (by kernel_rfl) rfl #[.string (a0.extract ((ji10) : Int).toNat ((ji15) : Int).toNat)] (by rfl) rfl rfl (by (try simp only [List.map_toArray, List.map_cons, List.map_nil]); first | done | (simp only [hji10, hji15]; rfl) | rfl | (simp only [List.length_drop, List.length_take]; rfl)) ?_
                         with_reducible refine (turnbuckleref01_Get.calls k1 (a0.extract ((ji10) : Int).toNat ((ji15) : Int).toNat) t137 _ A14.out).mono ?_
                         rintro e w' ⟨rfl, ⟨nd, rfl⟩⟩
                         refine ⟨_, rfl, ?_⟩
                         refine hK.out _ _ trivial (fun hHeld => ?_)
                         clear hK K
                         refine norm_ (a' := ?_) ?_ ?_
                         rotate_left
                         ·show Act.put _ (some 37) _ = _
                          simp only [Act.put, List.setIfInBounds_toArray, List.set_cons_zero, List.set_cons_succ, i64_w, i32_w]
                          rfl
                         refine pure_ (i := 13) (N := some 38) (v := ?_) (a' := ?_) #[true, true, true, true, true, true, true, true, true, true, true, true, true, true, true, true, true, true, true, true, false, false, true, true, true, true, true, true, false, false, true, false] rfl rfl (any_of HT_.out (by kernel_rfl)) (fun _ _ _ h => h) (Or.inl ⟨by rfl, ?_⟩) ?_ ?_
                         rotate_left
                         ·intro w'
                          go_simp
                          with_reducible rfl
                         rotate_left
                         ·simp only [Act.put, List.setIfInBounds_toArray, List.set_cons_zero, List.set_cons_succ, i64_w, i32_w]
                          rfl
                         exact norm_ (by first | (simp only [putAll, Act.put, List.setIfInBounds_toArray, List.set_cons_zero, List.set_cons_succ]; done) | (simp only [putAll, Act.put, List.setIfInBounds_toArray, List.set_cons_zero, List.set_cons_succ]; rfl)) (hJ5_12_30 (gb140) _ ⟨(by (with_reducible repeat (first | apply Kd.R_alloc | apply Kd.R_drewN | apply Kd.R_drew)); exact HO_7.out), (by (with_reducible repeat (first | refine blk_drewN ?_ _ | refine blk_drew ?_ | refine blk_alloc ?_ _)); exact BK140.out), GW140.out, GE140.out, (by repeat (first | (with_reducible first | exact HB.out | apply below_alloc | apply pw_below_drewN | apply below_drew1 | refine below_set ?_ GE140.out) | exact HB.out))⟩)
                       ·skip
                        rintro _ w27 ⟨h0_, h1_⟩
                        have n0_ : Aside0 (Kd.R k27 27 w27 w.heap.size (fun _ => True) u7 x7_1) := ⟨h0_⟩
                        have n1_ : Aside0 (Below w.heap.size w w27) := ⟨h1_⟩
                        clear HO_7
                        clear HB
                        clear h0_ h1_
                        have HO_7 := n0_
                        have HB := n1_
                        clear n0_ n1_
                        have hHeld := trivial
                        refine norm_ (a' := ?_) ?_ ?_
                        rotate_left
                        ·simp only [putAll, Act.put, List.setIfInBounds_toArray, List.set_cons_zero, List.set_cons_succ]
                         rfl
                        refine two_ (i := 20) (j := 30) (Ni := some 45) (Nj := some 9) #[true, true, true, true, true, true, true, true, true, true, true, true, true, true, true, true, true, true, true, true, true, false, true, true, true, true, true, true, false, false, false, false] #[true, true, true, true, true, true, true, true, true, true, true, true, true, true, true, true, true, true, true, true, false, false, true, true, true, true, true, true, false, false, true, false] rfl rfl rfl rfl (two_of HT_.out (by kernel_rfl)) (by decide) (by decide) (fun K hK => ?_) (fun K hK => ?_)
                        ·skip
                         refine goes_ Try.func20 (by kernel_rfl) rfl #[.string (a0.extract ((ji15) : Int).toNat ((ji20) : Int).toNat)] (by rfl) rfl rfl (by (try simp only [List.map_toArray, List.map_cons, List.map_nil]); first | done | (simp only [hji15, hji20]; rfl) | rfl | (simp only [List.length_drop, List.length_take]; rfl)) ?_
                         with_reducible refine (turnbuckleref01_Get.calls k1 (a0.extract ((ji15) : Int).toNat ((ji20) : Int).toNat) t138 _ A19.out).mono ?_
                         rintro e w' ⟨rfl, ⟨nd, rfl⟩⟩
                         refine ⟨_, rfl, ?_⟩
                         refine hK.out _ _ trivial (fun hHeld => ?_)
                         clear hK K
                         refine norm_ (a' := ?_) ?_ ?_
                         rotate_left
                         ·show Act.put _ (some 45) _ = _
                          simp only [Act.put, List.setIfInBounds_toArray, List.set_cons_zero, List.set_cons_succ, i64_w, i32_w]
                          rfl
                         refine pure_ (i := 21) (N := some 46) (v := ?_) (a' := ?_) #[true, true, true, true, true, true, true, true, true, true, true, true, true, true, true, true, true, true, true, true, true, true, true, true, true, true, true, true, false, false, false, false] rfl rfl (any_of HT_.out (by kernel_rfl)) (fun _ _ _ h => h) (Or.inl ⟨by rfl, ?_⟩) ?_ ?_
                         rotate_left
                         ·intro w'
                          go_simp
                          with_reducible rfl
                         rotate_left
                         ·simp only [Act.put, List.setIfInBounds_toArray, List.set_cons_zero, List.set_cons_succ, i64_w, i32_w]
                          rfl
                         exact norm_ (by first | (simp only [putAll, Act.put, List.setIfInBounds_toArray, List.set_cons_zero, List.set_cons_succ]; done) | (simp only [putAll, Act.put, List.setIfInBounds_toArray, List.set_cons_zero, List.set_cons_succ]; rfl)) (hJ5_12_20 () _ ⟨(by (with_reducible repeat (first | apply Kd.R_alloc | apply Kd.R_drewN | apply Kd.R_drew)); exact HO_7.out), (by repeat (first | (with_reducible first | exact HB.out | apply below_alloc | apply pw_below_drewN | apply below_drew1) | exact HB.out))⟩)
                        ·skip
                         refine box_step ?hg (N := 9) ?hd (cs := #[.int .u64 0, .int .i64 0, .int .i64 0, .int .u64 0]) (t := 27) ?hr ?_; (case hd => rfl); (case hg => rfl); (case hr => first | (go_simp; done) | (go_simp; rfl))
                         intro gb140 hg w28 hbox hb
                         have n0_ := Aside0.mk (Kd.R_below (Kd.R_elderB (by (with_reducible repeat (first | apply Kd.R_alloc | apply Kd.R_drewN | apply Kd.R_drew)); exact HO_7.out) gb140 (Nat.le_of_eq hg.symm)) hb)
                         have n1_ := Aside0.mk (below_step (by repeat (first | (with_reducible first | exact HB.out | apply below_alloc | apply pw_below_drewN | apply below_drew1) | exact HB.out)) hb)
                         have n2_ := Aside0.mk (hbox)
                         have n3_ := Aside0.mk ((by rw [hg]; exact (below_size (by repeat (first | (with_reducible first | exact HB.out | apply below_alloc | apply pw_below_drewN | apply below_drew1) | exact HB.out))) : w.heap.size ≤ gb140))
                         have n4_ := Aside0.mk ((by rw [hg]; exact (below_size (by repeat (first | (with_reducible first | exact HB.out | apply below_alloc | apply pw_below_drewN | apply below_drew1) | exact HB.out))) : w.heap.size ≤ gb140))
                         clear HO_7
                         clear HB
                         have HO_7 := n0_
                         have HB := n1_
                         have BK140 := n2_
                         have GW140 := n3_
                         have GE140 := n4_
                         clear n0_ n1_ n2_ n3_ n4_
                         clear hb hbox hg
                         refine hK.out _ _ trivial (fun hHeld => ?_)
                         clear hK K
                         refine norm_ (a' := ?_) ?_ ?_
                         rotate_left
                         ·show Act.put _ (some 9) _ = _
                          simp only [Act.put, List.setIfInBounds_toArray, List.set_cons_zero, List.set_cons_succ, i64_w, i32_w]
                          rfl
                         exact norm_ (by first | (simp only [putAll, Act.put, List.setIfInBounds_toArray, List.set_cons_zero, List.set_cons_succ]; done) | (simp only [putAll, Act.put, List.setIfInBounds_toArray, List.set_cons_zero, List.set_cons_succ]; rfl)) (hJ5_12_30 (gb140) _ ⟨(by (with_reducible repeat (first | apply Kd.R_alloc | apply Kd.R_drewN | apply Kd.R_drew)); exact Kd.R_mono HO_7.out (fun _ hk => hk.2)), (by (with_reducible repeat (first | refine blk_drewN ?_ _ | refine blk_drew ?_ | refine blk_alloc ?_ _)); exact BK140.out), GW140.out, GE140.out, (by repeat (first | (with_reducible first | exact HB.out | apply below_alloc | apply pw_below_drewN | apply below_drew1 | refine below_set ?_ GE140.out) | exact HB.out))⟩)
                      ·skip
                       rintro gb140 w28 ⟨h0_, h1_, h2_, h3_, h4_⟩
                       have n0_ : Aside0 (Kd.R k27 27 w28 w.heap.size (fun k_ => k_ ≠ gb140) u7 x7_1) := ⟨h0_⟩
                       have n1_ : Aside0 (w28.heap[gb140]? = some (.cells #[.int .u64 0, .int .i64 0, .int .i64 0, .int .u64 0] 27 (0, 0))) := ⟨h1_⟩
                       have n2_ : Aside0 (w.heap.size ≤ gb140) := ⟨h2_⟩
                       have n3_ : Aside0 (w.heap.size ≤ gb140) := ⟨h3_⟩
                       have n4_ : Aside0 (Below w.heap.size w w28) := ⟨h4_⟩
                       clear HO_7
                       clear HB
                       clear h0_ h1_ h2_ h3_ h4_
                       have HO_7 := n0_
                       have BK140 := n1_
                       have GW140 := n2_
                       have GE140 := n3_
                       have HB := n4_
                       clear n0_ n1_ n2_ n3_ n4_
                       have hHeld := trivial
                       refine norm_ (a' := ?_) ?_ ?_
                       rotate_left
                       ·simp only [putAll, Act.put, List.setIfInBounds_toArray, List.set_cons_zero, List.set_cons_succ]
                        rfl
                       refine one_ (i := 20) (N := some 45) #[true, true, true, true, true, true, true, true, true, true, true, true, true, true, true, true, true, true, true, true, true, false, true, true, true, true, true, true, false, false, true, false] rfl rfl (one_of HT_.out (by kernel_rfl)) (by decide) (fun K hK => ?_)
                       refine goes_ Try.func20 (by kernel_rfl) rfl #[.string (a0.extract ((ji15) : Int).toNat ((ji20) : Int).toNat)] (by rfl) rfl rfl (by (try simp only [List.map_toArray, List.map_cons, List.map_nil]); first | done | (simp only [hji15, hji20]; rfl) | rfl | (simp only [List.length_drop, List.length_take]; rfl)) ?_
                       with_reducible refine (turnbuckleref01_Get.calls k1 (a0.extract ((ji15) : Int).toNat ((ji20) : Int).toNat) t138 _ A19.out).mono ?_
                       rintro e w' ⟨rfl, ⟨nd, rfl⟩⟩
                       refine ⟨_, rfl, ?_⟩
                       refine hK.out _ _ trivial (fun hHeld => ?_)
                       clear hK K
                       refine norm_ (a' := ?_) ?_ ?_
                       rotate_left
                       ·show Act.put _ (some 45) _ = _
                        simp only [Act.put, List.setIfInBounds_toArray, List.set_cons_zero, List.set_cons_succ, i64_w, i32_w]
                        rfl
                       refine pure_ (i := 21) (N := some 46) (v := ?_) (a' := ?_) #[true, true, true, true, true, true, true, true, true, true, true, true, true, true, true, true, true, true, true, true, true, true, true, true, true, true, true, true, false, false, true, false] rfl rfl (any_of HT_.out (by kernel_rfl)) (fun _ _ _ h => h) (Or.inl ⟨by rfl, ?_⟩) ?_ ?_
                       rotate_left
                       ·intro w'
                        go_simp
                        with_reducible rfl
                       rotate_left
                       ·simp only [Act.put, List.setIfInBounds_toArray, List.set_cons_zero, List.set_cons_succ, i64_w, i32_w]
                        rfl
                       exact norm_ (by first | (simp only [putAll, Act.put, List.setIfInBounds_toArray, List.set_cons_zero, List.set_cons_succ]; done) | (simp only [putAll, Act.put, List.setIfInBounds_toArray, List.set_cons_zero, List.set_cons_succ]; rfl)) (hJ5_12_20_30 (gb140) _ ⟨(by (with_reducible repeat (first | apply Kd.R_alloc | apply Kd.R_drewN | apply Kd.R_drew)); exact HO_7.out), (by (with_reducible repeat (first | refine blk_drewN ?_ _ | refine blk_drew ?_ | refine blk_alloc ?_ _)); exact BK140.out), GW140.out, GE140.out, (by repeat (first | (with_reducible first | exact HB.out | apply below_alloc | apply pw_below_drewN | apply below_drew1 | refine below_set ?_ GE140.out) | exact HB.out))⟩)
                     ·skip
                      rintro _ w27 ⟨h0_, h1_⟩
                      have n0_ : Aside0 (Kd.R k27 27 w27 w.heap.size (fun _ => True) u7 x7_1) := ⟨h0_⟩
                      have n1_ : Aside0 (Below w.heap.size w w27) := ⟨h1_⟩
                      clear HO_7
                      clear HB
                      clear h0_ h1_
                      have HO_7 := n0_
                      have HB := n1_
                      clear n0_ n1_
                      have hHeld := trivial
                      refine norm_ (a' := ?_) ?_ ?_
                      rotate_left
                      ·simp only [putAll, Act.put, List.setIfInBounds_toArray, List.set_cons_zero, List.set_cons_succ]
                       rfl
                      refine two_ (i := 28) (j := 30) (Ni := some 53) (Nj := some 9) #[true, true, true, true, true, true, true, true, true, true, true, true, true, true, true, true, true, true, true, true, true, true, true, true, true, true, true, true, true, false, false, false] #[true, true, true, true, true, true, true, true, true, true, true, true, true, true, true, true, true, true, true, true, true, true, true, true, true, true, true, true, false, false, true, false] rfl rfl rfl rfl (two_of HT_.out (by kernel_rfl)) (by decide) (by decide) (fun K hK => ?_) (fun K hK => ?_)
                      ·skip
                       refine goes_ Try.func20 (by kernel_rfl) rfl #[.string (a0.extract ((ji20) : Int).toNat ((wrap64 (x8_1 + 24)) : Int).toNat)] (by rfl) rfl rfl (by (try simp only [List.map_toArray, List.map_cons, List.map_nil]); first | done | (simp only [hji20]; rfl) | rfl | (simp only [List.length_drop, List.length_take]; rfl)) ?_
                       with_reducible refine (turnbuckleref01_Get.calls k1 (a0.extract ((ji20) : Int).toNat ((wrap64 (x8_1 + 24)) : Int).toNat) t139 _ A24.out).mono ?_
                       rintro e w' ⟨rfl, ⟨nd, rfl⟩⟩
                       refine ⟨_, rfl, ?_⟩
                       refine hK.out _ _ trivial (fun hHeld => ?_)
                       clear hK K
                       refine norm_ (a' := ?_) ?_ ?_
                       rotate_left
                       ·show Act.put _ (some 53) _ = _
                        simp only [Act.put, List.setIfInBounds_toArray, List.set_cons_zero, List.set_cons_succ, i64_w, i32_w]
                        rfl
                       refine pure_ (i := 29) (N := some 54) (v := ?_) (a' := ?_) #[true, true, true, true, true, true, true, true, true, true, true, true, true, true, true, true, true, true, true, true, true, true, true, true, true, true, true, true, true, true, false, false] rfl rfl (any_of HT_.out (by kernel_rfl)) (fun _ _ _ h => h) (Or.inl ⟨by rfl, ?_⟩) ?_ ?_
                       rotate_left
                       ·intro w'
                        go_simp
                        with_reducible rfl
                       rotate_left
                       ·simp only [Act.put, List.setIfInBounds_toArray, List.set_cons_zero, List.set_cons_succ, i64_w, i32_w]
                        rfl
                       exact norm_ (by first | (simp only [putAll, Act.put, List.setIfInBounds_toArray, List.set_cons_zero, List.set_cons_succ]; done) | (simp only [putAll, Act.put, List.setIfInBounds_toArray, List.set_cons_zero, List.set_cons_succ]; rfl)) (hJ5_12_20_28 () _ ⟨(by (with_reducible repeat (first | apply Kd.R_alloc | apply Kd.R_drewN | apply Kd.R_drew)); exact HO_7.out), (by repeat (first | (with_reducible first | exact HB.out | apply below_alloc | apply pw_below_drewN | apply below_drew1) | exact HB.out))⟩)
                      ·skip
                       refine box_step ?hg (N := 9) ?hd (cs := #[.int .u64 0, .int .i64 0, .int .i64 0, .int .u64 0]) (t := 27) ?hr ?_; (case hd => rfl); (case hg => rfl); (case hr => first | (go_simp; done) | (go_simp; rfl))
                       intro gb140 hg w28 hbox hb
                       have n0_ := Aside0.mk (Kd.R_below (Kd.R_elderB (by (with_reducible repeat (first | apply Kd.R_alloc | apply Kd.R_drewN | apply Kd.R_drew)); exact HO_7.out) gb140 (Nat.le_of_eq hg.symm)) hb)
                       have n1_ := Aside0.mk (below_step (by repeat (first | (with_reducible first | exact HB.out | apply below_alloc | apply pw_below_drewN | apply below_drew1) | exact HB.out)) hb)
                       have n2_ := Aside0.mk (hbox)
                       have n3_ := Aside0.mk ((by rw [hg]; exact (below_size (by repeat (first | (with_reducible first | exact HB.out | apply below_alloc | apply pw_below_drewN | apply below_drew1) | exact HB.out))) : w.heap.size ≤ gb140))
                       have n4_ := Aside0.mk ((by rw [hg]; exact (below_size (by repeat (first | (with_reducible first | exact HB.out | apply below_alloc | apply pw_below_drewN | apply below_drew1) | exact HB.out))) : w.heap.size ≤ gb140))
                       clear HO_7
                       clear HB
                       have HO_7 := n0_
                       have HB := n1_
                       have BK140 := n2_
                       have GW140 := n3_
                       have GE140 := n4_
                       clear n0_ n1_ n2_ n3_ n4_
                       clear hb hbox hg
                       refine hK.out _ _ trivial (fun hHeld => ?_)
                       clear hK K
                       refine norm_ (a' := ?_) ?_ ?_
                       rotate_left
                       ·show Act.put _ (some 9) _ = _
                        simp only [Act.put, List.setIfInBounds_toArray, List.set_cons_zero, List.set_cons_succ, i64_w, i32_w]
                        rfl
                       exact norm_ (by first | (simp only [putAll, Act.put, List.setIfInBounds_toArray, List.set_cons_zero, List.set_cons_succ]; done) | (simp only [putAll, Act.put, List.setIfInBounds_toArray, List.set_cons_zero, List.set_cons_succ]; rfl)) (hJ5_12_20_30 (gb140) _ ⟨(by (with_reducible repeat (first | apply Kd.R_alloc | apply Kd.R_drewN | apply Kd.R_drew)); exact Kd.R_mono HO_7.out (fun _ hk => hk.2)), (by (with_reducible repeat (first | refine blk_drewN ?_ _ | refine blk_drew ?_ | refine blk_alloc ?_ _)); exact BK140.out), GW140.out, GE140.out, (by repeat (first | (with_reducible first | exact HB.out | apply below_alloc | apply pw_below_drewN | apply below_drew1 | refine below_set ?_ GE140.out) | exact HB.out))⟩)
                    ·skip
                     rintro gb140 w28 ⟨h0_, h1_, h2_, h3_, h4_⟩
                     have n0_ : Aside0 (Kd.R k27 27 w28 w.heap.size (fun k_ => k_ ≠ gb140) u7 x7_1) := ⟨h0_⟩
                     have n1_ : Aside0 (w28.heap[gb140]? = some (.cells #[.int .u64 0, .int .i64 0, .int .i64 0, .int .u64 0] 27 (0, 0))) := ⟨h1_⟩
                     have n2_ : Aside0 (w.heap.size ≤ gb140) := ⟨h2_⟩
                     have n3_ : Aside0 (w.heap.size ≤ gb140) := ⟨h3_⟩
                     have n4_ : Aside0 (Below w.heap.size w w28) := ⟨h4_⟩
                     clear HO_7
                     clear HB
                     clear h0_ h1_ h2_ h3_ h4_
                     have HO_7 := n0_
                     have BK140 := n1_
                     have GW140 := n2_
                     have GE140 := n3_
                     have HB := n4_
                     clear n0_ n1_ n2_ n3_ n4_
                     have hHeld := trivial
                     refine norm_ (a' := ?_) ?_ ?_
                     rotate_left
                     ·simp only [putAll, Act.put, List.setIfInBounds_toArray, List.set_cons_zero, List.set_cons_succ]
                      rfl
                     refine one_ (i := 28) (N := some 53) #[true, true, true, true, true, true, true, true, true, true, true, true, true, true, true, true, true, true, true, true, true, true, true, true, true, true, true, true, true, false, true, false] rfl rfl (one_of HT_.out (by kernel_rfl)) (by decide) (fun K hK => ?_)
                     refine goes_ Try.func20 (by kernel_rfl) rfl #[.string (a0.extract ((ji20) : Int).toNat ((wrap64 (x8_1 + 24)) : Int).toNat)] (by rfl) rfl rfl (by (try simp only [List.map_toArray, List.map_cons, List.map_nil]); first | done | (simp only [hji20]; rfl) | rfl | (simp only [List.length_drop, List.length_take]; rfl)) ?_
                     with_reducible refine (turnbuckleref01_Get.calls k1 (a0.extract ((ji20) : Int).toNat ((wrap64 (x8_1 + 24)) : Int).toNat) t139 _ A24.out).mono ?_
                     rintro e w' ⟨rfl, ⟨nd, rfl⟩⟩
                     refine ⟨_, rfl, ?_⟩
                     refine hK.out _ _ trivial (fun hHeld => ?_)
                     clear hK K
                     refine norm_ (a' := ?_) ?_ ?_
                     rotate_left
                     ·show Act.put _ (some 53) _ = _
                      simp only [Act.put, List.setIfInBounds_toArray, List.set_cons_zero, List.set_cons_succ, i64_w, i32_w]
                      rfl
                     refine pure_ (i := 29) (N := some 54) (v := ?_) (a' := ?_) #[true, true, true, true, true, true, true, true, true, true, true, true, true, true, true, true, true, true, true, true, true, true, true, true, true, true, true, true, true, true, true, false] rfl rfl (any_of HT_.out (by kernel_rfl)) (fun _ _ _ h => h) (Or.inl ⟨by rfl, ?_⟩) ?_ ?_
                     rotate_left
                     ·intro w'
                      go_simp
                      with_reducible rfl
                     rotate_left
                     ·simp only [Act.put, List.setIfInBounds_toArray, List.set_cons_zero, List.set_cons_succ, i64_w, i32_w]
                      rfl
                     exact norm_ (by first | (simp only [putAll, Act.put, List.setIfInBounds_toArray, List.set_cons_zero, List.set_cons_succ]; done) | (simp only [putAll, Act.put, List.setIfInBounds_toArray, List.set_cons_zero, List.set_cons_succ]; rfl)) (hJ5_12_20_28_30 (gb140) _ ⟨(by (with_reducible repeat (first | apply Kd.R_alloc | apply Kd.R_drewN | apply Kd.R_drew)); exact HO_7.out), (by (with_reducible repeat (first | refine blk_drewN ?_ _ | refine blk_drew ?_ | refine blk_alloc ?_ _)); exact BK140.out), GW140.out, GE140.out, (by repeat (first | (with_reducible first | exact HB.out | apply below_alloc | apply pw_below_drewN | apply below_drew1 | refine below_set ?_ GE140.out) | exact HB.out))⟩)
                   ·skip
                    rintro _ w27 ⟨h0_, h1_⟩
                    have n0_ : Aside0 (Kd.R k27 27 w27 w.heap.size (fun _ => True) u7 x7_1) := ⟨h0_⟩
                    have n1_ : Aside0 (Below w.heap.size w w27) := ⟨h1_⟩
                    clear HO_7
                    clear HB
                    clear h0_ h1_
                    have HO_7 := n0_
                    have HB := n1_
                    clear n0_ n1_
                    have hHeld := trivial
                    refine norm_ (a' := ?_) ?_ ?_
                    rotate_left
                    ·simp only [putAll, Act.put, List.setIfInBounds_toArray, List.set_cons_zero, List.set_cons_succ]
                     rfl
                    refine one_ (i := 30) (N := some 9) #[true, true, true, true, true, true, true, true, true, true, true, true, true, true, true, true, true, true, true, true, true, true, true, true, true, true, true, true, true, true, true, false] rfl rfl (one_of HT_.out (by kernel_rfl)) (by decide) (fun K hK => ?_)
                    refine box_step ?hg (N := 9) ?hd (cs := #[.int .u64 0, .int .i64 0, .int .i64 0, .int .u64 0]) (t := 27) ?hr ?_; (case hd => rfl); (case hg => rfl); (case hr => first | (go_simp; done) | (go_simp; rfl))
                    intro gb140 hg w28 hbox hb
                    have n0_ := Aside0.mk (Kd.R_below (Kd.R_elderB (by (with_reducible repeat (first | apply Kd.R_alloc | apply Kd.R_drewN | apply Kd.R_drew)); exact HO_7.out) gb140 (Nat.le_of_eq hg.symm)) hb)
                    have n1_ := Aside0.mk (below_step (by repeat (first | (with_reducible first | exact HB.out | apply below_alloc | apply pw_below_drewN | apply below_drew1) | exact HB.out)) hb)
                    have n2_ := Aside0.mk (hbox)
                    have n3_ := Aside0.mk ((by rw [hg]; exact (below_size (by repeat (first | (with_reducible first | exact HB.out | apply below_alloc | apply pw_below_drewN | apply below_drew1) | exact HB.out))) : w.heap.size ≤ gb140))
                    have n4_ := Aside0.mk ((by rw [hg]; exact (below_size (by repeat (first | (with_reducible first | exact HB.out | apply below_alloc | apply pw_below_drewN | apply below_drew1) | exact HB.out))) : w.heap.size ≤ gb140))
                    clear HO_7
                    clear HB
                    have HO_7 := n0_
                    have HB := n1_
                    have BK140 := n2_
                    have GW140 := n3_
                    have GE140 := n4_
                    clear n0_ n1_ n2_ n3_ n4_
                    clear hb hbox hg
                    refine hK.out _ _ trivial (fun hHeld => ?_)
                    clear hK K
                    refine norm_ (a' := ?_) ?_ ?_
                    rotate_left
                    ·show Act.put _ (some 9) _ = _
                     simp only [Act.put, List.setIfInBounds_toArray, List.set_cons_zero, List.set_cons_succ, i64_w, i32_w]
                     rfl
                    exact norm_ (by first | (simp only [putAll, Act.put, List.setIfInBounds_toArray, List.set_cons_zero, List.set_cons_succ]; done) | (simp only [putAll, Act.put, List.setIfInBounds_toArray, List.set_cons_zero, List.set_cons_succ]; rfl)) (hJ5_12_20_28_30 (gb140) _ ⟨(by (with_reducible repeat (first | apply Kd.R_alloc | apply Kd.R_drewN | apply Kd.R_drew)); exact Kd.R_mono HO_7.out (fun _ hk => hk.2)), (by (with_reducible repeat (first | refine blk_drewN ?_ _ | refine blk_drew ?_ | refine blk_alloc ?_ _)); exact BK140.out), GW140.out, GE140.out, (by repeat (first | (with_reducible first | exact HB.out | apply below_alloc | apply pw_below_drewN | apply below_drew1 | refine below_set ?_ GE140.out) | exact HB.out))⟩)
                  rintro gb140 w28 ⟨h0_, h1_, h2_, h3_, h4_⟩
                  have n0_ : Aside0 (Kd.R k27 27 w28 w.heap.size (fun k_ => k_ ≠ gb140) u7 x7_1) := ⟨h0_⟩
                  have n1_ : Aside0 (w28.heap[gb140]? = some (.cells #[.int .u64 0, .int .i64 0, .int .i64 0, .int .u64 0] 27 (0, 0))) := ⟨h1_⟩
                  have n2_ : Aside0 (w.heap.size ≤ gb140) := ⟨h2_⟩
                  have n3_ : Aside0 (w.heap.size ≤ gb140) := ⟨h3_⟩
                  have n4_ : Aside0 (Below w.heap.size w w28) := ⟨h4_⟩
                  clear HO_7
                  clear HB
                  clear h0_ h1_ h2_ h3_ h4_
                  have HO_7 := n0_
                  have BK140 := n1_
                  have GW140 := n2_
                  have GE140 := n3_
                  have HB := n4_
                  clear n0_ n1_ n2_ n3_ n4_
                  have hHeld := trivial
                  refine norm_ (a' := ?_) ?_ ?_
                  rotate_left
                  ·simp only [putAll, Act.put, List.setIfInBounds_toArray, List.set_cons_zero, List.set_cons_succ]
                   rfl
                  refine one_ (i := 31) (N := none) #[true, true, true, true, true, true, true, true, true, true, true, true, true, true, true, true, true, true, true, true, true, true, true, true, true, true, true, true, true, true, true, true] rfl rfl (one_of HT_.out (by kernel_rfl)) (by decide) (fun K hK => ?_)
                  have hs29 : w28.cell? ⟨gb140, 0, none⟩ = some (.int .u64 0) := (blk_cell BK140.out 0).trans rfl
                  have hfs29 := blk_frozen BK140.out 0
                  have hs30 : w28.cell? ⟨gb140, 1, none⟩ = some (.int .i64 0) := (blk_cell BK140.out 1).trans rfl
                  have hfs30 := blk_frozen BK140.out 1
                  have hs31 : w28.cell? ⟨gb140, 2, none⟩ = some (.int .i64 0) := (blk_cell BK140.out 2).trans rfl
                  have hfs31 := blk_frozen BK140.out 2
                  have hs32 : w28.cell? ⟨gb140, 3, none⟩ = some (.int .u64 0) := (blk_cell BK140.out 3).trans rfl
                  have hfs32 := blk_frozen BK140.out 3
                  refine skip_ (w1 := ?_) (by rfl) rfl ?_ ?_
                  rotate_left
                  ·go_simp
                   rfl
                  refine hK.out _ _ trivial (fun hHeld => ?_)
                  clear hK K
                  refine done_ (done_of HT_.out (by kernel_rfl)) ?_
                  have hcz33_0 : w28.cell? ⟨gb140, 0, none⟩ = some (.int .u64 0) := (blk_cell BK140.out 0).trans rfl
                  have hcz33_1 : w28.cell? ⟨gb140, 1, none⟩ = some (.int .i64 0) := (blk_cell BK140.out 1).trans rfl
                  have hcz33_2 : w28.cell? ⟨gb140, 2, none⟩ = some (.int .i64 0) := (blk_cell BK140.out 2).trans rfl
                  have hcz33_3 : w28.cell? ⟨gb140, 3, none⟩ = some (.int .u64 0) := (blk_cell BK140.out 3).trans rfl
                  have hfz33_0 := blk_frozen BK140.out 0
                  have hfz33_1 := blk_frozen BK140.out 1
                  have hfz33_2 := blk_frozen BK140.out 2
                  have hfz33_3 := blk_frozen BK140.out 3
                  go_upto_if 58 with (fail)
                  go_cut [10] (fun v10 wc => ∃ (kq : Nat) (x10_24 : Int), v10 = .int .i64 x10_24 ∧ Aside0 (turnbuckleref15_Read.j1 kq a0 a1 x7_1 x8_1 x10_24 t136 (wrap64 (t137)) (wrap64 (t138)) t139 = some (r1, r2, r3)) ∧ Aside0 (kq ≤ k1) ∧ Aside0 (Kd.R k27 27 wc w.heap.size (fun k_ => k_ ≠ gb140) u7 x7_1) ∧ Aside0 (wc.heap[gb140]? = some (.cells #[.int .u64 t136, .int .i64 (wrap64 (t137)), .int .i64 (wrap64 (t138)), .int .u64 t139] 27 (0, 0))) ∧ Aside0 (Below w.heap.size w wc))
                  case first =>
                   have H := HC25.out
                   clear HC25
                   by_cases c34 : (Int.tmod t136 8) = 0
                   ·rw [if_pos c34] at H
                    have c34b0 : ((Int.tmod t136 8) == 0) = true := beq_iff_eq.mpr c34
                    have c34b1 : ((Int.tmod t136 8) != 0) = false := bne_eq_false_iff_eq.mpr c34
                    clear c34
                    (first | rw [c34b0] | (simp only [i64_w, i32_w]; rw [c34b0]) | skip)
                    have H' := Aside0.mk H
                    clear H
                    go_wp2
                    go_meet
                    case rel => exact ⟨_, (0), (by first | rfl | (simp; done) | (simp [*]; done)), H', ⟨by have := HK1.out; first | omega | exact Nat.le_refl _⟩, ⟨by (with_reducible repeat (first | apply Kd.R_alloc | apply Kd.R_drewN | apply Kd.R_drew)); exact Kd.R_mono (Kd.R_far (p := ⟨gb140, 3, none⟩) (Kd.R_far (p := ⟨gb140, 2, none⟩) (Kd.R_far (p := ⟨gb140, 1, none⟩) (Kd.R_far (p := ⟨gb140, 0, none⟩) (Kd.R_mono HO_7.out (fun k_ hk => (⟨hk, hk⟩ : _ ∧ k_ ≠ gb140))) (fun _ hk => hk.2) (.int .u64 t136)) (fun _ hk => hk.2) (.int .i64 (wrap64 (t137)))) (fun _ hk => hk.2) (.int .i64 (wrap64 (t138)))) (fun _ hk => hk.2) (.int .u64 t139)) (fun _ hk => hk.1)⟩, ⟨by (with_reducible repeat (first | refine blk_drewN ?_ _ | refine blk_drew ?_ | refine blk_alloc ?_ _)); refine blk_put (cs := #[.int .u64 t136, .int .i64 (wrap64 (t137)), .int .i64 (wrap64 (t138)), .int .u64 0]) ?_ 3 _ rfl; (with_reducible repeat (first | refine blk_drewN ?_ _ | refine blk_drew ?_ | refine blk_alloc ?_ _)); refine blk_put (cs := #[.int .u64 t136, .int .i64 (wrap64 (t137)), .int .i64 0, .int .u64 0]) ?_ 2 _ rfl; (with_reducible repeat (first | refine blk_drewN ?_ _ | refine blk_drew ?_ | refine blk_alloc ?_ _)); refine blk_put (cs := #[.int .u64 t136, .int .i64 0, .int .i64 0, .int .u64 0]) ?_ 1 _ rfl; (with_reducible repeat (first | refine blk_drewN ?_ _ | refine blk_drew ?_ | refine blk_alloc ?_ _)); refine blk_put (cs := #[.int .u64 0, .int .i64 0, .int .i64 0, .int .u64 0]) ?_ 0 _ rfl; (with_reducible repeat (first | refine blk_drewN ?_ _ | refine blk_drew ?_ | refine blk_alloc ?_ _)); exact BK140.out⟩, ⟨by repeat (first | (with_reducible first | exact HB.out | apply below_alloc | apply pw_below_drewN | apply below_drew1 | refine below_set ?_ GE140.out) | exact HB.out)⟩⟩
                   ·rw [if_neg c34] at H
                    have c34b0 : ((Int.tmod t136 8) == 0) = false := beq_eq_false_iff_ne.mpr c34
                    have c34b1 : ((Int.tmod t136 8) != 0) = true := bne_iff_ne.mpr c34
                    (first | rw [c34b0] | (simp only [i64_w, i32_w]; rw [c34b0]) | skip)
                    have H' := Aside0.mk H
                    clear H
                    go_wp2
                    go_meet
                    case rel => exact ⟨_, (13), (by first | rfl | (simp; done) | (simp [*]; done)), H', ⟨by have := HK1.out; first | omega | exact Nat.le_refl _⟩, ⟨by (with_reducible repeat (first | apply Kd.R_alloc | apply Kd.R_drewN | apply Kd.R_drew)); exact Kd.R_mono (Kd.R_far (p := ⟨gb140, 3, none⟩) (Kd.R_far (p := ⟨gb140, 2, none⟩) (Kd.R_far (p := ⟨gb140, 1, none⟩) (Kd.R_far (p := ⟨gb140, 0, none⟩) (Kd.R_mono HO_7.out (fun k_ hk => (⟨hk, hk⟩ : _ ∧ k_ ≠ gb140))) (fun _ hk => hk.2) (.int .u64 t136)) (fun _ hk => hk.2) (.int .i64 (wrap64 (t137)))) (fun _ hk => hk.2) (.int .i64 (wrap64 (t138)))) (fun _ hk => hk.2) (.int .u64 t139)) (fun _ hk => hk.1)⟩, ⟨by (with_reducible repeat (first | refine blk_drewN ?_ _ | refine blk_drew ?_ | refine blk_alloc ?_ _)); refine blk_put (cs := #[.int .u64 t136, .int .i64 (wrap64 (t137)), .int .i64 (wrap64 (t138)), .int .u64 0]) ?_ 3 _ rfl; (with_reducible repeat (first | refine blk_drewN ?_ _ | refine blk_drew ?_ | refine blk_alloc ?_ _)); refine blk_put (cs := #[.int .u64 t136, .int .i64 (wrap64 (t137)), .int .i64 0, .int .u64 0]) ?_ 2 _ rfl; (with_reducible repeat (first | refine blk_drewN ?_ _ | refine blk_drew ?_ | refine blk_alloc ?_ _)); refine blk_put (cs := #[.int .u64 t136, .int .i64 0, .int .i64 0, .int .u64 0]) ?_ 1 _ rfl; (with_reducible repeat (first | refine blk_drewN ?_ _ | refine blk_drew ?_ | refine blk_alloc ?_ _)); refine blk_put (cs := #[.int .u64 0, .int .i64 0, .int .i64 0, .int .u64 0]) ?_ 0 _ rfl; (with_reducible repeat (first | refine blk_drewN ?_ _ | refine blk_drew ?_ | refine blk_alloc ?_ _)); exact BK140.out⟩, ⟨by repeat (first | (with_reducible first | exact HB.out | apply below_alloc | apply pw_below_drewN | apply below_drew1 | refine below_set ?_ GE140.out) | exact HB.out)⟩⟩
                  case rest =>
                   clear HC25
                   try clear c2
                   try clear p2
                   try clear c3
                   try clear p6
                   try clear c20
                   try clear c34
                   try clear c34b0
                   try clear c34b1
                   try clear hcz33_0
                   try clear hcz33_1
                   try clear hcz33_2
                   try clear hcz33_3
                   try clear hfz33_0
                   try clear hfz33_1
                   try clear hfz33_2
                   try clear hfz33_3
                   obtain ⟨kq, x10_24, rfl, HA, HJ24, HO_7, BK140, HB⟩ := hcut
                   cases kq with
                   | zero => exact absurd HA.out (by simp [turnbuckleref15_Read.j1])
                   | succ kj24 =>
                    have H := HA.out
                    clear HA
                    simp only [turnbuckleref15_Read.j1] at H
                    have HC35 := Aside0.mk H
                    clear H
                    go_upto_region 13 with (fail)
                    go_cut [66] (fun v66 wc => ∃ (kq : Nat) (x66_34 : Bool), v66 = .bool x66_34 ∧ Aside0 (turnbuckleref15_Read.j2 kq a0 a1 x7_1 x8_1 x10_24 x66_34 t136 (wrap64 (t137)) (wrap64 (t138)) t139 = some (r1, r2, r3)) ∧ Aside0 (kq ≤ kj24) ∧ Aside0 (Kd.R k27 27 wc w.heap.size (fun k_ => k_ ≠ gb140) u7 x7_1) ∧ Aside0 (wc.heap[gb140]? = some (.cells #[.int .u64 t136, .int .i64 (wrap64 (t137)), .int .i64 (wrap64 (t138)), .int .u64 t139] 27 (0, 0))) ∧ Aside0 (Below w.heap.size w wc))
                    case first =>
                     have H := HC35.out
                     clear HC35
                     by_cases c36 : (wrap64 (t137)) = 3
                     ·rw [if_pos c36] at H
                      have c36b0 : ((wrap64 (t137)) == 3) = true := beq_iff_eq.mpr c36
                      have c36b1 : ((wrap64 (t137)) != 3) = false := bne_eq_false_iff_eq.mpr c36
                      clear c36
                      (first | rw [c36b0] | (simp only [i64_w, i32_w]; rw [c36b0]) | skip)
                      have H' := Aside0.mk H
                      clear H
                      have hcz37_0 : wc.cell? ⟨gb140, 0, none⟩ = some (.int .u64 t136) := (blk_cell BK140.out 0).trans rfl
                      have hcz37_1 : wc.cell? ⟨gb140, 1, none⟩ = some (.int .i64 (wrap64 (t137))) := (blk_cell BK140.out 1).trans rfl
                      have hcz37_2 : wc.cell? ⟨gb140, 2, none⟩ = some (.int .i64 (wrap64 (t138))) := (blk_cell BK140.out 2).trans rfl
                      have hcz37_3 : wc.cell? ⟨gb140, 3, none⟩ = some (.int .u64 t139) := (blk_cell BK140.out 3).trans rfl
                      have hfz37_0 := blk_frozen BK140.out 0
                      have hfz37_1 := blk_frozen BK140.out 1
                      have hfz37_2 := blk_frozen BK140.out 2
                      have hfz37_3 := blk_frozen BK140.out 3
                      go_wp2
                      go_meet
                      case rel => exact ⟨_, (decide ((wrap64 (t138)) > 0)), (by first | rfl | (simp; done) | (simp [*]; done)), H', ⟨by have := HK1.out; have := HJ24.out; first | omega | exact Nat.le_refl _⟩, ⟨by (with_reducible repeat (first | apply Kd.R_alloc | apply Kd.R_drewN | apply Kd.R_drew)); exact HO_7.out⟩, ⟨by (with_reducible repeat (first | refine blk_drewN ?_ _ | refine blk_drew ?_ | refine blk_alloc ?_ _)); exact BK140.out⟩, ⟨by repeat (first | (with_reducible first | exact HB.out | apply below_alloc | apply pw_below_drewN | apply below_drew1 | refine below_set ?_ GE140.out) | exact HB.out)⟩⟩
                     ·rw [if_neg c36] at H
                      have c36b0 : ((wrap64 (t137)) == 3) = false := beq_eq_false_iff_ne.mpr c36
                      have c36b1 : ((wrap64 (t137)) != 3) = true := bne_iff_ne.mpr c36
                      (first | rw [c36b0] | (simp only [i64_w, i32_w]; rw [c36b0]) | skip)
                      have H' := Aside0.mk H
                      clear H
                      have hcz38_0 : wc.cell? ⟨gb140, 0, none⟩ = some (.int .u64 t136) := (blk_cell BK140.out 0).trans rfl
                      have hcz38_1 : wc.cell? ⟨gb140, 1, none⟩ = some (.int .i64 (wrap64 (t137))) := (blk_cell BK140.out 1).trans rfl
                      have hcz38_2 : wc.cell? ⟨gb140, 2, none⟩ = some (.int .i64 (wrap64 (t138))) := (blk_cell BK140.out 2).trans rfl
                      have hcz38_3 : wc.cell? ⟨gb140, 3, none⟩ = some (.int .u64 t139) := (blk_cell BK140.out 3).trans rfl
                      have hfz38_0 := blk_frozen BK140.out 0
                      have hfz38_1 := blk_frozen BK140.out 1
                      have hfz38_2 := blk_frozen BK140.out 2
                      have hfz38_3 := blk_frozen BK140.out 3
                      go_wp2
                      go_meet
                      case rel => exact ⟨_, (false), (by first | rfl | (simp; done) | (simp [*]; done)), H', ⟨by have := HK1.out; have := HJ24.out; first | omega | exact Nat.le_refl _⟩, ⟨by (with_reducible repeat (first | apply Kd.R_alloc | apply Kd.R_drewN | apply Kd.R_drew)); exact HO_7.out⟩, ⟨by (with_reducible repeat (first | refine blk_drewN ?_ _ | refine blk_drew ?_ | refine blk_alloc ?_ _)); exact BK140.out⟩, ⟨by repeat (first | (with_reducible first | exact HB.out | apply below_alloc | apply pw_below_drewN | apply below_drew1 | refine below_set ?_ GE140.out) | exact HB.out)⟩⟩
                    case rest =>
                     clear HC35
                     try clear c2
                     try clear p2
                     try clear c3
                     try clear p6
                     try clear c20
                     try clear c34
                     try clear c34b0
                     try clear c34b1
                     try clear c36
                     try clear c36b0
                     try clear c36b1
                     try clear hcz33_0
                     try clear hcz33_1
                     try clear hcz33_2
                     try clear hcz33_3
                     try clear hcz37_0
                     try clear hcz37_1
                     try clear hcz37_2
                     try clear hcz37_3
                     try clear hcz38_0
                     try clear hcz38_1
                     try clear hcz38_2
                     try clear hcz38_3
                     try clear hfz33_0
                     try clear hfz33_1
                     try clear hfz33_2
                     try clear hfz33_3
                     try clear hfz37_0
                     try clear hfz37_1
                     try clear hfz37_2
                     try clear hfz37_3
                     try clear hfz38_0
                     try clear hfz38_1
                     try clear hfz38_2
                     try clear hfz38_3
                     try clear p2
                     try clear p6
                     obtain ⟨kq, x66_34, rfl, HA, HJ34, HO_7, BK140, HB⟩ := hcut
                     cases kq with
                     | zero => exact absurd HA.out (by simp [turnbuckleref15_Read.j2])
                     | succ kj34 =>
                      have H := HA.out
                      clear HA
                      simp only [turnbuckleref15_Read.j2] at H
                      have HC39 := Aside0.mk H
                      clear H
                      go_upto_if 66 with (fail)
                      go_cut [10] (fun v10 wc => ∃ (kq : Nat) (x10_38 : Int), v10 = .int .i64 x10_38 ∧ Aside0 (turnbuckleref15_Read.j3 kq a0 a1 x7_1 x8_1 x10_38 t136 (wrap64 (t137)) (wrap64 (t138)) t139 = some (r1, r2, r3)) ∧ Aside0 (kq ≤ kj34) ∧ Aside0 (Kd.R k27 27 wc w.heap.size (fun k_ => k_ ≠ gb140) u7 x7_1) ∧ Aside0 (wc.heap[gb140]? = some (.cells #[.int .u64 t136, .int .i64 (wrap64 (t137)), .int .i64 (wrap64 (t138)), .int .u64 t139] 27 (0, 0))) ∧ Aside0 (Below w.heap.size w wc))
                      case first =>
                       have H := HC39.out
                       clear HC39
                       by_cases c40 : x66_34 = true
                       ·subst c40
                        have H1 : (turnbuckleref15_Read.j3 kj34 a0 a1 x7_1 x8_1 4 t136 (wrap64 (t137)) (wrap64 (t138)) t139) = some (r1, r2, r3) := by rw [if_pos rfl] at H; exact H
                        clear H
                        have H := H1
                        clear H1
                        have H' := Aside0.mk H
                        clear H
                        go_wp2
                        go_meet
                        case rel => exact ⟨_, (4), (by first | rfl | (simp; done) | (simp [*]; done)), H', ⟨by have := HK1.out; have := HJ24.out; have := HJ34.out; first | omega | exact Nat.le_refl _⟩, ⟨by (with_reducible repeat (first | apply Kd.R_alloc | apply Kd.R_drewN | apply Kd.R_drew)); exact HO_7.out⟩, ⟨by (with_reducible repeat (first | refine blk_drewN ?_ _ | refine blk_drew ?_ | refine blk_alloc ?_ _)); exact BK140.out⟩, ⟨by repeat (first | (with_reducible first | exact HB.out | apply below_alloc | apply pw_below_drewN | apply below_drew1 | refine below_set ?_ GE140.out) | exact HB.out)⟩⟩
                       ·replace c40 := Bool.eq_false_iff.mpr c40
                        subst c40
                        have H1 : (turnbuckleref15_Read.j3 kj34 a0 a1 x7_1 x8_1 x10_24 t136 (wrap64 (t137)) (wrap64 (t138)) t139) = some (r1, r2, r3) := by rw [if_neg (show ¬ (false = true) by decide)] at H; exact H
                        clear H
                        have H := H1
                        clear H1
                        have H' := Aside0.mk H
                        clear H
                        go_wp2
                        go_meet
                        case rel => exact ⟨_, (x10_24), (by first | rfl | (simp; done) | (simp [*]; done)), H', ⟨by have := HK1.out; have := HJ24.out; have := HJ34.out; first | omega | exact Nat.le_refl _⟩, ⟨by (with_reducible repeat (first | apply Kd.R_alloc | apply Kd.R_drewN | apply Kd.R_drew)); exact HO_7.out⟩, ⟨by (with_reducible repeat (first | refine blk_drewN ?_ _ | refine blk_drew ?_ | refine blk_alloc ?_ _)); exact BK140.out⟩, ⟨by repeat (first | (with_reducible first | exact HB.out | apply below_alloc | apply pw_below_drewN | apply below_drew1 | refine below_set ?_ GE140.out) | exact HB.out)⟩⟩
                      case rest =>
                       clear HC39
                       try clear c2
                       try clear p2
                       try clear c3
                       try clear c4
                       try clear p6
                       try clear c20
                       try clear c34
                       try clear c34b0
                       try clear c34b1
                       try clear c36
                       try clear c36b0
                       try clear c36b1
                       try clear c40
                       try clear hcz33_0
                       try clear hcz33_1
                       try clear hcz33_2
                       try clear hcz33_3
                       try clear hcz37_0
                       try clear hcz37_1
                       try clear hcz37_2
                       try clear hcz37_3
                       try clear hcz38_0
                       try clear hcz38_1
                       try clear hcz38_2
                       try clear hcz38_3
                       try clear hfz33_0
                       try clear hfz33_1
                       try clear hfz33_2
                       try clear hfz33_3
                       try clear hfz37_0
                       try clear hfz37_1
                       try clear hfz37_2
                       try clear hfz37_3
                       try clear hfz38_0
                       try clear hfz38_1
                       try clear hfz38_2
                       try clear hfz38_3
                       try clear p2
                       try clear p6
                       obtain ⟨kq, x10_38, rfl, HA, HJ38, HO_7, BK140, HB⟩ := hcut
                       cases kq with
                       | zero => exact absurd HA.out (by simp [turnbuckleref15_Read.j3])
                       | succ kj38 =>
                        have H := HA.out
                        clear HA
                        simp only [turnbuckleref15_Read.j3] at H
                        have HC41 := Aside0.mk H
                        clear H
                        go_upto_region 15 with (fail)
                        go_cut [75] (fun v75 wc => ∃ (kq : Nat) (x75_40 : Bool), v75 = .bool x75_40 ∧ Aside0 (turnbuckleref15_Read.j4 kq a0 a1 x7_1 x8_1 x10_38 x75_40 t136 (wrap64 (t137)) (wrap64 (t138)) t139 = some (r1, r2, r3)) ∧ Aside0 (kq ≤ kj38) ∧ Aside0 (Kd.R k27 27 wc w.heap.size (fun k_ => k_ ≠ gb140) u7 x7_1) ∧ Aside0 (wc.heap[gb140]? = some (.cells #[.int .u64 t136, .int .i64 (wrap64 (t137)), .int .i64 (wrap64 (t138)), .int .u64 t139] 27 (0, 0))) ∧ Aside0 (Below w.heap.size w wc))
                        case first =>
                         have H := HC41.out
                         clear HC41
                         by_cases c42 : (wrap64 (t137)) = 3
                         ·rw [if_pos c42] at H
                          have c42b0 : ((wrap64 (t137)) == 3) = true := beq_iff_eq.mpr c42
                          have c42b1 : ((wrap64 (t137)) != 3) = false := bne_eq_false_iff_eq.mpr c42
                          clear c42
                          (first | rw [c42b0] | (simp only [i64_w, i32_w]; rw [c42b0]) | skip)
                          have H' := Aside0.mk H
                          clear H
                          have hcz43_0 : wc.cell? ⟨gb140, 0, none⟩ = some (.int .u64 t136) := (blk_cell BK140.out 0).trans rfl
                          have hcz43_1 : wc.cell? ⟨gb140, 1, none⟩ = some (.int .i64 (wrap64 (t137))) := (blk_cell BK140.out 1).trans rfl
                          have hcz43_2 : wc.cell? ⟨gb140, 2, none⟩ = some (.int .i64 (wrap64 (t138))) := (blk_cell BK140.out 2).trans rfl
                          have hcz43_3 : wc.cell? ⟨gb140, 3, none⟩ = some (.int .u64 t139) := (blk_cell BK140.out 3).trans rfl
                          have hfz43_0 := blk_frozen BK140.out 0
                          have hfz43_1 := blk_frozen BK140.out 1
                          have hfz43_2 := blk_frozen BK140.out 2
                          have hfz43_3 := blk_frozen BK140.out 3
                          go_wp2
                          go_meet
                          case rel => exact ⟨_, (false), (by first | rfl | (simp; done) | (simp [*]; done)), H', ⟨by have := HK1.out; have := HJ24.out; have := HJ34.out; have := HJ38.out; first | omega | exact Nat.le_refl _⟩, ⟨by (with_reducible repeat (first | apply Kd.R_alloc | apply Kd.R_drewN | apply Kd.R_drew)); exact HO_7.out⟩, ⟨by (with_reducible repeat (first | refine blk_drewN ?_ _ | refine blk_drew ?_ | refine blk_alloc ?_ _)); exact BK140.out⟩, ⟨by repeat (first | (with_reducible first | exact HB.out | apply below_alloc | apply pw_below_drewN | apply below_drew1 | refine below_set ?_ GE140.out) | exact HB.out)⟩⟩
                         ·rw [if_neg c42] at H
                          have c42b0 : ((wrap64 (t137)) == 3) = false := beq_eq_false_iff_ne.mpr c42
                          have c42b1 : ((wrap64 (t137)) != 3) = true := bne_iff_ne.mpr c42
                          (first | rw [c42b0] | (simp only [i64_w, i32_w]; rw [c42b0]) | skip)
                          have H' := Aside0.mk H
                          clear H
                          have hcz44_0 : wc.cell? ⟨gb140, 0, none⟩ = some (.int .u64 t136) := (blk_cell BK140.out 0).trans rfl
                          have hcz44_1 : wc.cell? ⟨gb140, 1, none⟩ = some (.int .i64 (wrap64 (t137))) := (blk_cell BK140.out 1).trans rfl
                          have hcz44_2 : wc.cell? ⟨gb140, 2, none⟩ = some (.int .i64 (wrap64 (t138))) := (blk_cell BK140.out 2).trans rfl
                          have hcz44_3 : wc.cell? ⟨gb140, 3, none⟩ = some (.int .u64 t139) := (blk_cell BK140.out 3).trans rfl
                          have hfz44_0 := blk_frozen BK140.out 0
                          have hfz44_1 := blk_frozen BK140.out 1
                          have hfz44_2 := blk_frozen BK140.out 2
                          have hfz44_3 := blk_frozen BK140.out 3
                          go_wp2
                          go_meet
                          case rel => exact ⟨_, (decide ((wrap64 (t138)) ≥ a1)), (by first | rfl | (simp; done) | (simp [*]; done)), H', ⟨by have := HK1.out; have := HJ24.out; have := HJ34.out; have := HJ38.out; first | omega | exact Nat.le_refl _⟩, ⟨by (with_reducible repeat (first | apply Kd.R_alloc | apply Kd.R_drewN | apply Kd.R_drew)); exact HO_7.out⟩, ⟨by (with_reducible repeat (first | refine blk_drewN ?_ _ | refine blk_drew ?_ | refine blk_alloc ?_ _)); exact BK140.out⟩, ⟨by repeat (first | (with_reducible first | exact HB.out | apply below_alloc | apply pw_below_drewN | apply below_drew1 | refine below_set ?_ GE140.out) | exact HB.out)⟩⟩
                        case rest =>
                         clear HC41
                         try clear c2
                         try clear p2
                         try clear c3
                         try clear c4
                         try clear p6
                         try clear c20
                         try clear c34
                         try clear c34b0
                         try clear c34b1
                         try clear c36
                         try clear c36b0
                         try clear c36b1
                         try clear c40
                         try clear c42
                         try clear c42b0
                         try clear c42b1
                         try clear hcz33_0
                         try clear hcz33_1
                         try clear hcz33_2
                         try clear hcz33_3
                         try clear hcz37_0
                         try clear hcz37_1
                         try clear hcz37_2
                         try clear hcz37_3
                         try clear hcz38_0
                         try clear hcz38_1
                         try clear hcz38_2
                         try clear hcz38_3
                         try clear hcz43_0
                         try clear hcz43_1
                         try clear hcz43_2
                         try clear hcz43_3
                         try clear hcz44_0
                         try clear hcz44_1
                         try clear hcz44_2
                         try clear hcz44_3
                         try clear hfz33_0
                         try clear hfz33_1
                         try clear hfz33_2
                         try clear hfz33_3
                         try clear hfz37_0
                         try clear hfz37_1
                         try clear hfz37_2
                         try clear hfz37_3
                         try clear hfz38_0
                         try clear hfz38_1
                         try clear hfz38_2
                         try clear hfz38_3
                         try clear hfz43_0
                         try clear hfz43_1
                         try clear hfz43_2
                         try clear hfz43_3
                         try clear hfz44_0
                         try clear hfz44_1
                         try clear hfz44_2
                         try clear hfz44_3
                         try clear p2
                         try clear p6
                         obtain ⟨kq, x75_40, rfl, HA, HJ40, HO_7, BK140, HB⟩ := hcut
                         cases kq with
                         | zero => exact absurd HA.out (by simp [turnbuckleref15_Read.j4])
                         | succ kj40 =>
                          have H := HA.out
                          clear HA
                          simp only [turnbuckleref15_Read.j4] at H
                          have HC45 := Aside0.mk H
                          clear H
                          go_upto_if 75 with (fail)
                          go_cut [10] (fun v10 wc => ∃ (kq : Nat) (x10_44 : Int), v10 = .int .i64 x10_44 ∧ Aside0 (turnbuckleref15_Read.j5 kq a0 a1 x7_1 x8_1 x10_44 t136 (wrap64 (t137)) (wrap64 (t138)) t139 = some (r1, r2, r3)) ∧ Aside0 (kq ≤ kj40) ∧ Aside0 (Kd.R k27 27 wc w.heap.size (fun k_ => k_ ≠ gb140) u7 x7_1) ∧ Aside0 (wc.heap[gb140]? = some (.cells #[.int .u64 t136, .int .i64 (wrap64 (t137)), .int .i64 (wrap64 (t138)), .int .u64 t139] 27 (0, 0))) ∧ Aside0 (Below w.heap.size w wc))
                          case first =>
                           have H := HC45.out
                           clear HC45
                           by_cases c46 : x75_40 = true
                           ·subst c46
                            have H1 : (turnbuckleref15_Read.j5 kj40 a0 a1 x7_1 x8_1 5 t136 (wrap64 (t137)) (wrap64 (t138)) t139) = some (r1, r2, r3) := by rw [if_pos rfl] at H; exact H
                            clear H
                            have H := H1
                            clear H1
                            have H' := Aside0.mk H
                            clear H
                            go_wp2
                            go_meet
                            case rel => exact ⟨_, (5), (by first | rfl | (simp; done) | (simp [*]; done)), H', ⟨by have := HK1.out; have := HJ24.out; have := HJ34.out; have := HJ38.out; have := HJ40.out; first | omega | exact Nat.le_refl _⟩, ⟨by (with_reducible repeat (first | apply Kd.R_alloc | apply Kd.R_drewN | apply Kd.R_drew)); exact HO_7.out⟩, ⟨by (with_reducible repeat (first | refine blk_drewN ?_ _ | refine blk_drew ?_ | refine blk_alloc ?_ _)); exact BK140.out⟩, ⟨by repeat (first | (with_reducible first | exact HB.out | apply below_alloc | apply pw_below_drewN | apply below_drew1 | refine below_set ?_ GE140.out) | exact HB.out)⟩⟩
                           ·replace c46 := Bool.eq_false_iff.mpr c46
                            subst c46
                            have H1 : (turnbuckleref15_Read.j5 kj40 a0 a1 x7_1 x8_1 x10_38 t136 (wrap64 (t137)) (wrap64 (t138)) t139) = some (r1, r2, r3) := by rw [if_neg (show ¬ (false = true) by decide)] at H; exact H
                            clear H
                            have H := H1
                            clear H1
                            have H' := Aside0.mk H
                            clear H
                            go_wp2
                            go_meet
                            case rel => exact ⟨_, (x10_38), (by first | rfl | (simp; done) | (simp [*]; done)), H', ⟨by have := HK1.out; have := HJ24.out; have := HJ34.out; have := HJ38.out; have := HJ40.out; first | omega | exact Nat.le_refl _⟩, ⟨by (with_reducible repeat (first | apply Kd.R_alloc | apply Kd.R_drewN | apply Kd.R_drew)); exact HO_7.out⟩, ⟨by (with_reducible repeat (first | refine blk_drewN ?_ _ | refine blk_drew ?_ | refine blk_alloc ?_ _)); exact BK140.out⟩, ⟨by repeat (first | (with_reducible first | exact HB.out | apply below_alloc | apply pw_below_drewN | apply below_drew1 | refine below_set ?_ GE140.out) | exact HB.out)⟩⟩
                          case rest =>
                           clear HC45
                           try clear c2
                           try clear p2
                           try clear c3
                           try clear c4
                           try clear p6
                           try clear c20
                           try clear c34
                           try clear c34b0
                           try clear c34b1
                           try clear c36
                           try clear c36b0
                           try clear c36b1
                           try clear c40
                           try clear c42
                           try clear c42b0
                           try clear c42b1
                           try clear c46
                           try clear hcz33_0
                           try clear hcz33_1
                           try clear hcz33_2
                           try clear hcz33_3
                           try clear hcz37_0
                           try clear hcz37_1
                           try clear hcz37_2
                           try clear hcz37_3
                           try clear hcz38_0
                           try clear hcz38_1
                           try clear hcz38_2
                           try clear hcz38_3
                           try clear hcz43_0
                           try clear hcz43_1
                           try clear hcz43_2
                           try clear hcz43_3
                           try clear hcz44_0
                           try clear hcz44_1
                           try clear hcz44_2
                           try clear hcz44_3
                           try clear hfz33_0
                           try clear hfz33_1
                           try clear hfz33_2
                           try clear hfz33_3
                           try clear hfz37_0
                           try clear hfz37_1
                           try clear hfz37_2
                           try clear hfz37_3
                           try clear hfz38_0
                           try clear hfz38_1
                           try clear hfz38_2
                           try clear hfz38_3
                           try clear hfz43_0
                           try clear hfz43_1
                           try clear hfz43_2
                           try clear hfz43_3
                           try clear hfz44_0
                           try clear hfz44_1
                           try clear hfz44_2
                           try clear hfz44_3
                           try clear p2
                           try clear p6
                           obtain ⟨kq, x10_44, rfl, HA, HJ44, HO_7, BK140, HB⟩ := hcut
                           cases kq with
                           | zero => exact absurd HA.out (by simp [turnbuckleref15_Read.j5])
                           | succ kj44 =>
                            have H := HA.out
                            clear HA
                            simp only [turnbuckleref15_Read.j5] at H
                            have HC47 := Aside0.mk H
                            clear H
                            go_upto_region 17 with (fail)
                            go_cut [83] (fun v83 wc => ∃ (kq : Nat) (x83_46 : Bool), v83 = .bool x83_46 ∧ Aside0 (turnbuckleref15_Read.j6 kq a0 a1 x7_1 x8_1 x10_44 x83_46 t136 (wrap64 (t137)) (wrap64 (t138)) t139 = some (r1, r2, r3)) ∧ Aside0 (kq ≤ kj44) ∧ Aside0 (Kd.R k27 27 wc w.heap.size (fun k_ => k_ ≠ gb140) u7 x7_1) ∧ Aside0 (wc.heap[gb140]? = some (.cells #[.int .u64 t136, .int .i64 (wrap64 (t137)), .int .i64 (wrap64 (t138)), .int .u64 t139] 27 (0, 0))) ∧ Aside0 (Below w.heap.size w wc))
                            case first =>
                             have H := HC47.out
                             clear HC47
                             by_cases c48 : (wrap64 (t137)) < 2
                             ·rw [if_pos c48] at H
                              have c48b0 : decide ((wrap64 (t137)) < 2) = true := decide_eq_true c48
                              clear c48
                              (first | rw [c48b0] | (simp only [i64_w, i32_w]; rw [c48b0]) | skip)
                              have H' := Aside0.mk H
                              clear H
                              have hcz49_0 : wc.cell? ⟨gb140, 0, none⟩ = some (.int .u64 t136) := (blk_cell BK140.out 0).trans rfl
                              have hcz49_1 : wc.cell? ⟨gb140, 1, none⟩ = some (.int .i64 (wrap64 (t137))) := (blk_cell BK140.out 1).trans rfl
                              have hcz49_2 : wc.cell? ⟨gb140, 2, none⟩ = some (.int .i64 (wrap64 (t138))) := (blk_cell BK140.out 2).trans rfl
                              have hcz49_3 : wc.cell? ⟨gb140, 3, none⟩ = some (.int .u64 t139) := (blk_cell BK140.out 3).trans rfl
                              have hfz49_0 := blk_frozen BK140.out 0
                              have hfz49_1 := blk_frozen BK140.out 1
                              have hfz49_2 := blk_frozen BK140.out 2
                              have hfz49_3 := blk_frozen BK140.out 3
                              go_wp2
                              go_meet
                              case rel => exact ⟨_, (true), (by first | rfl | (simp; done) | (simp [*]; done)), H', ⟨by have := HK1.out; have := HJ24.out; have := HJ34.out; have := HJ38.out; have := HJ40.out; have := HJ44.out; first | omega | exact Nat.le_refl _⟩, ⟨by (with_reducible repeat (first | apply Kd.R_alloc | apply Kd.R_drewN | apply Kd.R_drew)); exact HO_7.out⟩, ⟨by (with_reducible repeat (first | refine blk_drewN ?_ _ | refine blk_drew ?_ | refine blk_alloc ?_ _)); exact BK140.out⟩, ⟨by repeat (first | (with_reducible first | exact HB.out | apply below_alloc | apply pw_below_drewN | apply below_drew1 | refine below_set ?_ GE140.out) | exact HB.out)⟩⟩
                             ·rw [if_neg c48] at H
                              have c48b0 : decide ((wrap64 (t137)) < 2) = false := decide_eq_false c48
                              clear c48
                              (first | rw [c48b0] | (simp only [i64_w, i32_w]; rw [c48b0]) | skip)
                              have H' := Aside0.mk H
                              clear H
                              have hcz50_0 : wc.cell? ⟨gb140, 0, none⟩ = some (.int .u64 t136) := (blk_cell BK140.out 0).trans rfl
                              have hcz50_1 : wc.cell? ⟨gb140, 1, none⟩ = some (.int .i64 (wrap64 (t137))) := (blk_cell BK140.out 1).trans rfl
                              have hcz50_2 : wc.cell? ⟨gb140, 2, none⟩ = some (.int .i64 (wrap64 (t138))) := (blk_cell BK140.out 2).trans rfl
                              have hcz50_3 : wc.cell? ⟨gb140, 3, none⟩ = some (.int .u64 t139) := (blk_cell BK140.out 3).trans rfl
                              have hfz50_0 := blk_frozen BK140.out 0
                              have hfz50_1 := blk_frozen BK140.out 1
                              have hfz50_2 := blk_frozen BK140.out 2
                              have hfz50_3 := blk_frozen BK140.out 3
                              go_wp2
                              go_meet
                              case rel => exact ⟨_, (decide ((wrap64 (t137)) > 5)), (by first | rfl | (simp; done) | (simp [*]; done)), H', ⟨by have := HK1.out; have := HJ24.out; have := HJ34.out; have := HJ38.out; have := HJ40.out; have := HJ44.out; first | omega | exact Nat.le_refl _⟩, ⟨by (with_reducible repeat (first | apply Kd.R_alloc | apply Kd.R_drewN | apply Kd.R_drew)); exact HO_7.out⟩, ⟨by (with_reducible repeat (first | refine blk_drewN ?_ _ | refine blk_drew ?_ | refine blk_alloc ?_ _)); exact BK140.out⟩, ⟨by repeat (first | (with_reducible first | exact HB.out | apply below_alloc | apply pw_below_drewN | apply below_drew1 | refine below_set ?_ GE140.out) | exact HB.out)⟩⟩
                            case rest =>
                             clear HC47
                             try clear c2
                             try clear p2
                             try clear c3
                             try clear c4
                             try clear p6
                             try clear c20
                             try clear c34
                             try clear c34b0
                             try clear c34b1
                             try clear c36
                             try clear c36b0
                             try clear c36b1
                             try clear c40
                             try clear c42
                             try clear c42b0
                             try clear c42b1
                             try clear c46
                             try clear c48
                             try clear c48b0
                             try clear hcz33_0
                             try clear hcz33_1
                             try clear hcz33_2
                             try clear hcz33_3
                             try clear hcz37_0
                             try clear hcz37_1
                             try clear hcz37_2
                             try clear hcz37_3
                             try clear hcz38_0
                             try clear hcz38_1
                             try clear hcz38_2
                             try clear hcz38_3
                             try clear hcz43_0
                             try clear hcz43_1
                             try clear hcz43_2
                             try clear hcz43_3
                             try clear hcz44_0
                             try clear hcz44_1
                             try clear hcz44_2
                             try clear hcz44_3
                             try clear hcz49_0
                             try clear hcz49_1
                             try clear hcz49_2
                             try clear hcz49_3
                             try clear hcz50_0
                             try clear hcz50_1
                             try clear hcz50_2
                             try clear hcz50_3
                             try clear hfz33_0
                             try clear hfz33_1
                             try clear hfz33_2
                             try clear hfz33_3
                             try clear hfz37_0
                             try clear hfz37_1
                             try clear hfz37_2
                             try clear hfz37_3
                             try clear hfz38_0
                             try clear hfz38_1
                             try clear hfz38_2
                             try clear hfz38_3
                             try clear hfz43_0
                             try clear hfz43_1
                             try clear hfz43_2
                             try clear hfz43_3
                             try clear hfz44_0
                             try clear hfz44_1
                             try clear hfz44_2
                             try clear hfz44_3
                             try clear hfz49_0
                             try clear hfz49_1
                             try clear hfz49_2
                             try clear hfz49_3
                             try clear hfz50_0
                             try clear hfz50_1
                             try clear hfz50_2
                             try clear hfz50_3
                             try clear p2
                             try clear p6
                             obtain ⟨kq, x83_46, rfl, HA, HJ46, HO_7, BK140, HB⟩ := hcut
                             cases kq with
                             | zero => exact absurd HA.out (by simp [turnbuckleref15_Read.j6])
                             | succ kj46 =>
                              have H := HA.out
                              clear HA
                              simp only [turnbuckleref15_Read.j6] at H
                              by_cases c51 : x83_46 = true
                              ·subst c51
                               have H1 : (if 22 = 0 then (if x7_1.length < 4398046511104 then (turnbuckleref15_Read.l0 kj46 a0 a1 (x7_1 ++ [(⟨t136, (wrap64 (t137)), (wrap64 (t138)), t139⟩ : S27)]) (wrap64 (x8_1 + 24))) else (none)) else (some (([] : List (S27)), 22, IntKind.u64.wrap (x8_1)))) = some (r1, r2, r3) := by rw [if_pos rfl] at H; exact H
                               clear H
                               have H := H1
                               clear H1
                               by_cases c52 : 22 = 0
                               ·exact absurd c52 (by decide)
                               ·rw [if_neg c52] at H
                                have c52b0 : (22 == 0) = false := beq_eq_false_iff_ne.mpr c52
                                have c52b1 : (22 != 0) = true := bne_iff_ne.mpr c52
                                simp only [Option.some.injEq, Prod.mk.injEq] at H
                                obtain ⟨rfl, rfl, rfl⟩ := H
                                go_wp2
                                go_ret3
                                exact ⟨_, by first | rfl | (simp [errW_none, errW_some] <;> rfl) | (simp only [← hji10, ← hji15, ← hji20]; first | rfl | (simp [errW_none, errW_some] <;> rfl)) | (simp [*, errW_none, errW_some] <;> rfl), by first | exact Kd.R_nil _ _ _ _ _ | exact Kd.N_nil _ _ _ _ _ | exact Kd.V_nil _ _ _ _ _ | exact Kd.Q_nil _ _ _ _ _ | exact Kd.S_nil _ _ _ _ _, by repeat (first | (with_reducible first | exact HB.out | apply below_alloc | apply pw_below_drewN | apply below_drew1 | refine below_set ?_ GE140.out) | exact HB.out)⟩
                              ·replace c51 := Bool.eq_false_iff.mpr c51
                               subst c51
                               have H1 : (if x10_44 = 0 then (if x7_1.length < 4398046511104 then (turnbuckleref15_Read.l0 kj46 a0 a1 (x7_1 ++ [(⟨t136, (wrap64 (t137)), (wrap64 (t138)), t139⟩ : S27)]) (wrap64 (x8_1 + 24))) else (none)) else (some (([] : List (S27)), x10_44, IntKind.u64.wrap (x8_1)))) = some (r1, r2, r3) := by rw [if_neg (show ¬ (false = true) by decide)] at H; exact H
                               clear H
                               have H := H1
                               clear H1
                               by_cases c53 : x10_44 = 0
                               ·rw [if_pos c53] at H
                                have c53b0 : (x10_44 == 0) = true := beq_iff_eq.mpr c53
                                have c53b1 : (x10_44 != 0) = false := bne_eq_false_iff_eq.mpr c53
                                clear c53
                                by_cases c54 : x7_1.length < 4398046511104
                                ·rw [if_pos c54] at H
                                 have LMc54 := Aside0.mk c54
                                 clear c54
                                 obtain ⟨y144, hy144⟩ : ∃ y_ : List (S27), y_ = (x7_1 ++ [(⟨t136, (wrap64 (t137)), (wrap64 (t138)), t139⟩ : S27)]) := ⟨_, rfl⟩
                                 replace H : (turnbuckleref15_Read.l0 kj46 a0 a1 y144 (wrap64 (x8_1 + 24))) = some (r1, r2, r3) := by first | (rw [hy144]; with_reducible exact H) | (have H2_ := (Option.bind_some _ _).symm.trans H; rw [hy144]; with_reducible exact H2_) | (have H2_ := (Option.bind_some _ _).symm.trans H; with_reducible exact H2_) | with_reducible exact H | (rw [hy144]; exact H) | exact H
                                 have Ny144 := Aside0.mk hy144
                                 clear hy144
                                 have H' := Aside0.mk H
                                 clear H
                                 have hcz55_0 : wc.cell? ⟨gb140, 0, none⟩ = some (.int .u64 t136) := (blk_cell BK140.out 0).trans rfl
                                 have hcz55_1 : wc.cell? ⟨gb140, 1, none⟩ = some (.int .i64 (wrap64 (t137))) := (blk_cell BK140.out 1).trans rfl
                                 have hcz55_2 : wc.cell? ⟨gb140, 2, none⟩ = some (.int .i64 (wrap64 (t138))) := (blk_cell BK140.out 2).trans rfl
                                 have hcz55_3 : wc.cell? ⟨gb140, 3, none⟩ = some (.int .u64 t139) := (blk_cell BK140.out 3).trans rfl
                                 have hfz55_0 := blk_frozen BK140.out 0
                                 have hfz55_1 := blk_frozen BK140.out 1
                                 have hfz55_2 := blk_frozen BK140.out 2
                                 have hfz55_3 := blk_frozen BK140.out 3
                                 go_wp2_with (first | ((with_reducible refine gate_builtin (b := .append) (xs := #[.tmp 89, .tmp 91]) rfl ?_); at_builtin; refine Kd.R_append k27 (w0 := w) w.heap.size rfl (.tmp 89) (.tmp 91) 35 27 (.agg #[(.int .u64 0), (.int .i64 0), (.int .i64 0), (.int .u64 0)]) 32 rfl Try.underlying35 info27 rfl (by decide) (by omega) u7 x7_1 (⟨t136, (wrap64 (t137)), (wrap64 (t138)), t139⟩ : S27) [.int .u64 t136, .int .i64 (wrap64 (t137)), .int .i64 (wrap64 (t138)), .int .u64 t139] (fun k_ => k_ ≠ gb140) (fun _ => False) rfl rfl ?aP (fun _ hk => hk.elim) ?aF ?aO ?aB ?aS ?aL ?_; (case aP => exact k27_mkM _ _ _ (⟨t136, (wrap64 (t137)), (wrap64 (t138)), t139⟩ : S27)); (case aB => exact (by repeat (first | (with_reducible first | exact HB.out | apply below_alloc | apply pw_below_drewN | apply below_drew1 | refine below_set ?_ GE140.out) | exact HB.out))); (case aF => exact (fun k_ hk => Kd.freshB (g := gb140) (o := .cells #[.int .u64 t136, .int .i64 (wrap64 (t137)), .int .i64 (wrap64 (t138)), .int .u64 t139] 27 (0, 0)) (by (with_reducible repeat (first | refine blk_drewN ?_ _ | refine blk_drew ?_ | refine blk_alloc ?_ _)); exact BK140.out) k_ hk)); (case aO => exact (by (with_reducible repeat (first | apply Kd.R_alloc | apply Kd.R_drewN | apply Kd.R_drew)); exact HO_7.out)); (case aS => exact (below_size (by repeat (first | (with_reducible first | exact HB.out | apply below_alloc | apply pw_below_drewN | apply below_drew1 | refine below_set ?_ GE140.out) | exact HB.out)))); (case aL => have := LMc54.out; omega); intro v145 w56 ho hb hg hat; rw [← Ny144.out] at ho; have n0_ := Aside0.mk (blk_grown (g := gb140) (o := .cells #[.int .u64 t136, .int .i64 (wrap64 (t137)), .int .i64 (wrap64 (t138)), .int .u64 t139] 27 (0, 0)) (by (with_reducible repeat (first | refine blk_drewN ?_ _ | refine blk_drew ?_ | refine blk_alloc ?_ _)); exact BK140.out) hg (Kd.R_away HO_7.out (fun _ hk => hk))); have n1_ := Aside0.mk (hb); have n2_ := Aside0.mk (ho); clear BK140; clear HB; clear HO_7; have BK140 := n0_; have HB := n1_; have HO146 := n2_; clear n0_ n1_ n2_; clear ho hb hg hat))
                                 go_roundg kj46
                                 case measure => have := HK1.out; have := HJ24.out; have := HJ34.out; have := HJ38.out; have := HJ40.out; have := HJ44.out; have := HJ46.out; omega
                                 case rel => exact ⟨(y144), (wrap64 (x8_1 + 24)), (by first | rfl | (simp; done) | (simp [*]; done)), H', ⟨by have := HK1.out; have := HJ24.out; have := HJ34.out; have := HJ38.out; have := HJ40.out; have := HJ44.out; have := HJ46.out; omega⟩, ⟨by (with_reducible repeat (first | apply Kd.R_alloc | apply Kd.R_drewN | apply Kd.R_drew)); exact Kd.R_mono HO146.out (fun _ hk => trivial)⟩, ⟨by repeat (first | (with_reducible first | exact HB.out | apply below_alloc | apply pw_below_drewN | apply below_drew1 | refine below_set ?_ GE140.out) | exact HB.out)⟩⟩
                                ·rw [if_neg c54] at H
                                 exact absurd H (by simp)
                               ·rw [if_neg c53] at H
                                have c53b0 : (x10_44 == 0) = false := beq_eq_false_iff_ne.mpr c53
                                have c53b1 : (x10_44 != 0) = true := bne_iff_ne.mpr c53
                                simp only [Option.some.injEq, Prod.mk.injEq] at H
                                obtain ⟨rfl, rfl, rfl⟩ := H
                                go_wp2
                                go_ret3
                                exact ⟨_, by first | rfl | (simp [errW_none, errW_some] <;> rfl) | (simp only [← hji10, ← hji15, ← hji20]; first | rfl | (simp [errW_none, errW_some] <;> rfl)) | (simp [*, errW_none, errW_some] <;> rfl), by first | exact Kd.R_nil _ _ _ _ _ | exact Kd.N_nil _ _ _ _ _ | exact Kd.V_nil _ _ _ _ _ | exact Kd.Q_nil _ _ _ _ _ | exact Kd.S_nil _ _ _ _ _, by repeat (first | (with_reducible first | exact HB.out | apply below_alloc | apply pw_below_drewN | apply below_drew1 | refine below_set ?_ GE140.out) | exact HB.out)⟩
                 ·rw [if_neg c23] at H
                  exact absurd H (by simp)
                ·rw [if_neg c22] at H
                 exact absurd H (by simp)
               ·rw [if_neg c21] at H
                exact absurd H (by simp)
              ·rw [if_neg c18] at H
               exact absurd H (by simp)
             ·rw [if_neg c17] at H
              exact absurd H (by simp)
            ·rw [if_neg c16] at H
             exact absurd H (by simp)
           ·rw [if_neg c13] at H
            exact absurd H (by simp)
          ·rw [if_neg c12] at H
           exact absurd H (by simp)
         ·rw [if_neg c11] at H
          exact absurd H (by simp)
        ·rw [if_neg c8] at H
         exact absurd H (by simp)
       ·rw [if_neg c7] at H
        exact absurd H (by simp)
      ·rw [if_neg c6] at H
       exact absurd H (by simp)
     ·rw [if_neg c5] at H
      have c5b0 : decide (x8_1 < (a0.size : Int)) = false := decide_eq_false c5
      clear c5
      simp only [Option.some.injEq, Prod.mk.injEq] at H
      obtain ⟨rfl, rfl, rfl⟩ := H
      go_wp2
      go_ret3
      exact ⟨_, by first | rfl | (simp [errW_none, errW_some] <;> rfl) | (simp [*, errW_none, errW_some] <;> rfl), by (with_reducible repeat (first | apply Kd.R_alloc | apply Kd.R_drewN | apply Kd.R_drew)); exact HO_7.out, by repeat (first | (with_reducible first | exact HB.out | apply below_alloc | apply pw_below_drewN | apply below_drew1) | exact HB.out)⟩
 ·rw [if_neg c3] at H
  have c3b0 : (((a0.size : Int) % 24) == 0) = false := beq_eq_false_iff_ne.mpr c3
  have c3b1 : (((a0.size : Int) % 24) != 0) = true := bne_iff_ne.mpr c3
  simp only [Option.some.injEq, Prod.mk.injEq] at H
  obtain ⟨rfl, rfl, rfl⟩ := H
  go_enter Try.func10, Try.ntmps10
  go_wp2
  go_ret3
  exact ⟨_, by first | rfl | (simp [errW_none, errW_some] <;> rfl) | (simp [*, errW_none, errW_some] <;> rfl), by first | exact Kd.R_nil _ _ _ _ _ | exact Kd.N_nil _ _ _ _ _ | exact Kd.V_nil _ _ _ _ _ | exact Kd.Q_nil _ _ _ _ _ | exact Kd.S_nil _ _ _ _ _, by repeat (first | (with_reducible first | exact HB.out | apply below_alloc | apply pw_below_drewN | apply below_drew1) | exact HB.out)⟩

end Go.Proofs.Ytpdecpiiidoleaa.PAll
