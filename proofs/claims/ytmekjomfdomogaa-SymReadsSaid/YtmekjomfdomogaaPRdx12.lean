-- Written by a program of this session (a changed copy of the print of the kit). Not trusted: Lean checks it.
import Derived.Test.YtmekjomfdomogaaPRdx0
import Derived.Test.YtmekjomfdomogaaPRdx11
namespace Go.Proofs.Ytmekjomfdomogaa.PRd
open Go.RowKit Go.Proofs.YtmekjomfdomogaaW.PrintWords Go.Proofs.YtmekjomfdomogaaW.PrintLast Go.Proofs.YtmekjomfdomogaaW.PrintMore
attribute [local go_sem] max2_int min2_int max_two min_two max_three min_three max_four min_four   -- for this text's walks alone
set_option linter.unusedVariables false
set_option linter.unusedSimpArgs false

/-! ### turnbuckleref11_Read: function 12 -/
def turnbuckleref11_Read.l0 : Nat → ByteArray → ByteArray → List (S31) → Int → Option ((List (S31)) × Int × Int)
 | 0, _, _, _, _ => none
 | k + 1, x0, x1, x7, x8 => if x8 < (x0.size : Int) then (if 0 ≤ x8 then (if x8 ≤ (wrap64 (x8 + 4)) then (if (wrap64 (x8 + 4)) ≤ (x0.size : Int) then ((turnbuckleref01_Get.f k (x0.extract (x8 : Int).toNat ((wrap64 (x8 + 4)) : Int).toNat)).bind fun t136 => ((turnbuckleref01_Text.f k x1 t136 32).bind fun bt137 => (if bt137.2 = true then (if 0 ≤ (wrap64 (x8 + 4)) then (if (wrap64 (x8 + 4)) < (x0.size : Int) then (if 0 ≤ (wrap64 (x8 + 5)) then (if (wrap64 (x8 + 5)) < (x0.size : Int) then (if (wrap64 (Int.tdiv (wrap64 (bt x0 (wrap64 (x8 + 4)))) 16)) > 2 then (some (([] : List (S31)), 4, IntKind.u64.wrap (x8))) else (if 0 ≤ (wrap64 (x8 + 6)) then (if (wrap64 (x8 + 6)) ≤ (wrap64 (x8 + 8)) then (if (wrap64 (x8 + 8)) ≤ (x0.size : Int) then ((turnbuckleref01_Get.f k (x0.extract ((wrap64 (x8 + 6)) : Int).toNat ((wrap64 (x8 + 8)) : Int).toNat)).bind fun t139 => (if 0 ≤ (wrap64 (x8 + 8)) then (if (wrap64 (x8 + 8)) ≤ (wrap64 (x8 + 16)) then (if (wrap64 (x8 + 16)) ≤ (x0.size : Int) then ((turnbuckleref01_Get.f k (x0.extract ((wrap64 (x8 + 8)) : Int).toNat ((wrap64 (x8 + 16)) : Int).toNat)).bind fun t140 => (if 0 ≤ (wrap64 (x8 + 16)) then (if (wrap64 (x8 + 16)) ≤ (wrap64 (x8 + 24)) then (if (wrap64 (x8 + 24)) ≤ (x0.size : Int) then ((turnbuckleref01_Get.f k (x0.extract ((wrap64 (x8 + 16)) : Int).toNat ((wrap64 (x8 + 24)) : Int).toNat)).bind fun t141 => (if x7.length < 2199023255552 then (turnbuckleref11_Read.l0 k x0 x1 (x7 ++ [(⟨bt137.1, wrap64 (Int.tdiv (wrap64 (bt x0 (wrap64 (x8 + 4)))) 16), Int.tmod (wrap64 (bt x0 (wrap64 (x8 + 4)))) 16, Int.tmod (wrap64 (bt x0 (wrap64 (x8 + 5)))) 4, (t139 != 0), t140, t141⟩ : S31)]) (wrap64 (x8 + 24))) else (none))) else (none)) else (none)) else (none))) else (none)) else (none)) else (none))) else (none)) else (none)) else (none))) else (none)) else (none)) else (none)) else (none)) else (some (([] : List (S31)), 25, IntKind.u64.wrap (x8)))))) else (none)) else (none)) else (none)) else (some (x7, 0, 0))
def turnbuckleref11_Read.f (k : Nat) (a0 : ByteArray) (a1 : ByteArray) : Option ((List (S31)) × Int × Int) := if ((a0.size : Int) % 24) = 0 then (if (wrap64 ((a0.size : Int) / 24)) > 256 then (some (([] : List (S31)), 6, 0)) else (turnbuckleref11_Read.l0 k a0 a1 ([] : List (S31)) 0)) else (some (([] : List (S31)), 4, 0))
theorem turnbuckleref11_Read.mono_l : ∀ k, (∀ y0 y1 y2 y3, LeO (turnbuckleref11_Read.l0 k y0 y1 y2 y3) (turnbuckleref11_Read.l0 (k + 1) y0 y1 y2 y3))
 | 0 => fun _ _ _ _ r h => by simp [turnbuckleref11_Read.l0] at h
 | k + 1 => by
  have ih0 := turnbuckleref11_Read.mono_l k
  ·intro y0 y1 y2 y3
   unfold turnbuckleref11_Read.l0
   repeat' first
   | (with_reducible exact ih0 _ _ _ _)
   | (with_reducible exact turnbuckleref01_Get.mono _ _)
   | (with_reducible exact turnbuckleref01_Text.mono _ _ _ _)
   | (with_reducible exact LeO.refl _)
   | (with_reducible exact LeO.none _)
   | (with_reducible refine LeO.ite ?_ ?_)
   | (with_reducible refine LeO.bind ?_ (fun _ => ?_))
   | exact ih0 _ _ _ _
   | exact turnbuckleref01_Get.mono _ _
   | exact turnbuckleref01_Text.mono _ _ _ _
   | exact LeO.none _
   | refine LeO.ite ?_ ?_
   | refine LeO.bind ?_ (fun _ => ?_)
theorem turnbuckleref11_Read.mono : ∀ a0 a1 k, LeO (turnbuckleref11_Read.f k a0 a1) (turnbuckleref11_Read.f (k + 1) a0 a1) := by
 intro a0 a1 k
 have ih0 := turnbuckleref11_Read.mono_l k
 unfold turnbuckleref11_Read.f
 repeat' first
   | (with_reducible exact ih0 _ _ _ _)
   | (with_reducible exact turnbuckleref01_Get.mono _ _)
   | (with_reducible exact turnbuckleref01_Text.mono _ _ _ _)
   | (with_reducible exact LeO.refl _)
   | (with_reducible exact LeO.none _)
   | (with_reducible refine LeO.ite ?_ ?_)
   | (with_reducible refine LeO.bind ?_ (fun _ => ?_))
   | exact ih0 _ _ _ _
   | exact turnbuckleref01_Get.mono _ _
   | exact turnbuckleref01_Text.mono _ _ _ _
   | exact LeO.none _
   | refine LeO.ite ?_ ?_
   | refine LeO.bind ?_ (fun _ => ?_)
def turnbuckleref11_Read.T12 : Bool × List (List Nat × List Nat) := (true, [([], []), ([], []), ([1], [1]), ([0, 2], [0, 2]), ([3], [3]), ([], []), ([], []), ([6], [6]), ([5, 7], [5, 7]), ([8], [8]), ([4, 0, 1, 2, 3, 4], [4]), ([9, 10, 0, 1, 2, 3, 4, 5, 6, 7, 8, 9, 10], [9])])
def turnbuckleref11_Read.B12 : List Nat := [0, 0, 2, 7, 15, 0, 0, 64, 224, 480, 31, 2047]
theorem turnbuckleref11_Read.tab12 : rtab .any (opsOf Try.f12 12) = turnbuckleref11_Read.T12 := by kernel_rfl
theorem turnbuckleref11_Read.bits12 : waitsOk turnbuckleref11_Read.T12.2 turnbuckleref11_Read.B12 = true := by kernel_rfl
def turnbuckleref11_Read.T15 : Bool × List (List Nat × List Nat) := (true, [([], []), ([], []), ([], []), ([2], [2]), ([], []), ([4], [4]), ([], []), ([6], [6]), ([], []), ([], []), ([9], [9]), ([], []), ([11], [11]), ([8, 10, 12], [8, 10, 12]), ([13], [13]), ([14], [14]), ([], []), ([], []), ([17], [17]), ([], []), ([19], [19]), ([16, 18, 20], [16, 18, 20]), ([21, 14], [21]), ([], []), ([], []), ([24], [24]), ([], []), ([26], [26]), ([23, 25, 27], [23, 25, 27]), ([28, 22], [28]), ([1, 3, 5, 7, 15, 22, 29], [1, 3, 5, 7, 15, 22, 29]), ([30], [30]), ([0, 31, 29], [0, 31]), ([32, 32, 0, 1, 2, 3, 4, 5, 6, 7, 8, 9, 10, 11, 12, 13, 14, 15, 16, 17, 18, 19, 20, 21, 22, 23, 24, 25, 26, 27, 28, 29, 30, 31, 32], [0, 32])])
def turnbuckleref11_Read.B15 : List Nat := [0, 0, 0, 4, 0, 16, 0, 64, 0, 0, 512, 0, 2048, 7936, 16128, 32512, 0, 0, 131072, 0, 524288, 2031616, 4161280, 0, 0, 16777216, 0, 67108864, 260046848, 536837888, 1073741822, 2147483646, 4294967295, 8589934591]
theorem turnbuckleref11_Read.tab15 : rtab .any (opsOf Try.f12 15) = turnbuckleref11_Read.T15 := by kernel_rfl
theorem turnbuckleref11_Read.bits15 : waitsOk turnbuckleref11_Read.T15.2 turnbuckleref11_Read.B15 = true := by kernel_rfl
set_option maxHeartbeats 8000000 in
set_option maxRecDepth 100000 in
theorem turnbuckleref11_Read.calls (k : Nat) (a0 : ByteArray) (a1 : ByteArray) (r1 : List (S31)) (r2 : Int) (r3 : Int) (w : World) (h : turnbuckleref11_Read.f k a0 a1 = some (r1, r2, r3)) :
  Calls Try.prog 12 #[.string a0, .string a1] w fun e w' => ∃ v0_ : Value, e = .returned (.tuple #[v0_, .int .i64 r2, .int .u64 r3]) ∧ Kd.R k31 31 w' w.heap.size (fun _ => True) v0_ r1 ∧ Below w.heap.size w w' := by
 have hu31 := Try.underlying31
 have HB := Aside0.mk (Below.refl w.heap.size w)
 have H : (if ((a0.size : Int) % 24) = 0 then (if (wrap64 ((a0.size : Int) / 24)) > 256 then (some (([] : List (S31)), 6, 0)) else (turnbuckleref11_Read.l0 k a0 a1 ([] : List (S31)) 0)) else (some (([] : List (S31)), 4, 0))) = some (r1, r2, r3) := h
 clear h
 by_cases c3 : ((a0.size : Int) % 24) = 0
 ·rw [if_pos c3] at H
  have c3b0 : (((a0.size : Int) % 24) == 0) = true := beq_iff_eq.mpr c3
  have c3b1 : (((a0.size : Int) % 24) != 0) = false := bne_eq_false_iff_eq.mpr c3
  clear c3
  by_cases c4 : (wrap64 ((a0.size : Int) / 24)) > 256
  ·rw [if_pos c4] at H
   have c4b0 : decide (256 < (wrap64 ((a0.size : Int) / 24))) = true := decide_eq_true c4
   clear c4
   simp only [Option.some.injEq, Prod.mk.injEq] at H
   obtain ⟨rfl, rfl, rfl⟩ := H
   go_enter Try.func12, Try.ntmps12
   go_wp2
   go_ret3
   exact ⟨_, by first | rfl | (simp [errW_none, errW_some] <;> rfl) | (simp [*, errW_none, errW_some] <;> rfl), by first | exact Kd.R_nil _ _ _ _ _ | exact Kd.N_nil _ _ _ _ _ | exact Kd.V_nil _ _ _ _ _ | exact Kd.Q_nil _ _ _ _ _ | exact Kd.S_nil _ _ _ _ _, by repeat (first | (with_reducible first | exact HB.out | apply below_alloc | apply pw_below_drewN | apply below_drew1) | exact HB.out)⟩
  ·rw [if_neg c4] at H
   have c4b0 : decide (256 < (wrap64 ((a0.size : Int) / 24))) = false := decide_eq_false c4
   clear c4
   have H' := Aside0.mk H
   clear H
   go_enter Try.func12, Try.ntmps12
   go_wp2
   go_loopg [7, 8] k (fun kq v7 v8 w' => ∃ (x7_1 : List (S31)) (x8_1 : Int), v8 = .int .i64 x8_1 ∧ Aside0 (turnbuckleref11_Read.l0 kq a0 a1 x7_1 x8_1 = some (r1, r2, r3)) ∧ Aside0 (kq ≤ k) ∧ Aside0 (Kd.R k31 31 w' w.heap.size (fun _ => True) v7 x7_1) ∧ Aside0 (Below w.heap.size w w'))
   case atStart => exact ⟨(([] : List (S31))), (0), (by first | rfl | (simp; done) | (simp [*]; done)), H', ⟨Nat.le_refl _⟩, ⟨by first | exact Kd.R_nil _ _ _ _ _ | exact Kd.N_nil _ _ _ _ _ | exact Kd.V_nil _ _ _ _ _ | exact Kd.Q_nil _ _ _ _ _ | exact Kd.S_nil _ _ _ _ _⟩, ⟨by repeat (first | (with_reducible first | exact HB.out | apply below_alloc | apply pw_below_drewN | apply below_drew1) | exact HB.out)⟩⟩
   case round =>
    clear H'
    try clear c1
    try clear p2
    try clear c3
    try clear c3b0
    try clear c3b1
    try clear c4
    try clear c4b0
    obtain ⟨x7_1, x8_1, rfl, HA, HK1, HO_7, HB⟩ := hrel
    cases gk with
    | zero => exact absurd HA.out (by simp [turnbuckleref11_Read.l0])
    | succ k1 =>
     have H := HA.out
     clear HA
     simp only [turnbuckleref11_Read.l0] at H
     by_cases c5 : x8_1 < (a0.size : Int)
     ·rw [if_pos c5] at H
      have c5b0 : decide (x8_1 < (a0.size : Int)) = true := decide_eq_true c5
      clear c5
      by_cases c6 : 0 ≤ x8_1
      ·rw [if_pos c6] at H
       have c6b0 := eq_true c6
       have c6b1 : decide (0 ≤ x8_1) = true := decide_eq_true c6
       clear c6
       by_cases c7 : x8_1 ≤ (wrap64 (x8_1 + 4))
       ·rw [if_pos c7] at H
        have c7b0 := eq_true c7
        have c7b1 : decide (x8_1 ≤ (wrap64 (x8_1 + 4))) = true := decide_eq_true c7
        by_cases c8 : (wrap64 (x8_1 + 4)) ≤ (a0.size : Int)
        ·rw [if_pos c8] at H
         have c8b0 := eq_true c8
         have c8b1 : decide ((wrap64 (x8_1 + 4)) ≤ (a0.size : Int)) = true := decide_eq_true c8
         replace H := Option.bind_eq_some_iff.mp H
         obtain ⟨t136, A90, H⟩ := H
         replace H : ((turnbuckleref01_Text.f k1 a1 t136 32).bind fun bt137 => (if bt137.2 = true then (if 0 ≤ (wrap64 (x8_1 + 4)) then (if (wrap64 (x8_1 + 4)) < (a0.size : Int) then (if 0 ≤ (wrap64 (x8_1 + 5)) then (if (wrap64 (x8_1 + 5)) < (a0.size : Int) then (if (wrap64 (Int.tdiv (wrap64 (bt a0 (wrap64 (x8_1 + 4)))) 16)) > 2 then (some (([] : List (S31)), 4, IntKind.u64.wrap (x8_1))) else (if 0 ≤ (wrap64 (x8_1 + 6)) then (if (wrap64 (x8_1 + 6)) ≤ (wrap64 (x8_1 + 8)) then (if (wrap64 (x8_1 + 8)) ≤ (a0.size : Int) then ((turnbuckleref01_Get.f k1 (a0.extract ((wrap64 (x8_1 + 6)) : Int).toNat ((wrap64 (x8_1 + 8)) : Int).toNat)).bind fun t139 => (if 0 ≤ (wrap64 (x8_1 + 8)) then (if (wrap64 (x8_1 + 8)) ≤ (wrap64 (x8_1 + 16)) then (if (wrap64 (x8_1 + 16)) ≤ (a0.size : Int) then ((turnbuckleref01_Get.f k1 (a0.extract ((wrap64 (x8_1 + 8)) : Int).toNat ((wrap64 (x8_1 + 16)) : Int).toNat)).bind fun t140 => (if 0 ≤ (wrap64 (x8_1 + 16)) then (if (wrap64 (x8_1 + 16)) ≤ (wrap64 (x8_1 + 24)) then (if (wrap64 (x8_1 + 24)) ≤ (a0.size : Int) then ((turnbuckleref01_Get.f k1 (a0.extract ((wrap64 (x8_1 + 16)) : Int).toNat ((wrap64 (x8_1 + 24)) : Int).toNat)).bind fun t141 => (if x7_1.length < 2199023255552 then (turnbuckleref11_Read.l0 k1 a0 a1 (x7_1 ++ [(⟨bt137.1, wrap64 (Int.tdiv (wrap64 (bt a0 (wrap64 (x8_1 + 4)))) 16), Int.tmod (wrap64 (bt a0 (wrap64 (x8_1 + 4)))) 16, Int.tmod (wrap64 (bt a0 (wrap64 (x8_1 + 5)))) 4, (t139 != 0), t140, t141⟩ : S31)]) (wrap64 (x8_1 + 24))) else (none))) else (none)) else (none)) else (none))) else (none)) else (none)) else (none))) else (none)) else (none)) else (none))) else (none)) else (none)) else (none)) else (none)) else (some (([] : List (S31)), 25, IntKind.u64.wrap (x8_1))))) = some (r1, r2, r3) := H
         have A9 := Aside0.mk A90
         clear A90
         replace H := Option.bind_eq_some_iff.mp H
         obtain ⟨⟨t137, t138⟩, A100, H⟩ := H
         replace H : (if t138 = true then (if 0 ≤ (wrap64 (x8_1 + 4)) then (if (wrap64 (x8_1 + 4)) < (a0.size : Int) then (if 0 ≤ (wrap64 (x8_1 + 5)) then (if (wrap64 (x8_1 + 5)) < (a0.size : Int) then (if (wrap64 (Int.tdiv (wrap64 (bt a0 (wrap64 (x8_1 + 4)))) 16)) > 2 then (some (([] : List (S31)), 4, IntKind.u64.wrap (x8_1))) else (if 0 ≤ (wrap64 (x8_1 + 6)) then (if (wrap64 (x8_1 + 6)) ≤ (wrap64 (x8_1 + 8)) then (if (wrap64 (x8_1 + 8)) ≤ (a0.size : Int) then ((turnbuckleref01_Get.f k1 (a0.extract ((wrap64 (x8_1 + 6)) : Int).toNat ((wrap64 (x8_1 + 8)) : Int).toNat)).bind fun t139 => (if 0 ≤ (wrap64 (x8_1 + 8)) then (if (wrap64 (x8_1 + 8)) ≤ (wrap64 (x8_1 + 16)) then (if (wrap64 (x8_1 + 16)) ≤ (a0.size : Int) then ((turnbuckleref01_Get.f k1 (a0.extract ((wrap64 (x8_1 + 8)) : Int).toNat ((wrap64 (x8_1 + 16)) : Int).toNat)).bind fun t140 => (if 0 ≤ (wrap64 (x8_1 + 16)) then (if (wrap64 (x8_1 + 16)) ≤ (wrap64 (x8_1 + 24)) then (if (wrap64 (x8_1 + 24)) ≤ (a0.size : Int) then ((turnbuckleref01_Get.f k1 (a0.extract ((wrap64 (x8_1 + 16)) : Int).toNat ((wrap64 (x8_1 + 24)) : Int).toNat)).bind fun t141 => (if x7_1.length < 2199023255552 then (turnbuckleref11_Read.l0 k1 a0 a1 (x7_1 ++ [(⟨t137, wrap64 (Int.tdiv (wrap64 (bt a0 (wrap64 (x8_1 + 4)))) 16), Int.tmod (wrap64 (bt a0 (wrap64 (x8_1 + 4)))) 16, Int.tmod (wrap64 (bt a0 (wrap64 (x8_1 + 5)))) 4, (t139 != 0), t140, t141⟩ : S31)]) (wrap64 (x8_1 + 24))) else (none))) else (none)) else (none)) else (none))) else (none)) else (none)) else (none))) else (none)) else (none)) else (none))) else (none)) else (none)) else (none)) else (none)) else (some (([] : List (S31)), 25, IntKind.u64.wrap (x8_1)))) = some (r1, r2, r3) := H
         have A10 := Aside0.mk A100
         clear A100
         by_cases c11 : t138 = true
         ·subst c11
          have H1 : (if 0 ≤ (wrap64 (x8_1 + 4)) then (if (wrap64 (x8_1 + 4)) < (a0.size : Int) then (if 0 ≤ (wrap64 (x8_1 + 5)) then (if (wrap64 (x8_1 + 5)) < (a0.size : Int) then (if (wrap64 (Int.tdiv (wrap64 (bt a0 (wrap64 (x8_1 + 4)))) 16)) > 2 then (some (([] : List (S31)), 4, IntKind.u64.wrap (x8_1))) else (if 0 ≤ (wrap64 (x8_1 + 6)) then (if (wrap64 (x8_1 + 6)) ≤ (wrap64 (x8_1 + 8)) then (if (wrap64 (x8_1 + 8)) ≤ (a0.size : Int) then ((turnbuckleref01_Get.f k1 (a0.extract ((wrap64 (x8_1 + 6)) : Int).toNat ((wrap64 (x8_1 + 8)) : Int).toNat)).bind fun t139 => (if 0 ≤ (wrap64 (x8_1 + 8)) then (if (wrap64 (x8_1 + 8)) ≤ (wrap64 (x8_1 + 16)) then (if (wrap64 (x8_1 + 16)) ≤ (a0.size : Int) then ((turnbuckleref01_Get.f k1 (a0.extract ((wrap64 (x8_1 + 8)) : Int).toNat ((wrap64 (x8_1 + 16)) : Int).toNat)).bind fun t140 => (if 0 ≤ (wrap64 (x8_1 + 16)) then (if (wrap64 (x8_1 + 16)) ≤ (wrap64 (x8_1 + 24)) then (if (wrap64 (x8_1 + 24)) ≤ (a0.size : Int) then ((turnbuckleref01_Get.f k1 (a0.extract ((wrap64 (x8_1 + 16)) : Int).toNat ((wrap64 (x8_1 + 24)) : Int).toNat)).bind fun t141 => (if x7_1.length < 2199023255552 then (turnbuckleref11_Read.l0 k1 a0 a1 (x7_1 ++ [(⟨t137, wrap64 (Int.tdiv (wrap64 (bt a0 (wrap64 (x8_1 + 4)))) 16), Int.tmod (wrap64 (bt a0 (wrap64 (x8_1 + 4)))) 16, Int.tmod (wrap64 (bt a0 (wrap64 (x8_1 + 5)))) 4, (t139 != 0), t140, t141⟩ : S31)]) (wrap64 (x8_1 + 24))) else (none))) else (none)) else (none)) else (none))) else (none)) else (none)) else (none))) else (none)) else (none)) else (none))) else (none)) else (none)) else (none)) else (none)) = some (r1, r2, r3) := by rw [if_pos rfl] at H; exact H
          clear H
          have H := H1
          clear H1
          obtain ⟨ji12, hji12⟩ : ∃ j_ : Int, (wrap64 (x8_1 + 4)) = j_ := ⟨_, rfl⟩
          replace H : (if 0 ≤ (ji12) then (if (ji12) < (a0.size : Int) then (if 0 ≤ (wrap64 (x8_1 + 5)) then (if (wrap64 (x8_1 + 5)) < (a0.size : Int) then (if (wrap64 (Int.tdiv (wrap64 (bt a0 (ji12))) 16)) > 2 then (some (([] : List (S31)), 4, IntKind.u64.wrap (x8_1))) else (if 0 ≤ (wrap64 (x8_1 + 6)) then (if (wrap64 (x8_1 + 6)) ≤ (wrap64 (x8_1 + 8)) then (if (wrap64 (x8_1 + 8)) ≤ (a0.size : Int) then ((turnbuckleref01_Get.f k1 (a0.extract ((wrap64 (x8_1 + 6)) : Int).toNat ((wrap64 (x8_1 + 8)) : Int).toNat)).bind fun t139 => (if 0 ≤ (wrap64 (x8_1 + 8)) then (if (wrap64 (x8_1 + 8)) ≤ (wrap64 (x8_1 + 16)) then (if (wrap64 (x8_1 + 16)) ≤ (a0.size : Int) then ((turnbuckleref01_Get.f k1 (a0.extract ((wrap64 (x8_1 + 8)) : Int).toNat ((wrap64 (x8_1 + 16)) : Int).toNat)).bind fun t140 => (if 0 ≤ (wrap64 (x8_1 + 16)) then (if (wrap64 (x8_1 + 16)) ≤ (wrap64 (x8_1 + 24)) then (if (wrap64 (x8_1 + 24)) ≤ (a0.size : Int) then ((turnbuckleref01_Get.f k1 (a0.extract ((wrap64 (x8_1 + 16)) : Int).toNat ((wrap64 (x8_1 + 24)) : Int).toNat)).bind fun t141 => (if x7_1.length < 2199023255552 then (turnbuckleref11_Read.l0 k1 a0 a1 (x7_1 ++ [(⟨t137, wrap64 (Int.tdiv (wrap64 (bt a0 (ji12))) 16), Int.tmod (wrap64 (bt a0 (ji12))) 16, Int.tmod (wrap64 (bt a0 (wrap64 (x8_1 + 5)))) 4, (t139 != 0), t140, t141⟩ : S31)]) (wrap64 (x8_1 + 24))) else (none))) else (none)) else (none)) else (none))) else (none)) else (none)) else (none))) else (none)) else (none)) else (none))) else (none)) else (none)) else (none)) else (none)) = some (r1, r2, r3) := by first | (rw [hji12] at H; exact H) | (simp only [hji12] at H ⊢; exact H)
          (try rw [hji12] at c7b0)
          (try rw [hji12] at c7b1)
          (try rw [hji12] at c7)
          (try rw [hji12] at c8b0)
          (try rw [hji12] at c8b1)
          (try rw [hji12] at c8)
          (try rw [hji12] at A9)
          (try rw [hji12] at A10)
          have hji12w : (IntKind.i64.wrap (x8_1 + 4)) = ji12 := (i64_w _).trans hji12
          by_cases c13 : 0 ≤ (ji12)
          ·rw [if_pos c13] at H
           have c13b0 : decide (0 ≤ (ji12)) = true := decide_eq_true c13
           clear c13
           by_cases c14 : (ji12) < (a0.size : Int)
           ·rw [if_pos c14] at H
            have c14b0 : decide ((ji12) < (a0.size : Int)) = true := decide_eq_true c14
            clear c14
            obtain ⟨ji16, hji16⟩ : ∃ j_ : Int, (wrap64 (x8_1 + 5)) = j_ := ⟨_, rfl⟩
            replace H : (if 0 ≤ (ji16) then (if (ji16) < (a0.size : Int) then (if (wrap64 (Int.tdiv (wrap64 (bt a0 (ji12))) 16)) > 2 then (some (([] : List (S31)), 4, IntKind.u64.wrap (x8_1))) else (if 0 ≤ (wrap64 (x8_1 + 6)) then (if (wrap64 (x8_1 + 6)) ≤ (wrap64 (x8_1 + 8)) then (if (wrap64 (x8_1 + 8)) ≤ (a0.size : Int) then ((turnbuckleref01_Get.f k1 (a0.extract ((wrap64 (x8_1 + 6)) : Int).toNat ((wrap64 (x8_1 + 8)) : Int).toNat)).bind fun t139 => (if 0 ≤ (wrap64 (x8_1 + 8)) then (if (wrap64 (x8_1 + 8)) ≤ (wrap64 (x8_1 + 16)) then (if (wrap64 (x8_1 + 16)) ≤ (a0.size : Int) then ((turnbuckleref01_Get.f k1 (a0.extract ((wrap64 (x8_1 + 8)) : Int).toNat ((wrap64 (x8_1 + 16)) : Int).toNat)).bind fun t140 => (if 0 ≤ (wrap64 (x8_1 + 16)) then (if (wrap64 (x8_1 + 16)) ≤ (wrap64 (x8_1 + 24)) then (if (wrap64 (x8_1 + 24)) ≤ (a0.size : Int) then ((turnbuckleref01_Get.f k1 (a0.extract ((wrap64 (x8_1 + 16)) : Int).toNat ((wrap64 (x8_1 + 24)) : Int).toNat)).bind fun t141 => (if x7_1.length < 2199023255552 then (turnbuckleref11_Read.l0 k1 a0 a1 (x7_1 ++ [(⟨t137, wrap64 (Int.tdiv (wrap64 (bt a0 (ji12))) 16), Int.tmod (wrap64 (bt a0 (ji12))) 16, Int.tmod (wrap64 (bt a0 (ji16))) 4, (t139 != 0), t140, t141⟩ : S31)]) (wrap64 (x8_1 + 24))) else (none))) else (none)) else (none)) else (none))) else (none)) else (none)) else (none))) else (none)) else (none)) else (none))) else (none)) else (none)) = some (r1, r2, r3) := by first | (rw [hji16] at H; exact H) | (simp only [hji16] at H ⊢; exact H)
            (try rw [hji16] at A9)
            (try rw [hji16] at A10)
            have hji16w : (IntKind.i64.wrap (x8_1 + 5)) = ji16 := (i64_w _).trans hji16
            by_cases c17 : 0 ≤ (ji16)
            ·rw [if_pos c17] at H
             have c17b0 : decide (0 ≤ (ji16)) = true := decide_eq_true c17
             clear c17
             by_cases c18 : (ji16) < (a0.size : Int)
             ·rw [if_pos c18] at H
              have c18b0 : decide ((ji16) < (a0.size : Int)) = true := decide_eq_true c18
              clear c18
              by_cases c20 : (wrap64 (Int.tdiv (wrap64 (bt a0 (ji12))) 16)) > 2
              ·rw [if_pos c20] at H
               have c20b0 : decide (2 < (wrap64 (Int.tdiv (wrap64 (bt a0 (ji12))) 16))) = true := decide_eq_true c20
               clear c20
               simp only [Option.some.injEq, Prod.mk.injEq] at H
               obtain ⟨rfl, rfl, rfl⟩ := H
               try go_wp2_with (first | ((with_reducible refine gate_callee (f := 23) rfl ?_); refine goesL_ (some 34) rfl rfl Try.func23 (by kernel_rfl) rfl #[.string (a0.extract (x8_1 : Int).toNat ((ji12) : Int).toNat)] rfl (by (try simp only [List.map_toArray, List.map_cons, List.map_nil]); first | done | (simp only [hji12]; rfl) | rfl | (simp only [List.length_drop, List.length_take]; rfl)) ?_; (with_reducible refine (turnbuckleref01_Get.calls k1 (a0.extract (x8_1 : Int).toNat ((ji12) : Int).toNat) t136 _ A9.out).mono ?_); rintro e w' ⟨rfl, ⟨nd, rfl⟩⟩; refine ⟨_, rfl, ?_⟩) | ((with_reducible refine gate_callee (f := 22) rfl ?_); refine goesL_ (some 35) rfl rfl Try.func22 (by kernel_rfl) rfl #[.string a1, .int .u64 t136, .int .i64 32] rfl (by (try simp only [List.map_toArray, List.map_cons, List.map_nil]); first | done | rfl | (simp only [List.length_drop, List.length_take]; rfl)) ?_; (with_reducible refine (turnbuckleref01_Text.calls k1 a1 t136 32 t137 true _ A10.out).mono ?_); rintro e w' ⟨rfl, ⟨nd, rfl⟩⟩; refine ⟨_, rfl, ?_⟩))
               (try (rw [drewN_self wr]; generalize hq_ : World.drewN wr _ = wr; have n0_ : Aside0 (Kd.R k31 31 wr w.heap.size (fun _ => True) u7 x7_1) := ⟨by rw [← hq_]; exact (by (with_reducible repeat (first | apply Kd.R_alloc | apply Kd.R_drewN | apply Kd.R_drew)); exact HO_7.out)⟩; have n1_ : Aside0 (Below w.heap.size w wr) := ⟨by rw [← hq_]; exact (by repeat (first | (with_reducible first | exact HB.out | apply below_alloc | apply pw_below_drewN | apply below_drew1) | exact HB.out))⟩; clear HO_7 HB hq_; have HO_7 := n0_; have HB := n1_; clear n0_ n1_))
               have n0_ := Aside0.mk (Kd.R_drew HO_7.out)
               have n1_ := Aside0.mk (below_drew1 HB.out)
               clear HO_7
               clear HB
               have HO_7 := n0_
               have HB := n1_
               clear n0_ n1_
               have p15 : 0 ≤ ((ji12) : Int) := of_decide_eq_true (by first | (with_reducible assumption) | assumption)
               have q15 : (ji12) < (a0.size : Int) := of_decide_eq_true (by first | (with_reducible assumption) | assumption)
               have hx15 := bt_at a0 (ji12)
               replace p15 := eq_true p15
               replace q15 := eq_true q15
               have p19 : 0 ≤ ((ji16) : Int) := of_decide_eq_true (by first | (with_reducible assumption) | assumption)
               have q19 : (ji16) < (a0.size : Int) := of_decide_eq_true (by first | (with_reducible assumption) | assumption)
               have hx19 := bt_at a0 (ji16)
               replace p19 := eq_true p19
               replace q19 := eq_true q19
               refine start_ (n := 12) (S := fun w' => True) (ds := []) #[false,false,false,false,false,false,false,false,false,false,false,false] (by kernel_rfl) rfl rfl trivial (fun hHeld => ?_); refine with_tabW turnbuckleref11_Read.tab12 turnbuckleref11_Read.bits12 (fun HT_ HW_ => ?_)
               generalize wr.drew = w21 at HO_7 HB hHeld ⊢
               refine pure_ (i:=0) (N := some 42) (v:=?_) (a':=?_) #[true,false,false,false,false,false,false,false,false,false,false,false] rfl rfl (any_of HT_.out (by kernel_rfl)) (fun _ _ _ h=>h) (Or.inl ⟨by rfl, ?_⟩) ?_ ?_
               rotate_left
               ·intro w'
                go_simp
                with_reducible rfl
               rotate_left
               ·simp only [Act.put,lz1,lz2,lz3,i64_w,i32_w]
                rfl
               refine pure_ (i:=1) (N := some 43) (v:=?_) (a':=?_) #[true,true,false,false,false,false,false,false,false,false,false,false] rfl rfl (any_of HT_.out (by kernel_rfl)) (fun _ _ _ h=>h) (Or.inl ⟨by rfl, ?_⟩) ?_ ?_
               rotate_left
               ·intro w'
                go_simp
                with_reducible rfl
               rotate_left
               ·simp only [Act.put,lz1,lz2,lz3,i64_w,i32_w]
                rfl
               refine pure_ (i:=2) (N := some 44) (v:=?_) (a':=?_) #[true,true,true,false,false,false,false,false,false,false,false,false] rfl rfl (any_of HT_.out (by kernel_rfl)) (fun _ _ _ h=>h) (Or.inl ⟨by rfl, ?_⟩) ?_ ?_
               rotate_left
               ·intro w'
                go_simp
                with_reducible rfl
               rotate_left
               ·simp only [Act.put,lz1,lz2,lz3,i64_w,i32_w]
                rfl
               refine pure_ (i:=5) (N := some 47) (v:=?_) (a':=?_) #[true,true,true,false,false,true,false,false,false,false,false,false] rfl rfl (any_of HT_.out (by kernel_rfl)) (fun _ _ _ h=>h) (Or.inl ⟨by rfl, ?_⟩) ?_ ?_
               rotate_left
               ·intro w'
                go_simp
                with_reducible rfl
               rotate_left
               ·simp only [Act.put,lz1,lz2,lz3,i64_w,i32_w]
                rfl
               refine pure_ (i:=6) (N := some 48) (v:=?_) (a':=?_) #[true,true,true,false,false,true,true,false,false,false,false,false] rfl rfl (any_of HT_.out (by kernel_rfl)) (fun _ _ _ h=>h) (Or.inl ⟨by rfl, ?_⟩) ?_ ?_
               rotate_left
               ·intro w'
                go_simp
                with_reducible rfl
               rotate_left
               ·simp only [Act.put,lz1,lz2,lz3,i64_w,i32_w]
                rfl
               refine pure_ (i:=7) (N := some 49) (v:=?_) (a':=?_) #[true,true,true,false,false,true,true,true,false,false,false,false] rfl rfl (any_of HT_.out (by kernel_rfl)) (fun _ _ _ h=>h) (Or.inl ⟨by rfl, ?_⟩) ?_ ?_
               rotate_left
               ·intro w'
                go_simp
                with_reducible rfl
               rotate_left
               ·simp only [Act.put,lz1,lz2,lz3,i64_w,i32_w]
                rfl
               refine take_ (i := 3) (N := some 45) (v:=?_) (a':=?_) #[true,true,true,true,false,true,true,true,false,false,false,false] rfl rfl (take_ofW HT_.out HW_.out (by kernel_rfl)) (fun _ _ _ h=>h) (Or.inl ⟨by rfl, ?_⟩) hHeld ?_ ?_
               rotate_left
               ·intro w' _
                go_simp
                with_reducible rfl
               rotate_left
               ·simp only [Act.put,lz1,lz2,lz3,i64_w,i32_w]
                rfl
               refine pure_ (i:=4) (N := some 46) (v:=?_) (a':=?_) #[true,true,true,true,true,true,true,true,false,false,false,false] rfl rfl (any_of HT_.out (by kernel_rfl)) (fun _ _ _ h=>h) (Or.inl ⟨by rfl, ?_⟩) ?_ ?_
               rotate_left
               ·intro w'
                go_simp
                with_reducible rfl
               rotate_left
               ·simp only [Act.put,lz1,lz2,lz3,i64_w,i32_w]
                rfl
               refine pure_ (i:=10) (N := some 11) (v:=?_) (a':=?_) #[true,true,true,true,true,true,true,true,false,false,true,false] rfl rfl (any_of HT_.out (by kernel_rfl)) (fun _ _ _ h=>h) (Or.inl ⟨by rfl, ?_⟩) ?_ ?_
               rotate_left
               ·intro w'
                go_simp
                with_reducible rfl
               rotate_left
               ·simp only [Act.put,lz1,lz2,lz3,i64_w,i32_w]
                rfl
               refine take_ (i := 8) (N := some 50) (v:=?_) (a':=?_) #[true,true,true,true,true,true,true,true,true,false,true,false] rfl rfl (take_ofW HT_.out HW_.out (by kernel_rfl)) (fun _ _ _ h=>h) (Or.inl ⟨by rfl, ?_⟩) hHeld ?_ ?_
               rotate_left
               ·intro w' _
                go_simp
                with_reducible rfl
               rotate_left
               ·simp only [Act.put,lz1,lz2,lz3,i64_w,i32_w]
                rfl
               refine pure_ (i:=9) (N := some 51) (v:=?_) (a':=?_) #[true,true,true,true,true,true,true,true,true,true,true,false] rfl rfl (any_of HT_.out (by kernel_rfl)) (fun _ _ _ h=>h) (Or.inl ⟨by rfl, ?_⟩) ?_ ?_
               rotate_left
               ·intro w'
                go_simp
                with_reducible rfl
               rotate_left
               ·simp only [Act.put,lz1,lz2,lz3,i64_w,i32_w]
                rfl
               refine pure_ (i:=11) (N := some 12) (v:=?_) (a':=?_) #[true,true,true,true,true,true,true,true,true,true,true,true] rfl rfl (any_of HT_.out (by kernel_rfl)) (fun _ _ _ h=>h) (Or.inl ⟨by rfl, ?_⟩) ?_ ?_
               rotate_left
               ·intro w'
                go_simp
                with_reducible rfl
               rotate_left
               ·simp only [Act.put,lz1,lz2,lz3,i64_w,i32_w]
                rfl
               refine done_ (done_of HT_.out (by kernel_rfl)) ?_
               try go_wp2
               go_ret3
               exact ⟨_, by first | rfl | (simp [errW_none, errW_some] <;> rfl) | (simp only [← hji12, ← hji16]; first | rfl | (simp [errW_none, errW_some] <;> rfl)) | (simp [*, errW_none, errW_some] <;> rfl), by first | exact Kd.R_nil _ _ _ _ _ | exact Kd.N_nil _ _ _ _ _ | exact Kd.V_nil _ _ _ _ _ | exact Kd.Q_nil _ _ _ _ _ | exact Kd.S_nil _ _ _ _ _, by repeat (first | (with_reducible first | exact HB.out | apply below_alloc | apply pw_below_drewN | apply below_drew1) | exact HB.out)⟩
              ·rw [if_neg c20] at H
               have c20b0 : decide (2 < (wrap64 (Int.tdiv (wrap64 (bt a0 (ji12))) 16))) = false := decide_eq_false c20
               clear c20
               obtain ⟨ji22, hji22⟩ : ∃ j_ : Int, (wrap64 (x8_1 + 6)) = j_ := ⟨_, rfl⟩
               replace H : (if 0 ≤ (ji22) then (if (ji22) ≤ (wrap64 (x8_1 + 8)) then (if (wrap64 (x8_1 + 8)) ≤ (a0.size : Int) then ((turnbuckleref01_Get.f k1 (a0.extract ((ji22) : Int).toNat ((wrap64 (x8_1 + 8)) : Int).toNat)).bind fun t139 => (if 0 ≤ (wrap64 (x8_1 + 8)) then (if (wrap64 (x8_1 + 8)) ≤ (wrap64 (x8_1 + 16)) then (if (wrap64 (x8_1 + 16)) ≤ (a0.size : Int) then ((turnbuckleref01_Get.f k1 (a0.extract ((wrap64 (x8_1 + 8)) : Int).toNat ((wrap64 (x8_1 + 16)) : Int).toNat)).bind fun t140 => (if 0 ≤ (wrap64 (x8_1 + 16)) then (if (wrap64 (x8_1 + 16)) ≤ (wrap64 (x8_1 + 24)) then (if (wrap64 (x8_1 + 24)) ≤ (a0.size : Int) then ((turnbuckleref01_Get.f k1 (a0.extract ((wrap64 (x8_1 + 16)) : Int).toNat ((wrap64 (x8_1 + 24)) : Int).toNat)).bind fun t141 => (if x7_1.length < 2199023255552 then (turnbuckleref11_Read.l0 k1 a0 a1 (x7_1 ++ [(⟨t137, wrap64 (Int.tdiv (wrap64 (bt a0 (ji12))) 16), Int.tmod (wrap64 (bt a0 (ji12))) 16, Int.tmod (wrap64 (bt a0 (ji16))) 4, (t139 != 0), t140, t141⟩ : S31)]) (wrap64 (x8_1 + 24))) else (none))) else (none)) else (none)) else (none))) else (none)) else (none)) else (none))) else (none)) else (none)) else (none)) = some (r1, r2, r3) := by first | (rw [hji22] at H; exact H) | (simp only [hji22] at H ⊢; exact H)
               (try rw [hji22] at A9)
               (try rw [hji22] at A10)
               have hji22w : (IntKind.i64.wrap (x8_1 + 6)) = ji22 := (i64_w _).trans hji22
               by_cases c23 : 0 ≤ (ji22)
               ·rw [if_pos c23] at H
                have c23b0 := eq_true c23
                have c23b1 : decide (0 ≤ (ji22)) = true := decide_eq_true c23
                clear c23
                by_cases c24 : (ji22) ≤ (wrap64 (x8_1 + 8))
                ·rw [if_pos c24] at H
                 have c24b0 := eq_true c24
                 have c24b1 : decide ((ji22) ≤ (wrap64 (x8_1 + 8))) = true := decide_eq_true c24
                 by_cases c25 : (wrap64 (x8_1 + 8)) ≤ (a0.size : Int)
                 ·rw [if_pos c25] at H
                  have c25b0 := eq_true c25
                  have c25b1 : decide ((wrap64 (x8_1 + 8)) ≤ (a0.size : Int)) = true := decide_eq_true c25
                  replace H := Option.bind_eq_some_iff.mp H
                  obtain ⟨t139, A260, H⟩ := H
                  replace H : (if 0 ≤ (wrap64 (x8_1 + 8)) then (if (wrap64 (x8_1 + 8)) ≤ (wrap64 (x8_1 + 16)) then (if (wrap64 (x8_1 + 16)) ≤ (a0.size : Int) then ((turnbuckleref01_Get.f k1 (a0.extract ((wrap64 (x8_1 + 8)) : Int).toNat ((wrap64 (x8_1 + 16)) : Int).toNat)).bind fun t140 => (if 0 ≤ (wrap64 (x8_1 + 16)) then (if (wrap64 (x8_1 + 16)) ≤ (wrap64 (x8_1 + 24)) then (if (wrap64 (x8_1 + 24)) ≤ (a0.size : Int) then ((turnbuckleref01_Get.f k1 (a0.extract ((wrap64 (x8_1 + 16)) : Int).toNat ((wrap64 (x8_1 + 24)) : Int).toNat)).bind fun t141 => (if x7_1.length < 2199023255552 then (turnbuckleref11_Read.l0 k1 a0 a1 (x7_1 ++ [(⟨t137, wrap64 (Int.tdiv (wrap64 (bt a0 (ji12))) 16), Int.tmod (wrap64 (bt a0 (ji12))) 16, Int.tmod (wrap64 (bt a0 (ji16))) 4, (t139 != 0), t140, t141⟩ : S31)]) (wrap64 (x8_1 + 24))) else (none))) else (none)) else (none)) else (none))) else (none)) else (none)) else (none)) = some (r1, r2, r3) := H
                  have A26 := Aside0.mk A260
                  clear A260
                  obtain ⟨ji27, hji27⟩ : ∃ j_ : Int, (wrap64 (x8_1 + 8)) = j_ := ⟨_, rfl⟩
                  replace H : (if 0 ≤ (ji27) then (if (ji27) ≤ (wrap64 (x8_1 + 16)) then (if (wrap64 (x8_1 + 16)) ≤ (a0.size : Int) then ((turnbuckleref01_Get.f k1 (a0.extract ((ji27) : Int).toNat ((wrap64 (x8_1 + 16)) : Int).toNat)).bind fun t140 => (if 0 ≤ (wrap64 (x8_1 + 16)) then (if (wrap64 (x8_1 + 16)) ≤ (wrap64 (x8_1 + 24)) then (if (wrap64 (x8_1 + 24)) ≤ (a0.size : Int) then ((turnbuckleref01_Get.f k1 (a0.extract ((wrap64 (x8_1 + 16)) : Int).toNat ((wrap64 (x8_1 + 24)) : Int).toNat)).bind fun t141 => (if x7_1.length < 2199023255552 then (turnbuckleref11_Read.l0 k1 a0 a1 (x7_1 ++ [(⟨t137, wrap64 (Int.tdiv (wrap64 (bt a0 (ji12))) 16), Int.tmod (wrap64 (bt a0 (ji12))) 16, Int.tmod (wrap64 (bt a0 (ji16))) 4, (t139 != 0), t140, t141⟩ : S31)]) (wrap64 (x8_1 + 24))) else (none))) else (none)) else (none)) else (none))) else (none)) else (none)) else (none)) = some (r1, r2, r3) := by first | (rw [hji27] at H; exact H) | (simp only [hji27] at H ⊢; exact H)
                  (try rw [hji27] at c24b0)
                  (try rw [hji27] at c24b1)
                  (try rw [hji27] at c24)
                  (try rw [hji27] at c25b0)
                  (try rw [hji27] at c25b1)
                  (try rw [hji27] at c25)
                  (try rw [hji27] at A9)
                  (try rw [hji27] at A10)
                  (try rw [hji27] at A26)
                  have hji27w : (IntKind.i64.wrap (x8_1 + 8)) = ji27 := (i64_w _).trans hji27
                  by_cases c28 : 0 ≤ (ji27)
                  ·rw [if_pos c28] at H
                   have c28b0 := eq_true c28
                   have c28b1 : decide (0 ≤ (ji27)) = true := decide_eq_true c28
                   clear c28
                   by_cases c29 : (ji27) ≤ (wrap64 (x8_1 + 16))
                   ·rw [if_pos c29] at H
                    have c29b0 := eq_true c29
                    have c29b1 : decide ((ji27) ≤ (wrap64 (x8_1 + 16))) = true := decide_eq_true c29
                    by_cases c30 : (wrap64 (x8_1 + 16)) ≤ (a0.size : Int)
                    ·rw [if_pos c30] at H
                     have c30b0 := eq_true c30
                     have c30b1 : decide ((wrap64 (x8_1 + 16)) ≤ (a0.size : Int)) = true := decide_eq_true c30
                     replace H := Option.bind_eq_some_iff.mp H
                     obtain ⟨t140, A310, H⟩ := H
                     replace H : (if 0 ≤ (wrap64 (x8_1 + 16)) then (if (wrap64 (x8_1 + 16)) ≤ (wrap64 (x8_1 + 24)) then (if (wrap64 (x8_1 + 24)) ≤ (a0.size : Int) then ((turnbuckleref01_Get.f k1 (a0.extract ((wrap64 (x8_1 + 16)) : Int).toNat ((wrap64 (x8_1 + 24)) : Int).toNat)).bind fun t141 => (if x7_1.length < 2199023255552 then (turnbuckleref11_Read.l0 k1 a0 a1 (x7_1 ++ [(⟨t137, wrap64 (Int.tdiv (wrap64 (bt a0 (ji12))) 16), Int.tmod (wrap64 (bt a0 (ji12))) 16, Int.tmod (wrap64 (bt a0 (ji16))) 4, (t139 != 0), t140, t141⟩ : S31)]) (wrap64 (x8_1 + 24))) else (none))) else (none)) else (none)) else (none)) = some (r1, r2, r3) := H
                     have A31 := Aside0.mk A310
                     clear A310
                     obtain ⟨ji32, hji32⟩ : ∃ j_ : Int, (wrap64 (x8_1 + 16)) = j_ := ⟨_, rfl⟩
                     replace H : (if 0 ≤ (ji32) then (if (ji32) ≤ (wrap64 (x8_1 + 24)) then (if (wrap64 (x8_1 + 24)) ≤ (a0.size : Int) then ((turnbuckleref01_Get.f k1 (a0.extract ((ji32) : Int).toNat ((wrap64 (x8_1 + 24)) : Int).toNat)).bind fun t141 => (if x7_1.length < 2199023255552 then (turnbuckleref11_Read.l0 k1 a0 a1 (x7_1 ++ [(⟨t137, wrap64 (Int.tdiv (wrap64 (bt a0 (ji12))) 16), Int.tmod (wrap64 (bt a0 (ji12))) 16, Int.tmod (wrap64 (bt a0 (ji16))) 4, (t139 != 0), t140, t141⟩ : S31)]) (wrap64 (x8_1 + 24))) else (none))) else (none)) else (none)) else (none)) = some (r1, r2, r3) := by first | (rw [hji32] at H; exact H) | (simp only [hji32] at H ⊢; exact H)
                     (try rw [hji32] at c29b0)
                     (try rw [hji32] at c29b1)
                     (try rw [hji32] at c29)
                     (try rw [hji32] at c30b0)
                     (try rw [hji32] at c30b1)
                     (try rw [hji32] at c30)
                     (try rw [hji32] at A9)
                     (try rw [hji32] at A10)
                     (try rw [hji32] at A26)
                     (try rw [hji32] at A31)
                     have hji32w : (IntKind.i64.wrap (x8_1 + 16)) = ji32 := (i64_w _).trans hji32
                     by_cases c33 : 0 ≤ (ji32)
                     ·rw [if_pos c33] at H
                      have c33b0 := eq_true c33
                      have c33b1 : decide (0 ≤ (ji32)) = true := decide_eq_true c33
                      clear c33
                      by_cases c34 : (ji32) ≤ (wrap64 (x8_1 + 24))
                      ·rw [if_pos c34] at H
                       have c34b0 := eq_true c34
                       have c34b1 : decide ((ji32) ≤ (wrap64 (x8_1 + 24))) = true := decide_eq_true c34
                       by_cases c35 : (wrap64 (x8_1 + 24)) ≤ (a0.size : Int)
                       ·rw [if_pos c35] at H
                        have c35b0 := eq_true c35
                        have c35b1 : decide ((wrap64 (x8_1 + 24)) ≤ (a0.size : Int)) = true := decide_eq_true c35
                        replace H := Option.bind_eq_some_iff.mp H
                        obtain ⟨t141, A360, H⟩ := H
                        replace H : (if x7_1.length < 2199023255552 then (turnbuckleref11_Read.l0 k1 a0 a1 (x7_1 ++ [(⟨t137, wrap64 (Int.tdiv (wrap64 (bt a0 (ji12))) 16), Int.tmod (wrap64 (bt a0 (ji12))) 16, Int.tmod (wrap64 (bt a0 (ji16))) 4, (t139 != 0), t140, t141⟩ : S31)]) (wrap64 (x8_1 + 24))) else (none)) = some (r1, r2, r3) := H
                        have A36 := Aside0.mk A360
                        clear A360
                        by_cases c37 : x7_1.length < 2199023255552
                        ·rw [if_pos c37] at H
                         have LMc37 := Aside0.mk c37
                         clear c37
                         obtain ⟨y142, hy142⟩ : ∃ y_ : List (S31), y_ = (x7_1 ++ [(⟨t137, wrap64 (Int.tdiv (wrap64 (bt a0 (ji12))) 16), Int.tmod (wrap64 (bt a0 (ji12))) 16, Int.tmod (wrap64 (bt a0 (ji16))) 4, (t139 != 0), t140, t141⟩ : S31)]) := ⟨_, rfl⟩
                         replace H : (turnbuckleref11_Read.l0 k1 a0 a1 y142 (wrap64 (x8_1 + 24))) = some (r1, r2, r3) := by first | (rw [hy142]; with_reducible exact H) | (have H2_ := (Option.bind_some _ _).symm.trans H; rw [hy142]; with_reducible exact H2_) | (have H2_ := (Option.bind_some _ _).symm.trans H; with_reducible exact H2_) | with_reducible exact H | (rw [hy142]; exact H) | exact H
                         have Ny142 := Aside0.mk hy142
                         clear hy142
                         have H' := Aside0.mk H
                         clear H
                         try go_wp2_with (first | ((with_reducible refine gate_callee (f := 23) rfl ?_); refine goesL_ (some 34) rfl rfl Try.func23 (by kernel_rfl) rfl #[.string (a0.extract (x8_1 : Int).toNat ((ji12) : Int).toNat)] rfl (by (try simp only [List.map_toArray, List.map_cons, List.map_nil]); first | done | (simp only [hji12]; rfl) | rfl | (simp only [List.length_drop, List.length_take]; rfl)) ?_; (with_reducible refine (turnbuckleref01_Get.calls k1 (a0.extract (x8_1 : Int).toNat ((ji12) : Int).toNat) t136 _ A9.out).mono ?_); rintro e w' ⟨rfl, ⟨nd, rfl⟩⟩; refine ⟨_, rfl, ?_⟩) | ((with_reducible refine gate_callee (f := 22) rfl ?_); refine goesL_ (some 35) rfl rfl Try.func22 (by kernel_rfl) rfl #[.string a1, .int .u64 t136, .int .i64 32] rfl (by (try simp only [List.map_toArray, List.map_cons, List.map_nil]); first | done | rfl | (simp only [List.length_drop, List.length_take]; rfl)) ?_; (with_reducible refine (turnbuckleref01_Text.calls k1 a1 t136 32 t137 true _ A10.out).mono ?_); rintro e w' ⟨rfl, ⟨nd, rfl⟩⟩; refine ⟨_, rfl, ?_⟩))
                         (try (rw [drewN_self wr]; generalize hq_ : World.drewN wr _ = wr; have n0_ : Aside0 (Kd.R k31 31 wr w.heap.size (fun _ => True) u7 x7_1) := ⟨by rw [← hq_]; exact (by (with_reducible repeat (first | apply Kd.R_alloc | apply Kd.R_drewN | apply Kd.R_drew)); exact HO_7.out)⟩; have n1_ : Aside0 (Below w.heap.size w wr) := ⟨by rw [← hq_]; exact (by repeat (first | (with_reducible first | exact HB.out | apply below_alloc | apply pw_below_drewN | apply below_drew1) | exact HB.out))⟩; clear HO_7 HB hq_; have HO_7 := n0_; have HB := n1_; clear n0_ n1_))
                         have n0_ := Aside0.mk (Kd.R_drew HO_7.out)
                         have n1_ := Aside0.mk (below_drew1 HB.out)
                         clear HO_7
                         clear HB
                         have HO_7 := n0_
                         have HB := n1_
                         clear n0_ n1_
                         have p15 : 0 ≤ ((ji12) : Int) := of_decide_eq_true (by first | (with_reducible assumption) | assumption)
                         have q15 : (ji12) < (a0.size : Int) := of_decide_eq_true (by first | (with_reducible assumption) | assumption)
                         have hx15 := bt_at a0 (ji12)
                         replace p15 := eq_true p15
                         replace q15 := eq_true q15
                         have p19 : 0 ≤ ((ji16) : Int) := of_decide_eq_true (by first | (with_reducible assumption) | assumption)
                         have q19 : (ji16) < (a0.size : Int) := of_decide_eq_true (by first | (with_reducible assumption) | assumption)
                         have hx19 := bt_at a0 (ji16)
                         replace p19 := eq_true p19
                         replace q19 := eq_true q19
                         refine start_ (n := 12) (S := fun w' => True) (ds := []) #[false,false,false,false,false,false,false,false,false,false,false,false] (by kernel_rfl) rfl rfl trivial (fun hHeld => ?_); refine with_tabW turnbuckleref11_Read.tab12 turnbuckleref11_Read.bits12 (fun HT_ HW_ => ?_)
                         generalize wr.drew = w38 at HO_7 HB hHeld ⊢
                         refine pure_ (i:=0) (N := some 42) (v:=?_) (a':=?_) #[true,false,false,false,false,false,false,false,false,false,false,false] rfl rfl (any_of HT_.out (by kernel_rfl)) (fun _ _ _ h=>h) (Or.inl ⟨by rfl, ?_⟩) ?_ ?_
                         rotate_left
                         ·intro w'
                          go_simp
                          with_reducible rfl
                         rotate_left
                         ·simp only [Act.put,lz1,lz2,lz3,i64_w,i32_w]
                          rfl
                         refine pure_ (i:=1) (N := some 43) (v:=?_) (a':=?_) #[true,true,false,false,false,false,false,false,false,false,false,false] rfl rfl (any_of HT_.out (by kernel_rfl)) (fun _ _ _ h=>h) (Or.inl ⟨by rfl, ?_⟩) ?_ ?_
                         rotate_left
                         ·intro w'
                          go_simp
                          with_reducible rfl
                         rotate_left
                         ·simp only [Act.put,lz1,lz2,lz3,i64_w,i32_w]
                          rfl
                         refine pure_ (i:=2) (N := some 44) (v:=?_) (a':=?_) #[true,true,true,false,false,false,false,false,false,false,false,false] rfl rfl (any_of HT_.out (by kernel_rfl)) (fun _ _ _ h=>h) (Or.inl ⟨by rfl, ?_⟩) ?_ ?_
                         rotate_left
                         ·intro w'
                          go_simp
                          with_reducible rfl
                         rotate_left
                         ·simp only [Act.put,lz1,lz2,lz3,i64_w,i32_w]
                          rfl
                         refine pure_ (i:=5) (N := some 47) (v:=?_) (a':=?_) #[true,true,true,false,false,true,false,false,false,false,false,false] rfl rfl (any_of HT_.out (by kernel_rfl)) (fun _ _ _ h=>h) (Or.inl ⟨by rfl, ?_⟩) ?_ ?_
                         rotate_left
                         ·intro w'
                          go_simp
                          with_reducible rfl
                         rotate_left
                         ·simp only [Act.put,lz1,lz2,lz3,i64_w,i32_w]
                          rfl
                         refine pure_ (i:=6) (N := some 48) (v:=?_) (a':=?_) #[true,true,true,false,false,true,true,false,false,false,false,false] rfl rfl (any_of HT_.out (by kernel_rfl)) (fun _ _ _ h=>h) (Or.inl ⟨by rfl, ?_⟩) ?_ ?_
                         rotate_left
                         ·intro w'
                          go_simp
                          with_reducible rfl
                         rotate_left
                         ·simp only [Act.put,lz1,lz2,lz3,i64_w,i32_w]
                          rfl
                         refine pure_ (i:=7) (N := some 49) (v:=?_) (a':=?_) #[true,true,true,false,false,true,true,true,false,false,false,false] rfl rfl (any_of HT_.out (by kernel_rfl)) (fun _ _ _ h=>h) (Or.inl ⟨by rfl, ?_⟩) ?_ ?_
                         rotate_left
                         ·intro w'
                          go_simp
                          with_reducible rfl
                         rotate_left
                         ·simp only [Act.put,lz1,lz2,lz3,i64_w,i32_w]
                          rfl
                         refine take_ (i := 3) (N := some 45) (v:=?_) (a':=?_) #[true,true,true,true,false,true,true,true,false,false,false,false] rfl rfl (take_ofW HT_.out HW_.out (by kernel_rfl)) (fun _ _ _ h=>h) (Or.inl ⟨by rfl, ?_⟩) hHeld ?_ ?_
                         rotate_left
                         ·intro w' _
                          go_simp
                          with_reducible rfl
                         rotate_left
                         ·simp only [Act.put,lz1,lz2,lz3,i64_w,i32_w]
                          rfl
                         refine pure_ (i:=4) (N := some 46) (v:=?_) (a':=?_) #[true,true,true,true,true,true,true,true,false,false,false,false] rfl rfl (any_of HT_.out (by kernel_rfl)) (fun _ _ _ h=>h) (Or.inl ⟨by rfl, ?_⟩) ?_ ?_
                         rotate_left
                         ·intro w'
                          go_simp
                          with_reducible rfl
                         rotate_left
                         ·simp only [Act.put,lz1,lz2,lz3,i64_w,i32_w]
                          rfl
                         refine pure_ (i:=10) (N := some 11) (v:=?_) (a':=?_) #[true,true,true,true,true,true,true,true,false,false,true,false] rfl rfl (any_of HT_.out (by kernel_rfl)) (fun _ _ _ h=>h) (Or.inl ⟨by rfl, ?_⟩) ?_ ?_
                         rotate_left
                         ·intro w'
                          go_simp
                          with_reducible rfl
                         rotate_left
                         ·simp only [Act.put,lz1,lz2,lz3,i64_w,i32_w]
                          rfl
                         refine take_ (i := 8) (N := some 50) (v:=?_) (a':=?_) #[true,true,true,true,true,true,true,true,true,false,true,false] rfl rfl (take_ofW HT_.out HW_.out (by kernel_rfl)) (fun _ _ _ h=>h) (Or.inl ⟨by rfl, ?_⟩) hHeld ?_ ?_
                         rotate_left
                         ·intro w' _
                          go_simp
                          with_reducible rfl
                         rotate_left
                         ·simp only [Act.put,lz1,lz2,lz3,i64_w,i32_w]
                          rfl
                         refine pure_ (i:=9) (N := some 51) (v:=?_) (a':=?_) #[true,true,true,true,true,true,true,true,true,true,true,false] rfl rfl (any_of HT_.out (by kernel_rfl)) (fun _ _ _ h=>h) (Or.inl ⟨by rfl, ?_⟩) ?_ ?_
                         rotate_left
                         ·intro w'
                          go_simp
                          with_reducible rfl
                         rotate_left
                         ·simp only [Act.put,lz1,lz2,lz3,i64_w,i32_w]
                          rfl
                         refine pure_ (i:=11) (N := some 12) (v:=?_) (a':=?_) #[true,true,true,true,true,true,true,true,true,true,true,true] rfl rfl (any_of HT_.out (by kernel_rfl)) (fun _ _ _ h=>h) (Or.inl ⟨by rfl, ?_⟩) ?_ ?_
                         rotate_left
                         ·intro w'
                          go_simp
                          with_reducible rfl
                         rotate_left
                         ·simp only [Act.put,lz1,lz2,lz3,i64_w,i32_w]
                          rfl
                         refine done_ (done_of HT_.out (by kernel_rfl)) ?_
                         try go_wp2
                         have n0_ := Aside0.mk (Kd.R_drew HO_7.out)
                         have n1_ := Aside0.mk (below_drew1 HB.out)
                         clear HO_7
                         clear HB
                         have HO_7 := n0_
                         have HB := n1_
                         clear n0_ n1_
                         refine start_ (n := 34) (S := fun w' => True) (ds := []) #[false,false,false,false,false,false,false,false,false,false,false,false,false,false,false,false,false,false,false,false,false,false,false,false,false,false,false,false,false,false,false,false,false,false] (by kernel_rfl) rfl rfl trivial (fun hHeld => ?_); refine with_tabW turnbuckleref11_Read.tab15 turnbuckleref11_Read.bits15 (fun HT_ HW_ => ?_)
                         generalize w38.drew = w39 at HO_7 HB hHeld ⊢
                         refine pure_ (i:=0) (N := some 57) (v:=?_) (a':=?_) #[true,false,false,false,false,false,false,false,false,false,false,false,false,false,false,false,false,false,false,false,false,false,false,false,false,false,false,false,false,false,false,false,false,false] rfl rfl (any_of HT_.out (by kernel_rfl)) (fun _ _ _ h=>h) (Or.inl ⟨by rfl, ?_⟩) ?_ ?_
                         rotate_left
                         ·intro w'
                          go_simp
                          with_reducible rfl
                         rotate_left
                         ·simp only [Act.put,lz1,lz2,lz3,i64_w,i32_w]
                          rfl
                         refine pure_ (i:=1) (N := some 58) (v:=?_) (a':=?_) #[true,true,false,false,false,false,false,false,false,false,false,false,false,false,false,false,false,false,false,false,false,false,false,false,false,false,false,false,false,false,false,false,false,false] rfl rfl (any_of HT_.out (by kernel_rfl)) (fun _ _ _ h=>h) (Or.inl ⟨by rfl, ?_⟩) ?_ ?_
                         rotate_left
                         ·intro w'
                          go_simp
                          with_reducible rfl
                         rotate_left
                         ·simp only [Act.put,lz1,lz2,lz3,i64_w,i32_w]
                          rfl
                         refine pure_ (i:=2) (N := some 59) (v:=?_) (a':=?_) #[true,true,true,false,false,false,false,false,false,false,false,false,false,false,false,false,false,false,false,false,false,false,false,false,false,false,false,false,false,false,false,false,false,false] rfl rfl (any_of HT_.out (by kernel_rfl)) (fun _ _ _ h=>h) (Or.inl ⟨by rfl, ?_⟩) ?_ ?_
                         rotate_left
                         ·intro w'
                          go_simp
                          with_reducible rfl
                         rotate_left
                         ·simp only [Act.put,lz1,lz2,lz3,i64_w,i32_w]
                          rfl
                         refine pure_ (i:=3) (N := some 60) (v:=?_) (a':=?_) #[true,true,true,true,false,false,false,false,false,false,false,false,false,false,false,false,false,false,false,false,false,false,false,false,false,false,false,false,false,false,false,false,false,false] rfl rfl (any_of HT_.out (by kernel_rfl)) (fun _ _ _ h=>h) (Or.inl ⟨by rfl, ?_⟩) ?_ ?_
                         rotate_left
                         ·intro w'
                          go_simp
                          with_reducible rfl
                         rotate_left
                         ·simp only [Act.put,lz1,lz2,lz3,i64_w,i32_w]
                          rfl
                         refine pure_ (i:=4) (N := some 61) (v:=?_) (a':=?_) #[true,true,true,true,true,false,false,false,false,false,false,false,false,false,false,false,false,false,false,false,false,false,false,false,false,false,false,false,false,false,false,false,false,false] rfl rfl (any_of HT_.out (by kernel_rfl)) (fun _ _ _ h=>h) (Or.inl ⟨by rfl, ?_⟩) ?_ ?_
                         rotate_left
                         ·intro w'
                          go_simp
                          with_reducible rfl
                         rotate_left
                         ·simp only [Act.put,lz1,lz2,lz3,i64_w,i32_w]
                          rfl
                         refine pure_ (i:=5) (N := some 62) (v:=?_) (a':=?_) #[true,true,true,true,true,true,false,false,false,false,false,false,false,false,false,false,false,false,false,false,false,false,false,false,false,false,false,false,false,false,false,false,false,false] rfl rfl (any_of HT_.out (by kernel_rfl)) (fun _ _ _ h=>h) (Or.inl ⟨by rfl, ?_⟩) ?_ ?_
                         rotate_left
                         ·intro w'
                          go_simp
                          with_reducible rfl
                         rotate_left
                         ·simp only [Act.put,lz1,lz2,lz3,i64_w,i32_w]
                          rfl
                         refine pure_ (i:=6) (N := some 63) (v:=?_) (a':=?_) #[true,true,true,true,true,true,true,false,false,false,false,false,false,false,false,false,false,false,false,false,false,false,false,false,false,false,false,false,false,false,false,false,false,false] rfl rfl (any_of HT_.out (by kernel_rfl)) (fun _ _ _ h=>h) (Or.inl ⟨by rfl, ?_⟩) ?_ ?_
                         rotate_left
                         ·intro w'
                          go_simp
                          with_reducible rfl
                         rotate_left
                         ·simp only [Act.put,lz1,lz2,lz3,i64_w,i32_w]
                          rfl
                         refine pure_ (i:=7) (N := some 64) (v:=?_) (a':=?_) #[true,true,true,true,true,true,true,true,false,false,false,false,false,false,false,false,false,false,false,false,false,false,false,false,false,false,false,false,false,false,false,false,false,false] rfl rfl (any_of HT_.out (by kernel_rfl)) (fun _ _ _ h=>h) (Or.inl ⟨by rfl, ?_⟩) ?_ ?_
                         rotate_left
                         ·intro w'
                          go_simp
                          with_reducible rfl
                         rotate_left
                         ·simp only [Act.put,lz1,lz2,lz3,i64_w,i32_w]
                          rfl
                         refine pure_ (i:=8) (N := some 65) (v:=?_) (a':=?_) #[true,true,true,true,true,true,true,true,true,false,false,false,false,false,false,false,false,false,false,false,false,false,false,false,false,false,false,false,false,false,false,false,false,false] rfl rfl (any_of HT_.out (by kernel_rfl)) (fun _ _ _ h=>h) (Or.inl ⟨by rfl, ?_⟩) ?_ ?_
                         rotate_left
                         ·intro w'
                          go_simp
                          with_reducible rfl
                         rotate_left
                         ·simp only [Act.put,lz1,lz2,lz3,i64_w,i32_w]
                          rfl
                         refine pure_ (i:=9) (N := some 66) (v:=?_) (a':=?_) #[true,true,true,true,true,true,true,true,true,true,false,false,false,false,false,false,false,false,false,false,false,false,false,false,false,false,false,false,false,false,false,false,false,false] rfl rfl (any_of HT_.out (by kernel_rfl)) (fun _ _ _ h=>h) (Or.inl ⟨by rfl, ?_⟩) ?_ ?_
                         rotate_left
                         ·intro w'
                          go_simp
                          with_reducible rfl
                         rotate_left
                         ·simp only [Act.put,lz1,lz2,lz3,i64_w,i32_w]
                          rfl
                         refine pure_ (i:=10) (N := some 67) (v:=?_) (a':=?_) #[true,true,true,true,true,true,true,true,true,true,true,false,false,false,false,false,false,false,false,false,false,false,false,false,false,false,false,false,false,false,false,false,false,false] rfl rfl (any_of HT_.out (by kernel_rfl)) (fun _ _ _ h=>h) (Or.inl ⟨by rfl, ?_⟩) ?_ ?_
                         rotate_left
                         ·intro w'
                          go_simp
                          with_reducible rfl
                         rotate_left
                         ·simp only [Act.put,lz1,lz2,lz3,i64_w,i32_w]
                          rfl
                         refine pure_ (i:=11) (N := some 68) (v:=?_) (a':=?_) #[true,true,true,true,true,true,true,true,true,true,true,true,false,false,false,false,false,false,false,false,false,false,false,false,false,false,false,false,false,false,false,false,false,false] rfl rfl (any_of HT_.out (by kernel_rfl)) (fun _ _ _ h=>h) (Or.inl ⟨by rfl, ?_⟩) ?_ ?_
                         rotate_left
                         ·intro w'
                          go_simp
                          with_reducible rfl
                         rotate_left
                         ·simp only [Act.put,lz1,lz2,lz3,i64_w,i32_w]
                          rfl
                         refine pure_ (i:=12) (N := some 69) (v:=?_) (a':=?_) #[true,true,true,true,true,true,true,true,true,true,true,true,true,false,false,false,false,false,false,false,false,false,false,false,false,false,false,false,false,false,false,false,false,false] rfl rfl (any_of HT_.out (by kernel_rfl)) (fun _ _ _ h=>h) (Or.inl ⟨by rfl, ?_⟩) ?_ ?_
                         rotate_left
                         ·intro w'
                          go_simp
                          with_reducible rfl
                         rotate_left
                         ·simp only [Act.put,lz1,lz2,lz3,i64_w,i32_w]
                          rfl
                         refine pure_ (i:=13) (N := some 70) (v:=?_) (a':=?_) #[true,true,true,true,true,true,true,true,true,true,true,true,true,true,false,false,false,false,false,false,false,false,false,false,false,false,false,false,false,false,false,false,false,false] rfl rfl (any_of HT_.out (by kernel_rfl)) (fun _ _ _ h=>h) (Or.inl ⟨by rfl, ?_⟩) ?_ ?_
                         rotate_left
                         ·intro w'
                          go_simp
                          with_reducible rfl
                         rotate_left
                         ·simp only [Act.put,lz1,lz2,lz3,i64_w,i32_w]
                          rfl
                         refine pure_ (i:=16) (N := some 73) (v:=?_) (a':=?_) #[true,true,true,true,true,true,true,true,true,true,true,true,true,true,false,false,true,false,false,false,false,false,false,false,false,false,false,false,false,false,false,false,false,false] rfl rfl (any_of HT_.out (by kernel_rfl)) (fun _ _ _ h=>h) (Or.inl ⟨by rfl, ?_⟩) ?_ ?_
                         rotate_left
                         ·intro w'
                          go_simp
                          with_reducible rfl
                         rotate_left
                         ·simp only [Act.put,lz1,lz2,lz3,i64_w,i32_w]
                          rfl
                         refine pure_ (i:=17) (N := some 74) (v:=?_) (a':=?_) #[true,true,true,true,true,true,true,true,true,true,true,true,true,true,false,false,true,true,false,false,false,false,false,false,false,false,false,false,false,false,false,false,false,false] rfl rfl (any_of HT_.out (by kernel_rfl)) (fun _ _ _ h=>h) (Or.inl ⟨by rfl, ?_⟩) ?_ ?_
                         rotate_left
                         ·intro w'
                          go_simp
                          with_reducible rfl
                         rotate_left
                         ·simp only [Act.put,lz1,lz2,lz3,i64_w,i32_w]
                          rfl
                         refine pure_ (i:=18) (N := some 75) (v:=?_) (a':=?_) #[true,true,true,true,true,true,true,true,true,true,true,true,true,true,false,false,true,true,true,false,false,false,false,false,false,false,false,false,false,false,false,false,false,false] rfl rfl (any_of HT_.out (by kernel_rfl)) (fun _ _ _ h=>h) (Or.inl ⟨by rfl, ?_⟩) ?_ ?_
                         rotate_left
                         ·intro w'
                          go_simp
                          with_reducible rfl
                         rotate_left
                         ·simp only [Act.put,lz1,lz2,lz3,i64_w,i32_w]
                          rfl
                         refine pure_ (i:=19) (N := some 76) (v:=?_) (a':=?_) #[true,true,true,true,true,true,true,true,true,true,true,true,true,true,false,false,true,true,true,true,false,false,false,false,false,false,false,false,false,false,false,false,false,false] rfl rfl (any_of HT_.out (by kernel_rfl)) (fun _ _ _ h=>h) (Or.inl ⟨by rfl, ?_⟩) ?_ ?_
                         rotate_left
                         ·intro w'
                          go_simp
                          with_reducible rfl
                         rotate_left
                         ·simp only [Act.put,lz1,lz2,lz3,i64_w,i32_w]
                          rfl
                         refine pure_ (i:=20) (N := some 77) (v:=?_) (a':=?_) #[true,true,true,true,true,true,true,true,true,true,true,true,true,true,false,false,true,true,true,true,true,false,false,false,false,false,false,false,false,false,false,false,false,false] rfl rfl (any_of HT_.out (by kernel_rfl)) (fun _ _ _ h=>h) (Or.inl ⟨by rfl, ?_⟩) ?_ ?_
                         rotate_left
                         ·intro w'
                          go_simp
                          with_reducible rfl
                         rotate_left
                         ·simp only [Act.put,lz1,lz2,lz3,i64_w,i32_w]
                          rfl
                         refine pure_ (i:=21) (N := some 78) (v:=?_) (a':=?_) #[true,true,true,true,true,true,true,true,true,true,true,true,true,true,false,false,true,true,true,true,true,true,false,false,false,false,false,false,false,false,false,false,false,false] rfl rfl (any_of HT_.out (by kernel_rfl)) (fun _ _ _ h=>h) (Or.inl ⟨by rfl, ?_⟩) ?_ ?_
                         rotate_left
                         ·intro w'
                          go_simp
                          with_reducible rfl
                         rotate_left
                         ·simp only [Act.put,lz1,lz2,lz3,i64_w,i32_w]
                          rfl
                         refine pure_ (i:=23) (N := some 80) (v:=?_) (a':=?_) #[true,true,true,true,true,true,true,true,true,true,true,true,true,true,false,false,true,true,true,true,true,true,false,true,false,false,false,false,false,false,false,false,false,false] rfl rfl (any_of HT_.out (by kernel_rfl)) (fun _ _ _ h=>h) (Or.inl ⟨by rfl, ?_⟩) ?_ ?_
                         rotate_left
                         ·intro w'
                          go_simp
                          with_reducible rfl
                         rotate_left
                         ·simp only [Act.put,lz1,lz2,lz3,i64_w,i32_w]
                          rfl
                         refine pure_ (i:=24) (N := some 81) (v:=?_) (a':=?_) #[true,true,true,true,true,true,true,true,true,true,true,true,true,true,false,false,true,true,true,true,true,true,false,true,true,false,false,false,false,false,false,false,false,false] rfl rfl (any_of HT_.out (by kernel_rfl)) (fun _ _ _ h=>h) (Or.inl ⟨by rfl, ?_⟩) ?_ ?_
                         rotate_left
                         ·intro w'
                          go_simp
                          with_reducible rfl
                         rotate_left
                         ·simp only [Act.put,lz1,lz2,lz3,i64_w,i32_w]
                          rfl
                         refine pure_ (i:=25) (N := some 82) (v:=?_) (a':=?_) #[true,true,true,true,true,true,true,true,true,true,true,true,true,true,false,false,true,true,true,true,true,true,false,true,true,true,false,false,false,false,false,false,false,false] rfl rfl (any_of HT_.out (by kernel_rfl)) (fun _ _ _ h=>h) (Or.inl ⟨by rfl, ?_⟩) ?_ ?_
                         rotate_left
                         ·intro w'
                          go_simp
                          with_reducible rfl
                         rotate_left
                         ·simp only [Act.put,lz1,lz2,lz3,i64_w,i32_w]
                          rfl
                         refine pure_ (i:=26) (N := some 83) (v:=?_) (a':=?_) #[true,true,true,true,true,true,true,true,true,true,true,true,true,true,false,false,true,true,true,true,true,true,false,true,true,true,true,false,false,false,false,false,false,false] rfl rfl (any_of HT_.out (by kernel_rfl)) (fun _ _ _ h=>h) (Or.inl ⟨by rfl, ?_⟩) ?_ ?_
                         rotate_left
                         ·intro w'
                          go_simp
                          with_reducible rfl
                         rotate_left
                         ·simp only [Act.put,lz1,lz2,lz3,i64_w,i32_w]
                          rfl
                         refine pure_ (i:=27) (N := some 84) (v:=?_) (a':=?_) #[true,true,true,true,true,true,true,true,true,true,true,true,true,true,false,false,true,true,true,true,true,true,false,true,true,true,true,true,false,false,false,false,false,false] rfl rfl (any_of HT_.out (by kernel_rfl)) (fun _ _ _ h=>h) (Or.inl ⟨by rfl, ?_⟩) ?_ ?_
                         rotate_left
                         ·intro w'
                          go_simp
                          with_reducible rfl
                         rotate_left
                         ·simp only [Act.put,lz1,lz2,lz3,i64_w,i32_w]
                          rfl
                         refine pure_ (i:=28) (N := some 85) (v:=?_) (a':=?_) #[true,true,true,true,true,true,true,true,true,true,true,true,true,true,false,false,true,true,true,true,true,true,false,true,true,true,true,true,true,false,false,false,false,false] rfl rfl (any_of HT_.out (by kernel_rfl)) (fun _ _ _ h=>h) (Or.inl ⟨by rfl, ?_⟩) ?_ ?_
                         rotate_left
                         ·intro w'
                          go_simp
                          with_reducible rfl
                         rotate_left
                         ·simp only [Act.put,lz1,lz2,lz3,i64_w,i32_w]
                          rfl
                         refine one_ (i := 14) (N := some 71) #[true,true,true,true,true,true,true,true,true,true,true,true,true,true,true,false,true,true,true,true,true,true,false,true,true,true,true,true,true,false,false,false,false,false] rfl rfl (one_of HT_.out (by kernel_rfl)) (by decide) (fun K hK => ?_)
                         refine goes_ Try.func23 (by kernel_rfl) rfl #[.string (a0.extract ((ji22) : Int).toNat ((ji27) : Int).toNat)] (by rfl) rfl rfl (by (try simp only [List.map_toArray, List.map_cons, List.map_nil]); first | done | (simp only [hji22, hji27]; rfl) | rfl | (simp only [List.length_drop, List.length_take]; rfl)) ?_
                         with_reducible refine (turnbuckleref01_Get.calls k1 (a0.extract ((ji22) : Int).toNat ((ji27) : Int).toNat) t139 _ A26.out).mono ?_
                         rintro e w' ⟨rfl, ⟨nd, rfl⟩⟩
                         refine ⟨_, rfl, ?_⟩
                         refine hK.out _ _ trivial (fun hHeld => ?_)
                         clear hK K
                         refine norm_ (a' := ?_) ?_ ?_
                         rotate_left
                         ·show Act.put _ (some 71) _ = _
                          simp only [Act.put,lz1,lz2,lz3,i64_w,i32_w]
                          rfl
                         refine pure_ (i:=15) (N := some 72) (v:=?_) (a':=?_) #[true,true,true,true,true,true,true,true,true,true,true,true,true,true,true,true,true,true,true,true,true,true,false,true,true,true,true,true,true,false,false,false,false,false] rfl rfl (any_of HT_.out (by kernel_rfl)) (fun _ _ _ h=>h) (Or.inl ⟨by rfl, ?_⟩) ?_ ?_
                         rotate_left
                         ·intro w'
                          go_simp
                          with_reducible rfl
                         rotate_left
                         ·simp only [Act.put,lz1,lz2,lz3,i64_w,i32_w]
                          rfl
                         refine one_ (i := 22) (N := some 79) #[true,true,true,true,true,true,true,true,true,true,true,true,true,true,true,true,true,true,true,true,true,true,true,true,true,true,true,true,true,false,false,false,false,false] rfl rfl (one_of HT_.out (by kernel_rfl)) (by decide) (fun K hK => ?_)
                         refine goes_ Try.func23 (by kernel_rfl) rfl #[.string (a0.extract ((ji27) : Int).toNat ((ji32) : Int).toNat)] (by rfl) rfl rfl (by (try simp only [List.map_toArray, List.map_cons, List.map_nil]); first | done | (simp only [hji27, hji32]; rfl) | rfl | (simp only [List.length_drop, List.length_take]; rfl)) ?_
                         with_reducible refine (turnbuckleref01_Get.calls k1 (a0.extract ((ji27) : Int).toNat ((ji32) : Int).toNat) t140 _ A31.out).mono ?_
                         rintro e w' ⟨rfl, ⟨nd, rfl⟩⟩
                         refine ⟨_, rfl, ?_⟩
                         refine hK.out _ _ trivial (fun hHeld => ?_)
                         clear hK K
                         refine norm_ (a' := ?_) ?_ ?_
                         rotate_left
                         ·show Act.put _ (some 79) _ = _
                          simp only [Act.put,lz1,lz2,lz3,i64_w,i32_w]
                          rfl
                         refine one_ (i := 29) (N := some 86) #[true,true,true,true,true,true,true,true,true,true,true,true,true,true,true,true,true,true,true,true,true,true,true,true,true,true,true,true,true,true,false,false,false,false] rfl rfl (one_of HT_.out (by kernel_rfl)) (by decide) (fun K hK => ?_)
                         refine goes_ Try.func23 (by kernel_rfl) rfl #[.string (a0.extract ((ji32) : Int).toNat ((wrap64 (x8_1 + 24)) : Int).toNat)] (by rfl) rfl rfl (by (try simp only [List.map_toArray, List.map_cons, List.map_nil]); first | done | (simp only [hji32]; rfl) | rfl | (simp only [List.length_drop, List.length_take]; rfl)) ?_
                         with_reducible refine (turnbuckleref01_Get.calls k1 (a0.extract ((ji32) : Int).toNat ((wrap64 (x8_1 + 24)) : Int).toNat) t141 _ A36.out).mono ?_
                         rintro e w' ⟨rfl, ⟨nd, rfl⟩⟩
                         refine ⟨_, rfl, ?_⟩
                         refine hK.out _ _ trivial (fun hHeld => ?_)
                         clear hK K
                         refine norm_ (a' := ?_) ?_ ?_
                         rotate_left
                         ·show Act.put _ (some 86) _ = _
                          simp only [Act.put,lz1,lz2,lz3,i64_w,i32_w]
                          rfl
                         refine pure_ (i:=30) (N := some 87) (v:=?_) (a':=?_) #[true,true,true,true,true,true,true,true,true,true,true,true,true,true,true,true,true,true,true,true,true,true,true,true,true,true,true,true,true,true,true,false,false,false] rfl rfl (any_of HT_.out (by kernel_rfl)) (fun _ _ _ h=>h) (Or.inl ⟨by rfl, ?_⟩) ?_ ?_
                         rotate_left
                         ·intro w'
                          go_simp
                          with_reducible rfl
                         rotate_left
                         ·simp only [Act.put,lz1,lz2,lz3,i64_w,i32_w]
                          rfl
                         refine one_ (i := 31) (N := some 88) #[true,true,true,true,true,true,true,true,true,true,true,true,true,true,true,true,true,true,true,true,true,true,true,true,true,true,true,true,true,true,true,true,false,false] rfl rfl (one_of HT_.out (by kernel_rfl)) (by decide) (fun K hK => ?_)
                         refine value_ (w1 := ?_) (v := ?_) (by rfl) rfl ?_ ?_
                         rotate_left 2
                         ·go_simp
                          constructor
                          ·rfl
                          ·rfl
                         refine hK.out _ _ trivial (fun hHeld => ?_)
                         clear hK K
                         refine norm_ (a' := ?_) ?_ ?_
                         rotate_left
                         ·show Act.put _ (some 88) _ = _
                          simp only [Act.put,lz1,lz2,lz3,i64_w,i32_w]
                          rfl
                         refine one_ (i := 32) (N := some 89) #[true,true,true,true,true,true,true,true,true,true,true,true,true,true,true,true,true,true,true,true,true,true,true,true,true,true,true,true,true,true,true,true,true,false] rfl rfl (one_of HT_.out (by kernel_rfl)) (by decide) (fun K hK => ?_)
                         refine Kd.R_append_step k31 (w0 := w) w.heap.size (by rfl) (.tmp 57) (.tmp 88) 41 31 (.agg #[(.string ⟨#[]⟩), (.int .i64 0), (.int .i64 0), (.int .i64 0), (.bool false), (.int .u64 0), (.int .u64 0)]) 64 rfl Try.underlying41 info31 rfl (by decide) (by omega) u7 x7_1 (⟨t137, wrap64 (Int.tdiv (wrap64 (bt a0 (ji12))) 16), Int.tmod (wrap64 (bt a0 (ji12))) 16, Int.tmod (wrap64 (bt a0 (ji16))) 4, (t139 != 0), t140, t141⟩ : S31) [.string t137, .int .i64 (wrap64 (Int.tdiv (wrap64 (bt a0 (ji12))) 16)), .int .i64 (Int.tmod (wrap64 (bt a0 (ji12))) 16), .int .i64 (Int.tmod (wrap64 (bt a0 (ji16))) 4), .bool (t139 != 0), .int .u64 t140, .int .u64 t141] (fun _ => True) (fun _ => False) rfl rfl ?aP (fun _ hk => hk.elim) ?aF ?aO ?aB ?aS ?aL ?_
                         (case aP => exact k31_mkM _ _ _ (⟨t137, wrap64 (Int.tdiv (wrap64 (bt a0 (ji12))) 16), Int.tmod (wrap64 (bt a0 (ji12))) 16, Int.tmod (wrap64 (bt a0 (ji16))) 4, (t139 != 0), t140, t141⟩ : S31))
                         (case aB => exact (by repeat (first | (with_reducible first | exact HB.out | apply below_alloc | apply pw_below_drewN | apply below_drew1) | exact HB.out)))
                         (case aF => exact (fun _ _ => trivial))
                         (case aO => exact (by (with_reducible repeat (first | apply Kd.R_alloc | apply Kd.R_drewN | apply Kd.R_drew)); exact HO_7.out))
                         (case aS => exact (below_size (by repeat (first | (with_reducible first | exact HB.out | apply below_alloc | apply pw_below_drewN | apply below_drew1) | exact HB.out))))
                         (case aL => have := LMc37.out; omega)
                         intro v143 w40 ho hb hg hat
                         rw [← Ny142.out] at ho
                         have n0_ := Aside0.mk (hb)
                         have n1_ := Aside0.mk (ho)
                         clear HB
                         clear HO_7
                         have HB := n0_
                         have HO144 := n1_
                         clear n0_ n1_
                         clear ho hb hg hat
                         refine hK.out _ _ trivial (fun hHeld => ?_)
                         clear hK K
                         refine norm_ (a' := ?_) ?_ ?_
                         rotate_left
                         ·show Act.put _ (some 89) _ = _
                          simp only [Act.put,lz1,lz2,lz3,i64_w,i32_w]
                          rfl
                         refine pure_ (i:=33) (N := some 7) (v:=?_) (a':=?_) #[true,true,true,true,true,true,true,true,true,true,true,true,true,true,true,true,true,true,true,true,true,true,true,true,true,true,true,true,true,true,true,true,true,true] rfl rfl (any_of HT_.out (by kernel_rfl)) (fun _ _ _ h=>h) (Or.inl ⟨by rfl, ?_⟩) ?_ ?_
                         rotate_left
                         ·intro w'
                          go_simp
                          with_reducible rfl
                         rotate_left
                         ·simp only [Act.put,lz1,lz2,lz3,i64_w,i32_w]
                          rfl
                         refine done_ (done_of HT_.out (by kernel_rfl)) ?_
                         try go_wp2
                         go_roundg k1
                         case measure => have := HK1.out; omega
                         case rel => exact ⟨(y142), (wrap64 (x8_1 + 24)), (by first | rfl | (simp; done) | (simp [*]; done)), H', ⟨by have := HK1.out; omega⟩, ⟨by (with_reducible repeat (first | apply Kd.R_alloc | apply Kd.R_drewN | apply Kd.R_drew)); exact HO144.out⟩, ⟨by repeat (first | (with_reducible first | exact HB.out | apply below_alloc | apply pw_below_drewN | apply below_drew1) | exact HB.out)⟩⟩
                        ·rw [if_neg c37] at H
                         exact absurd H (by simp)
                       ·rw [if_neg c35] at H
                        exact absurd H (by simp)
                      ·rw [if_neg c34] at H
                       exact absurd H (by simp)
                     ·rw [if_neg c33] at H
                      exact absurd H (by simp)
                    ·rw [if_neg c30] at H
                     exact absurd H (by simp)
                   ·rw [if_neg c29] at H
                    exact absurd H (by simp)
                  ·rw [if_neg c28] at H
                   exact absurd H (by simp)
                 ·rw [if_neg c25] at H
                  exact absurd H (by simp)
                ·rw [if_neg c24] at H
                 exact absurd H (by simp)
               ·rw [if_neg c23] at H
                exact absurd H (by simp)
             ·rw [if_neg c18] at H
              exact absurd H (by simp)
            ·rw [if_neg c17] at H
             exact absurd H (by simp)
           ·rw [if_neg c14] at H
            exact absurd H (by simp)
          ·rw [if_neg c13] at H
           exact absurd H (by simp)
         ·replace c11 := Bool.eq_false_iff.mpr c11
          subst c11
          have H1 : (some (([] : List (S31)), 25, IntKind.u64.wrap (x8_1))) = some (r1, r2, r3) := by rw [if_neg (show ¬ (false = true) by decide)] at H; exact H
          clear H
          have H := H1
          clear H1
          simp only [Option.some.injEq, Prod.mk.injEq] at H
          obtain ⟨rfl, rfl, rfl⟩ := H
          go_wp2_with (first | ((with_reducible refine gate_callee (f := 23) rfl ?_); refine goesL_ (some 34) rfl rfl Try.func23 (by kernel_rfl) rfl #[.string (a0.extract (x8_1 : Int).toNat ((wrap64 (x8_1 + 4)) : Int).toNat)] rfl (by (try simp only [List.map_toArray, List.map_cons, List.map_nil]); first | done | rfl | (simp only [List.length_drop, List.length_take]; rfl)) ?_; (with_reducible refine (turnbuckleref01_Get.calls k1 (a0.extract (x8_1 : Int).toNat ((wrap64 (x8_1 + 4)) : Int).toNat) t136 _ A9.out).mono ?_); rintro e w' ⟨rfl, ⟨nd, rfl⟩⟩; refine ⟨_, rfl, ?_⟩) | ((with_reducible refine gate_callee (f := 22) rfl ?_); refine goesL_ (some 35) rfl rfl Try.func22 (by kernel_rfl) rfl #[.string a1, .int .u64 t136, .int .i64 32] rfl (by (try simp only [List.map_toArray, List.map_cons, List.map_nil]); first | done | rfl | (simp only [List.length_drop, List.length_take]; rfl)) ?_; (with_reducible refine (turnbuckleref01_Text.calls k1 a1 t136 32 t137 false _ A10.out).mono ?_); rintro e w' ⟨rfl, ⟨nd, rfl⟩⟩; refine ⟨_, rfl, ?_⟩))
          go_ret3
          exact ⟨_, by first | rfl | (simp [errW_none, errW_some] <;> rfl) | (simp [*, errW_none, errW_some] <;> rfl), by first | exact Kd.R_nil _ _ _ _ _ | exact Kd.N_nil _ _ _ _ _ | exact Kd.V_nil _ _ _ _ _ | exact Kd.Q_nil _ _ _ _ _ | exact Kd.S_nil _ _ _ _ _, by repeat (first | (with_reducible first | exact HB.out | apply below_alloc | apply pw_below_drewN | apply below_drew1) | exact HB.out)⟩
        ·rw [if_neg c8] at H
         exact absurd H (by simp)
       ·rw [if_neg c7] at H
        exact absurd H (by simp)
      ·rw [if_neg c6] at H
       exact absurd H (by simp)
     ·rw [if_neg c5] at H
      have c5b0 : decide (x8_1 < (a0.size : Int)) = false := decide_eq_false c5
      clear c5
      simp only [Option.some.injEq, Prod.mk.injEq] at H
      obtain ⟨rfl, rfl, rfl⟩ := H
      go_wp2
      go_ret3
      exact ⟨_, by first | rfl | (simp [errW_none, errW_some] <;> rfl) | (simp [*, errW_none, errW_some] <;> rfl), by (with_reducible repeat (first | apply Kd.R_alloc | apply Kd.R_drewN | apply Kd.R_drew)); exact HO_7.out, by repeat (first | (with_reducible first | exact HB.out | apply below_alloc | apply pw_below_drewN | apply below_drew1) | exact HB.out)⟩
 ·rw [if_neg c3] at H
  have c3b0 : (((a0.size : Int) % 24) == 0) = false := beq_eq_false_iff_ne.mpr c3
  have c3b1 : (((a0.size : Int) % 24) != 0) = true := bne_iff_ne.mpr c3
  simp only [Option.some.injEq, Prod.mk.injEq] at H
  obtain ⟨rfl, rfl, rfl⟩ := H
  go_enter Try.func12, Try.ntmps12
  go_wp2
  go_ret3
  exact ⟨_, by first | rfl | (simp [errW_none, errW_some] <;> rfl) | (simp [*, errW_none, errW_some] <;> rfl), by first | exact Kd.R_nil _ _ _ _ _ | exact Kd.N_nil _ _ _ _ _ | exact Kd.V_nil _ _ _ _ _ | exact Kd.Q_nil _ _ _ _ _ | exact Kd.S_nil _ _ _ _ _, by repeat (first | (with_reducible first | exact HB.out | apply below_alloc | apply pw_below_drewN | apply below_drew1) | exact HB.out)⟩

end Go.Proofs.Ytmekjomfdomogaa.PRd
