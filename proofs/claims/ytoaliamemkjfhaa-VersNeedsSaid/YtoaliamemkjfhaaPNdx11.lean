-- Written by a program of this session (a changed copy of the print of the kit). Not trusted: Lean checks it.
import Derived.Test.YtoaliamemkjfhaaPNdx0
import Derived.Test.YtoaliamemkjfhaaPNdx10
namespace Go.Proofs.Ytoaliamemkjfhaa.PNd
open Go.RowKit Go.Proofs.YtoaliamemkjfhaaW.PrintWords Go.Proofs.YtoaliamemkjfhaaW.PrintLast Go.Proofs.YtoaliamemkjfhaaW.PrintMore
attribute [local go_sem] max2_int min2_int max_two min_two max_three min_three max_four min_four   -- for this text's walks alone
set_option linter.unusedVariables false
set_option linter.unusedSimpArgs false

/-! ### turnbuckleref12_Needs: function 19 -/
mutual
def turnbuckleref12_Needs.j0 : Nat → ByteArray → ByteArray → Int → Bool → Option ((List (S61)) × Int × Int)
 | 0, _, _, _, _ => none
 | k + 1, x0, x1, x2, x24 => if x24 = true then (some (([] : List (S61)), 6, 0)) else (turnbuckleref12_Needs.l0 k x0 x1 x2 ([] : List (S61)) 0 0)
def turnbuckleref12_Needs.l0 : Nat → ByteArray → ByteArray → Int → List (S61) → Int → Int → Option ((List (S61)) × Int × Int)
 | 0, _, _, _, _, _, _ => none
 | k + 1, x0, x1, x2, x9, x10, x11 => if x11 < x2 then ((turnbuckleref12_num.f k x0 (IntKind.u64.wrap (x10 + 8)) 4).bind fun t169 => ((turnbuckleref12_has.f x0 x10 16).bind fun t170 => (if t170 = true then ((turnbuckleref12_has.f x0 (IntKind.u64.wrap (x10 + t169)) 16).bind fun t171 => (turnbuckleref12_Needs.j2 k x0 x1 x2 x9 x10 x11 (IntKind.u64.wrap (x10 + t169)) (!t171))) else (turnbuckleref12_Needs.j2 k x0 x1 x2 x9 x10 x11 (IntKind.u64.wrap (x10 + t169)) true)))) else (some (x9, 0, 0))
def turnbuckleref12_Needs.j2 : Nat → ByteArray → ByteArray → Int → List (S61) → Int → Int → Int → Bool → Option ((List (S61)) × Int × Int)
 | 0, _, _, _, _, _, _, _, _ => none
 | k + 1, x0, x1, x2, x9, x10, x11, x12, x45 => if x45 = true then (some (([] : List (S61)), 2, x10)) else ((turnbuckleref12_num.f k x0 (IntKind.u64.wrap (x10 + 2)) 2).bind fun t172 => ((turnbuckleref12_num.f k x0 x10 2).bind fun t173 => (if t173 = 1 then (turnbuckleref12_Needs.j3 k x0 x1 x2 x9 x10 x11 x12 t172 (t172 == 0)) else (turnbuckleref12_Needs.j3 k x0 x1 x2 x9 x10 x11 x12 t172 true))))
def turnbuckleref12_Needs.j3 : Nat → ByteArray → ByteArray → Int → List (S61) → Int → Int → Int → Int → Bool → Option ((List (S61)) × Int × Int)
 | 0, _, _, _, _, _, _, _, _, _ => none
 | k + 1, x0, x1, x2, x9, x10, x11, x12, x13, x58 => if x58 = true then (some (([] : List (S61)), 4, x10)) else ((turnbuckleref12_num.f k x0 (IntKind.u64.wrap (x10 + 4)) 4).bind fun t174 => ((turnbuckleref01_Text.f k x1 t174 32).bind fun bt175 => (if bt175.2 = true then (turnbuckleref12_Needs.l1 k x0 x1 x2 x9 x10 x11 x12 x13 bt175.1 0) else (some (([] : List (S61)), 25, x10)))))
def turnbuckleref12_Needs.l1 : Nat → ByteArray → ByteArray → Int → List (S61) → Int → Int → Int → Int → ByteArray → Int → Option ((List (S61)) × Int × Int)
 | 0, _, _, _, _, _, _, _, _, _, _ => none
 | k + 1, x0, x1, x2, x9, x10, x11, x12, x13, x14, x16 => if x16 < x13 then ((turnbuckleref12_has.f x0 x12 16).bind fun t178 => (if t178 = true then ((turnbuckleref12_num.f k x0 (IntKind.u64.wrap (x12 + 8)) 4).bind fun t179 => ((turnbuckleref01_Text.f k x1 t179 32).bind fun bt180 => (if bt180.2 = true then (if (x9.length : Int) = 64 then (some (([] : List (S61)), 6, x12)) else ((turnbuckleref12_num.f k x0 (IntKind.u64.wrap (x12 + 6)) 2).bind fun t182 => ((turnbuckleref12_num.f k x0 (IntKind.u64.wrap (x12 + 4)) 2).bind fun t183 => (if x9.length < 2932031007402 then ((turnbuckleref12_num.f k x0 (IntKind.u64.wrap (x12 + 12)) 4).bind fun t187 => (turnbuckleref12_Needs.l1 k x0 x1 x2 (x9 ++ [(⟨wrap64 (Int.tmod t182 32768), x14, bt180.1, ((Int.tmod (IntKind.u64.wrap (Int.tdiv t183 2)) 2) == 1)⟩ : S61)]) x10 x11 (IntKind.u64.wrap (x12 + t187)) x13 x14 (IntKind.u64.wrap (x16 + 1)))) else (none))))) else (some (([] : List (S61)), 25, x12))))) else (some (([] : List (S61)), 2, x12)))) else ((turnbuckleref12_num.f k x0 (IntKind.u64.wrap (x10 + 12)) 4).bind fun t177 => (turnbuckleref12_Needs.l0 k x0 x1 x2 x9 (IntKind.u64.wrap (x10 + t177)) (wrap64 (x11 + 1))))
end
def turnbuckleref12_Needs.f (k : Nat) (a0 : ByteArray) (a1 : ByteArray) (a2 : Int) : Option ((List (S61)) × Int × Int) := if a2 < 0 then (turnbuckleref12_Needs.j0 k a0 a1 a2 true) else (turnbuckleref12_Needs.j0 k a0 a1 a2 (decide (a2 > 64)))
theorem turnbuckleref12_Needs.mono_l : ∀ k, (∀ y0 y1 y2 y3, LeO (turnbuckleref12_Needs.j0 k y0 y1 y2 y3) (turnbuckleref12_Needs.j0 (k + 1) y0 y1 y2 y3)) ∧ (∀ y0 y1 y2 y3 y4 y5, LeO (turnbuckleref12_Needs.l0 k y0 y1 y2 y3 y4 y5) (turnbuckleref12_Needs.l0 (k + 1) y0 y1 y2 y3 y4 y5)) ∧ (∀ y0 y1 y2 y3 y4 y5 y6 y7, LeO (turnbuckleref12_Needs.j2 k y0 y1 y2 y3 y4 y5 y6 y7) (turnbuckleref12_Needs.j2 (k + 1) y0 y1 y2 y3 y4 y5 y6 y7)) ∧ (∀ y0 y1 y2 y3 y4 y5 y6 y7 y8, LeO (turnbuckleref12_Needs.j3 k y0 y1 y2 y3 y4 y5 y6 y7 y8) (turnbuckleref12_Needs.j3 (k + 1) y0 y1 y2 y3 y4 y5 y6 y7 y8)) ∧ (∀ y0 y1 y2 y3 y4 y5 y6 y7 y8 y9, LeO (turnbuckleref12_Needs.l1 k y0 y1 y2 y3 y4 y5 y6 y7 y8 y9) (turnbuckleref12_Needs.l1 (k + 1) y0 y1 y2 y3 y4 y5 y6 y7 y8 y9))
 | 0 => ⟨fun _ _ _ _ r h => by simp [turnbuckleref12_Needs.j0] at h, fun _ _ _ _ _ _ r h => by simp [turnbuckleref12_Needs.l0] at h, fun _ _ _ _ _ _ _ _ r h => by simp [turnbuckleref12_Needs.j2] at h, fun _ _ _ _ _ _ _ _ _ r h => by simp [turnbuckleref12_Needs.j3] at h, fun _ _ _ _ _ _ _ _ _ _ r h => by simp [turnbuckleref12_Needs.l1] at h⟩
 | k + 1 => by
  obtain ⟨ih0, ih1, ih2, ih3, ih4⟩ := turnbuckleref12_Needs.mono_l k
  refine ⟨?_, ?_, ?_, ?_, ?_⟩
  ·intro y0 y1 y2 y3
   unfold turnbuckleref12_Needs.j0
   repeat' first
   | (with_reducible exact ih0 _ _ _ _)
   | (with_reducible exact ih1 _ _ _ _ _ _)
   | (with_reducible exact ih2 _ _ _ _ _ _ _ _)
   | (with_reducible exact ih3 _ _ _ _ _ _ _ _ _)
   | (with_reducible exact ih4 _ _ _ _ _ _ _ _ _ _)
   | (with_reducible exact turnbuckleref01_Text.mono _ _ _ _)
   | (with_reducible exact turnbuckleref12_num.mono _ _ _ _)
   | (with_reducible exact LeO.refl _)
   | (with_reducible exact LeO.none _)
   | (with_reducible refine LeO.ite ?_ ?_)
   | (with_reducible refine LeO.bind ?_ (fun _ => ?_))
   | exact ih0 _ _ _ _
   | exact ih1 _ _ _ _ _ _
   | exact ih2 _ _ _ _ _ _ _ _
   | exact ih3 _ _ _ _ _ _ _ _ _
   | exact ih4 _ _ _ _ _ _ _ _ _ _
   | exact turnbuckleref01_Text.mono _ _ _ _
   | exact turnbuckleref12_num.mono _ _ _ _
   | exact LeO.none _
   | refine LeO.ite ?_ ?_
   | refine LeO.bind ?_ (fun _ => ?_)
  ·intro y0 y1 y2 y3 y4 y5
   unfold turnbuckleref12_Needs.l0
   repeat' first
   | (with_reducible exact ih0 _ _ _ _)
   | (with_reducible exact ih1 _ _ _ _ _ _)
   | (with_reducible exact ih2 _ _ _ _ _ _ _ _)
   | (with_reducible exact ih3 _ _ _ _ _ _ _ _ _)
   | (with_reducible exact ih4 _ _ _ _ _ _ _ _ _ _)
   | (with_reducible exact turnbuckleref01_Text.mono _ _ _ _)
   | (with_reducible exact turnbuckleref12_num.mono _ _ _ _)
   | (with_reducible exact LeO.refl _)
   | (with_reducible exact LeO.none _)
   | (with_reducible refine LeO.ite ?_ ?_)
   | (with_reducible refine LeO.bind ?_ (fun _ => ?_))
   | exact ih0 _ _ _ _
   | exact ih1 _ _ _ _ _ _
   | exact ih2 _ _ _ _ _ _ _ _
   | exact ih3 _ _ _ _ _ _ _ _ _
   | exact ih4 _ _ _ _ _ _ _ _ _ _
   | exact turnbuckleref01_Text.mono _ _ _ _
   | exact turnbuckleref12_num.mono _ _ _ _
   | exact LeO.none _
   | refine LeO.ite ?_ ?_
   | refine LeO.bind ?_ (fun _ => ?_)
  ·intro y0 y1 y2 y3 y4 y5 y6 y7
   unfold turnbuckleref12_Needs.j2
   repeat' first
   | (with_reducible exact ih0 _ _ _ _)
   | (with_reducible exact ih1 _ _ _ _ _ _)
   | (with_reducible exact ih2 _ _ _ _ _ _ _ _)
   | (with_reducible exact ih3 _ _ _ _ _ _ _ _ _)
   | (with_reducible exact ih4 _ _ _ _ _ _ _ _ _ _)
   | (with_reducible exact turnbuckleref01_Text.mono _ _ _ _)
   | (with_reducible exact turnbuckleref12_num.mono _ _ _ _)
   | (with_reducible exact LeO.refl _)
   | (with_reducible exact LeO.none _)
   | (with_reducible refine LeO.ite ?_ ?_)
   | (with_reducible refine LeO.bind ?_ (fun _ => ?_))
   | exact ih0 _ _ _ _
   | exact ih1 _ _ _ _ _ _
   | exact ih2 _ _ _ _ _ _ _ _
   | exact ih3 _ _ _ _ _ _ _ _ _
   | exact ih4 _ _ _ _ _ _ _ _ _ _
   | exact turnbuckleref01_Text.mono _ _ _ _
   | exact turnbuckleref12_num.mono _ _ _ _
   | exact LeO.none _
   | refine LeO.ite ?_ ?_
   | refine LeO.bind ?_ (fun _ => ?_)
  ·intro y0 y1 y2 y3 y4 y5 y6 y7 y8
   unfold turnbuckleref12_Needs.j3
   repeat' first
   | (with_reducible exact ih0 _ _ _ _)
   | (with_reducible exact ih1 _ _ _ _ _ _)
   | (with_reducible exact ih2 _ _ _ _ _ _ _ _)
   | (with_reducible exact ih3 _ _ _ _ _ _ _ _ _)
   | (with_reducible exact ih4 _ _ _ _ _ _ _ _ _ _)
   | (with_reducible exact turnbuckleref01_Text.mono _ _ _ _)
   | (with_reducible exact turnbuckleref12_num.mono _ _ _ _)
   | (with_reducible exact LeO.refl _)
   | (with_reducible exact LeO.none _)
   | (with_reducible refine LeO.ite ?_ ?_)
   | (with_reducible refine LeO.bind ?_ (fun _ => ?_))
   | exact ih0 _ _ _ _
   | exact ih1 _ _ _ _ _ _
   | exact ih2 _ _ _ _ _ _ _ _
   | exact ih3 _ _ _ _ _ _ _ _ _
   | exact ih4 _ _ _ _ _ _ _ _ _ _
   | exact turnbuckleref01_Text.mono _ _ _ _
   | exact turnbuckleref12_num.mono _ _ _ _
   | exact LeO.none _
   | refine LeO.ite ?_ ?_
   | refine LeO.bind ?_ (fun _ => ?_)
  ·intro y0 y1 y2 y3 y4 y5 y6 y7 y8 y9
   unfold turnbuckleref12_Needs.l1
   repeat' first
   | (with_reducible exact ih0 _ _ _ _)
   | (with_reducible exact ih1 _ _ _ _ _ _)
   | (with_reducible exact ih2 _ _ _ _ _ _ _ _)
   | (with_reducible exact ih3 _ _ _ _ _ _ _ _ _)
   | (with_reducible exact ih4 _ _ _ _ _ _ _ _ _ _)
   | (with_reducible exact turnbuckleref01_Text.mono _ _ _ _)
   | (with_reducible exact turnbuckleref12_num.mono _ _ _ _)
   | (with_reducible exact LeO.refl _)
   | (with_reducible exact LeO.none _)
   | (with_reducible refine LeO.ite ?_ ?_)
   | (with_reducible refine LeO.bind ?_ (fun _ => ?_))
   | exact ih0 _ _ _ _
   | exact ih1 _ _ _ _ _ _
   | exact ih2 _ _ _ _ _ _ _ _
   | exact ih3 _ _ _ _ _ _ _ _ _
   | exact ih4 _ _ _ _ _ _ _ _ _ _
   | exact turnbuckleref01_Text.mono _ _ _ _
   | exact turnbuckleref12_num.mono _ _ _ _
   | exact LeO.none _
   | refine LeO.ite ?_ ?_
   | refine LeO.bind ?_ (fun _ => ?_)
theorem turnbuckleref12_Needs.mono : ∀ a0 a1 a2 k, LeO (turnbuckleref12_Needs.f k a0 a1 a2) (turnbuckleref12_Needs.f (k + 1) a0 a1 a2) := by
 intro a0 a1 a2 k
 obtain ⟨ih0, ih1, ih2, ih3, ih4⟩ := turnbuckleref12_Needs.mono_l k
 unfold turnbuckleref12_Needs.f
 repeat' first
   | (with_reducible exact ih0 _ _ _ _)
   | (with_reducible exact ih1 _ _ _ _ _ _)
   | (with_reducible exact ih2 _ _ _ _ _ _ _ _)
   | (with_reducible exact ih3 _ _ _ _ _ _ _ _ _)
   | (with_reducible exact ih4 _ _ _ _ _ _ _ _ _ _)
   | (with_reducible exact turnbuckleref01_Text.mono _ _ _ _)
   | (with_reducible exact turnbuckleref12_num.mono _ _ _ _)
   | (with_reducible exact LeO.refl _)
   | (with_reducible exact LeO.none _)
   | (with_reducible refine LeO.ite ?_ ?_)
   | (with_reducible refine LeO.bind ?_ (fun _ => ?_))
   | exact ih0 _ _ _ _
   | exact ih1 _ _ _ _ _ _
   | exact ih2 _ _ _ _ _ _ _ _
   | exact ih3 _ _ _ _ _ _ _ _ _
   | exact ih4 _ _ _ _ _ _ _ _ _ _
   | exact turnbuckleref01_Text.mono _ _ _ _
   | exact turnbuckleref12_num.mono _ _ _ _
   | exact LeO.none _
   | refine LeO.ite ?_ ?_
   | refine LeO.bind ?_ (fun _ => ?_)
set_option maxHeartbeats 8000000 in
set_option maxRecDepth 100000 in
theorem turnbuckleref12_Needs.calls (k : Nat) (a0 : ByteArray) (a1 : ByteArray) (a2 : Int) (r1 : List (S61)) (r2 : Int) (r3 : Int) (w : World) (h : turnbuckleref12_Needs.f k a0 a1 a2 = some (r1, r2, r3)) :
  Calls Try.prog 19 #[.string a0, .string a1, .int .i64 a2] w fun e w' => ∃ v0_ : Value, e = .returned (.tuple #[v0_, .int .i64 r2, .int .u64 r3]) ∧ Kd.R k61 61 w' w.heap.size (fun _ => True) v0_ r1 ∧ Below w.heap.size w w' := by
 have hu61 := Try.underlying61
 have HB := Aside0.mk (Below.refl w.heap.size w)
 have H : (if a2 < 0 then (turnbuckleref12_Needs.j0 k a0 a1 a2 true) else (turnbuckleref12_Needs.j0 k a0 a1 a2 (decide (a2 > 64)))) = some (r1, r2, r3) := h
 clear h
 have HC4 := Aside0.mk H
 clear H
 go_enter Try.func19, Try.ntmps19
 go_upto_region 1 with (fail)
 go_cut [24] (fun v24 wc => ∃ (kq : Nat) (x24_3 : Bool), v24 = .bool x24_3 ∧ Aside0 (turnbuckleref12_Needs.j0 kq a0 a1 a2 x24_3 = some (r1, r2, r3)) ∧ Aside0 (kq ≤ k) ∧ Aside0 (Below w.heap.size w wc))
 case first =>
  have H := HC4.out
  clear HC4
  by_cases c5 : a2 < 0
  ·rw [if_pos c5] at H
   have c5b0 : decide (a2 < 0) = true := decide_eq_true c5
   clear c5
   (first | rw [c5b0] | (simp only [i64_w, i32_w]; rw [c5b0]) | skip)
   have H' := Aside0.mk H
   clear H
   go_wp2
   (try subst hji4)
   (try subst hji6)
   (try subst hji10)
   go_meet
   case rel => exact ⟨_, (true), (by first | rfl | (simp; done) | (simp [*]; done)), H', ⟨by first | omega | exact Nat.le_refl _⟩, ⟨by repeat (first | (with_reducible first | exact HB.out | apply below_alloc | apply pw_below_drewN | apply below_drew1) | exact HB.out)⟩⟩
  ·rw [if_neg c5] at H
   have c5b0 : decide (a2 < 0) = false := decide_eq_false c5
   clear c5
   (first | rw [c5b0] | (simp only [i64_w, i32_w]; rw [c5b0]) | skip)
   have H' := Aside0.mk H
   clear H
   go_wp2
   (try subst hji4)
   (try subst hji6)
   (try subst hji10)
   go_meet
   case rel => exact ⟨_, (decide (a2 > 64)), (by first | rfl | (simp; done) | (simp [*]; done)), H', ⟨by first | omega | exact Nat.le_refl _⟩, ⟨by repeat (first | (with_reducible first | exact HB.out | apply below_alloc | apply pw_below_drewN | apply below_drew1) | exact HB.out)⟩⟩
 case rest =>
  clear HC4
  try clear c1
  try clear p2
  try clear c5
  try clear c5b0
  obtain ⟨kq, x24_3, rfl, HA, HJ3, HB⟩ := hcut
  cases kq with
  | zero => exact absurd HA.out (by simp [turnbuckleref12_Needs.j0])
  | succ kj3 =>
   have H := HA.out
   clear HA
   simp only [turnbuckleref12_Needs.j0] at H
   by_cases c6 : x24_3 = true
   ·subst c6
    have H1 : (some (([] : List (S61)), 6, 0)) = some (r1, r2, r3) := by rw [if_pos rfl] at H; exact H
    clear H
    have H := H1
    clear H1
    simp only [Option.some.injEq, Prod.mk.injEq] at H
    obtain ⟨rfl, rfl, rfl⟩ := H
    go_wp2
    go_ret3
    exact ⟨_, by first | rfl | (simp [errW_none, errW_some] <;> rfl) | (simp [*, errW_none, errW_some] <;> rfl), by first | exact Kd.R_nil _ _ _ _ _ | exact Kd.N_nil _ _ _ _ _ | exact Kd.V_nil _ _ _ _ _ | exact Kd.Q_nil _ _ _ _ _ | exact Kd.S_nil _ _ _ _ _, by repeat (first | (with_reducible first | exact HB.out | apply below_alloc | apply pw_below_drewN | apply below_drew1) | exact HB.out)⟩
   ·replace c6 := Bool.eq_false_iff.mpr c6
    subst c6
    have H1 : (turnbuckleref12_Needs.l0 kj3 a0 a1 a2 ([] : List (S61)) 0 0) = some (r1, r2, r3) := by rw [if_neg (show ¬ (false = true) by decide)] at H; exact H
    clear H
    have H := H1
    clear H1
    have H' := Aside0.mk H
    clear H
    go_wp2
    go_loopg [9, 10, 11] kj3 (fun kq v9 v10 v11 w' => ∃ (x9_2 : List (S61)) (x10_2 : Int) (x11_2 : Int), v10 = .int .u64 x10_2 ∧ v11 = .int .i64 x11_2 ∧ Aside0 (turnbuckleref12_Needs.l0 kq a0 a1 a2 x9_2 x10_2 x11_2 = some (r1, r2, r3)) ∧ Aside0 (kq ≤ kj3) ∧ Aside0 (Kd.R k61 61 w' w.heap.size (fun _ => True) v9 x9_2) ∧ Aside0 (Below w.heap.size w w'))
    case atStart => exact ⟨(([] : List (S61))), (0), (0), (by first | rfl | (simp; done) | (simp [*]; done)), (by first | rfl | (simp; done) | (simp [*]; done)), H', ⟨Nat.le_refl _⟩, ⟨by first | exact Kd.R_nil _ _ _ _ _ | exact Kd.N_nil _ _ _ _ _ | exact Kd.V_nil _ _ _ _ _ | exact Kd.Q_nil _ _ _ _ _ | exact Kd.S_nil _ _ _ _ _⟩, ⟨by repeat (first | (with_reducible first | exact HB.out | apply below_alloc | apply pw_below_drewN | apply below_drew1) | exact HB.out)⟩⟩
    case round =>
     clear H'
     try clear c1
     try clear p2
     try clear c5
     try clear c5b0
     try clear c6
     try clear p2
     obtain ⟨x9_2, x10_2, x11_2, rfl, rfl, HA, HK2, HO_9, HB⟩ := hrel
     cases gk with
     | zero => exact absurd HA.out (by simp [turnbuckleref12_Needs.l0])
     | succ k2 =>
      have H := HA.out
      clear HA
      simp only [turnbuckleref12_Needs.l0] at H
      by_cases c7 : x11_2 < a2
      ·rw [if_pos c7] at H
       have c7b0 : decide (x11_2 < a2) = true := decide_eq_true c7
       clear c7
       replace H := Option.bind_eq_some_iff.mp H
       obtain ⟨t169, A80, H⟩ := H
       replace H : ((turnbuckleref12_has.f a0 x10_2 16).bind fun t170 => (if t170 = true then ((turnbuckleref12_has.f a0 (IntKind.u64.wrap (x10_2 + t169)) 16).bind fun t171 => (turnbuckleref12_Needs.j2 k2 a0 a1 a2 x9_2 x10_2 x11_2 (IntKind.u64.wrap (x10_2 + t169)) (!t171))) else (turnbuckleref12_Needs.j2 k2 a0 a1 a2 x9_2 x10_2 x11_2 (IntKind.u64.wrap (x10_2 + t169)) true))) = some (r1, r2, r3) := H
       have A8 := Aside0.mk A80
       clear A80
       have HC9 := Aside0.mk H
       clear H
       go_upto_region 9 with (first | ((with_reducible refine gate_callee (f := 24) rfl ?_); refine goesL_ (some 34) rfl rfl Try.func24 (by kernel_rfl) rfl #[.string a0, .int .u64 (IntKind.u64.wrap (x10_2 + 8)), .int .i64 4] rfl (by (try simp only [List.map_toArray, List.map_cons, List.map_nil]); first | done | rfl | (simp only [List.length_drop, List.length_take]; rfl)) ?_; (with_reducible refine (turnbuckleref12_num.calls k2 a0 (IntKind.u64.wrap (x10_2 + 8)) 4 t169 _ A8.out).mono ?_); rintro e w' ⟨rfl, ⟨nd, rfl⟩⟩; refine ⟨_, rfl, ?_⟩))
       (try simp only [Act.put, List.setIfInBounds_toArray, List.set_cons_zero, List.set_cons_succ])
       go_cut [45] (fun v45 wc => ∃ (kq : Nat) (x45_8 : Bool), v45 = .bool x45_8 ∧ Aside0 (turnbuckleref12_Needs.j2 kq a0 a1 a2 x9_2 x10_2 x11_2 (IntKind.u64.wrap (x10_2 + t169)) x45_8 = some (r1, r2, r3)) ∧ Aside0 (kq ≤ k2) ∧ Aside0 (Kd.R k61 61 wc w.heap.size (fun _ => True) u9 x9_2) ∧ Aside0 (Below w.heap.size w wc))
       case first =>
        have H := HC9.out
        clear HC9
        replace H := Option.bind_eq_some_iff.mp H
        obtain ⟨t170, A100, H⟩ := H
        replace H : (if t170 = true then ((turnbuckleref12_has.f a0 (IntKind.u64.wrap (x10_2 + t169)) 16).bind fun t171 => (turnbuckleref12_Needs.j2 k2 a0 a1 a2 x9_2 x10_2 x11_2 (IntKind.u64.wrap (x10_2 + t169)) (!t171))) else (turnbuckleref12_Needs.j2 k2 a0 a1 a2 x9_2 x10_2 x11_2 (IntKind.u64.wrap (x10_2 + t169)) true)) = some (r1, r2, r3) := H
        have A10 := Aside0.mk A100
        clear A100
        by_cases c11 : t170 = true
        ·subst c11
         have H1 : ((turnbuckleref12_has.f a0 (IntKind.u64.wrap (x10_2 + t169)) 16).bind fun t171 => (turnbuckleref12_Needs.j2 k2 a0 a1 a2 x9_2 x10_2 x11_2 (IntKind.u64.wrap (x10_2 + t169)) (!t171))) = some (r1, r2, r3) := by rw [if_pos rfl] at H; exact H
         clear H
         have H := H1
         clear H1
         replace H := Option.bind_eq_some_iff.mp H
         obtain ⟨t171, A120, H⟩ := H
         replace H : (turnbuckleref12_Needs.j2 k2 a0 a1 a2 x9_2 x10_2 x11_2 (IntKind.u64.wrap (x10_2 + t169)) (!t171)) = some (r1, r2, r3) := H
         have A12 := Aside0.mk A120
         clear A120
         have H' := Aside0.mk H
         clear H
         go_wp2_with (first | ((with_reducible refine gate_callee (f := 25) rfl ?_); refine goesL_ (some 38) rfl rfl Try.func25 (by kernel_rfl) rfl #[.string a0, .int .u64 x10_2, .int .u64 16] rfl (by (try simp only [List.map_toArray, List.map_cons, List.map_nil]); first | done | rfl | (simp only [List.length_drop, List.length_take]; rfl)) ?_; (with_reducible refine (turnbuckleref12_has.calls a0 x10_2 16 true _ A10.out).mono ?_); rintro e w' ⟨rfl, ⟨nd, rfl⟩⟩; refine ⟨_, rfl, ?_⟩) | (go_at_call 25; (with_reducible refine (turnbuckleref12_has.calls a0 (IntKind.u64.wrap (x10_2 + t169)) 16 t171 _ A12.out).mono ?_); rintro e w' ⟨rfl, ⟨nd, rfl⟩⟩))
         (try subst hji4)
         (try subst hji6)
         (try subst hji10)
         go_meet
         case rel => exact ⟨_, (!t171), (by first | rfl | (simp; done) | (simp [*]; done)), H', ⟨by have := HJ3.out; have := HK2.out; first | omega | exact Nat.le_refl _⟩, ⟨by (with_reducible repeat (first | apply Kd.R_alloc | apply Kd.R_drewN | apply Kd.R_drew)); exact HO_9.out⟩, ⟨by repeat (first | (with_reducible first | exact HB.out | apply below_alloc | apply pw_below_drewN | apply below_drew1) | exact HB.out)⟩⟩
        ·replace c11 := Bool.eq_false_iff.mpr c11
         subst c11
         have H1 : (turnbuckleref12_Needs.j2 k2 a0 a1 a2 x9_2 x10_2 x11_2 (IntKind.u64.wrap (x10_2 + t169)) true) = some (r1, r2, r3) := by rw [if_neg (show ¬ (false = true) by decide)] at H; exact H
         clear H
         have H := H1
         clear H1
         have H' := Aside0.mk H
         clear H
         go_wp2_with (first | ((with_reducible refine gate_callee (f := 25) rfl ?_); refine goesL_ (some 38) rfl rfl Try.func25 (by kernel_rfl) rfl #[.string a0, .int .u64 x10_2, .int .u64 16] rfl (by (try simp only [List.map_toArray, List.map_cons, List.map_nil]); first | done | rfl | (simp only [List.length_drop, List.length_take]; rfl)) ?_; (with_reducible refine (turnbuckleref12_has.calls a0 x10_2 16 false _ A10.out).mono ?_); rintro e w' ⟨rfl, ⟨nd, rfl⟩⟩; refine ⟨_, rfl, ?_⟩))
         (try subst hji4)
         (try subst hji6)
         (try subst hji10)
         go_meet
         case rel => exact ⟨_, (true), (by first | rfl | (simp; done) | (simp [*]; done)), H', ⟨by have := HJ3.out; have := HK2.out; first | omega | exact Nat.le_refl _⟩, ⟨by (with_reducible repeat (first | apply Kd.R_alloc | apply Kd.R_drewN | apply Kd.R_drew)); exact HO_9.out⟩, ⟨by repeat (first | (with_reducible first | exact HB.out | apply below_alloc | apply pw_below_drewN | apply below_drew1) | exact HB.out)⟩⟩
       case rest =>
        clear HC9
        try clear c1
        try clear c2
        try clear p2
        try clear c5
        try clear c5b0
        try clear c6
        try clear c7
        try clear c7b0
        try clear c11
        try clear p2
        obtain ⟨kq, x45_8, rfl, HA, HJ8, HO_9, HB⟩ := hcut
        cases kq with
        | zero => exact absurd HA.out (by simp [turnbuckleref12_Needs.j2])
        | succ kj8 =>
         have H := HA.out
         clear HA
         simp only [turnbuckleref12_Needs.j2] at H
         by_cases c13 : x45_8 = true
         ·subst c13
          have H1 : (some (([] : List (S61)), 2, x10_2)) = some (r1, r2, r3) := by rw [if_pos rfl] at H; exact H
          clear H
          have H := H1
          clear H1
          simp only [Option.some.injEq, Prod.mk.injEq] at H
          obtain ⟨rfl, rfl, rfl⟩ := H
          go_wp2
          go_ret3
          exact ⟨_, by first | rfl | (simp [errW_none, errW_some] <;> rfl) | (simp [*, errW_none, errW_some] <;> rfl), by first | exact Kd.R_nil _ _ _ _ _ | exact Kd.N_nil _ _ _ _ _ | exact Kd.V_nil _ _ _ _ _ | exact Kd.Q_nil _ _ _ _ _ | exact Kd.S_nil _ _ _ _ _, by repeat (first | (with_reducible first | exact HB.out | apply below_alloc | apply pw_below_drewN | apply below_drew1) | exact HB.out)⟩
         ·replace c13 := Bool.eq_false_iff.mpr c13
          subst c13
          have H1 : ((turnbuckleref12_num.f kj8 a0 (IntKind.u64.wrap (x10_2 + 2)) 2).bind fun t172 => ((turnbuckleref12_num.f kj8 a0 x10_2 2).bind fun t173 => (if t173 = 1 then (turnbuckleref12_Needs.j3 kj8 a0 a1 a2 x9_2 x10_2 x11_2 (IntKind.u64.wrap (x10_2 + t169)) t172 (t172 == 0)) else (turnbuckleref12_Needs.j3 kj8 a0 a1 a2 x9_2 x10_2 x11_2 (IntKind.u64.wrap (x10_2 + t169)) t172 true)))) = some (r1, r2, r3) := by rw [if_neg (show ¬ (false = true) by decide)] at H; exact H
          clear H
          have H := H1
          clear H1
          replace H := Option.bind_eq_some_iff.mp H
          obtain ⟨t172, A140, H⟩ := H
          replace H : ((turnbuckleref12_num.f kj8 a0 x10_2 2).bind fun t173 => (if t173 = 1 then (turnbuckleref12_Needs.j3 kj8 a0 a1 a2 x9_2 x10_2 x11_2 (IntKind.u64.wrap (x10_2 + t169)) t172 (t172 == 0)) else (turnbuckleref12_Needs.j3 kj8 a0 a1 a2 x9_2 x10_2 x11_2 (IntKind.u64.wrap (x10_2 + t169)) t172 true))) = some (r1, r2, r3) := H
          have A14 := Aside0.mk A140
          clear A140
          have HC15 := Aside0.mk H
          clear H
          go_upto_region 12 with (first | ((with_reducible refine gate_callee (f := 24) rfl ?_); refine goesL_ (some 50) rfl rfl Try.func24 (by kernel_rfl) rfl #[.string a0, .int .u64 (IntKind.u64.wrap (x10_2 + 2)), .int .i64 2] rfl (by (try simp only [List.map_toArray, List.map_cons, List.map_nil]); first | done | rfl | (simp only [List.length_drop, List.length_take]; rfl)) ?_; (with_reducible refine (turnbuckleref12_num.calls kj8 a0 (IntKind.u64.wrap (x10_2 + 2)) 2 t172 _ A14.out).mono ?_); rintro e w' ⟨rfl, ⟨nd, rfl⟩⟩; refine ⟨_, rfl, ?_⟩))
          (try simp only [Act.put, List.setIfInBounds_toArray, List.set_cons_zero, List.set_cons_succ])
          go_cut [58] (fun v58 wc => ∃ (kq : Nat) (x58_14 : Bool), v58 = .bool x58_14 ∧ Aside0 (turnbuckleref12_Needs.j3 kq a0 a1 a2 x9_2 x10_2 x11_2 (IntKind.u64.wrap (x10_2 + t169)) t172 x58_14 = some (r1, r2, r3)) ∧ Aside0 (kq ≤ kj8) ∧ Aside0 (Kd.R k61 61 wc w.heap.size (fun _ => True) u9 x9_2) ∧ Aside0 (Below w.heap.size w wc))
          case first =>
           have H := HC15.out
           clear HC15
           replace H := Option.bind_eq_some_iff.mp H
           obtain ⟨t173, A160, H⟩ := H
           replace H : (if t173 = 1 then (turnbuckleref12_Needs.j3 kj8 a0 a1 a2 x9_2 x10_2 x11_2 (IntKind.u64.wrap (x10_2 + t169)) t172 (t172 == 0)) else (turnbuckleref12_Needs.j3 kj8 a0 a1 a2 x9_2 x10_2 x11_2 (IntKind.u64.wrap (x10_2 + t169)) t172 true)) = some (r1, r2, r3) := H
           have A16 := Aside0.mk A160
           clear A160
           by_cases c17 : t173 = 1
           ·rw [if_pos c17] at H
            have c17b0 : (t173 == 1) = true := beq_iff_eq.mpr c17
            have c17b1 : (t173 != 1) = false := bne_eq_false_iff_eq.mpr c17
            clear c17
            (first | rw [c17b0] | (simp only [i64_w, i32_w]; rw [c17b0]) | skip)
            have H' := Aside0.mk H
            clear H
            go_wp2_with (first | ((with_reducible refine gate_callee (f := 24) rfl ?_); refine goesL_ (some 53) rfl rfl Try.func24 (by kernel_rfl) rfl #[.string a0, .int .u64 x10_2, .int .i64 2] rfl (by (try simp only [List.map_toArray, List.map_cons, List.map_nil]); first | done | rfl | (simp only [List.length_drop, List.length_take]; rfl)) ?_; (with_reducible refine (turnbuckleref12_num.calls kj8 a0 x10_2 2 t173 _ A16.out).mono ?_); rintro e w' ⟨rfl, ⟨nd, rfl⟩⟩; refine ⟨_, rfl, ?_⟩))
            (try subst hji4)
            (try subst hji6)
            (try subst hji10)
            go_meet
            case rel => exact ⟨_, ((t172 == 0)), (by first | rfl | (simp; done) | (simp [*]; done)), H', ⟨by have := HJ3.out; have := HK2.out; have := HJ8.out; first | omega | exact Nat.le_refl _⟩, ⟨by (with_reducible repeat (first | apply Kd.R_alloc | apply Kd.R_drewN | apply Kd.R_drew)); exact HO_9.out⟩, ⟨by repeat (first | (with_reducible first | exact HB.out | apply below_alloc | apply pw_below_drewN | apply below_drew1) | exact HB.out)⟩⟩
           ·rw [if_neg c17] at H
            have c17b0 : (t173 == 1) = false := beq_eq_false_iff_ne.mpr c17
            have c17b1 : (t173 != 1) = true := bne_iff_ne.mpr c17
            (first | rw [c17b0] | (simp only [i64_w, i32_w]; rw [c17b0]) | skip)
            have H' := Aside0.mk H
            clear H
            go_wp2_with (first | ((with_reducible refine gate_callee (f := 24) rfl ?_); refine goesL_ (some 53) rfl rfl Try.func24 (by kernel_rfl) rfl #[.string a0, .int .u64 x10_2, .int .i64 2] rfl (by (try simp only [List.map_toArray, List.map_cons, List.map_nil]); first | done | rfl | (simp only [List.length_drop, List.length_take]; rfl)) ?_; (with_reducible refine (turnbuckleref12_num.calls kj8 a0 x10_2 2 t173 _ A16.out).mono ?_); rintro e w' ⟨rfl, ⟨nd, rfl⟩⟩; refine ⟨_, rfl, ?_⟩))
            (try subst hji4)
            (try subst hji6)
            (try subst hji10)
            go_meet
            case rel => exact ⟨_, (true), (by first | rfl | (simp; done) | (simp [*]; done)), H', ⟨by have := HJ3.out; have := HK2.out; have := HJ8.out; first | omega | exact Nat.le_refl _⟩, ⟨by (with_reducible repeat (first | apply Kd.R_alloc | apply Kd.R_drewN | apply Kd.R_drew)); exact HO_9.out⟩, ⟨by repeat (first | (with_reducible first | exact HB.out | apply below_alloc | apply pw_below_drewN | apply below_drew1) | exact HB.out)⟩⟩
          case rest =>
           clear HC15
           try clear c1
           try clear c2
           try clear p2
           try clear c5
           try clear c5b0
           try clear c6
           try clear c7
           try clear c7b0
           try clear c11
           try clear c13
           try clear c17
           try clear c17b0
           try clear c17b1
           try clear p2
           obtain ⟨kq, x58_14, rfl, HA, HJ14, HO_9, HB⟩ := hcut
           cases kq with
           | zero => exact absurd HA.out (by simp [turnbuckleref12_Needs.j3])
           | succ kj14 =>
            have H := HA.out
            clear HA
            simp only [turnbuckleref12_Needs.j3] at H
            by_cases c18 : x58_14 = true
            ·subst c18
             have H1 : (some (([] : List (S61)), 4, x10_2)) = some (r1, r2, r3) := by rw [if_pos rfl] at H; exact H
             clear H
             have H := H1
             clear H1
             simp only [Option.some.injEq, Prod.mk.injEq] at H
             obtain ⟨rfl, rfl, rfl⟩ := H
             go_wp2
             go_ret3
             exact ⟨_, by first | rfl | (simp [errW_none, errW_some] <;> rfl) | (simp [*, errW_none, errW_some] <;> rfl), by first | exact Kd.R_nil _ _ _ _ _ | exact Kd.N_nil _ _ _ _ _ | exact Kd.V_nil _ _ _ _ _ | exact Kd.Q_nil _ _ _ _ _ | exact Kd.S_nil _ _ _ _ _, by repeat (first | (with_reducible first | exact HB.out | apply below_alloc | apply pw_below_drewN | apply below_drew1) | exact HB.out)⟩
            ·replace c18 := Bool.eq_false_iff.mpr c18
             subst c18
             have H1 : ((turnbuckleref12_num.f kj14 a0 (IntKind.u64.wrap (x10_2 + 4)) 4).bind fun t174 => ((turnbuckleref01_Text.f kj14 a1 t174 32).bind fun bt175 => (if bt175.2 = true then (turnbuckleref12_Needs.l1 kj14 a0 a1 a2 x9_2 x10_2 x11_2 (IntKind.u64.wrap (x10_2 + t169)) t172 bt175.1 0) else (some (([] : List (S61)), 25, x10_2))))) = some (r1, r2, r3) := by rw [if_neg (show ¬ (false = true) by decide)] at H; exact H
             clear H
             have H := H1
             clear H1
             replace H := Option.bind_eq_some_iff.mp H
             obtain ⟨t174, A190, H⟩ := H
             replace H : ((turnbuckleref01_Text.f kj14 a1 t174 32).bind fun bt175 => (if bt175.2 = true then (turnbuckleref12_Needs.l1 kj14 a0 a1 a2 x9_2 x10_2 x11_2 (IntKind.u64.wrap (x10_2 + t169)) t172 bt175.1 0) else (some (([] : List (S61)), 25, x10_2)))) = some (r1, r2, r3) := H
             have A19 := Aside0.mk A190
             clear A190
             replace H := Option.bind_eq_some_iff.mp H
             obtain ⟨⟨t175, t176⟩, A200, H⟩ := H
             replace H : (if t176 = true then (turnbuckleref12_Needs.l1 kj14 a0 a1 a2 x9_2 x10_2 x11_2 (IntKind.u64.wrap (x10_2 + t169)) t172 t175 0) else (some (([] : List (S61)), 25, x10_2))) = some (r1, r2, r3) := H
             have A20 := Aside0.mk A200
             clear A200
             by_cases c21 : t176 = true
             ·subst c21
              have H1 : (turnbuckleref12_Needs.l1 kj14 a0 a1 a2 x9_2 x10_2 x11_2 (IntKind.u64.wrap (x10_2 + t169)) t172 t175 0) = some (r1, r2, r3) := by rw [if_pos rfl] at H; exact H
              clear H
              have H := H1
              clear H1
              have H' := Aside0.mk H
              clear H
              go_wp2_with (first | ((with_reducible refine gate_callee (f := 24) rfl ?_); refine goesL_ (some 65) rfl rfl Try.func24 (by kernel_rfl) rfl #[.string a0, .int .u64 (IntKind.u64.wrap (x10_2 + 4)), .int .i64 4] rfl (by (try simp only [List.map_toArray, List.map_cons, List.map_nil]); first | done | rfl | (simp only [List.length_drop, List.length_take]; rfl)) ?_; (with_reducible refine (turnbuckleref12_num.calls kj14 a0 (IntKind.u64.wrap (x10_2 + 4)) 4 t174 _ A19.out).mono ?_); rintro e w' ⟨rfl, ⟨nd, rfl⟩⟩; refine ⟨_, rfl, ?_⟩) | ((with_reducible refine gate_callee (f := 26) rfl ?_); refine goesL_ (some 66) rfl rfl Try.func26 (by kernel_rfl) rfl #[.string a1, .int .u64 t174, .int .i64 32] rfl (by (try simp only [List.map_toArray, List.map_cons, List.map_nil]); first | done | rfl | (simp only [List.length_drop, List.length_take]; rfl)) ?_; (with_reducible refine (turnbuckleref01_Text.calls kj14 a1 t174 32 t175 true _ A20.out).mono ?_); rintro e w' ⟨rfl, ⟨nd, rfl⟩⟩; refine ⟨_, rfl, ?_⟩))
              go_loopg [9, 12, 16] kj14 (fun kq v9 v12 v16 w' => ∃ (x9_5 : List (S61)) (x12_5 : Int) (x16_5 : Int), v12 = .int .u64 x12_5 ∧ v16 = .int .u64 x16_5 ∧ Aside0 (turnbuckleref12_Needs.l1 kq a0 a1 a2 x9_5 x10_2 x11_2 x12_5 t172 t175 x16_5 = some (r1, r2, r3)) ∧ Aside0 (kq ≤ kj14) ∧ Aside0 (Kd.R k61 61 w' w.heap.size (fun _ => True) v9 x9_5) ∧ Aside0 (Below w.heap.size w w'))
              case atStart => exact ⟨(x9_2), ((IntKind.u64.wrap (x10_2 + t169))), (0), (by first | rfl | (simp; done) | (simp [*]; done)), (by first | rfl | (simp; done) | (simp [*]; done)), H', ⟨Nat.le_refl _⟩, ⟨by (with_reducible repeat (first | apply Kd.R_alloc | apply Kd.R_drewN | apply Kd.R_drew)); exact HO_9.out⟩, ⟨by repeat (first | (with_reducible first | exact HB.out | apply below_alloc | apply pw_below_drewN | apply below_drew1) | exact HB.out)⟩⟩
              case round =>
               clear H'
               try clear c1
               try clear c2
               try clear p2
               try clear c5
               try clear c5b0
               try clear c6
               try clear c7
               try clear c7b0
               try clear c11
               try clear c13
               try clear c17
               try clear c17b0
               try clear c17b1
               try clear c18
               try clear c19
               try clear c21
               try clear p2
               obtain ⟨x9_5, x12_5, x16_5, rfl, rfl, HA, HK5, HO_9, HB⟩ := hrel
               cases gk with
               | zero => exact absurd HA.out (by simp [turnbuckleref12_Needs.l1])
               | succ k5 =>
                have H := HA.out
                clear HA
                simp only [turnbuckleref12_Needs.l1] at H
                by_cases c22 : x16_5 < t172
                ·rw [if_pos c22] at H
                 have c22b0 : decide (x16_5 < t172) = true := decide_eq_true c22
                 clear c22
                 replace H := Option.bind_eq_some_iff.mp H
                 obtain ⟨t178, A230, H⟩ := H
                 replace H : (if t178 = true then ((turnbuckleref12_num.f k5 a0 (IntKind.u64.wrap (x12_5 + 8)) 4).bind fun t179 => ((turnbuckleref01_Text.f k5 a1 t179 32).bind fun bt180 => (if bt180.2 = true then (if (x9_5.length : Int) = 64 then (some (([] : List (S61)), 6, x12_5)) else ((turnbuckleref12_num.f k5 a0 (IntKind.u64.wrap (x12_5 + 6)) 2).bind fun t182 => ((turnbuckleref12_num.f k5 a0 (IntKind.u64.wrap (x12_5 + 4)) 2).bind fun t183 => (if x9_5.length < 2932031007402 then ((turnbuckleref12_num.f k5 a0 (IntKind.u64.wrap (x12_5 + 12)) 4).bind fun t187 => (turnbuckleref12_Needs.l1 k5 a0 a1 a2 (x9_5 ++ [(⟨wrap64 (Int.tmod t182 32768), t175, bt180.1, ((Int.tmod (IntKind.u64.wrap (Int.tdiv t183 2)) 2) == 1)⟩ : S61)]) x10_2 x11_2 (IntKind.u64.wrap (x12_5 + t187)) t172 t175 (IntKind.u64.wrap (x16_5 + 1)))) else (none))))) else (some (([] : List (S61)), 25, x12_5))))) else (some (([] : List (S61)), 2, x12_5))) = some (r1, r2, r3) := H
                 have A23 := Aside0.mk A230
                 clear A230
                 by_cases c24 : t178 = true
                 ·subst c24
                  have H1 : ((turnbuckleref12_num.f k5 a0 (IntKind.u64.wrap (x12_5 + 8)) 4).bind fun t179 => ((turnbuckleref01_Text.f k5 a1 t179 32).bind fun bt180 => (if bt180.2 = true then (if (x9_5.length : Int) = 64 then (some (([] : List (S61)), 6, x12_5)) else ((turnbuckleref12_num.f k5 a0 (IntKind.u64.wrap (x12_5 + 6)) 2).bind fun t182 => ((turnbuckleref12_num.f k5 a0 (IntKind.u64.wrap (x12_5 + 4)) 2).bind fun t183 => (if x9_5.length < 2932031007402 then ((turnbuckleref12_num.f k5 a0 (IntKind.u64.wrap (x12_5 + 12)) 4).bind fun t187 => (turnbuckleref12_Needs.l1 k5 a0 a1 a2 (x9_5 ++ [(⟨wrap64 (Int.tmod t182 32768), t175, bt180.1, ((Int.tmod (IntKind.u64.wrap (Int.tdiv t183 2)) 2) == 1)⟩ : S61)]) x10_2 x11_2 (IntKind.u64.wrap (x12_5 + t187)) t172 t175 (IntKind.u64.wrap (x16_5 + 1)))) else (none))))) else (some (([] : List (S61)), 25, x12_5))))) = some (r1, r2, r3) := by rw [if_pos rfl] at H; exact H
                  clear H
                  have H := H1
                  clear H1
                  replace H := Option.bind_eq_some_iff.mp H
                  obtain ⟨t179, A250, H⟩ := H
                  replace H : ((turnbuckleref01_Text.f k5 a1 t179 32).bind fun bt180 => (if bt180.2 = true then (if (x9_5.length : Int) = 64 then (some (([] : List (S61)), 6, x12_5)) else ((turnbuckleref12_num.f k5 a0 (IntKind.u64.wrap (x12_5 + 6)) 2).bind fun t182 => ((turnbuckleref12_num.f k5 a0 (IntKind.u64.wrap (x12_5 + 4)) 2).bind fun t183 => (if x9_5.length < 2932031007402 then ((turnbuckleref12_num.f k5 a0 (IntKind.u64.wrap (x12_5 + 12)) 4).bind fun t187 => (turnbuckleref12_Needs.l1 k5 a0 a1 a2 (x9_5 ++ [(⟨wrap64 (Int.tmod t182 32768), t175, bt180.1, ((Int.tmod (IntKind.u64.wrap (Int.tdiv t183 2)) 2) == 1)⟩ : S61)]) x10_2 x11_2 (IntKind.u64.wrap (x12_5 + t187)) t172 t175 (IntKind.u64.wrap (x16_5 + 1)))) else (none))))) else (some (([] : List (S61)), 25, x12_5)))) = some (r1, r2, r3) := H
                  have A25 := Aside0.mk A250
                  clear A250
                  replace H := Option.bind_eq_some_iff.mp H
                  obtain ⟨⟨t180, t181⟩, A260, H⟩ := H
                  replace H : (if t181 = true then (if (x9_5.length : Int) = 64 then (some (([] : List (S61)), 6, x12_5)) else ((turnbuckleref12_num.f k5 a0 (IntKind.u64.wrap (x12_5 + 6)) 2).bind fun t182 => ((turnbuckleref12_num.f k5 a0 (IntKind.u64.wrap (x12_5 + 4)) 2).bind fun t183 => (if x9_5.length < 2932031007402 then ((turnbuckleref12_num.f k5 a0 (IntKind.u64.wrap (x12_5 + 12)) 4).bind fun t187 => (turnbuckleref12_Needs.l1 k5 a0 a1 a2 (x9_5 ++ [(⟨wrap64 (Int.tmod t182 32768), t175, t180, ((Int.tmod (IntKind.u64.wrap (Int.tdiv t183 2)) 2) == 1)⟩ : S61)]) x10_2 x11_2 (IntKind.u64.wrap (x12_5 + t187)) t172 t175 (IntKind.u64.wrap (x16_5 + 1)))) else (none))))) else (some (([] : List (S61)), 25, x12_5))) = some (r1, r2, r3) := H
                  have A26 := Aside0.mk A260
                  clear A260
                  by_cases c27 : t181 = true
                  ·subst c27
                   have H1 : (if (x9_5.length : Int) = 64 then (some (([] : List (S61)), 6, x12_5)) else ((turnbuckleref12_num.f k5 a0 (IntKind.u64.wrap (x12_5 + 6)) 2).bind fun t182 => ((turnbuckleref12_num.f k5 a0 (IntKind.u64.wrap (x12_5 + 4)) 2).bind fun t183 => (if x9_5.length < 2932031007402 then ((turnbuckleref12_num.f k5 a0 (IntKind.u64.wrap (x12_5 + 12)) 4).bind fun t187 => (turnbuckleref12_Needs.l1 k5 a0 a1 a2 (x9_5 ++ [(⟨wrap64 (Int.tmod t182 32768), t175, t180, ((Int.tmod (IntKind.u64.wrap (Int.tdiv t183 2)) 2) == 1)⟩ : S61)]) x10_2 x11_2 (IntKind.u64.wrap (x12_5 + t187)) t172 t175 (IntKind.u64.wrap (x16_5 + 1)))) else (none))))) = some (r1, r2, r3) := by rw [if_pos rfl] at H; exact H
                   clear H
                   have H := H1
                   clear H1
                   by_cases c28 : (x9_5.length : Int) = 64
                   ·rw [if_pos c28] at H
                    have c28b0 : ((x9_5.length : Int) == 64) = true := beq_iff_eq.mpr c28
                    have c28b1 : ((x9_5.length : Int) != 64) = false := bne_eq_false_iff_eq.mpr c28
                    clear c28
                    simp only [Option.some.injEq, Prod.mk.injEq] at H
                    obtain ⟨rfl, rfl, rfl⟩ := H
                    go_wp2_with (first | ((with_reducible refine gate_callee (f := 25) rfl ?_); refine goesL_ (some 79) rfl rfl Try.func25 (by kernel_rfl) rfl #[.string a0, .int .u64 x12_5, .int .u64 16] rfl (by (try simp only [List.map_toArray, List.map_cons, List.map_nil]); first | done | rfl | (simp only [List.length_drop, List.length_take]; rfl)) ?_; (with_reducible refine (turnbuckleref12_has.calls a0 x12_5 16 true _ A23.out).mono ?_); rintro e w' ⟨rfl, ⟨nd, rfl⟩⟩; refine ⟨_, rfl, ?_⟩) | ((with_reducible refine gate_callee (f := 24) rfl ?_); refine goesL_ (some 87) rfl rfl Try.func24 (by kernel_rfl) rfl #[.string a0, .int .u64 (IntKind.u64.wrap (x12_5 + 8)), .int .i64 4] rfl (by (try simp only [List.map_toArray, List.map_cons, List.map_nil]); first | done | rfl | (simp only [List.length_drop, List.length_take]; rfl)) ?_; (with_reducible refine (turnbuckleref12_num.calls k5 a0 (IntKind.u64.wrap (x12_5 + 8)) 4 t179 _ A25.out).mono ?_); rintro e w' ⟨rfl, ⟨nd, rfl⟩⟩; refine ⟨_, rfl, ?_⟩) | ((with_reducible refine gate_callee (f := 26) rfl ?_); refine goesL_ (some 88) rfl rfl Try.func26 (by kernel_rfl) rfl #[.string a1, .int .u64 t179, .int .i64 32] rfl (by (try simp only [List.map_toArray, List.map_cons, List.map_nil]); first | done | rfl | (simp only [List.length_drop, List.length_take]; rfl)) ?_; (with_reducible refine (turnbuckleref01_Text.calls k5 a1 t179 32 t180 true _ A26.out).mono ?_); rintro e w' ⟨rfl, ⟨nd, rfl⟩⟩; refine ⟨_, rfl, ?_⟩; obtain ⟨Ao29, co29, eo29⟩ := Kd.R_slice HO_9.out; subst eo29))
                    go_ret3
                    exact ⟨_, by first | rfl | (simp [errW_none, errW_some] <;> rfl) | (simp [*, errW_none, errW_some] <;> rfl), by first | exact Kd.R_nil _ _ _ _ _ | exact Kd.N_nil _ _ _ _ _ | exact Kd.V_nil _ _ _ _ _ | exact Kd.Q_nil _ _ _ _ _ | exact Kd.S_nil _ _ _ _ _, by repeat (first | (with_reducible first | exact HB.out | apply below_alloc | apply pw_below_drewN | apply below_drew1) | exact HB.out)⟩
                   ·rw [if_neg c28] at H
                    have c28b0 : ((x9_5.length : Int) == 64) = false := beq_eq_false_iff_ne.mpr c28
                    have c28b1 : ((x9_5.length : Int) != 64) = true := bne_iff_ne.mpr c28
                    replace H := Option.bind_eq_some_iff.mp H
                    obtain ⟨t182, A300, H⟩ := H
                    replace H : ((turnbuckleref12_num.f k5 a0 (IntKind.u64.wrap (x12_5 + 4)) 2).bind fun t183 => (if x9_5.length < 2932031007402 then ((turnbuckleref12_num.f k5 a0 (IntKind.u64.wrap (x12_5 + 12)) 4).bind fun t187 => (turnbuckleref12_Needs.l1 k5 a0 a1 a2 (x9_5 ++ [(⟨wrap64 (Int.tmod t182 32768), t175, t180, ((Int.tmod (IntKind.u64.wrap (Int.tdiv t183 2)) 2) == 1)⟩ : S61)]) x10_2 x11_2 (IntKind.u64.wrap (x12_5 + t187)) t172 t175 (IntKind.u64.wrap (x16_5 + 1)))) else (none))) = some (r1, r2, r3) := H
                    have A30 := Aside0.mk A300
                    clear A300
                    replace H := Option.bind_eq_some_iff.mp H
                    obtain ⟨t183, A310, H⟩ := H
                    replace H : (if x9_5.length < 2932031007402 then ((turnbuckleref12_num.f k5 a0 (IntKind.u64.wrap (x12_5 + 12)) 4).bind fun t187 => (turnbuckleref12_Needs.l1 k5 a0 a1 a2 (x9_5 ++ [(⟨wrap64 (Int.tmod t182 32768), t175, t180, ((Int.tmod (IntKind.u64.wrap (Int.tdiv t183 2)) 2) == 1)⟩ : S61)]) x10_2 x11_2 (IntKind.u64.wrap (x12_5 + t187)) t172 t175 (IntKind.u64.wrap (x16_5 + 1)))) else (none)) = some (r1, r2, r3) := H
                    have A31 := Aside0.mk A310
                    clear A310
                    by_cases c32 : x9_5.length < 2932031007402
                    ·rw [if_pos c32] at H
                     have LMc32 := Aside0.mk c32
                     clear c32
                     obtain ⟨y184, hy184⟩ : ∃ y_ : List (S61), y_ = (x9_5 ++ [(⟨wrap64 (Int.tmod t182 32768), t175, t180, ((Int.tmod (IntKind.u64.wrap (Int.tdiv t183 2)) 2) == 1)⟩ : S61)]) := ⟨_, rfl⟩
                     replace H : ((turnbuckleref12_num.f k5 a0 (IntKind.u64.wrap (x12_5 + 12)) 4).bind fun t187 => (turnbuckleref12_Needs.l1 k5 a0 a1 a2 y184 x10_2 x11_2 (IntKind.u64.wrap (x12_5 + t187)) t172 t175 (IntKind.u64.wrap (x16_5 + 1)))) = some (r1, r2, r3) := by first | (rw [hy184]; with_reducible exact H) | (have H2_ := (Option.bind_some _ _).symm.trans H; rw [hy184]; with_reducible exact H2_) | (have H2_ := (Option.bind_some _ _).symm.trans H; with_reducible exact H2_) | with_reducible exact H | (rw [hy184]; exact H) | exact H
                     have Ny184 := Aside0.mk hy184
                     clear hy184
                     replace H := Option.bind_eq_some_iff.mp H
                     obtain ⟨t187, A330, H⟩ := H
                     replace H : (turnbuckleref12_Needs.l1 k5 a0 a1 a2 y184 x10_2 x11_2 (IntKind.u64.wrap (x12_5 + t187)) t172 t175 (IntKind.u64.wrap (x16_5 + 1))) = some (r1, r2, r3) := H
                     have A33 := Aside0.mk A330
                     clear A330
                     have H' := Aside0.mk H
                     clear H
                     go_wp2_with (first | ((with_reducible refine gate_callee (f := 25) rfl ?_); refine goesL_ (some 79) rfl rfl Try.func25 (by kernel_rfl) rfl #[.string a0, .int .u64 x12_5, .int .u64 16] rfl (by (try simp only [List.map_toArray, List.map_cons, List.map_nil]); first | done | rfl | (simp only [List.length_drop, List.length_take]; rfl)) ?_; (with_reducible refine (turnbuckleref12_has.calls a0 x12_5 16 true _ A23.out).mono ?_); rintro e w' ⟨rfl, ⟨nd, rfl⟩⟩; refine ⟨_, rfl, ?_⟩) | ((with_reducible refine gate_callee (f := 24) rfl ?_); refine goesL_ (some 87) rfl rfl Try.func24 (by kernel_rfl) rfl #[.string a0, .int .u64 (IntKind.u64.wrap (x12_5 + 8)), .int .i64 4] rfl (by (try simp only [List.map_toArray, List.map_cons, List.map_nil]); first | done | rfl | (simp only [List.length_drop, List.length_take]; rfl)) ?_; (with_reducible refine (turnbuckleref12_num.calls k5 a0 (IntKind.u64.wrap (x12_5 + 8)) 4 t179 _ A25.out).mono ?_); rintro e w' ⟨rfl, ⟨nd, rfl⟩⟩; refine ⟨_, rfl, ?_⟩) | ((with_reducible refine gate_callee (f := 26) rfl ?_); refine goesL_ (some 88) rfl rfl Try.func26 (by kernel_rfl) rfl #[.string a1, .int .u64 t179, .int .i64 32] rfl (by (try simp only [List.map_toArray, List.map_cons, List.map_nil]); first | done | rfl | (simp only [List.length_drop, List.length_take]; rfl)) ?_; (with_reducible refine (turnbuckleref01_Text.calls k5 a1 t179 32 t180 true _ A26.out).mono ?_); rintro e w' ⟨rfl, ⟨nd, rfl⟩⟩; refine ⟨_, rfl, ?_⟩; obtain ⟨Ao34, co34, eo34⟩ := Kd.R_slice HO_9.out; subst eo34) | ((with_reducible refine gate_callee (f := 24) rfl ?_); refine goesL_ (some 102) rfl rfl Try.func24 (by kernel_rfl) rfl #[.string a0, .int .u64 (IntKind.u64.wrap (x12_5 + 6)), .int .i64 2] rfl (by (try simp only [List.map_toArray, List.map_cons, List.map_nil]); first | done | rfl | (simp only [List.length_drop, List.length_take]; rfl)) ?_; (with_reducible refine (turnbuckleref12_num.calls k5 a0 (IntKind.u64.wrap (x12_5 + 6)) 2 t182 _ A30.out).mono ?_); rintro e w' ⟨rfl, ⟨nd, rfl⟩⟩; refine ⟨_, rfl, ?_⟩) | ((with_reducible refine gate_callee (f := 24) rfl ?_); refine goesL_ (some 110) rfl rfl Try.func24 (by kernel_rfl) rfl #[.string a0, .int .u64 (IntKind.u64.wrap (x12_5 + 4)), .int .i64 2] rfl (by (try simp only [List.map_toArray, List.map_cons, List.map_nil]); first | done | rfl | (simp only [List.length_drop, List.length_take]; rfl)) ?_; (with_reducible refine (turnbuckleref12_num.calls k5 a0 (IntKind.u64.wrap (x12_5 + 4)) 2 t183 _ A31.out).mono ?_); rintro e w' ⟨rfl, ⟨nd, rfl⟩⟩; refine ⟨_, rfl, ?_⟩) | ((with_reducible refine gate_builtin (b := .append) (xs := #[.tmp 98, .tmp 115]) rfl ?_); at_builtin; refine Kd.R_append k61 (w0 := w) w.heap.size rfl (.tmp 98) (.tmp 115) 58 61 (.agg #[(.int .i64 0), (.string ⟨#[]⟩), (.string ⟨#[]⟩), (.bool false)]) 48 rfl Try.underlying58 info61 rfl (by decide) (by omega) (.slice Ao34 x9_5.length co34) x9_5 (⟨wrap64 (Int.tmod t182 32768), t175, t180, ((Int.tmod (IntKind.u64.wrap (Int.tdiv t183 2)) 2) == 1)⟩ : S61) [.int .i64 (wrap64 (Int.tmod t182 32768)), .string t175, .string t180, .bool ((Int.tmod (IntKind.u64.wrap (Int.tdiv t183 2)) 2) == 1)] (fun _ => True) (fun _ => False) rfl rfl ?aP (fun _ hk => hk.elim) ?aF ?aO ?aB ?aS ?aL ?_; (case aP => exact k61_mkM _ _ _ (⟨wrap64 (Int.tmod t182 32768), t175, t180, ((Int.tmod (IntKind.u64.wrap (Int.tdiv t183 2)) 2) == 1)⟩ : S61)); (case aB => exact (by repeat (first | (with_reducible first | exact HB.out | apply below_alloc | apply pw_below_drewN | apply below_drew1) | exact HB.out))); (case aF => exact (fun _ _ => trivial)); (case aO => exact (by (with_reducible repeat (first | apply Kd.R_alloc | apply Kd.R_drewN | apply Kd.R_drew)); exact HO_9.out)); (case aS => exact (below_size (by repeat (first | (with_reducible first | exact HB.out | apply below_alloc | apply pw_below_drewN | apply below_drew1) | exact HB.out)))); (case aL => have := LMc32.out; omega); intro v185 w35 ho hb hg hat; rw [← Ny184.out] at ho; have n0_ := Aside0.mk (hb); have n1_ := Aside0.mk (ho); clear HB; clear HO_9; have HB := n0_; have HO186 := n1_; clear n0_ n1_; clear ho hb hg hat) | ((with_reducible refine gate_callee (f := 24) rfl ?_); refine goesL_ (some 121) rfl rfl Try.func24 (by kernel_rfl) rfl #[.string a0, .int .u64 (IntKind.u64.wrap (x12_5 + 12)), .int .i64 4] rfl (by (try simp only [List.map_toArray, List.map_cons, List.map_nil]); first | done | rfl | (simp only [List.length_drop, List.length_take]; rfl)) ?_; (with_reducible refine (turnbuckleref12_num.calls k5 a0 (IntKind.u64.wrap (x12_5 + 12)) 4 t187 _ A33.out).mono ?_); rintro e w' ⟨rfl, ⟨nd, rfl⟩⟩; refine ⟨_, rfl, ?_⟩))
                     go_roundg k5
                     case measure => have := HJ3.out; have := HK2.out; have := HJ8.out; have := HJ14.out; have := HK5.out; omega
                     case rel => exact ⟨(y184), (IntKind.u64.wrap (x12_5 + t187)), (IntKind.u64.wrap (x16_5 + 1)), (by first | rfl | (simp; done) | (simp [*]; done)), (by first | rfl | (simp; done) | (simp [*]; done)), H', ⟨by have := HJ3.out; have := HK2.out; have := HJ8.out; have := HJ14.out; have := HK5.out; omega⟩, ⟨by (with_reducible repeat (first | apply Kd.R_alloc | apply Kd.R_drewN | apply Kd.R_drew)); exact HO186.out⟩, ⟨by repeat (first | (with_reducible first | exact HB.out | apply below_alloc | apply pw_below_drewN | apply below_drew1) | exact HB.out)⟩⟩
                    ·rw [if_neg c32] at H
                     exact absurd H (by simp)
                  ·replace c27 := Bool.eq_false_iff.mpr c27
                   subst c27
                   have H1 : (some (([] : List (S61)), 25, x12_5)) = some (r1, r2, r3) := by rw [if_neg (show ¬ (false = true) by decide)] at H; exact H
                   clear H
                   have H := H1
                   clear H1
                   simp only [Option.some.injEq, Prod.mk.injEq] at H
                   obtain ⟨rfl, rfl, rfl⟩ := H
                   go_wp2_with (first | ((with_reducible refine gate_callee (f := 25) rfl ?_); refine goesL_ (some 79) rfl rfl Try.func25 (by kernel_rfl) rfl #[.string a0, .int .u64 x12_5, .int .u64 16] rfl (by (try simp only [List.map_toArray, List.map_cons, List.map_nil]); first | done | rfl | (simp only [List.length_drop, List.length_take]; rfl)) ?_; (with_reducible refine (turnbuckleref12_has.calls a0 x12_5 16 true _ A23.out).mono ?_); rintro e w' ⟨rfl, ⟨nd, rfl⟩⟩; refine ⟨_, rfl, ?_⟩) | ((with_reducible refine gate_callee (f := 24) rfl ?_); refine goesL_ (some 87) rfl rfl Try.func24 (by kernel_rfl) rfl #[.string a0, .int .u64 (IntKind.u64.wrap (x12_5 + 8)), .int .i64 4] rfl (by (try simp only [List.map_toArray, List.map_cons, List.map_nil]); first | done | rfl | (simp only [List.length_drop, List.length_take]; rfl)) ?_; (with_reducible refine (turnbuckleref12_num.calls k5 a0 (IntKind.u64.wrap (x12_5 + 8)) 4 t179 _ A25.out).mono ?_); rintro e w' ⟨rfl, ⟨nd, rfl⟩⟩; refine ⟨_, rfl, ?_⟩) | ((with_reducible refine gate_callee (f := 26) rfl ?_); refine goesL_ (some 88) rfl rfl Try.func26 (by kernel_rfl) rfl #[.string a1, .int .u64 t179, .int .i64 32] rfl (by (try simp only [List.map_toArray, List.map_cons, List.map_nil]); first | done | rfl | (simp only [List.length_drop, List.length_take]; rfl)) ?_; (with_reducible refine (turnbuckleref01_Text.calls k5 a1 t179 32 t180 false _ A26.out).mono ?_); rintro e w' ⟨rfl, ⟨nd, rfl⟩⟩; refine ⟨_, rfl, ?_⟩))
                   go_ret3
                   exact ⟨_, by first | rfl | (simp [errW_none, errW_some] <;> rfl) | (simp [*, errW_none, errW_some] <;> rfl), by first | exact Kd.R_nil _ _ _ _ _ | exact Kd.N_nil _ _ _ _ _ | exact Kd.V_nil _ _ _ _ _ | exact Kd.Q_nil _ _ _ _ _ | exact Kd.S_nil _ _ _ _ _, by repeat (first | (with_reducible first | exact HB.out | apply below_alloc | apply pw_below_drewN | apply below_drew1) | exact HB.out)⟩
                 ·replace c24 := Bool.eq_false_iff.mpr c24
                  subst c24
                  have H1 : (some (([] : List (S61)), 2, x12_5)) = some (r1, r2, r3) := by rw [if_neg (show ¬ (false = true) by decide)] at H; exact H
                  clear H
                  have H := H1
                  clear H1
                  simp only [Option.some.injEq, Prod.mk.injEq] at H
                  obtain ⟨rfl, rfl, rfl⟩ := H
                  go_wp2_with (first | ((with_reducible refine gate_callee (f := 25) rfl ?_); refine goesL_ (some 79) rfl rfl Try.func25 (by kernel_rfl) rfl #[.string a0, .int .u64 x12_5, .int .u64 16] rfl (by (try simp only [List.map_toArray, List.map_cons, List.map_nil]); first | done | rfl | (simp only [List.length_drop, List.length_take]; rfl)) ?_; (with_reducible refine (turnbuckleref12_has.calls a0 x12_5 16 false _ A23.out).mono ?_); rintro e w' ⟨rfl, ⟨nd, rfl⟩⟩; refine ⟨_, rfl, ?_⟩))
                  go_ret3
                  exact ⟨_, by first | rfl | (simp [errW_none, errW_some] <;> rfl) | (simp [*, errW_none, errW_some] <;> rfl), by first | exact Kd.R_nil _ _ _ _ _ | exact Kd.N_nil _ _ _ _ _ | exact Kd.V_nil _ _ _ _ _ | exact Kd.Q_nil _ _ _ _ _ | exact Kd.S_nil _ _ _ _ _, by repeat (first | (with_reducible first | exact HB.out | apply below_alloc | apply pw_below_drewN | apply below_drew1) | exact HB.out)⟩
                ·rw [if_neg c22] at H
                 have c22b0 : decide (x16_5 < t172) = false := decide_eq_false c22
                 clear c22
                 replace H := Option.bind_eq_some_iff.mp H
                 obtain ⟨t177, A360, H⟩ := H
                 replace H : (turnbuckleref12_Needs.l0 k5 a0 a1 a2 x9_5 (IntKind.u64.wrap (x10_2 + t177)) (wrap64 (x11_2 + 1))) = some (r1, r2, r3) := H
                 have A36 := Aside0.mk A360
                 clear A360
                 have H' := Aside0.mk H
                 clear H
                 go_wp2_with (first | ((with_reducible refine gate_callee (f := 24) rfl ?_); refine goesL_ (some 127) rfl rfl Try.func24 (by kernel_rfl) rfl #[.string a0, .int .u64 (IntKind.u64.wrap (x10_2 + 12)), .int .i64 4] rfl (by (try simp only [List.map_toArray, List.map_cons, List.map_nil]); first | done | rfl | (simp only [List.length_drop, List.length_take]; rfl)) ?_; (with_reducible refine (turnbuckleref12_num.calls k5 a0 (IntKind.u64.wrap (x10_2 + 12)) 4 t177 _ A36.out).mono ?_); rintro e w' ⟨rfl, ⟨nd, rfl⟩⟩; refine ⟨_, rfl, ?_⟩))
                 go_roundg k5
                 case measure => have := HJ3.out; have := HK2.out; have := HJ8.out; have := HJ14.out; have := HK5.out; omega
                 case rel => exact ⟨(x9_5), (IntKind.u64.wrap (x10_2 + t177)), (wrap64 (x11_2 + 1)), (by first | rfl | (simp; done) | (simp [*]; done)), (by first | rfl | (simp; done) | (simp [*]; done)), H', ⟨by have := HJ3.out; have := HK2.out; have := HJ8.out; have := HJ14.out; have := HK5.out; omega⟩, ⟨by (with_reducible repeat (first | apply Kd.R_alloc | apply Kd.R_drewN | apply Kd.R_drew)); exact HO_9.out⟩, ⟨by repeat (first | (with_reducible first | exact HB.out | apply below_alloc | apply pw_below_drewN | apply below_drew1) | exact HB.out)⟩⟩
             ·replace c21 := Bool.eq_false_iff.mpr c21
              subst c21
              have H1 : (some (([] : List (S61)), 25, x10_2)) = some (r1, r2, r3) := by rw [if_neg (show ¬ (false = true) by decide)] at H; exact H
              clear H
              have H := H1
              clear H1
              simp only [Option.some.injEq, Prod.mk.injEq] at H
              obtain ⟨rfl, rfl, rfl⟩ := H
              go_wp2_with (first | ((with_reducible refine gate_callee (f := 24) rfl ?_); refine goesL_ (some 65) rfl rfl Try.func24 (by kernel_rfl) rfl #[.string a0, .int .u64 (IntKind.u64.wrap (x10_2 + 4)), .int .i64 4] rfl (by (try simp only [List.map_toArray, List.map_cons, List.map_nil]); first | done | rfl | (simp only [List.length_drop, List.length_take]; rfl)) ?_; (with_reducible refine (turnbuckleref12_num.calls kj14 a0 (IntKind.u64.wrap (x10_2 + 4)) 4 t174 _ A19.out).mono ?_); rintro e w' ⟨rfl, ⟨nd, rfl⟩⟩; refine ⟨_, rfl, ?_⟩) | ((with_reducible refine gate_callee (f := 26) rfl ?_); refine goesL_ (some 66) rfl rfl Try.func26 (by kernel_rfl) rfl #[.string a1, .int .u64 t174, .int .i64 32] rfl (by (try simp only [List.map_toArray, List.map_cons, List.map_nil]); first | done | rfl | (simp only [List.length_drop, List.length_take]; rfl)) ?_; (with_reducible refine (turnbuckleref01_Text.calls kj14 a1 t174 32 t175 false _ A20.out).mono ?_); rintro e w' ⟨rfl, ⟨nd, rfl⟩⟩; refine ⟨_, rfl, ?_⟩))
              go_ret3
              exact ⟨_, by first | rfl | (simp [errW_none, errW_some] <;> rfl) | (simp [*, errW_none, errW_some] <;> rfl), by first | exact Kd.R_nil _ _ _ _ _ | exact Kd.N_nil _ _ _ _ _ | exact Kd.V_nil _ _ _ _ _ | exact Kd.Q_nil _ _ _ _ _ | exact Kd.S_nil _ _ _ _ _, by repeat (first | (with_reducible first | exact HB.out | apply below_alloc | apply pw_below_drewN | apply below_drew1) | exact HB.out)⟩
      ·rw [if_neg c7] at H
       have c7b0 : decide (x11_2 < a2) = false := decide_eq_false c7
       clear c7
       simp only [Option.some.injEq, Prod.mk.injEq] at H
       obtain ⟨rfl, rfl, rfl⟩ := H
       go_wp2
       go_ret3
       exact ⟨_, by first | rfl | (simp [errW_none, errW_some] <;> rfl) | (simp [*, errW_none, errW_some] <;> rfl), by (with_reducible repeat (first | apply Kd.R_alloc | apply Kd.R_drewN | apply Kd.R_drew)); exact HO_9.out, by repeat (first | (with_reducible first | exact HB.out | apply below_alloc | apply pw_below_drewN | apply below_drew1) | exact HB.out)⟩

end Go.Proofs.Ytoaliamemkjfhaa.PNd
