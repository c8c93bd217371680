-- Written by a program of this session (a changed copy of the print of the kit). Not trusted: Lean checks it.
import Derived.Test.YtoaliamemkjfhaaPAllx0
import Derived.Test.YtoaliamemkjfhaaPAllx8
namespace Go.Proofs.Ytoaliamemkjfhaa.PAll
open Go.RowKit Go.Proofs.YtoaliamemkjfhaaW.PrintWords Go.Proofs.YtoaliamemkjfhaaW.PrintLast Go.Proofs.YtoaliamemkjfhaaW.PrintMore
attribute [local go_sem] max2_int min2_int max_two min_two max_three min_three max_four min_four   -- for this text's walks alone
set_option linter.unusedVariables false
set_option linter.unusedSimpArgs false

/-! ### turnbuckleref12_Defs: function 12 -/
mutual
def turnbuckleref12_Defs.j0 : Nat → ByteArray → ByteArray → Int → Bool → Option ((List (S37)) × Int × Int)
 | 0, _, _, _, _ => none
 | k + 1, x0, x1, x2, x20 => if x20 = true then (some (([] : List (S37)), 6, 0)) else (turnbuckleref12_Defs.l0 k x0 x1 x2 ([] : List (S37)) 0 0)
def turnbuckleref12_Defs.l0 : Nat → ByteArray → ByteArray → Int → List (S37) → Int → Int → Option ((List (S37)) × Int × Int)
 | 0, _, _, _, _, _, _ => none
 | k + 1, x0, x1, x2, x9, x10, x11 => if x11 < x2 then ((turnbuckleref12_num.f k x0 (IntKind.u64.wrap (x10 + 12)) 4).bind fun t164 => ((turnbuckleref12_has.f x0 x10 20).bind fun t165 => (if t165 = true then ((turnbuckleref12_has.f x0 (IntKind.u64.wrap (x10 + t164)) 8).bind fun t166 => (turnbuckleref12_Defs.j2 k x0 x1 x2 x9 x10 x11 (IntKind.u64.wrap (x10 + t164)) (!t166))) else (turnbuckleref12_Defs.j2 k x0 x1 x2 x9 x10 x11 (IntKind.u64.wrap (x10 + t164)) true)))) else (some (x9, 0, 0))
def turnbuckleref12_Defs.j2 : Nat → ByteArray → ByteArray → Int → List (S37) → Int → Int → Int → Bool → Option ((List (S37)) × Int × Int)
 | 0, _, _, _, _, _, _, _, _ => none
 | k + 1, x0, x1, x2, x9, x10, x11, x12, x41 => if x41 = true then (some (([] : List (S37)), 2, x10)) else ((turnbuckleref12_num.f k x0 x10 2).bind fun t167 => (if t167 = 1 then ((turnbuckleref12_num.f k x0 (IntKind.u64.wrap (x10 + 6)) 2).bind fun t168 => (turnbuckleref12_Defs.j3 k x0 x1 x2 x9 x10 x11 x12 (t168 == 0))) else (turnbuckleref12_Defs.j3 k x0 x1 x2 x9 x10 x11 x12 true)))
def turnbuckleref12_Defs.j3 : Nat → ByteArray → ByteArray → Int → List (S37) → Int → Int → Int → Bool → Option ((List (S37)) × Int × Int)
 | 0, _, _, _, _, _, _, _, _ => none
 | k + 1, x0, x1, x2, x9, x10, x11, x12, x53 => if x53 = true then (some (([] : List (S37)), 4, x10)) else ((turnbuckleref12_num.f k x0 x12 4).bind fun t169 => ((turnbuckleref01_Text.f k x1 t169 32).bind fun bt170 => (if bt170.2 = true then ((turnbuckleref12_num.f k x0 (IntKind.u64.wrap (x10 + 4)) 2).bind fun t172 => (if x9.length < 5864062014805 then ((turnbuckleref12_num.f k x0 (IntKind.u64.wrap (x10 + 16)) 4).bind fun t176 => (turnbuckleref12_Defs.l0 k x0 x1 x2 (x9 ++ [(⟨wrap64 (Int.tmod t172 32768), bt170.1⟩ : S37)]) (IntKind.u64.wrap (x10 + t176)) (wrap64 (x11 + 1)))) else (none))) else (some (([] : List (S37)), 25, x10)))))
end
def turnbuckleref12_Defs.f (k : Nat) (a0 : ByteArray) (a1 : ByteArray) (a2 : Int) : Option ((List (S37)) × Int × Int) := if a2 < 0 then (turnbuckleref12_Defs.j0 k a0 a1 a2 true) else (turnbuckleref12_Defs.j0 k a0 a1 a2 (decide (a2 > 64)))
theorem turnbuckleref12_Defs.mono_l : ∀ k, (∀ y0 y1 y2 y3, LeO (turnbuckleref12_Defs.j0 k y0 y1 y2 y3) (turnbuckleref12_Defs.j0 (k + 1) y0 y1 y2 y3)) ∧ (∀ y0 y1 y2 y3 y4 y5, LeO (turnbuckleref12_Defs.l0 k y0 y1 y2 y3 y4 y5) (turnbuckleref12_Defs.l0 (k + 1) y0 y1 y2 y3 y4 y5)) ∧ (∀ y0 y1 y2 y3 y4 y5 y6 y7, LeO (turnbuckleref12_Defs.j2 k y0 y1 y2 y3 y4 y5 y6 y7) (turnbuckleref12_Defs.j2 (k + 1) y0 y1 y2 y3 y4 y5 y6 y7)) ∧ (∀ y0 y1 y2 y3 y4 y5 y6 y7, LeO (turnbuckleref12_Defs.j3 k y0 y1 y2 y3 y4 y5 y6 y7) (turnbuckleref12_Defs.j3 (k + 1) y0 y1 y2 y3 y4 y5 y6 y7))
 | 0 => ⟨fun _ _ _ _ r h => by simp [turnbuckleref12_Defs.j0] at h, fun _ _ _ _ _ _ r h => by simp [turnbuckleref12_Defs.l0] at h, fun _ _ _ _ _ _ _ _ r h => by simp [turnbuckleref12_Defs.j2] at h, fun _ _ _ _ _ _ _ _ r h => by simp [turnbuckleref12_Defs.j3] at h⟩
 | k + 1 => by
  obtain ⟨ih0, ih1, ih2, ih3⟩ := turnbuckleref12_Defs.mono_l k
  refine ⟨?_, ?_, ?_, ?_⟩
  ·intro y0 y1 y2 y3
   unfold turnbuckleref12_Defs.j0
   repeat' first
   | (with_reducible exact ih0 _ _ _ _)
   | (with_reducible exact ih1 _ _ _ _ _ _)
   | (with_reducible exact ih2 _ _ _ _ _ _ _ _)
   | (with_reducible exact ih3 _ _ _ _ _ _ _ _)
   | (with_reducible exact turnbuckleref01_Text.mono _ _ _ _)
   | (with_reducible exact turnbuckleref12_num.mono _ _ _ _)
   | (with_reducible exact LeO.refl _)
   | (with_reducible exact LeO.none _)
   | (with_reducible refine LeO.ite ?_ ?_)
   | (with_reducible refine LeO.bind ?_ (fun _ => ?_))
   | exact ih0 _ _ _ _
   | exact ih1 _ _ _ _ _ _
   | exact ih2 _ _ _ _ _ _ _ _
   | exact ih3 _ _ _ _ _ _ _ _
   | exact turnbuckleref01_Text.mono _ _ _ _
   | exact turnbuckleref12_num.mono _ _ _ _
   | exact LeO.none _
   | refine LeO.ite ?_ ?_
   | refine LeO.bind ?_ (fun _ => ?_)
  ·intro y0 y1 y2 y3 y4 y5
   unfold turnbuckleref12_Defs.l0
   repeat' first
   | (with_reducible exact ih0 _ _ _ _)
   | (with_reducible exact ih1 _ _ _ _ _ _)
   | (with_reducible exact ih2 _ _ _ _ _ _ _ _)
   | (with_reducible exact ih3 _ _ _ _ _ _ _ _)
   | (with_reducible exact turnbuckleref01_Text.mono _ _ _ _)
   | (with_reducible exact turnbuckleref12_num.mono _ _ _ _)
   | (with_reducible exact LeO.refl _)
   | (with_reducible exact LeO.none _)
   | (with_reducible refine LeO.ite ?_ ?_)
   | (with_reducible refine LeO.bind ?_ (fun _ => ?_))
   | exact ih0 _ _ _ _
   | exact ih1 _ _ _ _ _ _
   | exact ih2 _ _ _ _ _ _ _ _
   | exact ih3 _ _ _ _ _ _ _ _
   | exact turnbuckleref01_Text.mono _ _ _ _
   | exact turnbuckleref12_num.mono _ _ _ _
   | exact LeO.none _
   | refine LeO.ite ?_ ?_
   | refine LeO.bind ?_ (fun _ => ?_)
  ·intro y0 y1 y2 y3 y4 y5 y6 y7
   unfold turnbuckleref12_Defs.j2
   repeat' first
   | (with_reducible exact ih0 _ _ _ _)
   | (with_reducible exact ih1 _ _ _ _ _ _)
   | (with_reducible exact ih2 _ _ _ _ _ _ _ _)
   | (with_reducible exact ih3 _ _ _ _ _ _ _ _)
   | (with_reducible exact turnbuckleref01_Text.mono _ _ _ _)
   | (with_reducible exact turnbuckleref12_num.mono _ _ _ _)
   | (with_reducible exact LeO.refl _)
   | (with_reducible exact LeO.none _)
   | (with_reducible refine LeO.ite ?_ ?_)
   | (with_reducible refine LeO.bind ?_ (fun _ => ?_))
   | exact ih0 _ _ _ _
   | exact ih1 _ _ _ _ _ _
   | exact ih2 _ _ _ _ _ _ _ _
   | exact ih3 _ _ _ _ _ _ _ _
   | exact turnbuckleref01_Text.mono _ _ _ _
   | exact turnbuckleref12_num.mono _ _ _ _
   | exact LeO.none _
   | refine LeO.ite ?_ ?_
   | refine LeO.bind ?_ (fun _ => ?_)
  ·intro y0 y1 y2 y3 y4 y5 y6 y7
   unfold turnbuckleref12_Defs.j3
   repeat' first
   | (with_reducible exact ih0 _ _ _ _)
   | (with_reducible exact ih1 _ _ _ _ _ _)
   | (with_reducible exact ih2 _ _ _ _ _ _ _ _)
   | (with_reducible exact ih3 _ _ _ _ _ _ _ _)
   | (with_reducible exact turnbuckleref01_Text.mono _ _ _ _)
   | (with_reducible exact turnbuckleref12_num.mono _ _ _ _)
   | (with_reducible exact LeO.refl _)
   | (with_reducible exact LeO.none _)
   | (with_reducible refine LeO.ite ?_ ?_)
   | (with_reducible refine LeO.bind ?_ (fun _ => ?_))
   | exact ih0 _ _ _ _
   | exact ih1 _ _ _ _ _ _
   | exact ih2 _ _ _ _ _ _ _ _
   | exact ih3 _ _ _ _ _ _ _ _
   | exact turnbuckleref01_Text.mono _ _ _ _
   | exact turnbuckleref12_num.mono _ _ _ _
   | exact LeO.none _
   | refine LeO.ite ?_ ?_
   | refine LeO.bind ?_ (fun _ => ?_)
theorem turnbuckleref12_Defs.mono : ∀ a0 a1 a2 k, LeO (turnbuckleref12_Defs.f k a0 a1 a2) (turnbuckleref12_Defs.f (k + 1) a0 a1 a2) := by
 intro a0 a1 a2 k
 obtain ⟨ih0, ih1, ih2, ih3⟩ := turnbuckleref12_Defs.mono_l k
 unfold turnbuckleref12_Defs.f
 repeat' first
   | (with_reducible exact ih0 _ _ _ _)
   | (with_reducible exact ih1 _ _ _ _ _ _)
   | (with_reducible exact ih2 _ _ _ _ _ _ _ _)
   | (with_reducible exact ih3 _ _ _ _ _ _ _ _)
   | (with_reducible exact turnbuckleref01_Text.mono _ _ _ _)
   | (with_reducible exact turnbuckleref12_num.mono _ _ _ _)
   | (with_reducible exact LeO.refl _)
   | (with_reducible exact LeO.none _)
   | (with_reducible refine LeO.ite ?_ ?_)
   | (with_reducible refine LeO.bind ?_ (fun _ => ?_))
   | exact ih0 _ _ _ _
   | exact ih1 _ _ _ _ _ _
   | exact ih2 _ _ _ _ _ _ _ _
   | exact ih3 _ _ _ _ _ _ _ _
   | exact turnbuckleref01_Text.mono _ _ _ _
   | exact turnbuckleref12_num.mono _ _ _ _
   | exact LeO.none _
   | refine LeO.ite ?_ ?_
   | refine LeO.bind ?_ (fun _ => ?_)
set_option maxHeartbeats 8000000 in
set_option maxRecDepth 100000 in
theorem turnbuckleref12_Defs.calls (k : Nat) (a0 : ByteArray) (a1 : ByteArray) (a2 : Int) (r1 : List (S37)) (r2 : Int) (r3 : Int) (w : World) (h : turnbuckleref12_Defs.f k a0 a1 a2 = some (r1, r2, r3)) :
  Calls Try.prog 12 #[.string a0, .string a1, .int .i64 a2] w fun e w' => ∃ v0_ : Value, e = .returned (.tuple #[v0_, .int .i64 r2, .int .u64 r3]) ∧ Kd.R k37 37 w' w.heap.size (fun _ => True) v0_ r1 ∧ Below w.heap.size w w' := by
 have hu37 := Try.underlying37
 have HB := Aside0.mk (Below.refl w.heap.size w)
 have H : (if a2 < 0 then (turnbuckleref12_Defs.j0 k a0 a1 a2 true) else (turnbuckleref12_Defs.j0 k a0 a1 a2 (decide (a2 > 64)))) = some (r1, r2, r3) := h
 clear h
 have HC4 := Aside0.mk H
 clear H
 go_enter Try.func12, Try.ntmps12
 go_upto_region 1 with (fail)
 go_cut [20] (fun v20 wc => ∃ (kq : Nat) (x20_3 : Bool), v20 = .bool x20_3 ∧ Aside0 (turnbuckleref12_Defs.j0 kq a0 a1 a2 x20_3 = some (r1, r2, r3)) ∧ Aside0 (kq ≤ k) ∧ Aside0 (Below w.heap.size w wc))
 case first =>
  have H := HC4.out
  clear HC4
  by_cases c5 : a2 < 0
  ·rw [if_pos c5] at H
   have c5b0 : decide (a2 < 0) = true := decide_eq_true c5
   clear c5
   (first | rw [c5b0] | (simp only [i64_w, i32_w]; rw [c5b0]) | skip)
   have H' := Aside0.mk H
   clear H
   go_wp2
   (try subst hji4)
   (try subst hji6)
   (try subst hji10)
   go_meet
   case rel => exact ⟨_, (true), (by first | rfl | (simp; done) | (simp [*]; done)), H', ⟨by first | omega | exact Nat.le_refl _⟩, ⟨by repeat (first | (with_reducible first | exact HB.out | apply below_alloc | apply pw_below_drewN | apply below_drew1) | exact HB.out)⟩⟩
  ·rw [if_neg c5] at H
   have c5b0 : decide (a2 < 0) = false := decide_eq_false c5
   clear c5
   (first | rw [c5b0] | (simp only [i64_w, i32_w]; rw [c5b0]) | skip)
   have H' := Aside0.mk H
   clear H
   go_wp2
   (try subst hji4)
   (try subst hji6)
   (try subst hji10)
   go_meet
   case rel => exact ⟨_, (decide (a2 > 64)), (by first | rfl | (simp; done) | (simp [*]; done)), H', ⟨by first | omega | exact Nat.le_refl _⟩, ⟨by repeat (first | (with_reducible first | exact HB.out | apply below_alloc | apply pw_below_drewN | apply below_drew1) | exact HB.out)⟩⟩
 case rest =>
  clear HC4
  try clear c1
  try clear p2
  try clear c5
  try clear c5b0
  obtain ⟨kq, x20_3, rfl, HA, HJ3, HB⟩ := hcut
  cases kq with
  | zero => exact absurd HA.out (by simp [turnbuckleref12_Defs.j0])
  | succ kj3 =>
   have H := HA.out
   clear HA
   simp only [turnbuckleref12_Defs.j0] at H
   by_cases c6 : x20_3 = true
   ·subst c6
    have H1 : (some (([] : List (S37)), 6, 0)) = some (r1, r2, r3) := by rw [if_pos rfl] at H; exact H
    clear H
    have H := H1
    clear H1
    simp only [Option.some.injEq, Prod.mk.injEq] at H
    obtain ⟨rfl, rfl, rfl⟩ := H
    go_wp2
    go_ret3
    exact ⟨_, by first | rfl | (simp [errW_none, errW_some] <;> rfl) | (simp [*, errW_none, errW_some] <;> rfl), by first | exact Kd.R_nil _ _ _ _ _ | exact Kd.N_nil _ _ _ _ _ | exact Kd.V_nil _ _ _ _ _ | exact Kd.Q_nil _ _ _ _ _ | exact Kd.S_nil _ _ _ _ _, by repeat (first | (with_reducible first | exact HB.out | apply below_alloc | apply pw_below_drewN | apply below_drew1) | exact HB.out)⟩
   ·replace c6 := Bool.eq_false_iff.mpr c6
    subst c6
    have H1 : (turnbuckleref12_Defs.l0 kj3 a0 a1 a2 ([] : List (S37)) 0 0) = some (r1, r2, r3) := by rw [if_neg (show ¬ (false = true) by decide)] at H; exact H
    clear H
    have H := H1
    clear H1
    have H' := Aside0.mk H
    clear H
    go_wp2
    go_loopg [9, 10, 11] kj3 (fun kq v9 v10 v11 w' => ∃ (x9_2 : List (S37)) (x10_2 : Int) (x11_2 : Int), v10 = .int .u64 x10_2 ∧ v11 = .int .i64 x11_2 ∧ Aside0 (turnbuckleref12_Defs.l0 kq a0 a1 a2 x9_2 x10_2 x11_2 = some (r1, r2, r3)) ∧ Aside0 (kq ≤ kj3) ∧ Aside0 (Kd.R k37 37 w' w.heap.size (fun _ => True) v9 x9_2) ∧ Aside0 (Below w.heap.size w w'))
    case atStart => exact ⟨(([] : List (S37))), (0), (0), (by first | rfl | (simp; done) | (simp [*]; done)), (by first | rfl | (simp; done) | (simp [*]; done)), H', ⟨Nat.le_refl _⟩, ⟨by first | exact Kd.R_nil _ _ _ _ _ | exact Kd.N_nil _ _ _ _ _ | exact Kd.V_nil _ _ _ _ _ | exact Kd.Q_nil _ _ _ _ _ | exact Kd.S_nil _ _ _ _ _⟩, ⟨by repeat (first | (with_reducible first | exact HB.out | apply below_alloc | apply pw_below_drewN | apply below_drew1) | exact HB.out)⟩⟩
    case round =>
     clear H'
     try clear c1
     try clear p2
     try clear c5
     try clear c5b0
     try clear c6
     try clear p2
     obtain ⟨x9_2, x10_2, x11_2, rfl, rfl, HA, HK2, HO_9, HB⟩ := hrel
     cases gk with
     | zero => exact absurd HA.out (by simp [turnbuckleref12_Defs.l0])
     | succ k2 =>
      have H := HA.out
      clear HA
      simp only [turnbuckleref12_Defs.l0] at H
      by_cases c7 : x11_2 < a2
      ·rw [if_pos c7] at H
       have c7b0 : decide (x11_2 < a2) = true := decide_eq_true c7
       clear c7
       replace H := Option.bind_eq_some_iff.mp H
       obtain ⟨t164, A80, H⟩ := H
       replace H : ((turnbuckleref12_has.f a0 x10_2 20).bind fun t165 => (if t165 = true then ((turnbuckleref12_has.f a0 (IntKind.u64.wrap (x10_2 + t164)) 8).bind fun t166 => (turnbuckleref12_Defs.j2 k2 a0 a1 a2 x9_2 x10_2 x11_2 (IntKind.u64.wrap (x10_2 + t164)) (!t166))) else (turnbuckleref12_Defs.j2 k2 a0 a1 a2 x9_2 x10_2 x11_2 (IntKind.u64.wrap (x10_2 + t164)) true))) = some (r1, r2, r3) := H
       have A8 := Aside0.mk A80
       clear A80
       have HC9 := Aside0.mk H
       clear H
       go_upto_region 9 with (first | ((with_reducible refine gate_callee (f := 24) rfl ?_); refine goesL_ (some 30) rfl rfl Try.func24 (by kernel_rfl) rfl #[.string a0, .int .u64 (IntKind.u64.wrap (x10_2 + 12)), .int .i64 4] rfl (by (try simp only [List.map_toArray, List.map_cons, List.map_nil]); first | done | rfl | (simp only [List.length_drop, List.length_take]; rfl)) ?_; (with_reducible refine (turnbuckleref12_num.calls k2 a0 (IntKind.u64.wrap (x10_2 + 12)) 4 t164 _ A8.out).mono ?_); rintro e w' ⟨rfl, ⟨nd, rfl⟩⟩; refine ⟨_, rfl, ?_⟩))
       (try simp only [Act.put, List.setIfInBounds_toArray, List.set_cons_zero, List.set_cons_succ])
       go_cut [41] (fun v41 wc => ∃ (kq : Nat) (x41_8 : Bool), v41 = .bool x41_8 ∧ Aside0 (turnbuckleref12_Defs.j2 kq a0 a1 a2 x9_2 x10_2 x11_2 (IntKind.u64.wrap (x10_2 + t164)) x41_8 = some (r1, r2, r3)) ∧ Aside0 (kq ≤ k2) ∧ Aside0 (Kd.R k37 37 wc w.heap.size (fun _ => True) u9 x9_2) ∧ Aside0 (Below w.heap.size w wc))
       case first =>
        have H := HC9.out
        clear HC9
        replace H := Option.bind_eq_some_iff.mp H
        obtain ⟨t165, A100, H⟩ := H
        replace H : (if t165 = true then ((turnbuckleref12_has.f a0 (IntKind.u64.wrap (x10_2 + t164)) 8).bind fun t166 => (turnbuckleref12_Defs.j2 k2 a0 a1 a2 x9_2 x10_2 x11_2 (IntKind.u64.wrap (x10_2 + t164)) (!t166))) else (turnbuckleref12_Defs.j2 k2 a0 a1 a2 x9_2 x10_2 x11_2 (IntKind.u64.wrap (x10_2 + t164)) true)) = some (r1, r2, r3) := H
        have A10 := Aside0.mk A100
        clear A100
        by_cases c11 : t165 = true
        ·subst c11
         have H1 : ((turnbuckleref12_has.f a0 (IntKind.u64.wrap (x10_2 + t164)) 8).bind fun t166 => (turnbuckleref12_Defs.j2 k2 a0 a1 a2 x9_2 x10_2 x11_2 (IntKind.u64.wrap (x10_2 + t164)) (!t166))) = some (r1, r2, r3) := by rw [if_pos rfl] at H; exact H
         clear H
         have H := H1
         clear H1
         replace H := Option.bind_eq_some_iff.mp H
         obtain ⟨t166, A120, H⟩ := H
         replace H : (turnbuckleref12_Defs.j2 k2 a0 a1 a2 x9_2 x10_2 x11_2 (IntKind.u64.wrap (x10_2 + t164)) (!t166)) = some (r1, r2, r3) := H
         have A12 := Aside0.mk A120
         clear A120
         have H' := Aside0.mk H
         clear H
         go_wp2_with (first | ((with_reducible refine gate_callee (f := 25) rfl ?_); refine goesL_ (some 34) rfl rfl Try.func25 (by kernel_rfl) rfl #[.string a0, .int .u64 x10_2, .int .u64 20] rfl (by (try simp only [List.map_toArray, List.map_cons, List.map_nil]); first | done | rfl | (simp only [List.length_drop, List.length_take]; rfl)) ?_; (with_reducible refine (turnbuckleref12_has.calls a0 x10_2 20 true _ A10.out).mono ?_); rintro e w' ⟨rfl, ⟨nd, rfl⟩⟩; refine ⟨_, rfl, ?_⟩) | (go_at_call 25; (with_reducible refine (turnbuckleref12_has.calls a0 (IntKind.u64.wrap (x10_2 + t164)) 8 t166 _ A12.out).mono ?_); rintro e w' ⟨rfl, ⟨nd, rfl⟩⟩))
         (try subst hji4)
         (try subst hji6)
         (try subst hji10)
         go_meet
         case rel => exact ⟨_, (!t166), (by first | rfl | (simp; done) | (simp [*]; done)), H', ⟨by have := HJ3.out; have := HK2.out; first | omega | exact Nat.le_refl _⟩, ⟨by (with_reducible repeat (first | apply Kd.R_alloc | apply Kd.R_drewN | apply Kd.R_drew)); exact HO_9.out⟩, ⟨by repeat (first | (with_reducible first | exact HB.out | apply below_alloc | apply pw_below_drewN | apply below_drew1) | exact HB.out)⟩⟩
        ·replace c11 := Bool.eq_false_iff.mpr c11
         subst c11
         have H1 : (turnbuckleref12_Defs.j2 k2 a0 a1 a2 x9_2 x10_2 x11_2 (IntKind.u64.wrap (x10_2 + t164)) true) = some (r1, r2, r3) := by rw [if_neg (show ¬ (false = true) by decide)] at H; exact H
         clear H
         have H := H1
         clear H1
         have H' := Aside0.mk H
         clear H
         go_wp2_with (first | ((with_reducible refine gate_callee (f := 25) rfl ?_); refine goesL_ (some 34) rfl rfl Try.func25 (by kernel_rfl) rfl #[.string a0, .int .u64 x10_2, .int .u64 20] rfl (by (try simp only [List.map_toArray, List.map_cons, List.map_nil]); first | done | rfl | (simp only [List.length_drop, List.length_take]; rfl)) ?_; (with_reducible refine (turnbuckleref12_has.calls a0 x10_2 20 false _ A10.out).mono ?_); rintro e w' ⟨rfl, ⟨nd, rfl⟩⟩; refine ⟨_, rfl, ?_⟩))
         (try subst hji4)
         (try subst hji6)
         (try subst hji10)
         go_meet
         case rel => exact ⟨_, (true), (by first | rfl | (simp; done) | (simp [*]; done)), H', ⟨by have := HJ3.out; have := HK2.out; first | omega | exact Nat.le_refl _⟩, ⟨by (with_reducible repeat (first | apply Kd.R_alloc | apply Kd.R_drewN | apply Kd.R_drew)); exact HO_9.out⟩, ⟨by repeat (first | (with_reducible first | exact HB.out | apply below_alloc | apply pw_below_drewN | apply below_drew1) | exact HB.out)⟩⟩
       case rest =>
        clear HC9
        try clear c1
        try clear c2
        try clear p2
        try clear c5
        try clear c5b0
        try clear c6
        try clear c7
        try clear c7b0
        try clear c11
        try clear c12
        try clear p2
        obtain ⟨kq, x41_8, rfl, HA, HJ8, HO_9, HB⟩ := hcut
        cases kq with
        | zero => exact absurd HA.out (by simp [turnbuckleref12_Defs.j2])
        | succ kj8 =>
         have H := HA.out
         clear HA
         simp only [turnbuckleref12_Defs.j2] at H
         by_cases c13 : x41_8 = true
         ·subst c13
          have H1 : (some (([] : List (S37)), 2, x10_2)) = some (r1, r2, r3) := by rw [if_pos rfl] at H; exact H
          clear H
          have H := H1
          clear H1
          simp only [Option.some.injEq, Prod.mk.injEq] at H
          obtain ⟨rfl, rfl, rfl⟩ := H
          go_wp2
          go_ret3
          exact ⟨_, by first | rfl | (simp [errW_none, errW_some] <;> rfl) | (simp [*, errW_none, errW_some] <;> rfl), by first | exact Kd.R_nil _ _ _ _ _ | exact Kd.N_nil _ _ _ _ _ | exact Kd.V_nil _ _ _ _ _ | exact Kd.Q_nil _ _ _ _ _ | exact Kd.S_nil _ _ _ _ _, by repeat (first | (with_reducible first | exact HB.out | apply below_alloc | apply pw_below_drewN | apply below_drew1) | exact HB.out)⟩
         ·replace c13 := Bool.eq_false_iff.mpr c13
          subst c13
          have H1 : ((turnbuckleref12_num.f kj8 a0 x10_2 2).bind fun t167 => (if t167 = 1 then ((turnbuckleref12_num.f kj8 a0 (IntKind.u64.wrap (x10_2 + 6)) 2).bind fun t168 => (turnbuckleref12_Defs.j3 kj8 a0 a1 a2 x9_2 x10_2 x11_2 (IntKind.u64.wrap (x10_2 + t164)) (t168 == 0))) else (turnbuckleref12_Defs.j3 kj8 a0 a1 a2 x9_2 x10_2 x11_2 (IntKind.u64.wrap (x10_2 + t164)) true))) = some (r1, r2, r3) := by rw [if_neg (show ¬ (false = true) by decide)] at H; exact H
          clear H
          have H := H1
          clear H1
          have HC14 := Aside0.mk H
          clear H
          go_upto_region 11 with (fail)
          go_cut [53] (fun v53 wc => ∃ (kq : Nat) (x53_13 : Bool), v53 = .bool x53_13 ∧ Aside0 (turnbuckleref12_Defs.j3 kq a0 a1 a2 x9_2 x10_2 x11_2 (IntKind.u64.wrap (x10_2 + t164)) x53_13 = some (r1, r2, r3)) ∧ Aside0 (kq ≤ kj8) ∧ Aside0 (Kd.R k37 37 wc w.heap.size (fun _ => True) u9 x9_2) ∧ Aside0 (Below w.heap.size w wc))
          case first =>
           have H := HC14.out
           clear HC14
           replace H := Option.bind_eq_some_iff.mp H
           obtain ⟨t167, A150, H⟩ := H
           replace H : (if t167 = 1 then ((turnbuckleref12_num.f kj8 a0 (IntKind.u64.wrap (x10_2 + 6)) 2).bind fun t168 => (turnbuckleref12_Defs.j3 kj8 a0 a1 a2 x9_2 x10_2 x11_2 (IntKind.u64.wrap (x10_2 + t164)) (t168 == 0))) else (turnbuckleref12_Defs.j3 kj8 a0 a1 a2 x9_2 x10_2 x11_2 (IntKind.u64.wrap (x10_2 + t164)) true)) = some (r1, r2, r3) := H
           have A15 := Aside0.mk A150
           clear A150
           by_cases c16 : t167 = 1
           ·rw [if_pos c16] at H
            have c16b0 : (t167 == 1) = true := beq_iff_eq.mpr c16
            have c16b1 : (t167 != 1) = false := bne_eq_false_iff_eq.mpr c16
            clear c16
            (first | rw [c16b0] | (simp only [i64_w, i32_w]; rw [c16b0]) | skip)
            replace H := Option.bind_eq_some_iff.mp H
            obtain ⟨t168, A170, H⟩ := H
            replace H : (turnbuckleref12_Defs.j3 kj8 a0 a1 a2 x9_2 x10_2 x11_2 (IntKind.u64.wrap (x10_2 + t164)) (t168 == 0)) = some (r1, r2, r3) := H
            have A17 := Aside0.mk A170
            clear A170
            have H' := Aside0.mk H
            clear H
            go_wp2_with (first | ((with_reducible refine gate_callee (f := 24) rfl ?_); refine goesL_ (some 45) rfl rfl Try.func24 (by kernel_rfl) rfl #[.string a0, .int .u64 x10_2, .int .i64 2] rfl (by (try simp only [List.map_toArray, List.map_cons, List.map_nil]); first | done | rfl | (simp only [List.length_drop, List.length_take]; rfl)) ?_; (with_reducible refine (turnbuckleref12_num.calls kj8 a0 x10_2 2 t167 _ A15.out).mono ?_); rintro e w' ⟨rfl, ⟨nd, rfl⟩⟩; refine ⟨_, rfl, ?_⟩) | (go_at_call 24; (with_reducible refine (turnbuckleref12_num.calls kj8 a0 (IntKind.u64.wrap (x10_2 + 6)) 2 t168 _ A17.out).mono ?_); rintro e w' ⟨rfl, ⟨nd, rfl⟩⟩))
            (try subst hji4)
            (try subst hji6)
            (try subst hji10)
            go_meet
            case rel => exact ⟨_, ((t168 == 0)), (by first | rfl | (simp; done) | (simp [*]; done)), H', ⟨by have := HJ3.out; have := HK2.out; have := HJ8.out; first | omega | exact Nat.le_refl _⟩, ⟨by (with_reducible repeat (first | apply Kd.R_alloc | apply Kd.R_drewN | apply Kd.R_drew)); exact HO_9.out⟩, ⟨by repeat (first | (with_reducible first | exact HB.out | apply below_alloc | apply pw_below_drewN | apply below_drew1) | exact HB.out)⟩⟩
           ·rw [if_neg c16] at H
            have c16b0 : (t167 == 1) = false := beq_eq_false_iff_ne.mpr c16
            have c16b1 : (t167 != 1) = true := bne_iff_ne.mpr c16
            (first | rw [c16b0] | (simp only [i64_w, i32_w]; rw [c16b0]) | skip)
            have H' := Aside0.mk H
            clear H
            go_wp2_with (first | ((with_reducible refine gate_callee (f := 24) rfl ?_); refine goesL_ (some 45) rfl rfl Try.func24 (by kernel_rfl) rfl #[.string a0, .int .u64 x10_2, .int .i64 2] rfl (by (try simp only [List.map_toArray, List.map_cons, List.map_nil]); first | done | rfl | (simp only [List.length_drop, List.length_take]; rfl)) ?_; (with_reducible refine (turnbuckleref12_num.calls kj8 a0 x10_2 2 t167 _ A15.out).mono ?_); rintro e w' ⟨rfl, ⟨nd, rfl⟩⟩; refine ⟨_, rfl, ?_⟩))
            (try subst hji4)
            (try subst hji6)
            (try subst hji10)
            go_meet
            case rel => exact ⟨_, (true), (by first | rfl | (simp; done) | (simp [*]; done)), H', ⟨by have := HJ3.out; have := HK2.out; have := HJ8.out; first | omega | exact Nat.le_refl _⟩, ⟨by (with_reducible repeat (first | apply Kd.R_alloc | apply Kd.R_drewN | apply Kd.R_drew)); exact HO_9.out⟩, ⟨by repeat (first | (with_reducible first | exact HB.out | apply below_alloc | apply pw_below_drewN | apply below_drew1) | exact HB.out)⟩⟩
          case rest =>
           clear HC14
           try clear c1
           try clear c2
           try clear p2
           try clear c5
           try clear c5b0
           try clear c6
           try clear c7
           try clear c7b0
           try clear c11
           try clear c12
           try clear c13
           try clear c16
           try clear c16b0
           try clear c16b1
           try clear p2
           obtain ⟨kq, x53_13, rfl, HA, HJ13, HO_9, HB⟩ := hcut
           cases kq with
           | zero => exact absurd HA.out (by simp [turnbuckleref12_Defs.j3])
           | succ kj13 =>
            have H := HA.out
            clear HA
            simp only [turnbuckleref12_Defs.j3] at H
            by_cases c18 : x53_13 = true
            ·subst c18
             have H1 : (some (([] : List (S37)), 4, x10_2)) = some (r1, r2, r3) := by rw [if_pos rfl] at H; exact H
             clear H
             have H := H1
             clear H1
             simp only [Option.some.injEq, Prod.mk.injEq] at H
             obtain ⟨rfl, rfl, rfl⟩ := H
             go_wp2
             go_ret3
             exact ⟨_, by first | rfl | (simp [errW_none, errW_some] <;> rfl) | (simp [*, errW_none, errW_some] <;> rfl), by first | exact Kd.R_nil _ _ _ _ _ | exact Kd.N_nil _ _ _ _ _ | exact Kd.V_nil _ _ _ _ _ | exact Kd.Q_nil _ _ _ _ _ | exact Kd.S_nil _ _ _ _ _, by repeat (first | (with_reducible first | exact HB.out | apply below_alloc | apply pw_below_drewN | apply below_drew1) | exact HB.out)⟩
            ·replace c18 := Bool.eq_false_iff.mpr c18
             subst c18
             have H1 : ((turnbuckleref12_num.f kj13 a0 (IntKind.u64.wrap (x10_2 + t164)) 4).bind fun t169 => ((turnbuckleref01_Text.f kj13 a1 t169 32).bind fun bt170 => (if bt170.2 = true then ((turnbuckleref12_num.f kj13 a0 (IntKind.u64.wrap (x10_2 + 4)) 2).bind fun t172 => (if x9_2.length < 5864062014805 then ((turnbuckleref12_num.f kj13 a0 (IntKind.u64.wrap (x10_2 + 16)) 4).bind fun t176 => (turnbuckleref12_Defs.l0 kj13 a0 a1 a2 (x9_2 ++ [(⟨wrap64 (Int.tmod t172 32768), bt170.1⟩ : S37)]) (IntKind.u64.wrap (x10_2 + t176)) (wrap64 (x11_2 + 1)))) else (none))) else (some (([] : List (S37)), 25, x10_2))))) = some (r1, r2, r3) := by rw [if_neg (show ¬ (false = true) by decide)] at H; exact H
             clear H
             have H := H1
             clear H1
             replace H := Option.bind_eq_some_iff.mp H
             obtain ⟨t169, A190, H⟩ := H
             replace H : ((turnbuckleref01_Text.f kj13 a1 t169 32).bind fun bt170 => (if bt170.2 = true then ((turnbuckleref12_num.f kj13 a0 (IntKind.u64.wrap (x10_2 + 4)) 2).bind fun t172 => (if x9_2.length < 5864062014805 then ((turnbuckleref12_num.f kj13 a0 (IntKind.u64.wrap (x10_2 + 16)) 4).bind fun t176 => (turnbuckleref12_Defs.l0 kj13 a0 a1 a2 (x9_2 ++ [(⟨wrap64 (Int.tmod t172 32768), bt170.1⟩ : S37)]) (IntKind.u64.wrap (x10_2 + t176)) (wrap64 (x11_2 + 1)))) else (none))) else (some (([] : List (S37)), 25, x10_2)))) = some (r1, r2, r3) := H
             have A19 := Aside0.mk A190
             clear A190
             replace H := Option.bind_eq_some_iff.mp H
             obtain ⟨⟨t170, t171⟩, A200, H⟩ := H
             replace H : (if t171 = true then ((turnbuckleref12_num.f kj13 a0 (IntKind.u64.wrap (x10_2 + 4)) 2).bind fun t172 => (if x9_2.length < 5864062014805 then ((turnbuckleref12_num.f kj13 a0 (IntKind.u64.wrap (x10_2 + 16)) 4).bind fun t176 => (turnbuckleref12_Defs.l0 kj13 a0 a1 a2 (x9_2 ++ [(⟨wrap64 (Int.tmod t172 32768), t170⟩ : S37)]) (IntKind.u64.wrap (x10_2 + t176)) (wrap64 (x11_2 + 1)))) else (none))) else (some (([] : List (S37)), 25, x10_2))) = some (r1, r2, r3) := H
             have A20 := Aside0.mk A200
             clear A200
             by_cases c21 : t171 = true
             ·subst c21
              have H1 : ((turnbuckleref12_num.f kj13 a0 (IntKind.u64.wrap (x10_2 + 4)) 2).bind fun t172 => (if x9_2.length < 5864062014805 then ((turnbuckleref12_num.f kj13 a0 (IntKind.u64.wrap (x10_2 + 16)) 4).bind fun t176 => (turnbuckleref12_Defs.l0 kj13 a0 a1 a2 (x9_2 ++ [(⟨wrap64 (Int.tmod t172 32768), t170⟩ : S37)]) (IntKind.u64.wrap (x10_2 + t176)) (wrap64 (x11_2 + 1)))) else (none))) = some (r1, r2, r3) := by rw [if_pos rfl] at H; exact H
              clear H
              have H := H1
              clear H1
              replace H := Option.bind_eq_some_iff.mp H
              obtain ⟨t172, A220, H⟩ := H
              replace H : (if x9_2.length < 5864062014805 then ((turnbuckleref12_num.f kj13 a0 (IntKind.u64.wrap (x10_2 + 16)) 4).bind fun t176 => (turnbuckleref12_Defs.l0 kj13 a0 a1 a2 (x9_2 ++ [(⟨wrap64 (Int.tmod t172 32768), t170⟩ : S37)]) (IntKind.u64.wrap (x10_2 + t176)) (wrap64 (x11_2 + 1)))) else (none)) = some (r1, r2, r3) := H
              have A22 := Aside0.mk A220
              clear A220
              by_cases c23 : x9_2.length < 5864062014805
              ·rw [if_pos c23] at H
               have LMc23 := Aside0.mk c23
               clear c23
               obtain ⟨y173, hy173⟩ : ∃ y_ : List (S37), y_ = (x9_2 ++ [(⟨wrap64 (Int.tmod t172 32768), t170⟩ : S37)]) := ⟨_, rfl⟩
               replace H : ((turnbuckleref12_num.f kj13 a0 (IntKind.u64.wrap (x10_2 + 16)) 4).bind fun t176 => (turnbuckleref12_Defs.l0 kj13 a0 a1 a2 y173 (IntKind.u64.wrap (x10_2 + t176)) (wrap64 (x11_2 + 1)))) = some (r1, r2, r3) := by first | (rw [hy173]; with_reducible exact H) | (have H2_ := (Option.bind_some _ _).symm.trans H; rw [hy173]; with_reducible exact H2_) | (have H2_ := (Option.bind_some _ _).symm.trans H; with_reducible exact H2_) | with_reducible exact H | (rw [hy173]; exact H) | exact H
               have Ny173 := Aside0.mk hy173
               clear hy173
               replace H := Option.bind_eq_some_iff.mp H
               obtain ⟨t176, A240, H⟩ := H
               replace H : (turnbuckleref12_Defs.l0 kj13 a0 a1 a2 y173 (IntKind.u64.wrap (x10_2 + t176)) (wrap64 (x11_2 + 1))) = some (r1, r2, r3) := H
               have A24 := Aside0.mk A240
               clear A240
               have H' := Aside0.mk H
               clear H
               go_wp2_with (first | ((with_reducible refine gate_callee (f := 24) rfl ?_); refine goesL_ (some 59) rfl rfl Try.func24 (by kernel_rfl) rfl #[.string a0, .int .u64 (IntKind.u64.wrap (x10_2 + t164)), .int .i64 4] rfl (by (try simp only [List.map_toArray, List.map_cons, List.map_nil]); first | done | rfl | (simp only [List.length_drop, List.length_take]; rfl)) ?_; (with_reducible refine (turnbuckleref12_num.calls kj13 a0 (IntKind.u64.wrap (x10_2 + t164)) 4 t169 _ A19.out).mono ?_); rintro e w' ⟨rfl, ⟨nd, rfl⟩⟩; refine ⟨_, rfl, ?_⟩) | ((with_reducible refine gate_callee (f := 26) rfl ?_); refine goesL_ (some 60) rfl rfl Try.func26 (by kernel_rfl) rfl #[.string a1, .int .u64 t169, .int .i64 32] rfl (by (try simp only [List.map_toArray, List.map_cons, List.map_nil]); first | done | rfl | (simp only [List.length_drop, List.length_take]; rfl)) ?_; (with_reducible refine (turnbuckleref01_Text.calls kj13 a1 t169 32 t170 true _ A20.out).mono ?_); rintro e w' ⟨rfl, ⟨nd, rfl⟩⟩; refine ⟨_, rfl, ?_⟩) | ((with_reducible refine gate_callee (f := 24) rfl ?_); refine goesL_ (some 70) rfl rfl Try.func24 (by kernel_rfl) rfl #[.string a0, .int .u64 (IntKind.u64.wrap (x10_2 + 4)), .int .i64 2] rfl (by (try simp only [List.map_toArray, List.map_cons, List.map_nil]); first | done | rfl | (simp only [List.length_drop, List.length_take]; rfl)) ?_; (with_reducible refine (turnbuckleref12_num.calls kj13 a0 (IntKind.u64.wrap (x10_2 + 4)) 2 t172 _ A22.out).mono ?_); rintro e w' ⟨rfl, ⟨nd, rfl⟩⟩; refine ⟨_, rfl, ?_⟩) | ((with_reducible refine gate_builtin (b := .append) (xs := #[.tmp 66, .tmp 75]) rfl ?_); at_builtin; refine Kd.R_append k37 (w0 := w) w.heap.size rfl (.tmp 66) (.tmp 75) 33 37 (.agg #[(.int .i64 0), (.string ⟨#[]⟩)]) 24 rfl Try.underlying33 info37 rfl (by decide) (by omega) u9 x9_2 (⟨wrap64 (Int.tmod t172 32768), t170⟩ : S37) [.int .i64 (wrap64 (Int.tmod t172 32768)), .string t170] (fun _ => True) (fun _ => False) rfl rfl ?aP (fun _ hk => hk.elim) ?aF ?aO ?aB ?aS ?aL ?_; (case aP => exact k37_mkM _ _ _ (⟨wrap64 (Int.tmod t172 32768), t170⟩ : S37)); (case aB => exact (by repeat (first | (with_reducible first | exact HB.out | apply below_alloc | apply pw_below_drewN | apply below_drew1) | exact HB.out))); (case aF => exact (fun _ _ => trivial)); (case aO => exact (by (with_reducible repeat (first | apply Kd.R_alloc | apply Kd.R_drewN | apply Kd.R_drew)); exact HO_9.out)); (case aS => exact (below_size (by repeat (first | (with_reducible first | exact HB.out | apply below_alloc | apply pw_below_drewN | apply below_drew1) | exact HB.out)))); (case aL => have := LMc23.out; omega); intro v174 w25 ho hb hg hat; rw [← Ny173.out] at ho; have n0_ := Aside0.mk (hb); have n1_ := Aside0.mk (ho); clear HB; clear HO_9; have HB := n0_; have HO175 := n1_; clear n0_ n1_; clear ho hb hg hat) | ((with_reducible refine gate_callee (f := 24) rfl ?_); refine goesL_ (some 81) rfl rfl Try.func24 (by kernel_rfl) rfl #[.string a0, .int .u64 (IntKind.u64.wrap (x10_2 + 16)), .int .i64 4] rfl (by (try simp only [List.map_toArray, List.map_cons, List.map_nil]); first | done | rfl | (simp only [List.length_drop, List.length_take]; rfl)) ?_; (with_reducible refine (turnbuckleref12_num.calls kj13 a0 (IntKind.u64.wrap (x10_2 + 16)) 4 t176 _ A24.out).mono ?_); rintro e w' ⟨rfl, ⟨nd, rfl⟩⟩; refine ⟨_, rfl, ?_⟩))
               go_roundg kj13
               case measure => have := HJ3.out; have := HK2.out; have := HJ8.out; have := HJ13.out; omega
               case rel => exact ⟨(y173), (IntKind.u64.wrap (x10_2 + t176)), (wrap64 (x11_2 + 1)), (by first | rfl | (simp; done) | (simp [*]; done)), (by first | rfl | (simp; done) | (simp [*]; done)), H', ⟨by have := HJ3.out; have := HK2.out; have := HJ8.out; have := HJ13.out; omega⟩, ⟨by (with_reducible repeat (first | apply Kd.R_alloc | apply Kd.R_drewN | apply Kd.R_drew)); exact HO175.out⟩, ⟨by repeat (first | (with_reducible first | exact HB.out | apply below_alloc | apply pw_below_drewN | apply below_drew1) | exact HB.out)⟩⟩
              ·rw [if_neg c23] at H
               exact absurd H (by simp)
             ·replace c21 := Bool.eq_false_iff.mpr c21
              subst c21
              have H1 : (some (([] : List (S37)), 25, x10_2)) = some (r1, r2, r3) := by rw [if_neg (show ¬ (false = true) by decide)] at H; exact H
              clear H
              have H := H1
              clear H1
              simp only [Option.some.injEq, Prod.mk.injEq] at H
              obtain ⟨rfl, rfl, rfl⟩ := H
              go_wp2_with (first | ((with_reducible refine gate_callee (f := 24) rfl ?_); refine goesL_ (some 59) rfl rfl Try.func24 (by kernel_rfl) rfl #[.string a0, .int .u64 (IntKind.u64.wrap (x10_2 + t164)), .int .i64 4] rfl (by (try simp only [List.map_toArray, List.map_cons, List.map_nil]); first | done | rfl | (simp only [List.length_drop, List.length_take]; rfl)) ?_; (with_reducible refine (turnbuckleref12_num.calls kj13 a0 (IntKind.u64.wrap (x10_2 + t164)) 4 t169 _ A19.out).mono ?_); rintro e w' ⟨rfl, ⟨nd, rfl⟩⟩; refine ⟨_, rfl, ?_⟩) | ((with_reducible refine gate_callee (f := 26) rfl ?_); refine goesL_ (some 60) rfl rfl Try.func26 (by kernel_rfl) rfl #[.string a1, .int .u64 t169, .int .i64 32] rfl (by (try simp only [List.map_toArray, List.map_cons, List.map_nil]); first | done | rfl | (simp only [List.length_drop, List.length_take]; rfl)) ?_; (with_reducible refine (turnbuckleref01_Text.calls kj13 a1 t169 32 t170 false _ A20.out).mono ?_); rintro e w' ⟨rfl, ⟨nd, rfl⟩⟩; refine ⟨_, rfl, ?_⟩))
              go_ret3
              exact ⟨_, by first | rfl | (simp [errW_none, errW_some] <;> rfl) | (simp [*, errW_none, errW_some] <;> rfl), by first | exact Kd.R_nil _ _ _ _ _ | exact Kd.N_nil _ _ _ _ _ | exact Kd.V_nil _ _ _ _ _ | exact Kd.Q_nil _ _ _ _ _ | exact Kd.S_nil _ _ _ _ _, by repeat (first | (with_reducible first | exact HB.out | apply below_alloc | apply pw_below_drewN | apply below_drew1) | exact HB.out)⟩
      ·rw [if_neg c7] at H
       have c7b0 : decide (x11_2 < a2) = false := decide_eq_false c7
       clear c7
       simp only [Option.some.injEq, Prod.mk.injEq] at H
       obtain ⟨rfl, rfl, rfl⟩ := H
       go_wp2
       go_ret3
       exact ⟨_, by first | rfl | (simp [errW_none, errW_some] <;> rfl) | (simp [*, errW_none, errW_some] <;> rfl), by (with_reducible repeat (first | apply Kd.R_alloc | apply Kd.R_drewN | apply Kd.R_drew)); exact HO_9.out, by repeat (first | (with_reducible first | exact HB.out | apply below_alloc | apply pw_below_drewN | apply below_drew1) | exact HB.out)⟩

end Go.Proofs.Ytoaliamemkjfhaa.PAll
