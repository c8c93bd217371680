-- Written by a program of this session (a changed copy of the print of the kit). Not trusted: Lean checks it.
import Derived.Test.YtdiecgjhmlljmaaPAllx0
import Derived.Test.YtdiecgjhmlljmaaPAllx3
import Derived.Test.YtdiecgjhmlljmaaPAllx4
namespace Go.Proofs.Ytdiecgjhmlljmaa.PAll
open Go.RowKit Go.Proofs.YtdiecgjhmlljmaaW.PrintWords Go.Proofs.YtdiecgjhmlljmaaW.PrintLast Go.Proofs.YtdiecgjhmlljmaaW.PrintMore
attribute [local go_sem] max2_int min2_int max_two min_two max_three min_three max_four min_four   -- for this text's walks alone
set_option linter.unusedVariables false
set_option linter.unusedSimpArgs false

/-! ### turnbucklelaw01_LeParts: function 4 -/
mutual
def turnbucklelaw01_LeParts.j0 : Nat → ByteArray → Int → Int → ByteArray → Bool → Bool → Option (Bool)
  | 0, _, _, _, _, _, _ => none
  | k + 1, x0, x1, x2, x9, x10, x52 => if x52 = true then (some false) else ((le_Text.f x0 x1 x2).bind fun bt137 => ((turnbuckleref01_Text.f k x0 x1 x2).bind fun bt139 => (if bt137.1.toList = bt139.1.toList then (turnbucklelaw01_LeParts.j1 k x0 x1 x2 x9 x10 (bt137.2 != bt139.2)) else (turnbucklelaw01_LeParts.j1 k x0 x1 x2 x9 x10 true))))
def turnbucklelaw01_LeParts.j1 : Nat → ByteArray → Int → Int → ByteArray → Bool → Bool → Option (Bool)
  | 0, _, _, _, _, _, _ => none
  | k + 1, x0, x1, x2, x9, x10, x74 => if x74 = true then (some false) else ((le_At.f k x0 x1 x2).bind fun bt141 => (if x2 < 1 then (if bt141.2 = true then (some false) else (some (bt141.1 == 0))) else (if x2 > 8 then (if bt141.2 = true then (some false) else (some (bt141.1 == 0))) else (if x10 = true then (if bt141.2 = true then ((turnbuckleref01_Get.f k x9).bind fun t143 => (some (bt141.1 == t143))) else (some false)) else (if bt141.2 = true then (some false) else (some (bt141.1 == 0)))))))
end
def turnbucklelaw01_LeParts.f (k : Nat) (a0 : ByteArray) (a1 : Int) (a2 : Int) : Option (Bool) := (turnbucklelaw01_speaks.f k).bind fun t130 => (if t130 = true then (if (a0.size : Int) > 2000 then (some true) else ((le_Part.f a0 a1 (IntKind.u64.wrap (a2))).bind fun bt131 => ((turnbuckleref01_Part.f a0 a1 (IntKind.u64.wrap (a2))).bind fun bt133 => (if bt131.1.toList = bt133.1.toList then (if (bt131.2 != bt133.2) = true then (turnbucklelaw01_LeParts.j0 k a0 a1 a2 bt133.1 bt133.2 true) else ((le_Get.f k a0).bind fun t135 => ((turnbuckleref01_Get.f k a0).bind fun t136 => (turnbucklelaw01_LeParts.j0 k a0 a1 a2 bt133.1 bt133.2 (t135 != t136))))) else (turnbucklelaw01_LeParts.j0 k a0 a1 a2 bt133.1 bt133.2 true))))) else (some false))
theorem turnbucklelaw01_LeParts.mono_l : ∀ k, (∀ y0 y1 y2 y3 y4 y5, LeO (turnbucklelaw01_LeParts.j0 k y0 y1 y2 y3 y4 y5) (turnbucklelaw01_LeParts.j0 (k + 1) y0 y1 y2 y3 y4 y5)) ∧ (∀ y0 y1 y2 y3 y4 y5, LeO (turnbucklelaw01_LeParts.j1 k y0 y1 y2 y3 y4 y5) (turnbucklelaw01_LeParts.j1 (k + 1) y0 y1 y2 y3 y4 y5))
  | 0 => ⟨fun _ _ _ _ _ _ r h => by simp [turnbucklelaw01_LeParts.j0] at h, fun _ _ _ _ _ _ r h => by simp [turnbucklelaw01_LeParts.j1] at h⟩
  | k + 1 => by
    obtain ⟨ih0, ih1⟩ := turnbucklelaw01_LeParts.mono_l k
    refine ⟨?_, ?_⟩
    · intro y0 y1 y2 y3 y4 y5
      unfold turnbucklelaw01_LeParts.j0
      repeat' first
      | (with_reducible exact ih0 _ _ _ _ _ _)
      | (with_reducible exact ih1 _ _ _ _ _ _)
      | (with_reducible exact le_At.mono _ _ _ _)
      | (with_reducible exact le_Get.mono _ _)
      | (with_reducible exact turnbucklelaw01_speaks.mono _)
      | (with_reducible exact turnbuckleref01_Get.mono _ _)
      | (with_reducible exact turnbuckleref01_Text.mono _ _ _ _)
      | (with_reducible exact LeO.refl _)
      | (with_reducible exact LeO.none _)
      | (with_reducible refine LeO.ite ?_ ?_)
      | (with_reducible refine LeO.bind ?_ (fun _ => ?_))
      | exact ih0 _ _ _ _ _ _
      | exact ih1 _ _ _ _ _ _
      | exact le_At.mono _ _ _ _
      | exact le_Get.mono _ _
      | exact turnbucklelaw01_speaks.mono _
      | exact turnbuckleref01_Get.mono _ _
      | exact turnbuckleref01_Text.mono _ _ _ _
      | exact LeO.none _
      | refine LeO.ite ?_ ?_
      | refine LeO.bind ?_ (fun _ => ?_)
    · intro y0 y1 y2 y3 y4 y5
      unfold turnbucklelaw01_LeParts.j1
      repeat' first
      | (with_reducible exact ih0 _ _ _ _ _ _)
      | (with_reducible exact ih1 _ _ _ _ _ _)
      | (with_reducible exact le_At.mono _ _ _ _)
      | (with_reducible exact le_Get.mono _ _)
      | (with_reducible exact turnbucklelaw01_speaks.mono _)
      | (with_reducible exact turnbuckleref01_Get.mono _ _)
      | (with_reducible exact turnbuckleref01_Text.mono _ _ _ _)
      | (with_reducible exact LeO.refl _)
      | (with_reducible exact LeO.none _)
      | (with_reducible refine LeO.ite ?_ ?_)
      | (with_reducible refine LeO.bind ?_ (fun _ => ?_))
      | exact ih0 _ _ _ _ _ _
      | exact ih1 _ _ _ _ _ _
      | exact le_At.mono _ _ _ _
      | exact le_Get.mono _ _
      | exact turnbucklelaw01_speaks.mono _
      | exact turnbuckleref01_Get.mono _ _
      | exact turnbuckleref01_Text.mono _ _ _ _
      | exact LeO.none _
      | refine LeO.ite ?_ ?_
      | refine LeO.bind ?_ (fun _ => ?_)
theorem turnbucklelaw01_LeParts.mono : ∀ a0 a1 a2 k, LeO (turnbucklelaw01_LeParts.f k a0 a1 a2) (turnbucklelaw01_LeParts.f (k + 1) a0 a1 a2) := by
  intro a0 a1 a2 k
  obtain ⟨ih0, ih1⟩ := turnbucklelaw01_LeParts.mono_l k
  unfold turnbucklelaw01_LeParts.f
  repeat' first
      | (with_reducible exact ih0 _ _ _ _ _ _)
      | (with_reducible exact ih1 _ _ _ _ _ _)
      | (with_reducible exact le_At.mono _ _ _ _)
      | (with_reducible exact le_Get.mono _ _)
      | (with_reducible exact turnbucklelaw01_speaks.mono _)
      | (with_reducible exact turnbuckleref01_Get.mono _ _)
      | (with_reducible exact turnbuckleref01_Text.mono _ _ _ _)
      | (with_reducible exact LeO.refl _)
      | (with_reducible exact LeO.none _)
      | (with_reducible refine LeO.ite ?_ ?_)
      | (with_reducible refine LeO.bind ?_ (fun _ => ?_))
      | exact ih0 _ _ _ _ _ _
      | exact ih1 _ _ _ _ _ _
      | exact le_At.mono _ _ _ _
      | exact le_Get.mono _ _
      | exact turnbucklelaw01_speaks.mono _
      | exact turnbuckleref01_Get.mono _ _
      | exact turnbuckleref01_Text.mono _ _ _ _
      | exact LeO.none _
      | refine LeO.ite ?_ ?_
      | refine LeO.bind ?_ (fun _ => ?_)
set_option maxHeartbeats 8000000 in
set_option maxRecDepth 100000 in
theorem turnbucklelaw01_LeParts.calls (k : Nat) (a0 : ByteArray) (a1 : Int) (a2 : Int) (r : Bool) (w : World) (h : turnbucklelaw01_LeParts.f k a0 a1 a2 = some r) :
    Calls Try.prog 4 #[.string a0, .int .u64 a1, .int .i64 a2] w fun e w' => e = .returned (.bool r) ∧ Below w.heap.size w w' := by
  have HB := Aside0.mk (Below.refl w.heap.size w)
  have H : ((turnbucklelaw01_speaks.f k).bind fun t130 => (if t130 = true then (if (a0.size : Int) > 2000 then (some true) else ((le_Part.f a0 a1 (IntKind.u64.wrap (a2))).bind fun bt131 => ((turnbuckleref01_Part.f a0 a1 (IntKind.u64.wrap (a2))).bind fun bt133 => (if bt131.1.toList = bt133.1.toList then (if (bt131.2 != bt133.2) = true then (turnbucklelaw01_LeParts.j0 k a0 a1 a2 bt133.1 bt133.2 true) else ((le_Get.f k a0).bind fun t135 => ((turnbuckleref01_Get.f k a0).bind fun t136 => (turnbucklelaw01_LeParts.j0 k a0 a1 a2 bt133.1 bt133.2 (t135 != t136))))) else (turnbucklelaw01_LeParts.j0 k a0 a1 a2 bt133.1 bt133.2 true))))) else (some false))) = some r := h
  clear h
  replace H := Option.bind_eq_some_iff.mp H
  obtain ⟨t130, A40, H⟩ := H
  replace H : (if t130 = true then (if (a0.size : Int) > 2000 then (some true) else ((le_Part.f a0 a1 (IntKind.u64.wrap (a2))).bind fun bt131 => ((turnbuckleref01_Part.f a0 a1 (IntKind.u64.wrap (a2))).bind fun bt133 => (if bt131.1.toList = bt133.1.toList then (if (bt131.2 != bt133.2) = true then (turnbucklelaw01_LeParts.j0 k a0 a1 a2 bt133.1 bt133.2 true) else ((le_Get.f k a0).bind fun t135 => ((turnbuckleref01_Get.f k a0).bind fun t136 => (turnbucklelaw01_LeParts.j0 k a0 a1 a2 bt133.1 bt133.2 (t135 != t136))))) else (turnbucklelaw01_LeParts.j0 k a0 a1 a2 bt133.1 bt133.2 true))))) else (some false)) = some r := H
  have A4 := Aside0.mk A40
  clear A40
  by_cases c5 : t130 = true
  · subst c5
    have H1 : (if (a0.size : Int) > 2000 then (some true) else ((le_Part.f a0 a1 (IntKind.u64.wrap (a2))).bind fun bt131 => ((turnbuckleref01_Part.f a0 a1 (IntKind.u64.wrap (a2))).bind fun bt133 => (if bt131.1.toList = bt133.1.toList then (if (bt131.2 != bt133.2) = true then (turnbucklelaw01_LeParts.j0 k a0 a1 a2 bt133.1 bt133.2 true) else ((le_Get.f k a0).bind fun t135 => ((turnbuckleref01_Get.f k a0).bind fun t136 => (turnbucklelaw01_LeParts.j0 k a0 a1 a2 bt133.1 bt133.2 (t135 != t136))))) else (turnbucklelaw01_LeParts.j0 k a0 a1 a2 bt133.1 bt133.2 true))))) = some r := by rw [if_pos rfl] at H; exact H
    clear H
    have H := H1
    clear H1
    by_cases c6 : (a0.size : Int) > 2000
    · rw [if_pos c6] at H
      have c6b0 : decide (2000 < (a0.size : Int)) = true := decide_eq_true c6
      have c6b1 : decide (2000 < a0.size) = true := decide_eq_true (by omega)
      clear c6
      obtain rfl := Option.some.inj H
      go_enter Try.func4, Try.ntmps4
      go_wp2_with (first | ((with_reducible refine gate_callee (f := 8) rfl ?_); refine goesL_ (some 17) rfl rfl Try.func8 (by kernel_rfl) rfl #[] rfl (by (try simp only [List.map_toArray, List.map_cons, List.map_nil]); first | done | rfl | (simp only [List.length_drop, List.length_take]; rfl)) ?_; (with_reducible refine (turnbucklelaw01_speaks.calls k  true _ A4.out).mono ?_); rintro e w7 ⟨rfl, hb⟩; refine ⟨_, rfl, ?_⟩; have n0_ := Aside0.mk (below_step (by repeat (first | (with_reducible first | exact HB.out | apply below_alloc | apply pw_below_drewN | apply below_drew1) | exact HB.out)) hb); clear HB; have HB := n0_; clear n0_; (try clear hb); (try clear hb2); (try clear hk); (try clear hi)))
      go_ret
      exact ⟨by first | rfl | (simp [errW_none, errW_some] <;> rfl) | (simp [*, errW_none, errW_some] <;> rfl), by repeat (first | (with_reducible first | exact HB.out | apply below_alloc | apply pw_below_drewN | apply below_drew1) | exact HB.out)⟩
    · rw [if_neg c6] at H
      have c6b0 : decide (2000 < (a0.size : Int)) = false := decide_eq_false c6
      have c6b1 : decide (2000 < a0.size) = false := decide_eq_false (by omega)
      clear c6
      replace H := Option.bind_eq_some_iff.mp H
      obtain ⟨⟨t131, t132⟩, A80, H⟩ := H
      replace H : ((turnbuckleref01_Part.f a0 a1 (IntKind.u64.wrap (a2))).bind fun bt133 => (if t131.toList = bt133.1.toList then (if (t132 != bt133.2) = true then (turnbucklelaw01_LeParts.j0 k a0 a1 a2 bt133.1 bt133.2 true) else ((le_Get.f k a0).bind fun t135 => ((turnbuckleref01_Get.f k a0).bind fun t136 => (turnbucklelaw01_LeParts.j0 k a0 a1 a2 bt133.1 bt133.2 (t135 != t136))))) else (turnbucklelaw01_LeParts.j0 k a0 a1 a2 bt133.1 bt133.2 true))) = some r := H
      have A8 := Aside0.mk A80
      clear A80
      replace H := Option.bind_eq_some_iff.mp H
      obtain ⟨⟨t133, t134⟩, A90, H⟩ := H
      replace H : (if t131.toList = t133.toList then (if (t132 != t134) = true then (turnbucklelaw01_LeParts.j0 k a0 a1 a2 t133 t134 true) else ((le_Get.f k a0).bind fun t135 => ((turnbuckleref01_Get.f k a0).bind fun t136 => (turnbucklelaw01_LeParts.j0 k a0 a1 a2 t133 t134 (t135 != t136))))) else (turnbucklelaw01_LeParts.j0 k a0 a1 a2 t133 t134 true)) = some r := H
      have A9 := Aside0.mk A90
      clear A90
      have HC10 := Aside0.mk H
      clear H
      go_enter Try.func4, Try.ntmps4
      go_upto_region 7 with (first | ((with_reducible refine gate_callee (f := 8) rfl ?_); refine goesL_ (some 17) rfl rfl Try.func8 (by kernel_rfl) rfl #[] rfl (by (try simp only [List.map_toArray, List.map_cons, List.map_nil]); first | done | rfl | (simp only [List.length_drop, List.length_take]; rfl)) ?_; (with_reducible refine (turnbucklelaw01_speaks.calls k  true _ A4.out).mono ?_); rintro e w11 ⟨rfl, hb⟩; refine ⟨_, rfl, ?_⟩; have n0_ := Aside0.mk (below_step (by repeat (first | (with_reducible first | exact HB.out | apply below_alloc | apply pw_below_drewN | apply below_drew1) | exact HB.out)) hb); clear HB; have HB := n0_; clear n0_; (try clear hb); (try clear hb2); (try clear hk); (try clear hi)) | ((with_reducible refine gate_callee (f := 15) rfl ?_); refine goesL_ (some 27) rfl rfl Try.func15 (by kernel_rfl) rfl #[.string a0, .int .u64 a1, .int .u64 (IntKind.u64.wrap (a2))] rfl (by (try simp only [List.map_toArray, List.map_cons, List.map_nil]); first | done | rfl | (simp only [List.length_drop, List.length_take]; rfl)) ?_; (with_reducible refine (le_Part.calls a0 a1 (IntKind.u64.wrap (a2)) t131 t132 _ A8.out).mono ?_); rintro e w' ⟨rfl, ⟨nd, rfl⟩⟩; refine ⟨_, rfl, ?_⟩) | ((with_reducible refine gate_callee (f := 16) rfl ?_); refine goesL_ (some 35) rfl rfl Try.func16 (by kernel_rfl) rfl #[.string a0, .int .u64 a1, .int .u64 (IntKind.u64.wrap (a2))] rfl (by (try simp only [List.map_toArray, List.map_cons, List.map_nil]); first | done | rfl | (simp only [List.length_drop, List.length_take]; rfl)) ?_; (with_reducible refine (turnbuckleref01_Part.calls a0 a1 (IntKind.u64.wrap (a2)) t133 t134 _ A9.out).mono ?_); rintro e w' ⟨rfl, ⟨nd, rfl⟩⟩; refine ⟨_, rfl, ?_⟩))
      (try simp only [Act.put, List.setIfInBounds_toArray, List.set_cons_zero, List.set_cons_succ])
      go_cut [52] (fun v52 wc => ∃ (kq : Nat) (x52_9 : Bool), v52 = .bool x52_9 ∧ Aside0 (turnbucklelaw01_LeParts.j0 kq a0 a1 a2 t133 t134 x52_9 = some r) ∧ Aside0 (kq ≤ k) ∧ Aside0 (Below w.heap.size w wc))
      case first =>
        have H := HC10.out
        clear HC10
        by_cases c12 : t131.toList = t133.toList
        · rw [if_pos c12] at H
          have c12b0 : (t131.toList == t133.toList) = true := beq_iff_eq.mpr c12
          have c12b1 : (t131.toList != t133.toList) = false := bne_eq_false_iff_eq.mpr c12
          clear c12
          (first | rw [c12b0] | (simp only [i64_w, i32_w]; rw [c12b0]) | skip)
          by_cases c13 : (t132 != t134) = true
          · rw [if_pos c13] at H
            have c13b0 : (t132 != t134) = true := c13
            (try (have c13b1 : decide (t132 = t134) = false := by simpa using c13))
            (try (have c13b2 : (t132 == t134) = false := by simpa using c13))
            (try (have c13b3 : ¬ (t132 = t134) := by simpa using c13))
            clear c13
            have H' := Aside0.mk H
            clear H
            go_wp2
            go_meet
            case rel => exact ⟨_, (true), (by first | rfl | (simp; done) | (simp [*]; done)), H', ⟨by first | omega | exact Nat.le_refl _⟩, ⟨by repeat (first | (with_reducible first | exact HB.out | apply below_alloc | apply pw_below_drewN | apply below_drew1) | exact HB.out)⟩⟩
          · rw [if_neg c13] at H
            have c13b0 : (t132 != t134) = false := by simpa using c13
            (try (have c13b1 : decide (t132 = t134) = true := by simpa using c13))
            (try (have c13b2 : (t132 == t134) = true := by simpa using c13))
            clear c13
            replace H := Option.bind_eq_some_iff.mp H
            obtain ⟨t135, A140, H⟩ := H
            replace H : ((turnbuckleref01_Get.f k a0).bind fun t136 => (turnbucklelaw01_LeParts.j0 k a0 a1 a2 t133 t134 (t135 != t136))) = some r := H
            have A14 := Aside0.mk A140
            clear A140
            replace H := Option.bind_eq_some_iff.mp H
            obtain ⟨t136, A150, H⟩ := H
            replace H : (turnbucklelaw01_LeParts.j0 k a0 a1 a2 t133 t134 (t135 != t136)) = some r := H
            have A15 := Aside0.mk A150
            clear A150
            have H' := Aside0.mk H
            clear H
            go_wp2_with (first | (go_at_call 13; (with_reducible refine (le_Get.calls k a0 t135 _ A14.out).mono ?_); rintro e w' ⟨rfl, ⟨nd, rfl⟩⟩) | (go_at_call 14; (with_reducible refine (turnbuckleref01_Get.calls k a0 t136 _ A15.out).mono ?_); rintro e w' ⟨rfl, ⟨nd, rfl⟩⟩))
            go_meet
            case rel => exact ⟨_, ((t135 != t136)), (by first | rfl | (simp; done) | (simp [*]; done)), H', ⟨by first | omega | exact Nat.le_refl _⟩, ⟨by repeat (first | (with_reducible first | exact HB.out | apply below_alloc | apply pw_below_drewN | apply below_drew1) | exact HB.out)⟩⟩
        · rw [if_neg c12] at H
          have c12b0 : (t131.toList == t133.toList) = false := beq_eq_false_iff_ne.mpr c12
          have c12b1 : (t131.toList != t133.toList) = true := bne_iff_ne.mpr c12
          (first | rw [c12b0] | (simp only [i64_w, i32_w]; rw [c12b0]) | skip)
          have H' := Aside0.mk H
          clear H
          go_wp2
          go_meet
          case rel => exact ⟨_, (true), (by first | rfl | (simp; done) | (simp [*]; done)), H', ⟨by first | omega | exact Nat.le_refl _⟩, ⟨by repeat (first | (with_reducible first | exact HB.out | apply below_alloc | apply pw_below_drewN | apply below_drew1) | exact HB.out)⟩⟩
      case rest =>
        clear HC10
        try clear c1
        try clear p2
        try clear c4
        try clear c5
        try clear c6
        try clear c6b0
        try clear c6b1
        try clear c8
        try clear c12
        try clear c12b0
        try clear c12b1
        try clear c13
        try clear c13b0
        try clear c13b1
        try clear c13b2
        try clear c15
        obtain ⟨kq, x52_9, rfl, HA, HJ9, HB⟩ := hcut
        cases kq with
        | zero => exact absurd HA.out (by simp [turnbucklelaw01_LeParts.j0])
        | succ kj9 =>
          have H := HA.out
          clear HA
          simp only [turnbucklelaw01_LeParts.j0] at H
          by_cases c16 : x52_9 = true
          · subst c16
            have H1 : (some false) = some r := by rw [if_pos rfl] at H; exact H
            clear H
            have H := H1
            clear H1
            obtain rfl := Option.some.inj H
            go_wp2
            go_ret
            exact ⟨by first | rfl | (simp [errW_none, errW_some] <;> rfl) | (simp [*, errW_none, errW_some] <;> rfl), by repeat (first | (with_reducible first | exact HB.out | apply below_alloc | apply pw_below_drewN | apply below_drew1) | exact HB.out)⟩
          · replace c16 := Bool.eq_false_iff.mpr c16
            subst c16
            have H1 : ((le_Text.f a0 a1 a2).bind fun bt137 => ((turnbuckleref01_Text.f kj9 a0 a1 a2).bind fun bt139 => (if bt137.1.toList = bt139.1.toList then (turnbucklelaw01_LeParts.j1 kj9 a0 a1 a2 t133 t134 (bt137.2 != bt139.2)) else (turnbucklelaw01_LeParts.j1 kj9 a0 a1 a2 t133 t134 true)))) = some r := by rw [if_neg (show ¬ (false = true) by decide)] at H; exact H
            clear H
            have H := H1
            clear H1
            replace H := Option.bind_eq_some_iff.mp H
            obtain ⟨⟨t137, t138⟩, A170, H⟩ := H
            replace H : ((turnbuckleref01_Text.f kj9 a0 a1 a2).bind fun bt139 => (if t137.toList = bt139.1.toList then (turnbucklelaw01_LeParts.j1 kj9 a0 a1 a2 t133 t134 (t138 != bt139.2)) else (turnbucklelaw01_LeParts.j1 kj9 a0 a1 a2 t133 t134 true))) = some r := H
            have A17 := Aside0.mk A170
            clear A170
            replace H := Option.bind_eq_some_iff.mp H
            obtain ⟨⟨t139, t140⟩, A180, H⟩ := H
            replace H : (if t137.toList = t139.toList then (turnbucklelaw01_LeParts.j1 kj9 a0 a1 a2 t133 t134 (t138 != t140)) else (turnbucklelaw01_LeParts.j1 kj9 a0 a1 a2 t133 t134 true)) = some r := H
            have A18 := Aside0.mk A180
            clear A180
            have HC19 := Aside0.mk H
            clear H
            go_upto_region 11 with (first | ((with_reducible refine gate_callee (f := 17) rfl ?_); refine goesL_ (some 57) rfl rfl Try.func17 (by kernel_rfl) rfl #[.string a0, .int .u64 a1, .int .i64 a2] rfl (by (try simp only [List.map_toArray, List.map_cons, List.map_nil]); first | done | rfl | (simp only [List.length_drop, List.length_take]; rfl)) ?_; (with_reducible refine (le_Text.calls a0 a1 a2 t137 t138 _ A17.out).mono ?_); rintro e w' ⟨rfl, ⟨nd, rfl⟩⟩; refine ⟨_, rfl, ?_⟩) | ((with_reducible refine gate_callee (f := 18) rfl ?_); refine goesL_ (some 64) rfl rfl Try.func18 (by kernel_rfl) rfl #[.string a0, .int .u64 a1, .int .i64 a2] rfl (by (try simp only [List.map_toArray, List.map_cons, List.map_nil]); first | done | rfl | (simp only [List.length_drop, List.length_take]; rfl)) ?_; (with_reducible refine (turnbuckleref01_Text.calls kj9 a0 a1 a2 t139 t140 _ A18.out).mono ?_); rintro e w' ⟨rfl, ⟨nd, rfl⟩⟩; refine ⟨_, rfl, ?_⟩))
            (try simp only [Act.put, List.setIfInBounds_toArray, List.set_cons_zero, List.set_cons_succ])
            go_cut [74] (fun v74 wc => ∃ (kq : Nat) (x74_18 : Bool), v74 = .bool x74_18 ∧ Aside0 (turnbucklelaw01_LeParts.j1 kq a0 a1 a2 t133 t134 x74_18 = some r) ∧ Aside0 (kq ≤ kj9) ∧ Aside0 (Below w.heap.size w wc))
            case first =>
              have H := HC19.out
              clear HC19
              by_cases c20 : t137.toList = t139.toList
              · rw [if_pos c20] at H
                have c20b0 : (t137.toList == t139.toList) = true := beq_iff_eq.mpr c20
                have c20b1 : (t137.toList != t139.toList) = false := bne_eq_false_iff_eq.mpr c20
                clear c20
                (first | rw [c20b0] | (simp only [i64_w, i32_w]; rw [c20b0]) | skip)
                have H' := Aside0.mk H
                clear H
                go_wp2
                go_meet
                case rel => exact ⟨_, ((t138 != t140)), (by first | rfl | (simp; done) | (simp [*]; done)), H', ⟨by have := HJ9.out; first | omega | exact Nat.le_refl _⟩, ⟨by repeat (first | (with_reducible first | exact HB.out | apply below_alloc | apply pw_below_drewN | apply below_drew1) | exact HB.out)⟩⟩
              · rw [if_neg c20] at H
                have c20b0 : (t137.toList == t139.toList) = false := beq_eq_false_iff_ne.mpr c20
                have c20b1 : (t137.toList != t139.toList) = true := bne_iff_ne.mpr c20
                (first | rw [c20b0] | (simp only [i64_w, i32_w]; rw [c20b0]) | skip)
                have H' := Aside0.mk H
                clear H
                go_wp2
                go_meet
                case rel => exact ⟨_, (true), (by first | rfl | (simp; done) | (simp [*]; done)), H', ⟨by have := HJ9.out; first | omega | exact Nat.le_refl _⟩, ⟨by repeat (first | (with_reducible first | exact HB.out | apply below_alloc | apply pw_below_drewN | apply below_drew1) | exact HB.out)⟩⟩
            case rest =>
              clear HC19
              try clear c1
              try clear c2
              try clear p2
              try clear c4
              try clear c5
              try clear c6
              try clear c6b0
              try clear c6b1
              try clear c8
              try clear c12
              try clear c12b0
              try clear c12b1
              try clear c13
              try clear c13b0
              try clear c13b1
              try clear c13b2
              try clear c15
              try clear c16
              try clear c17
              try clear c18
              try clear c20
              try clear c20b0
              try clear c20b1
              try clear p2
              obtain ⟨kq, x74_18, rfl, HA, HJ18, HB⟩ := hcut
              cases kq with
              | zero => exact absurd HA.out (by simp [turnbucklelaw01_LeParts.j1])
              | succ kj18 =>
                have H := HA.out
                clear HA
                simp only [turnbucklelaw01_LeParts.j1] at H
                by_cases c21 : x74_18 = true
                · subst c21
                  have H1 : (some false) = some r := by rw [if_pos rfl] at H; exact H
                  clear H
                  have H := H1
                  clear H1
                  obtain rfl := Option.some.inj H
                  go_wp2
                  go_ret
                  exact ⟨by first | rfl | (simp [errW_none, errW_some] <;> rfl) | (simp [*, errW_none, errW_some] <;> rfl), by repeat (first | (with_reducible first | exact HB.out | apply below_alloc | apply pw_below_drewN | apply below_drew1) | exact HB.out)⟩
                · replace c21 := Bool.eq_false_iff.mpr c21
                  subst c21
                  have H1 : ((le_At.f kj18 a0 a1 a2).bind fun bt141 => (if a2 < 1 then (if bt141.2 = true then (some false) else (some (bt141.1 == 0))) else (if a2 > 8 then (if bt141.2 = true then (some false) else (some (bt141.1 == 0))) else (if t134 = true then (if bt141.2 = true then ((turnbuckleref01_Get.f kj18 t133).bind fun t143 => (some (bt141.1 == t143))) else (some false)) else (if bt141.2 = true then (some false) else (some (bt141.1 == 0))))))) = some r := by rw [if_neg (show ¬ (false = true) by decide)] at H; exact H
                  clear H
                  have H := H1
                  clear H1
                  replace H := Option.bind_eq_some_iff.mp H
                  obtain ⟨⟨t141, t142⟩, A220, H⟩ := H
                  replace H : (if a2 < 1 then (if t142 = true then (some false) else (some (t141 == 0))) else (if a2 > 8 then (if t142 = true then (some false) else (some (t141 == 0))) else (if t134 = true then (if t142 = true then ((turnbuckleref01_Get.f kj18 t133).bind fun t143 => (some (t141 == t143))) else (some false)) else (if t142 = true then (some false) else (some (t141 == 0)))))) = some r := H
                  have A22 := Aside0.mk A220
                  clear A220
                  by_cases c23 : a2 < 1
                  · rw [if_pos c23] at H
                    have c23b0 : decide (a2 < 1) = true := decide_eq_true c23
                    clear c23
                    by_cases c24 : t142 = true
                    · subst c24
                      have H1 : (some false) = some r := by rw [if_pos rfl] at H; exact H
                      clear H
                      have H := H1
                      clear H1
                      obtain rfl := Option.some.inj H
                      go_wp2_with (first | ((with_reducible refine gate_callee (f := 19) rfl ?_); refine goesL_ (some 79) rfl rfl Try.func19 (by kernel_rfl) rfl #[.string a0, .int .u64 a1, .int .i64 a2] rfl (by (try simp only [List.map_toArray, List.map_cons, List.map_nil]); first | done | rfl | (simp only [List.length_drop, List.length_take]; rfl)) ?_; (with_reducible refine (le_At.calls kj18 a0 a1 a2 t141 true _ A22.out).mono ?_); rintro e w' ⟨rfl, ⟨nd, rfl⟩⟩; refine ⟨_, rfl, ?_⟩))
                      go_ret
                      exact ⟨by first | rfl | (simp [errW_none, errW_some] <;> rfl) | (simp [*, errW_none, errW_some] <;> rfl), by repeat (first | (with_reducible first | exact HB.out | apply below_alloc | apply pw_below_drewN | apply below_drew1) | exact HB.out)⟩
                    · replace c24 := Bool.eq_false_iff.mpr c24
                      subst c24
                      have H1 : (some (t141 == 0)) = some r := by rw [if_neg (show ¬ (false = true) by decide)] at H; exact H
                      clear H
                      have H := H1
                      clear H1
                      obtain rfl := Option.some.inj H
                      go_wp2_with (first | ((with_reducible refine gate_callee (f := 19) rfl ?_); refine goesL_ (some 79) rfl rfl Try.func19 (by kernel_rfl) rfl #[.string a0, .int .u64 a1, .int .i64 a2] rfl (by (try simp only [List.map_toArray, List.map_cons, List.map_nil]); first | done | rfl | (simp only [List.length_drop, List.length_take]; rfl)) ?_; (with_reducible refine (le_At.calls kj18 a0 a1 a2 t141 false _ A22.out).mono ?_); rintro e w' ⟨rfl, ⟨nd, rfl⟩⟩; refine ⟨_, rfl, ?_⟩))
                      go_ret
                      exact ⟨by first | rfl | (simp [errW_none, errW_some] <;> rfl) | (simp [*, errW_none, errW_some] <;> rfl), by repeat (first | (with_reducible first | exact HB.out | apply below_alloc | apply pw_below_drewN | apply below_drew1) | exact HB.out)⟩
                  · rw [if_neg c23] at H
                    have c23b0 : decide (a2 < 1) = false := decide_eq_false c23
                    clear c23
                    by_cases c25 : a2 > 8
                    · rw [if_pos c25] at H
                      have c25b0 : decide (8 < a2) = true := decide_eq_true c25
                      clear c25
                      by_cases c26 : t142 = true
                      · subst c26
                        have H1 : (some false) = some r := by rw [if_pos rfl] at H; exact H
                        clear H
                        have H := H1
                        clear H1
                        obtain rfl := Option.some.inj H
                        go_wp2_with (first | ((with_reducible refine gate_callee (f := 19) rfl ?_); refine goesL_ (some 79) rfl rfl Try.func19 (by kernel_rfl) rfl #[.string a0, .int .u64 a1, .int .i64 a2] rfl (by (try simp only [List.map_toArray, List.map_cons, List.map_nil]); first | done | rfl | (simp only [List.length_drop, List.length_take]; rfl)) ?_; (with_reducible refine (le_At.calls kj18 a0 a1 a2 t141 true _ A22.out).mono ?_); rintro e w' ⟨rfl, ⟨nd, rfl⟩⟩; refine ⟨_, rfl, ?_⟩))
                        go_ret
                        exact ⟨by first | rfl | (simp [errW_none, errW_some] <;> rfl) | (simp [*, errW_none, errW_some] <;> rfl), by repeat (first | (with_reducible first | exact HB.out | apply below_alloc | apply pw_below_drewN | apply below_drew1) | exact HB.out)⟩
                      · replace c26 := Bool.eq_false_iff.mpr c26
                        subst c26
                        have H1 : (some (t141 == 0)) = some r := by rw [if_neg (show ¬ (false = true) by decide)] at H; exact H
                        clear H
                        have H := H1
                        clear H1
                        obtain rfl := Option.some.inj H
                        go_wp2_with (first | ((with_reducible refine gate_callee (f := 19) rfl ?_); refine goesL_ (some 79) rfl rfl Try.func19 (by kernel_rfl) rfl #[.string a0, .int .u64 a1, .int .i64 a2] rfl (by (try simp only [List.map_toArray, List.map_cons, List.map_nil]); first | done | rfl | (simp only [List.length_drop, List.length_take]; rfl)) ?_; (with_reducible refine (le_At.calls kj18 a0 a1 a2 t141 false _ A22.out).mono ?_); rintro e w' ⟨rfl, ⟨nd, rfl⟩⟩; refine ⟨_, rfl, ?_⟩))
                        go_ret
                        exact ⟨by first | rfl | (simp [errW_none, errW_some] <;> rfl) | (simp [*, errW_none, errW_some] <;> rfl), by repeat (first | (with_reducible first | exact HB.out | apply below_alloc | apply pw_below_drewN | apply below_drew1) | exact HB.out)⟩
                    · rw [if_neg c25] at H
                      have c25b0 : decide (8 < a2) = false := decide_eq_false c25
                      clear c25
                      by_cases c27 : t134 = true
                      · subst c27
                        have H1 : (if t142 = true then ((turnbuckleref01_Get.f kj18 t133).bind fun t143 => (some (t141 == t143))) else (some false)) = some r := by rw [if_pos rfl] at H; exact H
                        clear H
                        have H := H1
                        clear H1
                        by_cases c28 : t142 = true
                        · subst c28
                          have H1 : ((turnbuckleref01_Get.f kj18 t133).bind fun t143 => (some (t141 == t143))) = some r := by rw [if_pos rfl] at H; exact H
                          clear H
                          have H := H1
                          clear H1
                          replace H := Option.bind_eq_some_iff.mp H
                          obtain ⟨t143, A290, H⟩ := H
                          replace H : (some (t141 == t143)) = some r := H
                          have A29 := Aside0.mk A290
                          clear A290
                          obtain rfl := Option.some.inj H
                          go_wp2_with (first | ((with_reducible refine gate_callee (f := 19) rfl ?_); refine goesL_ (some 79) rfl rfl Try.func19 (by kernel_rfl) rfl #[.string a0, .int .u64 a1, .int .i64 a2] rfl (by (try simp only [List.map_toArray, List.map_cons, List.map_nil]); first | done | rfl | (simp only [List.length_drop, List.length_take]; rfl)) ?_; (with_reducible refine (le_At.calls kj18 a0 a1 a2 t141 true _ A22.out).mono ?_); rintro e w' ⟨rfl, ⟨nd, rfl⟩⟩; refine ⟨_, rfl, ?_⟩) | (go_at_call 14; (with_reducible refine (turnbuckleref01_Get.calls kj18 t133 t143 _ A29.out).mono ?_); rintro e w' ⟨rfl, ⟨nd, rfl⟩⟩))
                          go_ret
                          exact ⟨by first | rfl | (simp [errW_none, errW_some] <;> rfl) | (simp [*, errW_none, errW_some] <;> rfl), by repeat (first | (with_reducible first | exact HB.out | apply below_alloc | apply pw_below_drewN | apply below_drew1) | exact HB.out)⟩
                        · replace c28 := Bool.eq_false_iff.mpr c28
                          subst c28
                          have H1 : (some false) = some r := by rw [if_neg (show ¬ (false = true) by decide)] at H; exact H
                          clear H
                          have H := H1
                          clear H1
                          obtain rfl := Option.some.inj H
                          go_wp2_with (first | ((with_reducible refine gate_callee (f := 19) rfl ?_); refine goesL_ (some 79) rfl rfl Try.func19 (by kernel_rfl) rfl #[.string a0, .int .u64 a1, .int .i64 a2] rfl (by (try simp only [List.map_toArray, List.map_cons, List.map_nil]); first | done | rfl | (simp only [List.length_drop, List.length_take]; rfl)) ?_; (with_reducible refine (le_At.calls kj18 a0 a1 a2 t141 false _ A22.out).mono ?_); rintro e w' ⟨rfl, ⟨nd, rfl⟩⟩; refine ⟨_, rfl, ?_⟩))
                          go_ret
                          exact ⟨by first | rfl | (simp [errW_none, errW_some] <;> rfl) | (simp [*, errW_none, errW_some] <;> rfl), by repeat (first | (with_reducible first | exact HB.out | apply below_alloc | apply pw_below_drewN | apply below_drew1) | exact HB.out)⟩
                      · replace c27 := Bool.eq_false_iff.mpr c27
                        subst c27
                        have H1 : (if t142 = true then (some false) else (some (t141 == 0))) = some r := by rw [if_neg (show ¬ (false = true) by decide)] at H; exact H
                        clear H
                        have H := H1
                        clear H1
                        by_cases c30 : t142 = true
                        · subst c30
                          have H1 : (some false) = some r := by rw [if_pos rfl] at H; exact H
                          clear H
                          have H := H1
                          clear H1
                          obtain rfl := Option.some.inj H
                          go_wp2_with (first | ((with_reducible refine gate_callee (f := 19) rfl ?_); refine goesL_ (some 79) rfl rfl Try.func19 (by kernel_rfl) rfl #[.string a0, .int .u64 a1, .int .i64 a2] rfl (by (try simp only [List.map_toArray, List.map_cons, List.map_nil]); first | done | rfl | (simp only [List.length_drop, List.length_take]; rfl)) ?_; (with_reducible refine (le_At.calls kj18 a0 a1 a2 t141 true _ A22.out).mono ?_); rintro e w' ⟨rfl, ⟨nd, rfl⟩⟩; refine ⟨_, rfl, ?_⟩))
                          go_ret
                          exact ⟨by first | rfl | (simp [errW_none, errW_some] <;> rfl) | (simp [*, errW_none, errW_some] <;> rfl), by repeat (first | (with_reducible first | exact HB.out | apply below_alloc | apply pw_below_drewN | apply below_drew1) | exact HB.out)⟩
                        · replace c30 := Bool.eq_false_iff.mpr c30
                          subst c30
                          have H1 : (some (t141 == 0)) = some r := by rw [if_neg (show ¬ (false = true) by decide)] at H; exact H
                          clear H
                          have H := H1
                          clear H1
                          obtain rfl := Option.some.inj H
                          go_wp2_with (first | ((with_reducible refine gate_callee (f := 19) rfl ?_); refine goesL_ (some 79) rfl rfl Try.func19 (by kernel_rfl) rfl #[.string a0, .int .u64 a1, .int .i64 a2] rfl (by (try simp only [List.map_toArray, List.map_cons, List.map_nil]); first | done | rfl | (simp only [List.length_drop, List.length_take]; rfl)) ?_; (with_reducible refine (le_At.calls kj18 a0 a1 a2 t141 false _ A22.out).mono ?_); rintro e w' ⟨rfl, ⟨nd, rfl⟩⟩; refine ⟨_, rfl, ?_⟩))
                          go_ret
                          exact ⟨by first | rfl | (simp [errW_none, errW_some] <;> rfl) | (simp [*, errW_none, errW_some] <;> rfl), by repeat (first | (with_reducible first | exact HB.out | apply below_alloc | apply pw_below_drewN | apply below_drew1) | exact HB.out)⟩
  · replace c5 := Bool.eq_false_iff.mpr c5
    subst c5
    have H1 : (some false) = some r := by rw [if_neg (show ¬ (false = true) by decide)] at H; exact H
    clear H
    have H := H1
    clear H1
    obtain rfl := Option.some.inj H
    go_enter Try.func4, Try.ntmps4
    go_wp2_with (first | ((with_reducible refine gate_callee (f := 8) rfl ?_); refine goesL_ (some 17) rfl rfl Try.func8 (by kernel_rfl) rfl #[] rfl (by (try simp only [List.map_toArray, List.map_cons, List.map_nil]); first | done | rfl | (simp only [List.length_drop, List.length_take]; rfl)) ?_; (with_reducible refine (turnbucklelaw01_speaks.calls k  false _ A4.out).mono ?_); rintro e w31 ⟨rfl, hb⟩; refine ⟨_, rfl, ?_⟩; have n0_ := Aside0.mk (below_step (by repeat (first | (with_reducible first | exact HB.out | apply below_alloc | apply pw_below_drewN | apply below_drew1) | exact HB.out)) hb); clear HB; have HB := n0_; clear n0_; (try clear hb); (try clear hb2); (try clear hk); (try clear hi)))
    go_ret
    exact ⟨by first | rfl | (simp [errW_none, errW_some] <;> rfl) | (simp [*, errW_none, errW_some] <;> rfl), by repeat (first | (with_reducible first | exact HB.out | apply below_alloc | apply pw_below_drewN | apply below_drew1) | exact HB.out)⟩

/-- THE ONE PURE STATEMENT of turnbucklelaw01_LeParts: yours. -/
def turnbucklelaw01_LeParts.Pure : Prop := ∀ (a0 : ByteArray) (a1 : Int) (a2 : Int), a0.size ≤ 140737488351232 → (Lit.int .u64 a1).wf = true → (Lit.int .i64 a2).wf = true → ∃ k, turnbucklelaw01_LeParts.f k a0 a1 a2 = some true
theorem turnbucklelaw01_LeParts.walk (P : turnbucklelaw01_LeParts.Pure) (a0 : ByteArray) (a1 : Int) (a2 : Int) (w : World) (w0 : a0.size ≤ 140737488351232) (w1 : (Lit.int .u64 a1).wf = true) (w2 : (Lit.int .i64 a2).wf = true) :
    Calls Try.prog 4 #[.string a0, .int .u64 a1, .int .i64 a2] w fun e w' => e = .returned (.bool true) ∧ Below w.heap.size w w' := by
  obtain ⟨k, h⟩ := P a0 a1 a2 w0 w1 w2
  refine (turnbucklelaw01_LeParts.calls k a0 a1 a2 true w h).mono ?_
  rintro e w' ⟨rfl, hd⟩
  exact ⟨rfl, hd⟩

end Go.Proofs.Ytdiecgjhmlljmaa.PAll
