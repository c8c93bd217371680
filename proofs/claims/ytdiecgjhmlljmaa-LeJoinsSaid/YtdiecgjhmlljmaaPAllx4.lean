-- Written by a program of this session (a changed copy of the print of the kit). Not trusted: Lean checks it.
import Derived.Test.YtdiecgjhmlljmaaPAllx0
import Derived.Test.YtdiecgjhmlljmaaPAllx1
import Derived.Test.YtdiecgjhmlljmaaPAllx3
namespace Go.Proofs.Ytdiecgjhmlljmaa.PAll
open Go.RowKit Go.Proofs.YtdiecgjhmlljmaaW.PrintWords Go.Proofs.YtdiecgjhmlljmaaW.PrintLast Go.Proofs.YtdiecgjhmlljmaaW.PrintMore
attribute [local go_sem] max2_int min2_int max_two min_two max_three min_three max_four min_four   -- for this text's walks alone
set_option linter.unusedVariables false
set_option linter.unusedSimpArgs false

/-! ### turnbucklelaw01_LeNumbers: function 3 -/
def turnbucklelaw01_LeNumbers.j0 : Nat → Int → Int → ByteArray → Bool → Option (Bool)
  | 0, _, _, _, _ => none
  | k + 1, x0, x1, x7, x26 => if x26 = true then (some false) else (if x1 < 1 then (some true) else (if x1 > 8 then (some true) else (if (x7.size : Int) = x1 then ((le_Get.f k x7).bind fun t127 => ((turnbuckleref01_Get.f k x7).bind fun t128 => (if t127 = t128 then (if x1 < 8 then (some true) else ((le_Get.f k x7).bind fun t129 => (some (t129 == x0)))) else (some false)))) else (some false))))
def turnbucklelaw01_LeNumbers.f (k : Nat) (a0 : Int) (a1 : Int) (a2 : Int) : Option (Bool) := (turnbucklelaw01_speaks.f k).bind fun t122 => (if t122 = true then ((le_Put.f k a0 a1).bind fun t123 => ((turnbuckleref01_Put.f k a0 a1).bind fun t124 => (if t123.toList = t124.toList then ((le_Extend.f a0 a2).bind fun t125 => ((turnbuckleref01_Extend.f k a0 a2).bind fun t126 => (turnbucklelaw01_LeNumbers.j0 k a0 a1 t123 (t125 != t126)))) else (turnbucklelaw01_LeNumbers.j0 k a0 a1 t123 true)))) else (some false))
theorem turnbucklelaw01_LeNumbers.mono_l : ∀ k, (∀ y0 y1 y2 y3, LeO (turnbucklelaw01_LeNumbers.j0 k y0 y1 y2 y3) (turnbucklelaw01_LeNumbers.j0 (k + 1) y0 y1 y2 y3))
  | 0 => fun _ _ _ _ r h => by simp [turnbucklelaw01_LeNumbers.j0] at h
  | k + 1 => by
    have ih0 := turnbucklelaw01_LeNumbers.mono_l k
    · intro y0 y1 y2 y3
      unfold turnbucklelaw01_LeNumbers.j0
      repeat' first
      | (with_reducible exact ih0 _ _ _ _)
      | (with_reducible exact le_Get.mono _ _)
      | (with_reducible exact le_Put.mono _ _ _)
      | (with_reducible exact turnbucklelaw01_speaks.mono _)
      | (with_reducible exact turnbuckleref01_Extend.mono _ _ _)
      | (with_reducible exact turnbuckleref01_Get.mono _ _)
      | (with_reducible exact turnbuckleref01_Put.mono _ _ _)
      | (with_reducible exact LeO.refl _)
      | (with_reducible exact LeO.none _)
      | (with_reducible refine LeO.ite ?_ ?_)
      | (with_reducible refine LeO.bind ?_ (fun _ => ?_))
      | exact ih0 _ _ _ _
      | exact le_Get.mono _ _
      | exact le_Put.mono _ _ _
      | exact turnbucklelaw01_speaks.mono _
      | exact turnbuckleref01_Extend.mono _ _ _
      | exact turnbuckleref01_Get.mono _ _
      | exact turnbuckleref01_Put.mono _ _ _
      | exact LeO.none _
      | refine LeO.ite ?_ ?_
      | refine LeO.bind ?_ (fun _ => ?_)
theorem turnbucklelaw01_LeNumbers.mono : ∀ a0 a1 a2 k, LeO (turnbucklelaw01_LeNumbers.f k a0 a1 a2) (turnbucklelaw01_LeNumbers.f (k + 1) a0 a1 a2) := by
  intro a0 a1 a2 k
  have ih0 := turnbucklelaw01_LeNumbers.mono_l k
  unfold turnbucklelaw01_LeNumbers.f
  repeat' first
      | (with_reducible exact ih0 _ _ _ _)
      | (with_reducible exact le_Get.mono _ _)
      | (with_reducible exact le_Put.mono _ _ _)
      | (with_reducible exact turnbucklelaw01_speaks.mono _)
      | (with_reducible exact turnbuckleref01_Extend.mono _ _ _)
      | (with_reducible exact turnbuckleref01_Get.mono _ _)
      | (with_reducible exact turnbuckleref01_Put.mono _ _ _)
      | (with_reducible exact LeO.refl _)
      | (with_reducible exact LeO.none _)
      | (with_reducible refine LeO.ite ?_ ?_)
      | (with_reducible refine LeO.bind ?_ (fun _ => ?_))
      | exact ih0 _ _ _ _
      | exact le_Get.mono _ _
      | exact le_Put.mono _ _ _
      | exact turnbucklelaw01_speaks.mono _
      | exact turnbuckleref01_Extend.mono _ _ _
      | exact turnbuckleref01_Get.mono _ _
      | exact turnbuckleref01_Put.mono _ _ _
      | exact LeO.none _
      | refine LeO.ite ?_ ?_
      | refine LeO.bind ?_ (fun _ => ?_)
set_option maxHeartbeats 8000000 in
set_option maxRecDepth 100000 in
theorem turnbucklelaw01_LeNumbers.calls (k : Nat) (a0 : Int) (a1 : Int) (a2 : Int) (r : Bool) (w : World) (h : turnbucklelaw01_LeNumbers.f k a0 a1 a2 = some r) :
    Calls Try.prog 3 #[.int .u64 a0, .int .i64 a1, .int .i64 a2] w fun e w' => e = .returned (.bool r) ∧ Below w.heap.size w w' := by
  have HB := Aside0.mk (Below.refl w.heap.size w)
  have H : ((turnbucklelaw01_speaks.f k).bind fun t122 => (if t122 = true then ((le_Put.f k a0 a1).bind fun t123 => ((turnbuckleref01_Put.f k a0 a1).bind fun t124 => (if t123.toList = t124.toList then ((le_Extend.f a0 a2).bind fun t125 => ((turnbuckleref01_Extend.f k a0 a2).bind fun t126 => (turnbucklelaw01_LeNumbers.j0 k a0 a1 t123 (t125 != t126)))) else (turnbucklelaw01_LeNumbers.j0 k a0 a1 t123 true)))) else (some false))) = some r := h
  clear h
  replace H := Option.bind_eq_some_iff.mp H
  obtain ⟨t122, A40, H⟩ := H
  replace H : (if t122 = true then ((le_Put.f k a0 a1).bind fun t123 => ((turnbuckleref01_Put.f k a0 a1).bind fun t124 => (if t123.toList = t124.toList then ((le_Extend.f a0 a2).bind fun t125 => ((turnbuckleref01_Extend.f k a0 a2).bind fun t126 => (turnbucklelaw01_LeNumbers.j0 k a0 a1 t123 (t125 != t126)))) else (turnbucklelaw01_LeNumbers.j0 k a0 a1 t123 true)))) else (some false)) = some r := H
  have A4 := Aside0.mk A40
  clear A40
  by_cases c5 : t122 = true
  · subst c5
    have H1 : ((le_Put.f k a0 a1).bind fun t123 => ((turnbuckleref01_Put.f k a0 a1).bind fun t124 => (if t123.toList = t124.toList then ((le_Extend.f a0 a2).bind fun t125 => ((turnbuckleref01_Extend.f k a0 a2).bind fun t126 => (turnbucklelaw01_LeNumbers.j0 k a0 a1 t123 (t125 != t126)))) else (turnbucklelaw01_LeNumbers.j0 k a0 a1 t123 true)))) = some r := by rw [if_pos rfl] at H; exact H
    clear H
    have H := H1
    clear H1
    replace H := Option.bind_eq_some_iff.mp H
    obtain ⟨t123, A60, H⟩ := H
    replace H : ((turnbuckleref01_Put.f k a0 a1).bind fun t124 => (if t123.toList = t124.toList then ((le_Extend.f a0 a2).bind fun t125 => ((turnbuckleref01_Extend.f k a0 a2).bind fun t126 => (turnbucklelaw01_LeNumbers.j0 k a0 a1 t123 (t125 != t126)))) else (turnbucklelaw01_LeNumbers.j0 k a0 a1 t123 true))) = some r := H
    have A6 := Aside0.mk A60
    clear A60
    have HC7 := Aside0.mk H
    clear H
    go_enter Try.func3, Try.ntmps3
    go_upto_region 4 with (first | ((with_reducible refine gate_callee (f := 8) rfl ?_); refine goesL_ (some 8) rfl rfl Try.func8 (by kernel_rfl) rfl #[] rfl (by (try simp only [List.map_toArray, List.map_cons, List.map_nil]); first | done | rfl | (simp only [List.length_drop, List.length_take]; rfl)) ?_; (with_reducible refine (turnbucklelaw01_speaks.calls k  true _ A4.out).mono ?_); rintro e w8 ⟨rfl, hb⟩; refine ⟨_, rfl, ?_⟩; have n0_ := Aside0.mk (below_step (by repeat (first | (with_reducible first | exact HB.out | apply below_alloc | apply pw_below_drewN | apply below_drew1) | exact HB.out)) hb); clear HB; have HB := n0_; clear n0_; (try clear hb); (try clear hb2); (try clear hk); (try clear hi)) | ((with_reducible refine gate_callee (f := 9) rfl ?_); refine goesL_ (some 12) rfl rfl Try.func9 (by kernel_rfl) rfl #[.int .u64 a0, .int .i64 a1] rfl (by (try simp only [List.map_toArray, List.map_cons, List.map_nil]); first | done | rfl | (simp only [List.length_drop, List.length_take]; rfl)) ?_; (with_reducible refine (le_Put.calls k a0 a1 t123 _ A6.out).mono ?_); rintro e w9 ⟨rfl, hb⟩; refine ⟨_, rfl, ?_⟩; have n0_ := Aside0.mk (below_step (by repeat (first | (with_reducible first | exact HB.out | apply below_alloc | apply pw_below_drewN | apply below_drew1) | exact HB.out)) hb); clear HB; have HB := n0_; clear n0_; (try clear hb); (try clear hb2); (try clear hk); (try clear hi)))
    (try simp only [Act.put, List.setIfInBounds_toArray, List.set_cons_zero, List.set_cons_succ])
    go_cut [26] (fun v26 wc => ∃ (kq : Nat) (x26_6 : Bool), v26 = .bool x26_6 ∧ Aside0 (turnbucklelaw01_LeNumbers.j0 kq a0 a1 t123 x26_6 = some r) ∧ Aside0 (kq ≤ k) ∧ Aside0 (Below w.heap.size w wc))
    case first =>
      have H := HC7.out
      clear HC7
      replace H := Option.bind_eq_some_iff.mp H
      obtain ⟨t124, A100, H⟩ := H
      replace H : (if t123.toList = t124.toList then ((le_Extend.f a0 a2).bind fun t125 => ((turnbuckleref01_Extend.f k a0 a2).bind fun t126 => (turnbucklelaw01_LeNumbers.j0 k a0 a1 t123 (t125 != t126)))) else (turnbucklelaw01_LeNumbers.j0 k a0 a1 t123 true)) = some r := H
      have A10 := Aside0.mk A100
      clear A100
      by_cases c11 : t123.toList = t124.toList
      · rw [if_pos c11] at H
        have c11b0 : (t123.toList == t124.toList) = true := beq_iff_eq.mpr c11
        have c11b1 : (t123.toList != t124.toList) = false := bne_eq_false_iff_eq.mpr c11
        clear c11
        (first | rw [c11b0] | (simp only [i64_w, i32_w]; rw [c11b0]) | skip)
        replace H := Option.bind_eq_some_iff.mp H
        obtain ⟨t125, A120, H⟩ := H
        replace H : ((turnbuckleref01_Extend.f k a0 a2).bind fun t126 => (turnbucklelaw01_LeNumbers.j0 k a0 a1 t123 (t125 != t126))) = some r := H
        have A12 := Aside0.mk A120
        clear A120
        replace H := Option.bind_eq_some_iff.mp H
        obtain ⟨t126, A130, H⟩ := H
        replace H : (turnbucklelaw01_LeNumbers.j0 k a0 a1 t123 (t125 != t126)) = some r := H
        have A13 := Aside0.mk A130
        clear A130
        have H' := Aside0.mk H
        clear H
        go_wp2_with (first | ((with_reducible refine gate_callee (f := 10) rfl ?_); refine goesL_ (some 16) rfl rfl Try.func10 (by kernel_rfl) rfl #[.int .u64 a0, .int .i64 a1] rfl (by (try simp only [List.map_toArray, List.map_cons, List.map_nil]); first | done | rfl | (simp only [List.length_drop, List.length_take]; rfl)) ?_; (with_reducible refine (turnbuckleref01_Put.calls k a0 a1 t124 _ A10.out).mono ?_); rintro e w14 ⟨rfl, hb⟩; refine ⟨_, rfl, ?_⟩; have n0_ := Aside0.mk (below_step (by repeat (first | (with_reducible first | exact HB.out | apply below_alloc | apply pw_below_drewN | apply below_drew1) | exact HB.out)) hb); clear HB; have HB := n0_; clear n0_; (try clear hb); (try clear hb2); (try clear hk); (try clear hi)) | (go_at_call 11; (with_reducible refine (le_Extend.calls a0 a2 t125 _ A12.out).mono ?_); rintro e w' ⟨rfl, ⟨nd, rfl⟩⟩) | (go_at_call 12; (with_reducible refine (turnbuckleref01_Extend.calls k a0 a2 t126 _ A13.out).mono ?_); rintro e w' ⟨rfl, ⟨nd, rfl⟩⟩))
        go_meet
        case rel => exact ⟨_, ((t125 != t126)), (by first | rfl | (simp; done) | (simp [*]; done)), H', ⟨by first | omega | exact Nat.le_refl _⟩, ⟨by repeat (first | (with_reducible first | exact HB.out | apply below_alloc | apply pw_below_drewN | apply below_drew1) | exact HB.out)⟩⟩
      · rw [if_neg c11] at H
        have c11b0 : (t123.toList == t124.toList) = false := beq_eq_false_iff_ne.mpr c11
        have c11b1 : (t123.toList != t124.toList) = true := bne_iff_ne.mpr c11
        (first | rw [c11b0] | (simp only [i64_w, i32_w]; rw [c11b0]) | skip)
        have H' := Aside0.mk H
        clear H
        go_wp2_with (first | ((with_reducible refine gate_callee (f := 10) rfl ?_); refine goesL_ (some 16) rfl rfl Try.func10 (by kernel_rfl) rfl #[.int .u64 a0, .int .i64 a1] rfl (by (try simp only [List.map_toArray, List.map_cons, List.map_nil]); first | done | rfl | (simp only [List.length_drop, List.length_take]; rfl)) ?_; (with_reducible refine (turnbuckleref01_Put.calls k a0 a1 t124 _ A10.out).mono ?_); rintro e w15 ⟨rfl, hb⟩; refine ⟨_, rfl, ?_⟩; have n0_ := Aside0.mk (below_step (by repeat (first | (with_reducible first | exact HB.out | apply below_alloc | apply pw_below_drewN | apply below_drew1) | exact HB.out)) hb); clear HB; have HB := n0_; clear n0_; (try clear hb); (try clear hb2); (try clear hk); (try clear hi)))
        go_meet
        case rel => exact ⟨_, (true), (by first | rfl | (simp; done) | (simp [*]; done)), H', ⟨by first | omega | exact Nat.le_refl _⟩, ⟨by repeat (first | (with_reducible first | exact HB.out | apply below_alloc | apply pw_below_drewN | apply below_drew1) | exact HB.out)⟩⟩
    case rest =>
      clear HC7
      try clear c1
      try clear p2
      try clear c3
      try clear c5
      try clear c8
      try clear c9
      try clear c10
      try clear c11
      try clear c11b0
      try clear c11b1
      obtain ⟨kq, x26_6, rfl, HA, HJ6, HB⟩ := hcut
      cases kq with
      | zero => exact absurd HA.out (by simp [turnbucklelaw01_LeNumbers.j0])
      | succ kj6 =>
        have H := HA.out
        clear HA
        simp only [turnbucklelaw01_LeNumbers.j0] at H
        by_cases c16 : x26_6 = true
        · subst c16
          have H1 : (some false) = some r := by rw [if_pos rfl] at H; exact H
          clear H
          have H := H1
          clear H1
          obtain rfl := Option.some.inj H
          go_wp2
          go_ret
          exact ⟨by first | rfl | (simp [errW_none, errW_some] <;> rfl) | (simp [*, errW_none, errW_some] <;> rfl), by repeat (first | (with_reducible first | exact HB.out | apply below_alloc | apply pw_below_drewN | apply below_drew1) | exact HB.out)⟩
        · replace c16 := Bool.eq_false_iff.mpr c16
          subst c16
          have H1 : (if a1 < 1 then (some true) else (if a1 > 8 then (some true) else (if (t123.size : Int) = a1 then ((le_Get.f kj6 t123).bind fun t127 => ((turnbuckleref01_Get.f kj6 t123).bind fun t128 => (if t127 = t128 then (if a1 < 8 then (some true) else ((le_Get.f kj6 t123).bind fun t129 => (some (t129 == a0)))) else (some false)))) else (some false)))) = some r := by rw [if_neg (show ¬ (false = true) by decide)] at H; exact H
          clear H
          have H := H1
          clear H1
          by_cases c17 : a1 < 1
          · rw [if_pos c17] at H
            have c17b0 : decide (a1 < 1) = true := decide_eq_true c17
            clear c17
            obtain rfl := Option.some.inj H
            go_wp2
            go_ret
            exact ⟨by first | rfl | (simp [errW_none, errW_some] <;> rfl) | (simp [*, errW_none, errW_some] <;> rfl), by repeat (first | (with_reducible first | exact HB.out | apply below_alloc | apply pw_below_drewN | apply below_drew1) | exact HB.out)⟩
          · rw [if_neg c17] at H
            have c17b0 : decide (a1 < 1) = false := decide_eq_false c17
            clear c17
            by_cases c18 : a1 > 8
            · rw [if_pos c18] at H
              have c18b0 : decide (8 < a1) = true := decide_eq_true c18
              clear c18
              obtain rfl := Option.some.inj H
              go_wp2
              go_ret
              exact ⟨by first | rfl | (simp [errW_none, errW_some] <;> rfl) | (simp [*, errW_none, errW_some] <;> rfl), by repeat (first | (with_reducible first | exact HB.out | apply below_alloc | apply pw_below_drewN | apply below_drew1) | exact HB.out)⟩
            · rw [if_neg c18] at H
              have c18b0 : decide (8 < a1) = false := decide_eq_false c18
              clear c18
              by_cases c19 : (t123.size : Int) = a1
              · rw [if_pos c19] at H
                have c19b0 : ((t123.size : Int) == a1) = true := beq_iff_eq.mpr c19
                have c19b1 : ((t123.size : Int) != a1) = false := bne_eq_false_iff_eq.mpr c19
                clear c19
                replace H := Option.bind_eq_some_iff.mp H
                obtain ⟨t127, A200, H⟩ := H
                replace H : ((turnbuckleref01_Get.f kj6 t123).bind fun t128 => (if t127 = t128 then (if a1 < 8 then (some true) else ((le_Get.f kj6 t123).bind fun t129 => (some (t129 == a0)))) else (some false))) = some r := H
                have A20 := Aside0.mk A200
                clear A200
                replace H := Option.bind_eq_some_iff.mp H
                obtain ⟨t128, A210, H⟩ := H
                replace H : (if t127 = t128 then (if a1 < 8 then (some true) else ((le_Get.f kj6 t123).bind fun t129 => (some (t129 == a0)))) else (some false)) = some r := H
                have A21 := Aside0.mk A210
                clear A210
                by_cases c22 : t127 = t128
                · rw [if_pos c22] at H
                  have c22b0 : (t127 == t128) = true := beq_iff_eq.mpr c22
                  have c22b1 : (t127 != t128) = false := bne_eq_false_iff_eq.mpr c22
                  clear c22
                  by_cases c23 : a1 < 8
                  · rw [if_pos c23] at H
                    have c23b0 : decide (a1 < 8) = true := decide_eq_true c23
                    clear c23
                    obtain rfl := Option.some.inj H
                    go_wp2_with (first | (go_at_call 13; (with_reducible refine (le_Get.calls kj6 t123 t127 _ A20.out).mono ?_); rintro e w' ⟨rfl, ⟨nd, rfl⟩⟩) | (go_at_call 14; (with_reducible refine (turnbuckleref01_Get.calls kj6 t123 t128 _ A21.out).mono ?_); rintro e w' ⟨rfl, ⟨nd, rfl⟩⟩))
                    go_ret
                    exact ⟨by first | rfl | (simp [errW_none, errW_some] <;> rfl) | (simp [*, errW_none, errW_some] <;> rfl), by repeat (first | (with_reducible first | exact HB.out | apply below_alloc | apply pw_below_drewN | apply below_drew1) | exact HB.out)⟩
                  · rw [if_neg c23] at H
                    have c23b0 : decide (a1 < 8) = false := decide_eq_false c23
                    clear c23
                    replace H := Option.bind_eq_some_iff.mp H
                    obtain ⟨t129, A240, H⟩ := H
                    replace H : (some (t129 == a0)) = some r := H
                    have A24 := Aside0.mk A240
                    clear A240
                    have E_ := Option.some.inj (A20.out.symm.trans A24.out)
                    subst E_
                    clear A24
                    obtain rfl := Option.some.inj H
                    go_wp2_with (first | (go_at_call 13; (with_reducible refine (le_Get.calls kj6 t123 t127 _ A20.out).mono ?_); rintro e w' ⟨rfl, ⟨nd, rfl⟩⟩) | (go_at_call 14; (with_reducible refine (turnbuckleref01_Get.calls kj6 t123 t128 _ A21.out).mono ?_); rintro e w' ⟨rfl, ⟨nd, rfl⟩⟩))
                    go_ret
                    exact ⟨by first | rfl | (simp [errW_none, errW_some] <;> rfl) | (simp [*, errW_none, errW_some] <;> rfl), by repeat (first | (with_reducible first | exact HB.out | apply below_alloc | apply pw_below_drewN | apply below_drew1) | exact HB.out)⟩
                · rw [if_neg c22] at H
                  have c22b0 : (t127 == t128) = false := beq_eq_false_iff_ne.mpr c22
                  have c22b1 : (t127 != t128) = true := bne_iff_ne.mpr c22
                  obtain rfl := Option.some.inj H
                  go_wp2_with (first | (go_at_call 13; (with_reducible refine (le_Get.calls kj6 t123 t127 _ A20.out).mono ?_); rintro e w' ⟨rfl, ⟨nd, rfl⟩⟩) | (go_at_call 14; (with_reducible refine (turnbuckleref01_Get.calls kj6 t123 t128 _ A21.out).mono ?_); rintro e w' ⟨rfl, ⟨nd, rfl⟩⟩))
                  go_ret
                  exact ⟨by first | rfl | (simp [errW_none, errW_some] <;> rfl) | (simp [*, errW_none, errW_some] <;> rfl), by repeat (first | (with_reducible first | exact HB.out | apply below_alloc | apply pw_below_drewN | apply below_drew1) | exact HB.out)⟩
              · rw [if_neg c19] at H
                have c19b0 : ((t123.size : Int) == a1) = false := beq_eq_false_iff_ne.mpr c19
                have c19b1 : ((t123.size : Int) != a1) = true := bne_iff_ne.mpr c19
                obtain rfl := Option.some.inj H
                go_wp2
                go_ret
                exact ⟨by first | rfl | (simp [errW_none, errW_some] <;> rfl) | (simp [*, errW_none, errW_some] <;> rfl), by repeat (first | (with_reducible first | exact HB.out | apply below_alloc | apply pw_below_drewN | apply below_drew1) | exact HB.out)⟩
  · replace c5 := Bool.eq_false_iff.mpr c5
    subst c5
    have H1 : (some false) = some r := by rw [if_neg (show ¬ (false = true) by decide)] at H; exact H
    clear H
    have H := H1
    clear H1
    obtain rfl := Option.some.inj H
    go_enter Try.func3, Try.ntmps3
    go_wp2_with (first | ((with_reducible refine gate_callee (f := 8) rfl ?_); refine goesL_ (some 8) rfl rfl Try.func8 (by kernel_rfl) rfl #[] rfl (by (try simp only [List.map_toArray, List.map_cons, List.map_nil]); first | done | rfl | (simp only [List.length_drop, List.length_take]; rfl)) ?_; (with_reducible refine (turnbucklelaw01_speaks.calls k  false _ A4.out).mono ?_); rintro e w25 ⟨rfl, hb⟩; refine ⟨_, rfl, ?_⟩; have n0_ := Aside0.mk (below_step (by repeat (first | (with_reducible first | exact HB.out | apply below_alloc | apply pw_below_drewN | apply below_drew1) | exact HB.out)) hb); clear HB; have HB := n0_; clear n0_; (try clear hb); (try clear hb2); (try clear hk); (try clear hi)))
    go_ret
    exact ⟨by first | rfl | (simp [errW_none, errW_some] <;> rfl) | (simp [*, errW_none, errW_some] <;> rfl), by repeat (first | (with_reducible first | exact HB.out | apply below_alloc | apply pw_below_drewN | apply below_drew1) | exact HB.out)⟩

/-- THE ONE PURE STATEMENT of turnbucklelaw01_LeNumbers: yours. -/
def turnbucklelaw01_LeNumbers.Pure : Prop := ∀ (a0 : Int) (a1 : Int) (a2 : Int), (Lit.int .u64 a0).wf = true → (Lit.int .i64 a1).wf = true → (Lit.int .i64 a2).wf = true → ∃ k, turnbucklelaw01_LeNumbers.f k a0 a1 a2 = some true
theorem turnbucklelaw01_LeNumbers.walk (P : turnbucklelaw01_LeNumbers.Pure) (a0 : Int) (a1 : Int) (a2 : Int) (w : World) (w0 : (Lit.int .u64 a0).wf = true) (w1 : (Lit.int .i64 a1).wf = true) (w2 : (Lit.int .i64 a2).wf = true) :
    Calls Try.prog 3 #[.int .u64 a0, .int .i64 a1, .int .i64 a2] w fun e w' => e = .returned (.bool true) ∧ Below w.heap.size w w' := by
  obtain ⟨k, h⟩ := P a0 a1 a2 w0 w1 w2
  refine (turnbucklelaw01_LeNumbers.calls k a0 a1 a2 true w h).mono ?_
  rintro e w' ⟨rfl, hd⟩
  exact ⟨rfl, hd⟩

/-! ### turnbuckleref01_Part: function 16 -/
def turnbuckleref01_Part.f (a0 : ByteArray) (a1 : Int) (a2 : Int) : Option (ByteArray × Bool) := if a2 > (IntKind.u64.wrap ((a0.size : Int))) then (some ((⟨#[]⟩ : ByteArray), false)) else (if a1 > (IntKind.u64.wrap ((IntKind.u64.wrap ((a0.size : Int))) - a2)) then (some ((⟨#[]⟩ : ByteArray), false)) else (if 0 ≤ (wrap64 (a1)) then (if (wrap64 (a1)) ≤ (wrap64 ((wrap64 (a1)) + (wrap64 (a2)))) then (if (wrap64 ((wrap64 (a1)) + (wrap64 (a2)))) ≤ (a0.size : Int) then (some (a0.extract ((wrap64 (a1)) : Int).toNat ((wrap64 ((wrap64 (a1)) + (wrap64 (a2)))) : Int).toNat, true)) else (none)) else (none)) else (none)))
set_option maxHeartbeats 8000000 in
set_option maxRecDepth 100000 in
theorem turnbuckleref01_Part.calls (a0 : ByteArray) (a1 : Int) (a2 : Int) (r1 : ByteArray) (r2 : Bool) (w : World) (h : turnbuckleref01_Part.f a0 a1 a2 = some (r1, r2)) :
    Calls Try.prog 16 #[.string a0, .int .u64 a1, .int .u64 a2] w fun e w' => e = .returned (.tuple #[.string r1, .bool r2]) ∧ Drawn0 w w' := by
  have H : (if a2 > (IntKind.u64.wrap ((a0.size : Int))) then (some ((⟨#[]⟩ : ByteArray), false)) else (if a1 > (IntKind.u64.wrap ((IntKind.u64.wrap ((a0.size : Int))) - a2)) then (some ((⟨#[]⟩ : ByteArray), false)) else (if 0 ≤ (wrap64 (a1)) then (if (wrap64 (a1)) ≤ (wrap64 ((wrap64 (a1)) + (wrap64 (a2)))) then (if (wrap64 ((wrap64 (a1)) + (wrap64 (a2)))) ≤ (a0.size : Int) then (some (a0.extract ((wrap64 (a1)) : Int).toNat ((wrap64 ((wrap64 (a1)) + (wrap64 (a2)))) : Int).toNat, true)) else (none)) else (none)) else (none)))) = some (r1, r2) := h
  clear h
  by_cases c4 : a2 > (IntKind.u64.wrap ((a0.size : Int)))
  · rw [if_pos c4] at H
    have c4b0 : decide ((IntKind.u64.wrap ((a0.size : Int))) < a2) = true := decide_eq_true c4
    clear c4
    simp only [Option.some.injEq, Prod.mk.injEq] at H
    obtain ⟨rfl, rfl⟩ := H
    go_enter Try.func16, Try.ntmps16
    go_wp2
    go_ret2
    exact ⟨by first | rfl | (simp; done) | (simp [*]; done), by repeat (first | exact Drawn0.refl _ | apply Drawn0.step)⟩
  · rw [if_neg c4] at H
    have c4b0 : decide ((IntKind.u64.wrap ((a0.size : Int))) < a2) = false := decide_eq_false c4
    clear c4
    by_cases c5 : a1 > (IntKind.u64.wrap ((IntKind.u64.wrap ((a0.size : Int))) - a2))
    · rw [if_pos c5] at H
      have c5b0 : decide ((IntKind.u64.wrap ((IntKind.u64.wrap ((a0.size : Int))) - a2)) < a1) = true := decide_eq_true c5
      clear c5
      simp only [Option.some.injEq, Prod.mk.injEq] at H
      obtain ⟨rfl, rfl⟩ := H
      go_enter Try.func16, Try.ntmps16
      go_wp2
      go_ret2
      exact ⟨by first | rfl | (simp; done) | (simp [*]; done), by repeat (first | exact Drawn0.refl _ | apply Drawn0.step)⟩
    · rw [if_neg c5] at H
      have c5b0 : decide ((IntKind.u64.wrap ((IntKind.u64.wrap ((a0.size : Int))) - a2)) < a1) = false := decide_eq_false c5
      clear c5
      obtain ⟨ji6, hji6⟩ : ∃ j_ : Int, (wrap64 (a1)) = j_ := ⟨_, rfl⟩
      replace H : (if 0 ≤ (ji6) then (if (ji6) ≤ (wrap64 ((ji6) + (wrap64 (a2)))) then (if (wrap64 ((ji6) + (wrap64 (a2)))) ≤ (a0.size : Int) then (some (a0.extract ((ji6) : Int).toNat ((wrap64 ((ji6) + (wrap64 (a2)))) : Int).toNat, true)) else (none)) else (none)) else (none)) = some (r1, r2) := by first | (rw [hji6] at H; exact H) | (simp only [hji6] at H ⊢; exact H)
      have hji6w : (IntKind.i64.wrap (a1)) = ji6 := (i64_w _).trans hji6
      by_cases c7 : 0 ≤ (ji6)
      · rw [if_pos c7] at H
        have c7b0 := eq_true c7
        have c7b1 : decide (0 ≤ (ji6)) = true := decide_eq_true c7
        clear c7
        by_cases c8 : (ji6) ≤ (wrap64 ((ji6) + (wrap64 (a2))))
        · rw [if_pos c8] at H
          have c8b0 := eq_true c8
          have c8b1 : decide ((ji6) ≤ (wrap64 ((ji6) + (wrap64 (a2))))) = true := decide_eq_true c8
          by_cases c9 : (wrap64 ((ji6) + (wrap64 (a2)))) ≤ (a0.size : Int)
          · rw [if_pos c9] at H
            have c9b0 := eq_true c9
            have c9b1 : decide ((wrap64 ((ji6) + (wrap64 (a2)))) ≤ (a0.size : Int)) = true := decide_eq_true c9
            simp only [Option.some.injEq, Prod.mk.injEq] at H
            obtain ⟨rfl, rfl⟩ := H
            go_enter Try.func16, Try.ntmps16
            go_wp2
            go_ret2
            exact ⟨by first | rfl | (simp; done) | (simp only [← hji6] <;> (first | rfl | simp)) | (simp [*]; done), by repeat (first | exact Drawn0.refl _ | apply Drawn0.step)⟩
          · rw [if_neg c9] at H
            exact absurd H (by simp)
        · rw [if_neg c8] at H
          exact absurd H (by simp)
      · rw [if_neg c7] at H
        exact absurd H (by simp)

/-! ### turnbuckleref01_Text: function 18 -/
def turnbuckleref01_Text.l0 : Nat → ByteArray → Int → Int → Int → Option (ByteArray × Bool)
  | 0, _, _, _, _ => none
  | k + 1, x0, x1, x2, x8 => if x8 < (x0.size : Int) then (if 0 ≤ x8 then (if (bt x0 x8) = 0 then (if (wrap64 (x8 - (wrap64 (x1)))) > x2 then (some ((⟨#[]⟩ : ByteArray), false)) else (if 0 ≤ (wrap64 (x1)) then (if (wrap64 (x1)) ≤ x8 then (if x8 ≤ (x0.size : Int) then (some (x0.extract ((wrap64 (x1)) : Int).toNat (x8 : Int).toNat, true)) else (none)) else (none)) else (none))) else (turnbuckleref01_Text.l0 k x0 x1 x2 (wrap64 (x8 + 1)))) else (none)) else (some ((⟨#[]⟩ : ByteArray), false))
def turnbuckleref01_Text.f (k : Nat) (a0 : ByteArray) (a1 : Int) (a2 : Int) : Option (ByteArray × Bool) := if a1 > (IntKind.u64.wrap ((a0.size : Int))) then (some ((⟨#[]⟩ : ByteArray), false)) else (turnbuckleref01_Text.l0 k a0 a1 a2 (wrap64 (a1)))
theorem turnbuckleref01_Text.mono_l : ∀ k, (∀ y0 y1 y2 y3, LeO (turnbuckleref01_Text.l0 k y0 y1 y2 y3) (turnbuckleref01_Text.l0 (k + 1) y0 y1 y2 y3))
  | 0 => fun _ _ _ _ r h => by simp [turnbuckleref01_Text.l0] at h
  | k + 1 => by
    have ih0 := turnbuckleref01_Text.mono_l k
    · intro y0 y1 y2 y3
      unfold turnbuckleref01_Text.l0
      repeat' first
      | (with_reducible exact ih0 _ _ _ _)
      | (with_reducible exact LeO.refl _)
      | (with_reducible exact LeO.none _)
      | (with_reducible refine LeO.ite ?_ ?_)
      | (with_reducible refine LeO.bind ?_ (fun _ => ?_))
      | exact ih0 _ _ _ _
      | exact LeO.none _
      | refine LeO.ite ?_ ?_
      | refine LeO.bind ?_ (fun _ => ?_)
theorem turnbuckleref01_Text.mono : ∀ a0 a1 a2 k, LeO (turnbuckleref01_Text.f k a0 a1 a2) (turnbuckleref01_Text.f (k + 1) a0 a1 a2) := by
  intro a0 a1 a2 k
  have ih0 := turnbuckleref01_Text.mono_l k
  unfold turnbuckleref01_Text.f
  repeat' first
      | (with_reducible exact ih0 _ _ _ _)
      | (with_reducible exact LeO.refl _)
      | (with_reducible exact LeO.none _)
      | (with_reducible refine LeO.ite ?_ ?_)
      | (with_reducible refine LeO.bind ?_ (fun _ => ?_))
      | exact ih0 _ _ _ _
      | exact LeO.none _
      | refine LeO.ite ?_ ?_
      | refine LeO.bind ?_ (fun _ => ?_)
set_option maxHeartbeats 8000000 in
set_option maxRecDepth 100000 in
theorem turnbuckleref01_Text.calls (k : Nat) (a0 : ByteArray) (a1 : Int) (a2 : Int) (r1 : ByteArray) (r2 : Bool) (w : World) (h : turnbuckleref01_Text.f k a0 a1 a2 = some (r1, r2)) :
    Calls Try.prog 18 #[.string a0, .int .u64 a1, .int .i64 a2] w fun e w' => e = .returned (.tuple #[.string r1, .bool r2]) ∧ Drawn0 w w' := by
  have H : (if a1 > (IntKind.u64.wrap ((a0.size : Int))) then (some ((⟨#[]⟩ : ByteArray), false)) else (turnbuckleref01_Text.l0 k a0 a1 a2 (wrap64 (a1)))) = some (r1, r2) := h
  clear h
  by_cases c4 : a1 > (IntKind.u64.wrap ((a0.size : Int)))
  · rw [if_pos c4] at H
    have c4b0 : decide ((IntKind.u64.wrap ((a0.size : Int))) < a1) = true := decide_eq_true c4
    clear c4
    simp only [Option.some.injEq, Prod.mk.injEq] at H
    obtain ⟨rfl, rfl⟩ := H
    go_enter Try.func18, Try.ntmps18
    go_wp2
    go_ret2
    exact ⟨by first | rfl | (simp; done) | (simp [*]; done), by repeat (first | exact Drawn0.refl _ | apply Drawn0.step)⟩
  · rw [if_neg c4] at H
    have c4b0 : decide ((IntKind.u64.wrap ((a0.size : Int))) < a1) = false := decide_eq_false c4
    clear c4
    have H' := Aside0.mk H
    clear H
    go_enter Try.func18, Try.ntmps18
    go_wp2
    go_loopg [8] k (fun kq v8 w' => ∃ (x8_1 : Int), v8 = .int .i64 x8_1 ∧ Aside0 (turnbuckleref01_Text.l0 kq a0 a1 a2 x8_1 = some (r1, r2)) ∧ Aside0 (kq ≤ k) ∧ Drawn0 w w')
    case atStart => exact ⟨(wrap64 (a1)), (by first | rfl | (simp; done) | (simp [*]; done)), H', ⟨Nat.le_refl _⟩, by repeat (first | exact Drawn0.refl _ | apply Drawn0.step)⟩
    case round =>
      clear H'
      try clear c1
      try clear p2
      try clear c4
      try clear c4b0
      obtain ⟨x8_1, rfl, HA, HK1, ⟨m1, rfl⟩⟩ := hrel
      cases gk with
      | zero => exact absurd HA.out (by simp [turnbuckleref01_Text.l0])
      | succ k1 =>
        have H := HA.out
        clear HA
        simp only [turnbuckleref01_Text.l0] at H
        by_cases c5 : x8_1 < (a0.size : Int)
        · rw [if_pos c5] at H
          have c5b0 : decide (x8_1 < (a0.size : Int)) = true := decide_eq_true c5
          clear c5
          by_cases c6 : 0 ≤ x8_1
          · rw [if_pos c6] at H
            have c6b0 : decide (0 ≤ x8_1) = true := decide_eq_true c6
            clear c6
            by_cases c8 : (bt a0 x8_1) = 0
            · rw [if_pos c8] at H
              have c8b0 : ((bt a0 x8_1) == 0) = true := beq_iff_eq.mpr c8
              have c8b1 : ((bt a0 x8_1) != 0) = false := bne_eq_false_iff_eq.mpr c8
              clear c8
              by_cases c9 : (wrap64 (x8_1 - (wrap64 (a1)))) > a2
              · rw [if_pos c9] at H
                have c9b0 : decide (a2 < (wrap64 (x8_1 - (wrap64 (a1))))) = true := decide_eq_true c9
                clear c9
                simp only [Option.some.injEq, Prod.mk.injEq] at H
                obtain ⟨rfl, rfl⟩ := H
                have p7 : 0 ≤ (x8_1 : Int) := of_decide_eq_true (by first | (with_reducible assumption) | assumption)
                have q7 : x8_1 < (a0.size : Int) := of_decide_eq_true (by first | (with_reducible assumption) | assumption)
                have hx7 := bt_at a0 x8_1
                replace p7 := eq_true p7
                replace q7 := eq_true q7
                go_wp2
                go_ret2
                exact ⟨by first | rfl | (simp; done) | (simp [*]; done), by repeat (first | exact Drawn0.refl _ | apply Drawn0.step)⟩
              · rw [if_neg c9] at H
                have c9b0 : decide (a2 < (wrap64 (x8_1 - (wrap64 (a1))))) = false := decide_eq_false c9
                clear c9
                obtain ⟨ji10, hji10⟩ : ∃ j_ : Int, (wrap64 (a1)) = j_ := ⟨_, rfl⟩
                replace H : (if 0 ≤ (ji10) then (if (ji10) ≤ x8_1 then (if x8_1 ≤ (a0.size : Int) then (some (a0.extract ((ji10) : Int).toNat (x8_1 : Int).toNat, true)) else (none)) else (none)) else (none)) = some (r1, r2) := by first | (rw [hji10] at H; exact H) | (simp only [hji10] at H ⊢; exact H)
                (try rw [hji10] at c9b0)
                have hji10w : (IntKind.i64.wrap (a1)) = ji10 := (i64_w _).trans hji10
                by_cases c11 : 0 ≤ (ji10)
                · rw [if_pos c11] at H
                  have c11b0 := eq_true c11
                  have c11b1 : decide (0 ≤ (ji10)) = true := decide_eq_true c11
                  clear c11
                  by_cases c12 : (ji10) ≤ x8_1
                  · rw [if_pos c12] at H
                    have c12b0 := eq_true c12
                    have c12b1 : decide ((ji10) ≤ x8_1) = true := decide_eq_true c12
                    clear c12
                    by_cases c13 : x8_1 ≤ (a0.size : Int)
                    · rw [if_pos c13] at H
                      have c13b0 := eq_true c13
                      have c13b1 : decide (x8_1 ≤ (a0.size : Int)) = true := decide_eq_true c13
                      clear c13
                      simp only [Option.some.injEq, Prod.mk.injEq] at H
                      obtain ⟨rfl, rfl⟩ := H
                      have p7 : 0 ≤ (x8_1 : Int) := of_decide_eq_true (by first | (with_reducible assumption) | assumption)
                      have q7 : x8_1 < (a0.size : Int) := of_decide_eq_true (by first | (with_reducible assumption) | assumption)
                      have hx7 := bt_at a0 x8_1
                      replace p7 := eq_true p7
                      replace q7 := eq_true q7
                      go_wp2
                      go_ret2
                      exact ⟨by first | rfl | (simp; done) | (simp only [← hji10] <;> (first | rfl | simp)) | (simp [*]; done), by repeat (first | exact Drawn0.refl _ | apply Drawn0.step)⟩
                    · rw [if_neg c13] at H
                      exact absurd H (by simp)
                  · rw [if_neg c12] at H
                    exact absurd H (by simp)
                · rw [if_neg c11] at H
                  exact absurd H (by simp)
            · rw [if_neg c8] at H
              have c8b0 : ((bt a0 x8_1) == 0) = false := beq_eq_false_iff_ne.mpr c8
              have c8b1 : ((bt a0 x8_1) != 0) = true := bne_iff_ne.mpr c8
              have H' := Aside0.mk H
              clear H
              have p7 : 0 ≤ (x8_1 : Int) := of_decide_eq_true (by first | (with_reducible assumption) | assumption)
              have q7 : x8_1 < (a0.size : Int) := of_decide_eq_true (by first | (with_reducible assumption) | assumption)
              have hx7 := bt_at a0 x8_1
              replace p7 := eq_true p7
              replace q7 := eq_true q7
              go_wp2
              go_roundg k1
              case measure => have := HK1.out; omega
              case rel => exact ⟨(wrap64 (x8_1 + 1)), (by first | rfl | (simp; done) | (simp [*]; done)), H', ⟨by have := HK1.out; omega⟩, by repeat (first | exact Drawn0.refl _ | apply Drawn0.step)⟩
          · rw [if_neg c6] at H
            exact absurd H (by simp)
        · rw [if_neg c5] at H
          have c5b0 : decide (x8_1 < (a0.size : Int)) = false := decide_eq_false c5
          clear c5
          simp only [Option.some.injEq, Prod.mk.injEq] at H
          obtain ⟨rfl, rfl⟩ := H
          go_wp2
          go_ret2
          exact ⟨by first | rfl | (simp; done) | (simp [*]; done), by repeat (first | exact Drawn0.refl _ | apply Drawn0.step)⟩

end Go.Proofs.Ytdiecgjhmlljmaa.PAll
