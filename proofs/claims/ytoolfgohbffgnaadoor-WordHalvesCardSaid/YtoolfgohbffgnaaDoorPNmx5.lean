-- Written by a program of this session (a changed copy of the print of the kit). Not trusted: Lean checks it.
import Derived.Test.YtoolfgohbffgnaaDoorPNmx0
import Derived.Test.YtoolfgohbffgnaaDoorPNmx2
import Derived.Test.YtoolfgohbffgnaaDoorPNmx4
namespace Go.Proofs.YtoolfgohbffgnaaDoor.PNm
open Go.RowKit Go.Proofs.YtoolfgohbffgnaaDoorW.PrintWords Go.Proofs.YtoolfgohbffgnaaDoorW.PrintLast Go.Proofs.YtoolfgohbffgnaaDoorW.PrintMore
attribute [local go_sem] max2_int min2_int max_two min_two max_three min_three max_four min_four   -- for this text's walks alone
set_option linter.unusedVariables false
set_option linter.unusedSimpArgs false

/-! ### turnbucklelaw05_WordShifts: function 6 -/
def turnbucklelaw05_WordShifts.j0 : Nat → Int → Int → Int → Bool → Option (Bool)
 | 0, _, _, _, _ => none
 | k + 1, x0, x1, x5, x40 => if x40 = true then (some false) else ((word_Do.f k 7 x0 x1).bind fun t155 => (if 0 ≤ x5 then (if (Go.bits .or .u64 (shl .u64 t155 x5) (Go.bits .and .u64 x0 (IntKind.u64.wrap ((shl .u64 1 x5) - 1)))) = x0 then (if ((decide ((wrap64 (t155)) < 0)) == (decide ((wrap64 (x0)) < 0))) = true then ((word_Do.f k 8 x0 x1).bind fun t156 => ((word_Do.f k 9 x0 x1).bind fun t157 => ((word_Do.f k 5 t156 t157).bind fun t158 => (some (t158 == (Go.bits .xor .u64 x0 x1)))))) else (some false)) else (some false)) else (none)))
def turnbucklelaw05_WordShifts.f (k : Nat) (a0 : Int) (a1 : Int) : Option (Bool) := (turnbucklelaw05_speaks.f k).bind fun t150 => (if t150 = true then ((word_Do.f k 2 a0 a1).bind fun t151 => ((word_Do.f k 2 a0 (IntKind.u64.wrap (a1 + 64))).bind fun t152 => (if t151 = t152 then ((word_Do.f k 6 t151 a1).bind fun t153 => (if 0 ≤ (Int.tmod a1 64) then (if t153 = (shr .u64 (shl .u64 a0 (Int.tmod a1 64)) (Int.tmod a1 64)) then ((word_Do.f k 6 a0 a1).bind fun t154 => (turnbucklelaw05_WordShifts.j0 k a0 a1 (Int.tmod a1 64) (t154 != (shr .u64 a0 (Int.tmod a1 64))))) else (turnbucklelaw05_WordShifts.j0 k a0 a1 (Int.tmod a1 64) true)) else (none))) else (turnbucklelaw05_WordShifts.j0 k a0 a1 (Int.tmod a1 64) true)))) else (some false))
theorem turnbucklelaw05_WordShifts.mono_l : ∀ k, (∀ y0 y1 y2 y3, LeO (turnbucklelaw05_WordShifts.j0 k y0 y1 y2 y3) (turnbucklelaw05_WordShifts.j0 (k + 1) y0 y1 y2 y3))
 | 0 => fun _ _ _ _ r h => by simp [turnbucklelaw05_WordShifts.j0] at h
 | k + 1 => by
  have ih0 := turnbucklelaw05_WordShifts.mono_l k
  ·intro y0 y1 y2 y3
   unfold turnbucklelaw05_WordShifts.j0
   repeat' first
   | (with_reducible exact ih0 _ _ _ _)
   | (with_reducible exact turnbucklelaw05_speaks.mono _)
   | (with_reducible exact word_Do.mono _ _ _ _)
   | (with_reducible exact LeO.refl _)
   | (with_reducible exact LeO.none _)
   | (with_reducible refine LeO.ite ?_ ?_)
   | (with_reducible refine LeO.bind ?_ (fun _ => ?_))
   | exact ih0 _ _ _ _
   | exact turnbucklelaw05_speaks.mono _
   | exact word_Do.mono _ _ _ _
   | exact LeO.none _
   | refine LeO.ite ?_ ?_
   | refine LeO.bind ?_ (fun _ => ?_)
theorem turnbucklelaw05_WordShifts.mono : ∀ a0 a1 k, LeO (turnbucklelaw05_WordShifts.f k a0 a1) (turnbucklelaw05_WordShifts.f (k + 1) a0 a1) := by
 intro a0 a1 k
 have ih0 := turnbucklelaw05_WordShifts.mono_l k
 unfold turnbucklelaw05_WordShifts.f
 repeat' first
   | (with_reducible exact ih0 _ _ _ _)
   | (with_reducible exact turnbucklelaw05_speaks.mono _)
   | (with_reducible exact word_Do.mono _ _ _ _)
   | (with_reducible exact LeO.refl _)
   | (with_reducible exact LeO.none _)
   | (with_reducible refine LeO.ite ?_ ?_)
   | (with_reducible refine LeO.bind ?_ (fun _ => ?_))
   | exact ih0 _ _ _ _
   | exact turnbucklelaw05_speaks.mono _
   | exact word_Do.mono _ _ _ _
   | exact LeO.none _
   | refine LeO.ite ?_ ?_
   | refine LeO.bind ?_ (fun _ => ?_)
set_option maxHeartbeats 8000000 in
set_option maxRecDepth 100000 in
theorem turnbucklelaw05_WordShifts.calls (k : Nat) (a0 : Int) (a1 : Int) (r : Bool) (w : World) (hG_ : Go.Proofs.YtoolfgohbffgnaaDoorGlob.Is w) (h : turnbucklelaw05_WordShifts.f k a0 a1 = some r) :
  Calls Tryd.prog 6 #[.int .u64 a0, .int .u64 a1] w fun e w' => e = .returned (.bool r) ∧ Drawn0 w w' := by
 have H : ((turnbucklelaw05_speaks.f k).bind fun t150 => (if t150 = true then ((word_Do.f k 2 a0 a1).bind fun t151 => ((word_Do.f k 2 a0 (IntKind.u64.wrap (a1 + 64))).bind fun t152 => (if t151 = t152 then ((word_Do.f k 6 t151 a1).bind fun t153 => (if 0 ≤ (Int.tmod a1 64) then (if t153 = (shr .u64 (shl .u64 a0 (Int.tmod a1 64)) (Int.tmod a1 64)) then ((word_Do.f k 6 a0 a1).bind fun t154 => (turnbucklelaw05_WordShifts.j0 k a0 a1 (Int.tmod a1 64) (t154 != (shr .u64 a0 (Int.tmod a1 64))))) else (turnbucklelaw05_WordShifts.j0 k a0 a1 (Int.tmod a1 64) true)) else (none))) else (turnbucklelaw05_WordShifts.j0 k a0 a1 (Int.tmod a1 64) true)))) else (some false))) = some r := h
 clear h
 replace H := Option.bind_eq_some_iff.mp H
 obtain ⟨t150, A30, H⟩ := H
 replace H : (if t150 = true then ((word_Do.f k 2 a0 a1).bind fun t151 => ((word_Do.f k 2 a0 (IntKind.u64.wrap (a1 + 64))).bind fun t152 => (if t151 = t152 then ((word_Do.f k 6 t151 a1).bind fun t153 => (if 0 ≤ (Int.tmod a1 64) then (if t153 = (shr .u64 (shl .u64 a0 (Int.tmod a1 64)) (Int.tmod a1 64)) then ((word_Do.f k 6 a0 a1).bind fun t154 => (turnbucklelaw05_WordShifts.j0 k a0 a1 (Int.tmod a1 64) (t154 != (shr .u64 a0 (Int.tmod a1 64))))) else (turnbucklelaw05_WordShifts.j0 k a0 a1 (Int.tmod a1 64) true)) else (none))) else (turnbucklelaw05_WordShifts.j0 k a0 a1 (Int.tmod a1 64) true)))) else (some false)) = some r := H
 have A3 := Aside0.mk A30
 clear A30
 by_cases c4 : t150 = true
 ·subst c4
  have H1 : ((word_Do.f k 2 a0 a1).bind fun t151 => ((word_Do.f k 2 a0 (IntKind.u64.wrap (a1 + 64))).bind fun t152 => (if t151 = t152 then ((word_Do.f k 6 t151 a1).bind fun t153 => (if 0 ≤ (Int.tmod a1 64) then (if t153 = (shr .u64 (shl .u64 a0 (Int.tmod a1 64)) (Int.tmod a1 64)) then ((word_Do.f k 6 a0 a1).bind fun t154 => (turnbucklelaw05_WordShifts.j0 k a0 a1 (Int.tmod a1 64) (t154 != (shr .u64 a0 (Int.tmod a1 64))))) else (turnbucklelaw05_WordShifts.j0 k a0 a1 (Int.tmod a1 64) true)) else (none))) else (turnbucklelaw05_WordShifts.j0 k a0 a1 (Int.tmod a1 64) true)))) = some r := by rw [if_pos rfl] at H; exact H
  clear H
  have H := H1
  clear H1
  replace H := Option.bind_eq_some_iff.mp H
  obtain ⟨t151, A50, H⟩ := H
  replace H : ((word_Do.f k 2 a0 (IntKind.u64.wrap (a1 + 64))).bind fun t152 => (if t151 = t152 then ((word_Do.f k 6 t151 a1).bind fun t153 => (if 0 ≤ (Int.tmod a1 64) then (if t153 = (shr .u64 (shl .u64 a0 (Int.tmod a1 64)) (Int.tmod a1 64)) then ((word_Do.f k 6 a0 a1).bind fun t154 => (turnbucklelaw05_WordShifts.j0 k a0 a1 (Int.tmod a1 64) (t154 != (shr .u64 a0 (Int.tmod a1 64))))) else (turnbucklelaw05_WordShifts.j0 k a0 a1 (Int.tmod a1 64) true)) else (none))) else (turnbucklelaw05_WordShifts.j0 k a0 a1 (Int.tmod a1 64) true))) = some r := H
  have A5 := Aside0.mk A50
  clear A50
  have HC6 := Aside0.mk H
  clear H
  go_enter Tryd.func6, Tryd.ntmps6
  go_upto_region 5 with (first | ((with_reducible refine gate_callee (f := 8) rfl ?_); refine goesL_ (some 8) rfl rfl Tryd.func8 (by kernel_rfl) rfl #[] rfl (by (try simp only [List.map_toArray, List.map_cons, List.map_nil]); first | done | rfl | (simp only [List.length_drop, List.length_take]; rfl)) ?_; (with_reducible refine (turnbucklelaw05_speaks.calls k  true _ ?side1 A3.out).mono ?_); (case side1 => first | exact hG_ | exact hG_.drewN _ | exact hG_.under HB.out | exact (hG_.under HB.out).drewN _ | exact hG_.under (below_of_drawn (by assumption))); rintro e w' ⟨rfl, ⟨nd, rfl⟩⟩; refine ⟨_, rfl, ?_⟩) | ((with_reducible refine gate_callee (f := 9) rfl ?_); refine goesL_ (some 14) rfl rfl Tryd.func9 (by kernel_rfl) rfl #[.int .i64 2, .int .u64 a0, .int .u64 a1] rfl (by (try simp only [List.map_toArray, List.map_cons, List.map_nil]); first | done | rfl | (simp only [List.length_drop, List.length_take]; rfl)) ?_; (with_reducible refine (word_Do.calls k 2 a0 a1 t151 _ A5.out).mono ?_); rintro e w' ⟨rfl, ⟨nd, rfl⟩⟩; refine ⟨_, rfl, ?_⟩))
  (try simp only [Act.put, List.setIfInBounds_toArray, List.set_cons_zero, List.set_cons_succ])
  go_cut [40] (fun v40 wc => ∃ (kq : Nat) (x40_5 : Bool), v40 = .bool x40_5 ∧ Aside0 (turnbucklelaw05_WordShifts.j0 kq a0 a1 (Int.tmod a1 64) x40_5 = some r) ∧ Aside0 (kq ≤ k) ∧ Drawn0 w wc)
  case first =>
   have H := HC6.out
   clear HC6
   replace H := Option.bind_eq_some_iff.mp H
   obtain ⟨t152, A70, H⟩ := H
   replace H : (if t151 = t152 then ((word_Do.f k 6 t151 a1).bind fun t153 => (if 0 ≤ (Int.tmod a1 64) then (if t153 = (shr .u64 (shl .u64 a0 (Int.tmod a1 64)) (Int.tmod a1 64)) then ((word_Do.f k 6 a0 a1).bind fun t154 => (turnbucklelaw05_WordShifts.j0 k a0 a1 (Int.tmod a1 64) (t154 != (shr .u64 a0 (Int.tmod a1 64))))) else (turnbucklelaw05_WordShifts.j0 k a0 a1 (Int.tmod a1 64) true)) else (none))) else (turnbucklelaw05_WordShifts.j0 k a0 a1 (Int.tmod a1 64) true)) = some r := H
   have A7 := Aside0.mk A70
   clear A70
   by_cases c8 : t151 = t152
   ·rw [if_pos c8] at H
    have c8b0 : (t151 == t152) = true := beq_iff_eq.mpr c8
    have c8b1 : (t151 != t152) = false := bne_eq_false_iff_eq.mpr c8
    clear c8
    (first | rw [c8b0] | (simp only [i64_w, i32_w]; rw [c8b0]) | skip)
    replace H := Option.bind_eq_some_iff.mp H
    obtain ⟨t153, A90, H⟩ := H
    replace H : (if 0 ≤ (Int.tmod a1 64) then (if t153 = (shr .u64 (shl .u64 a0 (Int.tmod a1 64)) (Int.tmod a1 64)) then ((word_Do.f k 6 a0 a1).bind fun t154 => (turnbucklelaw05_WordShifts.j0 k a0 a1 (Int.tmod a1 64) (t154 != (shr .u64 a0 (Int.tmod a1 64))))) else (turnbucklelaw05_WordShifts.j0 k a0 a1 (Int.tmod a1 64) true)) else (none)) = some r := H
    have A9 := Aside0.mk A90
    clear A90
    obtain ⟨ji10, hji10⟩ : ∃ j_ : Int, (Int.tmod a1 64) = j_ := ⟨_, rfl⟩
    replace H : (if 0 ≤ (ji10) then (if t153 = (shr .u64 (shl .u64 a0 (ji10)) (ji10)) then ((word_Do.f k 6 a0 a1).bind fun t154 => (turnbucklelaw05_WordShifts.j0 k a0 a1 ji10 (t154 != (shr .u64 a0 (ji10))))) else (turnbucklelaw05_WordShifts.j0 k a0 a1 ji10 true)) else (none)) = some r := by first | (rw [hji10] at H; exact H) | (simp only [hji10] at H ⊢; exact H)
    (try rw [hji10] at A7)
    (try rw [hji10] at A9)
    by_cases c11 : 0 ≤ (ji10)
    ·rw [if_pos c11] at H
     have c11b0 := eq_true c11
     have c11b1 : decide (0 ≤ (ji10)) = true := decide_eq_true c11
     clear c11
     obtain ⟨ji12, hji12⟩ : ∃ j_ : Int, (shl .u64 a0 (ji10)) = j_ := ⟨_, rfl⟩
     replace H : (if t153 = (shr .u64 (ji12) (ji10)) then ((word_Do.f k 6 a0 a1).bind fun t154 => (turnbucklelaw05_WordShifts.j0 k a0 a1 ji10 (t154 != (shr .u64 a0 (ji10))))) else (turnbucklelaw05_WordShifts.j0 k a0 a1 ji10 true)) = some r := by first | (rw [hji12] at H; exact H) | (simp only [hji12] at H ⊢; exact H)
     (try rw [hji12] at A7)
     (try rw [hji12] at A9)
     have hji12_ : (IntKind.u64.wrap (a0 * 2 ^ min (ji10).toNat 64)) = ji12 := hji12
     have hji12z : (ji10) ≤ 64 → (IntKind.u64.wrap (a0 * 2 ^ (ji10).toNat)) = ji12 := shl_small hji12
     have c13b0 := eq_true (of_decide_eq_true (by first | (with_reducible assumption) | assumption) : 0 ≤ (ji10))
     obtain ⟨ji14, hji14⟩ : ∃ j_ : Int, (shr .u64 (ji12) (ji10)) = j_ := ⟨_, rfl⟩
     replace H : (if t153 = (ji14) then ((word_Do.f k 6 a0 a1).bind fun t154 => (turnbucklelaw05_WordShifts.j0 k a0 a1 ji10 (t154 != (shr .u64 a0 (ji10))))) else (turnbucklelaw05_WordShifts.j0 k a0 a1 ji10 true)) = some r := by first | (rw [hji14] at H; exact H) | (simp only [hji14] at H ⊢; exact H)
     (try rw [hji14] at A7)
     (try rw [hji14] at A9)
     have hji14_ : ((ji12) / 2 ^ min (ji10).toNat 64) = ji14 := hji14
     have hji14z : (ji10) ≤ 64 → ((ji12) / 2 ^ (ji10).toNat) = ji14 := shr_small hji14
     by_cases c15 : t153 = (ji14)
     ·rw [if_pos c15] at H
      have c15b0 : (t153 == (ji14)) = true := beq_iff_eq.mpr c15
      have c15b1 : (t153 != (ji14)) = false := bne_eq_false_iff_eq.mpr c15
      clear c15
      replace H := Option.bind_eq_some_iff.mp H
      obtain ⟨t154, A160, H⟩ := H
      replace H : (turnbucklelaw05_WordShifts.j0 k a0 a1 ji10 (t154 != (shr .u64 a0 (ji10)))) = some r := H
      have A16 := Aside0.mk A160
      clear A160
      have c17b0 := eq_true (of_decide_eq_true (by first | (with_reducible assumption) | assumption) : 0 ≤ (ji10))
      obtain ⟨ji18, hji18⟩ : ∃ j_ : Int, (shr .u64 a0 (ji10)) = j_ := ⟨_, rfl⟩
      replace H : (turnbucklelaw05_WordShifts.j0 k a0 a1 ji10 (t154 != (ji18))) = some r := by first | (rw [hji18] at H; exact H) | (simp only [hji18] at H ⊢; exact H)
      (try rw [hji18] at A7)
      (try rw [hji18] at A9)
      (try rw [hji18] at A16)
      have hji18_ : (a0 / 2 ^ min (ji10).toNat 64) = ji18 := hji18
      have hji18z : (ji10) ≤ 64 → (a0 / 2 ^ (ji10).toNat) = ji18 := shr_small hji18
      have H' := Aside0.mk H
      clear H
      go_wp2_with (first | ((with_reducible refine gate_callee (f := 9) rfl ?_); refine goesL_ (some 19) rfl rfl Tryd.func9 (by kernel_rfl) rfl #[.int .i64 2, .int .u64 a0, .int .u64 (IntKind.u64.wrap (a1 + 64))] rfl (by (try simp only [List.map_toArray, List.map_cons, List.map_nil]); first | done | rfl | (simp only [List.length_drop, List.length_take]; rfl)) ?_; (with_reducible refine (word_Do.calls k 2 a0 (IntKind.u64.wrap (a1 + 64)) t152 _ A7.out).mono ?_); rintro e w' ⟨rfl, ⟨nd, rfl⟩⟩; refine ⟨_, rfl, ?_⟩) | (go_at_call 9; (with_reducible refine (word_Do.calls k 6 t151 a1 t153 _ A9.out).mono ?_); rintro e w' ⟨rfl, ⟨nd, rfl⟩⟩) | (go_at_call 9; (with_reducible refine (word_Do.calls k 6 a0 a1 t154 _ A16.out).mono ?_); rintro e w' ⟨rfl, ⟨nd, rfl⟩⟩))
      (try subst hji7)
      (try subst hji9)
      (try subst hji16)
      (try subst hji20)
      (try subst hji22)
      (try subst hji5)
      (try subst hji7)
      (try subst hji9)
      (try subst hji11)
      (try subst hji13)
      (try subst hji16)
      (try subst hji10)
      (try subst hji12)
      (try subst hji14)
      go_meet
      case rel => exact ⟨_, ((t154 != (ji18))), (by first | rfl | (simp; done) | (simp only [← hji18] <;> (first | rfl | simp)) | (simp [*]; done)), H', ⟨by first | omega | exact Nat.le_refl _⟩, by repeat (first | exact Drawn0.refl _ | apply Drawn0.step)⟩
     ·rw [if_neg c15] at H
      have c15b0 : (t153 == (ji14)) = false := beq_eq_false_iff_ne.mpr c15
      have c15b1 : (t153 != (ji14)) = true := bne_iff_ne.mpr c15
      have H' := Aside0.mk H
      clear H
      go_wp2_with (first | ((with_reducible refine gate_callee (f := 9) rfl ?_); refine goesL_ (some 19) rfl rfl Tryd.func9 (by kernel_rfl) rfl #[.int .i64 2, .int .u64 a0, .int .u64 (IntKind.u64.wrap (a1 + 64))] rfl (by (try simp only [List.map_toArray, List.map_cons, List.map_nil]); first | done | rfl | (simp only [List.length_drop, List.length_take]; rfl)) ?_; (with_reducible refine (word_Do.calls k 2 a0 (IntKind.u64.wrap (a1 + 64)) t152 _ A7.out).mono ?_); rintro e w' ⟨rfl, ⟨nd, rfl⟩⟩; refine ⟨_, rfl, ?_⟩) | (go_at_call 9; (with_reducible refine (word_Do.calls k 6 t151 a1 t153 _ A9.out).mono ?_); rintro e w' ⟨rfl, ⟨nd, rfl⟩⟩))
      (try subst hji7)
      (try subst hji9)
      (try subst hji16)
      (try subst hji18)
      (try subst hji20)
      (try subst hji22)
      (try subst hji5)
      (try subst hji7)
      (try subst hji9)
      (try subst hji11)
      (try subst hji13)
      (try subst hji16)
      (try subst hji18)
      (try subst hji10)
      (try subst hji12)
      (try subst hji14)
      (try subst hji18)
      go_meet
      case rel => exact ⟨_, (true), (by first | rfl | (simp; done) | (simp [*]; done)), H', ⟨by first | omega | exact Nat.le_refl _⟩, by repeat (first | exact Drawn0.refl _ | apply Drawn0.step)⟩
    ·rw [if_neg c11] at H
     exact absurd H (by simp)
   ·rw [if_neg c8] at H
    have c8b0 : (t151 == t152) = false := beq_eq_false_iff_ne.mpr c8
    have c8b1 : (t151 != t152) = true := bne_iff_ne.mpr c8
    (first | rw [c8b0] | (simp only [i64_w, i32_w]; rw [c8b0]) | skip)
    have H' := Aside0.mk H
    clear H
    go_wp2_with (first | ((with_reducible refine gate_callee (f := 9) rfl ?_); refine goesL_ (some 19) rfl rfl Tryd.func9 (by kernel_rfl) rfl #[.int .i64 2, .int .u64 a0, .int .u64 (IntKind.u64.wrap (a1 + 64))] rfl (by (try simp only [List.map_toArray, List.map_cons, List.map_nil]); first | done | rfl | (simp only [List.length_drop, List.length_take]; rfl)) ?_; (with_reducible refine (word_Do.calls k 2 a0 (IntKind.u64.wrap (a1 + 64)) t152 _ A7.out).mono ?_); rintro e w' ⟨rfl, ⟨nd, rfl⟩⟩; refine ⟨_, rfl, ?_⟩))
    (try subst hji7)
    (try subst hji9)
    (try subst hji16)
    (try subst hji18)
    (try subst hji20)
    (try subst hji22)
    (try subst hji5)
    (try subst hji7)
    (try subst hji9)
    (try subst hji11)
    (try subst hji13)
    (try subst hji16)
    (try subst hji18)
    (try subst hji10)
    (try subst hji12)
    (try subst hji14)
    (try subst hji18)
    go_meet
    case rel => exact ⟨_, (true), (by first | rfl | (simp; done) | (simp [*]; done)), H', ⟨by first | omega | exact Nat.le_refl _⟩, by repeat (first | exact Drawn0.refl _ | apply Drawn0.step)⟩
  case rest =>
   clear HC6
   try clear c1
   try clear p2
   try clear c4
   try clear c6
   try clear c8
   try clear c8b0
   try clear c8b1
   try clear c9
   try clear c11
   try clear c11b0
   try clear c11b1
   try clear c13
   try clear c13b0
   try clear c15
   try clear c15b0
   try clear c15b1
   try clear c17
   try clear c17b0
   obtain ⟨kq, x40_5, rfl, HA, HJ5, ⟨mc5, rfl⟩⟩ := hcut
   cases kq with
   | zero => exact absurd HA.out (by simp [turnbucklelaw05_WordShifts.j0])
   | succ kj5 =>
    have H := HA.out
    clear HA
    simp only [turnbucklelaw05_WordShifts.j0] at H
    by_cases c19 : x40_5 = true
    ·subst c19
     have H1 : (some false) = some r := by rw [if_pos rfl] at H; exact H
     clear H
     have H := H1
     clear H1
     obtain rfl := Option.some.inj H
     go_wp2
     go_ret
     exact ⟨by first | rfl | (simp; done) | (simp [*]; done), by repeat (first | exact Drawn0.refl _ | apply Drawn0.step)⟩
    ·replace c19 := Bool.eq_false_iff.mpr c19
     subst c19
     have H1 : ((word_Do.f kj5 7 a0 a1).bind fun t155 => (if 0 ≤ (Int.tmod a1 64) then (if (Go.bits .or .u64 (shl .u64 t155 (Int.tmod a1 64)) (Go.bits .and .u64 a0 (IntKind.u64.wrap ((shl .u64 1 (Int.tmod a1 64)) - 1)))) = a0 then (if ((decide ((wrap64 (t155)) < 0)) == (decide ((wrap64 (a0)) < 0))) = true then ((word_Do.f kj5 8 a0 a1).bind fun t156 => ((word_Do.f kj5 9 a0 a1).bind fun t157 => ((word_Do.f kj5 5 t156 t157).bind fun t158 => (some (t158 == (Go.bits .xor .u64 a0 a1)))))) else (some false)) else (some false)) else (none))) = some r := by rw [if_neg (show ¬ (false = true) by decide)] at H; exact H
     clear H
     have H := H1
     clear H1
     replace H := Option.bind_eq_some_iff.mp H
     obtain ⟨t155, A200, H⟩ := H
     replace H : (if 0 ≤ (Int.tmod a1 64) then (if (Go.bits .or .u64 (shl .u64 t155 (Int.tmod a1 64)) (Go.bits .and .u64 a0 (IntKind.u64.wrap ((shl .u64 1 (Int.tmod a1 64)) - 1)))) = a0 then (if ((decide ((wrap64 (t155)) < 0)) == (decide ((wrap64 (a0)) < 0))) = true then ((word_Do.f kj5 8 a0 a1).bind fun t156 => ((word_Do.f kj5 9 a0 a1).bind fun t157 => ((word_Do.f kj5 5 t156 t157).bind fun t158 => (some (t158 == (Go.bits .xor .u64 a0 a1)))))) else (some false)) else (some false)) else (none)) = some r := H
     have A20 := Aside0.mk A200
     clear A200
     obtain ⟨ji21, hji21⟩ : ∃ j_ : Int, (Int.tmod a1 64) = j_ := ⟨_, rfl⟩
     replace H : (if 0 ≤ (ji21) then (if (Go.bits .or .u64 (shl .u64 t155 (ji21)) (Go.bits .and .u64 a0 (IntKind.u64.wrap ((shl .u64 1 (ji21)) - 1)))) = a0 then (if ((decide ((wrap64 (t155)) < 0)) == (decide ((wrap64 (a0)) < 0))) = true then ((word_Do.f kj5 8 a0 a1).bind fun t156 => ((word_Do.f kj5 9 a0 a1).bind fun t157 => ((word_Do.f kj5 5 t156 t157).bind fun t158 => (some (t158 == (Go.bits .xor .u64 a0 a1)))))) else (some false)) else (some false)) else (none)) = some r := by first | (rw [hji21] at H; exact H) | (simp only [hji21] at H ⊢; exact H)
     (try rw [hji21] at A20)
     by_cases c22 : 0 ≤ (ji21)
     ·rw [if_pos c22] at H
      have c22b0 := eq_true c22
      have c22b1 : decide (0 ≤ (ji21)) = true := decide_eq_true c22
      clear c22
      obtain ⟨ji23, hji23⟩ : ∃ j_ : Int, (shl .u64 t155 (ji21)) = j_ := ⟨_, rfl⟩
      replace H : (if (Go.bits .or .u64 (ji23) (Go.bits .and .u64 a0 (IntKind.u64.wrap ((shl .u64 1 (ji21)) - 1)))) = a0 then (if ((decide ((wrap64 (t155)) < 0)) == (decide ((wrap64 (a0)) < 0))) = true then ((word_Do.f kj5 8 a0 a1).bind fun t156 => ((word_Do.f kj5 9 a0 a1).bind fun t157 => ((word_Do.f kj5 5 t156 t157).bind fun t158 => (some (t158 == (Go.bits .xor .u64 a0 a1)))))) else (some false)) else (some false)) = some r := by first | (rw [hji23] at H; exact H) | (simp only [hji23] at H ⊢; exact H)
      (try rw [hji23] at A20)
      have hji23_ : (IntKind.u64.wrap (t155 * 2 ^ min (ji21).toNat 64)) = ji23 := hji23
      have hji23z : (ji21) ≤ 64 → (IntKind.u64.wrap (t155 * 2 ^ (ji21).toNat)) = ji23 := shl_small hji23
      have c24b0 := eq_true (of_decide_eq_true (by first | (with_reducible assumption) | assumption) : 0 ≤ (ji21))
      obtain ⟨ji25, hji25⟩ : ∃ j_ : Int, (shl .u64 1 (ji21)) = j_ := ⟨_, rfl⟩
      replace H : (if (Go.bits .or .u64 (ji23) (Go.bits .and .u64 a0 (IntKind.u64.wrap ((ji25) - 1)))) = a0 then (if ((decide ((wrap64 (t155)) < 0)) == (decide ((wrap64 (a0)) < 0))) = true then ((word_Do.f kj5 8 a0 a1).bind fun t156 => ((word_Do.f kj5 9 a0 a1).bind fun t157 => ((word_Do.f kj5 5 t156 t157).bind fun t158 => (some (t158 == (Go.bits .xor .u64 a0 a1)))))) else (some false)) else (some false)) = some r := by first | (rw [hji25] at H; exact H) | (simp only [hji25] at H ⊢; exact H)
      (try rw [hji25] at A20)
      have hji25_ : (IntKind.u64.wrap (1 * 2 ^ min (ji21).toNat 64)) = ji25 := hji25
      have hji25z : (ji21) ≤ 64 → (IntKind.u64.wrap (1 * 2 ^ (ji21).toNat)) = ji25 := shl_small hji25
      have hji25u : (IntKind.u64.wrap (2 ^ min (ji21).toNat 64)) = ji25 := by have h_ := hji25_; rw [Int.one_mul] at h_; exact h_
      have hji25v : (ji21) ≤ 64 → (IntKind.u64.wrap (2 ^ (ji21).toNat)) = ji25 := fun hle_ => by have h_ := hji25z hle_; rw [Int.one_mul] at h_; exact h_
      by_cases c26 : (Go.bits .or .u64 (ji23) (Go.bits .and .u64 a0 (IntKind.u64.wrap ((ji25) - 1)))) = a0
      ·rw [if_pos c26] at H
       have c26b0 : ((Go.bits .or .u64 (ji23) (Go.bits .and .u64 a0 (IntKind.u64.wrap ((ji25) - 1)))) == a0) = true := beq_iff_eq.mpr c26
       have c26b1 : ((Go.bits .or .u64 (ji23) (Go.bits .and .u64 a0 (IntKind.u64.wrap ((ji25) - 1)))) != a0) = false := bne_eq_false_iff_eq.mpr c26
       clear c26
       by_cases c27 : ((decide ((wrap64 (t155)) < 0)) == (decide ((wrap64 (a0)) < 0))) = true
       ·rw [if_pos c27] at H
        have c27b0 : ((decide ((wrap64 (t155)) < 0)) == (decide ((wrap64 (a0)) < 0))) = true := c27
        (try (have c27b1 : decide ((decide ((wrap64 (t155)) < 0)) = (decide ((wrap64 (a0)) < 0))) = true := by simpa using c27))
        (try (have c27b2 : ((decide ((wrap64 (t155)) < 0)) == (decide ((wrap64 (a0)) < 0))) = true := by simpa using c27))
        clear c27
        replace H := Option.bind_eq_some_iff.mp H
        obtain ⟨t156, A280, H⟩ := H
        replace H : ((word_Do.f kj5 9 a0 a1).bind fun t157 => ((word_Do.f kj5 5 t156 t157).bind fun t158 => (some (t158 == (Go.bits .xor .u64 a0 a1))))) = some r := H
        have A28 := Aside0.mk A280
        clear A280
        replace H := Option.bind_eq_some_iff.mp H
        obtain ⟨t157, A290, H⟩ := H
        replace H : ((word_Do.f kj5 5 t156 t157).bind fun t158 => (some (t158 == (Go.bits .xor .u64 a0 a1)))) = some r := H
        have A29 := Aside0.mk A290
        clear A290
        replace H := Option.bind_eq_some_iff.mp H
        obtain ⟨t158, A300, H⟩ := H
        replace H : (some (t158 == (Go.bits .xor .u64 a0 a1))) = some r := H
        have A30 := Aside0.mk A300
        clear A300
        obtain rfl := Option.some.inj H
        go_wp2_with (first | ((with_reducible refine gate_callee (f := 9) rfl ?_); refine goesL_ (some 43) rfl rfl Tryd.func9 (by kernel_rfl) rfl #[.int .i64 7, .int .u64 a0, .int .u64 a1] rfl (by (try simp only [List.map_toArray, List.map_cons, List.map_nil]); first | done | rfl | (simp only [List.length_drop, List.length_take]; rfl)) ?_; (with_reducible refine (word_Do.calls kj5 7 a0 a1 t155 _ A20.out).mono ?_); rintro e w' ⟨rfl, ⟨nd, rfl⟩⟩; refine ⟨_, rfl, ?_⟩) | (go_at_call 9; (with_reducible refine (word_Do.calls kj5 8 a0 a1 t156 _ A28.out).mono ?_); rintro e w' ⟨rfl, ⟨nd, rfl⟩⟩) | (go_at_call 9; (with_reducible refine (word_Do.calls kj5 9 a0 a1 t157 _ A29.out).mono ?_); rintro e w' ⟨rfl, ⟨nd, rfl⟩⟩) | (go_at_call 9; (with_reducible refine (word_Do.calls kj5 5 t156 t157 t158 _ A30.out).mono ?_); rintro e w' ⟨rfl, ⟨nd, rfl⟩⟩))
        go_ret
        exact ⟨by first | rfl | (simp; done) | (simp only [← hji21, ← hji23, ← hji25] <;> (first | rfl | simp)) | (simp [*]; done), by repeat (first | exact Drawn0.refl _ | apply Drawn0.step)⟩
       ·rw [if_neg c27] at H
        have c27b0 : ((decide ((wrap64 (t155)) < 0)) == (decide ((wrap64 (a0)) < 0))) = false := by simpa using c27
        (try (have c27b1 : decide ((decide ((wrap64 (t155)) < 0)) = (decide ((wrap64 (a0)) < 0))) = false := by simpa using c27))
        (try (have c27b2 : ((decide ((wrap64 (t155)) < 0)) == (decide ((wrap64 (a0)) < 0))) = false := by simpa using c27))
        (try (have c27b3 : ¬ ((decide ((wrap64 (t155)) < 0)) = (decide ((wrap64 (a0)) < 0))) := by simpa using c27))
        clear c27
        obtain rfl := Option.some.inj H
        go_wp2_with (first | ((with_reducible refine gate_callee (f := 9) rfl ?_); refine goesL_ (some 43) rfl rfl Tryd.func9 (by kernel_rfl) rfl #[.int .i64 7, .int .u64 a0, .int .u64 a1] rfl (by (try simp only [List.map_toArray, List.map_cons, List.map_nil]); first | done | rfl | (simp only [List.length_drop, List.length_take]; rfl)) ?_; (with_reducible refine (word_Do.calls kj5 7 a0 a1 t155 _ A20.out).mono ?_); rintro e w' ⟨rfl, ⟨nd, rfl⟩⟩; refine ⟨_, rfl, ?_⟩))
        go_ret
        exact ⟨by first | rfl | (simp; done) | (simp only [← hji21, ← hji23, ← hji25] <;> (first | rfl | simp)) | (simp [*]; done), by repeat (first | exact Drawn0.refl _ | apply Drawn0.step)⟩
      ·rw [if_neg c26] at H
       have c26b0 : ((Go.bits .or .u64 (ji23) (Go.bits .and .u64 a0 (IntKind.u64.wrap ((ji25) - 1)))) == a0) = false := beq_eq_false_iff_ne.mpr c26
       have c26b1 : ((Go.bits .or .u64 (ji23) (Go.bits .and .u64 a0 (IntKind.u64.wrap ((ji25) - 1)))) != a0) = true := bne_iff_ne.mpr c26
       obtain rfl := Option.some.inj H
       go_wp2_with (first | ((with_reducible refine gate_callee (f := 9) rfl ?_); refine goesL_ (some 43) rfl rfl Tryd.func9 (by kernel_rfl) rfl #[.int .i64 7, .int .u64 a0, .int .u64 a1] rfl (by (try simp only [List.map_toArray, List.map_cons, List.map_nil]); first | done | rfl | (simp only [List.length_drop, List.length_take]; rfl)) ?_; (with_reducible refine (word_Do.calls kj5 7 a0 a1 t155 _ A20.out).mono ?_); rintro e w' ⟨rfl, ⟨nd, rfl⟩⟩; refine ⟨_, rfl, ?_⟩))
       go_ret
       exact ⟨by first | rfl | (simp; done) | (simp only [← hji21, ← hji23, ← hji25] <;> (first | rfl | simp)) | (simp [*]; done), by repeat (first | exact Drawn0.refl _ | apply Drawn0.step)⟩
     ·rw [if_neg c22] at H
      exact absurd H (by simp)
 ·replace c4 := Bool.eq_false_iff.mpr c4
  subst c4
  have H1 : (some false) = some r := by rw [if_neg (show ¬ (false = true) by decide)] at H; exact H
  clear H
  have H := H1
  clear H1
  obtain rfl := Option.some.inj H
  go_enter Tryd.func6, Tryd.ntmps6
  go_wp2_with (first | ((with_reducible refine gate_callee (f := 8) rfl ?_); refine goesL_ (some 8) rfl rfl Tryd.func8 (by kernel_rfl) rfl #[] rfl (by (try simp only [List.map_toArray, List.map_cons, List.map_nil]); first | done | rfl | (simp only [List.length_drop, List.length_take]; rfl)) ?_; (with_reducible refine (turnbucklelaw05_speaks.calls k  false _ ?side1 A3.out).mono ?_); (case side1 => first | exact hG_ | exact hG_.drewN _ | exact hG_.under HB.out | exact (hG_.under HB.out).drewN _ | exact hG_.under (below_of_drawn (by assumption))); rintro e w' ⟨rfl, ⟨nd, rfl⟩⟩; refine ⟨_, rfl, ?_⟩))
  go_ret
  exact ⟨by first | rfl | (simp; done) | (simp [*]; done), by repeat (first | exact Drawn0.refl _ | apply Drawn0.step)⟩

/-- THE ONE PURE STATEMENT of turnbucklelaw05_WordShifts: yours. -/
def turnbucklelaw05_WordShifts.Pure : Prop := ∀ (a0 : Int) (a1 : Int), (Lit.int .u64 a0).wf = true → (Lit.int .u64 a1).wf = true → ∃ k, turnbucklelaw05_WordShifts.f k a0 a1 = some true
theorem turnbucklelaw05_WordShifts.walk (P : turnbucklelaw05_WordShifts.Pure) (a0 : Int) (a1 : Int) (w : World) (w0 : (Lit.int .u64 a0).wf = true) (w1 : (Lit.int .u64 a1).wf = true) (hG_ : Go.Proofs.YtoolfgohbffgnaaDoorGlob.Is w) :
  Calls Tryd.prog 6 #[.int .u64 a0, .int .u64 a1] w fun e w' => e = .returned (.bool true) ∧ Below w.heap.size w w' := by
 obtain ⟨k, h⟩ := P a0 a1 w0 w1
 refine (turnbucklelaw05_WordShifts.calls k a0 a1 true w hG_ h).mono ?_
 rintro e w' ⟨rfl, hd⟩
 exact ⟨rfl, hd.below⟩

end Go.Proofs.YtoolfgohbffgnaaDoor.PNm
