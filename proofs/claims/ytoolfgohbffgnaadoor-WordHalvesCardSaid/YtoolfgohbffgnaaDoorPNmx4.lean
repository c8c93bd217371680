-- Written by a program of this session (a changed copy of the print of the kit). Not trusted: Lean checks it.
import Derived.Test.YtoolfgohbffgnaaDoorPNmx0
import Derived.Test.YtoolfgohbffgnaaDoorPNmx2
import Derived.Test.YtoolfgohbffgnaaDoorPNmx3
namespace Go.Proofs.YtoolfgohbffgnaaDoor.PNm
open Go.RowKit Go.Proofs.YtoolfgohbffgnaaDoorW.PrintWords Go.Proofs.YtoolfgohbffgnaaDoorW.PrintLast Go.Proofs.YtoolfgohbffgnaaDoorW.PrintMore
attribute [local go_sem] max2_int min2_int max_two min_two max_three min_three max_four min_four   -- for this text's walks alone
set_option linter.unusedVariables false
set_option linter.unusedSimpArgs false

/-! ### turnbucklelaw05_speaks: function 8 -/
def turnbucklelaw05_speaks.f (k : Nat)  : Option (Bool) := (word_Named.f k (⟨#[97, 100, 100, 119]⟩ : ByteArray)).bind fun bt135 => ((word_Do.f k 14 18446744073709551609 2).bind fun t137 => (if t137 = 18446744073709551613 then (if bt135.2 = true then (if bt135.1 = 18 then ((word_Do.f k bt135.1 2147483647 1).bind fun t138 => (if t138 = 18446744071562067968 then (some true) else (some false))) else (some false)) else (some false)) else (some false)))
theorem turnbucklelaw05_speaks.mono : ∀ k, LeO (turnbucklelaw05_speaks.f k ) (turnbucklelaw05_speaks.f (k + 1) ) := by
 intro  k
 unfold turnbucklelaw05_speaks.f
 repeat' first
   | (with_reducible exact word_Do.mono _ _ _ _)
   | (with_reducible exact word_Named.mono _ _)
   | (with_reducible exact LeO.refl _)
   | (with_reducible exact LeO.none _)
   | (with_reducible refine LeO.ite ?_ ?_)
   | (with_reducible refine LeO.bind ?_ (fun _ => ?_))
   | exact word_Do.mono _ _ _ _
   | exact word_Named.mono _ _
   | exact LeO.none _
   | refine LeO.ite ?_ ?_
   | refine LeO.bind ?_ (fun _ => ?_)
set_option maxHeartbeats 8000000 in
set_option maxRecDepth 100000 in
theorem turnbucklelaw05_speaks.calls (k : Nat)  (r : Bool) (w : World) (hG_ : Go.Proofs.YtoolfgohbffgnaaDoorGlob.Is w) (h : turnbucklelaw05_speaks.f k  = some r) :
  Calls Tryd.prog 8 #[] w fun e w' => e = .returned (.bool r) ∧ Drawn0 w w' := by
 have H : ((word_Named.f k (⟨#[97, 100, 100, 119]⟩ : ByteArray)).bind fun bt135 => ((word_Do.f k 14 18446744073709551609 2).bind fun t137 => (if t137 = 18446744073709551613 then (if bt135.2 = true then (if bt135.1 = 18 then ((word_Do.f k bt135.1 2147483647 1).bind fun t138 => (if t138 = 18446744071562067968 then (some true) else (some false))) else (some false)) else (some false)) else (some false)))) = some r := h
 clear h
 replace H := Option.bind_eq_some_iff.mp H
 obtain ⟨⟨t135, t136⟩, A10, H⟩ := H
 replace H : ((word_Do.f k 14 18446744073709551609 2).bind fun t137 => (if t137 = 18446744073709551613 then (if t136 = true then (if t135 = 18 then ((word_Do.f k t135 2147483647 1).bind fun t138 => (if t138 = 18446744071562067968 then (some true) else (some false))) else (some false)) else (some false)) else (some false))) = some r := H
 have A1 := Aside0.mk A10
 clear A10
 replace H := Option.bind_eq_some_iff.mp H
 obtain ⟨t137, A20, H⟩ := H
 replace H : (if t137 = 18446744073709551613 then (if t136 = true then (if t135 = 18 then ((word_Do.f k t135 2147483647 1).bind fun t138 => (if t138 = 18446744071562067968 then (some true) else (some false))) else (some false)) else (some false)) else (some false)) = some r := H
 have A2 := Aside0.mk A20
 clear A20
 by_cases c3 : t137 = 18446744073709551613
 ·rw [if_pos c3] at H
  have c3b0 : (t137 == 18446744073709551613) = true := beq_iff_eq.mpr c3
  have c3b1 : (t137 != 18446744073709551613) = false := bne_eq_false_iff_eq.mpr c3
  clear c3
  by_cases c4 : t136 = true
  ·subst c4
   have H1 : (if t135 = 18 then ((word_Do.f k t135 2147483647 1).bind fun t138 => (if t138 = 18446744071562067968 then (some true) else (some false))) else (some false)) = some r := by rw [if_pos rfl] at H; exact H
   clear H
   have H := H1
   clear H1
   by_cases c5 : t135 = 18
   ·rw [if_pos c5] at H
    have c5b0 : (t135 == 18) = true := beq_iff_eq.mpr c5
    have c5b1 : (t135 != 18) = false := bne_eq_false_iff_eq.mpr c5
    clear c5
    replace H := Option.bind_eq_some_iff.mp H
    obtain ⟨t138, A60, H⟩ := H
    replace H : (if t138 = 18446744071562067968 then (some true) else (some false)) = some r := H
    have A6 := Aside0.mk A60
    clear A60
    by_cases c7 : t138 = 18446744071562067968
    ·rw [if_pos c7] at H
     have c7b0 : (t138 == 18446744071562067968) = true := beq_iff_eq.mpr c7
     have c7b1 : (t138 != 18446744071562067968) = false := bne_eq_false_iff_eq.mpr c7
     clear c7
     obtain rfl := Option.some.inj H
     go_enter Tryd.func8, Tryd.ntmps8
     go_wp2_with (first | ((with_reducible refine gate_callee (f := 15) rfl ?_); refine goesL_ (some 4) rfl rfl Tryd.func15 (by kernel_rfl) rfl #[.string (⟨#[97, 100, 100, 119]⟩ : ByteArray)] rfl (by (try simp only [List.map_toArray, List.map_cons, List.map_nil]); first | done | rfl | (simp only [List.length_drop, List.length_take]; rfl)) ?_; (with_reducible refine (word_Named.calls k (⟨#[97, 100, 100, 119]⟩ : ByteArray) t135 true _ ?side1 A1.out).mono ?_); (case side1 => first | exact hG_ | exact hG_.drewN _ | exact hG_.under HB.out | exact (hG_.under HB.out).drewN _ | exact hG_.under (below_of_drawn (by assumption))); rintro e w' ⟨rfl, ⟨nd, rfl⟩⟩; refine ⟨_, rfl, ?_⟩) | ((with_reducible refine gate_callee (f := 9) rfl ?_); refine goesL_ (some 7) rfl rfl Tryd.func9 (by kernel_rfl) rfl #[.int .i64 14, .int .u64 18446744073709551609, .int .u64 2] rfl (by (try simp only [List.map_toArray, List.map_cons, List.map_nil]); first | done | rfl | (simp only [List.length_drop, List.length_take]; rfl)) ?_; (with_reducible refine (word_Do.calls k 14 18446744073709551609 2 t137 _ A2.out).mono ?_); rintro e w' ⟨rfl, ⟨nd, rfl⟩⟩; refine ⟨_, rfl, ?_⟩) | (go_at_call 9; (with_reducible refine (word_Do.calls k t135 2147483647 1 t138 _ A6.out).mono ?_); rintro e w' ⟨rfl, ⟨nd, rfl⟩⟩))
     go_ret
     exact ⟨by first | rfl | (simp; done) | (simp [*]; done), by repeat (first | exact Drawn0.refl _ | apply Drawn0.step)⟩
    ·rw [if_neg c7] at H
     have c7b0 : (t138 == 18446744071562067968) = false := beq_eq_false_iff_ne.mpr c7
     have c7b1 : (t138 != 18446744071562067968) = true := bne_iff_ne.mpr c7
     obtain rfl := Option.some.inj H
     go_enter Tryd.func8, Tryd.ntmps8
     go_wp2_with (first | ((with_reducible refine gate_callee (f := 15) rfl ?_); refine goesL_ (some 4) rfl rfl Tryd.func15 (by kernel_rfl) rfl #[.string (⟨#[97, 100, 100, 119]⟩ : ByteArray)] rfl (by (try simp only [List.map_toArray, List.map_cons, List.map_nil]); first | done | rfl | (simp only [List.length_drop, List.length_take]; rfl)) ?_; (with_reducible refine (word_Named.calls k (⟨#[97, 100, 100, 119]⟩ : ByteArray) t135 true _ ?side1 A1.out).mono ?_); (case side1 => first | exact hG_ | exact hG_.drewN _ | exact hG_.under HB.out | exact (hG_.under HB.out).drewN _ | exact hG_.under (below_of_drawn (by assumption))); rintro e w' ⟨rfl, ⟨nd, rfl⟩⟩; refine ⟨_, rfl, ?_⟩) | ((with_reducible refine gate_callee (f := 9) rfl ?_); refine goesL_ (some 7) rfl rfl Tryd.func9 (by kernel_rfl) rfl #[.int .i64 14, .int .u64 18446744073709551609, .int .u64 2] rfl (by (try simp only [List.map_toArray, List.map_cons, List.map_nil]); first | done | rfl | (simp only [List.length_drop, List.length_take]; rfl)) ?_; (with_reducible refine (word_Do.calls k 14 18446744073709551609 2 t137 _ A2.out).mono ?_); rintro e w' ⟨rfl, ⟨nd, rfl⟩⟩; refine ⟨_, rfl, ?_⟩) | (go_at_call 9; (with_reducible refine (word_Do.calls k t135 2147483647 1 t138 _ A6.out).mono ?_); rintro e w' ⟨rfl, ⟨nd, rfl⟩⟩))
     go_ret
     exact ⟨by first | rfl | (simp; done) | (simp [*]; done), by repeat (first | exact Drawn0.refl _ | apply Drawn0.step)⟩
   ·rw [if_neg c5] at H
    have c5b0 : (t135 == 18) = false := beq_eq_false_iff_ne.mpr c5
    have c5b1 : (t135 != 18) = true := bne_iff_ne.mpr c5
    obtain rfl := Option.some.inj H
    go_enter Tryd.func8, Tryd.ntmps8
    go_wp2_with (first | ((with_reducible refine gate_callee (f := 15) rfl ?_); refine goesL_ (some 4) rfl rfl Tryd.func15 (by kernel_rfl) rfl #[.string (⟨#[97, 100, 100, 119]⟩ : ByteArray)] rfl (by (try simp only [List.map_toArray, List.map_cons, List.map_nil]); first | done | rfl | (simp only [List.length_drop, List.length_take]; rfl)) ?_; (with_reducible refine (word_Named.calls k (⟨#[97, 100, 100, 119]⟩ : ByteArray) t135 true _ ?side1 A1.out).mono ?_); (case side1 => first | exact hG_ | exact hG_.drewN _ | exact hG_.under HB.out | exact (hG_.under HB.out).drewN _ | exact hG_.under (below_of_drawn (by assumption))); rintro e w' ⟨rfl, ⟨nd, rfl⟩⟩; refine ⟨_, rfl, ?_⟩) | ((with_reducible refine gate_callee (f := 9) rfl ?_); refine goesL_ (some 7) rfl rfl Tryd.func9 (by kernel_rfl) rfl #[.int .i64 14, .int .u64 18446744073709551609, .int .u64 2] rfl (by (try simp only [List.map_toArray, List.map_cons, List.map_nil]); first | done | rfl | (simp only [List.length_drop, List.length_take]; rfl)) ?_; (with_reducible refine (word_Do.calls k 14 18446744073709551609 2 t137 _ A2.out).mono ?_); rintro e w' ⟨rfl, ⟨nd, rfl⟩⟩; refine ⟨_, rfl, ?_⟩))
    go_ret
    exact ⟨by first | rfl | (simp; done) | (simp [*]; done), by repeat (first | exact Drawn0.refl _ | apply Drawn0.step)⟩
  ·replace c4 := Bool.eq_false_iff.mpr c4
   subst c4
   have H1 : (some false) = some r := by rw [if_neg (show ¬ (false = true) by decide)] at H; exact H
   clear H
   have H := H1
   clear H1
   obtain rfl := Option.some.inj H
   go_enter Tryd.func8, Tryd.ntmps8
   go_wp2_with (first | ((with_reducible refine gate_callee (f := 15) rfl ?_); refine goesL_ (some 4) rfl rfl Tryd.func15 (by kernel_rfl) rfl #[.string (⟨#[97, 100, 100, 119]⟩ : ByteArray)] rfl (by (try simp only [List.map_toArray, List.map_cons, List.map_nil]); first | done | rfl | (simp only [List.length_drop, List.length_take]; rfl)) ?_; (with_reducible refine (word_Named.calls k (⟨#[97, 100, 100, 119]⟩ : ByteArray) t135 false _ ?side1 A1.out).mono ?_); (case side1 => first | exact hG_ | exact hG_.drewN _ | exact hG_.under HB.out | exact (hG_.under HB.out).drewN _ | exact hG_.under (below_of_drawn (by assumption))); rintro e w' ⟨rfl, ⟨nd, rfl⟩⟩; refine ⟨_, rfl, ?_⟩) | ((with_reducible refine gate_callee (f := 9) rfl ?_); refine goesL_ (some 7) rfl rfl Tryd.func9 (by kernel_rfl) rfl #[.int .i64 14, .int .u64 18446744073709551609, .int .u64 2] rfl (by (try simp only [List.map_toArray, List.map_cons, List.map_nil]); first | done | rfl | (simp only [List.length_drop, List.length_take]; rfl)) ?_; (with_reducible refine (word_Do.calls k 14 18446744073709551609 2 t137 _ A2.out).mono ?_); rintro e w' ⟨rfl, ⟨nd, rfl⟩⟩; refine ⟨_, rfl, ?_⟩))
   go_ret
   exact ⟨by first | rfl | (simp; done) | (simp [*]; done), by repeat (first | exact Drawn0.refl _ | apply Drawn0.step)⟩
 ·rw [if_neg c3] at H
  have c3b0 : (t137 == 18446744073709551613) = false := beq_eq_false_iff_ne.mpr c3
  have c3b1 : (t137 != 18446744073709551613) = true := bne_iff_ne.mpr c3
  obtain rfl := Option.some.inj H
  go_enter Tryd.func8, Tryd.ntmps8
  go_wp2_with (first | ((with_reducible refine gate_callee (f := 15) rfl ?_); refine goesL_ (some 4) rfl rfl Tryd.func15 (by kernel_rfl) rfl #[.string (⟨#[97, 100, 100, 119]⟩ : ByteArray)] rfl (by (try simp only [List.map_toArray, List.map_cons, List.map_nil]); first | done | rfl | (simp only [List.length_drop, List.length_take]; rfl)) ?_; (with_reducible refine (word_Named.calls k (⟨#[97, 100, 100, 119]⟩ : ByteArray) t135 t136 _ ?side1 A1.out).mono ?_); (case side1 => first | exact hG_ | exact hG_.drewN _ | exact hG_.under HB.out | exact (hG_.under HB.out).drewN _ | exact hG_.under (below_of_drawn (by assumption))); rintro e w' ⟨rfl, ⟨nd, rfl⟩⟩; refine ⟨_, rfl, ?_⟩) | ((with_reducible refine gate_callee (f := 9) rfl ?_); refine goesL_ (some 7) rfl rfl Tryd.func9 (by kernel_rfl) rfl #[.int .i64 14, .int .u64 18446744073709551609, .int .u64 2] rfl (by (try simp only [List.map_toArray, List.map_cons, List.map_nil]); first | done | rfl | (simp only [List.length_drop, List.length_take]; rfl)) ?_; (with_reducible refine (word_Do.calls k 14 18446744073709551609 2 t137 _ A2.out).mono ?_); rintro e w' ⟨rfl, ⟨nd, rfl⟩⟩; refine ⟨_, rfl, ?_⟩))
  go_ret
  exact ⟨by first | rfl | (simp; done) | (simp [*]; done), by repeat (first | exact Drawn0.refl _ | apply Drawn0.step)⟩

/-! ### turnbucklelaw05_abs: function 11 -/
def turnbucklelaw05_abs.f (a0 : Int) : Option (Int) := if (wrap64 (a0)) < 0 then (some (IntKind.u64.wrap (-a0))) else (some a0)
set_option maxHeartbeats 8000000 in
set_option maxRecDepth 100000 in
theorem turnbucklelaw05_abs.calls (a0 : Int) (r : Int) (w : World) (h : turnbucklelaw05_abs.f a0 = some r) :
  Calls Tryd.prog 11 #[.int .u64 a0] w fun e w' => e = .returned (.int .u64 r) ∧ Drawn0 w w' := by
 have H : (if (wrap64 (a0)) < 0 then (some (IntKind.u64.wrap (-a0))) else (some a0)) = some r := h
 clear h
 by_cases c2 : (wrap64 (a0)) < 0
 ·rw [if_pos c2] at H
  have c2b0 : decide ((wrap64 (a0)) < 0) = true := decide_eq_true c2
  clear c2
  obtain rfl := Option.some.inj H
  go_enter Tryd.func11, Tryd.ntmps11
  go_wp2
  go_ret
  exact ⟨by first | rfl | (simp; done) | (simp [*]; done), by repeat (first | exact Drawn0.refl _ | apply Drawn0.step)⟩
 ·rw [if_neg c2] at H
  have c2b0 : decide ((wrap64 (a0)) < 0) = false := decide_eq_false c2
  clear c2
  obtain rfl := Option.some.inj H
  go_enter Tryd.func11, Tryd.ntmps11
  go_wp2
  go_ret
  exact ⟨by first | rfl | (simp; done) | (simp [*]; done), by repeat (first | exact Drawn0.refl _ | apply Drawn0.step)⟩

/-! ### turnbucklelaw05_WordDivides: function 4 -/
def turnbucklelaw05_WordDivides.j0 : Nat → Int → Int → Int → Bool → Option (Bool)
 | 0, _, _, _, _ => none
 | k + 1, x0, x1, x6, x62 => if x62 = true then (some false) else (if x6 = 0 then (some true) else (if ((decide ((wrap64 (x6)) < 0)) == (decide ((wrap64 (x0)) < 0))) = true then ((turnbucklelaw05_abs.f x6).bind fun t144 => ((turnbucklelaw05_abs.f x1).bind fun t145 => ((word_Do.f k 4 t144 t145).bind fun t146 => (some (t146 == 1))))) else (some false)))
def turnbucklelaw05_WordDivides.f (k : Nat) (a0 : Int) (a1 : Int) : Option (Bool) := (turnbucklelaw05_speaks.f k).bind fun t139 => (if t139 = true then ((word_Do.f k 14 a0 a1).bind fun t140 => ((word_Do.f k 16 a0 a1).bind fun t141 => ((word_Do.f k 15 a0 a1).bind fun t142 => ((word_Do.f k 17 a0 a1).bind fun t143 => (if a1 = 0 then (if t140 = 18446744073709551615 then (if t142 = t140 then (if t141 = a0 then (some (t143 == a0)) else (some false)) else (some false)) else (some false)) else (if (IntKind.u64.wrap ((IntKind.u64.wrap (t140 * a1)) + t141)) = a0 then (if (IntKind.u64.wrap ((IntKind.u64.wrap (t142 * a1)) + t143)) = a0 then (turnbucklelaw05_WordDivides.j0 k a0 a1 t141 (decide (t143 ≥ a1))) else (turnbucklelaw05_WordDivides.j0 k a0 a1 t141 true)) else (turnbucklelaw05_WordDivides.j0 k a0 a1 t141 true))))))) else (some false))
theorem turnbucklelaw05_WordDivides.mono_l : ∀ k, (∀ y0 y1 y2 y3, LeO (turnbucklelaw05_WordDivides.j0 k y0 y1 y2 y3) (turnbucklelaw05_WordDivides.j0 (k + 1) y0 y1 y2 y3))
 | 0 => fun _ _ _ _ r h => by simp [turnbucklelaw05_WordDivides.j0] at h
 | k + 1 => by
  have ih0 := turnbucklelaw05_WordDivides.mono_l k
  ·intro y0 y1 y2 y3
   unfold turnbucklelaw05_WordDivides.j0
   repeat' first
   | (with_reducible exact ih0 _ _ _ _)
   | (with_reducible exact turnbucklelaw05_speaks.mono _)
   | (with_reducible exact word_Do.mono _ _ _ _)
   | (with_reducible exact LeO.refl _)
   | (with_reducible exact LeO.none _)
   | (with_reducible refine LeO.ite ?_ ?_)
   | (with_reducible refine LeO.bind ?_ (fun _ => ?_))
   | exact ih0 _ _ _ _
   | exact turnbucklelaw05_speaks.mono _
   | exact word_Do.mono _ _ _ _
   | exact LeO.none _
   | refine LeO.ite ?_ ?_
   | refine LeO.bind ?_ (fun _ => ?_)
theorem turnbucklelaw05_WordDivides.mono : ∀ a0 a1 k, LeO (turnbucklelaw05_WordDivides.f k a0 a1) (turnbucklelaw05_WordDivides.f (k + 1) a0 a1) := by
 intro a0 a1 k
 have ih0 := turnbucklelaw05_WordDivides.mono_l k
 unfold turnbucklelaw05_WordDivides.f
 repeat' first
   | (with_reducible exact ih0 _ _ _ _)
   | (with_reducible exact turnbucklelaw05_speaks.mono _)
   | (with_reducible exact word_Do.mono _ _ _ _)
   | (with_reducible exact LeO.refl _)
   | (with_reducible exact LeO.none _)
   | (with_reducible refine LeO.ite ?_ ?_)
   | (with_reducible refine LeO.bind ?_ (fun _ => ?_))
   | exact ih0 _ _ _ _
   | exact turnbucklelaw05_speaks.mono _
   | exact word_Do.mono _ _ _ _
   | exact LeO.none _
   | refine LeO.ite ?_ ?_
   | refine LeO.bind ?_ (fun _ => ?_)
set_option maxHeartbeats 8000000 in
set_option maxRecDepth 100000 in
theorem turnbucklelaw05_WordDivides.calls (k : Nat) (a0 : Int) (a1 : Int) (r : Bool) (w : World) (hG_ : Go.Proofs.YtoolfgohbffgnaaDoorGlob.Is w) (h : turnbucklelaw05_WordDivides.f k a0 a1 = some r) :
  Calls Tryd.prog 4 #[.int .u64 a0, .int .u64 a1] w fun e w' => e = .returned (.bool r) ∧ Drawn0 w w' := by
 have H : ((turnbucklelaw05_speaks.f k).bind fun t139 => (if t139 = true then ((word_Do.f k 14 a0 a1).bind fun t140 => ((word_Do.f k 16 a0 a1).bind fun t141 => ((word_Do.f k 15 a0 a1).bind fun t142 => ((word_Do.f k 17 a0 a1).bind fun t143 => (if a1 = 0 then (if t140 = 18446744073709551615 then (if t142 = t140 then (if t141 = a0 then (some (t143 == a0)) else (some false)) else (some false)) else (some false)) else (if (IntKind.u64.wrap ((IntKind.u64.wrap (t140 * a1)) + t141)) = a0 then (if (IntKind.u64.wrap ((IntKind.u64.wrap (t142 * a1)) + t143)) = a0 then (turnbucklelaw05_WordDivides.j0 k a0 a1 t141 (decide (t143 ≥ a1))) else (turnbucklelaw05_WordDivides.j0 k a0 a1 t141 true)) else (turnbucklelaw05_WordDivides.j0 k a0 a1 t141 true))))))) else (some false))) = some r := h
 clear h
 replace H := Option.bind_eq_some_iff.mp H
 obtain ⟨t139, A30, H⟩ := H
 replace H : (if t139 = true then ((word_Do.f k 14 a0 a1).bind fun t140 => ((word_Do.f k 16 a0 a1).bind fun t141 => ((word_Do.f k 15 a0 a1).bind fun t142 => ((word_Do.f k 17 a0 a1).bind fun t143 => (if a1 = 0 then (if t140 = 18446744073709551615 then (if t142 = t140 then (if t141 = a0 then (some (t143 == a0)) else (some false)) else (some false)) else (some false)) else (if (IntKind.u64.wrap ((IntKind.u64.wrap (t140 * a1)) + t141)) = a0 then (if (IntKind.u64.wrap ((IntKind.u64.wrap (t142 * a1)) + t143)) = a0 then (turnbucklelaw05_WordDivides.j0 k a0 a1 t141 (decide (t143 ≥ a1))) else (turnbucklelaw05_WordDivides.j0 k a0 a1 t141 true)) else (turnbucklelaw05_WordDivides.j0 k a0 a1 t141 true))))))) else (some false)) = some r := H
 have A3 := Aside0.mk A30
 clear A30
 by_cases c4 : t139 = true
 ·subst c4
  have H1 : ((word_Do.f k 14 a0 a1).bind fun t140 => ((word_Do.f k 16 a0 a1).bind fun t141 => ((word_Do.f k 15 a0 a1).bind fun t142 => ((word_Do.f k 17 a0 a1).bind fun t143 => (if a1 = 0 then (if t140 = 18446744073709551615 then (if t142 = t140 then (if t141 = a0 then (some (t143 == a0)) else (some false)) else (some false)) else (some false)) else (if (IntKind.u64.wrap ((IntKind.u64.wrap (t140 * a1)) + t141)) = a0 then (if (IntKind.u64.wrap ((IntKind.u64.wrap (t142 * a1)) + t143)) = a0 then (turnbucklelaw05_WordDivides.j0 k a0 a1 t141 (decide (t143 ≥ a1))) else (turnbucklelaw05_WordDivides.j0 k a0 a1 t141 true)) else (turnbucklelaw05_WordDivides.j0 k a0 a1 t141 true))))))) = some r := by rw [if_pos rfl] at H; exact H
  clear H
  have H := H1
  clear H1
  replace H := Option.bind_eq_some_iff.mp H
  obtain ⟨t140, A50, H⟩ := H
  replace H : ((word_Do.f k 16 a0 a1).bind fun t141 => ((word_Do.f k 15 a0 a1).bind fun t142 => ((word_Do.f k 17 a0 a1).bind fun t143 => (if a1 = 0 then (if t140 = 18446744073709551615 then (if t142 = t140 then (if t141 = a0 then (some (t143 == a0)) else (some false)) else (some false)) else (some false)) else (if (IntKind.u64.wrap ((IntKind.u64.wrap (t140 * a1)) + t141)) = a0 then (if (IntKind.u64.wrap ((IntKind.u64.wrap (t142 * a1)) + t143)) = a0 then (turnbucklelaw05_WordDivides.j0 k a0 a1 t141 (decide (t143 ≥ a1))) else (turnbucklelaw05_WordDivides.j0 k a0 a1 t141 true)) else (turnbucklelaw05_WordDivides.j0 k a0 a1 t141 true)))))) = some r := H
  have A5 := Aside0.mk A50
  clear A50
  replace H := Option.bind_eq_some_iff.mp H
  obtain ⟨t141, A60, H⟩ := H
  replace H : ((word_Do.f k 15 a0 a1).bind fun t142 => ((word_Do.f k 17 a0 a1).bind fun t143 => (if a1 = 0 then (if t140 = 18446744073709551615 then (if t142 = t140 then (if t141 = a0 then (some (t143 == a0)) else (some false)) else (some false)) else (some false)) else (if (IntKind.u64.wrap ((IntKind.u64.wrap (t140 * a1)) + t141)) = a0 then (if (IntKind.u64.wrap ((IntKind.u64.wrap (t142 * a1)) + t143)) = a0 then (turnbucklelaw05_WordDivides.j0 k a0 a1 t141 (decide (t143 ≥ a1))) else (turnbucklelaw05_WordDivides.j0 k a0 a1 t141 true)) else (turnbucklelaw05_WordDivides.j0 k a0 a1 t141 true))))) = some r := H
  have A6 := Aside0.mk A60
  clear A60
  replace H := Option.bind_eq_some_iff.mp H
  obtain ⟨t142, A70, H⟩ := H
  replace H : ((word_Do.f k 17 a0 a1).bind fun t143 => (if a1 = 0 then (if t140 = 18446744073709551615 then (if t142 = t140 then (if t141 = a0 then (some (t143 == a0)) else (some false)) else (some false)) else (some false)) else (if (IntKind.u64.wrap ((IntKind.u64.wrap (t140 * a1)) + t141)) = a0 then (if (IntKind.u64.wrap ((IntKind.u64.wrap (t142 * a1)) + t143)) = a0 then (turnbucklelaw05_WordDivides.j0 k a0 a1 t141 (decide (t143 ≥ a1))) else (turnbucklelaw05_WordDivides.j0 k a0 a1 t141 true)) else (turnbucklelaw05_WordDivides.j0 k a0 a1 t141 true)))) = some r := H
  have A7 := Aside0.mk A70
  clear A70
  replace H := Option.bind_eq_some_iff.mp H
  obtain ⟨t143, A80, H⟩ := H
  replace H : (if a1 = 0 then (if t140 = 18446744073709551615 then (if t142 = t140 then (if t141 = a0 then (some (t143 == a0)) else (some false)) else (some false)) else (some false)) else (if (IntKind.u64.wrap ((IntKind.u64.wrap (t140 * a1)) + t141)) = a0 then (if (IntKind.u64.wrap ((IntKind.u64.wrap (t142 * a1)) + t143)) = a0 then (turnbucklelaw05_WordDivides.j0 k a0 a1 t141 (decide (t143 ≥ a1))) else (turnbucklelaw05_WordDivides.j0 k a0 a1 t141 true)) else (turnbucklelaw05_WordDivides.j0 k a0 a1 t141 true))) = some r := H
  have A8 := Aside0.mk A80
  clear A80
  by_cases c9 : a1 = 0
  ·rw [if_pos c9] at H
   have c9b0 : (a1 == 0) = true := beq_iff_eq.mpr c9
   have c9b1 : (a1 != 0) = false := bne_eq_false_iff_eq.mpr c9
   clear c9
   by_cases c10 : t140 = 18446744073709551615
   ·rw [if_pos c10] at H
    have c10b0 : (t140 == 18446744073709551615) = true := beq_iff_eq.mpr c10
    have c10b1 : (t140 != 18446744073709551615) = false := bne_eq_false_iff_eq.mpr c10
    clear c10
    by_cases c11 : t142 = t140
    ·rw [if_pos c11] at H
     have c11b0 : (t142 == t140) = true := beq_iff_eq.mpr c11
     have c11b1 : (t142 != t140) = false := bne_eq_false_iff_eq.mpr c11
     clear c11
     by_cases c12 : t141 = a0
     ·rw [if_pos c12] at H
      have c12b0 : (t141 == a0) = true := beq_iff_eq.mpr c12
      have c12b1 : (t141 != a0) = false := bne_eq_false_iff_eq.mpr c12
      clear c12
      obtain rfl := Option.some.inj H
      go_enter Tryd.func4, Tryd.ntmps4
      go_wp2_with (first | ((with_reducible refine gate_callee (f := 8) rfl ?_); refine goesL_ (some 9) rfl rfl Tryd.func8 (by kernel_rfl) rfl #[] rfl (by (try simp only [List.map_toArray, List.map_cons, List.map_nil]); first | done | rfl | (simp only [List.length_drop, List.length_take]; rfl)) ?_; (with_reducible refine (turnbucklelaw05_speaks.calls k  true _ ?side1 A3.out).mono ?_); (case side1 => first | exact hG_ | exact hG_.drewN _ | exact hG_.under HB.out | exact (hG_.under HB.out).drewN _ | exact hG_.under (below_of_drawn (by assumption))); rintro e w' ⟨rfl, ⟨nd, rfl⟩⟩; refine ⟨_, rfl, ?_⟩) | ((with_reducible refine gate_callee (f := 9) rfl ?_); refine goesL_ (some 13) rfl rfl Tryd.func9 (by kernel_rfl) rfl #[.int .i64 14, .int .u64 a0, .int .u64 a1] rfl (by (try simp only [List.map_toArray, List.map_cons, List.map_nil]); first | done | rfl | (simp only [List.length_drop, List.length_take]; rfl)) ?_; (with_reducible refine (word_Do.calls k 14 a0 a1 t140 _ A5.out).mono ?_); rintro e w' ⟨rfl, ⟨nd, rfl⟩⟩; refine ⟨_, rfl, ?_⟩) | ((with_reducible refine gate_callee (f := 9) rfl ?_); refine goesL_ (some 16) rfl rfl Tryd.func9 (by kernel_rfl) rfl #[.int .i64 16, .int .u64 a0, .int .u64 a1] rfl (by (try simp only [List.map_toArray, List.map_cons, List.map_nil]); first | done | rfl | (simp only [List.length_drop, List.length_take]; rfl)) ?_; (with_reducible refine (word_Do.calls k 16 a0 a1 t141 _ A6.out).mono ?_); rintro e w' ⟨rfl, ⟨nd, rfl⟩⟩; refine ⟨_, rfl, ?_⟩) | ((with_reducible refine gate_callee (f := 9) rfl ?_); refine goesL_ (some 19) rfl rfl Tryd.func9 (by kernel_rfl) rfl #[.int .i64 15, .int .u64 a0, .int .u64 a1] rfl (by (try simp only [List.map_toArray, List.map_cons, List.map_nil]); first | done | rfl | (simp only [List.length_drop, List.length_take]; rfl)) ?_; (with_reducible refine (word_Do.calls k 15 a0 a1 t142 _ A7.out).mono ?_); rintro e w' ⟨rfl, ⟨nd, rfl⟩⟩; refine ⟨_, rfl, ?_⟩) | ((with_reducible refine gate_callee (f := 9) rfl ?_); refine goesL_ (some 22) rfl rfl Tryd.func9 (by kernel_rfl) rfl #[.int .i64 17, .int .u64 a0, .int .u64 a1] rfl (by (try simp only [List.map_toArray, List.map_cons, List.map_nil]); first | done | rfl | (simp only [List.length_drop, List.length_take]; rfl)) ?_; (with_reducible refine (word_Do.calls k 17 a0 a1 t143 _ A8.out).mono ?_); rintro e w' ⟨rfl, ⟨nd, rfl⟩⟩; refine ⟨_, rfl, ?_⟩))
      go_ret
      exact ⟨by first | rfl | (simp; done) | (simp [*]; done), by repeat (first | exact Drawn0.refl _ | apply Drawn0.step)⟩
     ·rw [if_neg c12] at H
      have c12b0 : (t141 == a0) = false := beq_eq_false_iff_ne.mpr c12
      have c12b1 : (t141 != a0) = true := bne_iff_ne.mpr c12
      obtain rfl := Option.some.inj H
      go_enter Tryd.func4, Tryd.ntmps4
      go_wp2_with (first | ((with_reducible refine gate_callee (f := 8) rfl ?_); refine goesL_ (some 9) rfl rfl Tryd.func8 (by kernel_rfl) rfl #[] rfl (by (try simp only [List.map_toArray, List.map_cons, List.map_nil]); first | done | rfl | (simp only [List.length_drop, List.length_take]; rfl)) ?_; (with_reducible refine (turnbucklelaw05_speaks.calls k  true _ ?side1 A3.out).mono ?_); (case side1 => first | exact hG_ | exact hG_.drewN _ | exact hG_.under HB.out | exact (hG_.under HB.out).drewN _ | exact hG_.under (below_of_drawn (by assumption))); rintro e w' ⟨rfl, ⟨nd, rfl⟩⟩; refine ⟨_, rfl, ?_⟩) | ((with_reducible refine gate_callee (f := 9) rfl ?_); refine goesL_ (some 13) rfl rfl Tryd.func9 (by kernel_rfl) rfl #[.int .i64 14, .int .u64 a0, .int .u64 a1] rfl (by (try simp only [List.map_toArray, List.map_cons, List.map_nil]); first | done | rfl | (simp only [List.length_drop, List.length_take]; rfl)) ?_; (with_reducible refine (word_Do.calls k 14 a0 a1 t140 _ A5.out).mono ?_); rintro e w' ⟨rfl, ⟨nd, rfl⟩⟩; refine ⟨_, rfl, ?_⟩) | ((with_reducible refine gate_callee (f := 9) rfl ?_); refine goesL_ (some 16) rfl rfl Tryd.func9 (by kernel_rfl) rfl #[.int .i64 16, .int .u64 a0, .int .u64 a1] rfl (by (try simp only [List.map_toArray, List.map_cons, List.map_nil]); first | done | rfl | (simp only [List.length_drop, List.length_take]; rfl)) ?_; (with_reducible refine (word_Do.calls k 16 a0 a1 t141 _ A6.out).mono ?_); rintro e w' ⟨rfl, ⟨nd, rfl⟩⟩; refine ⟨_, rfl, ?_⟩) | ((with_reducible refine gate_callee (f := 9) rfl ?_); refine goesL_ (some 19) rfl rfl Tryd.func9 (by kernel_rfl) rfl #[.int .i64 15, .int .u64 a0, .int .u64 a1] rfl (by (try simp only [List.map_toArray, List.map_cons, List.map_nil]); first | done | rfl | (simp only [List.length_drop, List.length_take]; rfl)) ?_; (with_reducible refine (word_Do.calls k 15 a0 a1 t142 _ A7.out).mono ?_); rintro e w' ⟨rfl, ⟨nd, rfl⟩⟩; refine ⟨_, rfl, ?_⟩) | ((with_reducible refine gate_callee (f := 9) rfl ?_); refine goesL_ (some 22) rfl rfl Tryd.func9 (by kernel_rfl) rfl #[.int .i64 17, .int .u64 a0, .int .u64 a1] rfl (by (try simp only [List.map_toArray, List.map_cons, List.map_nil]); first | done | rfl | (simp only [List.length_drop, List.length_take]; rfl)) ?_; (with_reducible refine (word_Do.calls k 17 a0 a1 t143 _ A8.out).mono ?_); rintro e w' ⟨rfl, ⟨nd, rfl⟩⟩; refine ⟨_, rfl, ?_⟩))
      go_ret
      exact ⟨by first | rfl | (simp; done) | (simp [*]; done), by repeat (first | exact Drawn0.refl _ | apply Drawn0.step)⟩
    ·rw [if_neg c11] at H
     have c11b0 : (t142 == t140) = false := beq_eq_false_iff_ne.mpr c11
     have c11b1 : (t142 != t140) = true := bne_iff_ne.mpr c11
     obtain rfl := Option.some.inj H
     go_enter Tryd.func4, Tryd.ntmps4
     go_wp2_with (first | ((with_reducible refine gate_callee (f := 8) rfl ?_); refine goesL_ (some 9) rfl rfl Tryd.func8 (by kernel_rfl) rfl #[] rfl (by (try simp only [List.map_toArray, List.map_cons, List.map_nil]); first | done | rfl | (simp only [List.length_drop, List.length_take]; rfl)) ?_; (with_reducible refine (turnbucklelaw05_speaks.calls k  true _ ?side1 A3.out).mono ?_); (case side1 => first | exact hG_ | exact hG_.drewN _ | exact hG_.under HB.out | exact (hG_.under HB.out).drewN _ | exact hG_.under (below_of_drawn (by assumption))); rintro e w' ⟨rfl, ⟨nd, rfl⟩⟩; refine ⟨_, rfl, ?_⟩) | ((with_reducible refine gate_callee (f := 9) rfl ?_); refine goesL_ (some 13) rfl rfl Tryd.func9 (by kernel_rfl) rfl #[.int .i64 14, .int .u64 a0, .int .u64 a1] rfl (by (try simp only [List.map_toArray, List.map_cons, List.map_nil]); first | done | rfl | (simp only [List.length_drop, List.length_take]; rfl)) ?_; (with_reducible refine (word_Do.calls k 14 a0 a1 t140 _ A5.out).mono ?_); rintro e w' ⟨rfl, ⟨nd, rfl⟩⟩; refine ⟨_, rfl, ?_⟩) | ((with_reducible refine gate_callee (f := 9) rfl ?_); refine goesL_ (some 16) rfl rfl Tryd.func9 (by kernel_rfl) rfl #[.int .i64 16, .int .u64 a0, .int .u64 a1] rfl (by (try simp only [List.map_toArray, List.map_cons, List.map_nil]); first | done | rfl | (simp only [List.length_drop, List.length_take]; rfl)) ?_; (with_reducible refine (word_Do.calls k 16 a0 a1 t141 _ A6.out).mono ?_); rintro e w' ⟨rfl, ⟨nd, rfl⟩⟩; refine ⟨_, rfl, ?_⟩) | ((with_reducible refine gate_callee (f := 9) rfl ?_); refine goesL_ (some 19) rfl rfl Tryd.func9 (by kernel_rfl) rfl #[.int .i64 15, .int .u64 a0, .int .u64 a1] rfl (by (try simp only [List.map_toArray, List.map_cons, List.map_nil]); first | done | rfl | (simp only [List.length_drop, List.length_take]; rfl)) ?_; (with_reducible refine (word_Do.calls k 15 a0 a1 t142 _ A7.out).mono ?_); rintro e w' ⟨rfl, ⟨nd, rfl⟩⟩; refine ⟨_, rfl, ?_⟩) | ((with_reducible refine gate_callee (f := 9) rfl ?_); refine goesL_ (some 22) rfl rfl Tryd.func9 (by kernel_rfl) rfl #[.int .i64 17, .int .u64 a0, .int .u64 a1] rfl (by (try simp only [List.map_toArray, List.map_cons, List.map_nil]); first | done | rfl | (simp only [List.length_drop, List.length_take]; rfl)) ?_; (with_reducible refine (word_Do.calls k 17 a0 a1 t143 _ A8.out).mono ?_); rintro e w' ⟨rfl, ⟨nd, rfl⟩⟩; refine ⟨_, rfl, ?_⟩))
     go_ret
     exact ⟨by first | rfl | (simp; done) | (simp [*]; done), by repeat (first | exact Drawn0.refl _ | apply Drawn0.step)⟩
   ·rw [if_neg c10] at H
    have c10b0 : (t140 == 18446744073709551615) = false := beq_eq_false_iff_ne.mpr c10
    have c10b1 : (t140 != 18446744073709551615) = true := bne_iff_ne.mpr c10
    obtain rfl := Option.some.inj H
    go_enter Tryd.func4, Tryd.ntmps4
    go_wp2_with (first | ((with_reducible refine gate_callee (f := 8) rfl ?_); refine goesL_ (some 9) rfl rfl Tryd.func8 (by kernel_rfl) rfl #[] rfl (by (try simp only [List.map_toArray, List.map_cons, List.map_nil]); first | done | rfl | (simp only [List.length_drop, List.length_take]; rfl)) ?_; (with_reducible refine (turnbucklelaw05_speaks.calls k  true _ ?side1 A3.out).mono ?_); (case side1 => first | exact hG_ | exact hG_.drewN _ | exact hG_.under HB.out | exact (hG_.under HB.out).drewN _ | exact hG_.under (below_of_drawn (by assumption))); rintro e w' ⟨rfl, ⟨nd, rfl⟩⟩; refine ⟨_, rfl, ?_⟩) | ((with_reducible refine gate_callee (f := 9) rfl ?_); refine goesL_ (some 13) rfl rfl Tryd.func9 (by kernel_rfl) rfl #[.int .i64 14, .int .u64 a0, .int .u64 a1] rfl (by (try simp only [List.map_toArray, List.map_cons, List.map_nil]); first | done | rfl | (simp only [List.length_drop, List.length_take]; rfl)) ?_; (with_reducible refine (word_Do.calls k 14 a0 a1 t140 _ A5.out).mono ?_); rintro e w' ⟨rfl, ⟨nd, rfl⟩⟩; refine ⟨_, rfl, ?_⟩) | ((with_reducible refine gate_callee (f := 9) rfl ?_); refine goesL_ (some 16) rfl rfl Tryd.func9 (by kernel_rfl) rfl #[.int .i64 16, .int .u64 a0, .int .u64 a1] rfl (by (try simp only [List.map_toArray, List.map_cons, List.map_nil]); first | done | rfl | (simp only [List.length_drop, List.length_take]; rfl)) ?_; (with_reducible refine (word_Do.calls k 16 a0 a1 t141 _ A6.out).mono ?_); rintro e w' ⟨rfl, ⟨nd, rfl⟩⟩; refine ⟨_, rfl, ?_⟩) | ((with_reducible refine gate_callee (f := 9) rfl ?_); refine goesL_ (some 19) rfl rfl Tryd.func9 (by kernel_rfl) rfl #[.int .i64 15, .int .u64 a0, .int .u64 a1] rfl (by (try simp only [List.map_toArray, List.map_cons, List.map_nil]); first | done | rfl | (simp only [List.length_drop, List.length_take]; rfl)) ?_; (with_reducible refine (word_Do.calls k 15 a0 a1 t142 _ A7.out).mono ?_); rintro e w' ⟨rfl, ⟨nd, rfl⟩⟩; refine ⟨_, rfl, ?_⟩) | ((with_reducible refine gate_callee (f := 9) rfl ?_); refine goesL_ (some 22) rfl rfl Tryd.func9 (by kernel_rfl) rfl #[.int .i64 17, .int .u64 a0, .int .u64 a1] rfl (by (try simp only [List.map_toArray, List.map_cons, List.map_nil]); first | done | rfl | (simp only [List.length_drop, List.length_take]; rfl)) ?_; (with_reducible refine (word_Do.calls k 17 a0 a1 t143 _ A8.out).mono ?_); rintro e w' ⟨rfl, ⟨nd, rfl⟩⟩; refine ⟨_, rfl, ?_⟩))
    go_ret
    exact ⟨by first | rfl | (simp; done) | (simp [*]; done), by repeat (first | exact Drawn0.refl _ | apply Drawn0.step)⟩
  ·rw [if_neg c9] at H
   have c9b0 : (a1 == 0) = false := beq_eq_false_iff_ne.mpr c9
   have c9b1 : (a1 != 0) = true := bne_iff_ne.mpr c9
   have HC13 := Aside0.mk H
   clear H
   go_enter Tryd.func4, Tryd.ntmps4
   go_upto_region 7 with (first | ((with_reducible refine gate_callee (f := 8) rfl ?_); refine goesL_ (some 9) rfl rfl Tryd.func8 (by kernel_rfl) rfl #[] rfl (by (try simp only [List.map_toArray, List.map_cons, List.map_nil]); first | done | rfl | (simp only [List.length_drop, List.length_take]; rfl)) ?_; (with_reducible refine (turnbucklelaw05_speaks.calls k  true _ ?side1 A3.out).mono ?_); (case side1 => first | exact hG_ | exact hG_.drewN _ | exact hG_.under HB.out | exact (hG_.under HB.out).drewN _ | exact hG_.under (below_of_drawn (by assumption))); rintro e w' ⟨rfl, ⟨nd, rfl⟩⟩; refine ⟨_, rfl, ?_⟩) | ((with_reducible refine gate_callee (f := 9) rfl ?_); refine goesL_ (some 13) rfl rfl Tryd.func9 (by kernel_rfl) rfl #[.int .i64 14, .int .u64 a0, .int .u64 a1] rfl (by (try simp only [List.map_toArray, List.map_cons, List.map_nil]); first | done | rfl | (simp only [List.length_drop, List.length_take]; rfl)) ?_; (with_reducible refine (word_Do.calls k 14 a0 a1 t140 _ A5.out).mono ?_); rintro e w' ⟨rfl, ⟨nd, rfl⟩⟩; refine ⟨_, rfl, ?_⟩) | ((with_reducible refine gate_callee (f := 9) rfl ?_); refine goesL_ (some 16) rfl rfl Tryd.func9 (by kernel_rfl) rfl #[.int .i64 16, .int .u64 a0, .int .u64 a1] rfl (by (try simp only [List.map_toArray, List.map_cons, List.map_nil]); first | done | rfl | (simp only [List.length_drop, List.length_take]; rfl)) ?_; (with_reducible refine (word_Do.calls k 16 a0 a1 t141 _ A6.out).mono ?_); rintro e w' ⟨rfl, ⟨nd, rfl⟩⟩; refine ⟨_, rfl, ?_⟩) | ((with_reducible refine gate_callee (f := 9) rfl ?_); refine goesL_ (some 19) rfl rfl Tryd.func9 (by kernel_rfl) rfl #[.int .i64 15, .int .u64 a0, .int .u64 a1] rfl (by (try simp only [List.map_toArray, List.map_cons, List.map_nil]); first | done | rfl | (simp only [List.length_drop, List.length_take]; rfl)) ?_; (with_reducible refine (word_Do.calls k 15 a0 a1 t142 _ A7.out).mono ?_); rintro e w' ⟨rfl, ⟨nd, rfl⟩⟩; refine ⟨_, rfl, ?_⟩) | ((with_reducible refine gate_callee (f := 9) rfl ?_); refine goesL_ (some 22) rfl rfl Tryd.func9 (by kernel_rfl) rfl #[.int .i64 17, .int .u64 a0, .int .u64 a1] rfl (by (try simp only [List.map_toArray, List.map_cons, List.map_nil]); first | done | rfl | (simp only [List.length_drop, List.length_take]; rfl)) ?_; (with_reducible refine (word_Do.calls k 17 a0 a1 t143 _ A8.out).mono ?_); rintro e w' ⟨rfl, ⟨nd, rfl⟩⟩; refine ⟨_, rfl, ?_⟩))
   (try simp only [Act.put, List.setIfInBounds_toArray, List.set_cons_zero, List.set_cons_succ])
   go_cut [62] (fun v62 wc => ∃ (kq : Nat) (x62_12 : Bool), v62 = .bool x62_12 ∧ Aside0 (turnbucklelaw05_WordDivides.j0 kq a0 a1 t141 x62_12 = some r) ∧ Aside0 (kq ≤ k) ∧ Drawn0 w wc)
   case first =>
    have H := HC13.out
    clear HC13
    by_cases c14 : (IntKind.u64.wrap ((IntKind.u64.wrap (t140 * a1)) + t141)) = a0
    ·rw [if_pos c14] at H
     have c14b0 : ((IntKind.u64.wrap ((IntKind.u64.wrap (t140 * a1)) + t141)) == a0) = true := beq_iff_eq.mpr c14
     have c14b1 : ((IntKind.u64.wrap ((IntKind.u64.wrap (t140 * a1)) + t141)) != a0) = false := bne_eq_false_iff_eq.mpr c14
     clear c14
     (first | rw [c14b0] | (simp only [i64_w, i32_w]; rw [c14b0]) | skip)
     by_cases c15 : (IntKind.u64.wrap ((IntKind.u64.wrap (t142 * a1)) + t143)) = a0
     ·rw [if_pos c15] at H
      have c15b0 : ((IntKind.u64.wrap ((IntKind.u64.wrap (t142 * a1)) + t143)) == a0) = true := beq_iff_eq.mpr c15
      have c15b1 : ((IntKind.u64.wrap ((IntKind.u64.wrap (t142 * a1)) + t143)) != a0) = false := bne_eq_false_iff_eq.mpr c15
      clear c15
      have H' := Aside0.mk H
      clear H
      go_wp2
      (try subst hji7)
      (try subst hji9)
      (try subst hji16)
      (try subst hji18)
      (try subst hji20)
      (try subst hji22)
      (try subst hji5)
      (try subst hji7)
      (try subst hji9)
      (try subst hji11)
      (try subst hji13)
      (try subst hji16)
      (try subst hji18)
      go_meet
      case rel => exact ⟨_, (decide (t143 ≥ a1)), (by first | rfl | (simp; done) | (simp [*]; done)), H', ⟨by first | omega | exact Nat.le_refl _⟩, by repeat (first | exact Drawn0.refl _ | apply Drawn0.step)⟩
     ·rw [if_neg c15] at H
      have c15b0 : ((IntKind.u64.wrap ((IntKind.u64.wrap (t142 * a1)) + t143)) == a0) = false := beq_eq_false_iff_ne.mpr c15
      have c15b1 : ((IntKind.u64.wrap ((IntKind.u64.wrap (t142 * a1)) + t143)) != a0) = true := bne_iff_ne.mpr c15
      have H' := Aside0.mk H
      clear H
      go_wp2
      (try subst hji7)
      (try subst hji9)
      (try subst hji16)
      (try subst hji18)
      (try subst hji20)
      (try subst hji22)
      (try subst hji5)
      (try subst hji7)
      (try subst hji9)
      (try subst hji11)
      (try subst hji13)
      (try subst hji16)
      (try subst hji18)
      go_meet
      case rel => exact ⟨_, (true), (by first | rfl | (simp; done) | (simp [*]; done)), H', ⟨by first | omega | exact Nat.le_refl _⟩, by repeat (first | exact Drawn0.refl _ | apply Drawn0.step)⟩
    ·rw [if_neg c14] at H
     have c14b0 : ((IntKind.u64.wrap ((IntKind.u64.wrap (t140 * a1)) + t141)) == a0) = false := beq_eq_false_iff_ne.mpr c14
     have c14b1 : ((IntKind.u64.wrap ((IntKind.u64.wrap (t140 * a1)) + t141)) != a0) = true := bne_iff_ne.mpr c14
     (first | rw [c14b0] | (simp only [i64_w, i32_w]; rw [c14b0]) | skip)
     have H' := Aside0.mk H
     clear H
     go_wp2
     (try subst hji7)
     (try subst hji9)
     (try subst hji16)
     (try subst hji18)
     (try subst hji20)
     (try subst hji22)
     (try subst hji5)
     (try subst hji7)
     (try subst hji9)
     (try subst hji11)
     (try subst hji13)
     (try subst hji16)
     (try subst hji18)
     go_meet
     case rel => exact ⟨_, (true), (by first | rfl | (simp; done) | (simp [*]; done)), H', ⟨by first | omega | exact Nat.le_refl _⟩, by repeat (first | exact Drawn0.refl _ | apply Drawn0.step)⟩
   case rest =>
    clear HC13
    try clear c1
    try clear p2
    try clear c4
    try clear c8
    try clear c9
    try clear c9b0
    try clear c9b1
    try clear c10
    try clear c10b0
    try clear c10b1
    try clear c11
    try clear c11b0
    try clear c11b1
    try clear c12
    try clear c12b0
    try clear c12b1
    try clear c14
    try clear c14b0
    try clear c14b1
    try clear c15
    try clear c15b0
    try clear c15b1
    obtain ⟨kq, x62_12, rfl, HA, HJ12, ⟨mc12, rfl⟩⟩ := hcut
    cases kq with
    | zero => exact absurd HA.out (by simp [turnbucklelaw05_WordDivides.j0])
    | succ kj12 =>
     have H := HA.out
     clear HA
     simp only [turnbucklelaw05_WordDivides.j0] at H
     by_cases c16 : x62_12 = true
     ·subst c16
      have H1 : (some false) = some r := by rw [if_pos rfl] at H; exact H
      clear H
      have H := H1
      clear H1
      obtain rfl := Option.some.inj H
      go_wp2
      go_ret
      exact ⟨by first | rfl | (simp; done) | (simp [*]; done), by repeat (first | exact Drawn0.refl _ | apply Drawn0.step)⟩
     ·replace c16 := Bool.eq_false_iff.mpr c16
      subst c16
      have H1 : (if t141 = 0 then (some true) else (if ((decide ((wrap64 (t141)) < 0)) == (decide ((wrap64 (a0)) < 0))) = true then ((turnbucklelaw05_abs.f t141).bind fun t144 => ((turnbucklelaw05_abs.f a1).bind fun t145 => ((word_Do.f kj12 4 t144 t145).bind fun t146 => (some (t146 == 1))))) else (some false))) = some r := by rw [if_neg (show ¬ (false = true) by decide)] at H; exact H
      clear H
      have H := H1
      clear H1
      by_cases c17 : t141 = 0
      ·rw [if_pos c17] at H
       have c17b0 : (t141 == 0) = true := beq_iff_eq.mpr c17
       have c17b1 : (t141 != 0) = false := bne_eq_false_iff_eq.mpr c17
       clear c17
       obtain rfl := Option.some.inj H
       go_wp2
       go_ret
       exact ⟨by first | rfl | (simp; done) | (simp [*]; done), by repeat (first | exact Drawn0.refl _ | apply Drawn0.step)⟩
      ·rw [if_neg c17] at H
       have c17b0 : (t141 == 0) = false := beq_eq_false_iff_ne.mpr c17
       have c17b1 : (t141 != 0) = true := bne_iff_ne.mpr c17
       by_cases c18 : ((decide ((wrap64 (t141)) < 0)) == (decide ((wrap64 (a0)) < 0))) = true
       ·rw [if_pos c18] at H
        have c18b0 : ((decide ((wrap64 (t141)) < 0)) == (decide ((wrap64 (a0)) < 0))) = true := c18
        (try (have c18b1 : decide ((decide ((wrap64 (t141)) < 0)) = (decide ((wrap64 (a0)) < 0))) = true := by simpa using c18))
        (try (have c18b2 : ((decide ((wrap64 (t141)) < 0)) == (decide ((wrap64 (a0)) < 0))) = true := by simpa using c18))
        clear c18
        replace H := Option.bind_eq_some_iff.mp H
        obtain ⟨t144, A190, H⟩ := H
        replace H : ((turnbucklelaw05_abs.f a1).bind fun t145 => ((word_Do.f kj12 4 t144 t145).bind fun t146 => (some (t146 == 1)))) = some r := H
        have A19 := Aside0.mk A190
        clear A190
        replace H := Option.bind_eq_some_iff.mp H
        obtain ⟨t145, A200, H⟩ := H
        replace H : ((word_Do.f kj12 4 t144 t145).bind fun t146 => (some (t146 == 1))) = some r := H
        have A20 := Aside0.mk A200
        clear A200
        replace H := Option.bind_eq_some_iff.mp H
        obtain ⟨t146, A210, H⟩ := H
        replace H : (some (t146 == 1)) = some r := H
        have A21 := Aside0.mk A210
        clear A210
        obtain rfl := Option.some.inj H
        go_wp2_with (first | (go_at_call 11; (with_reducible refine (turnbucklelaw05_abs.calls t141 t144 _ A19.out).mono ?_); rintro e w' ⟨rfl, ⟨nd, rfl⟩⟩) | (go_at_call 11; (with_reducible refine (turnbucklelaw05_abs.calls a1 t145 _ A20.out).mono ?_); rintro e w' ⟨rfl, ⟨nd, rfl⟩⟩) | (go_at_call 9; (with_reducible refine (word_Do.calls kj12 4 t144 t145 t146 _ A21.out).mono ?_); rintro e w' ⟨rfl, ⟨nd, rfl⟩⟩))
        go_ret
        exact ⟨by first | rfl | (simp; done) | (simp [*]; done), by repeat (first | exact Drawn0.refl _ | apply Drawn0.step)⟩
       ·rw [if_neg c18] at H
        have c18b0 : ((decide ((wrap64 (t141)) < 0)) == (decide ((wrap64 (a0)) < 0))) = false := by simpa using c18
        (try (have c18b1 : decide ((decide ((wrap64 (t141)) < 0)) = (decide ((wrap64 (a0)) < 0))) = false := by simpa using c18))
        (try (have c18b2 : ((decide ((wrap64 (t141)) < 0)) == (decide ((wrap64 (a0)) < 0))) = false := by simpa using c18))
        (try (have c18b3 : ¬ ((decide ((wrap64 (t141)) < 0)) = (decide ((wrap64 (a0)) < 0))) := by simpa using c18))
        clear c18
        obtain rfl := Option.some.inj H
        go_wp2
        go_ret
        exact ⟨by first | rfl | (simp; done) | (simp [*]; done), by repeat (first | exact Drawn0.refl _ | apply Drawn0.step)⟩
 ·replace c4 := Bool.eq_false_iff.mpr c4
  subst c4
  have H1 : (some false) = some r := by rw [if_neg (show ¬ (false = true) by decide)] at H; exact H
  clear H
  have H := H1
  clear H1
  obtain rfl := Option.some.inj H
  go_enter Tryd.func4, Tryd.ntmps4
  go_wp2_with (first | ((with_reducible refine gate_callee (f := 8) rfl ?_); refine goesL_ (some 9) rfl rfl Tryd.func8 (by kernel_rfl) rfl #[] rfl (by (try simp only [List.map_toArray, List.map_cons, List.map_nil]); first | done | rfl | (simp only [List.length_drop, List.length_take]; rfl)) ?_; (with_reducible refine (turnbucklelaw05_speaks.calls k  false _ ?side1 A3.out).mono ?_); (case side1 => first | exact hG_ | exact hG_.drewN _ | exact hG_.under HB.out | exact (hG_.under HB.out).drewN _ | exact hG_.under (below_of_drawn (by assumption))); rintro e w' ⟨rfl, ⟨nd, rfl⟩⟩; refine ⟨_, rfl, ?_⟩))
  go_ret
  exact ⟨by first | rfl | (simp; done) | (simp [*]; done), by repeat (first | exact Drawn0.refl _ | apply Drawn0.step)⟩

/-- THE ONE PURE STATEMENT of turnbucklelaw05_WordDivides: yours. -/
def turnbucklelaw05_WordDivides.Pure : Prop := ∀ (a0 : Int) (a1 : Int), (Lit.int .u64 a0).wf = true → (Lit.int .u64 a1).wf = true → ∃ k, turnbucklelaw05_WordDivides.f k a0 a1 = some true
theorem turnbucklelaw05_WordDivides.walk (P : turnbucklelaw05_WordDivides.Pure) (a0 : Int) (a1 : Int) (w : World) (w0 : (Lit.int .u64 a0).wf = true) (w1 : (Lit.int .u64 a1).wf = true) (hG_ : Go.Proofs.YtoolfgohbffgnaaDoorGlob.Is w) :
  Calls Tryd.prog 4 #[.int .u64 a0, .int .u64 a1] w fun e w' => e = .returned (.bool true) ∧ Below w.heap.size w w' := by
 obtain ⟨k, h⟩ := P a0 a1 w0 w1
 refine (turnbucklelaw05_WordDivides.calls k a0 a1 true w hG_ h).mono ?_
 rintro e w' ⟨rfl, hd⟩
 exact ⟨rfl, hd.below⟩

/-! ### turnbucklelaw05_WordHalves: function 5 -/
def turnbucklelaw05_WordHalves.l0 : Nat → Int → Int → Int → Int → Option (Bool)
 | 0, _, _, _, _ => none
 | k + 1, x0, x1, x2, x7 => if x7 < 28 then ((word_Do.f k x7 x0 x1).bind fun t148 => ((word_Do.f k x7 (Go.bits .or .u64 (Go.bits .and .u64 x0 4294967295) (IntKind.u64.wrap (x2 * 4294967296))) (Go.bits .or .u64 (Go.bits .and .u64 x1 4294967295) (IntKind.u64.wrap (x2 * 4294967296)))).bind fun t149 => (if t148 = t149 then (if t148 = (IntKind.u64.wrap (wrap64 (wrap32 ((t148) % 4294967296)))) then (turnbucklelaw05_WordHalves.l0 k x0 x1 x2 (wrap64 (x7 + 1))) else (some false)) else (some false)))) else (some true)
def turnbucklelaw05_WordHalves.f (k : Nat) (a0 : Int) (a1 : Int) (a2 : Int) : Option (Bool) := (turnbucklelaw05_speaks.f k).bind fun t147 => (if t147 = true then (turnbucklelaw05_WordHalves.l0 k a0 a1 a2 18) else (some false))
theorem turnbucklelaw05_WordHalves.mono_l : ∀ k, (∀ y0 y1 y2 y3, LeO (turnbucklelaw05_WordHalves.l0 k y0 y1 y2 y3) (turnbucklelaw05_WordHalves.l0 (k + 1) y0 y1 y2 y3))
 | 0 => fun _ _ _ _ r h => by simp [turnbucklelaw05_WordHalves.l0] at h
 | k + 1 => by
  have ih0 := turnbucklelaw05_WordHalves.mono_l k
  ·intro y0 y1 y2 y3
   unfold turnbucklelaw05_WordHalves.l0
   repeat' first
   | (with_reducible exact ih0 _ _ _ _)
   | (with_reducible exact turnbucklelaw05_speaks.mono _)
   | (with_reducible exact word_Do.mono _ _ _ _)
   | (with_reducible exact LeO.refl _)
   | (with_reducible exact LeO.none _)
   | (with_reducible refine LeO.ite ?_ ?_)
   | (with_reducible refine LeO.bind ?_ (fun _ => ?_))
   | exact ih0 _ _ _ _
   | exact turnbucklelaw05_speaks.mono _
   | exact word_Do.mono _ _ _ _
   | exact LeO.none _
   | refine LeO.ite ?_ ?_
   | refine LeO.bind ?_ (fun _ => ?_)
theorem turnbucklelaw05_WordHalves.mono : ∀ a0 a1 a2 k, LeO (turnbucklelaw05_WordHalves.f k a0 a1 a2) (turnbucklelaw05_WordHalves.f (k + 1) a0 a1 a2) := by
 intro a0 a1 a2 k
 have ih0 := turnbucklelaw05_WordHalves.mono_l k
 unfold turnbucklelaw05_WordHalves.f
 repeat' first
   | (with_reducible exact ih0 _ _ _ _)
   | (with_reducible exact turnbucklelaw05_speaks.mono _)
   | (with_reducible exact word_Do.mono _ _ _ _)
   | (with_reducible exact LeO.refl _)
   | (with_reducible exact LeO.none _)
   | (with_reducible refine LeO.ite ?_ ?_)
   | (with_reducible refine LeO.bind ?_ (fun _ => ?_))
   | exact ih0 _ _ _ _
   | exact turnbucklelaw05_speaks.mono _
   | exact word_Do.mono _ _ _ _
   | exact LeO.none _
   | refine LeO.ite ?_ ?_
   | refine LeO.bind ?_ (fun _ => ?_)
set_option maxHeartbeats 8000000 in
set_option maxRecDepth 100000 in
theorem turnbucklelaw05_WordHalves.calls (k : Nat) (a0 : Int) (a1 : Int) (a2 : Int) (r : Bool) (w : World) (hG_ : Go.Proofs.YtoolfgohbffgnaaDoorGlob.Is w) (h : turnbucklelaw05_WordHalves.f k a0 a1 a2 = some r) :
  Calls Tryd.prog 5 #[.int .u64 a0, .int .u64 a1, .int .u64 a2] w fun e w' => e = .returned (.bool r) ∧ Drawn0 w w' := by
 have H : ((turnbucklelaw05_speaks.f k).bind fun t147 => (if t147 = true then (turnbucklelaw05_WordHalves.l0 k a0 a1 a2 18) else (some false))) = some r := h
 clear h
 replace H := Option.bind_eq_some_iff.mp H
 obtain ⟨t147, A40, H⟩ := H
 replace H : (if t147 = true then (turnbucklelaw05_WordHalves.l0 k a0 a1 a2 18) else (some false)) = some r := H
 have A4 := Aside0.mk A40
 clear A40
 by_cases c5 : t147 = true
 ·subst c5
  have H1 : (turnbucklelaw05_WordHalves.l0 k a0 a1 a2 18) = some r := by rw [if_pos rfl] at H; exact H
  clear H
  have H := H1
  clear H1
  have H' := Aside0.mk H
  clear H
  go_enter Tryd.func5, Tryd.ntmps5
  go_wp2_with (first | ((with_reducible refine gate_callee (f := 8) rfl ?_); refine goesL_ (some 10) rfl rfl Tryd.func8 (by kernel_rfl) rfl #[] rfl (by (try simp only [List.map_toArray, List.map_cons, List.map_nil]); first | done | rfl | (simp only [List.length_drop, List.length_take]; rfl)) ?_; (with_reducible refine (turnbucklelaw05_speaks.calls k  true _ ?side1 A4.out).mono ?_); (case side1 => first | exact hG_ | exact hG_.drewN _ | exact hG_.under HB.out | exact (hG_.under HB.out).drewN _ | exact hG_.under (below_of_drawn (by assumption))); rintro e w' ⟨rfl, ⟨nd, rfl⟩⟩; refine ⟨_, rfl, ?_⟩))
  go_loopg [7] k (fun kq v7 w' => ∃ (x7_1 : Int), v7 = .int .i64 x7_1 ∧ Aside0 (turnbucklelaw05_WordHalves.l0 kq a0 a1 a2 x7_1 = some r) ∧ Aside0 (kq ≤ k) ∧ Drawn0 w w')
  case atStart => exact ⟨(18), (by first | rfl | (simp; done) | (simp [*]; done)), H', ⟨Nat.le_refl _⟩, by repeat (first | exact Drawn0.refl _ | apply Drawn0.step)⟩
  case round =>
   clear H'
   try clear p2
   try clear c5
   obtain ⟨x7_1, rfl, HA, HK1, ⟨m1, rfl⟩⟩ := hrel
   cases gk with
   | zero => exact absurd HA.out (by simp [turnbucklelaw05_WordHalves.l0])
   | succ k1 =>
    have H := HA.out
    clear HA
    simp only [turnbucklelaw05_WordHalves.l0] at H
    by_cases c6 : x7_1 < 28
    ·rw [if_pos c6] at H
     have c6b0 : decide (x7_1 < 28) = true := decide_eq_true c6
     clear c6
     replace H := Option.bind_eq_some_iff.mp H
     obtain ⟨t148, A70, H⟩ := H
     replace H : ((word_Do.f k1 x7_1 (Go.bits .or .u64 (Go.bits .and .u64 a0 4294967295) (IntKind.u64.wrap (a2 * 4294967296))) (Go.bits .or .u64 (Go.bits .and .u64 a1 4294967295) (IntKind.u64.wrap (a2 * 4294967296)))).bind fun t149 => (if t148 = t149 then (if t148 = (IntKind.u64.wrap (wrap64 (wrap32 ((t148) % 4294967296)))) then (turnbucklelaw05_WordHalves.l0 k1 a0 a1 a2 (wrap64 (x7_1 + 1))) else (some false)) else (some false))) = some r := H
     have A7 := Aside0.mk A70
     clear A70
     replace H := Option.bind_eq_some_iff.mp H
     obtain ⟨t149, A80, H⟩ := H
     replace H : (if t148 = t149 then (if t148 = (IntKind.u64.wrap (wrap64 (wrap32 ((t148) % 4294967296)))) then (turnbucklelaw05_WordHalves.l0 k1 a0 a1 a2 (wrap64 (x7_1 + 1))) else (some false)) else (some false)) = some r := H
     have A8 := Aside0.mk A80
     clear A80
     by_cases c9 : t148 = t149
     ·rw [if_pos c9] at H
      have c9b0 : (t148 == t149) = true := beq_iff_eq.mpr c9
      have c9b1 : (t148 != t149) = false := bne_eq_false_iff_eq.mpr c9
      clear c9
      by_cases c10 : t148 = (IntKind.u64.wrap (wrap64 (wrap32 ((t148) % 4294967296))))
      ·rw [if_pos c10] at H
       have c10b0 : (t148 == (IntKind.u64.wrap (wrap64 (wrap32 ((t148) % 4294967296))))) = true := beq_iff_eq.mpr c10
       have c10b1 : (t148 != (IntKind.u64.wrap (wrap64 (wrap32 ((t148) % 4294967296))))) = false := bne_eq_false_iff_eq.mpr c10
       clear c10
       have H' := Aside0.mk H
       clear H
       go_wp2_with (first | ((with_reducible refine gate_callee (f := 9) rfl ?_); refine goesL_ (some 19) rfl rfl Tryd.func9 (by kernel_rfl) rfl #[.int .i64 x7_1, .int .u64 a0, .int .u64 a1] rfl (by (try simp only [List.map_toArray, List.map_cons, List.map_nil]); first | done | rfl | (simp only [List.length_drop, List.length_take]; rfl)) ?_; (with_reducible refine (word_Do.calls k1 x7_1 a0 a1 t148 _ A7.out).mono ?_); rintro e w' ⟨rfl, ⟨nd, rfl⟩⟩; refine ⟨_, rfl, ?_⟩) | ((with_reducible refine gate_callee (f := 9) rfl ?_); refine goesL_ (some 31) rfl rfl Tryd.func9 (by kernel_rfl) rfl #[.int .i64 x7_1, .int .u64 (Go.bits .or .u64 (Go.bits .and .u64 a0 4294967295) (IntKind.u64.wrap (a2 * 4294967296))), .int .u64 (Go.bits .or .u64 (Go.bits .and .u64 a1 4294967295) (IntKind.u64.wrap (a2 * 4294967296)))] rfl (by (try simp only [List.map_toArray, List.map_cons, List.map_nil]); first | done | rfl | (simp only [List.length_drop, List.length_take]; rfl)) ?_; (with_reducible refine (word_Do.calls k1 x7_1 (Go.bits .or .u64 (Go.bits .and .u64 a0 4294967295) (IntKind.u64.wrap (a2 * 4294967296))) (Go.bits .or .u64 (Go.bits .and .u64 a1 4294967295) (IntKind.u64.wrap (a2 * 4294967296))) t149 _ A8.out).mono ?_); rintro e w' ⟨rfl, ⟨nd, rfl⟩⟩; refine ⟨_, rfl, ?_⟩))
       go_roundg k1
       case measure => have := HK1.out; omega
       case rel => exact ⟨(wrap64 (x7_1 + 1)), (by first | rfl | (simp; done) | (simp [*]; done)), H', ⟨by have := HK1.out; omega⟩, by repeat (first | exact Drawn0.refl _ | apply Drawn0.step)⟩
      ·rw [if_neg c10] at H
       have c10b0 : (t148 == (IntKind.u64.wrap (wrap64 (wrap32 ((t148) % 4294967296))))) = false := beq_eq_false_iff_ne.mpr c10
       have c10b1 : (t148 != (IntKind.u64.wrap (wrap64 (wrap32 ((t148) % 4294967296))))) = true := bne_iff_ne.mpr c10
       obtain rfl := Option.some.inj H
       go_wp2_with (first | ((with_reducible refine gate_callee (f := 9) rfl ?_); refine goesL_ (some 19) rfl rfl Tryd.func9 (by kernel_rfl) rfl #[.int .i64 x7_1, .int .u64 a0, .int .u64 a1] rfl (by (try simp only [List.map_toArray, List.map_cons, List.map_nil]); first | done | rfl | (simp only [List.length_drop, List.length_take]; rfl)) ?_; (with_reducible refine (word_Do.calls k1 x7_1 a0 a1 t148 _ A7.out).mono ?_); rintro e w' ⟨rfl, ⟨nd, rfl⟩⟩; refine ⟨_, rfl, ?_⟩) | ((with_reducible refine gate_callee (f := 9) rfl ?_); refine goesL_ (some 31) rfl rfl Tryd.func9 (by kernel_rfl) rfl #[.int .i64 x7_1, .int .u64 (Go.bits .or .u64 (Go.bits .and .u64 a0 4294967295) (IntKind.u64.wrap (a2 * 4294967296))), .int .u64 (Go.bits .or .u64 (Go.bits .and .u64 a1 4294967295) (IntKind.u64.wrap (a2 * 4294967296)))] rfl (by (try simp only [List.map_toArray, List.map_cons, List.map_nil]); first | done | rfl | (simp only [List.length_drop, List.length_take]; rfl)) ?_; (with_reducible refine (word_Do.calls k1 x7_1 (Go.bits .or .u64 (Go.bits .and .u64 a0 4294967295) (IntKind.u64.wrap (a2 * 4294967296))) (Go.bits .or .u64 (Go.bits .and .u64 a1 4294967295) (IntKind.u64.wrap (a2 * 4294967296))) t149 _ A8.out).mono ?_); rintro e w' ⟨rfl, ⟨nd, rfl⟩⟩; refine ⟨_, rfl, ?_⟩))
       go_ret
       exact ⟨by first | rfl | (simp; done) | (simp [*]; done), by repeat (first | exact Drawn0.refl _ | apply Drawn0.step)⟩
     ·rw [if_neg c9] at H
      have c9b0 : (t148 == t149) = false := beq_eq_false_iff_ne.mpr c9
      have c9b1 : (t148 != t149) = true := bne_iff_ne.mpr c9
      obtain rfl := Option.some.inj H
      go_wp2_with (first | ((with_reducible refine gate_callee (f := 9) rfl ?_); refine goesL_ (some 19) rfl rfl Tryd.func9 (by kernel_rfl) rfl #[.int .i64 x7_1, .int .u64 a0, .int .u64 a1] rfl (by (try simp only [List.map_toArray, List.map_cons, List.map_nil]); first | done | rfl | (simp only [List.length_drop, List.length_take]; rfl)) ?_; (with_reducible refine (word_Do.calls k1 x7_1 a0 a1 t148 _ A7.out).mono ?_); rintro e w' ⟨rfl, ⟨nd, rfl⟩⟩; refine ⟨_, rfl, ?_⟩) | ((with_reducible refine gate_callee (f := 9) rfl ?_); refine goesL_ (some 31) rfl rfl Tryd.func9 (by kernel_rfl) rfl #[.int .i64 x7_1, .int .u64 (Go.bits .or .u64 (Go.bits .and .u64 a0 4294967295) (IntKind.u64.wrap (a2 * 4294967296))), .int .u64 (Go.bits .or .u64 (Go.bits .and .u64 a1 4294967295) (IntKind.u64.wrap (a2 * 4294967296)))] rfl (by (try simp only [List.map_toArray, List.map_cons, List.map_nil]); first | done | rfl | (simp only [List.length_drop, List.length_take]; rfl)) ?_; (with_reducible refine (word_Do.calls k1 x7_1 (Go.bits .or .u64 (Go.bits .and .u64 a0 4294967295) (IntKind.u64.wrap (a2 * 4294967296))) (Go.bits .or .u64 (Go.bits .and .u64 a1 4294967295) (IntKind.u64.wrap (a2 * 4294967296))) t149 _ A8.out).mono ?_); rintro e w' ⟨rfl, ⟨nd, rfl⟩⟩; refine ⟨_, rfl, ?_⟩))
      go_ret
      exact ⟨by first | rfl | (simp; done) | (simp [*]; done), by repeat (first | exact Drawn0.refl _ | apply Drawn0.step)⟩
    ·rw [if_neg c6] at H
     have c6b0 : decide (x7_1 < 28) = false := decide_eq_false c6
     clear c6
     obtain rfl := Option.some.inj H
     go_wp2
     go_ret
     exact ⟨by first | rfl | (simp; done) | (simp [*]; done), by repeat (first | exact Drawn0.refl _ | apply Drawn0.step)⟩
 ·replace c5 := Bool.eq_false_iff.mpr c5
  subst c5
  have H1 : (some false) = some r := by rw [if_neg (show ¬ (false = true) by decide)] at H; exact H
  clear H
  have H := H1
  clear H1
  obtain rfl := Option.some.inj H
  go_enter Tryd.func5, Tryd.ntmps5
  go_wp2_with (first | ((with_reducible refine gate_callee (f := 8) rfl ?_); refine goesL_ (some 10) rfl rfl Tryd.func8 (by kernel_rfl) rfl #[] rfl (by (try simp only [List.map_toArray, List.map_cons, List.map_nil]); first | done | rfl | (simp only [List.length_drop, List.length_take]; rfl)) ?_; (with_reducible refine (turnbucklelaw05_speaks.calls k  false _ ?side1 A4.out).mono ?_); (case side1 => first | exact hG_ | exact hG_.drewN _ | exact hG_.under HB.out | exact (hG_.under HB.out).drewN _ | exact hG_.under (below_of_drawn (by assumption))); rintro e w' ⟨rfl, ⟨nd, rfl⟩⟩; refine ⟨_, rfl, ?_⟩))
  go_ret
  exact ⟨by first | rfl | (simp; done) | (simp [*]; done), by repeat (first | exact Drawn0.refl _ | apply Drawn0.step)⟩

/-- THE ONE PURE STATEMENT of turnbucklelaw05_WordHalves: yours. -/
def turnbucklelaw05_WordHalves.Pure : Prop := ∀ (a0 : Int) (a1 : Int) (a2 : Int), (Lit.int .u64 a0).wf = true → (Lit.int .u64 a1).wf = true → (Lit.int .u64 a2).wf = true → ∃ k, turnbucklelaw05_WordHalves.f k a0 a1 a2 = some true
theorem turnbucklelaw05_WordHalves.walk (P : turnbucklelaw05_WordHalves.Pure) (a0 : Int) (a1 : Int) (a2 : Int) (w : World) (w0 : (Lit.int .u64 a0).wf = true) (w1 : (Lit.int .u64 a1).wf = true) (w2 : (Lit.int .u64 a2).wf = true) (hG_ : Go.Proofs.YtoolfgohbffgnaaDoorGlob.Is w) :
  Calls Tryd.prog 5 #[.int .u64 a0, .int .u64 a1, .int .u64 a2] w fun e w' => e = .returned (.bool true) ∧ Below w.heap.size w w' := by
 obtain ⟨k, h⟩ := P a0 a1 a2 w0 w1 w2
 refine (turnbucklelaw05_WordHalves.calls k a0 a1 a2 true w hG_ h).mono ?_
 rintro e w' ⟨rfl, hd⟩
 exact ⟨rfl, hd.below⟩

end Go.Proofs.YtoolfgohbffgnaaDoor.PNm
