-- Written by a program of this session (a changed copy of the print of the kit). Not trusted: Lean checks it.
import Derived.Test.YtoolfgohbffgnaaDoorPNnx0
import Derived.Test.YtoolfgohbffgnaaDoorPNnx2
import Derived.Test.YtoolfgohbffgnaaDoorPNnx3
namespace Go.Proofs.YtoolfgohbffgnaaDoor.PNn
open Go.RowKit Go.Proofs.YtoolfgohbffgnaaDoorW.PrintWords Go.Proofs.YtoolfgohbffgnaaDoorW.PrintLast Go.Proofs.YtoolfgohbffgnaaDoorW.PrintMore
attribute [local go_sem] max2_int min2_int max_two min_two max_three min_three max_four min_four   -- for this text's walks alone
set_option linter.unusedVariables false
set_option linter.unusedSimpArgs false

/-! ### turnbucklelaw05_speaks: function 8 -/
def turnbucklelaw05_speaks.f (k : Nat)  : Option (Bool) := (word_Named.f k (⟨#[97, 100, 100, 119]⟩ : ByteArray)).bind fun bt135 => ((word_Do.f k 14 18446744073709551609 2).bind fun t137 => (if t137 = 18446744073709551613 then (if bt135.2 = true then (if bt135.1 = 18 then ((word_Do.f k bt135.1 2147483647 1).bind fun t138 => (if t138 = 18446744071562067968 then (some true) else (some false))) else (some false)) else (some false)) else (some false)))
theorem turnbucklelaw05_speaks.mono : ∀ k, LeO (turnbucklelaw05_speaks.f k ) (turnbucklelaw05_speaks.f (k + 1) ) := by
 intro  k
 unfold turnbucklelaw05_speaks.f
 repeat' first
   | (with_reducible exact word_Do.mono _ _ _ _)
   | (with_reducible exact word_Named.mono _ _)
   | (with_reducible exact LeO.refl _)
   | (with_reducible exact LeO.none _)
   | (with_reducible refine LeO.ite ?_ ?_)
   | (with_reducible refine LeO.bind ?_ (fun _ => ?_))
   | exact word_Do.mono _ _ _ _
   | exact word_Named.mono _ _
   | exact LeO.none _
   | refine LeO.ite ?_ ?_
   | refine LeO.bind ?_ (fun _ => ?_)
set_option maxHeartbeats 8000000 in
set_option maxRecDepth 100000 in
theorem turnbucklelaw05_speaks.calls (k : Nat)  (r : Bool) (w : World) (hG_ : Go.Proofs.YtoolfgohbffgnaaDoorGlob.Is w) (h : turnbucklelaw05_speaks.f k  = some r) :
  Calls Tryd.prog 8 #[] w fun e w' => e = .returned (.bool r) ∧ Drawn0 w w' := by
 have H : ((word_Named.f k (⟨#[97, 100, 100, 119]⟩ : ByteArray)).bind fun bt135 => ((word_Do.f k 14 18446744073709551609 2).bind fun t137 => (if t137 = 18446744073709551613 then (if bt135.2 = true then (if bt135.1 = 18 then ((word_Do.f k bt135.1 2147483647 1).bind fun t138 => (if t138 = 18446744071562067968 then (some true) else (some false))) else (some false)) else (some false)) else (some false)))) = some r := h
 clear h
 replace H := Option.bind_eq_some_iff.mp H
 obtain ⟨⟨t135, t136⟩, A10, H⟩ := H
 replace H : ((word_Do.f k 14 18446744073709551609 2).bind fun t137 => (if t137 = 18446744073709551613 then (if t136 = true then (if t135 = 18 then ((word_Do.f k t135 2147483647 1).bind fun t138 => (if t138 = 18446744071562067968 then (some true) else (some false))) else (some false)) else (some false)) else (some false))) = some r := H
 have A1 := Aside0.mk A10
 clear A10
 replace H := Option.bind_eq_some_iff.mp H
 obtain ⟨t137, A20, H⟩ := H
 replace H : (if t137 = 18446744073709551613 then (if t136 = true then (if t135 = 18 then ((word_Do.f k t135 2147483647 1).bind fun t138 => (if t138 = 18446744071562067968 then (some true) else (some false))) else (some false)) else (some false)) else (some false)) = some r := H
 have A2 := Aside0.mk A20
 clear A20
 by_cases c3 : t137 = 18446744073709551613
 ·rw [if_pos c3] at H
  have c3b0 : (t137 == 18446744073709551613) = true := beq_iff_eq.mpr c3
  have c3b1 : (t137 != 18446744073709551613) = false := bne_eq_false_iff_eq.mpr c3
  clear c3
  by_cases c4 : t136 = true
  ·subst c4
   have H1 : (if t135 = 18 then ((word_Do.f k t135 2147483647 1).bind fun t138 => (if t138 = 18446744071562067968 then (some true) else (some false))) else (some false)) = some r := by rw [if_pos rfl] at H; exact H
   clear H
   have H := H1
   clear H1
   by_cases c5 : t135 = 18
   ·rw [if_pos c5] at H
    have c5b0 : (t135 == 18) = true := beq_iff_eq.mpr c5
    have c5b1 : (t135 != 18) = false := bne_eq_false_iff_eq.mpr c5
    clear c5
    replace H := Option.bind_eq_some_iff.mp H
    obtain ⟨t138, A60, H⟩ := H
    replace H : (if t138 = 18446744071562067968 then (some true) else (some false)) = some r := H
    have A6 := Aside0.mk A60
    clear A60
    by_cases c7 : t138 = 18446744071562067968
    ·rw [if_pos c7] at H
     have c7b0 : (t138 == 18446744071562067968) = true := beq_iff_eq.mpr c7
     have c7b1 : (t138 != 18446744071562067968) = false := bne_eq_false_iff_eq.mpr c7
     clear c7
     obtain rfl := Option.some.inj H
     go_enter Tryd.func8, Tryd.ntmps8
     go_wp2_with (first | ((with_reducible refine gate_callee (f := 15) rfl ?_); refine goesL_ (some 4) rfl rfl Tryd.func15 (by kernel_rfl) rfl #[.string (⟨#[97, 100, 100, 119]⟩ : ByteArray)] rfl (by (try simp only [List.map_toArray, List.map_cons, List.map_nil]); first | done | rfl | (simp only [List.length_drop, List.length_take]; rfl)) ?_; (with_reducible refine (word_Named.calls k (⟨#[97, 100, 100, 119]⟩ : ByteArray) t135 true _ ?side1 A1.out).mono ?_); (case side1 => first | exact hG_ | exact hG_.drewN _ | exact hG_.under HB.out | exact (hG_.under HB.out).drewN _ | exact hG_.under (below_of_drawn (by assumption))); rintro e w' ⟨rfl, ⟨nd, rfl⟩⟩; refine ⟨_, rfl, ?_⟩) | ((with_reducible refine gate_callee (f := 9) rfl ?_); refine goesL_ (some 7) rfl rfl Tryd.func9 (by kernel_rfl) rfl #[.int .i64 14, .int .u64 18446744073709551609, .int .u64 2] rfl (by (try simp only [List.map_toArray, List.map_cons, List.map_nil]); first | done | rfl | (simp only [List.length_drop, List.length_take]; rfl)) ?_; (with_reducible refine (word_Do.calls k 14 18446744073709551609 2 t137 _ A2.out).mono ?_); rintro e w' ⟨rfl, ⟨nd, rfl⟩⟩; refine ⟨_, rfl, ?_⟩) | (go_at_call 9; (with_reducible refine (word_Do.calls k t135 2147483647 1 t138 _ A6.out).mono ?_); rintro e w' ⟨rfl, ⟨nd, rfl⟩⟩))
     go_ret
     exact ⟨by first | rfl | (simp; done) | (simp [*]; done), by repeat (first | exact Drawn0.refl _ | apply Drawn0.step)⟩
    ·rw [if_neg c7] at H
     have c7b0 : (t138 == 18446744071562067968) = false := beq_eq_false_iff_ne.mpr c7
     have c7b1 : (t138 != 18446744071562067968) = true := bne_iff_ne.mpr c7
     obtain rfl := Option.some.inj H
     go_enter Tryd.func8, Tryd.ntmps8
     go_wp2_with (first | ((with_reducible refine gate_callee (f := 15) rfl ?_); refine goesL_ (some 4) rfl rfl Tryd.func15 (by kernel_rfl) rfl #[.string (⟨#[97, 100, 100, 119]⟩ : ByteArray)] rfl (by (try simp only [List.map_toArray, List.map_cons, List.map_nil]); first | done | rfl | (simp only [List.length_drop, List.length_take]; rfl)) ?_; (with_reducible refine (word_Named.calls k (⟨#[97, 100, 100, 119]⟩ : ByteArray) t135 true _ ?side1 A1.out).mono ?_); (case side1 => first | exact hG_ | exact hG_.drewN _ | exact hG_.under HB.out | exact (hG_.under HB.out).drewN _ | exact hG_.under (below_of_drawn (by assumption))); rintro e w' ⟨rfl, ⟨nd, rfl⟩⟩; refine ⟨_, rfl, ?_⟩) | ((with_reducible refine gate_callee (f := 9) rfl ?_); refine goesL_ (some 7) rfl rfl Tryd.func9 (by kernel_rfl) rfl #[.int .i64 14, .int .u64 18446744073709551609, .int .u64 2] rfl (by (try simp only [List.map_toArray, List.map_cons, List.map_nil]); first | done | rfl | (simp only [List.length_drop, List.length_take]; rfl)) ?_; (with_reducible refine (word_Do.calls k 14 18446744073709551609 2 t137 _ A2.out).mono ?_); rintro e w' ⟨rfl, ⟨nd, rfl⟩⟩; refine ⟨_, rfl, ?_⟩) | (go_at_call 9; (with_reducible refine (word_Do.calls k t135 2147483647 1 t138 _ A6.out).mono ?_); rintro e w' ⟨rfl, ⟨nd, rfl⟩⟩))
     go_ret
     exact ⟨by first | rfl | (simp; done) | (simp [*]; done), by repeat (first | exact Drawn0.refl _ | apply Drawn0.step)⟩
   ·rw [if_neg c5] at H
    have c5b0 : (t135 == 18) = false := beq_eq_false_iff_ne.mpr c5
    have c5b1 : (t135 != 18) = true := bne_iff_ne.mpr c5
    obtain rfl := Option.some.inj H
    go_enter Tryd.func8, Tryd.ntmps8
    go_wp2_with (first | ((with_reducible refine gate_callee (f := 15) rfl ?_); refine goesL_ (some 4) rfl rfl Tryd.func15 (by kernel_rfl) rfl #[.string (⟨#[97, 100, 100, 119]⟩ : ByteArray)] rfl (by (try simp only [List.map_toArray, List.map_cons, List.map_nil]); first | done | rfl | (simp only [List.length_drop, List.length_take]; rfl)) ?_; (with_reducible refine (word_Named.calls k (⟨#[97, 100, 100, 119]⟩ : ByteArray) t135 true _ ?side1 A1.out).mono ?_); (case side1 => first | exact hG_ | exact hG_.drewN _ | exact hG_.under HB.out | exact (hG_.under HB.out).drewN _ | exact hG_.under (below_of_drawn (by assumption))); rintro e w' ⟨rfl, ⟨nd, rfl⟩⟩; refine ⟨_, rfl, ?_⟩) | ((with_reducible refine gate_callee (f := 9) rfl ?_); refine goesL_ (some 7) rfl rfl Tryd.func9 (by kernel_rfl) rfl #[.int .i64 14, .int .u64 18446744073709551609, .int .u64 2] rfl (by (try simp only [List.map_toArray, List.map_cons, List.map_nil]); first | done | rfl | (simp only [List.length_drop, List.length_take]; rfl)) ?_; (with_reducible refine (word_Do.calls k 14 18446744073709551609 2 t137 _ A2.out).mono ?_); rintro e w' ⟨rfl, ⟨nd, rfl⟩⟩; refine ⟨_, rfl, ?_⟩))
    go_ret
    exact ⟨by first | rfl | (simp; done) | (simp [*]; done), by repeat (first | exact Drawn0.refl _ | apply Drawn0.step)⟩
  ·replace c4 := Bool.eq_false_iff.mpr c4
   subst c4
   have H1 : (some false) = some r := by rw [if_neg (show ¬ (false = true) by decide)] at H; exact H
   clear H
   have H := H1
   clear H1
   obtain rfl := Option.some.inj H
   go_enter Tryd.func8, Tryd.ntmps8
   go_wp2_with (first | ((with_reducible refine gate_callee (f := 15) rfl ?_); refine goesL_ (some 4) rfl rfl Tryd.func15 (by kernel_rfl) rfl #[.string (⟨#[97, 100, 100, 119]⟩ : ByteArray)] rfl (by (try simp only [List.map_toArray, List.map_cons, List.map_nil]); first | done | rfl | (simp only [List.length_drop, List.length_take]; rfl)) ?_; (with_reducible refine (word_Named.calls k (⟨#[97, 100, 100, 119]⟩ : ByteArray) t135 false _ ?side1 A1.out).mono ?_); (case side1 => first | exact hG_ | exact hG_.drewN _ | exact hG_.under HB.out | exact (hG_.under HB.out).drewN _ | exact hG_.under (below_of_drawn (by assumption))); rintro e w' ⟨rfl, ⟨nd, rfl⟩⟩; refine ⟨_, rfl, ?_⟩) | ((with_reducible refine gate_callee (f := 9) rfl ?_); refine goesL_ (some 7) rfl rfl Tryd.func9 (by kernel_rfl) rfl #[.int .i64 14, .int .u64 18446744073709551609, .int .u64 2] rfl (by (try simp only [List.map_toArray, List.map_cons, List.map_nil]); first | done | rfl | (simp only [List.length_drop, List.length_take]; rfl)) ?_; (with_reducible refine (word_Do.calls k 14 18446744073709551609 2 t137 _ A2.out).mono ?_); rintro e w' ⟨rfl, ⟨nd, rfl⟩⟩; refine ⟨_, rfl, ?_⟩))
   go_ret
   exact ⟨by first | rfl | (simp; done) | (simp [*]; done), by repeat (first | exact Drawn0.refl _ | apply Drawn0.step)⟩
 ·rw [if_neg c3] at H
  have c3b0 : (t137 == 18446744073709551613) = false := beq_eq_false_iff_ne.mpr c3
  have c3b1 : (t137 != 18446744073709551613) = true := bne_iff_ne.mpr c3
  obtain rfl := Option.some.inj H
  go_enter Tryd.func8, Tryd.ntmps8
  go_wp2_with (first | ((with_reducible refine gate_callee (f := 15) rfl ?_); refine goesL_ (some 4) rfl rfl Tryd.func15 (by kernel_rfl) rfl #[.string (⟨#[97, 100, 100, 119]⟩ : ByteArray)] rfl (by (try simp only [List.map_toArray, List.map_cons, List.map_nil]); first | done | rfl | (simp only [List.length_drop, List.length_take]; rfl)) ?_; (with_reducible refine (word_Named.calls k (⟨#[97, 100, 100, 119]⟩ : ByteArray) t135 t136 _ ?side1 A1.out).mono ?_); (case side1 => first | exact hG_ | exact hG_.drewN _ | exact hG_.under HB.out | exact (hG_.under HB.out).drewN _ | exact hG_.under (below_of_drawn (by assumption))); rintro e w' ⟨rfl, ⟨nd, rfl⟩⟩; refine ⟨_, rfl, ?_⟩) | ((with_reducible refine gate_callee (f := 9) rfl ?_); refine goesL_ (some 7) rfl rfl Tryd.func9 (by kernel_rfl) rfl #[.int .i64 14, .int .u64 18446744073709551609, .int .u64 2] rfl (by (try simp only [List.map_toArray, List.map_cons, List.map_nil]); first | done | rfl | (simp only [List.length_drop, List.length_take]; rfl)) ?_; (with_reducible refine (word_Do.calls k 14 18446744073709551609 2 t137 _ A2.out).mono ?_); rintro e w' ⟨rfl, ⟨nd, rfl⟩⟩; refine ⟨_, rfl, ?_⟩))
  go_ret
  exact ⟨by first | rfl | (simp; done) | (simp [*]; done), by repeat (first | exact Drawn0.refl _ | apply Drawn0.step)⟩

/-! ### turnbuckleref05_Names: function 12 -/
def turnbuckleref05_Names.f  : Option (List ByteArray) := some (([(⟨#[97, 100, 100]⟩ : ByteArray), (⟨#[115, 117, 98]⟩ : ByteArray), (⟨#[115, 108, 108]⟩ : ByteArray), (⟨#[115, 108, 116]⟩ : ByteArray), (⟨#[115, 108, 116, 117]⟩ : ByteArray), (⟨#[120, 111, 114]⟩ : ByteArray), (⟨#[115, 114, 108]⟩ : ByteArray), (⟨#[115, 114, 97]⟩ : ByteArray), (⟨#[111, 114]⟩ : ByteArray), (⟨#[97, 110, 100]⟩ : ByteArray), (⟨#[109, 117, 108]⟩ : ByteArray), (⟨#[109, 117, 108, 104]⟩ : ByteArray), (⟨#[109, 117, 108, 104, 115, 117]⟩ : ByteArray), (⟨#[109, 117, 108, 104, 117]⟩ : ByteArray), (⟨#[100, 105, 118]⟩ : ByteArray), (⟨#[100, 105, 118, 117]⟩ : ByteArray), (⟨#[114, 101, 109]⟩ : ByteArray), (⟨#[114, 101, 109, 117]⟩ : ByteArray), (⟨#[97, 100, 100, 119]⟩ : ByteArray), (⟨#[115, 117, 98, 119]⟩ : ByteArray), (⟨#[115, 108, 108, 119]⟩ : ByteArray), (⟨#[115, 114, 108, 119]⟩ : ByteArray), (⟨#[115, 114, 97, 119]⟩ : ByteArray), (⟨#[109, 117, 108, 119]⟩ : ByteArray), (⟨#[100, 105, 118, 119]⟩ : ByteArray), (⟨#[100, 105, 118, 117, 119]⟩ : ByteArray), (⟨#[114, 101, 109, 119]⟩ : ByteArray), (⟨#[114, 101, 109, 117, 119]⟩ : ByteArray)] : List ByteArray))
set_option maxHeartbeats 8000000 in
set_option maxRecDepth 100000 in
theorem turnbuckleref05_Names.calls  (r : List ByteArray) (w : World) (h : turnbuckleref05_Names.f  = some r) :
  Calls Tryd.prog 12 #[] w fun e w' => ∃ v0_ : Value, e = .returned (v0_) ∧ Kd.R Kd.string 9 w' w.heap.size (fun _ => True) v0_ r ∧ Below w.heap.size w w' := by
 have HB := Aside0.mk (Below.refl w.heap.size w)
 have H : (some (([(⟨#[97, 100, 100]⟩ : ByteArray), (⟨#[115, 117, 98]⟩ : ByteArray), (⟨#[115, 108, 108]⟩ : ByteArray), (⟨#[115, 108, 116]⟩ : ByteArray), (⟨#[115, 108, 116, 117]⟩ : ByteArray), (⟨#[120, 111, 114]⟩ : ByteArray), (⟨#[115, 114, 108]⟩ : ByteArray), (⟨#[115, 114, 97]⟩ : ByteArray), (⟨#[111, 114]⟩ : ByteArray), (⟨#[97, 110, 100]⟩ : ByteArray), (⟨#[109, 117, 108]⟩ : ByteArray), (⟨#[109, 117, 108, 104]⟩ : ByteArray), (⟨#[109, 117, 108, 104, 115, 117]⟩ : ByteArray), (⟨#[109, 117, 108, 104, 117]⟩ : ByteArray), (⟨#[100, 105, 118]⟩ : ByteArray), (⟨#[100, 105, 118, 117]⟩ : ByteArray), (⟨#[114, 101, 109]⟩ : ByteArray), (⟨#[114, 101, 109, 117]⟩ : ByteArray), (⟨#[97, 100, 100, 119]⟩ : ByteArray), (⟨#[115, 117, 98, 119]⟩ : ByteArray), (⟨#[115, 108, 108, 119]⟩ : ByteArray), (⟨#[115, 114, 108, 119]⟩ : ByteArray), (⟨#[115, 114, 97, 119]⟩ : ByteArray), (⟨#[109, 117, 108, 119]⟩ : ByteArray), (⟨#[100, 105, 118, 119]⟩ : ByteArray), (⟨#[100, 105, 118, 117, 119]⟩ : ByteArray), (⟨#[114, 101, 109, 119]⟩ : ByteArray), (⟨#[114, 101, 109, 117, 119]⟩ : ByteArray)] : List ByteArray))) = some r := h
 clear h
 obtain ⟨y139, hy139⟩ : ∃ y_ : List ByteArray, y_ = (([(⟨#[97, 100, 100]⟩ : ByteArray), (⟨#[115, 117, 98]⟩ : ByteArray), (⟨#[115, 108, 108]⟩ : ByteArray), (⟨#[115, 108, 116]⟩ : ByteArray), (⟨#[115, 108, 116, 117]⟩ : ByteArray), (⟨#[120, 111, 114]⟩ : ByteArray), (⟨#[115, 114, 108]⟩ : ByteArray), (⟨#[115, 114, 97]⟩ : ByteArray), (⟨#[111, 114]⟩ : ByteArray), (⟨#[97, 110, 100]⟩ : ByteArray), (⟨#[109, 117, 108]⟩ : ByteArray), (⟨#[109, 117, 108, 104]⟩ : ByteArray), (⟨#[109, 117, 108, 104, 115, 117]⟩ : ByteArray), (⟨#[109, 117, 108, 104, 117]⟩ : ByteArray), (⟨#[100, 105, 118]⟩ : ByteArray), (⟨#[100, 105, 118, 117]⟩ : ByteArray), (⟨#[114, 101, 109]⟩ : ByteArray), (⟨#[114, 101, 109, 117]⟩ : ByteArray), (⟨#[97, 100, 100, 119]⟩ : ByteArray), (⟨#[115, 117, 98, 119]⟩ : ByteArray), (⟨#[115, 108, 108, 119]⟩ : ByteArray), (⟨#[115, 114, 108, 119]⟩ : ByteArray), (⟨#[115, 114, 97, 119]⟩ : ByteArray), (⟨#[109, 117, 108, 119]⟩ : ByteArray), (⟨#[100, 105, 118, 119]⟩ : ByteArray), (⟨#[100, 105, 118, 117, 119]⟩ : ByteArray), (⟨#[114, 101, 109, 119]⟩ : ByteArray), (⟨#[114, 101, 109, 117, 119]⟩ : ByteArray)] : List ByteArray)) := ⟨_, rfl⟩
 replace H : (some y139) = some r := by first | (rw [hy139]; with_reducible exact H) | (have H2_ := (Option.bind_some _ _).symm.trans H; rw [hy139]; with_reducible exact H2_) | (have H2_ := (Option.bind_some _ _).symm.trans H; with_reducible exact H2_) | with_reducible exact H | (rw [hy139]; exact H) | exact H
 have Ny139 := Aside0.mk hy139
 clear hy139
 obtain rfl := Option.some.inj H
 go_enter Tryd.func12, Tryd.ntmps12
 go_wp2_with (first | ((with_reducible refine gate_dst (N := 1) rfl ?_); refine Kd.R_lit Kd.string _ 9 ?hg (N := 1) ?hd (xs := ([(⟨#[97, 100, 100]⟩ : ByteArray), (⟨#[115, 117, 98]⟩ : ByteArray), (⟨#[115, 108, 108]⟩ : ByteArray), (⟨#[115, 108, 116]⟩ : ByteArray), (⟨#[115, 108, 116, 117]⟩ : ByteArray), (⟨#[120, 111, 114]⟩ : ByteArray), (⟨#[115, 114, 108]⟩ : ByteArray), (⟨#[115, 114, 97]⟩ : ByteArray), (⟨#[111, 114]⟩ : ByteArray), (⟨#[97, 110, 100]⟩ : ByteArray), (⟨#[109, 117, 108]⟩ : ByteArray), (⟨#[109, 117, 108, 104]⟩ : ByteArray), (⟨#[109, 117, 108, 104, 115, 117]⟩ : ByteArray), (⟨#[109, 117, 108, 104, 117]⟩ : ByteArray), (⟨#[100, 105, 118]⟩ : ByteArray), (⟨#[100, 105, 118, 117]⟩ : ByteArray), (⟨#[114, 101, 109]⟩ : ByteArray), (⟨#[114, 101, 109, 117]⟩ : ByteArray), (⟨#[97, 100, 100, 119]⟩ : ByteArray), (⟨#[115, 117, 98, 119]⟩ : ByteArray), (⟨#[115, 108, 108, 119]⟩ : ByteArray), (⟨#[115, 114, 108, 119]⟩ : ByteArray), (⟨#[115, 114, 97, 119]⟩ : ByteArray), (⟨#[109, 117, 108, 119]⟩ : ByteArray), (⟨#[100, 105, 118, 119]⟩ : ByteArray), (⟨#[100, 105, 118, 117, 119]⟩ : ByteArray), (⟨#[114, 101, 109, 119]⟩ : ByteArray), (⟨#[114, 101, 109, 117, 119]⟩ : ByteArray)] : List ByteArray)) (inner := [.string (⟨#[97, 100, 100]⟩ : ByteArray), .string (⟨#[115, 117, 98]⟩ : ByteArray), .string (⟨#[115, 108, 108]⟩ : ByteArray), .string (⟨#[115, 108, 116]⟩ : ByteArray), .string (⟨#[115, 108, 116, 117]⟩ : ByteArray), .string (⟨#[120, 111, 114]⟩ : ByteArray), .string (⟨#[115, 114, 108]⟩ : ByteArray), .string (⟨#[115, 114, 97]⟩ : ByteArray), .string (⟨#[111, 114]⟩ : ByteArray), .string (⟨#[97, 110, 100]⟩ : ByteArray), .string (⟨#[109, 117, 108]⟩ : ByteArray), .string (⟨#[109, 117, 108, 104]⟩ : ByteArray), .string (⟨#[109, 117, 108, 104, 115, 117]⟩ : ByteArray), .string (⟨#[109, 117, 108, 104, 117]⟩ : ByteArray), .string (⟨#[100, 105, 118]⟩ : ByteArray), .string (⟨#[100, 105, 118, 117]⟩ : ByteArray), .string (⟨#[114, 101, 109]⟩ : ByteArray), .string (⟨#[114, 101, 109, 117]⟩ : ByteArray), .string (⟨#[97, 100, 100, 119]⟩ : ByteArray), .string (⟨#[115, 117, 98, 119]⟩ : ByteArray), .string (⟨#[115, 108, 108, 119]⟩ : ByteArray), .string (⟨#[115, 114, 108, 119]⟩ : ByteArray), .string (⟨#[115, 114, 97, 119]⟩ : ByteArray), .string (⟨#[109, 117, 108, 119]⟩ : ByteArray), .string (⟨#[100, 105, 118, 119]⟩ : ByteArray), .string (⟨#[100, 105, 118, 117, 119]⟩ : ByteArray), .string (⟨#[114, 101, 109, 119]⟩ : ByteArray), .string (⟨#[114, 101, 109, 117, 119]⟩ : ByteArray)]) (ok := fun _ => True) (okp := fun _ => True) ?hr ?hp (fun _ hk => hk) trivial (Below.refl _ _) (Nat.le_refl _) (by simp) ?_; (case hd => rfl); (case hg => rfl); (case hr => first | (go_simp; done) | (go_simp; rfl)); (case hp => exact (Reps.one (show Kd.M Kd.string _ _ _ (⟨#[97, 100, 100]⟩ : ByteArray) [.string (⟨#[97, 100, 100]⟩ : ByteArray)] from rfl) (Reps.one (show Kd.M Kd.string _ _ _ (⟨#[115, 117, 98]⟩ : ByteArray) [.string (⟨#[115, 117, 98]⟩ : ByteArray)] from rfl) (Reps.one (show Kd.M Kd.string _ _ _ (⟨#[115, 108, 108]⟩ : ByteArray) [.string (⟨#[115, 108, 108]⟩ : ByteArray)] from rfl) (Reps.one (show Kd.M Kd.string _ _ _ (⟨#[115, 108, 116]⟩ : ByteArray) [.string (⟨#[115, 108, 116]⟩ : ByteArray)] from rfl) (Reps.one (show Kd.M Kd.string _ _ _ (⟨#[115, 108, 116, 117]⟩ : ByteArray) [.string (⟨#[115, 108, 116, 117]⟩ : ByteArray)] from rfl) (Reps.one (show Kd.M Kd.string _ _ _ (⟨#[120, 111, 114]⟩ : ByteArray) [.string (⟨#[120, 111, 114]⟩ : ByteArray)] from rfl) (Reps.one (show Kd.M Kd.string _ _ _ (⟨#[115, 114, 108]⟩ : ByteArray) [.string (⟨#[115, 114, 108]⟩ : ByteArray)] from rfl) (Reps.one (show Kd.M Kd.string _ _ _ (⟨#[115, 114, 97]⟩ : ByteArray) [.string (⟨#[115, 114, 97]⟩ : ByteArray)] from rfl) (Reps.one (show Kd.M Kd.string _ _ _ (⟨#[111, 114]⟩ : ByteArray) [.string (⟨#[111, 114]⟩ : ByteArray)] from rfl) (Reps.one (show Kd.M Kd.string _ _ _ (⟨#[97, 110, 100]⟩ : ByteArray) [.string (⟨#[97, 110, 100]⟩ : ByteArray)] from rfl) (Reps.one (show Kd.M Kd.string _ _ _ (⟨#[109, 117, 108]⟩ : ByteArray) [.string (⟨#[109, 117, 108]⟩ : ByteArray)] from rfl) (Reps.one (show Kd.M Kd.string _ _ _ (⟨#[109, 117, 108, 104]⟩ : ByteArray) [.string (⟨#[109, 117, 108, 104]⟩ : ByteArray)] from rfl) (Reps.one (show Kd.M Kd.string _ _ _ (⟨#[109, 117, 108, 104, 115, 117]⟩ : ByteArray) [.string (⟨#[109, 117, 108, 104, 115, 117]⟩ : ByteArray)] from rfl) (Reps.one (show Kd.M Kd.string _ _ _ (⟨#[109, 117, 108, 104, 117]⟩ : ByteArray) [.string (⟨#[109, 117, 108, 104, 117]⟩ : ByteArray)] from rfl) (Reps.one (show Kd.M Kd.string _ _ _ (⟨#[100, 105, 118]⟩ : ByteArray) [.string (⟨#[100, 105, 118]⟩ : ByteArray)] from rfl) (Reps.one (show Kd.M Kd.string _ _ _ (⟨#[100, 105, 118, 117]⟩ : ByteArray) [.string (⟨#[100, 105, 118, 117]⟩ : ByteArray)] from rfl) (Reps.one (show Kd.M Kd.string _ _ _ (⟨#[114, 101, 109]⟩ : ByteArray) [.string (⟨#[114, 101, 109]⟩ : ByteArray)] from rfl) (Reps.one (show Kd.M Kd.string _ _ _ (⟨#[114, 101, 109, 117]⟩ : ByteArray) [.string (⟨#[114, 101, 109, 117]⟩ : ByteArray)] from rfl) (Reps.one (show Kd.M Kd.string _ _ _ (⟨#[97, 100, 100, 119]⟩ : ByteArray) [.string (⟨#[97, 100, 100, 119]⟩ : ByteArray)] from rfl) (Reps.one (show Kd.M Kd.string _ _ _ (⟨#[115, 117, 98, 119]⟩ : ByteArray) [.string (⟨#[115, 117, 98, 119]⟩ : ByteArray)] from rfl) (Reps.one (show Kd.M Kd.string _ _ _ (⟨#[115, 108, 108, 119]⟩ : ByteArray) [.string (⟨#[115, 108, 108, 119]⟩ : ByteArray)] from rfl) (Reps.one (show Kd.M Kd.string _ _ _ (⟨#[115, 114, 108, 119]⟩ : ByteArray) [.string (⟨#[115, 114, 108, 119]⟩ : ByteArray)] from rfl) (Reps.one (show Kd.M Kd.string _ _ _ (⟨#[115, 114, 97, 119]⟩ : ByteArray) [.string (⟨#[115, 114, 97, 119]⟩ : ByteArray)] from rfl) (Reps.one (show Kd.M Kd.string _ _ _ (⟨#[109, 117, 108, 119]⟩ : ByteArray) [.string (⟨#[109, 117, 108, 119]⟩ : ByteArray)] from rfl) (Reps.one (show Kd.M Kd.string _ _ _ (⟨#[100, 105, 118, 119]⟩ : ByteArray) [.string (⟨#[100, 105, 118, 119]⟩ : ByteArray)] from rfl) (Reps.one (show Kd.M Kd.string _ _ _ (⟨#[100, 105, 118, 117, 119]⟩ : ByteArray) [.string (⟨#[100, 105, 118, 117, 119]⟩ : ByteArray)] from rfl) (Reps.one (show Kd.M Kd.string _ _ _ (⟨#[114, 101, 109, 119]⟩ : ByteArray) [.string (⟨#[114, 101, 109, 119]⟩ : ByteArray)] from rfl) (Reps.one (show Kd.M Kd.string _ _ _ (⟨#[114, 101, 109, 117, 119]⟩ : ByteArray) [.string (⟨#[114, 101, 109, 117, 119]⟩ : ByteArray)] from rfl) (Reps.none _ _)))))))))))))))))))))))))))))); intro v140 w1 ho2 hb hg_ hnew_; clear hg_ hnew_; (first | rw [← Ny139.out] at ho2 | (simp only [Int.reduceToNat] at ho2; rw [← Ny139.out] at ho2)); have n0_ := Aside0.mk (Kd.R_lower ho2 (below_size (by repeat (first | (with_reducible first | exact HB.out | apply below_alloc | apply pw_below_drewN | apply below_drew1) | exact HB.out)))); have n1_ := Aside0.mk (below_step (by repeat (first | (with_reducible first | exact HB.out | apply below_alloc | apply pw_below_drewN | apply below_drew1) | exact HB.out)) hb); clear HB; have HO141 := n0_; have HB := n1_; clear n0_ n1_; clear hb ho2))
 go_ret
 exact ⟨_, by first | rfl | (simp [errW_none, errW_some] <;> rfl) | (simp [*, errW_none, errW_some] <;> rfl), by (with_reducible repeat (first | apply Kd.R_alloc | apply Kd.R_drewN | apply Kd.R_drew)); exact HO141.out, by repeat (first | (with_reducible first | exact HB.out | apply below_alloc | apply pw_below_drewN | apply below_drew1) | exact HB.out)⟩

end Go.Proofs.YtoolfgohbffgnaaDoor.PNn
