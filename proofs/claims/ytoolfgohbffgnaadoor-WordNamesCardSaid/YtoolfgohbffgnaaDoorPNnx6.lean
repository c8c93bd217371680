-- Written by a program of this session (a changed copy of the print of the kit). Not trusted: Lean checks it.
import Derived.Test.YtoolfgohbffgnaaDoorPNnx0
import Derived.Test.YtoolfgohbffgnaaDoorPNnx1
import Derived.Test.YtoolfgohbffgnaaDoorPNnx2
import Derived.Test.YtoolfgohbffgnaaDoorPNnx3
import Derived.Test.YtoolfgohbffgnaaDoorPNnx4
import Derived.Test.YtoolfgohbffgnaaDoorPNnx5
namespace Go.Proofs.YtoolfgohbffgnaaDoor.PNn
open Go.RowKit Go.Proofs.YtoolfgohbffgnaaDoorW.PrintWords Go.Proofs.YtoolfgohbffgnaaDoorW.PrintLast Go.Proofs.YtoolfgohbffgnaaDoorW.PrintMore
attribute [local go_sem] max2_int min2_int max_two min_two max_three min_three max_four min_four   -- for this text's walks alone
set_option linter.unusedVariables false
set_option linter.unusedSimpArgs false

/-! ### turnbucklelaw05_WordNames: function 7 -/
mutual
def turnbucklelaw05_WordNames.j0 : Nat → Int → ByteArray → List ByteArray → ByteArray → Bool → Option (Bool)
 | 0, _, _, _, _, _ => none
 | k + 1, x0, x1, x5, x6, x21 => if x21 = true then (if 0 ≤ x0 then (if x0 < (x5.length : Int) then (turnbucklelaw05_WordNames.j1 k x0 x1 x5 (rdOf ByteArray.empty x5 x0)) else (none)) else (none)) else (turnbucklelaw05_WordNames.j1 k x0 x1 x5 x6)
def turnbucklelaw05_WordNames.j1 : Nat → Int → ByteArray → List ByteArray → ByteArray → Option (Bool)
 | 0, _, _, _, _ => none
 | k + 1, x0, x1, x5, x6 => (word_Op_Name.f x0).bind fun t147 => (if t147.toList = x6.toList then ((word_Op_Half.f x0).bind fun t148 => (if x0 ≥ 18 then (if (t148 != (decide (x0 < 28))) = true then (turnbucklelaw05_WordNames.j2 k x1 x5 true) else (if x6.toList = ([] : List UInt8) then ((word_Do.f k x0 7 9).bind fun t149 => (turnbucklelaw05_WordNames.j2 k x1 x5 (t149 != 0))) else (turnbucklelaw05_WordNames.j2 k x1 x5 false))) else (if (t148 != false) = true then (turnbucklelaw05_WordNames.j2 k x1 x5 true) else (if x6.toList = ([] : List UInt8) then ((word_Do.f k x0 7 9).bind fun t150 => (turnbucklelaw05_WordNames.j2 k x1 x5 (t150 != 0))) else (turnbucklelaw05_WordNames.j2 k x1 x5 false))))) else (turnbucklelaw05_WordNames.j2 k x1 x5 true))
def turnbucklelaw05_WordNames.j2 : Nat → ByteArray → List ByteArray → Bool → Option (Bool)
 | 0, _, _, _ => none
 | k + 1, x1, x5, x49 => if x49 = true then (some false) else ((word_Named.f k x1).bind fun bt151 => (turnbucklelaw05_WordNames.l0 k x1 x5 bt151.1 bt151.2 (-1) 0))
def turnbucklelaw05_WordNames.l0 : Nat → ByteArray → List ByteArray → Int → Bool → Int → Int → Option (Bool)
 | 0, _, _, _, _, _, _ => none
 | k + 1, x1, x5, x7, x8, x9, x10 => if x10 < (x5.length : Int) then (if 0 ≤ x10 then (if (rdOf ByteArray.empty x5 x10).toList = x1.toList then (turnbucklelaw05_WordNames.l0 k x1 x5 x7 x8 x10 (wrap64 (x10 + 1))) else (turnbucklelaw05_WordNames.l0 k x1 x5 x7 x8 x9 (wrap64 (x10 + 1)))) else (none)) else (if (x8 == (decide (x9 ≥ 0))) = true then (some (x7 == (mx x9 0))) else (some false))
end
def turnbucklelaw05_WordNames.f (k : Nat) (a0 : Int) (a1 : ByteArray) : Option (Bool) := (turnbucklelaw05_speaks.f k).bind fun t142 => (if t142 = true then ((turnbuckleref05_Names.f).bind fun t143 => (if a0 ≥ 0 then (turnbucklelaw05_WordNames.j0 k a0 a1 t143 (⟨#[]⟩ : ByteArray) (decide (a0 < (t143.length : Int)))) else (turnbucklelaw05_WordNames.j0 k a0 a1 t143 (⟨#[]⟩ : ByteArray) false))) else (some false))
theorem turnbucklelaw05_WordNames.mono_l : ∀ k, (∀ y0 y1 y2 y3 y4, LeO (turnbucklelaw05_WordNames.j0 k y0 y1 y2 y3 y4) (turnbucklelaw05_WordNames.j0 (k + 1) y0 y1 y2 y3 y4)) ∧ (∀ y0 y1 y2 y3, LeO (turnbucklelaw05_WordNames.j1 k y0 y1 y2 y3) (turnbucklelaw05_WordNames.j1 (k + 1) y0 y1 y2 y3)) ∧ (∀ y0 y1 y2, LeO (turnbucklelaw05_WordNames.j2 k y0 y1 y2) (turnbucklelaw05_WordNames.j2 (k + 1) y0 y1 y2)) ∧ (∀ y0 y1 y2 y3 y4 y5, LeO (turnbucklelaw05_WordNames.l0 k y0 y1 y2 y3 y4 y5) (turnbucklelaw05_WordNames.l0 (k + 1) y0 y1 y2 y3 y4 y5))
 | 0 => ⟨fun _ _ _ _ _ r h => by simp [turnbucklelaw05_WordNames.j0] at h, fun _ _ _ _ r h => by simp [turnbucklelaw05_WordNames.j1] at h, fun _ _ _ r h => by simp [turnbucklelaw05_WordNames.j2] at h, fun _ _ _ _ _ _ r h => by simp [turnbucklelaw05_WordNames.l0] at h⟩
 | k + 1 => by
  obtain ⟨ih0, ih1, ih2, ih3⟩ := turnbucklelaw05_WordNames.mono_l k
  refine ⟨?_, ?_, ?_, ?_⟩
  ·intro y0 y1 y2 y3 y4
   unfold turnbucklelaw05_WordNames.j0
   repeat' first
   | (with_reducible exact ih0 _ _ _ _ _)
   | (with_reducible exact ih1 _ _ _ _)
   | (with_reducible exact ih2 _ _ _)
   | (with_reducible exact ih3 _ _ _ _ _ _)
   | (with_reducible exact turnbucklelaw05_speaks.mono _)
   | (with_reducible exact word_Do.mono _ _ _ _)
   | (with_reducible exact word_Named.mono _ _)
   | (with_reducible exact LeO.refl _)
   | (with_reducible exact LeO.none _)
   | (with_reducible refine LeO.ite ?_ ?_)
   | (with_reducible refine LeO.bind ?_ (fun _ => ?_))
   | exact ih0 _ _ _ _ _
   | exact ih1 _ _ _ _
   | exact ih2 _ _ _
   | exact ih3 _ _ _ _ _ _
   | exact turnbucklelaw05_speaks.mono _
   | exact word_Do.mono _ _ _ _
   | exact word_Named.mono _ _
   | exact LeO.none _
   | refine LeO.ite ?_ ?_
   | refine LeO.bind ?_ (fun _ => ?_)
  ·intro y0 y1 y2 y3
   unfold turnbucklelaw05_WordNames.j1
   repeat' first
   | (with_reducible exact ih0 _ _ _ _ _)
   | (with_reducible exact ih1 _ _ _ _)
   | (with_reducible exact ih2 _ _ _)
   | (with_reducible exact ih3 _ _ _ _ _ _)
   | (with_reducible exact turnbucklelaw05_speaks.mono _)
   | (with_reducible exact word_Do.mono _ _ _ _)
   | (with_reducible exact word_Named.mono _ _)
   | (with_reducible exact LeO.refl _)
   | (with_reducible exact LeO.none _)
   | (with_reducible refine LeO.ite ?_ ?_)
   | (with_reducible refine LeO.bind ?_ (fun _ => ?_))
   | exact ih0 _ _ _ _ _
   | exact ih1 _ _ _ _
   | exact ih2 _ _ _
   | exact ih3 _ _ _ _ _ _
   | exact turnbucklelaw05_speaks.mono _
   | exact word_Do.mono _ _ _ _
   | exact word_Named.mono _ _
   | exact LeO.none _
   | refine LeO.ite ?_ ?_
   | refine LeO.bind ?_ (fun _ => ?_)
  ·intro y0 y1 y2
   unfold turnbucklelaw05_WordNames.j2
   repeat' first
   | (with_reducible exact ih0 _ _ _ _ _)
   | (with_reducible exact ih1 _ _ _ _)
   | (with_reducible exact ih2 _ _ _)
   | (with_reducible exact ih3 _ _ _ _ _ _)
   | (with_reducible exact turnbucklelaw05_speaks.mono _)
   | (with_reducible exact word_Do.mono _ _ _ _)
   | (with_reducible exact word_Named.mono _ _)
   | (with_reducible exact LeO.refl _)
   | (with_reducible exact LeO.none _)
   | (with_reducible refine LeO.ite ?_ ?_)
   | (with_reducible refine LeO.bind ?_ (fun _ => ?_))
   | exact ih0 _ _ _ _ _
   | exact ih1 _ _ _ _
   | exact ih2 _ _ _
   | exact ih3 _ _ _ _ _ _
   | exact turnbucklelaw05_speaks.mono _
   | exact word_Do.mono _ _ _ _
   | exact word_Named.mono _ _
   | exact LeO.none _
   | refine LeO.ite ?_ ?_
   | refine LeO.bind ?_ (fun _ => ?_)
  ·intro y0 y1 y2 y3 y4 y5
   unfold turnbucklelaw05_WordNames.l0
   repeat' first
   | (with_reducible exact ih0 _ _ _ _ _)
   | (with_reducible exact ih1 _ _ _ _)
   | (with_reducible exact ih2 _ _ _)
   | (with_reducible exact ih3 _ _ _ _ _ _)
   | (with_reducible exact turnbucklelaw05_speaks.mono _)
   | (with_reducible exact word_Do.mono _ _ _ _)
   | (with_reducible exact word_Named.mono _ _)
   | (with_reducible exact LeO.refl _)
   | (with_reducible exact LeO.none _)
   | (with_reducible refine LeO.ite ?_ ?_)
   | (with_reducible refine LeO.bind ?_ (fun _ => ?_))
   | exact ih0 _ _ _ _ _
   | exact ih1 _ _ _ _
   | exact ih2 _ _ _
   | exact ih3 _ _ _ _ _ _
   | exact turnbucklelaw05_speaks.mono _
   | exact word_Do.mono _ _ _ _
   | exact word_Named.mono _ _
   | exact LeO.none _
   | refine LeO.ite ?_ ?_
   | refine LeO.bind ?_ (fun _ => ?_)
theorem turnbucklelaw05_WordNames.mono : ∀ a0 a1 k, LeO (turnbucklelaw05_WordNames.f k a0 a1) (turnbucklelaw05_WordNames.f (k + 1) a0 a1) := by
 intro a0 a1 k
 obtain ⟨ih0, ih1, ih2, ih3⟩ := turnbucklelaw05_WordNames.mono_l k
 unfold turnbucklelaw05_WordNames.f
 repeat' first
   | (with_reducible exact ih0 _ _ _ _ _)
   | (with_reducible exact ih1 _ _ _ _)
   | (with_reducible exact ih2 _ _ _)
   | (with_reducible exact ih3 _ _ _ _ _ _)
   | (with_reducible exact turnbucklelaw05_speaks.mono _)
   | (with_reducible exact word_Do.mono _ _ _ _)
   | (with_reducible exact word_Named.mono _ _)
   | (with_reducible exact LeO.refl _)
   | (with_reducible exact LeO.none _)
   | (with_reducible refine LeO.ite ?_ ?_)
   | (with_reducible refine LeO.bind ?_ (fun _ => ?_))
   | exact ih0 _ _ _ _ _
   | exact ih1 _ _ _ _
   | exact ih2 _ _ _
   | exact ih3 _ _ _ _ _ _
   | exact turnbucklelaw05_speaks.mono _
   | exact word_Do.mono _ _ _ _
   | exact word_Named.mono _ _
   | exact LeO.none _
   | refine LeO.ite ?_ ?_
   | refine LeO.bind ?_ (fun _ => ?_)
set_option maxHeartbeats 8000000 in
set_option maxRecDepth 100000 in
theorem turnbucklelaw05_WordNames.calls (k : Nat) (a0 : Int) (a1 : ByteArray) (r : Bool) (w : World) (hG_ : Go.Proofs.YtoolfgohbffgnaaDoorGlob.Is w) (h : turnbucklelaw05_WordNames.f k a0 a1 = some r) :
  Calls Tryd.prog 7 #[.int .i64 a0, .string a1] w fun e w' => e = .returned (.bool r) ∧ Below w.heap.size w w' := by
 have HB := Aside0.mk (Below.refl w.heap.size w)
 have H : ((turnbucklelaw05_speaks.f k).bind fun t142 => (if t142 = true then ((turnbuckleref05_Names.f).bind fun t143 => (if a0 ≥ 0 then (turnbucklelaw05_WordNames.j0 k a0 a1 t143 (⟨#[]⟩ : ByteArray) (decide (a0 < (t143.length : Int)))) else (turnbucklelaw05_WordNames.j0 k a0 a1 t143 (⟨#[]⟩ : ByteArray) false))) else (some false))) = some r := h
 clear h
 replace H := Option.bind_eq_some_iff.mp H
 obtain ⟨t142, A30, H⟩ := H
 replace H : (if t142 = true then ((turnbuckleref05_Names.f).bind fun t143 => (if a0 ≥ 0 then (turnbucklelaw05_WordNames.j0 k a0 a1 t143 (⟨#[]⟩ : ByteArray) (decide (a0 < (t143.length : Int)))) else (turnbucklelaw05_WordNames.j0 k a0 a1 t143 (⟨#[]⟩ : ByteArray) false))) else (some false)) = some r := H
 have A3 := Aside0.mk A30
 clear A30
 by_cases c4 : t142 = true
 ·subst c4
  have H1 : ((turnbuckleref05_Names.f).bind fun t143 => (if a0 ≥ 0 then (turnbucklelaw05_WordNames.j0 k a0 a1 t143 (⟨#[]⟩ : ByteArray) (decide (a0 < (t143.length : Int)))) else (turnbucklelaw05_WordNames.j0 k a0 a1 t143 (⟨#[]⟩ : ByteArray) false))) = some r := by rw [if_pos rfl] at H; exact H
  clear H
  have H := H1
  clear H1
  replace H := Option.bind_eq_some_iff.mp H
  obtain ⟨t143, A50, H⟩ := H
  replace H : (if a0 ≥ 0 then (turnbucklelaw05_WordNames.j0 k a0 a1 t143 (⟨#[]⟩ : ByteArray) (decide (a0 < (t143.length : Int)))) else (turnbucklelaw05_WordNames.j0 k a0 a1 t143 (⟨#[]⟩ : ByteArray) false)) = some r := H
  have A5 := Aside0.mk A50
  clear A50
  have HC6 := Aside0.mk H
  clear H
  go_enter Tryd.func7, Tryd.ntmps7
  go_upto_region 5 with (first | ((with_reducible refine gate_callee (f := 8) rfl ?_); refine goesL_ (some 11) rfl rfl Tryd.func8 (by kernel_rfl) rfl #[] rfl (by (try simp only [List.map_toArray, List.map_cons, List.map_nil]); first | done | rfl | (simp only [List.length_drop, List.length_take]; rfl)) ?_; (with_reducible refine (turnbucklelaw05_speaks.calls k  true _ ?side1 A3.out).mono ?_); (case side1 => first | exact hG_ | exact hG_.drewN _ | exact hG_.under HB.out | exact (hG_.under HB.out).drewN _ | exact hG_.under (below_of_drawn (by assumption))); rintro e w' ⟨rfl, ⟨nd, rfl⟩⟩; refine ⟨_, rfl, ?_⟩) | ((with_reducible refine gate_callee (f := 12) rfl ?_); refine goesL_ (some 13) rfl rfl Tryd.func12 (by kernel_rfl) rfl #[] rfl (by (try simp only [List.map_toArray, List.map_cons, List.map_nil]); first | done | rfl | (simp only [List.length_drop, List.length_take]; rfl)) ?_; (with_reducible refine (turnbuckleref05_Names.calls  t143 _ A5.out).mono ?_); rintro e w7 ⟨v144, rfl, ho0, hb⟩; refine ⟨_, rfl, ?_⟩; have n0_ := Aside0.mk (Kd.R_lower ho0 (below_size (by repeat (first | (with_reducible first | exact HB.out | apply below_alloc | apply pw_below_drewN | apply below_drew1) | exact HB.out)))); have n1_ := Aside0.mk (below_step (by repeat (first | (with_reducible first | exact HB.out | apply below_alloc | apply pw_below_drewN | apply below_drew1) | exact HB.out)) hb); clear HB; have HO145 := n0_; have HB := n1_; clear n0_ n1_; (try clear hb); (try clear hb2); (try clear hk); (try clear hi); (try clear ho0)))
  (try simp only [Act.put, List.setIfInBounds_toArray, List.set_cons_zero, List.set_cons_succ])
  go_cut [21] (fun v21 wc => ∃ (kq : Nat) (x21_5 : Bool), v21 = .bool x21_5 ∧ Aside0 (turnbucklelaw05_WordNames.j0 kq a0 a1 t143 (⟨#[]⟩ : ByteArray) x21_5 = some r) ∧ Aside0 (kq ≤ k) ∧ Aside0 (Kd.R Kd.string 9 wc w.heap.size (fun _ => True) v144 t143) ∧ Aside0 (Below w.heap.size w wc))
  case first =>
   have H := HC6.out
   clear HC6
   by_cases c8 : a0 ≥ 0
   ·rw [if_pos c8] at H
    have c8b0 : decide (0 ≤ a0) = true := decide_eq_true c8
    clear c8
    (first | rw [c8b0] | (simp only [i64_w, i32_w]; rw [c8b0]) | skip)
    have H' := Aside0.mk H
    clear H
    obtain ⟨Ao9, co9, eo9⟩ := Kd.R_slice HO145.out
    subst eo9
    go_wp2
    (try subst hji7)
    (try subst hji9)
    (try subst hji16)
    (try subst hji18)
    (try subst hji20)
    (try subst hji22)
    (try subst hji5)
    (try subst hji7)
    (try subst hji9)
    (try subst hji11)
    (try subst hji13)
    (try subst hji16)
    (try subst hji18)
    go_meet
    case rel => exact ⟨_, (decide (a0 < (t143.length : Int))), (by first | rfl | (simp; done) | (simp [*]; done)), H', ⟨by first | omega | exact Nat.le_refl _⟩, ⟨by (with_reducible repeat (first | apply Kd.R_alloc | apply Kd.R_drewN | apply Kd.R_drew)); exact HO145.out⟩, ⟨by repeat (first | (with_reducible first | exact HB.out | apply below_alloc | apply pw_below_drewN | apply below_drew1) | exact HB.out)⟩⟩
   ·rw [if_neg c8] at H
    have c8b0 : decide (0 ≤ a0) = false := decide_eq_false c8
    clear c8
    (first | rw [c8b0] | (simp only [i64_w, i32_w]; rw [c8b0]) | skip)
    have H' := Aside0.mk H
    clear H
    go_wp2
    (try subst hji7)
    (try subst hji9)
    (try subst hji16)
    (try subst hji18)
    (try subst hji20)
    (try subst hji22)
    (try subst hji5)
    (try subst hji7)
    (try subst hji9)
    (try subst hji11)
    (try subst hji13)
    (try subst hji16)
    (try subst hji18)
    go_meet
    case rel => exact ⟨_, (false), (by first | rfl | (simp; done) | (simp [*]; done)), H', ⟨by first | omega | exact Nat.le_refl _⟩, ⟨by (with_reducible repeat (first | apply Kd.R_alloc | apply Kd.R_drewN | apply Kd.R_drew)); exact HO145.out⟩, ⟨by repeat (first | (with_reducible first | exact HB.out | apply below_alloc | apply pw_below_drewN | apply below_drew1) | exact HB.out)⟩⟩
  case rest =>
   clear HC6
   try clear c1
   try clear p2
   try clear c4
   try clear c7
   try clear c8
   try clear c8b0
   obtain ⟨kq, x21_5, rfl, HA, HJ5, HO_5, HB⟩ := hcut
   cases kq with
   | zero => exact absurd HA.out (by simp [turnbucklelaw05_WordNames.j0])
   | succ kj5 =>
    have H := HA.out
    clear HA
    simp only [turnbucklelaw05_WordNames.j0] at H
    have HC10 := Aside0.mk H
    clear H
    go_upto_if 21 with (fail)
    go_cut [6] (fun v6 wc => ∃ (kq : Nat) (x6_9 : ByteArray), v6 = .string x6_9 ∧ Aside0 (turnbucklelaw05_WordNames.j1 kq a0 a1 t143 x6_9 = some r) ∧ Aside0 (kq ≤ kj5) ∧ Aside0 (Kd.R Kd.string 9 wc w.heap.size (fun _ => True) v144 t143) ∧ Aside0 (Below w.heap.size w wc))
    case first =>
     have H := HC10.out
     clear HC10
     by_cases c11 : x21_5 = true
     ·subst c11
      have H1 : (if 0 ≤ a0 then (if a0 < (t143.length : Int) then (turnbucklelaw05_WordNames.j1 kj5 a0 a1 t143 (rdOf ByteArray.empty t143 a0)) else (none)) else (none)) = some r := by rw [if_pos rfl] at H; exact H
      clear H
      have H := H1
      clear H1
      by_cases c12 : 0 ≤ a0
      ·rw [if_pos c12] at H
       have c12b0 : decide (0 ≤ a0) = true := decide_eq_true c12
       clear c12
       (first | rw [c12b0] | (simp only [i64_w, i32_w]; rw [c12b0]) | skip)
       by_cases c13 : a0 < (t143.length : Int)
       ·rw [if_pos c13] at H
        have c13b0 : decide (a0 < (t143.length : Int)) = true := decide_eq_true c13
        clear c13
        have H' := Aside0.mk H
        clear H
        obtain ⟨Ao14, co14, eo14⟩ := Kd.R_slice HO_5.out
        subst eo14
        have p146 : 0 ≤ (a0 : Int) := of_decide_eq_true (by first | (with_reducible assumption) | assumption)
        have q146 : a0 < (t143.length : Int) := of_decide_eq_true (by first | (with_reducible assumption) | assumption)
        obtain ⟨ad146, e146, hx146_0⟩ := Kd.at_string (Kd.R_reads' HO_5.out).2.2 a0 p146 q146
        cases e146
        replace p146 := eq_true p146
        replace q146 := eq_true q146
        go_wp2
        (try subst hji7)
        (try subst hji9)
        (try subst hji16)
        (try subst hji18)
        (try subst hji20)
        (try subst hji22)
        (try subst hji5)
        (try subst hji7)
        (try subst hji9)
        (try subst hji11)
        (try subst hji13)
        (try subst hji16)
        (try subst hji18)
        go_meet
        case rel => exact ⟨_, (rdOf ByteArray.empty t143 a0), (by first | rfl | (simp; done) | (simp [*]; done)), H', ⟨by have := HJ5.out; first | omega | exact Nat.le_refl _⟩, ⟨by (with_reducible repeat (first | apply Kd.R_alloc | apply Kd.R_drewN | apply Kd.R_drew)); exact HO_5.out⟩, ⟨by repeat (first | (with_reducible first | exact HB.out | apply below_alloc | apply pw_below_drewN | apply below_drew1) | exact HB.out)⟩⟩
       ·rw [if_neg c13] at H
        exact absurd H (by simp)
      ·rw [if_neg c12] at H
       exact absurd H (by simp)
     ·replace c11 := Bool.eq_false_iff.mpr c11
      subst c11
      have H1 : (turnbucklelaw05_WordNames.j1 kj5 a0 a1 t143 (⟨#[]⟩ : ByteArray)) = some r := by rw [if_neg (show ¬ (false = true) by decide)] at H; exact H
      clear H
      have H := H1
      clear H1
      have H' := Aside0.mk H
      clear H
      go_wp2
      (try subst hji7)
      (try subst hji9)
      (try subst hji16)
      (try subst hji18)
      (try subst hji20)
      (try subst hji22)
      (try subst hji5)
      (try subst hji7)
      (try subst hji9)
      (try subst hji11)
      (try subst hji13)
      (try subst hji16)
      (try subst hji18)
      go_meet
      case rel => exact ⟨_, ((⟨#[]⟩ : ByteArray)), (by first | rfl | (simp; done) | (simp [*]; done)), H', ⟨by have := HJ5.out; first | omega | exact Nat.le_refl _⟩, ⟨by (with_reducible repeat (first | apply Kd.R_alloc | apply Kd.R_drewN | apply Kd.R_drew)); exact HO_5.out⟩, ⟨by repeat (first | (with_reducible first | exact HB.out | apply below_alloc | apply pw_below_drewN | apply below_drew1) | exact HB.out)⟩⟩
    case rest =>
     clear HC10
     try clear c1
     try clear p1
     try clear q1
     try clear hx1
     try clear p2
     try clear c4
     try clear c7
     try clear c8
     try clear c8b0
     try clear c11
     try clear c12
     try clear c12b0
     try clear c13
     try clear c13b0
     try clear p14
     try clear q14
     try clear hx14
     try clear hx146_0
     try clear p146
     try clear p2
     try clear q146
     obtain ⟨kq, x6_9, rfl, HA, HJ9, HO_5, HB⟩ := hcut
     cases kq with
     | zero => exact absurd HA.out (by simp [turnbucklelaw05_WordNames.j1])
     | succ kj9 =>
      have H := HA.out
      clear HA
      simp only [turnbucklelaw05_WordNames.j1] at H
      have HC15 := Aside0.mk H
      clear H
      go_upto_region 7 with (fail)
      go_cut [49] (fun v49 wc => ∃ (kq : Nat) (x49_14 : Bool), v49 = .bool x49_14 ∧ Aside0 (turnbucklelaw05_WordNames.j2 kq a1 t143 x49_14 = some r) ∧ Aside0 (kq ≤ kj9) ∧ Aside0 (Kd.R Kd.string 9 wc w.heap.size (fun _ => True) v144 t143) ∧ Aside0 (Below w.heap.size w wc))
      case first =>
       have H := HC15.out
       clear HC15
       replace H := Option.bind_eq_some_iff.mp H
       obtain ⟨t147, A160, H⟩ := H
       replace H : (if t147.toList = x6_9.toList then ((word_Op_Half.f a0).bind fun t148 => (if a0 ≥ 18 then (if (t148 != (decide (a0 < 28))) = true then (turnbucklelaw05_WordNames.j2 kj9 a1 t143 true) else (if x6_9.toList = ([] : List UInt8) then ((word_Do.f kj9 a0 7 9).bind fun t149 => (turnbucklelaw05_WordNames.j2 kj9 a1 t143 (t149 != 0))) else (turnbucklelaw05_WordNames.j2 kj9 a1 t143 false))) else (if (t148 != false) = true then (turnbucklelaw05_WordNames.j2 kj9 a1 t143 true) else (if x6_9.toList = ([] : List UInt8) then ((word_Do.f kj9 a0 7 9).bind fun t150 => (turnbucklelaw05_WordNames.j2 kj9 a1 t143 (t150 != 0))) else (turnbucklelaw05_WordNames.j2 kj9 a1 t143 false))))) else (turnbucklelaw05_WordNames.j2 kj9 a1 t143 true)) = some r := H
       have A16 := Aside0.mk A160
       clear A160
       by_cases c17 : t147.toList = x6_9.toList
       ·rw [if_pos c17] at H
        have c17b0 : (t147.toList == x6_9.toList) = true := beq_iff_eq.mpr c17
        have c17b1 : (t147.toList != x6_9.toList) = false := bne_eq_false_iff_eq.mpr c17
        clear c17
        (first | rw [c17b0] | (simp only [i64_w, i32_w]; rw [c17b0]) | skip)
        replace H := Option.bind_eq_some_iff.mp H
        obtain ⟨t148, A180, H⟩ := H
        replace H : (if a0 ≥ 18 then (if (t148 != (decide (a0 < 28))) = true then (turnbucklelaw05_WordNames.j2 kj9 a1 t143 true) else (if x6_9.toList = ([] : List UInt8) then ((word_Do.f kj9 a0 7 9).bind fun t149 => (turnbucklelaw05_WordNames.j2 kj9 a1 t143 (t149 != 0))) else (turnbucklelaw05_WordNames.j2 kj9 a1 t143 false))) else (if (t148 != false) = true then (turnbucklelaw05_WordNames.j2 kj9 a1 t143 true) else (if x6_9.toList = ([] : List UInt8) then ((word_Do.f kj9 a0 7 9).bind fun t150 => (turnbucklelaw05_WordNames.j2 kj9 a1 t143 (t150 != 0))) else (turnbucklelaw05_WordNames.j2 kj9 a1 t143 false)))) = some r := H
        have A18 := Aside0.mk A180
        clear A180
        by_cases c19 : a0 ≥ 18
        ·rw [if_pos c19] at H
         have c19b0 : decide (18 ≤ a0) = true := decide_eq_true c19
         clear c19
         by_cases c20 : (t148 != (decide (a0 < 28))) = true
         ·rw [if_pos c20] at H
          have c20b0 : (t148 != (decide (a0 < 28))) = true := c20
          (try (have c20b1 : decide (t148 = (decide (a0 < 28))) = false := by simpa using c20))
          (try (have c20b2 : (t148 == (decide (a0 < 28))) = false := by simpa using c20))
          (try (have c20b3 : ¬ (t148 = (decide (a0 < 28))) := by simpa using c20))
          clear c20
          have H' := Aside0.mk H
          clear H
          go_wp2_with (first | ((with_reducible refine gate_callee (f := 13) rfl ?_); refine goesL_ (some 27) rfl rfl Tryd.func13 (by kernel_rfl) rfl #[.int .i64 a0] rfl (by (try simp only [List.map_toArray, List.map_cons, List.map_nil]); first | done | rfl | (simp only [List.length_drop, List.length_take]; rfl)) ?_; (with_reducible refine (word_Op_Name.calls a0 t147 _ ?side1 A16.out).mono ?_); (case side1 => first | exact hG_ | exact hG_.drewN _ | exact hG_.under HB.out | exact (hG_.under HB.out).drewN _ | exact hG_.under (below_of_drawn (by assumption))); rintro e w' ⟨rfl, ⟨nd, rfl⟩⟩; refine ⟨_, rfl, ?_⟩) | (go_at_call 14; (with_reducible refine (word_Op_Half.calls a0 t148 _ A18.out).mono ?_); rintro e w' ⟨rfl, ⟨nd, rfl⟩⟩))
          (try subst hji7)
          (try subst hji9)
          (try subst hji16)
          (try subst hji18)
          (try subst hji20)
          (try subst hji22)
          (try subst hji5)
          (try subst hji7)
          (try subst hji9)
          (try subst hji11)
          (try subst hji13)
          (try subst hji16)
          (try subst hji18)
          go_meet
          case rel => exact ⟨_, (true), (by first | rfl | (simp; done) | (simp [*]; done)), H', ⟨by have := HJ5.out; have := HJ9.out; first | omega | exact Nat.le_refl _⟩, ⟨by (with_reducible repeat (first | apply Kd.R_alloc | apply Kd.R_drewN | apply Kd.R_drew)); exact HO_5.out⟩, ⟨by repeat (first | (with_reducible first | exact HB.out | apply below_alloc | apply pw_below_drewN | apply below_drew1) | exact HB.out)⟩⟩
         ·rw [if_neg c20] at H
          have c20b0 : (t148 != (decide (a0 < 28))) = false := by simpa using c20
          (try (have c20b1 : decide (t148 = (decide (a0 < 28))) = true := by simpa using c20))
          (try (have c20b2 : (t148 == (decide (a0 < 28))) = true := by simpa using c20))
          clear c20
          by_cases c21 : x6_9.toList = ([] : List UInt8)
          ·rw [if_pos c21] at H
           have c21b0 : (x6_9.toList == ([] : List UInt8)) = true := beq_iff_eq.mpr c21
           have c21b1 : (x6_9.toList != ([] : List UInt8)) = false := bne_eq_false_iff_eq.mpr c21
           clear c21
           replace H := Option.bind_eq_some_iff.mp H
           obtain ⟨t149, A220, H⟩ := H
           replace H : (turnbucklelaw05_WordNames.j2 kj9 a1 t143 (t149 != 0)) = some r := H
           have A22 := Aside0.mk A220
           clear A220
           have H' := Aside0.mk H
           clear H
           go_wp2_with (first | ((with_reducible refine gate_callee (f := 13) rfl ?_); refine goesL_ (some 27) rfl rfl Tryd.func13 (by kernel_rfl) rfl #[.int .i64 a0] rfl (by (try simp only [List.map_toArray, List.map_cons, List.map_nil]); first | done | rfl | (simp only [List.length_drop, List.length_take]; rfl)) ?_; (with_reducible refine (word_Op_Name.calls a0 t147 _ ?side1 A16.out).mono ?_); (case side1 => first | exact hG_ | exact hG_.drewN _ | exact hG_.under HB.out | exact (hG_.under HB.out).drewN _ | exact hG_.under (below_of_drawn (by assumption))); rintro e w' ⟨rfl, ⟨nd, rfl⟩⟩; refine ⟨_, rfl, ?_⟩) | (go_at_call 14; (with_reducible refine (word_Op_Half.calls a0 t148 _ A18.out).mono ?_); rintro e w' ⟨rfl, ⟨nd, rfl⟩⟩) | (go_at_call 9; (with_reducible refine (word_Do.calls kj9 a0 7 9 t149 _ A22.out).mono ?_); rintro e w' ⟨rfl, ⟨nd, rfl⟩⟩))
           (try subst hji7)
           (try subst hji9)
           (try subst hji16)
           (try subst hji18)
           (try subst hji20)
           (try subst hji22)
           (try subst hji5)
           (try subst hji7)
           (try subst hji9)
           (try subst hji11)
           (try subst hji13)
           (try subst hji16)
           (try subst hji18)
           go_meet
           case rel => exact ⟨_, ((t149 != 0)), (by first | rfl | (simp; done) | (simp [*]; done)), H', ⟨by have := HJ5.out; have := HJ9.out; first | omega | exact Nat.le_refl _⟩, ⟨by (with_reducible repeat (first | apply Kd.R_alloc | apply Kd.R_drewN | apply Kd.R_drew)); exact HO_5.out⟩, ⟨by repeat (first | (with_reducible first | exact HB.out | apply below_alloc | apply pw_below_drewN | apply below_drew1) | exact HB.out)⟩⟩
          ·rw [if_neg c21] at H
           have c21b0 : (x6_9.toList == ([] : List UInt8)) = false := beq_eq_false_iff_ne.mpr c21
           have c21b1 : (x6_9.toList != ([] : List UInt8)) = true := bne_iff_ne.mpr c21
           have H' := Aside0.mk H
           clear H
           go_wp2_with (first | ((with_reducible refine gate_callee (f := 13) rfl ?_); refine goesL_ (some 27) rfl rfl Tryd.func13 (by kernel_rfl) rfl #[.int .i64 a0] rfl (by (try simp only [List.map_toArray, List.map_cons, List.map_nil]); first | done | rfl | (simp only [List.length_drop, List.length_take]; rfl)) ?_; (with_reducible refine (word_Op_Name.calls a0 t147 _ ?side1 A16.out).mono ?_); (case side1 => first | exact hG_ | exact hG_.drewN _ | exact hG_.under HB.out | exact (hG_.under HB.out).drewN _ | exact hG_.under (below_of_drawn (by assumption))); rintro e w' ⟨rfl, ⟨nd, rfl⟩⟩; refine ⟨_, rfl, ?_⟩) | (go_at_call 14; (with_reducible refine (word_Op_Half.calls a0 t148 _ A18.out).mono ?_); rintro e w' ⟨rfl, ⟨nd, rfl⟩⟩))
           (try subst hji7)
           (try subst hji9)
           (try subst hji16)
           (try subst hji18)
           (try subst hji20)
           (try subst hji22)
           (try subst hji5)
           (try subst hji7)
           (try subst hji9)
           (try subst hji11)
           (try subst hji13)
           (try subst hji16)
           (try subst hji18)
           go_meet
           case rel => exact ⟨_, (false), (by first | rfl | (simp; done) | (simp [*]; done)), H', ⟨by have := HJ5.out; have := HJ9.out; first | omega | exact Nat.le_refl _⟩, ⟨by (with_reducible repeat (first | apply Kd.R_alloc | apply Kd.R_drewN | apply Kd.R_drew)); exact HO_5.out⟩, ⟨by repeat (first | (with_reducible first | exact HB.out | apply below_alloc | apply pw_below_drewN | apply below_drew1) | exact HB.out)⟩⟩
        ·rw [if_neg c19] at H
         have c19b0 : decide (18 ≤ a0) = false := decide_eq_false c19
         clear c19
         by_cases c23 : (t148 != false) = true
         ·rw [if_pos c23] at H
          have c23b0 : (t148 != false) = true := c23
          (try (have c23b1 : decide (t148 = false) = false := by simpa using c23))
          (try (have c23b2 : (t148 == false) = false := by simpa using c23))
          (try (have c23b3 : ¬ (t148 = false) := by simpa using c23))
          clear c23
          have H' := Aside0.mk H
          clear H
          go_wp2_with (first | ((with_reducible refine gate_callee (f := 13) rfl ?_); refine goesL_ (some 27) rfl rfl Tryd.func13 (by kernel_rfl) rfl #[.int .i64 a0] rfl (by (try simp only [List.map_toArray, List.map_cons, List.map_nil]); first | done | rfl | (simp only [List.length_drop, List.length_take]; rfl)) ?_; (with_reducible refine (word_Op_Name.calls a0 t147 _ ?side1 A16.out).mono ?_); (case side1 => first | exact hG_ | exact hG_.drewN _ | exact hG_.under HB.out | exact (hG_.under HB.out).drewN _ | exact hG_.under (below_of_drawn (by assumption))); rintro e w' ⟨rfl, ⟨nd, rfl⟩⟩; refine ⟨_, rfl, ?_⟩) | (go_at_call 14; (with_reducible refine (word_Op_Half.calls a0 t148 _ A18.out).mono ?_); rintro e w' ⟨rfl, ⟨nd, rfl⟩⟩))
          (try subst hji7)
          (try subst hji9)
          (try subst hji16)
          (try subst hji18)
          (try subst hji20)
          (try subst hji22)
          (try subst hji5)
          (try subst hji7)
          (try subst hji9)
          (try subst hji11)
          (try subst hji13)
          (try subst hji16)
          (try subst hji18)
          go_meet
          case rel => exact ⟨_, (true), (by first | rfl | (simp; done) | (simp [*]; done)), H', ⟨by have := HJ5.out; have := HJ9.out; first | omega | exact Nat.le_refl _⟩, ⟨by (with_reducible repeat (first | apply Kd.R_alloc | apply Kd.R_drewN | apply Kd.R_drew)); exact HO_5.out⟩, ⟨by repeat (first | (with_reducible first | exact HB.out | apply below_alloc | apply pw_below_drewN | apply below_drew1) | exact HB.out)⟩⟩
         ·rw [if_neg c23] at H
          have c23b0 : (t148 != false) = false := by simpa using c23
          (try (have c23b1 : decide (t148 = false) = true := by simpa using c23))
          (try (have c23b2 : (t148 == false) = true := by simpa using c23))
          clear c23
          by_cases c24 : x6_9.toList = ([] : List UInt8)
          ·rw [if_pos c24] at H
           have c24b0 : (x6_9.toList == ([] : List UInt8)) = true := beq_iff_eq.mpr c24
           have c24b1 : (x6_9.toList != ([] : List UInt8)) = false := bne_eq_false_iff_eq.mpr c24
           clear c24
           replace H := Option.bind_eq_some_iff.mp H
           obtain ⟨t150, A250, H⟩ := H
           replace H : (turnbucklelaw05_WordNames.j2 kj9 a1 t143 (t150 != 0)) = some r := H
           have A25 := Aside0.mk A250
           clear A250
           have H' := Aside0.mk H
           clear H
           go_wp2_with (first | ((with_reducible refine gate_callee (f := 13) rfl ?_); refine goesL_ (some 27) rfl rfl Tryd.func13 (by kernel_rfl) rfl #[.int .i64 a0] rfl (by (try simp only [List.map_toArray, List.map_cons, List.map_nil]); first | done | rfl | (simp only [List.length_drop, List.length_take]; rfl)) ?_; (with_reducible refine (word_Op_Name.calls a0 t147 _ ?side1 A16.out).mono ?_); (case side1 => first | exact hG_ | exact hG_.drewN _ | exact hG_.under HB.out | exact (hG_.under HB.out).drewN _ | exact hG_.under (below_of_drawn (by assumption))); rintro e w' ⟨rfl, ⟨nd, rfl⟩⟩; refine ⟨_, rfl, ?_⟩) | (go_at_call 14; (with_reducible refine (word_Op_Half.calls a0 t148 _ A18.out).mono ?_); rintro e w' ⟨rfl, ⟨nd, rfl⟩⟩) | (go_at_call 9; (with_reducible refine (word_Do.calls kj9 a0 7 9 t150 _ A25.out).mono ?_); rintro e w' ⟨rfl, ⟨nd, rfl⟩⟩))
           (try subst hji7)
           (try subst hji9)
           (try subst hji16)
           (try subst hji18)
           (try subst hji20)
           (try subst hji22)
           (try subst hji5)
           (try subst hji7)
           (try subst hji9)
           (try subst hji11)
           (try subst hji13)
           (try subst hji16)
           (try subst hji18)
           go_meet
           case rel => exact ⟨_, ((t150 != 0)), (by first | rfl | (simp; done) | (simp [*]; done)), H', ⟨by have := HJ5.out; have := HJ9.out; first | omega | exact Nat.le_refl _⟩, ⟨by (with_reducible repeat (first | apply Kd.R_alloc | apply Kd.R_drewN | apply Kd.R_drew)); exact HO_5.out⟩, ⟨by repeat (first | (with_reducible first | exact HB.out | apply below_alloc | apply pw_below_drewN | apply below_drew1) | exact HB.out)⟩⟩
          ·rw [if_neg c24] at H
           have c24b0 : (x6_9.toList == ([] : List UInt8)) = false := beq_eq_false_iff_ne.mpr c24
           have c24b1 : (x6_9.toList != ([] : List UInt8)) = true := bne_iff_ne.mpr c24
           have H' := Aside0.mk H
           clear H
           go_wp2_with (first | ((with_reducible refine gate_callee (f := 13) rfl ?_); refine goesL_ (some 27) rfl rfl Tryd.func13 (by kernel_rfl) rfl #[.int .i64 a0] rfl (by (try simp only [List.map_toArray, List.map_cons, List.map_nil]); first | done | rfl | (simp only [List.length_drop, List.length_take]; rfl)) ?_; (with_reducible refine (word_Op_Name.calls a0 t147 _ ?side1 A16.out).mono ?_); (case side1 => first | exact hG_ | exact hG_.drewN _ | exact hG_.under HB.out | exact (hG_.under HB.out).drewN _ | exact hG_.under (below_of_drawn (by assumption))); rintro e w' ⟨rfl, ⟨nd, rfl⟩⟩; refine ⟨_, rfl, ?_⟩) | (go_at_call 14; (with_reducible refine (word_Op_Half.calls a0 t148 _ A18.out).mono ?_); rintro e w' ⟨rfl, ⟨nd, rfl⟩⟩))
           (try subst hji7)
           (try subst hji9)
           (try subst hji16)
           (try subst hji18)
           (try subst hji20)
           (try subst hji22)
           (try subst hji5)
           (try subst hji7)
           (try subst hji9)
           (try subst hji11)
           (try subst hji13)
           (try subst hji16)
           (try subst hji18)
           go_meet
           case rel => exact ⟨_, (false), (by first | rfl | (simp; done) | (simp [*]; done)), H', ⟨by have := HJ5.out; have := HJ9.out; first | omega | exact Nat.le_refl _⟩, ⟨by (with_reducible repeat (first | apply Kd.R_alloc | apply Kd.R_drewN | apply Kd.R_drew)); exact HO_5.out⟩, ⟨by repeat (first | (with_reducible first | exact HB.out | apply below_alloc | apply pw_below_drewN | apply below_drew1) | exact HB.out)⟩⟩
       ·rw [if_neg c17] at H
        have c17b0 : (t147.toList == x6_9.toList) = false := beq_eq_false_iff_ne.mpr c17
        have c17b1 : (t147.toList != x6_9.toList) = true := bne_iff_ne.mpr c17
        (first | rw [c17b0] | (simp only [i64_w, i32_w]; rw [c17b0]) | skip)
        have H' := Aside0.mk H
        clear H
        go_wp2_with (first | ((with_reducible refine gate_callee (f := 13) rfl ?_); refine goesL_ (some 27) rfl rfl Tryd.func13 (by kernel_rfl) rfl #[.int .i64 a0] rfl (by (try simp only [List.map_toArray, List.map_cons, List.map_nil]); first | done | rfl | (simp only [List.length_drop, List.length_take]; rfl)) ?_; (with_reducible refine (word_Op_Name.calls a0 t147 _ ?side1 A16.out).mono ?_); (case side1 => first | exact hG_ | exact hG_.drewN _ | exact hG_.under HB.out | exact (hG_.under HB.out).drewN _ | exact hG_.under (below_of_drawn (by assumption))); rintro e w' ⟨rfl, ⟨nd, rfl⟩⟩; refine ⟨_, rfl, ?_⟩))
        (try subst hji7)
        (try subst hji9)
        (try subst hji16)
        (try subst hji18)
        (try subst hji20)
        (try subst hji22)
        (try subst hji5)
        (try subst hji7)
        (try subst hji9)
        (try subst hji11)
        (try subst hji13)
        (try subst hji16)
        (try subst hji18)
        go_meet
        case rel => exact ⟨_, (true), (by first | rfl | (simp; done) | (simp [*]; done)), H', ⟨by have := HJ5.out; have := HJ9.out; first | omega | exact Nat.le_refl _⟩, ⟨by (with_reducible repeat (first | apply Kd.R_alloc | apply Kd.R_drewN | apply Kd.R_drew)); exact HO_5.out⟩, ⟨by repeat (first | (with_reducible first | exact HB.out | apply below_alloc | apply pw_below_drewN | apply below_drew1) | exact HB.out)⟩⟩
      case rest =>
       clear HC15
       try clear c1
       try clear p1
       try clear q1
       try clear hx1
       try clear c2
       try clear p2
       try clear c4
       try clear c7
       try clear c8
       try clear c8b0
       try clear c11
       try clear c12
       try clear c12b0
       try clear c13
       try clear c13b0
       try clear p14
       try clear q14
       try clear hx14
       try clear c17
       try clear c17b0
       try clear c17b1
       try clear c19
       try clear c19b0
       try clear c20
       try clear c20b0
       try clear c20b1
       try clear c20b2
       try clear c21
       try clear c21b0
       try clear c21b1
       try clear c23
       try clear c23b0
       try clear c23b1
       try clear c23b2
       try clear c24
       try clear c24b0
       try clear c24b1
       try clear hx146_0
       try clear p1
       try clear p14
       try clear p146
       try clear p2
       try clear q1
       try clear q14
       try clear q146
       obtain ⟨kq, x49_14, rfl, HA, HJ14, HO_5, HB⟩ := hcut
       cases kq with
       | zero => exact absurd HA.out (by simp [turnbucklelaw05_WordNames.j2])
       | succ kj14 =>
        have H := HA.out
        clear HA
        simp only [turnbucklelaw05_WordNames.j2] at H
        by_cases c26 : x49_14 = true
        ·subst c26
         have H1 : (some false) = some r := by rw [if_pos rfl] at H; exact H
         clear H
         have H := H1
         clear H1
         obtain rfl := Option.some.inj H
         go_wp2
         go_ret
         exact ⟨by first | rfl | (simp [errW_none, errW_some] <;> rfl) | (simp [*, errW_none, errW_some] <;> rfl), by repeat (first | (with_reducible first | exact HB.out | apply below_alloc | apply pw_below_drewN | apply below_drew1) | exact HB.out)⟩
        ·replace c26 := Bool.eq_false_iff.mpr c26
         subst c26
         have H1 : ((word_Named.f kj14 a1).bind fun bt151 => (turnbucklelaw05_WordNames.l0 kj14 a1 t143 bt151.1 bt151.2 (-1) 0)) = some r := by rw [if_neg (show ¬ (false = true) by decide)] at H; exact H
         clear H
         have H := H1
         clear H1
         replace H := Option.bind_eq_some_iff.mp H
         obtain ⟨⟨t151, t152⟩, A270, H⟩ := H
         replace H : (turnbucklelaw05_WordNames.l0 kj14 a1 t143 t151 t152 (-1) 0) = some r := H
         have A27 := Aside0.mk A270
         clear A270
         have H' := Aside0.mk H
         clear H
         go_wp2_with (first | ((with_reducible refine gate_callee (f := 15) rfl ?_); refine goesL_ (some 52) rfl rfl Tryd.func15 (by kernel_rfl) rfl #[.string a1] rfl (by (try simp only [List.map_toArray, List.map_cons, List.map_nil]); first | done | rfl | (simp only [List.length_drop, List.length_take]; rfl)) ?_; (with_reducible refine (word_Named.calls kj14 a1 t151 t152 _ ?side1 A27.out).mono ?_); (case side1 => first | exact hG_ | exact hG_.drewN _ | exact hG_.under HB.out | exact (hG_.under HB.out).drewN _ | exact hG_.under (below_of_drawn (by assumption))); rintro e w' ⟨rfl, ⟨nd, rfl⟩⟩; refine ⟨_, rfl, ?_⟩))
         go_loopg [9, 10] kj14 (fun kq v9 v10 w' => ∃ (x9_4 : Int) (x10_4 : Int), v9 = .int .i64 x9_4 ∧ v10 = .int .i64 x10_4 ∧ Aside0 (turnbucklelaw05_WordNames.l0 kq a1 t143 t151 t152 x9_4 x10_4 = some r) ∧ Aside0 (kq ≤ kj14) ∧ Aside0 (Kd.R Kd.string 9 w' w.heap.size (fun _ => True) v144 t143) ∧ Aside0 (Below w.heap.size w w'))
         case atStart => exact ⟨((-1)), (0), (by first | rfl | (simp; done) | (simp [*]; done)), (by first | rfl | (simp; done) | (simp [*]; done)), H', ⟨Nat.le_refl _⟩, ⟨by (with_reducible repeat (first | apply Kd.R_alloc | apply Kd.R_drewN | apply Kd.R_drew)); exact HO_5.out⟩, ⟨by repeat (first | (with_reducible first | exact HB.out | apply below_alloc | apply pw_below_drewN | apply below_drew1) | exact HB.out)⟩⟩
         case round =>
          clear H'
          try clear c1
          try clear p1
          try clear q1
          try clear hx1
          try clear c2
          try clear p2
          try clear c4
          try clear c7
          try clear c8
          try clear c8b0
          try clear c11
          try clear c12
          try clear c12b0
          try clear c13
          try clear c13b0
          try clear p14
          try clear q14
          try clear hx14
          try clear c15
          try clear c17
          try clear c17b0
          try clear c17b1
          try clear c19
          try clear c19b0
          try clear c20
          try clear c20b0
          try clear c20b1
          try clear c20b2
          try clear c21
          try clear c21b0
          try clear c21b1
          try clear c23
          try clear c23b0
          try clear c23b1
          try clear c23b2
          try clear c24
          try clear c24b0
          try clear c24b1
          try clear c26
          try clear hx146_0
          try clear p1
          try clear p14
          try clear p146
          try clear p2
          try clear q1
          try clear q14
          try clear q146
          obtain ⟨x9_4, x10_4, rfl, rfl, HA, HK4, HO_5, HB⟩ := hrel
          cases gk with
          | zero => exact absurd HA.out (by simp [turnbucklelaw05_WordNames.l0])
          | succ k4 =>
           have H := HA.out
           clear HA
           simp only [turnbucklelaw05_WordNames.l0] at H
           by_cases c28 : x10_4 < (t143.length : Int)
           ·rw [if_pos c28] at H
            have c28b0 : decide (x10_4 < (t143.length : Int)) = true := decide_eq_true c28
            clear c28
            by_cases c29 : 0 ≤ x10_4
            ·rw [if_pos c29] at H
             have c29b0 : decide (0 ≤ x10_4) = true := decide_eq_true c29
             clear c29
             by_cases c30 : (rdOf ByteArray.empty t143 x10_4).toList = a1.toList
             ·rw [if_pos c30] at H
              have c30b0 : ((rdOf ByteArray.empty t143 x10_4).toList == a1.toList) = true := beq_iff_eq.mpr c30
              have c30b1 : ((rdOf ByteArray.empty t143 x10_4).toList != a1.toList) = false := bne_eq_false_iff_eq.mpr c30
              clear c30
              have H' := Aside0.mk H
              clear H
              obtain ⟨Ao31, co31, eo31⟩ := Kd.R_slice HO_5.out
              subst eo31
              have p153 : 0 ≤ (x10_4 : Int) := of_decide_eq_true (by first | (with_reducible assumption) | assumption)
              have q153 : x10_4 < (t143.length : Int) := of_decide_eq_true (by first | (with_reducible assumption) | assumption)
              obtain ⟨ad153, e153, hx153_0⟩ := Kd.at_string (Kd.R_reads' HO_5.out).2.2 x10_4 p153 q153
              cases e153
              replace p153 := eq_true p153
              replace q153 := eq_true q153
              go_wp2
              go_roundg k4
              case measure => have := HJ5.out; have := HJ9.out; have := HJ14.out; have := HK4.out; omega
              case rel => exact ⟨(x10_4), (wrap64 (x10_4 + 1)), (by first | rfl | (simp; done) | (simp [*]; done)), (by first | rfl | (simp; done) | (simp [*]; done)), H', ⟨by have := HJ5.out; have := HJ9.out; have := HJ14.out; have := HK4.out; omega⟩, ⟨by (with_reducible repeat (first | apply Kd.R_alloc | apply Kd.R_drewN | apply Kd.R_drew)); exact HO_5.out⟩, ⟨by repeat (first | (with_reducible first | exact HB.out | apply below_alloc | apply pw_below_drewN | apply below_drew1) | exact HB.out)⟩⟩
             ·rw [if_neg c30] at H
              have c30b0 : ((rdOf ByteArray.empty t143 x10_4).toList == a1.toList) = false := beq_eq_false_iff_ne.mpr c30
              have c30b1 : ((rdOf ByteArray.empty t143 x10_4).toList != a1.toList) = true := bne_iff_ne.mpr c30
              have H' := Aside0.mk H
              clear H
              obtain ⟨Ao32, co32, eo32⟩ := Kd.R_slice HO_5.out
              subst eo32
              have p153 : 0 ≤ (x10_4 : Int) := of_decide_eq_true (by first | (with_reducible assumption) | assumption)
              have q153 : x10_4 < (t143.length : Int) := of_decide_eq_true (by first | (with_reducible assumption) | assumption)
              obtain ⟨ad153, e153, hx153_0⟩ := Kd.at_string (Kd.R_reads' HO_5.out).2.2 x10_4 p153 q153
              cases e153
              replace p153 := eq_true p153
              replace q153 := eq_true q153
              go_wp2
              go_roundg k4
              case measure => have := HJ5.out; have := HJ9.out; have := HJ14.out; have := HK4.out; omega
              case rel => exact ⟨(x9_4), (wrap64 (x10_4 + 1)), (by first | rfl | (simp; done) | (simp [*]; done)), (by first | rfl | (simp; done) | (simp [*]; done)), H', ⟨by have := HJ5.out; have := HJ9.out; have := HJ14.out; have := HK4.out; omega⟩, ⟨by (with_reducible repeat (first | apply Kd.R_alloc | apply Kd.R_drewN | apply Kd.R_drew)); exact HO_5.out⟩, ⟨by repeat (first | (with_reducible first | exact HB.out | apply below_alloc | apply pw_below_drewN | apply below_drew1) | exact HB.out)⟩⟩
            ·rw [if_neg c29] at H
             exact absurd H (by simp)
           ·rw [if_neg c28] at H
            have c28b0 : decide (x10_4 < (t143.length : Int)) = false := decide_eq_false c28
            clear c28
            by_cases c33 : (t152 == (decide (x9_4 ≥ 0))) = true
            ·rw [if_pos c33] at H
             have c33b0 : (t152 == (decide (x9_4 ≥ 0))) = true := c33
             (try (have c33b1 : decide (t152 = (decide (x9_4 ≥ 0))) = true := by simpa using c33))
             (try (have c33b2 : (t152 == (decide (x9_4 ≥ 0))) = true := by simpa using c33))
             clear c33
             obtain ⟨ji34, hji34⟩ : ∃ j_ : Int, (mx x9_4 0) = j_ := ⟨_, rfl⟩
             replace H : (some (t151 == (ji34))) = some r := by first | (rw [hji34] at H; exact H) | (simp only [hji34] at H ⊢; exact H)
             have hji34_ : (if x9_4 < 0 then 0 else x9_4) = ji34 := hji34
             obtain rfl := Option.some.inj H
             obtain ⟨Ao35, co35, eo35⟩ := Kd.R_slice HO_5.out
             subst eo35
             go_wp2
             go_ret
             exact ⟨by first | rfl | (simp [errW_none, errW_some] <;> rfl) | (simp only [← hji34]; first | rfl | (simp [errW_none, errW_some] <;> rfl)) | (simp [*, errW_none, errW_some] <;> rfl), by repeat (first | (with_reducible first | exact HB.out | apply below_alloc | apply pw_below_drewN | apply below_drew1) | exact HB.out)⟩
            ·rw [if_neg c33] at H
             have c33b0 : (t152 == (decide (x9_4 ≥ 0))) = false := by simpa using c33
             (try (have c33b1 : decide (t152 = (decide (x9_4 ≥ 0))) = false := by simpa using c33))
             (try (have c33b2 : (t152 == (decide (x9_4 ≥ 0))) = false := by simpa using c33))
             (try (have c33b3 : ¬ (t152 = (decide (x9_4 ≥ 0))) := by simpa using c33))
             clear c33
             obtain rfl := Option.some.inj H
             obtain ⟨Ao36, co36, eo36⟩ := Kd.R_slice HO_5.out
             subst eo36
             go_wp2
             go_ret
             exact ⟨by first | rfl | (simp [errW_none, errW_some] <;> rfl) | (simp [*, errW_none, errW_some] <;> rfl), by repeat (first | (with_reducible first | exact HB.out | apply below_alloc | apply pw_below_drewN | apply below_drew1) | exact HB.out)⟩
 ·replace c4 := Bool.eq_false_iff.mpr c4
  subst c4
  have H1 : (some false) = some r := by rw [if_neg (show ¬ (false = true) by decide)] at H; exact H
  clear H
  have H := H1
  clear H1
  obtain rfl := Option.some.inj H
  go_enter Tryd.func7, Tryd.ntmps7
  go_wp2_with (first | ((with_reducible refine gate_callee (f := 8) rfl ?_); refine goesL_ (some 11) rfl rfl Tryd.func8 (by kernel_rfl) rfl #[] rfl (by (try simp only [List.map_toArray, List.map_cons, List.map_nil]); first | done | rfl | (simp only [List.length_drop, List.length_take]; rfl)) ?_; (with_reducible refine (turnbucklelaw05_speaks.calls k  false _ ?side1 A3.out).mono ?_); (case side1 => first | exact hG_ | exact hG_.drewN _ | exact hG_.under HB.out | exact (hG_.under HB.out).drewN _ | exact hG_.under (below_of_drawn (by assumption))); rintro e w' ⟨rfl, ⟨nd, rfl⟩⟩; refine ⟨_, rfl, ?_⟩))
  go_ret
  exact ⟨by first | rfl | (simp [errW_none, errW_some] <;> rfl) | (simp [*, errW_none, errW_some] <;> rfl), by repeat (first | (with_reducible first | exact HB.out | apply below_alloc | apply pw_below_drewN | apply below_drew1) | exact HB.out)⟩

/-- THE ONE PURE STATEMENT of turnbucklelaw05_WordNames: yours. -/
def turnbucklelaw05_WordNames.Pure : Prop := ∀ (a0 : Int) (a1 : ByteArray), (Lit.int .i64 a0).wf = true → a1.size ≤ 140737488351232 → ∃ k, turnbucklelaw05_WordNames.f k a0 a1 = some true
theorem turnbucklelaw05_WordNames.walk (P : turnbucklelaw05_WordNames.Pure) (a0 : Int) (a1 : ByteArray) (w : World) (w0 : (Lit.int .i64 a0).wf = true) (w1 : a1.size ≤ 140737488351232) (hG_ : Go.Proofs.YtoolfgohbffgnaaDoorGlob.Is w) :
  Calls Tryd.prog 7 #[.int .i64 a0, .string a1] w fun e w' => e = .returned (.bool true) ∧ Below w.heap.size w w' := by
 obtain ⟨k, h⟩ := P a0 a1 w0 w1
 refine (turnbucklelaw05_WordNames.calls k a0 a1 true w hG_ h).mono ?_
 rintro e w' ⟨rfl, hd⟩
 exact ⟨rfl, hd⟩

end Go.Proofs.YtoolfgohbffgnaaDoor.PNn
