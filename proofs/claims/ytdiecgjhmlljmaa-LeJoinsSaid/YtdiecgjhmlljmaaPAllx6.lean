-- Written by a program of this session (a changed copy of the print of the kit). Not trusted: Lean checks it.
import Derived.Test.YtdiecgjhmlljmaaPAllx0
import Derived.Test.YtdiecgjhmlljmaaPAllx1
import Derived.Test.YtdiecgjhmlljmaaPAllx3
namespace Go.Proofs.Ytdiecgjhmlljmaa.PAll
open Go.RowKit Go.Proofs.YtdiecgjhmlljmaaW.PrintWords Go.Proofs.YtdiecgjhmlljmaaW.PrintLast Go.Proofs.YtdiecgjhmlljmaaW.PrintMore
attribute [local go_sem] max2_int min2_int max_two min_two max_three min_three max_four min_four   -- for this text's walks alone
set_option linter.unusedVariables false
set_option linter.unusedSimpArgs false

/-! ### turnbucklelaw01_LeJoins: function 5 -/
mutual
def turnbucklelaw01_LeJoins.j1 : Nat → List Int → Int → ByteArray → Option (Bool)
  | 0, _, _, _ => none
  | k + 1, x0, x1, x5 => turnbucklelaw01_LeJoins.l1 k x0 x1 x5 0
def turnbucklelaw01_LeJoins.l1 : Nat → List Int → Int → ByteArray → Int → Option (Bool)
  | 0, _, _, _, _ => none
  | k + 1, x0, x1, x5, x7 => if x7 < (x0.length : Int) then (turnbucklelaw01_LeJoins.j3 k x0 x1 x5 x7 (decide (x7 < 40))) else (turnbucklelaw01_LeJoins.j3 k x0 x1 x5 x7 false)
def turnbucklelaw01_LeJoins.j3 : Nat → List Int → Int → ByteArray → Int → Bool → Option (Bool)
  | 0, _, _, _, _, _ => none
  | k + 1, x0, x1, x5, x7, x44 => if x44 = true then ((le_At.f k x5 (IntKind.u64.wrap (wrap64 (x1 * x7))) x1).bind fun bt149 => ((le_Part.f x5 (IntKind.u64.wrap (wrap64 (x1 * x7))) (IntKind.u64.wrap (x1))).bind fun bt151 => (if bt149.2 = true then (if bt151.2 = true then (if 0 ≤ x7 then (if x7 < (x0.length : Int) then ((le_Put.f k (rd x0 x7) x1).bind fun t154 => (if bt151.1.toList = t154.toList then ((le_Get.f k bt151.1).bind fun t155 => (if bt149.1 = t155 then (turnbucklelaw01_LeJoins.l1 k x0 x1 x5 (wrap64 (x7 + 1))) else (some false))) else (some false))) else (none)) else (none)) else (some false)) else (some false)))) else ((le_At.f k x5 (IntKind.u64.wrap (wrap64 ((wrap64 ((x5.size : Int) - x1)) + 1))) x1).bind fun bt147 => (some (!bt147.2)))
def turnbucklelaw01_LeJoins.l0 : Nat → List Int → Int → ByteArray → Int → Option (Bool)
  | 0, _, _, _, _ => none
  | k + 1, x0, x1, x5, x6 => if x6 < (x0.length : Int) then (if x6 < 40 then (if 0 ≤ x6 then ((le_Put.f k (rd x0 x6) x1).bind fun t146 => (if x5.size + t146.size ≤ 9223372036854775807 then (turnbucklelaw01_LeJoins.l0 k x0 x1 (x5 ++ t146) (wrap64 (x6 + 1))) else (none))) else (none)) else (turnbucklelaw01_LeJoins.j1 k x0 x1 x5)) else (turnbucklelaw01_LeJoins.j1 k x0 x1 x5)
end
def turnbucklelaw01_LeJoins.f (k : Nat) (l0 : List Int) (a1 : Int) : Option (Bool) := (turnbucklelaw01_speaks.f k).bind fun t144 => (if t144 = true then (turnbucklelaw01_LeJoins.l0 k l0 (wrap64 (1 + (Go.bits .and .i64 a1 7))) (⟨#[]⟩ : ByteArray) 0) else (some false))
theorem turnbucklelaw01_LeJoins.mono_l : ∀ k, (∀ y0 y1 y2, LeO (turnbucklelaw01_LeJoins.j1 k y0 y1 y2) (turnbucklelaw01_LeJoins.j1 (k + 1) y0 y1 y2)) ∧ (∀ y0 y1 y2 y3, LeO (turnbucklelaw01_LeJoins.l1 k y0 y1 y2 y3) (turnbucklelaw01_LeJoins.l1 (k + 1) y0 y1 y2 y3)) ∧ (∀ y0 y1 y2 y3 y4, LeO (turnbucklelaw01_LeJoins.j3 k y0 y1 y2 y3 y4) (turnbucklelaw01_LeJoins.j3 (k + 1) y0 y1 y2 y3 y4)) ∧ (∀ y0 y1 y2 y3, LeO (turnbucklelaw01_LeJoins.l0 k y0 y1 y2 y3) (turnbucklelaw01_LeJoins.l0 (k + 1) y0 y1 y2 y3))
  | 0 => ⟨fun _ _ _ r h => by simp [turnbucklelaw01_LeJoins.j1] at h, fun _ _ _ _ r h => by simp [turnbucklelaw01_LeJoins.l1] at h, fun _ _ _ _ _ r h => by simp [turnbucklelaw01_LeJoins.j3] at h, fun _ _ _ _ r h => by simp [turnbucklelaw01_LeJoins.l0] at h⟩
  | k + 1 => by
    obtain ⟨ih0, ih1, ih2, ih3⟩ := turnbucklelaw01_LeJoins.mono_l k
    refine ⟨?_, ?_, ?_, ?_⟩
    · intro y0 y1 y2
      unfold turnbucklelaw01_LeJoins.j1
      repeat' first
      | (with_reducible exact ih0 _ _ _)
      | (with_reducible exact ih1 _ _ _ _)
      | (with_reducible exact ih2 _ _ _ _ _)
      | (with_reducible exact ih3 _ _ _ _)
      | (with_reducible exact le_At.mono _ _ _ _)
      | (with_reducible exact le_Get.mono _ _)
      | (with_reducible exact le_Put.mono _ _ _)
      | (with_reducible exact turnbucklelaw01_speaks.mono _)
      | (with_reducible exact LeO.refl _)
      | (with_reducible exact LeO.none _)
      | (with_reducible refine LeO.ite ?_ ?_)
      | (with_reducible refine LeO.bind ?_ (fun _ => ?_))
      | exact ih0 _ _ _
      | exact ih1 _ _ _ _
      | exact ih2 _ _ _ _ _
      | exact ih3 _ _ _ _
      | exact le_At.mono _ _ _ _
      | exact le_Get.mono _ _
      | exact le_Put.mono _ _ _
      | exact turnbucklelaw01_speaks.mono _
      | exact LeO.none _
      | refine LeO.ite ?_ ?_
      | refine LeO.bind ?_ (fun _ => ?_)
    · intro y0 y1 y2 y3
      unfold turnbucklelaw01_LeJoins.l1
      repeat' first
      | (with_reducible exact ih0 _ _ _)
      | (with_reducible exact ih1 _ _ _ _)
      | (with_reducible exact ih2 _ _ _ _ _)
      | (with_reducible exact ih3 _ _ _ _)
      | (with_reducible exact le_At.mono _ _ _ _)
      | (with_reducible exact le_Get.mono _ _)
      | (with_reducible exact le_Put.mono _ _ _)
      | (with_reducible exact turnbucklelaw01_speaks.mono _)
      | (with_reducible exact LeO.refl _)
      | (with_reducible exact LeO.none _)
      | (with_reducible refine LeO.ite ?_ ?_)
      | (with_reducible refine LeO.bind ?_ (fun _ => ?_))
      | exact ih0 _ _ _
      | exact ih1 _ _ _ _
      | exact ih2 _ _ _ _ _
      | exact ih3 _ _ _ _
      | exact le_At.mono _ _ _ _
      | exact le_Get.mono _ _
      | exact le_Put.mono _ _ _
      | exact turnbucklelaw01_speaks.mono _
      | exact LeO.none _
      | refine LeO.ite ?_ ?_
      | refine LeO.bind ?_ (fun _ => ?_)
    · intro y0 y1 y2 y3 y4
      unfold turnbucklelaw01_LeJoins.j3
      repeat' first
      | (with_reducible exact ih0 _ _ _)
      | (with_reducible exact ih1 _ _ _ _)
      | (with_reducible exact ih2 _ _ _ _ _)
      | (with_reducible exact ih3 _ _ _ _)
      | (with_reducible exact le_At.mono _ _ _ _)
      | (with_reducible exact le_Get.mono _ _)
      | (with_reducible exact le_Put.mono _ _ _)
      | (with_reducible exact turnbucklelaw01_speaks.mono _)
      | (with_reducible exact LeO.refl _)
      | (with_reducible exact LeO.none _)
      | (with_reducible refine LeO.ite ?_ ?_)
      | (with_reducible refine LeO.bind ?_ (fun _ => ?_))
      | exact ih0 _ _ _
      | exact ih1 _ _ _ _
      | exact ih2 _ _ _ _ _
      | exact ih3 _ _ _ _
      | exact le_At.mono _ _ _ _
      | exact le_Get.mono _ _
      | exact le_Put.mono _ _ _
      | exact turnbucklelaw01_speaks.mono _
      | exact LeO.none _
      | refine LeO.ite ?_ ?_
      | refine LeO.bind ?_ (fun _ => ?_)
    · intro y0 y1 y2 y3
      unfold turnbucklelaw01_LeJoins.l0
      repeat' first
      | (with_reducible exact ih0 _ _ _)
      | (with_reducible exact ih1 _ _ _ _)
      | (with_reducible exact ih2 _ _ _ _ _)
      | (with_reducible exact ih3 _ _ _ _)
      | (with_reducible exact le_At.mono _ _ _ _)
      | (with_reducible exact le_Get.mono _ _)
      | (with_reducible exact le_Put.mono _ _ _)
      | (with_reducible exact turnbucklelaw01_speaks.mono _)
      | (with_reducible exact LeO.refl _)
      | (with_reducible exact LeO.none _)
      | (with_reducible refine LeO.ite ?_ ?_)
      | (with_reducible refine LeO.bind ?_ (fun _ => ?_))
      | exact ih0 _ _ _
      | exact ih1 _ _ _ _
      | exact ih2 _ _ _ _ _
      | exact ih3 _ _ _ _
      | exact le_At.mono _ _ _ _
      | exact le_Get.mono _ _
      | exact le_Put.mono _ _ _
      | exact turnbucklelaw01_speaks.mono _
      | exact LeO.none _
      | refine LeO.ite ?_ ?_
      | refine LeO.bind ?_ (fun _ => ?_)
theorem turnbucklelaw01_LeJoins.mono : ∀ a0 a1 k, LeO (turnbucklelaw01_LeJoins.f k a0 a1) (turnbucklelaw01_LeJoins.f (k + 1) a0 a1) := by
  intro a0 a1 k
  obtain ⟨ih0, ih1, ih2, ih3⟩ := turnbucklelaw01_LeJoins.mono_l k
  unfold turnbucklelaw01_LeJoins.f
  repeat' first
      | (with_reducible exact ih0 _ _ _)
      | (with_reducible exact ih1 _ _ _ _)
      | (with_reducible exact ih2 _ _ _ _ _)
      | (with_reducible exact ih3 _ _ _ _)
      | (with_reducible exact le_At.mono _ _ _ _)
      | (with_reducible exact le_Get.mono _ _)
      | (with_reducible exact le_Put.mono _ _ _)
      | (with_reducible exact turnbucklelaw01_speaks.mono _)
      | (with_reducible exact LeO.refl _)
      | (with_reducible exact LeO.none _)
      | (with_reducible refine LeO.ite ?_ ?_)
      | (with_reducible refine LeO.bind ?_ (fun _ => ?_))
      | exact ih0 _ _ _
      | exact ih1 _ _ _ _
      | exact ih2 _ _ _ _ _
      | exact ih3 _ _ _ _
      | exact le_At.mono _ _ _ _
      | exact le_Get.mono _ _
      | exact le_Put.mono _ _ _
      | exact turnbucklelaw01_speaks.mono _
      | exact LeO.none _
      | refine LeO.ite ?_ ?_
      | refine LeO.bind ?_ (fun _ => ?_)
set_option maxHeartbeats 8000000 in
set_option maxRecDepth 100000 in
theorem turnbucklelaw01_LeJoins.calls (k : Nat) (A0 : Option Addr) (c0 : Nat) (l0 : List Int) (a1 : Int) (r : Bool) (w : World) (hr0 : Kd.C (Kd.int .u64) w A0 l0.length l0) (hc0 : l0.length ≤ c0) (h : turnbucklelaw01_LeJoins.f k l0 a1 = some r) :
    Calls Try.prog 5 #[.slice A0 l0.length c0, .int .i64 a1] w fun e w' => e = .returned (.bool r) ∧ Below w.heap.size w w' := by
  have HR0 := Aside0.mk hr0
  have HC0 := Aside0.mk hc0
  clear hr0 hc0
  have HB := Aside0.mk (Below.refl w.heap.size w)
  have H : ((turnbucklelaw01_speaks.f k).bind fun t144 => (if t144 = true then (turnbucklelaw01_LeJoins.l0 k l0 (wrap64 (1 + (Go.bits .and .i64 a1 7))) (⟨#[]⟩ : ByteArray) 0) else (some false))) = some r := h
  clear h
  replace H := Option.bind_eq_some_iff.mp H
  obtain ⟨t144, A30, H⟩ := H
  replace H : (if t144 = true then (turnbucklelaw01_LeJoins.l0 k l0 (wrap64 (1 + (Go.bits .and .i64 a1 7))) (⟨#[]⟩ : ByteArray) 0) else (some false)) = some r := H
  have A3 := Aside0.mk A30
  clear A30
  by_cases c4 : t144 = true
  · subst c4
    have H1 : (turnbucklelaw01_LeJoins.l0 k l0 (wrap64 (1 + (Go.bits .and .i64 a1 7))) (⟨#[]⟩ : ByteArray) 0) = some r := by rw [if_pos rfl] at H; exact H
    clear H
    have H := H1
    clear H1
    have HC5 := Aside0.mk H
    clear H
    go_enter Try.func5, Try.ntmps5
    go_upto_block 0 with (first | ((with_reducible refine gate_callee (f := 8) rfl ?_); refine goesL_ (some 14) rfl rfl Try.func8 (by kernel_rfl) rfl #[] rfl (by (try simp only [List.map_toArray, List.map_cons, List.map_nil]); first | done | rfl | (simp only [List.length_drop, List.length_take]; rfl)) ?_; (with_reducible refine (turnbucklelaw01_speaks.calls k  true _ A3.out).mono ?_); rintro e w6 ⟨rfl, hb⟩; refine ⟨_, rfl, ?_⟩; have n0_ := Aside0.mk (below_step (by repeat (first | (with_reducible first | exact HB.out | apply below_alloc | apply pw_below_drewN | apply below_drew1) | exact HB.out)) hb); clear HB; have HB := n0_; clear n0_; (try clear hb); (try clear hb2); (try clear hk); (try clear hi)))
    (try simp only [Act.put, List.setIfInBounds_toArray, List.set_cons_zero, List.set_cons_succ])
    go_cut [5] (fun v5 wc => ∃ (kq : Nat) (x5_4 : ByteArray), v5 = .string x5_4 ∧ Aside0 (turnbucklelaw01_LeJoins.j1 kq l0 (wrap64 (1 + (Go.bits .and .i64 a1 7))) x5_4 = some r) ∧ Aside0 (kq ≤ k) ∧ Aside0 (Below w.heap.size w wc))
    case first =>
      have H := HC5.out
      clear HC5
      have H' := Aside0.mk H
      clear H
      go_wp2
      go_loopg [5, 6] k (fun kq v5 v6 w' => ∃ (x5_1 : ByteArray) (x6_1 : Int), v5 = .string x5_1 ∧ v6 = .int .i64 x6_1 ∧ Aside0 (turnbucklelaw01_LeJoins.l0 kq l0 (wrap64 (1 + (Go.bits .and .i64 a1 7))) x5_1 x6_1 = some r) ∧ Aside0 (kq ≤ k) ∧ Aside0 (Below w.heap.size w w'))
      case atStart => exact ⟨((⟨#[]⟩ : ByteArray)), (0), (by first | rfl | (simp; done) | (simp [*]; done)), (by first | rfl | (simp; done) | (simp [*]; done)), H', ⟨Nat.le_refl _⟩, ⟨by repeat (first | (with_reducible first | exact HB.out | apply below_alloc | apply pw_below_drewN | apply below_drew1) | exact HB.out)⟩⟩
      case round =>
        clear H'
        try clear p2
        try clear c4
        try clear c5
        try clear p6
        obtain ⟨x5_1, x6_1, rfl, rfl, HA, HK1, HB⟩ := hrel
        cases gk with
        | zero => exact absurd HA.out (by simp [turnbucklelaw01_LeJoins.l0])
        | succ k1 =>
          have H := HA.out
          clear HA
          simp only [turnbucklelaw01_LeJoins.l0] at H
          by_cases c7 : x6_1 < (l0.length : Int)
          · rw [if_pos c7] at H
            have c7b0 : decide (x6_1 < (l0.length : Int)) = true := decide_eq_true c7
            clear c7
            (first | rw [c7b0] | (simp only [i64_w, i32_w]; rw [c7b0]) | skip)
            by_cases c8 : x6_1 < 40
            · rw [if_pos c8] at H
              have c8b0 : decide (x6_1 < 40) = true := decide_eq_true c8
              clear c8
              by_cases c9 : 0 ≤ x6_1
              · rw [if_pos c9] at H
                have c9b0 : decide (0 ≤ x6_1) = true := decide_eq_true c9
                clear c9
                replace H := Option.bind_eq_some_iff.mp H
                obtain ⟨t146, A100, H⟩ := H
                replace H : (if x5_1.size + t146.size ≤ 9223372036854775807 then (turnbucklelaw01_LeJoins.l0 k1 l0 (wrap64 (1 + (Go.bits .and .i64 a1 7))) (x5_1 ++ t146) (wrap64 (x6_1 + 1))) else (none)) = some r := H
                have A10 := Aside0.mk A100
                clear A100
                by_cases c11 : x5_1.size + t146.size ≤ 9223372036854775807
                · rw [if_pos c11] at H
                  have c11b0 := eq_true c11
                  have c11b1 : decide (x5_1.size + t146.size ≤ 9223372036854775807) = true := decide_eq_true c11
                  try have c11b2 : (9223372036854775807 < x5_1.size + t146.size) = False := eq_false (Nat.not_lt.2 c11)
                  have H' := Aside0.mk H
                  clear H
                  have p145 : 0 ≤ (x6_1 : Int) := of_decide_eq_true (by first | (with_reducible assumption) | assumption)
                  have q145 : x6_1 < (l0.length : Int) := of_decide_eq_true (by first | (with_reducible assumption) | assumption)
                  obtain ⟨ad145, e145, hx145_0⟩ := Kd.at_int HR0.out x6_1 p145 q145
                  cases e145
                  replace hx145_0 := (HB.out.cell (World.block_lt_of_cell? w _ hx145_0)).trans hx145_0
                  replace p145 := eq_true p145
                  replace q145 := eq_true q145
                  go_wp2_with (first | ((with_reducible refine gate_callee (f := 9) rfl ?_); refine goesL_ (some 35) rfl rfl Try.func9 (by kernel_rfl) rfl #[.int .u64 (rd l0 x6_1), .int .i64 (wrap64 (1 + (Go.bits .and .i64 a1 7)))] rfl (by (try simp only [List.map_toArray, List.map_cons, List.map_nil]); first | done | rfl | (simp only [List.length_drop, List.length_take]; rfl)) ?_; (with_reducible refine (le_Put.calls k1 (rd l0 x6_1) (wrap64 (1 + (Go.bits .and .i64 a1 7))) t146 _ A10.out).mono ?_); rintro e w12 ⟨rfl, hb⟩; refine ⟨_, rfl, ?_⟩; have n0_ := Aside0.mk (below_step (by repeat (first | (with_reducible first | exact HB.out | apply below_alloc | apply pw_below_drewN | apply below_drew1) | exact HB.out)) hb); clear HB; have HB := n0_; clear n0_; (try clear hb); (try clear hb2); (try clear hk); (try clear hi)))
                  go_roundg k1
                  case measure => have := HK1.out; omega
                  case rel => exact ⟨(x5_1 ++ t146), (wrap64 (x6_1 + 1)), (by first | rfl | (simp; done) | (simp [*]; done)), (by first | rfl | (simp; done) | (simp [*]; done)), H', ⟨by have := HK1.out; omega⟩, ⟨by repeat (first | (with_reducible first | exact HB.out | apply below_alloc | apply pw_below_drewN | apply below_drew1) | exact HB.out)⟩⟩
                · rw [if_neg c11] at H
                  exact absurd H (by simp)
              · rw [if_neg c9] at H
                exact absurd H (by simp)
            · rw [if_neg c8] at H
              have c8b0 : decide (x6_1 < 40) = false := decide_eq_false c8
              clear c8
              have H' := Aside0.mk H
              clear H
              go_wp2
              go_meet
              case rel => exact ⟨_, (x5_1), (by first | rfl | (simp; done) | (simp [*]; done)), H', ⟨by have := HK1.out; first | omega | exact Nat.le_refl _⟩, ⟨by repeat (first | (with_reducible first | exact HB.out | apply below_alloc | apply pw_below_drewN | apply below_drew1) | exact HB.out)⟩⟩
          · rw [if_neg c7] at H
            have c7b0 : decide (x6_1 < (l0.length : Int)) = false := decide_eq_false c7
            clear c7
            (first | rw [c7b0] | (simp only [i64_w, i32_w]; rw [c7b0]) | skip)
            have H' := Aside0.mk H
            clear H
            go_wp2
            go_meet
            case rel => exact ⟨_, (x5_1), (by first | rfl | (simp; done) | (simp [*]; done)), H', ⟨by have := HK1.out; first | omega | exact Nat.le_refl _⟩, ⟨by repeat (first | (with_reducible first | exact HB.out | apply below_alloc | apply pw_below_drewN | apply below_drew1) | exact HB.out)⟩⟩
    case rest =>
      clear HC5
      try clear c1
      try clear p1
      try clear q1
      try clear hx1
      try clear p2
      try clear c4
      try clear c5
      try clear p6
      try clear c7
      try clear c7b0
      try clear c8
      try clear c8b0
      try clear c9
      try clear c9b0
      try clear c11
      try clear c11b0
      try clear c11b1
      try clear c11b2
      try clear hx145_0
      try clear p145
      try clear p2
      try clear p6
      try clear q145
      obtain ⟨kq, x5_4, rfl, HA, HJ4, HB⟩ := hcut
      cases kq with
      | zero => exact absurd HA.out (by simp [turnbucklelaw01_LeJoins.j1])
      | succ kj4 =>
        have H := HA.out
        clear HA
        simp only [turnbucklelaw01_LeJoins.j1] at H
        have H' := Aside0.mk H
        clear H
        go_wp2
        go_loopg [7] kj4 (fun kq v7 w' => ∃ (x7_2 : Int), v7 = .int .i64 x7_2 ∧ Aside0 (turnbucklelaw01_LeJoins.l1 kq l0 (wrap64 (1 + (Go.bits .and .i64 a1 7))) x5_4 x7_2 = some r) ∧ Aside0 (kq ≤ kj4) ∧ Aside0 (Below w.heap.size w w'))
        case atStart => exact ⟨(0), (by first | rfl | (simp; done) | (simp [*]; done)), H', ⟨Nat.le_refl _⟩, ⟨by repeat (first | (with_reducible first | exact HB.out | apply below_alloc | apply pw_below_drewN | apply below_drew1) | exact HB.out)⟩⟩
        case round =>
          clear H'
          try clear c1
          try clear p1
          try clear q1
          try clear hx1
          try clear p2
          try clear c4
          try clear c5
          try clear p6
          try clear c7
          try clear c7b0
          try clear c8
          try clear c8b0
          try clear c9
          try clear c9b0
          try clear c11
          try clear c11b0
          try clear c11b1
          try clear c11b2
          try clear hx145_0
          try clear p1
          try clear p145
          try clear p2
          try clear p6
          try clear q1
          try clear q145
          obtain ⟨x7_2, rfl, HA, HK2, HB⟩ := hrel
          cases gk with
          | zero => exact absurd HA.out (by simp [turnbucklelaw01_LeJoins.l1])
          | succ k2 =>
            have H := HA.out
            clear HA
            simp only [turnbucklelaw01_LeJoins.l1] at H
            have HC13 := Aside0.mk H
            clear H
            go_upto_region 10 with (fail)
            go_cut [44] (fun v44 wc => ∃ (kq : Nat) (x44_12 : Bool), v44 = .bool x44_12 ∧ Aside0 (turnbucklelaw01_LeJoins.j3 kq l0 (wrap64 (1 + (Go.bits .and .i64 a1 7))) x5_4 x7_2 x44_12 = some r) ∧ Aside0 (kq ≤ k2) ∧ Aside0 (Below w.heap.size w wc))
            case first =>
              have H := HC13.out
              clear HC13
              by_cases c14 : x7_2 < (l0.length : Int)
              · rw [if_pos c14] at H
                have c14b0 : decide (x7_2 < (l0.length : Int)) = true := decide_eq_true c14
                clear c14
                (first | rw [c14b0] | (simp only [i64_w, i32_w]; rw [c14b0]) | skip)
                have H' := Aside0.mk H
                clear H
                go_wp2
                go_meet
                case rel => exact ⟨_, (decide (x7_2 < 40)), (by first | rfl | (simp; done) | (simp [*]; done)), H', ⟨by have := HJ4.out; have := HK2.out; first | omega | exact Nat.le_refl _⟩, ⟨by repeat (first | (with_reducible first | exact HB.out | apply below_alloc | apply pw_below_drewN | apply below_drew1) | exact HB.out)⟩⟩
              · rw [if_neg c14] at H
                have c14b0 : decide (x7_2 < (l0.length : Int)) = false := decide_eq_false c14
                clear c14
                (first | rw [c14b0] | (simp only [i64_w, i32_w]; rw [c14b0]) | skip)
                have H' := Aside0.mk H
                clear H
                go_wp2
                go_meet
                case rel => exact ⟨_, (false), (by first | rfl | (simp; done) | (simp [*]; done)), H', ⟨by have := HJ4.out; have := HK2.out; first | omega | exact Nat.le_refl _⟩, ⟨by repeat (first | (with_reducible first | exact HB.out | apply below_alloc | apply pw_below_drewN | apply below_drew1) | exact HB.out)⟩⟩
            case rest =>
              clear HC13
              try clear c1
              try clear p1
              try clear q1
              try clear hx1
              try clear p2
              try clear c4
              try clear c5
              try clear p6
              try clear c7
              try clear c7b0
              try clear c8
              try clear c8b0
              try clear c9
              try clear c9b0
              try clear c11
              try clear c11b0
              try clear c11b1
              try clear c11b2
              try clear c14
              try clear c14b0
              try clear p14
              try clear q14
              try clear hx14
              try clear hx145_0
              try clear p1
              try clear p145
              try clear p2
              try clear p6
              try clear q1
              try clear q145
              obtain ⟨kq, x44_12, rfl, HA, HJ12, HB⟩ := hcut
              cases kq with
              | zero => exact absurd HA.out (by simp [turnbucklelaw01_LeJoins.j3])
              | succ kj12 =>
                have H := HA.out
                clear HA
                simp only [turnbucklelaw01_LeJoins.j3] at H
                by_cases c15 : x44_12 = true
                · subst c15
                  have H1 : ((le_At.f kj12 x5_4 (IntKind.u64.wrap (wrap64 ((wrap64 (1 + (Go.bits .and .i64 a1 7))) * x7_2))) (wrap64 (1 + (Go.bits .and .i64 a1 7)))).bind fun bt149 => ((le_Part.f x5_4 (IntKind.u64.wrap (wrap64 ((wrap64 (1 + (Go.bits .and .i64 a1 7))) * x7_2))) (IntKind.u64.wrap ((wrap64 (1 + (Go.bits .and .i64 a1 7)))))).bind fun bt151 => (if bt149.2 = true then (if bt151.2 = true then (if 0 ≤ x7_2 then (if x7_2 < (l0.length : Int) then ((le_Put.f kj12 (rd l0 x7_2) (wrap64 (1 + (Go.bits .and .i64 a1 7)))).bind fun t154 => (if bt151.1.toList = t154.toList then ((le_Get.f kj12 bt151.1).bind fun t155 => (if bt149.1 = t155 then (turnbucklelaw01_LeJoins.l1 kj12 l0 (wrap64 (1 + (Go.bits .and .i64 a1 7))) x5_4 (wrap64 (x7_2 + 1))) else (some false))) else (some false))) else (none)) else (none)) else (some false)) else (some false)))) = some r := by rw [if_pos rfl] at H; exact H
                  clear H
                  have H := H1
                  clear H1
                  replace H := Option.bind_eq_some_iff.mp H
                  obtain ⟨⟨t149, t150⟩, A160, H⟩ := H
                  replace H : ((le_Part.f x5_4 (IntKind.u64.wrap (wrap64 ((wrap64 (1 + (Go.bits .and .i64 a1 7))) * x7_2))) (IntKind.u64.wrap ((wrap64 (1 + (Go.bits .and .i64 a1 7)))))).bind fun bt151 => (if t150 = true then (if bt151.2 = true then (if 0 ≤ x7_2 then (if x7_2 < (l0.length : Int) then ((le_Put.f kj12 (rd l0 x7_2) (wrap64 (1 + (Go.bits .and .i64 a1 7)))).bind fun t154 => (if bt151.1.toList = t154.toList then ((le_Get.f kj12 bt151.1).bind fun t155 => (if t149 = t155 then (turnbucklelaw01_LeJoins.l1 kj12 l0 (wrap64 (1 + (Go.bits .and .i64 a1 7))) x5_4 (wrap64 (x7_2 + 1))) else (some false))) else (some false))) else (none)) else (none)) else (some false)) else (some false))) = some r := H
                  have A16 := Aside0.mk A160
                  clear A160
                  replace H := Option.bind_eq_some_iff.mp H
                  obtain ⟨⟨t151, t152⟩, A170, H⟩ := H
                  replace H : (if t150 = true then (if t152 = true then (if 0 ≤ x7_2 then (if x7_2 < (l0.length : Int) then ((le_Put.f kj12 (rd l0 x7_2) (wrap64 (1 + (Go.bits .and .i64 a1 7)))).bind fun t154 => (if t151.toList = t154.toList then ((le_Get.f kj12 t151).bind fun t155 => (if t149 = t155 then (turnbucklelaw01_LeJoins.l1 kj12 l0 (wrap64 (1 + (Go.bits .and .i64 a1 7))) x5_4 (wrap64 (x7_2 + 1))) else (some false))) else (some false))) else (none)) else (none)) else (some false)) else (some false)) = some r := H
                  have A17 := Aside0.mk A170
                  clear A170
                  by_cases c18 : t150 = true
                  · subst c18
                    have H1 : (if t152 = true then (if 0 ≤ x7_2 then (if x7_2 < (l0.length : Int) then ((le_Put.f kj12 (rd l0 x7_2) (wrap64 (1 + (Go.bits .and .i64 a1 7)))).bind fun t154 => (if t151.toList = t154.toList then ((le_Get.f kj12 t151).bind fun t155 => (if t149 = t155 then (turnbucklelaw01_LeJoins.l1 kj12 l0 (wrap64 (1 + (Go.bits .and .i64 a1 7))) x5_4 (wrap64 (x7_2 + 1))) else (some false))) else (some false))) else (none)) else (none)) else (some false)) = some r := by rw [if_pos rfl] at H; exact H
                    clear H
                    have H := H1
                    clear H1
                    by_cases c19 : t152 = true
                    · subst c19
                      have H1 : (if 0 ≤ x7_2 then (if x7_2 < (l0.length : Int) then ((le_Put.f kj12 (rd l0 x7_2) (wrap64 (1 + (Go.bits .and .i64 a1 7)))).bind fun t154 => (if t151.toList = t154.toList then ((le_Get.f kj12 t151).bind fun t155 => (if t149 = t155 then (turnbucklelaw01_LeJoins.l1 kj12 l0 (wrap64 (1 + (Go.bits .and .i64 a1 7))) x5_4 (wrap64 (x7_2 + 1))) else (some false))) else (some false))) else (none)) else (none)) = some r := by rw [if_pos rfl] at H; exact H
                      clear H
                      have H := H1
                      clear H1
                      by_cases c20 : 0 ≤ x7_2
                      · rw [if_pos c20] at H
                        have c20b0 : decide (0 ≤ x7_2) = true := decide_eq_true c20
                        clear c20
                        by_cases c21 : x7_2 < (l0.length : Int)
                        · rw [if_pos c21] at H
                          have c21b0 : decide (x7_2 < (l0.length : Int)) = true := decide_eq_true c21
                          clear c21
                          replace H := Option.bind_eq_some_iff.mp H
                          obtain ⟨t154, A220, H⟩ := H
                          replace H : (if t151.toList = t154.toList then ((le_Get.f kj12 t151).bind fun t155 => (if t149 = t155 then (turnbucklelaw01_LeJoins.l1 kj12 l0 (wrap64 (1 + (Go.bits .and .i64 a1 7))) x5_4 (wrap64 (x7_2 + 1))) else (some false))) else (some false)) = some r := H
                          have A22 := Aside0.mk A220
                          clear A220
                          by_cases c23 : t151.toList = t154.toList
                          · rw [if_pos c23] at H
                            have c23b0 : (t151.toList == t154.toList) = true := beq_iff_eq.mpr c23
                            have c23b1 : (t151.toList != t154.toList) = false := bne_eq_false_iff_eq.mpr c23
                            clear c23
                            replace H := Option.bind_eq_some_iff.mp H
                            obtain ⟨t155, A240, H⟩ := H
                            replace H : (if t149 = t155 then (turnbucklelaw01_LeJoins.l1 kj12 l0 (wrap64 (1 + (Go.bits .and .i64 a1 7))) x5_4 (wrap64 (x7_2 + 1))) else (some false)) = some r := H
                            have A24 := Aside0.mk A240
                            clear A240
                            by_cases c25 : t149 = t155
                            · rw [if_pos c25] at H
                              have c25b0 : (t149 == t155) = true := beq_iff_eq.mpr c25
                              have c25b1 : (t149 != t155) = false := bne_eq_false_iff_eq.mpr c25
                              clear c25
                              have H' := Aside0.mk H
                              clear H
                              go_wp2_with (first | ((with_reducible refine gate_callee (f := 19) rfl ?_); refine goesL_ (some 54) rfl rfl Try.func19 (by kernel_rfl) rfl #[.string x5_4, .int .u64 (IntKind.u64.wrap (wrap64 ((wrap64 (1 + (Go.bits .and .i64 a1 7))) * x7_2))), .int .i64 (wrap64 (1 + (Go.bits .and .i64 a1 7)))] rfl (by (try simp only [List.map_toArray, List.map_cons, List.map_nil]); first | done | rfl | (simp only [List.length_drop, List.length_take]; rfl)) ?_; (with_reducible refine (le_At.calls kj12 x5_4 (IntKind.u64.wrap (wrap64 ((wrap64 (1 + (Go.bits .and .i64 a1 7))) * x7_2))) (wrap64 (1 + (Go.bits .and .i64 a1 7))) t149 true _ A16.out).mono ?_); rintro e w' ⟨rfl, ⟨nd, rfl⟩⟩; refine ⟨_, rfl, ?_⟩) | ((with_reducible refine gate_callee (f := 15) rfl ?_); refine goesL_ (some 65) rfl rfl Try.func15 (by kernel_rfl) rfl #[.string x5_4, .int .u64 (IntKind.u64.wrap (wrap64 ((wrap64 (1 + (Go.bits .and .i64 a1 7))) * x7_2))), .int .u64 (IntKind.u64.wrap ((wrap64 (1 + (Go.bits .and .i64 a1 7)))))] rfl (by (try simp only [List.map_toArray, List.map_cons, List.map_nil]); first | done | rfl | (simp only [List.length_drop, List.length_take]; rfl)) ?_; (with_reducible refine (le_Part.calls x5_4 (IntKind.u64.wrap (wrap64 ((wrap64 (1 + (Go.bits .and .i64 a1 7))) * x7_2))) (IntKind.u64.wrap ((wrap64 (1 + (Go.bits .and .i64 a1 7))))) t151 true _ A17.out).mono ?_); rintro e w' ⟨rfl, ⟨nd, rfl⟩⟩; refine ⟨_, rfl, ?_⟩; have p153 : 0 ≤ (x7_2 : Int) := of_decide_eq_true (by first | (with_reducible assumption) | assumption); have q153 : x7_2 < (l0.length : Int) := of_decide_eq_true (by first | (with_reducible assumption) | assumption); obtain ⟨ad153, e153, hx153_0⟩ := Kd.at_int HR0.out x7_2 p153 q153; cases e153; replace hx153_0 := (HB.out.cell (World.block_lt_of_cell? w _ hx153_0)).trans hx153_0; replace p153 := eq_true p153; replace q153 := eq_true q153) | (go_at_call 9; (with_reducible refine (le_Put.calls kj12 (rd l0 x7_2) (wrap64 (1 + (Go.bits .and .i64 a1 7))) t154 _ A22.out).mono ?_); rintro e w26 ⟨rfl, hb⟩; have n0_ := Aside0.mk (below_step (by repeat (first | (with_reducible first | exact HB.out | apply below_alloc | apply pw_below_drewN | apply below_drew1) | exact HB.out)) hb); clear HB; have HB := n0_; clear n0_; (try clear hb); (try clear hb2); (try clear hk); (try clear hi)) | (go_at_call 13; (with_reducible refine (le_Get.calls kj12 t151 t155 _ A24.out).mono ?_); rintro e w' ⟨rfl, ⟨nd, rfl⟩⟩))
                              go_roundg kj12
                              case measure => have := HJ4.out; have := HK2.out; have := HJ12.out; omega
                              case rel => exact ⟨(wrap64 (x7_2 + 1)), (by first | rfl | (simp; done) | (simp [*]; done)), H', ⟨by have := HJ4.out; have := HK2.out; have := HJ12.out; omega⟩, ⟨by repeat (first | (with_reducible first | exact HB.out | apply below_alloc | apply pw_below_drewN | apply below_drew1) | exact HB.out)⟩⟩
                            · rw [if_neg c25] at H
                              have c25b0 : (t149 == t155) = false := beq_eq_false_iff_ne.mpr c25
                              have c25b1 : (t149 != t155) = true := bne_iff_ne.mpr c25
                              obtain rfl := Option.some.inj H
                              go_wp2_with (first | ((with_reducible refine gate_callee (f := 19) rfl ?_); refine goesL_ (some 54) rfl rfl Try.func19 (by kernel_rfl) rfl #[.string x5_4, .int .u64 (IntKind.u64.wrap (wrap64 ((wrap64 (1 + (Go.bits .and .i64 a1 7))) * x7_2))), .int .i64 (wrap64 (1 + (Go.bits .and .i64 a1 7)))] rfl (by (try simp only [List.map_toArray, List.map_cons, List.map_nil]); first | done | rfl | (simp only [List.length_drop, List.length_take]; rfl)) ?_; (with_reducible refine (le_At.calls kj12 x5_4 (IntKind.u64.wrap (wrap64 ((wrap64 (1 + (Go.bits .and .i64 a1 7))) * x7_2))) (wrap64 (1 + (Go.bits .and .i64 a1 7))) t149 true _ A16.out).mono ?_); rintro e w' ⟨rfl, ⟨nd, rfl⟩⟩; refine ⟨_, rfl, ?_⟩) | ((with_reducible refine gate_callee (f := 15) rfl ?_); refine goesL_ (some 65) rfl rfl Try.func15 (by kernel_rfl) rfl #[.string x5_4, .int .u64 (IntKind.u64.wrap (wrap64 ((wrap64 (1 + (Go.bits .and .i64 a1 7))) * x7_2))), .int .u64 (IntKind.u64.wrap ((wrap64 (1 + (Go.bits .and .i64 a1 7)))))] rfl (by (try simp only [List.map_toArray, List.map_cons, List.map_nil]); first | done | rfl | (simp only [List.length_drop, List.length_take]; rfl)) ?_; (with_reducible refine (le_Part.calls x5_4 (IntKind.u64.wrap (wrap64 ((wrap64 (1 + (Go.bits .and .i64 a1 7))) * x7_2))) (IntKind.u64.wrap ((wrap64 (1 + (Go.bits .and .i64 a1 7))))) t151 true _ A17.out).mono ?_); rintro e w' ⟨rfl, ⟨nd, rfl⟩⟩; refine ⟨_, rfl, ?_⟩; have p153 : 0 ≤ (x7_2 : Int) := of_decide_eq_true (by first | (with_reducible assumption) | assumption); have q153 : x7_2 < (l0.length : Int) := of_decide_eq_true (by first | (with_reducible assumption) | assumption); obtain ⟨ad153, e153, hx153_0⟩ := Kd.at_int HR0.out x7_2 p153 q153; cases e153; replace hx153_0 := (HB.out.cell (World.block_lt_of_cell? w _ hx153_0)).trans hx153_0; replace p153 := eq_true p153; replace q153 := eq_true q153) | (go_at_call 9; (with_reducible refine (le_Put.calls kj12 (rd l0 x7_2) (wrap64 (1 + (Go.bits .and .i64 a1 7))) t154 _ A22.out).mono ?_); rintro e w27 ⟨rfl, hb⟩; have n0_ := Aside0.mk (below_step (by repeat (first | (with_reducible first | exact HB.out | apply below_alloc | apply pw_below_drewN | apply below_drew1) | exact HB.out)) hb); clear HB; have HB := n0_; clear n0_; (try clear hb); (try clear hb2); (try clear hk); (try clear hi)) | (go_at_call 13; (with_reducible refine (le_Get.calls kj12 t151 t155 _ A24.out).mono ?_); rintro e w' ⟨rfl, ⟨nd, rfl⟩⟩))
                              go_ret
                              exact ⟨by first | rfl | (simp [errW_none, errW_some] <;> rfl) | (simp [*, errW_none, errW_some] <;> rfl), by repeat (first | (with_reducible first | exact HB.out | apply below_alloc | apply pw_below_drewN | apply below_drew1) | exact HB.out)⟩
                          · rw [if_neg c23] at H
                            have c23b0 : (t151.toList == t154.toList) = false := beq_eq_false_iff_ne.mpr c23
                            have c23b1 : (t151.toList != t154.toList) = true := bne_iff_ne.mpr c23
                            obtain rfl := Option.some.inj H
                            go_wp2_with (first | ((with_reducible refine gate_callee (f := 19) rfl ?_); refine goesL_ (some 54) rfl rfl Try.func19 (by kernel_rfl) rfl #[.string x5_4, .int .u64 (IntKind.u64.wrap (wrap64 ((wrap64 (1 + (Go.bits .and .i64 a1 7))) * x7_2))), .int .i64 (wrap64 (1 + (Go.bits .and .i64 a1 7)))] rfl (by (try simp only [List.map_toArray, List.map_cons, List.map_nil]); first | done | rfl | (simp only [List.length_drop, List.length_take]; rfl)) ?_; (with_reducible refine (le_At.calls kj12 x5_4 (IntKind.u64.wrap (wrap64 ((wrap64 (1 + (Go.bits .and .i64 a1 7))) * x7_2))) (wrap64 (1 + (Go.bits .and .i64 a1 7))) t149 true _ A16.out).mono ?_); rintro e w' ⟨rfl, ⟨nd, rfl⟩⟩; refine ⟨_, rfl, ?_⟩) | ((with_reducible refine gate_callee (f := 15) rfl ?_); refine goesL_ (some 65) rfl rfl Try.func15 (by kernel_rfl) rfl #[.string x5_4, .int .u64 (IntKind.u64.wrap (wrap64 ((wrap64 (1 + (Go.bits .and .i64 a1 7))) * x7_2))), .int .u64 (IntKind.u64.wrap ((wrap64 (1 + (Go.bits .and .i64 a1 7)))))] rfl (by (try simp only [List.map_toArray, List.map_cons, List.map_nil]); first | done | rfl | (simp only [List.length_drop, List.length_take]; rfl)) ?_; (with_reducible refine (le_Part.calls x5_4 (IntKind.u64.wrap (wrap64 ((wrap64 (1 + (Go.bits .and .i64 a1 7))) * x7_2))) (IntKind.u64.wrap ((wrap64 (1 + (Go.bits .and .i64 a1 7))))) t151 true _ A17.out).mono ?_); rintro e w' ⟨rfl, ⟨nd, rfl⟩⟩; refine ⟨_, rfl, ?_⟩; have p153 : 0 ≤ (x7_2 : Int) := of_decide_eq_true (by first | (with_reducible assumption) | assumption); have q153 : x7_2 < (l0.length : Int) := of_decide_eq_true (by first | (with_reducible assumption) | assumption); obtain ⟨ad153, e153, hx153_0⟩ := Kd.at_int HR0.out x7_2 p153 q153; cases e153; replace hx153_0 := (HB.out.cell (World.block_lt_of_cell? w _ hx153_0)).trans hx153_0; replace p153 := eq_true p153; replace q153 := eq_true q153) | (go_at_call 9; (with_reducible refine (le_Put.calls kj12 (rd l0 x7_2) (wrap64 (1 + (Go.bits .and .i64 a1 7))) t154 _ A22.out).mono ?_); rintro e w28 ⟨rfl, hb⟩; have n0_ := Aside0.mk (below_step (by repeat (first | (with_reducible first | exact HB.out | apply below_alloc | apply pw_below_drewN | apply below_drew1) | exact HB.out)) hb); clear HB; have HB := n0_; clear n0_; (try clear hb); (try clear hb2); (try clear hk); (try clear hi)))
                            go_ret
                            exact ⟨by first | rfl | (simp [errW_none, errW_some] <;> rfl) | (simp [*, errW_none, errW_some] <;> rfl), by repeat (first | (with_reducible first | exact HB.out | apply below_alloc | apply pw_below_drewN | apply below_drew1) | exact HB.out)⟩
                        · rw [if_neg c21] at H
                          exact absurd H (by simp)
                      · rw [if_neg c20] at H
                        exact absurd H (by simp)
                    · replace c19 := Bool.eq_false_iff.mpr c19
                      subst c19
                      have H1 : (some false) = some r := by rw [if_neg (show ¬ (false = true) by decide)] at H; exact H
                      clear H
                      have H := H1
                      clear H1
                      obtain rfl := Option.some.inj H
                      go_wp2_with (first | ((with_reducible refine gate_callee (f := 19) rfl ?_); refine goesL_ (some 54) rfl rfl Try.func19 (by kernel_rfl) rfl #[.string x5_4, .int .u64 (IntKind.u64.wrap (wrap64 ((wrap64 (1 + (Go.bits .and .i64 a1 7))) * x7_2))), .int .i64 (wrap64 (1 + (Go.bits .and .i64 a1 7)))] rfl (by (try simp only [List.map_toArray, List.map_cons, List.map_nil]); first | done | rfl | (simp only [List.length_drop, List.length_take]; rfl)) ?_; (with_reducible refine (le_At.calls kj12 x5_4 (IntKind.u64.wrap (wrap64 ((wrap64 (1 + (Go.bits .and .i64 a1 7))) * x7_2))) (wrap64 (1 + (Go.bits .and .i64 a1 7))) t149 true _ A16.out).mono ?_); rintro e w' ⟨rfl, ⟨nd, rfl⟩⟩; refine ⟨_, rfl, ?_⟩) | ((with_reducible refine gate_callee (f := 15) rfl ?_); refine goesL_ (some 65) rfl rfl Try.func15 (by kernel_rfl) rfl #[.string x5_4, .int .u64 (IntKind.u64.wrap (wrap64 ((wrap64 (1 + (Go.bits .and .i64 a1 7))) * x7_2))), .int .u64 (IntKind.u64.wrap ((wrap64 (1 + (Go.bits .and .i64 a1 7)))))] rfl (by (try simp only [List.map_toArray, List.map_cons, List.map_nil]); first | done | rfl | (simp only [List.length_drop, List.length_take]; rfl)) ?_; (with_reducible refine (le_Part.calls x5_4 (IntKind.u64.wrap (wrap64 ((wrap64 (1 + (Go.bits .and .i64 a1 7))) * x7_2))) (IntKind.u64.wrap ((wrap64 (1 + (Go.bits .and .i64 a1 7))))) t151 false _ A17.out).mono ?_); rintro e w' ⟨rfl, ⟨nd, rfl⟩⟩; refine ⟨_, rfl, ?_⟩))
                      go_ret
                      exact ⟨by first | rfl | (simp [errW_none, errW_some] <;> rfl) | (simp [*, errW_none, errW_some] <;> rfl), by repeat (first | (with_reducible first | exact HB.out | apply below_alloc | apply pw_below_drewN | apply below_drew1) | exact HB.out)⟩
                  · replace c18 := Bool.eq_false_iff.mpr c18
                    subst c18
                    have H1 : (some false) = some r := by rw [if_neg (show ¬ (false = true) by decide)] at H; exact H
                    clear H
                    have H := H1
                    clear H1
                    obtain rfl := Option.some.inj H
                    go_wp2_with (first | ((with_reducible refine gate_callee (f := 19) rfl ?_); refine goesL_ (some 54) rfl rfl Try.func19 (by kernel_rfl) rfl #[.string x5_4, .int .u64 (IntKind.u64.wrap (wrap64 ((wrap64 (1 + (Go.bits .and .i64 a1 7))) * x7_2))), .int .i64 (wrap64 (1 + (Go.bits .and .i64 a1 7)))] rfl (by (try simp only [List.map_toArray, List.map_cons, List.map_nil]); first | done | rfl | (simp only [List.length_drop, List.length_take]; rfl)) ?_; (with_reducible refine (le_At.calls kj12 x5_4 (IntKind.u64.wrap (wrap64 ((wrap64 (1 + (Go.bits .and .i64 a1 7))) * x7_2))) (wrap64 (1 + (Go.bits .and .i64 a1 7))) t149 false _ A16.out).mono ?_); rintro e w' ⟨rfl, ⟨nd, rfl⟩⟩; refine ⟨_, rfl, ?_⟩) | ((with_reducible refine gate_callee (f := 15) rfl ?_); refine goesL_ (some 65) rfl rfl Try.func15 (by kernel_rfl) rfl #[.string x5_4, .int .u64 (IntKind.u64.wrap (wrap64 ((wrap64 (1 + (Go.bits .and .i64 a1 7))) * x7_2))), .int .u64 (IntKind.u64.wrap ((wrap64 (1 + (Go.bits .and .i64 a1 7)))))] rfl (by (try simp only [List.map_toArray, List.map_cons, List.map_nil]); first | done | rfl | (simp only [List.length_drop, List.length_take]; rfl)) ?_; (with_reducible refine (le_Part.calls x5_4 (IntKind.u64.wrap (wrap64 ((wrap64 (1 + (Go.bits .and .i64 a1 7))) * x7_2))) (IntKind.u64.wrap ((wrap64 (1 + (Go.bits .and .i64 a1 7))))) t151 t152 _ A17.out).mono ?_); rintro e w' ⟨rfl, ⟨nd, rfl⟩⟩; refine ⟨_, rfl, ?_⟩))
                    go_ret
                    exact ⟨by first | rfl | (simp [errW_none, errW_some] <;> rfl) | (simp [*, errW_none, errW_some] <;> rfl), by repeat (first | (with_reducible first | exact HB.out | apply below_alloc | apply pw_below_drewN | apply below_drew1) | exact HB.out)⟩
                · replace c15 := Bool.eq_false_iff.mpr c15
                  subst c15
                  have H1 : ((le_At.f kj12 x5_4 (IntKind.u64.wrap (wrap64 ((wrap64 ((x5_4.size : Int) - (wrap64 (1 + (Go.bits .and .i64 a1 7))))) + 1))) (wrap64 (1 + (Go.bits .and .i64 a1 7)))).bind fun bt147 => (some (!bt147.2))) = some r := by rw [if_neg (show ¬ (false = true) by decide)] at H; exact H
                  clear H
                  have H := H1
                  clear H1
                  replace H := Option.bind_eq_some_iff.mp H
                  obtain ⟨⟨t147, t148⟩, A290, H⟩ := H
                  replace H : (some (!t148)) = some r := H
                  have A29 := Aside0.mk A290
                  clear A290
                  obtain rfl := Option.some.inj H
                  go_wp2_with (first | ((with_reducible refine gate_callee (f := 19) rfl ?_); refine goesL_ (some 99) rfl rfl Try.func19 (by kernel_rfl) rfl #[.string x5_4, .int .u64 (IntKind.u64.wrap (wrap64 ((wrap64 ((x5_4.size : Int) - (wrap64 (1 + (Go.bits .and .i64 a1 7))))) + 1))), .int .i64 (wrap64 (1 + (Go.bits .and .i64 a1 7)))] rfl (by (try simp only [List.map_toArray, List.map_cons, List.map_nil]); first | done | rfl | (simp only [List.length_drop, List.length_take]; rfl)) ?_; (with_reducible refine (le_At.calls kj12 x5_4 (IntKind.u64.wrap (wrap64 ((wrap64 ((x5_4.size : Int) - (wrap64 (1 + (Go.bits .and .i64 a1 7))))) + 1))) (wrap64 (1 + (Go.bits .and .i64 a1 7))) t147 t148 _ A29.out).mono ?_); rintro e w' ⟨rfl, ⟨nd, rfl⟩⟩; refine ⟨_, rfl, ?_⟩))
                  go_ret
                  exact ⟨by first | rfl | (simp [errW_none, errW_some] <;> rfl) | (simp [*, errW_none, errW_some] <;> rfl), by repeat (first | (with_reducible first | exact HB.out | apply below_alloc | apply pw_below_drewN | apply below_drew1) | exact HB.out)⟩
  · replace c4 := Bool.eq_false_iff.mpr c4
    subst c4
    have H1 : (some false) = some r := by rw [if_neg (show ¬ (false = true) by decide)] at H; exact H
    clear H
    have H := H1
    clear H1
    obtain rfl := Option.some.inj H
    go_enter Try.func5, Try.ntmps5
    go_wp2_with (first | ((with_reducible refine gate_callee (f := 8) rfl ?_); refine goesL_ (some 14) rfl rfl Try.func8 (by kernel_rfl) rfl #[] rfl (by (try simp only [List.map_toArray, List.map_cons, List.map_nil]); first | done | rfl | (simp only [List.length_drop, List.length_take]; rfl)) ?_; (with_reducible refine (turnbucklelaw01_speaks.calls k  false _ A3.out).mono ?_); rintro e w30 ⟨rfl, hb⟩; refine ⟨_, rfl, ?_⟩; have n0_ := Aside0.mk (below_step (by repeat (first | (with_reducible first | exact HB.out | apply below_alloc | apply pw_below_drewN | apply below_drew1) | exact HB.out)) hb); clear HB; have HB := n0_; clear n0_; (try clear hb); (try clear hb2); (try clear hk); (try clear hi)))
    go_ret
    exact ⟨by first | rfl | (simp [errW_none, errW_some] <;> rfl) | (simp [*, errW_none, errW_some] <;> rfl), by repeat (first | (with_reducible first | exact HB.out | apply below_alloc | apply pw_below_drewN | apply below_drew1) | exact HB.out)⟩

/-- THE ONE PURE STATEMENT of turnbucklelaw01_LeJoins: yours. -/
def turnbucklelaw01_LeJoins.Pure : Prop := ∀ (l0 : List Int) (a1 : Int), l0.length ≤ maxLen → l0.length * 8 ≤ 140737488351232 → (∀ x ∈ l0, (Lit.int .u64 x).wf = true) → (Lit.int .i64 a1).wf = true → ∃ k, turnbucklelaw01_LeJoins.f k l0 a1 = some true
theorem turnbucklelaw01_LeJoins.walk (P : turnbucklelaw01_LeJoins.Pure) (a0 : Option Addr) (len0 cap0 : Nat) (z0 : List Int) (a1 : Int) (w : World) (w0 : (a0 = none ∧ len0 = 0 ∧ cap0 = 0 ∧ z0 = []) ∨ ∃ x, a0 = some x ∧ len0 ≤ cap0 ∧ cap0 ≤ maxLen ∧ z0.length = cap0 ∧ (∀ i, i < z0.length → w.cell? (x.add i) = some (.int .u64 (z0.getD i 0))) ∧ ∀ n ∈ z0, (Lit.int .u64 n).wf = true) (y0 : len0 * 8 ≤ 140737488351232) (w1 : (Lit.int .i64 a1).wf = true) :
    Calls Try.prog 5 #[.slice a0 len0 cap0, .int .i64 a1] w fun e w' => e = .returned (.bool true) ∧ Below w.heap.size w w' := by
  obtain ⟨l0, rfl, hr0, hm0, hw0, hc0⟩ := ReadsInt.ofRowC w0
  obtain ⟨k, h⟩ := P l0 a1 hm0 y0 hw0 w1
  refine (turnbucklelaw01_LeJoins.calls k _ _ l0 a1 true w (Kd.C_of_reads (d := (0 : Int)) (h1 := fun _ => rfl) hr0) hc0 h).mono ?_
  rintro e w' ⟨rfl, hd⟩
  exact ⟨rfl, hd⟩

end Go.Proofs.Ytdiecgjhmlljmaa.PAll
