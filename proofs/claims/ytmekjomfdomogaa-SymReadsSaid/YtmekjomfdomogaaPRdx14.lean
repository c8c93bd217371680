-- Written by a program of this session (a changed copy of the print of the kit). Not trusted: Lean checks it.
import Derived.Test.YtmekjomfdomogaaPRdx0
import Derived.Test.YtmekjomfdomogaaPRdx10
import Derived.Test.YtmekjomfdomogaaPRdx11
import Derived.Test.YtmekjomfdomogaaPRdx12
import Derived.Test.YtmekjomfdomogaaPRdx13
namespace Go.Proofs.Ytmekjomfdomogaa.PRd
open Go.RowKit Go.Proofs.YtmekjomfdomogaaW.PrintWords Go.Proofs.YtmekjomfdomogaaW.PrintLast Go.Proofs.YtmekjomfdomogaaW.PrintMore
attribute [local go_sem] max2_int min2_int max_two min_two max_three min_three max_four min_four   -- for this text's walks alone
set_option linter.unusedVariables false
set_option linter.unusedSimpArgs false

/-! ### turnbucklelaw11_SymReads: function 5 -/
mutual
def turnbucklelaw11_SymReads.j0 : Nat → ByteArray → ByteArray → Option (Bool)
 | 0, _, _ => none
 | k + 1, x0, x1 => (sym_Read.f k x0 x1).bind fun bt149 => ((turnbuckleref11_Read.f k x0 x1).bind fun bt156 => (if bt149.2.1 = bt156.2.1 then (if bt149.2.2.1 = bt156.2.2 then (turnbucklelaw11_SymReads.j1 k bt149.1 bt156.1 ((bt149.1.length : Int) != (bt156.1.length : Int))) else (turnbucklelaw11_SymReads.j1 k bt149.1 bt156.1 true)) else (turnbucklelaw11_SymReads.j1 k bt149.1 bt156.1 true)))
def turnbucklelaw11_SymReads.j1 : Nat → List (S28) → List (S31) → Bool → Option (Bool)
 | 0, _, _, _ => none
 | k + 1, x7, x9, x59 => if x59 = true then (some false) else (turnbucklelaw11_SymReads.l0 k x7 x9 0)
def turnbucklelaw11_SymReads.l0 : Nat → List (S28) → List (S31) → Int → Option (Bool)
 | 0, _, _, _ => none
 | k + 1, x7, x9, x12 => if x12 < (x9.length : Int) then (if 0 ≤ x12 then (if x12 < (x7.length : Int) then ((turnbucklelaw11_same.f ((rd_T28 x7 x12).f0) ((rd_T28 x7 x12).f1) ((rd_T28 x7 x12).f2) ((rd_T28 x7 x12).f3) ((rd_T28 x7 x12).f4) ((rd_T28 x7 x12).f5) ((rd_T28 x7 x12).f6) ((rd_T31 x9 x12).f0) ((rd_T31 x9 x12).f1) ((rd_T31 x9 x12).f2) ((rd_T31 x9 x12).f3) ((rd_T31 x9 x12).f4) ((rd_T31 x9 x12).f5) ((rd_T31 x9 x12).f6)).bind fun t163 => (if t163 = true then ((sym_Symbol_Exported.f ((rd_T28 x7 x12).f0) ((rd_T28 x7 x12).f1) ((rd_T28 x7 x12).f2) ((rd_T28 x7 x12).f3) ((rd_T28 x7 x12).f4) ((rd_T28 x7 x12).f5) ((rd_T28 x7 x12).f6)).bind fun t166 => (if (rd_T31 x9 x12).f4 = true then (if ((rd_T31 x9 x12).f1) > 0 then (if ((rd_T31 x9 x12).f3) = 0 then (if (t166 != true) = true then (some false) else ((sym_Symbol_Own.f ((rd_T28 x7 x12).f0) ((rd_T28 x7 x12).f1) ((rd_T28 x7 x12).f2) ((rd_T28 x7 x12).f3) ((rd_T28 x7 x12).f4) ((rd_T28 x7 x12).f5) ((rd_T28 x7 x12).f6)).bind fun t170 => (if ((rd_T31 x9 x12).f1) = 0 then (if (t170 != true) = true then (some false) else (turnbucklelaw11_SymReads.l0 k x7 x9 (wrap64 (x12 + 1)))) else (if (t170 != (decide (((rd_T31 x9 x12).f3) > 0))) = true then (some false) else (turnbucklelaw11_SymReads.l0 k x7 x9 (wrap64 (x12 + 1))))))) else (if (t166 != (((rd_T31 x9 x12).f3) == 3)) = true then (some false) else ((sym_Symbol_Own.f ((rd_T28 x7 x12).f0) ((rd_T28 x7 x12).f1) ((rd_T28 x7 x12).f2) ((rd_T28 x7 x12).f3) ((rd_T28 x7 x12).f4) ((rd_T28 x7 x12).f5) ((rd_T28 x7 x12).f6)).bind fun t175 => (if ((rd_T31 x9 x12).f1) = 0 then (if (t175 != true) = true then (some false) else (turnbucklelaw11_SymReads.l0 k x7 x9 (wrap64 (x12 + 1)))) else (if (t175 != (decide (((rd_T31 x9 x12).f3) > 0))) = true then (some false) else (turnbucklelaw11_SymReads.l0 k x7 x9 (wrap64 (x12 + 1)))))))) else (if (t166 != false) = true then (some false) else ((sym_Symbol_Own.f ((rd_T28 x7 x12).f0) ((rd_T28 x7 x12).f1) ((rd_T28 x7 x12).f2) ((rd_T28 x7 x12).f3) ((rd_T28 x7 x12).f4) ((rd_T28 x7 x12).f5) ((rd_T28 x7 x12).f6)).bind fun t179 => (if ((rd_T31 x9 x12).f1) = 0 then (if (t179 != true) = true then (some false) else (turnbucklelaw11_SymReads.l0 k x7 x9 (wrap64 (x12 + 1)))) else (if (t179 != (decide (((rd_T31 x9 x12).f3) > 0))) = true then (some false) else (turnbucklelaw11_SymReads.l0 k x7 x9 (wrap64 (x12 + 1)))))))) else (if (t166 != false) = true then (some false) else ((sym_Symbol_Own.f ((rd_T28 x7 x12).f0) ((rd_T28 x7 x12).f1) ((rd_T28 x7 x12).f2) ((rd_T28 x7 x12).f3) ((rd_T28 x7 x12).f4) ((rd_T28 x7 x12).f5) ((rd_T28 x7 x12).f6)).bind fun t183 => (if (t183 != false) = true then (some false) else (turnbucklelaw11_SymReads.l0 k x7 x9 (wrap64 (x12 + 1)))))))) else (some false))) else (none)) else (none)) else (some true)
end
def turnbucklelaw11_SymReads.f (k : Nat) (a0 : ByteArray) (a1 : ByteArray) (a2 : Int) : Option (Bool) := (turnbucklelaw11_speaks.f k).bind fun t148 => (if t148 = true then (if 0 ≤ (mn (a0.size : Int) 7000) then (if (mn (a0.size : Int) 7000) ≤ (a0.size : Int) then (if (Go.bits .and .i64 a2 3) > 0 then (if 0 ≤ (wrap64 ((wrap64 (((a0.extract 0 ((mn (a0.size : Int) 7000) : Int).toNat).size : Int) / 24)) * 24)) then (if (wrap64 ((wrap64 (((a0.extract 0 ((mn (a0.size : Int) 7000) : Int).toNat).size : Int) / 24)) * 24)) ≤ ((a0.extract 0 ((mn (a0.size : Int) 7000) : Int).toNat).size : Int) then (turnbucklelaw11_SymReads.j0 k ((a0.extract 0 ((mn (a0.size : Int) 7000) : Int).toNat).extract 0 ((wrap64 ((wrap64 (((a0.extract 0 ((mn (a0.size : Int) 7000) : Int).toNat).size : Int) / 24)) * 24)) : Int).toNat) a1) else (none)) else (none)) else (turnbucklelaw11_SymReads.j0 k (a0.extract 0 ((mn (a0.size : Int) 7000) : Int).toNat) a1)) else (none)) else (none)) else (some false))
theorem turnbucklelaw11_SymReads.mono_l : ∀ k, (∀ y0 y1, LeO (turnbucklelaw11_SymReads.j0 k y0 y1) (turnbucklelaw11_SymReads.j0 (k + 1) y0 y1)) ∧ (∀ y0 y1 y2, LeO (turnbucklelaw11_SymReads.j1 k y0 y1 y2) (turnbucklelaw11_SymReads.j1 (k + 1) y0 y1 y2)) ∧ (∀ y0 y1 y2, LeO (turnbucklelaw11_SymReads.l0 k y0 y1 y2) (turnbucklelaw11_SymReads.l0 (k + 1) y0 y1 y2))
 | 0 => ⟨fun _ _ r h => by simp [turnbucklelaw11_SymReads.j0] at h, fun _ _ _ r h => by simp [turnbucklelaw11_SymReads.j1] at h, fun _ _ _ r h => by simp [turnbucklelaw11_SymReads.l0] at h⟩
 | k + 1 => by
  obtain ⟨ih0, ih1, ih2⟩ := turnbucklelaw11_SymReads.mono_l k
  refine ⟨?_, ?_, ?_⟩
  ·intro y0 y1
   unfold turnbucklelaw11_SymReads.j0
   repeat' first
   | (with_reducible exact ih0 _ _)
   | (with_reducible exact ih1 _ _ _)
   | (with_reducible exact ih2 _ _ _)
   | (with_reducible exact sym_Read.mono _ _ _)
   | (with_reducible exact turnbucklelaw11_speaks.mono _)
   | (with_reducible exact turnbuckleref11_Read.mono _ _ _)
   | (with_reducible exact LeO.refl _)
   | (with_reducible exact LeO.none _)
   | (with_reducible refine LeO.ite ?_ ?_)
   | (with_reducible refine LeO.bind ?_ (fun _ => ?_))
   | exact ih0 _ _
   | exact ih1 _ _ _
   | exact ih2 _ _ _
   | exact sym_Read.mono _ _ _
   | exact turnbucklelaw11_speaks.mono _
   | exact turnbuckleref11_Read.mono _ _ _
   | exact LeO.none _
   | refine LeO.ite ?_ ?_
   | refine LeO.bind ?_ (fun _ => ?_)
  ·intro y0 y1 y2
   unfold turnbucklelaw11_SymReads.j1
   repeat' first
   | (with_reducible exact ih0 _ _)
   | (with_reducible exact ih1 _ _ _)
   | (with_reducible exact ih2 _ _ _)
   | (with_reducible exact sym_Read.mono _ _ _)
   | (with_reducible exact turnbucklelaw11_speaks.mono _)
   | (with_reducible exact turnbuckleref11_Read.mono _ _ _)
   | (with_reducible exact LeO.refl _)
   | (with_reducible exact LeO.none _)
   | (with_reducible refine LeO.ite ?_ ?_)
   | (with_reducible refine LeO.bind ?_ (fun _ => ?_))
   | exact ih0 _ _
   | exact ih1 _ _ _
   | exact ih2 _ _ _
   | exact sym_Read.mono _ _ _
   | exact turnbucklelaw11_speaks.mono _
   | exact turnbuckleref11_Read.mono _ _ _
   | exact LeO.none _
   | refine LeO.ite ?_ ?_
   | refine LeO.bind ?_ (fun _ => ?_)
  ·intro y0 y1 y2
   unfold turnbucklelaw11_SymReads.l0
   repeat' first
   | (with_reducible exact ih0 _ _)
   | (with_reducible exact ih1 _ _ _)
   | (with_reducible exact ih2 _ _ _)
   | (with_reducible exact sym_Read.mono _ _ _)
   | (with_reducible exact turnbucklelaw11_speaks.mono _)
   | (with_reducible exact turnbuckleref11_Read.mono _ _ _)
   | (with_reducible exact LeO.refl _)
   | (with_reducible exact LeO.none _)
   | (with_reducible refine LeO.ite ?_ ?_)
   | (with_reducible refine LeO.bind ?_ (fun _ => ?_))
   | exact ih0 _ _
   | exact ih1 _ _ _
   | exact ih2 _ _ _
   | exact sym_Read.mono _ _ _
   | exact turnbucklelaw11_speaks.mono _
   | exact turnbuckleref11_Read.mono _ _ _
   | exact LeO.none _
   | refine LeO.ite ?_ ?_
   | refine LeO.bind ?_ (fun _ => ?_)
theorem turnbucklelaw11_SymReads.mono : ∀ a0 a1 a2 k, LeO (turnbucklelaw11_SymReads.f k a0 a1 a2) (turnbucklelaw11_SymReads.f (k + 1) a0 a1 a2) := by
 intro a0 a1 a2 k
 obtain ⟨ih0, ih1, ih2⟩ := turnbucklelaw11_SymReads.mono_l k
 unfold turnbucklelaw11_SymReads.f
 repeat' first
   | (with_reducible exact ih0 _ _)
   | (with_reducible exact ih1 _ _ _)
   | (with_reducible exact ih2 _ _ _)
   | (with_reducible exact sym_Read.mono _ _ _)
   | (with_reducible exact turnbucklelaw11_speaks.mono _)
   | (with_reducible exact turnbuckleref11_Read.mono _ _ _)
   | (with_reducible exact LeO.refl _)
   | (with_reducible exact LeO.none _)
   | (with_reducible refine LeO.ite ?_ ?_)
   | (with_reducible refine LeO.bind ?_ (fun _ => ?_))
   | exact ih0 _ _
   | exact ih1 _ _ _
   | exact ih2 _ _ _
   | exact sym_Read.mono _ _ _
   | exact turnbucklelaw11_speaks.mono _
   | exact turnbuckleref11_Read.mono _ _ _
   | exact LeO.none _
   | refine LeO.ite ?_ ?_
   | refine LeO.bind ?_ (fun _ => ?_)
def turnbucklelaw11_SymReads.T13 : Bool × List (List Nat × List Nat) := (true, [([], []), ([], []), ([0, 1], [0, 1]), ([2], [2]), ([], []), ([], []), ([4, 5], [4, 5]), ([6], [6]), ([3, 7], [3, 7]), ([8], [8])])
def turnbucklelaw11_SymReads.B13 : List Nat := [0, 0, 3, 7, 0, 0, 48, 112, 255, 511]
theorem turnbucklelaw11_SymReads.tab13 : rtab .any (opsOf Try.f5 13) = turnbucklelaw11_SymReads.T13 := by kernel_rfl
theorem turnbucklelaw11_SymReads.bits13 : waitsOk turnbucklelaw11_SymReads.T13.2 turnbucklelaw11_SymReads.B13 = true := by kernel_rfl
set_option maxHeartbeats 8000000 in
set_option maxRecDepth 100000 in
theorem turnbucklelaw11_SymReads.calls (k : Nat) (a0 : ByteArray) (a1 : ByteArray) (a2 : Int) (r : Bool) (w : World) (h : turnbucklelaw11_SymReads.f k a0 a1 a2 = some r) :
  Calls Try.prog 5 #[.string a0, .string a1, .int .i64 a2] w fun e w' => e = .returned (.bool r) ∧ Below w.heap.size w w' := by
 have hu35 := Try.underlying35
 have hu28 := Try.underlying28
 have hu31 := Try.underlying31
 have HB := Aside0.mk (Below.refl w.heap.size w)
 have H : ((turnbucklelaw11_speaks.f k).bind fun t148 => (if t148 = true then (if 0 ≤ (mn (a0.size : Int) 7000) then (if (mn (a0.size : Int) 7000) ≤ (a0.size : Int) then (if (Go.bits .and .i64 a2 3) > 0 then (if 0 ≤ (wrap64 ((wrap64 (((a0.extract 0 ((mn (a0.size : Int) 7000) : Int).toNat).size : Int) / 24)) * 24)) then (if (wrap64 ((wrap64 (((a0.extract 0 ((mn (a0.size : Int) 7000) : Int).toNat).size : Int) / 24)) * 24)) ≤ ((a0.extract 0 ((mn (a0.size : Int) 7000) : Int).toNat).size : Int) then (turnbucklelaw11_SymReads.j0 k ((a0.extract 0 ((mn (a0.size : Int) 7000) : Int).toNat).extract 0 ((wrap64 ((wrap64 (((a0.extract 0 ((mn (a0.size : Int) 7000) : Int).toNat).size : Int) / 24)) * 24)) : Int).toNat) a1) else (none)) else (none)) else (turnbucklelaw11_SymReads.j0 k (a0.extract 0 ((mn (a0.size : Int) 7000) : Int).toNat) a1)) else (none)) else (none)) else (some false))) = some r := h
 clear h
 replace H := Option.bind_eq_some_iff.mp H
 obtain ⟨t148, A40, H⟩ := H
 replace H : (if t148 = true then (if 0 ≤ (mn (a0.size : Int) 7000) then (if (mn (a0.size : Int) 7000) ≤ (a0.size : Int) then (if (Go.bits .and .i64 a2 3) > 0 then (if 0 ≤ (wrap64 ((wrap64 (((a0.extract 0 ((mn (a0.size : Int) 7000) : Int).toNat).size : Int) / 24)) * 24)) then (if (wrap64 ((wrap64 (((a0.extract 0 ((mn (a0.size : Int) 7000) : Int).toNat).size : Int) / 24)) * 24)) ≤ ((a0.extract 0 ((mn (a0.size : Int) 7000) : Int).toNat).size : Int) then (turnbucklelaw11_SymReads.j0 k ((a0.extract 0 ((mn (a0.size : Int) 7000) : Int).toNat).extract 0 ((wrap64 ((wrap64 (((a0.extract 0 ((mn (a0.size : Int) 7000) : Int).toNat).size : Int) / 24)) * 24)) : Int).toNat) a1) else (none)) else (none)) else (turnbucklelaw11_SymReads.j0 k (a0.extract 0 ((mn (a0.size : Int) 7000) : Int).toNat) a1)) else (none)) else (none)) else (some false)) = some r := H
 have A4 := Aside0.mk A40
 clear A40
 by_cases c5 : t148 = true
 ·subst c5
  have H1 : (if 0 ≤ (mn (a0.size : Int) 7000) then (if (mn (a0.size : Int) 7000) ≤ (a0.size : Int) then (if (Go.bits .and .i64 a2 3) > 0 then (if 0 ≤ (wrap64 ((wrap64 (((a0.extract 0 ((mn (a0.size : Int) 7000) : Int).toNat).size : Int) / 24)) * 24)) then (if (wrap64 ((wrap64 (((a0.extract 0 ((mn (a0.size : Int) 7000) : Int).toNat).size : Int) / 24)) * 24)) ≤ ((a0.extract 0 ((mn (a0.size : Int) 7000) : Int).toNat).size : Int) then (turnbucklelaw11_SymReads.j0 k ((a0.extract 0 ((mn (a0.size : Int) 7000) : Int).toNat).extract 0 ((wrap64 ((wrap64 (((a0.extract 0 ((mn (a0.size : Int) 7000) : Int).toNat).size : Int) / 24)) * 24)) : Int).toNat) a1) else (none)) else (none)) else (turnbucklelaw11_SymReads.j0 k (a0.extract 0 ((mn (a0.size : Int) 7000) : Int).toNat) a1)) else (none)) else (none)) = some r := by rw [if_pos rfl] at H; exact H
  clear H
  have H := H1
  clear H1
  obtain ⟨ji6, hji6⟩ : ∃ j_ : Int, (mn (a0.size : Int) 7000) = j_ := ⟨_, rfl⟩
  replace H : (if 0 ≤ (ji6) then (if (ji6) ≤ (a0.size : Int) then (if (Go.bits .and .i64 a2 3) > 0 then (if 0 ≤ (wrap64 ((wrap64 (((a0.extract 0 ((ji6) : Int).toNat).size : Int) / 24)) * 24)) then (if (wrap64 ((wrap64 (((a0.extract 0 ((ji6) : Int).toNat).size : Int) / 24)) * 24)) ≤ ((a0.extract 0 ((ji6) : Int).toNat).size : Int) then (turnbucklelaw11_SymReads.j0 k ((a0.extract 0 ((ji6) : Int).toNat).extract 0 ((wrap64 ((wrap64 (((a0.extract 0 ((ji6) : Int).toNat).size : Int) / 24)) * 24)) : Int).toNat) a1) else (none)) else (none)) else (turnbucklelaw11_SymReads.j0 k (a0.extract 0 ((ji6) : Int).toNat) a1)) else (none)) else (none)) = some r := by first | (rw [hji6] at H; exact H) | (simp only [hji6] at H ⊢; exact H)
  (try rw [hji6] at A4)
  (try (have hji6h : ji6 ≤ 7000 := by (rw [← hji6]; unfold mn; (repeat' split) <;> omega)))
  (try (have hji6g : ji6 ≤ 64 := by omega))
  (try (have hji6l : 0 ≤ ji6 := by (rw [← hji6]; unfold mn; (repeat' split) <;> omega)))
  (try (have hji6m : 0 ≤ ji6 := by omega))
  have hji6_ : (if 7000 < (a0.size : Int) then 7000 else (a0.size : Int)) = ji6 := hji6
  by_cases c7 : 0 ≤ (ji6)
  ·rw [if_pos c7] at H
   have c7b0 := eq_true c7
   have c7b1 : decide (0 ≤ (ji6)) = true := decide_eq_true c7
   clear c7
   by_cases c8 : (ji6) ≤ (a0.size : Int)
   ·rw [if_pos c8] at H
    have c8b0 := eq_true c8
    have c8b1 : decide ((ji6) ≤ (a0.size : Int)) = true := decide_eq_true c8
    clear c8
    have HC9 := Aside0.mk H
    clear H
    go_enter Try.func5, Try.ntmps5
    go_upto_if 23 with (first | ((with_reducible refine gate_callee (f := 7) rfl ?_); refine goesL_ (some 14) rfl rfl Try.func7 (by kernel_rfl) rfl #[] rfl (by (try simp only [List.map_toArray, List.map_cons, List.map_nil]); first | done | rfl | (simp only [List.length_drop, List.length_take]; rfl)) ?_; (with_reducible refine (turnbucklelaw11_speaks.calls k  true _ A4.out).mono ?_); rintro e w10 ⟨rfl, hb⟩; refine ⟨_, rfl, ?_⟩; have n0_ := Aside0.mk (below_step (by repeat (first | (with_reducible first | exact HB.out | apply below_alloc | apply pw_below_drewN | apply below_drew1) | exact HB.out)) hb); clear HB; have HB := n0_; clear n0_; (try clear hb); (try clear hb2); (try clear hk); (try clear hi)))
    (try simp only [Act.put, List.setIfInBounds_toArray, List.set_cons_zero, List.set_cons_succ])
    go_cut [0] (fun v0 wc => ∃ (kq : Nat) (x0_8 : ByteArray), v0 = .string x0_8 ∧ Aside0 (turnbucklelaw11_SymReads.j0 kq x0_8 a1 = some r) ∧ Aside0 (kq ≤ k) ∧ Aside0 (Below w.heap.size w wc))
    case first =>
     have H := HC9.out
     clear HC9
     by_cases c11 : (Go.bits .and .i64 a2 3) > 0
     ·rw [if_pos c11] at H
      have c11b0 : decide (0 < (Go.bits .and .i64 a2 3)) = true := decide_eq_true c11
      clear c11
      (first | rw [c11b0] | (simp only [i64_w, i32_w]; rw [c11b0]) | skip)
      obtain ⟨ji12, hji12⟩ : ∃ j_ : Int, (wrap64 ((wrap64 (((a0.extract 0 ((ji6) : Int).toNat).size : Int) / 24)) * 24)) = j_ := ⟨_, rfl⟩
      replace H : (if 0 ≤ (ji12) then (if (ji12) ≤ ((a0.extract 0 ((ji6) : Int).toNat).size : Int) then (turnbucklelaw11_SymReads.j0 k ((a0.extract 0 ((ji6) : Int).toNat).extract 0 ((ji12) : Int).toNat) a1) else (none)) else (none)) = some r := by first | (rw [hji12] at H; exact H) | (simp only [hji12] at H ⊢; exact H)
      have hji12w : (IntKind.i64.wrap ((wrap64 (((a0.extract 0 ((ji6) : Int).toNat).size : Int) / 24)) * 24)) = ji12 := (i64_w _).trans hji12
      have hz_ : ((a0.extract 0 ji6.toNat).size : Int) = ji6 := by (rw [ByteArray.size_extract]; have h_ := of_decide_eq_true c8b1; omega)
      have hq_ : max ji6 0 / 24 * 24 = ji12 := by (rw [← hji12, hz_]; unfold wrap64; omega)
      by_cases c13 : 0 ≤ (ji12)
      ·rw [if_pos c13] at H
       have c13b0 := eq_true c13
       have c13b1 : decide (0 ≤ (ji12)) = true := decide_eq_true c13
       clear c13
       by_cases c14 : (ji12) ≤ ((a0.extract 0 ((ji6) : Int).toNat).size : Int)
       ·rw [if_pos c14] at H
        have c14b0 := eq_true c14
        have c14b1 : decide ((ji12) ≤ ((a0.extract 0 ((ji6) : Int).toNat).size : Int)) = true := decide_eq_true c14
        (try (have c14e9 := c14; simp [go_sem] at c14e9))
        clear c14
        have H' := Aside0.mk H
        clear H
        go_wp2
        (try subst hji11)
        (try subst hji13)
        (try subst hji10)
        (try subst hji4)
        (try subst hji16)
        (try subst hji22)
        (try subst hji27)
        (try subst hji32)
        go_meet
        case rel => exact ⟨_, ((a0.extract 0 ((ji6) : Int).toNat).extract 0 ((ji12) : Int).toNat), (by first | rfl | (rw [hq_]) | (simp; done) | (simp only [← hji6, ← hji12] <;> (first | rfl | simp)) | (simp [*]; done)), H', ⟨by first | omega | exact Nat.le_refl _⟩, ⟨by repeat (first | (with_reducible first | exact HB.out | apply below_alloc | apply pw_below_drewN | apply below_drew1) | exact HB.out)⟩⟩
       ·rw [if_neg c14] at H
        exact absurd H (by simp)
      ·rw [if_neg c13] at H
       exact absurd H (by simp)
     ·rw [if_neg c11] at H
      have c11b0 : decide (0 < (Go.bits .and .i64 a2 3)) = false := decide_eq_false c11
      clear c11
      (first | rw [c11b0] | (simp only [i64_w, i32_w]; rw [c11b0]) | skip)
      have H' := Aside0.mk H
      clear H
      go_wp2
      (try subst hji11)
      (try subst hji13)
      (try subst hji10)
      (try subst hji4)
      (try subst hji12)
      (try subst hji16)
      (try subst hji22)
      (try subst hji27)
      (try subst hji32)
      (try subst hji12)
      go_meet
      case rel => exact ⟨_, (a0.extract 0 ((ji6) : Int).toNat), (by first | rfl | (simp; done) | (simp only [← hji6] <;> (first | rfl | simp)) | (simp [*]; done)), H', ⟨by first | omega | exact Nat.le_refl _⟩, ⟨by repeat (first | (with_reducible first | exact HB.out | apply below_alloc | apply pw_below_drewN | apply below_drew1) | exact HB.out)⟩⟩
    case rest =>
     clear HC9
     try clear c1
     try clear p2
     try clear c5
     try clear p6
     try clear c7
     try clear c7b0
     try clear c7b1
     try clear c8
     try clear c8b0
     try clear c8b1
     try clear c11
     try clear c11b0
     try clear c13
     try clear c13b0
     try clear c13b1
     try clear c14
     try clear c14b0
     try clear c14b1
     obtain ⟨kq, x0_8, rfl, HA, HJ8, HB⟩ := hcut
     cases kq with
     | zero => exact absurd HA.out (by simp [turnbucklelaw11_SymReads.j0])
     | succ kj8 =>
      have H := HA.out
      clear HA
      simp only [turnbucklelaw11_SymReads.j0] at H
      replace H := Option.bind_eq_some_iff.mp H
      obtain ⟨⟨t149, t152, t153, t154⟩, A150, H⟩ := H
      replace H : ((turnbuckleref11_Read.f kj8 x0_8 a1).bind fun bt156 => (if t152 = bt156.2.1 then (if t153 = bt156.2.2 then (turnbucklelaw11_SymReads.j1 kj8 t149 bt156.1 ((t149.length : Int) != (bt156.1.length : Int))) else (turnbucklelaw11_SymReads.j1 kj8 t149 bt156.1 true)) else (turnbucklelaw11_SymReads.j1 kj8 t149 bt156.1 true))) = some r := H
      have A15 := Aside0.mk A150
      clear A150
      replace H := Option.bind_eq_some_iff.mp H
      obtain ⟨⟨t156, t157, t158⟩, A160, H⟩ := H
      replace H : (if t152 = t157 then (if t153 = t158 then (turnbucklelaw11_SymReads.j1 kj8 t149 t156 ((t149.length : Int) != (t156.length : Int))) else (turnbucklelaw11_SymReads.j1 kj8 t149 t156 true)) else (turnbucklelaw11_SymReads.j1 kj8 t149 t156 true)) = some r := H
      have A16 := Aside0.mk A160
      clear A160
      have HC17 := Aside0.mk H
      clear H
      go_upto_region 8 with (first | ((with_reducible refine gate_callee (f := 10) rfl ?_); refine goesL_ (some 33) rfl rfl Try.func10 (by kernel_rfl) rfl #[.string x0_8, .string a1] rfl (by (try simp only [List.map_toArray, List.map_cons, List.map_nil]); first | done | rfl | (simp only [List.length_drop, List.length_take]; rfl)) ?_; (with_reducible refine (sym_Read.calls kj8 x0_8 a1 t149 t152 t153 t154 _ A15.out).mono ?_); rintro e w18 ⟨v150, rfl, ho0, hb⟩; refine ⟨_, rfl, ?_⟩; have n0_ := Aside0.mk (Kd.R_lower ho0 (below_size (by repeat (first | (with_reducible first | exact HB.out | apply below_alloc | apply pw_below_drewN | apply below_drew1) | exact HB.out)))); have n1_ := Aside0.mk (below_step (by repeat (first | (with_reducible first | exact HB.out | apply below_alloc | apply pw_below_drewN | apply below_drew1) | exact HB.out)) hb); clear HB; have HO151 := n0_; have HB := n1_; clear n0_ n1_; (try clear hb); (try clear hb2); (try clear hk); (try clear hi); (try clear ho0)) | ((with_reducible refine gate_dst (N := 8) rfl ?_); (try (refine gate_guard (by rfl) ?_; dsimp only)); refine box_event ?hg (N := 8) ?hd (cs := #[.int .i64 0, .int .u64 0, .string (⟨#[]⟩ : ByteArray)]) (t := 35) ?hr ?_; (case hd => rfl); (case hg => rfl); (case hr => first | (go_simp; done) | (go_simp; rfl)); intro gb155 hg w19 hbox hb; have n0_ := Aside0.mk (Kd.R_below (by (with_reducible repeat (first | apply Kd.R_alloc | apply Kd.R_drewN | apply Kd.R_drew)); exact HO151.out) hb); have n1_ := Aside0.mk (below_step (by repeat (first | (with_reducible first | exact HB.out | apply below_alloc | apply pw_below_drewN | apply below_drew1) | exact HB.out)) hb); have n2_ := Aside0.mk (hbox); have n3_ := Aside0.mk ((by rw [hg]; exact (below_size (by repeat (first | (with_reducible first | exact HB.out | apply below_alloc | apply pw_below_drewN | apply below_drew1) | exact HB.out))) : w.heap.size ≤ gb155)); have n4_ := Aside0.mk ((by rw [hg]; exact (below_size (by repeat (first | (with_reducible first | exact HB.out | apply below_alloc | apply pw_below_drewN | apply below_drew1) | exact HB.out))) : w.heap.size ≤ gb155)); clear HO151; clear HB; have HO151 := n0_; have HB := n1_; have BK155 := n2_; have GW155 := n3_; have GE155 := n4_; clear n0_ n1_ n2_ n3_ n4_; clear hb hbox hg; have hcz20_0 : w19.cell? ⟨gb155, 0, none⟩ = some (.int .i64 0) := (blk_cell BK155.out 0).trans rfl; have hcz20_1 : w19.cell? ⟨gb155, 1, none⟩ = some (.int .u64 0) := (blk_cell BK155.out 1).trans rfl; have hcz20_2 : w19.cell? ⟨gb155, 2, none⟩ = some (.string (⟨#[]⟩ : ByteArray)) := (blk_cell BK155.out 2).trans rfl; have hfz20_0 := blk_frozen BK155.out 0; have hfz20_1 := blk_frozen BK155.out 1; have hfz20_2 := blk_frozen BK155.out 2) | ((with_reducible refine gate_callee (f := 12) rfl ?_); refine goesL_ (some 39) rfl rfl Try.func12 (by kernel_rfl) rfl #[.string x0_8, .string a1] rfl (by (try simp only [List.map_toArray, List.map_cons, List.map_nil]); first | done | rfl | (simp only [List.length_drop, List.length_take]; rfl)) ?_; (with_reducible refine (turnbuckleref11_Read.calls kj8 x0_8 a1 t156 t157 t158 _ A16.out).mono ?_); rintro e w21 ⟨v159, rfl, ho0, hb⟩; refine ⟨_, rfl, ?_⟩; have n0_ := Aside0.mk (Kd.R_below (by (with_reducible repeat (first | apply Kd.R_alloc | apply Kd.R_drewN | apply Kd.R_drew)); exact (Kd.R_mono (Kd.R_far (p := ⟨gb155, 2, none⟩) (Kd.R_far (p := ⟨gb155, 1, none⟩) (Kd.R_far (p := ⟨gb155, 0, none⟩) (Kd.R_types HO151.out BK155.out (by decide)) (fun _ hk => hk.2) (.int .i64 t152)) (fun _ hk => hk.2) (.int .u64 t153)) (fun _ hk => hk.2) (.string t154)) (fun _ h_ => h_.1))) hb); have n1_ := Aside0.mk (Kd.R_lower ho0 (below_size (by repeat (first | (with_reducible first | exact HB.out | apply below_alloc | apply pw_below_drewN | apply below_drew1 | refine below_set ?_ GE155.out) | exact HB.out)))); have n2_ := Aside0.mk (blk_below (g := gb155) (o := .cells #[.int .i64 t152, .int .u64 t153, .string t154] 35 (0, 0)) (by (with_reducible repeat (first | refine blk_drewN ?_ _ | refine blk_drew ?_ | refine blk_alloc ?_ _)); refine blk_put (cs := #[.int .i64 t152, .int .u64 t153, .string (⟨#[]⟩ : ByteArray)]) ?_ 2 _ rfl; (with_reducible repeat (first | refine blk_drewN ?_ _ | refine blk_drew ?_ | refine blk_alloc ?_ _)); refine blk_put (cs := #[.int .i64 t152, .int .u64 0, .string (⟨#[]⟩ : ByteArray)]) ?_ 1 _ rfl; (with_reducible repeat (first | refine blk_drewN ?_ _ | refine blk_drew ?_ | refine blk_alloc ?_ _)); refine blk_put (cs := #[.int .i64 0, .int .u64 0, .string (⟨#[]⟩ : ByteArray)]) ?_ 0 _ rfl; (with_reducible repeat (first | refine blk_drewN ?_ _ | refine blk_drew ?_ | refine blk_alloc ?_ _)); exact BK155.out) hb); have n3_ := Aside0.mk (below_step (by repeat (first | (with_reducible first | exact HB.out | apply below_alloc | apply pw_below_drewN | apply below_drew1 | refine below_set ?_ GE155.out) | exact HB.out)) hb); clear HO151; clear BK155; clear HB; have HO151 := n0_; have HO160 := n1_; have BK155 := n2_; have HB := n3_; clear n0_ n1_ n2_ n3_; (try clear hb); (try clear hb2); (try clear hk); (try clear hi); (try clear ho0)))
      (try simp only [Act.put, List.setIfInBounds_toArray, List.set_cons_zero, List.set_cons_succ])
      go_cut [59] (fun v59 wc => ∃ (kq : Nat) (x59_16 : Bool), v59 = .bool x59_16 ∧ Aside0 (turnbucklelaw11_SymReads.j1 kq t149 t156 x59_16 = some r) ∧ Aside0 (kq ≤ kj8) ∧ Aside0 (Kd.R k28 28 wc w.heap.size (fun _ => True) v150 t149) ∧ Aside0 (Kd.R k31 31 wc w.heap.size (fun _ => True) v159 t156) ∧ Aside0 (wc.heap[gb155]? = some (.cells #[.int .i64 t152, .int .u64 t153, .string t154] 35 (0, 0))) ∧ Aside0 (Below w.heap.size w wc))
      case first =>
       have H := HC17.out
       clear HC17
       by_cases c22 : t152 = t157
       ·rw [if_pos c22] at H
        have c22b0 : (t152 == t157) = true := beq_iff_eq.mpr c22
        have c22b1 : (t152 != t157) = false := bne_eq_false_iff_eq.mpr c22
        clear c22
        (first | rw [c22b0] | (simp only [i64_w, i32_w]; rw [c22b0]) | skip)
        by_cases c23 : t153 = t158
        ·rw [if_pos c23] at H
         have c23b0 : (t153 == t158) = true := beq_iff_eq.mpr c23
         have c23b1 : (t153 != t158) = false := bne_eq_false_iff_eq.mpr c23
         clear c23
         have H' := Aside0.mk H
         clear H
         have hcz24_0 : w21.cell? ⟨gb155, 0, none⟩ = some (.int .i64 t152) := (blk_cell BK155.out 0).trans rfl
         have hcz24_1 : w21.cell? ⟨gb155, 1, none⟩ = some (.int .u64 t153) := (blk_cell BK155.out 1).trans rfl
         have hcz24_2 : w21.cell? ⟨gb155, 2, none⟩ = some (.string t154) := (blk_cell BK155.out 2).trans rfl
         have hfz24_0 := blk_frozen BK155.out 0
         have hfz24_1 := blk_frozen BK155.out 1
         have hfz24_2 := blk_frozen BK155.out 2
         obtain ⟨Ao25, co25, eo25⟩ := Kd.R_slice HO151.out
         subst eo25
         obtain ⟨Ao26, co26, eo26⟩ := Kd.R_slice HO160.out
         subst eo26
         go_wp2
         (try subst hji11)
         (try subst hji13)
         (try subst hji10)
         (try subst hji4)
         (try subst hji12)
         (try subst hji16)
         (try subst hji22)
         (try subst hji27)
         (try subst hji32)
         (try subst hji6)
         (try subst hji12)
         go_meet
         case rel => exact ⟨_, (((t149.length : Int) != (t156.length : Int))), (by first | rfl | (simp; done) | (simp [*]; done)), H', ⟨by have := HJ8.out; first | omega | exact Nat.le_refl _⟩, ⟨by (with_reducible repeat (first | apply Kd.R_alloc | apply Kd.R_drewN | apply Kd.R_drew)); exact HO151.out⟩, ⟨by (with_reducible repeat (first | apply Kd.R_alloc | apply Kd.R_drewN | apply Kd.R_drew)); exact HO160.out⟩, ⟨by (with_reducible repeat (first | refine blk_drewN ?_ _ | refine blk_drew ?_ | refine blk_alloc ?_ _)); exact BK155.out⟩, ⟨by repeat (first | (with_reducible first | exact HB.out | apply below_alloc | apply pw_below_drewN | apply below_drew1 | refine below_set ?_ GE155.out) | exact HB.out)⟩⟩
        ·rw [if_neg c23] at H
         have c23b0 : (t153 == t158) = false := beq_eq_false_iff_ne.mpr c23
         have c23b1 : (t153 != t158) = true := bne_iff_ne.mpr c23
         have H' := Aside0.mk H
         clear H
         have hcz27_0 : w21.cell? ⟨gb155, 0, none⟩ = some (.int .i64 t152) := (blk_cell BK155.out 0).trans rfl
         have hcz27_1 : w21.cell? ⟨gb155, 1, none⟩ = some (.int .u64 t153) := (blk_cell BK155.out 1).trans rfl
         have hcz27_2 : w21.cell? ⟨gb155, 2, none⟩ = some (.string t154) := (blk_cell BK155.out 2).trans rfl
         have hfz27_0 := blk_frozen BK155.out 0
         have hfz27_1 := blk_frozen BK155.out 1
         have hfz27_2 := blk_frozen BK155.out 2
         go_wp2
         (try subst hji11)
         (try subst hji13)
         (try subst hji10)
         (try subst hji4)
         (try subst hji12)
         (try subst hji16)
         (try subst hji22)
         (try subst hji27)
         (try subst hji32)
         (try subst hji6)
         (try subst hji12)
         go_meet
         case rel => exact ⟨_, (true), (by first | rfl | (simp; done) | (simp [*]; done)), H', ⟨by have := HJ8.out; first | omega | exact Nat.le_refl _⟩, ⟨by (with_reducible repeat (first | apply Kd.R_alloc | apply Kd.R_drewN | apply Kd.R_drew)); exact HO151.out⟩, ⟨by (with_reducible repeat (first | apply Kd.R_alloc | apply Kd.R_drewN | apply Kd.R_drew)); exact HO160.out⟩, ⟨by (with_reducible repeat (first | refine blk_drewN ?_ _ | refine blk_drew ?_ | refine blk_alloc ?_ _)); exact BK155.out⟩, ⟨by repeat (first | (with_reducible first | exact HB.out | apply below_alloc | apply pw_below_drewN | apply below_drew1 | refine below_set ?_ GE155.out) | exact HB.out)⟩⟩
       ·rw [if_neg c22] at H
        have c22b0 : (t152 == t157) = false := beq_eq_false_iff_ne.mpr c22
        have c22b1 : (t152 != t157) = true := bne_iff_ne.mpr c22
        (first | rw [c22b0] | (simp only [i64_w, i32_w]; rw [c22b0]) | skip)
        have H' := Aside0.mk H
        clear H
        have hcz28_0 : w21.cell? ⟨gb155, 0, none⟩ = some (.int .i64 t152) := (blk_cell BK155.out 0).trans rfl
        have hcz28_1 : w21.cell? ⟨gb155, 1, none⟩ = some (.int .u64 t153) := (blk_cell BK155.out 1).trans rfl
        have hcz28_2 : w21.cell? ⟨gb155, 2, none⟩ = some (.string t154) := (blk_cell BK155.out 2).trans rfl
        have hfz28_0 := blk_frozen BK155.out 0
        have hfz28_1 := blk_frozen BK155.out 1
        have hfz28_2 := blk_frozen BK155.out 2
        go_wp2
        (try subst hji11)
        (try subst hji13)
        (try subst hji10)
        (try subst hji4)
        (try subst hji12)
        (try subst hji16)
        (try subst hji22)
        (try subst hji27)
        (try subst hji32)
        (try subst hji6)
        (try subst hji12)
        go_meet
        case rel => exact ⟨_, (true), (by first | rfl | (simp; done) | (simp [*]; done)), H', ⟨by have := HJ8.out; first | omega | exact Nat.le_refl _⟩, ⟨by (with_reducible repeat (first | apply Kd.R_alloc | apply Kd.R_drewN | apply Kd.R_drew)); exact HO151.out⟩, ⟨by (with_reducible repeat (first | apply Kd.R_alloc | apply Kd.R_drewN | apply Kd.R_drew)); exact HO160.out⟩, ⟨by (with_reducible repeat (first | refine blk_drewN ?_ _ | refine blk_drew ?_ | refine blk_alloc ?_ _)); exact BK155.out⟩, ⟨by repeat (first | (with_reducible first | exact HB.out | apply below_alloc | apply pw_below_drewN | apply below_drew1 | refine below_set ?_ GE155.out) | exact HB.out)⟩⟩
      case rest =>
       clear HC17
       try clear c1
       try clear c2
       try clear p2
       try clear c5
       try clear p6
       try clear c7
       try clear c7b0
       try clear c7b1
       try clear c8
       try clear c8b0
       try clear c8b1
       try clear c10
       try clear c11
       try clear c11b0
       try clear c12
       try clear c13
       try clear c13b0
       try clear c13b1
       try clear c14
       try clear c14b0
       try clear c14b1
       try clear c22
       try clear c22b0
       try clear c22b1
       try clear c23
       try clear c23b0
       try clear c23b1
       try clear hcz20_0
       try clear hcz20_1
       try clear hcz20_2
       try clear hcz24_0
       try clear hcz24_1
       try clear hcz24_2
       try clear hcz27_0
       try clear hcz27_1
       try clear hcz27_2
       try clear hcz28_0
       try clear hcz28_1
       try clear hcz28_2
       try clear hfz20_0
       try clear hfz20_1
       try clear hfz20_2
       try clear hfz24_0
       try clear hfz24_1
       try clear hfz24_2
       try clear hfz27_0
       try clear hfz27_1
       try clear hfz27_2
       try clear hfz28_0
       try clear hfz28_1
       try clear hfz28_2
       try clear p2
       try clear p6
       obtain ⟨kq, x59_16, rfl, HA, HJ16, HO_7, HO_9, BK155, HB⟩ := hcut
       cases kq with
       | zero => exact absurd HA.out (by simp [turnbucklelaw11_SymReads.j1])
       | succ kj16 =>
        have H := HA.out
        clear HA
        simp only [turnbucklelaw11_SymReads.j1] at H
        by_cases c29 : x59_16 = true
        ·subst c29
         have H1 : (some false) = some r := by rw [if_pos rfl] at H; exact H
         clear H
         have H := H1
         clear H1
         obtain rfl := Option.some.inj H
         go_wp2
         go_ret
         exact ⟨by first | rfl | (simp [errW_none, errW_some] <;> rfl) | (simp only [← hji6]; first | rfl | (simp [errW_none, errW_some] <;> rfl)) | (simp [*, errW_none, errW_some] <;> rfl), by repeat (first | (with_reducible first | exact HB.out | apply below_alloc | apply pw_below_drewN | apply below_drew1 | refine below_set ?_ GE155.out) | exact HB.out)⟩
        ·replace c29 := Bool.eq_false_iff.mpr c29
         subst c29
         have H1 : (turnbucklelaw11_SymReads.l0 kj16 t149 t156 0) = some r := by rw [if_neg (show ¬ (false = true) by decide)] at H; exact H
         clear H
         have H := H1
         clear H1
         have H' := Aside0.mk H
         clear H
         go_wp2
         go_loopg [12] kj16 (fun kq v12 w' => ∃ (x12_3 : Int), v12 = .int .i64 x12_3 ∧ Aside0 (turnbucklelaw11_SymReads.l0 kq t149 t156 x12_3 = some r) ∧ Aside0 (kq ≤ kj16) ∧ Aside0 (Kd.R k28 28 w' w.heap.size (fun _ => True) v150 t149) ∧ Aside0 (Kd.R k31 31 w' w.heap.size (fun _ => True) v159 t156) ∧ Aside0 (w'.heap[gb155]? = some (.cells #[.int .i64 t152, .int .u64 t153, .string t154] 35 (0, 0))) ∧ Aside0 (Below w.heap.size w w'))
         case atStart => exact ⟨(0), (by first | rfl | (simp; done) | (simp [*]; done)), H', ⟨Nat.le_refl _⟩, ⟨by (with_reducible repeat (first | apply Kd.R_alloc | apply Kd.R_drewN | apply Kd.R_drew)); exact HO_7.out⟩, ⟨by (with_reducible repeat (first | apply Kd.R_alloc | apply Kd.R_drewN | apply Kd.R_drew)); exact HO_9.out⟩, ⟨by (with_reducible repeat (first | refine blk_drewN ?_ _ | refine blk_drew ?_ | refine blk_alloc ?_ _)); exact BK155.out⟩, ⟨by repeat (first | (with_reducible first | exact HB.out | apply below_alloc | apply pw_below_drewN | apply below_drew1 | refine below_set ?_ GE155.out) | exact HB.out)⟩⟩
         case round =>
          clear H'
          try clear c1
          try clear c2
          try clear p2
          try clear c5
          try clear p6
          try clear c7
          try clear c7b0
          try clear c7b1
          try clear c8
          try clear c8b0
          try clear c8b1
          try clear c10
          try clear c11
          try clear c11b0
          try clear c12
          try clear c13
          try clear c13b0
          try clear c13b1
          try clear c14
          try clear c14b0
          try clear c14b1
          try clear c22
          try clear c22b0
          try clear c22b1
          try clear c23
          try clear c23b0
          try clear c23b1
          try clear c29
          try clear hcz20_0
          try clear hcz20_1
          try clear hcz20_2
          try clear hcz24_0
          try clear hcz24_1
          try clear hcz24_2
          try clear hcz27_0
          try clear hcz27_1
          try clear hcz27_2
          try clear hcz28_0
          try clear hcz28_1
          try clear hcz28_2
          try clear hfz20_0
          try clear hfz20_1
          try clear hfz20_2
          try clear hfz24_0
          try clear hfz24_1
          try clear hfz24_2
          try clear hfz27_0
          try clear hfz27_1
          try clear hfz27_2
          try clear hfz28_0
          try clear hfz28_1
          try clear hfz28_2
          try clear p2
          try clear p6
          obtain ⟨x12_3, rfl, HA, HK3, HO_7, HO_9, BK155, HB⟩ := hrel
          cases gk with
          | zero => exact absurd HA.out (by simp [turnbucklelaw11_SymReads.l0])
          | succ k3 =>
           have H := HA.out
           clear HA
           simp only [turnbucklelaw11_SymReads.l0] at H
           by_cases c30 : x12_3 < (t156.length : Int)
           ·rw [if_pos c30] at H
            have c30b0 : decide (x12_3 < (t156.length : Int)) = true := decide_eq_true c30
            clear c30
            by_cases c31 : 0 ≤ x12_3
            ·rw [if_pos c31] at H
             have c31b0 : decide (0 ≤ x12_3) = true := decide_eq_true c31
             clear c31
             by_cases c32 : x12_3 < (t149.length : Int)
             ·rw [if_pos c32] at H
              have c32b0 : decide (x12_3 < (t149.length : Int)) = true := decide_eq_true c32
              clear c32
              replace H := Option.bind_eq_some_iff.mp H
              obtain ⟨t163, A330, H⟩ := H
              replace H : (if t163 = true then ((sym_Symbol_Exported.f ((rd_T28 t149 x12_3).f0) ((rd_T28 t149 x12_3).f1) ((rd_T28 t149 x12_3).f2) ((rd_T28 t149 x12_3).f3) ((rd_T28 t149 x12_3).f4) ((rd_T28 t149 x12_3).f5) ((rd_T28 t149 x12_3).f6)).bind fun t166 => (if (rd_T31 t156 x12_3).f4 = true then (if ((rd_T31 t156 x12_3).f1) > 0 then (if ((rd_T31 t156 x12_3).f3) = 0 then (if (t166 != true) = true then (some false) else ((sym_Symbol_Own.f ((rd_T28 t149 x12_3).f0) ((rd_T28 t149 x12_3).f1) ((rd_T28 t149 x12_3).f2) ((rd_T28 t149 x12_3).f3) ((rd_T28 t149 x12_3).f4) ((rd_T28 t149 x12_3).f5) ((rd_T28 t149 x12_3).f6)).bind fun t170 => (if ((rd_T31 t156 x12_3).f1) = 0 then (if (t170 != true) = true then (some false) else (turnbucklelaw11_SymReads.l0 k3 t149 t156 (wrap64 (x12_3 + 1)))) else (if (t170 != (decide (((rd_T31 t156 x12_3).f3) > 0))) = true then (some false) else (turnbucklelaw11_SymReads.l0 k3 t149 t156 (wrap64 (x12_3 + 1))))))) else (if (t166 != (((rd_T31 t156 x12_3).f3) == 3)) = true then (some false) else ((sym_Symbol_Own.f ((rd_T28 t149 x12_3).f0) ((rd_T28 t149 x12_3).f1) ((rd_T28 t149 x12_3).f2) ((rd_T28 t149 x12_3).f3) ((rd_T28 t149 x12_3).f4) ((rd_T28 t149 x12_3).f5) ((rd_T28 t149 x12_3).f6)).bind fun t175 => (if ((rd_T31 t156 x12_3).f1) = 0 then (if (t175 != true) = true then (some false) else (turnbucklelaw11_SymReads.l0 k3 t149 t156 (wrap64 (x12_3 + 1)))) else (if (t175 != (decide (((rd_T31 t156 x12_3).f3) > 0))) = true then (some false) else (turnbucklelaw11_SymReads.l0 k3 t149 t156 (wrap64 (x12_3 + 1)))))))) else (if (t166 != false) = true then (some false) else ((sym_Symbol_Own.f ((rd_T28 t149 x12_3).f0) ((rd_T28 t149 x12_3).f1) ((rd_T28 t149 x12_3).f2) ((rd_T28 t149 x12_3).f3) ((rd_T28 t149 x12_3).f4) ((rd_T28 t149 x12_3).f5) ((rd_T28 t149 x12_3).f6)).bind fun t179 => (if ((rd_T31 t156 x12_3).f1) = 0 then (if (t179 != true) = true then (some false) else (turnbucklelaw11_SymReads.l0 k3 t149 t156 (wrap64 (x12_3 + 1)))) else (if (t179 != (decide (((rd_T31 t156 x12_3).f3) > 0))) = true then (some false) else (turnbucklelaw11_SymReads.l0 k3 t149 t156 (wrap64 (x12_3 + 1)))))))) else (if (t166 != false) = true then (some false) else ((sym_Symbol_Own.f ((rd_T28 t149 x12_3).f0) ((rd_T28 t149 x12_3).f1) ((rd_T28 t149 x12_3).f2) ((rd_T28 t149 x12_3).f3) ((rd_T28 t149 x12_3).f4) ((rd_T28 t149 x12_3).f5) ((rd_T28 t149 x12_3).f6)).bind fun t183 => (if (t183 != false) = true then (some false) else (turnbucklelaw11_SymReads.l0 k3 t149 t156 (wrap64 (x12_3 + 1)))))))) else (some false)) = some r := H
              have A33 := Aside0.mk A330
              clear A330
              obtain ⟨Ao162, co162, eo162⟩ := Kd.R_slice HO_9.out
              subst eo162
              try go_wp2
              have n0_ := Aside0.mk (Kd.R_drew HO_7.out)
              have n1_ := Aside0.mk (Kd.R_drew HO_9.out)
              have n2_ := Aside0.mk (blk_drew BK155.out)
              have n3_ := Aside0.mk (below_drew1 HB.out)
              clear HO_7
              clear HO_9
              clear BK155
              clear HB
              have HO_7 := n0_
              have HO_9 := n1_
              have BK155 := n2_
              have HB := n3_
              clear n0_ n1_ n2_ n3_
              obtain ⟨Ao164, co164, eo164⟩ := Kd.R_slice HO_7.out
              (first | subst eo164 | (injection eo164 with f1_ f2_ f3_; have f4_ := f1_.symm; have f5_ := f3_.symm; clear f1_ f2_ f3_; subst f4_; subst f5_))
              have p161 : 0 ≤ (x12_3 : Int) := of_decide_eq_true (by first | (with_reducible assumption) | assumption)
              have q161 : x12_3 < (t149.length : Int) := of_decide_eq_true (by first | (with_reducible assumption) | assumption)
              obtain ⟨ad161, e161, hx161_0, hx161_1, hx161_2, hx161_3, hx161_4, hx161_5, hx161_6⟩ := at_T28 (Kd.R_reads' HO_7.out).2.2 x12_3 p161 q161
              cases e161
              replace p161 := eq_true p161
              replace q161 := eq_true q161
              have p162 : 0 ≤ (x12_3 : Int) := of_decide_eq_true (by first | (with_reducible assumption) | assumption)
              have q162 : x12_3 < (t156.length : Int) := of_decide_eq_true (by first | (with_reducible assumption) | assumption)
              obtain ⟨ad162, e162, hx162_0, hx162_1, hx162_2, hx162_3, hx162_4, hx162_5, hx162_6⟩ := at_T31 (Kd.R_reads' HO_9.out).2.2 x12_3 p162 q162
              cases e162
              replace p162 := eq_true p162
              replace q162 := eq_true q162
              refine start_ (n := 10) (S := fun w' => w'.cell? (ad161.add ((x12_3).toNat * 7)) = some (.string ((rd_T28 t149 x12_3).f0)) ∧ w'.cell? ⟨(ad161.add ((x12_3).toNat * 7)).block, (ad161.add ((x12_3).toNat * 7)).off + 1, none⟩ = some (.int .i64 ((rd_T28 t149 x12_3).f1)) ∧ w'.cell? ⟨(ad161.add ((x12_3).toNat * 7)).block, (ad161.add ((x12_3).toNat * 7)).off + 2, none⟩ = some (.int .i64 ((rd_T28 t149 x12_3).f2)) ∧ w'.cell? ⟨(ad161.add ((x12_3).toNat * 7)).block, (ad161.add ((x12_3).toNat * 7)).off + 3, none⟩ = some (.int .i64 ((rd_T28 t149 x12_3).f3)) ∧ w'.cell? ⟨(ad161.add ((x12_3).toNat * 7)).block, (ad161.add ((x12_3).toNat * 7)).off + 4, none⟩ = some (.bool ((rd_T28 t149 x12_3).f4)) ∧ w'.cell? ⟨(ad161.add ((x12_3).toNat * 7)).block, (ad161.add ((x12_3).toNat * 7)).off + 5, none⟩ = some (.int .u64 ((rd_T28 t149 x12_3).f5)) ∧ w'.cell? ⟨(ad161.add ((x12_3).toNat * 7)).block, (ad161.add ((x12_3).toNat * 7)).off + 6, none⟩ = some (.int .u64 ((rd_T28 t149 x12_3).f6)) ∧ w'.cell? (ad162.add ((x12_3).toNat * 7)) = some (.string ((rd_T31 t156 x12_3).f0)) ∧ w'.cell? ⟨(ad162.add ((x12_3).toNat * 7)).block, (ad162.add ((x12_3).toNat * 7)).off + 1, none⟩ = some (.int .i64 ((rd_T31 t156 x12_3).f1)) ∧ w'.cell? ⟨(ad162.add ((x12_3).toNat * 7)).block, (ad162.add ((x12_3).toNat * 7)).off + 2, none⟩ = some (.int .i64 ((rd_T31 t156 x12_3).f2)) ∧ w'.cell? ⟨(ad162.add ((x12_3).toNat * 7)).block, (ad162.add ((x12_3).toNat * 7)).off + 3, none⟩ = some (.int .i64 ((rd_T31 t156 x12_3).f3)) ∧ w'.cell? ⟨(ad162.add ((x12_3).toNat * 7)).block, (ad162.add ((x12_3).toNat * 7)).off + 4, none⟩ = some (.bool ((rd_T31 t156 x12_3).f4)) ∧ w'.cell? ⟨(ad162.add ((x12_3).toNat * 7)).block, (ad162.add ((x12_3).toNat * 7)).off + 5, none⟩ = some (.int .u64 ((rd_T31 t156 x12_3).f5)) ∧ w'.cell? ⟨(ad162.add ((x12_3).toNat * 7)).block, (ad162.add ((x12_3).toNat * 7)).off + 6, none⟩ = some (.int .u64 ((rd_T31 t156 x12_3).f6))) (ds := []) #[false,false,false,false,false,false,false,false,false,false] (by kernel_rfl) rfl rfl ⟨hx161_0, hx161_1, hx161_2, hx161_3, hx161_4, hx161_5, hx161_6, hx162_0, hx162_1, hx162_2, hx162_3, hx162_4, hx162_5, hx162_6⟩ (fun hHeld => ?_); refine with_tabW turnbucklelaw11_SymReads.tab13 turnbucklelaw11_SymReads.bits13 (fun HT_ HW_ => ?_)
              generalize wr.drew = w163 at HO_7 HO_9 BK155 HB hx161_0 hx161_1 hx161_2 hx161_3 hx161_4 hx161_5 hx161_6 hx162_0 hx162_1 hx162_2 hx162_3 hx162_4 hx162_5 hx162_6 hHeld ⊢
              refine pure_ (i:=0) (N := some 66) (v:=?_) (a':=?_) #[true,false,false,false,false,false,false,false,false,false] rfl rfl (any_of HT_.out (by kernel_rfl)) (fun _ _ _ h=>h) (Or.inl ⟨by rfl, ?_⟩) ?_ ?_
              rotate_left
              ·intro w'
               go_simp
               with_reducible rfl
              rotate_left
              ·simp only [Act.put,lz1,lz2,lz3,i64_w,i32_w]
               rfl
              refine pure_ (i:=1) (N := some 67) (v:=?_) (a':=?_) #[true,true,false,false,false,false,false,false,false,false] rfl rfl (any_of HT_.out (by kernel_rfl)) (fun _ _ _ h=>h) (Or.inl ⟨by rfl, ?_⟩) ?_ ?_
              rotate_left
              ·intro w'
               go_simp
               with_reducible rfl
              rotate_left
              ·simp only [Act.put,lz1,lz2,lz3,i64_w,i32_w]
               rfl
              refine pure_ (i:=2) (N := some 68) (v:=?_) (a':=?_) #[true,true,true,false,false,false,false,false,false,false] rfl rfl (any_of HT_.out (by kernel_rfl)) (fun _ _ _ h=>h) (Or.inl ⟨by rfl, ?_⟩) ?_ ?_
              rotate_left
              ·intro w'
               go_simp
               with_reducible rfl
              rotate_left
              ·simp only [Act.put,lz1,lz2,lz3,i64_w,i32_w]
               rfl
              refine pure_ (i:=4) (N := some 70) (v:=?_) (a':=?_) #[true,true,true,false,true,false,false,false,false,false] rfl rfl (any_of HT_.out (by kernel_rfl)) (fun _ _ _ h=>h) (Or.inl ⟨by rfl, ?_⟩) ?_ ?_
              rotate_left
              ·intro w'
               go_simp
               with_reducible rfl
              rotate_left
              ·simp only [Act.put,lz1,lz2,lz3,i64_w,i32_w]
               rfl
              refine pure_ (i:=5) (N := some 71) (v:=?_) (a':=?_) #[true,true,true,false,true,true,false,false,false,false] rfl rfl (any_of HT_.out (by kernel_rfl)) (fun _ _ _ h=>h) (Or.inl ⟨by rfl, ?_⟩) ?_ ?_
              rotate_left
              ·intro w'
               go_simp
               with_reducible rfl
              rotate_left
              ·simp only [Act.put,lz1,lz2,lz3,i64_w,i32_w]
               rfl
              refine pure_ (i:=6) (N := some 72) (v:=?_) (a':=?_) #[true,true,true,false,true,true,true,false,false,false] rfl rfl (any_of HT_.out (by kernel_rfl)) (fun _ _ _ h=>h) (Or.inl ⟨by rfl, ?_⟩) ?_ ?_
              rotate_left
              ·intro w'
               go_simp
               with_reducible rfl
              rotate_left
              ·simp only [Act.put,lz1,lz2,lz3,i64_w,i32_w]
               rfl
              refine take_ (i := 3) (N := some 69) (v:=?_) (a':=?_) #[true,true,true,true,true,true,true,false,false,false] rfl rfl (take_ofW HT_.out HW_.out (by kernel_rfl)) (fun _ _ _ h=>h) (Or.inl ⟨by rfl, ?_⟩) hHeld ?_ ?_
              rotate_left
              ·rintro w' ⟨s0, s1, s2, s3, s4, s5, s6, s7, s8, s9, s10, s11, s12, s13⟩
               go_simp
               with_reducible rfl
              rotate_left
              ·simp only [Act.put,lz1,lz2,lz3,i64_w,i32_w]
               rfl
              refine take_ (i := 7) (N := some 73) (v:=?_) (a':=?_) #[true,true,true,true,true,true,true,true,false,false] rfl rfl (take_ofW HT_.out HW_.out (by kernel_rfl)) (fun _ _ _ h=>h) (Or.inl ⟨by rfl, ?_⟩) hHeld ?_ ?_
              rotate_left
              ·rintro w' ⟨s0, s1, s2, s3, s4, s5, s6, s7, s8, s9, s10, s11, s12, s13⟩
               go_simp
               with_reducible rfl
              rotate_left
              ·simp only [Act.put,lz1,lz2,lz3,i64_w,i32_w]
               rfl
              refine one_ (i := 8) (N := some 74) #[true,true,true,true,true,true,true,true,true,false] rfl rfl (one_of HT_.out (by kernel_rfl)) (by decide) (fun K hK => ?_)
              refine goes_ Try.func13 (by kernel_rfl) rfl #[.agg #[.string ((rd_T28 t149 x12_3).f0), .int .i64 ((rd_T28 t149 x12_3).f1), .int .i64 ((rd_T28 t149 x12_3).f2), .int .i64 ((rd_T28 t149 x12_3).f3), .bool ((rd_T28 t149 x12_3).f4), .int .u64 ((rd_T28 t149 x12_3).f5), .int .u64 ((rd_T28 t149 x12_3).f6)], .agg #[.string ((rd_T31 t156 x12_3).f0), .int .i64 ((rd_T31 t156 x12_3).f1), .int .i64 ((rd_T31 t156 x12_3).f2), .int .i64 ((rd_T31 t156 x12_3).f3), .bool ((rd_T31 t156 x12_3).f4), .int .u64 ((rd_T31 t156 x12_3).f5), .int .u64 ((rd_T31 t156 x12_3).f6)]] (by rfl) rfl rfl (by (try simp only [List.map_toArray, List.map_cons, List.map_nil]); first | done | rfl | (simp only [List.length_drop, List.length_take]; rfl)) ?_
              with_reducible refine (turnbucklelaw11_same.calls ((rd_T28 t149 x12_3).f0) ((rd_T28 t149 x12_3).f1) ((rd_T28 t149 x12_3).f2) ((rd_T28 t149 x12_3).f3) ((rd_T28 t149 x12_3).f4) ((rd_T28 t149 x12_3).f5) ((rd_T28 t149 x12_3).f6) ((rd_T31 t156 x12_3).f0) ((rd_T31 t156 x12_3).f1) ((rd_T31 t156 x12_3).f2) ((rd_T31 t156 x12_3).f3) ((rd_T31 t156 x12_3).f4) ((rd_T31 t156 x12_3).f5) ((rd_T31 t156 x12_3).f6) t163 _ A33.out).mono ?_
              rintro e w165 ⟨rfl, hb⟩
              have HS0_ := (hb.cell (World.block_lt_of_cell? _ _ (hHeld.1))).trans (hHeld.1)
              have HS1_ := (hb.cell (World.block_lt_of_cell? _ _ (hHeld.2.1))).trans (hHeld.2.1)
              have HS2_ := (hb.cell (World.block_lt_of_cell? _ _ (hHeld.2.2.1))).trans (hHeld.2.2.1)
              have HS3_ := (hb.cell (World.block_lt_of_cell? _ _ (hHeld.2.2.2.1))).trans (hHeld.2.2.2.1)
              have HS4_ := (hb.cell (World.block_lt_of_cell? _ _ (hHeld.2.2.2.2.1))).trans (hHeld.2.2.2.2.1)
              have HS5_ := (hb.cell (World.block_lt_of_cell? _ _ (hHeld.2.2.2.2.2.1))).trans (hHeld.2.2.2.2.2.1)
              have HS6_ := (hb.cell (World.block_lt_of_cell? _ _ (hHeld.2.2.2.2.2.2.1))).trans (hHeld.2.2.2.2.2.2.1)
              have HS7_ := (hb.cell (World.block_lt_of_cell? _ _ (hHeld.2.2.2.2.2.2.2.1))).trans (hHeld.2.2.2.2.2.2.2.1)
              have HS8_ := (hb.cell (World.block_lt_of_cell? _ _ (hHeld.2.2.2.2.2.2.2.2.1))).trans (hHeld.2.2.2.2.2.2.2.2.1)
              have HS9_ := (hb.cell (World.block_lt_of_cell? _ _ (hHeld.2.2.2.2.2.2.2.2.2.1))).trans (hHeld.2.2.2.2.2.2.2.2.2.1)
              have HS10_ := (hb.cell (World.block_lt_of_cell? _ _ (hHeld.2.2.2.2.2.2.2.2.2.2.1))).trans (hHeld.2.2.2.2.2.2.2.2.2.2.1)
              have HS11_ := (hb.cell (World.block_lt_of_cell? _ _ (hHeld.2.2.2.2.2.2.2.2.2.2.2.1))).trans (hHeld.2.2.2.2.2.2.2.2.2.2.2.1)
              have HS12_ := (hb.cell (World.block_lt_of_cell? _ _ (hHeld.2.2.2.2.2.2.2.2.2.2.2.2.1))).trans (hHeld.2.2.2.2.2.2.2.2.2.2.2.2.1)
              have HS13_ := (hb.cell (World.block_lt_of_cell? _ _ (hHeld.2.2.2.2.2.2.2.2.2.2.2.2.2))).trans (hHeld.2.2.2.2.2.2.2.2.2.2.2.2.2)
              refine ⟨_, rfl, ?_⟩
              have n0_ := Aside0.mk (Kd.R_below (by (with_reducible repeat (first | apply Kd.R_alloc | apply Kd.R_drewN | apply Kd.R_drew)); exact HO_7.out) hb)
              have n1_ := Aside0.mk (Kd.R_below (by (with_reducible repeat (first | apply Kd.R_alloc | apply Kd.R_drewN | apply Kd.R_drew)); exact HO_9.out) hb)
              have n2_ := Aside0.mk (blk_below (g := gb155) (o := .cells #[.int .i64 t152, .int .u64 t153, .string t154] 35 (0, 0)) (by (with_reducible repeat (first | refine blk_drewN ?_ _ | refine blk_drew ?_ | refine blk_alloc ?_ _)); exact BK155.out) hb)
              have n3_ := Aside0.mk (below_step (by repeat (first | (with_reducible first | exact HB.out | apply below_alloc | apply pw_below_drewN | apply below_drew1 | refine below_set ?_ GE155.out) | exact HB.out)) hb)
              clear HO_7
              clear HO_9
              clear BK155
              clear HB
              have HO_7 := n0_
              have HO_9 := n1_
              have BK155 := n2_
              have HB := n3_
              clear n0_ n1_ n2_ n3_
              (try clear hb)
              (try clear hb2)
              (try clear hk)
              (try clear hi)
              refine hK.out _ _ ⟨HS0_, HS1_, HS2_, HS3_, HS4_, HS5_, HS6_, HS7_, HS8_, HS9_, HS10_, HS11_, HS12_, HS13_⟩ (fun hHeld => ?_)
              clear hK K
              refine norm_ (a' := ?_) ?_ ?_
              rotate_left
              ·show Act.put _ (some 74) _ = _
               simp only [Act.put,lz1,lz2,lz3,i64_w,i32_w]
               rfl
              refine pure_ (i:=9) (N := some 75) (v:=?_) (a':=?_) #[true,true,true,true,true,true,true,true,true,true] rfl rfl (any_of HT_.out (by kernel_rfl)) (fun _ _ _ h=>h) (Or.inl ⟨by rfl, ?_⟩) ?_ ?_
              rotate_left
              ·intro w'
               go_simp
               with_reducible rfl
              rotate_left
              ·simp only [Act.put,lz1,lz2,lz3,i64_w,i32_w]
               rfl
              refine done_ (done_of HT_.out (by kernel_rfl)) ?_
              clear hx161_0 hx161_1 hx161_2 hx161_3 hx161_4 hx161_5 hx161_6 hx162_0 hx162_1 hx162_2 hx162_3 hx162_4 hx162_5 hx162_6 HS0_ HS1_ HS2_ HS3_ HS4_ HS5_ HS6_ HS7_ HS8_ HS9_ HS10_ HS11_ HS12_ HS13_ hHeld
              by_cases c34 : t163 = true
              ·subst c34
               have H1 : ((sym_Symbol_Exported.f ((rd_T28 t149 x12_3).f0) ((rd_T28 t149 x12_3).f1) ((rd_T28 t149 x12_3).f2) ((rd_T28 t149 x12_3).f3) ((rd_T28 t149 x12_3).f4) ((rd_T28 t149 x12_3).f5) ((rd_T28 t149 x12_3).f6)).bind fun t166 => (if (rd_T31 t156 x12_3).f4 = true then (if ((rd_T31 t156 x12_3).f1) > 0 then (if ((rd_T31 t156 x12_3).f3) = 0 then (if (t166 != true) = true then (some false) else ((sym_Symbol_Own.f ((rd_T28 t149 x12_3).f0) ((rd_T28 t149 x12_3).f1) ((rd_T28 t149 x12_3).f2) ((rd_T28 t149 x12_3).f3) ((rd_T28 t149 x12_3).f4) ((rd_T28 t149 x12_3).f5) ((rd_T28 t149 x12_3).f6)).bind fun t170 => (if ((rd_T31 t156 x12_3).f1) = 0 then (if (t170 != true) = true then (some false) else (turnbucklelaw11_SymReads.l0 k3 t149 t156 (wrap64 (x12_3 + 1)))) else (if (t170 != (decide (((rd_T31 t156 x12_3).f3) > 0))) = true then (some false) else (turnbucklelaw11_SymReads.l0 k3 t149 t156 (wrap64 (x12_3 + 1))))))) else (if (t166 != (((rd_T31 t156 x12_3).f3) == 3)) = true then (some false) else ((sym_Symbol_Own.f ((rd_T28 t149 x12_3).f0) ((rd_T28 t149 x12_3).f1) ((rd_T28 t149 x12_3).f2) ((rd_T28 t149 x12_3).f3) ((rd_T28 t149 x12_3).f4) ((rd_T28 t149 x12_3).f5) ((rd_T28 t149 x12_3).f6)).bind fun t175 => (if ((rd_T31 t156 x12_3).f1) = 0 then (if (t175 != true) = true then (some false) else (turnbucklelaw11_SymReads.l0 k3 t149 t156 (wrap64 (x12_3 + 1)))) else (if (t175 != (decide (((rd_T31 t156 x12_3).f3) > 0))) = true then (some false) else (turnbucklelaw11_SymReads.l0 k3 t149 t156 (wrap64 (x12_3 + 1)))))))) else (if (t166 != false) = true then (some false) else ((sym_Symbol_Own.f ((rd_T28 t149 x12_3).f0) ((rd_T28 t149 x12_3).f1) ((rd_T28 t149 x12_3).f2) ((rd_T28 t149 x12_3).f3) ((rd_T28 t149 x12_3).f4) ((rd_T28 t149 x12_3).f5) ((rd_T28 t149 x12_3).f6)).bind fun t179 => (if ((rd_T31 t156 x12_3).f1) = 0 then (if (t179 != true) = true then (some false) else (turnbucklelaw11_SymReads.l0 k3 t149 t156 (wrap64 (x12_3 + 1)))) else (if (t179 != (decide (((rd_T31 t156 x12_3).f3) > 0))) = true then (some false) else (turnbucklelaw11_SymReads.l0 k3 t149 t156 (wrap64 (x12_3 + 1)))))))) else (if (t166 != false) = true then (some false) else ((sym_Symbol_Own.f ((rd_T28 t149 x12_3).f0) ((rd_T28 t149 x12_3).f1) ((rd_T28 t149 x12_3).f2) ((rd_T28 t149 x12_3).f3) ((rd_T28 t149 x12_3).f4) ((rd_T28 t149 x12_3).f5) ((rd_T28 t149 x12_3).f6)).bind fun t183 => (if (t183 != false) = true then (some false) else (turnbucklelaw11_SymReads.l0 k3 t149 t156 (wrap64 (x12_3 + 1)))))))) = some r := by rw [if_pos rfl] at H; exact H
               clear H
               have H := H1
               clear H1
               replace H := Option.bind_eq_some_iff.mp H
               obtain ⟨t166, A350, H⟩ := H
               replace H : (if (rd_T31 t156 x12_3).f4 = true then (if ((rd_T31 t156 x12_3).f1) > 0 then (if ((rd_T31 t156 x12_3).f3) = 0 then (if (t166 != true) = true then (some false) else ((sym_Symbol_Own.f ((rd_T28 t149 x12_3).f0) ((rd_T28 t149 x12_3).f1) ((rd_T28 t149 x12_3).f2) ((rd_T28 t149 x12_3).f3) ((rd_T28 t149 x12_3).f4) ((rd_T28 t149 x12_3).f5) ((rd_T28 t149 x12_3).f6)).bind fun t170 => (if ((rd_T31 t156 x12_3).f1) = 0 then (if (t170 != true) = true then (some false) else (turnbucklelaw11_SymReads.l0 k3 t149 t156 (wrap64 (x12_3 + 1)))) else (if (t170 != (decide (((rd_T31 t156 x12_3).f3) > 0))) = true then (some false) else (turnbucklelaw11_SymReads.l0 k3 t149 t156 (wrap64 (x12_3 + 1))))))) else (if (t166 != (((rd_T31 t156 x12_3).f3) == 3)) = true then (some false) else ((sym_Symbol_Own.f ((rd_T28 t149 x12_3).f0) ((rd_T28 t149 x12_3).f1) ((rd_T28 t149 x12_3).f2) ((rd_T28 t149 x12_3).f3) ((rd_T28 t149 x12_3).f4) ((rd_T28 t149 x12_3).f5) ((rd_T28 t149 x12_3).f6)).bind fun t175 => (if ((rd_T31 t156 x12_3).f1) = 0 then (if (t175 != true) = true then (some false) else (turnbucklelaw11_SymReads.l0 k3 t149 t156 (wrap64 (x12_3 + 1)))) else (if (t175 != (decide (((rd_T31 t156 x12_3).f3) > 0))) = true then (some false) else (turnbucklelaw11_SymReads.l0 k3 t149 t156 (wrap64 (x12_3 + 1)))))))) else (if (t166 != false) = true then (some false) else ((sym_Symbol_Own.f ((rd_T28 t149 x12_3).f0) ((rd_T28 t149 x12_3).f1) ((rd_T28 t149 x12_3).f2) ((rd_T28 t149 x12_3).f3) ((rd_T28 t149 x12_3).f4) ((rd_T28 t149 x12_3).f5) ((rd_T28 t149 x12_3).f6)).bind fun t179 => (if ((rd_T31 t156 x12_3).f1) = 0 then (if (t179 != true) = true then (some false) else (turnbucklelaw11_SymReads.l0 k3 t149 t156 (wrap64 (x12_3 + 1)))) else (if (t179 != (decide (((rd_T31 t156 x12_3).f3) > 0))) = true then (some false) else (turnbucklelaw11_SymReads.l0 k3 t149 t156 (wrap64 (x12_3 + 1)))))))) else (if (t166 != false) = true then (some false) else ((sym_Symbol_Own.f ((rd_T28 t149 x12_3).f0) ((rd_T28 t149 x12_3).f1) ((rd_T28 t149 x12_3).f2) ((rd_T28 t149 x12_3).f3) ((rd_T28 t149 x12_3).f4) ((rd_T28 t149 x12_3).f5) ((rd_T28 t149 x12_3).f6)).bind fun t183 => (if (t183 != false) = true then (some false) else (turnbucklelaw11_SymReads.l0 k3 t149 t156 (wrap64 (x12_3 + 1))))))) = some r := H
               have A35 := Aside0.mk A350
               clear A350
               obtain ⟨bq36, hbq36⟩ : ∃ b_ : Bool, b_ = ((rd_T31 t156 x12_3).f4) := ⟨_, rfl⟩
               replace H : (if bq36 = true then (if ((rd_T31 t156 x12_3).f1) > 0 then (if ((rd_T31 t156 x12_3).f3) = 0 then (if (t166 != true) = true then (some false) else ((sym_Symbol_Own.f ((rd_T28 t149 x12_3).f0) ((rd_T28 t149 x12_3).f1) ((rd_T28 t149 x12_3).f2) ((rd_T28 t149 x12_3).f3) ((rd_T28 t149 x12_3).f4) ((rd_T28 t149 x12_3).f5) ((rd_T28 t149 x12_3).f6)).bind fun t170 => (if ((rd_T31 t156 x12_3).f1) = 0 then (if (t170 != true) = true then (some false) else (turnbucklelaw11_SymReads.l0 k3 t149 t156 (wrap64 (x12_3 + 1)))) else (if (t170 != (decide (((rd_T31 t156 x12_3).f3) > 0))) = true then (some false) else (turnbucklelaw11_SymReads.l0 k3 t149 t156 (wrap64 (x12_3 + 1))))))) else (if (t166 != (((rd_T31 t156 x12_3).f3) == 3)) = true then (some false) else ((sym_Symbol_Own.f ((rd_T28 t149 x12_3).f0) ((rd_T28 t149 x12_3).f1) ((rd_T28 t149 x12_3).f2) ((rd_T28 t149 x12_3).f3) ((rd_T28 t149 x12_3).f4) ((rd_T28 t149 x12_3).f5) ((rd_T28 t149 x12_3).f6)).bind fun t175 => (if ((rd_T31 t156 x12_3).f1) = 0 then (if (t175 != true) = true then (some false) else (turnbucklelaw11_SymReads.l0 k3 t149 t156 (wrap64 (x12_3 + 1)))) else (if (t175 != (decide (((rd_T31 t156 x12_3).f3) > 0))) = true then (some false) else (turnbucklelaw11_SymReads.l0 k3 t149 t156 (wrap64 (x12_3 + 1)))))))) else (if (t166 != false) = true then (some false) else ((sym_Symbol_Own.f ((rd_T28 t149 x12_3).f0) ((rd_T28 t149 x12_3).f1) ((rd_T28 t149 x12_3).f2) ((rd_T28 t149 x12_3).f3) ((rd_T28 t149 x12_3).f4) ((rd_T28 t149 x12_3).f5) ((rd_T28 t149 x12_3).f6)).bind fun t179 => (if ((rd_T31 t156 x12_3).f1) = 0 then (if (t179 != true) = true then (some false) else (turnbucklelaw11_SymReads.l0 k3 t149 t156 (wrap64 (x12_3 + 1)))) else (if (t179 != (decide (((rd_T31 t156 x12_3).f3) > 0))) = true then (some false) else (turnbucklelaw11_SymReads.l0 k3 t149 t156 (wrap64 (x12_3 + 1)))))))) else (if (t166 != false) = true then (some false) else ((sym_Symbol_Own.f ((rd_T28 t149 x12_3).f0) ((rd_T28 t149 x12_3).f1) ((rd_T28 t149 x12_3).f2) ((rd_T28 t149 x12_3).f3) ((rd_T28 t149 x12_3).f4) ((rd_T28 t149 x12_3).f5) ((rd_T28 t149 x12_3).f6)).bind fun t183 => (if (t183 != false) = true then (some false) else (turnbucklelaw11_SymReads.l0 k3 t149 t156 (wrap64 (x12_3 + 1))))))) = some r := by rw [← hbq36] at H; exact H
               have Nbq36 := Aside0.mk hbq36
               clear hbq36
               by_cases c37 : bq36 = true
               ·subst c37
                have H1 : (if ((rd_T31 t156 x12_3).f1) > 0 then (if ((rd_T31 t156 x12_3).f3) = 0 then (if (t166 != true) = true then (some false) else ((sym_Symbol_Own.f ((rd_T28 t149 x12_3).f0) ((rd_T28 t149 x12_3).f1) ((rd_T28 t149 x12_3).f2) ((rd_T28 t149 x12_3).f3) ((rd_T28 t149 x12_3).f4) ((rd_T28 t149 x12_3).f5) ((rd_T28 t149 x12_3).f6)).bind fun t170 => (if ((rd_T31 t156 x12_3).f1) = 0 then (if (t170 != true) = true then (some false) else (turnbucklelaw11_SymReads.l0 k3 t149 t156 (wrap64 (x12_3 + 1)))) else (if (t170 != (decide (((rd_T31 t156 x12_3).f3) > 0))) = true then (some false) else (turnbucklelaw11_SymReads.l0 k3 t149 t156 (wrap64 (x12_3 + 1))))))) else (if (t166 != (((rd_T31 t156 x12_3).f3) == 3)) = true then (some false) else ((sym_Symbol_Own.f ((rd_T28 t149 x12_3).f0) ((rd_T28 t149 x12_3).f1) ((rd_T28 t149 x12_3).f2) ((rd_T28 t149 x12_3).f3) ((rd_T28 t149 x12_3).f4) ((rd_T28 t149 x12_3).f5) ((rd_T28 t149 x12_3).f6)).bind fun t175 => (if ((rd_T31 t156 x12_3).f1) = 0 then (if (t175 != true) = true then (some false) else (turnbucklelaw11_SymReads.l0 k3 t149 t156 (wrap64 (x12_3 + 1)))) else (if (t175 != (decide (((rd_T31 t156 x12_3).f3) > 0))) = true then (some false) else (turnbucklelaw11_SymReads.l0 k3 t149 t156 (wrap64 (x12_3 + 1)))))))) else (if (t166 != false) = true then (some false) else ((sym_Symbol_Own.f ((rd_T28 t149 x12_3).f0) ((rd_T28 t149 x12_3).f1) ((rd_T28 t149 x12_3).f2) ((rd_T28 t149 x12_3).f3) ((rd_T28 t149 x12_3).f4) ((rd_T28 t149 x12_3).f5) ((rd_T28 t149 x12_3).f6)).bind fun t179 => (if ((rd_T31 t156 x12_3).f1) = 0 then (if (t179 != true) = true then (some false) else (turnbucklelaw11_SymReads.l0 k3 t149 t156 (wrap64 (x12_3 + 1)))) else (if (t179 != (decide (((rd_T31 t156 x12_3).f3) > 0))) = true then (some false) else (turnbucklelaw11_SymReads.l0 k3 t149 t156 (wrap64 (x12_3 + 1)))))))) = some r := by rw [if_pos rfl] at H; exact H
                clear H
                have H := H1
                clear H1
                by_cases c38 : ((rd_T31 t156 x12_3).f1) > 0
                ·rw [if_pos c38] at H
                 have c38b0 : decide (0 < ((rd_T31 t156 x12_3).f1)) = true := decide_eq_true c38
                 clear c38
                 by_cases c39 : ((rd_T31 t156 x12_3).f3) = 0
                 ·rw [if_pos c39] at H
                  have c39b0 : (((rd_T31 t156 x12_3).f3) == 0) = true := beq_iff_eq.mpr c39
                  have c39b1 : (((rd_T31 t156 x12_3).f3) != 0) = false := bne_eq_false_iff_eq.mpr c39
                  clear c39
                  by_cases c40 : (t166 != true) = true
                  ·rw [if_pos c40] at H
                   have c40b0 : (t166 != true) = true := c40
                   (try (have c40b1 : decide (t166 = true) = false := by simpa using c40))
                   (try (have c40b2 : (t166 == true) = false := by simpa using c40))
                   (try (have c40b3 : ¬ (t166 = true) := by simpa using c40))
                   clear c40
                   obtain rfl := Option.some.inj H
                   have p164 : 0 ≤ (x12_3 : Int) := of_decide_eq_true (by first | (with_reducible assumption) | assumption)
                   have q164 : x12_3 < (t156.length : Int) := of_decide_eq_true (by first | (with_reducible assumption) | assumption)
                   obtain ⟨ad164, e164, hx164_0, hx164_1, hx164_2, hx164_3, hx164_4, hx164_5, hx164_6⟩ := at_T31 (Kd.R_reads' HO_9.out).2.2 x12_3 p164 q164
                   (try rw [← Nbq36.out] at hx164_4)
                   obtain rfl : ad162 = ad164 := (by injection e164)
                   replace p164 := eq_true p164
                   replace q164 := eq_true q164
                   have p165 : 0 ≤ (x12_3 : Int) := of_decide_eq_true (by first | (with_reducible assumption) | assumption)
                   have q165 : x12_3 < (t149.length : Int) := of_decide_eq_true (by first | (with_reducible assumption) | assumption)
                   obtain ⟨ad165, e165, hx165_0, hx165_1, hx165_2, hx165_3, hx165_4, hx165_5, hx165_6⟩ := at_T28 (Kd.R_reads' HO_7.out).2.2 x12_3 p165 q165
                   (try rw [← Nbq36.out] at hx165_4)
                   obtain rfl : ad161 = ad165 := (by injection e165)
                   replace p165 := eq_true p165
                   replace q165 := eq_true q165
                   try go_wp2_with (first | ((with_reducible refine gate_callee (f := 14) rfl ?_); refine goesL_ (some 85) rfl rfl Try.func14 (by kernel_rfl) rfl #[.agg #[.string ((rd_T28 t149 x12_3).f0), .int .i64 ((rd_T28 t149 x12_3).f1), .int .i64 ((rd_T28 t149 x12_3).f2), .int .i64 ((rd_T28 t149 x12_3).f3), .bool ((rd_T28 t149 x12_3).f4), .int .u64 ((rd_T28 t149 x12_3).f5), .int .u64 ((rd_T28 t149 x12_3).f6)]] rfl (by (try simp only [List.map_toArray, List.map_cons, List.map_nil]); first | done | rfl | (simp only [List.length_drop, List.length_take]; rfl)) ?_; (with_reducible refine (sym_Symbol_Exported.calls ((rd_T28 t149 x12_3).f0) ((rd_T28 t149 x12_3).f1) ((rd_T28 t149 x12_3).f2) ((rd_T28 t149 x12_3).f3) ((rd_T28 t149 x12_3).f4) ((rd_T28 t149 x12_3).f5) ((rd_T28 t149 x12_3).f6) t166 _ A35.out).mono ?_); rintro e w45 ⟨rfl, hb⟩; refine ⟨_, rfl, ?_⟩; have n0_ := Aside0.mk (Kd.R_below (by (with_reducible repeat (first | apply Kd.R_alloc | apply Kd.R_drewN | apply Kd.R_drew)); exact HO_7.out) hb); have n1_ := Aside0.mk (Kd.R_below (by (with_reducible repeat (first | apply Kd.R_alloc | apply Kd.R_drewN | apply Kd.R_drew)); exact HO_9.out) hb); have n2_ := Aside0.mk (blk_below (g := gb155) (o := .cells #[.int .i64 t152, .int .u64 t153, .string t154] 35 (0, 0)) (by (with_reducible repeat (first | refine blk_drewN ?_ _ | refine blk_drew ?_ | refine blk_alloc ?_ _)); exact BK155.out) hb); have n3_ := Aside0.mk (below_step (by repeat (first | (with_reducible first | exact HB.out | apply below_alloc | apply pw_below_drewN | apply below_drew1 | refine below_set ?_ GE155.out) | exact HB.out)) hb); clear HO_7; clear HO_9; clear BK155; clear HB; have HO_7 := n0_; have HO_9 := n1_; have BK155 := n2_; have HB := n3_; clear n0_ n1_ n2_ n3_; (try clear hb); (try clear hb2); (try clear hk); (try clear hi); have p167 : 0 ≤ (x12_3 : Int) := of_decide_eq_true (by first | (with_reducible assumption) | assumption); have q167 : x12_3 < (t156.length : Int) := of_decide_eq_true (by first | (with_reducible assumption) | assumption); obtain ⟨ad167, e167, hx167_0, hx167_1, hx167_2, hx167_3, hx167_4, hx167_5, hx167_6⟩ := at_T31 (Kd.R_reads' HO_9.out).2.2 x12_3 p167 q167; (try rw [← Nbq36.out] at hx167_4); obtain rfl : ad162 = ad167 := (by injection e167); replace p167 := eq_true p167; replace q167 := eq_true q167; have p168 : 0 ≤ (x12_3 : Int) := of_decide_eq_true (by first | (with_reducible assumption) | assumption); have q168 : x12_3 < (t156.length : Int) := of_decide_eq_true (by first | (with_reducible assumption) | assumption); obtain ⟨ad168, e168, hx168_0, hx168_1, hx168_2, hx168_3, hx168_4, hx168_5, hx168_6⟩ := at_T31 (Kd.R_reads' HO_9.out).2.2 x12_3 p168 q168; (try rw [← Nbq36.out] at hx168_4); obtain rfl : ad162 = ad168 := (by injection e168); replace p168 := eq_true p168; replace q168 := eq_true q168))
                   go_ret
                   exact ⟨by first | rfl | (simp [errW_none, errW_some] <;> rfl) | (simp only [← hji6]; first | rfl | (simp [errW_none, errW_some] <;> rfl)) | (simp [*, errW_none, errW_some] <;> rfl), by repeat (first | (with_reducible first | exact HB.out | apply below_alloc | apply pw_below_drewN | apply below_drew1 | refine below_set ?_ GE155.out) | exact HB.out)⟩
                  ·rw [if_neg c40] at H
                   have c40b0 : (t166 != true) = false := by simpa using c40
                   (try (have c40b1 : decide (t166 = true) = true := by simpa using c40))
                   (try (have c40b2 : (t166 == true) = true := by simpa using c40))
                   clear c40
                   replace H := Option.bind_eq_some_iff.mp H
                   obtain ⟨t170, A460, H⟩ := H
                   replace H : (if ((rd_T31 t156 x12_3).f1) = 0 then (if (t170 != true) = true then (some false) else (turnbucklelaw11_SymReads.l0 k3 t149 t156 (wrap64 (x12_3 + 1)))) else (if (t170 != (decide (((rd_T31 t156 x12_3).f3) > 0))) = true then (some false) else (turnbucklelaw11_SymReads.l0 k3 t149 t156 (wrap64 (x12_3 + 1))))) = some r := H
                   have A46 := Aside0.mk A460
                   clear A460
                   by_cases c47 : ((rd_T31 t156 x12_3).f1) = 0
                   ·rw [if_pos c47] at H
                    have c47b0 : (((rd_T31 t156 x12_3).f1) == 0) = true := beq_iff_eq.mpr c47
                    have c47b1 : (((rd_T31 t156 x12_3).f1) != 0) = false := bne_eq_false_iff_eq.mpr c47
                    clear c47
                    by_cases c48 : (t170 != true) = true
                    ·rw [if_pos c48] at H
                     have c48b0 : (t170 != true) = true := c48
                     (try (have c48b1 : decide (t170 = true) = false := by simpa using c48))
                     (try (have c48b2 : (t170 == true) = false := by simpa using c48))
                     (try (have c48b3 : ¬ (t170 = true) := by simpa using c48))
                     clear c48
                     obtain rfl := Option.some.inj H
                     have p164 : 0 ≤ (x12_3 : Int) := of_decide_eq_true (by first | (with_reducible assumption) | assumption)
                     have q164 : x12_3 < (t156.length : Int) := of_decide_eq_true (by first | (with_reducible assumption) | assumption)
                     obtain ⟨ad164, e164, hx164_0, hx164_1, hx164_2, hx164_3, hx164_4, hx164_5, hx164_6⟩ := at_T31 (Kd.R_reads' HO_9.out).2.2 x12_3 p164 q164
                     (try rw [← Nbq36.out] at hx164_4)
                     obtain rfl : ad162 = ad164 := (by injection e164)
                     replace p164 := eq_true p164
                     replace q164 := eq_true q164
                     have p165 : 0 ≤ (x12_3 : Int) := of_decide_eq_true (by first | (with_reducible assumption) | assumption)
                     have q165 : x12_3 < (t149.length : Int) := of_decide_eq_true (by first | (with_reducible assumption) | assumption)
                     obtain ⟨ad165, e165, hx165_0, hx165_1, hx165_2, hx165_3, hx165_4, hx165_5, hx165_6⟩ := at_T28 (Kd.R_reads' HO_7.out).2.2 x12_3 p165 q165
                     (try rw [← Nbq36.out] at hx165_4)
                     obtain rfl : ad161 = ad165 := (by injection e165)
                     replace p165 := eq_true p165
                     replace q165 := eq_true q165
                     try go_wp2_with (first | ((with_reducible refine gate_callee (f := 14) rfl ?_); refine goesL_ (some 85) rfl rfl Try.func14 (by kernel_rfl) rfl #[.agg #[.string ((rd_T28 t149 x12_3).f0), .int .i64 ((rd_T28 t149 x12_3).f1), .int .i64 ((rd_T28 t149 x12_3).f2), .int .i64 ((rd_T28 t149 x12_3).f3), .bool ((rd_T28 t149 x12_3).f4), .int .u64 ((rd_T28 t149 x12_3).f5), .int .u64 ((rd_T28 t149 x12_3).f6)]] rfl (by (try simp only [List.map_toArray, List.map_cons, List.map_nil]); first | done | rfl | (simp only [List.length_drop, List.length_take]; rfl)) ?_; (with_reducible refine (sym_Symbol_Exported.calls ((rd_T28 t149 x12_3).f0) ((rd_T28 t149 x12_3).f1) ((rd_T28 t149 x12_3).f2) ((rd_T28 t149 x12_3).f3) ((rd_T28 t149 x12_3).f4) ((rd_T28 t149 x12_3).f5) ((rd_T28 t149 x12_3).f6) t166 _ A35.out).mono ?_); rintro e w53 ⟨rfl, hb⟩; refine ⟨_, rfl, ?_⟩; have n0_ := Aside0.mk (Kd.R_below (by (with_reducible repeat (first | apply Kd.R_alloc | apply Kd.R_drewN | apply Kd.R_drew)); exact HO_7.out) hb); have n1_ := Aside0.mk (Kd.R_below (by (with_reducible repeat (first | apply Kd.R_alloc | apply Kd.R_drewN | apply Kd.R_drew)); exact HO_9.out) hb); have n2_ := Aside0.mk (blk_below (g := gb155) (o := .cells #[.int .i64 t152, .int .u64 t153, .string t154] 35 (0, 0)) (by (with_reducible repeat (first | refine blk_drewN ?_ _ | refine blk_drew ?_ | refine blk_alloc ?_ _)); exact BK155.out) hb); have n3_ := Aside0.mk (below_step (by repeat (first | (with_reducible first | exact HB.out | apply below_alloc | apply pw_below_drewN | apply below_drew1 | refine below_set ?_ GE155.out) | exact HB.out)) hb); clear HO_7; clear HO_9; clear BK155; clear HB; have HO_7 := n0_; have HO_9 := n1_; have BK155 := n2_; have HB := n3_; clear n0_ n1_ n2_ n3_; (try clear hb); (try clear hb2); (try clear hk); (try clear hi); have p167 : 0 ≤ (x12_3 : Int) := of_decide_eq_true (by first | (with_reducible assumption) | assumption); have q167 : x12_3 < (t156.length : Int) := of_decide_eq_true (by first | (with_reducible assumption) | assumption); obtain ⟨ad167, e167, hx167_0, hx167_1, hx167_2, hx167_3, hx167_4, hx167_5, hx167_6⟩ := at_T31 (Kd.R_reads' HO_9.out).2.2 x12_3 p167 q167; (try rw [← Nbq36.out] at hx167_4); obtain rfl : ad162 = ad167 := (by injection e167); replace p167 := eq_true p167; replace q167 := eq_true q167; have p168 : 0 ≤ (x12_3 : Int) := of_decide_eq_true (by first | (with_reducible assumption) | assumption); have q168 : x12_3 < (t156.length : Int) := of_decide_eq_true (by first | (with_reducible assumption) | assumption); obtain ⟨ad168, e168, hx168_0, hx168_1, hx168_2, hx168_3, hx168_4, hx168_5, hx168_6⟩ := at_T31 (Kd.R_reads' HO_9.out).2.2 x12_3 p168 q168; (try rw [← Nbq36.out] at hx168_4); obtain rfl : ad162 = ad168 := (by injection e168); replace p168 := eq_true p168; replace q168 := eq_true q168; have p169 : 0 ≤ (x12_3 : Int) := of_decide_eq_true (by first | (with_reducible assumption) | assumption); have q169 : x12_3 < (t149.length : Int) := of_decide_eq_true (by first | (with_reducible assumption) | assumption); obtain ⟨ad169, e169, hx169_0, hx169_1, hx169_2, hx169_3, hx169_4, hx169_5, hx169_6⟩ := at_T28 (Kd.R_reads' HO_7.out).2.2 x12_3 p169 q169; (try rw [← Nbq36.out] at hx169_4); obtain rfl : ad161 = ad169 := (by injection e169); replace p169 := eq_true p169; replace q169 := eq_true q169) | (go_at_call 15; (with_reducible refine (sym_Symbol_Own.calls ((rd_T28 t149 x12_3).f0) ((rd_T28 t149 x12_3).f1) ((rd_T28 t149 x12_3).f2) ((rd_T28 t149 x12_3).f3) ((rd_T28 t149 x12_3).f4) ((rd_T28 t149 x12_3).f5) ((rd_T28 t149 x12_3).f6) t170 _ A46.out).mono ?_); rintro e w54 ⟨rfl, hb⟩; have n0_ := Aside0.mk (Kd.R_below (by (with_reducible repeat (first | apply Kd.R_alloc | apply Kd.R_drewN | apply Kd.R_drew)); exact HO_7.out) hb); have n1_ := Aside0.mk (Kd.R_below (by (with_reducible repeat (first | apply Kd.R_alloc | apply Kd.R_drewN | apply Kd.R_drew)); exact HO_9.out) hb); have n2_ := Aside0.mk (blk_below (g := gb155) (o := .cells #[.int .i64 t152, .int .u64 t153, .string t154] 35 (0, 0)) (by (with_reducible repeat (first | refine blk_drewN ?_ _ | refine blk_drew ?_ | refine blk_alloc ?_ _)); exact BK155.out) hb); have n3_ := Aside0.mk (below_step (by repeat (first | (with_reducible first | exact HB.out | apply below_alloc | apply pw_below_drewN | apply below_drew1 | refine below_set ?_ GE155.out) | exact HB.out)) hb); clear HO_7; clear HO_9; clear BK155; clear HB; have HO_7 := n0_; have HO_9 := n1_; have BK155 := n2_; have HB := n3_; clear n0_ n1_ n2_ n3_; (try clear hb); (try clear hb2); (try clear hk); (try clear hi); have p171 : 0 ≤ (x12_3 : Int) := of_decide_eq_true (by first | (with_reducible assumption) | assumption); have q171 : x12_3 < (t156.length : Int) := of_decide_eq_true (by first | (with_reducible assumption) | assumption); obtain ⟨ad171, e171, hx171_0, hx171_1, hx171_2, hx171_3, hx171_4, hx171_5, hx171_6⟩ := at_T31 (Kd.R_reads' HO_9.out).2.2 x12_3 p171 q171; (try rw [← Nbq36.out] at hx171_4); obtain rfl : ad162 = ad171 := (by injection e171); replace p171 := eq_true p171; replace q171 := eq_true q171))
                     go_ret
                     exact ⟨by first | rfl | (simp [errW_none, errW_some] <;> rfl) | (simp only [← hji6]; first | rfl | (simp [errW_none, errW_some] <;> rfl)) | (simp [*, errW_none, errW_some] <;> rfl), by repeat (first | (with_reducible first | exact HB.out | apply below_alloc | apply pw_below_drewN | apply below_drew1 | refine below_set ?_ GE155.out) | exact HB.out)⟩
                    ·rw [if_neg c48] at H
                     have c48b0 : (t170 != true) = false := by simpa using c48
                     (try (have c48b1 : decide (t170 = true) = true := by simpa using c48))
                     (try (have c48b2 : (t170 == true) = true := by simpa using c48))
                     clear c48
                     have H' := Aside0.mk H
                     clear H
                     have p164 : 0 ≤ (x12_3 : Int) := of_decide_eq_true (by first | (with_reducible assumption) | assumption)
                     have q164 : x12_3 < (t156.length : Int) := of_decide_eq_true (by first | (with_reducible assumption) | assumption)
                     obtain ⟨ad164, e164, hx164_0, hx164_1, hx164_2, hx164_3, hx164_4, hx164_5, hx164_6⟩ := at_T31 (Kd.R_reads' HO_9.out).2.2 x12_3 p164 q164
                     (try rw [← Nbq36.out] at hx164_4)
                     obtain rfl : ad162 = ad164 := (by injection e164)
                     replace p164 := eq_true p164
                     replace q164 := eq_true q164
                     have p165 : 0 ≤ (x12_3 : Int) := of_decide_eq_true (by first | (with_reducible assumption) | assumption)
                     have q165 : x12_3 < (t149.length : Int) := of_decide_eq_true (by first | (with_reducible assumption) | assumption)
                     obtain ⟨ad165, e165, hx165_0, hx165_1, hx165_2, hx165_3, hx165_4, hx165_5, hx165_6⟩ := at_T28 (Kd.R_reads' HO_7.out).2.2 x12_3 p165 q165
                     (try rw [← Nbq36.out] at hx165_4)
                     obtain rfl : ad161 = ad165 := (by injection e165)
                     replace p165 := eq_true p165
                     replace q165 := eq_true q165
                     try go_wp2_with (first | ((with_reducible refine gate_callee (f := 14) rfl ?_); refine goesL_ (some 85) rfl rfl Try.func14 (by kernel_rfl) rfl #[.agg #[.string ((rd_T28 t149 x12_3).f0), .int .i64 ((rd_T28 t149 x12_3).f1), .int .i64 ((rd_T28 t149 x12_3).f2), .int .i64 ((rd_T28 t149 x12_3).f3), .bool ((rd_T28 t149 x12_3).f4), .int .u64 ((rd_T28 t149 x12_3).f5), .int .u64 ((rd_T28 t149 x12_3).f6)]] rfl (by (try simp only [List.map_toArray, List.map_cons, List.map_nil]); first | done | rfl | (simp only [List.length_drop, List.length_take]; rfl)) ?_; (with_reducible refine (sym_Symbol_Exported.calls ((rd_T28 t149 x12_3).f0) ((rd_T28 t149 x12_3).f1) ((rd_T28 t149 x12_3).f2) ((rd_T28 t149 x12_3).f3) ((rd_T28 t149 x12_3).f4) ((rd_T28 t149 x12_3).f5) ((rd_T28 t149 x12_3).f6) t166 _ A35.out).mono ?_); rintro e w59 ⟨rfl, hb⟩; refine ⟨_, rfl, ?_⟩; have n0_ := Aside0.mk (Kd.R_below (by (with_reducible repeat (first | apply Kd.R_alloc | apply Kd.R_drewN | apply Kd.R_drew)); exact HO_7.out) hb); have n1_ := Aside0.mk (Kd.R_below (by (with_reducible repeat (first | apply Kd.R_alloc | apply Kd.R_drewN | apply Kd.R_drew)); exact HO_9.out) hb); have n2_ := Aside0.mk (blk_below (g := gb155) (o := .cells #[.int .i64 t152, .int .u64 t153, .string t154] 35 (0, 0)) (by (with_reducible repeat (first | refine blk_drewN ?_ _ | refine blk_drew ?_ | refine blk_alloc ?_ _)); exact BK155.out) hb); have n3_ := Aside0.mk (below_step (by repeat (first | (with_reducible first | exact HB.out | apply below_alloc | apply pw_below_drewN | apply below_drew1 | refine below_set ?_ GE155.out) | exact HB.out)) hb); clear HO_7; clear HO_9; clear BK155; clear HB; have HO_7 := n0_; have HO_9 := n1_; have BK155 := n2_; have HB := n3_; clear n0_ n1_ n2_ n3_; (try clear hb); (try clear hb2); (try clear hk); (try clear hi); have p167 : 0 ≤ (x12_3 : Int) := of_decide_eq_true (by first | (with_reducible assumption) | assumption); have q167 : x12_3 < (t156.length : Int) := of_decide_eq_true (by first | (with_reducible assumption) | assumption); obtain ⟨ad167, e167, hx167_0, hx167_1, hx167_2, hx167_3, hx167_4, hx167_5, hx167_6⟩ := at_T31 (Kd.R_reads' HO_9.out).2.2 x12_3 p167 q167; (try rw [← Nbq36.out] at hx167_4); obtain rfl : ad162 = ad167 := (by injection e167); replace p167 := eq_true p167; replace q167 := eq_true q167; have p168 : 0 ≤ (x12_3 : Int) := of_decide_eq_true (by first | (with_reducible assumption) | assumption); have q168 : x12_3 < (t156.length : Int) := of_decide_eq_true (by first | (with_reducible assumption) | assumption); obtain ⟨ad168, e168, hx168_0, hx168_1, hx168_2, hx168_3, hx168_4, hx168_5, hx168_6⟩ := at_T31 (Kd.R_reads' HO_9.out).2.2 x12_3 p168 q168; (try rw [← Nbq36.out] at hx168_4); obtain rfl : ad162 = ad168 := (by injection e168); replace p168 := eq_true p168; replace q168 := eq_true q168; have p169 : 0 ≤ (x12_3 : Int) := of_decide_eq_true (by first | (with_reducible assumption) | assumption); have q169 : x12_3 < (t149.length : Int) := of_decide_eq_true (by first | (with_reducible assumption) | assumption); obtain ⟨ad169, e169, hx169_0, hx169_1, hx169_2, hx169_3, hx169_4, hx169_5, hx169_6⟩ := at_T28 (Kd.R_reads' HO_7.out).2.2 x12_3 p169 q169; (try rw [← Nbq36.out] at hx169_4); obtain rfl : ad161 = ad169 := (by injection e169); replace p169 := eq_true p169; replace q169 := eq_true q169) | (go_at_call 15; (with_reducible refine (sym_Symbol_Own.calls ((rd_T28 t149 x12_3).f0) ((rd_T28 t149 x12_3).f1) ((rd_T28 t149 x12_3).f2) ((rd_T28 t149 x12_3).f3) ((rd_T28 t149 x12_3).f4) ((rd_T28 t149 x12_3).f5) ((rd_T28 t149 x12_3).f6) t170 _ A46.out).mono ?_); rintro e w60 ⟨rfl, hb⟩; have n0_ := Aside0.mk (Kd.R_below (by (with_reducible repeat (first | apply Kd.R_alloc | apply Kd.R_drewN | apply Kd.R_drew)); exact HO_7.out) hb); have n1_ := Aside0.mk (Kd.R_below (by (with_reducible repeat (first | apply Kd.R_alloc | apply Kd.R_drewN | apply Kd.R_drew)); exact HO_9.out) hb); have n2_ := Aside0.mk (blk_below (g := gb155) (o := .cells #[.int .i64 t152, .int .u64 t153, .string t154] 35 (0, 0)) (by (with_reducible repeat (first | refine blk_drewN ?_ _ | refine blk_drew ?_ | refine blk_alloc ?_ _)); exact BK155.out) hb); have n3_ := Aside0.mk (below_step (by repeat (first | (with_reducible first | exact HB.out | apply below_alloc | apply pw_below_drewN | apply below_drew1 | refine below_set ?_ GE155.out) | exact HB.out)) hb); clear HO_7; clear HO_9; clear BK155; clear HB; have HO_7 := n0_; have HO_9 := n1_; have BK155 := n2_; have HB := n3_; clear n0_ n1_ n2_ n3_; (try clear hb); (try clear hb2); (try clear hk); (try clear hi); have p171 : 0 ≤ (x12_3 : Int) := of_decide_eq_true (by first | (with_reducible assumption) | assumption); have q171 : x12_3 < (t156.length : Int) := of_decide_eq_true (by first | (with_reducible assumption) | assumption); obtain ⟨ad171, e171, hx171_0, hx171_1, hx171_2, hx171_3, hx171_4, hx171_5, hx171_6⟩ := at_T31 (Kd.R_reads' HO_9.out).2.2 x12_3 p171 q171; (try rw [← Nbq36.out] at hx171_4); obtain rfl : ad162 = ad171 := (by injection e171); replace p171 := eq_true p171; replace q171 := eq_true q171))
                     go_roundg k3
                     case measure => have := HJ8.out; have := HJ16.out; have := HK3.out; omega
                     case rel => exact ⟨(wrap64 (x12_3 + 1)), (by first | rfl | (simp; done) | (simp [*]; done)), H', ⟨by have := HJ8.out; have := HJ16.out; have := HK3.out; omega⟩, ⟨by (with_reducible repeat (first | apply Kd.R_alloc | apply Kd.R_drewN | apply Kd.R_drew)); exact HO_7.out⟩, ⟨by (with_reducible repeat (first | apply Kd.R_alloc | apply Kd.R_drewN | apply Kd.R_drew)); exact HO_9.out⟩, ⟨by (with_reducible repeat (first | refine blk_drewN ?_ _ | refine blk_drew ?_ | refine blk_alloc ?_ _)); exact BK155.out⟩, ⟨by repeat (first | (with_reducible first | exact HB.out | apply below_alloc | apply pw_below_drewN | apply below_drew1 | refine below_set ?_ GE155.out) | exact HB.out)⟩⟩
                   ·rw [if_neg c47] at H
                    have c47b0 : (((rd_T31 t156 x12_3).f1) == 0) = false := beq_eq_false_iff_ne.mpr c47
                    have c47b1 : (((rd_T31 t156 x12_3).f1) != 0) = true := bne_iff_ne.mpr c47
                    by_cases c61 : (t170 != (decide (((rd_T31 t156 x12_3).f3) > 0))) = true
                    ·rw [if_pos c61] at H
                     have c61b0 : (t170 != (decide (((rd_T31 t156 x12_3).f3) > 0))) = true := c61
                     (try (have c61b1 : decide (t170 = (decide (((rd_T31 t156 x12_3).f3) > 0))) = false := by simpa using c61))
                     (try (have c61b2 : (t170 == (decide (((rd_T31 t156 x12_3).f3) > 0))) = false := by simpa using c61))
                     (try (have c61b3 : ¬ (t170 = (decide (((rd_T31 t156 x12_3).f3) > 0))) := by simpa using c61))
                     clear c61
                     obtain rfl := Option.some.inj H
                     have p164 : 0 ≤ (x12_3 : Int) := of_decide_eq_true (by first | (with_reducible assumption) | assumption)
                     have q164 : x12_3 < (t156.length : Int) := of_decide_eq_true (by first | (with_reducible assumption) | assumption)
                     obtain ⟨ad164, e164, hx164_0, hx164_1, hx164_2, hx164_3, hx164_4, hx164_5, hx164_6⟩ := at_T31 (Kd.R_reads' HO_9.out).2.2 x12_3 p164 q164
                     (try rw [← Nbq36.out] at hx164_4)
                     obtain rfl : ad162 = ad164 := (by injection e164)
                     replace p164 := eq_true p164
                     replace q164 := eq_true q164
                     have p165 : 0 ≤ (x12_3 : Int) := of_decide_eq_true (by first | (with_reducible assumption) | assumption)
                     have q165 : x12_3 < (t149.length : Int) := of_decide_eq_true (by first | (with_reducible assumption) | assumption)
                     obtain ⟨ad165, e165, hx165_0, hx165_1, hx165_2, hx165_3, hx165_4, hx165_5, hx165_6⟩ := at_T28 (Kd.R_reads' HO_7.out).2.2 x12_3 p165 q165
                     (try rw [← Nbq36.out] at hx165_4)
                     obtain rfl : ad161 = ad165 := (by injection e165)
                     replace p165 := eq_true p165
                     replace q165 := eq_true q165
                     try go_wp2_with (first | ((with_reducible refine gate_callee (f := 14) rfl ?_); refine goesL_ (some 85) rfl rfl Try.func14 (by kernel_rfl) rfl #[.agg #[.string ((rd_T28 t149 x12_3).f0), .int .i64 ((rd_T28 t149 x12_3).f1), .int .i64 ((rd_T28 t149 x12_3).f2), .int .i64 ((rd_T28 t149 x12_3).f3), .bool ((rd_T28 t149 x12_3).f4), .int .u64 ((rd_T28 t149 x12_3).f5), .int .u64 ((rd_T28 t149 x12_3).f6)]] rfl (by (try simp only [List.map_toArray, List.map_cons, List.map_nil]); first | done | rfl | (simp only [List.length_drop, List.length_take]; rfl)) ?_; (with_reducible refine (sym_Symbol_Exported.calls ((rd_T28 t149 x12_3).f0) ((rd_T28 t149 x12_3).f1) ((rd_T28 t149 x12_3).f2) ((rd_T28 t149 x12_3).f3) ((rd_T28 t149 x12_3).f4) ((rd_T28 t149 x12_3).f5) ((rd_T28 t149 x12_3).f6) t166 _ A35.out).mono ?_); rintro e w66 ⟨rfl, hb⟩; refine ⟨_, rfl, ?_⟩; have n0_ := Aside0.mk (Kd.R_below (by (with_reducible repeat (first | apply Kd.R_alloc | apply Kd.R_drewN | apply Kd.R_drew)); exact HO_7.out) hb); have n1_ := Aside0.mk (Kd.R_below (by (with_reducible repeat (first | apply Kd.R_alloc | apply Kd.R_drewN | apply Kd.R_drew)); exact HO_9.out) hb); have n2_ := Aside0.mk (blk_below (g := gb155) (o := .cells #[.int .i64 t152, .int .u64 t153, .string t154] 35 (0, 0)) (by (with_reducible repeat (first | refine blk_drewN ?_ _ | refine blk_drew ?_ | refine blk_alloc ?_ _)); exact BK155.out) hb); have n3_ := Aside0.mk (below_step (by repeat (first | (with_reducible first | exact HB.out | apply below_alloc | apply pw_below_drewN | apply below_drew1 | refine below_set ?_ GE155.out) | exact HB.out)) hb); clear HO_7; clear HO_9; clear BK155; clear HB; have HO_7 := n0_; have HO_9 := n1_; have BK155 := n2_; have HB := n3_; clear n0_ n1_ n2_ n3_; (try clear hb); (try clear hb2); (try clear hk); (try clear hi); have p167 : 0 ≤ (x12_3 : Int) := of_decide_eq_true (by first | (with_reducible assumption) | assumption); have q167 : x12_3 < (t156.length : Int) := of_decide_eq_true (by first | (with_reducible assumption) | assumption); obtain ⟨ad167, e167, hx167_0, hx167_1, hx167_2, hx167_3, hx167_4, hx167_5, hx167_6⟩ := at_T31 (Kd.R_reads' HO_9.out).2.2 x12_3 p167 q167; (try rw [← Nbq36.out] at hx167_4); obtain rfl : ad162 = ad167 := (by injection e167); replace p167 := eq_true p167; replace q167 := eq_true q167; have p168 : 0 ≤ (x12_3 : Int) := of_decide_eq_true (by first | (with_reducible assumption) | assumption); have q168 : x12_3 < (t156.length : Int) := of_decide_eq_true (by first | (with_reducible assumption) | assumption); obtain ⟨ad168, e168, hx168_0, hx168_1, hx168_2, hx168_3, hx168_4, hx168_5, hx168_6⟩ := at_T31 (Kd.R_reads' HO_9.out).2.2 x12_3 p168 q168; (try rw [← Nbq36.out] at hx168_4); obtain rfl : ad162 = ad168 := (by injection e168); replace p168 := eq_true p168; replace q168 := eq_true q168; have p169 : 0 ≤ (x12_3 : Int) := of_decide_eq_true (by first | (with_reducible assumption) | assumption); have q169 : x12_3 < (t149.length : Int) := of_decide_eq_true (by first | (with_reducible assumption) | assumption); obtain ⟨ad169, e169, hx169_0, hx169_1, hx169_2, hx169_3, hx169_4, hx169_5, hx169_6⟩ := at_T28 (Kd.R_reads' HO_7.out).2.2 x12_3 p169 q169; (try rw [← Nbq36.out] at hx169_4); obtain rfl : ad161 = ad169 := (by injection e169); replace p169 := eq_true p169; replace q169 := eq_true q169) | (go_at_call 15; (with_reducible refine (sym_Symbol_Own.calls ((rd_T28 t149 x12_3).f0) ((rd_T28 t149 x12_3).f1) ((rd_T28 t149 x12_3).f2) ((rd_T28 t149 x12_3).f3) ((rd_T28 t149 x12_3).f4) ((rd_T28 t149 x12_3).f5) ((rd_T28 t149 x12_3).f6) t170 _ A46.out).mono ?_); rintro e w67 ⟨rfl, hb⟩; have n0_ := Aside0.mk (Kd.R_below (by (with_reducible repeat (first | apply Kd.R_alloc | apply Kd.R_drewN | apply Kd.R_drew)); exact HO_7.out) hb); have n1_ := Aside0.mk (Kd.R_below (by (with_reducible repeat (first | apply Kd.R_alloc | apply Kd.R_drewN | apply Kd.R_drew)); exact HO_9.out) hb); have n2_ := Aside0.mk (blk_below (g := gb155) (o := .cells #[.int .i64 t152, .int .u64 t153, .string t154] 35 (0, 0)) (by (with_reducible repeat (first | refine blk_drewN ?_ _ | refine blk_drew ?_ | refine blk_alloc ?_ _)); exact BK155.out) hb); have n3_ := Aside0.mk (below_step (by repeat (first | (with_reducible first | exact HB.out | apply below_alloc | apply pw_below_drewN | apply below_drew1 | refine below_set ?_ GE155.out) | exact HB.out)) hb); clear HO_7; clear HO_9; clear BK155; clear HB; have HO_7 := n0_; have HO_9 := n1_; have BK155 := n2_; have HB := n3_; clear n0_ n1_ n2_ n3_; (try clear hb); (try clear hb2); (try clear hk); (try clear hi); have p171 : 0 ≤ (x12_3 : Int) := of_decide_eq_true (by first | (with_reducible assumption) | assumption); have q171 : x12_3 < (t156.length : Int) := of_decide_eq_true (by first | (with_reducible assumption) | assumption); obtain ⟨ad171, e171, hx171_0, hx171_1, hx171_2, hx171_3, hx171_4, hx171_5, hx171_6⟩ := at_T31 (Kd.R_reads' HO_9.out).2.2 x12_3 p171 q171; (try rw [← Nbq36.out] at hx171_4); obtain rfl : ad162 = ad171 := (by injection e171); replace p171 := eq_true p171; replace q171 := eq_true q171; have p172 : 0 ≤ (x12_3 : Int) := of_decide_eq_true (by first | (with_reducible assumption) | assumption); have q172 : x12_3 < (t156.length : Int) := of_decide_eq_true (by first | (with_reducible assumption) | assumption); obtain ⟨ad172, e172, hx172_0, hx172_1, hx172_2, hx172_3, hx172_4, hx172_5, hx172_6⟩ := at_T31 (Kd.R_reads' HO_9.out).2.2 x12_3 p172 q172; (try rw [← Nbq36.out] at hx172_4); obtain rfl : ad162 = ad172 := (by injection e172); replace p172 := eq_true p172; replace q172 := eq_true q172))
                     go_ret
                     exact ⟨by first | rfl | (simp [errW_none, errW_some] <;> rfl) | (simp only [← hji6]; first | rfl | (simp [errW_none, errW_some] <;> rfl)) | (simp [*, errW_none, errW_some] <;> rfl), by repeat (first | (with_reducible first | exact HB.out | apply below_alloc | apply pw_below_drewN | apply below_drew1 | refine below_set ?_ GE155.out) | exact HB.out)⟩
                    ·rw [if_neg c61] at H
                     have c61b0 : (t170 != (decide (((rd_T31 t156 x12_3).f3) > 0))) = false := by simpa using c61
                     (try (have c61b1 : decide (t170 = (decide (((rd_T31 t156 x12_3).f3) > 0))) = true := by simpa using c61))
                     (try (have c61b2 : (t170 == (decide (((rd_T31 t156 x12_3).f3) > 0))) = true := by simpa using c61))
                     clear c61
                     have H' := Aside0.mk H
                     clear H
                     have p164 : 0 ≤ (x12_3 : Int) := of_decide_eq_true (by first | (with_reducible assumption) | assumption)
                     have q164 : x12_3 < (t156.length : Int) := of_decide_eq_true (by first | (with_reducible assumption) | assumption)
                     obtain ⟨ad164, e164, hx164_0, hx164_1, hx164_2, hx164_3, hx164_4, hx164_5, hx164_6⟩ := at_T31 (Kd.R_reads' HO_9.out).2.2 x12_3 p164 q164
                     (try rw [← Nbq36.out] at hx164_4)
                     obtain rfl : ad162 = ad164 := (by injection e164)
                     replace p164 := eq_true p164
                     replace q164 := eq_true q164
                     have p165 : 0 ≤ (x12_3 : Int) := of_decide_eq_true (by first | (with_reducible assumption) | assumption)
                     have q165 : x12_3 < (t149.length : Int) := of_decide_eq_true (by first | (with_reducible assumption) | assumption)
                     obtain ⟨ad165, e165, hx165_0, hx165_1, hx165_2, hx165_3, hx165_4, hx165_5, hx165_6⟩ := at_T28 (Kd.R_reads' HO_7.out).2.2 x12_3 p165 q165
                     (try rw [← Nbq36.out] at hx165_4)
                     obtain rfl : ad161 = ad165 := (by injection e165)
                     replace p165 := eq_true p165
                     replace q165 := eq_true q165
                     try go_wp2_with (first | ((with_reducible refine gate_callee (f := 14) rfl ?_); refine goesL_ (some 85) rfl rfl Try.func14 (by kernel_rfl) rfl #[.agg #[.string ((rd_T28 t149 x12_3).f0), .int .i64 ((rd_T28 t149 x12_3).f1), .int .i64 ((rd_T28 t149 x12_3).f2), .int .i64 ((rd_T28 t149 x12_3).f3), .bool ((rd_T28 t149 x12_3).f4), .int .u64 ((rd_T28 t149 x12_3).f5), .int .u64 ((rd_T28 t149 x12_3).f6)]] rfl (by (try simp only [List.map_toArray, List.map_cons, List.map_nil]); first | done | rfl | (simp only [List.length_drop, List.length_take]; rfl)) ?_; (with_reducible refine (sym_Symbol_Exported.calls ((rd_T28 t149 x12_3).f0) ((rd_T28 t149 x12_3).f1) ((rd_T28 t149 x12_3).f2) ((rd_T28 t149 x12_3).f3) ((rd_T28 t149 x12_3).f4) ((rd_T28 t149 x12_3).f5) ((rd_T28 t149 x12_3).f6) t166 _ A35.out).mono ?_); rintro e w72 ⟨rfl, hb⟩; refine ⟨_, rfl, ?_⟩; have n0_ := Aside0.mk (Kd.R_below (by (with_reducible repeat (first | apply Kd.R_alloc | apply Kd.R_drewN | apply Kd.R_drew)); exact HO_7.out) hb); have n1_ := Aside0.mk (Kd.R_below (by (with_reducible repeat (first | apply Kd.R_alloc | apply Kd.R_drewN | apply Kd.R_drew)); exact HO_9.out) hb); have n2_ := Aside0.mk (blk_below (g := gb155) (o := .cells #[.int .i64 t152, .int .u64 t153, .string t154] 35 (0, 0)) (by (with_reducible repeat (first | refine blk_drewN ?_ _ | refine blk_drew ?_ | refine blk_alloc ?_ _)); exact BK155.out) hb); have n3_ := Aside0.mk (below_step (by repeat (first | (with_reducible first | exact HB.out | apply below_alloc | apply pw_below_drewN | apply below_drew1 | refine below_set ?_ GE155.out) | exact HB.out)) hb); clear HO_7; clear HO_9; clear BK155; clear HB; have HO_7 := n0_; have HO_9 := n1_; have BK155 := n2_; have HB := n3_; clear n0_ n1_ n2_ n3_; (try clear hb); (try clear hb2); (try clear hk); (try clear hi); have p167 : 0 ≤ (x12_3 : Int) := of_decide_eq_true (by first | (with_reducible assumption) | assumption); have q167 : x12_3 < (t156.length : Int) := of_decide_eq_true (by first | (with_reducible assumption) | assumption); obtain ⟨ad167, e167, hx167_0, hx167_1, hx167_2, hx167_3, hx167_4, hx167_5, hx167_6⟩ := at_T31 (Kd.R_reads' HO_9.out).2.2 x12_3 p167 q167; (try rw [← Nbq36.out] at hx167_4); obtain rfl : ad162 = ad167 := (by injection e167); replace p167 := eq_true p167; replace q167 := eq_true q167; have p168 : 0 ≤ (x12_3 : Int) := of_decide_eq_true (by first | (with_reducible assumption) | assumption); have q168 : x12_3 < (t156.length : Int) := of_decide_eq_true (by first | (with_reducible assumption) | assumption); obtain ⟨ad168, e168, hx168_0, hx168_1, hx168_2, hx168_3, hx168_4, hx168_5, hx168_6⟩ := at_T31 (Kd.R_reads' HO_9.out).2.2 x12_3 p168 q168; (try rw [← Nbq36.out] at hx168_4); obtain rfl : ad162 = ad168 := (by injection e168); replace p168 := eq_true p168; replace q168 := eq_true q168; have p169 : 0 ≤ (x12_3 : Int) := of_decide_eq_true (by first | (with_reducible assumption) | assumption); have q169 : x12_3 < (t149.length : Int) := of_decide_eq_true (by first | (with_reducible assumption) | assumption); obtain ⟨ad169, e169, hx169_0, hx169_1, hx169_2, hx169_3, hx169_4, hx169_5, hx169_6⟩ := at_T28 (Kd.R_reads' HO_7.out).2.2 x12_3 p169 q169; (try rw [← Nbq36.out] at hx169_4); obtain rfl : ad161 = ad169 := (by injection e169); replace p169 := eq_true p169; replace q169 := eq_true q169) | (go_at_call 15; (with_reducible refine (sym_Symbol_Own.calls ((rd_T28 t149 x12_3).f0) ((rd_T28 t149 x12_3).f1) ((rd_T28 t149 x12_3).f2) ((rd_T28 t149 x12_3).f3) ((rd_T28 t149 x12_3).f4) ((rd_T28 t149 x12_3).f5) ((rd_T28 t149 x12_3).f6) t170 _ A46.out).mono ?_); rintro e w73 ⟨rfl, hb⟩; have n0_ := Aside0.mk (Kd.R_below (by (with_reducible repeat (first | apply Kd.R_alloc | apply Kd.R_drewN | apply Kd.R_drew)); exact HO_7.out) hb); have n1_ := Aside0.mk (Kd.R_below (by (with_reducible repeat (first | apply Kd.R_alloc | apply Kd.R_drewN | apply Kd.R_drew)); exact HO_9.out) hb); have n2_ := Aside0.mk (blk_below (g := gb155) (o := .cells #[.int .i64 t152, .int .u64 t153, .string t154] 35 (0, 0)) (by (with_reducible repeat (first | refine blk_drewN ?_ _ | refine blk_drew ?_ | refine blk_alloc ?_ _)); exact BK155.out) hb); have n3_ := Aside0.mk (below_step (by repeat (first | (with_reducible first | exact HB.out | apply below_alloc | apply pw_below_drewN | apply below_drew1 | refine below_set ?_ GE155.out) | exact HB.out)) hb); clear HO_7; clear HO_9; clear BK155; clear HB; have HO_7 := n0_; have HO_9 := n1_; have BK155 := n2_; have HB := n3_; clear n0_ n1_ n2_ n3_; (try clear hb); (try clear hb2); (try clear hk); (try clear hi); have p171 : 0 ≤ (x12_3 : Int) := of_decide_eq_true (by first | (with_reducible assumption) | assumption); have q171 : x12_3 < (t156.length : Int) := of_decide_eq_true (by first | (with_reducible assumption) | assumption); obtain ⟨ad171, e171, hx171_0, hx171_1, hx171_2, hx171_3, hx171_4, hx171_5, hx171_6⟩ := at_T31 (Kd.R_reads' HO_9.out).2.2 x12_3 p171 q171; (try rw [← Nbq36.out] at hx171_4); obtain rfl : ad162 = ad171 := (by injection e171); replace p171 := eq_true p171; replace q171 := eq_true q171; have p172 : 0 ≤ (x12_3 : Int) := of_decide_eq_true (by first | (with_reducible assumption) | assumption); have q172 : x12_3 < (t156.length : Int) := of_decide_eq_true (by first | (with_reducible assumption) | assumption); obtain ⟨ad172, e172, hx172_0, hx172_1, hx172_2, hx172_3, hx172_4, hx172_5, hx172_6⟩ := at_T31 (Kd.R_reads' HO_9.out).2.2 x12_3 p172 q172; (try rw [← Nbq36.out] at hx172_4); obtain rfl : ad162 = ad172 := (by injection e172); replace p172 := eq_true p172; replace q172 := eq_true q172))
                     go_roundg k3
                     case measure => have := HJ8.out; have := HJ16.out; have := HK3.out; omega
                     case rel => exact ⟨(wrap64 (x12_3 + 1)), (by first | rfl | (simp; done) | (simp [*]; done)), H', ⟨by have := HJ8.out; have := HJ16.out; have := HK3.out; omega⟩, ⟨by (with_reducible repeat (first | apply Kd.R_alloc | apply Kd.R_drewN | apply Kd.R_drew)); exact HO_7.out⟩, ⟨by (with_reducible repeat (first | apply Kd.R_alloc | apply Kd.R_drewN | apply Kd.R_drew)); exact HO_9.out⟩, ⟨by (with_reducible repeat (first | refine blk_drewN ?_ _ | refine blk_drew ?_ | refine blk_alloc ?_ _)); exact BK155.out⟩, ⟨by repeat (first | (with_reducible first | exact HB.out | apply below_alloc | apply pw_below_drewN | apply below_drew1 | refine below_set ?_ GE155.out) | exact HB.out)⟩⟩
                 ·rw [if_neg c39] at H
                  have c39b0 : (((rd_T31 t156 x12_3).f3) == 0) = false := beq_eq_false_iff_ne.mpr c39
                  have c39b1 : (((rd_T31 t156 x12_3).f3) != 0) = true := bne_iff_ne.mpr c39
                  by_cases c74 : (t166 != (((rd_T31 t156 x12_3).f3) == 3)) = true
                  ·rw [if_pos c74] at H
                   have c74b0 : (t166 != (((rd_T31 t156 x12_3).f3) == 3)) = true := c74
                   (try (have c74b1 : decide (t166 = (((rd_T31 t156 x12_3).f3) == 3)) = false := by simpa using c74))
                   (try (have c74b2 : (t166 == (((rd_T31 t156 x12_3).f3) == 3)) = false := by simpa using c74))
                   (try (have c74b3 : ¬ (t166 = (((rd_T31 t156 x12_3).f3) == 3)) := by simpa using c74))
                   clear c74
                   obtain rfl := Option.some.inj H
                   have p164 : 0 ≤ (x12_3 : Int) := of_decide_eq_true (by first | (with_reducible assumption) | assumption)
                   have q164 : x12_3 < (t156.length : Int) := of_decide_eq_true (by first | (with_reducible assumption) | assumption)
                   obtain ⟨ad164, e164, hx164_0, hx164_1, hx164_2, hx164_3, hx164_4, hx164_5, hx164_6⟩ := at_T31 (Kd.R_reads' HO_9.out).2.2 x12_3 p164 q164
                   (try rw [← Nbq36.out] at hx164_4)
                   obtain rfl : ad162 = ad164 := (by injection e164)
                   replace p164 := eq_true p164
                   replace q164 := eq_true q164
                   have p165 : 0 ≤ (x12_3 : Int) := of_decide_eq_true (by first | (with_reducible assumption) | assumption)
                   have q165 : x12_3 < (t149.length : Int) := of_decide_eq_true (by first | (with_reducible assumption) | assumption)
                   obtain ⟨ad165, e165, hx165_0, hx165_1, hx165_2, hx165_3, hx165_4, hx165_5, hx165_6⟩ := at_T28 (Kd.R_reads' HO_7.out).2.2 x12_3 p165 q165
                   (try rw [← Nbq36.out] at hx165_4)
                   obtain rfl : ad161 = ad165 := (by injection e165)
                   replace p165 := eq_true p165
                   replace q165 := eq_true q165
                   try go_wp2_with (first | ((with_reducible refine gate_callee (f := 14) rfl ?_); refine goesL_ (some 85) rfl rfl Try.func14 (by kernel_rfl) rfl #[.agg #[.string ((rd_T28 t149 x12_3).f0), .int .i64 ((rd_T28 t149 x12_3).f1), .int .i64 ((rd_T28 t149 x12_3).f2), .int .i64 ((rd_T28 t149 x12_3).f3), .bool ((rd_T28 t149 x12_3).f4), .int .u64 ((rd_T28 t149 x12_3).f5), .int .u64 ((rd_T28 t149 x12_3).f6)]] rfl (by (try simp only [List.map_toArray, List.map_cons, List.map_nil]); first | done | rfl | (simp only [List.length_drop, List.length_take]; rfl)) ?_; (with_reducible refine (sym_Symbol_Exported.calls ((rd_T28 t149 x12_3).f0) ((rd_T28 t149 x12_3).f1) ((rd_T28 t149 x12_3).f2) ((rd_T28 t149 x12_3).f3) ((rd_T28 t149 x12_3).f4) ((rd_T28 t149 x12_3).f5) ((rd_T28 t149 x12_3).f6) t166 _ A35.out).mono ?_); rintro e w79 ⟨rfl, hb⟩; refine ⟨_, rfl, ?_⟩; have n0_ := Aside0.mk (Kd.R_below (by (with_reducible repeat (first | apply Kd.R_alloc | apply Kd.R_drewN | apply Kd.R_drew)); exact HO_7.out) hb); have n1_ := Aside0.mk (Kd.R_below (by (with_reducible repeat (first | apply Kd.R_alloc | apply Kd.R_drewN | apply Kd.R_drew)); exact HO_9.out) hb); have n2_ := Aside0.mk (blk_below (g := gb155) (o := .cells #[.int .i64 t152, .int .u64 t153, .string t154] 35 (0, 0)) (by (with_reducible repeat (first | refine blk_drewN ?_ _ | refine blk_drew ?_ | refine blk_alloc ?_ _)); exact BK155.out) hb); have n3_ := Aside0.mk (below_step (by repeat (first | (with_reducible first | exact HB.out | apply below_alloc | apply pw_below_drewN | apply below_drew1 | refine below_set ?_ GE155.out) | exact HB.out)) hb); clear HO_7; clear HO_9; clear BK155; clear HB; have HO_7 := n0_; have HO_9 := n1_; have BK155 := n2_; have HB := n3_; clear n0_ n1_ n2_ n3_; (try clear hb); (try clear hb2); (try clear hk); (try clear hi); have p167 : 0 ≤ (x12_3 : Int) := of_decide_eq_true (by first | (with_reducible assumption) | assumption); have q167 : x12_3 < (t156.length : Int) := of_decide_eq_true (by first | (with_reducible assumption) | assumption); obtain ⟨ad167, e167, hx167_0, hx167_1, hx167_2, hx167_3, hx167_4, hx167_5, hx167_6⟩ := at_T31 (Kd.R_reads' HO_9.out).2.2 x12_3 p167 q167; (try rw [← Nbq36.out] at hx167_4); obtain rfl : ad162 = ad167 := (by injection e167); replace p167 := eq_true p167; replace q167 := eq_true q167; have p168 : 0 ≤ (x12_3 : Int) := of_decide_eq_true (by first | (with_reducible assumption) | assumption); have q168 : x12_3 < (t156.length : Int) := of_decide_eq_true (by first | (with_reducible assumption) | assumption); obtain ⟨ad168, e168, hx168_0, hx168_1, hx168_2, hx168_3, hx168_4, hx168_5, hx168_6⟩ := at_T31 (Kd.R_reads' HO_9.out).2.2 x12_3 p168 q168; (try rw [← Nbq36.out] at hx168_4); obtain rfl : ad162 = ad168 := (by injection e168); replace p168 := eq_true p168; replace q168 := eq_true q168; have p173 : 0 ≤ (x12_3 : Int) := of_decide_eq_true (by first | (with_reducible assumption) | assumption); have q173 : x12_3 < (t156.length : Int) := of_decide_eq_true (by first | (with_reducible assumption) | assumption); obtain ⟨ad173, e173, hx173_0, hx173_1, hx173_2, hx173_3, hx173_4, hx173_5, hx173_6⟩ := at_T31 (Kd.R_reads' HO_9.out).2.2 x12_3 p173 q173; (try rw [← Nbq36.out] at hx173_4); obtain rfl : ad162 = ad173 := (by injection e173); replace p173 := eq_true p173; replace q173 := eq_true q173))
                   go_ret
                   exact ⟨by first | rfl | (simp [errW_none, errW_some] <;> rfl) | (simp only [← hji6]; first | rfl | (simp [errW_none, errW_some] <;> rfl)) | (simp [*, errW_none, errW_some] <;> rfl), by repeat (first | (with_reducible first | exact HB.out | apply below_alloc | apply pw_below_drewN | apply below_drew1 | refine below_set ?_ GE155.out) | exact HB.out)⟩
                  ·rw [if_neg c74] at H
                   have c74b0 : (t166 != (((rd_T31 t156 x12_3).f3) == 3)) = false := by simpa using c74
                   (try (have c74b1 : decide (t166 = (((rd_T31 t156 x12_3).f3) == 3)) = true := by simpa using c74))
                   (try (have c74b2 : (t166 == (((rd_T31 t156 x12_3).f3) == 3)) = true := by simpa using c74))
                   clear c74
                   replace H := Option.bind_eq_some_iff.mp H
                   obtain ⟨t175, A800, H⟩ := H
                   replace H : (if ((rd_T31 t156 x12_3).f1) = 0 then (if (t175 != true) = true then (some false) else (turnbucklelaw11_SymReads.l0 k3 t149 t156 (wrap64 (x12_3 + 1)))) else (if (t175 != (decide (((rd_T31 t156 x12_3).f3) > 0))) = true then (some false) else (turnbucklelaw11_SymReads.l0 k3 t149 t156 (wrap64 (x12_3 + 1))))) = some r := H
                   have A80 := Aside0.mk A800
                   clear A800
                   by_cases c81 : ((rd_T31 t156 x12_3).f1) = 0
                   ·rw [if_pos c81] at H
                    have c81b0 : (((rd_T31 t156 x12_3).f1) == 0) = true := beq_iff_eq.mpr c81
                    have c81b1 : (((rd_T31 t156 x12_3).f1) != 0) = false := bne_eq_false_iff_eq.mpr c81
                    clear c81
                    by_cases c82 : (t175 != true) = true
                    ·rw [if_pos c82] at H
                     have c82b0 : (t175 != true) = true := c82
                     (try (have c82b1 : decide (t175 = true) = false := by simpa using c82))
                     (try (have c82b2 : (t175 == true) = false := by simpa using c82))
                     (try (have c82b3 : ¬ (t175 = true) := by simpa using c82))
                     clear c82
                     obtain rfl := Option.some.inj H
                     have p164 : 0 ≤ (x12_3 : Int) := of_decide_eq_true (by first | (with_reducible assumption) | assumption)
                     have q164 : x12_3 < (t156.length : Int) := of_decide_eq_true (by first | (with_reducible assumption) | assumption)
                     obtain ⟨ad164, e164, hx164_0, hx164_1, hx164_2, hx164_3, hx164_4, hx164_5, hx164_6⟩ := at_T31 (Kd.R_reads' HO_9.out).2.2 x12_3 p164 q164
                     (try rw [← Nbq36.out] at hx164_4)
                     obtain rfl : ad162 = ad164 := (by injection e164)
                     replace p164 := eq_true p164
                     replace q164 := eq_true q164
                     have p165 : 0 ≤ (x12_3 : Int) := of_decide_eq_true (by first | (with_reducible assumption) | assumption)
                     have q165 : x12_3 < (t149.length : Int) := of_decide_eq_true (by first | (with_reducible assumption) | assumption)
                     obtain ⟨ad165, e165, hx165_0, hx165_1, hx165_2, hx165_3, hx165_4, hx165_5, hx165_6⟩ := at_T28 (Kd.R_reads' HO_7.out).2.2 x12_3 p165 q165
                     (try rw [← Nbq36.out] at hx165_4)
                     obtain rfl : ad161 = ad165 := (by injection e165)
                     replace p165 := eq_true p165
                     replace q165 := eq_true q165
                     try go_wp2_with (first | ((with_reducible refine gate_callee (f := 14) rfl ?_); refine goesL_ (some 85) rfl rfl Try.func14 (by kernel_rfl) rfl #[.agg #[.string ((rd_T28 t149 x12_3).f0), .int .i64 ((rd_T28 t149 x12_3).f1), .int .i64 ((rd_T28 t149 x12_3).f2), .int .i64 ((rd_T28 t149 x12_3).f3), .bool ((rd_T28 t149 x12_3).f4), .int .u64 ((rd_T28 t149 x12_3).f5), .int .u64 ((rd_T28 t149 x12_3).f6)]] rfl (by (try simp only [List.map_toArray, List.map_cons, List.map_nil]); first | done | rfl | (simp only [List.length_drop, List.length_take]; rfl)) ?_; (with_reducible refine (sym_Symbol_Exported.calls ((rd_T28 t149 x12_3).f0) ((rd_T28 t149 x12_3).f1) ((rd_T28 t149 x12_3).f2) ((rd_T28 t149 x12_3).f3) ((rd_T28 t149 x12_3).f4) ((rd_T28 t149 x12_3).f5) ((rd_T28 t149 x12_3).f6) t166 _ A35.out).mono ?_); rintro e w87 ⟨rfl, hb⟩; refine ⟨_, rfl, ?_⟩; have n0_ := Aside0.mk (Kd.R_below (by (with_reducible repeat (first | apply Kd.R_alloc | apply Kd.R_drewN | apply Kd.R_drew)); exact HO_7.out) hb); have n1_ := Aside0.mk (Kd.R_below (by (with_reducible repeat (first | apply Kd.R_alloc | apply Kd.R_drewN | apply Kd.R_drew)); exact HO_9.out) hb); have n2_ := Aside0.mk (blk_below (g := gb155) (o := .cells #[.int .i64 t152, .int .u64 t153, .string t154] 35 (0, 0)) (by (with_reducible repeat (first | refine blk_drewN ?_ _ | refine blk_drew ?_ | refine blk_alloc ?_ _)); exact BK155.out) hb); have n3_ := Aside0.mk (below_step (by repeat (first | (with_reducible first | exact HB.out | apply below_alloc | apply pw_below_drewN | apply below_drew1 | refine below_set ?_ GE155.out) | exact HB.out)) hb); clear HO_7; clear HO_9; clear BK155; clear HB; have HO_7 := n0_; have HO_9 := n1_; have BK155 := n2_; have HB := n3_; clear n0_ n1_ n2_ n3_; (try clear hb); (try clear hb2); (try clear hk); (try clear hi); have p167 : 0 ≤ (x12_3 : Int) := of_decide_eq_true (by first | (with_reducible assumption) | assumption); have q167 : x12_3 < (t156.length : Int) := of_decide_eq_true (by first | (with_reducible assumption) | assumption); obtain ⟨ad167, e167, hx167_0, hx167_1, hx167_2, hx167_3, hx167_4, hx167_5, hx167_6⟩ := at_T31 (Kd.R_reads' HO_9.out).2.2 x12_3 p167 q167; (try rw [← Nbq36.out] at hx167_4); obtain rfl : ad162 = ad167 := (by injection e167); replace p167 := eq_true p167; replace q167 := eq_true q167; have p168 : 0 ≤ (x12_3 : Int) := of_decide_eq_true (by first | (with_reducible assumption) | assumption); have q168 : x12_3 < (t156.length : Int) := of_decide_eq_true (by first | (with_reducible assumption) | assumption); obtain ⟨ad168, e168, hx168_0, hx168_1, hx168_2, hx168_3, hx168_4, hx168_5, hx168_6⟩ := at_T31 (Kd.R_reads' HO_9.out).2.2 x12_3 p168 q168; (try rw [← Nbq36.out] at hx168_4); obtain rfl : ad162 = ad168 := (by injection e168); replace p168 := eq_true p168; replace q168 := eq_true q168; have p173 : 0 ≤ (x12_3 : Int) := of_decide_eq_true (by first | (with_reducible assumption) | assumption); have q173 : x12_3 < (t156.length : Int) := of_decide_eq_true (by first | (with_reducible assumption) | assumption); obtain ⟨ad173, e173, hx173_0, hx173_1, hx173_2, hx173_3, hx173_4, hx173_5, hx173_6⟩ := at_T31 (Kd.R_reads' HO_9.out).2.2 x12_3 p173 q173; (try rw [← Nbq36.out] at hx173_4); obtain rfl : ad162 = ad173 := (by injection e173); replace p173 := eq_true p173; replace q173 := eq_true q173; have p174 : 0 ≤ (x12_3 : Int) := of_decide_eq_true (by first | (with_reducible assumption) | assumption); have q174 : x12_3 < (t149.length : Int) := of_decide_eq_true (by first | (with_reducible assumption) | assumption); obtain ⟨ad174, e174, hx174_0, hx174_1, hx174_2, hx174_3, hx174_4, hx174_5, hx174_6⟩ := at_T28 (Kd.R_reads' HO_7.out).2.2 x12_3 p174 q174; (try rw [← Nbq36.out] at hx174_4); obtain rfl : ad161 = ad174 := (by injection e174); replace p174 := eq_true p174; replace q174 := eq_true q174) | (go_at_call 15; (with_reducible refine (sym_Symbol_Own.calls ((rd_T28 t149 x12_3).f0) ((rd_T28 t149 x12_3).f1) ((rd_T28 t149 x12_3).f2) ((rd_T28 t149 x12_3).f3) ((rd_T28 t149 x12_3).f4) ((rd_T28 t149 x12_3).f5) ((rd_T28 t149 x12_3).f6) t175 _ A80.out).mono ?_); rintro e w88 ⟨rfl, hb⟩; have n0_ := Aside0.mk (Kd.R_below (by (with_reducible repeat (first | apply Kd.R_alloc | apply Kd.R_drewN | apply Kd.R_drew)); exact HO_7.out) hb); have n1_ := Aside0.mk (Kd.R_below (by (with_reducible repeat (first | apply Kd.R_alloc | apply Kd.R_drewN | apply Kd.R_drew)); exact HO_9.out) hb); have n2_ := Aside0.mk (blk_below (g := gb155) (o := .cells #[.int .i64 t152, .int .u64 t153, .string t154] 35 (0, 0)) (by (with_reducible repeat (first | refine blk_drewN ?_ _ | refine blk_drew ?_ | refine blk_alloc ?_ _)); exact BK155.out) hb); have n3_ := Aside0.mk (below_step (by repeat (first | (with_reducible first | exact HB.out | apply below_alloc | apply pw_below_drewN | apply below_drew1 | refine below_set ?_ GE155.out) | exact HB.out)) hb); clear HO_7; clear HO_9; clear BK155; clear HB; have HO_7 := n0_; have HO_9 := n1_; have BK155 := n2_; have HB := n3_; clear n0_ n1_ n2_ n3_; (try clear hb); (try clear hb2); (try clear hk); (try clear hi); have p176 : 0 ≤ (x12_3 : Int) := of_decide_eq_true (by first | (with_reducible assumption) | assumption); have q176 : x12_3 < (t156.length : Int) := of_decide_eq_true (by first | (with_reducible assumption) | assumption); obtain ⟨ad176, e176, hx176_0, hx176_1, hx176_2, hx176_3, hx176_4, hx176_5, hx176_6⟩ := at_T31 (Kd.R_reads' HO_9.out).2.2 x12_3 p176 q176; (try rw [← Nbq36.out] at hx176_4); obtain rfl : ad162 = ad176 := (by injection e176); replace p176 := eq_true p176; replace q176 := eq_true q176))
                     go_ret
                     exact ⟨by first | rfl | (simp [errW_none, errW_some] <;> rfl) | (simp only [← hji6]; first | rfl | (simp [errW_none, errW_some] <;> rfl)) | (simp [*, errW_none, errW_some] <;> rfl), by repeat (first | (with_reducible first | exact HB.out | apply below_alloc | apply pw_below_drewN | apply below_drew1 | refine below_set ?_ GE155.out) | exact HB.out)⟩
                    ·rw [if_neg c82] at H
                     have c82b0 : (t175 != true) = false := by simpa using c82
                     (try (have c82b1 : decide (t175 = true) = true := by simpa using c82))
                     (try (have c82b2 : (t175 == true) = true := by simpa using c82))
                     clear c82
                     have H' := Aside0.mk H
                     clear H
                     have p164 : 0 ≤ (x12_3 : Int) := of_decide_eq_true (by first | (with_reducible assumption) | assumption)
                     have q164 : x12_3 < (t156.length : Int) := of_decide_eq_true (by first | (with_reducible assumption) | assumption)
                     obtain ⟨ad164, e164, hx164_0, hx164_1, hx164_2, hx164_3, hx164_4, hx164_5, hx164_6⟩ := at_T31 (Kd.R_reads' HO_9.out).2.2 x12_3 p164 q164
                     (try rw [← Nbq36.out] at hx164_4)
                     obtain rfl : ad162 = ad164 := (by injection e164)
                     replace p164 := eq_true p164
                     replace q164 := eq_true q164
                     have p165 : 0 ≤ (x12_3 : Int) := of_decide_eq_true (by first | (with_reducible assumption) | assumption)
                     have q165 : x12_3 < (t149.length : Int) := of_decide_eq_true (by first | (with_reducible assumption) | assumption)
                     obtain ⟨ad165, e165, hx165_0, hx165_1, hx165_2, hx165_3, hx165_4, hx165_5, hx165_6⟩ := at_T28 (Kd.R_reads' HO_7.out).2.2 x12_3 p165 q165
                     (try rw [← Nbq36.out] at hx165_4)
                     obtain rfl : ad161 = ad165 := (by injection e165)
                     replace p165 := eq_true p165
                     replace q165 := eq_true q165
                     try go_wp2_with (first | ((with_reducible refine gate_callee (f := 14) rfl ?_); refine goesL_ (some 85) rfl rfl Try.func14 (by kernel_rfl) rfl #[.agg #[.string ((rd_T28 t149 x12_3).f0), .int .i64 ((rd_T28 t149 x12_3).f1), .int .i64 ((rd_T28 t149 x12_3).f2), .int .i64 ((rd_T28 t149 x12_3).f3), .bool ((rd_T28 t149 x12_3).f4), .int .u64 ((rd_T28 t149 x12_3).f5), .int .u64 ((rd_T28 t149 x12_3).f6)]] rfl (by (try simp only [List.map_toArray, List.map_cons, List.map_nil]); first | done | rfl | (simp only [List.length_drop, List.length_take]; rfl)) ?_; (with_reducible refine (sym_Symbol_Exported.calls ((rd_T28 t149 x12_3).f0) ((rd_T28 t149 x12_3).f1) ((rd_T28 t149 x12_3).f2) ((rd_T28 t149 x12_3).f3) ((rd_T28 t149 x12_3).f4) ((rd_T28 t149 x12_3).f5) ((rd_T28 t149 x12_3).f6) t166 _ A35.out).mono ?_); rintro e w93 ⟨rfl, hb⟩; refine ⟨_, rfl, ?_⟩; have n0_ := Aside0.mk (Kd.R_below (by (with_reducible repeat (first | apply Kd.R_alloc | apply Kd.R_drewN | apply Kd.R_drew)); exact HO_7.out) hb); have n1_ := Aside0.mk (Kd.R_below (by (with_reducible repeat (first | apply Kd.R_alloc | apply Kd.R_drewN | apply Kd.R_drew)); exact HO_9.out) hb); have n2_ := Aside0.mk (blk_below (g := gb155) (o := .cells #[.int .i64 t152, .int .u64 t153, .string t154] 35 (0, 0)) (by (with_reducible repeat (first | refine blk_drewN ?_ _ | refine blk_drew ?_ | refine blk_alloc ?_ _)); exact BK155.out) hb); have n3_ := Aside0.mk (below_step (by repeat (first | (with_reducible first | exact HB.out | apply below_alloc | apply pw_below_drewN | apply below_drew1 | refine below_set ?_ GE155.out) | exact HB.out)) hb); clear HO_7; clear HO_9; clear BK155; clear HB; have HO_7 := n0_; have HO_9 := n1_; have BK155 := n2_; have HB := n3_; clear n0_ n1_ n2_ n3_; (try clear hb); (try clear hb2); (try clear hk); (try clear hi); have p167 : 0 ≤ (x12_3 : Int) := of_decide_eq_true (by first | (with_reducible assumption) | assumption); have q167 : x12_3 < (t156.length : Int) := of_decide_eq_true (by first | (with_reducible assumption) | assumption); obtain ⟨ad167, e167, hx167_0, hx167_1, hx167_2, hx167_3, hx167_4, hx167_5, hx167_6⟩ := at_T31 (Kd.R_reads' HO_9.out).2.2 x12_3 p167 q167; (try rw [← Nbq36.out] at hx167_4); obtain rfl : ad162 = ad167 := (by injection e167); replace p167 := eq_true p167; replace q167 := eq_true q167; have p168 : 0 ≤ (x12_3 : Int) := of_decide_eq_true (by first | (with_reducible assumption) | assumption); have q168 : x12_3 < (t156.length : Int) := of_decide_eq_true (by first | (with_reducible assumption) | assumption); obtain ⟨ad168, e168, hx168_0, hx168_1, hx168_2, hx168_3, hx168_4, hx168_5, hx168_6⟩ := at_T31 (Kd.R_reads' HO_9.out).2.2 x12_3 p168 q168; (try rw [← Nbq36.out] at hx168_4); obtain rfl : ad162 = ad168 := (by injection e168); replace p168 := eq_true p168; replace q168 := eq_true q168; have p173 : 0 ≤ (x12_3 : Int) := of_decide_eq_true (by first | (with_reducible assumption) | assumption); have q173 : x12_3 < (t156.length : Int) := of_decide_eq_true (by first | (with_reducible assumption) | assumption); obtain ⟨ad173, e173, hx173_0, hx173_1, hx173_2, hx173_3, hx173_4, hx173_5, hx173_6⟩ := at_T31 (Kd.R_reads' HO_9.out).2.2 x12_3 p173 q173; (try rw [← Nbq36.out] at hx173_4); obtain rfl : ad162 = ad173 := (by injection e173); replace p173 := eq_true p173; replace q173 := eq_true q173; have p174 : 0 ≤ (x12_3 : Int) := of_decide_eq_true (by first | (with_reducible assumption) | assumption); have q174 : x12_3 < (t149.length : Int) := of_decide_eq_true (by first | (with_reducible assumption) | assumption); obtain ⟨ad174, e174, hx174_0, hx174_1, hx174_2, hx174_3, hx174_4, hx174_5, hx174_6⟩ := at_T28 (Kd.R_reads' HO_7.out).2.2 x12_3 p174 q174; (try rw [← Nbq36.out] at hx174_4); obtain rfl : ad161 = ad174 := (by injection e174); replace p174 := eq_true p174; replace q174 := eq_true q174) | (go_at_call 15; (with_reducible refine (sym_Symbol_Own.calls ((rd_T28 t149 x12_3).f0) ((rd_T28 t149 x12_3).f1) ((rd_T28 t149 x12_3).f2) ((rd_T28 t149 x12_3).f3) ((rd_T28 t149 x12_3).f4) ((rd_T28 t149 x12_3).f5) ((rd_T28 t149 x12_3).f6) t175 _ A80.out).mono ?_); rintro e w94 ⟨rfl, hb⟩; have n0_ := Aside0.mk (Kd.R_below (by (with_reducible repeat (first | apply Kd.R_alloc | apply Kd.R_drewN | apply Kd.R_drew)); exact HO_7.out) hb); have n1_ := Aside0.mk (Kd.R_below (by (with_reducible repeat (first | apply Kd.R_alloc | apply Kd.R_drewN | apply Kd.R_drew)); exact HO_9.out) hb); have n2_ := Aside0.mk (blk_below (g := gb155) (o := .cells #[.int .i64 t152, .int .u64 t153, .string t154] 35 (0, 0)) (by (with_reducible repeat (first | refine blk_drewN ?_ _ | refine blk_drew ?_ | refine blk_alloc ?_ _)); exact BK155.out) hb); have n3_ := Aside0.mk (below_step (by repeat (first | (with_reducible first | exact HB.out | apply below_alloc | apply pw_below_drewN | apply below_drew1 | refine below_set ?_ GE155.out) | exact HB.out)) hb); clear HO_7; clear HO_9; clear BK155; clear HB; have HO_7 := n0_; have HO_9 := n1_; have BK155 := n2_; have HB := n3_; clear n0_ n1_ n2_ n3_; (try clear hb); (try clear hb2); (try clear hk); (try clear hi); have p176 : 0 ≤ (x12_3 : Int) := of_decide_eq_true (by first | (with_reducible assumption) | assumption); have q176 : x12_3 < (t156.length : Int) := of_decide_eq_true (by first | (with_reducible assumption) | assumption); obtain ⟨ad176, e176, hx176_0, hx176_1, hx176_2, hx176_3, hx176_4, hx176_5, hx176_6⟩ := at_T31 (Kd.R_reads' HO_9.out).2.2 x12_3 p176 q176; (try rw [← Nbq36.out] at hx176_4); obtain rfl : ad162 = ad176 := (by injection e176); replace p176 := eq_true p176; replace q176 := eq_true q176))
                     go_roundg k3
                     case measure => have := HJ8.out; have := HJ16.out; have := HK3.out; omega
                     case rel => exact ⟨(wrap64 (x12_3 + 1)), (by first | rfl | (simp; done) | (simp [*]; done)), H', ⟨by have := HJ8.out; have := HJ16.out; have := HK3.out; omega⟩, ⟨by (with_reducible repeat (first | apply Kd.R_alloc | apply Kd.R_drewN | apply Kd.R_drew)); exact HO_7.out⟩, ⟨by (with_reducible repeat (first | apply Kd.R_alloc | apply Kd.R_drewN | apply Kd.R_drew)); exact HO_9.out⟩, ⟨by (with_reducible repeat (first | refine blk_drewN ?_ _ | refine blk_drew ?_ | refine blk_alloc ?_ _)); exact BK155.out⟩, ⟨by repeat (first | (with_reducible first | exact HB.out | apply below_alloc | apply pw_below_drewN | apply below_drew1 | refine below_set ?_ GE155.out) | exact HB.out)⟩⟩
                   ·rw [if_neg c81] at H
                    have c81b0 : (((rd_T31 t156 x12_3).f1) == 0) = false := beq_eq_false_iff_ne.mpr c81
                    have c81b1 : (((rd_T31 t156 x12_3).f1) != 0) = true := bne_iff_ne.mpr c81
                    by_cases c95 : (t175 != (decide (((rd_T31 t156 x12_3).f3) > 0))) = true
                    ·rw [if_pos c95] at H
                     have c95b0 : (t175 != (decide (((rd_T31 t156 x12_3).f3) > 0))) = true := c95
                     (try (have c95b1 : decide (t175 = (decide (((rd_T31 t156 x12_3).f3) > 0))) = false := by simpa using c95))
                     (try (have c95b2 : (t175 == (decide (((rd_T31 t156 x12_3).f3) > 0))) = false := by simpa using c95))
                     (try (have c95b3 : ¬ (t175 = (decide (((rd_T31 t156 x12_3).f3) > 0))) := by simpa using c95))
                     clear c95
                     obtain rfl := Option.some.inj H
                     have p164 : 0 ≤ (x12_3 : Int) := of_decide_eq_true (by first | (with_reducible assumption) | assumption)
                     have q164 : x12_3 < (t156.length : Int) := of_decide_eq_true (by first | (with_reducible assumption) | assumption)
                     obtain ⟨ad164, e164, hx164_0, hx164_1, hx164_2, hx164_3, hx164_4, hx164_5, hx164_6⟩ := at_T31 (Kd.R_reads' HO_9.out).2.2 x12_3 p164 q164
                     (try rw [← Nbq36.out] at hx164_4)
                     obtain rfl : ad162 = ad164 := (by injection e164)
                     replace p164 := eq_true p164
                     replace q164 := eq_true q164
                     have p165 : 0 ≤ (x12_3 : Int) := of_decide_eq_true (by first | (with_reducible assumption) | assumption)
                     have q165 : x12_3 < (t149.length : Int) := of_decide_eq_true (by first | (with_reducible assumption) | assumption)
                     obtain ⟨ad165, e165, hx165_0, hx165_1, hx165_2, hx165_3, hx165_4, hx165_5, hx165_6⟩ := at_T28 (Kd.R_reads' HO_7.out).2.2 x12_3 p165 q165
                     (try rw [← Nbq36.out] at hx165_4)
                     obtain rfl : ad161 = ad165 := (by injection e165)
                     replace p165 := eq_true p165
                     replace q165 := eq_true q165
                     try go_wp2_with (first | ((with_reducible refine gate_callee (f := 14) rfl ?_); refine goesL_ (some 85) rfl rfl Try.func14 (by kernel_rfl) rfl #[.agg #[.string ((rd_T28 t149 x12_3).f0), .int .i64 ((rd_T28 t149 x12_3).f1), .int .i64 ((rd_T28 t149 x12_3).f2), .int .i64 ((rd_T28 t149 x12_3).f3), .bool ((rd_T28 t149 x12_3).f4), .int .u64 ((rd_T28 t149 x12_3).f5), .int .u64 ((rd_T28 t149 x12_3).f6)]] rfl (by (try simp only [List.map_toArray, List.map_cons, List.map_nil]); first | done | rfl | (simp only [List.length_drop, List.length_take]; rfl)) ?_; (with_reducible refine (sym_Symbol_Exported.calls ((rd_T28 t149 x12_3).f0) ((rd_T28 t149 x12_3).f1) ((rd_T28 t149 x12_3).f2) ((rd_T28 t149 x12_3).f3) ((rd_T28 t149 x12_3).f4) ((rd_T28 t149 x12_3).f5) ((rd_T28 t149 x12_3).f6) t166 _ A35.out).mono ?_); rintro e w100 ⟨rfl, hb⟩; refine ⟨_, rfl, ?_⟩; have n0_ := Aside0.mk (Kd.R_below (by (with_reducible repeat (first | apply Kd.R_alloc | apply Kd.R_drewN | apply Kd.R_drew)); exact HO_7.out) hb); have n1_ := Aside0.mk (Kd.R_below (by (with_reducible repeat (first | apply Kd.R_alloc | apply Kd.R_drewN | apply Kd.R_drew)); exact HO_9.out) hb); have n2_ := Aside0.mk (blk_below (g := gb155) (o := .cells #[.int .i64 t152, .int .u64 t153, .string t154] 35 (0, 0)) (by (with_reducible repeat (first | refine blk_drewN ?_ _ | refine blk_drew ?_ | refine blk_alloc ?_ _)); exact BK155.out) hb); have n3_ := Aside0.mk (below_step (by repeat (first | (with_reducible first | exact HB.out | apply below_alloc | apply pw_below_drewN | apply below_drew1 | refine below_set ?_ GE155.out) | exact HB.out)) hb); clear HO_7; clear HO_9; clear BK155; clear HB; have HO_7 := n0_; have HO_9 := n1_; have BK155 := n2_; have HB := n3_; clear n0_ n1_ n2_ n3_; (try clear hb); (try clear hb2); (try clear hk); (try clear hi); have p167 : 0 ≤ (x12_3 : Int) := of_decide_eq_true (by first | (with_reducible assumption) | assumption); have q167 : x12_3 < (t156.length : Int) := of_decide_eq_true (by first | (with_reducible assumption) | assumption); obtain ⟨ad167, e167, hx167_0, hx167_1, hx167_2, hx167_3, hx167_4, hx167_5, hx167_6⟩ := at_T31 (Kd.R_reads' HO_9.out).2.2 x12_3 p167 q167; (try rw [← Nbq36.out] at hx167_4); obtain rfl : ad162 = ad167 := (by injection e167); replace p167 := eq_true p167; replace q167 := eq_true q167; have p168 : 0 ≤ (x12_3 : Int) := of_decide_eq_true (by first | (with_reducible assumption) | assumption); have q168 : x12_3 < (t156.length : Int) := of_decide_eq_true (by first | (with_reducible assumption) | assumption); obtain ⟨ad168, e168, hx168_0, hx168_1, hx168_2, hx168_3, hx168_4, hx168_5, hx168_6⟩ := at_T31 (Kd.R_reads' HO_9.out).2.2 x12_3 p168 q168; (try rw [← Nbq36.out] at hx168_4); obtain rfl : ad162 = ad168 := (by injection e168); replace p168 := eq_true p168; replace q168 := eq_true q168; have p173 : 0 ≤ (x12_3 : Int) := of_decide_eq_true (by first | (with_reducible assumption) | assumption); have q173 : x12_3 < (t156.length : Int) := of_decide_eq_true (by first | (with_reducible assumption) | assumption); obtain ⟨ad173, e173, hx173_0, hx173_1, hx173_2, hx173_3, hx173_4, hx173_5, hx173_6⟩ := at_T31 (Kd.R_reads' HO_9.out).2.2 x12_3 p173 q173; (try rw [← Nbq36.out] at hx173_4); obtain rfl : ad162 = ad173 := (by injection e173); replace p173 := eq_true p173; replace q173 := eq_true q173; have p174 : 0 ≤ (x12_3 : Int) := of_decide_eq_true (by first | (with_reducible assumption) | assumption); have q174 : x12_3 < (t149.length : Int) := of_decide_eq_true (by first | (with_reducible assumption) | assumption); obtain ⟨ad174, e174, hx174_0, hx174_1, hx174_2, hx174_3, hx174_4, hx174_5, hx174_6⟩ := at_T28 (Kd.R_reads' HO_7.out).2.2 x12_3 p174 q174; (try rw [← Nbq36.out] at hx174_4); obtain rfl : ad161 = ad174 := (by injection e174); replace p174 := eq_true p174; replace q174 := eq_true q174) | (go_at_call 15; (with_reducible refine (sym_Symbol_Own.calls ((rd_T28 t149 x12_3).f0) ((rd_T28 t149 x12_3).f1) ((rd_T28 t149 x12_3).f2) ((rd_T28 t149 x12_3).f3) ((rd_T28 t149 x12_3).f4) ((rd_T28 t149 x12_3).f5) ((rd_T28 t149 x12_3).f6) t175 _ A80.out).mono ?_); rintro e w101 ⟨rfl, hb⟩; have n0_ := Aside0.mk (Kd.R_below (by (with_reducible repeat (first | apply Kd.R_alloc | apply Kd.R_drewN | apply Kd.R_drew)); exact HO_7.out) hb); have n1_ := Aside0.mk (Kd.R_below (by (with_reducible repeat (first | apply Kd.R_alloc | apply Kd.R_drewN | apply Kd.R_drew)); exact HO_9.out) hb); have n2_ := Aside0.mk (blk_below (g := gb155) (o := .cells #[.int .i64 t152, .int .u64 t153, .string t154] 35 (0, 0)) (by (with_reducible repeat (first | refine blk_drewN ?_ _ | refine blk_drew ?_ | refine blk_alloc ?_ _)); exact BK155.out) hb); have n3_ := Aside0.mk (below_step (by repeat (first | (with_reducible first | exact HB.out | apply below_alloc | apply pw_below_drewN | apply below_drew1 | refine below_set ?_ GE155.out) | exact HB.out)) hb); clear HO_7; clear HO_9; clear BK155; clear HB; have HO_7 := n0_; have HO_9 := n1_; have BK155 := n2_; have HB := n3_; clear n0_ n1_ n2_ n3_; (try clear hb); (try clear hb2); (try clear hk); (try clear hi); have p176 : 0 ≤ (x12_3 : Int) := of_decide_eq_true (by first | (with_reducible assumption) | assumption); have q176 : x12_3 < (t156.length : Int) := of_decide_eq_true (by first | (with_reducible assumption) | assumption); obtain ⟨ad176, e176, hx176_0, hx176_1, hx176_2, hx176_3, hx176_4, hx176_5, hx176_6⟩ := at_T31 (Kd.R_reads' HO_9.out).2.2 x12_3 p176 q176; (try rw [← Nbq36.out] at hx176_4); obtain rfl : ad162 = ad176 := (by injection e176); replace p176 := eq_true p176; replace q176 := eq_true q176; have p177 : 0 ≤ (x12_3 : Int) := of_decide_eq_true (by first | (with_reducible assumption) | assumption); have q177 : x12_3 < (t156.length : Int) := of_decide_eq_true (by first | (with_reducible assumption) | assumption); obtain ⟨ad177, e177, hx177_0, hx177_1, hx177_2, hx177_3, hx177_4, hx177_5, hx177_6⟩ := at_T31 (Kd.R_reads' HO_9.out).2.2 x12_3 p177 q177; (try rw [← Nbq36.out] at hx177_4); obtain rfl : ad162 = ad177 := (by injection e177); replace p177 := eq_true p177; replace q177 := eq_true q177))
                     go_ret
                     exact ⟨by first | rfl | (simp [errW_none, errW_some] <;> rfl) | (simp only [← hji6]; first | rfl | (simp [errW_none, errW_some] <;> rfl)) | (simp [*, errW_none, errW_some] <;> rfl), by repeat (first | (with_reducible first | exact HB.out | apply below_alloc | apply pw_below_drewN | apply below_drew1 | refine below_set ?_ GE155.out) | exact HB.out)⟩
                    ·rw [if_neg c95] at H
                     have c95b0 : (t175 != (decide (((rd_T31 t156 x12_3).f3) > 0))) = false := by simpa using c95
                     (try (have c95b1 : decide (t175 = (decide (((rd_T31 t156 x12_3).f3) > 0))) = true := by simpa using c95))
                     (try (have c95b2 : (t175 == (decide (((rd_T31 t156 x12_3).f3) > 0))) = true := by simpa using c95))
                     clear c95
                     have H' := Aside0.mk H
                     clear H
                     have p164 : 0 ≤ (x12_3 : Int) := of_decide_eq_true (by first | (with_reducible assumption) | assumption)
                     have q164 : x12_3 < (t156.length : Int) := of_decide_eq_true (by first | (with_reducible assumption) | assumption)
                     obtain ⟨ad164, e164, hx164_0, hx164_1, hx164_2, hx164_3, hx164_4, hx164_5, hx164_6⟩ := at_T31 (Kd.R_reads' HO_9.out).2.2 x12_3 p164 q164
                     (try rw [← Nbq36.out] at hx164_4)
                     obtain rfl : ad162 = ad164 := (by injection e164)
                     replace p164 := eq_true p164
                     replace q164 := eq_true q164
                     have p165 : 0 ≤ (x12_3 : Int) := of_decide_eq_true (by first | (with_reducible assumption) | assumption)
                     have q165 : x12_3 < (t149.length : Int) := of_decide_eq_true (by first | (with_reducible assumption) | assumption)
                     obtain ⟨ad165, e165, hx165_0, hx165_1, hx165_2, hx165_3, hx165_4, hx165_5, hx165_6⟩ := at_T28 (Kd.R_reads' HO_7.out).2.2 x12_3 p165 q165
                     (try rw [← Nbq36.out] at hx165_4)
                     obtain rfl : ad161 = ad165 := (by injection e165)
                     replace p165 := eq_true p165
                     replace q165 := eq_true q165
                     try go_wp2_with (first | ((with_reducible refine gate_callee (f := 14) rfl ?_); refine goesL_ (some 85) rfl rfl Try.func14 (by kernel_rfl) rfl #[.agg #[.string ((rd_T28 t149 x12_3).f0), .int .i64 ((rd_T28 t149 x12_3).f1), .int .i64 ((rd_T28 t149 x12_3).f2), .int .i64 ((rd_T28 t149 x12_3).f3), .bool ((rd_T28 t149 x12_3).f4), .int .u64 ((rd_T28 t149 x12_3).f5), .int .u64 ((rd_T28 t149 x12_3).f6)]] rfl (by (try simp only [List.map_toArray, List.map_cons, List.map_nil]); first | done | rfl | (simp only [List.length_drop, List.length_take]; rfl)) ?_; (with_reducible refine (sym_Symbol_Exported.calls ((rd_T28 t149 x12_3).f0) ((rd_T28 t149 x12_3).f1) ((rd_T28 t149 x12_3).f2) ((rd_T28 t149 x12_3).f3) ((rd_T28 t149 x12_3).f4) ((rd_T28 t149 x12_3).f5) ((rd_T28 t149 x12_3).f6) t166 _ A35.out).mono ?_); rintro e w106 ⟨rfl, hb⟩; refine ⟨_, rfl, ?_⟩; have n0_ := Aside0.mk (Kd.R_below (by (with_reducible repeat (first | apply Kd.R_alloc | apply Kd.R_drewN | apply Kd.R_drew)); exact HO_7.out) hb); have n1_ := Aside0.mk (Kd.R_below (by (with_reducible repeat (first | apply Kd.R_alloc | apply Kd.R_drewN | apply Kd.R_drew)); exact HO_9.out) hb); have n2_ := Aside0.mk (blk_below (g := gb155) (o := .cells #[.int .i64 t152, .int .u64 t153, .string t154] 35 (0, 0)) (by (with_reducible repeat (first | refine blk_drewN ?_ _ | refine blk_drew ?_ | refine blk_alloc ?_ _)); exact BK155.out) hb); have n3_ := Aside0.mk (below_step (by repeat (first | (with_reducible first | exact HB.out | apply below_alloc | apply pw_below_drewN | apply below_drew1 | refine below_set ?_ GE155.out) | exact HB.out)) hb); clear HO_7; clear HO_9; clear BK155; clear HB; have HO_7 := n0_; have HO_9 := n1_; have BK155 := n2_; have HB := n3_; clear n0_ n1_ n2_ n3_; (try clear hb); (try clear hb2); (try clear hk); (try clear hi); have p167 : 0 ≤ (x12_3 : Int) := of_decide_eq_true (by first | (with_reducible assumption) | assumption); have q167 : x12_3 < (t156.length : Int) := of_decide_eq_true (by first | (with_reducible assumption) | assumption); obtain ⟨ad167, e167, hx167_0, hx167_1, hx167_2, hx167_3, hx167_4, hx167_5, hx167_6⟩ := at_T31 (Kd.R_reads' HO_9.out).2.2 x12_3 p167 q167; (try rw [← Nbq36.out] at hx167_4); obtain rfl : ad162 = ad167 := (by injection e167); replace p167 := eq_true p167; replace q167 := eq_true q167; have p168 : 0 ≤ (x12_3 : Int) := of_decide_eq_true (by first | (with_reducible assumption) | assumption); have q168 : x12_3 < (t156.length : Int) := of_decide_eq_true (by first | (with_reducible assumption) | assumption); obtain ⟨ad168, e168, hx168_0, hx168_1, hx168_2, hx168_3, hx168_4, hx168_5, hx168_6⟩ := at_T31 (Kd.R_reads' HO_9.out).2.2 x12_3 p168 q168; (try rw [← Nbq36.out] at hx168_4); obtain rfl : ad162 = ad168 := (by injection e168); replace p168 := eq_true p168; replace q168 := eq_true q168; have p173 : 0 ≤ (x12_3 : Int) := of_decide_eq_true (by first | (with_reducible assumption) | assumption); have q173 : x12_3 < (t156.length : Int) := of_decide_eq_true (by first | (with_reducible assumption) | assumption); obtain ⟨ad173, e173, hx173_0, hx173_1, hx173_2, hx173_3, hx173_4, hx173_5, hx173_6⟩ := at_T31 (Kd.R_reads' HO_9.out).2.2 x12_3 p173 q173; (try rw [← Nbq36.out] at hx173_4); obtain rfl : ad162 = ad173 := (by injection e173); replace p173 := eq_true p173; replace q173 := eq_true q173; have p174 : 0 ≤ (x12_3 : Int) := of_decide_eq_true (by first | (with_reducible assumption) | assumption); have q174 : x12_3 < (t149.length : Int) := of_decide_eq_true (by first | (with_reducible assumption) | assumption); obtain ⟨ad174, e174, hx174_0, hx174_1, hx174_2, hx174_3, hx174_4, hx174_5, hx174_6⟩ := at_T28 (Kd.R_reads' HO_7.out).2.2 x12_3 p174 q174; (try rw [← Nbq36.out] at hx174_4); obtain rfl : ad161 = ad174 := (by injection e174); replace p174 := eq_true p174; replace q174 := eq_true q174) | (go_at_call 15; (with_reducible refine (sym_Symbol_Own.calls ((rd_T28 t149 x12_3).f0) ((rd_T28 t149 x12_3).f1) ((rd_T28 t149 x12_3).f2) ((rd_T28 t149 x12_3).f3) ((rd_T28 t149 x12_3).f4) ((rd_T28 t149 x12_3).f5) ((rd_T28 t149 x12_3).f6) t175 _ A80.out).mono ?_); rintro e w107 ⟨rfl, hb⟩; have n0_ := Aside0.mk (Kd.R_below (by (with_reducible repeat (first | apply Kd.R_alloc | apply Kd.R_drewN | apply Kd.R_drew)); exact HO_7.out) hb); have n1_ := Aside0.mk (Kd.R_below (by (with_reducible repeat (first | apply Kd.R_alloc | apply Kd.R_drewN | apply Kd.R_drew)); exact HO_9.out) hb); have n2_ := Aside0.mk (blk_below (g := gb155) (o := .cells #[.int .i64 t152, .int .u64 t153, .string t154] 35 (0, 0)) (by (with_reducible repeat (first | refine blk_drewN ?_ _ | refine blk_drew ?_ | refine blk_alloc ?_ _)); exact BK155.out) hb); have n3_ := Aside0.mk (below_step (by repeat (first | (with_reducible first | exact HB.out | apply below_alloc | apply pw_below_drewN | apply below_drew1 | refine below_set ?_ GE155.out) | exact HB.out)) hb); clear HO_7; clear HO_9; clear BK155; clear HB; have HO_7 := n0_; have HO_9 := n1_; have BK155 := n2_; have HB := n3_; clear n0_ n1_ n2_ n3_; (try clear hb); (try clear hb2); (try clear hk); (try clear hi); have p176 : 0 ≤ (x12_3 : Int) := of_decide_eq_true (by first | (with_reducible assumption) | assumption); have q176 : x12_3 < (t156.length : Int) := of_decide_eq_true (by first | (with_reducible assumption) | assumption); obtain ⟨ad176, e176, hx176_0, hx176_1, hx176_2, hx176_3, hx176_4, hx176_5, hx176_6⟩ := at_T31 (Kd.R_reads' HO_9.out).2.2 x12_3 p176 q176; (try rw [← Nbq36.out] at hx176_4); obtain rfl : ad162 = ad176 := (by injection e176); replace p176 := eq_true p176; replace q176 := eq_true q176; have p177 : 0 ≤ (x12_3 : Int) := of_decide_eq_true (by first | (with_reducible assumption) | assumption); have q177 : x12_3 < (t156.length : Int) := of_decide_eq_true (by first | (with_reducible assumption) | assumption); obtain ⟨ad177, e177, hx177_0, hx177_1, hx177_2, hx177_3, hx177_4, hx177_5, hx177_6⟩ := at_T31 (Kd.R_reads' HO_9.out).2.2 x12_3 p177 q177; (try rw [← Nbq36.out] at hx177_4); obtain rfl : ad162 = ad177 := (by injection e177); replace p177 := eq_true p177; replace q177 := eq_true q177))
                     go_roundg k3
                     case measure => have := HJ8.out; have := HJ16.out; have := HK3.out; omega
                     case rel => exact ⟨(wrap64 (x12_3 + 1)), (by first | rfl | (simp; done) | (simp [*]; done)), H', ⟨by have := HJ8.out; have := HJ16.out; have := HK3.out; omega⟩, ⟨by (with_reducible repeat (first | apply Kd.R_alloc | apply Kd.R_drewN | apply Kd.R_drew)); exact HO_7.out⟩, ⟨by (with_reducible repeat (first | apply Kd.R_alloc | apply Kd.R_drewN | apply Kd.R_drew)); exact HO_9.out⟩, ⟨by (with_reducible repeat (first | refine blk_drewN ?_ _ | refine blk_drew ?_ | refine blk_alloc ?_ _)); exact BK155.out⟩, ⟨by repeat (first | (with_reducible first | exact HB.out | apply below_alloc | apply pw_below_drewN | apply below_drew1 | refine below_set ?_ GE155.out) | exact HB.out)⟩⟩
                ·rw [if_neg c38] at H
                 have c38b0 : decide (0 < ((rd_T31 t156 x12_3).f1)) = false := decide_eq_false c38
                 clear c38
                 by_cases c108 : (t166 != false) = true
                 ·rw [if_pos c108] at H
                  have c108b0 : (t166 != false) = true := c108
                  (try (have c108b1 : decide (t166 = false) = false := by simpa using c108))
                  (try (have c108b2 : (t166 == false) = false := by simpa using c108))
                  (try (have c108b3 : ¬ (t166 = false) := by simpa using c108))
                  clear c108
                  obtain rfl := Option.some.inj H
                  have p164 : 0 ≤ (x12_3 : Int) := of_decide_eq_true (by first | (with_reducible assumption) | assumption)
                  have q164 : x12_3 < (t156.length : Int) := of_decide_eq_true (by first | (with_reducible assumption) | assumption)
                  obtain ⟨ad164, e164, hx164_0, hx164_1, hx164_2, hx164_3, hx164_4, hx164_5, hx164_6⟩ := at_T31 (Kd.R_reads' HO_9.out).2.2 x12_3 p164 q164
                  (try rw [← Nbq36.out] at hx164_4)
                  obtain rfl : ad162 = ad164 := (by injection e164)
                  replace p164 := eq_true p164
                  replace q164 := eq_true q164
                  have p165 : 0 ≤ (x12_3 : Int) := of_decide_eq_true (by first | (with_reducible assumption) | assumption)
                  have q165 : x12_3 < (t149.length : Int) := of_decide_eq_true (by first | (with_reducible assumption) | assumption)
                  obtain ⟨ad165, e165, hx165_0, hx165_1, hx165_2, hx165_3, hx165_4, hx165_5, hx165_6⟩ := at_T28 (Kd.R_reads' HO_7.out).2.2 x12_3 p165 q165
                  (try rw [← Nbq36.out] at hx165_4)
                  obtain rfl : ad161 = ad165 := (by injection e165)
                  replace p165 := eq_true p165
                  replace q165 := eq_true q165
                  try go_wp2_with (first | ((with_reducible refine gate_callee (f := 14) rfl ?_); refine goesL_ (some 85) rfl rfl Try.func14 (by kernel_rfl) rfl #[.agg #[.string ((rd_T28 t149 x12_3).f0), .int .i64 ((rd_T28 t149 x12_3).f1), .int .i64 ((rd_T28 t149 x12_3).f2), .int .i64 ((rd_T28 t149 x12_3).f3), .bool ((rd_T28 t149 x12_3).f4), .int .u64 ((rd_T28 t149 x12_3).f5), .int .u64 ((rd_T28 t149 x12_3).f6)]] rfl (by (try simp only [List.map_toArray, List.map_cons, List.map_nil]); first | done | rfl | (simp only [List.length_drop, List.length_take]; rfl)) ?_; (with_reducible refine (sym_Symbol_Exported.calls ((rd_T28 t149 x12_3).f0) ((rd_T28 t149 x12_3).f1) ((rd_T28 t149 x12_3).f2) ((rd_T28 t149 x12_3).f3) ((rd_T28 t149 x12_3).f4) ((rd_T28 t149 x12_3).f5) ((rd_T28 t149 x12_3).f6) t166 _ A35.out).mono ?_); rintro e w113 ⟨rfl, hb⟩; refine ⟨_, rfl, ?_⟩; have n0_ := Aside0.mk (Kd.R_below (by (with_reducible repeat (first | apply Kd.R_alloc | apply Kd.R_drewN | apply Kd.R_drew)); exact HO_7.out) hb); have n1_ := Aside0.mk (Kd.R_below (by (with_reducible repeat (first | apply Kd.R_alloc | apply Kd.R_drewN | apply Kd.R_drew)); exact HO_9.out) hb); have n2_ := Aside0.mk (blk_below (g := gb155) (o := .cells #[.int .i64 t152, .int .u64 t153, .string t154] 35 (0, 0)) (by (with_reducible repeat (first | refine blk_drewN ?_ _ | refine blk_drew ?_ | refine blk_alloc ?_ _)); exact BK155.out) hb); have n3_ := Aside0.mk (below_step (by repeat (first | (with_reducible first | exact HB.out | apply below_alloc | apply pw_below_drewN | apply below_drew1 | refine below_set ?_ GE155.out) | exact HB.out)) hb); clear HO_7; clear HO_9; clear BK155; clear HB; have HO_7 := n0_; have HO_9 := n1_; have BK155 := n2_; have HB := n3_; clear n0_ n1_ n2_ n3_; (try clear hb); (try clear hb2); (try clear hk); (try clear hi); have p167 : 0 ≤ (x12_3 : Int) := of_decide_eq_true (by first | (with_reducible assumption) | assumption); have q167 : x12_3 < (t156.length : Int) := of_decide_eq_true (by first | (with_reducible assumption) | assumption); obtain ⟨ad167, e167, hx167_0, hx167_1, hx167_2, hx167_3, hx167_4, hx167_5, hx167_6⟩ := at_T31 (Kd.R_reads' HO_9.out).2.2 x12_3 p167 q167; (try rw [← Nbq36.out] at hx167_4); obtain rfl : ad162 = ad167 := (by injection e167); replace p167 := eq_true p167; replace q167 := eq_true q167))
                  go_ret
                  exact ⟨by first | rfl | (simp [errW_none, errW_some] <;> rfl) | (simp only [← hji6]; first | rfl | (simp [errW_none, errW_some] <;> rfl)) | (simp [*, errW_none, errW_some] <;> rfl), by repeat (first | (with_reducible first | exact HB.out | apply below_alloc | apply pw_below_drewN | apply below_drew1 | refine below_set ?_ GE155.out) | exact HB.out)⟩
                 ·rw [if_neg c108] at H
                  have c108b0 : (t166 != false) = false := by simpa using c108
                  (try (have c108b1 : decide (t166 = false) = true := by simpa using c108))
                  (try (have c108b2 : (t166 == false) = true := by simpa using c108))
                  clear c108
                  replace H := Option.bind_eq_some_iff.mp H
                  obtain ⟨t179, A1140, H⟩ := H
                  replace H : (if ((rd_T31 t156 x12_3).f1) = 0 then (if (t179 != true) = true then (some false) else (turnbucklelaw11_SymReads.l0 k3 t149 t156 (wrap64 (x12_3 + 1)))) else (if (t179 != (decide (((rd_T31 t156 x12_3).f3) > 0))) = true then (some false) else (turnbucklelaw11_SymReads.l0 k3 t149 t156 (wrap64 (x12_3 + 1))))) = some r := H
                  have A114 := Aside0.mk A1140
                  clear A1140
                  by_cases c115 : ((rd_T31 t156 x12_3).f1) = 0
                  ·rw [if_pos c115] at H
                   have c115b0 : (((rd_T31 t156 x12_3).f1) == 0) = true := beq_iff_eq.mpr c115
                   have c115b1 : (((rd_T31 t156 x12_3).f1) != 0) = false := bne_eq_false_iff_eq.mpr c115
                   clear c115
                   by_cases c116 : (t179 != true) = true
                   ·rw [if_pos c116] at H
                    have c116b0 : (t179 != true) = true := c116
                    (try (have c116b1 : decide (t179 = true) = false := by simpa using c116))
                    (try (have c116b2 : (t179 == true) = false := by simpa using c116))
                    (try (have c116b3 : ¬ (t179 = true) := by simpa using c116))
                    clear c116
                    obtain rfl := Option.some.inj H
                    have p164 : 0 ≤ (x12_3 : Int) := of_decide_eq_true (by first | (with_reducible assumption) | assumption)
                    have q164 : x12_3 < (t156.length : Int) := of_decide_eq_true (by first | (with_reducible assumption) | assumption)
                    obtain ⟨ad164, e164, hx164_0, hx164_1, hx164_2, hx164_3, hx164_4, hx164_5, hx164_6⟩ := at_T31 (Kd.R_reads' HO_9.out).2.2 x12_3 p164 q164
                    (try rw [← Nbq36.out] at hx164_4)
                    obtain rfl : ad162 = ad164 := (by injection e164)
                    replace p164 := eq_true p164
                    replace q164 := eq_true q164
                    have p165 : 0 ≤ (x12_3 : Int) := of_decide_eq_true (by first | (with_reducible assumption) | assumption)
                    have q165 : x12_3 < (t149.length : Int) := of_decide_eq_true (by first | (with_reducible assumption) | assumption)
                    obtain ⟨ad165, e165, hx165_0, hx165_1, hx165_2, hx165_3, hx165_4, hx165_5, hx165_6⟩ := at_T28 (Kd.R_reads' HO_7.out).2.2 x12_3 p165 q165
                    (try rw [← Nbq36.out] at hx165_4)
                    obtain rfl : ad161 = ad165 := (by injection e165)
                    replace p165 := eq_true p165
                    replace q165 := eq_true q165
                    try go_wp2_with (first | ((with_reducible refine gate_callee (f := 14) rfl ?_); refine goesL_ (some 85) rfl rfl Try.func14 (by kernel_rfl) rfl #[.agg #[.string ((rd_T28 t149 x12_3).f0), .int .i64 ((rd_T28 t149 x12_3).f1), .int .i64 ((rd_T28 t149 x12_3).f2), .int .i64 ((rd_T28 t149 x12_3).f3), .bool ((rd_T28 t149 x12_3).f4), .int .u64 ((rd_T28 t149 x12_3).f5), .int .u64 ((rd_T28 t149 x12_3).f6)]] rfl (by (try simp only [List.map_toArray, List.map_cons, List.map_nil]); first | done | rfl | (simp only [List.length_drop, List.length_take]; rfl)) ?_; (with_reducible refine (sym_Symbol_Exported.calls ((rd_T28 t149 x12_3).f0) ((rd_T28 t149 x12_3).f1) ((rd_T28 t149 x12_3).f2) ((rd_T28 t149 x12_3).f3) ((rd_T28 t149 x12_3).f4) ((rd_T28 t149 x12_3).f5) ((rd_T28 t149 x12_3).f6) t166 _ A35.out).mono ?_); rintro e w121 ⟨rfl, hb⟩; refine ⟨_, rfl, ?_⟩; have n0_ := Aside0.mk (Kd.R_below (by (with_reducible repeat (first | apply Kd.R_alloc | apply Kd.R_drewN | apply Kd.R_drew)); exact HO_7.out) hb); have n1_ := Aside0.mk (Kd.R_below (by (with_reducible repeat (first | apply Kd.R_alloc | apply Kd.R_drewN | apply Kd.R_drew)); exact HO_9.out) hb); have n2_ := Aside0.mk (blk_below (g := gb155) (o := .cells #[.int .i64 t152, .int .u64 t153, .string t154] 35 (0, 0)) (by (with_reducible repeat (first | refine blk_drewN ?_ _ | refine blk_drew ?_ | refine blk_alloc ?_ _)); exact BK155.out) hb); have n3_ := Aside0.mk (below_step (by repeat (first | (with_reducible first | exact HB.out | apply below_alloc | apply pw_below_drewN | apply below_drew1 | refine below_set ?_ GE155.out) | exact HB.out)) hb); clear HO_7; clear HO_9; clear BK155; clear HB; have HO_7 := n0_; have HO_9 := n1_; have BK155 := n2_; have HB := n3_; clear n0_ n1_ n2_ n3_; (try clear hb); (try clear hb2); (try clear hk); (try clear hi); have p167 : 0 ≤ (x12_3 : Int) := of_decide_eq_true (by first | (with_reducible assumption) | assumption); have q167 : x12_3 < (t156.length : Int) := of_decide_eq_true (by first | (with_reducible assumption) | assumption); obtain ⟨ad167, e167, hx167_0, hx167_1, hx167_2, hx167_3, hx167_4, hx167_5, hx167_6⟩ := at_T31 (Kd.R_reads' HO_9.out).2.2 x12_3 p167 q167; (try rw [← Nbq36.out] at hx167_4); obtain rfl : ad162 = ad167 := (by injection e167); replace p167 := eq_true p167; replace q167 := eq_true q167; have p178 : 0 ≤ (x12_3 : Int) := of_decide_eq_true (by first | (with_reducible assumption) | assumption); have q178 : x12_3 < (t149.length : Int) := of_decide_eq_true (by first | (with_reducible assumption) | assumption); obtain ⟨ad178, e178, hx178_0, hx178_1, hx178_2, hx178_3, hx178_4, hx178_5, hx178_6⟩ := at_T28 (Kd.R_reads' HO_7.out).2.2 x12_3 p178 q178; (try rw [← Nbq36.out] at hx178_4); obtain rfl : ad161 = ad178 := (by injection e178); replace p178 := eq_true p178; replace q178 := eq_true q178) | (go_at_call 15; (with_reducible refine (sym_Symbol_Own.calls ((rd_T28 t149 x12_3).f0) ((rd_T28 t149 x12_3).f1) ((rd_T28 t149 x12_3).f2) ((rd_T28 t149 x12_3).f3) ((rd_T28 t149 x12_3).f4) ((rd_T28 t149 x12_3).f5) ((rd_T28 t149 x12_3).f6) t179 _ A114.out).mono ?_); rintro e w122 ⟨rfl, hb⟩; have n0_ := Aside0.mk (Kd.R_below (by (with_reducible repeat (first | apply Kd.R_alloc | apply Kd.R_drewN | apply Kd.R_drew)); exact HO_7.out) hb); have n1_ := Aside0.mk (Kd.R_below (by (with_reducible repeat (first | apply Kd.R_alloc | apply Kd.R_drewN | apply Kd.R_drew)); exact HO_9.out) hb); have n2_ := Aside0.mk (blk_below (g := gb155) (o := .cells #[.int .i64 t152, .int .u64 t153, .string t154] 35 (0, 0)) (by (with_reducible repeat (first | refine blk_drewN ?_ _ | refine blk_drew ?_ | refine blk_alloc ?_ _)); exact BK155.out) hb); have n3_ := Aside0.mk (below_step (by repeat (first | (with_reducible first | exact HB.out | apply below_alloc | apply pw_below_drewN | apply below_drew1 | refine below_set ?_ GE155.out) | exact HB.out)) hb); clear HO_7; clear HO_9; clear BK155; clear HB; have HO_7 := n0_; have HO_9 := n1_; have BK155 := n2_; have HB := n3_; clear n0_ n1_ n2_ n3_; (try clear hb); (try clear hb2); (try clear hk); (try clear hi); have p180 : 0 ≤ (x12_3 : Int) := of_decide_eq_true (by first | (with_reducible assumption) | assumption); have q180 : x12_3 < (t156.length : Int) := of_decide_eq_true (by first | (with_reducible assumption) | assumption); obtain ⟨ad180, e180, hx180_0, hx180_1, hx180_2, hx180_3, hx180_4, hx180_5, hx180_6⟩ := at_T31 (Kd.R_reads' HO_9.out).2.2 x12_3 p180 q180; (try rw [← Nbq36.out] at hx180_4); obtain rfl : ad162 = ad180 := (by injection e180); replace p180 := eq_true p180; replace q180 := eq_true q180))
                    go_ret
                    exact ⟨by first | rfl | (simp [errW_none, errW_some] <;> rfl) | (simp only [← hji6]; first | rfl | (simp [errW_none, errW_some] <;> rfl)) | (simp [*, errW_none, errW_some] <;> rfl), by repeat (first | (with_reducible first | exact HB.out | apply below_alloc | apply pw_below_drewN | apply below_drew1 | refine below_set ?_ GE155.out) | exact HB.out)⟩
                   ·rw [if_neg c116] at H
                    have c116b0 : (t179 != true) = false := by simpa using c116
                    (try (have c116b1 : decide (t179 = true) = true := by simpa using c116))
                    (try (have c116b2 : (t179 == true) = true := by simpa using c116))
                    clear c116
                    have H' := Aside0.mk H
                    clear H
                    have p164 : 0 ≤ (x12_3 : Int) := of_decide_eq_true (by first | (with_reducible assumption) | assumption)
                    have q164 : x12_3 < (t156.length : Int) := of_decide_eq_true (by first | (with_reducible assumption) | assumption)
                    obtain ⟨ad164, e164, hx164_0, hx164_1, hx164_2, hx164_3, hx164_4, hx164_5, hx164_6⟩ := at_T31 (Kd.R_reads' HO_9.out).2.2 x12_3 p164 q164
                    (try rw [← Nbq36.out] at hx164_4)
                    obtain rfl : ad162 = ad164 := (by injection e164)
                    replace p164 := eq_true p164
                    replace q164 := eq_true q164
                    have p165 : 0 ≤ (x12_3 : Int) := of_decide_eq_true (by first | (with_reducible assumption) | assumption)
                    have q165 : x12_3 < (t149.length : Int) := of_decide_eq_true (by first | (with_reducible assumption) | assumption)
                    obtain ⟨ad165, e165, hx165_0, hx165_1, hx165_2, hx165_3, hx165_4, hx165_5, hx165_6⟩ := at_T28 (Kd.R_reads' HO_7.out).2.2 x12_3 p165 q165
                    (try rw [← Nbq36.out] at hx165_4)
                    obtain rfl : ad161 = ad165 := (by injection e165)
                    replace p165 := eq_true p165
                    replace q165 := eq_true q165
                    try go_wp2_with (first | ((with_reducible refine gate_callee (f := 14) rfl ?_); refine goesL_ (some 85) rfl rfl Try.func14 (by kernel_rfl) rfl #[.agg #[.string ((rd_T28 t149 x12_3).f0), .int .i64 ((rd_T28 t149 x12_3).f1), .int .i64 ((rd_T28 t149 x12_3).f2), .int .i64 ((rd_T28 t149 x12_3).f3), .bool ((rd_T28 t149 x12_3).f4), .int .u64 ((rd_T28 t149 x12_3).f5), .int .u64 ((rd_T28 t149 x12_3).f6)]] rfl (by (try simp only [List.map_toArray, List.map_cons, List.map_nil]); first | done | rfl | (simp only [List.length_drop, List.length_take]; rfl)) ?_; (with_reducible refine (sym_Symbol_Exported.calls ((rd_T28 t149 x12_3).f0) ((rd_T28 t149 x12_3).f1) ((rd_T28 t149 x12_3).f2) ((rd_T28 t149 x12_3).f3) ((rd_T28 t149 x12_3).f4) ((rd_T28 t149 x12_3).f5) ((rd_T28 t149 x12_3).f6) t166 _ A35.out).mono ?_); rintro e w127 ⟨rfl, hb⟩; refine ⟨_, rfl, ?_⟩; have n0_ := Aside0.mk (Kd.R_below (by (with_reducible repeat (first | apply Kd.R_alloc | apply Kd.R_drewN | apply Kd.R_drew)); exact HO_7.out) hb); have n1_ := Aside0.mk (Kd.R_below (by (with_reducible repeat (first | apply Kd.R_alloc | apply Kd.R_drewN | apply Kd.R_drew)); exact HO_9.out) hb); have n2_ := Aside0.mk (blk_below (g := gb155) (o := .cells #[.int .i64 t152, .int .u64 t153, .string t154] 35 (0, 0)) (by (with_reducible repeat (first | refine blk_drewN ?_ _ | refine blk_drew ?_ | refine blk_alloc ?_ _)); exact BK155.out) hb); have n3_ := Aside0.mk (below_step (by repeat (first | (with_reducible first | exact HB.out | apply below_alloc | apply pw_below_drewN | apply below_drew1 | refine below_set ?_ GE155.out) | exact HB.out)) hb); clear HO_7; clear HO_9; clear BK155; clear HB; have HO_7 := n0_; have HO_9 := n1_; have BK155 := n2_; have HB := n3_; clear n0_ n1_ n2_ n3_; (try clear hb); (try clear hb2); (try clear hk); (try clear hi); have p167 : 0 ≤ (x12_3 : Int) := of_decide_eq_true (by first | (with_reducible assumption) | assumption); have q167 : x12_3 < (t156.length : Int) := of_decide_eq_true (by first | (with_reducible assumption) | assumption); obtain ⟨ad167, e167, hx167_0, hx167_1, hx167_2, hx167_3, hx167_4, hx167_5, hx167_6⟩ := at_T31 (Kd.R_reads' HO_9.out).2.2 x12_3 p167 q167; (try rw [← Nbq36.out] at hx167_4); obtain rfl : ad162 = ad167 := (by injection e167); replace p167 := eq_true p167; replace q167 := eq_true q167; have p178 : 0 ≤ (x12_3 : Int) := of_decide_eq_true (by first | (with_reducible assumption) | assumption); have q178 : x12_3 < (t149.length : Int) := of_decide_eq_true (by first | (with_reducible assumption) | assumption); obtain ⟨ad178, e178, hx178_0, hx178_1, hx178_2, hx178_3, hx178_4, hx178_5, hx178_6⟩ := at_T28 (Kd.R_reads' HO_7.out).2.2 x12_3 p178 q178; (try rw [← Nbq36.out] at hx178_4); obtain rfl : ad161 = ad178 := (by injection e178); replace p178 := eq_true p178; replace q178 := eq_true q178) | (go_at_call 15; (with_reducible refine (sym_Symbol_Own.calls ((rd_T28 t149 x12_3).f0) ((rd_T28 t149 x12_3).f1) ((rd_T28 t149 x12_3).f2) ((rd_T28 t149 x12_3).f3) ((rd_T28 t149 x12_3).f4) ((rd_T28 t149 x12_3).f5) ((rd_T28 t149 x12_3).f6) t179 _ A114.out).mono ?_); rintro e w128 ⟨rfl, hb⟩; have n0_ := Aside0.mk (Kd.R_below (by (with_reducible repeat (first | apply Kd.R_alloc | apply Kd.R_drewN | apply Kd.R_drew)); exact HO_7.out) hb); have n1_ := Aside0.mk (Kd.R_below (by (with_reducible repeat (first | apply Kd.R_alloc | apply Kd.R_drewN | apply Kd.R_drew)); exact HO_9.out) hb); have n2_ := Aside0.mk (blk_below (g := gb155) (o := .cells #[.int .i64 t152, .int .u64 t153, .string t154] 35 (0, 0)) (by (with_reducible repeat (first | refine blk_drewN ?_ _ | refine blk_drew ?_ | refine blk_alloc ?_ _)); exact BK155.out) hb); have n3_ := Aside0.mk (below_step (by repeat (first | (with_reducible first | exact HB.out | apply below_alloc | apply pw_below_drewN | apply below_drew1 | refine below_set ?_ GE155.out) | exact HB.out)) hb); clear HO_7; clear HO_9; clear BK155; clear HB; have HO_7 := n0_; have HO_9 := n1_; have BK155 := n2_; have HB := n3_; clear n0_ n1_ n2_ n3_; (try clear hb); (try clear hb2); (try clear hk); (try clear hi); have p180 : 0 ≤ (x12_3 : Int) := of_decide_eq_true (by first | (with_reducible assumption) | assumption); have q180 : x12_3 < (t156.length : Int) := of_decide_eq_true (by first | (with_reducible assumption) | assumption); obtain ⟨ad180, e180, hx180_0, hx180_1, hx180_2, hx180_3, hx180_4, hx180_5, hx180_6⟩ := at_T31 (Kd.R_reads' HO_9.out).2.2 x12_3 p180 q180; (try rw [← Nbq36.out] at hx180_4); obtain rfl : ad162 = ad180 := (by injection e180); replace p180 := eq_true p180; replace q180 := eq_true q180))
                    go_roundg k3
                    case measure => have := HJ8.out; have := HJ16.out; have := HK3.out; omega
                    case rel => exact ⟨(wrap64 (x12_3 + 1)), (by first | rfl | (simp; done) | (simp [*]; done)), H', ⟨by have := HJ8.out; have := HJ16.out; have := HK3.out; omega⟩, ⟨by (with_reducible repeat (first | apply Kd.R_alloc | apply Kd.R_drewN | apply Kd.R_drew)); exact HO_7.out⟩, ⟨by (with_reducible repeat (first | apply Kd.R_alloc | apply Kd.R_drewN | apply Kd.R_drew)); exact HO_9.out⟩, ⟨by (with_reducible repeat (first | refine blk_drewN ?_ _ | refine blk_drew ?_ | refine blk_alloc ?_ _)); exact BK155.out⟩, ⟨by repeat (first | (with_reducible first | exact HB.out | apply below_alloc | apply pw_below_drewN | apply below_drew1 | refine below_set ?_ GE155.out) | exact HB.out)⟩⟩
                  ·rw [if_neg c115] at H
                   have c115b0 : (((rd_T31 t156 x12_3).f1) == 0) = false := beq_eq_false_iff_ne.mpr c115
                   have c115b1 : (((rd_T31 t156 x12_3).f1) != 0) = true := bne_iff_ne.mpr c115
                   by_cases c129 : (t179 != (decide (((rd_T31 t156 x12_3).f3) > 0))) = true
                   ·rw [if_pos c129] at H
                    have c129b0 : (t179 != (decide (((rd_T31 t156 x12_3).f3) > 0))) = true := c129
                    (try (have c129b1 : decide (t179 = (decide (((rd_T31 t156 x12_3).f3) > 0))) = false := by simpa using c129))
                    (try (have c129b2 : (t179 == (decide (((rd_T31 t156 x12_3).f3) > 0))) = false := by simpa using c129))
                    (try (have c129b3 : ¬ (t179 = (decide (((rd_T31 t156 x12_3).f3) > 0))) := by simpa using c129))
                    clear c129
                    obtain rfl := Option.some.inj H
                    have p164 : 0 ≤ (x12_3 : Int) := of_decide_eq_true (by first | (with_reducible assumption) | assumption)
                    have q164 : x12_3 < (t156.length : Int) := of_decide_eq_true (by first | (with_reducible assumption) | assumption)
                    obtain ⟨ad164, e164, hx164_0, hx164_1, hx164_2, hx164_3, hx164_4, hx164_5, hx164_6⟩ := at_T31 (Kd.R_reads' HO_9.out).2.2 x12_3 p164 q164
                    (try rw [← Nbq36.out] at hx164_4)
                    obtain rfl : ad162 = ad164 := (by injection e164)
                    replace p164 := eq_true p164
                    replace q164 := eq_true q164
                    have p165 : 0 ≤ (x12_3 : Int) := of_decide_eq_true (by first | (with_reducible assumption) | assumption)
                    have q165 : x12_3 < (t149.length : Int) := of_decide_eq_true (by first | (with_reducible assumption) | assumption)
                    obtain ⟨ad165, e165, hx165_0, hx165_1, hx165_2, hx165_3, hx165_4, hx165_5, hx165_6⟩ := at_T28 (Kd.R_reads' HO_7.out).2.2 x12_3 p165 q165
                    (try rw [← Nbq36.out] at hx165_4)
                    obtain rfl : ad161 = ad165 := (by injection e165)
                    replace p165 := eq_true p165
                    replace q165 := eq_true q165
                    try go_wp2_with (first | ((with_reducible refine gate_callee (f := 14) rfl ?_); refine goesL_ (some 85) rfl rfl Try.func14 (by kernel_rfl) rfl #[.agg #[.string ((rd_T28 t149 x12_3).f0), .int .i64 ((rd_T28 t149 x12_3).f1), .int .i64 ((rd_T28 t149 x12_3).f2), .int .i64 ((rd_T28 t149 x12_3).f3), .bool ((rd_T28 t149 x12_3).f4), .int .u64 ((rd_T28 t149 x12_3).f5), .int .u64 ((rd_T28 t149 x12_3).f6)]] rfl (by (try simp only [List.map_toArray, List.map_cons, List.map_nil]); first | done | rfl | (simp only [List.length_drop, List.length_take]; rfl)) ?_; (with_reducible refine (sym_Symbol_Exported.calls ((rd_T28 t149 x12_3).f0) ((rd_T28 t149 x12_3).f1) ((rd_T28 t149 x12_3).f2) ((rd_T28 t149 x12_3).f3) ((rd_T28 t149 x12_3).f4) ((rd_T28 t149 x12_3).f5) ((rd_T28 t149 x12_3).f6) t166 _ A35.out).mono ?_); rintro e w134 ⟨rfl, hb⟩; refine ⟨_, rfl, ?_⟩; have n0_ := Aside0.mk (Kd.R_below (by (with_reducible repeat (first | apply Kd.R_alloc | apply Kd.R_drewN | apply Kd.R_drew)); exact HO_7.out) hb); have n1_ := Aside0.mk (Kd.R_below (by (with_reducible repeat (first | apply Kd.R_alloc | apply Kd.R_drewN | apply Kd.R_drew)); exact HO_9.out) hb); have n2_ := Aside0.mk (blk_below (g := gb155) (o := .cells #[.int .i64 t152, .int .u64 t153, .string t154] 35 (0, 0)) (by (with_reducible repeat (first | refine blk_drewN ?_ _ | refine blk_drew ?_ | refine blk_alloc ?_ _)); exact BK155.out) hb); have n3_ := Aside0.mk (below_step (by repeat (first | (with_reducible first | exact HB.out | apply below_alloc | apply pw_below_drewN | apply below_drew1 | refine below_set ?_ GE155.out) | exact HB.out)) hb); clear HO_7; clear HO_9; clear BK155; clear HB; have HO_7 := n0_; have HO_9 := n1_; have BK155 := n2_; have HB := n3_; clear n0_ n1_ n2_ n3_; (try clear hb); (try clear hb2); (try clear hk); (try clear hi); have p167 : 0 ≤ (x12_3 : Int) := of_decide_eq_true (by first | (with_reducible assumption) | assumption); have q167 : x12_3 < (t156.length : Int) := of_decide_eq_true (by first | (with_reducible assumption) | assumption); obtain ⟨ad167, e167, hx167_0, hx167_1, hx167_2, hx167_3, hx167_4, hx167_5, hx167_6⟩ := at_T31 (Kd.R_reads' HO_9.out).2.2 x12_3 p167 q167; (try rw [← Nbq36.out] at hx167_4); obtain rfl : ad162 = ad167 := (by injection e167); replace p167 := eq_true p167; replace q167 := eq_true q167; have p178 : 0 ≤ (x12_3 : Int) := of_decide_eq_true (by first | (with_reducible assumption) | assumption); have q178 : x12_3 < (t149.length : Int) := of_decide_eq_true (by first | (with_reducible assumption) | assumption); obtain ⟨ad178, e178, hx178_0, hx178_1, hx178_2, hx178_3, hx178_4, hx178_5, hx178_6⟩ := at_T28 (Kd.R_reads' HO_7.out).2.2 x12_3 p178 q178; (try rw [← Nbq36.out] at hx178_4); obtain rfl : ad161 = ad178 := (by injection e178); replace p178 := eq_true p178; replace q178 := eq_true q178) | (go_at_call 15; (with_reducible refine (sym_Symbol_Own.calls ((rd_T28 t149 x12_3).f0) ((rd_T28 t149 x12_3).f1) ((rd_T28 t149 x12_3).f2) ((rd_T28 t149 x12_3).f3) ((rd_T28 t149 x12_3).f4) ((rd_T28 t149 x12_3).f5) ((rd_T28 t149 x12_3).f6) t179 _ A114.out).mono ?_); rintro e w135 ⟨rfl, hb⟩; have n0_ := Aside0.mk (Kd.R_below (by (with_reducible repeat (first | apply Kd.R_alloc | apply Kd.R_drewN | apply Kd.R_drew)); exact HO_7.out) hb); have n1_ := Aside0.mk (Kd.R_below (by (with_reducible repeat (first | apply Kd.R_alloc | apply Kd.R_drewN | apply Kd.R_drew)); exact HO_9.out) hb); have n2_ := Aside0.mk (blk_below (g := gb155) (o := .cells #[.int .i64 t152, .int .u64 t153, .string t154] 35 (0, 0)) (by (with_reducible repeat (first | refine blk_drewN ?_ _ | refine blk_drew ?_ | refine blk_alloc ?_ _)); exact BK155.out) hb); have n3_ := Aside0.mk (below_step (by repeat (first | (with_reducible first | exact HB.out | apply below_alloc | apply pw_below_drewN | apply below_drew1 | refine below_set ?_ GE155.out) | exact HB.out)) hb); clear HO_7; clear HO_9; clear BK155; clear HB; have HO_7 := n0_; have HO_9 := n1_; have BK155 := n2_; have HB := n3_; clear n0_ n1_ n2_ n3_; (try clear hb); (try clear hb2); (try clear hk); (try clear hi); have p180 : 0 ≤ (x12_3 : Int) := of_decide_eq_true (by first | (with_reducible assumption) | assumption); have q180 : x12_3 < (t156.length : Int) := of_decide_eq_true (by first | (with_reducible assumption) | assumption); obtain ⟨ad180, e180, hx180_0, hx180_1, hx180_2, hx180_3, hx180_4, hx180_5, hx180_6⟩ := at_T31 (Kd.R_reads' HO_9.out).2.2 x12_3 p180 q180; (try rw [← Nbq36.out] at hx180_4); obtain rfl : ad162 = ad180 := (by injection e180); replace p180 := eq_true p180; replace q180 := eq_true q180; have p181 : 0 ≤ (x12_3 : Int) := of_decide_eq_true (by first | (with_reducible assumption) | assumption); have q181 : x12_3 < (t156.length : Int) := of_decide_eq_true (by first | (with_reducible assumption) | assumption); obtain ⟨ad181, e181, hx181_0, hx181_1, hx181_2, hx181_3, hx181_4, hx181_5, hx181_6⟩ := at_T31 (Kd.R_reads' HO_9.out).2.2 x12_3 p181 q181; (try rw [← Nbq36.out] at hx181_4); obtain rfl : ad162 = ad181 := (by injection e181); replace p181 := eq_true p181; replace q181 := eq_true q181))
                    go_ret
                    exact ⟨by first | rfl | (simp [errW_none, errW_some] <;> rfl) | (simp only [← hji6]; first | rfl | (simp [errW_none, errW_some] <;> rfl)) | (simp [*, errW_none, errW_some] <;> rfl), by repeat (first | (with_reducible first | exact HB.out | apply below_alloc | apply pw_below_drewN | apply below_drew1 | refine below_set ?_ GE155.out) | exact HB.out)⟩
                   ·rw [if_neg c129] at H
                    have c129b0 : (t179 != (decide (((rd_T31 t156 x12_3).f3) > 0))) = false := by simpa using c129
                    (try (have c129b1 : decide (t179 = (decide (((rd_T31 t156 x12_3).f3) > 0))) = true := by simpa using c129))
                    (try (have c129b2 : (t179 == (decide (((rd_T31 t156 x12_3).f3) > 0))) = true := by simpa using c129))
                    clear c129
                    have H' := Aside0.mk H
                    clear H
                    have p164 : 0 ≤ (x12_3 : Int) := of_decide_eq_true (by first | (with_reducible assumption) | assumption)
                    have q164 : x12_3 < (t156.length : Int) := of_decide_eq_true (by first | (with_reducible assumption) | assumption)
                    obtain ⟨ad164, e164, hx164_0, hx164_1, hx164_2, hx164_3, hx164_4, hx164_5, hx164_6⟩ := at_T31 (Kd.R_reads' HO_9.out).2.2 x12_3 p164 q164
                    (try rw [← Nbq36.out] at hx164_4)
                    obtain rfl : ad162 = ad164 := (by injection e164)
                    replace p164 := eq_true p164
                    replace q164 := eq_true q164
                    have p165 : 0 ≤ (x12_3 : Int) := of_decide_eq_true (by first | (with_reducible assumption) | assumption)
                    have q165 : x12_3 < (t149.length : Int) := of_decide_eq_true (by first | (with_reducible assumption) | assumption)
                    obtain ⟨ad165, e165, hx165_0, hx165_1, hx165_2, hx165_3, hx165_4, hx165_5, hx165_6⟩ := at_T28 (Kd.R_reads' HO_7.out).2.2 x12_3 p165 q165
                    (try rw [← Nbq36.out] at hx165_4)
                    obtain rfl : ad161 = ad165 := (by injection e165)
                    replace p165 := eq_true p165
                    replace q165 := eq_true q165
                    try go_wp2_with (first | ((with_reducible refine gate_callee (f := 14) rfl ?_); refine goesL_ (some 85) rfl rfl Try.func14 (by kernel_rfl) rfl #[.agg #[.string ((rd_T28 t149 x12_3).f0), .int .i64 ((rd_T28 t149 x12_3).f1), .int .i64 ((rd_T28 t149 x12_3).f2), .int .i64 ((rd_T28 t149 x12_3).f3), .bool ((rd_T28 t149 x12_3).f4), .int .u64 ((rd_T28 t149 x12_3).f5), .int .u64 ((rd_T28 t149 x12_3).f6)]] rfl (by (try simp only [List.map_toArray, List.map_cons, List.map_nil]); first | done | rfl | (simp only [List.length_drop, List.length_take]; rfl)) ?_; (with_reducible refine (sym_Symbol_Exported.calls ((rd_T28 t149 x12_3).f0) ((rd_T28 t149 x12_3).f1) ((rd_T28 t149 x12_3).f2) ((rd_T28 t149 x12_3).f3) ((rd_T28 t149 x12_3).f4) ((rd_T28 t149 x12_3).f5) ((rd_T28 t149 x12_3).f6) t166 _ A35.out).mono ?_); rintro e w140 ⟨rfl, hb⟩; refine ⟨_, rfl, ?_⟩; have n0_ := Aside0.mk (Kd.R_below (by (with_reducible repeat (first | apply Kd.R_alloc | apply Kd.R_drewN | apply Kd.R_drew)); exact HO_7.out) hb); have n1_ := Aside0.mk (Kd.R_below (by (with_reducible repeat (first | apply Kd.R_alloc | apply Kd.R_drewN | apply Kd.R_drew)); exact HO_9.out) hb); have n2_ := Aside0.mk (blk_below (g := gb155) (o := .cells #[.int .i64 t152, .int .u64 t153, .string t154] 35 (0, 0)) (by (with_reducible repeat (first | refine blk_drewN ?_ _ | refine blk_drew ?_ | refine blk_alloc ?_ _)); exact BK155.out) hb); have n3_ := Aside0.mk (below_step (by repeat (first | (with_reducible first | exact HB.out | apply below_alloc | apply pw_below_drewN | apply below_drew1 | refine below_set ?_ GE155.out) | exact HB.out)) hb); clear HO_7; clear HO_9; clear BK155; clear HB; have HO_7 := n0_; have HO_9 := n1_; have BK155 := n2_; have HB := n3_; clear n0_ n1_ n2_ n3_; (try clear hb); (try clear hb2); (try clear hk); (try clear hi); have p167 : 0 ≤ (x12_3 : Int) := of_decide_eq_true (by first | (with_reducible assumption) | assumption); have q167 : x12_3 < (t156.length : Int) := of_decide_eq_true (by first | (with_reducible assumption) | assumption); obtain ⟨ad167, e167, hx167_0, hx167_1, hx167_2, hx167_3, hx167_4, hx167_5, hx167_6⟩ := at_T31 (Kd.R_reads' HO_9.out).2.2 x12_3 p167 q167; (try rw [← Nbq36.out] at hx167_4); obtain rfl : ad162 = ad167 := (by injection e167); replace p167 := eq_true p167; replace q167 := eq_true q167; have p178 : 0 ≤ (x12_3 : Int) := of_decide_eq_true (by first | (with_reducible assumption) | assumption); have q178 : x12_3 < (t149.length : Int) := of_decide_eq_true (by first | (with_reducible assumption) | assumption); obtain ⟨ad178, e178, hx178_0, hx178_1, hx178_2, hx178_3, hx178_4, hx178_5, hx178_6⟩ := at_T28 (Kd.R_reads' HO_7.out).2.2 x12_3 p178 q178; (try rw [← Nbq36.out] at hx178_4); obtain rfl : ad161 = ad178 := (by injection e178); replace p178 := eq_true p178; replace q178 := eq_true q178) | (go_at_call 15; (with_reducible refine (sym_Symbol_Own.calls ((rd_T28 t149 x12_3).f0) ((rd_T28 t149 x12_3).f1) ((rd_T28 t149 x12_3).f2) ((rd_T28 t149 x12_3).f3) ((rd_T28 t149 x12_3).f4) ((rd_T28 t149 x12_3).f5) ((rd_T28 t149 x12_3).f6) t179 _ A114.out).mono ?_); rintro e w141 ⟨rfl, hb⟩; have n0_ := Aside0.mk (Kd.R_below (by (with_reducible repeat (first | apply Kd.R_alloc | apply Kd.R_drewN | apply Kd.R_drew)); exact HO_7.out) hb); have n1_ := Aside0.mk (Kd.R_below (by (with_reducible repeat (first | apply Kd.R_alloc | apply Kd.R_drewN | apply Kd.R_drew)); exact HO_9.out) hb); have n2_ := Aside0.mk (blk_below (g := gb155) (o := .cells #[.int .i64 t152, .int .u64 t153, .string t154] 35 (0, 0)) (by (with_reducible repeat (first | refine blk_drewN ?_ _ | refine blk_drew ?_ | refine blk_alloc ?_ _)); exact BK155.out) hb); have n3_ := Aside0.mk (below_step (by repeat (first | (with_reducible first | exact HB.out | apply below_alloc | apply pw_below_drewN | apply below_drew1 | refine below_set ?_ GE155.out) | exact HB.out)) hb); clear HO_7; clear HO_9; clear BK155; clear HB; have HO_7 := n0_; have HO_9 := n1_; have BK155 := n2_; have HB := n3_; clear n0_ n1_ n2_ n3_; (try clear hb); (try clear hb2); (try clear hk); (try clear hi); have p180 : 0 ≤ (x12_3 : Int) := of_decide_eq_true (by first | (with_reducible assumption) | assumption); have q180 : x12_3 < (t156.length : Int) := of_decide_eq_true (by first | (with_reducible assumption) | assumption); obtain ⟨ad180, e180, hx180_0, hx180_1, hx180_2, hx180_3, hx180_4, hx180_5, hx180_6⟩ := at_T31 (Kd.R_reads' HO_9.out).2.2 x12_3 p180 q180; (try rw [← Nbq36.out] at hx180_4); obtain rfl : ad162 = ad180 := (by injection e180); replace p180 := eq_true p180; replace q180 := eq_true q180; have p181 : 0 ≤ (x12_3 : Int) := of_decide_eq_true (by first | (with_reducible assumption) | assumption); have q181 : x12_3 < (t156.length : Int) := of_decide_eq_true (by first | (with_reducible assumption) | assumption); obtain ⟨ad181, e181, hx181_0, hx181_1, hx181_2, hx181_3, hx181_4, hx181_5, hx181_6⟩ := at_T31 (Kd.R_reads' HO_9.out).2.2 x12_3 p181 q181; (try rw [← Nbq36.out] at hx181_4); obtain rfl : ad162 = ad181 := (by injection e181); replace p181 := eq_true p181; replace q181 := eq_true q181))
                    go_roundg k3
                    case measure => have := HJ8.out; have := HJ16.out; have := HK3.out; omega
                    case rel => exact ⟨(wrap64 (x12_3 + 1)), (by first | rfl | (simp; done) | (simp [*]; done)), H', ⟨by have := HJ8.out; have := HJ16.out; have := HK3.out; omega⟩, ⟨by (with_reducible repeat (first | apply Kd.R_alloc | apply Kd.R_drewN | apply Kd.R_drew)); exact HO_7.out⟩, ⟨by (with_reducible repeat (first | apply Kd.R_alloc | apply Kd.R_drewN | apply Kd.R_drew)); exact HO_9.out⟩, ⟨by (with_reducible repeat (first | refine blk_drewN ?_ _ | refine blk_drew ?_ | refine blk_alloc ?_ _)); exact BK155.out⟩, ⟨by repeat (first | (with_reducible first | exact HB.out | apply below_alloc | apply pw_below_drewN | apply below_drew1 | refine below_set ?_ GE155.out) | exact HB.out)⟩⟩
               ·replace c37 := Bool.eq_false_iff.mpr c37
                subst c37
                have H1 : (if (t166 != false) = true then (some false) else ((sym_Symbol_Own.f ((rd_T28 t149 x12_3).f0) ((rd_T28 t149 x12_3).f1) ((rd_T28 t149 x12_3).f2) ((rd_T28 t149 x12_3).f3) ((rd_T28 t149 x12_3).f4) ((rd_T28 t149 x12_3).f5) ((rd_T28 t149 x12_3).f6)).bind fun t183 => (if (t183 != false) = true then (some false) else (turnbucklelaw11_SymReads.l0 k3 t149 t156 (wrap64 (x12_3 + 1)))))) = some r := by rw [if_neg (show ¬ (false = true) by decide)] at H; exact H
                clear H
                have H := H1
                clear H1
                by_cases c142 : (t166 != false) = true
                ·rw [if_pos c142] at H
                 have c142b0 : (t166 != false) = true := c142
                 (try (have c142b1 : decide (t166 = false) = false := by simpa using c142))
                 (try (have c142b2 : (t166 == false) = false := by simpa using c142))
                 (try (have c142b3 : ¬ (t166 = false) := by simpa using c142))
                 clear c142
                 obtain rfl := Option.some.inj H
                 have p164 : 0 ≤ (x12_3 : Int) := of_decide_eq_true (by first | (with_reducible assumption) | assumption)
                 have q164 : x12_3 < (t156.length : Int) := of_decide_eq_true (by first | (with_reducible assumption) | assumption)
                 obtain ⟨ad164, e164, hx164_0, hx164_1, hx164_2, hx164_3, hx164_4, hx164_5, hx164_6⟩ := at_T31 (Kd.R_reads' HO_9.out).2.2 x12_3 p164 q164
                 (try rw [← Nbq36.out] at hx164_4)
                 obtain rfl : ad162 = ad164 := (by injection e164)
                 replace p164 := eq_true p164
                 replace q164 := eq_true q164
                 have p165 : 0 ≤ (x12_3 : Int) := of_decide_eq_true (by first | (with_reducible assumption) | assumption)
                 have q165 : x12_3 < (t149.length : Int) := of_decide_eq_true (by first | (with_reducible assumption) | assumption)
                 obtain ⟨ad165, e165, hx165_0, hx165_1, hx165_2, hx165_3, hx165_4, hx165_5, hx165_6⟩ := at_T28 (Kd.R_reads' HO_7.out).2.2 x12_3 p165 q165
                 (try rw [← Nbq36.out] at hx165_4)
                 obtain rfl : ad161 = ad165 := (by injection e165)
                 replace p165 := eq_true p165
                 replace q165 := eq_true q165
                 try go_wp2_with (first | ((with_reducible refine gate_callee (f := 14) rfl ?_); refine goesL_ (some 85) rfl rfl Try.func14 (by kernel_rfl) rfl #[.agg #[.string ((rd_T28 t149 x12_3).f0), .int .i64 ((rd_T28 t149 x12_3).f1), .int .i64 ((rd_T28 t149 x12_3).f2), .int .i64 ((rd_T28 t149 x12_3).f3), .bool ((rd_T28 t149 x12_3).f4), .int .u64 ((rd_T28 t149 x12_3).f5), .int .u64 ((rd_T28 t149 x12_3).f6)]] rfl (by (try simp only [List.map_toArray, List.map_cons, List.map_nil]); first | done | rfl | (simp only [List.length_drop, List.length_take]; rfl)) ?_; (with_reducible refine (sym_Symbol_Exported.calls ((rd_T28 t149 x12_3).f0) ((rd_T28 t149 x12_3).f1) ((rd_T28 t149 x12_3).f2) ((rd_T28 t149 x12_3).f3) ((rd_T28 t149 x12_3).f4) ((rd_T28 t149 x12_3).f5) ((rd_T28 t149 x12_3).f6) t166 _ A35.out).mono ?_); rintro e w147 ⟨rfl, hb⟩; refine ⟨_, rfl, ?_⟩; have n0_ := Aside0.mk (Kd.R_below (by (with_reducible repeat (first | apply Kd.R_alloc | apply Kd.R_drewN | apply Kd.R_drew)); exact HO_7.out) hb); have n1_ := Aside0.mk (Kd.R_below (by (with_reducible repeat (first | apply Kd.R_alloc | apply Kd.R_drewN | apply Kd.R_drew)); exact HO_9.out) hb); have n2_ := Aside0.mk (blk_below (g := gb155) (o := .cells #[.int .i64 t152, .int .u64 t153, .string t154] 35 (0, 0)) (by (with_reducible repeat (first | refine blk_drewN ?_ _ | refine blk_drew ?_ | refine blk_alloc ?_ _)); exact BK155.out) hb); have n3_ := Aside0.mk (below_step (by repeat (first | (with_reducible first | exact HB.out | apply below_alloc | apply pw_below_drewN | apply below_drew1 | refine below_set ?_ GE155.out) | exact HB.out)) hb); clear HO_7; clear HO_9; clear BK155; clear HB; have HO_7 := n0_; have HO_9 := n1_; have BK155 := n2_; have HB := n3_; clear n0_ n1_ n2_ n3_; (try clear hb); (try clear hb2); (try clear hk); (try clear hi)))
                 go_ret
                 exact ⟨by first | rfl | (simp [errW_none, errW_some] <;> rfl) | (simp only [← hji6]; first | rfl | (simp [errW_none, errW_some] <;> rfl)) | (simp [*, errW_none, errW_some] <;> rfl), by repeat (first | (with_reducible first | exact HB.out | apply below_alloc | apply pw_below_drewN | apply below_drew1 | refine below_set ?_ GE155.out) | exact HB.out)⟩
                ·rw [if_neg c142] at H
                 have c142b0 : (t166 != false) = false := by simpa using c142
                 (try (have c142b1 : decide (t166 = false) = true := by simpa using c142))
                 (try (have c142b2 : (t166 == false) = true := by simpa using c142))
                 clear c142
                 replace H := Option.bind_eq_some_iff.mp H
                 obtain ⟨t183, A1480, H⟩ := H
                 replace H : (if (t183 != false) = true then (some false) else (turnbucklelaw11_SymReads.l0 k3 t149 t156 (wrap64 (x12_3 + 1)))) = some r := H
                 have A148 := Aside0.mk A1480
                 clear A1480
                 by_cases c149 : (t183 != false) = true
                 ·rw [if_pos c149] at H
                  have c149b0 : (t183 != false) = true := c149
                  (try (have c149b1 : decide (t183 = false) = false := by simpa using c149))
                  (try (have c149b2 : (t183 == false) = false := by simpa using c149))
                  (try (have c149b3 : ¬ (t183 = false) := by simpa using c149))
                  clear c149
                  obtain rfl := Option.some.inj H
                  have p164 : 0 ≤ (x12_3 : Int) := of_decide_eq_true (by first | (with_reducible assumption) | assumption)
                  have q164 : x12_3 < (t156.length : Int) := of_decide_eq_true (by first | (with_reducible assumption) | assumption)
                  obtain ⟨ad164, e164, hx164_0, hx164_1, hx164_2, hx164_3, hx164_4, hx164_5, hx164_6⟩ := at_T31 (Kd.R_reads' HO_9.out).2.2 x12_3 p164 q164
                  (try rw [← Nbq36.out] at hx164_4)
                  obtain rfl : ad162 = ad164 := (by injection e164)
                  replace p164 := eq_true p164
                  replace q164 := eq_true q164
                  have p165 : 0 ≤ (x12_3 : Int) := of_decide_eq_true (by first | (with_reducible assumption) | assumption)
                  have q165 : x12_3 < (t149.length : Int) := of_decide_eq_true (by first | (with_reducible assumption) | assumption)
                  obtain ⟨ad165, e165, hx165_0, hx165_1, hx165_2, hx165_3, hx165_4, hx165_5, hx165_6⟩ := at_T28 (Kd.R_reads' HO_7.out).2.2 x12_3 p165 q165
                  (try rw [← Nbq36.out] at hx165_4)
                  obtain rfl : ad161 = ad165 := (by injection e165)
                  replace p165 := eq_true p165
                  replace q165 := eq_true q165
                  try go_wp2_with (first | ((with_reducible refine gate_callee (f := 14) rfl ?_); refine goesL_ (some 85) rfl rfl Try.func14 (by kernel_rfl) rfl #[.agg #[.string ((rd_T28 t149 x12_3).f0), .int .i64 ((rd_T28 t149 x12_3).f1), .int .i64 ((rd_T28 t149 x12_3).f2), .int .i64 ((rd_T28 t149 x12_3).f3), .bool ((rd_T28 t149 x12_3).f4), .int .u64 ((rd_T28 t149 x12_3).f5), .int .u64 ((rd_T28 t149 x12_3).f6)]] rfl (by (try simp only [List.map_toArray, List.map_cons, List.map_nil]); first | done | rfl | (simp only [List.length_drop, List.length_take]; rfl)) ?_; (with_reducible refine (sym_Symbol_Exported.calls ((rd_T28 t149 x12_3).f0) ((rd_T28 t149 x12_3).f1) ((rd_T28 t149 x12_3).f2) ((rd_T28 t149 x12_3).f3) ((rd_T28 t149 x12_3).f4) ((rd_T28 t149 x12_3).f5) ((rd_T28 t149 x12_3).f6) t166 _ A35.out).mono ?_); rintro e w154 ⟨rfl, hb⟩; refine ⟨_, rfl, ?_⟩; have n0_ := Aside0.mk (Kd.R_below (by (with_reducible repeat (first | apply Kd.R_alloc | apply Kd.R_drewN | apply Kd.R_drew)); exact HO_7.out) hb); have n1_ := Aside0.mk (Kd.R_below (by (with_reducible repeat (first | apply Kd.R_alloc | apply Kd.R_drewN | apply Kd.R_drew)); exact HO_9.out) hb); have n2_ := Aside0.mk (blk_below (g := gb155) (o := .cells #[.int .i64 t152, .int .u64 t153, .string t154] 35 (0, 0)) (by (with_reducible repeat (first | refine blk_drewN ?_ _ | refine blk_drew ?_ | refine blk_alloc ?_ _)); exact BK155.out) hb); have n3_ := Aside0.mk (below_step (by repeat (first | (with_reducible first | exact HB.out | apply below_alloc | apply pw_below_drewN | apply below_drew1 | refine below_set ?_ GE155.out) | exact HB.out)) hb); clear HO_7; clear HO_9; clear BK155; clear HB; have HO_7 := n0_; have HO_9 := n1_; have BK155 := n2_; have HB := n3_; clear n0_ n1_ n2_ n3_; (try clear hb); (try clear hb2); (try clear hk); (try clear hi); have p182 : 0 ≤ (x12_3 : Int) := of_decide_eq_true (by first | (with_reducible assumption) | assumption); have q182 : x12_3 < (t149.length : Int) := of_decide_eq_true (by first | (with_reducible assumption) | assumption); obtain ⟨ad182, e182, hx182_0, hx182_1, hx182_2, hx182_3, hx182_4, hx182_5, hx182_6⟩ := at_T28 (Kd.R_reads' HO_7.out).2.2 x12_3 p182 q182; (try rw [← Nbq36.out] at hx182_4); obtain rfl : ad161 = ad182 := (by injection e182); replace p182 := eq_true p182; replace q182 := eq_true q182) | (go_at_call 15; (with_reducible refine (sym_Symbol_Own.calls ((rd_T28 t149 x12_3).f0) ((rd_T28 t149 x12_3).f1) ((rd_T28 t149 x12_3).f2) ((rd_T28 t149 x12_3).f3) ((rd_T28 t149 x12_3).f4) ((rd_T28 t149 x12_3).f5) ((rd_T28 t149 x12_3).f6) t183 _ A148.out).mono ?_); rintro e w155 ⟨rfl, hb⟩; have n0_ := Aside0.mk (Kd.R_below (by (with_reducible repeat (first | apply Kd.R_alloc | apply Kd.R_drewN | apply Kd.R_drew)); exact HO_7.out) hb); have n1_ := Aside0.mk (Kd.R_below (by (with_reducible repeat (first | apply Kd.R_alloc | apply Kd.R_drewN | apply Kd.R_drew)); exact HO_9.out) hb); have n2_ := Aside0.mk (blk_below (g := gb155) (o := .cells #[.int .i64 t152, .int .u64 t153, .string t154] 35 (0, 0)) (by (with_reducible repeat (first | refine blk_drewN ?_ _ | refine blk_drew ?_ | refine blk_alloc ?_ _)); exact BK155.out) hb); have n3_ := Aside0.mk (below_step (by repeat (first | (with_reducible first | exact HB.out | apply below_alloc | apply pw_below_drewN | apply below_drew1 | refine below_set ?_ GE155.out) | exact HB.out)) hb); clear HO_7; clear HO_9; clear BK155; clear HB; have HO_7 := n0_; have HO_9 := n1_; have BK155 := n2_; have HB := n3_; clear n0_ n1_ n2_ n3_; (try clear hb); (try clear hb2); (try clear hk); (try clear hi)))
                  go_ret
                  exact ⟨by first | rfl | (simp [errW_none, errW_some] <;> rfl) | (simp only [← hji6]; first | rfl | (simp [errW_none, errW_some] <;> rfl)) | (simp [*, errW_none, errW_some] <;> rfl), by repeat (first | (with_reducible first | exact HB.out | apply below_alloc | apply pw_below_drewN | apply below_drew1 | refine below_set ?_ GE155.out) | exact HB.out)⟩
                 ·rw [if_neg c149] at H
                  have c149b0 : (t183 != false) = false := by simpa using c149
                  (try (have c149b1 : decide (t183 = false) = true := by simpa using c149))
                  (try (have c149b2 : (t183 == false) = true := by simpa using c149))
                  clear c149
                  have H' := Aside0.mk H
                  clear H
                  have p164 : 0 ≤ (x12_3 : Int) := of_decide_eq_true (by first | (with_reducible assumption) | assumption)
                  have q164 : x12_3 < (t156.length : Int) := of_decide_eq_true (by first | (with_reducible assumption) | assumption)
                  obtain ⟨ad164, e164, hx164_0, hx164_1, hx164_2, hx164_3, hx164_4, hx164_5, hx164_6⟩ := at_T31 (Kd.R_reads' HO_9.out).2.2 x12_3 p164 q164
                  (try rw [← Nbq36.out] at hx164_4)
                  obtain rfl : ad162 = ad164 := (by injection e164)
                  replace p164 := eq_true p164
                  replace q164 := eq_true q164
                  have p165 : 0 ≤ (x12_3 : Int) := of_decide_eq_true (by first | (with_reducible assumption) | assumption)
                  have q165 : x12_3 < (t149.length : Int) := of_decide_eq_true (by first | (with_reducible assumption) | assumption)
                  obtain ⟨ad165, e165, hx165_0, hx165_1, hx165_2, hx165_3, hx165_4, hx165_5, hx165_6⟩ := at_T28 (Kd.R_reads' HO_7.out).2.2 x12_3 p165 q165
                  (try rw [← Nbq36.out] at hx165_4)
                  obtain rfl : ad161 = ad165 := (by injection e165)
                  replace p165 := eq_true p165
                  replace q165 := eq_true q165
                  try go_wp2_with (first | ((with_reducible refine gate_callee (f := 14) rfl ?_); refine goesL_ (some 85) rfl rfl Try.func14 (by kernel_rfl) rfl #[.agg #[.string ((rd_T28 t149 x12_3).f0), .int .i64 ((rd_T28 t149 x12_3).f1), .int .i64 ((rd_T28 t149 x12_3).f2), .int .i64 ((rd_T28 t149 x12_3).f3), .bool ((rd_T28 t149 x12_3).f4), .int .u64 ((rd_T28 t149 x12_3).f5), .int .u64 ((rd_T28 t149 x12_3).f6)]] rfl (by (try simp only [List.map_toArray, List.map_cons, List.map_nil]); first | done | rfl | (simp only [List.length_drop, List.length_take]; rfl)) ?_; (with_reducible refine (sym_Symbol_Exported.calls ((rd_T28 t149 x12_3).f0) ((rd_T28 t149 x12_3).f1) ((rd_T28 t149 x12_3).f2) ((rd_T28 t149 x12_3).f3) ((rd_T28 t149 x12_3).f4) ((rd_T28 t149 x12_3).f5) ((rd_T28 t149 x12_3).f6) t166 _ A35.out).mono ?_); rintro e w160 ⟨rfl, hb⟩; refine ⟨_, rfl, ?_⟩; have n0_ := Aside0.mk (Kd.R_below (by (with_reducible repeat (first | apply Kd.R_alloc | apply Kd.R_drewN | apply Kd.R_drew)); exact HO_7.out) hb); have n1_ := Aside0.mk (Kd.R_below (by (with_reducible repeat (first | apply Kd.R_alloc | apply Kd.R_drewN | apply Kd.R_drew)); exact HO_9.out) hb); have n2_ := Aside0.mk (blk_below (g := gb155) (o := .cells #[.int .i64 t152, .int .u64 t153, .string t154] 35 (0, 0)) (by (with_reducible repeat (first | refine blk_drewN ?_ _ | refine blk_drew ?_ | refine blk_alloc ?_ _)); exact BK155.out) hb); have n3_ := Aside0.mk (below_step (by repeat (first | (with_reducible first | exact HB.out | apply below_alloc | apply pw_below_drewN | apply below_drew1 | refine below_set ?_ GE155.out) | exact HB.out)) hb); clear HO_7; clear HO_9; clear BK155; clear HB; have HO_7 := n0_; have HO_9 := n1_; have BK155 := n2_; have HB := n3_; clear n0_ n1_ n2_ n3_; (try clear hb); (try clear hb2); (try clear hk); (try clear hi); have p182 : 0 ≤ (x12_3 : Int) := of_decide_eq_true (by first | (with_reducible assumption) | assumption); have q182 : x12_3 < (t149.length : Int) := of_decide_eq_true (by first | (with_reducible assumption) | assumption); obtain ⟨ad182, e182, hx182_0, hx182_1, hx182_2, hx182_3, hx182_4, hx182_5, hx182_6⟩ := at_T28 (Kd.R_reads' HO_7.out).2.2 x12_3 p182 q182; (try rw [← Nbq36.out] at hx182_4); obtain rfl : ad161 = ad182 := (by injection e182); replace p182 := eq_true p182; replace q182 := eq_true q182) | (go_at_call 15; (with_reducible refine (sym_Symbol_Own.calls ((rd_T28 t149 x12_3).f0) ((rd_T28 t149 x12_3).f1) ((rd_T28 t149 x12_3).f2) ((rd_T28 t149 x12_3).f3) ((rd_T28 t149 x12_3).f4) ((rd_T28 t149 x12_3).f5) ((rd_T28 t149 x12_3).f6) t183 _ A148.out).mono ?_); rintro e w161 ⟨rfl, hb⟩; have n0_ := Aside0.mk (Kd.R_below (by (with_reducible repeat (first | apply Kd.R_alloc | apply Kd.R_drewN | apply Kd.R_drew)); exact HO_7.out) hb); have n1_ := Aside0.mk (Kd.R_below (by (with_reducible repeat (first | apply Kd.R_alloc | apply Kd.R_drewN | apply Kd.R_drew)); exact HO_9.out) hb); have n2_ := Aside0.mk (blk_below (g := gb155) (o := .cells #[.int .i64 t152, .int .u64 t153, .string t154] 35 (0, 0)) (by (with_reducible repeat (first | refine blk_drewN ?_ _ | refine blk_drew ?_ | refine blk_alloc ?_ _)); exact BK155.out) hb); have n3_ := Aside0.mk (below_step (by repeat (first | (with_reducible first | exact HB.out | apply below_alloc | apply pw_below_drewN | apply below_drew1 | refine below_set ?_ GE155.out) | exact HB.out)) hb); clear HO_7; clear HO_9; clear BK155; clear HB; have HO_7 := n0_; have HO_9 := n1_; have BK155 := n2_; have HB := n3_; clear n0_ n1_ n2_ n3_; (try clear hb); (try clear hb2); (try clear hk); (try clear hi)))
                  go_roundg k3
                  case measure => have := HJ8.out; have := HJ16.out; have := HK3.out; omega
                  case rel => exact ⟨(wrap64 (x12_3 + 1)), (by first | rfl | (simp; done) | (simp [*]; done)), H', ⟨by have := HJ8.out; have := HJ16.out; have := HK3.out; omega⟩, ⟨by (with_reducible repeat (first | apply Kd.R_alloc | apply Kd.R_drewN | apply Kd.R_drew)); exact HO_7.out⟩, ⟨by (with_reducible repeat (first | apply Kd.R_alloc | apply Kd.R_drewN | apply Kd.R_drew)); exact HO_9.out⟩, ⟨by (with_reducible repeat (first | refine blk_drewN ?_ _ | refine blk_drew ?_ | refine blk_alloc ?_ _)); exact BK155.out⟩, ⟨by repeat (first | (with_reducible first | exact HB.out | apply below_alloc | apply pw_below_drewN | apply below_drew1 | refine below_set ?_ GE155.out) | exact HB.out)⟩⟩
              ·replace c34 := Bool.eq_false_iff.mpr c34
               subst c34
               have H1 : (some false) = some r := by rw [if_neg (show ¬ (false = true) by decide)] at H; exact H
               clear H
               have H := H1
               clear H1
               obtain rfl := Option.some.inj H
               try go_wp2
               go_ret
               exact ⟨by first | rfl | (simp [errW_none, errW_some] <;> rfl) | (simp only [← hji6]; first | rfl | (simp [errW_none, errW_some] <;> rfl)) | (simp [*, errW_none, errW_some] <;> rfl), by repeat (first | (with_reducible first | exact HB.out | apply below_alloc | apply pw_below_drewN | apply below_drew1 | refine below_set ?_ GE155.out) | exact HB.out)⟩
             ·rw [if_neg c32] at H
              exact absurd H (by simp)
            ·rw [if_neg c31] at H
             exact absurd H (by simp)
           ·rw [if_neg c30] at H
            have c30b0 : decide (x12_3 < (t156.length : Int)) = false := decide_eq_false c30
            clear c30
            obtain rfl := Option.some.inj H
            obtain ⟨Ao166, co166, eo166⟩ := Kd.R_slice HO_9.out
            subst eo166
            go_wp2
            go_ret
            exact ⟨by first | rfl | (simp [errW_none, errW_some] <;> rfl) | (simp only [← hji6]; first | rfl | (simp [errW_none, errW_some] <;> rfl)) | (simp [*, errW_none, errW_some] <;> rfl), by repeat (first | (with_reducible first | exact HB.out | apply below_alloc | apply pw_below_drewN | apply below_drew1 | refine below_set ?_ GE155.out) | exact HB.out)⟩
   ·rw [if_neg c8] at H
    exact absurd H (by simp)
  ·rw [if_neg c7] at H
   exact absurd H (by simp)
 ·replace c5 := Bool.eq_false_iff.mpr c5
  subst c5
  have H1 : (some false) = some r := by rw [if_neg (show ¬ (false = true) by decide)] at H; exact H
  clear H
  have H := H1
  clear H1
  obtain rfl := Option.some.inj H
  go_enter Try.func5, Try.ntmps5
  go_wp2_with (first | ((with_reducible refine gate_callee (f := 7) rfl ?_); refine goesL_ (some 14) rfl rfl Try.func7 (by kernel_rfl) rfl #[] rfl (by (try simp only [List.map_toArray, List.map_cons, List.map_nil]); first | done | rfl | (simp only [List.length_drop, List.length_take]; rfl)) ?_; (with_reducible refine (turnbucklelaw11_speaks.calls k  false _ A4.out).mono ?_); rintro e w167 ⟨rfl, hb⟩; refine ⟨_, rfl, ?_⟩; have n0_ := Aside0.mk (below_step (by repeat (first | (with_reducible first | exact HB.out | apply below_alloc | apply pw_below_drewN | apply below_drew1) | exact HB.out)) hb); clear HB; have HB := n0_; clear n0_; (try clear hb); (try clear hb2); (try clear hk); (try clear hi)))
  go_ret
  exact ⟨by first | rfl | (simp [errW_none, errW_some] <;> rfl) | (simp [*, errW_none, errW_some] <;> rfl), by repeat (first | (with_reducible first | exact HB.out | apply below_alloc | apply pw_below_drewN | apply below_drew1) | exact HB.out)⟩

/-- THE ONE PURE STATEMENT of turnbucklelaw11_SymReads: yours. -/
def turnbucklelaw11_SymReads.Pure : Prop := ∀ (a0 : ByteArray) (a1 : ByteArray) (a2 : Int), a0.size ≤ 140737488351232 → a1.size ≤ 140737488351232 → (Lit.int .i64 a2).wf = true → ∃ k, turnbucklelaw11_SymReads.f k a0 a1 a2 = some true
theorem turnbucklelaw11_SymReads.walk (P : turnbucklelaw11_SymReads.Pure) (a0 : ByteArray) (a1 : ByteArray) (a2 : Int) (w : World) (w0 : a0.size ≤ 140737488351232) (w1 : a1.size ≤ 140737488351232) (w2 : (Lit.int .i64 a2).wf = true) :
  Calls Try.prog 5 #[.string a0, .string a1, .int .i64 a2] w fun e w' => e = .returned (.bool true) ∧ Below w.heap.size w w' := by
 obtain ⟨k, h⟩ := P a0 a1 a2 w0 w1 w2
 refine (turnbucklelaw11_SymReads.calls k a0 a1 a2 true w h).mono ?_
 rintro e w' ⟨rfl, hd⟩
 exact ⟨rfl, hd⟩

end Go.Proofs.Ytmekjomfdomogaa.PRd
