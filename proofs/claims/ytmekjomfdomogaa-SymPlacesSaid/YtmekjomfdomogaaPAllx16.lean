-- Written by a program of this session (a changed copy of the print of the kit). Not trusted: Lean checks it.
import Derived.Test.YtmekjomfdomogaaPAllx0
import Derived.Test.YtmekjomfdomogaaPAllx1
import Derived.Test.YtmekjomfdomogaaPAllx3
import Derived.Test.YtmekjomfdomogaaPAllx9
import Derived.Test.YtmekjomfdomogaaPAllx10
namespace Go.Proofs.Ytmekjomfdomogaa.PAll
open Go.RowKit Go.Proofs.YtmekjomfdomogaaW.PrintWords Go.Proofs.YtmekjomfdomogaaW.PrintLast Go.Proofs.YtmekjomfdomogaaW.PrintMore
attribute [local go_sem] max2_int min2_int max_two min_two max_three min_three max_four min_four   -- for this text's walks alone
set_option linter.unusedVariables false
set_option linter.unusedSimpArgs false

attribute [local go_sem high] eqA28
/-! ### turnbucklelaw11_SymPlaces: function 4 -/
mutual
def turnbucklelaw11_SymPlaces.j1 : Nat → Int → List (S28) → ByteArray → Option (Bool)
 | 0, _, _, _ => none
 | k + 1, x1, x5, x6 => (sym_Read.f k x6 (⟨#[120, 0]⟩ : ByteArray)).bind fun bt236 => ((fail_Fault_OK.f bt236.2.1 bt236.2.2.1 bt236.2.2.2).bind fun t243 => (if t243 = true then (turnbucklelaw11_SymPlaces.j2 k x1 x5 x6 bt236.1 ((bt236.1.length : Int) != (x5.length : Int))) else (turnbucklelaw11_SymPlaces.j2 k x1 x5 x6 bt236.1 true)))
def turnbucklelaw11_SymPlaces.j2 : Nat → Int → List (S28) → ByteArray → List (S28) → Bool → Option (Bool)
 | 0, _, _, _, _, _ => none
 | k + 1, x1, x5, x6, x9, x83 => if x83 = true then (some false) else (turnbucklelaw11_SymPlaces.l1 k x1 x5 x6 x9 0)
def turnbucklelaw11_SymPlaces.l1 : Nat → Int → List (S28) → ByteArray → List (S28) → Int → Option (Bool)
 | 0, _, _, _, _, _ => none
 | k + 1, x1, x5, x6, x9, x11 => if x11 < (x5.length : Int) then (if 0 ≤ x11 then (if x11 < (x9.length : Int) then (if (!((((rd_T28 x9 x11).f0).toList) == (((rd_T28 x5 x11).f0).toList)) || (!(((rd_T28 x9 x11).f1) == ((rd_T28 x5 x11).f1)) || (!(((rd_T28 x9 x11).f2) == ((rd_T28 x5 x11).f2)) || (!(((rd_T28 x9 x11).f3) == ((rd_T28 x5 x11).f3)) || (!(((rd_T28 x9 x11).f4) == ((rd_T28 x5 x11).f4)) || (!(((rd_T28 x9 x11).f5) == ((rd_T28 x5 x11).f5)) || (!(((rd_T28 x9 x11).f6) == ((rd_T28 x5 x11).f6))))))))) = true then (some false) else (turnbucklelaw11_SymPlaces.l1 k x1 x5 x6 x9 (wrap64 (x11 + 1)))) else (none)) else (none)) else (if (x5.length : Int) = 0 then (some true) else (if 0 ≤ (wrap64 (24 * (Int.tmod (wrap64 ((Int.tmod x1 (x5.length : Int)) + (x5.length : Int))) (x5.length : Int)))) then (if (wrap64 (24 * (Int.tmod (wrap64 ((Int.tmod x1 (x5.length : Int)) + (x5.length : Int))) (x5.length : Int)))) ≤ (x6.size : Int) then (if (x6.extract 0 ((wrap64 (24 * (Int.tmod (wrap64 ((Int.tmod x1 (x5.length : Int)) + (x5.length : Int))) (x5.length : Int)))) : Int).toNat).size + 1 ≤ 9223372036854775807 then (if 0 ≤ (wrap64 ((wrap64 (24 * (Int.tmod (wrap64 ((Int.tmod x1 (x5.length : Int)) + (x5.length : Int))) (x5.length : Int)))) + 1)) then (if (wrap64 ((wrap64 (24 * (Int.tmod (wrap64 ((Int.tmod x1 (x5.length : Int)) + (x5.length : Int))) (x5.length : Int)))) + 1)) ≤ (x6.size : Int) then (if ((x6.extract 0 ((wrap64 (24 * (Int.tmod (wrap64 ((Int.tmod x1 (x5.length : Int)) + (x5.length : Int))) (x5.length : Int)))) : Int).toNat) ++ (⟨#[9]⟩ : ByteArray)).size + (x6.extract ((wrap64 ((wrap64 (24 * (Int.tmod (wrap64 ((Int.tmod x1 (x5.length : Int)) + (x5.length : Int))) (x5.length : Int)))) + 1)) : Int).toNat x6.size).size ≤ 9223372036854775807 then ((sym_Read.f k (((x6.extract 0 ((wrap64 (24 * (Int.tmod (wrap64 ((Int.tmod x1 (x5.length : Int)) + (x5.length : Int))) (x5.length : Int)))) : Int).toNat) ++ (⟨#[9]⟩ : ByteArray)) ++ (x6.extract ((wrap64 ((wrap64 (24 * (Int.tmod (wrap64 ((Int.tmod x1 (x5.length : Int)) + (x5.length : Int))) (x5.length : Int)))) + 1)) : Int).toNat x6.size)) (⟨#[120, 0]⟩ : ByteArray)).bind fun bt246 => (if bt246.2.1 = 25 then (some (bt246.2.2.1 == (IntKind.u64.wrap (wrap64 (24 * (Int.tmod (wrap64 ((Int.tmod x1 (x5.length : Int)) + (x5.length : Int))) (x5.length : Int))))))) else (some false))) else (none)) else (none)) else (none)) else (none)) else (none)) else (none)))
def turnbucklelaw11_SymPlaces.l0 : Nat → List (S24) → Int → List (S28) → ByteArray → Int → Option (Bool)
 | 0, _, _, _, _, _ => none
 | k + 1, x0, x1, x5, x6, x7 => if x7 < (x0.length : Int) then (if x7 < 30 then (if 0 ≤ x7 then (if x5.length < 2199023255552 then ((sym_Put.f k (⟨#[120]⟩ : ByteArray) (Go.bits .and .i64 ((rd_T24 x0 x7).f0) 1) (Go.bits .and .i64 ((rd_T24 x0 x7).f1) 15) (Go.bits .and .i64 ((rd_T24 x0 x7).f2) 3) ((rd_T24 x0 x7).f3) ((rd_T24 x0 x7).f4) ((rd_T24 x0 x7).f5) 0).bind fun t235 => (if x6.size + t235.size ≤ 9223372036854775807 then (turnbucklelaw11_SymPlaces.l0 k x0 x1 (x5 ++ [(⟨(⟨#[120]⟩ : ByteArray), Go.bits .and .i64 ((rd_T24 x0 x7).f0) 1, Go.bits .and .i64 ((rd_T24 x0 x7).f1) 15, Go.bits .and .i64 ((rd_T24 x0 x7).f2) 3, (rd_T24 x0 x7).f3, (rd_T24 x0 x7).f4, (rd_T24 x0 x7).f5⟩ : S28)]) (x6 ++ t235) (wrap64 (x7 + 1))) else (none))) else (none)) else (none)) else (turnbucklelaw11_SymPlaces.j1 k x1 x5 x6)) else (turnbucklelaw11_SymPlaces.j1 k x1 x5 x6)
end
def turnbucklelaw11_SymPlaces.f (k : Nat) (l0 : List (S24)) (a1 : Int) : Option (Bool) := (turnbucklelaw11_speaks.f k).bind fun t224 => (if t224 = true then (turnbucklelaw11_SymPlaces.l0 k l0 a1 ([] : List (S28)) (⟨#[]⟩ : ByteArray) 0) else (some false))
theorem turnbucklelaw11_SymPlaces.mono_l : ∀ k, (∀ y0 y1 y2, LeO (turnbucklelaw11_SymPlaces.j1 k y0 y1 y2) (turnbucklelaw11_SymPlaces.j1 (k + 1) y0 y1 y2)) ∧ (∀ y0 y1 y2 y3 y4, LeO (turnbucklelaw11_SymPlaces.j2 k y0 y1 y2 y3 y4) (turnbucklelaw11_SymPlaces.j2 (k + 1) y0 y1 y2 y3 y4)) ∧ (∀ y0 y1 y2 y3 y4, LeO (turnbucklelaw11_SymPlaces.l1 k y0 y1 y2 y3 y4) (turnbucklelaw11_SymPlaces.l1 (k + 1) y0 y1 y2 y3 y4)) ∧ (∀ y0 y1 y2 y3 y4, LeO (turnbucklelaw11_SymPlaces.l0 k y0 y1 y2 y3 y4) (turnbucklelaw11_SymPlaces.l0 (k + 1) y0 y1 y2 y3 y4))
 | 0 => ⟨fun _ _ _ r h => by simp [turnbucklelaw11_SymPlaces.j1] at h, fun _ _ _ _ _ r h => by simp [turnbucklelaw11_SymPlaces.j2] at h, fun _ _ _ _ _ r h => by simp [turnbucklelaw11_SymPlaces.l1] at h, fun _ _ _ _ _ r h => by simp [turnbucklelaw11_SymPlaces.l0] at h⟩
 | k + 1 => by
  obtain ⟨ih0, ih1, ih2, ih3⟩ := turnbucklelaw11_SymPlaces.mono_l k
  refine ⟨?_, ?_, ?_, ?_⟩
  ·intro y0 y1 y2
   unfold turnbucklelaw11_SymPlaces.j1
   repeat' first
   | (with_reducible exact ih0 _ _ _)
   | (with_reducible exact ih1 _ _ _ _ _)
   | (with_reducible exact ih2 _ _ _ _ _)
   | (with_reducible exact ih3 _ _ _ _ _)
   | (with_reducible exact sym_Put.mono _ _ _ _ _ _ _ _ _)
   | (with_reducible exact sym_Read.mono _ _ _)
   | (with_reducible exact turnbucklelaw11_speaks.mono _)
   | (with_reducible exact LeO.refl _)
   | (with_reducible exact LeO.none _)
   | (with_reducible refine LeO.ite ?_ ?_)
   | (with_reducible refine LeO.bind ?_ (fun _ => ?_))
   | exact ih0 _ _ _
   | exact ih1 _ _ _ _ _
   | exact ih2 _ _ _ _ _
   | exact ih3 _ _ _ _ _
   | exact sym_Put.mono _ _ _ _ _ _ _ _ _
   | exact sym_Read.mono _ _ _
   | exact turnbucklelaw11_speaks.mono _
   | exact LeO.none _
   | refine LeO.ite ?_ ?_
   | refine LeO.bind ?_ (fun _ => ?_)
  ·intro y0 y1 y2 y3 y4
   unfold turnbucklelaw11_SymPlaces.j2
   repeat' first
   | (with_reducible exact ih0 _ _ _)
   | (with_reducible exact ih1 _ _ _ _ _)
   | (with_reducible exact ih2 _ _ _ _ _)
   | (with_reducible exact ih3 _ _ _ _ _)
   | (with_reducible exact sym_Put.mono _ _ _ _ _ _ _ _ _)
   | (with_reducible exact sym_Read.mono _ _ _)
   | (with_reducible exact turnbucklelaw11_speaks.mono _)
   | (with_reducible exact LeO.refl _)
   | (with_reducible exact LeO.none _)
   | (with_reducible refine LeO.ite ?_ ?_)
   | (with_reducible refine LeO.bind ?_ (fun _ => ?_))
   | exact ih0 _ _ _
   | exact ih1 _ _ _ _ _
   | exact ih2 _ _ _ _ _
   | exact ih3 _ _ _ _ _
   | exact sym_Put.mono _ _ _ _ _ _ _ _ _
   | exact sym_Read.mono _ _ _
   | exact turnbucklelaw11_speaks.mono _
   | exact LeO.none _
   | refine LeO.ite ?_ ?_
   | refine LeO.bind ?_ (fun _ => ?_)
  ·intro y0 y1 y2 y3 y4
   unfold turnbucklelaw11_SymPlaces.l1
   repeat' first
   | (with_reducible exact ih0 _ _ _)
   | (with_reducible exact ih1 _ _ _ _ _)
   | (with_reducible exact ih2 _ _ _ _ _)
   | (with_reducible exact ih3 _ _ _ _ _)
   | (with_reducible exact sym_Put.mono _ _ _ _ _ _ _ _ _)
   | (with_reducible exact sym_Read.mono _ _ _)
   | (with_reducible exact turnbucklelaw11_speaks.mono _)
   | (with_reducible exact LeO.refl _)
   | (with_reducible exact LeO.none _)
   | (with_reducible refine LeO.ite ?_ ?_)
   | (with_reducible refine LeO.bind ?_ (fun _ => ?_))
   | exact ih0 _ _ _
   | exact ih1 _ _ _ _ _
   | exact ih2 _ _ _ _ _
   | exact ih3 _ _ _ _ _
   | exact sym_Put.mono _ _ _ _ _ _ _ _ _
   | exact sym_Read.mono _ _ _
   | exact turnbucklelaw11_speaks.mono _
   | exact LeO.none _
   | refine LeO.ite ?_ ?_
   | refine LeO.bind ?_ (fun _ => ?_)
  ·intro y0 y1 y2 y3 y4
   unfold turnbucklelaw11_SymPlaces.l0
   repeat' first
   | (with_reducible exact ih0 _ _ _)
   | (with_reducible exact ih1 _ _ _ _ _)
   | (with_reducible exact ih2 _ _ _ _ _)
   | (with_reducible exact ih3 _ _ _ _ _)
   | (with_reducible exact sym_Put.mono _ _ _ _ _ _ _ _ _)
   | (with_reducible exact sym_Read.mono _ _ _)
   | (with_reducible exact turnbucklelaw11_speaks.mono _)
   | (with_reducible exact LeO.refl _)
   | (with_reducible exact LeO.none _)
   | (with_reducible refine LeO.ite ?_ ?_)
   | (with_reducible refine LeO.bind ?_ (fun _ => ?_))
   | exact ih0 _ _ _
   | exact ih1 _ _ _ _ _
   | exact ih2 _ _ _ _ _
   | exact ih3 _ _ _ _ _
   | exact sym_Put.mono _ _ _ _ _ _ _ _ _
   | exact sym_Read.mono _ _ _
   | exact turnbucklelaw11_speaks.mono _
   | exact LeO.none _
   | refine LeO.ite ?_ ?_
   | refine LeO.bind ?_ (fun _ => ?_)
theorem turnbucklelaw11_SymPlaces.mono : ∀ a0 a1 k, LeO (turnbucklelaw11_SymPlaces.f k a0 a1) (turnbucklelaw11_SymPlaces.f (k + 1) a0 a1) := by
 intro a0 a1 k
 obtain ⟨ih0, ih1, ih2, ih3⟩ := turnbucklelaw11_SymPlaces.mono_l k
 unfold turnbucklelaw11_SymPlaces.f
 repeat' first
   | (with_reducible exact ih0 _ _ _)
   | (with_reducible exact ih1 _ _ _ _ _)
   | (with_reducible exact ih2 _ _ _ _ _)
   | (with_reducible exact ih3 _ _ _ _ _)
   | (with_reducible exact sym_Put.mono _ _ _ _ _ _ _ _ _)
   | (with_reducible exact sym_Read.mono _ _ _)
   | (with_reducible exact turnbucklelaw11_speaks.mono _)
   | (with_reducible exact LeO.refl _)
   | (with_reducible exact LeO.none _)
   | (with_reducible refine LeO.ite ?_ ?_)
   | (with_reducible refine LeO.bind ?_ (fun _ => ?_))
   | exact ih0 _ _ _
   | exact ih1 _ _ _ _ _
   | exact ih2 _ _ _ _ _
   | exact ih3 _ _ _ _ _
   | exact sym_Put.mono _ _ _ _ _ _ _ _ _
   | exact sym_Read.mono _ _ _
   | exact turnbucklelaw11_speaks.mono _
   | exact LeO.none _
   | refine LeO.ite ?_ ?_
   | refine LeO.bind ?_ (fun _ => ?_)
def turnbucklelaw11_SymPlaces.T8 : Bool × List (List Nat × List Nat) := (true, [([], []), ([], []), ([0, 1], [0, 1]), ([2], [2]), ([3], [3]), ([4], [4]), ([], []), ([], []), ([6, 7], [6, 7]), ([8], [8]), ([9], [9]), ([10], [10]), ([], []), ([], []), ([12, 13], [12, 13]), ([14], [14]), ([15], [15]), ([16], [16]), ([], []), ([], []), ([18, 19], [18, 19]), ([20], [20]), ([21], [21]), ([], []), ([], []), ([23, 24], [23, 24]), ([25], [25]), ([26], [26]), ([], []), ([], []), ([28, 29], [28, 29]), ([30], [30]), ([31], [31]), ([5, 11, 17, 22, 27, 32], [5, 11, 17, 22, 27, 32]), ([], []), ([34, 33, 0, 1, 2, 3, 4, 5, 6, 7, 8, 9, 10, 11, 12, 13, 14, 15, 16, 17, 18, 19, 20, 21, 22, 23, 24, 25, 26, 27, 28, 29, 30, 31, 32, 33, 34], [33, 34])])
def turnbucklelaw11_SymPlaces.B8 : List Nat := [0, 0, 3, 7, 15, 31, 0, 0, 192, 448, 960, 1984, 0, 0, 12288, 28672, 61440, 126976, 0, 0, 786432, 1835008, 3932160, 0, 0, 25165824, 58720256, 125829120, 0, 0, 805306368, 1879048192, 4026531840, 8589934591, 0, 34359738367]
theorem turnbucklelaw11_SymPlaces.tab8 : rtab .any (opsOf Try.f4 8) = turnbucklelaw11_SymPlaces.T8 := by kernel_rfl
theorem turnbucklelaw11_SymPlaces.bits8 : waitsOk turnbucklelaw11_SymPlaces.T8.2 turnbucklelaw11_SymPlaces.B8 = true := by kernel_rfl
def turnbucklelaw11_SymPlaces.T17 : Bool × List (List Nat × List Nat) := (true, [([], []), ([], []), ([0, 1], [0, 1]), ([2], [2]), ([], []), ([], []), ([4, 5], [4, 5]), ([6], [6]), ([3, 7], [3, 7])])
def turnbucklelaw11_SymPlaces.B17 : List Nat := [0, 0, 3, 7, 0, 0, 48, 112, 255]
theorem turnbucklelaw11_SymPlaces.tab17 : rtab .any (opsOf Try.f4 17) = turnbucklelaw11_SymPlaces.T17 := by kernel_rfl
theorem turnbucklelaw11_SymPlaces.bits17 : waitsOk turnbucklelaw11_SymPlaces.T17.2 turnbucklelaw11_SymPlaces.B17 = true := by kernel_rfl
def turnbucklelaw11_SymPlaces.T22 : Bool × List (List Nat × List Nat) := (true, [([], []), ([], []), ([1], [1]), ([0, 2], [0, 2]), ([3], [3]), ([], []), ([], []), ([6], [6]), ([7], [7]), ([5, 8], [5, 8]), ([4, 9], [4, 9]), ([10], [10]), ([11], [11]), ([12], [12]), ([12], [12]), ([], []), ([13, 11, 0, 1, 2, 3, 4, 5, 6, 7, 8, 9, 10, 11, 12, 13, 15], [13]), ([15, 14, 16, 0, 1, 2, 3, 4, 5, 6, 7, 8, 9, 10, 11, 12, 13, 14, 15, 16], [14, 15])])
def turnbucklelaw11_SymPlaces.B22 : List Nat := [0, 0, 2, 7, 15, 0, 0, 64, 192, 480, 1023, 2047, 4095, 8191, 8191, 0, 49151, 131071]
theorem turnbucklelaw11_SymPlaces.tab22 : rtab .any (opsOf Try.f4 22) = turnbucklelaw11_SymPlaces.T22 := by kernel_rfl
theorem turnbucklelaw11_SymPlaces.bits22 : waitsOk turnbucklelaw11_SymPlaces.T22.2 turnbucklelaw11_SymPlaces.B22 = true := by kernel_rfl
set_option maxHeartbeats 8000000 in
set_option maxRecDepth 100000 in
theorem turnbucklelaw11_SymPlaces.calls (k : Nat) (A0 : Option Addr) (c0 : Nat) (l0 : List (S24)) (a1 : Int) (r : Bool) (w : World) (hr0 : Kd.C k24 w A0 l0.length l0) (hc0 : l0.length ≤ c0) (h : turnbucklelaw11_SymPlaces.f k l0 a1 = some r) :
  Calls Try.prog 4 #[.slice A0 l0.length c0, .int .i64 a1] w fun e w' => e = .returned (.bool r) ∧ Below w.heap.size w w' := by
 have hu28 := Try.underlying28
 have hu35 := Try.underlying35
 have HR0 := Aside0.mk hr0
 have HC0 := Aside0.mk hc0
 clear hr0 hc0
 have HB := Aside0.mk (Below.refl w.heap.size w)
 have H : ((turnbucklelaw11_speaks.f k).bind fun t224 => (if t224 = true then (turnbucklelaw11_SymPlaces.l0 k l0 a1 ([] : List (S28)) (⟨#[]⟩ : ByteArray) 0) else (some false))) = some r := h
 clear h
 replace H := Option.bind_eq_some_iff.mp H
 obtain ⟨t224, A30, H⟩ := H
 replace H : (if t224 = true then (turnbucklelaw11_SymPlaces.l0 k l0 a1 ([] : List (S28)) (⟨#[]⟩ : ByteArray) 0) else (some false)) = some r := H
 have A3 := Aside0.mk A30
 clear A30
 by_cases c4 : t224 = true
 ·subst c4
  have H1 : (turnbucklelaw11_SymPlaces.l0 k l0 a1 ([] : List (S28)) (⟨#[]⟩ : ByteArray) 0) = some r := by rw [if_pos rfl] at H; exact H
  clear H
  have H := H1
  clear H1
  have HC5 := Aside0.mk H
  clear H
  go_enter Try.func4, Try.ntmps4
  go_upto_block 0 with (first | ((with_reducible refine gate_callee (f := 7) rfl ?_); refine goesL_ (some 15) rfl rfl Try.func7 (by kernel_rfl) rfl #[] rfl (by (try simp only [List.map_toArray, List.map_cons, List.map_nil]); first | done | rfl | (simp only [List.length_drop, List.length_take]; rfl)) ?_; (with_reducible refine (turnbucklelaw11_speaks.calls k  true _ A3.out).mono ?_); rintro e w6 ⟨rfl, hb⟩; refine ⟨_, rfl, ?_⟩; have n0_ := Aside0.mk (below_step (by repeat (first | (with_reducible first | exact HB.out | apply below_alloc | apply pw_below_drewN | apply below_drew1) | exact HB.out)) hb); clear HB; have HB := n0_; clear n0_; (try clear hb); (try clear hb2); (try clear hk); (try clear hi)))
  (try simp only [Act.put, List.setIfInBounds_toArray, List.set_cons_zero, List.set_cons_succ])
  go_cut [5, 6] (fun v5 v6 wc => ∃ (kq : Nat) (x5_4 : List (S28)) (x6_4 : ByteArray), v6 = .string x6_4 ∧ Aside0 (turnbucklelaw11_SymPlaces.j1 kq a1 x5_4 x6_4 = some r) ∧ Aside0 (kq ≤ k) ∧ Aside0 (Kd.R k28 28 wc w.heap.size (fun _ => True) v5 x5_4) ∧ Aside0 (Below w.heap.size w wc))
  case first =>
   have H := HC5.out
   clear HC5
   have H' := Aside0.mk H
   clear H
   go_wp2
   go_loopg [5, 6, 7] k (fun kq v5 v6 v7 w' => ∃ (x5_1 : List (S28)) (x6_1 : ByteArray) (x7_1 : Int), v6 = .string x6_1 ∧ v7 = .int .i64 x7_1 ∧ Aside0 (turnbucklelaw11_SymPlaces.l0 kq l0 a1 x5_1 x6_1 x7_1 = some r) ∧ Aside0 (kq ≤ k) ∧ Aside0 (Kd.R k28 28 w' w.heap.size (fun _ => True) v5 x5_1) ∧ Aside0 (Below w.heap.size w w'))
   case atStart => exact ⟨(([] : List (S28))), ((⟨#[]⟩ : ByteArray)), (0), (by first | rfl | (simp; done) | (simp [*]; done)), (by first | rfl | (simp; done) | (simp [*]; done)), H', ⟨Nat.le_refl _⟩, ⟨by first | exact Kd.R_nil _ _ _ _ _ | exact Kd.N_nil _ _ _ _ _ | exact Kd.V_nil _ _ _ _ _ | exact Kd.Q_nil _ _ _ _ _ | exact Kd.S_nil _ _ _ _ _⟩, ⟨by repeat (first | (with_reducible first | exact HB.out | apply below_alloc | apply pw_below_drewN | apply below_drew1) | exact HB.out)⟩⟩
   case round =>
    clear H'
    try clear p2
    try clear c4
    obtain ⟨x5_1, x6_1, x7_1, rfl, rfl, HA, HK1, HO_5, HB⟩ := hrel
    cases gk with
    | zero => exact absurd HA.out (by simp [turnbucklelaw11_SymPlaces.l0])
    | succ k1 =>
     have H := HA.out
     clear HA
     simp only [turnbucklelaw11_SymPlaces.l0] at H
     by_cases c7 : x7_1 < (l0.length : Int)
     ·rw [if_pos c7] at H
      have c7b0 : decide (x7_1 < (l0.length : Int)) = true := decide_eq_true c7
      clear c7
      (first | rw [c7b0] | (simp only [i64_w, i32_w]; rw [c7b0]) | skip)
      by_cases c8 : x7_1 < 30
      ·rw [if_pos c8] at H
       have c8b0 : decide (x7_1 < 30) = true := decide_eq_true c8
       clear c8
       by_cases c9 : 0 ≤ x7_1
       ·rw [if_pos c9] at H
        have c9b0 : decide (0 ≤ x7_1) = true := decide_eq_true c9
        clear c9
        by_cases c10 : x5_1.length < 2199023255552
        ·rw [if_pos c10] at H
         have LMc10 := Aside0.mk c10
         clear c10
         obtain ⟨y232, hy232⟩ : ∃ y_ : List (S28), y_ = (x5_1 ++ [(⟨(⟨#[120]⟩ : ByteArray), Go.bits .and .i64 ((rd_T24 l0 x7_1).f0) 1, Go.bits .and .i64 ((rd_T24 l0 x7_1).f1) 15, Go.bits .and .i64 ((rd_T24 l0 x7_1).f2) 3, (rd_T24 l0 x7_1).f3, (rd_T24 l0 x7_1).f4, (rd_T24 l0 x7_1).f5⟩ : S28)]) := ⟨_, rfl⟩
         replace H : ((sym_Put.f k1 (⟨#[120]⟩ : ByteArray) (Go.bits .and .i64 ((rd_T24 l0 x7_1).f0) 1) (Go.bits .and .i64 ((rd_T24 l0 x7_1).f1) 15) (Go.bits .and .i64 ((rd_T24 l0 x7_1).f2) 3) ((rd_T24 l0 x7_1).f3) ((rd_T24 l0 x7_1).f4) ((rd_T24 l0 x7_1).f5) 0).bind fun t235 => (if x6_1.size + t235.size ≤ 9223372036854775807 then (turnbucklelaw11_SymPlaces.l0 k1 l0 a1 y232 (x6_1 ++ t235) (wrap64 (x7_1 + 1))) else (none))) = some r := by first | (rw [hy232]; with_reducible exact H) | (have H2_ := (Option.bind_some _ _).symm.trans H; rw [hy232]; with_reducible exact H2_) | (have H2_ := (Option.bind_some _ _).symm.trans H; with_reducible exact H2_) | with_reducible exact H | (rw [hy232]; exact H) | exact H
         have Ny232 := Aside0.mk hy232
         clear hy232
         replace H := Option.bind_eq_some_iff.mp H
         obtain ⟨t235, A110, H⟩ := H
         replace H : (if x6_1.size + t235.size ≤ 9223372036854775807 then (turnbucklelaw11_SymPlaces.l0 k1 l0 a1 y232 (x6_1 ++ t235) (wrap64 (x7_1 + 1))) else (none)) = some r := H
         have A11 := Aside0.mk A110
         clear A110
         by_cases c12 : x6_1.size + t235.size ≤ 9223372036854775807
         ·rw [if_pos c12] at H
          have c12b0 := eq_true c12
          have c12b1 : decide (x6_1.size + t235.size ≤ 9223372036854775807) = true := decide_eq_true c12
          try have c12b2 : (9223372036854775807 < x6_1.size + t235.size) = False := eq_false (Nat.not_lt.2 c12)
          have H' := Aside0.mk H
          clear H
          try go_wp2
          have n0_ := Aside0.mk (Kd.R_drew HO_5.out)
          have n1_ := Aside0.mk (below_drew1 HB.out)
          clear HO_5
          clear HB
          have HO_5 := n0_
          have HB := n1_
          clear n0_ n1_
          have p225 : 0 ≤ (x7_1 : Int) := of_decide_eq_true (by first | (with_reducible assumption) | assumption)
          have q225 : x7_1 < (l0.length : Int) := of_decide_eq_true (by first | (with_reducible assumption) | assumption)
          obtain ⟨ad225, e225, hx225_0, hx225_1, hx225_2, hx225_3, hx225_4, hx225_5⟩ := at_T24 HR0.out x7_1 p225 q225
          have hw225_5 := hx225_5
          have hw225_4 := hx225_4
          have hw225_3 := hx225_3
          have hw225_2 := hx225_2
          have hw225_1 := hx225_1
          have hw225_0 := hx225_0
          cases e225
          replace hx225_0 := (HB.out.cell (World.block_lt_of_cell? w _ hx225_0)).trans hx225_0
          replace hx225_1 := (HB.out.cell (World.block_lt_of_cell? w _ hx225_1)).trans hx225_1
          replace hx225_2 := (HB.out.cell (World.block_lt_of_cell? w _ hx225_2)).trans hx225_2
          replace hx225_3 := (HB.out.cell (World.block_lt_of_cell? w _ hx225_3)).trans hx225_3
          replace hx225_4 := (HB.out.cell (World.block_lt_of_cell? w _ hx225_4)).trans hx225_4
          replace hx225_5 := (HB.out.cell (World.block_lt_of_cell? w _ hx225_5)).trans hx225_5
          replace p225 := eq_true p225
          replace q225 := eq_true q225
          have p226 : 0 ≤ (x7_1 : Int) := of_decide_eq_true (by first | (with_reducible assumption) | assumption)
          have q226 : x7_1 < (l0.length : Int) := of_decide_eq_true (by first | (with_reducible assumption) | assumption)
          obtain ⟨ad226, e226, hx226_0, hx226_1, hx226_2, hx226_3, hx226_4, hx226_5⟩ := at_T24 HR0.out x7_1 p226 q226
          have hw226_5 := hx226_5
          have hw226_4 := hx226_4
          have hw226_3 := hx226_3
          have hw226_2 := hx226_2
          have hw226_1 := hx226_1
          have hw226_0 := hx226_0
          obtain rfl : ad225 = ad226 := (by injection e226)
          replace hx226_0 := (HB.out.cell (World.block_lt_of_cell? w _ hx226_0)).trans hx226_0
          replace hx226_1 := (HB.out.cell (World.block_lt_of_cell? w _ hx226_1)).trans hx226_1
          replace hx226_2 := (HB.out.cell (World.block_lt_of_cell? w _ hx226_2)).trans hx226_2
          replace hx226_3 := (HB.out.cell (World.block_lt_of_cell? w _ hx226_3)).trans hx226_3
          replace hx226_4 := (HB.out.cell (World.block_lt_of_cell? w _ hx226_4)).trans hx226_4
          replace hx226_5 := (HB.out.cell (World.block_lt_of_cell? w _ hx226_5)).trans hx226_5
          replace p226 := eq_true p226
          replace q226 := eq_true q226
          have p227 : 0 ≤ (x7_1 : Int) := of_decide_eq_true (by first | (with_reducible assumption) | assumption)
          have q227 : x7_1 < (l0.length : Int) := of_decide_eq_true (by first | (with_reducible assumption) | assumption)
          obtain ⟨ad227, e227, hx227_0, hx227_1, hx227_2, hx227_3, hx227_4, hx227_5⟩ := at_T24 HR0.out x7_1 p227 q227
          have hw227_5 := hx227_5
          have hw227_4 := hx227_4
          have hw227_3 := hx227_3
          have hw227_2 := hx227_2
          have hw227_1 := hx227_1
          have hw227_0 := hx227_0
          obtain rfl : ad225 = ad227 := (by injection e227)
          replace hx227_0 := (HB.out.cell (World.block_lt_of_cell? w _ hx227_0)).trans hx227_0
          replace hx227_1 := (HB.out.cell (World.block_lt_of_cell? w _ hx227_1)).trans hx227_1
          replace hx227_2 := (HB.out.cell (World.block_lt_of_cell? w _ hx227_2)).trans hx227_2
          replace hx227_3 := (HB.out.cell (World.block_lt_of_cell? w _ hx227_3)).trans hx227_3
          replace hx227_4 := (HB.out.cell (World.block_lt_of_cell? w _ hx227_4)).trans hx227_4
          replace hx227_5 := (HB.out.cell (World.block_lt_of_cell? w _ hx227_5)).trans hx227_5
          replace p227 := eq_true p227
          replace q227 := eq_true q227
          have p228 : 0 ≤ (x7_1 : Int) := of_decide_eq_true (by first | (with_reducible assumption) | assumption)
          have q228 : x7_1 < (l0.length : Int) := of_decide_eq_true (by first | (with_reducible assumption) | assumption)
          obtain ⟨ad228, e228, hx228_0, hx228_1, hx228_2, hx228_3, hx228_4, hx228_5⟩ := at_T24 HR0.out x7_1 p228 q228
          have hw228_5 := hx228_5
          have hw228_4 := hx228_4
          have hw228_3 := hx228_3
          have hw228_2 := hx228_2
          have hw228_1 := hx228_1
          have hw228_0 := hx228_0
          obtain rfl : ad225 = ad228 := (by injection e228)
          replace hx228_0 := (HB.out.cell (World.block_lt_of_cell? w _ hx228_0)).trans hx228_0
          replace hx228_1 := (HB.out.cell (World.block_lt_of_cell? w _ hx228_1)).trans hx228_1
          replace hx228_2 := (HB.out.cell (World.block_lt_of_cell? w _ hx228_2)).trans hx228_2
          replace hx228_3 := (HB.out.cell (World.block_lt_of_cell? w _ hx228_3)).trans hx228_3
          replace hx228_4 := (HB.out.cell (World.block_lt_of_cell? w _ hx228_4)).trans hx228_4
          replace hx228_5 := (HB.out.cell (World.block_lt_of_cell? w _ hx228_5)).trans hx228_5
          replace p228 := eq_true p228
          replace q228 := eq_true q228
          have p229 : 0 ≤ (x7_1 : Int) := of_decide_eq_true (by first | (with_reducible assumption) | assumption)
          have q229 : x7_1 < (l0.length : Int) := of_decide_eq_true (by first | (with_reducible assumption) | assumption)
          obtain ⟨ad229, e229, hx229_0, hx229_1, hx229_2, hx229_3, hx229_4, hx229_5⟩ := at_T24 HR0.out x7_1 p229 q229
          have hw229_5 := hx229_5
          have hw229_4 := hx229_4
          have hw229_3 := hx229_3
          have hw229_2 := hx229_2
          have hw229_1 := hx229_1
          have hw229_0 := hx229_0
          obtain rfl : ad225 = ad229 := (by injection e229)
          replace hx229_0 := (HB.out.cell (World.block_lt_of_cell? w _ hx229_0)).trans hx229_0
          replace hx229_1 := (HB.out.cell (World.block_lt_of_cell? w _ hx229_1)).trans hx229_1
          replace hx229_2 := (HB.out.cell (World.block_lt_of_cell? w _ hx229_2)).trans hx229_2
          replace hx229_3 := (HB.out.cell (World.block_lt_of_cell? w _ hx229_3)).trans hx229_3
          replace hx229_4 := (HB.out.cell (World.block_lt_of_cell? w _ hx229_4)).trans hx229_4
          replace hx229_5 := (HB.out.cell (World.block_lt_of_cell? w _ hx229_5)).trans hx229_5
          replace p229 := eq_true p229
          replace q229 := eq_true q229
          have p230 : 0 ≤ (x7_1 : Int) := of_decide_eq_true (by first | (with_reducible assumption) | assumption)
          have q230 : x7_1 < (l0.length : Int) := of_decide_eq_true (by first | (with_reducible assumption) | assumption)
          obtain ⟨ad230, e230, hx230_0, hx230_1, hx230_2, hx230_3, hx230_4, hx230_5⟩ := at_T24 HR0.out x7_1 p230 q230
          have hw230_5 := hx230_5
          have hw230_4 := hx230_4
          have hw230_3 := hx230_3
          have hw230_2 := hx230_2
          have hw230_1 := hx230_1
          have hw230_0 := hx230_0
          obtain rfl : ad225 = ad230 := (by injection e230)
          replace hx230_0 := (HB.out.cell (World.block_lt_of_cell? w _ hx230_0)).trans hx230_0
          replace hx230_1 := (HB.out.cell (World.block_lt_of_cell? w _ hx230_1)).trans hx230_1
          replace hx230_2 := (HB.out.cell (World.block_lt_of_cell? w _ hx230_2)).trans hx230_2
          replace hx230_3 := (HB.out.cell (World.block_lt_of_cell? w _ hx230_3)).trans hx230_3
          replace hx230_4 := (HB.out.cell (World.block_lt_of_cell? w _ hx230_4)).trans hx230_4
          replace hx230_5 := (HB.out.cell (World.block_lt_of_cell? w _ hx230_5)).trans hx230_5
          replace p230 := eq_true p230
          replace q230 := eq_true q230
          refine start_ (n := 36) (S := fun w' => w'.cell? (ad225.add ((x7_1).toNat * 6)) = some (.int .i64 ((rd_T24 l0 x7_1).f0)) ∧ w'.cell? ⟨(ad225.add ((x7_1).toNat * 6)).block, (ad225.add ((x7_1).toNat * 6)).off + 1, none⟩ = some (.int .i64 ((rd_T24 l0 x7_1).f1)) ∧ w'.cell? ⟨(ad225.add ((x7_1).toNat * 6)).block, (ad225.add ((x7_1).toNat * 6)).off + 2, none⟩ = some (.int .i64 ((rd_T24 l0 x7_1).f2)) ∧ w'.cell? ⟨(ad225.add ((x7_1).toNat * 6)).block, (ad225.add ((x7_1).toNat * 6)).off + 3, none⟩ = some (.bool ((rd_T24 l0 x7_1).f3)) ∧ w'.cell? ⟨(ad225.add ((x7_1).toNat * 6)).block, (ad225.add ((x7_1).toNat * 6)).off + 4, none⟩ = some (.int .u64 ((rd_T24 l0 x7_1).f4)) ∧ w'.cell? ⟨(ad225.add ((x7_1).toNat * 6)).block, (ad225.add ((x7_1).toNat * 6)).off + 5, none⟩ = some (.int .u64 ((rd_T24 l0 x7_1).f5)) ∧ w'.cell? (ad225.add ((x7_1).toNat * 6)) = some (.int .i64 ((rd_T24 l0 x7_1).f0)) ∧ w'.cell? ⟨(ad225.add ((x7_1).toNat * 6)).block, (ad225.add ((x7_1).toNat * 6)).off + 1, none⟩ = some (.int .i64 ((rd_T24 l0 x7_1).f1)) ∧ w'.cell? ⟨(ad225.add ((x7_1).toNat * 6)).block, (ad225.add ((x7_1).toNat * 6)).off + 2, none⟩ = some (.int .i64 ((rd_T24 l0 x7_1).f2)) ∧ w'.cell? ⟨(ad225.add ((x7_1).toNat * 6)).block, (ad225.add ((x7_1).toNat * 6)).off + 3, none⟩ = some (.bool ((rd_T24 l0 x7_1).f3)) ∧ w'.cell? ⟨(ad225.add ((x7_1).toNat * 6)).block, (ad225.add ((x7_1).toNat * 6)).off + 4, none⟩ = some (.int .u64 ((rd_T24 l0 x7_1).f4)) ∧ w'.cell? ⟨(ad225.add ((x7_1).toNat * 6)).block, (ad225.add ((x7_1).toNat * 6)).off + 5, none⟩ = some (.int .u64 ((rd_T24 l0 x7_1).f5)) ∧ w'.cell? (ad225.add ((x7_1).toNat * 6)) = some (.int .i64 ((rd_T24 l0 x7_1).f0)) ∧ w'.cell? ⟨(ad225.add ((x7_1).toNat * 6)).block, (ad225.add ((x7_1).toNat * 6)).off + 1, none⟩ = some (.int .i64 ((rd_T24 l0 x7_1).f1)) ∧ w'.cell? ⟨(ad225.add ((x7_1).toNat * 6)).block, (ad225.add ((x7_1).toNat * 6)).off + 2, none⟩ = some (.int .i64 ((rd_T24 l0 x7_1).f2)) ∧ w'.cell? ⟨(ad225.add ((x7_1).toNat * 6)).block, (ad225.add ((x7_1).toNat * 6)).off + 3, none⟩ = some (.bool ((rd_T24 l0 x7_1).f3)) ∧ w'.cell? ⟨(ad225.add ((x7_1).toNat * 6)).block, (ad225.add ((x7_1).toNat * 6)).off + 4, none⟩ = some (.int .u64 ((rd_T24 l0 x7_1).f4)) ∧ w'.cell? ⟨(ad225.add ((x7_1).toNat * 6)).block, (ad225.add ((x7_1).toNat * 6)).off + 5, none⟩ = some (.int .u64 ((rd_T24 l0 x7_1).f5)) ∧ w'.cell? (ad225.add ((x7_1).toNat * 6)) = some (.int .i64 ((rd_T24 l0 x7_1).f0)) ∧ w'.cell? ⟨(ad225.add ((x7_1).toNat * 6)).block, (ad225.add ((x7_1).toNat * 6)).off + 1, none⟩ = some (.int .i64 ((rd_T24 l0 x7_1).f1)) ∧ w'.cell? ⟨(ad225.add ((x7_1).toNat * 6)).block, (ad225.add ((x7_1).toNat * 6)).off + 2, none⟩ = some (.int .i64 ((rd_T24 l0 x7_1).f2)) ∧ w'.cell? ⟨(ad225.add ((x7_1).toNat * 6)).block, (ad225.add ((x7_1).toNat * 6)).off + 3, none⟩ = some (.bool ((rd_T24 l0 x7_1).f3)) ∧ w'.cell? ⟨(ad225.add ((x7_1).toNat * 6)).block, (ad225.add ((x7_1).toNat * 6)).off + 4, none⟩ = some (.int .u64 ((rd_T24 l0 x7_1).f4)) ∧ w'.cell? ⟨(ad225.add ((x7_1).toNat * 6)).block, (ad225.add ((x7_1).toNat * 6)).off + 5, none⟩ = some (.int .u64 ((rd_T24 l0 x7_1).f5)) ∧ w'.cell? (ad225.add ((x7_1).toNat * 6)) = some (.int .i64 ((rd_T24 l0 x7_1).f0)) ∧ w'.cell? ⟨(ad225.add ((x7_1).toNat * 6)).block, (ad225.add ((x7_1).toNat * 6)).off + 1, none⟩ = some (.int .i64 ((rd_T24 l0 x7_1).f1)) ∧ w'.cell? ⟨(ad225.add ((x7_1).toNat * 6)).block, (ad225.add ((x7_1).toNat * 6)).off + 2, none⟩ = some (.int .i64 ((rd_T24 l0 x7_1).f2)) ∧ w'.cell? ⟨(ad225.add ((x7_1).toNat * 6)).block, (ad225.add ((x7_1).toNat * 6)).off + 3, none⟩ = some (.bool ((rd_T24 l0 x7_1).f3)) ∧ w'.cell? ⟨(ad225.add ((x7_1).toNat * 6)).block, (ad225.add ((x7_1).toNat * 6)).off + 4, none⟩ = some (.int .u64 ((rd_T24 l0 x7_1).f4)) ∧ w'.cell? ⟨(ad225.add ((x7_1).toNat * 6)).block, (ad225.add ((x7_1).toNat * 6)).off + 5, none⟩ = some (.int .u64 ((rd_T24 l0 x7_1).f5)) ∧ w'.cell? (ad225.add ((x7_1).toNat * 6)) = some (.int .i64 ((rd_T24 l0 x7_1).f0)) ∧ w'.cell? ⟨(ad225.add ((x7_1).toNat * 6)).block, (ad225.add ((x7_1).toNat * 6)).off + 1, none⟩ = some (.int .i64 ((rd_T24 l0 x7_1).f1)) ∧ w'.cell? ⟨(ad225.add ((x7_1).toNat * 6)).block, (ad225.add ((x7_1).toNat * 6)).off + 2, none⟩ = some (.int .i64 ((rd_T24 l0 x7_1).f2)) ∧ w'.cell? ⟨(ad225.add ((x7_1).toNat * 6)).block, (ad225.add ((x7_1).toNat * 6)).off + 3, none⟩ = some (.bool ((rd_T24 l0 x7_1).f3)) ∧ w'.cell? ⟨(ad225.add ((x7_1).toNat * 6)).block, (ad225.add ((x7_1).toNat * 6)).off + 4, none⟩ = some (.int .u64 ((rd_T24 l0 x7_1).f4)) ∧ w'.cell? ⟨(ad225.add ((x7_1).toNat * 6)).block, (ad225.add ((x7_1).toNat * 6)).off + 5, none⟩ = some (.int .u64 ((rd_T24 l0 x7_1).f5))) (ds := []) #[false,false,false,false,false,false,false,false,false,false,false,false,false,false,false,false,false,false,false,false,false,false,false,false,false,false,false,false,false,false,false,false,false,false,false,false] (by kernel_rfl) rfl rfl ⟨((HB.out.cell (World.block_lt_of_cell? w _ hw225_0)).trans hw225_0), ((HB.out.cell (World.block_lt_of_cell? w _ hw225_1)).trans hw225_1), ((HB.out.cell (World.block_lt_of_cell? w _ hw225_2)).trans hw225_2), ((HB.out.cell (World.block_lt_of_cell? w _ hw225_3)).trans hw225_3), ((HB.out.cell (World.block_lt_of_cell? w _ hw225_4)).trans hw225_4), ((HB.out.cell (World.block_lt_of_cell? w _ hw225_5)).trans hw225_5), ((HB.out.cell (World.block_lt_of_cell? w _ hw226_0)).trans hw226_0), ((HB.out.cell (World.block_lt_of_cell? w _ hw226_1)).trans hw226_1), ((HB.out.cell (World.block_lt_of_cell? w _ hw226_2)).trans hw226_2), ((HB.out.cell (World.block_lt_of_cell? w _ hw226_3)).trans hw226_3), ((HB.out.cell (World.block_lt_of_cell? w _ hw226_4)).trans hw226_4), ((HB.out.cell (World.block_lt_of_cell? w _ hw226_5)).trans hw226_5), ((HB.out.cell (World.block_lt_of_cell? w _ hw227_0)).trans hw227_0), ((HB.out.cell (World.block_lt_of_cell? w _ hw227_1)).trans hw227_1), ((HB.out.cell (World.block_lt_of_cell? w _ hw227_2)).trans hw227_2), ((HB.out.cell (World.block_lt_of_cell? w _ hw227_3)).trans hw227_3), ((HB.out.cell (World.block_lt_of_cell? w _ hw227_4)).trans hw227_4), ((HB.out.cell (World.block_lt_of_cell? w _ hw227_5)).trans hw227_5), ((HB.out.cell (World.block_lt_of_cell? w _ hw228_0)).trans hw228_0), ((HB.out.cell (World.block_lt_of_cell? w _ hw228_1)).trans hw228_1), ((HB.out.cell (World.block_lt_of_cell? w _ hw228_2)).trans hw228_2), ((HB.out.cell (World.block_lt_of_cell? w _ hw228_3)).trans hw228_3), ((HB.out.cell (World.block_lt_of_cell? w _ hw228_4)).trans hw228_4), ((HB.out.cell (World.block_lt_of_cell? w _ hw228_5)).trans hw228_5), ((HB.out.cell (World.block_lt_of_cell? w _ hw229_0)).trans hw229_0), ((HB.out.cell (World.block_lt_of_cell? w _ hw229_1)).trans hw229_1), ((HB.out.cell (World.block_lt_of_cell? w _ hw229_2)).trans hw229_2), ((HB.out.cell (World.block_lt_of_cell? w _ hw229_3)).trans hw229_3), ((HB.out.cell (World.block_lt_of_cell? w _ hw229_4)).trans hw229_4), ((HB.out.cell (World.block_lt_of_cell? w _ hw229_5)).trans hw229_5), ((HB.out.cell (World.block_lt_of_cell? w _ hw230_0)).trans hw230_0), ((HB.out.cell (World.block_lt_of_cell? w _ hw230_1)).trans hw230_1), ((HB.out.cell (World.block_lt_of_cell? w _ hw230_2)).trans hw230_2), ((HB.out.cell (World.block_lt_of_cell? w _ hw230_3)).trans hw230_3), ((HB.out.cell (World.block_lt_of_cell? w _ hw230_4)).trans hw230_4), ((HB.out.cell (World.block_lt_of_cell? w _ hw230_5)).trans hw230_5)⟩ (fun hHeld => ?_); refine with_tabW turnbucklelaw11_SymPlaces.tab8 turnbucklelaw11_SymPlaces.bits8 (fun HT_ HW_ => ?_)
          generalize wr.drew = w13 at HO_5 HB hx225_0 hx225_1 hx225_2 hx225_3 hx225_4 hx225_5 hx226_0 hx226_1 hx226_2 hx226_3 hx226_4 hx226_5 hx227_0 hx227_1 hx227_2 hx227_3 hx227_4 hx227_5 hx228_0 hx228_1 hx228_2 hx228_3 hx228_4 hx228_5 hx229_0 hx229_1 hx229_2 hx229_3 hx229_4 hx229_5 hx230_0 hx230_1 hx230_2 hx230_3 hx230_4 hx230_5 hHeld ⊢
          refine pure_ (i:=0) (N := some 27) (v:=?_) (a':=?_) #[true,false,false,false,false,false,false,false,false,false,false,false,false,false,false,false,false,false,false,false,false,false,false,false,false,false,false,false,false,false,false,false,false,false,false,false] rfl rfl (any_of HT_.out (by kernel_rfl)) (fun _ _ _ h=>h) (Or.inl ⟨by rfl, ?_⟩) ?_ ?_
          rotate_left
          ·intro w'
           go_simp
           with_reducible rfl
          rotate_left
          ·simp only [Act.put,lz1,lz2,lz3,i64_w,i32_w]
           rfl
          refine pure_ (i:=1) (N := some 28) (v:=?_) (a':=?_) #[true,true,false,false,false,false,false,false,false,false,false,false,false,false,false,false,false,false,false,false,false,false,false,false,false,false,false,false,false,false,false,false,false,false,false,false] rfl rfl (any_of HT_.out (by kernel_rfl)) (fun _ _ _ h=>h) (Or.inl ⟨by rfl, ?_⟩) ?_ ?_
          rotate_left
          ·intro w'
           go_simp
           with_reducible rfl
          rotate_left
          ·simp only [Act.put,lz1,lz2,lz3,i64_w,i32_w]
           rfl
          refine pure_ (i:=2) (N := some 29) (v:=?_) (a':=?_) #[true,true,true,false,false,false,false,false,false,false,false,false,false,false,false,false,false,false,false,false,false,false,false,false,false,false,false,false,false,false,false,false,false,false,false,false] rfl rfl (any_of HT_.out (by kernel_rfl)) (fun _ _ _ h=>h) (Or.inl ⟨by rfl, ?_⟩) ?_ ?_
          rotate_left
          ·intro w'
           go_simp
           with_reducible rfl
          rotate_left
          ·simp only [Act.put,lz1,lz2,lz3,i64_w,i32_w]
           rfl
          refine pure_ (i:=3) (N := some 30) (v:=?_) (a':=?_) #[true,true,true,true,false,false,false,false,false,false,false,false,false,false,false,false,false,false,false,false,false,false,false,false,false,false,false,false,false,false,false,false,false,false,false,false] rfl rfl (any_of HT_.out (by kernel_rfl)) (fun _ _ _ h=>h) (Or.inl ⟨by rfl, ?_⟩) ?_ ?_
          rotate_left
          ·intro w'
           go_simp
           with_reducible rfl
          rotate_left
          ·simp only [Act.put,lz1,lz2,lz3,i64_w,i32_w]
           rfl
          refine pure_ (i:=6) (N := some 33) (v:=?_) (a':=?_) #[true,true,true,true,false,false,true,false,false,false,false,false,false,false,false,false,false,false,false,false,false,false,false,false,false,false,false,false,false,false,false,false,false,false,false,false] rfl rfl (any_of HT_.out (by kernel_rfl)) (fun _ _ _ h=>h) (Or.inl ⟨by rfl, ?_⟩) ?_ ?_
          rotate_left
          ·intro w'
           go_simp
           with_reducible rfl
          rotate_left
          ·simp only [Act.put,lz1,lz2,lz3,i64_w,i32_w]
           rfl
          refine pure_ (i:=7) (N := some 34) (v:=?_) (a':=?_) #[true,true,true,true,false,false,true,true,false,false,false,false,false,false,false,false,false,false,false,false,false,false,false,false,false,false,false,false,false,false,false,false,false,false,false,false] rfl rfl (any_of HT_.out (by kernel_rfl)) (fun _ _ _ h=>h) (Or.inl ⟨by rfl, ?_⟩) ?_ ?_
          rotate_left
          ·intro w'
           go_simp
           with_reducible rfl
          rotate_left
          ·simp only [Act.put,lz1,lz2,lz3,i64_w,i32_w]
           rfl
          refine pure_ (i:=8) (N := some 35) (v:=?_) (a':=?_) #[true,true,true,true,false,false,true,true,true,false,false,false,false,false,false,false,false,false,false,false,false,false,false,false,false,false,false,false,false,false,false,false,false,false,false,false] rfl rfl (any_of HT_.out (by kernel_rfl)) (fun _ _ _ h=>h) (Or.inl ⟨by rfl, ?_⟩) ?_ ?_
          rotate_left
          ·intro w'
           go_simp
           with_reducible rfl
          rotate_left
          ·simp only [Act.put,lz1,lz2,lz3,i64_w,i32_w]
           rfl
          refine pure_ (i:=9) (N := some 36) (v:=?_) (a':=?_) #[true,true,true,true,false,false,true,true,true,true,false,false,false,false,false,false,false,false,false,false,false,false,false,false,false,false,false,false,false,false,false,false,false,false,false,false] rfl rfl (any_of HT_.out (by kernel_rfl)) (fun _ _ _ h=>h) (Or.inl ⟨by rfl, ?_⟩) ?_ ?_
          rotate_left
          ·intro w'
           go_simp
           with_reducible rfl
          rotate_left
          ·simp only [Act.put,lz1,lz2,lz3,i64_w,i32_w]
           rfl
          refine pure_ (i:=12) (N := some 39) (v:=?_) (a':=?_) #[true,true,true,true,false,false,true,true,true,true,false,false,true,false,false,false,false,false,false,false,false,false,false,false,false,false,false,false,false,false,false,false,false,false,false,false] rfl rfl (any_of HT_.out (by kernel_rfl)) (fun _ _ _ h=>h) (Or.inl ⟨by rfl, ?_⟩) ?_ ?_
          rotate_left
          ·intro w'
           go_simp
           with_reducible rfl
          rotate_left
          ·simp only [Act.put,lz1,lz2,lz3,i64_w,i32_w]
           rfl
          refine pure_ (i:=13) (N := some 40) (v:=?_) (a':=?_) #[true,true,true,true,false,false,true,true,true,true,false,false,true,true,false,false,false,false,false,false,false,false,false,false,false,false,false,false,false,false,false,false,false,false,false,false] rfl rfl (any_of HT_.out (by kernel_rfl)) (fun _ _ _ h=>h) (Or.inl ⟨by rfl, ?_⟩) ?_ ?_
          rotate_left
          ·intro w'
           go_simp
           with_reducible rfl
          rotate_left
          ·simp only [Act.put,lz1,lz2,lz3,i64_w,i32_w]
           rfl
          refine pure_ (i:=14) (N := some 41) (v:=?_) (a':=?_) #[true,true,true,true,false,false,true,true,true,true,false,false,true,true,true,false,false,false,false,false,false,false,false,false,false,false,false,false,false,false,false,false,false,false,false,false] rfl rfl (any_of HT_.out (by kernel_rfl)) (fun _ _ _ h=>h) (Or.inl ⟨by rfl, ?_⟩) ?_ ?_
          rotate_left
          ·intro w'
           go_simp
           with_reducible rfl
          rotate_left
          ·simp only [Act.put,lz1,lz2,lz3,i64_w,i32_w]
           rfl
          refine pure_ (i:=15) (N := some 42) (v:=?_) (a':=?_) #[true,true,true,true,false,false,true,true,true,true,false,false,true,true,true,true,false,false,false,false,false,false,false,false,false,false,false,false,false,false,false,false,false,false,false,false] rfl rfl (any_of HT_.out (by kernel_rfl)) (fun _ _ _ h=>h) (Or.inl ⟨by rfl, ?_⟩) ?_ ?_
          rotate_left
          ·intro w'
           go_simp
           with_reducible rfl
          rotate_left
          ·simp only [Act.put,lz1,lz2,lz3,i64_w,i32_w]
           rfl
          refine pure_ (i:=18) (N := some 45) (v:=?_) (a':=?_) #[true,true,true,true,false,false,true,true,true,true,false,false,true,true,true,true,false,false,true,false,false,false,false,false,false,false,false,false,false,false,false,false,false,false,false,false] rfl rfl (any_of HT_.out (by kernel_rfl)) (fun _ _ _ h=>h) (Or.inl ⟨by rfl, ?_⟩) ?_ ?_
          rotate_left
          ·intro w'
           go_simp
           with_reducible rfl
          rotate_left
          ·simp only [Act.put,lz1,lz2,lz3,i64_w,i32_w]
           rfl
          refine pure_ (i:=19) (N := some 46) (v:=?_) (a':=?_) #[true,true,true,true,false,false,true,true,true,true,false,false,true,true,true,true,false,false,true,true,false,false,false,false,false,false,false,false,false,false,false,false,false,false,false,false] rfl rfl (any_of HT_.out (by kernel_rfl)) (fun _ _ _ h=>h) (Or.inl ⟨by rfl, ?_⟩) ?_ ?_
          rotate_left
          ·intro w'
           go_simp
           with_reducible rfl
          rotate_left
          ·simp only [Act.put,lz1,lz2,lz3,i64_w,i32_w]
           rfl
          refine pure_ (i:=20) (N := some 47) (v:=?_) (a':=?_) #[true,true,true,true,false,false,true,true,true,true,false,false,true,true,true,true,false,false,true,true,true,false,false,false,false,false,false,false,false,false,false,false,false,false,false,false] rfl rfl (any_of HT_.out (by kernel_rfl)) (fun _ _ _ h=>h) (Or.inl ⟨by rfl, ?_⟩) ?_ ?_
          rotate_left
          ·intro w'
           go_simp
           with_reducible rfl
          rotate_left
          ·simp only [Act.put,lz1,lz2,lz3,i64_w,i32_w]
           rfl
          refine pure_ (i:=21) (N := some 48) (v:=?_) (a':=?_) #[true,true,true,true,false,false,true,true,true,true,false,false,true,true,true,true,false,false,true,true,true,true,false,false,false,false,false,false,false,false,false,false,false,false,false,false] rfl rfl (any_of HT_.out (by kernel_rfl)) (fun _ _ _ h=>h) (Or.inl ⟨by rfl, ?_⟩) ?_ ?_
          rotate_left
          ·intro w'
           go_simp
           with_reducible rfl
          rotate_left
          ·simp only [Act.put,lz1,lz2,lz3,i64_w,i32_w]
           rfl
          refine pure_ (i:=23) (N := some 50) (v:=?_) (a':=?_) #[true,true,true,true,false,false,true,true,true,true,false,false,true,true,true,true,false,false,true,true,true,true,false,true,false,false,false,false,false,false,false,false,false,false,false,false] rfl rfl (any_of HT_.out (by kernel_rfl)) (fun _ _ _ h=>h) (Or.inl ⟨by rfl, ?_⟩) ?_ ?_
          rotate_left
          ·intro w'
           go_simp
           with_reducible rfl
          rotate_left
          ·simp only [Act.put,lz1,lz2,lz3,i64_w,i32_w]
           rfl
          refine pure_ (i:=24) (N := some 51) (v:=?_) (a':=?_) #[true,true,true,true,false,false,true,true,true,true,false,false,true,true,true,true,false,false,true,true,true,true,false,true,true,false,false,false,false,false,false,false,false,false,false,false] rfl rfl (any_of HT_.out (by kernel_rfl)) (fun _ _ _ h=>h) (Or.inl ⟨by rfl, ?_⟩) ?_ ?_
          rotate_left
          ·intro w'
           go_simp
           with_reducible rfl
          rotate_left
          ·simp only [Act.put,lz1,lz2,lz3,i64_w,i32_w]
           rfl
          refine pure_ (i:=25) (N := some 52) (v:=?_) (a':=?_) #[true,true,true,true,false,false,true,true,true,true,false,false,true,true,true,true,false,false,true,true,true,true,false,true,true,true,false,false,false,false,false,false,false,false,false,false] rfl rfl (any_of HT_.out (by kernel_rfl)) (fun _ _ _ h=>h) (Or.inl ⟨by rfl, ?_⟩) ?_ ?_
          rotate_left
          ·intro w'
           go_simp
           with_reducible rfl
          rotate_left
          ·simp only [Act.put,lz1,lz2,lz3,i64_w,i32_w]
           rfl
          refine pure_ (i:=26) (N := some 53) (v:=?_) (a':=?_) #[true,true,true,true,false,false,true,true,true,true,false,false,true,true,true,true,false,false,true,true,true,true,false,true,true,true,true,false,false,false,false,false,false,false,false,false] rfl rfl (any_of HT_.out (by kernel_rfl)) (fun _ _ _ h=>h) (Or.inl ⟨by rfl, ?_⟩) ?_ ?_
          rotate_left
          ·intro w'
           go_simp
           with_reducible rfl
          rotate_left
          ·simp only [Act.put,lz1,lz2,lz3,i64_w,i32_w]
           rfl
          refine pure_ (i:=28) (N := some 55) (v:=?_) (a':=?_) #[true,true,true,true,false,false,true,true,true,true,false,false,true,true,true,true,false,false,true,true,true,true,false,true,true,true,true,false,true,false,false,false,false,false,false,false] rfl rfl (any_of HT_.out (by kernel_rfl)) (fun _ _ _ h=>h) (Or.inl ⟨by rfl, ?_⟩) ?_ ?_
          rotate_left
          ·intro w'
           go_simp
           with_reducible rfl
          rotate_left
          ·simp only [Act.put,lz1,lz2,lz3,i64_w,i32_w]
           rfl
          refine pure_ (i:=29) (N := some 56) (v:=?_) (a':=?_) #[true,true,true,true,false,false,true,true,true,true,false,false,true,true,true,true,false,false,true,true,true,true,false,true,true,true,true,false,true,true,false,false,false,false,false,false] rfl rfl (any_of HT_.out (by kernel_rfl)) (fun _ _ _ h=>h) (Or.inl ⟨by rfl, ?_⟩) ?_ ?_
          rotate_left
          ·intro w'
           go_simp
           with_reducible rfl
          rotate_left
          ·simp only [Act.put,lz1,lz2,lz3,i64_w,i32_w]
           rfl
          refine pure_ (i:=30) (N := some 57) (v:=?_) (a':=?_) #[true,true,true,true,false,false,true,true,true,true,false,false,true,true,true,true,false,false,true,true,true,true,false,true,true,true,true,false,true,true,true,false,false,false,false,false] rfl rfl (any_of HT_.out (by kernel_rfl)) (fun _ _ _ h=>h) (Or.inl ⟨by rfl, ?_⟩) ?_ ?_
          rotate_left
          ·intro w'
           go_simp
           with_reducible rfl
          rotate_left
          ·simp only [Act.put,lz1,lz2,lz3,i64_w,i32_w]
           rfl
          refine pure_ (i:=31) (N := some 58) (v:=?_) (a':=?_) #[true,true,true,true,false,false,true,true,true,true,false,false,true,true,true,true,false,false,true,true,true,true,false,true,true,true,true,false,true,true,true,true,false,false,false,false] rfl rfl (any_of HT_.out (by kernel_rfl)) (fun _ _ _ h=>h) (Or.inl ⟨by rfl, ?_⟩) ?_ ?_
          rotate_left
          ·intro w'
           go_simp
           with_reducible rfl
          rotate_left
          ·simp only [Act.put,lz1,lz2,lz3,i64_w,i32_w]
           rfl
          refine take_ (i := 4) (N := some 31) (v:=?_) (a':=?_) #[true,true,true,true,true,false,true,true,true,true,false,false,true,true,true,true,false,false,true,true,true,true,false,true,true,true,true,false,true,true,true,true,false,false,false,false] rfl rfl (take_ofW HT_.out HW_.out (by kernel_rfl)) (fun _ _ _ h=>h) (Or.inl ⟨by rfl, ?_⟩) hHeld ?_ ?_
          rotate_left
          ·rintro w' ⟨s0, s1, s2, s3, s4, s5, s6, s7, s8, s9, s10, s11, s12, s13, s14, s15, s16, s17, s18, s19, s20, s21, s22, s23, s24, s25, s26, s27, s28, s29, s30, s31, s32, s33, s34, s35⟩
           go_simp
           with_reducible rfl
          rotate_left
          ·simp only [Act.put,lz1,lz2,lz3,i64_w,i32_w]
           rfl
          refine pure_ (i:=5) (N := some 32) (v:=?_) (a':=?_) #[true,true,true,true,true,true,true,true,true,true,false,false,true,true,true,true,false,false,true,true,true,true,false,true,true,true,true,false,true,true,true,true,false,false,false,false] rfl rfl (any_of HT_.out (by kernel_rfl)) (fun _ _ _ h=>h) (Or.inl ⟨by rfl, ?_⟩) ?_ ?_
          rotate_left
          ·intro w'
           go_simp
           with_reducible rfl
          rotate_left
          ·simp only [Act.put,lz1,lz2,lz3,i64_w,i32_w]
           rfl
          refine take_ (i := 10) (N := some 37) (v:=?_) (a':=?_) #[true,true,true,true,true,true,true,true,true,true,true,false,true,true,true,true,false,false,true,true,true,true,false,true,true,true,true,false,true,true,true,true,false,false,false,false] rfl rfl (take_ofW HT_.out HW_.out (by kernel_rfl)) (fun _ _ _ h=>h) (Or.inl ⟨by rfl, ?_⟩) hHeld ?_ ?_
          rotate_left
          ·rintro w' ⟨s0, s1, s2, s3, s4, s5, s6, s7, s8, s9, s10, s11, s12, s13, s14, s15, s16, s17, s18, s19, s20, s21, s22, s23, s24, s25, s26, s27, s28, s29, s30, s31, s32, s33, s34, s35⟩
           go_simp
           with_reducible rfl
          rotate_left
          ·simp only [Act.put,lz1,lz2,lz3,i64_w,i32_w]
           rfl
          refine pure_ (i:=11) (N := some 38) (v:=?_) (a':=?_) #[true,true,true,true,true,true,true,true,true,true,true,true,true,true,true,true,false,false,true,true,true,true,false,true,true,true,true,false,true,true,true,true,false,false,false,false] rfl rfl (any_of HT_.out (by kernel_rfl)) (fun _ _ _ h=>h) (Or.inl ⟨by rfl, ?_⟩) ?_ ?_
          rotate_left
          ·intro w'
           go_simp
           with_reducible rfl
          rotate_left
          ·simp only [Act.put,lz1,lz2,lz3,i64_w,i32_w]
           rfl
          refine take_ (i := 16) (N := some 43) (v:=?_) (a':=?_) #[true,true,true,true,true,true,true,true,true,true,true,true,true,true,true,true,true,false,true,true,true,true,false,true,true,true,true,false,true,true,true,true,false,false,false,false] rfl rfl (take_ofW HT_.out HW_.out (by kernel_rfl)) (fun _ _ _ h=>h) (Or.inl ⟨by rfl, ?_⟩) hHeld ?_ ?_
          rotate_left
          ·rintro w' ⟨s0, s1, s2, s3, s4, s5, s6, s7, s8, s9, s10, s11, s12, s13, s14, s15, s16, s17, s18, s19, s20, s21, s22, s23, s24, s25, s26, s27, s28, s29, s30, s31, s32, s33, s34, s35⟩
           go_simp
           with_reducible rfl
          rotate_left
          ·simp only [Act.put,lz1,lz2,lz3,i64_w,i32_w]
           rfl
          refine pure_ (i:=17) (N := some 44) (v:=?_) (a':=?_) #[true,true,true,true,true,true,true,true,true,true,true,true,true,true,true,true,true,true,true,true,true,true,false,true,true,true,true,false,true,true,true,true,false,false,false,false] rfl rfl (any_of HT_.out (by kernel_rfl)) (fun _ _ _ h=>h) (Or.inl ⟨by rfl, ?_⟩) ?_ ?_
          rotate_left
          ·intro w'
           go_simp
           with_reducible rfl
          rotate_left
          ·simp only [Act.put,lz1,lz2,lz3,i64_w,i32_w]
           rfl
          refine take_ (i := 22) (N := some 49) (v:=?_) (a':=?_) #[true,true,true,true,true,true,true,true,true,true,true,true,true,true,true,true,true,true,true,true,true,true,true,true,true,true,true,false,true,true,true,true,false,false,false,false] rfl rfl (take_ofW HT_.out HW_.out (by kernel_rfl)) (fun _ _ _ h=>h) (Or.inl ⟨by rfl, ?_⟩) hHeld ?_ ?_
          rotate_left
          ·rintro w' ⟨s0, s1, s2, s3, s4, s5, s6, s7, s8, s9, s10, s11, s12, s13, s14, s15, s16, s17, s18, s19, s20, s21, s22, s23, s24, s25, s26, s27, s28, s29, s30, s31, s32, s33, s34, s35⟩
           go_simp
           with_reducible rfl
          rotate_left
          ·simp only [Act.put,lz1,lz2,lz3,i64_w,i32_w]
           rfl
          refine take_ (i := 27) (N := some 54) (v:=?_) (a':=?_) #[true,true,true,true,true,true,true,true,true,true,true,true,true,true,true,true,true,true,true,true,true,true,true,true,true,true,true,true,true,true,true,true,false,false,false,false] rfl rfl (take_ofW HT_.out HW_.out (by kernel_rfl)) (fun _ _ _ h=>h) (Or.inl ⟨by rfl, ?_⟩) hHeld ?_ ?_
          rotate_left
          ·rintro w' ⟨s0, s1, s2, s3, s4, s5, s6, s7, s8, s9, s10, s11, s12, s13, s14, s15, s16, s17, s18, s19, s20, s21, s22, s23, s24, s25, s26, s27, s28, s29, s30, s31, s32, s33, s34, s35⟩
           go_simp
           with_reducible rfl
          rotate_left
          ·simp only [Act.put,lz1,lz2,lz3,i64_w,i32_w]
           rfl
          refine take_ (i := 32) (N := some 59) (v:=?_) (a':=?_) #[true,true,true,true,true,true,true,true,true,true,true,true,true,true,true,true,true,true,true,true,true,true,true,true,true,true,true,true,true,true,true,true,true,false,false,false] rfl rfl (take_ofW HT_.out HW_.out (by kernel_rfl)) (fun _ _ _ h=>h) (Or.inl ⟨by rfl, ?_⟩) hHeld ?_ ?_
          rotate_left
          ·rintro w' ⟨s0, s1, s2, s3, s4, s5, s6, s7, s8, s9, s10, s11, s12, s13, s14, s15, s16, s17, s18, s19, s20, s21, s22, s23, s24, s25, s26, s27, s28, s29, s30, s31, s32, s33, s34, s35⟩
           go_simp
           with_reducible rfl
          rotate_left
          ·simp only [Act.put,lz1,lz2,lz3,i64_w,i32_w]
           rfl
          refine pure_ (i:=33) (N := some 60) (v:=?_) (a':=?_) #[true,true,true,true,true,true,true,true,true,true,true,true,true,true,true,true,true,true,true,true,true,true,true,true,true,true,true,true,true,true,true,true,true,true,false,false] rfl rfl (any_of HT_.out (by kernel_rfl)) (fun _ _ _ h=>h) (Or.inl ⟨by rfl, ?_⟩) ?_ ?_
          rotate_left
          ·intro w'
           go_simp
           with_reducible rfl
          rotate_left
          ·simp only [Act.put,lz1,lz2,lz3,i64_w,i32_w]
           rfl
          refine one_ (i := 34) (N := some 8) #[true,true,true,true,true,true,true,true,true,true,true,true,true,true,true,true,true,true,true,true,true,true,true,true,true,true,true,true,true,true,true,true,true,true,true,false] rfl rfl (one_of HT_.out (by kernel_rfl)) (by decide) (fun K hK => ?_)
          refine box_step ?hg (N := 8) ?hd (cs := #[.string (⟨#[]⟩ : ByteArray), .int .i64 0, .int .i64 0, .int .i64 0, .bool false, .int .u64 0, .int .u64 0]) (t := 28) ?hr ?_; (case hd => rfl); (case hg => rfl); (case hr => first | (go_simp; done) | (go_simp; rfl))
          intro gb231 hg w14 hbox hb
          have n0_ := Aside0.mk (Kd.R_below (Kd.R_elderB (by (with_reducible repeat (first | apply Kd.R_alloc | apply Kd.R_drewN | apply Kd.R_drew)); exact HO_5.out) gb231 (Nat.le_of_eq hg.symm)) hb)
          have n1_ := Aside0.mk (below_step (by repeat (first | (with_reducible first | exact HB.out | apply below_alloc | apply pw_below_drewN | apply below_drew1) | exact HB.out)) hb)
          have n2_ := Aside0.mk (hbox)
          have n3_ := Aside0.mk ((by rw [hg]; exact (below_size (by repeat (first | (with_reducible first | exact HB.out | apply below_alloc | apply pw_below_drewN | apply below_drew1) | exact HB.out))) : w.heap.size ≤ gb231))
          have n4_ := Aside0.mk ((by rw [hg]; exact (below_size (by repeat (first | (with_reducible first | exact HB.out | apply below_alloc | apply pw_below_drewN | apply below_drew1) | exact HB.out))) : w.heap.size ≤ gb231))
          clear HO_5
          clear HB
          have HO_5 := n0_
          have HB := n1_
          have BK231 := n2_
          have GW231 := n3_
          have GE231 := n4_
          clear n0_ n1_ n2_ n3_ n4_
          clear hb hbox hg
          refine hK.out _ _ ⟨((HB.out.cell (World.block_lt_of_cell? w _ hw225_0)).trans hw225_0), ((HB.out.cell (World.block_lt_of_cell? w _ hw225_1)).trans hw225_1), ((HB.out.cell (World.block_lt_of_cell? w _ hw225_2)).trans hw225_2), ((HB.out.cell (World.block_lt_of_cell? w _ hw225_3)).trans hw225_3), ((HB.out.cell (World.block_lt_of_cell? w _ hw225_4)).trans hw225_4), ((HB.out.cell (World.block_lt_of_cell? w _ hw225_5)).trans hw225_5), ((HB.out.cell (World.block_lt_of_cell? w _ hw226_0)).trans hw226_0), ((HB.out.cell (World.block_lt_of_cell? w _ hw226_1)).trans hw226_1), ((HB.out.cell (World.block_lt_of_cell? w _ hw226_2)).trans hw226_2), ((HB.out.cell (World.block_lt_of_cell? w _ hw226_3)).trans hw226_3), ((HB.out.cell (World.block_lt_of_cell? w _ hw226_4)).trans hw226_4), ((HB.out.cell (World.block_lt_of_cell? w _ hw226_5)).trans hw226_5), ((HB.out.cell (World.block_lt_of_cell? w _ hw227_0)).trans hw227_0), ((HB.out.cell (World.block_lt_of_cell? w _ hw227_1)).trans hw227_1), ((HB.out.cell (World.block_lt_of_cell? w _ hw227_2)).trans hw227_2), ((HB.out.cell (World.block_lt_of_cell? w _ hw227_3)).trans hw227_3), ((HB.out.cell (World.block_lt_of_cell? w _ hw227_4)).trans hw227_4), ((HB.out.cell (World.block_lt_of_cell? w _ hw227_5)).trans hw227_5), ((HB.out.cell (World.block_lt_of_cell? w _ hw228_0)).trans hw228_0), ((HB.out.cell (World.block_lt_of_cell? w _ hw228_1)).trans hw228_1), ((HB.out.cell (World.block_lt_of_cell? w _ hw228_2)).trans hw228_2), ((HB.out.cell (World.block_lt_of_cell? w _ hw228_3)).trans hw228_3), ((HB.out.cell (World.block_lt_of_cell? w _ hw228_4)).trans hw228_4), ((HB.out.cell (World.block_lt_of_cell? w _ hw228_5)).trans hw228_5), ((HB.out.cell (World.block_lt_of_cell? w _ hw229_0)).trans hw229_0), ((HB.out.cell (World.block_lt_of_cell? w _ hw229_1)).trans hw229_1), ((HB.out.cell (World.block_lt_of_cell? w _ hw229_2)).trans hw229_2), ((HB.out.cell (World.block_lt_of_cell? w _ hw229_3)).trans hw229_3), ((HB.out.cell (World.block_lt_of_cell? w _ hw229_4)).trans hw229_4), ((HB.out.cell (World.block_lt_of_cell? w _ hw229_5)).trans hw229_5), ((HB.out.cell (World.block_lt_of_cell? w _ hw230_0)).trans hw230_0), ((HB.out.cell (World.block_lt_of_cell? w _ hw230_1)).trans hw230_1), ((HB.out.cell (World.block_lt_of_cell? w _ hw230_2)).trans hw230_2), ((HB.out.cell (World.block_lt_of_cell? w _ hw230_3)).trans hw230_3), ((HB.out.cell (World.block_lt_of_cell? w _ hw230_4)).trans hw230_4), ((HB.out.cell (World.block_lt_of_cell? w _ hw230_5)).trans hw230_5)⟩ (fun hHeld => ?_)
          clear hK K
          refine norm_ (a' := ?_) ?_ ?_
          rotate_left
          ·show Act.put _ (some 8) _ = _
           simp only [Act.put,lz1,lz2,lz3,i64_w,i32_w]
           rfl
          refine one_ (i := 35) (N := none) #[true,true,true,true,true,true,true,true,true,true,true,true,true,true,true,true,true,true,true,true,true,true,true,true,true,true,true,true,true,true,true,true,true,true,true,true] rfl rfl (one_of HT_.out (by kernel_rfl)) (by decide) (fun K hK => ?_)
          have hs15 : w14.cell? ⟨gb231, 0, none⟩ = some (.string (⟨#[]⟩ : ByteArray)) := (blk_cell BK231.out 0).trans rfl
          have hfs15 := blk_frozen BK231.out 0
          have hs16 : w14.cell? ⟨gb231, 1, none⟩ = some (.int .i64 0) := (blk_cell BK231.out 1).trans rfl
          have hfs16 := blk_frozen BK231.out 1
          have hs17 : w14.cell? ⟨gb231, 2, none⟩ = some (.int .i64 0) := (blk_cell BK231.out 2).trans rfl
          have hfs17 := blk_frozen BK231.out 2
          have hs18 : w14.cell? ⟨gb231, 3, none⟩ = some (.int .i64 0) := (blk_cell BK231.out 3).trans rfl
          have hfs18 := blk_frozen BK231.out 3
          have hs19 : w14.cell? ⟨gb231, 4, none⟩ = some (.bool false) := (blk_cell BK231.out 4).trans rfl
          have hfs19 := blk_frozen BK231.out 4
          have hs20 : w14.cell? ⟨gb231, 5, none⟩ = some (.int .u64 0) := (blk_cell BK231.out 5).trans rfl
          have hfs20 := blk_frozen BK231.out 5
          have hs21 : w14.cell? ⟨gb231, 6, none⟩ = some (.int .u64 0) := (blk_cell BK231.out 6).trans rfl
          have hfs21 := blk_frozen BK231.out 6
          refine skip_ (w1 := ?_) (by rfl) rfl ?_ ?_
          rotate_left
          ·go_simp
           rfl
          refine hK.out _ _ ⟨((cell_far (p := ⟨gb231, _, none⟩) (by (first | rw [add_block] | (show (Addr.add _ _).block ≠ _; rw [add_block]) | dsimp only | skip); exact Nat.ne_of_lt (Nat.lt_of_lt_of_le (by have := World.block_lt_of_cell? _ _ hw225_0; first | rwa [add_block] at this | exact this) GW231.out)) _).trans (((cell_far (p := ⟨gb231, _, none⟩) (by (first | rw [add_block] | (show (Addr.add _ _).block ≠ _; rw [add_block]) | dsimp only | skip); exact Nat.ne_of_lt (Nat.lt_of_lt_of_le (by have := World.block_lt_of_cell? _ _ hw225_0; first | rwa [add_block] at this | exact this) GW231.out)) _).trans (((cell_far (p := ⟨gb231, _, none⟩) (by (first | rw [add_block] | (show (Addr.add _ _).block ≠ _; rw [add_block]) | dsimp only | skip); exact Nat.ne_of_lt (Nat.lt_of_lt_of_le (by have := World.block_lt_of_cell? _ _ hw225_0; first | rwa [add_block] at this | exact this) GW231.out)) _).trans (((cell_far (p := ⟨gb231, _, none⟩) (by (first | rw [add_block] | (show (Addr.add _ _).block ≠ _; rw [add_block]) | dsimp only | skip); exact Nat.ne_of_lt (Nat.lt_of_lt_of_le (by have := World.block_lt_of_cell? _ _ hw225_0; first | rwa [add_block] at this | exact this) GW231.out)) _).trans (((cell_far (p := ⟨gb231, _, none⟩) (by (first | rw [add_block] | (show (Addr.add _ _).block ≠ _; rw [add_block]) | dsimp only | skip); exact Nat.ne_of_lt (Nat.lt_of_lt_of_le (by have := World.block_lt_of_cell? _ _ hw225_0; first | rwa [add_block] at this | exact this) GW231.out)) _).trans (((cell_far (p := ⟨gb231, _, none⟩) (by (first | rw [add_block] | (show (Addr.add _ _).block ≠ _; rw [add_block]) | dsimp only | skip); exact Nat.ne_of_lt (Nat.lt_of_lt_of_le (by have := World.block_lt_of_cell? _ _ hw225_0; first | rwa [add_block] at this | exact this) GW231.out)) _).trans (((cell_far (p := ⟨gb231, _, none⟩) (by (first | rw [add_block] | (show (Addr.add _ _).block ≠ _; rw [add_block]) | dsimp only | skip); exact Nat.ne_of_lt (Nat.lt_of_lt_of_le (by have := World.block_lt_of_cell? _ _ hw225_0; first | rwa [add_block] at this | exact this) GW231.out)) _).trans (hHeld.1)))))))))))))), ((cell_far (p := ⟨gb231, _, none⟩) (by (first | rw [add_block] | (show (Addr.add _ _).block ≠ _; rw [add_block]) | dsimp only | skip); exact Nat.ne_of_lt (Nat.lt_of_lt_of_le (by have := World.block_lt_of_cell? _ _ hw225_1; first | rwa [add_block] at this | exact this) GW231.out)) _).trans (((cell_far (p := ⟨gb231, _, none⟩) (by (first | rw [add_block] | (show (Addr.add _ _).block ≠ _; rw [add_block]) | dsimp only | skip); exact Nat.ne_of_lt (Nat.lt_of_lt_of_le (by have := World.block_lt_of_cell? _ _ hw225_1; first | rwa [add_block] at this | exact this) GW231.out)) _).trans (((cell_far (p := ⟨gb231, _, none⟩) (by (first | rw [add_block] | (show (Addr.add _ _).block ≠ _; rw [add_block]) | dsimp only | skip); exact Nat.ne_of_lt (Nat.lt_of_lt_of_le (by have := World.block_lt_of_cell? _ _ hw225_1; first | rwa [add_block] at this | exact this) GW231.out)) _).trans (((cell_far (p := ⟨gb231, _, none⟩) (by (first | rw [add_block] | (show (Addr.add _ _).block ≠ _; rw [add_block]) | dsimp only | skip); exact Nat.ne_of_lt (Nat.lt_of_lt_of_le (by have := World.block_lt_of_cell? _ _ hw225_1; first | rwa [add_block] at this | exact this) GW231.out)) _).trans (((cell_far (p := ⟨gb231, _, none⟩) (by (first | rw [add_block] | (show (Addr.add _ _).block ≠ _; rw [add_block]) | dsimp only | skip); exact Nat.ne_of_lt (Nat.lt_of_lt_of_le (by have := World.block_lt_of_cell? _ _ hw225_1; first | rwa [add_block] at this | exact this) GW231.out)) _).trans (((cell_far (p := ⟨gb231, _, none⟩) (by (first | rw [add_block] | (show (Addr.add _ _).block ≠ _; rw [add_block]) | dsimp only | skip); exact Nat.ne_of_lt (Nat.lt_of_lt_of_le (by have := World.block_lt_of_cell? _ _ hw225_1; first | rwa [add_block] at this | exact this) GW231.out)) _).trans (((cell_far (p := ⟨gb231, _, none⟩) (by (first | rw [add_block] | (show (Addr.add _ _).block ≠ _; rw [add_block]) | dsimp only | skip); exact Nat.ne_of_lt (Nat.lt_of_lt_of_le (by have := World.block_lt_of_cell? _ _ hw225_1; first | rwa [add_block] at this | exact this) GW231.out)) _).trans (hHeld.2.1)))))))))))))), ((cell_far (p := ⟨gb231, _, none⟩) (by (first | rw [add_block] | (show (Addr.add _ _).block ≠ _; rw [add_block]) | dsimp only | skip); exact Nat.ne_of_lt (Nat.lt_of_lt_of_le (by have := World.block_lt_of_cell? _ _ hw225_2; first | rwa [add_block] at this | exact this) GW231.out)) _).trans (((cell_far (p := ⟨gb231, _, none⟩) (by (first | rw [add_block] | (show (Addr.add _ _).block ≠ _; rw [add_block]) | dsimp only | skip); exact Nat.ne_of_lt (Nat.lt_of_lt_of_le (by have := World.block_lt_of_cell? _ _ hw225_2; first | rwa [add_block] at this | exact this) GW231.out)) _).trans (((cell_far (p := ⟨gb231, _, none⟩) (by (first | rw [add_block] | (show (Addr.add _ _).block ≠ _; rw [add_block]) | dsimp only | skip); exact Nat.ne_of_lt (Nat.lt_of_lt_of_le (by have := World.block_lt_of_cell? _ _ hw225_2; first | rwa [add_block] at this | exact this) GW231.out)) _).trans (((cell_far (p := ⟨gb231, _, none⟩) (by (first | rw [add_block] | (show (Addr.add _ _).block ≠ _; rw [add_block]) | dsimp only | skip); exact Nat.ne_of_lt (Nat.lt_of_lt_of_le (by have := World.block_lt_of_cell? _ _ hw225_2; first | rwa [add_block] at this | exact this) GW231.out)) _).trans (((cell_far (p := ⟨gb231, _, none⟩) (by (first | rw [add_block] | (show (Addr.add _ _).block ≠ _; rw [add_block]) | dsimp only | skip); exact Nat.ne_of_lt (Nat.lt_of_lt_of_le (by have := World.block_lt_of_cell? _ _ hw225_2; first | rwa [add_block] at this | exact this) GW231.out)) _).trans (((cell_far (p := ⟨gb231, _, none⟩) (by (first | rw [add_block] | (show (Addr.add _ _).block ≠ _; rw [add_block]) | dsimp only | skip); exact Nat.ne_of_lt (Nat.lt_of_lt_of_le (by have := World.block_lt_of_cell? _ _ hw225_2; first | rwa [add_block] at this | exact this) GW231.out)) _).trans (((cell_far (p := ⟨gb231, _, none⟩) (by (first | rw [add_block] | (show (Addr.add _ _).block ≠ _; rw [add_block]) | dsimp only | skip); exact Nat.ne_of_lt (Nat.lt_of_lt_of_le (by have := World.block_lt_of_cell? _ _ hw225_2; first | rwa [add_block] at this | exact this) GW231.out)) _).trans (hHeld.2.2.1)))))))))))))), ((cell_far (p := ⟨gb231, _, none⟩) (by (first | rw [add_block] | (show (Addr.add _ _).block ≠ _; rw [add_block]) | dsimp only | skip); exact Nat.ne_of_lt (Nat.lt_of_lt_of_le (by have := World.block_lt_of_cell? _ _ hw225_3; first | rwa [add_block] at this | exact this) GW231.out)) _).trans (((cell_far (p := ⟨gb231, _, none⟩) (by (first | rw [add_block] | (show (Addr.add _ _).block ≠ _; rw [add_block]) | dsimp only | skip); exact Nat.ne_of_lt (Nat.lt_of_lt_of_le (by have := World.block_lt_of_cell? _ _ hw225_3; first | rwa [add_block] at this | exact this) GW231.out)) _).trans (((cell_far (p := ⟨gb231, _, none⟩) (by (first | rw [add_block] | (show (Addr.add _ _).block ≠ _; rw [add_block]) | dsimp only | skip); exact Nat.ne_of_lt (Nat.lt_of_lt_of_le (by have := World.block_lt_of_cell? _ _ hw225_3; first | rwa [add_block] at this | exact this) GW231.out)) _).trans (((cell_far (p := ⟨gb231, _, none⟩) (by (first | rw [add_block] | (show (Addr.add _ _).block ≠ _; rw [add_block]) | dsimp only | skip); exact Nat.ne_of_lt (Nat.lt_of_lt_of_le (by have := World.block_lt_of_cell? _ _ hw225_3; first | rwa [add_block] at this | exact this) GW231.out)) _).trans (((cell_far (p := ⟨gb231, _, none⟩) (by (first | rw [add_block] | (show (Addr.add _ _).block ≠ _; rw [add_block]) | dsimp only | skip); exact Nat.ne_of_lt (Nat.lt_of_lt_of_le (by have := World.block_lt_of_cell? _ _ hw225_3; first | rwa [add_block] at this | exact this) GW231.out)) _).trans (((cell_far (p := ⟨gb231, _, none⟩) (by (first | rw [add_block] | (show (Addr.add _ _).block ≠ _; rw [add_block]) | dsimp only | skip); exact Nat.ne_of_lt (Nat.lt_of_lt_of_le (by have := World.block_lt_of_cell? _ _ hw225_3; first | rwa [add_block] at this | exact this) GW231.out)) _).trans (((cell_far (p := ⟨gb231, _, none⟩) (by (first | rw [add_block] | (show (Addr.add _ _).block ≠ _; rw [add_block]) | dsimp only | skip); exact Nat.ne_of_lt (Nat.lt_of_lt_of_le (by have := World.block_lt_of_cell? _ _ hw225_3; first | rwa [add_block] at this | exact this) GW231.out)) _).trans (hHeld.2.2.2.1)))))))))))))), ((cell_far (p := ⟨gb231, _, none⟩) (by (first | rw [add_block] | (show (Addr.add _ _).block ≠ _; rw [add_block]) | dsimp only | skip); exact Nat.ne_of_lt (Nat.lt_of_lt_of_le (by have := World.block_lt_of_cell? _ _ hw225_4; first | rwa [add_block] at this | exact this) GW231.out)) _).trans (((cell_far (p := ⟨gb231, _, none⟩) (by (first | rw [add_block] | (show (Addr.add _ _).block ≠ _; rw [add_block]) | dsimp only | skip); exact Nat.ne_of_lt (Nat.lt_of_lt_of_le (by have := World.block_lt_of_cell? _ _ hw225_4; first | rwa [add_block] at this | exact this) GW231.out)) _).trans (((cell_far (p := ⟨gb231, _, none⟩) (by (first | rw [add_block] | (show (Addr.add _ _).block ≠ _; rw [add_block]) | dsimp only | skip); exact Nat.ne_of_lt (Nat.lt_of_lt_of_le (by have := World.block_lt_of_cell? _ _ hw225_4; first | rwa [add_block] at this | exact this) GW231.out)) _).trans (((cell_far (p := ⟨gb231, _, none⟩) (by (first | rw [add_block] | (show (Addr.add _ _).block ≠ _; rw [add_block]) | dsimp only | skip); exact Nat.ne_of_lt (Nat.lt_of_lt_of_le (by have := World.block_lt_of_cell? _ _ hw225_4; first | rwa [add_block] at this | exact this) GW231.out)) _).trans (((cell_far (p := ⟨gb231, _, none⟩) (by (first | rw [add_block] | (show (Addr.add _ _).block ≠ _; rw [add_block]) | dsimp only | skip); exact Nat.ne_of_lt (Nat.lt_of_lt_of_le (by have := World.block_lt_of_cell? _ _ hw225_4; first | rwa [add_block] at this | exact this) GW231.out)) _).trans (((cell_far (p := ⟨gb231, _, none⟩) (by (first | rw [add_block] | (show (Addr.add _ _).block ≠ _; rw [add_block]) | dsimp only | skip); exact Nat.ne_of_lt (Nat.lt_of_lt_of_le (by have := World.block_lt_of_cell? _ _ hw225_4; first | rwa [add_block] at this | exact this) GW231.out)) _).trans (((cell_far (p := ⟨gb231, _, none⟩) (by (first | rw [add_block] | (show (Addr.add _ _).block ≠ _; rw [add_block]) | dsimp only | skip); exact Nat.ne_of_lt (Nat.lt_of_lt_of_le (by have := World.block_lt_of_cell? _ _ hw225_4; first | rwa [add_block] at this | exact this) GW231.out)) _).trans (hHeld.2.2.2.2.1)))))))))))))), ((cell_far (p := ⟨gb231, _, none⟩) (by (first | rw [add_block] | (show (Addr.add _ _).block ≠ _; rw [add_block]) | dsimp only | skip); exact Nat.ne_of_lt (Nat.lt_of_lt_of_le (by have := World.block_lt_of_cell? _ _ hw225_5; first | rwa [add_block] at this | exact this) GW231.out)) _).trans (((cell_far (p := ⟨gb231, _, none⟩) (by (first | rw [add_block] | (show (Addr.add _ _).block ≠ _; rw [add_block]) | dsimp only | skip); exact Nat.ne_of_lt (Nat.lt_of_lt_of_le (by have := World.block_lt_of_cell? _ _ hw225_5; first | rwa [add_block] at this | exact this) GW231.out)) _).trans (((cell_far (p := ⟨gb231, _, none⟩) (by (first | rw [add_block] | (show (Addr.add _ _).block ≠ _; rw [add_block]) | dsimp only | skip); exact Nat.ne_of_lt (Nat.lt_of_lt_of_le (by have := World.block_lt_of_cell? _ _ hw225_5; first | rwa [add_block] at this | exact this) GW231.out)) _).trans (((cell_far (p := ⟨gb231, _, none⟩) (by (first | rw [add_block] | (show (Addr.add _ _).block ≠ _; rw [add_block]) | dsimp only | skip); exact Nat.ne_of_lt (Nat.lt_of_lt_of_le (by have := World.block_lt_of_cell? _ _ hw225_5; first | rwa [add_block] at this | exact this) GW231.out)) _).trans (((cell_far (p := ⟨gb231, _, none⟩) (by (first | rw [add_block] | (show (Addr.add _ _).block ≠ _; rw [add_block]) | dsimp only | skip); exact Nat.ne_of_lt (Nat.lt_of_lt_of_le (by have := World.block_lt_of_cell? _ _ hw225_5; first | rwa [add_block] at this | exact this) GW231.out)) _).trans (((cell_far (p := ⟨gb231, _, none⟩) (by (first | rw [add_block] | (show (Addr.add _ _).block ≠ _; rw [add_block]) | dsimp only | skip); exact Nat.ne_of_lt (Nat.lt_of_lt_of_le (by have := World.block_lt_of_cell? _ _ hw225_5; first | rwa [add_block] at this | exact this) GW231.out)) _).trans (((cell_far (p := ⟨gb231, _, none⟩) (by (first | rw [add_block] | (show (Addr.add _ _).block ≠ _; rw [add_block]) | dsimp only | skip); exact Nat.ne_of_lt (Nat.lt_of_lt_of_le (by have := World.block_lt_of_cell? _ _ hw225_5; first | rwa [add_block] at this | exact this) GW231.out)) _).trans (hHeld.2.2.2.2.2.1)))))))))))))), ((cell_far (p := ⟨gb231, _, none⟩) (by (first | rw [add_block] | (show (Addr.add _ _).block ≠ _; rw [add_block]) | dsimp only | skip); exact Nat.ne_of_lt (Nat.lt_of_lt_of_le (by have := World.block_lt_of_cell? _ _ hw226_0; first | rwa [add_block] at this | exact this) GW231.out)) _).trans (((cell_far (p := ⟨gb231, _, none⟩) (by (first | rw [add_block] | (show (Addr.add _ _).block ≠ _; rw [add_block]) | dsimp only | skip); exact Nat.ne_of_lt (Nat.lt_of_lt_of_le (by have := World.block_lt_of_cell? _ _ hw226_0; first | rwa [add_block] at this | exact this) GW231.out)) _).trans (((cell_far (p := ⟨gb231, _, none⟩) (by (first | rw [add_block] | (show (Addr.add _ _).block ≠ _; rw [add_block]) | dsimp only | skip); exact Nat.ne_of_lt (Nat.lt_of_lt_of_le (by have := World.block_lt_of_cell? _ _ hw226_0; first | rwa [add_block] at this | exact this) GW231.out)) _).trans (((cell_far (p := ⟨gb231, _, none⟩) (by (first | rw [add_block] | (show (Addr.add _ _).block ≠ _; rw [add_block]) | dsimp only | skip); exact Nat.ne_of_lt (Nat.lt_of_lt_of_le (by have := World.block_lt_of_cell? _ _ hw226_0; first | rwa [add_block] at this | exact this) GW231.out)) _).trans (((cell_far (p := ⟨gb231, _, none⟩) (by (first | rw [add_block] | (show (Addr.add _ _).block ≠ _; rw [add_block]) | dsimp only | skip); exact Nat.ne_of_lt (Nat.lt_of_lt_of_le (by have := World.block_lt_of_cell? _ _ hw226_0; first | rwa [add_block] at this | exact this) GW231.out)) _).trans (((cell_far (p := ⟨gb231, _, none⟩) (by (first | rw [add_block] | (show (Addr.add _ _).block ≠ _; rw [add_block]) | dsimp only | skip); exact Nat.ne_of_lt (Nat.lt_of_lt_of_le (by have := World.block_lt_of_cell? _ _ hw226_0; first | rwa [add_block] at this | exact this) GW231.out)) _).trans (((cell_far (p := ⟨gb231, _, none⟩) (by (first | rw [add_block] | (show (Addr.add _ _).block ≠ _; rw [add_block]) | dsimp only | skip); exact Nat.ne_of_lt (Nat.lt_of_lt_of_le (by have := World.block_lt_of_cell? _ _ hw226_0; first | rwa [add_block] at this | exact this) GW231.out)) _).trans (hHeld.2.2.2.2.2.2.1)))))))))))))), ((cell_far (p := ⟨gb231, _, none⟩) (by (first | rw [add_block] | (show (Addr.add _ _).block ≠ _; rw [add_block]) | dsimp only | skip); exact Nat.ne_of_lt (Nat.lt_of_lt_of_le (by have := World.block_lt_of_cell? _ _ hw226_1; first | rwa [add_block] at this | exact this) GW231.out)) _).trans (((cell_far (p := ⟨gb231, _, none⟩) (by (first | rw [add_block] | (show (Addr.add _ _).block ≠ _; rw [add_block]) | dsimp only | skip); exact Nat.ne_of_lt (Nat.lt_of_lt_of_le (by have := World.block_lt_of_cell? _ _ hw226_1; first | rwa [add_block] at this | exact this) GW231.out)) _).trans (((cell_far (p := ⟨gb231, _, none⟩) (by (first | rw [add_block] | (show (Addr.add _ _).block ≠ _; rw [add_block]) | dsimp only | skip); exact Nat.ne_of_lt (Nat.lt_of_lt_of_le (by have := World.block_lt_of_cell? _ _ hw226_1; first | rwa [add_block] at this | exact this) GW231.out)) _).trans (((cell_far (p := ⟨gb231, _, none⟩) (by (first | rw [add_block] | (show (Addr.add _ _).block ≠ _; rw [add_block]) | dsimp only | skip); exact Nat.ne_of_lt (Nat.lt_of_lt_of_le (by have := World.block_lt_of_cell? _ _ hw226_1; first | rwa [add_block] at this | exact this) GW231.out)) _).trans (((cell_far (p := ⟨gb231, _, none⟩) (by (first | rw [add_block] | (show (Addr.add _ _).block ≠ _; rw [add_block]) | dsimp only | skip); exact Nat.ne_of_lt (Nat.lt_of_lt_of_le (by have := World.block_lt_of_cell? _ _ hw226_1; first | rwa [add_block] at this | exact this) GW231.out)) _).trans (((cell_far (p := ⟨gb231, _, none⟩) (by (first | rw [add_block] | (show (Addr.add _ _).block ≠ _; rw [add_block]) | dsimp only | skip); exact Nat.ne_of_lt (Nat.lt_of_lt_of_le (by have := World.block_lt_of_cell? _ _ hw226_1; first | rwa [add_block] at this | exact this) GW231.out)) _).trans (((cell_far (p := ⟨gb231, _, none⟩) (by (first | rw [add_block] | (show (Addr.add _ _).block ≠ _; rw [add_block]) | dsimp only | skip); exact Nat.ne_of_lt (Nat.lt_of_lt_of_le (by have := World.block_lt_of_cell? _ _ hw226_1; first | rwa [add_block] at this | exact this) GW231.out)) _).trans (hHeld.2.2.2.2.2.2.2.1)))))))))))))), ((cell_far (p := ⟨gb231, _, none⟩) (by (first | rw [add_block] | (show (Addr.add _ _).block ≠ _; rw [add_block]) | dsimp only | skip); exact Nat.ne_of_lt (Nat.lt_of_lt_of_le (by have := World.block_lt_of_cell? _ _ hw226_2; first | rwa [add_block] at this | exact this) GW231.out)) _).trans (((cell_far (p := ⟨gb231, _, none⟩) (by (first | rw [add_block] | (show (Addr.add _ _).block ≠ _; rw [add_block]) | dsimp only | skip); exact Nat.ne_of_lt (Nat.lt_of_lt_of_le (by have := World.block_lt_of_cell? _ _ hw226_2; first | rwa [add_block] at this | exact this) GW231.out)) _).trans (((cell_far (p := ⟨gb231, _, none⟩) (by (first | rw [add_block] | (show (Addr.add _ _).block ≠ _; rw [add_block]) | dsimp only | skip); exact Nat.ne_of_lt (Nat.lt_of_lt_of_le (by have := World.block_lt_of_cell? _ _ hw226_2; first | rwa [add_block] at this | exact this) GW231.out)) _).trans (((cell_far (p := ⟨gb231, _, none⟩) (by (first | rw [add_block] | (show (Addr.add _ _).block ≠ _; rw [add_block]) | dsimp only | skip); exact Nat.ne_of_lt (Nat.lt_of_lt_of_le (by have := World.block_lt_of_cell? _ _ hw226_2; first | rwa [add_block] at this | exact this) GW231.out)) _).trans (((cell_far (p := ⟨gb231, _, none⟩) (by (first | rw [add_block] | (show (Addr.add _ _).block ≠ _; rw [add_block]) | dsimp only | skip); exact Nat.ne_of_lt (Nat.lt_of_lt_of_le (by have := World.block_lt_of_cell? _ _ hw226_2; first | rwa [add_block] at this | exact this) GW231.out)) _).trans (((cell_far (p := ⟨gb231, _, none⟩) (by (first | rw [add_block] | (show (Addr.add _ _).block ≠ _; rw [add_block]) | dsimp only | skip); exact Nat.ne_of_lt (Nat.lt_of_lt_of_le (by have := World.block_lt_of_cell? _ _ hw226_2; first | rwa [add_block] at this | exact this) GW231.out)) _).trans (((cell_far (p := ⟨gb231, _, none⟩) (by (first | rw [add_block] | (show (Addr.add _ _).block ≠ _; rw [add_block]) | dsimp only | skip); exact Nat.ne_of_lt (Nat.lt_of_lt_of_le (by have := World.block_lt_of_cell? _ _ hw226_2; first | rwa [add_block] at this | exact this) GW231.out)) _).trans (hHeld.2.2.2.2.2.2.2.2.1)))))))))))))), ((cell_far (p := ⟨gb231, _, none⟩) (by (first | rw [add_block] | (show (Addr.add _ _).block ≠ _; rw [add_block]) | dsimp only | skip); exact Nat.ne_of_lt (Nat.lt_of_lt_of_le (by have := World.block_lt_of_cell? _ _ hw226_3; first | rwa [add_block] at this | exact this) GW231.out)) _).trans (((cell_far (p := ⟨gb231, _, none⟩) (by (first | rw [add_block] | (show (Addr.add _ _).block ≠ _; rw [add_block]) | dsimp only | skip); exact Nat.ne_of_lt (Nat.lt_of_lt_of_le (by have := World.block_lt_of_cell? _ _ hw226_3; first | rwa [add_block] at this | exact this) GW231.out)) _).trans (((cell_far (p := ⟨gb231, _, none⟩) (by (first | rw [add_block] | (show (Addr.add _ _).block ≠ _; rw [add_block]) | dsimp only | skip); exact Nat.ne_of_lt (Nat.lt_of_lt_of_le (by have := World.block_lt_of_cell? _ _ hw226_3; first | rwa [add_block] at this | exact this) GW231.out)) _).trans (((cell_far (p := ⟨gb231, _, none⟩) (by (first | rw [add_block] | (show (Addr.add _ _).block ≠ _; rw [add_block]) | dsimp only | skip); exact Nat.ne_of_lt (Nat.lt_of_lt_of_le (by have := World.block_lt_of_cell? _ _ hw226_3; first | rwa [add_block] at this | exact this) GW231.out)) _).trans (((cell_far (p := ⟨gb231, _, none⟩) (by (first | rw [add_block] | (show (Addr.add _ _).block ≠ _; rw [add_block]) | dsimp only | skip); exact Nat.ne_of_lt (Nat.lt_of_lt_of_le (by have := World.block_lt_of_cell? _ _ hw226_3; first | rwa [add_block] at this | exact this) GW231.out)) _).trans (((cell_far (p := ⟨gb231, _, none⟩) (by (first | rw [add_block] | (show (Addr.add _ _).block ≠ _; rw [add_block]) | dsimp only | skip); exact Nat.ne_of_lt (Nat.lt_of_lt_of_le (by have := World.block_lt_of_cell? _ _ hw226_3; first | rwa [add_block] at this | exact this) GW231.out)) _).trans (((cell_far (p := ⟨gb231, _, none⟩) (by (first | rw [add_block] | (show (Addr.add _ _).block ≠ _; rw [add_block]) | dsimp only | skip); exact Nat.ne_of_lt (Nat.lt_of_lt_of_le (by have := World.block_lt_of_cell? _ _ hw226_3; first | rwa [add_block] at this | exact this) GW231.out)) _).trans (hHeld.2.2.2.2.2.2.2.2.2.1)))))))))))))), ((cell_far (p := ⟨gb231, _, none⟩) (by (first | rw [add_block] | (show (Addr.add _ _).block ≠ _; rw [add_block]) | dsimp only | skip); exact Nat.ne_of_lt (Nat.lt_of_lt_of_le (by have := World.block_lt_of_cell? _ _ hw226_4; first | rwa [add_block] at this | exact this) GW231.out)) _).trans (((cell_far (p := ⟨gb231, _, none⟩) (by (first | rw [add_block] | (show (Addr.add _ _).block ≠ _; rw [add_block]) | dsimp only | skip); exact Nat.ne_of_lt (Nat.lt_of_lt_of_le (by have := World.block_lt_of_cell? _ _ hw226_4; first | rwa [add_block] at this | exact this) GW231.out)) _).trans (((cell_far (p := ⟨gb231, _, none⟩) (by (first | rw [add_block] | (show (Addr.add _ _).block ≠ _; rw [add_block]) | dsimp only | skip); exact Nat.ne_of_lt (Nat.lt_of_lt_of_le (by have := World.block_lt_of_cell? _ _ hw226_4; first | rwa [add_block] at this | exact this) GW231.out)) _).trans (((cell_far (p := ⟨gb231, _, none⟩) (by (first | rw [add_block] | (show (Addr.add _ _).block ≠ _; rw [add_block]) | dsimp only | skip); exact Nat.ne_of_lt (Nat.lt_of_lt_of_le (by have := World.block_lt_of_cell? _ _ hw226_4; first | rwa [add_block] at this | exact this) GW231.out)) _).trans (((cell_far (p := ⟨gb231, _, none⟩) (by (first | rw [add_block] | (show (Addr.add _ _).block ≠ _; rw [add_block]) | dsimp only | skip); exact Nat.ne_of_lt (Nat.lt_of_lt_of_le (by have := World.block_lt_of_cell? _ _ hw226_4; first | rwa [add_block] at this | exact this) GW231.out)) _).trans (((cell_far (p := ⟨gb231, _, none⟩) (by (first | rw [add_block] | (show (Addr.add _ _).block ≠ _; rw [add_block]) | dsimp only | skip); exact Nat.ne_of_lt (Nat.lt_of_lt_of_le (by have := World.block_lt_of_cell? _ _ hw226_4; first | rwa [add_block] at this | exact this) GW231.out)) _).trans (((cell_far (p := ⟨gb231, _, none⟩) (by (first | rw [add_block] | (show (Addr.add _ _).block ≠ _; rw [add_block]) | dsimp only | skip); exact Nat.ne_of_lt (Nat.lt_of_lt_of_le (by have := World.block_lt_of_cell? _ _ hw226_4; first | rwa [add_block] at this | exact this) GW231.out)) _).trans (hHeld.2.2.2.2.2.2.2.2.2.2.1)))))))))))))), ((cell_far (p := ⟨gb231, _, none⟩) (by (first | rw [add_block] | (show (Addr.add _ _).block ≠ _; rw [add_block]) | dsimp only | skip); exact Nat.ne_of_lt (Nat.lt_of_lt_of_le (by have := World.block_lt_of_cell? _ _ hw226_5; first | rwa [add_block] at this | exact this) GW231.out)) _).trans (((cell_far (p := ⟨gb231, _, none⟩) (by (first | rw [add_block] | (show (Addr.add _ _).block ≠ _; rw [add_block]) | dsimp only | skip); exact Nat.ne_of_lt (Nat.lt_of_lt_of_le (by have := World.block_lt_of_cell? _ _ hw226_5; first | rwa [add_block] at this | exact this) GW231.out)) _).trans (((cell_far (p := ⟨gb231, _, none⟩) (by (first | rw [add_block] | (show (Addr.add _ _).block ≠ _; rw [add_block]) | dsimp only | skip); exact Nat.ne_of_lt (Nat.lt_of_lt_of_le (by have := World.block_lt_of_cell? _ _ hw226_5; first | rwa [add_block] at this | exact this) GW231.out)) _).trans (((cell_far (p := ⟨gb231, _, none⟩) (by (first | rw [add_block] | (show (Addr.add _ _).block ≠ _; rw [add_block]) | dsimp only | skip); exact Nat.ne_of_lt (Nat.lt_of_lt_of_le (by have := World.block_lt_of_cell? _ _ hw226_5; first | rwa [add_block] at this | exact this) GW231.out)) _).trans (((cell_far (p := ⟨gb231, _, none⟩) (by (first | rw [add_block] | (show (Addr.add _ _).block ≠ _; rw [add_block]) | dsimp only | skip); exact Nat.ne_of_lt (Nat.lt_of_lt_of_le (by have := World.block_lt_of_cell? _ _ hw226_5; first | rwa [add_block] at this | exact this) GW231.out)) _).trans (((cell_far (p := ⟨gb231, _, none⟩) (by (first | rw [add_block] | (show (Addr.add _ _).block ≠ _; rw [add_block]) | dsimp only | skip); exact Nat.ne_of_lt (Nat.lt_of_lt_of_le (by have := World.block_lt_of_cell? _ _ hw226_5; first | rwa [add_block] at this | exact this) GW231.out)) _).trans (((cell_far (p := ⟨gb231, _, none⟩) (by (first | rw [add_block] | (show (Addr.add _ _).block ≠ _; rw [add_block]) | dsimp only | skip); exact Nat.ne_of_lt (Nat.lt_of_lt_of_le (by have := World.block_lt_of_cell? _ _ hw226_5; first | rwa [add_block] at this | exact this) GW231.out)) _).trans (hHeld.2.2.2.2.2.2.2.2.2.2.2.1)))))))))))))), ((cell_far (p := ⟨gb231, _, none⟩) (by (first | rw [add_block] | (show (Addr.add _ _).block ≠ _; rw [add_block]) | dsimp only | skip); exact Nat.ne_of_lt (Nat.lt_of_lt_of_le (by have := World.block_lt_of_cell? _ _ hw227_0; first | rwa [add_block] at this | exact this) GW231.out)) _).trans (((cell_far (p := ⟨gb231, _, none⟩) (by (first | rw [add_block] | (show (Addr.add _ _).block ≠ _; rw [add_block]) | dsimp only | skip); exact Nat.ne_of_lt (Nat.lt_of_lt_of_le (by have := World.block_lt_of_cell? _ _ hw227_0; first | rwa [add_block] at this | exact this) GW231.out)) _).trans (((cell_far (p := ⟨gb231, _, none⟩) (by (first | rw [add_block] | (show (Addr.add _ _).block ≠ _; rw [add_block]) | dsimp only | skip); exact Nat.ne_of_lt (Nat.lt_of_lt_of_le (by have := World.block_lt_of_cell? _ _ hw227_0; first | rwa [add_block] at this | exact this) GW231.out)) _).trans (((cell_far (p := ⟨gb231, _, none⟩) (by (first | rw [add_block] | (show (Addr.add _ _).block ≠ _; rw [add_block]) | dsimp only | skip); exact Nat.ne_of_lt (Nat.lt_of_lt_of_le (by have := World.block_lt_of_cell? _ _ hw227_0; first | rwa [add_block] at this | exact this) GW231.out)) _).trans (((cell_far (p := ⟨gb231, _, none⟩) (by (first | rw [add_block] | (show (Addr.add _ _).block ≠ _; rw [add_block]) | dsimp only | skip); exact Nat.ne_of_lt (Nat.lt_of_lt_of_le (by have := World.block_lt_of_cell? _ _ hw227_0; first | rwa [add_block] at this | exact this) GW231.out)) _).trans (((cell_far (p := ⟨gb231, _, none⟩) (by (first | rw [add_block] | (show (Addr.add _ _).block ≠ _; rw [add_block]) | dsimp only | skip); exact Nat.ne_of_lt (Nat.lt_of_lt_of_le (by have := World.block_lt_of_cell? _ _ hw227_0; first | rwa [add_block] at this | exact this) GW231.out)) _).trans (((cell_far (p := ⟨gb231, _, none⟩) (by (first | rw [add_block] | (show (Addr.add _ _).block ≠ _; rw [add_block]) | dsimp only | skip); exact Nat.ne_of_lt (Nat.lt_of_lt_of_le (by have := World.block_lt_of_cell? _ _ hw227_0; first | rwa [add_block] at this | exact this) GW231.out)) _).trans (hHeld.2.2.2.2.2.2.2.2.2.2.2.2.1)))))))))))))), ((cell_far (p := ⟨gb231, _, none⟩) (by (first | rw [add_block] | (show (Addr.add _ _).block ≠ _; rw [add_block]) | dsimp only | skip); exact Nat.ne_of_lt (Nat.lt_of_lt_of_le (by have := World.block_lt_of_cell? _ _ hw227_1; first | rwa [add_block] at this | exact this) GW231.out)) _).trans (((cell_far (p := ⟨gb231, _, none⟩) (by (first | rw [add_block] | (show (Addr.add _ _).block ≠ _; rw [add_block]) | dsimp only | skip); exact Nat.ne_of_lt (Nat.lt_of_lt_of_le (by have := World.block_lt_of_cell? _ _ hw227_1; first | rwa [add_block] at this | exact this) GW231.out)) _).trans (((cell_far (p := ⟨gb231, _, none⟩) (by (first | rw [add_block] | (show (Addr.add _ _).block ≠ _; rw [add_block]) | dsimp only | skip); exact Nat.ne_of_lt (Nat.lt_of_lt_of_le (by have := World.block_lt_of_cell? _ _ hw227_1; first | rwa [add_block] at this | exact this) GW231.out)) _).trans (((cell_far (p := ⟨gb231, _, none⟩) (by (first | rw [add_block] | (show (Addr.add _ _).block ≠ _; rw [add_block]) | dsimp only | skip); exact Nat.ne_of_lt (Nat.lt_of_lt_of_le (by have := World.block_lt_of_cell? _ _ hw227_1; first | rwa [add_block] at this | exact this) GW231.out)) _).trans (((cell_far (p := ⟨gb231, _, none⟩) (by (first | rw [add_block] | (show (Addr.add _ _).block ≠ _; rw [add_block]) | dsimp only | skip); exact Nat.ne_of_lt (Nat.lt_of_lt_of_le (by have := World.block_lt_of_cell? _ _ hw227_1; first | rwa [add_block] at this | exact this) GW231.out)) _).trans (((cell_far (p := ⟨gb231, _, none⟩) (by (first | rw [add_block] | (show (Addr.add _ _).block ≠ _; rw [add_block]) | dsimp only | skip); exact Nat.ne_of_lt (Nat.lt_of_lt_of_le (by have := World.block_lt_of_cell? _ _ hw227_1; first | rwa [add_block] at this | exact this) GW231.out)) _).trans (((cell_far (p := ⟨gb231, _, none⟩) (by (first | rw [add_block] | (show (Addr.add _ _).block ≠ _; rw [add_block]) | dsimp only | skip); exact Nat.ne_of_lt (Nat.lt_of_lt_of_le (by have := World.block_lt_of_cell? _ _ hw227_1; first | rwa [add_block] at this | exact this) GW231.out)) _).trans (hHeld.2.2.2.2.2.2.2.2.2.2.2.2.2.1)))))))))))))), ((cell_far (p := ⟨gb231, _, none⟩) (by (first | rw [add_block] | (show (Addr.add _ _).block ≠ _; rw [add_block]) | dsimp only | skip); exact Nat.ne_of_lt (Nat.lt_of_lt_of_le (by have := World.block_lt_of_cell? _ _ hw227_2; first | rwa [add_block] at this | exact this) GW231.out)) _).trans (((cell_far (p := ⟨gb231, _, none⟩) (by (first | rw [add_block] | (show (Addr.add _ _).block ≠ _; rw [add_block]) | dsimp only | skip); exact Nat.ne_of_lt (Nat.lt_of_lt_of_le (by have := World.block_lt_of_cell? _ _ hw227_2; first | rwa [add_block] at this | exact this) GW231.out)) _).trans (((cell_far (p := ⟨gb231, _, none⟩) (by (first | rw [add_block] | (show (Addr.add _ _).block ≠ _; rw [add_block]) | dsimp only | skip); exact Nat.ne_of_lt (Nat.lt_of_lt_of_le (by have := World.block_lt_of_cell? _ _ hw227_2; first | rwa [add_block] at this | exact this) GW231.out)) _).trans (((cell_far (p := ⟨gb231, _, none⟩) (by (first | rw [add_block] | (show (Addr.add _ _).block ≠ _; rw [add_block]) | dsimp only | skip); exact Nat.ne_of_lt (Nat.lt_of_lt_of_le (by have := World.block_lt_of_cell? _ _ hw227_2; first | rwa [add_block] at this | exact this) GW231.out)) _).trans (((cell_far (p := ⟨gb231, _, none⟩) (by (first | rw [add_block] | (show (Addr.add _ _).block ≠ _; rw [add_block]) | dsimp only | skip); exact Nat.ne_of_lt (Nat.lt_of_lt_of_le (by have := World.block_lt_of_cell? _ _ hw227_2; first | rwa [add_block] at this | exact this) GW231.out)) _).trans (((cell_far (p := ⟨gb231, _, none⟩) (by (first | rw [add_block] | (show (Addr.add _ _).block ≠ _; rw [add_block]) | dsimp only | skip); exact Nat.ne_of_lt (Nat.lt_of_lt_of_le (by have := World.block_lt_of_cell? _ _ hw227_2; first | rwa [add_block] at this | exact this) GW231.out)) _).trans (((cell_far (p := ⟨gb231, _, none⟩) (by (first | rw [add_block] | (show (Addr.add _ _).block ≠ _; rw [add_block]) | dsimp only | skip); exact Nat.ne_of_lt (Nat.lt_of_lt_of_le (by have := World.block_lt_of_cell? _ _ hw227_2; first | rwa [add_block] at this | exact this) GW231.out)) _).trans (hHeld.2.2.2.2.2.2.2.2.2.2.2.2.2.2.1)))))))))))))), ((cell_far (p := ⟨gb231, _, none⟩) (by (first | rw [add_block] | (show (Addr.add _ _).block ≠ _; rw [add_block]) | dsimp only | skip); exact Nat.ne_of_lt (Nat.lt_of_lt_of_le (by have := World.block_lt_of_cell? _ _ hw227_3; first | rwa [add_block] at this | exact this) GW231.out)) _).trans (((cell_far (p := ⟨gb231, _, none⟩) (by (first | rw [add_block] | (show (Addr.add _ _).block ≠ _; rw [add_block]) | dsimp only | skip); exact Nat.ne_of_lt (Nat.lt_of_lt_of_le (by have := World.block_lt_of_cell? _ _ hw227_3; first | rwa [add_block] at this | exact this) GW231.out)) _).trans (((cell_far (p := ⟨gb231, _, none⟩) (by (first | rw [add_block] | (show (Addr.add _ _).block ≠ _; rw [add_block]) | dsimp only | skip); exact Nat.ne_of_lt (Nat.lt_of_lt_of_le (by have := World.block_lt_of_cell? _ _ hw227_3; first | rwa [add_block] at this | exact this) GW231.out)) _).trans (((cell_far (p := ⟨gb231, _, none⟩) (by (first | rw [add_block] | (show (Addr.add _ _).block ≠ _; rw [add_block]) | dsimp only | skip); exact Nat.ne_of_lt (Nat.lt_of_lt_of_le (by have := World.block_lt_of_cell? _ _ hw227_3; first | rwa [add_block] at this | exact this) GW231.out)) _).trans (((cell_far (p := ⟨gb231, _, none⟩) (by (first | rw [add_block] | (show (Addr.add _ _).block ≠ _; rw [add_block]) | dsimp only | skip); exact Nat.ne_of_lt (Nat.lt_of_lt_of_le (by have := World.block_lt_of_cell? _ _ hw227_3; first | rwa [add_block] at this | exact this) GW231.out)) _).trans (((cell_far (p := ⟨gb231, _, none⟩) (by (first | rw [add_block] | (show (Addr.add _ _).block ≠ _; rw [add_block]) | dsimp only | skip); exact Nat.ne_of_lt (Nat.lt_of_lt_of_le (by have := World.block_lt_of_cell? _ _ hw227_3; first | rwa [add_block] at this | exact this) GW231.out)) _).trans (((cell_far (p := ⟨gb231, _, none⟩) (by (first | rw [add_block] | (show (Addr.add _ _).block ≠ _; rw [add_block]) | dsimp only | skip); exact Nat.ne_of_lt (Nat.lt_of_lt_of_le (by have := World.block_lt_of_cell? _ _ hw227_3; first | rwa [add_block] at this | exact this) GW231.out)) _).trans (hHeld.2.2.2.2.2.2.2.2.2.2.2.2.2.2.2.1)))))))))))))), ((cell_far (p := ⟨gb231, _, none⟩) (by (first | rw [add_block] | (show (Addr.add _ _).block ≠ _; rw [add_block]) | dsimp only | skip); exact Nat.ne_of_lt (Nat.lt_of_lt_of_le (by have := World.block_lt_of_cell? _ _ hw227_4; first | rwa [add_block] at this | exact this) GW231.out)) _).trans (((cell_far (p := ⟨gb231, _, none⟩) (by (first | rw [add_block] | (show (Addr.add _ _).block ≠ _; rw [add_block]) | dsimp only | skip); exact Nat.ne_of_lt (Nat.lt_of_lt_of_le (by have := World.block_lt_of_cell? _ _ hw227_4; first | rwa [add_block] at this | exact this) GW231.out)) _).trans (((cell_far (p := ⟨gb231, _, none⟩) (by (first | rw [add_block] | (show (Addr.add _ _).block ≠ _; rw [add_block]) | dsimp only | skip); exact Nat.ne_of_lt (Nat.lt_of_lt_of_le (by have := World.block_lt_of_cell? _ _ hw227_4; first | rwa [add_block] at this | exact this) GW231.out)) _).trans (((cell_far (p := ⟨gb231, _, none⟩) (by (first | rw [add_block] | (show (Addr.add _ _).block ≠ _; rw [add_block]) | dsimp only | skip); exact Nat.ne_of_lt (Nat.lt_of_lt_of_le (by have := World.block_lt_of_cell? _ _ hw227_4; first | rwa [add_block] at this | exact this) GW231.out)) _).trans (((cell_far (p := ⟨gb231, _, none⟩) (by (first | rw [add_block] | (show (Addr.add _ _).block ≠ _; rw [add_block]) | dsimp only | skip); exact Nat.ne_of_lt (Nat.lt_of_lt_of_le (by have := World.block_lt_of_cell? _ _ hw227_4; first | rwa [add_block] at this | exact this) GW231.out)) _).trans (((cell_far (p := ⟨gb231, _, none⟩) (by (first | rw [add_block] | (show (Addr.add _ _).block ≠ _; rw [add_block]) | dsimp only | skip); exact Nat.ne_of_lt (Nat.lt_of_lt_of_le (by have := World.block_lt_of_cell? _ _ hw227_4; first | rwa [add_block] at this | exact this) GW231.out)) _).trans (((cell_far (p := ⟨gb231, _, none⟩) (by (first | rw [add_block] | (show (Addr.add _ _).block ≠ _; rw [add_block]) | dsimp only | skip); exact Nat.ne_of_lt (Nat.lt_of_lt_of_le (by have := World.block_lt_of_cell? _ _ hw227_4; first | rwa [add_block] at this | exact this) GW231.out)) _).trans (hHeld.2.2.2.2.2.2.2.2.2.2.2.2.2.2.2.2.1)))))))))))))), ((cell_far (p := ⟨gb231, _, none⟩) (by (first | rw [add_block] | (show (Addr.add _ _).block ≠ _; rw [add_block]) | dsimp only | skip); exact Nat.ne_of_lt (Nat.lt_of_lt_of_le (by have := World.block_lt_of_cell? _ _ hw227_5; first | rwa [add_block] at this | exact this) GW231.out)) _).trans (((cell_far (p := ⟨gb231, _, none⟩) (by (first | rw [add_block] | (show (Addr.add _ _).block ≠ _; rw [add_block]) | dsimp only | skip); exact Nat.ne_of_lt (Nat.lt_of_lt_of_le (by have := World.block_lt_of_cell? _ _ hw227_5; first | rwa [add_block] at this | exact this) GW231.out)) _).trans (((cell_far (p := ⟨gb231, _, none⟩) (by (first | rw [add_block] | (show (Addr.add _ _).block ≠ _; rw [add_block]) | dsimp only | skip); exact Nat.ne_of_lt (Nat.lt_of_lt_of_le (by have := World.block_lt_of_cell? _ _ hw227_5; first | rwa [add_block] at this | exact this) GW231.out)) _).trans (((cell_far (p := ⟨gb231, _, none⟩) (by (first | rw [add_block] | (show (Addr.add _ _).block ≠ _; rw [add_block]) | dsimp only | skip); exact Nat.ne_of_lt (Nat.lt_of_lt_of_le (by have := World.block_lt_of_cell? _ _ hw227_5; first | rwa [add_block] at this | exact this) GW231.out)) _).trans (((cell_far (p := ⟨gb231, _, none⟩) (by (first | rw [add_block] | (show (Addr.add _ _).block ≠ _; rw [add_block]) | dsimp only | skip); exact Nat.ne_of_lt (Nat.lt_of_lt_of_le (by have := World.block_lt_of_cell? _ _ hw227_5; first | rwa [add_block] at this | exact this) GW231.out)) _).trans (((cell_far (p := ⟨gb231, _, none⟩) (by (first | rw [add_block] | (show (Addr.add _ _).block ≠ _; rw [add_block]) | dsimp only | skip); exact Nat.ne_of_lt (Nat.lt_of_lt_of_le (by have := World.block_lt_of_cell? _ _ hw227_5; first | rwa [add_block] at this | exact this) GW231.out)) _).trans (((cell_far (p := ⟨gb231, _, none⟩) (by (first | rw [add_block] | (show (Addr.add _ _).block ≠ _; rw [add_block]) | dsimp only | skip); exact Nat.ne_of_lt (Nat.lt_of_lt_of_le (by have := World.block_lt_of_cell? _ _ hw227_5; first | rwa [add_block] at this | exact this) GW231.out)) _).trans (hHeld.2.2.2.2.2.2.2.2.2.2.2.2.2.2.2.2.2.1)))))))))))))), ((cell_far (p := ⟨gb231, _, none⟩) (by (first | rw [add_block] | (show (Addr.add _ _).block ≠ _; rw [add_block]) | dsimp only | skip); exact Nat.ne_of_lt (Nat.lt_of_lt_of_le (by have := World.block_lt_of_cell? _ _ hw228_0; first | rwa [add_block] at this | exact this) GW231.out)) _).trans (((cell_far (p := ⟨gb231, _, none⟩) (by (first | rw [add_block] | (show (Addr.add _ _).block ≠ _; rw [add_block]) | dsimp only | skip); exact Nat.ne_of_lt (Nat.lt_of_lt_of_le (by have := World.block_lt_of_cell? _ _ hw228_0; first | rwa [add_block] at this | exact this) GW231.out)) _).trans (((cell_far (p := ⟨gb231, _, none⟩) (by (first | rw [add_block] | (show (Addr.add _ _).block ≠ _; rw [add_block]) | dsimp only | skip); exact Nat.ne_of_lt (Nat.lt_of_lt_of_le (by have := World.block_lt_of_cell? _ _ hw228_0; first | rwa [add_block] at this | exact this) GW231.out)) _).trans (((cell_far (p := ⟨gb231, _, none⟩) (by (first | rw [add_block] | (show (Addr.add _ _).block ≠ _; rw [add_block]) | dsimp only | skip); exact Nat.ne_of_lt (Nat.lt_of_lt_of_le (by have := World.block_lt_of_cell? _ _ hw228_0; first | rwa [add_block] at this | exact this) GW231.out)) _).trans (((cell_far (p := ⟨gb231, _, none⟩) (by (first | rw [add_block] | (show (Addr.add _ _).block ≠ _; rw [add_block]) | dsimp only | skip); exact Nat.ne_of_lt (Nat.lt_of_lt_of_le (by have := World.block_lt_of_cell? _ _ hw228_0; first | rwa [add_block] at this | exact this) GW231.out)) _).trans (((cell_far (p := ⟨gb231, _, none⟩) (by (first | rw [add_block] | (show (Addr.add _ _).block ≠ _; rw [add_block]) | dsimp only | skip); exact Nat.ne_of_lt (Nat.lt_of_lt_of_le (by have := World.block_lt_of_cell? _ _ hw228_0; first | rwa [add_block] at this | exact this) GW231.out)) _).trans (((cell_far (p := ⟨gb231, _, none⟩) (by (first | rw [add_block] | (show (Addr.add _ _).block ≠ _; rw [add_block]) | dsimp only | skip); exact Nat.ne_of_lt (Nat.lt_of_lt_of_le (by have := World.block_lt_of_cell? _ _ hw228_0; first | rwa [add_block] at this | exact this) GW231.out)) _).trans (hHeld.2.2.2.2.2.2.2.2.2.2.2.2.2.2.2.2.2.2.1)))))))))))))), ((cell_far (p := ⟨gb231, _, none⟩) (by (first | rw [add_block] | (show (Addr.add _ _).block ≠ _; rw [add_block]) | dsimp only | skip); exact Nat.ne_of_lt (Nat.lt_of_lt_of_le (by have := World.block_lt_of_cell? _ _ hw228_1; first | rwa [add_block] at this | exact this) GW231.out)) _).trans (((cell_far (p := ⟨gb231, _, none⟩) (by (first | rw [add_block] | (show (Addr.add _ _).block ≠ _; rw [add_block]) | dsimp only | skip); exact Nat.ne_of_lt (Nat.lt_of_lt_of_le (by have := World.block_lt_of_cell? _ _ hw228_1; first | rwa [add_block] at this | exact this) GW231.out)) _).trans (((cell_far (p := ⟨gb231, _, none⟩) (by (first | rw [add_block] | (show (Addr.add _ _).block ≠ _; rw [add_block]) | dsimp only | skip); exact Nat.ne_of_lt (Nat.lt_of_lt_of_le (by have := World.block_lt_of_cell? _ _ hw228_1; first | rwa [add_block] at this | exact this) GW231.out)) _).trans (((cell_far (p := ⟨gb231, _, none⟩) (by (first | rw [add_block] | (show (Addr.add _ _).block ≠ _; rw [add_block]) | dsimp only | skip); exact Nat.ne_of_lt (Nat.lt_of_lt_of_le (by have := World.block_lt_of_cell? _ _ hw228_1; first | rwa [add_block] at this | exact this) GW231.out)) _).trans (((cell_far (p := ⟨gb231, _, none⟩) (by (first | rw [add_block] | (show (Addr.add _ _).block ≠ _; rw [add_block]) | dsimp only | skip); exact Nat.ne_of_lt (Nat.lt_of_lt_of_le (by have := World.block_lt_of_cell? _ _ hw228_1; first | rwa [add_block] at this | exact this) GW231.out)) _).trans (((cell_far (p := ⟨gb231, _, none⟩) (by (first | rw [add_block] | (show (Addr.add _ _).block ≠ _; rw [add_block]) | dsimp only | skip); exact Nat.ne_of_lt (Nat.lt_of_lt_of_le (by have := World.block_lt_of_cell? _ _ hw228_1; first | rwa [add_block] at this | exact this) GW231.out)) _).trans (((cell_far (p := ⟨gb231, _, none⟩) (by (first | rw [add_block] | (show (Addr.add _ _).block ≠ _; rw [add_block]) | dsimp only | skip); exact Nat.ne_of_lt (Nat.lt_of_lt_of_le (by have := World.block_lt_of_cell? _ _ hw228_1; first | rwa [add_block] at this | exact this) GW231.out)) _).trans (hHeld.2.2.2.2.2.2.2.2.2.2.2.2.2.2.2.2.2.2.2.1)))))))))))))), ((cell_far (p := ⟨gb231, _, none⟩) (by (first | rw [add_block] | (show (Addr.add _ _).block ≠ _; rw [add_block]) | dsimp only | skip); exact Nat.ne_of_lt (Nat.lt_of_lt_of_le (by have := World.block_lt_of_cell? _ _ hw228_2; first | rwa [add_block] at this | exact this) GW231.out)) _).trans (((cell_far (p := ⟨gb231, _, none⟩) (by (first | rw [add_block] | (show (Addr.add _ _).block ≠ _; rw [add_block]) | dsimp only | skip); exact Nat.ne_of_lt (Nat.lt_of_lt_of_le (by have := World.block_lt_of_cell? _ _ hw228_2; first | rwa [add_block] at this | exact this) GW231.out)) _).trans (((cell_far (p := ⟨gb231, _, none⟩) (by (first | rw [add_block] | (show (Addr.add _ _).block ≠ _; rw [add_block]) | dsimp only | skip); exact Nat.ne_of_lt (Nat.lt_of_lt_of_le (by have := World.block_lt_of_cell? _ _ hw228_2; first | rwa [add_block] at this | exact this) GW231.out)) _).trans (((cell_far (p := ⟨gb231, _, none⟩) (by (first | rw [add_block] | (show (Addr.add _ _).block ≠ _; rw [add_block]) | dsimp only | skip); exact Nat.ne_of_lt (Nat.lt_of_lt_of_le (by have := World.block_lt_of_cell? _ _ hw228_2; first | rwa [add_block] at this | exact this) GW231.out)) _).trans (((cell_far (p := ⟨gb231, _, none⟩) (by (first | rw [add_block] | (show (Addr.add _ _).block ≠ _; rw [add_block]) | dsimp only | skip); exact Nat.ne_of_lt (Nat.lt_of_lt_of_le (by have := World.block_lt_of_cell? _ _ hw228_2; first | rwa [add_block] at this | exact this) GW231.out)) _).trans (((cell_far (p := ⟨gb231, _, none⟩) (by (first | rw [add_block] | (show (Addr.add _ _).block ≠ _; rw [add_block]) | dsimp only | skip); exact Nat.ne_of_lt (Nat.lt_of_lt_of_le (by have := World.block_lt_of_cell? _ _ hw228_2; first | rwa [add_block] at this | exact this) GW231.out)) _).trans (((cell_far (p := ⟨gb231, _, none⟩) (by (first | rw [add_block] | (show (Addr.add _ _).block ≠ _; rw [add_block]) | dsimp only | skip); exact Nat.ne_of_lt (Nat.lt_of_lt_of_le (by have := World.block_lt_of_cell? _ _ hw228_2; first | rwa [add_block] at this | exact this) GW231.out)) _).trans (hHeld.2.2.2.2.2.2.2.2.2.2.2.2.2.2.2.2.2.2.2.2.1)))))))))))))), ((cell_far (p := ⟨gb231, _, none⟩) (by (first | rw [add_block] | (show (Addr.add _ _).block ≠ _; rw [add_block]) | dsimp only | skip); exact Nat.ne_of_lt (Nat.lt_of_lt_of_le (by have := World.block_lt_of_cell? _ _ hw228_3; first | rwa [add_block] at this | exact this) GW231.out)) _).trans (((cell_far (p := ⟨gb231, _, none⟩) (by (first | rw [add_block] | (show (Addr.add _ _).block ≠ _; rw [add_block]) | dsimp only | skip); exact Nat.ne_of_lt (Nat.lt_of_lt_of_le (by have := World.block_lt_of_cell? _ _ hw228_3; first | rwa [add_block] at this | exact this) GW231.out)) _).trans (((cell_far (p := ⟨gb231, _, none⟩) (by (first | rw [add_block] | (show (Addr.add _ _).block ≠ _; rw [add_block]) | dsimp only | skip); exact Nat.ne_of_lt (Nat.lt_of_lt_of_le (by have := World.block_lt_of_cell? _ _ hw228_3; first | rwa [add_block] at this | exact this) GW231.out)) _).trans (((cell_far (p := ⟨gb231, _, none⟩) (by (first | rw [add_block] | (show (Addr.add _ _).block ≠ _; rw [add_block]) | dsimp only | skip); exact Nat.ne_of_lt (Nat.lt_of_lt_of_le (by have := World.block_lt_of_cell? _ _ hw228_3; first | rwa [add_block] at this | exact this) GW231.out)) _).trans (((cell_far (p := ⟨gb231, _, none⟩) (by (first | rw [add_block] | (show (Addr.add _ _).block ≠ _; rw [add_block]) | dsimp only | skip); exact Nat.ne_of_lt (Nat.lt_of_lt_of_le (by have := World.block_lt_of_cell? _ _ hw228_3; first | rwa [add_block] at this | exact this) GW231.out)) _).trans (((cell_far (p := ⟨gb231, _, none⟩) (by (first | rw [add_block] | (show (Addr.add _ _).block ≠ _; rw [add_block]) | dsimp only | skip); exact Nat.ne_of_lt (Nat.lt_of_lt_of_le (by have := World.block_lt_of_cell? _ _ hw228_3; first | rwa [add_block] at this | exact this) GW231.out)) _).trans (((cell_far (p := ⟨gb231, _, none⟩) (by (first | rw [add_block] | (show (Addr.add _ _).block ≠ _; rw [add_block]) | dsimp only | skip); exact Nat.ne_of_lt (Nat.lt_of_lt_of_le (by have := World.block_lt_of_cell? _ _ hw228_3; first | rwa [add_block] at this | exact this) GW231.out)) _).trans (hHeld.2.2.2.2.2.2.2.2.2.2.2.2.2.2.2.2.2.2.2.2.2.1)))))))))))))), ((cell_far (p := ⟨gb231, _, none⟩) (by (first | rw [add_block] | (show (Addr.add _ _).block ≠ _; rw [add_block]) | dsimp only | skip); exact Nat.ne_of_lt (Nat.lt_of_lt_of_le (by have := World.block_lt_of_cell? _ _ hw228_4; first | rwa [add_block] at this | exact this) GW231.out)) _).trans (((cell_far (p := ⟨gb231, _, none⟩) (by (first | rw [add_block] | (show (Addr.add _ _).block ≠ _; rw [add_block]) | dsimp only | skip); exact Nat.ne_of_lt (Nat.lt_of_lt_of_le (by have := World.block_lt_of_cell? _ _ hw228_4; first | rwa [add_block] at this | exact this) GW231.out)) _).trans (((cell_far (p := ⟨gb231, _, none⟩) (by (first | rw [add_block] | (show (Addr.add _ _).block ≠ _; rw [add_block]) | dsimp only | skip); exact Nat.ne_of_lt (Nat.lt_of_lt_of_le (by have := World.block_lt_of_cell? _ _ hw228_4; first | rwa [add_block] at this | exact this) GW231.out)) _).trans (((cell_far (p := ⟨gb231, _, none⟩) (by (first | rw [add_block] | (show (Addr.add _ _).block ≠ _; rw [add_block]) | dsimp only | skip); exact Nat.ne_of_lt (Nat.lt_of_lt_of_le (by have := World.block_lt_of_cell? _ _ hw228_4; first | rwa [add_block] at this | exact this) GW231.out)) _).trans (((cell_far (p := ⟨gb231, _, none⟩) (by (first | rw [add_block] | (show (Addr.add _ _).block ≠ _; rw [add_block]) | dsimp only | skip); exact Nat.ne_of_lt (Nat.lt_of_lt_of_le (by have := World.block_lt_of_cell? _ _ hw228_4; first | rwa [add_block] at this | exact this) GW231.out)) _).trans (((cell_far (p := ⟨gb231, _, none⟩) (by (first | rw [add_block] | (show (Addr.add _ _).block ≠ _; rw [add_block]) | dsimp only | skip); exact Nat.ne_of_lt (Nat.lt_of_lt_of_le (by have := World.block_lt_of_cell? _ _ hw228_4; first | rwa [add_block] at this | exact this) GW231.out)) _).trans (((cell_far (p := ⟨gb231, _, none⟩) (by (first | rw [add_block] | (show (Addr.add _ _).block ≠ _; rw [add_block]) | dsimp only | skip); exact Nat.ne_of_lt (Nat.lt_of_lt_of_le (by have := World.block_lt_of_cell? _ _ hw228_4; first | rwa [add_block] at this | exact this) GW231.out)) _).trans (hHeld.2.2.2.2.2.2.2.2.2.2.2.2.2.2.2.2.2.2.2.2.2.2.1)))))))))))))), ((cell_far (p := ⟨gb231, _, none⟩) (by (first | rw [add_block] | (show (Addr.add _ _).block ≠ _; rw [add_block]) | dsimp only | skip); exact Nat.ne_of_lt (Nat.lt_of_lt_of_le (by have := World.block_lt_of_cell? _ _ hw228_5; first | rwa [add_block] at this | exact this) GW231.out)) _).trans (((cell_far (p := ⟨gb231, _, none⟩) (by (first | rw [add_block] | (show (Addr.add _ _).block ≠ _; rw [add_block]) | dsimp only | skip); exact Nat.ne_of_lt (Nat.lt_of_lt_of_le (by have := World.block_lt_of_cell? _ _ hw228_5; first | rwa [add_block] at this | exact this) GW231.out)) _).trans (((cell_far (p := ⟨gb231, _, none⟩) (by (first | rw [add_block] | (show (Addr.add _ _).block ≠ _; rw [add_block]) | dsimp only | skip); exact Nat.ne_of_lt (Nat.lt_of_lt_of_le (by have := World.block_lt_of_cell? _ _ hw228_5; first | rwa [add_block] at this | exact this) GW231.out)) _).trans (((cell_far (p := ⟨gb231, _, none⟩) (by (first | rw [add_block] | (show (Addr.add _ _).block ≠ _; rw [add_block]) | dsimp only | skip); exact Nat.ne_of_lt (Nat.lt_of_lt_of_le (by have := World.block_lt_of_cell? _ _ hw228_5; first | rwa [add_block] at this | exact this) GW231.out)) _).trans (((cell_far (p := ⟨gb231, _, none⟩) (by (first | rw [add_block] | (show (Addr.add _ _).block ≠ _; rw [add_block]) | dsimp only | skip); exact Nat.ne_of_lt (Nat.lt_of_lt_of_le (by have := World.block_lt_of_cell? _ _ hw228_5; first | rwa [add_block] at this | exact this) GW231.out)) _).trans (((cell_far (p := ⟨gb231, _, none⟩) (by (first | rw [add_block] | (show (Addr.add _ _).block ≠ _; rw [add_block]) | dsimp only | skip); exact Nat.ne_of_lt (Nat.lt_of_lt_of_le (by have := World.block_lt_of_cell? _ _ hw228_5; first | rwa [add_block] at this | exact this) GW231.out)) _).trans (((cell_far (p := ⟨gb231, _, none⟩) (by (first | rw [add_block] | (show (Addr.add _ _).block ≠ _; rw [add_block]) | dsimp only | skip); exact Nat.ne_of_lt (Nat.lt_of_lt_of_le (by have := World.block_lt_of_cell? _ _ hw228_5; first | rwa [add_block] at this | exact this) GW231.out)) _).trans (hHeld.2.2.2.2.2.2.2.2.2.2.2.2.2.2.2.2.2.2.2.2.2.2.2.1)))))))))))))), ((cell_far (p := ⟨gb231, _, none⟩) (by (first | rw [add_block] | (show (Addr.add _ _).block ≠ _; rw [add_block]) | dsimp only | skip); exact Nat.ne_of_lt (Nat.lt_of_lt_of_le (by have := World.block_lt_of_cell? _ _ hw229_0; first | rwa [add_block] at this | exact this) GW231.out)) _).trans (((cell_far (p := ⟨gb231, _, none⟩) (by (first | rw [add_block] | (show (Addr.add _ _).block ≠ _; rw [add_block]) | dsimp only | skip); exact Nat.ne_of_lt (Nat.lt_of_lt_of_le (by have := World.block_lt_of_cell? _ _ hw229_0; first | rwa [add_block] at this | exact this) GW231.out)) _).trans (((cell_far (p := ⟨gb231, _, none⟩) (by (first | rw [add_block] | (show (Addr.add _ _).block ≠ _; rw [add_block]) | dsimp only | skip); exact Nat.ne_of_lt (Nat.lt_of_lt_of_le (by have := World.block_lt_of_cell? _ _ hw229_0; first | rwa [add_block] at this | exact this) GW231.out)) _).trans (((cell_far (p := ⟨gb231, _, none⟩) (by (first | rw [add_block] | (show (Addr.add _ _).block ≠ _; rw [add_block]) | dsimp only | skip); exact Nat.ne_of_lt (Nat.lt_of_lt_of_le (by have := World.block_lt_of_cell? _ _ hw229_0; first | rwa [add_block] at this | exact this) GW231.out)) _).trans (((cell_far (p := ⟨gb231, _, none⟩) (by (first | rw [add_block] | (show (Addr.add _ _).block ≠ _; rw [add_block]) | dsimp only | skip); exact Nat.ne_of_lt (Nat.lt_of_lt_of_le (by have := World.block_lt_of_cell? _ _ hw229_0; first | rwa [add_block] at this | exact this) GW231.out)) _).trans (((cell_far (p := ⟨gb231, _, none⟩) (by (first | rw [add_block] | (show (Addr.add _ _).block ≠ _; rw [add_block]) | dsimp only | skip); exact Nat.ne_of_lt (Nat.lt_of_lt_of_le (by have := World.block_lt_of_cell? _ _ hw229_0; first | rwa [add_block] at this | exact this) GW231.out)) _).trans (((cell_far (p := ⟨gb231, _, none⟩) (by (first | rw [add_block] | (show (Addr.add _ _).block ≠ _; rw [add_block]) | dsimp only | skip); exact Nat.ne_of_lt (Nat.lt_of_lt_of_le (by have := World.block_lt_of_cell? _ _ hw229_0; first | rwa [add_block] at this | exact this) GW231.out)) _).trans (hHeld.2.2.2.2.2.2.2.2.2.2.2.2.2.2.2.2.2.2.2.2.2.2.2.2.1)))))))))))))), ((cell_far (p := ⟨gb231, _, none⟩) (by (first | rw [add_block] | (show (Addr.add _ _).block ≠ _; rw [add_block]) | dsimp only | skip); exact Nat.ne_of_lt (Nat.lt_of_lt_of_le (by have := World.block_lt_of_cell? _ _ hw229_1; first | rwa [add_block] at this | exact this) GW231.out)) _).trans (((cell_far (p := ⟨gb231, _, none⟩) (by (first | rw [add_block] | (show (Addr.add _ _).block ≠ _; rw [add_block]) | dsimp only | skip); exact Nat.ne_of_lt (Nat.lt_of_lt_of_le (by have := World.block_lt_of_cell? _ _ hw229_1; first | rwa [add_block] at this | exact this) GW231.out)) _).trans (((cell_far (p := ⟨gb231, _, none⟩) (by (first | rw [add_block] | (show (Addr.add _ _).block ≠ _; rw [add_block]) | dsimp only | skip); exact Nat.ne_of_lt (Nat.lt_of_lt_of_le (by have := World.block_lt_of_cell? _ _ hw229_1; first | rwa [add_block] at this | exact this) GW231.out)) _).trans (((cell_far (p := ⟨gb231, _, none⟩) (by (first | rw [add_block] | (show (Addr.add _ _).block ≠ _; rw [add_block]) | dsimp only | skip); exact Nat.ne_of_lt (Nat.lt_of_lt_of_le (by have := World.block_lt_of_cell? _ _ hw229_1; first | rwa [add_block] at this | exact this) GW231.out)) _).trans (((cell_far (p := ⟨gb231, _, none⟩) (by (first | rw [add_block] | (show (Addr.add _ _).block ≠ _; rw [add_block]) | dsimp only | skip); exact Nat.ne_of_lt (Nat.lt_of_lt_of_le (by have := World.block_lt_of_cell? _ _ hw229_1; first | rwa [add_block] at this | exact this) GW231.out)) _).trans (((cell_far (p := ⟨gb231, _, none⟩) (by (first | rw [add_block] | (show (Addr.add _ _).block ≠ _; rw [add_block]) | dsimp only | skip); exact Nat.ne_of_lt (Nat.lt_of_lt_of_le (by have := World.block_lt_of_cell? _ _ hw229_1; first | rwa [add_block] at this | exact this) GW231.out)) _).trans (((cell_far (p := ⟨gb231, _, none⟩) (by (first | rw [add_block] | (show (Addr.add _ _).block ≠ _; rw [add_block]) | dsimp only | skip); exact Nat.ne_of_lt (Nat.lt_of_lt_of_le (by have := World.block_lt_of_cell? _ _ hw229_1; first | rwa [add_block] at this | exact this) GW231.out)) _).trans (hHeld.2.2.2.2.2.2.2.2.2.2.2.2.2.2.2.2.2.2.2.2.2.2.2.2.2.1)))))))))))))), ((cell_far (p := ⟨gb231, _, none⟩) (by (first | rw [add_block] | (show (Addr.add _ _).block ≠ _; rw [add_block]) | dsimp only | skip); exact Nat.ne_of_lt (Nat.lt_of_lt_of_le (by have := World.block_lt_of_cell? _ _ hw229_2; first | rwa [add_block] at this | exact this) GW231.out)) _).trans (((cell_far (p := ⟨gb231, _, none⟩) (by (first | rw [add_block] | (show (Addr.add _ _).block ≠ _; rw [add_block]) | dsimp only | skip); exact Nat.ne_of_lt (Nat.lt_of_lt_of_le (by have := World.block_lt_of_cell? _ _ hw229_2; first | rwa [add_block] at this | exact this) GW231.out)) _).trans (((cell_far (p := ⟨gb231, _, none⟩) (by (first | rw [add_block] | (show (Addr.add _ _).block ≠ _; rw [add_block]) | dsimp only | skip); exact Nat.ne_of_lt (Nat.lt_of_lt_of_le (by have := World.block_lt_of_cell? _ _ hw229_2; first | rwa [add_block] at this | exact this) GW231.out)) _).trans (((cell_far (p := ⟨gb231, _, none⟩) (by (first | rw [add_block] | (show (Addr.add _ _).block ≠ _; rw [add_block]) | dsimp only | skip); exact Nat.ne_of_lt (Nat.lt_of_lt_of_le (by have := World.block_lt_of_cell? _ _ hw229_2; first | rwa [add_block] at this | exact this) GW231.out)) _).trans (((cell_far (p := ⟨gb231, _, none⟩) (by (first | rw [add_block] | (show (Addr.add _ _).block ≠ _; rw [add_block]) | dsimp only | skip); exact Nat.ne_of_lt (Nat.lt_of_lt_of_le (by have := World.block_lt_of_cell? _ _ hw229_2; first | rwa [add_block] at this | exact this) GW231.out)) _).trans (((cell_far (p := ⟨gb231, _, none⟩) (by (first | rw [add_block] | (show (Addr.add _ _).block ≠ _; rw [add_block]) | dsimp only | skip); exact Nat.ne_of_lt (Nat.lt_of_lt_of_le (by have := World.block_lt_of_cell? _ _ hw229_2; first | rwa [add_block] at this | exact this) GW231.out)) _).trans (((cell_far (p := ⟨gb231, _, none⟩) (by (first | rw [add_block] | (show (Addr.add _ _).block ≠ _; rw [add_block]) | dsimp only | skip); exact Nat.ne_of_lt (Nat.lt_of_lt_of_le (by have := World.block_lt_of_cell? _ _ hw229_2; first | rwa [add_block] at this | exact this) GW231.out)) _).trans (hHeld.2.2.2.2.2.2.2.2.2.2.2.2.2.2.2.2.2.2.2.2.2.2.2.2.2.2.1)))))))))))))), ((cell_far (p := ⟨gb231, _, none⟩) (by (first | rw [add_block] | (show (Addr.add _ _).block ≠ _; rw [add_block]) | dsimp only | skip); exact Nat.ne_of_lt (Nat.lt_of_lt_of_le (by have := World.block_lt_of_cell? _ _ hw229_3; first | rwa [add_block] at this | exact this) GW231.out)) _).trans (((cell_far (p := ⟨gb231, _, none⟩) (by (first | rw [add_block] | (show (Addr.add _ _).block ≠ _; rw [add_block]) | dsimp only | skip); exact Nat.ne_of_lt (Nat.lt_of_lt_of_le (by have := World.block_lt_of_cell? _ _ hw229_3; first | rwa [add_block] at this | exact this) GW231.out)) _).trans (((cell_far (p := ⟨gb231, _, none⟩) (by (first | rw [add_block] | (show (Addr.add _ _).block ≠ _; rw [add_block]) | dsimp only | skip); exact Nat.ne_of_lt (Nat.lt_of_lt_of_le (by have := World.block_lt_of_cell? _ _ hw229_3; first | rwa [add_block] at this | exact this) GW231.out)) _).trans (((cell_far (p := ⟨gb231, _, none⟩) (by (first | rw [add_block] | (show (Addr.add _ _).block ≠ _; rw [add_block]) | dsimp only | skip); exact Nat.ne_of_lt (Nat.lt_of_lt_of_le (by have := World.block_lt_of_cell? _ _ hw229_3; first | rwa [add_block] at this | exact this) GW231.out)) _).trans (((cell_far (p := ⟨gb231, _, none⟩) (by (first | rw [add_block] | (show (Addr.add _ _).block ≠ _; rw [add_block]) | dsimp only | skip); exact Nat.ne_of_lt (Nat.lt_of_lt_of_le (by have := World.block_lt_of_cell? _ _ hw229_3; first | rwa [add_block] at this | exact this) GW231.out)) _).trans (((cell_far (p := ⟨gb231, _, none⟩) (by (first | rw [add_block] | (show (Addr.add _ _).block ≠ _; rw [add_block]) | dsimp only | skip); exact Nat.ne_of_lt (Nat.lt_of_lt_of_le (by have := World.block_lt_of_cell? _ _ hw229_3; first | rwa [add_block] at this | exact this) GW231.out)) _).trans (((cell_far (p := ⟨gb231, _, none⟩) (by (first | rw [add_block] | (show (Addr.add _ _).block ≠ _; rw [add_block]) | dsimp only | skip); exact Nat.ne_of_lt (Nat.lt_of_lt_of_le (by have := World.block_lt_of_cell? _ _ hw229_3; first | rwa [add_block] at this | exact this) GW231.out)) _).trans (hHeld.2.2.2.2.2.2.2.2.2.2.2.2.2.2.2.2.2.2.2.2.2.2.2.2.2.2.2.1)))))))))))))), ((cell_far (p := ⟨gb231, _, none⟩) (by (first | rw [add_block] | (show (Addr.add _ _).block ≠ _; rw [add_block]) | dsimp only | skip); exact Nat.ne_of_lt (Nat.lt_of_lt_of_le (by have := World.block_lt_of_cell? _ _ hw229_4; first | rwa [add_block] at this | exact this) GW231.out)) _).trans (((cell_far (p := ⟨gb231, _, none⟩) (by (first | rw [add_block] | (show (Addr.add _ _).block ≠ _; rw [add_block]) | dsimp only | skip); exact Nat.ne_of_lt (Nat.lt_of_lt_of_le (by have := World.block_lt_of_cell? _ _ hw229_4; first | rwa [add_block] at this | exact this) GW231.out)) _).trans (((cell_far (p := ⟨gb231, _, none⟩) (by (first | rw [add_block] | (show (Addr.add _ _).block ≠ _; rw [add_block]) | dsimp only | skip); exact Nat.ne_of_lt (Nat.lt_of_lt_of_le (by have := World.block_lt_of_cell? _ _ hw229_4; first | rwa [add_block] at this | exact this) GW231.out)) _).trans (((cell_far (p := ⟨gb231, _, none⟩) (by (first | rw [add_block] | (show (Addr.add _ _).block ≠ _; rw [add_block]) | dsimp only | skip); exact Nat.ne_of_lt (Nat.lt_of_lt_of_le (by have := World.block_lt_of_cell? _ _ hw229_4; first | rwa [add_block] at this | exact this) GW231.out)) _).trans (((cell_far (p := ⟨gb231, _, none⟩) (by (first | rw [add_block] | (show (Addr.add _ _).block ≠ _; rw [add_block]) | dsimp only | skip); exact Nat.ne_of_lt (Nat.lt_of_lt_of_le (by have := World.block_lt_of_cell? _ _ hw229_4; first | rwa [add_block] at this | exact this) GW231.out)) _).trans (((cell_far (p := ⟨gb231, _, none⟩) (by (first | rw [add_block] | (show (Addr.add _ _).block ≠ _; rw [add_block]) | dsimp only | skip); exact Nat.ne_of_lt (Nat.lt_of_lt_of_le (by have := World.block_lt_of_cell? _ _ hw229_4; first | rwa [add_block] at this | exact this) GW231.out)) _).trans (((cell_far (p := ⟨gb231, _, none⟩) (by (first | rw [add_block] | (show (Addr.add _ _).block ≠ _; rw [add_block]) | dsimp only | skip); exact Nat.ne_of_lt (Nat.lt_of_lt_of_le (by have := World.block_lt_of_cell? _ _ hw229_4; first | rwa [add_block] at this | exact this) GW231.out)) _).trans (hHeld.2.2.2.2.2.2.2.2.2.2.2.2.2.2.2.2.2.2.2.2.2.2.2.2.2.2.2.2.1)))))))))))))), ((cell_far (p := ⟨gb231, _, none⟩) (by (first | rw [add_block] | (show (Addr.add _ _).block ≠ _; rw [add_block]) | dsimp only | skip); exact Nat.ne_of_lt (Nat.lt_of_lt_of_le (by have := World.block_lt_of_cell? _ _ hw229_5; first | rwa [add_block] at this | exact this) GW231.out)) _).trans (((cell_far (p := ⟨gb231, _, none⟩) (by (first | rw [add_block] | (show (Addr.add _ _).block ≠ _; rw [add_block]) | dsimp only | skip); exact Nat.ne_of_lt (Nat.lt_of_lt_of_le (by have := World.block_lt_of_cell? _ _ hw229_5; first | rwa [add_block] at this | exact this) GW231.out)) _).trans (((cell_far (p := ⟨gb231, _, none⟩) (by (first | rw [add_block] | (show (Addr.add _ _).block ≠ _; rw [add_block]) | dsimp only | skip); exact Nat.ne_of_lt (Nat.lt_of_lt_of_le (by have := World.block_lt_of_cell? _ _ hw229_5; first | rwa [add_block] at this | exact this) GW231.out)) _).trans (((cell_far (p := ⟨gb231, _, none⟩) (by (first | rw [add_block] | (show (Addr.add _ _).block ≠ _; rw [add_block]) | dsimp only | skip); exact Nat.ne_of_lt (Nat.lt_of_lt_of_le (by have := World.block_lt_of_cell? _ _ hw229_5; first | rwa [add_block] at this | exact this) GW231.out)) _).trans (((cell_far (p := ⟨gb231, _, none⟩) (by (first | rw [add_block] | (show (Addr.add _ _).block ≠ _; rw [add_block]) | dsimp only | skip); exact Nat.ne_of_lt (Nat.lt_of_lt_of_le (by have := World.block_lt_of_cell? _ _ hw229_5; first | rwa [add_block] at this | exact this) GW231.out)) _).trans (((cell_far (p := ⟨gb231, _, none⟩) (by (first | rw [add_block] | (show (Addr.add _ _).block ≠ _; rw [add_block]) | dsimp only | skip); exact Nat.ne_of_lt (Nat.lt_of_lt_of_le (by have := World.block_lt_of_cell? _ _ hw229_5; first | rwa [add_block] at this | exact this) GW231.out)) _).trans (((cell_far (p := ⟨gb231, _, none⟩) (by (first | rw [add_block] | (show (Addr.add _ _).block ≠ _; rw [add_block]) | dsimp only | skip); exact Nat.ne_of_lt (Nat.lt_of_lt_of_le (by have := World.block_lt_of_cell? _ _ hw229_5; first | rwa [add_block] at this | exact this) GW231.out)) _).trans (hHeld.2.2.2.2.2.2.2.2.2.2.2.2.2.2.2.2.2.2.2.2.2.2.2.2.2.2.2.2.2.1)))))))))))))), ((cell_far (p := ⟨gb231, _, none⟩) (by (first | rw [add_block] | (show (Addr.add _ _).block ≠ _; rw [add_block]) | dsimp only | skip); exact Nat.ne_of_lt (Nat.lt_of_lt_of_le (by have := World.block_lt_of_cell? _ _ hw230_0; first | rwa [add_block] at this | exact this) GW231.out)) _).trans (((cell_far (p := ⟨gb231, _, none⟩) (by (first | rw [add_block] | (show (Addr.add _ _).block ≠ _; rw [add_block]) | dsimp only | skip); exact Nat.ne_of_lt (Nat.lt_of_lt_of_le (by have := World.block_lt_of_cell? _ _ hw230_0; first | rwa [add_block] at this | exact this) GW231.out)) _).trans (((cell_far (p := ⟨gb231, _, none⟩) (by (first | rw [add_block] | (show (Addr.add _ _).block ≠ _; rw [add_block]) | dsimp only | skip); exact Nat.ne_of_lt (Nat.lt_of_lt_of_le (by have := World.block_lt_of_cell? _ _ hw230_0; first | rwa [add_block] at this | exact this) GW231.out)) _).trans (((cell_far (p := ⟨gb231, _, none⟩) (by (first | rw [add_block] | (show (Addr.add _ _).block ≠ _; rw [add_block]) | dsimp only | skip); exact Nat.ne_of_lt (Nat.lt_of_lt_of_le (by have := World.block_lt_of_cell? _ _ hw230_0; first | rwa [add_block] at this | exact this) GW231.out)) _).trans (((cell_far (p := ⟨gb231, _, none⟩) (by (first | rw [add_block] | (show (Addr.add _ _).block ≠ _; rw [add_block]) | dsimp only | skip); exact Nat.ne_of_lt (Nat.lt_of_lt_of_le (by have := World.block_lt_of_cell? _ _ hw230_0; first | rwa [add_block] at this | exact this) GW231.out)) _).trans (((cell_far (p := ⟨gb231, _, none⟩) (by (first | rw [add_block] | (show (Addr.add _ _).block ≠ _; rw [add_block]) | dsimp only | skip); exact Nat.ne_of_lt (Nat.lt_of_lt_of_le (by have := World.block_lt_of_cell? _ _ hw230_0; first | rwa [add_block] at this | exact this) GW231.out)) _).trans (((cell_far (p := ⟨gb231, _, none⟩) (by (first | rw [add_block] | (show (Addr.add _ _).block ≠ _; rw [add_block]) | dsimp only | skip); exact Nat.ne_of_lt (Nat.lt_of_lt_of_le (by have := World.block_lt_of_cell? _ _ hw230_0; first | rwa [add_block] at this | exact this) GW231.out)) _).trans (hHeld.2.2.2.2.2.2.2.2.2.2.2.2.2.2.2.2.2.2.2.2.2.2.2.2.2.2.2.2.2.2.1)))))))))))))), ((cell_far (p := ⟨gb231, _, none⟩) (by (first | rw [add_block] | (show (Addr.add _ _).block ≠ _; rw [add_block]) | dsimp only | skip); exact Nat.ne_of_lt (Nat.lt_of_lt_of_le (by have := World.block_lt_of_cell? _ _ hw230_1; first | rwa [add_block] at this | exact this) GW231.out)) _).trans (((cell_far (p := ⟨gb231, _, none⟩) (by (first | rw [add_block] | (show (Addr.add _ _).block ≠ _; rw [add_block]) | dsimp only | skip); exact Nat.ne_of_lt (Nat.lt_of_lt_of_le (by have := World.block_lt_of_cell? _ _ hw230_1; first | rwa [add_block] at this | exact this) GW231.out)) _).trans (((cell_far (p := ⟨gb231, _, none⟩) (by (first | rw [add_block] | (show (Addr.add _ _).block ≠ _; rw [add_block]) | dsimp only | skip); exact Nat.ne_of_lt (Nat.lt_of_lt_of_le (by have := World.block_lt_of_cell? _ _ hw230_1; first | rwa [add_block] at this | exact this) GW231.out)) _).trans (((cell_far (p := ⟨gb231, _, none⟩) (by (first | rw [add_block] | (show (Addr.add _ _).block ≠ _; rw [add_block]) | dsimp only | skip); exact Nat.ne_of_lt (Nat.lt_of_lt_of_le (by have := World.block_lt_of_cell? _ _ hw230_1; first | rwa [add_block] at this | exact this) GW231.out)) _).trans (((cell_far (p := ⟨gb231, _, none⟩) (by (first | rw [add_block] | (show (Addr.add _ _).block ≠ _; rw [add_block]) | dsimp only | skip); exact Nat.ne_of_lt (Nat.lt_of_lt_of_le (by have := World.block_lt_of_cell? _ _ hw230_1; first | rwa [add_block] at this | exact this) GW231.out)) _).trans (((cell_far (p := ⟨gb231, _, none⟩) (by (first | rw [add_block] | (show (Addr.add _ _).block ≠ _; rw [add_block]) | dsimp only | skip); exact Nat.ne_of_lt (Nat.lt_of_lt_of_le (by have := World.block_lt_of_cell? _ _ hw230_1; first | rwa [add_block] at this | exact this) GW231.out)) _).trans (((cell_far (p := ⟨gb231, _, none⟩) (by (first | rw [add_block] | (show (Addr.add _ _).block ≠ _; rw [add_block]) | dsimp only | skip); exact Nat.ne_of_lt (Nat.lt_of_lt_of_le (by have := World.block_lt_of_cell? _ _ hw230_1; first | rwa [add_block] at this | exact this) GW231.out)) _).trans (hHeld.2.2.2.2.2.2.2.2.2.2.2.2.2.2.2.2.2.2.2.2.2.2.2.2.2.2.2.2.2.2.2.1)))))))))))))), ((cell_far (p := ⟨gb231, _, none⟩) (by (first | rw [add_block] | (show (Addr.add _ _).block ≠ _; rw [add_block]) | dsimp only | skip); exact Nat.ne_of_lt (Nat.lt_of_lt_of_le (by have := World.block_lt_of_cell? _ _ hw230_2; first | rwa [add_block] at this | exact this) GW231.out)) _).trans (((cell_far (p := ⟨gb231, _, none⟩) (by (first | rw [add_block] | (show (Addr.add _ _).block ≠ _; rw [add_block]) | dsimp only | skip); exact Nat.ne_of_lt (Nat.lt_of_lt_of_le (by have := World.block_lt_of_cell? _ _ hw230_2; first | rwa [add_block] at this | exact this) GW231.out)) _).trans (((cell_far (p := ⟨gb231, _, none⟩) (by (first | rw [add_block] | (show (Addr.add _ _).block ≠ _; rw [add_block]) | dsimp only | skip); exact Nat.ne_of_lt (Nat.lt_of_lt_of_le (by have := World.block_lt_of_cell? _ _ hw230_2; first | rwa [add_block] at this | exact this) GW231.out)) _).trans (((cell_far (p := ⟨gb231, _, none⟩) (by (first | rw [add_block] | (show (Addr.add _ _).block ≠ _; rw [add_block]) | dsimp only | skip); exact Nat.ne_of_lt (Nat.lt_of_lt_of_le (by have := World.block_lt_of_cell? _ _ hw230_2; first | rwa [add_block] at this | exact this) GW231.out)) _).trans (((cell_far (p := ⟨gb231, _, none⟩) (by (first | rw [add_block] | (show (Addr.add _ _).block ≠ _; rw [add_block]) | dsimp only | skip); exact Nat.ne_of_lt (Nat.lt_of_lt_of_le (by have := World.block_lt_of_cell? _ _ hw230_2; first | rwa [add_block] at this | exact this) GW231.out)) _).trans (((cell_far (p := ⟨gb231, _, none⟩) (by (first | rw [add_block] | (show (Addr.add _ _).block ≠ _; rw [add_block]) | dsimp only | skip); exact Nat.ne_of_lt (Nat.lt_of_lt_of_le (by have := World.block_lt_of_cell? _ _ hw230_2; first | rwa [add_block] at this | exact this) GW231.out)) _).trans (((cell_far (p := ⟨gb231, _, none⟩) (by (first | rw [add_block] | (show (Addr.add _ _).block ≠ _; rw [add_block]) | dsimp only | skip); exact Nat.ne_of_lt (Nat.lt_of_lt_of_le (by have := World.block_lt_of_cell? _ _ hw230_2; first | rwa [add_block] at this | exact this) GW231.out)) _).trans (hHeld.2.2.2.2.2.2.2.2.2.2.2.2.2.2.2.2.2.2.2.2.2.2.2.2.2.2.2.2.2.2.2.2.1)))))))))))))), ((cell_far (p := ⟨gb231, _, none⟩) (by (first | rw [add_block] | (show (Addr.add _ _).block ≠ _; rw [add_block]) | dsimp only | skip); exact Nat.ne_of_lt (Nat.lt_of_lt_of_le (by have := World.block_lt_of_cell? _ _ hw230_3; first | rwa [add_block] at this | exact this) GW231.out)) _).trans (((cell_far (p := ⟨gb231, _, none⟩) (by (first | rw [add_block] | (show (Addr.add _ _).block ≠ _; rw [add_block]) | dsimp only | skip); exact Nat.ne_of_lt (Nat.lt_of_lt_of_le (by have := World.block_lt_of_cell? _ _ hw230_3; first | rwa [add_block] at this | exact this) GW231.out)) _).trans (((cell_far (p := ⟨gb231, _, none⟩) (by (first | rw [add_block] | (show (Addr.add _ _).block ≠ _; rw [add_block]) | dsimp only | skip); exact Nat.ne_of_lt (Nat.lt_of_lt_of_le (by have := World.block_lt_of_cell? _ _ hw230_3; first | rwa [add_block] at this | exact this) GW231.out)) _).trans (((cell_far (p := ⟨gb231, _, none⟩) (by (first | rw [add_block] | (show (Addr.add _ _).block ≠ _; rw [add_block]) | dsimp only | skip); exact Nat.ne_of_lt (Nat.lt_of_lt_of_le (by have := World.block_lt_of_cell? _ _ hw230_3; first | rwa [add_block] at this | exact this) GW231.out)) _).trans (((cell_far (p := ⟨gb231, _, none⟩) (by (first | rw [add_block] | (show (Addr.add _ _).block ≠ _; rw [add_block]) | dsimp only | skip); exact Nat.ne_of_lt (Nat.lt_of_lt_of_le (by have := World.block_lt_of_cell? _ _ hw230_3; first | rwa [add_block] at this | exact this) GW231.out)) _).trans (((cell_far (p := ⟨gb231, _, none⟩) (by (first | rw [add_block] | (show (Addr.add _ _).block ≠ _; rw [add_block]) | dsimp only | skip); exact Nat.ne_of_lt (Nat.lt_of_lt_of_le (by have := World.block_lt_of_cell? _ _ hw230_3; first | rwa [add_block] at this | exact this) GW231.out)) _).trans (((cell_far (p := ⟨gb231, _, none⟩) (by (first | rw [add_block] | (show (Addr.add _ _).block ≠ _; rw [add_block]) | dsimp only | skip); exact Nat.ne_of_lt (Nat.lt_of_lt_of_le (by have := World.block_lt_of_cell? _ _ hw230_3; first | rwa [add_block] at this | exact this) GW231.out)) _).trans (hHeld.2.2.2.2.2.2.2.2.2.2.2.2.2.2.2.2.2.2.2.2.2.2.2.2.2.2.2.2.2.2.2.2.2.1)))))))))))))), ((cell_far (p := ⟨gb231, _, none⟩) (by (first | rw [add_block] | (show (Addr.add _ _).block ≠ _; rw [add_block]) | dsimp only | skip); exact Nat.ne_of_lt (Nat.lt_of_lt_of_le (by have := World.block_lt_of_cell? _ _ hw230_4; first | rwa [add_block] at this | exact this) GW231.out)) _).trans (((cell_far (p := ⟨gb231, _, none⟩) (by (first | rw [add_block] | (show (Addr.add _ _).block ≠ _; rw [add_block]) | dsimp only | skip); exact Nat.ne_of_lt (Nat.lt_of_lt_of_le (by have := World.block_lt_of_cell? _ _ hw230_4; first | rwa [add_block] at this | exact this) GW231.out)) _).trans (((cell_far (p := ⟨gb231, _, none⟩) (by (first | rw [add_block] | (show (Addr.add _ _).block ≠ _; rw [add_block]) | dsimp only | skip); exact Nat.ne_of_lt (Nat.lt_of_lt_of_le (by have := World.block_lt_of_cell? _ _ hw230_4; first | rwa [add_block] at this | exact this) GW231.out)) _).trans (((cell_far (p := ⟨gb231, _, none⟩) (by (first | rw [add_block] | (show (Addr.add _ _).block ≠ _; rw [add_block]) | dsimp only | skip); exact Nat.ne_of_lt (Nat.lt_of_lt_of_le (by have := World.block_lt_of_cell? _ _ hw230_4; first | rwa [add_block] at this | exact this) GW231.out)) _).trans (((cell_far (p := ⟨gb231, _, none⟩) (by (first | rw [add_block] | (show (Addr.add _ _).block ≠ _; rw [add_block]) | dsimp only | skip); exact Nat.ne_of_lt (Nat.lt_of_lt_of_le (by have := World.block_lt_of_cell? _ _ hw230_4; first | rwa [add_block] at this | exact this) GW231.out)) _).trans (((cell_far (p := ⟨gb231, _, none⟩) (by (first | rw [add_block] | (show (Addr.add _ _).block ≠ _; rw [add_block]) | dsimp only | skip); exact Nat.ne_of_lt (Nat.lt_of_lt_of_le (by have := World.block_lt_of_cell? _ _ hw230_4; first | rwa [add_block] at this | exact this) GW231.out)) _).trans (((cell_far (p := ⟨gb231, _, none⟩) (by (first | rw [add_block] | (show (Addr.add _ _).block ≠ _; rw [add_block]) | dsimp only | skip); exact Nat.ne_of_lt (Nat.lt_of_lt_of_le (by have := World.block_lt_of_cell? _ _ hw230_4; first | rwa [add_block] at this | exact this) GW231.out)) _).trans (hHeld.2.2.2.2.2.2.2.2.2.2.2.2.2.2.2.2.2.2.2.2.2.2.2.2.2.2.2.2.2.2.2.2.2.2.1)))))))))))))), ((cell_far (p := ⟨gb231, _, none⟩) (by (first | rw [add_block] | (show (Addr.add _ _).block ≠ _; rw [add_block]) | dsimp only | skip); exact Nat.ne_of_lt (Nat.lt_of_lt_of_le (by have := World.block_lt_of_cell? _ _ hw230_5; first | rwa [add_block] at this | exact this) GW231.out)) _).trans (((cell_far (p := ⟨gb231, _, none⟩) (by (first | rw [add_block] | (show (Addr.add _ _).block ≠ _; rw [add_block]) | dsimp only | skip); exact Nat.ne_of_lt (Nat.lt_of_lt_of_le (by have := World.block_lt_of_cell? _ _ hw230_5; first | rwa [add_block] at this | exact this) GW231.out)) _).trans (((cell_far (p := ⟨gb231, _, none⟩) (by (first | rw [add_block] | (show (Addr.add _ _).block ≠ _; rw [add_block]) | dsimp only | skip); exact Nat.ne_of_lt (Nat.lt_of_lt_of_le (by have := World.block_lt_of_cell? _ _ hw230_5; first | rwa [add_block] at this | exact this) GW231.out)) _).trans (((cell_far (p := ⟨gb231, _, none⟩) (by (first | rw [add_block] | (show (Addr.add _ _).block ≠ _; rw [add_block]) | dsimp only | skip); exact Nat.ne_of_lt (Nat.lt_of_lt_of_le (by have := World.block_lt_of_cell? _ _ hw230_5; first | rwa [add_block] at this | exact this) GW231.out)) _).trans (((cell_far (p := ⟨gb231, _, none⟩) (by (first | rw [add_block] | (show (Addr.add _ _).block ≠ _; rw [add_block]) | dsimp only | skip); exact Nat.ne_of_lt (Nat.lt_of_lt_of_le (by have := World.block_lt_of_cell? _ _ hw230_5; first | rwa [add_block] at this | exact this) GW231.out)) _).trans (((cell_far (p := ⟨gb231, _, none⟩) (by (first | rw [add_block] | (show (Addr.add _ _).block ≠ _; rw [add_block]) | dsimp only | skip); exact Nat.ne_of_lt (Nat.lt_of_lt_of_le (by have := World.block_lt_of_cell? _ _ hw230_5; first | rwa [add_block] at this | exact this) GW231.out)) _).trans (((cell_far (p := ⟨gb231, _, none⟩) (by (first | rw [add_block] | (show (Addr.add _ _).block ≠ _; rw [add_block]) | dsimp only | skip); exact Nat.ne_of_lt (Nat.lt_of_lt_of_le (by have := World.block_lt_of_cell? _ _ hw230_5; first | rwa [add_block] at this | exact this) GW231.out)) _).trans (hHeld.2.2.2.2.2.2.2.2.2.2.2.2.2.2.2.2.2.2.2.2.2.2.2.2.2.2.2.2.2.2.2.2.2.2.2))))))))))))))⟩ (fun hHeld => ?_)
          clear hK K
          refine done_ (done_of HT_.out (by kernel_rfl)) ?_
          have hcz22_0 : w14.cell? ⟨gb231, 0, none⟩ = some (.string (⟨#[]⟩ : ByteArray)) := (blk_cell BK231.out 0).trans rfl
          have hcz22_1 : w14.cell? ⟨gb231, 1, none⟩ = some (.int .i64 0) := (blk_cell BK231.out 1).trans rfl
          have hcz22_2 : w14.cell? ⟨gb231, 2, none⟩ = some (.int .i64 0) := (blk_cell BK231.out 2).trans rfl
          have hcz22_3 : w14.cell? ⟨gb231, 3, none⟩ = some (.int .i64 0) := (blk_cell BK231.out 3).trans rfl
          have hcz22_4 : w14.cell? ⟨gb231, 4, none⟩ = some (.bool false) := (blk_cell BK231.out 4).trans rfl
          have hcz22_5 : w14.cell? ⟨gb231, 5, none⟩ = some (.int .u64 0) := (blk_cell BK231.out 5).trans rfl
          have hcz22_6 : w14.cell? ⟨gb231, 6, none⟩ = some (.int .u64 0) := (blk_cell BK231.out 6).trans rfl
          have hfz22_0 := blk_frozen BK231.out 0
          have hfz22_1 := blk_frozen BK231.out 1
          have hfz22_2 := blk_frozen BK231.out 2
          have hfz22_3 := blk_frozen BK231.out 3
          have hfz22_4 := blk_frozen BK231.out 4
          have hfz22_5 := blk_frozen BK231.out 5
          have hfz22_6 := blk_frozen BK231.out 6
          try go_wp2_with (first | ((with_reducible refine gate_builtin (b := .append) (xs := #[.tmp 61, .tmp 63]) rfl ?_); (try (refine gate_guard (by rfl) ?_; dsimp only)); at_builtin; refine Kd.R_append k28 (w0 := w) w.heap.size rfl (.tmp 61) (.tmp 63) 32 28 (.agg #[(.string ⟨#[]⟩), (.int .i64 0), (.int .i64 0), (.int .i64 0), (.bool false), (.int .u64 0), (.int .u64 0)]) 64 rfl Try.underlying32 info28 rfl (by decide) (by omega) u5 x5_1 (⟨(⟨#[120]⟩ : ByteArray), Go.bits .and .i64 ((rd_T24 l0 x7_1).f0) 1, Go.bits .and .i64 ((rd_T24 l0 x7_1).f1) 15, Go.bits .and .i64 ((rd_T24 l0 x7_1).f2) 3, (rd_T24 l0 x7_1).f3, (rd_T24 l0 x7_1).f4, (rd_T24 l0 x7_1).f5⟩ : S28) [.string (⟨#[120]⟩ : ByteArray), .int .i64 (Go.bits .and .i64 ((rd_T24 l0 x7_1).f0) 1), .int .i64 (Go.bits .and .i64 ((rd_T24 l0 x7_1).f1) 15), .int .i64 (Go.bits .and .i64 ((rd_T24 l0 x7_1).f2) 3), .bool ((rd_T24 l0 x7_1).f3), .int .u64 ((rd_T24 l0 x7_1).f4), .int .u64 ((rd_T24 l0 x7_1).f5)] (fun k_ => k_ ≠ gb231) (fun _ => False) rfl (by first | (go_simp; done) | (go_simp; rfl)) ?aP (fun _ hk => hk.elim) ?aF ?aO ?aB ?aS ?aL ?_; (case aP => exact k28_mkM _ _ _ (⟨(⟨#[120]⟩ : ByteArray), Go.bits .and .i64 ((rd_T24 l0 x7_1).f0) 1, Go.bits .and .i64 ((rd_T24 l0 x7_1).f1) 15, Go.bits .and .i64 ((rd_T24 l0 x7_1).f2) 3, (rd_T24 l0 x7_1).f3, (rd_T24 l0 x7_1).f4, (rd_T24 l0 x7_1).f5⟩ : S28)); (case aB => exact (by repeat (first | (with_reducible first | exact HB.out | apply below_alloc | apply pw_below_drewN | apply below_drew1 | refine below_set ?_ GE231.out) | exact HB.out))); (case aF => exact (fun k_ hk => Kd.freshB (g := gb231) (o := .cells #[.string (⟨#[120]⟩ : ByteArray), .int .i64 (Go.bits .and .i64 ((rd_T24 l0 x7_1).f0) 1), .int .i64 (Go.bits .and .i64 ((rd_T24 l0 x7_1).f1) 15), .int .i64 (Go.bits .and .i64 ((rd_T24 l0 x7_1).f2) 3), .bool ((rd_T24 l0 x7_1).f3), .int .u64 ((rd_T24 l0 x7_1).f4), .int .u64 ((rd_T24 l0 x7_1).f5)] 28 (0, 0)) (by (with_reducible repeat (first | refine blk_drewN ?_ _ | refine blk_drew ?_ | refine blk_alloc ?_ _)); refine blk_put (cs := #[.string (⟨#[120]⟩ : ByteArray), .int .i64 (Go.bits .and .i64 ((rd_T24 l0 x7_1).f0) 1), .int .i64 (Go.bits .and .i64 ((rd_T24 l0 x7_1).f1) 15), .int .i64 (Go.bits .and .i64 ((rd_T24 l0 x7_1).f2) 3), .bool ((rd_T24 l0 x7_1).f3), .int .u64 ((rd_T24 l0 x7_1).f4), .int .u64 0]) ?_ 6 _ rfl; (with_reducible repeat (first | refine blk_drewN ?_ _ | refine blk_drew ?_ | refine blk_alloc ?_ _)); refine blk_put (cs := #[.string (⟨#[120]⟩ : ByteArray), .int .i64 (Go.bits .and .i64 ((rd_T24 l0 x7_1).f0) 1), .int .i64 (Go.bits .and .i64 ((rd_T24 l0 x7_1).f1) 15), .int .i64 (Go.bits .and .i64 ((rd_T24 l0 x7_1).f2) 3), .bool ((rd_T24 l0 x7_1).f3), .int .u64 0, .int .u64 0]) ?_ 5 _ rfl; (with_reducible repeat (first | refine blk_drewN ?_ _ | refine blk_drew ?_ | refine blk_alloc ?_ _)); refine blk_put (cs := #[.string (⟨#[120]⟩ : ByteArray), .int .i64 (Go.bits .and .i64 ((rd_T24 l0 x7_1).f0) 1), .int .i64 (Go.bits .and .i64 ((rd_T24 l0 x7_1).f1) 15), .int .i64 (Go.bits .and .i64 ((rd_T24 l0 x7_1).f2) 3), .bool false, .int .u64 0, .int .u64 0]) ?_ 4 _ rfl; (with_reducible repeat (first | refine blk_drewN ?_ _ | refine blk_drew ?_ | refine blk_alloc ?_ _)); refine blk_put (cs := #[.string (⟨#[120]⟩ : ByteArray), .int .i64 (Go.bits .and .i64 ((rd_T24 l0 x7_1).f0) 1), .int .i64 (Go.bits .and .i64 ((rd_T24 l0 x7_1).f1) 15), .int .i64 0, .bool false, .int .u64 0, .int .u64 0]) ?_ 3 _ rfl; (with_reducible repeat (first | refine blk_drewN ?_ _ | refine blk_drew ?_ | refine blk_alloc ?_ _)); refine blk_put (cs := #[.string (⟨#[120]⟩ : ByteArray), .int .i64 (Go.bits .and .i64 ((rd_T24 l0 x7_1).f0) 1), .int .i64 0, .int .i64 0, .bool false, .int .u64 0, .int .u64 0]) ?_ 2 _ rfl; (with_reducible repeat (first | refine blk_drewN ?_ _ | refine blk_drew ?_ | refine blk_alloc ?_ _)); refine blk_put (cs := #[.string (⟨#[120]⟩ : ByteArray), .int .i64 0, .int .i64 0, .int .i64 0, .bool false, .int .u64 0, .int .u64 0]) ?_ 1 _ rfl; (with_reducible repeat (first | refine blk_drewN ?_ _ | refine blk_drew ?_ | refine blk_alloc ?_ _)); refine blk_put (cs := #[.string (⟨#[]⟩ : ByteArray), .int .i64 0, .int .i64 0, .int .i64 0, .bool false, .int .u64 0, .int .u64 0]) ?_ 0 _ rfl; (with_reducible repeat (first | refine blk_drewN ?_ _ | refine blk_drew ?_ | refine blk_alloc ?_ _)); exact BK231.out) k_ hk)); (case aO => exact (by (with_reducible repeat (first | apply Kd.R_alloc | apply Kd.R_drewN | apply Kd.R_drew)); exact Kd.R_mono (Kd.R_far (p := ⟨gb231, 6, none⟩) (Kd.R_far (p := ⟨gb231, 5, none⟩) (Kd.R_far (p := ⟨gb231, 4, none⟩) (Kd.R_far (p := ⟨gb231, 3, none⟩) (Kd.R_far (p := ⟨gb231, 2, none⟩) (Kd.R_far (p := ⟨gb231, 1, none⟩) (Kd.R_far (p := ⟨gb231, 0, none⟩) (Kd.R_mono HO_5.out (fun k_ hk => (⟨hk, hk.2⟩ : _ ∧ k_ ≠ gb231))) (fun _ hk => hk.2) (.string (⟨#[120]⟩ : ByteArray))) (fun _ hk => hk.2) (.int .i64 (Go.bits .and .i64 ((rd_T24 l0 x7_1).f0) 1))) (fun _ hk => hk.2) (.int .i64 (Go.bits .and .i64 ((rd_T24 l0 x7_1).f1) 15))) (fun _ hk => hk.2) (.int .i64 (Go.bits .and .i64 ((rd_T24 l0 x7_1).f2) 3))) (fun _ hk => hk.2) (.bool ((rd_T24 l0 x7_1).f3))) (fun _ hk => hk.2) (.int .u64 ((rd_T24 l0 x7_1).f4))) (fun _ hk => hk.2) (.int .u64 ((rd_T24 l0 x7_1).f5))) (fun _ hk => hk.1.2))); (case aS => exact (below_size (by repeat (first | (with_reducible first | exact HB.out | apply below_alloc | apply pw_below_drewN | apply below_drew1 | refine below_set ?_ GE231.out) | exact HB.out)))); (case aL => have := LMc10.out; omega); intro v233 w23 ho hb hg hat; rw [← Ny232.out] at ho; have n0_ := Aside0.mk (blk_grown (g := gb231) (o := .cells #[.string (⟨#[120]⟩ : ByteArray), .int .i64 (Go.bits .and .i64 ((rd_T24 l0 x7_1).f0) 1), .int .i64 (Go.bits .and .i64 ((rd_T24 l0 x7_1).f1) 15), .int .i64 (Go.bits .and .i64 ((rd_T24 l0 x7_1).f2) 3), .bool ((rd_T24 l0 x7_1).f3), .int .u64 ((rd_T24 l0 x7_1).f4), .int .u64 ((rd_T24 l0 x7_1).f5)] 28 (0, 0)) (by (with_reducible repeat (first | refine blk_drewN ?_ _ | refine blk_drew ?_ | refine blk_alloc ?_ _)); refine blk_put (cs := #[.string (⟨#[120]⟩ : ByteArray), .int .i64 (Go.bits .and .i64 ((rd_T24 l0 x7_1).f0) 1), .int .i64 (Go.bits .and .i64 ((rd_T24 l0 x7_1).f1) 15), .int .i64 (Go.bits .and .i64 ((rd_T24 l0 x7_1).f2) 3), .bool ((rd_T24 l0 x7_1).f3), .int .u64 ((rd_T24 l0 x7_1).f4), .int .u64 0]) ?_ 6 _ rfl; (with_reducible repeat (first | refine blk_drewN ?_ _ | refine blk_drew ?_ | refine blk_alloc ?_ _)); refine blk_put (cs := #[.string (⟨#[120]⟩ : ByteArray), .int .i64 (Go.bits .and .i64 ((rd_T24 l0 x7_1).f0) 1), .int .i64 (Go.bits .and .i64 ((rd_T24 l0 x7_1).f1) 15), .int .i64 (Go.bits .and .i64 ((rd_T24 l0 x7_1).f2) 3), .bool ((rd_T24 l0 x7_1).f3), .int .u64 0, .int .u64 0]) ?_ 5 _ rfl; (with_reducible repeat (first | refine blk_drewN ?_ _ | refine blk_drew ?_ | refine blk_alloc ?_ _)); refine blk_put (cs := #[.string (⟨#[120]⟩ : ByteArray), .int .i64 (Go.bits .and .i64 ((rd_T24 l0 x7_1).f0) 1), .int .i64 (Go.bits .and .i64 ((rd_T24 l0 x7_1).f1) 15), .int .i64 (Go.bits .and .i64 ((rd_T24 l0 x7_1).f2) 3), .bool false, .int .u64 0, .int .u64 0]) ?_ 4 _ rfl; (with_reducible repeat (first | refine blk_drewN ?_ _ | refine blk_drew ?_ | refine blk_alloc ?_ _)); refine blk_put (cs := #[.string (⟨#[120]⟩ : ByteArray), .int .i64 (Go.bits .and .i64 ((rd_T24 l0 x7_1).f0) 1), .int .i64 (Go.bits .and .i64 ((rd_T24 l0 x7_1).f1) 15), .int .i64 0, .bool false, .int .u64 0, .int .u64 0]) ?_ 3 _ rfl; (with_reducible repeat (first | refine blk_drewN ?_ _ | refine blk_drew ?_ | refine blk_alloc ?_ _)); refine blk_put (cs := #[.string (⟨#[120]⟩ : ByteArray), .int .i64 (Go.bits .and .i64 ((rd_T24 l0 x7_1).f0) 1), .int .i64 0, .int .i64 0, .bool false, .int .u64 0, .int .u64 0]) ?_ 2 _ rfl; (with_reducible repeat (first | refine blk_drewN ?_ _ | refine blk_drew ?_ | refine blk_alloc ?_ _)); refine blk_put (cs := #[.string (⟨#[120]⟩ : ByteArray), .int .i64 0, .int .i64 0, .int .i64 0, .bool false, .int .u64 0, .int .u64 0]) ?_ 1 _ rfl; (with_reducible repeat (first | refine blk_drewN ?_ _ | refine blk_drew ?_ | refine blk_alloc ?_ _)); refine blk_put (cs := #[.string (⟨#[]⟩ : ByteArray), .int .i64 0, .int .i64 0, .int .i64 0, .bool false, .int .u64 0, .int .u64 0]) ?_ 0 _ rfl; (with_reducible repeat (first | refine blk_drewN ?_ _ | refine blk_drew ?_ | refine blk_alloc ?_ _)); exact BK231.out) hg (Kd.R_away HO_5.out (fun _ hk => hk.2))); have n1_ := Aside0.mk (hb); have n2_ := Aside0.mk (ho); clear BK231; clear HB; clear HO_5; have BK231 := n0_; have HB := n1_; have HO234 := n2_; clear n0_ n1_ n2_; clear ho hb hg hat; have hcz24_0 : w23.cell? ⟨gb231, 0, none⟩ = some (.string (⟨#[120]⟩ : ByteArray)) := (blk_cell BK231.out 0).trans rfl; have hcz24_1 : w23.cell? ⟨gb231, 1, none⟩ = some (.int .i64 (Go.bits .and .i64 ((rd_T24 l0 x7_1).f0) 1)) := (blk_cell BK231.out 1).trans rfl; have hcz24_2 : w23.cell? ⟨gb231, 2, none⟩ = some (.int .i64 (Go.bits .and .i64 ((rd_T24 l0 x7_1).f1) 15)) := (blk_cell BK231.out 2).trans rfl; have hcz24_3 : w23.cell? ⟨gb231, 3, none⟩ = some (.int .i64 (Go.bits .and .i64 ((rd_T24 l0 x7_1).f2) 3)) := (blk_cell BK231.out 3).trans rfl; have hcz24_4 : w23.cell? ⟨gb231, 4, none⟩ = some (.bool ((rd_T24 l0 x7_1).f3)) := (blk_cell BK231.out 4).trans rfl; have hcz24_5 : w23.cell? ⟨gb231, 5, none⟩ = some (.int .u64 ((rd_T24 l0 x7_1).f4)) := (blk_cell BK231.out 5).trans rfl; have hcz24_6 : w23.cell? ⟨gb231, 6, none⟩ = some (.int .u64 ((rd_T24 l0 x7_1).f5)) := (blk_cell BK231.out 6).trans rfl; have hfz24_0 := blk_frozen BK231.out 0; have hfz24_1 := blk_frozen BK231.out 1; have hfz24_2 := blk_frozen BK231.out 2; have hfz24_3 := blk_frozen BK231.out 3; have hfz24_4 := blk_frozen BK231.out 4; have hfz24_5 := blk_frozen BK231.out 5; have hfz24_6 := blk_frozen BK231.out 6) | ((with_reducible refine gate_callee (f := 8) rfl ?_); refine goesL_ (some 67) rfl rfl Try.func8 (by kernel_rfl) rfl #[.agg #[.string (⟨#[120]⟩ : ByteArray), .int .i64 (Go.bits .and .i64 ((rd_T24 l0 x7_1).f0) 1), .int .i64 (Go.bits .and .i64 ((rd_T24 l0 x7_1).f1) 15), .int .i64 (Go.bits .and .i64 ((rd_T24 l0 x7_1).f2) 3), .bool ((rd_T24 l0 x7_1).f3), .int .u64 ((rd_T24 l0 x7_1).f4), .int .u64 ((rd_T24 l0 x7_1).f5)], .int .u32 0] rfl (by (try simp only [List.map_toArray, List.map_cons, List.map_nil]); first | done | rfl | (simp only [List.length_drop, List.length_take]; rfl)) ?_; (with_reducible refine (sym_Put.calls k1 (⟨#[120]⟩ : ByteArray) (Go.bits .and .i64 ((rd_T24 l0 x7_1).f0) 1) (Go.bits .and .i64 ((rd_T24 l0 x7_1).f1) 15) (Go.bits .and .i64 ((rd_T24 l0 x7_1).f2) 3) ((rd_T24 l0 x7_1).f3) ((rd_T24 l0 x7_1).f4) ((rd_T24 l0 x7_1).f5) 0 t235 _ A11.out).mono ?_); rintro e w25 ⟨rfl, hb⟩; refine ⟨_, rfl, ?_⟩; have n0_ := Aside0.mk (Kd.R_below (by (with_reducible repeat (first | apply Kd.R_alloc | apply Kd.R_drewN | apply Kd.R_drew)); exact HO234.out) hb); have n1_ := Aside0.mk (blk_below (g := gb231) (o := .cells #[.string (⟨#[120]⟩ : ByteArray), .int .i64 (Go.bits .and .i64 ((rd_T24 l0 x7_1).f0) 1), .int .i64 (Go.bits .and .i64 ((rd_T24 l0 x7_1).f1) 15), .int .i64 (Go.bits .and .i64 ((rd_T24 l0 x7_1).f2) 3), .bool ((rd_T24 l0 x7_1).f3), .int .u64 ((rd_T24 l0 x7_1).f4), .int .u64 ((rd_T24 l0 x7_1).f5)] 28 (0, 0)) (by (with_reducible repeat (first | refine blk_drewN ?_ _ | refine blk_drew ?_ | refine blk_alloc ?_ _)); exact BK231.out) hb); have n2_ := Aside0.mk (below_step (by repeat (first | (with_reducible first | exact HB.out | apply below_alloc | apply pw_below_drewN | apply below_drew1 | refine below_set ?_ GE231.out) | exact HB.out)) hb); clear HO234; clear BK231; clear HB; have HO234 := n0_; have BK231 := n1_; have HB := n2_; clear n0_ n1_ n2_; (try clear hb); (try clear hb2); (try clear hk); (try clear hi)))
          go_roundg k1
          case measure => have := HK1.out; omega
          case rel => exact ⟨(y232), (x6_1 ++ t235), (wrap64 (x7_1 + 1)), (by first | rfl | (simp; done) | (simp [*]; done)), (by first | rfl | (simp; done) | (simp [*]; done)), H', ⟨by have := HK1.out; omega⟩, ⟨by (with_reducible repeat (first | apply Kd.R_alloc | apply Kd.R_drewN | apply Kd.R_drew)); exact Kd.R_mono HO234.out (fun _ hk => trivial)⟩, ⟨by repeat (first | (with_reducible first | exact HB.out | apply below_alloc | apply pw_below_drewN | apply below_drew1 | refine below_set ?_ GE231.out) | exact HB.out)⟩⟩
         ·rw [if_neg c12] at H
          exact absurd H (by simp)
        ·rw [if_neg c10] at H
         exact absurd H (by simp)
       ·rw [if_neg c9] at H
        exact absurd H (by simp)
      ·rw [if_neg c8] at H
       have c8b0 : decide (x7_1 < 30) = false := decide_eq_false c8
       clear c8
       have H' := Aside0.mk H
       clear H
       go_wp2
       (try subst hji11)
       (try subst hji13)
       (try subst hji10)
       (try subst hji4)
       (try subst hji12)
       (try subst hji16)
       (try subst hji22)
       (try subst hji27)
       (try subst hji32)
       (try subst hji6)
       (try subst hji12)
       go_meet
       case rel => exact ⟨_, (x5_1), (x6_1), (by first | rfl | (simp; done) | (simp [*]; done)), H', ⟨by have := HK1.out; first | omega | exact Nat.le_refl _⟩, ⟨by (with_reducible repeat (first | apply Kd.R_alloc | apply Kd.R_drewN | apply Kd.R_drew)); exact HO_5.out⟩, ⟨by repeat (first | (with_reducible first | exact HB.out | apply below_alloc | apply pw_below_drewN | apply below_drew1) | exact HB.out)⟩⟩
     ·rw [if_neg c7] at H
      have c7b0 : decide (x7_1 < (l0.length : Int)) = false := decide_eq_false c7
      clear c7
      (first | rw [c7b0] | (simp only [i64_w, i32_w]; rw [c7b0]) | skip)
      have H' := Aside0.mk H
      clear H
      go_wp2
      (try subst hji11)
      (try subst hji13)
      (try subst hji10)
      (try subst hji4)
      (try subst hji12)
      (try subst hji16)
      (try subst hji22)
      (try subst hji27)
      (try subst hji32)
      (try subst hji6)
      (try subst hji12)
      go_meet
      case rel => exact ⟨_, (x5_1), (x6_1), (by first | rfl | (simp; done) | (simp [*]; done)), H', ⟨by have := HK1.out; first | omega | exact Nat.le_refl _⟩, ⟨by (with_reducible repeat (first | apply Kd.R_alloc | apply Kd.R_drewN | apply Kd.R_drew)); exact HO_5.out⟩, ⟨by repeat (first | (with_reducible first | exact HB.out | apply below_alloc | apply pw_below_drewN | apply below_drew1) | exact HB.out)⟩⟩
  case rest =>
   clear HC5
   try clear c1
   try clear p2
   try clear q2
   try clear hx2
   try clear c4
   try clear p6
   try clear c7
   try clear c7b0
   try clear c8
   try clear c8b0
   try clear c9
   try clear c9b0
   try clear c10
   try clear c12
   try clear c12b0
   try clear c12b1
   try clear c12b2
   try clear p22
   try clear q22
   try clear hx22
   try clear p23
   try clear q23
   try clear hx23
   try clear hcz22_0
   try clear hcz22_1
   try clear hcz22_2
   try clear hcz22_3
   try clear hcz22_4
   try clear hcz22_5
   try clear hcz22_6
   try clear hcz24_0
   try clear hcz24_1
   try clear hcz24_2
   try clear hcz24_3
   try clear hcz24_4
   try clear hcz24_5
   try clear hcz24_6
   try clear hfz22_0
   try clear hfz22_1
   try clear hfz22_2
   try clear hfz22_3
   try clear hfz22_4
   try clear hfz22_5
   try clear hfz22_6
   try clear hfz24_0
   try clear hfz24_1
   try clear hfz24_2
   try clear hfz24_3
   try clear hfz24_4
   try clear hfz24_5
   try clear hfz24_6
   try clear hx225_0
   try clear hx225_1
   try clear hx225_2
   try clear hx225_3
   try clear hx225_4
   try clear hx225_5
   try clear hx226_0
   try clear hx226_1
   try clear hx226_2
   try clear hx226_3
   try clear hx226_4
   try clear hx226_5
   try clear hx227_0
   try clear hx227_1
   try clear hx227_2
   try clear hx227_3
   try clear hx227_4
   try clear hx227_5
   try clear hx228_0
   try clear hx228_1
   try clear hx228_2
   try clear hx228_3
   try clear hx228_4
   try clear hx228_5
   try clear hx229_0
   try clear hx229_1
   try clear hx229_2
   try clear hx229_3
   try clear hx229_4
   try clear hx229_5
   try clear hx230_0
   try clear hx230_1
   try clear hx230_2
   try clear hx230_3
   try clear hx230_4
   try clear hx230_5
   try clear p2
   try clear p225
   try clear p226
   try clear p227
   try clear p228
   try clear p229
   try clear p230
   try clear q225
   try clear q226
   try clear q227
   try clear q228
   try clear q229
   try clear q230
   obtain ⟨kq, x5_4, x6_4, rfl, HA, HJ4, HO_5, HB⟩ := hcut
   cases kq with
   | zero => exact absurd HA.out (by simp [turnbucklelaw11_SymPlaces.j1])
   | succ kj4 =>
    have H := HA.out
    clear HA
    simp only [turnbucklelaw11_SymPlaces.j1] at H
    replace H := Option.bind_eq_some_iff.mp H
    obtain ⟨⟨t236, t239, t240, t241⟩, A260, H⟩ := H
    replace H : ((fail_Fault_OK.f t239 t240 t241).bind fun t243 => (if t243 = true then (turnbucklelaw11_SymPlaces.j2 kj4 a1 x5_4 x6_4 t236 ((t236.length : Int) != (x5_4.length : Int))) else (turnbucklelaw11_SymPlaces.j2 kj4 a1 x5_4 x6_4 t236 true))) = some r := H
    have A26 := Aside0.mk A260
    clear A260
    have HC27 := Aside0.mk H
    clear H
    go_upto_region 12 with (first | ((with_reducible refine gate_callee (f := 10) rfl ?_); refine goesL_ (some 71) rfl rfl Try.func10 (by kernel_rfl) rfl #[.string x6_4, .string (⟨#[120, 0]⟩ : ByteArray)] rfl (by (try simp only [List.map_toArray, List.map_cons, List.map_nil]); first | done | rfl | (simp only [List.length_drop, List.length_take]; rfl)) ?_; (with_reducible refine (sym_Read.calls kj4 x6_4 (⟨#[120, 0]⟩ : ByteArray) t236 t239 t240 t241 _ A26.out).mono ?_); rintro e w28 ⟨v237, rfl, ho0, hb⟩; refine ⟨_, rfl, ?_⟩; have n0_ := Aside0.mk (Kd.R_elder' (by (with_reducible repeat (first | apply Kd.R_alloc | apply Kd.R_drewN | apply Kd.R_drew)); exact HO_5.out) (Kd.R_base ho0) hb); have n1_ := Aside0.mk (Kd.R_lower (Kd.R_new' ho0 (Kd.R_lt (by (with_reducible repeat (first | apply Kd.R_alloc | apply Kd.R_drewN | apply Kd.R_drew)); exact HO_5.out))) (below_size (by repeat (first | (with_reducible first | exact HB.out | apply below_alloc | apply pw_below_drewN | apply below_drew1) | exact HB.out)))); have n2_ := Aside0.mk (below_step (by repeat (first | (with_reducible first | exact HB.out | apply below_alloc | apply pw_below_drewN | apply below_drew1) | exact HB.out)) hb); clear HO_5; clear HB; have HO_5 := n0_; have HO238 := n1_; have HB := n2_; clear n0_ n1_ n2_; (try clear hb); (try clear hb2); (try clear hk); (try clear hi); (try clear ho0)) | ((with_reducible refine gate_dst (N := 10) rfl ?_); (try (refine gate_guard (by rfl) ?_; dsimp only)); refine box_event ?hg (N := 10) ?hd (cs := #[.int .i64 0, .int .u64 0, .string (⟨#[]⟩ : ByteArray)]) (t := 35) ?hr ?_; (case hd => rfl); (case hg => rfl); (case hr => first | (go_simp; done) | (go_simp; rfl)); intro gb242 hg w29 hbox hb; have n0_ := Aside0.mk (Kd.R_below (by (with_reducible repeat (first | apply Kd.R_alloc | apply Kd.R_drewN | apply Kd.R_drew)); exact HO_5.out) hb); have n1_ := Aside0.mk (Kd.R_below (by (with_reducible repeat (first | apply Kd.R_alloc | apply Kd.R_drewN | apply Kd.R_drew)); exact HO238.out) hb); have n2_ := Aside0.mk (below_step (by repeat (first | (with_reducible first | exact HB.out | apply below_alloc | apply pw_below_drewN | apply below_drew1) | exact HB.out)) hb); have n3_ := Aside0.mk (hbox); have n4_ := Aside0.mk ((by rw [hg]; exact (below_size (by repeat (first | (with_reducible first | exact HB.out | apply below_alloc | apply pw_below_drewN | apply below_drew1) | exact HB.out))) : w.heap.size ≤ gb242)); have n5_ := Aside0.mk ((by rw [hg]; exact (below_size (by repeat (first | (with_reducible first | exact HB.out | apply below_alloc | apply pw_below_drewN | apply below_drew1) | exact HB.out))) : w.heap.size ≤ gb242)); clear HO_5; clear HO238; clear HB; have HO_5 := n0_; have HO238 := n1_; have HB := n2_; have BK242 := n3_; have GW242 := n4_; have GE242 := n5_; clear n0_ n1_ n2_ n3_ n4_ n5_; clear hb hbox hg; have hcz30_0 : w29.cell? ⟨gb242, 0, none⟩ = some (.int .i64 0) := (blk_cell BK242.out 0).trans rfl; have hcz30_1 : w29.cell? ⟨gb242, 1, none⟩ = some (.int .u64 0) := (blk_cell BK242.out 1).trans rfl; have hcz30_2 : w29.cell? ⟨gb242, 2, none⟩ = some (.string (⟨#[]⟩ : ByteArray)) := (blk_cell BK242.out 2).trans rfl; have hfz30_0 := blk_frozen BK242.out 0; have hfz30_1 := blk_frozen BK242.out 1; have hfz30_2 := blk_frozen BK242.out 2))
    (try simp only [Act.put, List.setIfInBounds_toArray, List.set_cons_zero, List.set_cons_succ])
    go_cut [83] (fun v83 wc => ∃ (kq : Nat) (x83_26 : Bool), v83 = .bool x83_26 ∧ Aside0 (turnbucklelaw11_SymPlaces.j2 kq a1 x5_4 x6_4 t236 x83_26 = some r) ∧ Aside0 (kq ≤ kj4) ∧ Aside0 (Kd.R k28 28 wc w.heap.size (fun k_ => some k_ ≠ (v237 : Value).ownBlock) u5 x5_4) ∧ Aside0 (Kd.R k28 28 wc w.heap.size (fun k_ => some k_ ≠ (u5 : Value).ownBlock) v237 t236) ∧ Aside0 (wc.heap[gb242]? = some (.cells #[.int .i64 t239, .int .u64 t240, .string t241] 35 (0, 0))) ∧ Aside0 (Below w.heap.size w wc))
    case first =>
     have H := HC27.out
     clear HC27
     replace H := Option.bind_eq_some_iff.mp H
     obtain ⟨t243, A310, H⟩ := H
     replace H : (if t243 = true then (turnbucklelaw11_SymPlaces.j2 kj4 a1 x5_4 x6_4 t236 ((t236.length : Int) != (x5_4.length : Int))) else (turnbucklelaw11_SymPlaces.j2 kj4 a1 x5_4 x6_4 t236 true)) = some r := H
     have A31 := Aside0.mk A310
     clear A310
     by_cases c32 : t243 = true
     ·subst c32
      have H1 : (turnbucklelaw11_SymPlaces.j2 kj4 a1 x5_4 x6_4 t236 ((t236.length : Int) != (x5_4.length : Int))) = some r := by rw [if_pos rfl] at H; exact H
      clear H
      have H := H1
      clear H1
      have H' := Aside0.mk H
      clear H
      have hcz33_0 : w29.cell? ⟨gb242, 0, none⟩ = some (.int .i64 0) := (blk_cell BK242.out 0).trans rfl
      have hcz33_1 : w29.cell? ⟨gb242, 1, none⟩ = some (.int .u64 0) := (blk_cell BK242.out 1).trans rfl
      have hcz33_2 : w29.cell? ⟨gb242, 2, none⟩ = some (.string (⟨#[]⟩ : ByteArray)) := (blk_cell BK242.out 2).trans rfl
      have hfz33_0 := blk_frozen BK242.out 0
      have hfz33_1 := blk_frozen BK242.out 1
      have hfz33_2 := blk_frozen BK242.out 2
      go_wp2_with (first | ((with_reducible refine gate_callee (f := 11) rfl ?_); refine goesL_ (some 75) rfl rfl Try.func11 (by kernel_rfl) rfl #[.agg #[.int .i64 t239, .int .u64 t240, .string t241]] rfl (by (try simp only [List.map_toArray, List.map_cons, List.map_nil]); first | done | rfl | (simp only [List.length_drop, List.length_take]; rfl)) ?_; (with_reducible refine (fail_Fault_OK.calls t239 t240 t241 true _ A31.out).mono ?_); rintro e w34 ⟨rfl, hb⟩; refine ⟨_, rfl, ?_⟩; have n0_ := Aside0.mk (Kd.R_below (by (with_reducible repeat (first | apply Kd.R_alloc | apply Kd.R_drewN | apply Kd.R_drew)); exact (Kd.R_mono (Kd.R_far (p := ⟨gb242, 2, none⟩) (Kd.R_far (p := ⟨gb242, 1, none⟩) (Kd.R_far (p := ⟨gb242, 0, none⟩) (Kd.R_types HO_5.out BK242.out (by decide)) (fun _ hk => hk.2) (.int .i64 t239)) (fun _ hk => hk.2) (.int .u64 t240)) (fun _ hk => hk.2) (.string t241)) (fun _ h_ => h_.1))) hb); have n1_ := Aside0.mk (Kd.R_below (by (with_reducible repeat (first | apply Kd.R_alloc | apply Kd.R_drewN | apply Kd.R_drew)); exact (Kd.R_mono (Kd.R_far (p := ⟨gb242, 2, none⟩) (Kd.R_far (p := ⟨gb242, 1, none⟩) (Kd.R_far (p := ⟨gb242, 0, none⟩) (Kd.R_types HO238.out BK242.out (by decide)) (fun _ hk => hk.2) (.int .i64 t239)) (fun _ hk => hk.2) (.int .u64 t240)) (fun _ hk => hk.2) (.string t241)) (fun _ h_ => h_.1))) hb); have n2_ := Aside0.mk (blk_below (g := gb242) (o := .cells #[.int .i64 t239, .int .u64 t240, .string t241] 35 (0, 0)) (by (with_reducible repeat (first | refine blk_drewN ?_ _ | refine blk_drew ?_ | refine blk_alloc ?_ _)); refine blk_put (cs := #[.int .i64 t239, .int .u64 t240, .string (⟨#[]⟩ : ByteArray)]) ?_ 2 _ rfl; (with_reducible repeat (first | refine blk_drewN ?_ _ | refine blk_drew ?_ | refine blk_alloc ?_ _)); refine blk_put (cs := #[.int .i64 t239, .int .u64 0, .string (⟨#[]⟩ : ByteArray)]) ?_ 1 _ rfl; (with_reducible repeat (first | refine blk_drewN ?_ _ | refine blk_drew ?_ | refine blk_alloc ?_ _)); refine blk_put (cs := #[.int .i64 0, .int .u64 0, .string (⟨#[]⟩ : ByteArray)]) ?_ 0 _ rfl; (with_reducible repeat (first | refine blk_drewN ?_ _ | refine blk_drew ?_ | refine blk_alloc ?_ _)); exact BK242.out) hb); have n3_ := Aside0.mk (below_step (by repeat (first | (with_reducible first | exact HB.out | apply below_alloc | apply pw_below_drewN | apply below_drew1 | refine below_set ?_ GE242.out) | exact HB.out)) hb); clear HO_5; clear HO238; clear BK242; clear HB; have HO_5 := n0_; have HO238 := n1_; have BK242 := n2_; have HB := n3_; clear n0_ n1_ n2_ n3_; (try clear hb); (try clear hb2); (try clear hk); (try clear hi); obtain ⟨Ao35, co35, eo35⟩ := Kd.R_slice HO238.out; subst eo35; obtain ⟨Ao36, co36, eo36⟩ := Kd.R_slice HO_5.out; subst eo36))
      (try subst hji11)
      (try subst hji13)
      (try subst hji10)
      (try subst hji4)
      (try subst hji12)
      (try subst hji16)
      (try subst hji22)
      (try subst hji27)
      (try subst hji32)
      (try subst hji6)
      (try subst hji12)
      go_meet
      case rel => exact ⟨_, (((t236.length : Int) != (x5_4.length : Int))), (by first | rfl | (simp; done) | (simp [*]; done)), H', ⟨by have := HJ4.out; first | omega | exact Nat.le_refl _⟩, ⟨by (with_reducible repeat (first | apply Kd.R_alloc | apply Kd.R_drewN | apply Kd.R_drew)); exact Kd.R_mono HO_5.out (fun _ hk => hk.2)⟩, ⟨by (with_reducible repeat (first | apply Kd.R_alloc | apply Kd.R_drewN | apply Kd.R_drew)); exact Kd.R_mono HO238.out (fun _ hk => hk.2)⟩, ⟨by (with_reducible repeat (first | refine blk_drewN ?_ _ | refine blk_drew ?_ | refine blk_alloc ?_ _)); exact BK242.out⟩, ⟨by repeat (first | (with_reducible first | exact HB.out | apply below_alloc | apply pw_below_drewN | apply below_drew1 | refine below_set ?_ GE242.out) | exact HB.out)⟩⟩
     ·replace c32 := Bool.eq_false_iff.mpr c32
      subst c32
      have H1 : (turnbucklelaw11_SymPlaces.j2 kj4 a1 x5_4 x6_4 t236 true) = some r := by rw [if_neg (show ¬ (false = true) by decide)] at H; exact H
      clear H
      have H := H1
      clear H1
      have H' := Aside0.mk H
      clear H
      have hcz37_0 : w29.cell? ⟨gb242, 0, none⟩ = some (.int .i64 0) := (blk_cell BK242.out 0).trans rfl
      have hcz37_1 : w29.cell? ⟨gb242, 1, none⟩ = some (.int .u64 0) := (blk_cell BK242.out 1).trans rfl
      have hcz37_2 : w29.cell? ⟨gb242, 2, none⟩ = some (.string (⟨#[]⟩ : ByteArray)) := (blk_cell BK242.out 2).trans rfl
      have hfz37_0 := blk_frozen BK242.out 0
      have hfz37_1 := blk_frozen BK242.out 1
      have hfz37_2 := blk_frozen BK242.out 2
      go_wp2_with (first | ((with_reducible refine gate_callee (f := 11) rfl ?_); refine goesL_ (some 75) rfl rfl Try.func11 (by kernel_rfl) rfl #[.agg #[.int .i64 t239, .int .u64 t240, .string t241]] rfl (by (try simp only [List.map_toArray, List.map_cons, List.map_nil]); first | done | rfl | (simp only [List.length_drop, List.length_take]; rfl)) ?_; (with_reducible refine (fail_Fault_OK.calls t239 t240 t241 false _ A31.out).mono ?_); rintro e w38 ⟨rfl, hb⟩; refine ⟨_, rfl, ?_⟩; have n0_ := Aside0.mk (Kd.R_below (by (with_reducible repeat (first | apply Kd.R_alloc | apply Kd.R_drewN | apply Kd.R_drew)); exact (Kd.R_mono (Kd.R_far (p := ⟨gb242, 2, none⟩) (Kd.R_far (p := ⟨gb242, 1, none⟩) (Kd.R_far (p := ⟨gb242, 0, none⟩) (Kd.R_types HO_5.out BK242.out (by decide)) (fun _ hk => hk.2) (.int .i64 t239)) (fun _ hk => hk.2) (.int .u64 t240)) (fun _ hk => hk.2) (.string t241)) (fun _ h_ => h_.1))) hb); have n1_ := Aside0.mk (Kd.R_below (by (with_reducible repeat (first | apply Kd.R_alloc | apply Kd.R_drewN | apply Kd.R_drew)); exact (Kd.R_mono (Kd.R_far (p := ⟨gb242, 2, none⟩) (Kd.R_far (p := ⟨gb242, 1, none⟩) (Kd.R_far (p := ⟨gb242, 0, none⟩) (Kd.R_types HO238.out BK242.out (by decide)) (fun _ hk => hk.2) (.int .i64 t239)) (fun _ hk => hk.2) (.int .u64 t240)) (fun _ hk => hk.2) (.string t241)) (fun _ h_ => h_.1))) hb); have n2_ := Aside0.mk (blk_below (g := gb242) (o := .cells #[.int .i64 t239, .int .u64 t240, .string t241] 35 (0, 0)) (by (with_reducible repeat (first | refine blk_drewN ?_ _ | refine blk_drew ?_ | refine blk_alloc ?_ _)); refine blk_put (cs := #[.int .i64 t239, .int .u64 t240, .string (⟨#[]⟩ : ByteArray)]) ?_ 2 _ rfl; (with_reducible repeat (first | refine blk_drewN ?_ _ | refine blk_drew ?_ | refine blk_alloc ?_ _)); refine blk_put (cs := #[.int .i64 t239, .int .u64 0, .string (⟨#[]⟩ : ByteArray)]) ?_ 1 _ rfl; (with_reducible repeat (first | refine blk_drewN ?_ _ | refine blk_drew ?_ | refine blk_alloc ?_ _)); refine blk_put (cs := #[.int .i64 0, .int .u64 0, .string (⟨#[]⟩ : ByteArray)]) ?_ 0 _ rfl; (with_reducible repeat (first | refine blk_drewN ?_ _ | refine blk_drew ?_ | refine blk_alloc ?_ _)); exact BK242.out) hb); have n3_ := Aside0.mk (below_step (by repeat (first | (with_reducible first | exact HB.out | apply below_alloc | apply pw_below_drewN | apply below_drew1 | refine below_set ?_ GE242.out) | exact HB.out)) hb); clear HO_5; clear HO238; clear BK242; clear HB; have HO_5 := n0_; have HO238 := n1_; have BK242 := n2_; have HB := n3_; clear n0_ n1_ n2_ n3_; (try clear hb); (try clear hb2); (try clear hk); (try clear hi)))
      (try subst hji11)
      (try subst hji13)
      (try subst hji10)
      (try subst hji4)
      (try subst hji12)
      (try subst hji16)
      (try subst hji22)
      (try subst hji27)
      (try subst hji32)
      (try subst hji6)
      (try subst hji12)
      go_meet
      case rel => exact ⟨_, (true), (by first | rfl | (simp; done) | (simp [*]; done)), H', ⟨by have := HJ4.out; first | omega | exact Nat.le_refl _⟩, ⟨by (with_reducible repeat (first | apply Kd.R_alloc | apply Kd.R_drewN | apply Kd.R_drew)); exact Kd.R_mono HO_5.out (fun _ hk => hk.2)⟩, ⟨by (with_reducible repeat (first | apply Kd.R_alloc | apply Kd.R_drewN | apply Kd.R_drew)); exact Kd.R_mono HO238.out (fun _ hk => hk.2)⟩, ⟨by (with_reducible repeat (first | refine blk_drewN ?_ _ | refine blk_drew ?_ | refine blk_alloc ?_ _)); exact BK242.out⟩, ⟨by repeat (first | (with_reducible first | exact HB.out | apply below_alloc | apply pw_below_drewN | apply below_drew1 | refine below_set ?_ GE242.out) | exact HB.out)⟩⟩
    case rest =>
     clear HC27
     try clear c1
     try clear p2
     try clear q2
     try clear hx2
     try clear c3
     try clear c4
     try clear p6
     try clear c7
     try clear c7b0
     try clear c8
     try clear c8b0
     try clear c9
     try clear c9b0
     try clear c10
     try clear c11
     try clear c12
     try clear c12b0
     try clear c12b1
     try clear c12b2
     try clear p22
     try clear q22
     try clear hx22
     try clear p23
     try clear q23
     try clear hx23
     try clear c32
     try clear hcz22_0
     try clear hcz22_1
     try clear hcz22_2
     try clear hcz22_3
     try clear hcz22_4
     try clear hcz22_5
     try clear hcz22_6
     try clear hcz24_0
     try clear hcz24_1
     try clear hcz24_2
     try clear hcz24_3
     try clear hcz24_4
     try clear hcz24_5
     try clear hcz24_6
     try clear hcz30_0
     try clear hcz30_1
     try clear hcz30_2
     try clear hcz33_0
     try clear hcz33_1
     try clear hcz33_2
     try clear hcz37_0
     try clear hcz37_1
     try clear hcz37_2
     try clear hfz22_0
     try clear hfz22_1
     try clear hfz22_2
     try clear hfz22_3
     try clear hfz22_4
     try clear hfz22_5
     try clear hfz22_6
     try clear hfz24_0
     try clear hfz24_1
     try clear hfz24_2
     try clear hfz24_3
     try clear hfz24_4
     try clear hfz24_5
     try clear hfz24_6
     try clear hfz30_0
     try clear hfz30_1
     try clear hfz30_2
     try clear hfz33_0
     try clear hfz33_1
     try clear hfz33_2
     try clear hfz37_0
     try clear hfz37_1
     try clear hfz37_2
     try clear hx225_0
     try clear hx225_1
     try clear hx225_2
     try clear hx225_3
     try clear hx225_4
     try clear hx225_5
     try clear hx226_0
     try clear hx226_1
     try clear hx226_2
     try clear hx226_3
     try clear hx226_4
     try clear hx226_5
     try clear hx227_0
     try clear hx227_1
     try clear hx227_2
     try clear hx227_3
     try clear hx227_4
     try clear hx227_5
     try clear hx228_0
     try clear hx228_1
     try clear hx228_2
     try clear hx228_3
     try clear hx228_4
     try clear hx228_5
     try clear hx229_0
     try clear hx229_1
     try clear hx229_2
     try clear hx229_3
     try clear hx229_4
     try clear hx229_5
     try clear hx230_0
     try clear hx230_1
     try clear hx230_2
     try clear hx230_3
     try clear hx230_4
     try clear hx230_5
     try clear p2
     try clear p22
     try clear p225
     try clear p226
     try clear p227
     try clear p228
     try clear p229
     try clear p23
     try clear p230
     try clear p6
     try clear q2
     try clear q22
     try clear q225
     try clear q226
     try clear q227
     try clear q228
     try clear q229
     try clear q23
     try clear q230
     obtain ⟨kq, x83_26, rfl, HA, HJ26, HO_5, HO_9, BK242, HB⟩ := hcut
     cases kq with
     | zero => exact absurd HA.out (by simp [turnbucklelaw11_SymPlaces.j2])
     | succ kj26 =>
      have H := HA.out
      clear HA
      simp only [turnbucklelaw11_SymPlaces.j2] at H
      by_cases c39 : x83_26 = true
      ·subst c39
       have H1 : (some false) = some r := by rw [if_pos rfl] at H; exact H
       clear H
       have H := H1
       clear H1
       obtain rfl := Option.some.inj H
       go_wp2
       go_ret
       exact ⟨by first | rfl | (simp [errW_none, errW_some] <;> rfl) | (simp [*, errW_none, errW_some] <;> rfl), by repeat (first | (with_reducible first | exact HB.out | apply below_alloc | apply pw_below_drewN | apply below_drew1 | refine below_set ?_ GE242.out) | exact HB.out)⟩
      ·replace c39 := Bool.eq_false_iff.mpr c39
       subst c39
       have H1 : (turnbucklelaw11_SymPlaces.l1 kj26 a1 x5_4 x6_4 t236 0) = some r := by rw [if_neg (show ¬ (false = true) by decide)] at H; exact H
       clear H
       have H := H1
       clear H1
       have H' := Aside0.mk H
       clear H
       go_wp2
       go_loopg [11] kj26 (fun kq v11 w' => ∃ (x11_3 : Int), v11 = .int .i64 x11_3 ∧ Aside0 (turnbucklelaw11_SymPlaces.l1 kq a1 x5_4 x6_4 t236 x11_3 = some r) ∧ Aside0 (kq ≤ kj26) ∧ Aside0 (Kd.R k28 28 w' w.heap.size (fun k_ => some k_ ≠ (v237 : Value).ownBlock) u5 x5_4) ∧ Aside0 (Kd.R k28 28 w' w.heap.size (fun k_ => some k_ ≠ (u5 : Value).ownBlock) v237 t236) ∧ Aside0 (w'.heap[gb242]? = some (.cells #[.int .i64 t239, .int .u64 t240, .string t241] 35 (0, 0))) ∧ Aside0 (Below w.heap.size w w'))
       case atStart => exact ⟨(0), (by first | rfl | (simp; done) | (simp [*]; done)), H', ⟨Nat.le_refl _⟩, ⟨by (with_reducible repeat (first | apply Kd.R_alloc | apply Kd.R_drewN | apply Kd.R_drew)); exact HO_5.out⟩, ⟨by (with_reducible repeat (first | apply Kd.R_alloc | apply Kd.R_drewN | apply Kd.R_drew)); exact HO_9.out⟩, ⟨by (with_reducible repeat (first | refine blk_drewN ?_ _ | refine blk_drew ?_ | refine blk_alloc ?_ _)); exact BK242.out⟩, ⟨by repeat (first | (with_reducible first | exact HB.out | apply below_alloc | apply pw_below_drewN | apply below_drew1 | refine below_set ?_ GE242.out) | exact HB.out)⟩⟩
       case round =>
        clear H'
        try clear c1
        try clear p2
        try clear q2
        try clear hx2
        try clear c3
        try clear c4
        try clear p6
        try clear c7
        try clear c7b0
        try clear c8
        try clear c8b0
        try clear c9
        try clear c9b0
        try clear c10
        try clear c11
        try clear c12
        try clear c12b0
        try clear c12b1
        try clear c12b2
        try clear p22
        try clear q22
        try clear hx22
        try clear p23
        try clear q23
        try clear hx23
        try clear c32
        try clear c39
        try clear hcz22_0
        try clear hcz22_1
        try clear hcz22_2
        try clear hcz22_3
        try clear hcz22_4
        try clear hcz22_5
        try clear hcz22_6
        try clear hcz24_0
        try clear hcz24_1
        try clear hcz24_2
        try clear hcz24_3
        try clear hcz24_4
        try clear hcz24_5
        try clear hcz24_6
        try clear hcz30_0
        try clear hcz30_1
        try clear hcz30_2
        try clear hcz33_0
        try clear hcz33_1
        try clear hcz33_2
        try clear hcz37_0
        try clear hcz37_1
        try clear hcz37_2
        try clear hfz22_0
        try clear hfz22_1
        try clear hfz22_2
        try clear hfz22_3
        try clear hfz22_4
        try clear hfz22_5
        try clear hfz22_6
        try clear hfz24_0
        try clear hfz24_1
        try clear hfz24_2
        try clear hfz24_3
        try clear hfz24_4
        try clear hfz24_5
        try clear hfz24_6
        try clear hfz30_0
        try clear hfz30_1
        try clear hfz30_2
        try clear hfz33_0
        try clear hfz33_1
        try clear hfz33_2
        try clear hfz37_0
        try clear hfz37_1
        try clear hfz37_2
        try clear hx225_0
        try clear hx225_1
        try clear hx225_2
        try clear hx225_3
        try clear hx225_4
        try clear hx225_5
        try clear hx226_0
        try clear hx226_1
        try clear hx226_2
        try clear hx226_3
        try clear hx226_4
        try clear hx226_5
        try clear hx227_0
        try clear hx227_1
        try clear hx227_2
        try clear hx227_3
        try clear hx227_4
        try clear hx227_5
        try clear hx228_0
        try clear hx228_1
        try clear hx228_2
        try clear hx228_3
        try clear hx228_4
        try clear hx228_5
        try clear hx229_0
        try clear hx229_1
        try clear hx229_2
        try clear hx229_3
        try clear hx229_4
        try clear hx229_5
        try clear hx230_0
        try clear hx230_1
        try clear hx230_2
        try clear hx230_3
        try clear hx230_4
        try clear hx230_5
        try clear p2
        try clear p22
        try clear p225
        try clear p226
        try clear p227
        try clear p228
        try clear p229
        try clear p23
        try clear p230
        try clear p6
        try clear q2
        try clear q22
        try clear q225
        try clear q226
        try clear q227
        try clear q228
        try clear q229
        try clear q23
        try clear q230
        obtain ⟨x11_3, rfl, HA, HK3, HO_5, HO_9, BK242, HB⟩ := hrel
        cases gk with
        | zero => exact absurd HA.out (by simp [turnbucklelaw11_SymPlaces.l1])
        | succ k3 =>
         have H := HA.out
         clear HA
         simp only [turnbucklelaw11_SymPlaces.l1] at H
         by_cases c40 : x11_3 < (x5_4.length : Int)
         ·rw [if_pos c40] at H
          have c40b0 : decide (x11_3 < (x5_4.length : Int)) = true := decide_eq_true c40
          clear c40
          by_cases c41 : 0 ≤ x11_3
          ·rw [if_pos c41] at H
           have c41b0 : decide (0 ≤ x11_3) = true := decide_eq_true c41
           clear c41
           by_cases c42 : x11_3 < (t236.length : Int)
           ·rw [if_pos c42] at H
            have c42b0 : decide (x11_3 < (t236.length : Int)) = true := decide_eq_true c42
            clear c42
            by_cases c43 : (!((((rd_T28 t236 x11_3).f0).toList) == (((rd_T28 x5_4 x11_3).f0).toList)) || (!(((rd_T28 t236 x11_3).f1) == ((rd_T28 x5_4 x11_3).f1)) || (!(((rd_T28 t236 x11_3).f2) == ((rd_T28 x5_4 x11_3).f2)) || (!(((rd_T28 t236 x11_3).f3) == ((rd_T28 x5_4 x11_3).f3)) || (!(((rd_T28 t236 x11_3).f4) == ((rd_T28 x5_4 x11_3).f4)) || (!(((rd_T28 t236 x11_3).f5) == ((rd_T28 x5_4 x11_3).f5)) || (!(((rd_T28 t236 x11_3).f6) == ((rd_T28 x5_4 x11_3).f6))))))))) = true
            ·rw [if_pos c43] at H
             have c43b0 : (!((((rd_T28 t236 x11_3).f0).toList) == (((rd_T28 x5_4 x11_3).f0).toList)) || (!(((rd_T28 t236 x11_3).f1) == ((rd_T28 x5_4 x11_3).f1)) || (!(((rd_T28 t236 x11_3).f2) == ((rd_T28 x5_4 x11_3).f2)) || (!(((rd_T28 t236 x11_3).f3) == ((rd_T28 x5_4 x11_3).f3)) || (!(((rd_T28 t236 x11_3).f4) == ((rd_T28 x5_4 x11_3).f4)) || (!(((rd_T28 t236 x11_3).f5) == ((rd_T28 x5_4 x11_3).f5)) || (!(((rd_T28 t236 x11_3).f6) == ((rd_T28 x5_4 x11_3).f6))))))))) = true := c43
             clear c43
             obtain rfl := Option.some.inj H
             obtain ⟨Ao44, co44, eo44⟩ := Kd.R_slice HO_5.out
             subst eo44
             try go_wp2
             have n0_ := Aside0.mk (Kd.R_drew HO_5.out)
             have n1_ := Aside0.mk (Kd.R_drew HO_9.out)
             have n2_ := Aside0.mk (blk_drew BK242.out)
             have n3_ := Aside0.mk (below_drew1 HB.out)
             clear HO_5
             clear HO_9
             clear BK242
             clear HB
             have HO_5 := n0_
             have HO_9 := n1_
             have BK242 := n2_
             have HB := n3_
             clear n0_ n1_ n2_ n3_
             obtain ⟨Ao46, co46, eo46⟩ := Kd.R_slice HO_9.out
             (first | subst eo46 | (injection eo46 with f1_ f2_ f3_; have f4_ := f1_.symm; have f5_ := f3_.symm; clear f1_ f2_ f3_; subst f4_; subst f5_))
             have p244 : 0 ≤ (x11_3 : Int) := of_decide_eq_true (by first | (with_reducible assumption) | assumption)
             have q244 : x11_3 < (t236.length : Int) := of_decide_eq_true (by first | (with_reducible assumption) | assumption)
             obtain ⟨ad244, e244, hx244_0, hx244_1, hx244_2, hx244_3, hx244_4, hx244_5, hx244_6⟩ := at_T28 (Kd.R_reads' HO_9.out).2.2 x11_3 p244 q244
             cases e244
             replace p244 := eq_true p244
             replace q244 := eq_true q244
             have p245 : 0 ≤ (x11_3 : Int) := of_decide_eq_true (by first | (with_reducible assumption) | assumption)
             have q245 : x11_3 < (x5_4.length : Int) := of_decide_eq_true (by first | (with_reducible assumption) | assumption)
             obtain ⟨ad245, e245, hx245_0, hx245_1, hx245_2, hx245_3, hx245_4, hx245_5, hx245_6⟩ := at_T28 (Kd.R_reads' HO_5.out).2.2 x11_3 p245 q245
             cases e245
             replace p245 := eq_true p245
             replace q245 := eq_true q245
             refine start_ (n := 9) (S := fun w' => w'.cell? (ad244.add ((x11_3).toNat * 7)) = some (.string ((rd_T28 t236 x11_3).f0)) ∧ w'.cell? ⟨(ad244.add ((x11_3).toNat * 7)).block, (ad244.add ((x11_3).toNat * 7)).off + 1, none⟩ = some (.int .i64 ((rd_T28 t236 x11_3).f1)) ∧ w'.cell? ⟨(ad244.add ((x11_3).toNat * 7)).block, (ad244.add ((x11_3).toNat * 7)).off + 2, none⟩ = some (.int .i64 ((rd_T28 t236 x11_3).f2)) ∧ w'.cell? ⟨(ad244.add ((x11_3).toNat * 7)).block, (ad244.add ((x11_3).toNat * 7)).off + 3, none⟩ = some (.int .i64 ((rd_T28 t236 x11_3).f3)) ∧ w'.cell? ⟨(ad244.add ((x11_3).toNat * 7)).block, (ad244.add ((x11_3).toNat * 7)).off + 4, none⟩ = some (.bool ((rd_T28 t236 x11_3).f4)) ∧ w'.cell? ⟨(ad244.add ((x11_3).toNat * 7)).block, (ad244.add ((x11_3).toNat * 7)).off + 5, none⟩ = some (.int .u64 ((rd_T28 t236 x11_3).f5)) ∧ w'.cell? ⟨(ad244.add ((x11_3).toNat * 7)).block, (ad244.add ((x11_3).toNat * 7)).off + 6, none⟩ = some (.int .u64 ((rd_T28 t236 x11_3).f6)) ∧ w'.cell? (ad245.add ((x11_3).toNat * 7)) = some (.string ((rd_T28 x5_4 x11_3).f0)) ∧ w'.cell? ⟨(ad245.add ((x11_3).toNat * 7)).block, (ad245.add ((x11_3).toNat * 7)).off + 1, none⟩ = some (.int .i64 ((rd_T28 x5_4 x11_3).f1)) ∧ w'.cell? ⟨(ad245.add ((x11_3).toNat * 7)).block, (ad245.add ((x11_3).toNat * 7)).off + 2, none⟩ = some (.int .i64 ((rd_T28 x5_4 x11_3).f2)) ∧ w'.cell? ⟨(ad245.add ((x11_3).toNat * 7)).block, (ad245.add ((x11_3).toNat * 7)).off + 3, none⟩ = some (.int .i64 ((rd_T28 x5_4 x11_3).f3)) ∧ w'.cell? ⟨(ad245.add ((x11_3).toNat * 7)).block, (ad245.add ((x11_3).toNat * 7)).off + 4, none⟩ = some (.bool ((rd_T28 x5_4 x11_3).f4)) ∧ w'.cell? ⟨(ad245.add ((x11_3).toNat * 7)).block, (ad245.add ((x11_3).toNat * 7)).off + 5, none⟩ = some (.int .u64 ((rd_T28 x5_4 x11_3).f5)) ∧ w'.cell? ⟨(ad245.add ((x11_3).toNat * 7)).block, (ad245.add ((x11_3).toNat * 7)).off + 6, none⟩ = some (.int .u64 ((rd_T28 x5_4 x11_3).f6))) (ds := []) #[false,false,false,false,false,false,false,false,false] (by kernel_rfl) rfl rfl ⟨hx244_0, hx244_1, hx244_2, hx244_3, hx244_4, hx244_5, hx244_6, hx245_0, hx245_1, hx245_2, hx245_3, hx245_4, hx245_5, hx245_6⟩ (fun hHeld => ?_); refine with_tabW turnbucklelaw11_SymPlaces.tab17 turnbucklelaw11_SymPlaces.bits17 (fun HT_ HW_ => ?_)
             generalize wr.drew = w45 at HO_5 HO_9 BK242 HB hx244_0 hx244_1 hx244_2 hx244_3 hx244_4 hx244_5 hx244_6 hx245_0 hx245_1 hx245_2 hx245_3 hx245_4 hx245_5 hx245_6 hHeld ⊢
             refine pure_ (i:=0) (N := some 90) (v:=?_) (a':=?_) #[true,false,false,false,false,false,false,false,false] rfl rfl (any_of HT_.out (by kernel_rfl)) (fun _ _ _ h=>h) (Or.inl ⟨by rfl, ?_⟩) ?_ ?_
             rotate_left
             ·intro w'
              go_simp
              with_reducible rfl
             rotate_left
             ·simp only [Act.put,lz1,lz2,lz3,i64_w,i32_w]
              rfl
             refine pure_ (i:=1) (N := some 91) (v:=?_) (a':=?_) #[true,true,false,false,false,false,false,false,false] rfl rfl (any_of HT_.out (by kernel_rfl)) (fun _ _ _ h=>h) (Or.inl ⟨by rfl, ?_⟩) ?_ ?_
             rotate_left
             ·intro w'
              go_simp
              with_reducible rfl
             rotate_left
             ·simp only [Act.put,lz1,lz2,lz3,i64_w,i32_w]
              rfl
             refine pure_ (i:=2) (N := some 92) (v:=?_) (a':=?_) #[true,true,true,false,false,false,false,false,false] rfl rfl (any_of HT_.out (by kernel_rfl)) (fun _ _ _ h=>h) (Or.inl ⟨by rfl, ?_⟩) ?_ ?_
             rotate_left
             ·intro w'
              go_simp
              with_reducible rfl
             rotate_left
             ·simp only [Act.put,lz1,lz2,lz3,i64_w,i32_w]
              rfl
             refine pure_ (i:=4) (N := some 94) (v:=?_) (a':=?_) #[true,true,true,false,true,false,false,false,false] rfl rfl (any_of HT_.out (by kernel_rfl)) (fun _ _ _ h=>h) (Or.inl ⟨by rfl, ?_⟩) ?_ ?_
             rotate_left
             ·intro w'
              go_simp
              with_reducible rfl
             rotate_left
             ·simp only [Act.put,lz1,lz2,lz3,i64_w,i32_w]
              rfl
             refine pure_ (i:=5) (N := some 95) (v:=?_) (a':=?_) #[true,true,true,false,true,true,false,false,false] rfl rfl (any_of HT_.out (by kernel_rfl)) (fun _ _ _ h=>h) (Or.inl ⟨by rfl, ?_⟩) ?_ ?_
             rotate_left
             ·intro w'
              go_simp
              with_reducible rfl
             rotate_left
             ·simp only [Act.put,lz1,lz2,lz3,i64_w,i32_w]
              rfl
             refine pure_ (i:=6) (N := some 96) (v:=?_) (a':=?_) #[true,true,true,false,true,true,true,false,false] rfl rfl (any_of HT_.out (by kernel_rfl)) (fun _ _ _ h=>h) (Or.inl ⟨by rfl, ?_⟩) ?_ ?_
             rotate_left
             ·intro w'
              go_simp
              with_reducible rfl
             rotate_left
             ·simp only [Act.put,lz1,lz2,lz3,i64_w,i32_w]
              rfl
             refine take_ (i := 3) (N := some 93) (v:=?_) (a':=?_) #[true,true,true,true,true,true,true,false,false] rfl rfl (take_ofW HT_.out HW_.out (by kernel_rfl)) (fun _ _ _ h=>h) (Or.inl ⟨by rfl, ?_⟩) hHeld ?_ ?_
             rotate_left
             ·rintro w' ⟨s0, s1, s2, s3, s4, s5, s6, s7, s8, s9, s10, s11, s12, s13⟩
              go_simp
              with_reducible rfl
             rotate_left
             ·simp only [Act.put,lz1,lz2,lz3,i64_w,i32_w]
              rfl
             refine take_ (i := 7) (N := some 97) (v:=?_) (a':=?_) #[true,true,true,true,true,true,true,true,false] rfl rfl (take_ofW HT_.out HW_.out (by kernel_rfl)) (fun _ _ _ h=>h) (Or.inl ⟨by rfl, ?_⟩) hHeld ?_ ?_
             rotate_left
             ·rintro w' ⟨s0, s1, s2, s3, s4, s5, s6, s7, s8, s9, s10, s11, s12, s13⟩
              go_simp
              with_reducible rfl
             rotate_left
             ·simp only [Act.put,lz1,lz2,lz3,i64_w,i32_w]
              rfl
             refine pure_ (i:=8) (N := some 98) (v:=?_) (a':=?_) #[true,true,true,true,true,true,true,true,true] rfl rfl (any_of HT_.out (by kernel_rfl)) (fun _ _ _ h=>h) (Or.inl ⟨by rfl, ?_⟩) ?_ ?_
             rotate_left
             ·intro w'
              go_simp
              first | with_reducible rfl | (refine Eq.trans (b := .ok (.value (.bool true)) w') ?_ (by with_reducible rfl); (repeat' (first | with_reducible rfl | split)); all_goals (first | rfl | (exfalso; simp_all; done))) | (refine Eq.trans (b := .ok (.value (.bool false)) w') ?_ (by with_reducible rfl); (repeat' (first | with_reducible rfl | split)); all_goals (first | rfl | (exfalso; simp_all; done)))
             rotate_left
             ·simp only [Act.put,lz1,lz2,lz3,i64_w,i32_w]
              rfl
             refine done_ (done_of HT_.out (by kernel_rfl)) ?_
             try go_wp2
             go_ret
             exact ⟨by first | rfl | (simp [errW_none, errW_some] <;> rfl) | (simp [*, errW_none, errW_some] <;> rfl), by repeat (first | (with_reducible first | exact HB.out | apply below_alloc | apply pw_below_drewN | apply below_drew1 | refine below_set ?_ GE242.out) | exact HB.out)⟩
            ·rw [if_neg c43] at H
             have c43b0 : (!((((rd_T28 t236 x11_3).f0).toList) == (((rd_T28 x5_4 x11_3).f0).toList)) || (!(((rd_T28 t236 x11_3).f1) == ((rd_T28 x5_4 x11_3).f1)) || (!(((rd_T28 t236 x11_3).f2) == ((rd_T28 x5_4 x11_3).f2)) || (!(((rd_T28 t236 x11_3).f3) == ((rd_T28 x5_4 x11_3).f3)) || (!(((rd_T28 t236 x11_3).f4) == ((rd_T28 x5_4 x11_3).f4)) || (!(((rd_T28 t236 x11_3).f5) == ((rd_T28 x5_4 x11_3).f5)) || (!(((rd_T28 t236 x11_3).f6) == ((rd_T28 x5_4 x11_3).f6))))))))) = false := by simpa using c43
             clear c43
             have H' := Aside0.mk H
             clear H
             obtain ⟨Ao47, co47, eo47⟩ := Kd.R_slice HO_5.out
             subst eo47
             try go_wp2
             have n0_ := Aside0.mk (Kd.R_drew HO_5.out)
             have n1_ := Aside0.mk (Kd.R_drew HO_9.out)
             have n2_ := Aside0.mk (blk_drew BK242.out)
             have n3_ := Aside0.mk (below_drew1 HB.out)
             clear HO_5
             clear HO_9
             clear BK242
             clear HB
             have HO_5 := n0_
             have HO_9 := n1_
             have BK242 := n2_
             have HB := n3_
             clear n0_ n1_ n2_ n3_
             obtain ⟨Ao49, co49, eo49⟩ := Kd.R_slice HO_9.out
             (first | subst eo49 | (injection eo49 with f1_ f2_ f3_; have f4_ := f1_.symm; have f5_ := f3_.symm; clear f1_ f2_ f3_; subst f4_; subst f5_))
             have p244 : 0 ≤ (x11_3 : Int) := of_decide_eq_true (by first | (with_reducible assumption) | assumption)
             have q244 : x11_3 < (t236.length : Int) := of_decide_eq_true (by first | (with_reducible assumption) | assumption)
             obtain ⟨ad244, e244, hx244_0, hx244_1, hx244_2, hx244_3, hx244_4, hx244_5, hx244_6⟩ := at_T28 (Kd.R_reads' HO_9.out).2.2 x11_3 p244 q244
             cases e244
             replace p244 := eq_true p244
             replace q244 := eq_true q244
             have p245 : 0 ≤ (x11_3 : Int) := of_decide_eq_true (by first | (with_reducible assumption) | assumption)
             have q245 : x11_3 < (x5_4.length : Int) := of_decide_eq_true (by first | (with_reducible assumption) | assumption)
             obtain ⟨ad245, e245, hx245_0, hx245_1, hx245_2, hx245_3, hx245_4, hx245_5, hx245_6⟩ := at_T28 (Kd.R_reads' HO_5.out).2.2 x11_3 p245 q245
             cases e245
             replace p245 := eq_true p245
             replace q245 := eq_true q245
             refine start_ (n := 9) (S := fun w' => w'.cell? (ad244.add ((x11_3).toNat * 7)) = some (.string ((rd_T28 t236 x11_3).f0)) ∧ w'.cell? ⟨(ad244.add ((x11_3).toNat * 7)).block, (ad244.add ((x11_3).toNat * 7)).off + 1, none⟩ = some (.int .i64 ((rd_T28 t236 x11_3).f1)) ∧ w'.cell? ⟨(ad244.add ((x11_3).toNat * 7)).block, (ad244.add ((x11_3).toNat * 7)).off + 2, none⟩ = some (.int .i64 ((rd_T28 t236 x11_3).f2)) ∧ w'.cell? ⟨(ad244.add ((x11_3).toNat * 7)).block, (ad244.add ((x11_3).toNat * 7)).off + 3, none⟩ = some (.int .i64 ((rd_T28 t236 x11_3).f3)) ∧ w'.cell? ⟨(ad244.add ((x11_3).toNat * 7)).block, (ad244.add ((x11_3).toNat * 7)).off + 4, none⟩ = some (.bool ((rd_T28 t236 x11_3).f4)) ∧ w'.cell? ⟨(ad244.add ((x11_3).toNat * 7)).block, (ad244.add ((x11_3).toNat * 7)).off + 5, none⟩ = some (.int .u64 ((rd_T28 t236 x11_3).f5)) ∧ w'.cell? ⟨(ad244.add ((x11_3).toNat * 7)).block, (ad244.add ((x11_3).toNat * 7)).off + 6, none⟩ = some (.int .u64 ((rd_T28 t236 x11_3).f6)) ∧ w'.cell? (ad245.add ((x11_3).toNat * 7)) = some (.string ((rd_T28 x5_4 x11_3).f0)) ∧ w'.cell? ⟨(ad245.add ((x11_3).toNat * 7)).block, (ad245.add ((x11_3).toNat * 7)).off + 1, none⟩ = some (.int .i64 ((rd_T28 x5_4 x11_3).f1)) ∧ w'.cell? ⟨(ad245.add ((x11_3).toNat * 7)).block, (ad245.add ((x11_3).toNat * 7)).off + 2, none⟩ = some (.int .i64 ((rd_T28 x5_4 x11_3).f2)) ∧ w'.cell? ⟨(ad245.add ((x11_3).toNat * 7)).block, (ad245.add ((x11_3).toNat * 7)).off + 3, none⟩ = some (.int .i64 ((rd_T28 x5_4 x11_3).f3)) ∧ w'.cell? ⟨(ad245.add ((x11_3).toNat * 7)).block, (ad245.add ((x11_3).toNat * 7)).off + 4, none⟩ = some (.bool ((rd_T28 x5_4 x11_3).f4)) ∧ w'.cell? ⟨(ad245.add ((x11_3).toNat * 7)).block, (ad245.add ((x11_3).toNat * 7)).off + 5, none⟩ = some (.int .u64 ((rd_T28 x5_4 x11_3).f5)) ∧ w'.cell? ⟨(ad245.add ((x11_3).toNat * 7)).block, (ad245.add ((x11_3).toNat * 7)).off + 6, none⟩ = some (.int .u64 ((rd_T28 x5_4 x11_3).f6))) (ds := []) #[false,false,false,false,false,false,false,false,false] (by kernel_rfl) rfl rfl ⟨hx244_0, hx244_1, hx244_2, hx244_3, hx244_4, hx244_5, hx244_6, hx245_0, hx245_1, hx245_2, hx245_3, hx245_4, hx245_5, hx245_6⟩ (fun hHeld => ?_); refine with_tabW turnbucklelaw11_SymPlaces.tab17 turnbucklelaw11_SymPlaces.bits17 (fun HT_ HW_ => ?_)
             generalize wr.drew = w48 at HO_5 HO_9 BK242 HB hx244_0 hx244_1 hx244_2 hx244_3 hx244_4 hx244_5 hx244_6 hx245_0 hx245_1 hx245_2 hx245_3 hx245_4 hx245_5 hx245_6 hHeld ⊢
             refine pure_ (i:=0) (N := some 90) (v:=?_) (a':=?_) #[true,false,false,false,false,false,false,false,false] rfl rfl (any_of HT_.out (by kernel_rfl)) (fun _ _ _ h=>h) (Or.inl ⟨by rfl, ?_⟩) ?_ ?_
             rotate_left
             ·intro w'
              go_simp
              with_reducible rfl
             rotate_left
             ·simp only [Act.put,lz1,lz2,lz3,i64_w,i32_w]
              rfl
             refine pure_ (i:=1) (N := some 91) (v:=?_) (a':=?_) #[true,true,false,false,false,false,false,false,false] rfl rfl (any_of HT_.out (by kernel_rfl)) (fun _ _ _ h=>h) (Or.inl ⟨by rfl, ?_⟩) ?_ ?_
             rotate_left
             ·intro w'
              go_simp
              with_reducible rfl
             rotate_left
             ·simp only [Act.put,lz1,lz2,lz3,i64_w,i32_w]
              rfl
             refine pure_ (i:=2) (N := some 92) (v:=?_) (a':=?_) #[true,true,true,false,false,false,false,false,false] rfl rfl (any_of HT_.out (by kernel_rfl)) (fun _ _ _ h=>h) (Or.inl ⟨by rfl, ?_⟩) ?_ ?_
             rotate_left
             ·intro w'
              go_simp
              with_reducible rfl
             rotate_left
             ·simp only [Act.put,lz1,lz2,lz3,i64_w,i32_w]
              rfl
             refine pure_ (i:=4) (N := some 94) (v:=?_) (a':=?_) #[true,true,true,false,true,false,false,false,false] rfl rfl (any_of HT_.out (by kernel_rfl)) (fun _ _ _ h=>h) (Or.inl ⟨by rfl, ?_⟩) ?_ ?_
             rotate_left
             ·intro w'
              go_simp
              with_reducible rfl
             rotate_left
             ·simp only [Act.put,lz1,lz2,lz3,i64_w,i32_w]
              rfl
             refine pure_ (i:=5) (N := some 95) (v:=?_) (a':=?_) #[true,true,true,false,true,true,false,false,false] rfl rfl (any_of HT_.out (by kernel_rfl)) (fun _ _ _ h=>h) (Or.inl ⟨by rfl, ?_⟩) ?_ ?_
             rotate_left
             ·intro w'
              go_simp
              with_reducible rfl
             rotate_left
             ·simp only [Act.put,lz1,lz2,lz3,i64_w,i32_w]
              rfl
             refine pure_ (i:=6) (N := some 96) (v:=?_) (a':=?_) #[true,true,true,false,true,true,true,false,false] rfl rfl (any_of HT_.out (by kernel_rfl)) (fun _ _ _ h=>h) (Or.inl ⟨by rfl, ?_⟩) ?_ ?_
             rotate_left
             ·intro w'
              go_simp
              with_reducible rfl
             rotate_left
             ·simp only [Act.put,lz1,lz2,lz3,i64_w,i32_w]
              rfl
             refine take_ (i := 3) (N := some 93) (v:=?_) (a':=?_) #[true,true,true,true,true,true,true,false,false] rfl rfl (take_ofW HT_.out HW_.out (by kernel_rfl)) (fun _ _ _ h=>h) (Or.inl ⟨by rfl, ?_⟩) hHeld ?_ ?_
             rotate_left
             ·rintro w' ⟨s0, s1, s2, s3, s4, s5, s6, s7, s8, s9, s10, s11, s12, s13⟩
              go_simp
              with_reducible rfl
             rotate_left
             ·simp only [Act.put,lz1,lz2,lz3,i64_w,i32_w]
              rfl
             refine take_ (i := 7) (N := some 97) (v:=?_) (a':=?_) #[true,true,true,true,true,true,true,true,false] rfl rfl (take_ofW HT_.out HW_.out (by kernel_rfl)) (fun _ _ _ h=>h) (Or.inl ⟨by rfl, ?_⟩) hHeld ?_ ?_
             rotate_left
             ·rintro w' ⟨s0, s1, s2, s3, s4, s5, s6, s7, s8, s9, s10, s11, s12, s13⟩
              go_simp
              with_reducible rfl
             rotate_left
             ·simp only [Act.put,lz1,lz2,lz3,i64_w,i32_w]
              rfl
             refine pure_ (i:=8) (N := some 98) (v:=?_) (a':=?_) #[true,true,true,true,true,true,true,true,true] rfl rfl (any_of HT_.out (by kernel_rfl)) (fun _ _ _ h=>h) (Or.inl ⟨by rfl, ?_⟩) ?_ ?_
             rotate_left
             ·intro w'
              go_simp
              first | with_reducible rfl | (refine Eq.trans (b := .ok (.value (.bool true)) w') ?_ (by with_reducible rfl); (repeat' (first | with_reducible rfl | split)); all_goals (first | rfl | (exfalso; simp_all; done))) | (refine Eq.trans (b := .ok (.value (.bool false)) w') ?_ (by with_reducible rfl); (repeat' (first | with_reducible rfl | split)); all_goals (first | rfl | (exfalso; simp_all; done)))
             rotate_left
             ·simp only [Act.put,lz1,lz2,lz3,i64_w,i32_w]
              rfl
             refine done_ (done_of HT_.out (by kernel_rfl)) ?_
             try go_wp2
             go_roundg k3
             case measure => have := HJ4.out; have := HJ26.out; have := HK3.out; omega
             case rel => exact ⟨(wrap64 (x11_3 + 1)), (by first | rfl | (simp; done) | (simp [*]; done)), H', ⟨by have := HJ4.out; have := HJ26.out; have := HK3.out; omega⟩, ⟨by (with_reducible repeat (first | apply Kd.R_alloc | apply Kd.R_drewN | apply Kd.R_drew)); exact HO_5.out⟩, ⟨by (with_reducible repeat (first | apply Kd.R_alloc | apply Kd.R_drewN | apply Kd.R_drew)); exact HO_9.out⟩, ⟨by (with_reducible repeat (first | refine blk_drewN ?_ _ | refine blk_drew ?_ | refine blk_alloc ?_ _)); exact BK242.out⟩, ⟨by repeat (first | (with_reducible first | exact HB.out | apply below_alloc | apply pw_below_drewN | apply below_drew1 | refine below_set ?_ GE242.out) | exact HB.out)⟩⟩
           ·rw [if_neg c42] at H
            exact absurd H (by simp)
          ·rw [if_neg c41] at H
           exact absurd H (by simp)
         ·rw [if_neg c40] at H
          have c40b0 : decide (x11_3 < (x5_4.length : Int)) = false := decide_eq_false c40
          clear c40
          by_cases c50 : (x5_4.length : Int) = 0
          ·rw [if_pos c50] at H
           have c50b0 : ((x5_4.length : Int) == 0) = true := beq_iff_eq.mpr c50
           have c50b1 : ((x5_4.length : Int) != 0) = false := bne_eq_false_iff_eq.mpr c50
           clear c50
           obtain rfl := Option.some.inj H
           obtain ⟨Ao51, co51, eo51⟩ := Kd.R_slice HO_5.out
           subst eo51
           go_wp2
           go_ret
           exact ⟨by first | rfl | (simp [errW_none, errW_some] <;> rfl) | (simp [*, errW_none, errW_some] <;> rfl), by repeat (first | (with_reducible first | exact HB.out | apply below_alloc | apply pw_below_drewN | apply below_drew1 | refine below_set ?_ GE242.out) | exact HB.out)⟩
          ·rw [if_neg c50] at H
           have c50b0 : ((x5_4.length : Int) == 0) = false := beq_eq_false_iff_ne.mpr c50
           have c50b1 : ((x5_4.length : Int) != 0) = true := bne_iff_ne.mpr c50
           have c50b2 : ¬ (x5_4 = []) := fun h_ => c50 (by rw [h_]; rfl)
           obtain ⟨ji52, hji52⟩ : ∃ j_ : Int, (wrap64 (24 * (Int.tmod (wrap64 ((Int.tmod a1 (x5_4.length : Int)) + (x5_4.length : Int))) (x5_4.length : Int)))) = j_ := ⟨_, rfl⟩
           replace H : (if 0 ≤ (ji52) then (if (ji52) ≤ (x6_4.size : Int) then (if (x6_4.extract 0 ((ji52) : Int).toNat).size + 1 ≤ 9223372036854775807 then (if 0 ≤ (wrap64 ((ji52) + 1)) then (if (wrap64 ((ji52) + 1)) ≤ (x6_4.size : Int) then (if ((x6_4.extract 0 ((ji52) : Int).toNat) ++ (⟨#[9]⟩ : ByteArray)).size + (x6_4.extract ((wrap64 ((ji52) + 1)) : Int).toNat x6_4.size).size ≤ 9223372036854775807 then ((sym_Read.f k3 (((x6_4.extract 0 ((ji52) : Int).toNat) ++ (⟨#[9]⟩ : ByteArray)) ++ (x6_4.extract ((wrap64 ((ji52) + 1)) : Int).toNat x6_4.size)) (⟨#[120, 0]⟩ : ByteArray)).bind fun bt246 => (if bt246.2.1 = 25 then (some (bt246.2.2.1 == (IntKind.u64.wrap (ji52)))) else (some false))) else (none)) else (none)) else (none)) else (none)) else (none)) else (none)) = some r := by first | (rw [hji52] at H; exact H) | (simp only [hji52] at H ⊢; exact H)
           have hji52w : (IntKind.i64.wrap (24 * (Int.tmod (wrap64 ((Int.tmod a1 (x5_4.length : Int)) + (x5_4.length : Int))) (x5_4.length : Int)))) = ji52 := (i64_w _).trans hji52
           by_cases c53 : 0 ≤ (ji52)
           ·rw [if_pos c53] at H
            have c53b0 := eq_true c53
            have c53b1 : decide (0 ≤ (ji52)) = true := decide_eq_true c53
            clear c53
            by_cases c54 : (ji52) ≤ (x6_4.size : Int)
            ·rw [if_pos c54] at H
             have c54b0 := eq_true c54
             have c54b1 : decide ((ji52) ≤ (x6_4.size : Int)) = true := decide_eq_true c54
             clear c54
             by_cases c55 : (x6_4.extract 0 ((ji52) : Int).toNat).size + 1 ≤ 9223372036854775807
             ·rw [if_pos c55] at H
              have c55b0 := eq_true c55
              have c55b1 : decide ((x6_4.extract 0 ((ji52) : Int).toNat).size + 1 ≤ 9223372036854775807) = true := decide_eq_true c55
              try have c55b2 : (9223372036854775807 < (x6_4.extract 0 ((ji52) : Int).toNat).size + 1) = False := eq_false (Nat.not_lt.2 c55)
              (try (have c55b5 := c55b2; simp only [ByteArray.size_append, ByteArray.size_extract, Nat.sub_zero] at c55b5))
              (try (have c55b6 := c55b0; simp only [ByteArray.size_append, ByteArray.size_extract, Nat.sub_zero] at c55b6))
              (try (have c55b7 := c55b2; simp (discharger := (simp only [Int.toNat_le, *])) only [ByteArray.size_append, ByteArray.size_extract, Nat.sub_zero, Nat.min_self, Nat.min_eq_left] at c55b7))
              (try (have c55b8 := c55b0; simp (discharger := (simp only [Int.toNat_le, *])) only [ByteArray.size_append, ByteArray.size_extract, Nat.sub_zero, Nat.min_self, Nat.min_eq_left] at c55b8))
              obtain ⟨ji56, hji56⟩ : ∃ j_ : Int, (wrap64 ((ji52) + 1)) = j_ := ⟨_, rfl⟩
              replace H : (if 0 ≤ (ji56) then (if (ji56) ≤ (x6_4.size : Int) then (if ((x6_4.extract 0 ((ji52) : Int).toNat) ++ (⟨#[9]⟩ : ByteArray)).size + (x6_4.extract ((ji56) : Int).toNat x6_4.size).size ≤ 9223372036854775807 then ((sym_Read.f k3 (((x6_4.extract 0 ((ji52) : Int).toNat) ++ (⟨#[9]⟩ : ByteArray)) ++ (x6_4.extract ((ji56) : Int).toNat x6_4.size)) (⟨#[120, 0]⟩ : ByteArray)).bind fun bt246 => (if bt246.2.1 = 25 then (some (bt246.2.2.1 == (IntKind.u64.wrap (ji52)))) else (some false))) else (none)) else (none)) else (none)) = some r := by first | (rw [hji56] at H; exact H) | (simp only [hji56] at H ⊢; exact H)
              have hji56w : (IntKind.i64.wrap ((ji52) + 1)) = ji56 := (i64_w _).trans hji56
              by_cases c57 : 0 ≤ (ji56)
              ·rw [if_pos c57] at H
               have c57b0 := eq_true c57
               have c57b1 : decide (0 ≤ (ji56)) = true := decide_eq_true c57
               clear c57
               by_cases c58 : (ji56) ≤ (x6_4.size : Int)
               ·rw [if_pos c58] at H
                have c58b0 := eq_true c58
                have c58b1 : decide ((ji56) ≤ (x6_4.size : Int)) = true := decide_eq_true c58
                clear c58
                by_cases c59 : ((x6_4.extract 0 ((ji52) : Int).toNat) ++ (⟨#[9]⟩ : ByteArray)).size + (x6_4.extract ((ji56) : Int).toNat x6_4.size).size ≤ 9223372036854775807
                ·rw [if_pos c59] at H
                 have c59b0 := eq_true c59
                 have c59b1 : decide (((x6_4.extract 0 ((ji52) : Int).toNat) ++ (⟨#[9]⟩ : ByteArray)).size + (x6_4.extract ((ji56) : Int).toNat x6_4.size).size ≤ 9223372036854775807) = true := decide_eq_true c59
                 try have c59b2 : (9223372036854775807 < ((x6_4.extract 0 ((ji52) : Int).toNat) ++ (⟨#[9]⟩ : ByteArray)).size + (x6_4.extract ((ji56) : Int).toNat x6_4.size).size) = False := eq_false (Nat.not_lt.2 c59)
                 (try (have c59b3 := c59b2; simp only [ByteArray.size_append] at c59b3))
                 (try (have c59b4 := c59b0; simp only [ByteArray.size_append] at c59b4))
                 (try (have c59b5 := c59b2; simp only [ByteArray.size_append, ByteArray.size_extract, Nat.sub_zero] at c59b5))
                 (try (have c59b6 := c59b0; simp only [ByteArray.size_append, ByteArray.size_extract, Nat.sub_zero] at c59b6))
                 (try (have c59b7 := c59b2; simp (discharger := (simp only [Int.toNat_le, *])) only [ByteArray.size_append, ByteArray.size_extract, Nat.sub_zero, Nat.min_self, Nat.min_eq_left] at c59b7))
                 (try (have c59b8 := c59b0; simp (discharger := (simp only [Int.toNat_le, *])) only [ByteArray.size_append, ByteArray.size_extract, Nat.sub_zero, Nat.min_self, Nat.min_eq_left] at c59b8))
                 (try (have c59bA := c59b7; rw [show (⟨#[9]⟩ : ByteArray).size = 1 from rfl] at c59bA))
                 (try (have c59bB := c59b8; rw [show (⟨#[9]⟩ : ByteArray).size = 1 from rfl] at c59bB))
                 replace H := Option.bind_eq_some_iff.mp H
                 obtain ⟨⟨t246, t249, t250, t251⟩, A600, H⟩ := H
                 replace H : (if t249 = 25 then (some (t250 == (IntKind.u64.wrap (ji52)))) else (some false)) = some r := H
                 have A60 := Aside0.mk A600
                 clear A600
                 by_cases c61 : t249 = 25
                 ·rw [if_pos c61] at H
                  have c61b0 : (t249 == 25) = true := beq_iff_eq.mpr c61
                  have c61b1 : (t249 != 25) = false := bne_eq_false_iff_eq.mpr c61
                  clear c61
                  obtain rfl := Option.some.inj H
                  obtain ⟨Ao62, co62, eo62⟩ := Kd.R_slice HO_5.out
                  subst eo62
                  try go_wp2
                  have n0_ := Aside0.mk (Kd.R_drew HO_5.out)
                  have n1_ := Aside0.mk (Kd.R_drew HO_9.out)
                  have n2_ := Aside0.mk (blk_drew BK242.out)
                  have n3_ := Aside0.mk (below_drew1 HB.out)
                  clear HO_5
                  clear HO_9
                  clear BK242
                  clear HB
                  have HO_5 := n0_
                  have HO_9 := n1_
                  have BK242 := n2_
                  have HB := n3_
                  clear n0_ n1_ n2_ n3_
                  refine start_ (n := 18) (S := fun w' => True) (ds := []) #[false,false,false,false,false,false,false,false,false,false,false,false,false,false,false,false,false,false] (by kernel_rfl) rfl rfl trivial (fun hHeld => ?_); refine with_tabW turnbucklelaw11_SymPlaces.tab22 turnbucklelaw11_SymPlaces.bits22 (fun HT_ HW_ => ?_)
                  generalize wr.drew = w63 at HO_5 HO_9 BK242 HB hHeld ⊢
                  refine pure_ (i:=0) (N := some 113) (v:=?_) (a':=?_) #[true,false,false,false,false,false,false,false,false,false,false,false,false,false,false,false,false,false] rfl rfl (any_of HT_.out (by kernel_rfl)) (fun _ _ _ h=>h) (Or.inl ⟨by rfl, ?_⟩) ?_ ?_
                  rotate_left
                  ·intro w'
                   go_simp
                   with_reducible rfl
                  rotate_left
                  ·simp only [Act.put,lz1,lz2,lz3,i64_w,i32_w]
                   rfl
                  refine pure_ (i:=1) (N := some 114) (v:=?_) (a':=?_) #[true,true,false,false,false,false,false,false,false,false,false,false,false,false,false,false,false,false] rfl rfl (any_of HT_.out (by kernel_rfl)) (fun _ _ _ h=>h) (Or.inl ⟨by rfl, ?_⟩) ?_ ?_
                  rotate_left
                  ·intro w'
                   go_simp
                   with_reducible rfl
                  rotate_left
                  ·simp only [Act.put,lz1,lz2,lz3,i64_w,i32_w]
                   rfl
                  refine pure_ (i:=2) (N := some 115) (v:=?_) (a':=?_) #[true,true,true,false,false,false,false,false,false,false,false,false,false,false,false,false,false,false] rfl rfl (any_of HT_.out (by kernel_rfl)) (fun _ _ _ h=>h) (Or.inl ⟨by rfl, ?_⟩) ?_ ?_
                  rotate_left
                  ·intro w'
                   go_simp
                   with_reducible rfl
                  rotate_left
                  ·simp only [Act.put,lz1,lz2,lz3,i64_w,i32_w]
                   rfl
                  refine pure_ (i:=3) (N := some 116) (v:=?_) (a':=?_) #[true,true,true,true,false,false,false,false,false,false,false,false,false,false,false,false,false,false] rfl rfl (any_of HT_.out (by kernel_rfl)) (fun _ _ _ h=>h) (Or.inl ⟨by rfl, ?_⟩) ?_ ?_
                  rotate_left
                  ·intro w'
                   go_simp
                   with_reducible rfl
                  rotate_left
                  ·simp only [Act.put,lz1,lz2,lz3,i64_w,i32_w]
                   rfl
                  refine pure_ (i:=4) (N := some 117) (v:=?_) (a':=?_) #[true,true,true,true,true,false,false,false,false,false,false,false,false,false,false,false,false,false] rfl rfl (any_of HT_.out (by kernel_rfl)) (fun _ _ _ h=>h) (Or.inl ⟨by rfl, ?_⟩) ?_ ?_
                  rotate_left
                  ·intro w'
                   go_simp
                   with_reducible rfl
                  rotate_left
                  ·simp only [Act.put,lz1,lz2,lz3,i64_w,i32_w]
                   rfl
                  refine pure_ (i:=5) (N := some 118) (v:=?_) (a':=?_) #[true,true,true,true,true,true,false,false,false,false,false,false,false,false,false,false,false,false] rfl rfl (any_of HT_.out (by kernel_rfl)) (fun _ _ _ h=>h) (Or.inl ⟨by rfl, ?_⟩) ?_ ?_
                  rotate_left
                  ·intro w'
                   go_simp
                   with_reducible rfl
                  rotate_left
                  ·simp only [Act.put,lz1,lz2,lz3,i64_w,i32_w]
                   rfl
                  refine pure_ (i:=6) (N := some 119) (v:=?_) (a':=?_) #[true,true,true,true,true,true,true,false,false,false,false,false,false,false,false,false,false,false] rfl rfl (any_of HT_.out (by kernel_rfl)) (fun _ _ _ h=>h) (Or.inl ⟨by rfl, ?_⟩) ?_ ?_
                  rotate_left
                  ·intro w'
                   go_simp
                   with_reducible rfl
                  rotate_left
                  ·simp only [Act.put,lz1,lz2,lz3,i64_w,i32_w]
                   rfl
                  refine pure_ (i:=7) (N := some 120) (v:=?_) (a':=?_) #[true,true,true,true,true,true,true,true,false,false,false,false,false,false,false,false,false,false] rfl rfl (any_of HT_.out (by kernel_rfl)) (fun _ _ _ h=>h) (Or.inl ⟨by rfl, ?_⟩) ?_ ?_
                  rotate_left
                  ·intro w'
                   go_simp
                   with_reducible rfl
                  rotate_left
                  ·simp only [Act.put,lz1,lz2,lz3,i64_w,i32_w]
                   rfl
                  refine pure_ (i:=8) (N := some 121) (v:=?_) (a':=?_) #[true,true,true,true,true,true,true,true,true,false,false,false,false,false,false,false,false,false] rfl rfl (any_of HT_.out (by kernel_rfl)) (fun _ _ _ h=>h) (Or.inl ⟨by rfl, ?_⟩) ?_ ?_
                  rotate_left
                  ·intro w'
                   go_simp
                   with_reducible rfl
                  rotate_left
                  ·simp only [Act.put,lz1,lz2,lz3,i64_w,i32_w]
                   rfl
                  refine pure_ (i:=9) (N := some 122) (v:=?_) (a':=?_) #[true,true,true,true,true,true,true,true,true,true,false,false,false,false,false,false,false,false] rfl rfl (any_of HT_.out (by kernel_rfl)) (fun _ _ _ h=>h) (Or.inl ⟨by rfl, ?_⟩) ?_ ?_
                  rotate_left
                  ·intro w'
                   go_simp
                   with_reducible rfl
                  rotate_left
                  ·simp only [Act.put,lz1,lz2,lz3,i64_w,i32_w]
                   rfl
                  refine pure_ (i:=10) (N := some 123) (v:=?_) (a':=?_) #[true,true,true,true,true,true,true,true,true,true,true,false,false,false,false,false,false,false] rfl rfl (any_of HT_.out (by kernel_rfl)) (fun _ _ _ h=>h) (Or.inl ⟨by rfl, ?_⟩) ?_ ?_
                  rotate_left
                  ·intro w'
                   go_simp
                   first | with_reducible rfl | (refine Eq.trans (b := .ok (.value (.bool true)) w') ?_ (by with_reducible rfl); (repeat' (first | with_reducible rfl | split)); all_goals (first | rfl | (exfalso; simp_all; done))) | (refine Eq.trans (b := .ok (.value (.bool false)) w') ?_ (by with_reducible rfl); (repeat' (first | with_reducible rfl | split)); all_goals (first | rfl | (exfalso; simp_all; done)))
                  rotate_left
                  ·simp only [Act.put,lz1,lz2,lz3,i64_w,i32_w]
                   rfl
                  refine join_ (σ := Value × Nat) 2 #[true,true,true,true,true,true,true,true,true,true,true,true,true,true,true,true,false,false] (fun s_ => [(124, .tuple #[s_.1, .agg #[.int .i64 t249, .int .u64 t250, .string t251]]), (14, .pointer (some ⟨s_.2, 0, none⟩)), (112, .tuple #[s_.1, .agg #[.int .i64 t249, .int .u64 t250, .string t251]]), (125, s_.1), (126, .agg #[.int .i64 t249, .int .u64 t250, .string t251])]) (fun s_ w' => (Kd.R k28 28 w' w.heap.size (fun k_ => some k_ ≠ (.slice Ao62 x5_4.length co62 : Value).ownBlock ∧ some k_ ≠ (v237 : Value).ownBlock) s_.1 t246) ∧ (Kd.R k28 28 w' w.heap.size (fun k_ => some k_ ≠ (s_.1 : Value).ownBlock ∧ some k_ ≠ (v237 : Value).ownBlock) (.slice Ao62 x5_4.length co62) x5_4) ∧ (Kd.R k28 28 w' w.heap.size (fun k_ => some k_ ≠ (s_.1 : Value).ownBlock ∧ some k_ ≠ (.slice Ao62 x5_4.length co62 : Value).ownBlock) v237 t236) ∧ (w'.heap[gb242]? = some (.cells #[.int .i64 t239, .int .u64 t240, .string t241] 35 (0, 0))) ∧ (w'.heap[s_.2]? = some (.cells #[.int .i64 0, .int .u64 0, .string (⟨#[]⟩ : ByteArray)] 35 (0, 0))) ∧ (w.heap.size ≤ s_.2) ∧ (w.heap.size ≤ s_.2) ∧ (gb242 ≠ s_.2) ∧ (s_.2 ≠ gb242) ∧ (Below w.heap.size w w')) ?_ ?_
                  rotate_left
                  ·intro hCont
                   refine two_ (i := 11) (j := 15) (Ni := some 124) (Nj := some 14) #[true,true,true,true,true,true,true,true,true,true,true,true,false,false,false,false,false,false] #[true,true,true,true,true,true,true,true,true,true,true,false,false,false,false,true,false,false] rfl rfl rfl rfl (two_of HT_.out (by kernel_rfl)) (by decide) (by decide) (fun K hK => ?_) (fun K hK => ?_)
                   ·skip
                    refine goes_ Try.func10 (by kernel_rfl) rfl #[.string (((x6_4.extract 0 ((ji52) : Int).toNat) ++ (⟨#[9]⟩ : ByteArray)) ++ (x6_4.extract ((ji56) : Int).toNat x6_4.size)), .string (⟨#[120, 0]⟩ : ByteArray)] (by rfl) rfl rfl (by (try simp only [List.map_toArray, List.map_cons, List.map_nil]); first | done | (simp only [hji52, hji56]; rfl) | rfl | (simp only [List.length_drop, List.length_take]; rfl)) ?_
                    with_reducible refine (sym_Read.calls k3 (((x6_4.extract 0 ((ji52) : Int).toNat) ++ (⟨#[9]⟩ : ByteArray)) ++ (x6_4.extract ((ji56) : Int).toNat x6_4.size)) (⟨#[120, 0]⟩ : ByteArray) t246 t249 t250 t251 _ A60.out).mono ?_
                    rintro e w64 ⟨v247, rfl, ho0, hb⟩
                    refine ⟨_, rfl, ?_⟩
                    have n0_ := Aside0.mk (Kd.R_elder' (by (with_reducible repeat (first | apply Kd.R_alloc | apply Kd.R_drewN | apply Kd.R_drew)); exact HO_5.out) (Kd.R_base ho0) hb)
                    have n1_ := Aside0.mk (Kd.R_elder' (by (with_reducible repeat (first | apply Kd.R_alloc | apply Kd.R_drewN | apply Kd.R_drew)); exact HO_9.out) (Kd.R_base ho0) hb)
                    have n2_ := Aside0.mk (Kd.R_lower (Kd.R_new' (Kd.R_new' ho0 (Kd.R_lt (by (with_reducible repeat (first | apply Kd.R_alloc | apply Kd.R_drewN | apply Kd.R_drew)); exact HO_5.out))) (Kd.R_lt (by (with_reducible repeat (first | apply Kd.R_alloc | apply Kd.R_drewN | apply Kd.R_drew)); exact HO_9.out))) (below_size (by repeat (first | (with_reducible first | exact HB.out | apply below_alloc | apply pw_below_drewN | apply below_drew1 | refine below_set ?_ GE242.out) | exact HB.out))))
                    have n3_ := Aside0.mk (blk_below (g := gb242) (o := .cells #[.int .i64 t239, .int .u64 t240, .string t241] 35 (0, 0)) (by (with_reducible repeat (first | refine blk_drewN ?_ _ | refine blk_drew ?_ | refine blk_alloc ?_ _)); exact BK242.out) hb)
                    have n4_ := Aside0.mk (below_step (by repeat (first | (with_reducible first | exact HB.out | apply below_alloc | apply pw_below_drewN | apply below_drew1 | refine below_set ?_ GE242.out) | exact HB.out)) hb)
                    clear HO_5
                    clear HO_9
                    clear BK242
                    clear HB
                    have HO_5 := n0_
                    have HO_9 := n1_
                    have HO248 := n2_
                    have BK242 := n3_
                    have HB := n4_
                    clear n0_ n1_ n2_ n3_ n4_
                    (try clear hb)
                    (try clear hb2)
                    (try clear hk)
                    (try clear hi)
                    (try clear ho0)
                    refine hK.out _ _ trivial (fun hHeld => ?_)
                    clear hK K
                    refine norm_ (a' := ?_) ?_ ?_
                    rotate_left
                    ·show Act.put _ (some 124) _ = _
                     simp only [Act.put,lz1,lz2,lz3,i64_w,i32_w]
                     rfl
                    refine pure_ (i:=12) (N := some 112) (v:=?_) (a':=?_) #[true,true,true,true,true,true,true,true,true,true,true,true,true,false,false,false,false,false] rfl rfl (any_of HT_.out (by kernel_rfl)) (fun _ _ _ h=>h) (Or.inl ⟨by rfl, ?_⟩) ?_ ?_
                    rotate_left
                    ·intro w'
                     go_simp
                     with_reducible rfl
                    rotate_left
                    ·simp only [Act.put,lz1,lz2,lz3,i64_w,i32_w]
                     rfl
                    refine pure_ (i:=13) (N := some 125) (v:=?_) (a':=?_) #[true,true,true,true,true,true,true,true,true,true,true,true,true,true,false,false,false,false] rfl rfl (any_of HT_.out (by kernel_rfl)) (fun _ _ _ h=>h) (Or.inl ⟨by rfl, ?_⟩) ?_ ?_
                    rotate_left
                    ·intro w'
                     go_simp
                     with_reducible rfl
                    rotate_left
                    ·simp only [Act.put,lz1,lz2,lz3,i64_w,i32_w]
                     rfl
                    refine pure_ (i:=14) (N := some 126) (v:=?_) (a':=?_) #[true,true,true,true,true,true,true,true,true,true,true,true,true,true,true,false,false,false] rfl rfl (any_of HT_.out (by kernel_rfl)) (fun _ _ _ h=>h) (Or.inl ⟨by rfl, ?_⟩) ?_ ?_
                    rotate_left
                    ·intro w'
                     go_simp
                     with_reducible rfl
                    rotate_left
                    ·simp only [Act.put,lz1,lz2,lz3,i64_w,i32_w]
                     rfl
                    refine one_ (i := 15) (N := some 14) #[true,true,true,true,true,true,true,true,true,true,true,true,true,true,true,true,false,false] rfl rfl (one_of HT_.out (by kernel_rfl)) (by decide) (fun K hK => ?_)
                    refine box_step ?hg (N := 14) ?hd (cs := #[.int .i64 0, .int .u64 0, .string (⟨#[]⟩ : ByteArray)]) (t := 35) ?hr ?_; (case hd => rfl); (case hg => rfl); (case hr => first | (go_simp; done) | (go_simp; rfl))
                    intro gb252 hg w65 hbox hb
                    have n0_ := Aside0.mk (Kd.R_below (by (with_reducible repeat (first | apply Kd.R_alloc | apply Kd.R_drewN | apply Kd.R_drew)); exact HO_5.out) hb)
                    have n1_ := Aside0.mk (Kd.R_below (by (with_reducible repeat (first | apply Kd.R_alloc | apply Kd.R_drewN | apply Kd.R_drew)); exact HO_9.out) hb)
                    have n2_ := Aside0.mk (Kd.R_below (by (with_reducible repeat (first | apply Kd.R_alloc | apply Kd.R_drewN | apply Kd.R_drew)); exact HO248.out) hb)
                    have n3_ := Aside0.mk (blk_below (g := gb242) (o := .cells #[.int .i64 t239, .int .u64 t240, .string t241] 35 (0, 0)) (by (with_reducible repeat (first | refine blk_drewN ?_ _ | refine blk_drew ?_ | refine blk_alloc ?_ _)); exact BK242.out) hb)
                    have n4_ := Aside0.mk (below_step (by repeat (first | (with_reducible first | exact HB.out | apply below_alloc | apply pw_below_drewN | apply below_drew1 | refine below_set ?_ GE242.out) | exact HB.out)) hb)
                    have n5_ := Aside0.mk (hbox)
                    have n6_ := Aside0.mk ((by rw [hg]; exact (below_size (by repeat (first | (with_reducible first | exact HB.out | apply below_alloc | apply pw_below_drewN | apply below_drew1 | refine below_set ?_ GE242.out) | exact HB.out))) : w.heap.size ≤ gb252))
                    have n7_ := Aside0.mk ((by rw [hg]; exact (below_size (by repeat (first | (with_reducible first | exact HB.out | apply below_alloc | apply pw_below_drewN | apply below_drew1 | refine below_set ?_ GE242.out) | exact HB.out))) : w.heap.size ≤ gb252))
                    have n8_ := Aside0.mk ((by rw [hg]; exact Nat.ne_of_lt (blk_lt (g := gb242) (o := .cells #[.int .i64 t239, .int .u64 t240, .string t241] 35 (0, 0)) (by (with_reducible repeat (first | refine blk_drewN ?_ _ | refine blk_drew ?_ | refine blk_alloc ?_ _)); exact BK242.out)) : gb242 ≠ gb252))
                    have n9_ := Aside0.mk ((by rw [hg]; exact Nat.ne_of_gt (blk_lt (g := gb242) (o := .cells #[.int .i64 t239, .int .u64 t240, .string t241] 35 (0, 0)) (by (with_reducible repeat (first | refine blk_drewN ?_ _ | refine blk_drew ?_ | refine blk_alloc ?_ _)); exact BK242.out)) : gb252 ≠ gb242))
                    clear HO_5
                    clear HO_9
                    clear HO248
                    clear BK242
                    clear HB
                    have HO_5 := n0_
                    have HO_9 := n1_
                    have HO248 := n2_
                    have BK242 := n3_
                    have HB := n4_
                    have BK252 := n5_
                    have GW252 := n6_
                    have GE252 := n7_
                    have NB242_252 := n8_
                    have NB252_242 := n9_
                    clear n0_ n1_ n2_ n3_ n4_ n5_ n6_ n7_ n8_ n9_
                    clear hb hbox hg
                    refine hK.out _ _ trivial (fun hHeld => ?_)
                    clear hK K
                    refine norm_ (a' := ?_) ?_ ?_
                    rotate_left
                    ·show Act.put _ (some 14) _ = _
                     simp only [Act.put,lz1,lz2,lz3,i64_w,i32_w]
                     rfl
                    exact norm_ (by simp only [putAll, Act.put, List.setIfInBounds_toArray, List.set_cons_zero, List.set_cons_succ]) (hCont (v247, gb252) _ ⟨(by (with_reducible repeat (first | apply Kd.R_alloc | apply Kd.R_drewN | apply Kd.R_drew)); exact Kd.R_mono HO248.out (fun _ hk => ⟨hk.1.2, hk.2⟩)), (by (with_reducible repeat (first | apply Kd.R_alloc | apply Kd.R_drewN | apply Kd.R_drew)); exact Kd.R_mono HO_5.out (fun _ hk => ⟨hk.2, hk.1⟩)), (by (with_reducible repeat (first | apply Kd.R_alloc | apply Kd.R_drewN | apply Kd.R_drew)); exact Kd.R_mono HO_9.out (fun _ hk => ⟨hk.2, hk.1⟩)), (by (with_reducible repeat (first | refine blk_drewN ?_ _ | refine blk_drew ?_ | refine blk_alloc ?_ _)); exact BK242.out), (by (with_reducible repeat (first | refine blk_drewN ?_ _ | refine blk_drew ?_ | refine blk_alloc ?_ _)); exact BK252.out), GW252.out, GE252.out, NB242_252.out, NB252_242.out, (by repeat (first | (with_reducible first | exact HB.out | apply below_alloc | apply pw_below_drewN | apply below_drew1 | refine below_set ?_ GE242.out | refine below_set ?_ GE252.out) | exact HB.out))⟩)
                   ·skip
                    refine box_step ?hg (N := 14) ?hd (cs := #[.int .i64 0, .int .u64 0, .string (⟨#[]⟩ : ByteArray)]) (t := 35) ?hr ?_; (case hd => rfl); (case hg => rfl); (case hr => first | (go_simp; done) | (go_simp; rfl))
                    intro gb252 hg w64 hbox hb
                    have n0_ := Aside0.mk (Kd.R_below (by (with_reducible repeat (first | apply Kd.R_alloc | apply Kd.R_drewN | apply Kd.R_drew)); exact HO_5.out) hb)
                    have n1_ := Aside0.mk (Kd.R_below (by (with_reducible repeat (first | apply Kd.R_alloc | apply Kd.R_drewN | apply Kd.R_drew)); exact HO_9.out) hb)
                    have n2_ := Aside0.mk (blk_below (g := gb242) (o := .cells #[.int .i64 t239, .int .u64 t240, .string t241] 35 (0, 0)) (by (with_reducible repeat (first | refine blk_drewN ?_ _ | refine blk_drew ?_ | refine blk_alloc ?_ _)); exact BK242.out) hb)
                    have n3_ := Aside0.mk (below_step (by repeat (first | (with_reducible first | exact HB.out | apply below_alloc | apply pw_below_drewN | apply below_drew1 | refine below_set ?_ GE242.out) | exact HB.out)) hb)
                    have n4_ := Aside0.mk (hbox)
                    have n5_ := Aside0.mk ((by rw [hg]; exact (below_size (by repeat (first | (with_reducible first | exact HB.out | apply below_alloc | apply pw_below_drewN | apply below_drew1 | refine below_set ?_ GE242.out) | exact HB.out))) : w.heap.size ≤ gb252))
                    have n6_ := Aside0.mk ((by rw [hg]; exact (below_size (by repeat (first | (with_reducible first | exact HB.out | apply below_alloc | apply pw_below_drewN | apply below_drew1 | refine below_set ?_ GE242.out) | exact HB.out))) : w.heap.size ≤ gb252))
                    have n7_ := Aside0.mk ((by rw [hg]; exact Nat.ne_of_lt (blk_lt (g := gb242) (o := .cells #[.int .i64 t239, .int .u64 t240, .string t241] 35 (0, 0)) (by (with_reducible repeat (first | refine blk_drewN ?_ _ | refine blk_drew ?_ | refine blk_alloc ?_ _)); exact BK242.out)) : gb242 ≠ gb252))
                    have n8_ := Aside0.mk ((by rw [hg]; exact Nat.ne_of_gt (blk_lt (g := gb242) (o := .cells #[.int .i64 t239, .int .u64 t240, .string t241] 35 (0, 0)) (by (with_reducible repeat (first | refine blk_drewN ?_ _ | refine blk_drew ?_ | refine blk_alloc ?_ _)); exact BK242.out)) : gb252 ≠ gb242))
                    clear HO_5
                    clear HO_9
                    clear BK242
                    clear HB
                    have HO_5 := n0_
                    have HO_9 := n1_
                    have BK242 := n2_
                    have HB := n3_
                    have BK252 := n4_
                    have GW252 := n5_
                    have GE252 := n6_
                    have NB242_252 := n7_
                    have NB252_242 := n8_
                    clear n0_ n1_ n2_ n3_ n4_ n5_ n6_ n7_ n8_
                    clear hb hbox hg
                    refine hK.out _ _ trivial (fun hHeld => ?_)
                    clear hK K
                    refine norm_ (a' := ?_) ?_ ?_
                    rotate_left
                    ·show Act.put _ (some 14) _ = _
                     simp only [Act.put,lz1,lz2,lz3,i64_w,i32_w]
                     rfl
                    refine one_ (i := 11) (N := some 124) #[true,true,true,true,true,true,true,true,true,true,true,true,false,false,false,true,false,false] rfl rfl (one_of HT_.out (by kernel_rfl)) (by decide) (fun K hK => ?_)
                    refine goes_ Try.func10 (by kernel_rfl) rfl #[.string (((x6_4.extract 0 ((ji52) : Int).toNat) ++ (⟨#[9]⟩ : ByteArray)) ++ (x6_4.extract ((ji56) : Int).toNat x6_4.size)), .string (⟨#[120, 0]⟩ : ByteArray)] (by rfl) rfl rfl (by (try simp only [List.map_toArray, List.map_cons, List.map_nil]); first | done | (simp only [hji52, hji56]; rfl) | rfl | (simp only [List.length_drop, List.length_take]; rfl)) ?_
                    with_reducible refine (sym_Read.calls k3 (((x6_4.extract 0 ((ji52) : Int).toNat) ++ (⟨#[9]⟩ : ByteArray)) ++ (x6_4.extract ((ji56) : Int).toNat x6_4.size)) (⟨#[120, 0]⟩ : ByteArray) t246 t249 t250 t251 _ A60.out).mono ?_
                    rintro e w65 ⟨v247, rfl, ho0, hb⟩
                    refine ⟨_, rfl, ?_⟩
                    have n0_ := Aside0.mk (Kd.R_elder' (by (with_reducible repeat (first | apply Kd.R_alloc | apply Kd.R_drewN | apply Kd.R_drew)); exact HO_5.out) (Kd.R_base ho0) hb)
                    have n1_ := Aside0.mk (Kd.R_elder' (by (with_reducible repeat (first | apply Kd.R_alloc | apply Kd.R_drewN | apply Kd.R_drew)); exact HO_9.out) (Kd.R_base ho0) hb)
                    have n2_ := Aside0.mk (Kd.R_lower (Kd.R_new' (Kd.R_new' ho0 (Kd.R_lt (by (with_reducible repeat (first | apply Kd.R_alloc | apply Kd.R_drewN | apply Kd.R_drew)); exact HO_5.out))) (Kd.R_lt (by (with_reducible repeat (first | apply Kd.R_alloc | apply Kd.R_drewN | apply Kd.R_drew)); exact HO_9.out))) (below_size (by repeat (first | (with_reducible first | exact HB.out | apply below_alloc | apply pw_below_drewN | apply below_drew1 | refine below_set ?_ GE242.out | refine below_set ?_ GE252.out) | exact HB.out))))
                    have n3_ := Aside0.mk (blk_below (g := gb242) (o := .cells #[.int .i64 t239, .int .u64 t240, .string t241] 35 (0, 0)) (by (with_reducible repeat (first | refine blk_drewN ?_ _ | refine blk_drew ?_ | refine blk_alloc ?_ _)); exact BK242.out) hb)
                    have n4_ := Aside0.mk (blk_below (g := gb252) (o := .cells #[.int .i64 0, .int .u64 0, .string (⟨#[]⟩ : ByteArray)] 35 (0, 0)) (by (with_reducible repeat (first | refine blk_drewN ?_ _ | refine blk_drew ?_ | refine blk_alloc ?_ _)); exact BK252.out) hb)
                    have n5_ := Aside0.mk (below_step (by repeat (first | (with_reducible first | exact HB.out | apply below_alloc | apply pw_below_drewN | apply below_drew1 | refine below_set ?_ GE242.out | refine below_set ?_ GE252.out) | exact HB.out)) hb)
                    clear HO_5
                    clear HO_9
                    clear BK242
                    clear BK252
                    clear HB
                    have HO_5 := n0_
                    have HO_9 := n1_
                    have HO248 := n2_
                    have BK242 := n3_
                    have BK252 := n4_
                    have HB := n5_
                    clear n0_ n1_ n2_ n3_ n4_ n5_
                    (try clear hb)
                    (try clear hb2)
                    (try clear hk)
                    (try clear hi)
                    (try clear ho0)
                    refine hK.out _ _ trivial (fun hHeld => ?_)
                    clear hK K
                    refine norm_ (a' := ?_) ?_ ?_
                    rotate_left
                    ·show Act.put _ (some 124) _ = _
                     simp only [Act.put,lz1,lz2,lz3,i64_w,i32_w]
                     rfl
                    refine pure_ (i:=12) (N := some 112) (v:=?_) (a':=?_) #[true,true,true,true,true,true,true,true,true,true,true,true,true,false,false,true,false,false] rfl rfl (any_of HT_.out (by kernel_rfl)) (fun _ _ _ h=>h) (Or.inl ⟨by rfl, ?_⟩) ?_ ?_
                    rotate_left
                    ·intro w'
                     go_simp
                     with_reducible rfl
                    rotate_left
                    ·simp only [Act.put,lz1,lz2,lz3,i64_w,i32_w]
                     rfl
                    refine pure_ (i:=13) (N := some 125) (v:=?_) (a':=?_) #[true,true,true,true,true,true,true,true,true,true,true,true,true,true,false,true,false,false] rfl rfl (any_of HT_.out (by kernel_rfl)) (fun _ _ _ h=>h) (Or.inl ⟨by rfl, ?_⟩) ?_ ?_
                    rotate_left
                    ·intro w'
                     go_simp
                     with_reducible rfl
                    rotate_left
                    ·simp only [Act.put,lz1,lz2,lz3,i64_w,i32_w]
                     rfl
                    refine pure_ (i:=14) (N := some 126) (v:=?_) (a':=?_) #[true,true,true,true,true,true,true,true,true,true,true,true,true,true,true,true,false,false] rfl rfl (any_of HT_.out (by kernel_rfl)) (fun _ _ _ h=>h) (Or.inl ⟨by rfl, ?_⟩) ?_ ?_
                    rotate_left
                    ·intro w'
                     go_simp
                     with_reducible rfl
                    rotate_left
                    ·simp only [Act.put,lz1,lz2,lz3,i64_w,i32_w]
                     rfl
                    exact norm_ (by simp only [putAll, Act.put, List.setIfInBounds_toArray, List.set_cons_zero, List.set_cons_succ]) (hCont (v247, gb252) _ ⟨(by (with_reducible repeat (first | apply Kd.R_alloc | apply Kd.R_drewN | apply Kd.R_drew)); exact Kd.R_mono HO248.out (fun _ hk => ⟨hk.1.2, hk.2⟩)), (by (with_reducible repeat (first | apply Kd.R_alloc | apply Kd.R_drewN | apply Kd.R_drew)); exact Kd.R_mono HO_5.out (fun _ hk => ⟨hk.2, hk.1⟩)), (by (with_reducible repeat (first | apply Kd.R_alloc | apply Kd.R_drewN | apply Kd.R_drew)); exact Kd.R_mono HO_9.out (fun _ hk => ⟨hk.2, hk.1⟩)), (by (with_reducible repeat (first | refine blk_drewN ?_ _ | refine blk_drew ?_ | refine blk_alloc ?_ _)); exact BK242.out), (by (with_reducible repeat (first | refine blk_drewN ?_ _ | refine blk_drew ?_ | refine blk_alloc ?_ _)); exact BK252.out), GW252.out, GE252.out, NB242_252.out, NB252_242.out, (by repeat (first | (with_reducible first | exact HB.out | apply below_alloc | apply pw_below_drewN | apply below_drew1 | refine below_set ?_ GE242.out | refine below_set ?_ GE252.out) | exact HB.out))⟩)
                  rintro ⟨v247, gb252⟩ w66 ⟨h0_, h1_, h2_, h3_, h4_, h5_, h6_, h7_, h8_, h9_⟩
                  have n0_ : Aside0 (Kd.R k28 28 w66 w.heap.size (fun k_ => some k_ ≠ (.slice Ao62 x5_4.length co62 : Value).ownBlock ∧ some k_ ≠ (v237 : Value).ownBlock) v247 t246) := ⟨h0_⟩
                  have n1_ : Aside0 (Kd.R k28 28 w66 w.heap.size (fun k_ => some k_ ≠ (v247 : Value).ownBlock ∧ some k_ ≠ (v237 : Value).ownBlock) (.slice Ao62 x5_4.length co62) x5_4) := ⟨h1_⟩
                  have n2_ : Aside0 (Kd.R k28 28 w66 w.heap.size (fun k_ => some k_ ≠ (v247 : Value).ownBlock ∧ some k_ ≠ (.slice Ao62 x5_4.length co62 : Value).ownBlock) v237 t236) := ⟨h2_⟩
                  have n3_ : Aside0 (w66.heap[gb242]? = some (.cells #[.int .i64 t239, .int .u64 t240, .string t241] 35 (0, 0))) := ⟨h3_⟩
                  have n4_ : Aside0 (w66.heap[gb252]? = some (.cells #[.int .i64 0, .int .u64 0, .string (⟨#[]⟩ : ByteArray)] 35 (0, 0))) := ⟨h4_⟩
                  have n5_ : Aside0 (w.heap.size ≤ gb252) := ⟨h5_⟩
                  have n6_ : Aside0 (w.heap.size ≤ gb252) := ⟨h6_⟩
                  have n7_ : Aside0 (gb242 ≠ gb252) := ⟨h7_⟩
                  have n8_ : Aside0 (gb252 ≠ gb242) := ⟨h8_⟩
                  have n9_ : Aside0 (Below w.heap.size w w66) := ⟨h9_⟩
                  clear HO_5
                  clear HO_9
                  clear BK242
                  clear HB
                  clear h0_ h1_ h2_ h3_ h4_ h5_ h6_ h7_ h8_ h9_
                  have HO248 := n0_
                  have HO_5 := n1_
                  have HO_9 := n2_
                  have BK242 := n3_
                  have BK252 := n4_
                  have GW252 := n5_
                  have GE252 := n6_
                  have NB242_252 := n7_
                  have NB252_242 := n8_
                  have HB := n9_
                  clear n0_ n1_ n2_ n3_ n4_ n5_ n6_ n7_ n8_ n9_
                  have hHeld := trivial
                  refine norm_ (a' := ?_) ?_ ?_
                  rotate_left
                  ·simp only [putAll, Act.put, List.setIfInBounds_toArray, List.set_cons_zero, List.set_cons_succ]
                   rfl
                  refine pure_ (i:=16) (N := some 13) (v:=?_) (a':=?_) #[true,true,true,true,true,true,true,true,true,true,true,true,true,true,true,true,true,false] rfl rfl (any_of HT_.out (by kernel_rfl)) (fun _ _ _ h=>h) (Or.inl ⟨by rfl, ?_⟩) ?_ ?_
                  rotate_left
                  ·intro w'
                   go_simp
                   with_reducible rfl
                  rotate_left
                  ·simp only [Act.put,lz1,lz2,lz3,i64_w,i32_w]
                   rfl
                  refine one_ (i := 17) (N := none) #[true,true,true,true,true,true,true,true,true,true,true,true,true,true,true,true,true,true] rfl rfl (one_of HT_.out (by kernel_rfl)) (by decide) (fun K hK => ?_)
                  have hs67 : w66.cell? ⟨gb252, 0, none⟩ = some (.int .i64 0) := (blk_cell BK252.out 0).trans rfl
                  have hfs67 := blk_frozen BK252.out 0
                  have hns67_0 := NB242_252.out
                  have hms67_0 := NB252_242.out
                  have hs68 : w66.cell? ⟨gb252, 1, none⟩ = some (.int .u64 0) := (blk_cell BK252.out 1).trans rfl
                  have hfs68 := blk_frozen BK252.out 1
                  have hns68_0 := NB242_252.out
                  have hms68_0 := NB252_242.out
                  have hs69 : w66.cell? ⟨gb252, 2, none⟩ = some (.string (⟨#[]⟩ : ByteArray)) := (blk_cell BK252.out 2).trans rfl
                  have hfs69 := blk_frozen BK252.out 2
                  have hns69_0 := NB242_252.out
                  have hms69_0 := NB252_242.out
                  refine skip_ (w1 := ?_) (by rfl) rfl ?_ ?_
                  rotate_left
                  ·go_simp
                   rfl
                  refine hK.out _ _ trivial (fun hHeld => ?_)
                  clear hK K
                  refine done_ (done_of HT_.out (by kernel_rfl)) ?_
                  have hnb70 := NB252_242.out
                  have hnc70 := NB242_252.out
                  have hcz71_0 : w66.cell? ⟨gb252, 0, none⟩ = some (.int .i64 0) := (blk_cell BK252.out 0).trans rfl
                  have hcz71_1 : w66.cell? ⟨gb252, 1, none⟩ = some (.int .u64 0) := (blk_cell BK252.out 1).trans rfl
                  have hcz71_2 : w66.cell? ⟨gb252, 2, none⟩ = some (.string (⟨#[]⟩ : ByteArray)) := (blk_cell BK252.out 2).trans rfl
                  have hfz71_0 := blk_frozen BK252.out 0
                  have hfz71_1 := blk_frozen BK252.out 1
                  have hfz71_2 := blk_frozen BK252.out 2
                  try go_wp2
                  go_ret
                  exact ⟨by first | rfl | (simp [errW_none, errW_some] <;> rfl) | (simp only [← hji52, ← hji56]; first | rfl | (simp [errW_none, errW_some] <;> rfl)) | (simp [*, errW_none, errW_some] <;> rfl), by repeat (first | (with_reducible first | exact HB.out | apply below_alloc | apply pw_below_drewN | apply below_drew1 | refine below_set ?_ GE242.out | refine below_set ?_ GE252.out) | exact HB.out)⟩
                 ·rw [if_neg c61] at H
                  have c61b0 : (t249 == 25) = false := beq_eq_false_iff_ne.mpr c61
                  have c61b1 : (t249 != 25) = true := bne_iff_ne.mpr c61
                  obtain rfl := Option.some.inj H
                  obtain ⟨Ao72, co72, eo72⟩ := Kd.R_slice HO_5.out
                  subst eo72
                  try go_wp2
                  have n0_ := Aside0.mk (Kd.R_drew HO_5.out)
                  have n1_ := Aside0.mk (Kd.R_drew HO_9.out)
                  have n2_ := Aside0.mk (blk_drew BK242.out)
                  have n3_ := Aside0.mk (below_drew1 HB.out)
                  clear HO_5
                  clear HO_9
                  clear BK242
                  clear HB
                  have HO_5 := n0_
                  have HO_9 := n1_
                  have BK242 := n2_
                  have HB := n3_
                  clear n0_ n1_ n2_ n3_
                  refine start_ (n := 18) (S := fun w' => True) (ds := []) #[false,false,false,false,false,false,false,false,false,false,false,false,false,false,false,false,false,false] (by kernel_rfl) rfl rfl trivial (fun hHeld => ?_); refine with_tabW turnbucklelaw11_SymPlaces.tab22 turnbucklelaw11_SymPlaces.bits22 (fun HT_ HW_ => ?_)
                  generalize wr.drew = w73 at HO_5 HO_9 BK242 HB hHeld ⊢
                  refine pure_ (i:=0) (N := some 113) (v:=?_) (a':=?_) #[true,false,false,false,false,false,false,false,false,false,false,false,false,false,false,false,false,false] rfl rfl (any_of HT_.out (by kernel_rfl)) (fun _ _ _ h=>h) (Or.inl ⟨by rfl, ?_⟩) ?_ ?_
                  rotate_left
                  ·intro w'
                   go_simp
                   with_reducible rfl
                  rotate_left
                  ·simp only [Act.put,lz1,lz2,lz3,i64_w,i32_w]
                   rfl
                  refine pure_ (i:=1) (N := some 114) (v:=?_) (a':=?_) #[true,true,false,false,false,false,false,false,false,false,false,false,false,false,false,false,false,false] rfl rfl (any_of HT_.out (by kernel_rfl)) (fun _ _ _ h=>h) (Or.inl ⟨by rfl, ?_⟩) ?_ ?_
                  rotate_left
                  ·intro w'
                   go_simp
                   with_reducible rfl
                  rotate_left
                  ·simp only [Act.put,lz1,lz2,lz3,i64_w,i32_w]
                   rfl
                  refine pure_ (i:=2) (N := some 115) (v:=?_) (a':=?_) #[true,true,true,false,false,false,false,false,false,false,false,false,false,false,false,false,false,false] rfl rfl (any_of HT_.out (by kernel_rfl)) (fun _ _ _ h=>h) (Or.inl ⟨by rfl, ?_⟩) ?_ ?_
                  rotate_left
                  ·intro w'
                   go_simp
                   with_reducible rfl
                  rotate_left
                  ·simp only [Act.put,lz1,lz2,lz3,i64_w,i32_w]
                   rfl
                  refine pure_ (i:=3) (N := some 116) (v:=?_) (a':=?_) #[true,true,true,true,false,false,false,false,false,false,false,false,false,false,false,false,false,false] rfl rfl (any_of HT_.out (by kernel_rfl)) (fun _ _ _ h=>h) (Or.inl ⟨by rfl, ?_⟩) ?_ ?_
                  rotate_left
                  ·intro w'
                   go_simp
                   with_reducible rfl
                  rotate_left
                  ·simp only [Act.put,lz1,lz2,lz3,i64_w,i32_w]
                   rfl
                  refine pure_ (i:=4) (N := some 117) (v:=?_) (a':=?_) #[true,true,true,true,true,false,false,false,false,false,false,false,false,false,false,false,false,false] rfl rfl (any_of HT_.out (by kernel_rfl)) (fun _ _ _ h=>h) (Or.inl ⟨by rfl, ?_⟩) ?_ ?_
                  rotate_left
                  ·intro w'
                   go_simp
                   with_reducible rfl
                  rotate_left
                  ·simp only [Act.put,lz1,lz2,lz3,i64_w,i32_w]
                   rfl
                  refine pure_ (i:=5) (N := some 118) (v:=?_) (a':=?_) #[true,true,true,true,true,true,false,false,false,false,false,false,false,false,false,false,false,false] rfl rfl (any_of HT_.out (by kernel_rfl)) (fun _ _ _ h=>h) (Or.inl ⟨by rfl, ?_⟩) ?_ ?_
                  rotate_left
                  ·intro w'
                   go_simp
                   with_reducible rfl
                  rotate_left
                  ·simp only [Act.put,lz1,lz2,lz3,i64_w,i32_w]
                   rfl
                  refine pure_ (i:=6) (N := some 119) (v:=?_) (a':=?_) #[true,true,true,true,true,true,true,false,false,false,false,false,false,false,false,false,false,false] rfl rfl (any_of HT_.out (by kernel_rfl)) (fun _ _ _ h=>h) (Or.inl ⟨by rfl, ?_⟩) ?_ ?_
                  rotate_left
                  ·intro w'
                   go_simp
                   with_reducible rfl
                  rotate_left
                  ·simp only [Act.put,lz1,lz2,lz3,i64_w,i32_w]
                   rfl
                  refine pure_ (i:=7) (N := some 120) (v:=?_) (a':=?_) #[true,true,true,true,true,true,true,true,false,false,false,false,false,false,false,false,false,false] rfl rfl (any_of HT_.out (by kernel_rfl)) (fun _ _ _ h=>h) (Or.inl ⟨by rfl, ?_⟩) ?_ ?_
                  rotate_left
                  ·intro w'
                   go_simp
                   with_reducible rfl
                  rotate_left
                  ·simp only [Act.put,lz1,lz2,lz3,i64_w,i32_w]
                   rfl
                  refine pure_ (i:=8) (N := some 121) (v:=?_) (a':=?_) #[true,true,true,true,true,true,true,true,true,false,false,false,false,false,false,false,false,false] rfl rfl (any_of HT_.out (by kernel_rfl)) (fun _ _ _ h=>h) (Or.inl ⟨by rfl, ?_⟩) ?_ ?_
                  rotate_left
                  ·intro w'
                   go_simp
                   with_reducible rfl
                  rotate_left
                  ·simp only [Act.put,lz1,lz2,lz3,i64_w,i32_w]
                   rfl
                  refine pure_ (i:=9) (N := some 122) (v:=?_) (a':=?_) #[true,true,true,true,true,true,true,true,true,true,false,false,false,false,false,false,false,false] rfl rfl (any_of HT_.out (by kernel_rfl)) (fun _ _ _ h=>h) (Or.inl ⟨by rfl, ?_⟩) ?_ ?_
                  rotate_left
                  ·intro w'
                   go_simp
                   with_reducible rfl
                  rotate_left
                  ·simp only [Act.put,lz1,lz2,lz3,i64_w,i32_w]
                   rfl
                  refine pure_ (i:=10) (N := some 123) (v:=?_) (a':=?_) #[true,true,true,true,true,true,true,true,true,true,true,false,false,false,false,false,false,false] rfl rfl (any_of HT_.out (by kernel_rfl)) (fun _ _ _ h=>h) (Or.inl ⟨by rfl, ?_⟩) ?_ ?_
                  rotate_left
                  ·intro w'
                   go_simp
                   first | with_reducible rfl | (refine Eq.trans (b := .ok (.value (.bool true)) w') ?_ (by with_reducible rfl); (repeat' (first | with_reducible rfl | split)); all_goals (first | rfl | (exfalso; simp_all; done))) | (refine Eq.trans (b := .ok (.value (.bool false)) w') ?_ (by with_reducible rfl); (repeat' (first | with_reducible rfl | split)); all_goals (first | rfl | (exfalso; simp_all; done)))
                  rotate_left
                  ·simp only [Act.put,lz1,lz2,lz3,i64_w,i32_w]
                   rfl
                  refine join_ (σ := Value × Nat) 2 #[true,true,true,true,true,true,true,true,true,true,true,true,true,true,true,true,false,false] (fun s_ => [(124, .tuple #[s_.1, .agg #[.int .i64 t249, .int .u64 t250, .string t251]]), (14, .pointer (some ⟨s_.2, 0, none⟩)), (112, .tuple #[s_.1, .agg #[.int .i64 t249, .int .u64 t250, .string t251]]), (125, s_.1), (126, .agg #[.int .i64 t249, .int .u64 t250, .string t251])]) (fun s_ w' => (Kd.R k28 28 w' w.heap.size (fun k_ => some k_ ≠ (.slice Ao72 x5_4.length co72 : Value).ownBlock ∧ some k_ ≠ (v237 : Value).ownBlock) s_.1 t246) ∧ (Kd.R k28 28 w' w.heap.size (fun k_ => some k_ ≠ (s_.1 : Value).ownBlock ∧ some k_ ≠ (v237 : Value).ownBlock) (.slice Ao72 x5_4.length co72) x5_4) ∧ (Kd.R k28 28 w' w.heap.size (fun k_ => some k_ ≠ (s_.1 : Value).ownBlock ∧ some k_ ≠ (.slice Ao72 x5_4.length co72 : Value).ownBlock) v237 t236) ∧ (w'.heap[gb242]? = some (.cells #[.int .i64 t239, .int .u64 t240, .string t241] 35 (0, 0))) ∧ (w'.heap[s_.2]? = some (.cells #[.int .i64 0, .int .u64 0, .string (⟨#[]⟩ : ByteArray)] 35 (0, 0))) ∧ (w.heap.size ≤ s_.2) ∧ (w.heap.size ≤ s_.2) ∧ (gb242 ≠ s_.2) ∧ (s_.2 ≠ gb242) ∧ (Below w.heap.size w w')) ?_ ?_
                  rotate_left
                  ·intro hCont
                   refine two_ (i := 11) (j := 15) (Ni := some 124) (Nj := some 14) #[true,true,true,true,true,true,true,true,true,true,true,true,false,false,false,false,false,false] #[true,true,true,true,true,true,true,true,true,true,true,false,false,false,false,true,false,false] rfl rfl rfl rfl (two_of HT_.out (by kernel_rfl)) (by decide) (by decide) (fun K hK => ?_) (fun K hK => ?_)
                   ·skip
                    refine goes_ Try.func10 (by kernel_rfl) rfl #[.string (((x6_4.extract 0 ((ji52) : Int).toNat) ++ (⟨#[9]⟩ : ByteArray)) ++ (x6_4.extract ((ji56) : Int).toNat x6_4.size)), .string (⟨#[120, 0]⟩ : ByteArray)] (by rfl) rfl rfl (by (try simp only [List.map_toArray, List.map_cons, List.map_nil]); first | done | (simp only [hji52, hji56]; rfl) | rfl | (simp only [List.length_drop, List.length_take]; rfl)) ?_
                    with_reducible refine (sym_Read.calls k3 (((x6_4.extract 0 ((ji52) : Int).toNat) ++ (⟨#[9]⟩ : ByteArray)) ++ (x6_4.extract ((ji56) : Int).toNat x6_4.size)) (⟨#[120, 0]⟩ : ByteArray) t246 t249 t250 t251 _ A60.out).mono ?_
                    rintro e w74 ⟨v247, rfl, ho0, hb⟩
                    refine ⟨_, rfl, ?_⟩
                    have n0_ := Aside0.mk (Kd.R_elder' (by (with_reducible repeat (first | apply Kd.R_alloc | apply Kd.R_drewN | apply Kd.R_drew)); exact HO_5.out) (Kd.R_base ho0) hb)
                    have n1_ := Aside0.mk (Kd.R_elder' (by (with_reducible repeat (first | apply Kd.R_alloc | apply Kd.R_drewN | apply Kd.R_drew)); exact HO_9.out) (Kd.R_base ho0) hb)
                    have n2_ := Aside0.mk (Kd.R_lower (Kd.R_new' (Kd.R_new' ho0 (Kd.R_lt (by (with_reducible repeat (first | apply Kd.R_alloc | apply Kd.R_drewN | apply Kd.R_drew)); exact HO_5.out))) (Kd.R_lt (by (with_reducible repeat (first | apply Kd.R_alloc | apply Kd.R_drewN | apply Kd.R_drew)); exact HO_9.out))) (below_size (by repeat (first | (with_reducible first | exact HB.out | apply below_alloc | apply pw_below_drewN | apply below_drew1 | refine below_set ?_ GE242.out) | exact HB.out))))
                    have n3_ := Aside0.mk (blk_below (g := gb242) (o := .cells #[.int .i64 t239, .int .u64 t240, .string t241] 35 (0, 0)) (by (with_reducible repeat (first | refine blk_drewN ?_ _ | refine blk_drew ?_ | refine blk_alloc ?_ _)); exact BK242.out) hb)
                    have n4_ := Aside0.mk (below_step (by repeat (first | (with_reducible first | exact HB.out | apply below_alloc | apply pw_below_drewN | apply below_drew1 | refine below_set ?_ GE242.out) | exact HB.out)) hb)
                    clear HO_5
                    clear HO_9
                    clear BK242
                    clear HB
                    have HO_5 := n0_
                    have HO_9 := n1_
                    have HO248 := n2_
                    have BK242 := n3_
                    have HB := n4_
                    clear n0_ n1_ n2_ n3_ n4_
                    (try clear hb)
                    (try clear hb2)
                    (try clear hk)
                    (try clear hi)
                    (try clear ho0)
                    refine hK.out _ _ trivial (fun hHeld => ?_)
                    clear hK K
                    refine norm_ (a' := ?_) ?_ ?_
                    rotate_left
                    ·show Act.put _ (some 124) _ = _
                     simp only [Act.put,lz1,lz2,lz3,i64_w,i32_w]
                     rfl
                    refine pure_ (i:=12) (N := some 112) (v:=?_) (a':=?_) #[true,true,true,true,true,true,true,true,true,true,true,true,true,false,false,false,false,false] rfl rfl (any_of HT_.out (by kernel_rfl)) (fun _ _ _ h=>h) (Or.inl ⟨by rfl, ?_⟩) ?_ ?_
                    rotate_left
                    ·intro w'
                     go_simp
                     with_reducible rfl
                    rotate_left
                    ·simp only [Act.put,lz1,lz2,lz3,i64_w,i32_w]
                     rfl
                    refine pure_ (i:=13) (N := some 125) (v:=?_) (a':=?_) #[true,true,true,true,true,true,true,true,true,true,true,true,true,true,false,false,false,false] rfl rfl (any_of HT_.out (by kernel_rfl)) (fun _ _ _ h=>h) (Or.inl ⟨by rfl, ?_⟩) ?_ ?_
                    rotate_left
                    ·intro w'
                     go_simp
                     with_reducible rfl
                    rotate_left
                    ·simp only [Act.put,lz1,lz2,lz3,i64_w,i32_w]
                     rfl
                    refine pure_ (i:=14) (N := some 126) (v:=?_) (a':=?_) #[true,true,true,true,true,true,true,true,true,true,true,true,true,true,true,false,false,false] rfl rfl (any_of HT_.out (by kernel_rfl)) (fun _ _ _ h=>h) (Or.inl ⟨by rfl, ?_⟩) ?_ ?_
                    rotate_left
                    ·intro w'
                     go_simp
                     with_reducible rfl
                    rotate_left
                    ·simp only [Act.put,lz1,lz2,lz3,i64_w,i32_w]
                     rfl
                    refine one_ (i := 15) (N := some 14) #[true,true,true,true,true,true,true,true,true,true,true,true,true,true,true,true,false,false] rfl rfl (one_of HT_.out (by kernel_rfl)) (by decide) (fun K hK => ?_)
                    refine box_step ?hg (N := 14) ?hd (cs := #[.int .i64 0, .int .u64 0, .string (⟨#[]⟩ : ByteArray)]) (t := 35) ?hr ?_; (case hd => rfl); (case hg => rfl); (case hr => first | (go_simp; done) | (go_simp; rfl))
                    intro gb252 hg w75 hbox hb
                    have n0_ := Aside0.mk (Kd.R_below (by (with_reducible repeat (first | apply Kd.R_alloc | apply Kd.R_drewN | apply Kd.R_drew)); exact HO_5.out) hb)
                    have n1_ := Aside0.mk (Kd.R_below (by (with_reducible repeat (first | apply Kd.R_alloc | apply Kd.R_drewN | apply Kd.R_drew)); exact HO_9.out) hb)
                    have n2_ := Aside0.mk (Kd.R_below (by (with_reducible repeat (first | apply Kd.R_alloc | apply Kd.R_drewN | apply Kd.R_drew)); exact HO248.out) hb)
                    have n3_ := Aside0.mk (blk_below (g := gb242) (o := .cells #[.int .i64 t239, .int .u64 t240, .string t241] 35 (0, 0)) (by (with_reducible repeat (first | refine blk_drewN ?_ _ | refine blk_drew ?_ | refine blk_alloc ?_ _)); exact BK242.out) hb)
                    have n4_ := Aside0.mk (below_step (by repeat (first | (with_reducible first | exact HB.out | apply below_alloc | apply pw_below_drewN | apply below_drew1 | refine below_set ?_ GE242.out) | exact HB.out)) hb)
                    have n5_ := Aside0.mk (hbox)
                    have n6_ := Aside0.mk ((by rw [hg]; exact (below_size (by repeat (first | (with_reducible first | exact HB.out | apply below_alloc | apply pw_below_drewN | apply below_drew1 | refine below_set ?_ GE242.out) | exact HB.out))) : w.heap.size ≤ gb252))
                    have n7_ := Aside0.mk ((by rw [hg]; exact (below_size (by repeat (first | (with_reducible first | exact HB.out | apply below_alloc | apply pw_below_drewN | apply below_drew1 | refine below_set ?_ GE242.out) | exact HB.out))) : w.heap.size ≤ gb252))
                    have n8_ := Aside0.mk ((by rw [hg]; exact Nat.ne_of_lt (blk_lt (g := gb242) (o := .cells #[.int .i64 t239, .int .u64 t240, .string t241] 35 (0, 0)) (by (with_reducible repeat (first | refine blk_drewN ?_ _ | refine blk_drew ?_ | refine blk_alloc ?_ _)); exact BK242.out)) : gb242 ≠ gb252))
                    have n9_ := Aside0.mk ((by rw [hg]; exact Nat.ne_of_gt (blk_lt (g := gb242) (o := .cells #[.int .i64 t239, .int .u64 t240, .string t241] 35 (0, 0)) (by (with_reducible repeat (first | refine blk_drewN ?_ _ | refine blk_drew ?_ | refine blk_alloc ?_ _)); exact BK242.out)) : gb252 ≠ gb242))
                    clear HO_5
                    clear HO_9
                    clear HO248
                    clear BK242
                    clear HB
                    have HO_5 := n0_
                    have HO_9 := n1_
                    have HO248 := n2_
                    have BK242 := n3_
                    have HB := n4_
                    have BK252 := n5_
                    have GW252 := n6_
                    have GE252 := n7_
                    have NB242_252 := n8_
                    have NB252_242 := n9_
                    clear n0_ n1_ n2_ n3_ n4_ n5_ n6_ n7_ n8_ n9_
                    clear hb hbox hg
                    refine hK.out _ _ trivial (fun hHeld => ?_)
                    clear hK K
                    refine norm_ (a' := ?_) ?_ ?_
                    rotate_left
                    ·show Act.put _ (some 14) _ = _
                     simp only [Act.put,lz1,lz2,lz3,i64_w,i32_w]
                     rfl
                    exact norm_ (by simp only [putAll, Act.put, List.setIfInBounds_toArray, List.set_cons_zero, List.set_cons_succ]) (hCont (v247, gb252) _ ⟨(by (with_reducible repeat (first | apply Kd.R_alloc | apply Kd.R_drewN | apply Kd.R_drew)); exact Kd.R_mono HO248.out (fun _ hk => ⟨hk.1.2, hk.2⟩)), (by (with_reducible repeat (first | apply Kd.R_alloc | apply Kd.R_drewN | apply Kd.R_drew)); exact Kd.R_mono HO_5.out (fun _ hk => ⟨hk.2, hk.1⟩)), (by (with_reducible repeat (first | apply Kd.R_alloc | apply Kd.R_drewN | apply Kd.R_drew)); exact Kd.R_mono HO_9.out (fun _ hk => ⟨hk.2, hk.1⟩)), (by (with_reducible repeat (first | refine blk_drewN ?_ _ | refine blk_drew ?_ | refine blk_alloc ?_ _)); exact BK242.out), (by (with_reducible repeat (first | refine blk_drewN ?_ _ | refine blk_drew ?_ | refine blk_alloc ?_ _)); exact BK252.out), GW252.out, GE252.out, NB242_252.out, NB252_242.out, (by repeat (first | (with_reducible first | exact HB.out | apply below_alloc | apply pw_below_drewN | apply below_drew1 | refine below_set ?_ GE242.out | refine below_set ?_ GE252.out) | exact HB.out))⟩)
                   ·skip
                    refine box_step ?hg (N := 14) ?hd (cs := #[.int .i64 0, .int .u64 0, .string (⟨#[]⟩ : ByteArray)]) (t := 35) ?hr ?_; (case hd => rfl); (case hg => rfl); (case hr => first | (go_simp; done) | (go_simp; rfl))
                    intro gb252 hg w74 hbox hb
                    have n0_ := Aside0.mk (Kd.R_below (by (with_reducible repeat (first | apply Kd.R_alloc | apply Kd.R_drewN | apply Kd.R_drew)); exact HO_5.out) hb)
                    have n1_ := Aside0.mk (Kd.R_below (by (with_reducible repeat (first | apply Kd.R_alloc | apply Kd.R_drewN | apply Kd.R_drew)); exact HO_9.out) hb)
                    have n2_ := Aside0.mk (blk_below (g := gb242) (o := .cells #[.int .i64 t239, .int .u64 t240, .string t241] 35 (0, 0)) (by (with_reducible repeat (first | refine blk_drewN ?_ _ | refine blk_drew ?_ | refine blk_alloc ?_ _)); exact BK242.out) hb)
                    have n3_ := Aside0.mk (below_step (by repeat (first | (with_reducible first | exact HB.out | apply below_alloc | apply pw_below_drewN | apply below_drew1 | refine below_set ?_ GE242.out) | exact HB.out)) hb)
                    have n4_ := Aside0.mk (hbox)
                    have n5_ := Aside0.mk ((by rw [hg]; exact (below_size (by repeat (first | (with_reducible first | exact HB.out | apply below_alloc | apply pw_below_drewN | apply below_drew1 | refine below_set ?_ GE242.out) | exact HB.out))) : w.heap.size ≤ gb252))
                    have n6_ := Aside0.mk ((by rw [hg]; exact (below_size (by repeat (first | (with_reducible first | exact HB.out | apply below_alloc | apply pw_below_drewN | apply below_drew1 | refine below_set ?_ GE242.out) | exact HB.out))) : w.heap.size ≤ gb252))
                    have n7_ := Aside0.mk ((by rw [hg]; exact Nat.ne_of_lt (blk_lt (g := gb242) (o := .cells #[.int .i64 t239, .int .u64 t240, .string t241] 35 (0, 0)) (by (with_reducible repeat (first | refine blk_drewN ?_ _ | refine blk_drew ?_ | refine blk_alloc ?_ _)); exact BK242.out)) : gb242 ≠ gb252))
                    have n8_ := Aside0.mk ((by rw [hg]; exact Nat.ne_of_gt (blk_lt (g := gb242) (o := .cells #[.int .i64 t239, .int .u64 t240, .string t241] 35 (0, 0)) (by (with_reducible repeat (first | refine blk_drewN ?_ _ | refine blk_drew ?_ | refine blk_alloc ?_ _)); exact BK242.out)) : gb252 ≠ gb242))
                    clear HO_5
                    clear HO_9
                    clear BK242
                    clear HB
                    have HO_5 := n0_
                    have HO_9 := n1_
                    have BK242 := n2_
                    have HB := n3_
                    have BK252 := n4_
                    have GW252 := n5_
                    have GE252 := n6_
                    have NB242_252 := n7_
                    have NB252_242 := n8_
                    clear n0_ n1_ n2_ n3_ n4_ n5_ n6_ n7_ n8_
                    clear hb hbox hg
                    refine hK.out _ _ trivial (fun hHeld => ?_)
                    clear hK K
                    refine norm_ (a' := ?_) ?_ ?_
                    rotate_left
                    ·show Act.put _ (some 14) _ = _
                     simp only [Act.put,lz1,lz2,lz3,i64_w,i32_w]
                     rfl
                    refine one_ (i := 11) (N := some 124) #[true,true,true,true,true,true,true,true,true,true,true,true,false,false,false,true,false,false] rfl rfl (one_of HT_.out (by kernel_rfl)) (by decide) (fun K hK => ?_)
                    refine goes_ Try.func10 (by kernel_rfl) rfl #[.string (((x6_4.extract 0 ((ji52) : Int).toNat) ++ (⟨#[9]⟩ : ByteArray)) ++ (x6_4.extract ((ji56) : Int).toNat x6_4.size)), .string (⟨#[120, 0]⟩ : ByteArray)] (by rfl) rfl rfl (by (try simp only [List.map_toArray, List.map_cons, List.map_nil]); first | done | (simp only [hji52, hji56]; rfl) | rfl | (simp only [List.length_drop, List.length_take]; rfl)) ?_
                    with_reducible refine (sym_Read.calls k3 (((x6_4.extract 0 ((ji52) : Int).toNat) ++ (⟨#[9]⟩ : ByteArray)) ++ (x6_4.extract ((ji56) : Int).toNat x6_4.size)) (⟨#[120, 0]⟩ : ByteArray) t246 t249 t250 t251 _ A60.out).mono ?_
                    rintro e w75 ⟨v247, rfl, ho0, hb⟩
                    refine ⟨_, rfl, ?_⟩
                    have n0_ := Aside0.mk (Kd.R_elder' (by (with_reducible repeat (first | apply Kd.R_alloc | apply Kd.R_drewN | apply Kd.R_drew)); exact HO_5.out) (Kd.R_base ho0) hb)
                    have n1_ := Aside0.mk (Kd.R_elder' (by (with_reducible repeat (first | apply Kd.R_alloc | apply Kd.R_drewN | apply Kd.R_drew)); exact HO_9.out) (Kd.R_base ho0) hb)
                    have n2_ := Aside0.mk (Kd.R_lower (Kd.R_new' (Kd.R_new' ho0 (Kd.R_lt (by (with_reducible repeat (first | apply Kd.R_alloc | apply Kd.R_drewN | apply Kd.R_drew)); exact HO_5.out))) (Kd.R_lt (by (with_reducible repeat (first | apply Kd.R_alloc | apply Kd.R_drewN | apply Kd.R_drew)); exact HO_9.out))) (below_size (by repeat (first | (with_reducible first | exact HB.out | apply below_alloc | apply pw_below_drewN | apply below_drew1 | refine below_set ?_ GE242.out | refine below_set ?_ GE252.out) | exact HB.out))))
                    have n3_ := Aside0.mk (blk_below (g := gb242) (o := .cells #[.int .i64 t239, .int .u64 t240, .string t241] 35 (0, 0)) (by (with_reducible repeat (first | refine blk_drewN ?_ _ | refine blk_drew ?_ | refine blk_alloc ?_ _)); exact BK242.out) hb)
                    have n4_ := Aside0.mk (blk_below (g := gb252) (o := .cells #[.int .i64 0, .int .u64 0, .string (⟨#[]⟩ : ByteArray)] 35 (0, 0)) (by (with_reducible repeat (first | refine blk_drewN ?_ _ | refine blk_drew ?_ | refine blk_alloc ?_ _)); exact BK252.out) hb)
                    have n5_ := Aside0.mk (below_step (by repeat (first | (with_reducible first | exact HB.out | apply below_alloc | apply pw_below_drewN | apply below_drew1 | refine below_set ?_ GE242.out | refine below_set ?_ GE252.out) | exact HB.out)) hb)
                    clear HO_5
                    clear HO_9
                    clear BK242
                    clear BK252
                    clear HB
                    have HO_5 := n0_
                    have HO_9 := n1_
                    have HO248 := n2_
                    have BK242 := n3_
                    have BK252 := n4_
                    have HB := n5_
                    clear n0_ n1_ n2_ n3_ n4_ n5_
                    (try clear hb)
                    (try clear hb2)
                    (try clear hk)
                    (try clear hi)
                    (try clear ho0)
                    refine hK.out _ _ trivial (fun hHeld => ?_)
                    clear hK K
                    refine norm_ (a' := ?_) ?_ ?_
                    rotate_left
                    ·show Act.put _ (some 124) _ = _
                     simp only [Act.put,lz1,lz2,lz3,i64_w,i32_w]
                     rfl
                    refine pure_ (i:=12) (N := some 112) (v:=?_) (a':=?_) #[true,true,true,true,true,true,true,true,true,true,true,true,true,false,false,true,false,false] rfl rfl (any_of HT_.out (by kernel_rfl)) (fun _ _ _ h=>h) (Or.inl ⟨by rfl, ?_⟩) ?_ ?_
                    rotate_left
                    ·intro w'
                     go_simp
                     with_reducible rfl
                    rotate_left
                    ·simp only [Act.put,lz1,lz2,lz3,i64_w,i32_w]
                     rfl
                    refine pure_ (i:=13) (N := some 125) (v:=?_) (a':=?_) #[true,true,true,true,true,true,true,true,true,true,true,true,true,true,false,true,false,false] rfl rfl (any_of HT_.out (by kernel_rfl)) (fun _ _ _ h=>h) (Or.inl ⟨by rfl, ?_⟩) ?_ ?_
                    rotate_left
                    ·intro w'
                     go_simp
                     with_reducible rfl
                    rotate_left
                    ·simp only [Act.put,lz1,lz2,lz3,i64_w,i32_w]
                     rfl
                    refine pure_ (i:=14) (N := some 126) (v:=?_) (a':=?_) #[true,true,true,true,true,true,true,true,true,true,true,true,true,true,true,true,false,false] rfl rfl (any_of HT_.out (by kernel_rfl)) (fun _ _ _ h=>h) (Or.inl ⟨by rfl, ?_⟩) ?_ ?_
                    rotate_left
                    ·intro w'
                     go_simp
                     with_reducible rfl
                    rotate_left
                    ·simp only [Act.put,lz1,lz2,lz3,i64_w,i32_w]
                     rfl
                    exact norm_ (by simp only [putAll, Act.put, List.setIfInBounds_toArray, List.set_cons_zero, List.set_cons_succ]) (hCont (v247, gb252) _ ⟨(by (with_reducible repeat (first | apply Kd.R_alloc | apply Kd.R_drewN | apply Kd.R_drew)); exact Kd.R_mono HO248.out (fun _ hk => ⟨hk.1.2, hk.2⟩)), (by (with_reducible repeat (first | apply Kd.R_alloc | apply Kd.R_drewN | apply Kd.R_drew)); exact Kd.R_mono HO_5.out (fun _ hk => ⟨hk.2, hk.1⟩)), (by (with_reducible repeat (first | apply Kd.R_alloc | apply Kd.R_drewN | apply Kd.R_drew)); exact Kd.R_mono HO_9.out (fun _ hk => ⟨hk.2, hk.1⟩)), (by (with_reducible repeat (first | refine blk_drewN ?_ _ | refine blk_drew ?_ | refine blk_alloc ?_ _)); exact BK242.out), (by (with_reducible repeat (first | refine blk_drewN ?_ _ | refine blk_drew ?_ | refine blk_alloc ?_ _)); exact BK252.out), GW252.out, GE252.out, NB242_252.out, NB252_242.out, (by repeat (first | (with_reducible first | exact HB.out | apply below_alloc | apply pw_below_drewN | apply below_drew1 | refine below_set ?_ GE242.out | refine below_set ?_ GE252.out) | exact HB.out))⟩)
                  rintro ⟨v247, gb252⟩ w76 ⟨h0_, h1_, h2_, h3_, h4_, h5_, h6_, h7_, h8_, h9_⟩
                  have n0_ : Aside0 (Kd.R k28 28 w76 w.heap.size (fun k_ => some k_ ≠ (.slice Ao72 x5_4.length co72 : Value).ownBlock ∧ some k_ ≠ (v237 : Value).ownBlock) v247 t246) := ⟨h0_⟩
                  have n1_ : Aside0 (Kd.R k28 28 w76 w.heap.size (fun k_ => some k_ ≠ (v247 : Value).ownBlock ∧ some k_ ≠ (v237 : Value).ownBlock) (.slice Ao72 x5_4.length co72) x5_4) := ⟨h1_⟩
                  have n2_ : Aside0 (Kd.R k28 28 w76 w.heap.size (fun k_ => some k_ ≠ (v247 : Value).ownBlock ∧ some k_ ≠ (.slice Ao72 x5_4.length co72 : Value).ownBlock) v237 t236) := ⟨h2_⟩
                  have n3_ : Aside0 (w76.heap[gb242]? = some (.cells #[.int .i64 t239, .int .u64 t240, .string t241] 35 (0, 0))) := ⟨h3_⟩
                  have n4_ : Aside0 (w76.heap[gb252]? = some (.cells #[.int .i64 0, .int .u64 0, .string (⟨#[]⟩ : ByteArray)] 35 (0, 0))) := ⟨h4_⟩
                  have n5_ : Aside0 (w.heap.size ≤ gb252) := ⟨h5_⟩
                  have n6_ : Aside0 (w.heap.size ≤ gb252) := ⟨h6_⟩
                  have n7_ : Aside0 (gb242 ≠ gb252) := ⟨h7_⟩
                  have n8_ : Aside0 (gb252 ≠ gb242) := ⟨h8_⟩
                  have n9_ : Aside0 (Below w.heap.size w w76) := ⟨h9_⟩
                  clear HO_5
                  clear HO_9
                  clear BK242
                  clear HB
                  clear h0_ h1_ h2_ h3_ h4_ h5_ h6_ h7_ h8_ h9_
                  have HO248 := n0_
                  have HO_5 := n1_
                  have HO_9 := n2_
                  have BK242 := n3_
                  have BK252 := n4_
                  have GW252 := n5_
                  have GE252 := n6_
                  have NB242_252 := n7_
                  have NB252_242 := n8_
                  have HB := n9_
                  clear n0_ n1_ n2_ n3_ n4_ n5_ n6_ n7_ n8_ n9_
                  have hHeld := trivial
                  refine norm_ (a' := ?_) ?_ ?_
                  rotate_left
                  ·simp only [putAll, Act.put, List.setIfInBounds_toArray, List.set_cons_zero, List.set_cons_succ]
                   rfl
                  refine pure_ (i:=16) (N := some 13) (v:=?_) (a':=?_) #[true,true,true,true,true,true,true,true,true,true,true,true,true,true,true,true,true,false] rfl rfl (any_of HT_.out (by kernel_rfl)) (fun _ _ _ h=>h) (Or.inl ⟨by rfl, ?_⟩) ?_ ?_
                  rotate_left
                  ·intro w'
                   go_simp
                   with_reducible rfl
                  rotate_left
                  ·simp only [Act.put,lz1,lz2,lz3,i64_w,i32_w]
                   rfl
                  refine one_ (i := 17) (N := none) #[true,true,true,true,true,true,true,true,true,true,true,true,true,true,true,true,true,true] rfl rfl (one_of HT_.out (by kernel_rfl)) (by decide) (fun K hK => ?_)
                  have hs77 : w76.cell? ⟨gb252, 0, none⟩ = some (.int .i64 0) := (blk_cell BK252.out 0).trans rfl
                  have hfs77 := blk_frozen BK252.out 0
                  have hns77_0 := NB242_252.out
                  have hms77_0 := NB252_242.out
                  have hs78 : w76.cell? ⟨gb252, 1, none⟩ = some (.int .u64 0) := (blk_cell BK252.out 1).trans rfl
                  have hfs78 := blk_frozen BK252.out 1
                  have hns78_0 := NB242_252.out
                  have hms78_0 := NB252_242.out
                  have hs79 : w76.cell? ⟨gb252, 2, none⟩ = some (.string (⟨#[]⟩ : ByteArray)) := (blk_cell BK252.out 2).trans rfl
                  have hfs79 := blk_frozen BK252.out 2
                  have hns79_0 := NB242_252.out
                  have hms79_0 := NB252_242.out
                  refine skip_ (w1 := ?_) (by rfl) rfl ?_ ?_
                  rotate_left
                  ·go_simp
                   rfl
                  refine hK.out _ _ trivial (fun hHeld => ?_)
                  clear hK K
                  refine done_ (done_of HT_.out (by kernel_rfl)) ?_
                  have hnb80 := NB252_242.out
                  have hnc80 := NB242_252.out
                  have hcz81_0 : w76.cell? ⟨gb252, 0, none⟩ = some (.int .i64 0) := (blk_cell BK252.out 0).trans rfl
                  have hcz81_1 : w76.cell? ⟨gb252, 1, none⟩ = some (.int .u64 0) := (blk_cell BK252.out 1).trans rfl
                  have hcz81_2 : w76.cell? ⟨gb252, 2, none⟩ = some (.string (⟨#[]⟩ : ByteArray)) := (blk_cell BK252.out 2).trans rfl
                  have hfz81_0 := blk_frozen BK252.out 0
                  have hfz81_1 := blk_frozen BK252.out 1
                  have hfz81_2 := blk_frozen BK252.out 2
                  try go_wp2
                  go_ret
                  exact ⟨by first | rfl | (simp [errW_none, errW_some] <;> rfl) | (simp only [← hji52, ← hji56]; first | rfl | (simp [errW_none, errW_some] <;> rfl)) | (simp [*, errW_none, errW_some] <;> rfl), by repeat (first | (with_reducible first | exact HB.out | apply below_alloc | apply pw_below_drewN | apply below_drew1 | refine below_set ?_ GE242.out | refine below_set ?_ GE252.out) | exact HB.out)⟩
                ·rw [if_neg c59] at H
                 exact absurd H (by simp)
               ·rw [if_neg c58] at H
                exact absurd H (by simp)
              ·rw [if_neg c57] at H
               exact absurd H (by simp)
             ·rw [if_neg c55] at H
              exact absurd H (by simp)
            ·rw [if_neg c54] at H
             exact absurd H (by simp)
           ·rw [if_neg c53] at H
            exact absurd H (by simp)
 ·replace c4 := Bool.eq_false_iff.mpr c4
  subst c4
  have H1 : (some false) = some r := by rw [if_neg (show ¬ (false = true) by decide)] at H; exact H
  clear H
  have H := H1
  clear H1
  obtain rfl := Option.some.inj H
  go_enter Try.func4, Try.ntmps4
  go_wp2_with (first | ((with_reducible refine gate_callee (f := 7) rfl ?_); refine goesL_ (some 15) rfl rfl Try.func7 (by kernel_rfl) rfl #[] rfl (by (try simp only [List.map_toArray, List.map_cons, List.map_nil]); first | done | rfl | (simp only [List.length_drop, List.length_take]; rfl)) ?_; (with_reducible refine (turnbucklelaw11_speaks.calls k  false _ A3.out).mono ?_); rintro e w82 ⟨rfl, hb⟩; refine ⟨_, rfl, ?_⟩; have n0_ := Aside0.mk (below_step (by repeat (first | (with_reducible first | exact HB.out | apply below_alloc | apply pw_below_drewN | apply below_drew1) | exact HB.out)) hb); clear HB; have HB := n0_; clear n0_; (try clear hb); (try clear hb2); (try clear hk); (try clear hi)))
  go_ret
  exact ⟨by first | rfl | (simp [errW_none, errW_some] <;> rfl) | (simp [*, errW_none, errW_some] <;> rfl), by repeat (first | (with_reducible first | exact HB.out | apply below_alloc | apply pw_below_drewN | apply below_drew1) | exact HB.out)⟩

/-- THE ONE PURE STATEMENT of turnbucklelaw11_SymPlaces: yours. -/
def turnbucklelaw11_SymPlaces.Pure : Prop := ∀ (l0 : List (S24)) (a1 : Int), l0.length ≤ maxLen → (∀ x ∈ l0, (Lit.int .i64 x.f0).wf = true ∧ (Lit.int .i64 x.f1).wf = true ∧ (Lit.int .i64 x.f2).wf = true ∧ (Lit.int .u64 x.f4).wf = true ∧ (Lit.int .u64 x.f5).wf = true) → (Lit.int .i64 a1).wf = true → ∃ k, turnbucklelaw11_SymPlaces.f k l0 a1 = some true
theorem turnbucklelaw11_SymPlaces.walk (P : turnbucklelaw11_SymPlaces.Pure) (A0 : Option Addr) (c0 : Nat) (l0 : List S24) (a1 : Int) (w : World) (hr0 : Kd.C k24 w A0 l0.length l0) (hc0 : l0.length ≤ c0) (hm0 : l0.length ≤ maxLen) (hw0 : ∀ x ∈ l0, (Lit.int .i64 x.f0).wf = true ∧ (Lit.int .i64 x.f1).wf = true ∧ (Lit.int .i64 x.f2).wf = true ∧ (Lit.int .u64 x.f4).wf = true ∧ (Lit.int .u64 x.f5).wf = true) (w1 : (Lit.int .i64 a1).wf = true) :
  Calls Try.prog 4 #[.slice A0 l0.length c0, .int .i64 a1] w fun e w' => e = .returned (.bool true) ∧ Below w.heap.size w w' := by
 obtain ⟨k, h⟩ := P l0 a1 hm0 hw0 w1
 refine (turnbucklelaw11_SymPlaces.calls k _ _ l0 a1 true w hr0 hc0 h).mono ?_
 rintro e w' ⟨rfl, hd⟩
 exact ⟨rfl, hd⟩

end Go.Proofs.Ytmekjomfdomogaa.PAll
