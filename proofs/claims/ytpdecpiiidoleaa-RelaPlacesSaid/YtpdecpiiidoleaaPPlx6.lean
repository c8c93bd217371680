-- Written by a program of this session (a changed copy of the print of the kit). Not trusted: Lean checks it.
import Derived.Test.YtpdecpiiidoleaaPPlx0
import Derived.Test.YtpdecpiiidoleaaPPlx1
import Derived.Test.YtpdecpiiidoleaaPPlx3
import Derived.Test.YtpdecpiiidoleaaPPlx4
import Derived.Test.YtpdecpiiidoleaaPPlx5
namespace Go.Proofs.Ytpdecpiiidoleaa.PPl
open Go.RowKit Go.Proofs.YtpdecpiiidoleaaW.PrintWords Go.Proofs.YtpdecpiiidoleaaW.PrintLast Go.Proofs.YtpdecpiiidoleaaW.PrintMore
attribute [local go_sem] max2_int min2_int max_two min_two max_three min_three max_four min_four   -- for this text's walks alone
set_option linter.unusedVariables false
set_option linter.unusedSimpArgs false

attribute [local go_sem high] eqA38
/-! ### turnbucklelaw15_RelaPlaces: function 6 -/
mutual
def turnbucklelaw15_RelaPlaces.l0 : Nat → List (S28) → Int → ByteArray → List (S38) → Int → Option (Bool)
 | 0, _, _, _, _, _ => none
 | k + 1, x0, x1, x5, x6, x7 => if x7 < (x0.length : Int) then (turnbucklelaw15_RelaPlaces.j1 k x0 x1 x5 x6 x7 (decide (x7 < 30))) else (turnbucklelaw15_RelaPlaces.j1 k x0 x1 x5 x6 x7 false)
def turnbucklelaw15_RelaPlaces.j1 : Nat → List (S28) → Int → ByteArray → List (S38) → Int → Bool → Option (Bool)
 | 0, _, _, _, _, _, _ => none
 | k + 1, x0, x1, x5, x6, x7, x24 => if x24 = true then (if 0 ≤ x7 then (if x7 < (x0.length : Int) then (if (wrap64 (2 + (Go.bits .and .i64 ((rd_T28 x0 x7).f1) 3))) = 3 then (if x6.length < 4398046511104 then ((rela_Put.f k (Go.bits .andNot .u64 ((rd_T28 x0 x7).f0) 7) (wrap64 (2 + (Go.bits .and .i64 ((rd_T28 x0 x7).f1) 3))) 0 ((rd_T28 x0 x7).f3)).bind fun t137 => (if x5.size + t137.size ≤ 9223372036854775807 then (turnbucklelaw15_RelaPlaces.l0 k x0 x1 (x5 ++ t137) (x6 ++ [(⟨Go.bits .andNot .u64 ((rd_T28 x0 x7).f0) 7, wrap64 (2 + (Go.bits .and .i64 ((rd_T28 x0 x7).f1) 3)), 0, (rd_T28 x0 x7).f3⟩ : S38)]) (wrap64 (x7 + 1))) else (none))) else (none)) else (if x6.length < 4398046511104 then ((rela_Put.f k (Go.bits .andNot .u64 ((rd_T28 x0 x7).f0) 7) (wrap64 (2 + (Go.bits .and .i64 ((rd_T28 x0 x7).f1) 3))) (Go.bits .and .i64 ((rd_T28 x0 x7).f2) 7) ((rd_T28 x0 x7).f3)).bind fun t141 => (if x5.size + t141.size ≤ 9223372036854775807 then (turnbucklelaw15_RelaPlaces.l0 k x0 x1 (x5 ++ t141) (x6 ++ [(⟨Go.bits .andNot .u64 ((rd_T28 x0 x7).f0) 7, wrap64 (2 + (Go.bits .and .i64 ((rd_T28 x0 x7).f1) 3)), Go.bits .and .i64 ((rd_T28 x0 x7).f2) 7, (rd_T28 x0 x7).f3⟩ : S38)]) (wrap64 (x7 + 1))) else (none))) else (none))) else (none)) else (none)) else ((rela_Read.f k x5 8).bind fun bt142 => ((fail_Fault_OK.f bt142.2.1 bt142.2.2.1 bt142.2.2.2).bind fun t149 => (if t149 = true then (turnbucklelaw15_RelaPlaces.j2 k x1 x5 x6 bt142.1 ((bt142.1.length : Int) != (x6.length : Int))) else (turnbucklelaw15_RelaPlaces.j2 k x1 x5 x6 bt142.1 true))))
def turnbucklelaw15_RelaPlaces.j2 : Nat → Int → ByteArray → List (S38) → List (S38) → Bool → Option (Bool)
 | 0, _, _, _, _, _ => none
 | k + 1, x1, x5, x6, x9, x78 => if x78 = true then (some false) else (turnbucklelaw15_RelaPlaces.l1 k x1 x5 x6 x9 0)
def turnbucklelaw15_RelaPlaces.l1 : Nat → Int → ByteArray → List (S38) → List (S38) → Int → Option (Bool)
 | 0, _, _, _, _, _ => none
 | k + 1, x1, x5, x6, x9, x11 => if x11 < (x6.length : Int) then (if 0 ≤ x11 then (if x11 < (x9.length : Int) then (if (!(((rd_T38 x9 x11).f0) == ((rd_T38 x6 x11).f0)) || (!(((rd_T38 x9 x11).f1) == ((rd_T38 x6 x11).f1)) || (!(((rd_T38 x9 x11).f2) == ((rd_T38 x6 x11).f2)) || (!(((rd_T38 x9 x11).f3) == ((rd_T38 x6 x11).f3)))))) = true then (some false) else (turnbucklelaw15_RelaPlaces.l1 k x1 x5 x6 x9 (wrap64 (x11 + 1)))) else (none)) else (none)) else (if (x6.length : Int) = 0 then (some true) else (if 0 ≤ (wrap64 (24 * (Int.tmod (wrap64 ((Int.tmod x1 (x6.length : Int)) + (x6.length : Int))) (x6.length : Int)))) then (if (wrap64 (24 * (Int.tmod (wrap64 ((Int.tmod x1 (x6.length : Int)) + (x6.length : Int))) (x6.length : Int)))) ≤ (x5.size : Int) then ((rela_Put.f k 8 7 0 0).bind fun t152 => (if (x5.extract 0 ((wrap64 (24 * (Int.tmod (wrap64 ((Int.tmod x1 (x6.length : Int)) + (x6.length : Int))) (x6.length : Int)))) : Int).toNat).size + t152.size ≤ 9223372036854775807 then (if 0 ≤ (wrap64 ((wrap64 (24 * (Int.tmod (wrap64 ((Int.tmod x1 (x6.length : Int)) + (x6.length : Int))) (x6.length : Int)))) + 24)) then (if (wrap64 ((wrap64 (24 * (Int.tmod (wrap64 ((Int.tmod x1 (x6.length : Int)) + (x6.length : Int))) (x6.length : Int)))) + 24)) ≤ (x5.size : Int) then (if ((x5.extract 0 ((wrap64 (24 * (Int.tmod (wrap64 ((Int.tmod x1 (x6.length : Int)) + (x6.length : Int))) (x6.length : Int)))) : Int).toNat) ++ t152).size + (x5.extract ((wrap64 ((wrap64 (24 * (Int.tmod (wrap64 ((Int.tmod x1 (x6.length : Int)) + (x6.length : Int))) (x6.length : Int)))) + 24)) : Int).toNat x5.size).size ≤ 9223372036854775807 then ((rela_Read.f k (((x5.extract 0 ((wrap64 (24 * (Int.tmod (wrap64 ((Int.tmod x1 (x6.length : Int)) + (x6.length : Int))) (x6.length : Int)))) : Int).toNat) ++ t152) ++ (x5.extract ((wrap64 ((wrap64 (24 * (Int.tmod (wrap64 ((Int.tmod x1 (x6.length : Int)) + (x6.length : Int))) (x6.length : Int)))) + 24)) : Int).toNat x5.size)) 8).bind fun bt153 => (if bt153.2.1 = 22 then (some (bt153.2.2.1 == (IntKind.u64.wrap (wrap64 (24 * (Int.tmod (wrap64 ((Int.tmod x1 (x6.length : Int)) + (x6.length : Int))) (x6.length : Int))))))) else (some false))) else (none)) else (none)) else (none)) else (none))) else (none)) else (none)))
end
def turnbucklelaw15_RelaPlaces.f (k : Nat) (l0 : List (S28)) (a1 : Int) : Option (Bool) := (turnbucklelaw15_speaks.f k).bind fun t128 => (if t128 = true then (turnbucklelaw15_RelaPlaces.l0 k l0 a1 (⟨#[]⟩ : ByteArray) ([] : List (S38)) 0) else (some false))
theorem turnbucklelaw15_RelaPlaces.mono_l : ∀ k, (∀ y0 y1 y2 y3 y4, LeO (turnbucklelaw15_RelaPlaces.l0 k y0 y1 y2 y3 y4) (turnbucklelaw15_RelaPlaces.l0 (k + 1) y0 y1 y2 y3 y4)) ∧ (∀ y0 y1 y2 y3 y4 y5, LeO (turnbucklelaw15_RelaPlaces.j1 k y0 y1 y2 y3 y4 y5) (turnbucklelaw15_RelaPlaces.j1 (k + 1) y0 y1 y2 y3 y4 y5)) ∧ (∀ y0 y1 y2 y3 y4, LeO (turnbucklelaw15_RelaPlaces.j2 k y0 y1 y2 y3 y4) (turnbucklelaw15_RelaPlaces.j2 (k + 1) y0 y1 y2 y3 y4)) ∧ (∀ y0 y1 y2 y3 y4, LeO (turnbucklelaw15_RelaPlaces.l1 k y0 y1 y2 y3 y4) (turnbucklelaw15_RelaPlaces.l1 (k + 1) y0 y1 y2 y3 y4))
 | 0 => ⟨fun _ _ _ _ _ r h => by simp [turnbucklelaw15_RelaPlaces.l0] at h, fun _ _ _ _ _ _ r h => by simp [turnbucklelaw15_RelaPlaces.j1] at h, fun _ _ _ _ _ r h => by simp [turnbucklelaw15_RelaPlaces.j2] at h, fun _ _ _ _ _ r h => by simp [turnbucklelaw15_RelaPlaces.l1] at h⟩
 | k + 1 => by
  obtain ⟨ih0, ih1, ih2, ih3⟩ := turnbucklelaw15_RelaPlaces.mono_l k
  refine ⟨?_, ?_, ?_, ?_⟩
  ·intro y0 y1 y2 y3 y4
   unfold turnbucklelaw15_RelaPlaces.l0
   repeat' first
   | (with_reducible exact ih0 _ _ _ _ _)
   | (with_reducible exact ih1 _ _ _ _ _ _)
   | (with_reducible exact ih2 _ _ _ _ _)
   | (with_reducible exact ih3 _ _ _ _ _)
   | (with_reducible exact rela_Put.mono _ _ _ _ _)
   | (with_reducible exact rela_Read.mono _ _ _)
   | (with_reducible exact turnbucklelaw15_speaks.mono _)
   | (with_reducible exact LeO.refl _)
   | (with_reducible exact LeO.none _)
   | (with_reducible refine LeO.ite ?_ ?_)
   | (with_reducible refine LeO.bind ?_ (fun _ => ?_))
   | exact ih0 _ _ _ _ _
   | exact ih1 _ _ _ _ _ _
   | exact ih2 _ _ _ _ _
   | exact ih3 _ _ _ _ _
   | exact rela_Put.mono _ _ _ _ _
   | exact rela_Read.mono _ _ _
   | exact turnbucklelaw15_speaks.mono _
   | exact LeO.none _
   | refine LeO.ite ?_ ?_
   | refine LeO.bind ?_ (fun _ => ?_)
  ·intro y0 y1 y2 y3 y4 y5
   unfold turnbucklelaw15_RelaPlaces.j1
   repeat' first
   | (with_reducible exact ih0 _ _ _ _ _)
   | (with_reducible exact ih1 _ _ _ _ _ _)
   | (with_reducible exact ih2 _ _ _ _ _)
   | (with_reducible exact ih3 _ _ _ _ _)
   | (with_reducible exact rela_Put.mono _ _ _ _ _)
   | (with_reducible exact rela_Read.mono _ _ _)
   | (with_reducible exact turnbucklelaw15_speaks.mono _)
   | (with_reducible exact LeO.refl _)
   | (with_reducible exact LeO.none _)
   | (with_reducible refine LeO.ite ?_ ?_)
   | (with_reducible refine LeO.bind ?_ (fun _ => ?_))
   | exact ih0 _ _ _ _ _
   | exact ih1 _ _ _ _ _ _
   | exact ih2 _ _ _ _ _
   | exact ih3 _ _ _ _ _
   | exact rela_Put.mono _ _ _ _ _
   | exact rela_Read.mono _ _ _
   | exact turnbucklelaw15_speaks.mono _
   | exact LeO.none _
   | refine LeO.ite ?_ ?_
   | refine LeO.bind ?_ (fun _ => ?_)
  ·intro y0 y1 y2 y3 y4
   unfold turnbucklelaw15_RelaPlaces.j2
   repeat' first
   | (with_reducible exact ih0 _ _ _ _ _)
   | (with_reducible exact ih1 _ _ _ _ _ _)
   | (with_reducible exact ih2 _ _ _ _ _)
   | (with_reducible exact ih3 _ _ _ _ _)
   | (with_reducible exact rela_Put.mono _ _ _ _ _)
   | (with_reducible exact rela_Read.mono _ _ _)
   | (with_reducible exact turnbucklelaw15_speaks.mono _)
   | (with_reducible exact LeO.refl _)
   | (with_reducible exact LeO.none _)
   | (with_reducible refine LeO.ite ?_ ?_)
   | (with_reducible refine LeO.bind ?_ (fun _ => ?_))
   | exact ih0 _ _ _ _ _
   | exact ih1 _ _ _ _ _ _
   | exact ih2 _ _ _ _ _
   | exact ih3 _ _ _ _ _
   | exact rela_Put.mono _ _ _ _ _
   | exact rela_Read.mono _ _ _
   | exact turnbucklelaw15_speaks.mono _
   | exact LeO.none _
   | refine LeO.ite ?_ ?_
   | refine LeO.bind ?_ (fun _ => ?_)
  ·intro y0 y1 y2 y3 y4
   unfold turnbucklelaw15_RelaPlaces.l1
   repeat' first
   | (with_reducible exact ih0 _ _ _ _ _)
   | (with_reducible exact ih1 _ _ _ _ _ _)
   | (with_reducible exact ih2 _ _ _ _ _)
   | (with_reducible exact ih3 _ _ _ _ _)
   | (with_reducible exact rela_Put.mono _ _ _ _ _)
   | (with_reducible exact rela_Read.mono _ _ _)
   | (with_reducible exact turnbucklelaw15_speaks.mono _)
   | (with_reducible exact LeO.refl _)
   | (with_reducible exact LeO.none _)
   | (with_reducible refine LeO.ite ?_ ?_)
   | (with_reducible refine LeO.bind ?_ (fun _ => ?_))
   | exact ih0 _ _ _ _ _
   | exact ih1 _ _ _ _ _ _
   | exact ih2 _ _ _ _ _
   | exact ih3 _ _ _ _ _
   | exact rela_Put.mono _ _ _ _ _
   | exact rela_Read.mono _ _ _
   | exact turnbucklelaw15_speaks.mono _
   | exact LeO.none _
   | refine LeO.ite ?_ ?_
   | refine LeO.bind ?_ (fun _ => ?_)
theorem turnbucklelaw15_RelaPlaces.mono : ∀ a0 a1 k, LeO (turnbucklelaw15_RelaPlaces.f k a0 a1) (turnbucklelaw15_RelaPlaces.f (k + 1) a0 a1) := by
 intro a0 a1 k
 obtain ⟨ih0, ih1, ih2, ih3⟩ := turnbucklelaw15_RelaPlaces.mono_l k
 unfold turnbucklelaw15_RelaPlaces.f
 repeat' first
   | (with_reducible exact ih0 _ _ _ _ _)
   | (with_reducible exact ih1 _ _ _ _ _ _)
   | (with_reducible exact ih2 _ _ _ _ _)
   | (with_reducible exact ih3 _ _ _ _ _)
   | (with_reducible exact rela_Put.mono _ _ _ _ _)
   | (with_reducible exact rela_Read.mono _ _ _)
   | (with_reducible exact turnbucklelaw15_speaks.mono _)
   | (with_reducible exact LeO.refl _)
   | (with_reducible exact LeO.none _)
   | (with_reducible refine LeO.ite ?_ ?_)
   | (with_reducible refine LeO.bind ?_ (fun _ => ?_))
   | exact ih0 _ _ _ _ _
   | exact ih1 _ _ _ _ _ _
   | exact ih2 _ _ _ _ _
   | exact ih3 _ _ _ _ _
   | exact rela_Put.mono _ _ _ _ _
   | exact rela_Read.mono _ _ _
   | exact turnbucklelaw15_speaks.mono _
   | exact LeO.none _
   | refine LeO.ite ?_ ?_
   | refine LeO.bind ?_ (fun _ => ?_)
def turnbucklelaw15_RelaPlaces.T8 : Bool × List (List Nat × List Nat) := (true, [([], []), ([], []), ([0, 1], [0, 1]), ([2], [2]), ([3], [3]), ([4], [4]), ([], []), ([], []), ([6, 7], [6, 7]), ([8], [8]), ([9], [9]), ([10], [10]), ([11], [11]), ([], []), ([], []), ([13, 14], [13, 14]), ([15], [15]), ([16], [16]), ([17], [17]), ([], []), ([], []), ([19, 20], [19, 20]), ([21], [21]), ([22], [22]), ([5, 12, 18, 23], [5, 12, 18, 23]), ([], []), ([25, 24, 0, 1, 2, 3, 4, 5, 6, 7, 8, 9, 10, 11, 12, 13, 14, 15, 16, 17, 18, 19, 20, 21, 22, 23, 24, 25], [24, 25])])
def turnbucklelaw15_RelaPlaces.B8 : List Nat := [0, 0, 3, 7, 15, 31, 0, 0, 192, 448, 960, 1984, 4032, 0, 0, 24576, 57344, 122880, 253952, 0, 0, 1572864, 3670016, 7864320, 16777215, 0, 67108863]
theorem turnbucklelaw15_RelaPlaces.tab8 : rtab .any (opsOf Try.f6 8) = turnbucklelaw15_RelaPlaces.T8 := by kernel_rfl
theorem turnbucklelaw15_RelaPlaces.bits8 : waitsOk turnbucklelaw15_RelaPlaces.T8.2 turnbucklelaw15_RelaPlaces.B8 = true := by kernel_rfl
def turnbucklelaw15_RelaPlaces.T19 : Bool × List (List Nat × List Nat) := (true, [([], []), ([], []), ([0, 1], [0, 1]), ([2], [2]), ([], []), ([], []), ([4, 5], [4, 5]), ([6], [6]), ([3, 7], [3, 7])])
def turnbucklelaw15_RelaPlaces.B19 : List Nat := [0, 0, 3, 7, 0, 0, 48, 112, 255]
theorem turnbucklelaw15_RelaPlaces.tab19 : rtab .any (opsOf Try.f6 19) = turnbucklelaw15_RelaPlaces.T19 := by kernel_rfl
theorem turnbucklelaw15_RelaPlaces.bits19 : waitsOk turnbucklelaw15_RelaPlaces.T19.2 turnbucklelaw15_RelaPlaces.B19 = true := by kernel_rfl
def turnbucklelaw15_RelaPlaces.T24 : Bool × List (List Nat × List Nat) := (true, [([], []), ([], []), ([1], [1]), ([0, 2], [0, 2]), ([], []), ([4], [4]), ([3, 5], [3, 5]), ([], []), ([], []), ([8], [8]), ([9], [9]), ([7, 10], [7, 10]), ([6, 11], [6, 11]), ([12, 5], [12]), ([13], [13]), ([14], [14]), ([14], [14]), ([], []), ([15, 13, 0, 1, 2, 3, 4, 5, 6, 7, 8, 9, 10, 11, 12, 13, 14, 15, 17], [15]), ([17, 16, 18, 0, 1, 2, 3, 4, 5, 6, 7, 8, 9, 10, 11, 12, 13, 14, 15, 16, 17, 18], [16, 17])])
def turnbucklelaw15_RelaPlaces.B24 : List Nat := [0, 0, 2, 7, 0, 16, 63, 0, 0, 256, 768, 1920, 4095, 8191, 16383, 32767, 32767, 0, 196607, 524287]
theorem turnbucklelaw15_RelaPlaces.tab24 : rtab .any (opsOf Try.f6 24) = turnbucklelaw15_RelaPlaces.T24 := by kernel_rfl
theorem turnbucklelaw15_RelaPlaces.bits24 : waitsOk turnbucklelaw15_RelaPlaces.T24.2 turnbucklelaw15_RelaPlaces.B24 = true := by kernel_rfl
set_option maxHeartbeats 80000000 in
set_option maxRecDepth 100000 in
theorem turnbucklelaw15_RelaPlaces.calls (k : Nat) (A0 : Option Addr) (c0 : Nat) (l0 : List (S28)) (a1 : Int) (r : Bool) (w : World) (hr0 : Kd.C k28 w A0 l0.length l0) (hc0 : l0.length ≤ c0) (h : turnbucklelaw15_RelaPlaces.f k l0 a1 = some r) :
  Calls Try.prog 6 #[.slice A0 l0.length c0, .int .i64 a1] w fun e w' => e = .returned (.bool r) ∧ Below w.heap.size w w' := by
 have hu38 := Try.underlying38
 have hu32 := Try.underlying32
 have HR0 := Aside0.mk hr0
 have HC0 := Aside0.mk hc0
 clear hr0 hc0
 have HB := Aside0.mk (Below.refl w.heap.size w)
 have H : ((turnbucklelaw15_speaks.f k).bind fun t128 => (if t128 = true then (turnbucklelaw15_RelaPlaces.l0 k l0 a1 (⟨#[]⟩ : ByteArray) ([] : List (S38)) 0) else (some false))) = some r := h
 clear h
 replace H := Option.bind_eq_some_iff.mp H
 obtain ⟨t128, A30, H⟩ := H
 replace H : (if t128 = true then (turnbucklelaw15_RelaPlaces.l0 k l0 a1 (⟨#[]⟩ : ByteArray) ([] : List (S38)) 0) else (some false)) = some r := H
 have A3 := Aside0.mk A30
 clear A30
 by_cases c4 : t128 = true
 ·subst c4
  have H1 : (turnbucklelaw15_RelaPlaces.l0 k l0 a1 (⟨#[]⟩ : ByteArray) ([] : List (S38)) 0) = some r := by rw [if_pos rfl] at H; exact H
  clear H
  have H := H1
  clear H1
  have H' := Aside0.mk H
  clear H
  go_enter Try.func6, Try.ntmps6
  go_wp2_with (first | ((with_reducible refine gate_callee (f := 7) rfl ?_); refine goesL_ (some 15) rfl rfl Try.func7 (by kernel_rfl) rfl #[] rfl (by (try simp only [List.map_toArray, List.map_cons, List.map_nil]); first | done | rfl | (simp only [List.length_drop, List.length_take]; rfl)) ?_; (with_reducible refine (turnbucklelaw15_speaks.calls k  true _ A3.out).mono ?_); rintro e w5 ⟨rfl, hb⟩; refine ⟨_, rfl, ?_⟩; have n0_ := Aside0.mk (below_step (by repeat (first | (with_reducible first | exact HB.out | apply below_alloc | apply pw_below_drewN | apply below_drew1) | exact HB.out)) hb); clear HB; have HB := n0_; clear n0_; (try clear hb); (try clear hb2); (try clear hk); (try clear hi)))
  go_loopg [5, 6, 7] k (fun kq v5 v6 v7 w' => ∃ (x5_1 : ByteArray) (x6_1 : List (S38)) (x7_1 : Int), v5 = .string x5_1 ∧ v7 = .int .i64 x7_1 ∧ Aside0 (turnbucklelaw15_RelaPlaces.l0 kq l0 a1 x5_1 x6_1 x7_1 = some r) ∧ Aside0 (kq ≤ k) ∧ Aside0 (Kd.R k38 38 w' w.heap.size (fun _ => True) v6 x6_1) ∧ Aside0 (Below w.heap.size w w'))
  case atStart => exact ⟨((⟨#[]⟩ : ByteArray)), (([] : List (S38))), (0), (by first | rfl | (simp; done) | (simp [*]; done)), (by first | rfl | (simp; done) | (simp [*]; done)), H', ⟨Nat.le_refl _⟩, ⟨by first | exact Kd.R_nil _ _ _ _ _ | exact Kd.N_nil _ _ _ _ _ | exact Kd.V_nil _ _ _ _ _ | exact Kd.Q_nil _ _ _ _ _ | exact Kd.S_nil _ _ _ _ _⟩, ⟨by repeat (first | (with_reducible first | exact HB.out | apply below_alloc | apply pw_below_drewN | apply below_drew1) | exact HB.out)⟩⟩
  case round =>
   clear H'
   try clear p2
   try clear c4
   obtain ⟨x5_1, x6_1, x7_1, rfl, rfl, HA, HK1, HO_6, HB⟩ := hrel
   cases gk with
   | zero => exact absurd HA.out (by simp [turnbucklelaw15_RelaPlaces.l0])
   | succ k1 =>
    have H := HA.out
    clear HA
    simp only [turnbucklelaw15_RelaPlaces.l0] at H
    have HC6 := Aside0.mk H
    clear H
    go_upto_region 6 with (fail)
    go_cut [24] (fun v24 wc => ∃ (kq : Nat) (x24_5 : Bool), v24 = .bool x24_5 ∧ Aside0 (turnbucklelaw15_RelaPlaces.j1 kq l0 a1 x5_1 x6_1 x7_1 x24_5 = some r) ∧ Aside0 (kq ≤ k1) ∧ Aside0 (Kd.R k38 38 wc w.heap.size (fun _ => True) u6 x6_1) ∧ Aside0 (Below w.heap.size w wc))
    case first =>
     have H := HC6.out
     clear HC6
     by_cases c7 : x7_1 < (l0.length : Int)
     ·rw [if_pos c7] at H
      have c7b0 : decide (x7_1 < (l0.length : Int)) = true := decide_eq_true c7
      clear c7
      (first | rw [c7b0] | (simp only [i64_w, i32_w]; rw [c7b0]) | skip)
      have H' := Aside0.mk H
      clear H
      go_wp2
      (try subst hji11)
      (try subst hji13)
      go_meet
      case rel => exact ⟨_, (decide (x7_1 < 30)), (by first | rfl | (simp; done) | (simp [*]; done)), H', ⟨by have := HK1.out; first | omega | exact Nat.le_refl _⟩, ⟨by (with_reducible repeat (first | apply Kd.R_alloc | apply Kd.R_drewN | apply Kd.R_drew)); exact HO_6.out⟩, ⟨by repeat (first | (with_reducible first | exact HB.out | apply below_alloc | apply pw_below_drewN | apply below_drew1) | exact HB.out)⟩⟩
     ·rw [if_neg c7] at H
      have c7b0 : decide (x7_1 < (l0.length : Int)) = false := decide_eq_false c7
      clear c7
      (first | rw [c7b0] | (simp only [i64_w, i32_w]; rw [c7b0]) | skip)
      have H' := Aside0.mk H
      clear H
      go_wp2
      (try subst hji11)
      (try subst hji13)
      go_meet
      case rel => exact ⟨_, (false), (by first | rfl | (simp; done) | (simp [*]; done)), H', ⟨by have := HK1.out; first | omega | exact Nat.le_refl _⟩, ⟨by (with_reducible repeat (first | apply Kd.R_alloc | apply Kd.R_drewN | apply Kd.R_drew)); exact HO_6.out⟩, ⟨by repeat (first | (with_reducible first | exact HB.out | apply below_alloc | apply pw_below_drewN | apply below_drew1) | exact HB.out)⟩⟩
    case rest =>
     clear HC6
     try clear p2
     try clear c4
     try clear c6
     try clear c7
     try clear c7b0
     try clear p2
     obtain ⟨kq, x24_5, rfl, HA, HJ5, HO_6, HB⟩ := hcut
     cases kq with
     | zero => exact absurd HA.out (by simp [turnbucklelaw15_RelaPlaces.j1])
     | succ kj5 =>
      have H := HA.out
      clear HA
      simp only [turnbucklelaw15_RelaPlaces.j1] at H
      by_cases c8 : x24_5 = true
      ·subst c8
       have H1 : (if 0 ≤ x7_1 then (if x7_1 < (l0.length : Int) then (if (wrap64 (2 + (Go.bits .and .i64 ((rd_T28 l0 x7_1).f1) 3))) = 3 then (if x6_1.length < 4398046511104 then ((rela_Put.f kj5 (Go.bits .andNot .u64 ((rd_T28 l0 x7_1).f0) 7) (wrap64 (2 + (Go.bits .and .i64 ((rd_T28 l0 x7_1).f1) 3))) 0 ((rd_T28 l0 x7_1).f3)).bind fun t137 => (if x5_1.size + t137.size ≤ 9223372036854775807 then (turnbucklelaw15_RelaPlaces.l0 kj5 l0 a1 (x5_1 ++ t137) (x6_1 ++ [(⟨Go.bits .andNot .u64 ((rd_T28 l0 x7_1).f0) 7, wrap64 (2 + (Go.bits .and .i64 ((rd_T28 l0 x7_1).f1) 3)), 0, (rd_T28 l0 x7_1).f3⟩ : S38)]) (wrap64 (x7_1 + 1))) else (none))) else (none)) else (if x6_1.length < 4398046511104 then ((rela_Put.f kj5 (Go.bits .andNot .u64 ((rd_T28 l0 x7_1).f0) 7) (wrap64 (2 + (Go.bits .and .i64 ((rd_T28 l0 x7_1).f1) 3))) (Go.bits .and .i64 ((rd_T28 l0 x7_1).f2) 7) ((rd_T28 l0 x7_1).f3)).bind fun t141 => (if x5_1.size + t141.size ≤ 9223372036854775807 then (turnbucklelaw15_RelaPlaces.l0 kj5 l0 a1 (x5_1 ++ t141) (x6_1 ++ [(⟨Go.bits .andNot .u64 ((rd_T28 l0 x7_1).f0) 7, wrap64 (2 + (Go.bits .and .i64 ((rd_T28 l0 x7_1).f1) 3)), Go.bits .and .i64 ((rd_T28 l0 x7_1).f2) 7, (rd_T28 l0 x7_1).f3⟩ : S38)]) (wrap64 (x7_1 + 1))) else (none))) else (none))) else (none)) else (none)) = some r := by rw [if_pos rfl] at H; exact H
       clear H
       have H := H1
       clear H1
       by_cases c9 : 0 ≤ x7_1
       ·rw [if_pos c9] at H
        have c9b0 : decide (0 ≤ x7_1) = true := decide_eq_true c9
        clear c9
        by_cases c10 : x7_1 < (l0.length : Int)
        ·rw [if_pos c10] at H
         have c10b0 : decide (x7_1 < (l0.length : Int)) = true := decide_eq_true c10
         clear c10
         by_cases c11 : (wrap64 (2 + (Go.bits .and .i64 ((rd_T28 l0 x7_1).f1) 3))) = 3
         ·rw [if_pos c11] at H
          have c11b0 : ((wrap64 (2 + (Go.bits .and .i64 ((rd_T28 l0 x7_1).f1) 3))) == 3) = true := beq_iff_eq.mpr c11
          have c11b1 : ((wrap64 (2 + (Go.bits .and .i64 ((rd_T28 l0 x7_1).f1) 3))) != 3) = false := bne_eq_false_iff_eq.mpr c11
          clear c11
          by_cases c12 : x6_1.length < 4398046511104
          ·rw [if_pos c12] at H
           have LMc12 := Aside0.mk c12
           clear c12
           obtain ⟨y134, hy134⟩ : ∃ y_ : List (S38), y_ = (x6_1 ++ [(⟨Go.bits .andNot .u64 ((rd_T28 l0 x7_1).f0) 7, wrap64 (2 + (Go.bits .and .i64 ((rd_T28 l0 x7_1).f1) 3)), 0, (rd_T28 l0 x7_1).f3⟩ : S38)]) := ⟨_, rfl⟩
           replace H : ((rela_Put.f kj5 (Go.bits .andNot .u64 ((rd_T28 l0 x7_1).f0) 7) (wrap64 (2 + (Go.bits .and .i64 ((rd_T28 l0 x7_1).f1) 3))) 0 ((rd_T28 l0 x7_1).f3)).bind fun t137 => (if x5_1.size + t137.size ≤ 9223372036854775807 then (turnbucklelaw15_RelaPlaces.l0 kj5 l0 a1 (x5_1 ++ t137) y134 (wrap64 (x7_1 + 1))) else (none))) = some r := by first | (rw [hy134]; with_reducible exact H) | (have H2_ := (Option.bind_some _ _).symm.trans H; rw [hy134]; with_reducible exact H2_) | (have H2_ := (Option.bind_some _ _).symm.trans H; with_reducible exact H2_) | with_reducible exact H | (rw [hy134]; exact H) | exact H
           have Ny134 := Aside0.mk hy134
           clear hy134
           replace H := Option.bind_eq_some_iff.mp H
           obtain ⟨t137, A130, H⟩ := H
           replace H : (if x5_1.size + t137.size ≤ 9223372036854775807 then (turnbucklelaw15_RelaPlaces.l0 kj5 l0 a1 (x5_1 ++ t137) y134 (wrap64 (x7_1 + 1))) else (none)) = some r := H
           have A13 := Aside0.mk A130
           clear A130
           by_cases c14 : x5_1.size + t137.size ≤ 9223372036854775807
           ·rw [if_pos c14] at H
            have c14b0 := eq_true c14
            have c14b1 : decide (x5_1.size + t137.size ≤ 9223372036854775807) = true := decide_eq_true c14
            try have c14b2 : (9223372036854775807 < x5_1.size + t137.size) = False := eq_false (Nat.not_lt.2 c14)
            have H' := Aside0.mk H
            clear H
            try go_wp2
            have n0_ := Aside0.mk (Kd.R_drew HO_6.out)
            have n1_ := Aside0.mk (below_drew1 HB.out)
            clear HO_6
            clear HB
            have HO_6 := n0_
            have HB := n1_
            clear n0_ n1_
            have p129 : 0 ≤ (x7_1 : Int) := of_decide_eq_true (by first | (with_reducible assumption) | assumption)
            have q129 : x7_1 < (l0.length : Int) := of_decide_eq_true (by first | (with_reducible assumption) | assumption)
            obtain ⟨ad129, e129, hx129_0, hx129_1, hx129_2, hx129_3⟩ := at_T28 HR0.out x7_1 p129 q129
            have hw129_3 := hx129_3
            have hw129_2 := hx129_2
            have hw129_1 := hx129_1
            have hw129_0 := hx129_0
            cases e129
            replace hx129_0 := (HB.out.cell (World.block_lt_of_cell? w _ hx129_0)).trans hx129_0
            replace hx129_1 := (HB.out.cell (World.block_lt_of_cell? w _ hx129_1)).trans hx129_1
            replace hx129_2 := (HB.out.cell (World.block_lt_of_cell? w _ hx129_2)).trans hx129_2
            replace hx129_3 := (HB.out.cell (World.block_lt_of_cell? w _ hx129_3)).trans hx129_3
            replace p129 := eq_true p129
            replace q129 := eq_true q129
            have p130 : 0 ≤ (x7_1 : Int) := of_decide_eq_true (by first | (with_reducible assumption) | assumption)
            have q130 : x7_1 < (l0.length : Int) := of_decide_eq_true (by first | (with_reducible assumption) | assumption)
            obtain ⟨ad130, e130, hx130_0, hx130_1, hx130_2, hx130_3⟩ := at_T28 HR0.out x7_1 p130 q130
            have hw130_3 := hx130_3
            have hw130_2 := hx130_2
            have hw130_1 := hx130_1
            have hw130_0 := hx130_0
            obtain rfl : ad129 = ad130 := (by injection e130)
            replace hx130_0 := (HB.out.cell (World.block_lt_of_cell? w _ hx130_0)).trans hx130_0
            replace hx130_1 := (HB.out.cell (World.block_lt_of_cell? w _ hx130_1)).trans hx130_1
            replace hx130_2 := (HB.out.cell (World.block_lt_of_cell? w _ hx130_2)).trans hx130_2
            replace hx130_3 := (HB.out.cell (World.block_lt_of_cell? w _ hx130_3)).trans hx130_3
            replace p130 := eq_true p130
            replace q130 := eq_true q130
            have p131 : 0 ≤ (x7_1 : Int) := of_decide_eq_true (by first | (with_reducible assumption) | assumption)
            have q131 : x7_1 < (l0.length : Int) := of_decide_eq_true (by first | (with_reducible assumption) | assumption)
            obtain ⟨ad131, e131, hx131_0, hx131_1, hx131_2, hx131_3⟩ := at_T28 HR0.out x7_1 p131 q131
            have hw131_3 := hx131_3
            have hw131_2 := hx131_2
            have hw131_1 := hx131_1
            have hw131_0 := hx131_0
            obtain rfl : ad129 = ad131 := (by injection e131)
            replace hx131_0 := (HB.out.cell (World.block_lt_of_cell? w _ hx131_0)).trans hx131_0
            replace hx131_1 := (HB.out.cell (World.block_lt_of_cell? w _ hx131_1)).trans hx131_1
            replace hx131_2 := (HB.out.cell (World.block_lt_of_cell? w _ hx131_2)).trans hx131_2
            replace hx131_3 := (HB.out.cell (World.block_lt_of_cell? w _ hx131_3)).trans hx131_3
            replace p131 := eq_true p131
            replace q131 := eq_true q131
            have p132 : 0 ≤ (x7_1 : Int) := of_decide_eq_true (by first | (with_reducible assumption) | assumption)
            have q132 : x7_1 < (l0.length : Int) := of_decide_eq_true (by first | (with_reducible assumption) | assumption)
            obtain ⟨ad132, e132, hx132_0, hx132_1, hx132_2, hx132_3⟩ := at_T28 HR0.out x7_1 p132 q132
            have hw132_3 := hx132_3
            have hw132_2 := hx132_2
            have hw132_1 := hx132_1
            have hw132_0 := hx132_0
            obtain rfl : ad129 = ad132 := (by injection e132)
            replace hx132_0 := (HB.out.cell (World.block_lt_of_cell? w _ hx132_0)).trans hx132_0
            replace hx132_1 := (HB.out.cell (World.block_lt_of_cell? w _ hx132_1)).trans hx132_1
            replace hx132_2 := (HB.out.cell (World.block_lt_of_cell? w _ hx132_2)).trans hx132_2
            replace hx132_3 := (HB.out.cell (World.block_lt_of_cell? w _ hx132_3)).trans hx132_3
            replace p132 := eq_true p132
            replace q132 := eq_true q132
            refine start_ (n := 27) (S := fun w' => w'.cell? (ad129.add ((x7_1).toNat * 4)) = some (.int .u64 ((rd_T28 l0 x7_1).f0)) ∧ w'.cell? ⟨(ad129.add ((x7_1).toNat * 4)).block, (ad129.add ((x7_1).toNat * 4)).off + 1, none⟩ = some (.int .i64 ((rd_T28 l0 x7_1).f1)) ∧ w'.cell? ⟨(ad129.add ((x7_1).toNat * 4)).block, (ad129.add ((x7_1).toNat * 4)).off + 2, none⟩ = some (.int .i64 ((rd_T28 l0 x7_1).f2)) ∧ w'.cell? ⟨(ad129.add ((x7_1).toNat * 4)).block, (ad129.add ((x7_1).toNat * 4)).off + 3, none⟩ = some (.int .u64 ((rd_T28 l0 x7_1).f3)) ∧ w'.cell? (ad129.add ((x7_1).toNat * 4)) = some (.int .u64 ((rd_T28 l0 x7_1).f0)) ∧ w'.cell? ⟨(ad129.add ((x7_1).toNat * 4)).block, (ad129.add ((x7_1).toNat * 4)).off + 1, none⟩ = some (.int .i64 ((rd_T28 l0 x7_1).f1)) ∧ w'.cell? ⟨(ad129.add ((x7_1).toNat * 4)).block, (ad129.add ((x7_1).toNat * 4)).off + 2, none⟩ = some (.int .i64 ((rd_T28 l0 x7_1).f2)) ∧ w'.cell? ⟨(ad129.add ((x7_1).toNat * 4)).block, (ad129.add ((x7_1).toNat * 4)).off + 3, none⟩ = some (.int .u64 ((rd_T28 l0 x7_1).f3)) ∧ w'.cell? (ad129.add ((x7_1).toNat * 4)) = some (.int .u64 ((rd_T28 l0 x7_1).f0)) ∧ w'.cell? ⟨(ad129.add ((x7_1).toNat * 4)).block, (ad129.add ((x7_1).toNat * 4)).off + 1, none⟩ = some (.int .i64 ((rd_T28 l0 x7_1).f1)) ∧ w'.cell? ⟨(ad129.add ((x7_1).toNat * 4)).block, (ad129.add ((x7_1).toNat * 4)).off + 2, none⟩ = some (.int .i64 ((rd_T28 l0 x7_1).f2)) ∧ w'.cell? ⟨(ad129.add ((x7_1).toNat * 4)).block, (ad129.add ((x7_1).toNat * 4)).off + 3, none⟩ = some (.int .u64 ((rd_T28 l0 x7_1).f3)) ∧ w'.cell? (ad129.add ((x7_1).toNat * 4)) = some (.int .u64 ((rd_T28 l0 x7_1).f0)) ∧ w'.cell? ⟨(ad129.add ((x7_1).toNat * 4)).block, (ad129.add ((x7_1).toNat * 4)).off + 1, none⟩ = some (.int .i64 ((rd_T28 l0 x7_1).f1)) ∧ w'.cell? ⟨(ad129.add ((x7_1).toNat * 4)).block, (ad129.add ((x7_1).toNat * 4)).off + 2, none⟩ = some (.int .i64 ((rd_T28 l0 x7_1).f2)) ∧ w'.cell? ⟨(ad129.add ((x7_1).toNat * 4)).block, (ad129.add ((x7_1).toNat * 4)).off + 3, none⟩ = some (.int .u64 ((rd_T28 l0 x7_1).f3))) (ds := []) #[false,false,false,false,false,false,false,false,false,false,false,false,false,false,false,false,false,false,false,false,false,false,false,false,false,false,false] (by kernel_rfl) rfl rfl ⟨((HB.out.cell (World.block_lt_of_cell? w _ hw129_0)).trans hw129_0), ((HB.out.cell (World.block_lt_of_cell? w _ hw129_1)).trans hw129_1), ((HB.out.cell (World.block_lt_of_cell? w _ hw129_2)).trans hw129_2), ((HB.out.cell (World.block_lt_of_cell? w _ hw129_3)).trans hw129_3), ((HB.out.cell (World.block_lt_of_cell? w _ hw130_0)).trans hw130_0), ((HB.out.cell (World.block_lt_of_cell? w _ hw130_1)).trans hw130_1), ((HB.out.cell (World.block_lt_of_cell? w _ hw130_2)).trans hw130_2), ((HB.out.cell (World.block_lt_of_cell? w _ hw130_3)).trans hw130_3), ((HB.out.cell (World.block_lt_of_cell? w _ hw131_0)).trans hw131_0), ((HB.out.cell (World.block_lt_of_cell? w _ hw131_1)).trans hw131_1), ((HB.out.cell (World.block_lt_of_cell? w _ hw131_2)).trans hw131_2), ((HB.out.cell (World.block_lt_of_cell? w _ hw131_3)).trans hw131_3), ((HB.out.cell (World.block_lt_of_cell? w _ hw132_0)).trans hw132_0), ((HB.out.cell (World.block_lt_of_cell? w _ hw132_1)).trans hw132_1), ((HB.out.cell (World.block_lt_of_cell? w _ hw132_2)).trans hw132_2), ((HB.out.cell (World.block_lt_of_cell? w _ hw132_3)).trans hw132_3)⟩ (fun hHeld => ?_); refine with_tabW turnbucklelaw15_RelaPlaces.tab8 turnbucklelaw15_RelaPlaces.bits8 (fun HT_ HW_ => ?_)
            generalize wc.drew = w15 at HO_6 HB hx129_0 hx129_1 hx129_2 hx129_3 hx130_0 hx130_1 hx130_2 hx130_3 hx131_0 hx131_1 hx131_2 hx131_3 hx132_0 hx132_1 hx132_2 hx132_3 hHeld ⊢
            refine pure_ (i:=0) (N := some 27) (v:=?_) (a':=?_) #[true,false,false,false,false,false,false,false,false,false,false,false,false,false,false,false,false,false,false,false,false,false,false,false,false,false,false] rfl rfl (any_of HT_.out (by kernel_rfl)) (fun _ _ _ h=>h) (Or.inl ⟨by rfl, ?_⟩) ?_ ?_
            rotate_left
            ·intro w'
             go_simp
             with_reducible rfl
            rotate_left
            ·simp only [Act.put,lz1,lz2,lz3,i64_w,i32_w]
             rfl
            refine pure_ (i:=1) (N := some 28) (v:=?_) (a':=?_) #[true,true,false,false,false,false,false,false,false,false,false,false,false,false,false,false,false,false,false,false,false,false,false,false,false,false,false] rfl rfl (any_of HT_.out (by kernel_rfl)) (fun _ _ _ h=>h) (Or.inl ⟨by rfl, ?_⟩) ?_ ?_
            rotate_left
            ·intro w'
             go_simp
             with_reducible rfl
            rotate_left
            ·simp only [Act.put,lz1,lz2,lz3,i64_w,i32_w]
             rfl
            refine pure_ (i:=2) (N := some 29) (v:=?_) (a':=?_) #[true,true,true,false,false,false,false,false,false,false,false,false,false,false,false,false,false,false,false,false,false,false,false,false,false,false,false] rfl rfl (any_of HT_.out (by kernel_rfl)) (fun _ _ _ h=>h) (Or.inl ⟨by rfl, ?_⟩) ?_ ?_
            rotate_left
            ·intro w'
             go_simp
             with_reducible rfl
            rotate_left
            ·simp only [Act.put,lz1,lz2,lz3,i64_w,i32_w]
             rfl
            refine pure_ (i:=3) (N := some 30) (v:=?_) (a':=?_) #[true,true,true,true,false,false,false,false,false,false,false,false,false,false,false,false,false,false,false,false,false,false,false,false,false,false,false] rfl rfl (any_of HT_.out (by kernel_rfl)) (fun _ _ _ h=>h) (Or.inl ⟨by rfl, ?_⟩) ?_ ?_
            rotate_left
            ·intro w'
             go_simp
             with_reducible rfl
            rotate_left
            ·simp only [Act.put,lz1,lz2,lz3,i64_w,i32_w]
             rfl
            refine pure_ (i:=6) (N := some 33) (v:=?_) (a':=?_) #[true,true,true,true,false,false,true,false,false,false,false,false,false,false,false,false,false,false,false,false,false,false,false,false,false,false,false] rfl rfl (any_of HT_.out (by kernel_rfl)) (fun _ _ _ h=>h) (Or.inl ⟨by rfl, ?_⟩) ?_ ?_
            rotate_left
            ·intro w'
             go_simp
             with_reducible rfl
            rotate_left
            ·simp only [Act.put,lz1,lz2,lz3,i64_w,i32_w]
             rfl
            refine pure_ (i:=7) (N := some 34) (v:=?_) (a':=?_) #[true,true,true,true,false,false,true,true,false,false,false,false,false,false,false,false,false,false,false,false,false,false,false,false,false,false,false] rfl rfl (any_of HT_.out (by kernel_rfl)) (fun _ _ _ h=>h) (Or.inl ⟨by rfl, ?_⟩) ?_ ?_
            rotate_left
            ·intro w'
             go_simp
             with_reducible rfl
            rotate_left
            ·simp only [Act.put,lz1,lz2,lz3,i64_w,i32_w]
             rfl
            refine pure_ (i:=8) (N := some 35) (v:=?_) (a':=?_) #[true,true,true,true,false,false,true,true,true,false,false,false,false,false,false,false,false,false,false,false,false,false,false,false,false,false,false] rfl rfl (any_of HT_.out (by kernel_rfl)) (fun _ _ _ h=>h) (Or.inl ⟨by rfl, ?_⟩) ?_ ?_
            rotate_left
            ·intro w'
             go_simp
             with_reducible rfl
            rotate_left
            ·simp only [Act.put,lz1,lz2,lz3,i64_w,i32_w]
             rfl
            refine pure_ (i:=9) (N := some 36) (v:=?_) (a':=?_) #[true,true,true,true,false,false,true,true,true,true,false,false,false,false,false,false,false,false,false,false,false,false,false,false,false,false,false] rfl rfl (any_of HT_.out (by kernel_rfl)) (fun _ _ _ h=>h) (Or.inl ⟨by rfl, ?_⟩) ?_ ?_
            rotate_left
            ·intro w'
             go_simp
             with_reducible rfl
            rotate_left
            ·simp only [Act.put,lz1,lz2,lz3,i64_w,i32_w]
             rfl
            refine pure_ (i:=13) (N := some 40) (v:=?_) (a':=?_) #[true,true,true,true,false,false,true,true,true,true,false,false,false,true,false,false,false,false,false,false,false,false,false,false,false,false,false] rfl rfl (any_of HT_.out (by kernel_rfl)) (fun _ _ _ h=>h) (Or.inl ⟨by rfl, ?_⟩) ?_ ?_
            rotate_left
            ·intro w'
             go_simp
             with_reducible rfl
            rotate_left
            ·simp only [Act.put,lz1,lz2,lz3,i64_w,i32_w]
             rfl
            refine pure_ (i:=14) (N := some 41) (v:=?_) (a':=?_) #[true,true,true,true,false,false,true,true,true,true,false,false,false,true,true,false,false,false,false,false,false,false,false,false,false,false,false] rfl rfl (any_of HT_.out (by kernel_rfl)) (fun _ _ _ h=>h) (Or.inl ⟨by rfl, ?_⟩) ?_ ?_
            rotate_left
            ·intro w'
             go_simp
             with_reducible rfl
            rotate_left
            ·simp only [Act.put,lz1,lz2,lz3,i64_w,i32_w]
             rfl
            refine pure_ (i:=15) (N := some 42) (v:=?_) (a':=?_) #[true,true,true,true,false,false,true,true,true,true,false,false,false,true,true,true,false,false,false,false,false,false,false,false,false,false,false] rfl rfl (any_of HT_.out (by kernel_rfl)) (fun _ _ _ h=>h) (Or.inl ⟨by rfl, ?_⟩) ?_ ?_
            rotate_left
            ·intro w'
             go_simp
             with_reducible rfl
            rotate_left
            ·simp only [Act.put,lz1,lz2,lz3,i64_w,i32_w]
             rfl
            refine pure_ (i:=16) (N := some 43) (v:=?_) (a':=?_) #[true,true,true,true,false,false,true,true,true,true,false,false,false,true,true,true,true,false,false,false,false,false,false,false,false,false,false] rfl rfl (any_of HT_.out (by kernel_rfl)) (fun _ _ _ h=>h) (Or.inl ⟨by rfl, ?_⟩) ?_ ?_
            rotate_left
            ·intro w'
             go_simp
             with_reducible rfl
            rotate_left
            ·simp only [Act.put,lz1,lz2,lz3,i64_w,i32_w]
             rfl
            refine pure_ (i:=19) (N := some 46) (v:=?_) (a':=?_) #[true,true,true,true,false,false,true,true,true,true,false,false,false,true,true,true,true,false,false,true,false,false,false,false,false,false,false] rfl rfl (any_of HT_.out (by kernel_rfl)) (fun _ _ _ h=>h) (Or.inl ⟨by rfl, ?_⟩) ?_ ?_
            rotate_left
            ·intro w'
             go_simp
             with_reducible rfl
            rotate_left
            ·simp only [Act.put,lz1,lz2,lz3,i64_w,i32_w]
             rfl
            refine pure_ (i:=20) (N := some 47) (v:=?_) (a':=?_) #[true,true,true,true,false,false,true,true,true,true,false,false,false,true,true,true,true,false,false,true,true,false,false,false,false,false,false] rfl rfl (any_of HT_.out (by kernel_rfl)) (fun _ _ _ h=>h) (Or.inl ⟨by rfl, ?_⟩) ?_ ?_
            rotate_left
            ·intro w'
             go_simp
             with_reducible rfl
            rotate_left
            ·simp only [Act.put,lz1,lz2,lz3,i64_w,i32_w]
             rfl
            refine pure_ (i:=21) (N := some 48) (v:=?_) (a':=?_) #[true,true,true,true,false,false,true,true,true,true,false,false,false,true,true,true,true,false,false,true,true,true,false,false,false,false,false] rfl rfl (any_of HT_.out (by kernel_rfl)) (fun _ _ _ h=>h) (Or.inl ⟨by rfl, ?_⟩) ?_ ?_
            rotate_left
            ·intro w'
             go_simp
             with_reducible rfl
            rotate_left
            ·simp only [Act.put,lz1,lz2,lz3,i64_w,i32_w]
             rfl
            refine pure_ (i:=22) (N := some 49) (v:=?_) (a':=?_) #[true,true,true,true,false,false,true,true,true,true,false,false,false,true,true,true,true,false,false,true,true,true,true,false,false,false,false] rfl rfl (any_of HT_.out (by kernel_rfl)) (fun _ _ _ h=>h) (Or.inl ⟨by rfl, ?_⟩) ?_ ?_
            rotate_left
            ·intro w'
             go_simp
             with_reducible rfl
            rotate_left
            ·simp only [Act.put,lz1,lz2,lz3,i64_w,i32_w]
             rfl
            refine take_ (i := 4) (N := some 31) (v:=?_) (a':=?_) #[true,true,true,true,true,false,true,true,true,true,false,false,false,true,true,true,true,false,false,true,true,true,true,false,false,false,false] rfl rfl (take_ofW HT_.out HW_.out (by kernel_rfl)) (fun _ _ _ h=>h) (Or.inl ⟨by rfl, ?_⟩) hHeld ?_ ?_
            rotate_left
            ·rintro w' ⟨s0, s1, s2, s3, s4, s5, s6, s7, s8, s9, s10, s11, s12, s13, s14, s15⟩
             go_simp
             with_reducible rfl
            rotate_left
            ·simp only [Act.put,lz1,lz2,lz3,i64_w,i32_w]
             rfl
            refine pure_ (i:=5) (N := some 32) (v:=?_) (a':=?_) #[true,true,true,true,true,true,true,true,true,true,false,false,false,true,true,true,true,false,false,true,true,true,true,false,false,false,false] rfl rfl (any_of HT_.out (by kernel_rfl)) (fun _ _ _ h=>h) (Or.inl ⟨by rfl, ?_⟩) ?_ ?_
            rotate_left
            ·intro w'
             go_simp
             with_reducible rfl
            rotate_left
            ·simp only [Act.put,lz1,lz2,lz3,i64_w,i32_w]
             rfl
            refine take_ (i := 10) (N := some 37) (v:=?_) (a':=?_) #[true,true,true,true,true,true,true,true,true,true,true,false,false,true,true,true,true,false,false,true,true,true,true,false,false,false,false] rfl rfl (take_ofW HT_.out HW_.out (by kernel_rfl)) (fun _ _ _ h=>h) (Or.inl ⟨by rfl, ?_⟩) hHeld ?_ ?_
            rotate_left
            ·rintro w' ⟨s0, s1, s2, s3, s4, s5, s6, s7, s8, s9, s10, s11, s12, s13, s14, s15⟩
             go_simp
             with_reducible rfl
            rotate_left
            ·simp only [Act.put,lz1,lz2,lz3,i64_w,i32_w]
             rfl
            refine pure_ (i:=11) (N := some 38) (v:=?_) (a':=?_) #[true,true,true,true,true,true,true,true,true,true,true,true,false,true,true,true,true,false,false,true,true,true,true,false,false,false,false] rfl rfl (any_of HT_.out (by kernel_rfl)) (fun _ _ _ h=>h) (Or.inl ⟨by rfl, ?_⟩) ?_ ?_
            rotate_left
            ·intro w'
             go_simp
             with_reducible rfl
            rotate_left
            ·simp only [Act.put,lz1,lz2,lz3,i64_w,i32_w]
             rfl
            refine pure_ (i:=12) (N := some 39) (v:=?_) (a':=?_) #[true,true,true,true,true,true,true,true,true,true,true,true,true,true,true,true,true,false,false,true,true,true,true,false,false,false,false] rfl rfl (any_of HT_.out (by kernel_rfl)) (fun _ _ _ h=>h) (Or.inl ⟨by rfl, ?_⟩) ?_ ?_
            rotate_left
            ·intro w'
             go_simp
             with_reducible rfl
            rotate_left
            ·simp only [Act.put,lz1,lz2,lz3,i64_w,i32_w]
             rfl
            refine take_ (i := 17) (N := some 44) (v:=?_) (a':=?_) #[true,true,true,true,true,true,true,true,true,true,true,true,true,true,true,true,true,true,false,true,true,true,true,false,false,false,false] rfl rfl (take_ofW HT_.out HW_.out (by kernel_rfl)) (fun _ _ _ h=>h) (Or.inl ⟨by rfl, ?_⟩) hHeld ?_ ?_
            rotate_left
            ·rintro w' ⟨s0, s1, s2, s3, s4, s5, s6, s7, s8, s9, s10, s11, s12, s13, s14, s15⟩
             go_simp
             with_reducible rfl
            rotate_left
            ·simp only [Act.put,lz1,lz2,lz3,i64_w,i32_w]
             rfl
            refine pure_ (i:=18) (N := some 45) (v:=?_) (a':=?_) #[true,true,true,true,true,true,true,true,true,true,true,true,true,true,true,true,true,true,true,true,true,true,true,false,false,false,false] rfl rfl (any_of HT_.out (by kernel_rfl)) (fun _ _ _ h=>h) (Or.inl ⟨by rfl, ?_⟩) ?_ ?_
            rotate_left
            ·intro w'
             go_simp
             with_reducible rfl
            rotate_left
            ·simp only [Act.put,lz1,lz2,lz3,i64_w,i32_w]
             rfl
            refine take_ (i := 23) (N := some 50) (v:=?_) (a':=?_) #[true,true,true,true,true,true,true,true,true,true,true,true,true,true,true,true,true,true,true,true,true,true,true,true,false,false,false] rfl rfl (take_ofW HT_.out HW_.out (by kernel_rfl)) (fun _ _ _ h=>h) (Or.inl ⟨by rfl, ?_⟩) hHeld ?_ ?_
            rotate_left
            ·rintro w' ⟨s0, s1, s2, s3, s4, s5, s6, s7, s8, s9, s10, s11, s12, s13, s14, s15⟩
             go_simp
             with_reducible rfl
            rotate_left
            ·simp only [Act.put,lz1,lz2,lz3,i64_w,i32_w]
             rfl
            refine pure_ (i:=24) (N := some 51) (v:=?_) (a':=?_) #[true,true,true,true,true,true,true,true,true,true,true,true,true,true,true,true,true,true,true,true,true,true,true,true,true,false,false] rfl rfl (any_of HT_.out (by kernel_rfl)) (fun _ _ _ h=>h) (Or.inl ⟨by rfl, ?_⟩) ?_ ?_
            rotate_left
            ·intro w'
             go_simp
             with_reducible rfl
            rotate_left
            ·simp only [Act.put,lz1,lz2,lz3,i64_w,i32_w]
             rfl
            refine one_ (i := 25) (N := some 8) #[true,true,true,true,true,true,true,true,true,true,true,true,true,true,true,true,true,true,true,true,true,true,true,true,true,true,false] rfl rfl (one_of HT_.out (by kernel_rfl)) (by decide) (fun K hK => ?_)
            refine box_step ?hg (N := 8) ?hd (cs := #[.int .u64 0, .int .i64 0, .int .i64 0, .int .u64 0]) (t := 38) ?hr ?_; (case hd => rfl); (case hg => rfl); (case hr => first | (go_simp; done) | (go_simp; rfl))
            intro gb133 hg w16 hbox hb
            have n0_ := Aside0.mk (Kd.R_below (Kd.R_elderB (by (with_reducible repeat (first | apply Kd.R_alloc | apply Kd.R_drewN | apply Kd.R_drew)); exact HO_6.out) gb133 (Nat.le_of_eq hg.symm)) hb)
            have n1_ := Aside0.mk (below_step (by repeat (first | (with_reducible first | exact HB.out | apply below_alloc | apply pw_below_drewN | apply below_drew1) | exact HB.out)) hb)
            have n2_ := Aside0.mk (hbox)
            have n3_ := Aside0.mk ((by rw [hg]; exact (below_size (by repeat (first | (with_reducible first | exact HB.out | apply below_alloc | apply pw_below_drewN | apply below_drew1) | exact HB.out))) : w.heap.size ≤ gb133))
            have n4_ := Aside0.mk ((by rw [hg]; exact (below_size (by repeat (first | (with_reducible first | exact HB.out | apply below_alloc | apply pw_below_drewN | apply below_drew1) | exact HB.out))) : w.heap.size ≤ gb133))
            clear HO_6
            clear HB
            have HO_6 := n0_
            have HB := n1_
            have BK133 := n2_
            have GW133 := n3_
            have GE133 := n4_
            clear n0_ n1_ n2_ n3_ n4_
            clear hb hbox hg
            refine hK.out _ _ ⟨((HB.out.cell (World.block_lt_of_cell? w _ hw129_0)).trans hw129_0), ((HB.out.cell (World.block_lt_of_cell? w _ hw129_1)).trans hw129_1), ((HB.out.cell (World.block_lt_of_cell? w _ hw129_2)).trans hw129_2), ((HB.out.cell (World.block_lt_of_cell? w _ hw129_3)).trans hw129_3), ((HB.out.cell (World.block_lt_of_cell? w _ hw130_0)).trans hw130_0), ((HB.out.cell (World.block_lt_of_cell? w _ hw130_1)).trans hw130_1), ((HB.out.cell (World.block_lt_of_cell? w _ hw130_2)).trans hw130_2), ((HB.out.cell (World.block_lt_of_cell? w _ hw130_3)).trans hw130_3), ((HB.out.cell (World.block_lt_of_cell? w _ hw131_0)).trans hw131_0), ((HB.out.cell (World.block_lt_of_cell? w _ hw131_1)).trans hw131_1), ((HB.out.cell (World.block_lt_of_cell? w _ hw131_2)).trans hw131_2), ((HB.out.cell (World.block_lt_of_cell? w _ hw131_3)).trans hw131_3), ((HB.out.cell (World.block_lt_of_cell? w _ hw132_0)).trans hw132_0), ((HB.out.cell (World.block_lt_of_cell? w _ hw132_1)).trans hw132_1), ((HB.out.cell (World.block_lt_of_cell? w _ hw132_2)).trans hw132_2), ((HB.out.cell (World.block_lt_of_cell? w _ hw132_3)).trans hw132_3)⟩ (fun hHeld => ?_)
            clear hK K
            refine norm_ (a' := ?_) ?_ ?_
            rotate_left
            ·show Act.put _ (some 8) _ = _
             simp only [Act.put,lz1,lz2,lz3,i64_w,i32_w]
             rfl
            refine one_ (i := 26) (N := none) #[true,true,true,true,true,true,true,true,true,true,true,true,true,true,true,true,true,true,true,true,true,true,true,true,true,true,true] rfl rfl (one_of HT_.out (by kernel_rfl)) (by decide) (fun K hK => ?_)
            have hs17 : w16.cell? ⟨gb133, 0, none⟩ = some (.int .u64 0) := (blk_cell BK133.out 0).trans rfl
            have hfs17 := blk_frozen BK133.out 0
            have hs18 : w16.cell? ⟨gb133, 1, none⟩ = some (.int .i64 0) := (blk_cell BK133.out 1).trans rfl
            have hfs18 := blk_frozen BK133.out 1
            have hs19 : w16.cell? ⟨gb133, 2, none⟩ = some (.int .i64 0) := (blk_cell BK133.out 2).trans rfl
            have hfs19 := blk_frozen BK133.out 2
            have hs20 : w16.cell? ⟨gb133, 3, none⟩ = some (.int .u64 0) := (blk_cell BK133.out 3).trans rfl
            have hfs20 := blk_frozen BK133.out 3
            refine skip_ (w1 := ?_) (by rfl) rfl ?_ ?_
            rotate_left
            ·go_simp
             rfl
            refine hK.out _ _ ⟨((cell_far (p := ⟨gb133, _, none⟩) (by (first | rw [add_block] | (show (Addr.add _ _).block ≠ _; rw [add_block]) | dsimp only | skip); exact Nat.ne_of_lt (Nat.lt_of_lt_of_le (by have := World.block_lt_of_cell? _ _ hw129_0; first | rwa [add_block] at this | exact this) GW133.out)) _).trans (((cell_far (p := ⟨gb133, _, none⟩) (by (first | rw [add_block] | (show (Addr.add _ _).block ≠ _; rw [add_block]) | dsimp only | skip); exact Nat.ne_of_lt (Nat.lt_of_lt_of_le (by have := World.block_lt_of_cell? _ _ hw129_0; first | rwa [add_block] at this | exact this) GW133.out)) _).trans (((cell_far (p := ⟨gb133, _, none⟩) (by (first | rw [add_block] | (show (Addr.add _ _).block ≠ _; rw [add_block]) | dsimp only | skip); exact Nat.ne_of_lt (Nat.lt_of_lt_of_le (by have := World.block_lt_of_cell? _ _ hw129_0; first | rwa [add_block] at this | exact this) GW133.out)) _).trans (((cell_far (p := ⟨gb133, _, none⟩) (by (first | rw [add_block] | (show (Addr.add _ _).block ≠ _; rw [add_block]) | dsimp only | skip); exact Nat.ne_of_lt (Nat.lt_of_lt_of_le (by have := World.block_lt_of_cell? _ _ hw129_0; first | rwa [add_block] at this | exact this) GW133.out)) _).trans (hHeld.1)))))))), ((cell_far (p := ⟨gb133, _, none⟩) (by (first | rw [add_block] | (show (Addr.add _ _).block ≠ _; rw [add_block]) | dsimp only | skip); exact Nat.ne_of_lt (Nat.lt_of_lt_of_le (by have := World.block_lt_of_cell? _ _ hw129_1; first | rwa [add_block] at this | exact this) GW133.out)) _).trans (((cell_far (p := ⟨gb133, _, none⟩) (by (first | rw [add_block] | (show (Addr.add _ _).block ≠ _; rw [add_block]) | dsimp only | skip); exact Nat.ne_of_lt (Nat.lt_of_lt_of_le (by have := World.block_lt_of_cell? _ _ hw129_1; first | rwa [add_block] at this | exact this) GW133.out)) _).trans (((cell_far (p := ⟨gb133, _, none⟩) (by (first | rw [add_block] | (show (Addr.add _ _).block ≠ _; rw [add_block]) | dsimp only | skip); exact Nat.ne_of_lt (Nat.lt_of_lt_of_le (by have := World.block_lt_of_cell? _ _ hw129_1; first | rwa [add_block] at this | exact this) GW133.out)) _).trans (((cell_far (p := ⟨gb133, _, none⟩) (by (first | rw [add_block] | (show (Addr.add _ _).block ≠ _; rw [add_block]) | dsimp only | skip); exact Nat.ne_of_lt (Nat.lt_of_lt_of_le (by have := World.block_lt_of_cell? _ _ hw129_1; first | rwa [add_block] at this | exact this) GW133.out)) _).trans (hHeld.2.1)))))))), ((cell_far (p := ⟨gb133, _, none⟩) (by (first | rw [add_block] | (show (Addr.add _ _).block ≠ _; rw [add_block]) | dsimp only | skip); exact Nat.ne_of_lt (Nat.lt_of_lt_of_le (by have := World.block_lt_of_cell? _ _ hw129_2; first | rwa [add_block] at this | exact this) GW133.out)) _).trans (((cell_far (p := ⟨gb133, _, none⟩) (by (first | rw [add_block] | (show (Addr.add _ _).block ≠ _; rw [add_block]) | dsimp only | skip); exact Nat.ne_of_lt (Nat.lt_of_lt_of_le (by have := World.block_lt_of_cell? _ _ hw129_2; first | rwa [add_block] at this | exact this) GW133.out)) _).trans (((cell_far (p := ⟨gb133, _, none⟩) (by (first | rw [add_block] | (show (Addr.add _ _).block ≠ _; rw [add_block]) | dsimp only | skip); exact Nat.ne_of_lt (Nat.lt_of_lt_of_le (by have := World.block_lt_of_cell? _ _ hw129_2; first | rwa [add_block] at this | exact this) GW133.out)) _).trans (((cell_far (p := ⟨gb133, _, none⟩) (by (first | rw [add_block] | (show (Addr.add _ _).block ≠ _; rw [add_block]) | dsimp only | skip); exact Nat.ne_of_lt (Nat.lt_of_lt_of_le (by have := World.block_lt_of_cell? _ _ hw129_2; first | rwa [add_block] at this | exact this) GW133.out)) _).trans (hHeld.2.2.1)))))))), ((cell_far (p := ⟨gb133, _, none⟩) (by (first | rw [add_block] | (show (Addr.add _ _).block ≠ _; rw [add_block]) | dsimp only | skip); exact Nat.ne_of_lt (Nat.lt_of_lt_of_le (by have := World.block_lt_of_cell? _ _ hw129_3; first | rwa [add_block] at this | exact this) GW133.out)) _).trans (((cell_far (p := ⟨gb133, _, none⟩) (by (first | rw [add_block] | (show (Addr.add _ _).block ≠ _; rw [add_block]) | dsimp only | skip); exact Nat.ne_of_lt (Nat.lt_of_lt_of_le (by have := World.block_lt_of_cell? _ _ hw129_3; first | rwa [add_block] at this | exact this) GW133.out)) _).trans (((cell_far (p := ⟨gb133, _, none⟩) (by (first | rw [add_block] | (show (Addr.add _ _).block ≠ _; rw [add_block]) | dsimp only | skip); exact Nat.ne_of_lt (Nat.lt_of_lt_of_le (by have := World.block_lt_of_cell? _ _ hw129_3; first | rwa [add_block] at this | exact this) GW133.out)) _).trans (((cell_far (p := ⟨gb133, _, none⟩) (by (first | rw [add_block] | (show (Addr.add _ _).block ≠ _; rw [add_block]) | dsimp only | skip); exact Nat.ne_of_lt (Nat.lt_of_lt_of_le (by have := World.block_lt_of_cell? _ _ hw129_3; first | rwa [add_block] at this | exact this) GW133.out)) _).trans (hHeld.2.2.2.1)))))))), ((cell_far (p := ⟨gb133, _, none⟩) (by (first | rw [add_block] | (show (Addr.add _ _).block ≠ _; rw [add_block]) | dsimp only | skip); exact Nat.ne_of_lt (Nat.lt_of_lt_of_le (by have := World.block_lt_of_cell? _ _ hw130_0; first | rwa [add_block] at this | exact this) GW133.out)) _).trans (((cell_far (p := ⟨gb133, _, none⟩) (by (first | rw [add_block] | (show (Addr.add _ _).block ≠ _; rw [add_block]) | dsimp only | skip); exact Nat.ne_of_lt (Nat.lt_of_lt_of_le (by have := World.block_lt_of_cell? _ _ hw130_0; first | rwa [add_block] at this | exact this) GW133.out)) _).trans (((cell_far (p := ⟨gb133, _, none⟩) (by (first | rw [add_block] | (show (Addr.add _ _).block ≠ _; rw [add_block]) | dsimp only | skip); exact Nat.ne_of_lt (Nat.lt_of_lt_of_le (by have := World.block_lt_of_cell? _ _ hw130_0; first | rwa [add_block] at this | exact this) GW133.out)) _).trans (((cell_far (p := ⟨gb133, _, none⟩) (by (first | rw [add_block] | (show (Addr.add _ _).block ≠ _; rw [add_block]) | dsimp only | skip); exact Nat.ne_of_lt (Nat.lt_of_lt_of_le (by have := World.block_lt_of_cell? _ _ hw130_0; first | rwa [add_block] at this | exact this) GW133.out)) _).trans (hHeld.2.2.2.2.1)))))))), ((cell_far (p := ⟨gb133, _, none⟩) (by (first | rw [add_block] | (show (Addr.add _ _).block ≠ _; rw [add_block]) | dsimp only | skip); exact Nat.ne_of_lt (Nat.lt_of_lt_of_le (by have := World.block_lt_of_cell? _ _ hw130_1; first | rwa [add_block] at this | exact this) GW133.out)) _).trans (((cell_far (p := ⟨gb133, _, none⟩) (by (first | rw [add_block] | (show (Addr.add _ _).block ≠ _; rw [add_block]) | dsimp only | skip); exact Nat.ne_of_lt (Nat.lt_of_lt_of_le (by have := World.block_lt_of_cell? _ _ hw130_1; first | rwa [add_block] at this | exact this) GW133.out)) _).trans (((cell_far (p := ⟨gb133, _, none⟩) (by (first | rw [add_block] | (show (Addr.add _ _).block ≠ _; rw [add_block]) | dsimp only | skip); exact Nat.ne_of_lt (Nat.lt_of_lt_of_le (by have := World.block_lt_of_cell? _ _ hw130_1; first | rwa [add_block] at this | exact this) GW133.out)) _).trans (((cell_far (p := ⟨gb133, _, none⟩) (by (first | rw [add_block] | (show (Addr.add _ _).block ≠ _; rw [add_block]) | dsimp only | skip); exact Nat.ne_of_lt (Nat.lt_of_lt_of_le (by have := World.block_lt_of_cell? _ _ hw130_1; first | rwa [add_block] at this | exact this) GW133.out)) _).trans (hHeld.2.2.2.2.2.1)))))))), ((cell_far (p := ⟨gb133, _, none⟩) (by (first | rw [add_block] | (show (Addr.add _ _).block ≠ _; rw [add_block]) | dsimp only | skip); exact Nat.ne_of_lt (Nat.lt_of_lt_of_le (by have := World.block_lt_of_cell? _ _ hw130_2; first | rwa [add_block] at this | exact this) GW133.out)) _).trans (((cell_far (p := ⟨gb133, _, none⟩) (by (first | rw [add_block] | (show (Addr.add _ _).block ≠ _; rw [add_block]) | dsimp only | skip); exact Nat.ne_of_lt (Nat.lt_of_lt_of_le (by have := World.block_lt_of_cell? _ _ hw130_2; first | rwa [add_block] at this | exact this) GW133.out)) _).trans (((cell_far (p := ⟨gb133, _, none⟩) (by (first | rw [add_block] | (show (Addr.add _ _).block ≠ _; rw [add_block]) | dsimp only | skip); exact Nat.ne_of_lt (Nat.lt_of_lt_of_le (by have := World.block_lt_of_cell? _ _ hw130_2; first | rwa [add_block] at this | exact this) GW133.out)) _).trans (((cell_far (p := ⟨gb133, _, none⟩) (by (first | rw [add_block] | (show (Addr.add _ _).block ≠ _; rw [add_block]) | dsimp only | skip); exact Nat.ne_of_lt (Nat.lt_of_lt_of_le (by have := World.block_lt_of_cell? _ _ hw130_2; first | rwa [add_block] at this | exact this) GW133.out)) _).trans (hHeld.2.2.2.2.2.2.1)))))))), ((cell_far (p := ⟨gb133, _, none⟩) (by (first | rw [add_block] | (show (Addr.add _ _).block ≠ _; rw [add_block]) | dsimp only | skip); exact Nat.ne_of_lt (Nat.lt_of_lt_of_le (by have := World.block_lt_of_cell? _ _ hw130_3; first | rwa [add_block] at this | exact this) GW133.out)) _).trans (((cell_far (p := ⟨gb133, _, none⟩) (by (first | rw [add_block] | (show (Addr.add _ _).block ≠ _; rw [add_block]) | dsimp only | skip); exact Nat.ne_of_lt (Nat.lt_of_lt_of_le (by have := World.block_lt_of_cell? _ _ hw130_3; first | rwa [add_block] at this | exact this) GW133.out)) _).trans (((cell_far (p := ⟨gb133, _, none⟩) (by (first | rw [add_block] | (show (Addr.add _ _).block ≠ _; rw [add_block]) | dsimp only | skip); exact Nat.ne_of_lt (Nat.lt_of_lt_of_le (by have := World.block_lt_of_cell? _ _ hw130_3; first | rwa [add_block] at this | exact this) GW133.out)) _).trans (((cell_far (p := ⟨gb133, _, none⟩) (by (first | rw [add_block] | (show (Addr.add _ _).block ≠ _; rw [add_block]) | dsimp only | skip); exact Nat.ne_of_lt (Nat.lt_of_lt_of_le (by have := World.block_lt_of_cell? _ _ hw130_3; first | rwa [add_block] at this | exact this) GW133.out)) _).trans (hHeld.2.2.2.2.2.2.2.1)))))))), ((cell_far (p := ⟨gb133, _, none⟩) (by (first | rw [add_block] | (show (Addr.add _ _).block ≠ _; rw [add_block]) | dsimp only | skip); exact Nat.ne_of_lt (Nat.lt_of_lt_of_le (by have := World.block_lt_of_cell? _ _ hw131_0; first | rwa [add_block] at this | exact this) GW133.out)) _).trans (((cell_far (p := ⟨gb133, _, none⟩) (by (first | rw [add_block] | (show (Addr.add _ _).block ≠ _; rw [add_block]) | dsimp only | skip); exact Nat.ne_of_lt (Nat.lt_of_lt_of_le (by have := World.block_lt_of_cell? _ _ hw131_0; first | rwa [add_block] at this | exact this) GW133.out)) _).trans (((cell_far (p := ⟨gb133, _, none⟩) (by (first | rw [add_block] | (show (Addr.add _ _).block ≠ _; rw [add_block]) | dsimp only | skip); exact Nat.ne_of_lt (Nat.lt_of_lt_of_le (by have := World.block_lt_of_cell? _ _ hw131_0; first | rwa [add_block] at this | exact this) GW133.out)) _).trans (((cell_far (p := ⟨gb133, _, none⟩) (by (first | rw [add_block] | (show (Addr.add _ _).block ≠ _; rw [add_block]) | dsimp only | skip); exact Nat.ne_of_lt (Nat.lt_of_lt_of_le (by have := World.block_lt_of_cell? _ _ hw131_0; first | rwa [add_block] at this | exact this) GW133.out)) _).trans (hHeld.2.2.2.2.2.2.2.2.1)))))))), ((cell_far (p := ⟨gb133, _, none⟩) (by (first | rw [add_block] | (show (Addr.add _ _).block ≠ _; rw [add_block]) | dsimp only | skip); exact Nat.ne_of_lt (Nat.lt_of_lt_of_le (by have := World.block_lt_of_cell? _ _ hw131_1; first | rwa [add_block] at this | exact this) GW133.out)) _).trans (((cell_far (p := ⟨gb133, _, none⟩) (by (first | rw [add_block] | (show (Addr.add _ _).block ≠ _; rw [add_block]) | dsimp only | skip); exact Nat.ne_of_lt (Nat.lt_of_lt_of_le (by have := World.block_lt_of_cell? _ _ hw131_1; first | rwa [add_block] at this | exact this) GW133.out)) _).trans (((cell_far (p := ⟨gb133, _, none⟩) (by (first | rw [add_block] | (show (Addr.add _ _).block ≠ _; rw [add_block]) | dsimp only | skip); exact Nat.ne_of_lt (Nat.lt_of_lt_of_le (by have := World.block_lt_of_cell? _ _ hw131_1; first | rwa [add_block] at this | exact this) GW133.out)) _).trans (((cell_far (p := ⟨gb133, _, none⟩) (by (first | rw [add_block] | (show (Addr.add _ _).block ≠ _; rw [add_block]) | dsimp only | skip); exact Nat.ne_of_lt (Nat.lt_of_lt_of_le (by have := World.block_lt_of_cell? _ _ hw131_1; first | rwa [add_block] at this | exact this) GW133.out)) _).trans (hHeld.2.2.2.2.2.2.2.2.2.1)))))))), ((cell_far (p := ⟨gb133, _, none⟩) (by (first | rw [add_block] | (show (Addr.add _ _).block ≠ _; rw [add_block]) | dsimp only | skip); exact Nat.ne_of_lt (Nat.lt_of_lt_of_le (by have := World.block_lt_of_cell? _ _ hw131_2; first | rwa [add_block] at this | exact this) GW133.out)) _).trans (((cell_far (p := ⟨gb133, _, none⟩) (by (first | rw [add_block] | (show (Addr.add _ _).block ≠ _; rw [add_block]) | dsimp only | skip); exact Nat.ne_of_lt (Nat.lt_of_lt_of_le (by have := World.block_lt_of_cell? _ _ hw131_2; first | rwa [add_block] at this | exact this) GW133.out)) _).trans (((cell_far (p := ⟨gb133, _, none⟩) (by (first | rw [add_block] | (show (Addr.add _ _).block ≠ _; rw [add_block]) | dsimp only | skip); exact Nat.ne_of_lt (Nat.lt_of_lt_of_le (by have := World.block_lt_of_cell? _ _ hw131_2; first | rwa [add_block] at this | exact this) GW133.out)) _).trans (((cell_far (p := ⟨gb133, _, none⟩) (by (first | rw [add_block] | (show (Addr.add _ _).block ≠ _; rw [add_block]) | dsimp only | skip); exact Nat.ne_of_lt (Nat.lt_of_lt_of_le (by have := World.block_lt_of_cell? _ _ hw131_2; first | rwa [add_block] at this | exact this) GW133.out)) _).trans (hHeld.2.2.2.2.2.2.2.2.2.2.1)))))))), ((cell_far (p := ⟨gb133, _, none⟩) (by (first | rw [add_block] | (show (Addr.add _ _).block ≠ _; rw [add_block]) | dsimp only | skip); exact Nat.ne_of_lt (Nat.lt_of_lt_of_le (by have := World.block_lt_of_cell? _ _ hw131_3; first | rwa [add_block] at this | exact this) GW133.out)) _).trans (((cell_far (p := ⟨gb133, _, none⟩) (by (first | rw [add_block] | (show (Addr.add _ _).block ≠ _; rw [add_block]) | dsimp only | skip); exact Nat.ne_of_lt (Nat.lt_of_lt_of_le (by have := World.block_lt_of_cell? _ _ hw131_3; first | rwa [add_block] at this | exact this) GW133.out)) _).trans (((cell_far (p := ⟨gb133, _, none⟩) (by (first | rw [add_block] | (show (Addr.add _ _).block ≠ _; rw [add_block]) | dsimp only | skip); exact Nat.ne_of_lt (Nat.lt_of_lt_of_le (by have := World.block_lt_of_cell? _ _ hw131_3; first | rwa [add_block] at this | exact this) GW133.out)) _).trans (((cell_far (p := ⟨gb133, _, none⟩) (by (first | rw [add_block] | (show (Addr.add _ _).block ≠ _; rw [add_block]) | dsimp only | skip); exact Nat.ne_of_lt (Nat.lt_of_lt_of_le (by have := World.block_lt_of_cell? _ _ hw131_3; first | rwa [add_block] at this | exact this) GW133.out)) _).trans (hHeld.2.2.2.2.2.2.2.2.2.2.2.1)))))))), ((cell_far (p := ⟨gb133, _, none⟩) (by (first | rw [add_block] | (show (Addr.add _ _).block ≠ _; rw [add_block]) | dsimp only | skip); exact Nat.ne_of_lt (Nat.lt_of_lt_of_le (by have := World.block_lt_of_cell? _ _ hw132_0; first | rwa [add_block] at this | exact this) GW133.out)) _).trans (((cell_far (p := ⟨gb133, _, none⟩) (by (first | rw [add_block] | (show (Addr.add _ _).block ≠ _; rw [add_block]) | dsimp only | skip); exact Nat.ne_of_lt (Nat.lt_of_lt_of_le (by have := World.block_lt_of_cell? _ _ hw132_0; first | rwa [add_block] at this | exact this) GW133.out)) _).trans (((cell_far (p := ⟨gb133, _, none⟩) (by (first | rw [add_block] | (show (Addr.add _ _).block ≠ _; rw [add_block]) | dsimp only | skip); exact Nat.ne_of_lt (Nat.lt_of_lt_of_le (by have := World.block_lt_of_cell? _ _ hw132_0; first | rwa [add_block] at this | exact this) GW133.out)) _).trans (((cell_far (p := ⟨gb133, _, none⟩) (by (first | rw [add_block] | (show (Addr.add _ _).block ≠ _; rw [add_block]) | dsimp only | skip); exact Nat.ne_of_lt (Nat.lt_of_lt_of_le (by have := World.block_lt_of_cell? _ _ hw132_0; first | rwa [add_block] at this | exact this) GW133.out)) _).trans (hHeld.2.2.2.2.2.2.2.2.2.2.2.2.1)))))))), ((cell_far (p := ⟨gb133, _, none⟩) (by (first | rw [add_block] | (show (Addr.add _ _).block ≠ _; rw [add_block]) | dsimp only | skip); exact Nat.ne_of_lt (Nat.lt_of_lt_of_le (by have := World.block_lt_of_cell? _ _ hw132_1; first | rwa [add_block] at this | exact this) GW133.out)) _).trans (((cell_far (p := ⟨gb133, _, none⟩) (by (first | rw [add_block] | (show (Addr.add _ _).block ≠ _; rw [add_block]) | dsimp only | skip); exact Nat.ne_of_lt (Nat.lt_of_lt_of_le (by have := World.block_lt_of_cell? _ _ hw132_1; first | rwa [add_block] at this | exact this) GW133.out)) _).trans (((cell_far (p := ⟨gb133, _, none⟩) (by (first | rw [add_block] | (show (Addr.add _ _).block ≠ _; rw [add_block]) | dsimp only | skip); exact Nat.ne_of_lt (Nat.lt_of_lt_of_le (by have := World.block_lt_of_cell? _ _ hw132_1; first | rwa [add_block] at this | exact this) GW133.out)) _).trans (((cell_far (p := ⟨gb133, _, none⟩) (by (first | rw [add_block] | (show (Addr.add _ _).block ≠ _; rw [add_block]) | dsimp only | skip); exact Nat.ne_of_lt (Nat.lt_of_lt_of_le (by have := World.block_lt_of_cell? _ _ hw132_1; first | rwa [add_block] at this | exact this) GW133.out)) _).trans (hHeld.2.2.2.2.2.2.2.2.2.2.2.2.2.1)))))))), ((cell_far (p := ⟨gb133, _, none⟩) (by (first | rw [add_block] | (show (Addr.add _ _).block ≠ _; rw [add_block]) | dsimp only | skip); exact Nat.ne_of_lt (Nat.lt_of_lt_of_le (by have := World.block_lt_of_cell? _ _ hw132_2; first | rwa [add_block] at this | exact this) GW133.out)) _).trans (((cell_far (p := ⟨gb133, _, none⟩) (by (first | rw [add_block] | (show (Addr.add _ _).block ≠ _; rw [add_block]) | dsimp only | skip); exact Nat.ne_of_lt (Nat.lt_of_lt_of_le (by have := World.block_lt_of_cell? _ _ hw132_2; first | rwa [add_block] at this | exact this) GW133.out)) _).trans (((cell_far (p := ⟨gb133, _, none⟩) (by (first | rw [add_block] | (show (Addr.add _ _).block ≠ _; rw [add_block]) | dsimp only | skip); exact Nat.ne_of_lt (Nat.lt_of_lt_of_le (by have := World.block_lt_of_cell? _ _ hw132_2; first | rwa [add_block] at this | exact this) GW133.out)) _).trans (((cell_far (p := ⟨gb133, _, none⟩) (by (first | rw [add_block] | (show (Addr.add _ _).block ≠ _; rw [add_block]) | dsimp only | skip); exact Nat.ne_of_lt (Nat.lt_of_lt_of_le (by have := World.block_lt_of_cell? _ _ hw132_2; first | rwa [add_block] at this | exact this) GW133.out)) _).trans (hHeld.2.2.2.2.2.2.2.2.2.2.2.2.2.2.1)))))))), ((cell_far (p := ⟨gb133, _, none⟩) (by (first | rw [add_block] | (show (Addr.add _ _).block ≠ _; rw [add_block]) | dsimp only | skip); exact Nat.ne_of_lt (Nat.lt_of_lt_of_le (by have := World.block_lt_of_cell? _ _ hw132_3; first | rwa [add_block] at this | exact this) GW133.out)) _).trans (((cell_far (p := ⟨gb133, _, none⟩) (by (first | rw [add_block] | (show (Addr.add _ _).block ≠ _; rw [add_block]) | dsimp only | skip); exact Nat.ne_of_lt (Nat.lt_of_lt_of_le (by have := World.block_lt_of_cell? _ _ hw132_3; first | rwa [add_block] at this | exact this) GW133.out)) _).trans (((cell_far (p := ⟨gb133, _, none⟩) (by (first | rw [add_block] | (show (Addr.add _ _).block ≠ _; rw [add_block]) | dsimp only | skip); exact Nat.ne_of_lt (Nat.lt_of_lt_of_le (by have := World.block_lt_of_cell? _ _ hw132_3; first | rwa [add_block] at this | exact this) GW133.out)) _).trans (((cell_far (p := ⟨gb133, _, none⟩) (by (first | rw [add_block] | (show (Addr.add _ _).block ≠ _; rw [add_block]) | dsimp only | skip); exact Nat.ne_of_lt (Nat.lt_of_lt_of_le (by have := World.block_lt_of_cell? _ _ hw132_3; first | rwa [add_block] at this | exact this) GW133.out)) _).trans (hHeld.2.2.2.2.2.2.2.2.2.2.2.2.2.2.2))))))))⟩ (fun hHeld => ?_)
            clear hK K
            refine done_ (done_of HT_.out (by kernel_rfl)) ?_
            have hG5_ := (blk_set (blk_set (blk_set (blk_set (blk_set BK133.out 0 (.int .u64 (Go.bits .andNot .u64 ((rd_T28 l0 x7_1).f0) 7))) 1 (.int .i64 (wrap64 (2 + (Go.bits .and .i64 ((rd_T28 l0 x7_1).f1) 3))))) 2 (.int .i64 (Go.bits .and .i64 ((rd_T28 l0 x7_1).f2) 7))) 3 (.int .u64 ((rd_T28 l0 x7_1).f3))) 2 (.int .i64 0))
            have hq5_0 : (((((w16.setCell ⟨gb133, 0, none⟩ (.int .u64 (Go.bits .andNot .u64 ((rd_T28 l0 x7_1).f0) 7))).setCell ⟨gb133, 1, none⟩ (.int .i64 (wrap64 (2 + (Go.bits .and .i64 ((rd_T28 l0 x7_1).f1) 3))))).setCell ⟨gb133, 2, none⟩ (.int .i64 (Go.bits .and .i64 ((rd_T28 l0 x7_1).f2) 7))).setCell ⟨gb133, 3, none⟩ (.int .u64 ((rd_T28 l0 x7_1).f3))).setCell ⟨gb133, 2, none⟩ (.int .i64 0)).cell? ⟨gb133, 0, none⟩ = some (.int .u64 (Go.bits .andNot .u64 ((rd_T28 l0 x7_1).f0) 7)) := (blk_cell hG5_ 0).trans rfl
            have hq5_1 : (((((w16.setCell ⟨gb133, 0, none⟩ (.int .u64 (Go.bits .andNot .u64 ((rd_T28 l0 x7_1).f0) 7))).setCell ⟨gb133, 1, none⟩ (.int .i64 (wrap64 (2 + (Go.bits .and .i64 ((rd_T28 l0 x7_1).f1) 3))))).setCell ⟨gb133, 2, none⟩ (.int .i64 (Go.bits .and .i64 ((rd_T28 l0 x7_1).f2) 7))).setCell ⟨gb133, 3, none⟩ (.int .u64 ((rd_T28 l0 x7_1).f3))).setCell ⟨gb133, 2, none⟩ (.int .i64 0)).cell? ⟨gb133, 1, none⟩ = some (.int .i64 (wrap64 (2 + (Go.bits .and .i64 ((rd_T28 l0 x7_1).f1) 3)))) := (blk_cell hG5_ 1).trans rfl
            have hq5_2 : (((((w16.setCell ⟨gb133, 0, none⟩ (.int .u64 (Go.bits .andNot .u64 ((rd_T28 l0 x7_1).f0) 7))).setCell ⟨gb133, 1, none⟩ (.int .i64 (wrap64 (2 + (Go.bits .and .i64 ((rd_T28 l0 x7_1).f1) 3))))).setCell ⟨gb133, 2, none⟩ (.int .i64 (Go.bits .and .i64 ((rd_T28 l0 x7_1).f2) 7))).setCell ⟨gb133, 3, none⟩ (.int .u64 ((rd_T28 l0 x7_1).f3))).setCell ⟨gb133, 2, none⟩ (.int .i64 0)).cell? ⟨gb133, 2, none⟩ = some (.int .i64 0) := (blk_cell hG5_ 2).trans rfl
            have hq5_3 : (((((w16.setCell ⟨gb133, 0, none⟩ (.int .u64 (Go.bits .andNot .u64 ((rd_T28 l0 x7_1).f0) 7))).setCell ⟨gb133, 1, none⟩ (.int .i64 (wrap64 (2 + (Go.bits .and .i64 ((rd_T28 l0 x7_1).f1) 3))))).setCell ⟨gb133, 2, none⟩ (.int .i64 (Go.bits .and .i64 ((rd_T28 l0 x7_1).f2) 7))).setCell ⟨gb133, 3, none⟩ (.int .u64 ((rd_T28 l0 x7_1).f3))).setCell ⟨gb133, 2, none⟩ (.int .i64 0)).cell? ⟨gb133, 3, none⟩ = some (.int .u64 ((rd_T28 l0 x7_1).f3)) := (blk_cell hG5_ 3).trans rfl
            clear hG5_
            have hcz21_0 : w16.cell? ⟨gb133, 0, none⟩ = some (.int .u64 0) := (blk_cell BK133.out 0).trans rfl
            have hcz21_1 : w16.cell? ⟨gb133, 1, none⟩ = some (.int .i64 0) := (blk_cell BK133.out 1).trans rfl
            have hcz21_2 : w16.cell? ⟨gb133, 2, none⟩ = some (.int .i64 0) := (blk_cell BK133.out 2).trans rfl
            have hcz21_3 : w16.cell? ⟨gb133, 3, none⟩ = some (.int .u64 0) := (blk_cell BK133.out 3).trans rfl
            have hfz21_0 := blk_frozen BK133.out 0
            have hfz21_1 := blk_frozen BK133.out 1
            have hfz21_2 := blk_frozen BK133.out 2
            have hfz21_3 := blk_frozen BK133.out 3
            try go_wp2_with (first | ((with_reducible refine gate_builtin (b := .append) (xs := #[.tmp 56, .tmp 58]) rfl ?_); (try (refine gate_guard (by rfl) ?_; dsimp only)); at_builtin; refine Kd.R_append k38 (w0 := w) w.heap.size rfl (.tmp 56) (.tmp 58) 29 38 (.agg #[(.int .u64 0), (.int .i64 0), (.int .i64 0), (.int .u64 0)]) 32 rfl Try.underlying29 info38 rfl (by decide) (by omega) u6 x6_1 (⟨Go.bits .andNot .u64 ((rd_T28 l0 x7_1).f0) 7, wrap64 (2 + (Go.bits .and .i64 ((rd_T28 l0 x7_1).f1) 3)), 0, (rd_T28 l0 x7_1).f3⟩ : S38) [.int .u64 (Go.bits .andNot .u64 ((rd_T28 l0 x7_1).f0) 7), .int .i64 (wrap64 (2 + (Go.bits .and .i64 ((rd_T28 l0 x7_1).f1) 3))), .int .i64 0, .int .u64 ((rd_T28 l0 x7_1).f3)] (fun k_ => k_ ≠ gb133) (fun _ => False) rfl (by first | (go_simp; done) | (go_simp; rfl)) ?aP (fun _ hk => hk.elim) ?aF ?aO ?aB ?aS ?aL ?_; (case aP => exact k38_mkM _ _ _ (⟨Go.bits .andNot .u64 ((rd_T28 l0 x7_1).f0) 7, wrap64 (2 + (Go.bits .and .i64 ((rd_T28 l0 x7_1).f1) 3)), 0, (rd_T28 l0 x7_1).f3⟩ : S38)); (case aB => exact (by repeat (first | (with_reducible first | exact HB.out | apply below_alloc | apply pw_below_drewN | apply below_drew1 | refine below_set ?_ GE133.out) | exact HB.out))); (case aF => exact (fun k_ hk => Kd.freshB (g := gb133) (o := .cells #[.int .u64 (Go.bits .andNot .u64 ((rd_T28 l0 x7_1).f0) 7), .int .i64 (wrap64 (2 + (Go.bits .and .i64 ((rd_T28 l0 x7_1).f1) 3))), .int .i64 0, .int .u64 ((rd_T28 l0 x7_1).f3)] 38 (0, 0)) (by (with_reducible repeat (first | refine blk_drewN ?_ _ | refine blk_drew ?_ | refine blk_alloc ?_ _)); refine blk_put (cs := #[.int .u64 (Go.bits .andNot .u64 ((rd_T28 l0 x7_1).f0) 7), .int .i64 (wrap64 (2 + (Go.bits .and .i64 ((rd_T28 l0 x7_1).f1) 3))), .int .i64 (Go.bits .and .i64 ((rd_T28 l0 x7_1).f2) 7), .int .u64 ((rd_T28 l0 x7_1).f3)]) ?_ 2 _ rfl; (with_reducible repeat (first | refine blk_drewN ?_ _ | refine blk_drew ?_ | refine blk_alloc ?_ _)); refine blk_put (cs := #[.int .u64 (Go.bits .andNot .u64 ((rd_T28 l0 x7_1).f0) 7), .int .i64 (wrap64 (2 + (Go.bits .and .i64 ((rd_T28 l0 x7_1).f1) 3))), .int .i64 (Go.bits .and .i64 ((rd_T28 l0 x7_1).f2) 7), .int .u64 0]) ?_ 3 _ rfl; (with_reducible repeat (first | refine blk_drewN ?_ _ | refine blk_drew ?_ | refine blk_alloc ?_ _)); refine blk_put (cs := #[.int .u64 (Go.bits .andNot .u64 ((rd_T28 l0 x7_1).f0) 7), .int .i64 (wrap64 (2 + (Go.bits .and .i64 ((rd_T28 l0 x7_1).f1) 3))), .int .i64 0, .int .u64 0]) ?_ 2 _ rfl; (with_reducible repeat (first | refine blk_drewN ?_ _ | refine blk_drew ?_ | refine blk_alloc ?_ _)); refine blk_put (cs := #[.int .u64 (Go.bits .andNot .u64 ((rd_T28 l0 x7_1).f0) 7), .int .i64 0, .int .i64 0, .int .u64 0]) ?_ 1 _ rfl; (with_reducible repeat (first | refine blk_drewN ?_ _ | refine blk_drew ?_ | refine blk_alloc ?_ _)); refine blk_put (cs := #[.int .u64 0, .int .i64 0, .int .i64 0, .int .u64 0]) ?_ 0 _ rfl; (with_reducible repeat (first | refine blk_drewN ?_ _ | refine blk_drew ?_ | refine blk_alloc ?_ _)); exact BK133.out) k_ hk)); (case aO => exact (by (with_reducible repeat (first | apply Kd.R_alloc | apply Kd.R_drewN | apply Kd.R_drew)); exact Kd.R_mono (Kd.R_far (p := ⟨gb133, 2, none⟩) (Kd.R_far (p := ⟨gb133, 3, none⟩) (Kd.R_far (p := ⟨gb133, 2, none⟩) (Kd.R_far (p := ⟨gb133, 1, none⟩) (Kd.R_far (p := ⟨gb133, 0, none⟩) (Kd.R_mono HO_6.out (fun k_ hk => (⟨hk, hk.2⟩ : _ ∧ k_ ≠ gb133))) (fun _ hk => hk.2) (.int .u64 (Go.bits .andNot .u64 ((rd_T28 l0 x7_1).f0) 7))) (fun _ hk => hk.2) (.int .i64 (wrap64 (2 + (Go.bits .and .i64 ((rd_T28 l0 x7_1).f1) 3))))) (fun _ hk => hk.2) (.int .i64 (Go.bits .and .i64 ((rd_T28 l0 x7_1).f2) 7))) (fun _ hk => hk.2) (.int .u64 ((rd_T28 l0 x7_1).f3))) (fun _ hk => hk.2) (.int .i64 0)) (fun _ hk => hk.1.2))); (case aS => exact (below_size (by repeat (first | (with_reducible first | exact HB.out | apply below_alloc | apply pw_below_drewN | apply below_drew1 | refine below_set ?_ GE133.out) | exact HB.out)))); (case aL => have := LMc12.out; omega); intro v135 w22 ho hb hg hat; rw [← Ny134.out] at ho; have n0_ := Aside0.mk (blk_grown (g := gb133) (o := .cells #[.int .u64 (Go.bits .andNot .u64 ((rd_T28 l0 x7_1).f0) 7), .int .i64 (wrap64 (2 + (Go.bits .and .i64 ((rd_T28 l0 x7_1).f1) 3))), .int .i64 0, .int .u64 ((rd_T28 l0 x7_1).f3)] 38 (0, 0)) (by (with_reducible repeat (first | refine blk_drewN ?_ _ | refine blk_drew ?_ | refine blk_alloc ?_ _)); refine blk_put (cs := #[.int .u64 (Go.bits .andNot .u64 ((rd_T28 l0 x7_1).f0) 7), .int .i64 (wrap64 (2 + (Go.bits .and .i64 ((rd_T28 l0 x7_1).f1) 3))), .int .i64 (Go.bits .and .i64 ((rd_T28 l0 x7_1).f2) 7), .int .u64 ((rd_T28 l0 x7_1).f3)]) ?_ 2 _ rfl; (with_reducible repeat (first | refine blk_drewN ?_ _ | refine blk_drew ?_ | refine blk_alloc ?_ _)); refine blk_put (cs := #[.int .u64 (Go.bits .andNot .u64 ((rd_T28 l0 x7_1).f0) 7), .int .i64 (wrap64 (2 + (Go.bits .and .i64 ((rd_T28 l0 x7_1).f1) 3))), .int .i64 (Go.bits .and .i64 ((rd_T28 l0 x7_1).f2) 7), .int .u64 0]) ?_ 3 _ rfl; (with_reducible repeat (first | refine blk_drewN ?_ _ | refine blk_drew ?_ | refine blk_alloc ?_ _)); refine blk_put (cs := #[.int .u64 (Go.bits .andNot .u64 ((rd_T28 l0 x7_1).f0) 7), .int .i64 (wrap64 (2 + (Go.bits .and .i64 ((rd_T28 l0 x7_1).f1) 3))), .int .i64 0, .int .u64 0]) ?_ 2 _ rfl; (with_reducible repeat (first | refine blk_drewN ?_ _ | refine blk_drew ?_ | refine blk_alloc ?_ _)); refine blk_put (cs := #[.int .u64 (Go.bits .andNot .u64 ((rd_T28 l0 x7_1).f0) 7), .int .i64 0, .int .i64 0, .int .u64 0]) ?_ 1 _ rfl; (with_reducible repeat (first | refine blk_drewN ?_ _ | refine blk_drew ?_ | refine blk_alloc ?_ _)); refine blk_put (cs := #[.int .u64 0, .int .i64 0, .int .i64 0, .int .u64 0]) ?_ 0 _ rfl; (with_reducible repeat (first | refine blk_drewN ?_ _ | refine blk_drew ?_ | refine blk_alloc ?_ _)); exact BK133.out) hg (Kd.R_away HO_6.out (fun _ hk => hk.2))); have n1_ := Aside0.mk (hb); have n2_ := Aside0.mk (ho); clear BK133; clear HB; clear HO_6; have BK133 := n0_; have HB := n1_; have HO136 := n2_; clear n0_ n1_ n2_; clear ho hb hg hat; have hcz23_0 : w22.cell? ⟨gb133, 0, none⟩ = some (.int .u64 (Go.bits .andNot .u64 ((rd_T28 l0 x7_1).f0) 7)) := (blk_cell BK133.out 0).trans rfl; have hcz23_1 : w22.cell? ⟨gb133, 1, none⟩ = some (.int .i64 (wrap64 (2 + (Go.bits .and .i64 ((rd_T28 l0 x7_1).f1) 3)))) := (blk_cell BK133.out 1).trans rfl; have hcz23_2 : w22.cell? ⟨gb133, 2, none⟩ = some (.int .i64 0) := (blk_cell BK133.out 2).trans rfl; have hcz23_3 : w22.cell? ⟨gb133, 3, none⟩ = some (.int .u64 ((rd_T28 l0 x7_1).f3)) := (blk_cell BK133.out 3).trans rfl; have hfz23_0 := blk_frozen BK133.out 0; have hfz23_1 := blk_frozen BK133.out 1; have hfz23_2 := blk_frozen BK133.out 2; have hfz23_3 := blk_frozen BK133.out 3) | ((with_reducible refine gate_callee (f := 11) rfl ?_); refine goesL_ (some 62) rfl rfl Try.func11 (by kernel_rfl) rfl #[.agg #[.int .u64 (Go.bits .andNot .u64 ((rd_T28 l0 x7_1).f0) 7), .int .i64 (wrap64 (2 + (Go.bits .and .i64 ((rd_T28 l0 x7_1).f1) 3))), .int .i64 0, .int .u64 ((rd_T28 l0 x7_1).f3)]] rfl (by (try simp only [List.map_toArray, List.map_cons, List.map_nil]); first | done | rfl | (simp only [List.length_drop, List.length_take]; rfl)) ?_; (with_reducible refine (rela_Put.calls kj5 (Go.bits .andNot .u64 ((rd_T28 l0 x7_1).f0) 7) (wrap64 (2 + (Go.bits .and .i64 ((rd_T28 l0 x7_1).f1) 3))) 0 ((rd_T28 l0 x7_1).f3) t137 _ A13.out).mono ?_); rintro e w24 ⟨rfl, hb⟩; refine ⟨_, rfl, ?_⟩; have n0_ := Aside0.mk (Kd.R_below (by (with_reducible repeat (first | apply Kd.R_alloc | apply Kd.R_drewN | apply Kd.R_drew)); exact HO136.out) hb); have n1_ := Aside0.mk (blk_below (g := gb133) (o := .cells #[.int .u64 (Go.bits .andNot .u64 ((rd_T28 l0 x7_1).f0) 7), .int .i64 (wrap64 (2 + (Go.bits .and .i64 ((rd_T28 l0 x7_1).f1) 3))), .int .i64 0, .int .u64 ((rd_T28 l0 x7_1).f3)] 38 (0, 0)) (by (with_reducible repeat (first | refine blk_drewN ?_ _ | refine blk_drew ?_ | refine blk_alloc ?_ _)); exact BK133.out) hb); have n2_ := Aside0.mk (below_step (by repeat (first | (with_reducible first | exact HB.out | apply below_alloc | apply pw_below_drewN | apply below_drew1 | refine below_set ?_ GE133.out) | exact HB.out)) hb); clear HO136; clear BK133; clear HB; have HO136 := n0_; have BK133 := n1_; have HB := n2_; clear n0_ n1_ n2_; (try clear hb); (try clear hb2); (try clear hk); (try clear hi)))
            go_roundg kj5
            case measure => have := HK1.out; have := HJ5.out; omega
            case rel => exact ⟨(x5_1 ++ t137), (y134), (wrap64 (x7_1 + 1)), (by first | rfl | (simp; done) | (simp [*]; done)), (by first | rfl | (simp; done) | (simp [*]; done)), H', ⟨by have := HK1.out; have := HJ5.out; omega⟩, ⟨by (with_reducible repeat (first | apply Kd.R_alloc | apply Kd.R_drewN | apply Kd.R_drew)); exact Kd.R_mono HO136.out (fun _ hk => trivial)⟩, ⟨by repeat (first | (with_reducible first | exact HB.out | apply below_alloc | apply pw_below_drewN | apply below_drew1 | refine below_set ?_ GE133.out) | exact HB.out)⟩⟩
           ·rw [if_neg c14] at H
            exact absurd H (by simp)
          ·rw [if_neg c12] at H
           exact absurd H (by simp)
         ·rw [if_neg c11] at H
          have c11b0 : ((wrap64 (2 + (Go.bits .and .i64 ((rd_T28 l0 x7_1).f1) 3))) == 3) = false := beq_eq_false_iff_ne.mpr c11
          have c11b1 : ((wrap64 (2 + (Go.bits .and .i64 ((rd_T28 l0 x7_1).f1) 3))) != 3) = true := bne_iff_ne.mpr c11
          by_cases c25 : x6_1.length < 4398046511104
          ·rw [if_pos c25] at H
           have LMc25 := Aside0.mk c25
           clear c25
           obtain ⟨y138, hy138⟩ : ∃ y_ : List (S38), y_ = (x6_1 ++ [(⟨Go.bits .andNot .u64 ((rd_T28 l0 x7_1).f0) 7, wrap64 (2 + (Go.bits .and .i64 ((rd_T28 l0 x7_1).f1) 3)), Go.bits .and .i64 ((rd_T28 l0 x7_1).f2) 7, (rd_T28 l0 x7_1).f3⟩ : S38)]) := ⟨_, rfl⟩
           replace H : ((rela_Put.f kj5 (Go.bits .andNot .u64 ((rd_T28 l0 x7_1).f0) 7) (wrap64 (2 + (Go.bits .and .i64 ((rd_T28 l0 x7_1).f1) 3))) (Go.bits .and .i64 ((rd_T28 l0 x7_1).f2) 7) ((rd_T28 l0 x7_1).f3)).bind fun t141 => (if x5_1.size + t141.size ≤ 9223372036854775807 then (turnbucklelaw15_RelaPlaces.l0 kj5 l0 a1 (x5_1 ++ t141) y138 (wrap64 (x7_1 + 1))) else (none))) = some r := by first | (rw [hy138]; with_reducible exact H) | (have H2_ := (Option.bind_some _ _).symm.trans H; rw [hy138]; with_reducible exact H2_) | (have H2_ := (Option.bind_some _ _).symm.trans H; with_reducible exact H2_) | with_reducible exact H | (rw [hy138]; exact H) | exact H
           have Ny138 := Aside0.mk hy138
           clear hy138
           replace H := Option.bind_eq_some_iff.mp H
           obtain ⟨t141, A260, H⟩ := H
           replace H : (if x5_1.size + t141.size ≤ 9223372036854775807 then (turnbucklelaw15_RelaPlaces.l0 kj5 l0 a1 (x5_1 ++ t141) y138 (wrap64 (x7_1 + 1))) else (none)) = some r := H
           have A26 := Aside0.mk A260
           clear A260
           by_cases c27 : x5_1.size + t141.size ≤ 9223372036854775807
           ·rw [if_pos c27] at H
            have c27b0 := eq_true c27
            have c27b1 : decide (x5_1.size + t141.size ≤ 9223372036854775807) = true := decide_eq_true c27
            try have c27b2 : (9223372036854775807 < x5_1.size + t141.size) = False := eq_false (Nat.not_lt.2 c27)
            have H' := Aside0.mk H
            clear H
            try go_wp2
            have n0_ := Aside0.mk (Kd.R_drew HO_6.out)
            have n1_ := Aside0.mk (below_drew1 HB.out)
            clear HO_6
            clear HB
            have HO_6 := n0_
            have HB := n1_
            clear n0_ n1_
            have p129 : 0 ≤ (x7_1 : Int) := of_decide_eq_true (by first | (with_reducible assumption) | assumption)
            have q129 : x7_1 < (l0.length : Int) := of_decide_eq_true (by first | (with_reducible assumption) | assumption)
            obtain ⟨ad129, e129, hx129_0, hx129_1, hx129_2, hx129_3⟩ := at_T28 HR0.out x7_1 p129 q129
            have hw129_3 := hx129_3
            have hw129_2 := hx129_2
            have hw129_1 := hx129_1
            have hw129_0 := hx129_0
            cases e129
            replace hx129_0 := (HB.out.cell (World.block_lt_of_cell? w _ hx129_0)).trans hx129_0
            replace hx129_1 := (HB.out.cell (World.block_lt_of_cell? w _ hx129_1)).trans hx129_1
            replace hx129_2 := (HB.out.cell (World.block_lt_of_cell? w _ hx129_2)).trans hx129_2
            replace hx129_3 := (HB.out.cell (World.block_lt_of_cell? w _ hx129_3)).trans hx129_3
            replace p129 := eq_true p129
            replace q129 := eq_true q129
            have p130 : 0 ≤ (x7_1 : Int) := of_decide_eq_true (by first | (with_reducible assumption) | assumption)
            have q130 : x7_1 < (l0.length : Int) := of_decide_eq_true (by first | (with_reducible assumption) | assumption)
            obtain ⟨ad130, e130, hx130_0, hx130_1, hx130_2, hx130_3⟩ := at_T28 HR0.out x7_1 p130 q130
            have hw130_3 := hx130_3
            have hw130_2 := hx130_2
            have hw130_1 := hx130_1
            have hw130_0 := hx130_0
            obtain rfl : ad129 = ad130 := (by injection e130)
            replace hx130_0 := (HB.out.cell (World.block_lt_of_cell? w _ hx130_0)).trans hx130_0
            replace hx130_1 := (HB.out.cell (World.block_lt_of_cell? w _ hx130_1)).trans hx130_1
            replace hx130_2 := (HB.out.cell (World.block_lt_of_cell? w _ hx130_2)).trans hx130_2
            replace hx130_3 := (HB.out.cell (World.block_lt_of_cell? w _ hx130_3)).trans hx130_3
            replace p130 := eq_true p130
            replace q130 := eq_true q130
            have p131 : 0 ≤ (x7_1 : Int) := of_decide_eq_true (by first | (with_reducible assumption) | assumption)
            have q131 : x7_1 < (l0.length : Int) := of_decide_eq_true (by first | (with_reducible assumption) | assumption)
            obtain ⟨ad131, e131, hx131_0, hx131_1, hx131_2, hx131_3⟩ := at_T28 HR0.out x7_1 p131 q131
            have hw131_3 := hx131_3
            have hw131_2 := hx131_2
            have hw131_1 := hx131_1
            have hw131_0 := hx131_0
            obtain rfl : ad129 = ad131 := (by injection e131)
            replace hx131_0 := (HB.out.cell (World.block_lt_of_cell? w _ hx131_0)).trans hx131_0
            replace hx131_1 := (HB.out.cell (World.block_lt_of_cell? w _ hx131_1)).trans hx131_1
            replace hx131_2 := (HB.out.cell (World.block_lt_of_cell? w _ hx131_2)).trans hx131_2
            replace hx131_3 := (HB.out.cell (World.block_lt_of_cell? w _ hx131_3)).trans hx131_3
            replace p131 := eq_true p131
            replace q131 := eq_true q131
            have p132 : 0 ≤ (x7_1 : Int) := of_decide_eq_true (by first | (with_reducible assumption) | assumption)
            have q132 : x7_1 < (l0.length : Int) := of_decide_eq_true (by first | (with_reducible assumption) | assumption)
            obtain ⟨ad132, e132, hx132_0, hx132_1, hx132_2, hx132_3⟩ := at_T28 HR0.out x7_1 p132 q132
            have hw132_3 := hx132_3
            have hw132_2 := hx132_2
            have hw132_1 := hx132_1
            have hw132_0 := hx132_0
            obtain rfl : ad129 = ad132 := (by injection e132)
            replace hx132_0 := (HB.out.cell (World.block_lt_of_cell? w _ hx132_0)).trans hx132_0
            replace hx132_1 := (HB.out.cell (World.block_lt_of_cell? w _ hx132_1)).trans hx132_1
            replace hx132_2 := (HB.out.cell (World.block_lt_of_cell? w _ hx132_2)).trans hx132_2
            replace hx132_3 := (HB.out.cell (World.block_lt_of_cell? w _ hx132_3)).trans hx132_3
            replace p132 := eq_true p132
            replace q132 := eq_true q132
            refine start_ (n := 27) (S := fun w' => w'.cell? (ad129.add ((x7_1).toNat * 4)) = some (.int .u64 ((rd_T28 l0 x7_1).f0)) ∧ w'.cell? ⟨(ad129.add ((x7_1).toNat * 4)).block, (ad129.add ((x7_1).toNat * 4)).off + 1, none⟩ = some (.int .i64 ((rd_T28 l0 x7_1).f1)) ∧ w'.cell? ⟨(ad129.add ((x7_1).toNat * 4)).block, (ad129.add ((x7_1).toNat * 4)).off + 2, none⟩ = some (.int .i64 ((rd_T28 l0 x7_1).f2)) ∧ w'.cell? ⟨(ad129.add ((x7_1).toNat * 4)).block, (ad129.add ((x7_1).toNat * 4)).off + 3, none⟩ = some (.int .u64 ((rd_T28 l0 x7_1).f3)) ∧ w'.cell? (ad129.add ((x7_1).toNat * 4)) = some (.int .u64 ((rd_T28 l0 x7_1).f0)) ∧ w'.cell? ⟨(ad129.add ((x7_1).toNat * 4)).block, (ad129.add ((x7_1).toNat * 4)).off + 1, none⟩ = some (.int .i64 ((rd_T28 l0 x7_1).f1)) ∧ w'.cell? ⟨(ad129.add ((x7_1).toNat * 4)).block, (ad129.add ((x7_1).toNat * 4)).off + 2, none⟩ = some (.int .i64 ((rd_T28 l0 x7_1).f2)) ∧ w'.cell? ⟨(ad129.add ((x7_1).toNat * 4)).block, (ad129.add ((x7_1).toNat * 4)).off + 3, none⟩ = some (.int .u64 ((rd_T28 l0 x7_1).f3)) ∧ w'.cell? (ad129.add ((x7_1).toNat * 4)) = some (.int .u64 ((rd_T28 l0 x7_1).f0)) ∧ w'.cell? ⟨(ad129.add ((x7_1).toNat * 4)).block, (ad129.add ((x7_1).toNat * 4)).off + 1, none⟩ = some (.int .i64 ((rd_T28 l0 x7_1).f1)) ∧ w'.cell? ⟨(ad129.add ((x7_1).toNat * 4)).block, (ad129.add ((x7_1).toNat * 4)).off + 2, none⟩ = some (.int .i64 ((rd_T28 l0 x7_1).f2)) ∧ w'.cell? ⟨(ad129.add ((x7_1).toNat * 4)).block, (ad129.add ((x7_1).toNat * 4)).off + 3, none⟩ = some (.int .u64 ((rd_T28 l0 x7_1).f3)) ∧ w'.cell? (ad129.add ((x7_1).toNat * 4)) = some (.int .u64 ((rd_T28 l0 x7_1).f0)) ∧ w'.cell? ⟨(ad129.add ((x7_1).toNat * 4)).block, (ad129.add ((x7_1).toNat * 4)).off + 1, none⟩ = some (.int .i64 ((rd_T28 l0 x7_1).f1)) ∧ w'.cell? ⟨(ad129.add ((x7_1).toNat * 4)).block, (ad129.add ((x7_1).toNat * 4)).off + 2, none⟩ = some (.int .i64 ((rd_T28 l0 x7_1).f2)) ∧ w'.cell? ⟨(ad129.add ((x7_1).toNat * 4)).block, (ad129.add ((x7_1).toNat * 4)).off + 3, none⟩ = some (.int .u64 ((rd_T28 l0 x7_1).f3))) (ds := []) #[false,false,false,false,false,false,false,false,false,false,false,false,false,false,false,false,false,false,false,false,false,false,false,false,false,false,false] (by kernel_rfl) rfl rfl ⟨((HB.out.cell (World.block_lt_of_cell? w _ hw129_0)).trans hw129_0), ((HB.out.cell (World.block_lt_of_cell? w _ hw129_1)).trans hw129_1), ((HB.out.cell (World.block_lt_of_cell? w _ hw129_2)).trans hw129_2), ((HB.out.cell (World.block_lt_of_cell? w _ hw129_3)).trans hw129_3), ((HB.out.cell (World.block_lt_of_cell? w _ hw130_0)).trans hw130_0), ((HB.out.cell (World.block_lt_of_cell? w _ hw130_1)).trans hw130_1), ((HB.out.cell (World.block_lt_of_cell? w _ hw130_2)).trans hw130_2), ((HB.out.cell (World.block_lt_of_cell? w _ hw130_3)).trans hw130_3), ((HB.out.cell (World.block_lt_of_cell? w _ hw131_0)).trans hw131_0), ((HB.out.cell (World.block_lt_of_cell? w _ hw131_1)).trans hw131_1), ((HB.out.cell (World.block_lt_of_cell? w _ hw131_2)).trans hw131_2), ((HB.out.cell (World.block_lt_of_cell? w _ hw131_3)).trans hw131_3), ((HB.out.cell (World.block_lt_of_cell? w _ hw132_0)).trans hw132_0), ((HB.out.cell (World.block_lt_of_cell? w _ hw132_1)).trans hw132_1), ((HB.out.cell (World.block_lt_of_cell? w _ hw132_2)).trans hw132_2), ((HB.out.cell (World.block_lt_of_cell? w _ hw132_3)).trans hw132_3)⟩ (fun hHeld => ?_); refine with_tabW turnbucklelaw15_RelaPlaces.tab8 turnbucklelaw15_RelaPlaces.bits8 (fun HT_ HW_ => ?_)
            generalize wc.drew = w28 at HO_6 HB hx129_0 hx129_1 hx129_2 hx129_3 hx130_0 hx130_1 hx130_2 hx130_3 hx131_0 hx131_1 hx131_2 hx131_3 hx132_0 hx132_1 hx132_2 hx132_3 hHeld ⊢
            refine pure_ (i:=0) (N := some 27) (v:=?_) (a':=?_) #[true,false,false,false,false,false,false,false,false,false,false,false,false,false,false,false,false,false,false,false,false,false,false,false,false,false,false] rfl rfl (any_of HT_.out (by kernel_rfl)) (fun _ _ _ h=>h) (Or.inl ⟨by rfl, ?_⟩) ?_ ?_
            rotate_left
            ·intro w'
             go_simp
             with_reducible rfl
            rotate_left
            ·simp only [Act.put,lz1,lz2,lz3,i64_w,i32_w]
             rfl
            refine pure_ (i:=1) (N := some 28) (v:=?_) (a':=?_) #[true,true,false,false,false,false,false,false,false,false,false,false,false,false,false,false,false,false,false,false,false,false,false,false,false,false,false] rfl rfl (any_of HT_.out (by kernel_rfl)) (fun _ _ _ h=>h) (Or.inl ⟨by rfl, ?_⟩) ?_ ?_
            rotate_left
            ·intro w'
             go_simp
             with_reducible rfl
            rotate_left
            ·simp only [Act.put,lz1,lz2,lz3,i64_w,i32_w]
             rfl
            refine pure_ (i:=2) (N := some 29) (v:=?_) (a':=?_) #[true,true,true,false,false,false,false,false,false,false,false,false,false,false,false,false,false,false,false,false,false,false,false,false,false,false,false] rfl rfl (any_of HT_.out (by kernel_rfl)) (fun _ _ _ h=>h) (Or.inl ⟨by rfl, ?_⟩) ?_ ?_
            rotate_left
            ·intro w'
             go_simp
             with_reducible rfl
            rotate_left
            ·simp only [Act.put,lz1,lz2,lz3,i64_w,i32_w]
             rfl
            refine pure_ (i:=3) (N := some 30) (v:=?_) (a':=?_) #[true,true,true,true,false,false,false,false,false,false,false,false,false,false,false,false,false,false,false,false,false,false,false,false,false,false,false] rfl rfl (any_of HT_.out (by kernel_rfl)) (fun _ _ _ h=>h) (Or.inl ⟨by rfl, ?_⟩) ?_ ?_
            rotate_left
            ·intro w'
             go_simp
             with_reducible rfl
            rotate_left
            ·simp only [Act.put,lz1,lz2,lz3,i64_w,i32_w]
             rfl
            refine pure_ (i:=6) (N := some 33) (v:=?_) (a':=?_) #[true,true,true,true,false,false,true,false,false,false,false,false,false,false,false,false,false,false,false,false,false,false,false,false,false,false,false] rfl rfl (any_of HT_.out (by kernel_rfl)) (fun _ _ _ h=>h) (Or.inl ⟨by rfl, ?_⟩) ?_ ?_
            rotate_left
            ·intro w'
             go_simp
             with_reducible rfl
            rotate_left
            ·simp only [Act.put,lz1,lz2,lz3,i64_w,i32_w]
             rfl
            refine pure_ (i:=7) (N := some 34) (v:=?_) (a':=?_) #[true,true,true,true,false,false,true,true,false,false,false,false,false,false,false,false,false,false,false,false,false,false,false,false,false,false,false] rfl rfl (any_of HT_.out (by kernel_rfl)) (fun _ _ _ h=>h) (Or.inl ⟨by rfl, ?_⟩) ?_ ?_
            rotate_left
            ·intro w'
             go_simp
             with_reducible rfl
            rotate_left
            ·simp only [Act.put,lz1,lz2,lz3,i64_w,i32_w]
             rfl
            refine pure_ (i:=8) (N := some 35) (v:=?_) (a':=?_) #[true,true,true,true,false,false,true,true,true,false,false,false,false,false,false,false,false,false,false,false,false,false,false,false,false,false,false] rfl rfl (any_of HT_.out (by kernel_rfl)) (fun _ _ _ h=>h) (Or.inl ⟨by rfl, ?_⟩) ?_ ?_
            rotate_left
            ·intro w'
             go_simp
             with_reducible rfl
            rotate_left
            ·simp only [Act.put,lz1,lz2,lz3,i64_w,i32_w]
             rfl
            refine pure_ (i:=9) (N := some 36) (v:=?_) (a':=?_) #[true,true,true,true,false,false,true,true,true,true,false,false,false,false,false,false,false,false,false,false,false,false,false,false,false,false,false] rfl rfl (any_of HT_.out (by kernel_rfl)) (fun _ _ _ h=>h) (Or.inl ⟨by rfl, ?_⟩) ?_ ?_
            rotate_left
            ·intro w'
             go_simp
             with_reducible rfl
            rotate_left
            ·simp only [Act.put,lz1,lz2,lz3,i64_w,i32_w]
             rfl
            refine pure_ (i:=13) (N := some 40) (v:=?_) (a':=?_) #[true,true,true,true,false,false,true,true,true,true,false,false,false,true,false,false,false,false,false,false,false,false,false,false,false,false,false] rfl rfl (any_of HT_.out (by kernel_rfl)) (fun _ _ _ h=>h) (Or.inl ⟨by rfl, ?_⟩) ?_ ?_
            rotate_left
            ·intro w'
             go_simp
             with_reducible rfl
            rotate_left
            ·simp only [Act.put,lz1,lz2,lz3,i64_w,i32_w]
             rfl
            refine pure_ (i:=14) (N := some 41) (v:=?_) (a':=?_) #[true,true,true,true,false,false,true,true,true,true,false,false,false,true,true,false,false,false,false,false,false,false,false,false,false,false,false] rfl rfl (any_of HT_.out (by kernel_rfl)) (fun _ _ _ h=>h) (Or.inl ⟨by rfl, ?_⟩) ?_ ?_
            rotate_left
            ·intro w'
             go_simp
             with_reducible rfl
            rotate_left
            ·simp only [Act.put,lz1,lz2,lz3,i64_w,i32_w]
             rfl
            refine pure_ (i:=15) (N := some 42) (v:=?_) (a':=?_) #[true,true,true,true,false,false,true,true,true,true,false,false,false,true,true,true,false,false,false,false,false,false,false,false,false,false,false] rfl rfl (any_of HT_.out (by kernel_rfl)) (fun _ _ _ h=>h) (Or.inl ⟨by rfl, ?_⟩) ?_ ?_
            rotate_left
            ·intro w'
             go_simp
             with_reducible rfl
            rotate_left
            ·simp only [Act.put,lz1,lz2,lz3,i64_w,i32_w]
             rfl
            refine pure_ (i:=16) (N := some 43) (v:=?_) (a':=?_) #[true,true,true,true,false,false,true,true,true,true,false,false,false,true,true,true,true,false,false,false,false,false,false,false,false,false,false] rfl rfl (any_of HT_.out (by kernel_rfl)) (fun _ _ _ h=>h) (Or.inl ⟨by rfl, ?_⟩) ?_ ?_
            rotate_left
            ·intro w'
             go_simp
             with_reducible rfl
            rotate_left
            ·simp only [Act.put,lz1,lz2,lz3,i64_w,i32_w]
             rfl
            refine pure_ (i:=19) (N := some 46) (v:=?_) (a':=?_) #[true,true,true,true,false,false,true,true,true,true,false,false,false,true,true,true,true,false,false,true,false,false,false,false,false,false,false] rfl rfl (any_of HT_.out (by kernel_rfl)) (fun _ _ _ h=>h) (Or.inl ⟨by rfl, ?_⟩) ?_ ?_
            rotate_left
            ·intro w'
             go_simp
             with_reducible rfl
            rotate_left
            ·simp only [Act.put,lz1,lz2,lz3,i64_w,i32_w]
             rfl
            refine pure_ (i:=20) (N := some 47) (v:=?_) (a':=?_) #[true,true,true,true,false,false,true,true,true,true,false,false,false,true,true,true,true,false,false,true,true,false,false,false,false,false,false] rfl rfl (any_of HT_.out (by kernel_rfl)) (fun _ _ _ h=>h) (Or.inl ⟨by rfl, ?_⟩) ?_ ?_
            rotate_left
            ·intro w'
             go_simp
             with_reducible rfl
            rotate_left
            ·simp only [Act.put,lz1,lz2,lz3,i64_w,i32_w]
             rfl
            refine pure_ (i:=21) (N := some 48) (v:=?_) (a':=?_) #[true,true,true,true,false,false,true,true,true,true,false,false,false,true,true,true,true,false,false,true,true,true,false,false,false,false,false] rfl rfl (any_of HT_.out (by kernel_rfl)) (fun _ _ _ h=>h) (Or.inl ⟨by rfl, ?_⟩) ?_ ?_
            rotate_left
            ·intro w'
             go_simp
             with_reducible rfl
            rotate_left
            ·simp only [Act.put,lz1,lz2,lz3,i64_w,i32_w]
             rfl
            refine pure_ (i:=22) (N := some 49) (v:=?_) (a':=?_) #[true,true,true,true,false,false,true,true,true,true,false,false,false,true,true,true,true,false,false,true,true,true,true,false,false,false,false] rfl rfl (any_of HT_.out (by kernel_rfl)) (fun _ _ _ h=>h) (Or.inl ⟨by rfl, ?_⟩) ?_ ?_
            rotate_left
            ·intro w'
             go_simp
             with_reducible rfl
            rotate_left
            ·simp only [Act.put,lz1,lz2,lz3,i64_w,i32_w]
             rfl
            refine take_ (i := 4) (N := some 31) (v:=?_) (a':=?_) #[true,true,true,true,true,false,true,true,true,true,false,false,false,true,true,true,true,false,false,true,true,true,true,false,false,false,false] rfl rfl (take_ofW HT_.out HW_.out (by kernel_rfl)) (fun _ _ _ h=>h) (Or.inl ⟨by rfl, ?_⟩) hHeld ?_ ?_
            rotate_left
            ·rintro w' ⟨s0, s1, s2, s3, s4, s5, s6, s7, s8, s9, s10, s11, s12, s13, s14, s15⟩
             go_simp
             with_reducible rfl
            rotate_left
            ·simp only [Act.put,lz1,lz2,lz3,i64_w,i32_w]
             rfl
            refine pure_ (i:=5) (N := some 32) (v:=?_) (a':=?_) #[true,true,true,true,true,true,true,true,true,true,false,false,false,true,true,true,true,false,false,true,true,true,true,false,false,false,false] rfl rfl (any_of HT_.out (by kernel_rfl)) (fun _ _ _ h=>h) (Or.inl ⟨by rfl, ?_⟩) ?_ ?_
            rotate_left
            ·intro w'
             go_simp
             with_reducible rfl
            rotate_left
            ·simp only [Act.put,lz1,lz2,lz3,i64_w,i32_w]
             rfl
            refine take_ (i := 10) (N := some 37) (v:=?_) (a':=?_) #[true,true,true,true,true,true,true,true,true,true,true,false,false,true,true,true,true,false,false,true,true,true,true,false,false,false,false] rfl rfl (take_ofW HT_.out HW_.out (by kernel_rfl)) (fun _ _ _ h=>h) (Or.inl ⟨by rfl, ?_⟩) hHeld ?_ ?_
            rotate_left
            ·rintro w' ⟨s0, s1, s2, s3, s4, s5, s6, s7, s8, s9, s10, s11, s12, s13, s14, s15⟩
             go_simp
             with_reducible rfl
            rotate_left
            ·simp only [Act.put,lz1,lz2,lz3,i64_w,i32_w]
             rfl
            refine pure_ (i:=11) (N := some 38) (v:=?_) (a':=?_) #[true,true,true,true,true,true,true,true,true,true,true,true,false,true,true,true,true,false,false,true,true,true,true,false,false,false,false] rfl rfl (any_of HT_.out (by kernel_rfl)) (fun _ _ _ h=>h) (Or.inl ⟨by rfl, ?_⟩) ?_ ?_
            rotate_left
            ·intro w'
             go_simp
             with_reducible rfl
            rotate_left
            ·simp only [Act.put,lz1,lz2,lz3,i64_w,i32_w]
             rfl
            refine pure_ (i:=12) (N := some 39) (v:=?_) (a':=?_) #[true,true,true,true,true,true,true,true,true,true,true,true,true,true,true,true,true,false,false,true,true,true,true,false,false,false,false] rfl rfl (any_of HT_.out (by kernel_rfl)) (fun _ _ _ h=>h) (Or.inl ⟨by rfl, ?_⟩) ?_ ?_
            rotate_left
            ·intro w'
             go_simp
             with_reducible rfl
            rotate_left
            ·simp only [Act.put,lz1,lz2,lz3,i64_w,i32_w]
             rfl
            refine take_ (i := 17) (N := some 44) (v:=?_) (a':=?_) #[true,true,true,true,true,true,true,true,true,true,true,true,true,true,true,true,true,true,false,true,true,true,true,false,false,false,false] rfl rfl (take_ofW HT_.out HW_.out (by kernel_rfl)) (fun _ _ _ h=>h) (Or.inl ⟨by rfl, ?_⟩) hHeld ?_ ?_
            rotate_left
            ·rintro w' ⟨s0, s1, s2, s3, s4, s5, s6, s7, s8, s9, s10, s11, s12, s13, s14, s15⟩
             go_simp
             with_reducible rfl
            rotate_left
            ·simp only [Act.put,lz1,lz2,lz3,i64_w,i32_w]
             rfl
            refine pure_ (i:=18) (N := some 45) (v:=?_) (a':=?_) #[true,true,true,true,true,true,true,true,true,true,true,true,true,true,true,true,true,true,true,true,true,true,true,false,false,false,false] rfl rfl (any_of HT_.out (by kernel_rfl)) (fun _ _ _ h=>h) (Or.inl ⟨by rfl, ?_⟩) ?_ ?_
            rotate_left
            ·intro w'
             go_simp
             with_reducible rfl
            rotate_left
            ·simp only [Act.put,lz1,lz2,lz3,i64_w,i32_w]
             rfl
            refine take_ (i := 23) (N := some 50) (v:=?_) (a':=?_) #[true,true,true,true,true,true,true,true,true,true,true,true,true,true,true,true,true,true,true,true,true,true,true,true,false,false,false] rfl rfl (take_ofW HT_.out HW_.out (by kernel_rfl)) (fun _ _ _ h=>h) (Or.inl ⟨by rfl, ?_⟩) hHeld ?_ ?_
            rotate_left
            ·rintro w' ⟨s0, s1, s2, s3, s4, s5, s6, s7, s8, s9, s10, s11, s12, s13, s14, s15⟩
             go_simp
             with_reducible rfl
            rotate_left
            ·simp only [Act.put,lz1,lz2,lz3,i64_w,i32_w]
             rfl
            refine pure_ (i:=24) (N := some 51) (v:=?_) (a':=?_) #[true,true,true,true,true,true,true,true,true,true,true,true,true,true,true,true,true,true,true,true,true,true,true,true,true,false,false] rfl rfl (any_of HT_.out (by kernel_rfl)) (fun _ _ _ h=>h) (Or.inl ⟨by rfl, ?_⟩) ?_ ?_
            rotate_left
            ·intro w'
             go_simp
             with_reducible rfl
            rotate_left
            ·simp only [Act.put,lz1,lz2,lz3,i64_w,i32_w]
             rfl
            refine one_ (i := 25) (N := some 8) #[true,true,true,true,true,true,true,true,true,true,true,true,true,true,true,true,true,true,true,true,true,true,true,true,true,true,false] rfl rfl (one_of HT_.out (by kernel_rfl)) (by decide) (fun K hK => ?_)
            refine box_step ?hg (N := 8) ?hd (cs := #[.int .u64 0, .int .i64 0, .int .i64 0, .int .u64 0]) (t := 38) ?hr ?_; (case hd => rfl); (case hg => rfl); (case hr => first | (go_simp; done) | (go_simp; rfl))
            intro gb133 hg w29 hbox hb
            have n0_ := Aside0.mk (Kd.R_below (Kd.R_elderB (by (with_reducible repeat (first | apply Kd.R_alloc | apply Kd.R_drewN | apply Kd.R_drew)); exact HO_6.out) gb133 (Nat.le_of_eq hg.symm)) hb)
            have n1_ := Aside0.mk (below_step (by repeat (first | (with_reducible first | exact HB.out | apply below_alloc | apply pw_below_drewN | apply below_drew1) | exact HB.out)) hb)
            have n2_ := Aside0.mk (hbox)
            have n3_ := Aside0.mk ((by rw [hg]; exact (below_size (by repeat (first | (with_reducible first | exact HB.out | apply below_alloc | apply pw_below_drewN | apply below_drew1) | exact HB.out))) : w.heap.size ≤ gb133))
            have n4_ := Aside0.mk ((by rw [hg]; exact (below_size (by repeat (first | (with_reducible first | exact HB.out | apply below_alloc | apply pw_below_drewN | apply below_drew1) | exact HB.out))) : w.heap.size ≤ gb133))
            clear HO_6
            clear HB
            have HO_6 := n0_
            have HB := n1_
            have BK133 := n2_
            have GW133 := n3_
            have GE133 := n4_
            clear n0_ n1_ n2_ n3_ n4_
            clear hb hbox hg
            refine hK.out _ _ ⟨((HB.out.cell (World.block_lt_of_cell? w _ hw129_0)).trans hw129_0), ((HB.out.cell (World.block_lt_of_cell? w _ hw129_1)).trans hw129_1), ((HB.out.cell (World.block_lt_of_cell? w _ hw129_2)).trans hw129_2), ((HB.out.cell (World.block_lt_of_cell? w _ hw129_3)).trans hw129_3), ((HB.out.cell (World.block_lt_of_cell? w _ hw130_0)).trans hw130_0), ((HB.out.cell (World.block_lt_of_cell? w _ hw130_1)).trans hw130_1), ((HB.out.cell (World.block_lt_of_cell? w _ hw130_2)).trans hw130_2), ((HB.out.cell (World.block_lt_of_cell? w _ hw130_3)).trans hw130_3), ((HB.out.cell (World.block_lt_of_cell? w _ hw131_0)).trans hw131_0), ((HB.out.cell (World.block_lt_of_cell? w _ hw131_1)).trans hw131_1), ((HB.out.cell (World.block_lt_of_cell? w _ hw131_2)).trans hw131_2), ((HB.out.cell (World.block_lt_of_cell? w _ hw131_3)).trans hw131_3), ((HB.out.cell (World.block_lt_of_cell? w _ hw132_0)).trans hw132_0), ((HB.out.cell (World.block_lt_of_cell? w _ hw132_1)).trans hw132_1), ((HB.out.cell (World.block_lt_of_cell? w _ hw132_2)).trans hw132_2), ((HB.out.cell (World.block_lt_of_cell? w _ hw132_3)).trans hw132_3)⟩ (fun hHeld => ?_)
            clear hK K
            refine norm_ (a' := ?_) ?_ ?_
            rotate_left
            ·show Act.put _ (some 8) _ = _
             simp only [Act.put,lz1,lz2,lz3,i64_w,i32_w]
             rfl
            refine one_ (i := 26) (N := none) #[true,true,true,true,true,true,true,true,true,true,true,true,true,true,true,true,true,true,true,true,true,true,true,true,true,true,true] rfl rfl (one_of HT_.out (by kernel_rfl)) (by decide) (fun K hK => ?_)
            have hs30 : w29.cell? ⟨gb133, 0, none⟩ = some (.int .u64 0) := (blk_cell BK133.out 0).trans rfl
            have hfs30 := blk_frozen BK133.out 0
            have hs31 : w29.cell? ⟨gb133, 1, none⟩ = some (.int .i64 0) := (blk_cell BK133.out 1).trans rfl
            have hfs31 := blk_frozen BK133.out 1
            have hs32 : w29.cell? ⟨gb133, 2, none⟩ = some (.int .i64 0) := (blk_cell BK133.out 2).trans rfl
            have hfs32 := blk_frozen BK133.out 2
            have hs33 : w29.cell? ⟨gb133, 3, none⟩ = some (.int .u64 0) := (blk_cell BK133.out 3).trans rfl
            have hfs33 := blk_frozen BK133.out 3
            refine skip_ (w1 := ?_) (by rfl) rfl ?_ ?_
            rotate_left
            ·go_simp
             rfl
            refine hK.out _ _ ⟨((cell_far (p := ⟨gb133, _, none⟩) (by (first | rw [add_block] | (show (Addr.add _ _).block ≠ _; rw [add_block]) | dsimp only | skip); exact Nat.ne_of_lt (Nat.lt_of_lt_of_le (by have := World.block_lt_of_cell? _ _ hw129_0; first | rwa [add_block] at this | exact this) GW133.out)) _).trans (((cell_far (p := ⟨gb133, _, none⟩) (by (first | rw [add_block] | (show (Addr.add _ _).block ≠ _; rw [add_block]) | dsimp only | skip); exact Nat.ne_of_lt (Nat.lt_of_lt_of_le (by have := World.block_lt_of_cell? _ _ hw129_0; first | rwa [add_block] at this | exact this) GW133.out)) _).trans (((cell_far (p := ⟨gb133, _, none⟩) (by (first | rw [add_block] | (show (Addr.add _ _).block ≠ _; rw [add_block]) | dsimp only | skip); exact Nat.ne_of_lt (Nat.lt_of_lt_of_le (by have := World.block_lt_of_cell? _ _ hw129_0; first | rwa [add_block] at this | exact this) GW133.out)) _).trans (((cell_far (p := ⟨gb133, _, none⟩) (by (first | rw [add_block] | (show (Addr.add _ _).block ≠ _; rw [add_block]) | dsimp only | skip); exact Nat.ne_of_lt (Nat.lt_of_lt_of_le (by have := World.block_lt_of_cell? _ _ hw129_0; first | rwa [add_block] at this | exact this) GW133.out)) _).trans (hHeld.1)))))))), ((cell_far (p := ⟨gb133, _, none⟩) (by (first | rw [add_block] | (show (Addr.add _ _).block ≠ _; rw [add_block]) | dsimp only | skip); exact Nat.ne_of_lt (Nat.lt_of_lt_of_le (by have := World.block_lt_of_cell? _ _ hw129_1; first | rwa [add_block] at this | exact this) GW133.out)) _).trans (((cell_far (p := ⟨gb133, _, none⟩) (by (first | rw [add_block] | (show (Addr.add _ _).block ≠ _; rw [add_block]) | dsimp only | skip); exact Nat.ne_of_lt (Nat.lt_of_lt_of_le (by have := World.block_lt_of_cell? _ _ hw129_1; first | rwa [add_block] at this | exact this) GW133.out)) _).trans (((cell_far (p := ⟨gb133, _, none⟩) (by (first | rw [add_block] | (show (Addr.add _ _).block ≠ _; rw [add_block]) | dsimp only | skip); exact Nat.ne_of_lt (Nat.lt_of_lt_of_le (by have := World.block_lt_of_cell? _ _ hw129_1; first | rwa [add_block] at this | exact this) GW133.out)) _).trans (((cell_far (p := ⟨gb133, _, none⟩) (by (first | rw [add_block] | (show (Addr.add _ _).block ≠ _; rw [add_block]) | dsimp only | skip); exact Nat.ne_of_lt (Nat.lt_of_lt_of_le (by have := World.block_lt_of_cell? _ _ hw129_1; first | rwa [add_block] at this | exact this) GW133.out)) _).trans (hHeld.2.1)))))))), ((cell_far (p := ⟨gb133, _, none⟩) (by (first | rw [add_block] | (show (Addr.add _ _).block ≠ _; rw [add_block]) | dsimp only | skip); exact Nat.ne_of_lt (Nat.lt_of_lt_of_le (by have := World.block_lt_of_cell? _ _ hw129_2; first | rwa [add_block] at this | exact this) GW133.out)) _).trans (((cell_far (p := ⟨gb133, _, none⟩) (by (first | rw [add_block] | (show (Addr.add _ _).block ≠ _; rw [add_block]) | dsimp only | skip); exact Nat.ne_of_lt (Nat.lt_of_lt_of_le (by have := World.block_lt_of_cell? _ _ hw129_2; first | rwa [add_block] at this | exact this) GW133.out)) _).trans (((cell_far (p := ⟨gb133, _, none⟩) (by (first | rw [add_block] | (show (Addr.add _ _).block ≠ _; rw [add_block]) | dsimp only | skip); exact Nat.ne_of_lt (Nat.lt_of_lt_of_le (by have := World.block_lt_of_cell? _ _ hw129_2; first | rwa [add_block] at this | exact this) GW133.out)) _).trans (((cell_far (p := ⟨gb133, _, none⟩) (by (first | rw [add_block] | (show (Addr.add _ _).block ≠ _; rw [add_block]) | dsimp only | skip); exact Nat.ne_of_lt (Nat.lt_of_lt_of_le (by have := World.block_lt_of_cell? _ _ hw129_2; first | rwa [add_block] at this | exact this) GW133.out)) _).trans (hHeld.2.2.1)))))))), ((cell_far (p := ⟨gb133, _, none⟩) (by (first | rw [add_block] | (show (Addr.add _ _).block ≠ _; rw [add_block]) | dsimp only | skip); exact Nat.ne_of_lt (Nat.lt_of_lt_of_le (by have := World.block_lt_of_cell? _ _ hw129_3; first | rwa [add_block] at this | exact this) GW133.out)) _).trans (((cell_far (p := ⟨gb133, _, none⟩) (by (first | rw [add_block] | (show (Addr.add _ _).block ≠ _; rw [add_block]) | dsimp only | skip); exact Nat.ne_of_lt (Nat.lt_of_lt_of_le (by have := World.block_lt_of_cell? _ _ hw129_3; first | rwa [add_block] at this | exact this) GW133.out)) _).trans (((cell_far (p := ⟨gb133, _, none⟩) (by (first | rw [add_block] | (show (Addr.add _ _).block ≠ _; rw [add_block]) | dsimp only | skip); exact Nat.ne_of_lt (Nat.lt_of_lt_of_le (by have := World.block_lt_of_cell? _ _ hw129_3; first | rwa [add_block] at this | exact this) GW133.out)) _).trans (((cell_far (p := ⟨gb133, _, none⟩) (by (first | rw [add_block] | (show (Addr.add _ _).block ≠ _; rw [add_block]) | dsimp only | skip); exact Nat.ne_of_lt (Nat.lt_of_lt_of_le (by have := World.block_lt_of_cell? _ _ hw129_3; first | rwa [add_block] at this | exact this) GW133.out)) _).trans (hHeld.2.2.2.1)))))))), ((cell_far (p := ⟨gb133, _, none⟩) (by (first | rw [add_block] | (show (Addr.add _ _).block ≠ _; rw [add_block]) | dsimp only | skip); exact Nat.ne_of_lt (Nat.lt_of_lt_of_le (by have := World.block_lt_of_cell? _ _ hw130_0; first | rwa [add_block] at this | exact this) GW133.out)) _).trans (((cell_far (p := ⟨gb133, _, none⟩) (by (first | rw [add_block] | (show (Addr.add _ _).block ≠ _; rw [add_block]) | dsimp only | skip); exact Nat.ne_of_lt (Nat.lt_of_lt_of_le (by have := World.block_lt_of_cell? _ _ hw130_0; first | rwa [add_block] at this | exact this) GW133.out)) _).trans (((cell_far (p := ⟨gb133, _, none⟩) (by (first | rw [add_block] | (show (Addr.add _ _).block ≠ _; rw [add_block]) | dsimp only | skip); exact Nat.ne_of_lt (Nat.lt_of_lt_of_le (by have := World.block_lt_of_cell? _ _ hw130_0; first | rwa [add_block] at this | exact this) GW133.out)) _).trans (((cell_far (p := ⟨gb133, _, none⟩) (by (first | rw [add_block] | (show (Addr.add _ _).block ≠ _; rw [add_block]) | dsimp only | skip); exact Nat.ne_of_lt (Nat.lt_of_lt_of_le (by have := World.block_lt_of_cell? _ _ hw130_0; first | rwa [add_block] at this | exact this) GW133.out)) _).trans (hHeld.2.2.2.2.1)))))))), ((cell_far (p := ⟨gb133, _, none⟩) (by (first | rw [add_block] | (show (Addr.add _ _).block ≠ _; rw [add_block]) | dsimp only | skip); exact Nat.ne_of_lt (Nat.lt_of_lt_of_le (by have := World.block_lt_of_cell? _ _ hw130_1; first | rwa [add_block] at this | exact this) GW133.out)) _).trans (((cell_far (p := ⟨gb133, _, none⟩) (by (first | rw [add_block] | (show (Addr.add _ _).block ≠ _; rw [add_block]) | dsimp only | skip); exact Nat.ne_of_lt (Nat.lt_of_lt_of_le (by have := World.block_lt_of_cell? _ _ hw130_1; first | rwa [add_block] at this | exact this) GW133.out)) _).trans (((cell_far (p := ⟨gb133, _, none⟩) (by (first | rw [add_block] | (show (Addr.add _ _).block ≠ _; rw [add_block]) | dsimp only | skip); exact Nat.ne_of_lt (Nat.lt_of_lt_of_le (by have := World.block_lt_of_cell? _ _ hw130_1; first | rwa [add_block] at this | exact this) GW133.out)) _).trans (((cell_far (p := ⟨gb133, _, none⟩) (by (first | rw [add_block] | (show (Addr.add _ _).block ≠ _; rw [add_block]) | dsimp only | skip); exact Nat.ne_of_lt (Nat.lt_of_lt_of_le (by have := World.block_lt_of_cell? _ _ hw130_1; first | rwa [add_block] at this | exact this) GW133.out)) _).trans (hHeld.2.2.2.2.2.1)))))))), ((cell_far (p := ⟨gb133, _, none⟩) (by (first | rw [add_block] | (show (Addr.add _ _).block ≠ _; rw [add_block]) | dsimp only | skip); exact Nat.ne_of_lt (Nat.lt_of_lt_of_le (by have := World.block_lt_of_cell? _ _ hw130_2; first | rwa [add_block] at this | exact this) GW133.out)) _).trans (((cell_far (p := ⟨gb133, _, none⟩) (by (first | rw [add_block] | (show (Addr.add _ _).block ≠ _; rw [add_block]) | dsimp only | skip); exact Nat.ne_of_lt (Nat.lt_of_lt_of_le (by have := World.block_lt_of_cell? _ _ hw130_2; first | rwa [add_block] at this | exact this) GW133.out)) _).trans (((cell_far (p := ⟨gb133, _, none⟩) (by (first | rw [add_block] | (show (Addr.add _ _).block ≠ _; rw [add_block]) | dsimp only | skip); exact Nat.ne_of_lt (Nat.lt_of_lt_of_le (by have := World.block_lt_of_cell? _ _ hw130_2; first | rwa [add_block] at this | exact this) GW133.out)) _).trans (((cell_far (p := ⟨gb133, _, none⟩) (by (first | rw [add_block] | (show (Addr.add _ _).block ≠ _; rw [add_block]) | dsimp only | skip); exact Nat.ne_of_lt (Nat.lt_of_lt_of_le (by have := World.block_lt_of_cell? _ _ hw130_2; first | rwa [add_block] at this | exact this) GW133.out)) _).trans (hHeld.2.2.2.2.2.2.1)))))))), ((cell_far (p := ⟨gb133, _, none⟩) (by (first | rw [add_block] | (show (Addr.add _ _).block ≠ _; rw [add_block]) | dsimp only | skip); exact Nat.ne_of_lt (Nat.lt_of_lt_of_le (by have := World.block_lt_of_cell? _ _ hw130_3; first | rwa [add_block] at this | exact this) GW133.out)) _).trans (((cell_far (p := ⟨gb133, _, none⟩) (by (first | rw [add_block] | (show (Addr.add _ _).block ≠ _; rw [add_block]) | dsimp only | skip); exact Nat.ne_of_lt (Nat.lt_of_lt_of_le (by have := World.block_lt_of_cell? _ _ hw130_3; first | rwa [add_block] at this | exact this) GW133.out)) _).trans (((cell_far (p := ⟨gb133, _, none⟩) (by (first | rw [add_block] | (show (Addr.add _ _).block ≠ _; rw [add_block]) | dsimp only | skip); exact Nat.ne_of_lt (Nat.lt_of_lt_of_le (by have := World.block_lt_of_cell? _ _ hw130_3; first | rwa [add_block] at this | exact this) GW133.out)) _).trans (((cell_far (p := ⟨gb133, _, none⟩) (by (first | rw [add_block] | (show (Addr.add _ _).block ≠ _; rw [add_block]) | dsimp only | skip); exact Nat.ne_of_lt (Nat.lt_of_lt_of_le (by have := World.block_lt_of_cell? _ _ hw130_3; first | rwa [add_block] at this | exact this) GW133.out)) _).trans (hHeld.2.2.2.2.2.2.2.1)))))))), ((cell_far (p := ⟨gb133, _, none⟩) (by (first | rw [add_block] | (show (Addr.add _ _).block ≠ _; rw [add_block]) | dsimp only | skip); exact Nat.ne_of_lt (Nat.lt_of_lt_of_le (by have := World.block_lt_of_cell? _ _ hw131_0; first | rwa [add_block] at this | exact this) GW133.out)) _).trans (((cell_far (p := ⟨gb133, _, none⟩) (by (first | rw [add_block] | (show (Addr.add _ _).block ≠ _; rw [add_block]) | dsimp only | skip); exact Nat.ne_of_lt (Nat.lt_of_lt_of_le (by have := World.block_lt_of_cell? _ _ hw131_0; first | rwa [add_block] at this | exact this) GW133.out)) _).trans (((cell_far (p := ⟨gb133, _, none⟩) (by (first | rw [add_block] | (show (Addr.add _ _).block ≠ _; rw [add_block]) | dsimp only | skip); exact Nat.ne_of_lt (Nat.lt_of_lt_of_le (by have := World.block_lt_of_cell? _ _ hw131_0; first | rwa [add_block] at this | exact this) GW133.out)) _).trans (((cell_far (p := ⟨gb133, _, none⟩) (by (first | rw [add_block] | (show (Addr.add _ _).block ≠ _; rw [add_block]) | dsimp only | skip); exact Nat.ne_of_lt (Nat.lt_of_lt_of_le (by have := World.block_lt_of_cell? _ _ hw131_0; first | rwa [add_block] at this | exact this) GW133.out)) _).trans (hHeld.2.2.2.2.2.2.2.2.1)))))))), ((cell_far (p := ⟨gb133, _, none⟩) (by (first | rw [add_block] | (show (Addr.add _ _).block ≠ _; rw [add_block]) | dsimp only | skip); exact Nat.ne_of_lt (Nat.lt_of_lt_of_le (by have := World.block_lt_of_cell? _ _ hw131_1; first | rwa [add_block] at this | exact this) GW133.out)) _).trans (((cell_far (p := ⟨gb133, _, none⟩) (by (first | rw [add_block] | (show (Addr.add _ _).block ≠ _; rw [add_block]) | dsimp only | skip); exact Nat.ne_of_lt (Nat.lt_of_lt_of_le (by have := World.block_lt_of_cell? _ _ hw131_1; first | rwa [add_block] at this | exact this) GW133.out)) _).trans (((cell_far (p := ⟨gb133, _, none⟩) (by (first | rw [add_block] | (show (Addr.add _ _).block ≠ _; rw [add_block]) | dsimp only | skip); exact Nat.ne_of_lt (Nat.lt_of_lt_of_le (by have := World.block_lt_of_cell? _ _ hw131_1; first | rwa [add_block] at this | exact this) GW133.out)) _).trans (((cell_far (p := ⟨gb133, _, none⟩) (by (first | rw [add_block] | (show (Addr.add _ _).block ≠ _; rw [add_block]) | dsimp only | skip); exact Nat.ne_of_lt (Nat.lt_of_lt_of_le (by have := World.block_lt_of_cell? _ _ hw131_1; first | rwa [add_block] at this | exact this) GW133.out)) _).trans (hHeld.2.2.2.2.2.2.2.2.2.1)))))))), ((cell_far (p := ⟨gb133, _, none⟩) (by (first | rw [add_block] | (show (Addr.add _ _).block ≠ _; rw [add_block]) | dsimp only | skip); exact Nat.ne_of_lt (Nat.lt_of_lt_of_le (by have := World.block_lt_of_cell? _ _ hw131_2; first | rwa [add_block] at this | exact this) GW133.out)) _).trans (((cell_far (p := ⟨gb133, _, none⟩) (by (first | rw [add_block] | (show (Addr.add _ _).block ≠ _; rw [add_block]) | dsimp only | skip); exact Nat.ne_of_lt (Nat.lt_of_lt_of_le (by have := World.block_lt_of_cell? _ _ hw131_2; first | rwa [add_block] at this | exact this) GW133.out)) _).trans (((cell_far (p := ⟨gb133, _, none⟩) (by (first | rw [add_block] | (show (Addr.add _ _).block ≠ _; rw [add_block]) | dsimp only | skip); exact Nat.ne_of_lt (Nat.lt_of_lt_of_le (by have := World.block_lt_of_cell? _ _ hw131_2; first | rwa [add_block] at this | exact this) GW133.out)) _).trans (((cell_far (p := ⟨gb133, _, none⟩) (by (first | rw [add_block] | (show (Addr.add _ _).block ≠ _; rw [add_block]) | dsimp only | skip); exact Nat.ne_of_lt (Nat.lt_of_lt_of_le (by have := World.block_lt_of_cell? _ _ hw131_2; first | rwa [add_block] at this | exact this) GW133.out)) _).trans (hHeld.2.2.2.2.2.2.2.2.2.2.1)))))))), ((cell_far (p := ⟨gb133, _, none⟩) (by (first | rw [add_block] | (show (Addr.add _ _).block ≠ _; rw [add_block]) | dsimp only | skip); exact Nat.ne_of_lt (Nat.lt_of_lt_of_le (by have := World.block_lt_of_cell? _ _ hw131_3; first | rwa [add_block] at this | exact this) GW133.out)) _).trans (((cell_far (p := ⟨gb133, _, none⟩) (by (first | rw [add_block] | (show (Addr.add _ _).block ≠ _; rw [add_block]) | dsimp only | skip); exact Nat.ne_of_lt (Nat.lt_of_lt_of_le (by have := World.block_lt_of_cell? _ _ hw131_3; first | rwa [add_block] at this | exact this) GW133.out)) _).trans (((cell_far (p := ⟨gb133, _, none⟩) (by (first | rw [add_block] | (show (Addr.add _ _).block ≠ _; rw [add_block]) | dsimp only | skip); exact Nat.ne_of_lt (Nat.lt_of_lt_of_le (by have := World.block_lt_of_cell? _ _ hw131_3; first | rwa [add_block] at this | exact this) GW133.out)) _).trans (((cell_far (p := ⟨gb133, _, none⟩) (by (first | rw [add_block] | (show (Addr.add _ _).block ≠ _; rw [add_block]) | dsimp only | skip); exact Nat.ne_of_lt (Nat.lt_of_lt_of_le (by have := World.block_lt_of_cell? _ _ hw131_3; first | rwa [add_block] at this | exact this) GW133.out)) _).trans (hHeld.2.2.2.2.2.2.2.2.2.2.2.1)))))))), ((cell_far (p := ⟨gb133, _, none⟩) (by (first | rw [add_block] | (show (Addr.add _ _).block ≠ _; rw [add_block]) | dsimp only | skip); exact Nat.ne_of_lt (Nat.lt_of_lt_of_le (by have := World.block_lt_of_cell? _ _ hw132_0; first | rwa [add_block] at this | exact this) GW133.out)) _).trans (((cell_far (p := ⟨gb133, _, none⟩) (by (first | rw [add_block] | (show (Addr.add _ _).block ≠ _; rw [add_block]) | dsimp only | skip); exact Nat.ne_of_lt (Nat.lt_of_lt_of_le (by have := World.block_lt_of_cell? _ _ hw132_0; first | rwa [add_block] at this | exact this) GW133.out)) _).trans (((cell_far (p := ⟨gb133, _, none⟩) (by (first | rw [add_block] | (show (Addr.add _ _).block ≠ _; rw [add_block]) | dsimp only | skip); exact Nat.ne_of_lt (Nat.lt_of_lt_of_le (by have := World.block_lt_of_cell? _ _ hw132_0; first | rwa [add_block] at this | exact this) GW133.out)) _).trans (((cell_far (p := ⟨gb133, _, none⟩) (by (first | rw [add_block] | (show (Addr.add _ _).block ≠ _; rw [add_block]) | dsimp only | skip); exact Nat.ne_of_lt (Nat.lt_of_lt_of_le (by have := World.block_lt_of_cell? _ _ hw132_0; first | rwa [add_block] at this | exact this) GW133.out)) _).trans (hHeld.2.2.2.2.2.2.2.2.2.2.2.2.1)))))))), ((cell_far (p := ⟨gb133, _, none⟩) (by (first | rw [add_block] | (show (Addr.add _ _).block ≠ _; rw [add_block]) | dsimp only | skip); exact Nat.ne_of_lt (Nat.lt_of_lt_of_le (by have := World.block_lt_of_cell? _ _ hw132_1; first | rwa [add_block] at this | exact this) GW133.out)) _).trans (((cell_far (p := ⟨gb133, _, none⟩) (by (first | rw [add_block] | (show (Addr.add _ _).block ≠ _; rw [add_block]) | dsimp only | skip); exact Nat.ne_of_lt (Nat.lt_of_lt_of_le (by have := World.block_lt_of_cell? _ _ hw132_1; first | rwa [add_block] at this | exact this) GW133.out)) _).trans (((cell_far (p := ⟨gb133, _, none⟩) (by (first | rw [add_block] | (show (Addr.add _ _).block ≠ _; rw [add_block]) | dsimp only | skip); exact Nat.ne_of_lt (Nat.lt_of_lt_of_le (by have := World.block_lt_of_cell? _ _ hw132_1; first | rwa [add_block] at this | exact this) GW133.out)) _).trans (((cell_far (p := ⟨gb133, _, none⟩) (by (first | rw [add_block] | (show (Addr.add _ _).block ≠ _; rw [add_block]) | dsimp only | skip); exact Nat.ne_of_lt (Nat.lt_of_lt_of_le (by have := World.block_lt_of_cell? _ _ hw132_1; first | rwa [add_block] at this | exact this) GW133.out)) _).trans (hHeld.2.2.2.2.2.2.2.2.2.2.2.2.2.1)))))))), ((cell_far (p := ⟨gb133, _, none⟩) (by (first | rw [add_block] | (show (Addr.add _ _).block ≠ _; rw [add_block]) | dsimp only | skip); exact Nat.ne_of_lt (Nat.lt_of_lt_of_le (by have := World.block_lt_of_cell? _ _ hw132_2; first | rwa [add_block] at this | exact this) GW133.out)) _).trans (((cell_far (p := ⟨gb133, _, none⟩) (by (first | rw [add_block] | (show (Addr.add _ _).block ≠ _; rw [add_block]) | dsimp only | skip); exact Nat.ne_of_lt (Nat.lt_of_lt_of_le (by have := World.block_lt_of_cell? _ _ hw132_2; first | rwa [add_block] at this | exact this) GW133.out)) _).trans (((cell_far (p := ⟨gb133, _, none⟩) (by (first | rw [add_block] | (show (Addr.add _ _).block ≠ _; rw [add_block]) | dsimp only | skip); exact Nat.ne_of_lt (Nat.lt_of_lt_of_le (by have := World.block_lt_of_cell? _ _ hw132_2; first | rwa [add_block] at this | exact this) GW133.out)) _).trans (((cell_far (p := ⟨gb133, _, none⟩) (by (first | rw [add_block] | (show (Addr.add _ _).block ≠ _; rw [add_block]) | dsimp only | skip); exact Nat.ne_of_lt (Nat.lt_of_lt_of_le (by have := World.block_lt_of_cell? _ _ hw132_2; first | rwa [add_block] at this | exact this) GW133.out)) _).trans (hHeld.2.2.2.2.2.2.2.2.2.2.2.2.2.2.1)))))))), ((cell_far (p := ⟨gb133, _, none⟩) (by (first | rw [add_block] | (show (Addr.add _ _).block ≠ _; rw [add_block]) | dsimp only | skip); exact Nat.ne_of_lt (Nat.lt_of_lt_of_le (by have := World.block_lt_of_cell? _ _ hw132_3; first | rwa [add_block] at this | exact this) GW133.out)) _).trans (((cell_far (p := ⟨gb133, _, none⟩) (by (first | rw [add_block] | (show (Addr.add _ _).block ≠ _; rw [add_block]) | dsimp only | skip); exact Nat.ne_of_lt (Nat.lt_of_lt_of_le (by have := World.block_lt_of_cell? _ _ hw132_3; first | rwa [add_block] at this | exact this) GW133.out)) _).trans (((cell_far (p := ⟨gb133, _, none⟩) (by (first | rw [add_block] | (show (Addr.add _ _).block ≠ _; rw [add_block]) | dsimp only | skip); exact Nat.ne_of_lt (Nat.lt_of_lt_of_le (by have := World.block_lt_of_cell? _ _ hw132_3; first | rwa [add_block] at this | exact this) GW133.out)) _).trans (((cell_far (p := ⟨gb133, _, none⟩) (by (first | rw [add_block] | (show (Addr.add _ _).block ≠ _; rw [add_block]) | dsimp only | skip); exact Nat.ne_of_lt (Nat.lt_of_lt_of_le (by have := World.block_lt_of_cell? _ _ hw132_3; first | rwa [add_block] at this | exact this) GW133.out)) _).trans (hHeld.2.2.2.2.2.2.2.2.2.2.2.2.2.2.2))))))))⟩ (fun hHeld => ?_)
            clear hK K
            refine done_ (done_of HT_.out (by kernel_rfl)) ?_
            have hcz34_0 : w29.cell? ⟨gb133, 0, none⟩ = some (.int .u64 0) := (blk_cell BK133.out 0).trans rfl
            have hcz34_1 : w29.cell? ⟨gb133, 1, none⟩ = some (.int .i64 0) := (blk_cell BK133.out 1).trans rfl
            have hcz34_2 : w29.cell? ⟨gb133, 2, none⟩ = some (.int .i64 0) := (blk_cell BK133.out 2).trans rfl
            have hcz34_3 : w29.cell? ⟨gb133, 3, none⟩ = some (.int .u64 0) := (blk_cell BK133.out 3).trans rfl
            have hfz34_0 := blk_frozen BK133.out 0
            have hfz34_1 := blk_frozen BK133.out 1
            have hfz34_2 := blk_frozen BK133.out 2
            have hfz34_3 := blk_frozen BK133.out 3
            try go_wp2_with (first | ((with_reducible refine gate_builtin (b := .append) (xs := #[.tmp 56, .tmp 58]) rfl ?_); (try (refine gate_guard (by rfl) ?_; dsimp only)); at_builtin; refine Kd.R_append k38 (w0 := w) w.heap.size rfl (.tmp 56) (.tmp 58) 29 38 (.agg #[(.int .u64 0), (.int .i64 0), (.int .i64 0), (.int .u64 0)]) 32 rfl Try.underlying29 info38 rfl (by decide) (by omega) u6 x6_1 (⟨Go.bits .andNot .u64 ((rd_T28 l0 x7_1).f0) 7, wrap64 (2 + (Go.bits .and .i64 ((rd_T28 l0 x7_1).f1) 3)), Go.bits .and .i64 ((rd_T28 l0 x7_1).f2) 7, (rd_T28 l0 x7_1).f3⟩ : S38) [.int .u64 (Go.bits .andNot .u64 ((rd_T28 l0 x7_1).f0) 7), .int .i64 (wrap64 (2 + (Go.bits .and .i64 ((rd_T28 l0 x7_1).f1) 3))), .int .i64 (Go.bits .and .i64 ((rd_T28 l0 x7_1).f2) 7), .int .u64 ((rd_T28 l0 x7_1).f3)] (fun k_ => k_ ≠ gb133) (fun _ => False) rfl (by first | (go_simp; done) | (go_simp; rfl)) ?aP (fun _ hk => hk.elim) ?aF ?aO ?aB ?aS ?aL ?_; (case aP => exact k38_mkM _ _ _ (⟨Go.bits .andNot .u64 ((rd_T28 l0 x7_1).f0) 7, wrap64 (2 + (Go.bits .and .i64 ((rd_T28 l0 x7_1).f1) 3)), Go.bits .and .i64 ((rd_T28 l0 x7_1).f2) 7, (rd_T28 l0 x7_1).f3⟩ : S38)); (case aB => exact (by repeat (first | (with_reducible first | exact HB.out | apply below_alloc | apply pw_below_drewN | apply below_drew1 | refine below_set ?_ GE133.out) | exact HB.out))); (case aF => exact (fun k_ hk => Kd.freshB (g := gb133) (o := .cells #[.int .u64 (Go.bits .andNot .u64 ((rd_T28 l0 x7_1).f0) 7), .int .i64 (wrap64 (2 + (Go.bits .and .i64 ((rd_T28 l0 x7_1).f1) 3))), .int .i64 (Go.bits .and .i64 ((rd_T28 l0 x7_1).f2) 7), .int .u64 ((rd_T28 l0 x7_1).f3)] 38 (0, 0)) (by (with_reducible repeat (first | refine blk_drewN ?_ _ | refine blk_drew ?_ | refine blk_alloc ?_ _)); refine blk_put (cs := #[.int .u64 (Go.bits .andNot .u64 ((rd_T28 l0 x7_1).f0) 7), .int .i64 (wrap64 (2 + (Go.bits .and .i64 ((rd_T28 l0 x7_1).f1) 3))), .int .i64 (Go.bits .and .i64 ((rd_T28 l0 x7_1).f2) 7), .int .u64 0]) ?_ 3 _ rfl; (with_reducible repeat (first | refine blk_drewN ?_ _ | refine blk_drew ?_ | refine blk_alloc ?_ _)); refine blk_put (cs := #[.int .u64 (Go.bits .andNot .u64 ((rd_T28 l0 x7_1).f0) 7), .int .i64 (wrap64 (2 + (Go.bits .and .i64 ((rd_T28 l0 x7_1).f1) 3))), .int .i64 0, .int .u64 0]) ?_ 2 _ rfl; (with_reducible repeat (first | refine blk_drewN ?_ _ | refine blk_drew ?_ | refine blk_alloc ?_ _)); refine blk_put (cs := #[.int .u64 (Go.bits .andNot .u64 ((rd_T28 l0 x7_1).f0) 7), .int .i64 0, .int .i64 0, .int .u64 0]) ?_ 1 _ rfl; (with_reducible repeat (first | refine blk_drewN ?_ _ | refine blk_drew ?_ | refine blk_alloc ?_ _)); refine blk_put (cs := #[.int .u64 0, .int .i64 0, .int .i64 0, .int .u64 0]) ?_ 0 _ rfl; (with_reducible repeat (first | refine blk_drewN ?_ _ | refine blk_drew ?_ | refine blk_alloc ?_ _)); exact BK133.out) k_ hk)); (case aO => exact (by (with_reducible repeat (first | apply Kd.R_alloc | apply Kd.R_drewN | apply Kd.R_drew)); exact Kd.R_mono (Kd.R_far (p := ⟨gb133, 3, none⟩) (Kd.R_far (p := ⟨gb133, 2, none⟩) (Kd.R_far (p := ⟨gb133, 1, none⟩) (Kd.R_far (p := ⟨gb133, 0, none⟩) (Kd.R_mono HO_6.out (fun k_ hk => (⟨hk, hk.2⟩ : _ ∧ k_ ≠ gb133))) (fun _ hk => hk.2) (.int .u64 (Go.bits .andNot .u64 ((rd_T28 l0 x7_1).f0) 7))) (fun _ hk => hk.2) (.int .i64 (wrap64 (2 + (Go.bits .and .i64 ((rd_T28 l0 x7_1).f1) 3))))) (fun _ hk => hk.2) (.int .i64 (Go.bits .and .i64 ((rd_T28 l0 x7_1).f2) 7))) (fun _ hk => hk.2) (.int .u64 ((rd_T28 l0 x7_1).f3))) (fun _ hk => hk.1.2))); (case aS => exact (below_size (by repeat (first | (with_reducible first | exact HB.out | apply below_alloc | apply pw_below_drewN | apply below_drew1 | refine below_set ?_ GE133.out) | exact HB.out)))); (case aL => have := LMc25.out; omega); intro v139 w35 ho hb hg hat; rw [← Ny138.out] at ho; have n0_ := Aside0.mk (blk_grown (g := gb133) (o := .cells #[.int .u64 (Go.bits .andNot .u64 ((rd_T28 l0 x7_1).f0) 7), .int .i64 (wrap64 (2 + (Go.bits .and .i64 ((rd_T28 l0 x7_1).f1) 3))), .int .i64 (Go.bits .and .i64 ((rd_T28 l0 x7_1).f2) 7), .int .u64 ((rd_T28 l0 x7_1).f3)] 38 (0, 0)) (by (with_reducible repeat (first | refine blk_drewN ?_ _ | refine blk_drew ?_ | refine blk_alloc ?_ _)); refine blk_put (cs := #[.int .u64 (Go.bits .andNot .u64 ((rd_T28 l0 x7_1).f0) 7), .int .i64 (wrap64 (2 + (Go.bits .and .i64 ((rd_T28 l0 x7_1).f1) 3))), .int .i64 (Go.bits .and .i64 ((rd_T28 l0 x7_1).f2) 7), .int .u64 0]) ?_ 3 _ rfl; (with_reducible repeat (first | refine blk_drewN ?_ _ | refine blk_drew ?_ | refine blk_alloc ?_ _)); refine blk_put (cs := #[.int .u64 (Go.bits .andNot .u64 ((rd_T28 l0 x7_1).f0) 7), .int .i64 (wrap64 (2 + (Go.bits .and .i64 ((rd_T28 l0 x7_1).f1) 3))), .int .i64 0, .int .u64 0]) ?_ 2 _ rfl; (with_reducible repeat (first | refine blk_drewN ?_ _ | refine blk_drew ?_ | refine blk_alloc ?_ _)); refine blk_put (cs := #[.int .u64 (Go.bits .andNot .u64 ((rd_T28 l0 x7_1).f0) 7), .int .i64 0, .int .i64 0, .int .u64 0]) ?_ 1 _ rfl; (with_reducible repeat (first | refine blk_drewN ?_ _ | refine blk_drew ?_ | refine blk_alloc ?_ _)); refine blk_put (cs := #[.int .u64 0, .int .i64 0, .int .i64 0, .int .u64 0]) ?_ 0 _ rfl; (with_reducible repeat (first | refine blk_drewN ?_ _ | refine blk_drew ?_ | refine blk_alloc ?_ _)); exact BK133.out) hg (Kd.R_away HO_6.out (fun _ hk => hk.2))); have n1_ := Aside0.mk (hb); have n2_ := Aside0.mk (ho); clear BK133; clear HB; clear HO_6; have BK133 := n0_; have HB := n1_; have HO140 := n2_; clear n0_ n1_ n2_; clear ho hb hg hat; have hcz36_0 : w35.cell? ⟨gb133, 0, none⟩ = some (.int .u64 (Go.bits .andNot .u64 ((rd_T28 l0 x7_1).f0) 7)) := (blk_cell BK133.out 0).trans rfl; have hcz36_1 : w35.cell? ⟨gb133, 1, none⟩ = some (.int .i64 (wrap64 (2 + (Go.bits .and .i64 ((rd_T28 l0 x7_1).f1) 3)))) := (blk_cell BK133.out 1).trans rfl; have hcz36_2 : w35.cell? ⟨gb133, 2, none⟩ = some (.int .i64 (Go.bits .and .i64 ((rd_T28 l0 x7_1).f2) 7)) := (blk_cell BK133.out 2).trans rfl; have hcz36_3 : w35.cell? ⟨gb133, 3, none⟩ = some (.int .u64 ((rd_T28 l0 x7_1).f3)) := (blk_cell BK133.out 3).trans rfl; have hfz36_0 := blk_frozen BK133.out 0; have hfz36_1 := blk_frozen BK133.out 1; have hfz36_2 := blk_frozen BK133.out 2; have hfz36_3 := blk_frozen BK133.out 3) | ((with_reducible refine gate_callee (f := 11) rfl ?_); refine goesL_ (some 62) rfl rfl Try.func11 (by kernel_rfl) rfl #[.agg #[.int .u64 (Go.bits .andNot .u64 ((rd_T28 l0 x7_1).f0) 7), .int .i64 (wrap64 (2 + (Go.bits .and .i64 ((rd_T28 l0 x7_1).f1) 3))), .int .i64 (Go.bits .and .i64 ((rd_T28 l0 x7_1).f2) 7), .int .u64 ((rd_T28 l0 x7_1).f3)]] rfl (by (try simp only [List.map_toArray, List.map_cons, List.map_nil]); first | done | rfl | (simp only [List.length_drop, List.length_take]; rfl)) ?_; (with_reducible refine (rela_Put.calls kj5 (Go.bits .andNot .u64 ((rd_T28 l0 x7_1).f0) 7) (wrap64 (2 + (Go.bits .and .i64 ((rd_T28 l0 x7_1).f1) 3))) (Go.bits .and .i64 ((rd_T28 l0 x7_1).f2) 7) ((rd_T28 l0 x7_1).f3) t141 _ A26.out).mono ?_); rintro e w37 ⟨rfl, hb⟩; refine ⟨_, rfl, ?_⟩; have n0_ := Aside0.mk (Kd.R_below (by (with_reducible repeat (first | apply Kd.R_alloc | apply Kd.R_drewN | apply Kd.R_drew)); exact HO140.out) hb); have n1_ := Aside0.mk (blk_below (g := gb133) (o := .cells #[.int .u64 (Go.bits .andNot .u64 ((rd_T28 l0 x7_1).f0) 7), .int .i64 (wrap64 (2 + (Go.bits .and .i64 ((rd_T28 l0 x7_1).f1) 3))), .int .i64 (Go.bits .and .i64 ((rd_T28 l0 x7_1).f2) 7), .int .u64 ((rd_T28 l0 x7_1).f3)] 38 (0, 0)) (by (with_reducible repeat (first | refine blk_drewN ?_ _ | refine blk_drew ?_ | refine blk_alloc ?_ _)); exact BK133.out) hb); have n2_ := Aside0.mk (below_step (by repeat (first | (with_reducible first | exact HB.out | apply below_alloc | apply pw_below_drewN | apply below_drew1 | refine below_set ?_ GE133.out) | exact HB.out)) hb); clear HO140; clear BK133; clear HB; have HO140 := n0_; have BK133 := n1_; have HB := n2_; clear n0_ n1_ n2_; (try clear hb); (try clear hb2); (try clear hk); (try clear hi)))
            go_roundg kj5
            case measure => have := HK1.out; have := HJ5.out; omega
            case rel => exact ⟨(x5_1 ++ t141), (y138), (wrap64 (x7_1 + 1)), (by first | rfl | (simp; done) | (simp [*]; done)), (by first | rfl | (simp; done) | (simp [*]; done)), H', ⟨by have := HK1.out; have := HJ5.out; omega⟩, ⟨by (with_reducible repeat (first | apply Kd.R_alloc | apply Kd.R_drewN | apply Kd.R_drew)); exact Kd.R_mono HO140.out (fun _ hk => trivial)⟩, ⟨by repeat (first | (with_reducible first | exact HB.out | apply below_alloc | apply pw_below_drewN | apply below_drew1 | refine below_set ?_ GE133.out) | exact HB.out)⟩⟩
           ·rw [if_neg c27] at H
            exact absurd H (by simp)
          ·rw [if_neg c25] at H
           exact absurd H (by simp)
        ·rw [if_neg c10] at H
         exact absurd H (by simp)
       ·rw [if_neg c9] at H
        exact absurd H (by simp)
      ·replace c8 := Bool.eq_false_iff.mpr c8
       subst c8
       have H1 : ((rela_Read.f kj5 x5_1 8).bind fun bt142 => ((fail_Fault_OK.f bt142.2.1 bt142.2.2.1 bt142.2.2.2).bind fun t149 => (if t149 = true then (turnbucklelaw15_RelaPlaces.j2 kj5 a1 x5_1 x6_1 bt142.1 ((bt142.1.length : Int) != (x6_1.length : Int))) else (turnbucklelaw15_RelaPlaces.j2 kj5 a1 x5_1 x6_1 bt142.1 true)))) = some r := by rw [if_neg (show ¬ (false = true) by decide)] at H; exact H
       clear H
       have H := H1
       clear H1
       replace H := Option.bind_eq_some_iff.mp H
       obtain ⟨⟨t142, t145, t146, t147⟩, A380, H⟩ := H
       replace H : ((fail_Fault_OK.f t145 t146 t147).bind fun t149 => (if t149 = true then (turnbucklelaw15_RelaPlaces.j2 kj5 a1 x5_1 x6_1 t142 ((t142.length : Int) != (x6_1.length : Int))) else (turnbucklelaw15_RelaPlaces.j2 kj5 a1 x5_1 x6_1 t142 true))) = some r := H
       have A38 := Aside0.mk A380
       clear A380
       have HC39 := Aside0.mk H
       clear H
       go_upto_region 14 with (first | ((with_reducible refine gate_callee (f := 9) rfl ?_); refine goesL_ (some 66) rfl rfl Try.func9 (by kernel_rfl) rfl #[.string x5_1, .int .i64 8] rfl (by (try simp only [List.map_toArray, List.map_cons, List.map_nil]); first | done | rfl | (simp only [List.length_drop, List.length_take]; rfl)) ?_; (with_reducible refine (rela_Read.calls kj5 x5_1 8 t142 t145 t146 t147 _ A38.out).mono ?_); rintro e w40 ⟨v143, rfl, ho0, hb⟩; refine ⟨_, rfl, ?_⟩; have n0_ := Aside0.mk (Kd.R_elder' (by (with_reducible repeat (first | apply Kd.R_alloc | apply Kd.R_drewN | apply Kd.R_drew)); exact HO_6.out) (Kd.R_base ho0) hb); have n1_ := Aside0.mk (Kd.R_lower (Kd.R_new' ho0 (Kd.R_lt (by (with_reducible repeat (first | apply Kd.R_alloc | apply Kd.R_drewN | apply Kd.R_drew)); exact HO_6.out))) (below_size (by repeat (first | (with_reducible first | exact HB.out | apply below_alloc | apply pw_below_drewN | apply below_drew1) | exact HB.out)))); have n2_ := Aside0.mk (below_step (by repeat (first | (with_reducible first | exact HB.out | apply below_alloc | apply pw_below_drewN | apply below_drew1) | exact HB.out)) hb); clear HO_6; clear HB; have HO_6 := n0_; have HO144 := n1_; have HB := n2_; clear n0_ n1_ n2_; (try clear hb); (try clear hb2); (try clear hk); (try clear hi); (try clear ho0)) | ((with_reducible refine gate_dst (N := 10) rfl ?_); (try (refine gate_guard (by rfl) ?_; dsimp only)); refine box_event ?hg (N := 10) ?hd (cs := #[.int .i64 0, .int .u64 0, .string (⟨#[]⟩ : ByteArray)]) (t := 32) ?hr ?_; (case hd => rfl); (case hg => rfl); (case hr => first | (go_simp; done) | (go_simp; rfl)); intro gb148 hg w41 hbox hb; have n0_ := Aside0.mk (Kd.R_below (by (with_reducible repeat (first | apply Kd.R_alloc | apply Kd.R_drewN | apply Kd.R_drew)); exact HO_6.out) hb); have n1_ := Aside0.mk (Kd.R_below (by (with_reducible repeat (first | apply Kd.R_alloc | apply Kd.R_drewN | apply Kd.R_drew)); exact HO144.out) hb); have n2_ := Aside0.mk (below_step (by repeat (first | (with_reducible first | exact HB.out | apply below_alloc | apply pw_below_drewN | apply below_drew1) | exact HB.out)) hb); have n3_ := Aside0.mk (hbox); have n4_ := Aside0.mk ((by rw [hg]; exact (below_size (by repeat (first | (with_reducible first | exact HB.out | apply below_alloc | apply pw_below_drewN | apply below_drew1) | exact HB.out))) : w.heap.size ≤ gb148)); have n5_ := Aside0.mk ((by rw [hg]; exact (below_size (by repeat (first | (with_reducible first | exact HB.out | apply below_alloc | apply pw_below_drewN | apply below_drew1) | exact HB.out))) : w.heap.size ≤ gb148)); clear HO_6; clear HO144; clear HB; have HO_6 := n0_; have HO144 := n1_; have HB := n2_; have BK148 := n3_; have GW148 := n4_; have GE148 := n5_; clear n0_ n1_ n2_ n3_ n4_ n5_; clear hb hbox hg; have hcz42_0 : w41.cell? ⟨gb148, 0, none⟩ = some (.int .i64 0) := (blk_cell BK148.out 0).trans rfl; have hcz42_1 : w41.cell? ⟨gb148, 1, none⟩ = some (.int .u64 0) := (blk_cell BK148.out 1).trans rfl; have hcz42_2 : w41.cell? ⟨gb148, 2, none⟩ = some (.string (⟨#[]⟩ : ByteArray)) := (blk_cell BK148.out 2).trans rfl; have hfz42_0 := blk_frozen BK148.out 0; have hfz42_1 := blk_frozen BK148.out 1; have hfz42_2 := blk_frozen BK148.out 2))
       (try simp only [Act.put, List.setIfInBounds_toArray, List.set_cons_zero, List.set_cons_succ])
       go_cut [78] (fun v78 wc => ∃ (kq : Nat) (x78_38 : Bool), v78 = .bool x78_38 ∧ Aside0 (turnbucklelaw15_RelaPlaces.j2 kq a1 x5_1 x6_1 t142 x78_38 = some r) ∧ Aside0 (kq ≤ kj5) ∧ Aside0 (Kd.R k38 38 wc w.heap.size (fun k_ => some k_ ≠ (v143 : Value).ownBlock) u6 x6_1) ∧ Aside0 (Kd.R k38 38 wc w.heap.size (fun k_ => some k_ ≠ (u6 : Value).ownBlock) v143 t142) ∧ Aside0 (wc.heap[gb148]? = some (.cells #[.int .i64 t145, .int .u64 t146, .string t147] 32 (0, 0))) ∧ Aside0 (Below w.heap.size w wc))
       case first =>
        have H := HC39.out
        clear HC39
        replace H := Option.bind_eq_some_iff.mp H
        obtain ⟨t149, A430, H⟩ := H
        replace H : (if t149 = true then (turnbucklelaw15_RelaPlaces.j2 kj5 a1 x5_1 x6_1 t142 ((t142.length : Int) != (x6_1.length : Int))) else (turnbucklelaw15_RelaPlaces.j2 kj5 a1 x5_1 x6_1 t142 true)) = some r := H
        have A43 := Aside0.mk A430
        clear A430
        by_cases c44 : t149 = true
        ·subst c44
         have H1 : (turnbucklelaw15_RelaPlaces.j2 kj5 a1 x5_1 x6_1 t142 ((t142.length : Int) != (x6_1.length : Int))) = some r := by rw [if_pos rfl] at H; exact H
         clear H
         have H := H1
         clear H1
         have H' := Aside0.mk H
         clear H
         have hcz45_0 : w41.cell? ⟨gb148, 0, none⟩ = some (.int .i64 0) := (blk_cell BK148.out 0).trans rfl
         have hcz45_1 : w41.cell? ⟨gb148, 1, none⟩ = some (.int .u64 0) := (blk_cell BK148.out 1).trans rfl
         have hcz45_2 : w41.cell? ⟨gb148, 2, none⟩ = some (.string (⟨#[]⟩ : ByteArray)) := (blk_cell BK148.out 2).trans rfl
         have hfz45_0 := blk_frozen BK148.out 0
         have hfz45_1 := blk_frozen BK148.out 1
         have hfz45_2 := blk_frozen BK148.out 2
         go_wp2_with (first | ((with_reducible refine gate_callee (f := 13) rfl ?_); refine goesL_ (some 70) rfl rfl Try.func13 (by kernel_rfl) rfl #[.agg #[.int .i64 t145, .int .u64 t146, .string t147]] rfl (by (try simp only [List.map_toArray, List.map_cons, List.map_nil]); first | done | rfl | (simp only [List.length_drop, List.length_take]; rfl)) ?_; (with_reducible refine (fail_Fault_OK.calls t145 t146 t147 true _ A43.out).mono ?_); rintro e w46 ⟨rfl, hb⟩; refine ⟨_, rfl, ?_⟩; have n0_ := Aside0.mk (Kd.R_below (by (with_reducible repeat (first | apply Kd.R_alloc | apply Kd.R_drewN | apply Kd.R_drew)); exact (Kd.R_mono (Kd.R_far (p := ⟨gb148, 2, none⟩) (Kd.R_far (p := ⟨gb148, 1, none⟩) (Kd.R_far (p := ⟨gb148, 0, none⟩) (Kd.R_types HO_6.out BK148.out (by decide)) (fun _ hk => hk.2) (.int .i64 t145)) (fun _ hk => hk.2) (.int .u64 t146)) (fun _ hk => hk.2) (.string t147)) (fun _ h_ => h_.1))) hb); have n1_ := Aside0.mk (Kd.R_below (by (with_reducible repeat (first | apply Kd.R_alloc | apply Kd.R_drewN | apply Kd.R_drew)); exact (Kd.R_mono (Kd.R_far (p := ⟨gb148, 2, none⟩) (Kd.R_far (p := ⟨gb148, 1, none⟩) (Kd.R_far (p := ⟨gb148, 0, none⟩) (Kd.R_types HO144.out BK148.out (by decide)) (fun _ hk => hk.2) (.int .i64 t145)) (fun _ hk => hk.2) (.int .u64 t146)) (fun _ hk => hk.2) (.string t147)) (fun _ h_ => h_.1))) hb); have n2_ := Aside0.mk (blk_below (g := gb148) (o := .cells #[.int .i64 t145, .int .u64 t146, .string t147] 32 (0, 0)) (by (with_reducible repeat (first | refine blk_drewN ?_ _ | refine blk_drew ?_ | refine blk_alloc ?_ _)); refine blk_put (cs := #[.int .i64 t145, .int .u64 t146, .string (⟨#[]⟩ : ByteArray)]) ?_ 2 _ rfl; (with_reducible repeat (first | refine blk_drewN ?_ _ | refine blk_drew ?_ | refine blk_alloc ?_ _)); refine blk_put (cs := #[.int .i64 t145, .int .u64 0, .string (⟨#[]⟩ : ByteArray)]) ?_ 1 _ rfl; (with_reducible repeat (first | refine blk_drewN ?_ _ | refine blk_drew ?_ | refine blk_alloc ?_ _)); refine blk_put (cs := #[.int .i64 0, .int .u64 0, .string (⟨#[]⟩ : ByteArray)]) ?_ 0 _ rfl; (with_reducible repeat (first | refine blk_drewN ?_ _ | refine blk_drew ?_ | refine blk_alloc ?_ _)); exact BK148.out) hb); have n3_ := Aside0.mk (below_step (by repeat (first | (with_reducible first | exact HB.out | apply below_alloc | apply pw_below_drewN | apply below_drew1 | refine below_set ?_ GE148.out) | exact HB.out)) hb); clear HO_6; clear HO144; clear BK148; clear HB; have HO_6 := n0_; have HO144 := n1_; have BK148 := n2_; have HB := n3_; clear n0_ n1_ n2_ n3_; (try clear hb); (try clear hb2); (try clear hk); (try clear hi); obtain ⟨Ao47, co47, eo47⟩ := Kd.R_slice HO144.out; subst eo47; obtain ⟨Ao48, co48, eo48⟩ := Kd.R_slice HO_6.out; subst eo48))
         (try subst hji11)
         (try subst hji13)
         go_meet
         case rel => exact ⟨_, (((t142.length : Int) != (x6_1.length : Int))), (by first | rfl | (simp; done) | (simp [*]; done)), H', ⟨by have := HK1.out; have := HJ5.out; first | omega | exact Nat.le_refl _⟩, ⟨by (with_reducible repeat (first | apply Kd.R_alloc | apply Kd.R_drewN | apply Kd.R_drew)); exact Kd.R_mono HO_6.out (fun _ hk => hk.2)⟩, ⟨by (with_reducible repeat (first | apply Kd.R_alloc | apply Kd.R_drewN | apply Kd.R_drew)); exact Kd.R_mono HO144.out (fun _ hk => hk.2)⟩, ⟨by (with_reducible repeat (first | refine blk_drewN ?_ _ | refine blk_drew ?_ | refine blk_alloc ?_ _)); exact BK148.out⟩, ⟨by repeat (first | (with_reducible first | exact HB.out | apply below_alloc | apply pw_below_drewN | apply below_drew1 | refine below_set ?_ GE148.out) | exact HB.out)⟩⟩
        ·replace c44 := Bool.eq_false_iff.mpr c44
         subst c44
         have H1 : (turnbucklelaw15_RelaPlaces.j2 kj5 a1 x5_1 x6_1 t142 true) = some r := by rw [if_neg (show ¬ (false = true) by decide)] at H; exact H
         clear H
         have H := H1
         clear H1
         have H' := Aside0.mk H
         clear H
         have hcz49_0 : w41.cell? ⟨gb148, 0, none⟩ = some (.int .i64 0) := (blk_cell BK148.out 0).trans rfl
         have hcz49_1 : w41.cell? ⟨gb148, 1, none⟩ = some (.int .u64 0) := (blk_cell BK148.out 1).trans rfl
         have hcz49_2 : w41.cell? ⟨gb148, 2, none⟩ = some (.string (⟨#[]⟩ : ByteArray)) := (blk_cell BK148.out 2).trans rfl
         have hfz49_0 := blk_frozen BK148.out 0
         have hfz49_1 := blk_frozen BK148.out 1
         have hfz49_2 := blk_frozen BK148.out 2
         go_wp2_with (first | ((with_reducible refine gate_callee (f := 13) rfl ?_); refine goesL_ (some 70) rfl rfl Try.func13 (by kernel_rfl) rfl #[.agg #[.int .i64 t145, .int .u64 t146, .string t147]] rfl (by (try simp only [List.map_toArray, List.map_cons, List.map_nil]); first | done | rfl | (simp only [List.length_drop, List.length_take]; rfl)) ?_; (with_reducible refine (fail_Fault_OK.calls t145 t146 t147 false _ A43.out).mono ?_); rintro e w50 ⟨rfl, hb⟩; refine ⟨_, rfl, ?_⟩; have n0_ := Aside0.mk (Kd.R_below (by (with_reducible repeat (first | apply Kd.R_alloc | apply Kd.R_drewN | apply Kd.R_drew)); exact (Kd.R_mono (Kd.R_far (p := ⟨gb148, 2, none⟩) (Kd.R_far (p := ⟨gb148, 1, none⟩) (Kd.R_far (p := ⟨gb148, 0, none⟩) (Kd.R_types HO_6.out BK148.out (by decide)) (fun _ hk => hk.2) (.int .i64 t145)) (fun _ hk => hk.2) (.int .u64 t146)) (fun _ hk => hk.2) (.string t147)) (fun _ h_ => h_.1))) hb); have n1_ := Aside0.mk (Kd.R_below (by (with_reducible repeat (first | apply Kd.R_alloc | apply Kd.R_drewN | apply Kd.R_drew)); exact (Kd.R_mono (Kd.R_far (p := ⟨gb148, 2, none⟩) (Kd.R_far (p := ⟨gb148, 1, none⟩) (Kd.R_far (p := ⟨gb148, 0, none⟩) (Kd.R_types HO144.out BK148.out (by decide)) (fun _ hk => hk.2) (.int .i64 t145)) (fun _ hk => hk.2) (.int .u64 t146)) (fun _ hk => hk.2) (.string t147)) (fun _ h_ => h_.1))) hb); have n2_ := Aside0.mk (blk_below (g := gb148) (o := .cells #[.int .i64 t145, .int .u64 t146, .string t147] 32 (0, 0)) (by (with_reducible repeat (first | refine blk_drewN ?_ _ | refine blk_drew ?_ | refine blk_alloc ?_ _)); refine blk_put (cs := #[.int .i64 t145, .int .u64 t146, .string (⟨#[]⟩ : ByteArray)]) ?_ 2 _ rfl; (with_reducible repeat (first | refine blk_drewN ?_ _ | refine blk_drew ?_ | refine blk_alloc ?_ _)); refine blk_put (cs := #[.int .i64 t145, .int .u64 0, .string (⟨#[]⟩ : ByteArray)]) ?_ 1 _ rfl; (with_reducible repeat (first | refine blk_drewN ?_ _ | refine blk_drew ?_ | refine blk_alloc ?_ _)); refine blk_put (cs := #[.int .i64 0, .int .u64 0, .string (⟨#[]⟩ : ByteArray)]) ?_ 0 _ rfl; (with_reducible repeat (first | refine blk_drewN ?_ _ | refine blk_drew ?_ | refine blk_alloc ?_ _)); exact BK148.out) hb); have n3_ := Aside0.mk (below_step (by repeat (first | (with_reducible first | exact HB.out | apply below_alloc | apply pw_below_drewN | apply below_drew1 | refine below_set ?_ GE148.out) | exact HB.out)) hb); clear HO_6; clear HO144; clear BK148; clear HB; have HO_6 := n0_; have HO144 := n1_; have BK148 := n2_; have HB := n3_; clear n0_ n1_ n2_ n3_; (try clear hb); (try clear hb2); (try clear hk); (try clear hi)))
         (try subst hji11)
         (try subst hji13)
         go_meet
         case rel => exact ⟨_, (true), (by first | rfl | (simp; done) | (simp [*]; done)), H', ⟨by have := HK1.out; have := HJ5.out; first | omega | exact Nat.le_refl _⟩, ⟨by (with_reducible repeat (first | apply Kd.R_alloc | apply Kd.R_drewN | apply Kd.R_drew)); exact Kd.R_mono HO_6.out (fun _ hk => hk.2)⟩, ⟨by (with_reducible repeat (first | apply Kd.R_alloc | apply Kd.R_drewN | apply Kd.R_drew)); exact Kd.R_mono HO144.out (fun _ hk => hk.2)⟩, ⟨by (with_reducible repeat (first | refine blk_drewN ?_ _ | refine blk_drew ?_ | refine blk_alloc ?_ _)); exact BK148.out⟩, ⟨by repeat (first | (with_reducible first | exact HB.out | apply below_alloc | apply pw_below_drewN | apply below_drew1 | refine below_set ?_ GE148.out) | exact HB.out)⟩⟩
       case rest =>
        clear HC39
        try clear c1
        try clear p1
        try clear q1
        try clear hx1
        try clear c2
        try clear p2
        try clear c4
        try clear p6
        try clear c8
        try clear c9
        try clear c10
        try clear c11
        try clear c11b0
        try clear c11b1
        try clear c12
        try clear p12
        try clear q12
        try clear hx12
        try clear c13
        try clear p13
        try clear q13
        try clear hx13
        try clear c14
        try clear c25
        try clear c27
        try clear c27b0
        try clear c27b1
        try clear c27b2
        try clear c44
        try clear hcz21_0
        try clear hcz21_1
        try clear hcz21_2
        try clear hcz21_3
        try clear hcz23_0
        try clear hcz23_1
        try clear hcz23_2
        try clear hcz23_3
        try clear hcz34_0
        try clear hcz34_1
        try clear hcz34_2
        try clear hcz34_3
        try clear hcz36_0
        try clear hcz36_1
        try clear hcz36_2
        try clear hcz36_3
        try clear hcz42_0
        try clear hcz42_1
        try clear hcz42_2
        try clear hcz45_0
        try clear hcz45_1
        try clear hcz45_2
        try clear hcz49_0
        try clear hcz49_1
        try clear hcz49_2
        try clear hfz21_0
        try clear hfz21_1
        try clear hfz21_2
        try clear hfz21_3
        try clear hfz23_0
        try clear hfz23_1
        try clear hfz23_2
        try clear hfz23_3
        try clear hfz34_0
        try clear hfz34_1
        try clear hfz34_2
        try clear hfz34_3
        try clear hfz36_0
        try clear hfz36_1
        try clear hfz36_2
        try clear hfz36_3
        try clear hfz42_0
        try clear hfz42_1
        try clear hfz42_2
        try clear hfz45_0
        try clear hfz45_1
        try clear hfz45_2
        try clear hfz49_0
        try clear hfz49_1
        try clear hfz49_2
        try clear hx129_0
        try clear hx129_1
        try clear hx129_2
        try clear hx129_3
        try clear hx130_0
        try clear hx130_1
        try clear hx130_2
        try clear hx130_3
        try clear hx131_0
        try clear hx131_1
        try clear hx131_2
        try clear hx131_3
        try clear hx132_0
        try clear hx132_1
        try clear hx132_2
        try clear hx132_3
        try clear p129
        try clear p130
        try clear p131
        try clear p132
        try clear q129
        try clear q130
        try clear q131
        try clear q132
        obtain ⟨kq, x78_38, rfl, HA, HJ38, HO_6, HO_9, BK148, HB⟩ := hcut
        cases kq with
        | zero => exact absurd HA.out (by simp [turnbucklelaw15_RelaPlaces.j2])
        | succ kj38 =>
         have H := HA.out
         clear HA
         simp only [turnbucklelaw15_RelaPlaces.j2] at H
         by_cases c51 : x78_38 = true
         ·subst c51
          have H1 : (some false) = some r := by rw [if_pos rfl] at H; exact H
          clear H
          have H := H1
          clear H1
          obtain rfl := Option.some.inj H
          go_wp2
          go_ret
          exact ⟨by first | rfl | (simp [errW_none, errW_some] <;> rfl) | (simp [*, errW_none, errW_some] <;> rfl), by repeat (first | (with_reducible first | exact HB.out | apply below_alloc | apply pw_below_drewN | apply below_drew1 | refine below_set ?_ GE148.out) | exact HB.out)⟩
         ·replace c51 := Bool.eq_false_iff.mpr c51
          subst c51
          have H1 : (turnbucklelaw15_RelaPlaces.l1 kj38 a1 x5_1 x6_1 t142 0) = some r := by rw [if_neg (show ¬ (false = true) by decide)] at H; exact H
          clear H
          have H := H1
          clear H1
          have H' := Aside0.mk H
          clear H
          go_wp2
          go_loopg [11] kj38 (fun kq v11 w' => ∃ (x11_4 : Int), v11 = .int .i64 x11_4 ∧ Aside0 (turnbucklelaw15_RelaPlaces.l1 kq a1 x5_1 x6_1 t142 x11_4 = some r) ∧ Aside0 (kq ≤ kj38) ∧ Aside0 (Kd.R k38 38 w' w.heap.size (fun k_ => some k_ ≠ (v143 : Value).ownBlock) u6 x6_1) ∧ Aside0 (Kd.R k38 38 w' w.heap.size (fun k_ => some k_ ≠ (u6 : Value).ownBlock) v143 t142) ∧ Aside0 (w'.heap[gb148]? = some (.cells #[.int .i64 t145, .int .u64 t146, .string t147] 32 (0, 0))) ∧ Aside0 (Below w.heap.size w w'))
          case atStart => exact ⟨(0), (by first | rfl | (simp; done) | (simp [*]; done)), H', ⟨Nat.le_refl _⟩, ⟨by (with_reducible repeat (first | apply Kd.R_alloc | apply Kd.R_drewN | apply Kd.R_drew)); exact HO_6.out⟩, ⟨by (with_reducible repeat (first | apply Kd.R_alloc | apply Kd.R_drewN | apply Kd.R_drew)); exact HO_9.out⟩, ⟨by (with_reducible repeat (first | refine blk_drewN ?_ _ | refine blk_drew ?_ | refine blk_alloc ?_ _)); exact BK148.out⟩, ⟨by repeat (first | (with_reducible first | exact HB.out | apply below_alloc | apply pw_below_drewN | apply below_drew1 | refine below_set ?_ GE148.out) | exact HB.out)⟩⟩
          case round =>
           clear H'
           try clear c1
           try clear p1
           try clear q1
           try clear hx1
           try clear c2
           try clear p2
           try clear c4
           try clear c5
           try clear p6
           try clear c8
           try clear c9
           try clear c10
           try clear c11
           try clear c11b0
           try clear c11b1
           try clear c12
           try clear p12
           try clear q12
           try clear hx12
           try clear c13
           try clear p13
           try clear q13
           try clear hx13
           try clear c14
           try clear c25
           try clear c27
           try clear c27b0
           try clear c27b1
           try clear c27b2
           try clear c44
           try clear c51
           try clear hcz21_0
           try clear hcz21_1
           try clear hcz21_2
           try clear hcz21_3
           try clear hcz23_0
           try clear hcz23_1
           try clear hcz23_2
           try clear hcz23_3
           try clear hcz34_0
           try clear hcz34_1
           try clear hcz34_2
           try clear hcz34_3
           try clear hcz36_0
           try clear hcz36_1
           try clear hcz36_2
           try clear hcz36_3
           try clear hcz42_0
           try clear hcz42_1
           try clear hcz42_2
           try clear hcz45_0
           try clear hcz45_1
           try clear hcz45_2
           try clear hcz49_0
           try clear hcz49_1
           try clear hcz49_2
           try clear hfz21_0
           try clear hfz21_1
           try clear hfz21_2
           try clear hfz21_3
           try clear hfz23_0
           try clear hfz23_1
           try clear hfz23_2
           try clear hfz23_3
           try clear hfz34_0
           try clear hfz34_1
           try clear hfz34_2
           try clear hfz34_3
           try clear hfz36_0
           try clear hfz36_1
           try clear hfz36_2
           try clear hfz36_3
           try clear hfz42_0
           try clear hfz42_1
           try clear hfz42_2
           try clear hfz45_0
           try clear hfz45_1
           try clear hfz45_2
           try clear hfz49_0
           try clear hfz49_1
           try clear hfz49_2
           try clear hx129_0
           try clear hx129_1
           try clear hx129_2
           try clear hx129_3
           try clear hx130_0
           try clear hx130_1
           try clear hx130_2
           try clear hx130_3
           try clear hx131_0
           try clear hx131_1
           try clear hx131_2
           try clear hx131_3
           try clear hx132_0
           try clear hx132_1
           try clear hx132_2
           try clear hx132_3
           try clear p1
           try clear p12
           try clear p129
           try clear p13
           try clear p130
           try clear p131
           try clear p132
           try clear p2
           try clear p6
           try clear q1
           try clear q12
           try clear q129
           try clear q13
           try clear q130
           try clear q131
           try clear q132
           obtain ⟨x11_4, rfl, HA, HK4, HO_6, HO_9, BK148, HB⟩ := hrel
           cases gk with
           | zero => exact absurd HA.out (by simp [turnbucklelaw15_RelaPlaces.l1])
           | succ k4 =>
            have H := HA.out
            clear HA
            simp only [turnbucklelaw15_RelaPlaces.l1] at H
            by_cases c52 : x11_4 < (x6_1.length : Int)
            ·rw [if_pos c52] at H
             have c52b0 : decide (x11_4 < (x6_1.length : Int)) = true := decide_eq_true c52
             clear c52
             by_cases c53 : 0 ≤ x11_4
             ·rw [if_pos c53] at H
              have c53b0 : decide (0 ≤ x11_4) = true := decide_eq_true c53
              clear c53
              by_cases c54 : x11_4 < (t142.length : Int)
              ·rw [if_pos c54] at H
               have c54b0 : decide (x11_4 < (t142.length : Int)) = true := decide_eq_true c54
               clear c54
               by_cases c55 : (!(((rd_T38 t142 x11_4).f0) == ((rd_T38 x6_1 x11_4).f0)) || (!(((rd_T38 t142 x11_4).f1) == ((rd_T38 x6_1 x11_4).f1)) || (!(((rd_T38 t142 x11_4).f2) == ((rd_T38 x6_1 x11_4).f2)) || (!(((rd_T38 t142 x11_4).f3) == ((rd_T38 x6_1 x11_4).f3)))))) = true
               ·rw [if_pos c55] at H
                have c55b0 : (!(((rd_T38 t142 x11_4).f0) == ((rd_T38 x6_1 x11_4).f0)) || (!(((rd_T38 t142 x11_4).f1) == ((rd_T38 x6_1 x11_4).f1)) || (!(((rd_T38 t142 x11_4).f2) == ((rd_T38 x6_1 x11_4).f2)) || (!(((rd_T38 t142 x11_4).f3) == ((rd_T38 x6_1 x11_4).f3)))))) = true := c55
                clear c55
                obtain rfl := Option.some.inj H
                obtain ⟨Ao56, co56, eo56⟩ := Kd.R_slice HO_6.out
                subst eo56
                try go_wp2
                have n0_ := Aside0.mk (Kd.R_drew HO_6.out)
                have n1_ := Aside0.mk (Kd.R_drew HO_9.out)
                have n2_ := Aside0.mk (blk_drew BK148.out)
                have n3_ := Aside0.mk (below_drew1 HB.out)
                clear HO_6
                clear HO_9
                clear BK148
                clear HB
                have HO_6 := n0_
                have HO_9 := n1_
                have BK148 := n2_
                have HB := n3_
                clear n0_ n1_ n2_ n3_
                obtain ⟨Ao58, co58, eo58⟩ := Kd.R_slice HO_9.out
                (first | subst eo58 | (injection eo58 with f1_ f2_ f3_; have f4_ := f1_.symm; have f5_ := f3_.symm; clear f1_ f2_ f3_; subst f4_; subst f5_))
                have p150 : 0 ≤ (x11_4 : Int) := of_decide_eq_true (by first | (with_reducible assumption) | assumption)
                have q150 : x11_4 < (t142.length : Int) := of_decide_eq_true (by first | (with_reducible assumption) | assumption)
                obtain ⟨ad150, e150, hx150_0, hx150_1, hx150_2, hx150_3⟩ := at_T38 (Kd.R_reads' HO_9.out).2.2 x11_4 p150 q150
                cases e150
                replace p150 := eq_true p150
                replace q150 := eq_true q150
                have p151 : 0 ≤ (x11_4 : Int) := of_decide_eq_true (by first | (with_reducible assumption) | assumption)
                have q151 : x11_4 < (x6_1.length : Int) := of_decide_eq_true (by first | (with_reducible assumption) | assumption)
                obtain ⟨ad151, e151, hx151_0, hx151_1, hx151_2, hx151_3⟩ := at_T38 (Kd.R_reads' HO_6.out).2.2 x11_4 p151 q151
                cases e151
                replace p151 := eq_true p151
                replace q151 := eq_true q151
                refine start_ (n := 9) (S := fun w' => w'.cell? (ad150.add ((x11_4).toNat * 4)) = some (.int .u64 ((rd_T38 t142 x11_4).f0)) ∧ w'.cell? ⟨(ad150.add ((x11_4).toNat * 4)).block, (ad150.add ((x11_4).toNat * 4)).off + 1, none⟩ = some (.int .i64 ((rd_T38 t142 x11_4).f1)) ∧ w'.cell? ⟨(ad150.add ((x11_4).toNat * 4)).block, (ad150.add ((x11_4).toNat * 4)).off + 2, none⟩ = some (.int .i64 ((rd_T38 t142 x11_4).f2)) ∧ w'.cell? ⟨(ad150.add ((x11_4).toNat * 4)).block, (ad150.add ((x11_4).toNat * 4)).off + 3, none⟩ = some (.int .u64 ((rd_T38 t142 x11_4).f3)) ∧ w'.cell? (ad151.add ((x11_4).toNat * 4)) = some (.int .u64 ((rd_T38 x6_1 x11_4).f0)) ∧ w'.cell? ⟨(ad151.add ((x11_4).toNat * 4)).block, (ad151.add ((x11_4).toNat * 4)).off + 1, none⟩ = some (.int .i64 ((rd_T38 x6_1 x11_4).f1)) ∧ w'.cell? ⟨(ad151.add ((x11_4).toNat * 4)).block, (ad151.add ((x11_4).toNat * 4)).off + 2, none⟩ = some (.int .i64 ((rd_T38 x6_1 x11_4).f2)) ∧ w'.cell? ⟨(ad151.add ((x11_4).toNat * 4)).block, (ad151.add ((x11_4).toNat * 4)).off + 3, none⟩ = some (.int .u64 ((rd_T38 x6_1 x11_4).f3))) (ds := []) #[false,false,false,false,false,false,false,false,false] (by kernel_rfl) rfl rfl ⟨hx150_0, hx150_1, hx150_2, hx150_3, hx151_0, hx151_1, hx151_2, hx151_3⟩ (fun hHeld => ?_); refine with_tabW turnbucklelaw15_RelaPlaces.tab19 turnbucklelaw15_RelaPlaces.bits19 (fun HT_ HW_ => ?_)
                generalize wr.drew = w57 at HO_6 HO_9 BK148 HB hx150_0 hx150_1 hx150_2 hx150_3 hx151_0 hx151_1 hx151_2 hx151_3 hHeld ⊢
                refine pure_ (i:=0) (N := some 85) (v:=?_) (a':=?_) #[true,false,false,false,false,false,false,false,false] rfl rfl (any_of HT_.out (by kernel_rfl)) (fun _ _ _ h=>h) (Or.inl ⟨by rfl, ?_⟩) ?_ ?_
                rotate_left
                ·intro w'
                 go_simp
                 with_reducible rfl
                rotate_left
                ·simp only [Act.put,lz1,lz2,lz3,i64_w,i32_w]
                 rfl
                refine pure_ (i:=1) (N := some 86) (v:=?_) (a':=?_) #[true,true,false,false,false,false,false,false,false] rfl rfl (any_of HT_.out (by kernel_rfl)) (fun _ _ _ h=>h) (Or.inl ⟨by rfl, ?_⟩) ?_ ?_
                rotate_left
                ·intro w'
                 go_simp
                 with_reducible rfl
                rotate_left
                ·simp only [Act.put,lz1,lz2,lz3,i64_w,i32_w]
                 rfl
                refine pure_ (i:=2) (N := some 87) (v:=?_) (a':=?_) #[true,true,true,false,false,false,false,false,false] rfl rfl (any_of HT_.out (by kernel_rfl)) (fun _ _ _ h=>h) (Or.inl ⟨by rfl, ?_⟩) ?_ ?_
                rotate_left
                ·intro w'
                 go_simp
                 with_reducible rfl
                rotate_left
                ·simp only [Act.put,lz1,lz2,lz3,i64_w,i32_w]
                 rfl
                refine pure_ (i:=4) (N := some 89) (v:=?_) (a':=?_) #[true,true,true,false,true,false,false,false,false] rfl rfl (any_of HT_.out (by kernel_rfl)) (fun _ _ _ h=>h) (Or.inl ⟨by rfl, ?_⟩) ?_ ?_
                rotate_left
                ·intro w'
                 go_simp
                 with_reducible rfl
                rotate_left
                ·simp only [Act.put,lz1,lz2,lz3,i64_w,i32_w]
                 rfl
                refine pure_ (i:=5) (N := some 90) (v:=?_) (a':=?_) #[true,true,true,false,true,true,false,false,false] rfl rfl (any_of HT_.out (by kernel_rfl)) (fun _ _ _ h=>h) (Or.inl ⟨by rfl, ?_⟩) ?_ ?_
                rotate_left
                ·intro w'
                 go_simp
                 with_reducible rfl
                rotate_left
                ·simp only [Act.put,lz1,lz2,lz3,i64_w,i32_w]
                 rfl
                refine pure_ (i:=6) (N := some 91) (v:=?_) (a':=?_) #[true,true,true,false,true,true,true,false,false] rfl rfl (any_of HT_.out (by kernel_rfl)) (fun _ _ _ h=>h) (Or.inl ⟨by rfl, ?_⟩) ?_ ?_
                rotate_left
                ·intro w'
                 go_simp
                 with_reducible rfl
                rotate_left
                ·simp only [Act.put,lz1,lz2,lz3,i64_w,i32_w]
                 rfl
                refine take_ (i := 3) (N := some 88) (v:=?_) (a':=?_) #[true,true,true,true,true,true,true,false,false] rfl rfl (take_ofW HT_.out HW_.out (by kernel_rfl)) (fun _ _ _ h=>h) (Or.inl ⟨by rfl, ?_⟩) hHeld ?_ ?_
                rotate_left
                ·rintro w' ⟨s0, s1, s2, s3, s4, s5, s6, s7⟩
                 go_simp
                 with_reducible rfl
                rotate_left
                ·simp only [Act.put,lz1,lz2,lz3,i64_w,i32_w]
                 rfl
                refine take_ (i := 7) (N := some 92) (v:=?_) (a':=?_) #[true,true,true,true,true,true,true,true,false] rfl rfl (take_ofW HT_.out HW_.out (by kernel_rfl)) (fun _ _ _ h=>h) (Or.inl ⟨by rfl, ?_⟩) hHeld ?_ ?_
                rotate_left
                ·rintro w' ⟨s0, s1, s2, s3, s4, s5, s6, s7⟩
                 go_simp
                 with_reducible rfl
                rotate_left
                ·simp only [Act.put,lz1,lz2,lz3,i64_w,i32_w]
                 rfl
                refine pure_ (i:=8) (N := some 93) (v:=?_) (a':=?_) #[true,true,true,true,true,true,true,true,true] rfl rfl (any_of HT_.out (by kernel_rfl)) (fun _ _ _ h=>h) (Or.inl ⟨by rfl, ?_⟩) ?_ ?_
                rotate_left
                ·intro w'
                 go_simp
                 first | with_reducible rfl | (refine Eq.trans (b := .ok (.value (.bool true)) w') ?_ (by with_reducible rfl); (repeat' (first | with_reducible rfl | split)); all_goals (first | rfl | (exfalso; simp_all; done))) | (refine Eq.trans (b := .ok (.value (.bool false)) w') ?_ (by with_reducible rfl); (repeat' (first | with_reducible rfl | split)); all_goals (first | rfl | (exfalso; simp_all; done)))
                rotate_left
                ·simp only [Act.put,lz1,lz2,lz3,i64_w,i32_w]
                 rfl
                refine done_ (done_of HT_.out (by kernel_rfl)) ?_
                try go_wp2
                go_ret
                exact ⟨by first | rfl | (simp [errW_none, errW_some] <;> rfl) | (simp [*, errW_none, errW_some] <;> rfl), by repeat (first | (with_reducible first | exact HB.out | apply below_alloc | apply pw_below_drewN | apply below_drew1 | refine below_set ?_ GE148.out) | exact HB.out)⟩
               ·rw [if_neg c55] at H
                have c55b0 : (!(((rd_T38 t142 x11_4).f0) == ((rd_T38 x6_1 x11_4).f0)) || (!(((rd_T38 t142 x11_4).f1) == ((rd_T38 x6_1 x11_4).f1)) || (!(((rd_T38 t142 x11_4).f2) == ((rd_T38 x6_1 x11_4).f2)) || (!(((rd_T38 t142 x11_4).f3) == ((rd_T38 x6_1 x11_4).f3)))))) = false := by simpa using c55
                clear c55
                have H' := Aside0.mk H
                clear H
                obtain ⟨Ao59, co59, eo59⟩ := Kd.R_slice HO_6.out
                subst eo59
                try go_wp2
                have n0_ := Aside0.mk (Kd.R_drew HO_6.out)
                have n1_ := Aside0.mk (Kd.R_drew HO_9.out)
                have n2_ := Aside0.mk (blk_drew BK148.out)
                have n3_ := Aside0.mk (below_drew1 HB.out)
                clear HO_6
                clear HO_9
                clear BK148
                clear HB
                have HO_6 := n0_
                have HO_9 := n1_
                have BK148 := n2_
                have HB := n3_
                clear n0_ n1_ n2_ n3_
                obtain ⟨Ao61, co61, eo61⟩ := Kd.R_slice HO_9.out
                (first | subst eo61 | (injection eo61 with f1_ f2_ f3_; have f4_ := f1_.symm; have f5_ := f3_.symm; clear f1_ f2_ f3_; subst f4_; subst f5_))
                have p150 : 0 ≤ (x11_4 : Int) := of_decide_eq_true (by first | (with_reducible assumption) | assumption)
                have q150 : x11_4 < (t142.length : Int) := of_decide_eq_true (by first | (with_reducible assumption) | assumption)
                obtain ⟨ad150, e150, hx150_0, hx150_1, hx150_2, hx150_3⟩ := at_T38 (Kd.R_reads' HO_9.out).2.2 x11_4 p150 q150
                cases e150
                replace p150 := eq_true p150
                replace q150 := eq_true q150
                have p151 : 0 ≤ (x11_4 : Int) := of_decide_eq_true (by first | (with_reducible assumption) | assumption)
                have q151 : x11_4 < (x6_1.length : Int) := of_decide_eq_true (by first | (with_reducible assumption) | assumption)
                obtain ⟨ad151, e151, hx151_0, hx151_1, hx151_2, hx151_3⟩ := at_T38 (Kd.R_reads' HO_6.out).2.2 x11_4 p151 q151
                cases e151
                replace p151 := eq_true p151
                replace q151 := eq_true q151
                refine start_ (n := 9) (S := fun w' => w'.cell? (ad150.add ((x11_4).toNat * 4)) = some (.int .u64 ((rd_T38 t142 x11_4).f0)) ∧ w'.cell? ⟨(ad150.add ((x11_4).toNat * 4)).block, (ad150.add ((x11_4).toNat * 4)).off + 1, none⟩ = some (.int .i64 ((rd_T38 t142 x11_4).f1)) ∧ w'.cell? ⟨(ad150.add ((x11_4).toNat * 4)).block, (ad150.add ((x11_4).toNat * 4)).off + 2, none⟩ = some (.int .i64 ((rd_T38 t142 x11_4).f2)) ∧ w'.cell? ⟨(ad150.add ((x11_4).toNat * 4)).block, (ad150.add ((x11_4).toNat * 4)).off + 3, none⟩ = some (.int .u64 ((rd_T38 t142 x11_4).f3)) ∧ w'.cell? (ad151.add ((x11_4).toNat * 4)) = some (.int .u64 ((rd_T38 x6_1 x11_4).f0)) ∧ w'.cell? ⟨(ad151.add ((x11_4).toNat * 4)).block, (ad151.add ((x11_4).toNat * 4)).off + 1, none⟩ = some (.int .i64 ((rd_T38 x6_1 x11_4).f1)) ∧ w'.cell? ⟨(ad151.add ((x11_4).toNat * 4)).block, (ad151.add ((x11_4).toNat * 4)).off + 2, none⟩ = some (.int .i64 ((rd_T38 x6_1 x11_4).f2)) ∧ w'.cell? ⟨(ad151.add ((x11_4).toNat * 4)).block, (ad151.add ((x11_4).toNat * 4)).off + 3, none⟩ = some (.int .u64 ((rd_T38 x6_1 x11_4).f3))) (ds := []) #[false,false,false,false,false,false,false,false,false] (by kernel_rfl) rfl rfl ⟨hx150_0, hx150_1, hx150_2, hx150_3, hx151_0, hx151_1, hx151_2, hx151_3⟩ (fun hHeld => ?_); refine with_tabW turnbucklelaw15_RelaPlaces.tab19 turnbucklelaw15_RelaPlaces.bits19 (fun HT_ HW_ => ?_)
                generalize wr.drew = w60 at HO_6 HO_9 BK148 HB hx150_0 hx150_1 hx150_2 hx150_3 hx151_0 hx151_1 hx151_2 hx151_3 hHeld ⊢
                refine pure_ (i:=0) (N := some 85) (v:=?_) (a':=?_) #[true,false,false,false,false,false,false,false,false] rfl rfl (any_of HT_.out (by kernel_rfl)) (fun _ _ _ h=>h) (Or.inl ⟨by rfl, ?_⟩) ?_ ?_
                rotate_left
                ·intro w'
                 go_simp
                 with_reducible rfl
                rotate_left
                ·simp only [Act.put,lz1,lz2,lz3,i64_w,i32_w]
                 rfl
                refine pure_ (i:=1) (N := some 86) (v:=?_) (a':=?_) #[true,true,false,false,false,false,false,false,false] rfl rfl (any_of HT_.out (by kernel_rfl)) (fun _ _ _ h=>h) (Or.inl ⟨by rfl, ?_⟩) ?_ ?_
                rotate_left
                ·intro w'
                 go_simp
                 with_reducible rfl
                rotate_left
                ·simp only [Act.put,lz1,lz2,lz3,i64_w,i32_w]
                 rfl
                refine pure_ (i:=2) (N := some 87) (v:=?_) (a':=?_) #[true,true,true,false,false,false,false,false,false] rfl rfl (any_of HT_.out (by kernel_rfl)) (fun _ _ _ h=>h) (Or.inl ⟨by rfl, ?_⟩) ?_ ?_
                rotate_left
                ·intro w'
                 go_simp
                 with_reducible rfl
                rotate_left
                ·simp only [Act.put,lz1,lz2,lz3,i64_w,i32_w]
                 rfl
                refine pure_ (i:=4) (N := some 89) (v:=?_) (a':=?_) #[true,true,true,false,true,false,false,false,false] rfl rfl (any_of HT_.out (by kernel_rfl)) (fun _ _ _ h=>h) (Or.inl ⟨by rfl, ?_⟩) ?_ ?_
                rotate_left
                ·intro w'
                 go_simp
                 with_reducible rfl
                rotate_left
                ·simp only [Act.put,lz1,lz2,lz3,i64_w,i32_w]
                 rfl
                refine pure_ (i:=5) (N := some 90) (v:=?_) (a':=?_) #[true,true,true,false,true,true,false,false,false] rfl rfl (any_of HT_.out (by kernel_rfl)) (fun _ _ _ h=>h) (Or.inl ⟨by rfl, ?_⟩) ?_ ?_
                rotate_left
                ·intro w'
                 go_simp
                 with_reducible rfl
                rotate_left
                ·simp only [Act.put,lz1,lz2,lz3,i64_w,i32_w]
                 rfl
                refine pure_ (i:=6) (N := some 91) (v:=?_) (a':=?_) #[true,true,true,false,true,true,true,false,false] rfl rfl (any_of HT_.out (by kernel_rfl)) (fun _ _ _ h=>h) (Or.inl ⟨by rfl, ?_⟩) ?_ ?_
                rotate_left
                ·intro w'
                 go_simp
                 with_reducible rfl
                rotate_left
                ·simp only [Act.put,lz1,lz2,lz3,i64_w,i32_w]
                 rfl
                refine take_ (i := 3) (N := some 88) (v:=?_) (a':=?_) #[true,true,true,true,true,true,true,false,false] rfl rfl (take_ofW HT_.out HW_.out (by kernel_rfl)) (fun _ _ _ h=>h) (Or.inl ⟨by rfl, ?_⟩) hHeld ?_ ?_
                rotate_left
                ·rintro w' ⟨s0, s1, s2, s3, s4, s5, s6, s7⟩
                 go_simp
                 with_reducible rfl
                rotate_left
                ·simp only [Act.put,lz1,lz2,lz3,i64_w,i32_w]
                 rfl
                refine take_ (i := 7) (N := some 92) (v:=?_) (a':=?_) #[true,true,true,true,true,true,true,true,false] rfl rfl (take_ofW HT_.out HW_.out (by kernel_rfl)) (fun _ _ _ h=>h) (Or.inl ⟨by rfl, ?_⟩) hHeld ?_ ?_
                rotate_left
                ·rintro w' ⟨s0, s1, s2, s3, s4, s5, s6, s7⟩
                 go_simp
                 with_reducible rfl
                rotate_left
                ·simp only [Act.put,lz1,lz2,lz3,i64_w,i32_w]
                 rfl
                refine pure_ (i:=8) (N := some 93) (v:=?_) (a':=?_) #[true,true,true,true,true,true,true,true,true] rfl rfl (any_of HT_.out (by kernel_rfl)) (fun _ _ _ h=>h) (Or.inl ⟨by rfl, ?_⟩) ?_ ?_
                rotate_left
                ·intro w'
                 go_simp
                 first | with_reducible rfl | (refine Eq.trans (b := .ok (.value (.bool true)) w') ?_ (by with_reducible rfl); (repeat' (first | with_reducible rfl | split)); all_goals (first | rfl | (exfalso; simp_all; done))) | (refine Eq.trans (b := .ok (.value (.bool false)) w') ?_ (by with_reducible rfl); (repeat' (first | with_reducible rfl | split)); all_goals (first | rfl | (exfalso; simp_all; done)))
                rotate_left
                ·simp only [Act.put,lz1,lz2,lz3,i64_w,i32_w]
                 rfl
                refine done_ (done_of HT_.out (by kernel_rfl)) ?_
                try go_wp2
                go_roundg k4
                case measure => have := HK1.out; have := HJ5.out; have := HJ38.out; have := HK4.out; omega
                case rel => exact ⟨(wrap64 (x11_4 + 1)), (by first | rfl | (simp; done) | (simp [*]; done)), H', ⟨by have := HK1.out; have := HJ5.out; have := HJ38.out; have := HK4.out; omega⟩, ⟨by (with_reducible repeat (first | apply Kd.R_alloc | apply Kd.R_drewN | apply Kd.R_drew)); exact HO_6.out⟩, ⟨by (with_reducible repeat (first | apply Kd.R_alloc | apply Kd.R_drewN | apply Kd.R_drew)); exact HO_9.out⟩, ⟨by (with_reducible repeat (first | refine blk_drewN ?_ _ | refine blk_drew ?_ | refine blk_alloc ?_ _)); exact BK148.out⟩, ⟨by repeat (first | (with_reducible first | exact HB.out | apply below_alloc | apply pw_below_drewN | apply below_drew1 | refine below_set ?_ GE148.out) | exact HB.out)⟩⟩
              ·rw [if_neg c54] at H
               exact absurd H (by simp)
             ·rw [if_neg c53] at H
              exact absurd H (by simp)
            ·rw [if_neg c52] at H
             have c52b0 : decide (x11_4 < (x6_1.length : Int)) = false := decide_eq_false c52
             clear c52
             by_cases c62 : (x6_1.length : Int) = 0
             ·rw [if_pos c62] at H
              have c62b0 : ((x6_1.length : Int) == 0) = true := beq_iff_eq.mpr c62
              have c62b1 : ((x6_1.length : Int) != 0) = false := bne_eq_false_iff_eq.mpr c62
              clear c62
              obtain rfl := Option.some.inj H
              obtain ⟨Ao63, co63, eo63⟩ := Kd.R_slice HO_6.out
              subst eo63
              go_wp2
              go_ret
              exact ⟨by first | rfl | (simp [errW_none, errW_some] <;> rfl) | (simp [*, errW_none, errW_some] <;> rfl), by repeat (first | (with_reducible first | exact HB.out | apply below_alloc | apply pw_below_drewN | apply below_drew1 | refine below_set ?_ GE148.out) | exact HB.out)⟩
             ·rw [if_neg c62] at H
              have c62b0 : ((x6_1.length : Int) == 0) = false := beq_eq_false_iff_ne.mpr c62
              have c62b1 : ((x6_1.length : Int) != 0) = true := bne_iff_ne.mpr c62
              have c62b2 : ¬ (x6_1 = []) := fun h_ => c62 (by rw [h_]; rfl)
              obtain ⟨ji64, hji64⟩ : ∃ j_ : Int, (wrap64 (24 * (Int.tmod (wrap64 ((Int.tmod a1 (x6_1.length : Int)) + (x6_1.length : Int))) (x6_1.length : Int)))) = j_ := ⟨_, rfl⟩
              replace H : (if 0 ≤ (ji64) then (if (ji64) ≤ (x5_1.size : Int) then ((rela_Put.f k4 8 7 0 0).bind fun t152 => (if (x5_1.extract 0 ((ji64) : Int).toNat).size + t152.size ≤ 9223372036854775807 then (if 0 ≤ (wrap64 ((ji64) + 24)) then (if (wrap64 ((ji64) + 24)) ≤ (x5_1.size : Int) then (if ((x5_1.extract 0 ((ji64) : Int).toNat) ++ t152).size + (x5_1.extract ((wrap64 ((ji64) + 24)) : Int).toNat x5_1.size).size ≤ 9223372036854775807 then ((rela_Read.f k4 (((x5_1.extract 0 ((ji64) : Int).toNat) ++ t152) ++ (x5_1.extract ((wrap64 ((ji64) + 24)) : Int).toNat x5_1.size)) 8).bind fun bt153 => (if bt153.2.1 = 22 then (some (bt153.2.2.1 == (IntKind.u64.wrap (ji64)))) else (some false))) else (none)) else (none)) else (none)) else (none))) else (none)) else (none)) = some r := by first | (rw [hji64] at H; exact H) | (simp only [hji64] at H ⊢; exact H)
              have hji64w : (IntKind.i64.wrap (24 * (Int.tmod (wrap64 ((Int.tmod a1 (x6_1.length : Int)) + (x6_1.length : Int))) (x6_1.length : Int)))) = ji64 := (i64_w _).trans hji64
              by_cases c65 : 0 ≤ (ji64)
              ·rw [if_pos c65] at H
               have c65b0 := eq_true c65
               have c65b1 : decide (0 ≤ (ji64)) = true := decide_eq_true c65
               clear c65
               by_cases c66 : (ji64) ≤ (x5_1.size : Int)
               ·rw [if_pos c66] at H
                have c66b0 := eq_true c66
                have c66b1 : decide ((ji64) ≤ (x5_1.size : Int)) = true := decide_eq_true c66
                clear c66
                replace H := Option.bind_eq_some_iff.mp H
                obtain ⟨t152, A670, H⟩ := H
                replace H : (if (x5_1.extract 0 ((ji64) : Int).toNat).size + t152.size ≤ 9223372036854775807 then (if 0 ≤ (wrap64 ((ji64) + 24)) then (if (wrap64 ((ji64) + 24)) ≤ (x5_1.size : Int) then (if ((x5_1.extract 0 ((ji64) : Int).toNat) ++ t152).size + (x5_1.extract ((wrap64 ((ji64) + 24)) : Int).toNat x5_1.size).size ≤ 9223372036854775807 then ((rela_Read.f k4 (((x5_1.extract 0 ((ji64) : Int).toNat) ++ t152) ++ (x5_1.extract ((wrap64 ((ji64) + 24)) : Int).toNat x5_1.size)) 8).bind fun bt153 => (if bt153.2.1 = 22 then (some (bt153.2.2.1 == (IntKind.u64.wrap (ji64)))) else (some false))) else (none)) else (none)) else (none)) else (none)) = some r := H
                have A67 := Aside0.mk A670
                clear A670
                by_cases c68 : (x5_1.extract 0 ((ji64) : Int).toNat).size + t152.size ≤ 9223372036854775807
                ·rw [if_pos c68] at H
                 have c68b0 := eq_true c68
                 have c68b1 : decide ((x5_1.extract 0 ((ji64) : Int).toNat).size + t152.size ≤ 9223372036854775807) = true := decide_eq_true c68
                 try have c68b2 : (9223372036854775807 < (x5_1.extract 0 ((ji64) : Int).toNat).size + t152.size) = False := eq_false (Nat.not_lt.2 c68)
                 (try (have c68b5 := c68b2; simp only [ByteArray.size_append, ByteArray.size_extract, Nat.sub_zero] at c68b5))
                 (try (have c68b6 := c68b0; simp only [ByteArray.size_append, ByteArray.size_extract, Nat.sub_zero] at c68b6))
                 (try (have c68b7 := c68b2; simp (discharger := (simp only [Int.toNat_le, *])) only [ByteArray.size_append, ByteArray.size_extract, Nat.sub_zero, Nat.min_self, Nat.min_eq_left] at c68b7))
                 (try (have c68b8 := c68b0; simp (discharger := (simp only [Int.toNat_le, *])) only [ByteArray.size_append, ByteArray.size_extract, Nat.sub_zero, Nat.min_self, Nat.min_eq_left] at c68b8))
                 obtain ⟨ji69, hji69⟩ : ∃ j_ : Int, (wrap64 ((ji64) + 24)) = j_ := ⟨_, rfl⟩
                 replace H : (if 0 ≤ (ji69) then (if (ji69) ≤ (x5_1.size : Int) then (if ((x5_1.extract 0 ((ji64) : Int).toNat) ++ t152).size + (x5_1.extract ((ji69) : Int).toNat x5_1.size).size ≤ 9223372036854775807 then ((rela_Read.f k4 (((x5_1.extract 0 ((ji64) : Int).toNat) ++ t152) ++ (x5_1.extract ((ji69) : Int).toNat x5_1.size)) 8).bind fun bt153 => (if bt153.2.1 = 22 then (some (bt153.2.2.1 == (IntKind.u64.wrap (ji64)))) else (some false))) else (none)) else (none)) else (none)) = some r := by first | (rw [hji69] at H; exact H) | (simp only [hji69] at H ⊢; exact H)
                 (try rw [hji69] at A67)
                 have hji69w : (IntKind.i64.wrap ((ji64) + 24)) = ji69 := (i64_w _).trans hji69
                 by_cases c70 : 0 ≤ (ji69)
                 ·rw [if_pos c70] at H
                  have c70b0 := eq_true c70
                  have c70b1 : decide (0 ≤ (ji69)) = true := decide_eq_true c70
                  clear c70
                  by_cases c71 : (ji69) ≤ (x5_1.size : Int)
                  ·rw [if_pos c71] at H
                   have c71b0 := eq_true c71
                   have c71b1 : decide ((ji69) ≤ (x5_1.size : Int)) = true := decide_eq_true c71
                   clear c71
                   by_cases c72 : ((x5_1.extract 0 ((ji64) : Int).toNat) ++ t152).size + (x5_1.extract ((ji69) : Int).toNat x5_1.size).size ≤ 9223372036854775807
                   ·rw [if_pos c72] at H
                    have c72b0 := eq_true c72
                    have c72b1 : decide (((x5_1.extract 0 ((ji64) : Int).toNat) ++ t152).size + (x5_1.extract ((ji69) : Int).toNat x5_1.size).size ≤ 9223372036854775807) = true := decide_eq_true c72
                    try have c72b2 : (9223372036854775807 < ((x5_1.extract 0 ((ji64) : Int).toNat) ++ t152).size + (x5_1.extract ((ji69) : Int).toNat x5_1.size).size) = False := eq_false (Nat.not_lt.2 c72)
                    (try (have c72b3 := c72b2; simp only [ByteArray.size_append] at c72b3))
                    (try (have c72b4 := c72b0; simp only [ByteArray.size_append] at c72b4))
                    (try (have c72b5 := c72b2; simp only [ByteArray.size_append, ByteArray.size_extract, Nat.sub_zero] at c72b5))
                    (try (have c72b6 := c72b0; simp only [ByteArray.size_append, ByteArray.size_extract, Nat.sub_zero] at c72b6))
                    (try (have c72b7 := c72b2; simp (discharger := (simp only [Int.toNat_le, *])) only [ByteArray.size_append, ByteArray.size_extract, Nat.sub_zero, Nat.min_self, Nat.min_eq_left] at c72b7))
                    (try (have c72b8 := c72b0; simp (discharger := (simp only [Int.toNat_le, *])) only [ByteArray.size_append, ByteArray.size_extract, Nat.sub_zero, Nat.min_self, Nat.min_eq_left] at c72b8))
                    replace H := Option.bind_eq_some_iff.mp H
                    obtain ⟨⟨t153, t156, t157, t158⟩, A730, H⟩ := H
                    replace H : (if t156 = 22 then (some (t157 == (IntKind.u64.wrap (ji64)))) else (some false)) = some r := H
                    have A73 := Aside0.mk A730
                    clear A730
                    by_cases c74 : t156 = 22
                    ·rw [if_pos c74] at H
                     have c74b0 : (t156 == 22) = true := beq_iff_eq.mpr c74
                     have c74b1 : (t156 != 22) = false := bne_eq_false_iff_eq.mpr c74
                     clear c74
                     obtain rfl := Option.some.inj H
                     obtain ⟨Ao75, co75, eo75⟩ := Kd.R_slice HO_6.out
                     subst eo75
                     try go_wp2
                     have n0_ := Aside0.mk (Kd.R_drew HO_6.out)
                     have n1_ := Aside0.mk (Kd.R_drew HO_9.out)
                     have n2_ := Aside0.mk (blk_drew BK148.out)
                     have n3_ := Aside0.mk (below_drew1 HB.out)
                     clear HO_6
                     clear HO_9
                     clear BK148
                     clear HB
                     have HO_6 := n0_
                     have HO_9 := n1_
                     have BK148 := n2_
                     have HB := n3_
                     clear n0_ n1_ n2_ n3_
                     refine start_ (n := 20) (S := fun w' => True) (ds := []) #[false,false,false,false,false,false,false,false,false,false,false,false,false,false,false,false,false,false,false,false] (by kernel_rfl) rfl rfl trivial (fun hHeld => ?_); refine with_tabW turnbucklelaw15_RelaPlaces.tab24 turnbucklelaw15_RelaPlaces.bits24 (fun HT_ HW_ => ?_)
                     generalize wr.drew = w76 at HO_6 HO_9 BK148 HB hHeld ⊢
                     refine pure_ (i:=0) (N := some 108) (v:=?_) (a':=?_) #[true,false,false,false,false,false,false,false,false,false,false,false,false,false,false,false,false,false,false,false] rfl rfl (any_of HT_.out (by kernel_rfl)) (fun _ _ _ h=>h) (Or.inl ⟨by rfl, ?_⟩) ?_ ?_
                     rotate_left
                     ·intro w'
                      go_simp
                      with_reducible rfl
                     rotate_left
                     ·simp only [Act.put,lz1,lz2,lz3,i64_w,i32_w]
                      rfl
                     refine pure_ (i:=1) (N := some 109) (v:=?_) (a':=?_) #[true,true,false,false,false,false,false,false,false,false,false,false,false,false,false,false,false,false,false,false] rfl rfl (any_of HT_.out (by kernel_rfl)) (fun _ _ _ h=>h) (Or.inl ⟨by rfl, ?_⟩) ?_ ?_
                     rotate_left
                     ·intro w'
                      go_simp
                      with_reducible rfl
                     rotate_left
                     ·simp only [Act.put,lz1,lz2,lz3,i64_w,i32_w]
                      rfl
                     refine pure_ (i:=2) (N := some 110) (v:=?_) (a':=?_) #[true,true,true,false,false,false,false,false,false,false,false,false,false,false,false,false,false,false,false,false] rfl rfl (any_of HT_.out (by kernel_rfl)) (fun _ _ _ h=>h) (Or.inl ⟨by rfl, ?_⟩) ?_ ?_
                     rotate_left
                     ·intro w'
                      go_simp
                      with_reducible rfl
                     rotate_left
                     ·simp only [Act.put,lz1,lz2,lz3,i64_w,i32_w]
                      rfl
                     refine pure_ (i:=3) (N := some 111) (v:=?_) (a':=?_) #[true,true,true,true,false,false,false,false,false,false,false,false,false,false,false,false,false,false,false,false] rfl rfl (any_of HT_.out (by kernel_rfl)) (fun _ _ _ h=>h) (Or.inl ⟨by rfl, ?_⟩) ?_ ?_
                     rotate_left
                     ·intro w'
                      go_simp
                      with_reducible rfl
                     rotate_left
                     ·simp only [Act.put,lz1,lz2,lz3,i64_w,i32_w]
                      rfl
                     refine pure_ (i:=4) (N := some 112) (v:=?_) (a':=?_) #[true,true,true,true,true,false,false,false,false,false,false,false,false,false,false,false,false,false,false,false] rfl rfl (any_of HT_.out (by kernel_rfl)) (fun _ _ _ h=>h) (Or.inl ⟨by rfl, ?_⟩) ?_ ?_
                     rotate_left
                     ·intro w'
                      go_simp
                      with_reducible rfl
                     rotate_left
                     ·simp only [Act.put,lz1,lz2,lz3,i64_w,i32_w]
                      rfl
                     refine pure_ (i:=7) (N := some 115) (v:=?_) (a':=?_) #[true,true,true,true,true,false,false,true,false,false,false,false,false,false,false,false,false,false,false,false] rfl rfl (any_of HT_.out (by kernel_rfl)) (fun _ _ _ h=>h) (Or.inl ⟨by rfl, ?_⟩) ?_ ?_
                     rotate_left
                     ·intro w'
                      go_simp
                      with_reducible rfl
                     rotate_left
                     ·simp only [Act.put,lz1,lz2,lz3,i64_w,i32_w]
                      rfl
                     refine pure_ (i:=8) (N := some 116) (v:=?_) (a':=?_) #[true,true,true,true,true,false,false,true,true,false,false,false,false,false,false,false,false,false,false,false] rfl rfl (any_of HT_.out (by kernel_rfl)) (fun _ _ _ h=>h) (Or.inl ⟨by rfl, ?_⟩) ?_ ?_
                     rotate_left
                     ·intro w'
                      go_simp
                      with_reducible rfl
                     rotate_left
                     ·simp only [Act.put,lz1,lz2,lz3,i64_w,i32_w]
                      rfl
                     refine pure_ (i:=9) (N := some 117) (v:=?_) (a':=?_) #[true,true,true,true,true,false,false,true,true,true,false,false,false,false,false,false,false,false,false,false] rfl rfl (any_of HT_.out (by kernel_rfl)) (fun _ _ _ h=>h) (Or.inl ⟨by rfl, ?_⟩) ?_ ?_
                     rotate_left
                     ·intro w'
                      go_simp
                      with_reducible rfl
                     rotate_left
                     ·simp only [Act.put,lz1,lz2,lz3,i64_w,i32_w]
                      rfl
                     refine pure_ (i:=10) (N := some 118) (v:=?_) (a':=?_) #[true,true,true,true,true,false,false,true,true,true,true,false,false,false,false,false,false,false,false,false] rfl rfl (any_of HT_.out (by kernel_rfl)) (fun _ _ _ h=>h) (Or.inl ⟨by rfl, ?_⟩) ?_ ?_
                     rotate_left
                     ·intro w'
                      go_simp
                      with_reducible rfl
                     rotate_left
                     ·simp only [Act.put,lz1,lz2,lz3,i64_w,i32_w]
                      rfl
                     refine pure_ (i:=11) (N := some 119) (v:=?_) (a':=?_) #[true,true,true,true,true,false,false,true,true,true,true,true,false,false,false,false,false,false,false,false] rfl rfl (any_of HT_.out (by kernel_rfl)) (fun _ _ _ h=>h) (Or.inl ⟨by rfl, ?_⟩) ?_ ?_
                     rotate_left
                     ·intro w'
                      go_simp
                      with_reducible rfl
                     rotate_left
                     ·simp only [Act.put,lz1,lz2,lz3,i64_w,i32_w]
                      rfl
                     refine join_ (σ := Value × Nat) 2 #[true,true,true,true,true,true,true,true,true,true,true,true,true,true,true,true,true,true,false,false] (fun s_ => [(113, .string t152), (121, .tuple #[s_.1, .agg #[.int .i64 t156, .int .u64 t157, .string t158]]), (14, .pointer (some ⟨s_.2, 0, none⟩)), (114, .string ((x5_1.extract 0 ((ji64) : Int).toNat) ++ t152)), (120, .string (((x5_1.extract 0 ((ji64) : Int).toNat) ++ t152) ++ (x5_1.extract ((ji69) : Int).toNat x5_1.size))), (107, .tuple #[s_.1, .agg #[.int .i64 t156, .int .u64 t157, .string t158]]), (122, s_.1), (123, .agg #[.int .i64 t156, .int .u64 t157, .string t158])]) (fun s_ w' => (Kd.R k38 38 w' w.heap.size (fun k_ => some k_ ≠ (.slice Ao75 x6_1.length co75 : Value).ownBlock ∧ some k_ ≠ (v143 : Value).ownBlock) s_.1 t153) ∧ (Kd.R k38 38 w' w.heap.size (fun k_ => some k_ ≠ (s_.1 : Value).ownBlock ∧ some k_ ≠ (v143 : Value).ownBlock) (.slice Ao75 x6_1.length co75) x6_1) ∧ (Kd.R k38 38 w' w.heap.size (fun k_ => some k_ ≠ (s_.1 : Value).ownBlock ∧ some k_ ≠ (.slice Ao75 x6_1.length co75 : Value).ownBlock) v143 t142) ∧ (w'.heap[gb148]? = some (.cells #[.int .i64 t145, .int .u64 t146, .string t147] 32 (0, 0))) ∧ (w'.heap[s_.2]? = some (.cells #[.int .i64 0, .int .u64 0, .string (⟨#[]⟩ : ByteArray)] 32 (0, 0))) ∧ (w.heap.size ≤ s_.2) ∧ (w.heap.size ≤ s_.2) ∧ (gb148 ≠ s_.2) ∧ (s_.2 ≠ gb148) ∧ (Below w.heap.size w w')) ?_ ?_
                     rotate_left
                     ·intro hCont
                      refine two_ (i := 5) (j := 17) (Ni := some 113) (Nj := some 14) #[true,true,true,true,true,true,false,true,true,true,true,true,false,false,false,false,false,false,false,false] #[true,true,true,true,true,false,false,true,true,true,true,true,false,false,false,false,false,true,false,false] rfl rfl rfl rfl (two_of HT_.out (by kernel_rfl)) (by decide) (by decide) (fun K hK => ?_) (fun K hK => ?_)
                      ·skip
                       refine goes_ Try.func11 (by kernel_rfl) rfl #[.agg #[.int .u64 8, .int .i64 7, .int .i64 0, .int .u64 0]] (by rfl) rfl rfl (by (try simp only [List.map_toArray, List.map_cons, List.map_nil]); first | done | rfl | (simp only [List.length_drop, List.length_take]; rfl)) ?_
                       with_reducible refine (rela_Put.calls k4 8 7 0 0 t152 _ A67.out).mono ?_
                       rintro e w77 ⟨rfl, hb⟩
                       refine ⟨_, rfl, ?_⟩
                       have n0_ := Aside0.mk (Kd.R_below (by (with_reducible repeat (first | apply Kd.R_alloc | apply Kd.R_drewN | apply Kd.R_drew)); exact HO_6.out) hb)
                       have n1_ := Aside0.mk (Kd.R_below (by (with_reducible repeat (first | apply Kd.R_alloc | apply Kd.R_drewN | apply Kd.R_drew)); exact HO_9.out) hb)
                       have n2_ := Aside0.mk (blk_below (g := gb148) (o := .cells #[.int .i64 t145, .int .u64 t146, .string t147] 32 (0, 0)) (by (with_reducible repeat (first | refine blk_drewN ?_ _ | refine blk_drew ?_ | refine blk_alloc ?_ _)); exact BK148.out) hb)
                       have n3_ := Aside0.mk (below_step (by repeat (first | (with_reducible first | exact HB.out | apply below_alloc | apply pw_below_drewN | apply below_drew1 | refine below_set ?_ GE148.out) | exact HB.out)) hb)
                       clear HO_6
                       clear HO_9
                       clear BK148
                       clear HB
                       have HO_6 := n0_
                       have HO_9 := n1_
                       have BK148 := n2_
                       have HB := n3_
                       clear n0_ n1_ n2_ n3_
                       (try clear hb)
                       (try clear hb2)
                       (try clear hk)
                       (try clear hi)
                       refine hK.out _ _ trivial (fun hHeld => ?_)
                       clear hK K
                       refine norm_ (a' := ?_) ?_ ?_
                       rotate_left
                       ·show Act.put _ (some 113) _ = _
                        simp only [Act.put,lz1,lz2,lz3,i64_w,i32_w]
                        rfl
                       refine pure_ (i:=6) (N := some 114) (v:=?_) (a':=?_) #[true,true,true,true,true,true,true,true,true,true,true,true,false,false,false,false,false,false,false,false] rfl rfl (any_of HT_.out (by kernel_rfl)) (fun _ _ _ h=>h) (Or.inl ⟨by rfl, ?_⟩) ?_ ?_
                       rotate_left
                       ·intro w'
                        go_simp
                        first | with_reducible rfl | (refine Eq.trans (b := .ok (.value (.bool true)) w') ?_ (by with_reducible rfl); (repeat' (first | with_reducible rfl | split)); all_goals (first | rfl | (exfalso; simp_all; done))) | (refine Eq.trans (b := .ok (.value (.bool false)) w') ?_ (by with_reducible rfl); (repeat' (first | with_reducible rfl | split)); all_goals (first | rfl | (exfalso; simp_all; done)))
                       rotate_left
                       ·simp only [Act.put,lz1,lz2,lz3,i64_w,i32_w]
                        rfl
                       refine pure_ (i:=12) (N := some 120) (v:=?_) (a':=?_) #[true,true,true,true,true,true,true,true,true,true,true,true,true,false,false,false,false,false,false,false] rfl rfl (any_of HT_.out (by kernel_rfl)) (fun _ _ _ h=>h) (Or.inl ⟨by rfl, ?_⟩) ?_ ?_
                       rotate_left
                       ·intro w'
                        go_simp
                        first | with_reducible rfl | (refine Eq.trans (b := .ok (.value (.bool true)) w') ?_ (by with_reducible rfl); (repeat' (first | with_reducible rfl | split)); all_goals (first | rfl | (exfalso; simp_all; done))) | (refine Eq.trans (b := .ok (.value (.bool false)) w') ?_ (by with_reducible rfl); (repeat' (first | with_reducible rfl | split)); all_goals (first | rfl | (exfalso; simp_all; done)))
                       rotate_left
                       ·simp only [Act.put,lz1,lz2,lz3,i64_w,i32_w]
                        rfl
                       refine two_ (i := 13) (j := 17) (Ni := some 121) (Nj := some 14) #[true,true,true,true,true,true,true,true,true,true,true,true,true,true,false,false,false,false,false,false] #[true,true,true,true,true,true,true,true,true,true,true,true,true,false,false,false,false,true,false,false] rfl rfl rfl rfl (two_of HT_.out (by kernel_rfl)) (by decide) (by decide) (fun K hK => ?_) (fun K hK => ?_)
                       ·skip
                        refine goes_ Try.func9 (by kernel_rfl) rfl #[.string (((x5_1.extract 0 ((ji64) : Int).toNat) ++ t152) ++ (x5_1.extract ((ji69) : Int).toNat x5_1.size)), .int .i64 8] (by rfl) rfl rfl (by (try simp only [List.map_toArray, List.map_cons, List.map_nil]); first | done | (simp only [hji64, hji69]; rfl) | rfl | (simp only [List.length_drop, List.length_take]; rfl)) ?_
                        with_reducible refine (rela_Read.calls k4 (((x5_1.extract 0 ((ji64) : Int).toNat) ++ t152) ++ (x5_1.extract ((ji69) : Int).toNat x5_1.size)) 8 t153 t156 t157 t158 _ A73.out).mono ?_
                        rintro e w78 ⟨v154, rfl, ho0, hb⟩
                        refine ⟨_, rfl, ?_⟩
                        have n0_ := Aside0.mk (Kd.R_elder' (by (with_reducible repeat (first | apply Kd.R_alloc | apply Kd.R_drewN | apply Kd.R_drew)); exact HO_6.out) (Kd.R_base ho0) hb)
                        have n1_ := Aside0.mk (Kd.R_elder' (by (with_reducible repeat (first | apply Kd.R_alloc | apply Kd.R_drewN | apply Kd.R_drew)); exact HO_9.out) (Kd.R_base ho0) hb)
                        have n2_ := Aside0.mk (Kd.R_lower (Kd.R_new' (Kd.R_new' ho0 (Kd.R_lt (by (with_reducible repeat (first | apply Kd.R_alloc | apply Kd.R_drewN | apply Kd.R_drew)); exact HO_6.out))) (Kd.R_lt (by (with_reducible repeat (first | apply Kd.R_alloc | apply Kd.R_drewN | apply Kd.R_drew)); exact HO_9.out))) (below_size (by repeat (first | (with_reducible first | exact HB.out | apply below_alloc | apply pw_below_drewN | apply below_drew1 | refine below_set ?_ GE148.out) | exact HB.out))))
                        have n3_ := Aside0.mk (blk_below (g := gb148) (o := .cells #[.int .i64 t145, .int .u64 t146, .string t147] 32 (0, 0)) (by (with_reducible repeat (first | refine blk_drewN ?_ _ | refine blk_drew ?_ | refine blk_alloc ?_ _)); exact BK148.out) hb)
                        have n4_ := Aside0.mk (below_step (by repeat (first | (with_reducible first | exact HB.out | apply below_alloc | apply pw_below_drewN | apply below_drew1 | refine below_set ?_ GE148.out) | exact HB.out)) hb)
                        clear HO_6
                        clear HO_9
                        clear BK148
                        clear HB
                        have HO_6 := n0_
                        have HO_9 := n1_
                        have HO155 := n2_
                        have BK148 := n3_
                        have HB := n4_
                        clear n0_ n1_ n2_ n3_ n4_
                        (try clear hb)
                        (try clear hb2)
                        (try clear hk)
                        (try clear hi)
                        (try clear ho0)
                        refine hK.out _ _ trivial (fun hHeld => ?_)
                        clear hK K
                        refine norm_ (a' := ?_) ?_ ?_
                        rotate_left
                        ·show Act.put _ (some 121) _ = _
                         simp only [Act.put,lz1,lz2,lz3,i64_w,i32_w]
                         rfl
                        refine pure_ (i:=14) (N := some 107) (v:=?_) (a':=?_) #[true,true,true,true,true,true,true,true,true,true,true,true,true,true,true,false,false,false,false,false] rfl rfl (any_of HT_.out (by kernel_rfl)) (fun _ _ _ h=>h) (Or.inl ⟨by rfl, ?_⟩) ?_ ?_
                        rotate_left
                        ·intro w'
                         go_simp
                         with_reducible rfl
                        rotate_left
                        ·simp only [Act.put,lz1,lz2,lz3,i64_w,i32_w]
                         rfl
                        refine pure_ (i:=15) (N := some 122) (v:=?_) (a':=?_) #[true,true,true,true,true,true,true,true,true,true,true,true,true,true,true,true,false,false,false,false] rfl rfl (any_of HT_.out (by kernel_rfl)) (fun _ _ _ h=>h) (Or.inl ⟨by rfl, ?_⟩) ?_ ?_
                        rotate_left
                        ·intro w'
                         go_simp
                         with_reducible rfl
                        rotate_left
                        ·simp only [Act.put,lz1,lz2,lz3,i64_w,i32_w]
                         rfl
                        refine pure_ (i:=16) (N := some 123) (v:=?_) (a':=?_) #[true,true,true,true,true,true,true,true,true,true,true,true,true,true,true,true,true,false,false,false] rfl rfl (any_of HT_.out (by kernel_rfl)) (fun _ _ _ h=>h) (Or.inl ⟨by rfl, ?_⟩) ?_ ?_
                        rotate_left
                        ·intro w'
                         go_simp
                         with_reducible rfl
                        rotate_left
                        ·simp only [Act.put,lz1,lz2,lz3,i64_w,i32_w]
                         rfl
                        refine one_ (i := 17) (N := some 14) #[true,true,true,true,true,true,true,true,true,true,true,true,true,true,true,true,true,true,false,false] rfl rfl (one_of HT_.out (by kernel_rfl)) (by decide) (fun K hK => ?_)
                        refine box_step ?hg (N := 14) ?hd (cs := #[.int .i64 0, .int .u64 0, .string (⟨#[]⟩ : ByteArray)]) (t := 32) ?hr ?_; (case hd => rfl); (case hg => rfl); (case hr => first | (go_simp; done) | (go_simp; rfl))
                        intro gb159 hg w79 hbox hb
                        have n0_ := Aside0.mk (Kd.R_below (by (with_reducible repeat (first | apply Kd.R_alloc | apply Kd.R_drewN | apply Kd.R_drew)); exact HO_6.out) hb)
                        have n1_ := Aside0.mk (Kd.R_below (by (with_reducible repeat (first | apply Kd.R_alloc | apply Kd.R_drewN | apply Kd.R_drew)); exact HO_9.out) hb)
                        have n2_ := Aside0.mk (Kd.R_below (by (with_reducible repeat (first | apply Kd.R_alloc | apply Kd.R_drewN | apply Kd.R_drew)); exact HO155.out) hb)
                        have n3_ := Aside0.mk (blk_below (g := gb148) (o := .cells #[.int .i64 t145, .int .u64 t146, .string t147] 32 (0, 0)) (by (with_reducible repeat (first | refine blk_drewN ?_ _ | refine blk_drew ?_ | refine blk_alloc ?_ _)); exact BK148.out) hb)
                        have n4_ := Aside0.mk (below_step (by repeat (first | (with_reducible first | exact HB.out | apply below_alloc | apply pw_below_drewN | apply below_drew1 | refine below_set ?_ GE148.out) | exact HB.out)) hb)
                        have n5_ := Aside0.mk (hbox)
                        have n6_ := Aside0.mk ((by rw [hg]; exact (below_size (by repeat (first | (with_reducible first | exact HB.out | apply below_alloc | apply pw_below_drewN | apply below_drew1 | refine below_set ?_ GE148.out) | exact HB.out))) : w.heap.size ≤ gb159))
                        have n7_ := Aside0.mk ((by rw [hg]; exact (below_size (by repeat (first | (with_reducible first | exact HB.out | apply below_alloc | apply pw_below_drewN | apply below_drew1 | refine below_set ?_ GE148.out) | exact HB.out))) : w.heap.size ≤ gb159))
                        have n8_ := Aside0.mk ((by rw [hg]; exact Nat.ne_of_lt (blk_lt (g := gb148) (o := .cells #[.int .i64 t145, .int .u64 t146, .string t147] 32 (0, 0)) (by (with_reducible repeat (first | refine blk_drewN ?_ _ | refine blk_drew ?_ | refine blk_alloc ?_ _)); exact BK148.out)) : gb148 ≠ gb159))
                        have n9_ := Aside0.mk ((by rw [hg]; exact Nat.ne_of_gt (blk_lt (g := gb148) (o := .cells #[.int .i64 t145, .int .u64 t146, .string t147] 32 (0, 0)) (by (with_reducible repeat (first | refine blk_drewN ?_ _ | refine blk_drew ?_ | refine blk_alloc ?_ _)); exact BK148.out)) : gb159 ≠ gb148))
                        clear HO_6
                        clear HO_9
                        clear HO155
                        clear BK148
                        clear HB
                        have HO_6 := n0_
                        have HO_9 := n1_
                        have HO155 := n2_
                        have BK148 := n3_
                        have HB := n4_
                        have BK159 := n5_
                        have GW159 := n6_
                        have GE159 := n7_
                        have NB148_159 := n8_
                        have NB159_148 := n9_
                        clear n0_ n1_ n2_ n3_ n4_ n5_ n6_ n7_ n8_ n9_
                        clear hb hbox hg
                        refine hK.out _ _ trivial (fun hHeld => ?_)
                        clear hK K
                        refine norm_ (a' := ?_) ?_ ?_
                        rotate_left
                        ·show Act.put _ (some 14) _ = _
                         simp only [Act.put,lz1,lz2,lz3,i64_w,i32_w]
                         rfl
                        exact norm_ (by simp only [putAll, Act.put, List.setIfInBounds_toArray, List.set_cons_zero, List.set_cons_succ]) (hCont (v154, gb159) _ ⟨(by (with_reducible repeat (first | apply Kd.R_alloc | apply Kd.R_drewN | apply Kd.R_drew)); exact Kd.R_mono HO155.out (fun _ hk => ⟨hk.1.2, hk.2⟩)), (by (with_reducible repeat (first | apply Kd.R_alloc | apply Kd.R_drewN | apply Kd.R_drew)); exact Kd.R_mono HO_6.out (fun _ hk => ⟨hk.2, hk.1⟩)), (by (with_reducible repeat (first | apply Kd.R_alloc | apply Kd.R_drewN | apply Kd.R_drew)); exact Kd.R_mono HO_9.out (fun _ hk => ⟨hk.2, hk.1⟩)), (by (with_reducible repeat (first | refine blk_drewN ?_ _ | refine blk_drew ?_ | refine blk_alloc ?_ _)); exact BK148.out), (by (with_reducible repeat (first | refine blk_drewN ?_ _ | refine blk_drew ?_ | refine blk_alloc ?_ _)); exact BK159.out), GW159.out, GE159.out, NB148_159.out, NB159_148.out, (by repeat (first | (with_reducible first | exact HB.out | apply below_alloc | apply pw_below_drewN | apply below_drew1 | refine below_set ?_ GE148.out | refine below_set ?_ GE159.out) | exact HB.out))⟩)
                       ·skip
                        refine box_step ?hg (N := 14) ?hd (cs := #[.int .i64 0, .int .u64 0, .string (⟨#[]⟩ : ByteArray)]) (t := 32) ?hr ?_; (case hd => rfl); (case hg => rfl); (case hr => first | (go_simp; done) | (go_simp; rfl))
                        intro gb159 hg w78 hbox hb
                        have n0_ := Aside0.mk (Kd.R_below (by (with_reducible repeat (first | apply Kd.R_alloc | apply Kd.R_drewN | apply Kd.R_drew)); exact HO_6.out) hb)
                        have n1_ := Aside0.mk (Kd.R_below (by (with_reducible repeat (first | apply Kd.R_alloc | apply Kd.R_drewN | apply Kd.R_drew)); exact HO_9.out) hb)
                        have n2_ := Aside0.mk (blk_below (g := gb148) (o := .cells #[.int .i64 t145, .int .u64 t146, .string t147] 32 (0, 0)) (by (with_reducible repeat (first | refine blk_drewN ?_ _ | refine blk_drew ?_ | refine blk_alloc ?_ _)); exact BK148.out) hb)
                        have n3_ := Aside0.mk (below_step (by repeat (first | (with_reducible first | exact HB.out | apply below_alloc | apply pw_below_drewN | apply below_drew1 | refine below_set ?_ GE148.out) | exact HB.out)) hb)
                        have n4_ := Aside0.mk (hbox)
                        have n5_ := Aside0.mk ((by rw [hg]; exact (below_size (by repeat (first | (with_reducible first | exact HB.out | apply below_alloc | apply pw_below_drewN | apply below_drew1 | refine below_set ?_ GE148.out) | exact HB.out))) : w.heap.size ≤ gb159))
                        have n6_ := Aside0.mk ((by rw [hg]; exact (below_size (by repeat (first | (with_reducible first | exact HB.out | apply below_alloc | apply pw_below_drewN | apply below_drew1 | refine below_set ?_ GE148.out) | exact HB.out))) : w.heap.size ≤ gb159))
                        have n7_ := Aside0.mk ((by rw [hg]; exact Nat.ne_of_lt (blk_lt (g := gb148) (o := .cells #[.int .i64 t145, .int .u64 t146, .string t147] 32 (0, 0)) (by (with_reducible repeat (first | refine blk_drewN ?_ _ | refine blk_drew ?_ | refine blk_alloc ?_ _)); exact BK148.out)) : gb148 ≠ gb159))
                        have n8_ := Aside0.mk ((by rw [hg]; exact Nat.ne_of_gt (blk_lt (g := gb148) (o := .cells #[.int .i64 t145, .int .u64 t146, .string t147] 32 (0, 0)) (by (with_reducible repeat (first | refine blk_drewN ?_ _ | refine blk_drew ?_ | refine blk_alloc ?_ _)); exact BK148.out)) : gb159 ≠ gb148))
                        clear HO_6
                        clear HO_9
                        clear BK148
                        clear HB
                        have HO_6 := n0_
                        have HO_9 := n1_
                        have BK148 := n2_
                        have HB := n3_
                        have BK159 := n4_
                        have GW159 := n5_
                        have GE159 := n6_
                        have NB148_159 := n7_
                        have NB159_148 := n8_
                        clear n0_ n1_ n2_ n3_ n4_ n5_ n6_ n7_ n8_
                        clear hb hbox hg
                        refine hK.out _ _ trivial (fun hHeld => ?_)
                        clear hK K
                        refine norm_ (a' := ?_) ?_ ?_
                        rotate_left
                        ·show Act.put _ (some 14) _ = _
                         simp only [Act.put,lz1,lz2,lz3,i64_w,i32_w]
                         rfl
                        refine one_ (i := 13) (N := some 121) #[true,true,true,true,true,true,true,true,true,true,true,true,true,true,false,false,false,true,false,false] rfl rfl (one_of HT_.out (by kernel_rfl)) (by decide) (fun K hK => ?_)
                        refine goes_ Try.func9 (by kernel_rfl) rfl #[.string (((x5_1.extract 0 ((ji64) : Int).toNat) ++ t152) ++ (x5_1.extract ((ji69) : Int).toNat x5_1.size)), .int .i64 8] (by rfl) rfl rfl (by (try simp only [List.map_toArray, List.map_cons, List.map_nil]); first | done | (simp only [hji64, hji69]; rfl) | rfl | (simp only [List.length_drop, List.length_take]; rfl)) ?_
                        with_reducible refine (rela_Read.calls k4 (((x5_1.extract 0 ((ji64) : Int).toNat) ++ t152) ++ (x5_1.extract ((ji69) : Int).toNat x5_1.size)) 8 t153 t156 t157 t158 _ A73.out).mono ?_
                        rintro e w79 ⟨v154, rfl, ho0, hb⟩
                        refine ⟨_, rfl, ?_⟩
                        have n0_ := Aside0.mk (Kd.R_elder' (by (with_reducible repeat (first | apply Kd.R_alloc | apply Kd.R_drewN | apply Kd.R_drew)); exact HO_6.out) (Kd.R_base ho0) hb)
                        have n1_ := Aside0.mk (Kd.R_elder' (by (with_reducible repeat (first | apply Kd.R_alloc | apply Kd.R_drewN | apply Kd.R_drew)); exact HO_9.out) (Kd.R_base ho0) hb)
                        have n2_ := Aside0.mk (Kd.R_lower (Kd.R_new' (Kd.R_new' ho0 (Kd.R_lt (by (with_reducible repeat (first | apply Kd.R_alloc | apply Kd.R_drewN | apply Kd.R_drew)); exact HO_6.out))) (Kd.R_lt (by (with_reducible repeat (first | apply Kd.R_alloc | apply Kd.R_drewN | apply Kd.R_drew)); exact HO_9.out))) (below_size (by repeat (first | (with_reducible first | exact HB.out | apply below_alloc | apply pw_below_drewN | apply below_drew1 | refine below_set ?_ GE148.out | refine below_set ?_ GE159.out) | exact HB.out))))
                        have n3_ := Aside0.mk (blk_below (g := gb148) (o := .cells #[.int .i64 t145, .int .u64 t146, .string t147] 32 (0, 0)) (by (with_reducible repeat (first | refine blk_drewN ?_ _ | refine blk_drew ?_ | refine blk_alloc ?_ _)); exact BK148.out) hb)
                        have n4_ := Aside0.mk (blk_below (g := gb159) (o := .cells #[.int .i64 0, .int .u64 0, .string (⟨#[]⟩ : ByteArray)] 32 (0, 0)) (by (with_reducible repeat (first | refine blk_drewN ?_ _ | refine blk_drew ?_ | refine blk_alloc ?_ _)); exact BK159.out) hb)
                        have n5_ := Aside0.mk (below_step (by repeat (first | (with_reducible first | exact HB.out | apply below_alloc | apply pw_below_drewN | apply below_drew1 | refine below_set ?_ GE148.out | refine below_set ?_ GE159.out) | exact HB.out)) hb)
                        clear HO_6
                        clear HO_9
                        clear BK148
                        clear BK159
                        clear HB
                        have HO_6 := n0_
                        have HO_9 := n1_
                        have HO155 := n2_
                        have BK148 := n3_
                        have BK159 := n4_
                        have HB := n5_
                        clear n0_ n1_ n2_ n3_ n4_ n5_
                        (try clear hb)
                        (try clear hb2)
                        (try clear hk)
                        (try clear hi)
                        (try clear ho0)
                        refine hK.out _ _ trivial (fun hHeld => ?_)
                        clear hK K
                        refine norm_ (a' := ?_) ?_ ?_
                        rotate_left
                        ·show Act.put _ (some 121) _ = _
                         simp only [Act.put,lz1,lz2,lz3,i64_w,i32_w]
                         rfl
                        refine pure_ (i:=14) (N := some 107) (v:=?_) (a':=?_) #[true,true,true,true,true,true,true,true,true,true,true,true,true,true,true,false,false,true,false,false] rfl rfl (any_of HT_.out (by kernel_rfl)) (fun _ _ _ h=>h) (Or.inl ⟨by rfl, ?_⟩) ?_ ?_
                        rotate_left
                        ·intro w'
                         go_simp
                         with_reducible rfl
                        rotate_left
                        ·simp only [Act.put,lz1,lz2,lz3,i64_w,i32_w]
                         rfl
                        refine pure_ (i:=15) (N := some 122) (v:=?_) (a':=?_) #[true,true,true,true,true,true,true,true,true,true,true,true,true,true,true,true,false,true,false,false] rfl rfl (any_of HT_.out (by kernel_rfl)) (fun _ _ _ h=>h) (Or.inl ⟨by rfl, ?_⟩) ?_ ?_
                        rotate_left
                        ·intro w'
                         go_simp
                         with_reducible rfl
                        rotate_left
                        ·simp only [Act.put,lz1,lz2,lz3,i64_w,i32_w]
                         rfl
                        refine pure_ (i:=16) (N := some 123) (v:=?_) (a':=?_) #[true,true,true,true,true,true,true,true,true,true,true,true,true,true,true,true,true,true,false,false] rfl rfl (any_of HT_.out (by kernel_rfl)) (fun _ _ _ h=>h) (Or.inl ⟨by rfl, ?_⟩) ?_ ?_
                        rotate_left
                        ·intro w'
                         go_simp
                         with_reducible rfl
                        rotate_left
                        ·simp only [Act.put,lz1,lz2,lz3,i64_w,i32_w]
                         rfl
                        exact norm_ (by simp only [putAll, Act.put, List.setIfInBounds_toArray, List.set_cons_zero, List.set_cons_succ]) (hCont (v154, gb159) _ ⟨(by (with_reducible repeat (first | apply Kd.R_alloc | apply Kd.R_drewN | apply Kd.R_drew)); exact Kd.R_mono HO155.out (fun _ hk => ⟨hk.1.2, hk.2⟩)), (by (with_reducible repeat (first | apply Kd.R_alloc | apply Kd.R_drewN | apply Kd.R_drew)); exact Kd.R_mono HO_6.out (fun _ hk => ⟨hk.2, hk.1⟩)), (by (with_reducible repeat (first | apply Kd.R_alloc | apply Kd.R_drewN | apply Kd.R_drew)); exact Kd.R_mono HO_9.out (fun _ hk => ⟨hk.2, hk.1⟩)), (by (with_reducible repeat (first | refine blk_drewN ?_ _ | refine blk_drew ?_ | refine blk_alloc ?_ _)); exact BK148.out), (by (with_reducible repeat (first | refine blk_drewN ?_ _ | refine blk_drew ?_ | refine blk_alloc ?_ _)); exact BK159.out), GW159.out, GE159.out, NB148_159.out, NB159_148.out, (by repeat (first | (with_reducible first | exact HB.out | apply below_alloc | apply pw_below_drewN | apply below_drew1 | refine below_set ?_ GE148.out | refine below_set ?_ GE159.out) | exact HB.out))⟩)
                      ·skip
                       refine box_step ?hg (N := 14) ?hd (cs := #[.int .i64 0, .int .u64 0, .string (⟨#[]⟩ : ByteArray)]) (t := 32) ?hr ?_; (case hd => rfl); (case hg => rfl); (case hr => first | (go_simp; done) | (go_simp; rfl))
                       intro gb159 hg w77 hbox hb
                       have n0_ := Aside0.mk (Kd.R_below (by (with_reducible repeat (first | apply Kd.R_alloc | apply Kd.R_drewN | apply Kd.R_drew)); exact HO_6.out) hb)
                       have n1_ := Aside0.mk (Kd.R_below (by (with_reducible repeat (first | apply Kd.R_alloc | apply Kd.R_drewN | apply Kd.R_drew)); exact HO_9.out) hb)
                       have n2_ := Aside0.mk (blk_below (g := gb148) (o := .cells #[.int .i64 t145, .int .u64 t146, .string t147] 32 (0, 0)) (by (with_reducible repeat (first | refine blk_drewN ?_ _ | refine blk_drew ?_ | refine blk_alloc ?_ _)); exact BK148.out) hb)
                       have n3_ := Aside0.mk (below_step (by repeat (first | (with_reducible first | exact HB.out | apply below_alloc | apply pw_below_drewN | apply below_drew1 | refine below_set ?_ GE148.out) | exact HB.out)) hb)
                       have n4_ := Aside0.mk (hbox)
                       have n5_ := Aside0.mk ((by rw [hg]; exact (below_size (by repeat (first | (with_reducible first | exact HB.out | apply below_alloc | apply pw_below_drewN | apply below_drew1 | refine below_set ?_ GE148.out) | exact HB.out))) : w.heap.size ≤ gb159))
                       have n6_ := Aside0.mk ((by rw [hg]; exact (below_size (by repeat (first | (with_reducible first | exact HB.out | apply below_alloc | apply pw_below_drewN | apply below_drew1 | refine below_set ?_ GE148.out) | exact HB.out))) : w.heap.size ≤ gb159))
                       have n7_ := Aside0.mk ((by rw [hg]; exact Nat.ne_of_lt (blk_lt (g := gb148) (o := .cells #[.int .i64 t145, .int .u64 t146, .string t147] 32 (0, 0)) (by (with_reducible repeat (first | refine blk_drewN ?_ _ | refine blk_drew ?_ | refine blk_alloc ?_ _)); exact BK148.out)) : gb148 ≠ gb159))
                       have n8_ := Aside0.mk ((by rw [hg]; exact Nat.ne_of_gt (blk_lt (g := gb148) (o := .cells #[.int .i64 t145, .int .u64 t146, .string t147] 32 (0, 0)) (by (with_reducible repeat (first | refine blk_drewN ?_ _ | refine blk_drew ?_ | refine blk_alloc ?_ _)); exact BK148.out)) : gb159 ≠ gb148))
                       clear HO_6
                       clear HO_9
                       clear BK148
                       clear HB
                       have HO_6 := n0_
                       have HO_9 := n1_
                       have BK148 := n2_
                       have HB := n3_
                       have BK159 := n4_
                       have GW159 := n5_
                       have GE159 := n6_
                       have NB148_159 := n7_
                       have NB159_148 := n8_
                       clear n0_ n1_ n2_ n3_ n4_ n5_ n6_ n7_ n8_
                       clear hb hbox hg
                       refine hK.out _ _ trivial (fun hHeld => ?_)
                       clear hK K
                       refine norm_ (a' := ?_) ?_ ?_
                       rotate_left
                       ·show Act.put _ (some 14) _ = _
                        simp only [Act.put,lz1,lz2,lz3,i64_w,i32_w]
                        rfl
                       refine one_ (i := 5) (N := some 113) #[true,true,true,true,true,true,false,true,true,true,true,true,false,false,false,false,false,true,false,false] rfl rfl (one_of HT_.out (by kernel_rfl)) (by decide) (fun K hK => ?_)
                       refine goes_ Try.func11 (by kernel_rfl) rfl #[.agg #[.int .u64 8, .int .i64 7, .int .i64 0, .int .u64 0]] (by rfl) rfl rfl (by (try simp only [List.map_toArray, List.map_cons, List.map_nil]); first | done | rfl | (simp only [List.length_drop, List.length_take]; rfl)) ?_
                       with_reducible refine (rela_Put.calls k4 8 7 0 0 t152 _ A67.out).mono ?_
                       rintro e w78 ⟨rfl, hb⟩
                       refine ⟨_, rfl, ?_⟩
                       have n0_ := Aside0.mk (Kd.R_below (by (with_reducible repeat (first | apply Kd.R_alloc | apply Kd.R_drewN | apply Kd.R_drew)); exact HO_6.out) hb)
                       have n1_ := Aside0.mk (Kd.R_below (by (with_reducible repeat (first | apply Kd.R_alloc | apply Kd.R_drewN | apply Kd.R_drew)); exact HO_9.out) hb)
                       have n2_ := Aside0.mk (blk_below (g := gb148) (o := .cells #[.int .i64 t145, .int .u64 t146, .string t147] 32 (0, 0)) (by (with_reducible repeat (first | refine blk_drewN ?_ _ | refine blk_drew ?_ | refine blk_alloc ?_ _)); exact BK148.out) hb)
                       have n3_ := Aside0.mk (blk_below (g := gb159) (o := .cells #[.int .i64 0, .int .u64 0, .string (⟨#[]⟩ : ByteArray)] 32 (0, 0)) (by (with_reducible repeat (first | refine blk_drewN ?_ _ | refine blk_drew ?_ | refine blk_alloc ?_ _)); exact BK159.out) hb)
                       have n4_ := Aside0.mk (below_step (by repeat (first | (with_reducible first | exact HB.out | apply below_alloc | apply pw_below_drewN | apply below_drew1 | refine below_set ?_ GE148.out | refine below_set ?_ GE159.out) | exact HB.out)) hb)
                       clear HO_6
                       clear HO_9
                       clear BK148
                       clear BK159
                       clear HB
                       have HO_6 := n0_
                       have HO_9 := n1_
                       have BK148 := n2_
                       have BK159 := n3_
                       have HB := n4_
                       clear n0_ n1_ n2_ n3_ n4_
                       (try clear hb)
                       (try clear hb2)
                       (try clear hk)
                       (try clear hi)
                       refine hK.out _ _ trivial (fun hHeld => ?_)
                       clear hK K
                       refine norm_ (a' := ?_) ?_ ?_
                       rotate_left
                       ·show Act.put _ (some 113) _ = _
                        simp only [Act.put,lz1,lz2,lz3,i64_w,i32_w]
                        rfl
                       refine pure_ (i:=6) (N := some 114) (v:=?_) (a':=?_) #[true,true,true,true,true,true,true,true,true,true,true,true,false,false,false,false,false,true,false,false] rfl rfl (any_of HT_.out (by kernel_rfl)) (fun _ _ _ h=>h) (Or.inl ⟨by rfl, ?_⟩) ?_ ?_
                       rotate_left
                       ·intro w'
                        go_simp
                        first | with_reducible rfl | (refine Eq.trans (b := .ok (.value (.bool true)) w') ?_ (by with_reducible rfl); (repeat' (first | with_reducible rfl | split)); all_goals (first | rfl | (exfalso; simp_all; done))) | (refine Eq.trans (b := .ok (.value (.bool false)) w') ?_ (by with_reducible rfl); (repeat' (first | with_reducible rfl | split)); all_goals (first | rfl | (exfalso; simp_all; done)))
                       rotate_left
                       ·simp only [Act.put,lz1,lz2,lz3,i64_w,i32_w]
                        rfl
                       refine pure_ (i:=12) (N := some 120) (v:=?_) (a':=?_) #[true,true,true,true,true,true,true,true,true,true,true,true,true,false,false,false,false,true,false,false] rfl rfl (any_of HT_.out (by kernel_rfl)) (fun _ _ _ h=>h) (Or.inl ⟨by rfl, ?_⟩) ?_ ?_
                       rotate_left
                       ·intro w'
                        go_simp
                        first | with_reducible rfl | (refine Eq.trans (b := .ok (.value (.bool true)) w') ?_ (by with_reducible rfl); (repeat' (first | with_reducible rfl | split)); all_goals (first | rfl | (exfalso; simp_all; done))) | (refine Eq.trans (b := .ok (.value (.bool false)) w') ?_ (by with_reducible rfl); (repeat' (first | with_reducible rfl | split)); all_goals (first | rfl | (exfalso; simp_all; done)))
                       rotate_left
                       ·simp only [Act.put,lz1,lz2,lz3,i64_w,i32_w]
                        rfl
                       refine one_ (i := 13) (N := some 121) #[true,true,true,true,true,true,true,true,true,true,true,true,true,true,false,false,false,true,false,false] rfl rfl (one_of HT_.out (by kernel_rfl)) (by decide) (fun K hK => ?_)
                       refine goes_ Try.func9 (by kernel_rfl) rfl #[.string (((x5_1.extract 0 ((ji64) : Int).toNat) ++ t152) ++ (x5_1.extract ((ji69) : Int).toNat x5_1.size)), .int .i64 8] (by rfl) rfl rfl (by (try simp only [List.map_toArray, List.map_cons, List.map_nil]); first | done | (simp only [hji64, hji69]; rfl) | rfl | (simp only [List.length_drop, List.length_take]; rfl)) ?_
                       with_reducible refine (rela_Read.calls k4 (((x5_1.extract 0 ((ji64) : Int).toNat) ++ t152) ++ (x5_1.extract ((ji69) : Int).toNat x5_1.size)) 8 t153 t156 t157 t158 _ A73.out).mono ?_
                       rintro e w79 ⟨v154, rfl, ho0, hb⟩
                       refine ⟨_, rfl, ?_⟩
                       have n0_ := Aside0.mk (Kd.R_elder' (by (with_reducible repeat (first | apply Kd.R_alloc | apply Kd.R_drewN | apply Kd.R_drew)); exact HO_6.out) (Kd.R_base ho0) hb)
                       have n1_ := Aside0.mk (Kd.R_elder' (by (with_reducible repeat (first | apply Kd.R_alloc | apply Kd.R_drewN | apply Kd.R_drew)); exact HO_9.out) (Kd.R_base ho0) hb)
                       have n2_ := Aside0.mk (Kd.R_lower (Kd.R_new' (Kd.R_new' ho0 (Kd.R_lt (by (with_reducible repeat (first | apply Kd.R_alloc | apply Kd.R_drewN | apply Kd.R_drew)); exact HO_6.out))) (Kd.R_lt (by (with_reducible repeat (first | apply Kd.R_alloc | apply Kd.R_drewN | apply Kd.R_drew)); exact HO_9.out))) (below_size (by repeat (first | (with_reducible first | exact HB.out | apply below_alloc | apply pw_below_drewN | apply below_drew1 | refine below_set ?_ GE148.out | refine below_set ?_ GE159.out) | exact HB.out))))
                       have n3_ := Aside0.mk (blk_below (g := gb148) (o := .cells #[.int .i64 t145, .int .u64 t146, .string t147] 32 (0, 0)) (by (with_reducible repeat (first | refine blk_drewN ?_ _ | refine blk_drew ?_ | refine blk_alloc ?_ _)); exact BK148.out) hb)
                       have n4_ := Aside0.mk (blk_below (g := gb159) (o := .cells #[.int .i64 0, .int .u64 0, .string (⟨#[]⟩ : ByteArray)] 32 (0, 0)) (by (with_reducible repeat (first | refine blk_drewN ?_ _ | refine blk_drew ?_ | refine blk_alloc ?_ _)); exact BK159.out) hb)
                       have n5_ := Aside0.mk (below_step (by repeat (first | (with_reducible first | exact HB.out | apply below_alloc | apply pw_below_drewN | apply below_drew1 | refine below_set ?_ GE148.out | refine below_set ?_ GE159.out) | exact HB.out)) hb)
                       clear HO_6
                       clear HO_9
                       clear BK148
                       clear BK159
                       clear HB
                       have HO_6 := n0_
                       have HO_9 := n1_
                       have HO155 := n2_
                       have BK148 := n3_
                       have BK159 := n4_
                       have HB := n5_
                       clear n0_ n1_ n2_ n3_ n4_ n5_
                       (try clear hb)
                       (try clear hb2)
                       (try clear hk)
                       (try clear hi)
                       (try clear ho0)
                       refine hK.out _ _ trivial (fun hHeld => ?_)
                       clear hK K
                       refine norm_ (a' := ?_) ?_ ?_
                       rotate_left
                       ·show Act.put _ (some 121) _ = _
                        simp only [Act.put,lz1,lz2,lz3,i64_w,i32_w]
                        rfl
                       refine pure_ (i:=14) (N := some 107) (v:=?_) (a':=?_) #[true,true,true,true,true,true,true,true,true,true,true,true,true,true,true,false,false,true,false,false] rfl rfl (any_of HT_.out (by kernel_rfl)) (fun _ _ _ h=>h) (Or.inl ⟨by rfl, ?_⟩) ?_ ?_
                       rotate_left
                       ·intro w'
                        go_simp
                        with_reducible rfl
                       rotate_left
                       ·simp only [Act.put,lz1,lz2,lz3,i64_w,i32_w]
                        rfl
                       refine pure_ (i:=15) (N := some 122) (v:=?_) (a':=?_) #[true,true,true,true,true,true,true,true,true,true,true,true,true,true,true,true,false,true,false,false] rfl rfl (any_of HT_.out (by kernel_rfl)) (fun _ _ _ h=>h) (Or.inl ⟨by rfl, ?_⟩) ?_ ?_
                       rotate_left
                       ·intro w'
                        go_simp
                        with_reducible rfl
                       rotate_left
                       ·simp only [Act.put,lz1,lz2,lz3,i64_w,i32_w]
                        rfl
                       refine pure_ (i:=16) (N := some 123) (v:=?_) (a':=?_) #[true,true,true,true,true,true,true,true,true,true,true,true,true,true,true,true,true,true,false,false] rfl rfl (any_of HT_.out (by kernel_rfl)) (fun _ _ _ h=>h) (Or.inl ⟨by rfl, ?_⟩) ?_ ?_
                       rotate_left
                       ·intro w'
                        go_simp
                        with_reducible rfl
                       rotate_left
                       ·simp only [Act.put,lz1,lz2,lz3,i64_w,i32_w]
                        rfl
                       exact norm_ (by simp only [putAll, Act.put, List.setIfInBounds_toArray, List.set_cons_zero, List.set_cons_succ]) (hCont (v154, gb159) _ ⟨(by (with_reducible repeat (first | apply Kd.R_alloc | apply Kd.R_drewN | apply Kd.R_drew)); exact Kd.R_mono HO155.out (fun _ hk => ⟨hk.1.2, hk.2⟩)), (by (with_reducible repeat (first | apply Kd.R_alloc | apply Kd.R_drewN | apply Kd.R_drew)); exact Kd.R_mono HO_6.out (fun _ hk => ⟨hk.2, hk.1⟩)), (by (with_reducible repeat (first | apply Kd.R_alloc | apply Kd.R_drewN | apply Kd.R_drew)); exact Kd.R_mono HO_9.out (fun _ hk => ⟨hk.2, hk.1⟩)), (by (with_reducible repeat (first | refine blk_drewN ?_ _ | refine blk_drew ?_ | refine blk_alloc ?_ _)); exact BK148.out), (by (with_reducible repeat (first | refine blk_drewN ?_ _ | refine blk_drew ?_ | refine blk_alloc ?_ _)); exact BK159.out), GW159.out, GE159.out, NB148_159.out, NB159_148.out, (by repeat (first | (with_reducible first | exact HB.out | apply below_alloc | apply pw_below_drewN | apply below_drew1 | refine below_set ?_ GE148.out | refine below_set ?_ GE159.out) | exact HB.out))⟩)
                     rintro ⟨v154, gb159⟩ w80 ⟨h0_, h1_, h2_, h3_, h4_, h5_, h6_, h7_, h8_, h9_⟩
                     have n0_ : Aside0 (Kd.R k38 38 w80 w.heap.size (fun k_ => some k_ ≠ (.slice Ao75 x6_1.length co75 : Value).ownBlock ∧ some k_ ≠ (v143 : Value).ownBlock) v154 t153) := ⟨h0_⟩
                     have n1_ : Aside0 (Kd.R k38 38 w80 w.heap.size (fun k_ => some k_ ≠ (v154 : Value).ownBlock ∧ some k_ ≠ (v143 : Value).ownBlock) (.slice Ao75 x6_1.length co75) x6_1) := ⟨h1_⟩
                     have n2_ : Aside0 (Kd.R k38 38 w80 w.heap.size (fun k_ => some k_ ≠ (v154 : Value).ownBlock ∧ some k_ ≠ (.slice Ao75 x6_1.length co75 : Value).ownBlock) v143 t142) := ⟨h2_⟩
                     have n3_ : Aside0 (w80.heap[gb148]? = some (.cells #[.int .i64 t145, .int .u64 t146, .string t147] 32 (0, 0))) := ⟨h3_⟩
                     have n4_ : Aside0 (w80.heap[gb159]? = some (.cells #[.int .i64 0, .int .u64 0, .string (⟨#[]⟩ : ByteArray)] 32 (0, 0))) := ⟨h4_⟩
                     have n5_ : Aside0 (w.heap.size ≤ gb159) := ⟨h5_⟩
                     have n6_ : Aside0 (w.heap.size ≤ gb159) := ⟨h6_⟩
                     have n7_ : Aside0 (gb148 ≠ gb159) := ⟨h7_⟩
                     have n8_ : Aside0 (gb159 ≠ gb148) := ⟨h8_⟩
                     have n9_ : Aside0 (Below w.heap.size w w80) := ⟨h9_⟩
                     clear HO_6
                     clear HO_9
                     clear BK148
                     clear HB
                     clear h0_ h1_ h2_ h3_ h4_ h5_ h6_ h7_ h8_ h9_
                     have HO155 := n0_
                     have HO_6 := n1_
                     have HO_9 := n2_
                     have BK148 := n3_
                     have BK159 := n4_
                     have GW159 := n5_
                     have GE159 := n6_
                     have NB148_159 := n7_
                     have NB159_148 := n8_
                     have HB := n9_
                     clear n0_ n1_ n2_ n3_ n4_ n5_ n6_ n7_ n8_ n9_
                     have hHeld := trivial
                     refine norm_ (a' := ?_) ?_ ?_
                     rotate_left
                     ·simp only [putAll, Act.put, List.setIfInBounds_toArray, List.set_cons_zero, List.set_cons_succ]
                      rfl
                     refine pure_ (i:=18) (N := some 13) (v:=?_) (a':=?_) #[true,true,true,true,true,true,true,true,true,true,true,true,true,true,true,true,true,true,true,false] rfl rfl (any_of HT_.out (by kernel_rfl)) (fun _ _ _ h=>h) (Or.inl ⟨by rfl, ?_⟩) ?_ ?_
                     rotate_left
                     ·intro w'
                      go_simp
                      with_reducible rfl
                     rotate_left
                     ·simp only [Act.put,lz1,lz2,lz3,i64_w,i32_w]
                      rfl
                     refine one_ (i := 19) (N := none) #[true,true,true,true,true,true,true,true,true,true,true,true,true,true,true,true,true,true,true,true] rfl rfl (one_of HT_.out (by kernel_rfl)) (by decide) (fun K hK => ?_)
                     have hs81 : w80.cell? ⟨gb159, 0, none⟩ = some (.int .i64 0) := (blk_cell BK159.out 0).trans rfl
                     have hfs81 := blk_frozen BK159.out 0
                     have hns81_0 := NB148_159.out
                     have hms81_0 := NB159_148.out
                     have hs82 : w80.cell? ⟨gb159, 1, none⟩ = some (.int .u64 0) := (blk_cell BK159.out 1).trans rfl
                     have hfs82 := blk_frozen BK159.out 1
                     have hns82_0 := NB148_159.out
                     have hms82_0 := NB159_148.out
                     have hs83 : w80.cell? ⟨gb159, 2, none⟩ = some (.string (⟨#[]⟩ : ByteArray)) := (blk_cell BK159.out 2).trans rfl
                     have hfs83 := blk_frozen BK159.out 2
                     have hns83_0 := NB148_159.out
                     have hms83_0 := NB159_148.out
                     refine skip_ (w1 := ?_) (by rfl) rfl ?_ ?_
                     rotate_left
                     ·go_simp
                      rfl
                     refine hK.out _ _ trivial (fun hHeld => ?_)
                     clear hK K
                     refine done_ (done_of HT_.out (by kernel_rfl)) ?_
                     have hnb84 := NB159_148.out
                     have hnc84 := NB148_159.out
                     have hcz85_0 : w80.cell? ⟨gb159, 0, none⟩ = some (.int .i64 0) := (blk_cell BK159.out 0).trans rfl
                     have hcz85_1 : w80.cell? ⟨gb159, 1, none⟩ = some (.int .u64 0) := (blk_cell BK159.out 1).trans rfl
                     have hcz85_2 : w80.cell? ⟨gb159, 2, none⟩ = some (.string (⟨#[]⟩ : ByteArray)) := (blk_cell BK159.out 2).trans rfl
                     have hfz85_0 := blk_frozen BK159.out 0
                     have hfz85_1 := blk_frozen BK159.out 1
                     have hfz85_2 := blk_frozen BK159.out 2
                     try go_wp2
                     go_ret
                     exact ⟨by first | rfl | (simp [errW_none, errW_some] <;> rfl) | (simp only [← hji64, ← hji69]; first | rfl | (simp [errW_none, errW_some] <;> rfl)) | (simp [*, errW_none, errW_some] <;> rfl), by repeat (first | (with_reducible first | exact HB.out | apply below_alloc | apply pw_below_drewN | apply below_drew1 | refine below_set ?_ GE148.out | refine below_set ?_ GE159.out) | exact HB.out)⟩
                    ·rw [if_neg c74] at H
                     have c74b0 : (t156 == 22) = false := beq_eq_false_iff_ne.mpr c74
                     have c74b1 : (t156 != 22) = true := bne_iff_ne.mpr c74
                     obtain rfl := Option.some.inj H
                     obtain ⟨Ao86, co86, eo86⟩ := Kd.R_slice HO_6.out
                     subst eo86
                     try go_wp2
                     have n0_ := Aside0.mk (Kd.R_drew HO_6.out)
                     have n1_ := Aside0.mk (Kd.R_drew HO_9.out)
                     have n2_ := Aside0.mk (blk_drew BK148.out)
                     have n3_ := Aside0.mk (below_drew1 HB.out)
                     clear HO_6
                     clear HO_9
                     clear BK148
                     clear HB
                     have HO_6 := n0_
                     have HO_9 := n1_
                     have BK148 := n2_
                     have HB := n3_
                     clear n0_ n1_ n2_ n3_
                     refine start_ (n := 20) (S := fun w' => True) (ds := []) #[false,false,false,false,false,false,false,false,false,false,false,false,false,false,false,false,false,false,false,false] (by kernel_rfl) rfl rfl trivial (fun hHeld => ?_); refine with_tabW turnbucklelaw15_RelaPlaces.tab24 turnbucklelaw15_RelaPlaces.bits24 (fun HT_ HW_ => ?_)
                     generalize wr.drew = w87 at HO_6 HO_9 BK148 HB hHeld ⊢
                     refine pure_ (i:=0) (N := some 108) (v:=?_) (a':=?_) #[true,false,false,false,false,false,false,false,false,false,false,false,false,false,false,false,false,false,false,false] rfl rfl (any_of HT_.out (by kernel_rfl)) (fun _ _ _ h=>h) (Or.inl ⟨by rfl, ?_⟩) ?_ ?_
                     rotate_left
                     ·intro w'
                      go_simp
                      with_reducible rfl
                     rotate_left
                     ·simp only [Act.put,lz1,lz2,lz3,i64_w,i32_w]
                      rfl
                     refine pure_ (i:=1) (N := some 109) (v:=?_) (a':=?_) #[true,true,false,false,false,false,false,false,false,false,false,false,false,false,false,false,false,false,false,false] rfl rfl (any_of HT_.out (by kernel_rfl)) (fun _ _ _ h=>h) (Or.inl ⟨by rfl, ?_⟩) ?_ ?_
                     rotate_left
                     ·intro w'
                      go_simp
                      with_reducible rfl
                     rotate_left
                     ·simp only [Act.put,lz1,lz2,lz3,i64_w,i32_w]
                      rfl
                     refine pure_ (i:=2) (N := some 110) (v:=?_) (a':=?_) #[true,true,true,false,false,false,false,false,false,false,false,false,false,false,false,false,false,false,false,false] rfl rfl (any_of HT_.out (by kernel_rfl)) (fun _ _ _ h=>h) (Or.inl ⟨by rfl, ?_⟩) ?_ ?_
                     rotate_left
                     ·intro w'
                      go_simp
                      with_reducible rfl
                     rotate_left
                     ·simp only [Act.put,lz1,lz2,lz3,i64_w,i32_w]
                      rfl
                     refine pure_ (i:=3) (N := some 111) (v:=?_) (a':=?_) #[true,true,true,true,false,false,false,false,false,false,false,false,false,false,false,false,false,false,false,false] rfl rfl (any_of HT_.out (by kernel_rfl)) (fun _ _ _ h=>h) (Or.inl ⟨by rfl, ?_⟩) ?_ ?_
                     rotate_left
                     ·intro w'
                      go_simp
                      with_reducible rfl
                     rotate_left
                     ·simp only [Act.put,lz1,lz2,lz3,i64_w,i32_w]
                      rfl
                     refine pure_ (i:=4) (N := some 112) (v:=?_) (a':=?_) #[true,true,true,true,true,false,false,false,false,false,false,false,false,false,false,false,false,false,false,false] rfl rfl (any_of HT_.out (by kernel_rfl)) (fun _ _ _ h=>h) (Or.inl ⟨by rfl, ?_⟩) ?_ ?_
                     rotate_left
                     ·intro w'
                      go_simp
                      with_reducible rfl
                     rotate_left
                     ·simp only [Act.put,lz1,lz2,lz3,i64_w,i32_w]
                      rfl
                     refine pure_ (i:=7) (N := some 115) (v:=?_) (a':=?_) #[true,true,true,true,true,false,false,true,false,false,false,false,false,false,false,false,false,false,false,false] rfl rfl (any_of HT_.out (by kernel_rfl)) (fun _ _ _ h=>h) (Or.inl ⟨by rfl, ?_⟩) ?_ ?_
                     rotate_left
                     ·intro w'
                      go_simp
                      with_reducible rfl
                     rotate_left
                     ·simp only [Act.put,lz1,lz2,lz3,i64_w,i32_w]
                      rfl
                     refine pure_ (i:=8) (N := some 116) (v:=?_) (a':=?_) #[true,true,true,true,true,false,false,true,true,false,false,false,false,false,false,false,false,false,false,false] rfl rfl (any_of HT_.out (by kernel_rfl)) (fun _ _ _ h=>h) (Or.inl ⟨by rfl, ?_⟩) ?_ ?_
                     rotate_left
                     ·intro w'
                      go_simp
                      with_reducible rfl
                     rotate_left
                     ·simp only [Act.put,lz1,lz2,lz3,i64_w,i32_w]
                      rfl
                     refine pure_ (i:=9) (N := some 117) (v:=?_) (a':=?_) #[true,true,true,true,true,false,false,true,true,true,false,false,false,false,false,false,false,false,false,false] rfl rfl (any_of HT_.out (by kernel_rfl)) (fun _ _ _ h=>h) (Or.inl ⟨by rfl, ?_⟩) ?_ ?_
                     rotate_left
                     ·intro w'
                      go_simp
                      with_reducible rfl
                     rotate_left
                     ·simp only [Act.put,lz1,lz2,lz3,i64_w,i32_w]
                      rfl
                     refine pure_ (i:=10) (N := some 118) (v:=?_) (a':=?_) #[true,true,true,true,true,false,false,true,true,true,true,false,false,false,false,false,false,false,false,false] rfl rfl (any_of HT_.out (by kernel_rfl)) (fun _ _ _ h=>h) (Or.inl ⟨by rfl, ?_⟩) ?_ ?_
                     rotate_left
                     ·intro w'
                      go_simp
                      with_reducible rfl
                     rotate_left
                     ·simp only [Act.put,lz1,lz2,lz3,i64_w,i32_w]
                      rfl
                     refine pure_ (i:=11) (N := some 119) (v:=?_) (a':=?_) #[true,true,true,true,true,false,false,true,true,true,true,true,false,false,false,false,false,false,false,false] rfl rfl (any_of HT_.out (by kernel_rfl)) (fun _ _ _ h=>h) (Or.inl ⟨by rfl, ?_⟩) ?_ ?_
                     rotate_left
                     ·intro w'
                      go_simp
                      with_reducible rfl
                     rotate_left
                     ·simp only [Act.put,lz1,lz2,lz3,i64_w,i32_w]
                      rfl
                     refine join_ (σ := Value × Nat) 2 #[true,true,true,true,true,true,true,true,true,true,true,true,true,true,true,true,true,true,false,false] (fun s_ => [(113, .string t152), (121, .tuple #[s_.1, .agg #[.int .i64 t156, .int .u64 t157, .string t158]]), (14, .pointer (some ⟨s_.2, 0, none⟩)), (114, .string ((x5_1.extract 0 ((ji64) : Int).toNat) ++ t152)), (120, .string (((x5_1.extract 0 ((ji64) : Int).toNat) ++ t152) ++ (x5_1.extract ((ji69) : Int).toNat x5_1.size))), (107, .tuple #[s_.1, .agg #[.int .i64 t156, .int .u64 t157, .string t158]]), (122, s_.1), (123, .agg #[.int .i64 t156, .int .u64 t157, .string t158])]) (fun s_ w' => (Kd.R k38 38 w' w.heap.size (fun k_ => some k_ ≠ (.slice Ao86 x6_1.length co86 : Value).ownBlock ∧ some k_ ≠ (v143 : Value).ownBlock) s_.1 t153) ∧ (Kd.R k38 38 w' w.heap.size (fun k_ => some k_ ≠ (s_.1 : Value).ownBlock ∧ some k_ ≠ (v143 : Value).ownBlock) (.slice Ao86 x6_1.length co86) x6_1) ∧ (Kd.R k38 38 w' w.heap.size (fun k_ => some k_ ≠ (s_.1 : Value).ownBlock ∧ some k_ ≠ (.slice Ao86 x6_1.length co86 : Value).ownBlock) v143 t142) ∧ (w'.heap[gb148]? = some (.cells #[.int .i64 t145, .int .u64 t146, .string t147] 32 (0, 0))) ∧ (w'.heap[s_.2]? = some (.cells #[.int .i64 0, .int .u64 0, .string (⟨#[]⟩ : ByteArray)] 32 (0, 0))) ∧ (w.heap.size ≤ s_.2) ∧ (w.heap.size ≤ s_.2) ∧ (gb148 ≠ s_.2) ∧ (s_.2 ≠ gb148) ∧ (Below w.heap.size w w')) ?_ ?_
                     rotate_left
                     ·intro hCont
                      refine two_ (i := 5) (j := 17) (Ni := some 113) (Nj := some 14) #[true,true,true,true,true,true,false,true,true,true,true,true,false,false,false,false,false,false,false,false] #[true,true,true,true,true,false,false,true,true,true,true,true,false,false,false,false,false,true,false,false] rfl rfl rfl rfl (two_of HT_.out (by kernel_rfl)) (by decide) (by decide) (fun K hK => ?_) (fun K hK => ?_)
                      ·skip
                       refine goes_ Try.func11 (by kernel_rfl) rfl #[.agg #[.int .u64 8, .int .i64 7, .int .i64 0, .int .u64 0]] (by rfl) rfl rfl (by (try simp only [List.map_toArray, List.map_cons, List.map_nil]); first | done | rfl | (simp only [List.length_drop, List.length_take]; rfl)) ?_
                       with_reducible refine (rela_Put.calls k4 8 7 0 0 t152 _ A67.out).mono ?_
                       rintro e w88 ⟨rfl, hb⟩
                       refine ⟨_, rfl, ?_⟩
                       have n0_ := Aside0.mk (Kd.R_below (by (with_reducible repeat (first | apply Kd.R_alloc | apply Kd.R_drewN | apply Kd.R_drew)); exact HO_6.out) hb)
                       have n1_ := Aside0.mk (Kd.R_below (by (with_reducible repeat (first | apply Kd.R_alloc | apply Kd.R_drewN | apply Kd.R_drew)); exact HO_9.out) hb)
                       have n2_ := Aside0.mk (blk_below (g := gb148) (o := .cells #[.int .i64 t145, .int .u64 t146, .string t147] 32 (0, 0)) (by (with_reducible repeat (first | refine blk_drewN ?_ _ | refine blk_drew ?_ | refine blk_alloc ?_ _)); exact BK148.out) hb)
                       have n3_ := Aside0.mk (below_step (by repeat (first | (with_reducible first | exact HB.out | apply below_alloc | apply pw_below_drewN | apply below_drew1 | refine below_set ?_ GE148.out) | exact HB.out)) hb)
                       clear HO_6
                       clear HO_9
                       clear BK148
                       clear HB
                       have HO_6 := n0_
                       have HO_9 := n1_
                       have BK148 := n2_
                       have HB := n3_
                       clear n0_ n1_ n2_ n3_
                       (try clear hb)
                       (try clear hb2)
                       (try clear hk)
                       (try clear hi)
                       refine hK.out _ _ trivial (fun hHeld => ?_)
                       clear hK K
                       refine norm_ (a' := ?_) ?_ ?_
                       rotate_left
                       ·show Act.put _ (some 113) _ = _
                        simp only [Act.put,lz1,lz2,lz3,i64_w,i32_w]
                        rfl
                       refine pure_ (i:=6) (N := some 114) (v:=?_) (a':=?_) #[true,true,true,true,true,true,true,true,true,true,true,true,false,false,false,false,false,false,false,false] rfl rfl (any_of HT_.out (by kernel_rfl)) (fun _ _ _ h=>h) (Or.inl ⟨by rfl, ?_⟩) ?_ ?_
                       rotate_left
                       ·intro w'
                        go_simp
                        first | with_reducible rfl | (refine Eq.trans (b := .ok (.value (.bool true)) w') ?_ (by with_reducible rfl); (repeat' (first | with_reducible rfl | split)); all_goals (first | rfl | (exfalso; simp_all; done))) | (refine Eq.trans (b := .ok (.value (.bool false)) w') ?_ (by with_reducible rfl); (repeat' (first | with_reducible rfl | split)); all_goals (first | rfl | (exfalso; simp_all; done)))
                       rotate_left
                       ·simp only [Act.put,lz1,lz2,lz3,i64_w,i32_w]
                        rfl
                       refine pure_ (i:=12) (N := some 120) (v:=?_) (a':=?_) #[true,true,true,true,true,true,true,true,true,true,true,true,true,false,false,false,false,false,false,false] rfl rfl (any_of HT_.out (by kernel_rfl)) (fun _ _ _ h=>h) (Or.inl ⟨by rfl, ?_⟩) ?_ ?_
                       rotate_left
                       ·intro w'
                        go_simp
                        first | with_reducible rfl | (refine Eq.trans (b := .ok (.value (.bool true)) w') ?_ (by with_reducible rfl); (repeat' (first | with_reducible rfl | split)); all_goals (first | rfl | (exfalso; simp_all; done))) | (refine Eq.trans (b := .ok (.value (.bool false)) w') ?_ (by with_reducible rfl); (repeat' (first | with_reducible rfl | split)); all_goals (first | rfl | (exfalso; simp_all; done)))
                       rotate_left
                       ·simp only [Act.put,lz1,lz2,lz3,i64_w,i32_w]
                        rfl
                       refine two_ (i := 13) (j := 17) (Ni := some 121) (Nj := some 14) #[true,true,true,true,true,true,true,true,true,true,true,true,true,true,false,false,false,false,false,false] #[true,true,true,true,true,true,true,true,true,true,true,true,true,false,false,false,false,true,false,false] rfl rfl rfl rfl (two_of HT_.out (by kernel_rfl)) (by decide) (by decide) (fun K hK => ?_) (fun K hK => ?_)
                       ·skip
                        refine goes_ Try.func9 (by kernel_rfl) rfl #[.string (((x5_1.extract 0 ((ji64) : Int).toNat) ++ t152) ++ (x5_1.extract ((ji69) : Int).toNat x5_1.size)), .int .i64 8] (by rfl) rfl rfl (by (try simp only [List.map_toArray, List.map_cons, List.map_nil]); first | done | (simp only [hji64, hji69]; rfl) | rfl | (simp only [List.length_drop, List.length_take]; rfl)) ?_
                        with_reducible refine (rela_Read.calls k4 (((x5_1.extract 0 ((ji64) : Int).toNat) ++ t152) ++ (x5_1.extract ((ji69) : Int).toNat x5_1.size)) 8 t153 t156 t157 t158 _ A73.out).mono ?_
                        rintro e w89 ⟨v154, rfl, ho0, hb⟩
                        refine ⟨_, rfl, ?_⟩
                        have n0_ := Aside0.mk (Kd.R_elder' (by (with_reducible repeat (first | apply Kd.R_alloc | apply Kd.R_drewN | apply Kd.R_drew)); exact HO_6.out) (Kd.R_base ho0) hb)
                        have n1_ := Aside0.mk (Kd.R_elder' (by (with_reducible repeat (first | apply Kd.R_alloc | apply Kd.R_drewN | apply Kd.R_drew)); exact HO_9.out) (Kd.R_base ho0) hb)
                        have n2_ := Aside0.mk (Kd.R_lower (Kd.R_new' (Kd.R_new' ho0 (Kd.R_lt (by (with_reducible repeat (first | apply Kd.R_alloc | apply Kd.R_drewN | apply Kd.R_drew)); exact HO_6.out))) (Kd.R_lt (by (with_reducible repeat (first | apply Kd.R_alloc | apply Kd.R_drewN | apply Kd.R_drew)); exact HO_9.out))) (below_size (by repeat (first | (with_reducible first | exact HB.out | apply below_alloc | apply pw_below_drewN | apply below_drew1 | refine below_set ?_ GE148.out) | exact HB.out))))
                        have n3_ := Aside0.mk (blk_below (g := gb148) (o := .cells #[.int .i64 t145, .int .u64 t146, .string t147] 32 (0, 0)) (by (with_reducible repeat (first | refine blk_drewN ?_ _ | refine blk_drew ?_ | refine blk_alloc ?_ _)); exact BK148.out) hb)
                        have n4_ := Aside0.mk (below_step (by repeat (first | (with_reducible first | exact HB.out | apply below_alloc | apply pw_below_drewN | apply below_drew1 | refine below_set ?_ GE148.out) | exact HB.out)) hb)
                        clear HO_6
                        clear HO_9
                        clear BK148
                        clear HB
                        have HO_6 := n0_
                        have HO_9 := n1_
                        have HO155 := n2_
                        have BK148 := n3_
                        have HB := n4_
                        clear n0_ n1_ n2_ n3_ n4_
                        (try clear hb)
                        (try clear hb2)
                        (try clear hk)
                        (try clear hi)
                        (try clear ho0)
                        refine hK.out _ _ trivial (fun hHeld => ?_)
                        clear hK K
                        refine norm_ (a' := ?_) ?_ ?_
                        rotate_left
                        ·show Act.put _ (some 121) _ = _
                         simp only [Act.put,lz1,lz2,lz3,i64_w,i32_w]
                         rfl
                        refine pure_ (i:=14) (N := some 107) (v:=?_) (a':=?_) #[true,true,true,true,true,true,true,true,true,true,true,true,true,true,true,false,false,false,false,false] rfl rfl (any_of HT_.out (by kernel_rfl)) (fun _ _ _ h=>h) (Or.inl ⟨by rfl, ?_⟩) ?_ ?_
                        rotate_left
                        ·intro w'
                         go_simp
                         with_reducible rfl
                        rotate_left
                        ·simp only [Act.put,lz1,lz2,lz3,i64_w,i32_w]
                         rfl
                        refine pure_ (i:=15) (N := some 122) (v:=?_) (a':=?_) #[true,true,true,true,true,true,true,true,true,true,true,true,true,true,true,true,false,false,false,false] rfl rfl (any_of HT_.out (by kernel_rfl)) (fun _ _ _ h=>h) (Or.inl ⟨by rfl, ?_⟩) ?_ ?_
                        rotate_left
                        ·intro w'
                         go_simp
                         with_reducible rfl
                        rotate_left
                        ·simp only [Act.put,lz1,lz2,lz3,i64_w,i32_w]
                         rfl
                        refine pure_ (i:=16) (N := some 123) (v:=?_) (a':=?_) #[true,true,true,true,true,true,true,true,true,true,true,true,true,true,true,true,true,false,false,false] rfl rfl (any_of HT_.out (by kernel_rfl)) (fun _ _ _ h=>h) (Or.inl ⟨by rfl, ?_⟩) ?_ ?_
                        rotate_left
                        ·intro w'
                         go_simp
                         with_reducible rfl
                        rotate_left
                        ·simp only [Act.put,lz1,lz2,lz3,i64_w,i32_w]
                         rfl
                        refine one_ (i := 17) (N := some 14) #[true,true,true,true,true,true,true,true,true,true,true,true,true,true,true,true,true,true,false,false] rfl rfl (one_of HT_.out (by kernel_rfl)) (by decide) (fun K hK => ?_)
                        refine box_step ?hg (N := 14) ?hd (cs := #[.int .i64 0, .int .u64 0, .string (⟨#[]⟩ : ByteArray)]) (t := 32) ?hr ?_; (case hd => rfl); (case hg => rfl); (case hr => first | (go_simp; done) | (go_simp; rfl))
                        intro gb159 hg w90 hbox hb
                        have n0_ := Aside0.mk (Kd.R_below (by (with_reducible repeat (first | apply Kd.R_alloc | apply Kd.R_drewN | apply Kd.R_drew)); exact HO_6.out) hb)
                        have n1_ := Aside0.mk (Kd.R_below (by (with_reducible repeat (first | apply Kd.R_alloc | apply Kd.R_drewN | apply Kd.R_drew)); exact HO_9.out) hb)
                        have n2_ := Aside0.mk (Kd.R_below (by (with_reducible repeat (first | apply Kd.R_alloc | apply Kd.R_drewN | apply Kd.R_drew)); exact HO155.out) hb)
                        have n3_ := Aside0.mk (blk_below (g := gb148) (o := .cells #[.int .i64 t145, .int .u64 t146, .string t147] 32 (0, 0)) (by (with_reducible repeat (first | refine blk_drewN ?_ _ | refine blk_drew ?_ | refine blk_alloc ?_ _)); exact BK148.out) hb)
                        have n4_ := Aside0.mk (below_step (by repeat (first | (with_reducible first | exact HB.out | apply below_alloc | apply pw_below_drewN | apply below_drew1 | refine below_set ?_ GE148.out) | exact HB.out)) hb)
                        have n5_ := Aside0.mk (hbox)
                        have n6_ := Aside0.mk ((by rw [hg]; exact (below_size (by repeat (first | (with_reducible first | exact HB.out | apply below_alloc | apply pw_below_drewN | apply below_drew1 | refine below_set ?_ GE148.out) | exact HB.out))) : w.heap.size ≤ gb159))
                        have n7_ := Aside0.mk ((by rw [hg]; exact (below_size (by repeat (first | (with_reducible first | exact HB.out | apply below_alloc | apply pw_below_drewN | apply below_drew1 | refine below_set ?_ GE148.out) | exact HB.out))) : w.heap.size ≤ gb159))
                        have n8_ := Aside0.mk ((by rw [hg]; exact Nat.ne_of_lt (blk_lt (g := gb148) (o := .cells #[.int .i64 t145, .int .u64 t146, .string t147] 32 (0, 0)) (by (with_reducible repeat (first | refine blk_drewN ?_ _ | refine blk_drew ?_ | refine blk_alloc ?_ _)); exact BK148.out)) : gb148 ≠ gb159))
                        have n9_ := Aside0.mk ((by rw [hg]; exact Nat.ne_of_gt (blk_lt (g := gb148) (o := .cells #[.int .i64 t145, .int .u64 t146, .string t147] 32 (0, 0)) (by (with_reducible repeat (first | refine blk_drewN ?_ _ | refine blk_drew ?_ | refine blk_alloc ?_ _)); exact BK148.out)) : gb159 ≠ gb148))
                        clear HO_6
                        clear HO_9
                        clear HO155
                        clear BK148
                        clear HB
                        have HO_6 := n0_
                        have HO_9 := n1_
                        have HO155 := n2_
                        have BK148 := n3_
                        have HB := n4_
                        have BK159 := n5_
                        have GW159 := n6_
                        have GE159 := n7_
                        have NB148_159 := n8_
                        have NB159_148 := n9_
                        clear n0_ n1_ n2_ n3_ n4_ n5_ n6_ n7_ n8_ n9_
                        clear hb hbox hg
                        refine hK.out _ _ trivial (fun hHeld => ?_)
                        clear hK K
                        refine norm_ (a' := ?_) ?_ ?_
                        rotate_left
                        ·show Act.put _ (some 14) _ = _
                         simp only [Act.put,lz1,lz2,lz3,i64_w,i32_w]
                         rfl
                        exact norm_ (by simp only [putAll, Act.put, List.setIfInBounds_toArray, List.set_cons_zero, List.set_cons_succ]) (hCont (v154, gb159) _ ⟨(by (with_reducible repeat (first | apply Kd.R_alloc | apply Kd.R_drewN | apply Kd.R_drew)); exact Kd.R_mono HO155.out (fun _ hk => ⟨hk.1.2, hk.2⟩)), (by (with_reducible repeat (first | apply Kd.R_alloc | apply Kd.R_drewN | apply Kd.R_drew)); exact Kd.R_mono HO_6.out (fun _ hk => ⟨hk.2, hk.1⟩)), (by (with_reducible repeat (first | apply Kd.R_alloc | apply Kd.R_drewN | apply Kd.R_drew)); exact Kd.R_mono HO_9.out (fun _ hk => ⟨hk.2, hk.1⟩)), (by (with_reducible repeat (first | refine blk_drewN ?_ _ | refine blk_drew ?_ | refine blk_alloc ?_ _)); exact BK148.out), (by (with_reducible repeat (first | refine blk_drewN ?_ _ | refine blk_drew ?_ | refine blk_alloc ?_ _)); exact BK159.out), GW159.out, GE159.out, NB148_159.out, NB159_148.out, (by repeat (first | (with_reducible first | exact HB.out | apply below_alloc | apply pw_below_drewN | apply below_drew1 | refine below_set ?_ GE148.out | refine below_set ?_ GE159.out) | exact HB.out))⟩)
                       ·skip
                        refine box_step ?hg (N := 14) ?hd (cs := #[.int .i64 0, .int .u64 0, .string (⟨#[]⟩ : ByteArray)]) (t := 32) ?hr ?_; (case hd => rfl); (case hg => rfl); (case hr => first | (go_simp; done) | (go_simp; rfl))
                        intro gb159 hg w89 hbox hb
                        have n0_ := Aside0.mk (Kd.R_below (by (with_reducible repeat (first | apply Kd.R_alloc | apply Kd.R_drewN | apply Kd.R_drew)); exact HO_6.out) hb)
                        have n1_ := Aside0.mk (Kd.R_below (by (with_reducible repeat (first | apply Kd.R_alloc | apply Kd.R_drewN | apply Kd.R_drew)); exact HO_9.out) hb)
                        have n2_ := Aside0.mk (blk_below (g := gb148) (o := .cells #[.int .i64 t145, .int .u64 t146, .string t147] 32 (0, 0)) (by (with_reducible repeat (first | refine blk_drewN ?_ _ | refine blk_drew ?_ | refine blk_alloc ?_ _)); exact BK148.out) hb)
                        have n3_ := Aside0.mk (below_step (by repeat (first | (with_reducible first | exact HB.out | apply below_alloc | apply pw_below_drewN | apply below_drew1 | refine below_set ?_ GE148.out) | exact HB.out)) hb)
                        have n4_ := Aside0.mk (hbox)
                        have n5_ := Aside0.mk ((by rw [hg]; exact (below_size (by repeat (first | (with_reducible first | exact HB.out | apply below_alloc | apply pw_below_drewN | apply below_drew1 | refine below_set ?_ GE148.out) | exact HB.out))) : w.heap.size ≤ gb159))
                        have n6_ := Aside0.mk ((by rw [hg]; exact (below_size (by repeat (first | (with_reducible first | exact HB.out | apply below_alloc | apply pw_below_drewN | apply below_drew1 | refine below_set ?_ GE148.out) | exact HB.out))) : w.heap.size ≤ gb159))
                        have n7_ := Aside0.mk ((by rw [hg]; exact Nat.ne_of_lt (blk_lt (g := gb148) (o := .cells #[.int .i64 t145, .int .u64 t146, .string t147] 32 (0, 0)) (by (with_reducible repeat (first | refine blk_drewN ?_ _ | refine blk_drew ?_ | refine blk_alloc ?_ _)); exact BK148.out)) : gb148 ≠ gb159))
                        have n8_ := Aside0.mk ((by rw [hg]; exact Nat.ne_of_gt (blk_lt (g := gb148) (o := .cells #[.int .i64 t145, .int .u64 t146, .string t147] 32 (0, 0)) (by (with_reducible repeat (first | refine blk_drewN ?_ _ | refine blk_drew ?_ | refine blk_alloc ?_ _)); exact BK148.out)) : gb159 ≠ gb148))
                        clear HO_6
                        clear HO_9
                        clear BK148
                        clear HB
                        have HO_6 := n0_
                        have HO_9 := n1_
                        have BK148 := n2_
                        have HB := n3_
                        have BK159 := n4_
                        have GW159 := n5_
                        have GE159 := n6_
                        have NB148_159 := n7_
                        have NB159_148 := n8_
                        clear n0_ n1_ n2_ n3_ n4_ n5_ n6_ n7_ n8_
                        clear hb hbox hg
                        refine hK.out _ _ trivial (fun hHeld => ?_)
                        clear hK K
                        refine norm_ (a' := ?_) ?_ ?_
                        rotate_left
                        ·show Act.put _ (some 14) _ = _
                         simp only [Act.put,lz1,lz2,lz3,i64_w,i32_w]
                         rfl
                        refine one_ (i := 13) (N := some 121) #[true,true,true,true,true,true,true,true,true,true,true,true,true,true,false,false,false,true,false,false] rfl rfl (one_of HT_.out (by kernel_rfl)) (by decide) (fun K hK => ?_)
                        refine goes_ Try.func9 (by kernel_rfl) rfl #[.string (((x5_1.extract 0 ((ji64) : Int).toNat) ++ t152) ++ (x5_1.extract ((ji69) : Int).toNat x5_1.size)), .int .i64 8] (by rfl) rfl rfl (by (try simp only [List.map_toArray, List.map_cons, List.map_nil]); first | done | (simp only [hji64, hji69]; rfl) | rfl | (simp only [List.length_drop, List.length_take]; rfl)) ?_
                        with_reducible refine (rela_Read.calls k4 (((x5_1.extract 0 ((ji64) : Int).toNat) ++ t152) ++ (x5_1.extract ((ji69) : Int).toNat x5_1.size)) 8 t153 t156 t157 t158 _ A73.out).mono ?_
                        rintro e w90 ⟨v154, rfl, ho0, hb⟩
                        refine ⟨_, rfl, ?_⟩
                        have n0_ := Aside0.mk (Kd.R_elder' (by (with_reducible repeat (first | apply Kd.R_alloc | apply Kd.R_drewN | apply Kd.R_drew)); exact HO_6.out) (Kd.R_base ho0) hb)
                        have n1_ := Aside0.mk (Kd.R_elder' (by (with_reducible repeat (first | apply Kd.R_alloc | apply Kd.R_drewN | apply Kd.R_drew)); exact HO_9.out) (Kd.R_base ho0) hb)
                        have n2_ := Aside0.mk (Kd.R_lower (Kd.R_new' (Kd.R_new' ho0 (Kd.R_lt (by (with_reducible repeat (first | apply Kd.R_alloc | apply Kd.R_drewN | apply Kd.R_drew)); exact HO_6.out))) (Kd.R_lt (by (with_reducible repeat (first | apply Kd.R_alloc | apply Kd.R_drewN | apply Kd.R_drew)); exact HO_9.out))) (below_size (by repeat (first | (with_reducible first | exact HB.out | apply below_alloc | apply pw_below_drewN | apply below_drew1 | refine below_set ?_ GE148.out | refine below_set ?_ GE159.out) | exact HB.out))))
                        have n3_ := Aside0.mk (blk_below (g := gb148) (o := .cells #[.int .i64 t145, .int .u64 t146, .string t147] 32 (0, 0)) (by (with_reducible repeat (first | refine blk_drewN ?_ _ | refine blk_drew ?_ | refine blk_alloc ?_ _)); exact BK148.out) hb)
                        have n4_ := Aside0.mk (blk_below (g := gb159) (o := .cells #[.int .i64 0, .int .u64 0, .string (⟨#[]⟩ : ByteArray)] 32 (0, 0)) (by (with_reducible repeat (first | refine blk_drewN ?_ _ | refine blk_drew ?_ | refine blk_alloc ?_ _)); exact BK159.out) hb)
                        have n5_ := Aside0.mk (below_step (by repeat (first | (with_reducible first | exact HB.out | apply below_alloc | apply pw_below_drewN | apply below_drew1 | refine below_set ?_ GE148.out | refine below_set ?_ GE159.out) | exact HB.out)) hb)
                        clear HO_6
                        clear HO_9
                        clear BK148
                        clear BK159
                        clear HB
                        have HO_6 := n0_
                        have HO_9 := n1_
                        have HO155 := n2_
                        have BK148 := n3_
                        have BK159 := n4_
                        have HB := n5_
                        clear n0_ n1_ n2_ n3_ n4_ n5_
                        (try clear hb)
                        (try clear hb2)
                        (try clear hk)
                        (try clear hi)
                        (try clear ho0)
                        refine hK.out _ _ trivial (fun hHeld => ?_)
                        clear hK K
                        refine norm_ (a' := ?_) ?_ ?_
                        rotate_left
                        ·show Act.put _ (some 121) _ = _
                         simp only [Act.put,lz1,lz2,lz3,i64_w,i32_w]
                         rfl
                        refine pure_ (i:=14) (N := some 107) (v:=?_) (a':=?_) #[true,true,true,true,true,true,true,true,true,true,true,true,true,true,true,false,false,true,false,false] rfl rfl (any_of HT_.out (by kernel_rfl)) (fun _ _ _ h=>h) (Or.inl ⟨by rfl, ?_⟩) ?_ ?_
                        rotate_left
                        ·intro w'
                         go_simp
                         with_reducible rfl
                        rotate_left
                        ·simp only [Act.put,lz1,lz2,lz3,i64_w,i32_w]
                         rfl
                        refine pure_ (i:=15) (N := some 122) (v:=?_) (a':=?_) #[true,true,true,true,true,true,true,true,true,true,true,true,true,true,true,true,false,true,false,false] rfl rfl (any_of HT_.out (by kernel_rfl)) (fun _ _ _ h=>h) (Or.inl ⟨by rfl, ?_⟩) ?_ ?_
                        rotate_left
                        ·intro w'
                         go_simp
                         with_reducible rfl
                        rotate_left
                        ·simp only [Act.put,lz1,lz2,lz3,i64_w,i32_w]
                         rfl
                        refine pure_ (i:=16) (N := some 123) (v:=?_) (a':=?_) #[true,true,true,true,true,true,true,true,true,true,true,true,true,true,true,true,true,true,false,false] rfl rfl (any_of HT_.out (by kernel_rfl)) (fun _ _ _ h=>h) (Or.inl ⟨by rfl, ?_⟩) ?_ ?_
                        rotate_left
                        ·intro w'
                         go_simp
                         with_reducible rfl
                        rotate_left
                        ·simp only [Act.put,lz1,lz2,lz3,i64_w,i32_w]
                         rfl
                        exact norm_ (by simp only [putAll, Act.put, List.setIfInBounds_toArray, List.set_cons_zero, List.set_cons_succ]) (hCont (v154, gb159) _ ⟨(by (with_reducible repeat (first | apply Kd.R_alloc | apply Kd.R_drewN | apply Kd.R_drew)); exact Kd.R_mono HO155.out (fun _ hk => ⟨hk.1.2, hk.2⟩)), (by (with_reducible repeat (first | apply Kd.R_alloc | apply Kd.R_drewN | apply Kd.R_drew)); exact Kd.R_mono HO_6.out (fun _ hk => ⟨hk.2, hk.1⟩)), (by (with_reducible repeat (first | apply Kd.R_alloc | apply Kd.R_drewN | apply Kd.R_drew)); exact Kd.R_mono HO_9.out (fun _ hk => ⟨hk.2, hk.1⟩)), (by (with_reducible repeat (first | refine blk_drewN ?_ _ | refine blk_drew ?_ | refine blk_alloc ?_ _)); exact BK148.out), (by (with_reducible repeat (first | refine blk_drewN ?_ _ | refine blk_drew ?_ | refine blk_alloc ?_ _)); exact BK159.out), GW159.out, GE159.out, NB148_159.out, NB159_148.out, (by repeat (first | (with_reducible first | exact HB.out | apply below_alloc | apply pw_below_drewN | apply below_drew1 | refine below_set ?_ GE148.out | refine below_set ?_ GE159.out) | exact HB.out))⟩)
                      ·skip
                       refine box_step ?hg (N := 14) ?hd (cs := #[.int .i64 0, .int .u64 0, .string (⟨#[]⟩ : ByteArray)]) (t := 32) ?hr ?_; (case hd => rfl); (case hg => rfl); (case hr => first | (go_simp; done) | (go_simp; rfl))
                       intro gb159 hg w88 hbox hb
                       have n0_ := Aside0.mk (Kd.R_below (by (with_reducible repeat (first | apply Kd.R_alloc | apply Kd.R_drewN | apply Kd.R_drew)); exact HO_6.out) hb)
                       have n1_ := Aside0.mk (Kd.R_below (by (with_reducible repeat (first | apply Kd.R_alloc | apply Kd.R_drewN | apply Kd.R_drew)); exact HO_9.out) hb)
                       have n2_ := Aside0.mk (blk_below (g := gb148) (o := .cells #[.int .i64 t145, .int .u64 t146, .string t147] 32 (0, 0)) (by (with_reducible repeat (first | refine blk_drewN ?_ _ | refine blk_drew ?_ | refine blk_alloc ?_ _)); exact BK148.out) hb)
                       have n3_ := Aside0.mk (below_step (by repeat (first | (with_reducible first | exact HB.out | apply below_alloc | apply pw_below_drewN | apply below_drew1 | refine below_set ?_ GE148.out) | exact HB.out)) hb)
                       have n4_ := Aside0.mk (hbox)
                       have n5_ := Aside0.mk ((by rw [hg]; exact (below_size (by repeat (first | (with_reducible first | exact HB.out | apply below_alloc | apply pw_below_drewN | apply below_drew1 | refine below_set ?_ GE148.out) | exact HB.out))) : w.heap.size ≤ gb159))
                       have n6_ := Aside0.mk ((by rw [hg]; exact (below_size (by repeat (first | (with_reducible first | exact HB.out | apply below_alloc | apply pw_below_drewN | apply below_drew1 | refine below_set ?_ GE148.out) | exact HB.out))) : w.heap.size ≤ gb159))
                       have n7_ := Aside0.mk ((by rw [hg]; exact Nat.ne_of_lt (blk_lt (g := gb148) (o := .cells #[.int .i64 t145, .int .u64 t146, .string t147] 32 (0, 0)) (by (with_reducible repeat (first | refine blk_drewN ?_ _ | refine blk_drew ?_ | refine blk_alloc ?_ _)); exact BK148.out)) : gb148 ≠ gb159))
                       have n8_ := Aside0.mk ((by rw [hg]; exact Nat.ne_of_gt (blk_lt (g := gb148) (o := .cells #[.int .i64 t145, .int .u64 t146, .string t147] 32 (0, 0)) (by (with_reducible repeat (first | refine blk_drewN ?_ _ | refine blk_drew ?_ | refine blk_alloc ?_ _)); exact BK148.out)) : gb159 ≠ gb148))
                       clear HO_6
                       clear HO_9
                       clear BK148
                       clear HB
                       have HO_6 := n0_
                       have HO_9 := n1_
                       have BK148 := n2_
                       have HB := n3_
                       have BK159 := n4_
                       have GW159 := n5_
                       have GE159 := n6_
                       have NB148_159 := n7_
                       have NB159_148 := n8_
                       clear n0_ n1_ n2_ n3_ n4_ n5_ n6_ n7_ n8_
                       clear hb hbox hg
                       refine hK.out _ _ trivial (fun hHeld => ?_)
                       clear hK K
                       refine norm_ (a' := ?_) ?_ ?_
                       rotate_left
                       ·show Act.put _ (some 14) _ = _
                        simp only [Act.put,lz1,lz2,lz3,i64_w,i32_w]
                        rfl
                       refine one_ (i := 5) (N := some 113) #[true,true,true,true,true,true,false,true,true,true,true,true,false,false,false,false,false,true,false,false] rfl rfl (one_of HT_.out (by kernel_rfl)) (by decide) (fun K hK => ?_)
                       refine goes_ Try.func11 (by kernel_rfl) rfl #[.agg #[.int .u64 8, .int .i64 7, .int .i64 0, .int .u64 0]] (by rfl) rfl rfl (by (try simp only [List.map_toArray, List.map_cons, List.map_nil]); first | done | rfl | (simp only [List.length_drop, List.length_take]; rfl)) ?_
                       with_reducible refine (rela_Put.calls k4 8 7 0 0 t152 _ A67.out).mono ?_
                       rintro e w89 ⟨rfl, hb⟩
                       refine ⟨_, rfl, ?_⟩
                       have n0_ := Aside0.mk (Kd.R_below (by (with_reducible repeat (first | apply Kd.R_alloc | apply Kd.R_drewN | apply Kd.R_drew)); exact HO_6.out) hb)
                       have n1_ := Aside0.mk (Kd.R_below (by (with_reducible repeat (first | apply Kd.R_alloc | apply Kd.R_drewN | apply Kd.R_drew)); exact HO_9.out) hb)
                       have n2_ := Aside0.mk (blk_below (g := gb148) (o := .cells #[.int .i64 t145, .int .u64 t146, .string t147] 32 (0, 0)) (by (with_reducible repeat (first | refine blk_drewN ?_ _ | refine blk_drew ?_ | refine blk_alloc ?_ _)); exact BK148.out) hb)
                       have n3_ := Aside0.mk (blk_below (g := gb159) (o := .cells #[.int .i64 0, .int .u64 0, .string (⟨#[]⟩ : ByteArray)] 32 (0, 0)) (by (with_reducible repeat (first | refine blk_drewN ?_ _ | refine blk_drew ?_ | refine blk_alloc ?_ _)); exact BK159.out) hb)
                       have n4_ := Aside0.mk (below_step (by repeat (first | (with_reducible first | exact HB.out | apply below_alloc | apply pw_below_drewN | apply below_drew1 | refine below_set ?_ GE148.out | refine below_set ?_ GE159.out) | exact HB.out)) hb)
                       clear HO_6
                       clear HO_9
                       clear BK148
                       clear BK159
                       clear HB
                       have HO_6 := n0_
                       have HO_9 := n1_
                       have BK148 := n2_
                       have BK159 := n3_
                       have HB := n4_
                       clear n0_ n1_ n2_ n3_ n4_
                       (try clear hb)
                       (try clear hb2)
                       (try clear hk)
                       (try clear hi)
                       refine hK.out _ _ trivial (fun hHeld => ?_)
                       clear hK K
                       refine norm_ (a' := ?_) ?_ ?_
                       rotate_left
                       ·show Act.put _ (some 113) _ = _
                        simp only [Act.put,lz1,lz2,lz3,i64_w,i32_w]
                        rfl
                       refine pure_ (i:=6) (N := some 114) (v:=?_) (a':=?_) #[true,true,true,true,true,true,true,true,true,true,true,true,false,false,false,false,false,true,false,false] rfl rfl (any_of HT_.out (by kernel_rfl)) (fun _ _ _ h=>h) (Or.inl ⟨by rfl, ?_⟩) ?_ ?_
                       rotate_left
                       ·intro w'
                        go_simp
                        first | with_reducible rfl | (refine Eq.trans (b := .ok (.value (.bool true)) w') ?_ (by with_reducible rfl); (repeat' (first | with_reducible rfl | split)); all_goals (first | rfl | (exfalso; simp_all; done))) | (refine Eq.trans (b := .ok (.value (.bool false)) w') ?_ (by with_reducible rfl); (repeat' (first | with_reducible rfl | split)); all_goals (first | rfl | (exfalso; simp_all; done)))
                       rotate_left
                       ·simp only [Act.put,lz1,lz2,lz3,i64_w,i32_w]
                        rfl
                       refine pure_ (i:=12) (N := some 120) (v:=?_) (a':=?_) #[true,true,true,true,true,true,true,true,true,true,true,true,true,false,false,false,false,true,false,false] rfl rfl (any_of HT_.out (by kernel_rfl)) (fun _ _ _ h=>h) (Or.inl ⟨by rfl, ?_⟩) ?_ ?_
                       rotate_left
                       ·intro w'
                        go_simp
                        first | with_reducible rfl | (refine Eq.trans (b := .ok (.value (.bool true)) w') ?_ (by with_reducible rfl); (repeat' (first | with_reducible rfl | split)); all_goals (first | rfl | (exfalso; simp_all; done))) | (refine Eq.trans (b := .ok (.value (.bool false)) w') ?_ (by with_reducible rfl); (repeat' (first | with_reducible rfl | split)); all_goals (first | rfl | (exfalso; simp_all; done)))
                       rotate_left
                       ·simp only [Act.put,lz1,lz2,lz3,i64_w,i32_w]
                        rfl
                       refine one_ (i := 13) (N := some 121) #[true,true,true,true,true,true,true,true,true,true,true,true,true,true,false,false,false,true,false,false] rfl rfl (one_of HT_.out (by kernel_rfl)) (by decide) (fun K hK => ?_)
                       refine goes_ Try.func9 (by kernel_rfl) rfl #[.string (((x5_1.extract 0 ((ji64) : Int).toNat) ++ t152) ++ (x5_1.extract ((ji69) : Int).toNat x5_1.size)), .int .i64 8] (by rfl) rfl rfl (by (try simp only [List.map_toArray, List.map_cons, List.map_nil]); first | done | (simp only [hji64, hji69]; rfl) | rfl | (simp only [List.length_drop, List.length_take]; rfl)) ?_
                       with_reducible refine (rela_Read.calls k4 (((x5_1.extract 0 ((ji64) : Int).toNat) ++ t152) ++ (x5_1.extract ((ji69) : Int).toNat x5_1.size)) 8 t153 t156 t157 t158 _ A73.out).mono ?_
                       rintro e w90 ⟨v154, rfl, ho0, hb⟩
                       refine ⟨_, rfl, ?_⟩
                       have n0_ := Aside0.mk (Kd.R_elder' (by (with_reducible repeat (first | apply Kd.R_alloc | apply Kd.R_drewN | apply Kd.R_drew)); exact HO_6.out) (Kd.R_base ho0) hb)
                       have n1_ := Aside0.mk (Kd.R_elder' (by (with_reducible repeat (first | apply Kd.R_alloc | apply Kd.R_drewN | apply Kd.R_drew)); exact HO_9.out) (Kd.R_base ho0) hb)
                       have n2_ := Aside0.mk (Kd.R_lower (Kd.R_new' (Kd.R_new' ho0 (Kd.R_lt (by (with_reducible repeat (first | apply Kd.R_alloc | apply Kd.R_drewN | apply Kd.R_drew)); exact HO_6.out))) (Kd.R_lt (by (with_reducible repeat (first | apply Kd.R_alloc | apply Kd.R_drewN | apply Kd.R_drew)); exact HO_9.out))) (below_size (by repeat (first | (with_reducible first | exact HB.out | apply below_alloc | apply pw_below_drewN | apply below_drew1 | refine below_set ?_ GE148.out | refine below_set ?_ GE159.out) | exact HB.out))))
                       have n3_ := Aside0.mk (blk_below (g := gb148) (o := .cells #[.int .i64 t145, .int .u64 t146, .string t147] 32 (0, 0)) (by (with_reducible repeat (first | refine blk_drewN ?_ _ | refine blk_drew ?_ | refine blk_alloc ?_ _)); exact BK148.out) hb)
                       have n4_ := Aside0.mk (blk_below (g := gb159) (o := .cells #[.int .i64 0, .int .u64 0, .string (⟨#[]⟩ : ByteArray)] 32 (0, 0)) (by (with_reducible repeat (first | refine blk_drewN ?_ _ | refine blk_drew ?_ | refine blk_alloc ?_ _)); exact BK159.out) hb)
                       have n5_ := Aside0.mk (below_step (by repeat (first | (with_reducible first | exact HB.out | apply below_alloc | apply pw_below_drewN | apply below_drew1 | refine below_set ?_ GE148.out | refine below_set ?_ GE159.out) | exact HB.out)) hb)
                       clear HO_6
                       clear HO_9
                       clear BK148
                       clear BK159
                       clear HB
                       have HO_6 := n0_
                       have HO_9 := n1_
                       have HO155 := n2_
                       have BK148 := n3_
                       have BK159 := n4_
                       have HB := n5_
                       clear n0_ n1_ n2_ n3_ n4_ n5_
                       (try clear hb)
                       (try clear hb2)
                       (try clear hk)
                       (try clear hi)
                       (try clear ho0)
                       refine hK.out _ _ trivial (fun hHeld => ?_)
                       clear hK K
                       refine norm_ (a' := ?_) ?_ ?_
                       rotate_left
                       ·show Act.put _ (some 121) _ = _
                        simp only [Act.put,lz1,lz2,lz3,i64_w,i32_w]
                        rfl
                       refine pure_ (i:=14) (N := some 107) (v:=?_) (a':=?_) #[true,true,true,true,true,true,true,true,true,true,true,true,true,true,true,false,false,true,false,false] rfl rfl (any_of HT_.out (by kernel_rfl)) (fun _ _ _ h=>h) (Or.inl ⟨by rfl, ?_⟩) ?_ ?_
                       rotate_left
                       ·intro w'
                        go_simp
                        with_reducible rfl
                       rotate_left
                       ·simp only [Act.put,lz1,lz2,lz3,i64_w,i32_w]
                        rfl
                       refine pure_ (i:=15) (N := some 122) (v:=?_) (a':=?_) #[true,true,true,true,true,true,true,true,true,true,true,true,true,true,true,true,false,true,false,false] rfl rfl (any_of HT_.out (by kernel_rfl)) (fun _ _ _ h=>h) (Or.inl ⟨by rfl, ?_⟩) ?_ ?_
                       rotate_left
                       ·intro w'
                        go_simp
                        with_reducible rfl
                       rotate_left
                       ·simp only [Act.put,lz1,lz2,lz3,i64_w,i32_w]
                        rfl
                       refine pure_ (i:=16) (N := some 123) (v:=?_) (a':=?_) #[true,true,true,true,true,true,true,true,true,true,true,true,true,true,true,true,true,true,false,false] rfl rfl (any_of HT_.out (by kernel_rfl)) (fun _ _ _ h=>h) (Or.inl ⟨by rfl, ?_⟩) ?_ ?_
                       rotate_left
                       ·intro w'
                        go_simp
                        with_reducible rfl
                       rotate_left
                       ·simp only [Act.put,lz1,lz2,lz3,i64_w,i32_w]
                        rfl
                       exact norm_ (by simp only [putAll, Act.put, List.setIfInBounds_toArray, List.set_cons_zero, List.set_cons_succ]) (hCont (v154, gb159) _ ⟨(by (with_reducible repeat (first | apply Kd.R_alloc | apply Kd.R_drewN | apply Kd.R_drew)); exact Kd.R_mono HO155.out (fun _ hk => ⟨hk.1.2, hk.2⟩)), (by (with_reducible repeat (first | apply Kd.R_alloc | apply Kd.R_drewN | apply Kd.R_drew)); exact Kd.R_mono HO_6.out (fun _ hk => ⟨hk.2, hk.1⟩)), (by (with_reducible repeat (first | apply Kd.R_alloc | apply Kd.R_drewN | apply Kd.R_drew)); exact Kd.R_mono HO_9.out (fun _ hk => ⟨hk.2, hk.1⟩)), (by (with_reducible repeat (first | refine blk_drewN ?_ _ | refine blk_drew ?_ | refine blk_alloc ?_ _)); exact BK148.out), (by (with_reducible repeat (first | refine blk_drewN ?_ _ | refine blk_drew ?_ | refine blk_alloc ?_ _)); exact BK159.out), GW159.out, GE159.out, NB148_159.out, NB159_148.out, (by repeat (first | (with_reducible first | exact HB.out | apply below_alloc | apply pw_below_drewN | apply below_drew1 | refine below_set ?_ GE148.out | refine below_set ?_ GE159.out) | exact HB.out))⟩)
                     rintro ⟨v154, gb159⟩ w91 ⟨h0_, h1_, h2_, h3_, h4_, h5_, h6_, h7_, h8_, h9_⟩
                     have n0_ : Aside0 (Kd.R k38 38 w91 w.heap.size (fun k_ => some k_ ≠ (.slice Ao86 x6_1.length co86 : Value).ownBlock ∧ some k_ ≠ (v143 : Value).ownBlock) v154 t153) := ⟨h0_⟩
                     have n1_ : Aside0 (Kd.R k38 38 w91 w.heap.size (fun k_ => some k_ ≠ (v154 : Value).ownBlock ∧ some k_ ≠ (v143 : Value).ownBlock) (.slice Ao86 x6_1.length co86) x6_1) := ⟨h1_⟩
                     have n2_ : Aside0 (Kd.R k38 38 w91 w.heap.size (fun k_ => some k_ ≠ (v154 : Value).ownBlock ∧ some k_ ≠ (.slice Ao86 x6_1.length co86 : Value).ownBlock) v143 t142) := ⟨h2_⟩
                     have n3_ : Aside0 (w91.heap[gb148]? = some (.cells #[.int .i64 t145, .int .u64 t146, .string t147] 32 (0, 0))) := ⟨h3_⟩
                     have n4_ : Aside0 (w91.heap[gb159]? = some (.cells #[.int .i64 0, .int .u64 0, .string (⟨#[]⟩ : ByteArray)] 32 (0, 0))) := ⟨h4_⟩
                     have n5_ : Aside0 (w.heap.size ≤ gb159) := ⟨h5_⟩
                     have n6_ : Aside0 (w.heap.size ≤ gb159) := ⟨h6_⟩
                     have n7_ : Aside0 (gb148 ≠ gb159) := ⟨h7_⟩
                     have n8_ : Aside0 (gb159 ≠ gb148) := ⟨h8_⟩
                     have n9_ : Aside0 (Below w.heap.size w w91) := ⟨h9_⟩
                     clear HO_6
                     clear HO_9
                     clear BK148
                     clear HB
                     clear h0_ h1_ h2_ h3_ h4_ h5_ h6_ h7_ h8_ h9_
                     have HO155 := n0_
                     have HO_6 := n1_
                     have HO_9 := n2_
                     have BK148 := n3_
                     have BK159 := n4_
                     have GW159 := n5_
                     have GE159 := n6_
                     have NB148_159 := n7_
                     have NB159_148 := n8_
                     have HB := n9_
                     clear n0_ n1_ n2_ n3_ n4_ n5_ n6_ n7_ n8_ n9_
                     have hHeld := trivial
                     refine norm_ (a' := ?_) ?_ ?_
                     rotate_left
                     ·simp only [putAll, Act.put, List.setIfInBounds_toArray, List.set_cons_zero, List.set_cons_succ]
                      rfl
                     refine pure_ (i:=18) (N := some 13) (v:=?_) (a':=?_) #[true,true,true,true,true,true,true,true,true,true,true,true,true,true,true,true,true,true,true,false] rfl rfl (any_of HT_.out (by kernel_rfl)) (fun _ _ _ h=>h) (Or.inl ⟨by rfl, ?_⟩) ?_ ?_
                     rotate_left
                     ·intro w'
                      go_simp
                      with_reducible rfl
                     rotate_left
                     ·simp only [Act.put,lz1,lz2,lz3,i64_w,i32_w]
                      rfl
                     refine one_ (i := 19) (N := none) #[true,true,true,true,true,true,true,true,true,true,true,true,true,true,true,true,true,true,true,true] rfl rfl (one_of HT_.out (by kernel_rfl)) (by decide) (fun K hK => ?_)
                     have hs92 : w91.cell? ⟨gb159, 0, none⟩ = some (.int .i64 0) := (blk_cell BK159.out 0).trans rfl
                     have hfs92 := blk_frozen BK159.out 0
                     have hns92_0 := NB148_159.out
                     have hms92_0 := NB159_148.out
                     have hs93 : w91.cell? ⟨gb159, 1, none⟩ = some (.int .u64 0) := (blk_cell BK159.out 1).trans rfl
                     have hfs93 := blk_frozen BK159.out 1
                     have hns93_0 := NB148_159.out
                     have hms93_0 := NB159_148.out
                     have hs94 : w91.cell? ⟨gb159, 2, none⟩ = some (.string (⟨#[]⟩ : ByteArray)) := (blk_cell BK159.out 2).trans rfl
                     have hfs94 := blk_frozen BK159.out 2
                     have hns94_0 := NB148_159.out
                     have hms94_0 := NB159_148.out
                     refine skip_ (w1 := ?_) (by rfl) rfl ?_ ?_
                     rotate_left
                     ·go_simp
                      rfl
                     refine hK.out _ _ trivial (fun hHeld => ?_)
                     clear hK K
                     refine done_ (done_of HT_.out (by kernel_rfl)) ?_
                     have hnb95 := NB159_148.out
                     have hnc95 := NB148_159.out
                     have hcz96_0 : w91.cell? ⟨gb159, 0, none⟩ = some (.int .i64 0) := (blk_cell BK159.out 0).trans rfl
                     have hcz96_1 : w91.cell? ⟨gb159, 1, none⟩ = some (.int .u64 0) := (blk_cell BK159.out 1).trans rfl
                     have hcz96_2 : w91.cell? ⟨gb159, 2, none⟩ = some (.string (⟨#[]⟩ : ByteArray)) := (blk_cell BK159.out 2).trans rfl
                     have hfz96_0 := blk_frozen BK159.out 0
                     have hfz96_1 := blk_frozen BK159.out 1
                     have hfz96_2 := blk_frozen BK159.out 2
                     try go_wp2
                     go_ret
                     exact ⟨by first | rfl | (simp [errW_none, errW_some] <;> rfl) | (simp only [← hji64, ← hji69]; first | rfl | (simp [errW_none, errW_some] <;> rfl)) | (simp [*, errW_none, errW_some] <;> rfl), by repeat (first | (with_reducible first | exact HB.out | apply below_alloc | apply pw_below_drewN | apply below_drew1 | refine below_set ?_ GE148.out | refine below_set ?_ GE159.out) | exact HB.out)⟩
                   ·rw [if_neg c72] at H
                    exact absurd H (by simp)
                  ·rw [if_neg c71] at H
                   exact absurd H (by simp)
                 ·rw [if_neg c70] at H
                  exact absurd H (by simp)
                ·rw [if_neg c68] at H
                 exact absurd H (by simp)
               ·rw [if_neg c66] at H
                exact absurd H (by simp)
              ·rw [if_neg c65] at H
               exact absurd H (by simp)
 ·replace c4 := Bool.eq_false_iff.mpr c4
  subst c4
  have H1 : (some false) = some r := by rw [if_neg (show ¬ (false = true) by decide)] at H; exact H
  clear H
  have H := H1
  clear H1
  obtain rfl := Option.some.inj H
  go_enter Try.func6, Try.ntmps6
  go_wp2_with (first | ((with_reducible refine gate_callee (f := 7) rfl ?_); refine goesL_ (some 15) rfl rfl Try.func7 (by kernel_rfl) rfl #[] rfl (by (try simp only [List.map_toArray, List.map_cons, List.map_nil]); first | done | rfl | (simp only [List.length_drop, List.length_take]; rfl)) ?_; (with_reducible refine (turnbucklelaw15_speaks.calls k  false _ A3.out).mono ?_); rintro e w97 ⟨rfl, hb⟩; refine ⟨_, rfl, ?_⟩; have n0_ := Aside0.mk (below_step (by repeat (first | (with_reducible first | exact HB.out | apply below_alloc | apply pw_below_drewN | apply below_drew1) | exact HB.out)) hb); clear HB; have HB := n0_; clear n0_; (try clear hb); (try clear hb2); (try clear hk); (try clear hi)))
  go_ret
  exact ⟨by first | rfl | (simp [errW_none, errW_some] <;> rfl) | (simp [*, errW_none, errW_some] <;> rfl), by repeat (first | (with_reducible first | exact HB.out | apply below_alloc | apply pw_below_drewN | apply below_drew1) | exact HB.out)⟩

/-- THE ONE PURE STATEMENT of turnbucklelaw15_RelaPlaces: yours. -/
def turnbucklelaw15_RelaPlaces.Pure : Prop := ∀ (l0 : List (S28)) (a1 : Int), l0.length ≤ maxLen → (∀ x ∈ l0, (Lit.int .u64 x.f0).wf = true ∧ (Lit.int .i64 x.f1).wf = true ∧ (Lit.int .i64 x.f2).wf = true ∧ (Lit.int .u64 x.f3).wf = true) → (Lit.int .i64 a1).wf = true → ∃ k, turnbucklelaw15_RelaPlaces.f k l0 a1 = some true
theorem turnbucklelaw15_RelaPlaces.walk (P : turnbucklelaw15_RelaPlaces.Pure) (A0 : Option Addr) (c0 : Nat) (l0 : List S28) (a1 : Int) (w : World) (hr0 : Kd.C k28 w A0 l0.length l0) (hc0 : l0.length ≤ c0) (hm0 : l0.length ≤ maxLen) (hw0 : ∀ x ∈ l0, (Lit.int .u64 x.f0).wf = true ∧ (Lit.int .i64 x.f1).wf = true ∧ (Lit.int .i64 x.f2).wf = true ∧ (Lit.int .u64 x.f3).wf = true) (w1 : (Lit.int .i64 a1).wf = true) :
  Calls Try.prog 6 #[.slice A0 l0.length c0, .int .i64 a1] w fun e w' => e = .returned (.bool true) ∧ Below w.heap.size w w' := by
 obtain ⟨k, h⟩ := P l0 a1 hm0 hw0 w1
 refine (turnbucklelaw15_RelaPlaces.calls k _ _ l0 a1 true w hr0 hc0 h).mono ?_
 rintro e w' ⟨rfl, hd⟩
 exact ⟨rfl, hd⟩

end Go.Proofs.Ytpdecpiiidoleaa.PPl
