-- Written by a program of this session (a changed copy of the print of the kit). Not trusted: Lean checks it.
import Derived.Test.YtmekjomfdomogaaPAllx0
import Derived.Test.YtmekjomfdomogaaPAllx1
import Derived.Test.YtmekjomfdomogaaPAllx3
import Derived.Test.YtmekjomfdomogaaPAllx9
import Derived.Test.YtmekjomfdomogaaPAllx10
import Derived.Test.YtmekjomfdomogaaPAllx11
namespace Go.Proofs.Ytmekjomfdomogaa.PAll
open Go.RowKit Go.Proofs.YtmekjomfdomogaaW.PrintWords Go.Proofs.YtmekjomfdomogaaW.PrintLast Go.Proofs.YtmekjomfdomogaaW.PrintMore
attribute [local go_sem] max2_int min2_int max_two min_two max_three min_three max_four min_four   -- for this text's walks alone
set_option linter.unusedVariables false
set_option linter.unusedSimpArgs false

attribute [local go_sem high] eqA28
/-! ### turnbucklelaw11_SymPuts: function 3 -/
def turnbucklelaw11_SymPuts.j0 : Nat → Int → ByteArray → Bool → ByteArray → Int → Int → Int → Bool → Int → Int → Option (Bool)
 | 0, _, _, _, _, _, _, _, _, _, _ => none
 | k + 1, x1, x6, x54, x166000, x166001, x166002, x166003, x166004, x166005, x166006 => if x54 = true then (some (x6.toList == ([] : List UInt8))) else ((turnbuckleref11_Put.f k x166000 x166001 x166002 x166003 x166004 x166005 x166006 x1).bind fun t167 => (if x6.toList = t167.toList then (if 4 ≤ (x6.size : Int) then (if 4 + (x6.extract 4 x6.size).size ≤ 9223372036854775807 then ((sym_Read.f k ((⟨#[0, 0, 0, 0]⟩ : ByteArray) ++ (x6.extract 4 x6.size)) (⟨#[97, 98, 0]⟩ : ByteArray)).bind fun bt168 => ((fail_Fault_OK.f bt168.2.1 bt168.2.2.1 bt168.2.2.2).bind fun t175 => (if t175 = true then (if (bt168.1.length : Int) = 1 then (if 0 < (bt168.1.length : Int) then (some ((((rd_T28 bt168.1 0).f0).toList) == ([97, 98] : List UInt8) && (((rd_T28 bt168.1 0).f1) == x166001 && (((rd_T28 bt168.1 0).f2) == x166002 && (((rd_T28 bt168.1 0).f3) == x166003 && (((rd_T28 bt168.1 0).f4) == x166004 && (((rd_T28 bt168.1 0).f5) == x166005 && (((rd_T28 bt168.1 0).f6) == x166006)))))))) else (none)) else (some false)) else (some false)))) else (none)) else (none)) else (some false)))
def turnbucklelaw11_SymPuts.f (k : Nat) (a0_0 : Int) (a0_1 : Int) (a0_2 : Int) (a0_3 : Bool) (a0_4 : Int) (a0_5 : Int) (a1 : Int) : Option (Bool) := (turnbucklelaw11_speaks.f k).bind fun t164 => (if t164 = true then ((sym_Put.f k (⟨#[]⟩ : ByteArray) a0_0 a0_1 a0_2 a0_3 a0_4 a0_5 a1).bind fun t166 => (if a0_0 < 0 then (turnbucklelaw11_SymPuts.j0 k a1 t166 true (⟨#[]⟩ : ByteArray) a0_0 a0_1 a0_2 a0_3 a0_4 a0_5) else (if a0_0 > 2 then (turnbucklelaw11_SymPuts.j0 k a1 t166 true (⟨#[]⟩ : ByteArray) a0_0 a0_1 a0_2 a0_3 a0_4 a0_5) else (if a0_1 < 0 then (turnbucklelaw11_SymPuts.j0 k a1 t166 true (⟨#[]⟩ : ByteArray) a0_0 a0_1 a0_2 a0_3 a0_4 a0_5) else (if a0_1 > 15 then (turnbucklelaw11_SymPuts.j0 k a1 t166 true (⟨#[]⟩ : ByteArray) a0_0 a0_1 a0_2 a0_3 a0_4 a0_5) else (if a0_2 < 0 then (turnbucklelaw11_SymPuts.j0 k a1 t166 true (⟨#[]⟩ : ByteArray) a0_0 a0_1 a0_2 a0_3 a0_4 a0_5) else (turnbucklelaw11_SymPuts.j0 k a1 t166 (decide (a0_2 > 3)) (⟨#[]⟩ : ByteArray) a0_0 a0_1 a0_2 a0_3 a0_4 a0_5))))))) else (some false))
theorem turnbucklelaw11_SymPuts.mono_l : ∀ k, (∀ y0 y1 y2 y3 y4 y5 y6 y7 y8 y9, LeO (turnbucklelaw11_SymPuts.j0 k y0 y1 y2 y3 y4 y5 y6 y7 y8 y9) (turnbucklelaw11_SymPuts.j0 (k + 1) y0 y1 y2 y3 y4 y5 y6 y7 y8 y9))
 | 0 => fun _ _ _ _ _ _ _ _ _ _ r h => by simp [turnbucklelaw11_SymPuts.j0] at h
 | k + 1 => by
  have ih0 := turnbucklelaw11_SymPuts.mono_l k
  ·intro y0 y1 y2 y3 y4 y5 y6 y7 y8 y9
   unfold turnbucklelaw11_SymPuts.j0
   repeat' first
   | (with_reducible exact ih0 _ _ _ _ _ _ _ _ _ _)
   | (with_reducible exact sym_Put.mono _ _ _ _ _ _ _ _ _)
   | (with_reducible exact sym_Read.mono _ _ _)
   | (with_reducible exact turnbucklelaw11_speaks.mono _)
   | (with_reducible exact turnbuckleref11_Put.mono _ _ _ _ _ _ _ _ _)
   | (with_reducible exact LeO.refl _)
   | (with_reducible exact LeO.none _)
   | (with_reducible refine LeO.ite ?_ ?_)
   | (with_reducible refine LeO.bind ?_ (fun _ => ?_))
   | exact ih0 _ _ _ _ _ _ _ _ _ _
   | exact sym_Put.mono _ _ _ _ _ _ _ _ _
   | exact sym_Read.mono _ _ _
   | exact turnbucklelaw11_speaks.mono _
   | exact turnbuckleref11_Put.mono _ _ _ _ _ _ _ _ _
   | exact LeO.none _
   | refine LeO.ite ?_ ?_
   | refine LeO.bind ?_ (fun _ => ?_)
theorem turnbucklelaw11_SymPuts.mono : ∀ a0 a1 a2 a3 a4 a5 a6 k, LeO (turnbucklelaw11_SymPuts.f k a0 a1 a2 a3 a4 a5 a6) (turnbucklelaw11_SymPuts.f (k + 1) a0 a1 a2 a3 a4 a5 a6) := by
 intro a0 a1 a2 a3 a4 a5 a6 k
 have ih0 := turnbucklelaw11_SymPuts.mono_l k
 unfold turnbucklelaw11_SymPuts.f
 repeat' first
   | (with_reducible exact ih0 _ _ _ _ _ _ _ _ _ _)
   | (with_reducible exact sym_Put.mono _ _ _ _ _ _ _ _ _)
   | (with_reducible exact sym_Read.mono _ _ _)
   | (with_reducible exact turnbucklelaw11_speaks.mono _)
   | (with_reducible exact turnbuckleref11_Put.mono _ _ _ _ _ _ _ _ _)
   | (with_reducible exact LeO.refl _)
   | (with_reducible exact LeO.none _)
   | (with_reducible refine LeO.ite ?_ ?_)
   | (with_reducible refine LeO.bind ?_ (fun _ => ?_))
   | exact ih0 _ _ _ _ _ _ _ _ _ _
   | exact sym_Put.mono _ _ _ _ _ _ _ _ _
   | exact sym_Read.mono _ _ _
   | exact turnbucklelaw11_speaks.mono _
   | exact turnbuckleref11_Put.mono _ _ _ _ _ _ _ _ _
   | exact LeO.none _
   | refine LeO.ite ?_ ?_
   | refine LeO.bind ?_ (fun _ => ?_)
def turnbucklelaw11_SymPuts.T11 : Bool × List (List Nat × List Nat) := (true, [([], []), ([0], [0]), ([1, 1], [1]), ([2], [2]), ([3, 2], [2, 3]), ([4, 2], [2, 4]), ([2, 5], [2, 5]), ([6, 2], [6]), ([7], [7]), ([8, 7], [7, 8]), ([9, 7], [7, 9]), ([7], [7]), ([10, 11, 7], [7, 10, 11]), ([7, 12], [7, 12]), ([13, 7, 0, 1, 2, 3, 4, 5, 6, 7, 8, 9, 10, 11, 12, 13], [13])])
def turnbucklelaw11_SymPuts.B11 : List Nat := [0, 1, 3, 7, 15, 31, 63, 127, 255, 511, 1023, 255, 4095, 8191, 16383]
theorem turnbucklelaw11_SymPuts.tab11 : rtab .any (opsOf Try.f3 11) = turnbucklelaw11_SymPuts.T11 := by kernel_rfl
theorem turnbucklelaw11_SymPuts.bits11 : waitsOk turnbucklelaw11_SymPuts.T11.2 turnbucklelaw11_SymPuts.B11 = true := by kernel_rfl
set_option maxHeartbeats 8000000 in
set_option maxRecDepth 100000 in
theorem turnbucklelaw11_SymPuts.calls (k : Nat) (a0_0 : Int) (a0_1 : Int) (a0_2 : Int) (a0_3 : Bool) (a0_4 : Int) (a0_5 : Int) (a1 : Int) (r : Bool) (w : World) (h : turnbucklelaw11_SymPuts.f k a0_0 a0_1 a0_2 a0_3 a0_4 a0_5 a1 = some r) :
  Calls Try.prog 3 #[.agg #[.int .i64 a0_0, .int .i64 a0_1, .int .i64 a0_2, .bool a0_3, .int .u64 a0_4, .int .u64 a0_5], .int .u32 a1] w fun e w' => e = .returned (.bool r) ∧ Below w.heap.size w w' := by
 have hu24 := Try.underlying24
 have hu28 := Try.underlying28
 have hu35 := Try.underlying35
 have HB := Aside0.mk (Below.refl w.heap.size w)
 have H : ((turnbucklelaw11_speaks.f k).bind fun t164 => (if t164 = true then ((sym_Put.f k (⟨#[]⟩ : ByteArray) a0_0 a0_1 a0_2 a0_3 a0_4 a0_5 a1).bind fun t166 => (if a0_0 < 0 then (turnbucklelaw11_SymPuts.j0 k a1 t166 true (⟨#[]⟩ : ByteArray) a0_0 a0_1 a0_2 a0_3 a0_4 a0_5) else (if a0_0 > 2 then (turnbucklelaw11_SymPuts.j0 k a1 t166 true (⟨#[]⟩ : ByteArray) a0_0 a0_1 a0_2 a0_3 a0_4 a0_5) else (if a0_1 < 0 then (turnbucklelaw11_SymPuts.j0 k a1 t166 true (⟨#[]⟩ : ByteArray) a0_0 a0_1 a0_2 a0_3 a0_4 a0_5) else (if a0_1 > 15 then (turnbucklelaw11_SymPuts.j0 k a1 t166 true (⟨#[]⟩ : ByteArray) a0_0 a0_1 a0_2 a0_3 a0_4 a0_5) else (if a0_2 < 0 then (turnbucklelaw11_SymPuts.j0 k a1 t166 true (⟨#[]⟩ : ByteArray) a0_0 a0_1 a0_2 a0_3 a0_4 a0_5) else (turnbucklelaw11_SymPuts.j0 k a1 t166 (decide (a0_2 > 3)) (⟨#[]⟩ : ByteArray) a0_0 a0_1 a0_2 a0_3 a0_4 a0_5))))))) else (some false))) = some r := h
 clear h
 replace H := Option.bind_eq_some_iff.mp H
 obtain ⟨t164, A30, H⟩ := H
 replace H : (if t164 = true then ((sym_Put.f k (⟨#[]⟩ : ByteArray) a0_0 a0_1 a0_2 a0_3 a0_4 a0_5 a1).bind fun t166 => (if a0_0 < 0 then (turnbucklelaw11_SymPuts.j0 k a1 t166 true (⟨#[]⟩ : ByteArray) a0_0 a0_1 a0_2 a0_3 a0_4 a0_5) else (if a0_0 > 2 then (turnbucklelaw11_SymPuts.j0 k a1 t166 true (⟨#[]⟩ : ByteArray) a0_0 a0_1 a0_2 a0_3 a0_4 a0_5) else (if a0_1 < 0 then (turnbucklelaw11_SymPuts.j0 k a1 t166 true (⟨#[]⟩ : ByteArray) a0_0 a0_1 a0_2 a0_3 a0_4 a0_5) else (if a0_1 > 15 then (turnbucklelaw11_SymPuts.j0 k a1 t166 true (⟨#[]⟩ : ByteArray) a0_0 a0_1 a0_2 a0_3 a0_4 a0_5) else (if a0_2 < 0 then (turnbucklelaw11_SymPuts.j0 k a1 t166 true (⟨#[]⟩ : ByteArray) a0_0 a0_1 a0_2 a0_3 a0_4 a0_5) else (turnbucklelaw11_SymPuts.j0 k a1 t166 (decide (a0_2 > 3)) (⟨#[]⟩ : ByteArray) a0_0 a0_1 a0_2 a0_3 a0_4 a0_5))))))) else (some false)) = some r := H
 have A3 := Aside0.mk A30
 clear A30
 by_cases c4 : t164 = true
 ·subst c4
  have H1 : ((sym_Put.f k (⟨#[]⟩ : ByteArray) a0_0 a0_1 a0_2 a0_3 a0_4 a0_5 a1).bind fun t166 => (if a0_0 < 0 then (turnbucklelaw11_SymPuts.j0 k a1 t166 true (⟨#[]⟩ : ByteArray) a0_0 a0_1 a0_2 a0_3 a0_4 a0_5) else (if a0_0 > 2 then (turnbucklelaw11_SymPuts.j0 k a1 t166 true (⟨#[]⟩ : ByteArray) a0_0 a0_1 a0_2 a0_3 a0_4 a0_5) else (if a0_1 < 0 then (turnbucklelaw11_SymPuts.j0 k a1 t166 true (⟨#[]⟩ : ByteArray) a0_0 a0_1 a0_2 a0_3 a0_4 a0_5) else (if a0_1 > 15 then (turnbucklelaw11_SymPuts.j0 k a1 t166 true (⟨#[]⟩ : ByteArray) a0_0 a0_1 a0_2 a0_3 a0_4 a0_5) else (if a0_2 < 0 then (turnbucklelaw11_SymPuts.j0 k a1 t166 true (⟨#[]⟩ : ByteArray) a0_0 a0_1 a0_2 a0_3 a0_4 a0_5) else (turnbucklelaw11_SymPuts.j0 k a1 t166 (decide (a0_2 > 3)) (⟨#[]⟩ : ByteArray) a0_0 a0_1 a0_2 a0_3 a0_4 a0_5))))))) = some r := by rw [if_pos rfl] at H; exact H
  clear H
  have H := H1
  clear H1
  replace H := Option.bind_eq_some_iff.mp H
  obtain ⟨t166, A50, H⟩ := H
  replace H : (if a0_0 < 0 then (turnbucklelaw11_SymPuts.j0 k a1 t166 true (⟨#[]⟩ : ByteArray) a0_0 a0_1 a0_2 a0_3 a0_4 a0_5) else (if a0_0 > 2 then (turnbucklelaw11_SymPuts.j0 k a1 t166 true (⟨#[]⟩ : ByteArray) a0_0 a0_1 a0_2 a0_3 a0_4 a0_5) else (if a0_1 < 0 then (turnbucklelaw11_SymPuts.j0 k a1 t166 true (⟨#[]⟩ : ByteArray) a0_0 a0_1 a0_2 a0_3 a0_4 a0_5) else (if a0_1 > 15 then (turnbucklelaw11_SymPuts.j0 k a1 t166 true (⟨#[]⟩ : ByteArray) a0_0 a0_1 a0_2 a0_3 a0_4 a0_5) else (if a0_2 < 0 then (turnbucklelaw11_SymPuts.j0 k a1 t166 true (⟨#[]⟩ : ByteArray) a0_0 a0_1 a0_2 a0_3 a0_4 a0_5) else (turnbucklelaw11_SymPuts.j0 k a1 t166 (decide (a0_2 > 3)) (⟨#[]⟩ : ByteArray) a0_0 a0_1 a0_2 a0_3 a0_4 a0_5)))))) = some r := H
  have A5 := Aside0.mk A50
  clear A50
  have HC6 := Aside0.mk H
  clear H
  go_enter Try.func3, Try.ntmps3
  go_upto_region 5 with (first | ((with_reducible refine gate_dst (N := 2) rfl ?_); (try (refine gate_guard (by rfl) ?_; dsimp only)); refine box_event ?hg (N := 2) ?hd (cs := #[.int .i64 a0_0, .int .i64 a0_1, .int .i64 a0_2, .bool a0_3, .int .u64 a0_4, .int .u64 a0_5]) (t := 24) ?hr ?_; (case hd => rfl); (case hg => rfl); (case hr => first | (go_simp; done) | (go_simp; rfl)); intro gb163 hg w7 hbox hb; have n0_ := Aside0.mk (below_step (by repeat (first | (with_reducible first | exact HB.out | apply below_alloc | apply pw_below_drewN | apply below_drew1) | exact HB.out)) hb); have n1_ := Aside0.mk (hbox); have n2_ := Aside0.mk ((by rw [hg]; exact (below_size (by repeat (first | (with_reducible first | exact HB.out | apply below_alloc | apply pw_below_drewN | apply below_drew1) | exact HB.out))) : w.heap.size ≤ gb163)); have n3_ := Aside0.mk ((by rw [hg]; exact (below_size (by repeat (first | (with_reducible first | exact HB.out | apply below_alloc | apply pw_below_drewN | apply below_drew1) | exact HB.out))) : w.heap.size ≤ gb163)); clear HB; have HB := n0_; have BK163 := n1_; have GW163 := n2_; have GE163 := n3_; clear n0_ n1_ n2_ n3_; clear hb hbox hg) | ((with_reducible refine gate_callee (f := 7) rfl ?_); refine goesL_ (some 9) rfl rfl Try.func7 (by kernel_rfl) rfl #[] rfl (by (try simp only [List.map_toArray, List.map_cons, List.map_nil]); first | done | rfl | (simp only [List.length_drop, List.length_take]; rfl)) ?_; (with_reducible refine (turnbucklelaw11_speaks.calls k  true _ A3.out).mono ?_); rintro e w8 ⟨rfl, hb⟩; refine ⟨_, rfl, ?_⟩; have n0_ := Aside0.mk (blk_below (g := gb163) (o := .cells #[.int .i64 a0_0, .int .i64 a0_1, .int .i64 a0_2, .bool a0_3, .int .u64 a0_4, .int .u64 a0_5] 24 (0, 0)) (by (with_reducible repeat (first | refine blk_drewN ?_ _ | refine blk_drew ?_ | refine blk_alloc ?_ _)); exact BK163.out) hb); have n1_ := Aside0.mk (below_step (by repeat (first | (with_reducible first | exact HB.out | apply below_alloc | apply pw_below_drewN | apply below_drew1 | refine below_set ?_ GE163.out) | exact HB.out)) hb); clear BK163; clear HB; have BK163 := n0_; have HB := n1_; clear n0_ n1_; (try clear hb); (try clear hb2); (try clear hk); (try clear hi); have hcz9_0 : w8.cell? ⟨gb163, 0, none⟩ = some (.int .i64 a0_0) := (blk_cell BK163.out 0).trans rfl; have hcz9_1 : w8.cell? ⟨gb163, 1, none⟩ = some (.int .i64 a0_1) := (blk_cell BK163.out 1).trans rfl; have hcz9_2 : w8.cell? ⟨gb163, 2, none⟩ = some (.int .i64 a0_2) := (blk_cell BK163.out 2).trans rfl; have hcz9_3 : w8.cell? ⟨gb163, 3, none⟩ = some (.bool a0_3) := (blk_cell BK163.out 3).trans rfl; have hcz9_4 : w8.cell? ⟨gb163, 4, none⟩ = some (.int .u64 a0_4) := (blk_cell BK163.out 4).trans rfl; have hcz9_5 : w8.cell? ⟨gb163, 5, none⟩ = some (.int .u64 a0_5) := (blk_cell BK163.out 5).trans rfl; have hfz9_0 := blk_frozen BK163.out 0; have hfz9_1 := blk_frozen BK163.out 1; have hfz9_2 := blk_frozen BK163.out 2; have hfz9_3 := blk_frozen BK163.out 3; have hfz9_4 := blk_frozen BK163.out 4; have hfz9_5 := blk_frozen BK163.out 5) | ((with_reducible refine gate_dst (N := 5) rfl ?_); (try (refine gate_guard (by rfl) ?_; dsimp only)); refine box_event ?hg (N := 5) ?hd (cs := #[.string (⟨#[]⟩ : ByteArray), .int .i64 0, .int .i64 0, .int .i64 0, .bool false, .int .u64 0, .int .u64 0]) (t := 28) ?hr ?_; (case hd => rfl); (case hg => rfl); (case hr => first | (go_simp; done) | (go_simp; rfl)); intro gb165 hg w10 hbox hb; have n0_ := Aside0.mk (blk_below (g := gb163) (o := .cells #[.int .i64 a0_0, .int .i64 a0_1, .int .i64 a0_2, .bool a0_3, .int .u64 a0_4, .int .u64 a0_5] 24 (0, 0)) (by (with_reducible repeat (first | refine blk_drewN ?_ _ | refine blk_drew ?_ | refine blk_alloc ?_ _)); exact BK163.out) hb); have n1_ := Aside0.mk (below_step (by repeat (first | (with_reducible first | exact HB.out | apply below_alloc | apply pw_below_drewN | apply below_drew1 | refine below_set ?_ GE163.out) | exact HB.out)) hb); have n2_ := Aside0.mk (hbox); have n3_ := Aside0.mk ((by rw [hg]; exact (below_size (by repeat (first | (with_reducible first | exact HB.out | apply below_alloc | apply pw_below_drewN | apply below_drew1 | refine below_set ?_ GE163.out) | exact HB.out))) : w.heap.size ≤ gb165)); have n4_ := Aside0.mk ((by rw [hg]; exact (below_size (by repeat (first | (with_reducible first | exact HB.out | apply below_alloc | apply pw_below_drewN | apply below_drew1 | refine below_set ?_ GE163.out) | exact HB.out))) : w.heap.size ≤ gb165)); have n5_ := Aside0.mk ((by rw [hg]; exact Nat.ne_of_lt (blk_lt (g := gb163) (o := .cells #[.int .i64 a0_0, .int .i64 a0_1, .int .i64 a0_2, .bool a0_3, .int .u64 a0_4, .int .u64 a0_5] 24 (0, 0)) (by (with_reducible repeat (first | refine blk_drewN ?_ _ | refine blk_drew ?_ | refine blk_alloc ?_ _)); exact BK163.out)) : gb163 ≠ gb165)); have n6_ := Aside0.mk ((by rw [hg]; exact Nat.ne_of_gt (blk_lt (g := gb163) (o := .cells #[.int .i64 a0_0, .int .i64 a0_1, .int .i64 a0_2, .bool a0_3, .int .u64 a0_4, .int .u64 a0_5] 24 (0, 0)) (by (with_reducible repeat (first | refine blk_drewN ?_ _ | refine blk_drew ?_ | refine blk_alloc ?_ _)); exact BK163.out)) : gb165 ≠ gb163)); clear BK163; clear HB; have BK163 := n0_; have HB := n1_; have BK165 := n2_; have GW165 := n3_; have GE165 := n4_; have NB163_165 := n5_; have NB165_163 := n6_; clear n0_ n1_ n2_ n3_ n4_ n5_ n6_; clear hb hbox hg; have hnb11 := NB165_163.out; have hnc11 := NB163_165.out; have hcz12_0 : w10.cell? ⟨gb165, 0, none⟩ = some (.string (⟨#[]⟩ : ByteArray)) := (blk_cell BK165.out 0).trans rfl; have hcz12_1 : w10.cell? ⟨gb165, 1, none⟩ = some (.int .i64 0) := (blk_cell BK165.out 1).trans rfl; have hcz12_2 : w10.cell? ⟨gb165, 2, none⟩ = some (.int .i64 0) := (blk_cell BK165.out 2).trans rfl; have hcz12_3 : w10.cell? ⟨gb165, 3, none⟩ = some (.int .i64 0) := (blk_cell BK165.out 3).trans rfl; have hcz12_4 : w10.cell? ⟨gb165, 4, none⟩ = some (.bool false) := (blk_cell BK165.out 4).trans rfl; have hcz12_5 : w10.cell? ⟨gb165, 5, none⟩ = some (.int .u64 0) := (blk_cell BK165.out 5).trans rfl; have hcz12_6 : w10.cell? ⟨gb165, 6, none⟩ = some (.int .u64 0) := (blk_cell BK165.out 6).trans rfl; have hfz12_0 := blk_frozen BK165.out 0; have hfz12_1 := blk_frozen BK165.out 1; have hfz12_2 := blk_frozen BK165.out 2; have hfz12_3 := blk_frozen BK165.out 3; have hfz12_4 := blk_frozen BK165.out 4; have hfz12_5 := blk_frozen BK165.out 5; have hfz12_6 := blk_frozen BK165.out 6) | ((with_reducible refine gate_callee (f := 8) rfl ?_); refine goesL_ (some 26) rfl rfl Try.func8 (by kernel_rfl) rfl #[.agg #[.string (⟨#[]⟩ : ByteArray), .int .i64 a0_0, .int .i64 a0_1, .int .i64 a0_2, .bool a0_3, .int .u64 a0_4, .int .u64 a0_5], .int .u32 a1] rfl (by (try simp only [List.map_toArray, List.map_cons, List.map_nil]); first | done | rfl | (simp only [List.length_drop, List.length_take]; rfl)) ?_; (with_reducible refine (sym_Put.calls k (⟨#[]⟩ : ByteArray) a0_0 a0_1 a0_2 a0_3 a0_4 a0_5 a1 t166 _ A5.out).mono ?_); rintro e w13 ⟨rfl, hb⟩; refine ⟨_, rfl, ?_⟩; have n0_ := Aside0.mk (blk_below (g := gb163) (o := .cells #[.int .i64 a0_0, .int .i64 a0_1, .int .i64 a0_2, .bool a0_3, .int .u64 a0_4, .int .u64 a0_5] 24 (0, 0)) (by (with_reducible repeat (first | refine blk_drewN ?_ _ | refine blk_drew ?_ | refine blk_alloc ?_ _)); refine blk_far ?_ NB163_165.out _; (with_reducible repeat (first | refine blk_drewN ?_ _ | refine blk_drew ?_ | refine blk_alloc ?_ _)); refine blk_far ?_ NB163_165.out _; (with_reducible repeat (first | refine blk_drewN ?_ _ | refine blk_drew ?_ | refine blk_alloc ?_ _)); refine blk_far ?_ NB163_165.out _; (with_reducible repeat (first | refine blk_drewN ?_ _ | refine blk_drew ?_ | refine blk_alloc ?_ _)); refine blk_far ?_ NB163_165.out _; (with_reducible repeat (first | refine blk_drewN ?_ _ | refine blk_drew ?_ | refine blk_alloc ?_ _)); refine blk_far ?_ NB163_165.out _; (with_reducible repeat (first | refine blk_drewN ?_ _ | refine blk_drew ?_ | refine blk_alloc ?_ _)); refine blk_far ?_ NB163_165.out _; (with_reducible repeat (first | refine blk_drewN ?_ _ | refine blk_drew ?_ | refine blk_alloc ?_ _)); refine blk_far ?_ NB163_165.out _; (with_reducible repeat (first | refine blk_drewN ?_ _ | refine blk_drew ?_ | refine blk_alloc ?_ _)); exact BK163.out) hb); have n1_ := Aside0.mk (blk_below (g := gb165) (o := .cells #[.string (⟨#[]⟩ : ByteArray), .int .i64 a0_0, .int .i64 a0_1, .int .i64 a0_2, .bool a0_3, .int .u64 a0_4, .int .u64 a0_5] 28 (0, 0)) (by (with_reducible repeat (first | refine blk_drewN ?_ _ | refine blk_drew ?_ | refine blk_alloc ?_ _)); refine blk_put (cs := #[.string (⟨#[]⟩ : ByteArray), .int .i64 a0_0, .int .i64 a0_1, .int .i64 a0_2, .bool a0_3, .int .u64 a0_4, .int .u64 0]) ?_ 6 _ rfl; (with_reducible repeat (first | refine blk_drewN ?_ _ | refine blk_drew ?_ | refine blk_alloc ?_ _)); refine blk_put (cs := #[.string (⟨#[]⟩ : ByteArray), .int .i64 a0_0, .int .i64 a0_1, .int .i64 a0_2, .bool a0_3, .int .u64 0, .int .u64 0]) ?_ 5 _ rfl; (with_reducible repeat (first | refine blk_drewN ?_ _ | refine blk_drew ?_ | refine blk_alloc ?_ _)); refine blk_put (cs := #[.string (⟨#[]⟩ : ByteArray), .int .i64 a0_0, .int .i64 a0_1, .int .i64 a0_2, .bool false, .int .u64 0, .int .u64 0]) ?_ 4 _ rfl; (with_reducible repeat (first | refine blk_drewN ?_ _ | refine blk_drew ?_ | refine blk_alloc ?_ _)); refine blk_put (cs := #[.string (⟨#[]⟩ : ByteArray), .int .i64 a0_0, .int .i64 a0_1, .int .i64 0, .bool false, .int .u64 0, .int .u64 0]) ?_ 3 _ rfl; (with_reducible repeat (first | refine blk_drewN ?_ _ | refine blk_drew ?_ | refine blk_alloc ?_ _)); refine blk_put (cs := #[.string (⟨#[]⟩ : ByteArray), .int .i64 a0_0, .int .i64 0, .int .i64 0, .bool false, .int .u64 0, .int .u64 0]) ?_ 2 _ rfl; (with_reducible repeat (first | refine blk_drewN ?_ _ | refine blk_drew ?_ | refine blk_alloc ?_ _)); refine blk_put (cs := #[.string (⟨#[]⟩ : ByteArray), .int .i64 0, .int .i64 0, .int .i64 0, .bool false, .int .u64 0, .int .u64 0]) ?_ 1 _ rfl; (with_reducible repeat (first | refine blk_drewN ?_ _ | refine blk_drew ?_ | refine blk_alloc ?_ _)); refine blk_put (cs := #[.string (⟨#[]⟩ : ByteArray), .int .i64 0, .int .i64 0, .int .i64 0, .bool false, .int .u64 0, .int .u64 0]) ?_ 0 _ rfl; (with_reducible repeat (first | refine blk_drewN ?_ _ | refine blk_drew ?_ | refine blk_alloc ?_ _)); exact BK165.out) hb); have n2_ := Aside0.mk (below_step (by repeat (first | (with_reducible first | exact HB.out | apply below_alloc | apply pw_below_drewN | apply below_drew1 | refine below_set ?_ GE163.out | refine below_set ?_ GE165.out) | exact HB.out)) hb); clear BK163; clear BK165; clear HB; have BK163 := n0_; have BK165 := n1_; have HB := n2_; clear n0_ n1_ n2_; (try clear hb); (try clear hb2); (try clear hk); (try clear hi)))
  (try simp only [Act.put, List.setIfInBounds_toArray, List.set_cons_zero, List.set_cons_succ])
  go_cut [54] (fun v54 wc => ∃ (kq : Nat) (x54_5 : Bool), v54 = .bool x54_5 ∧ Aside0 (turnbucklelaw11_SymPuts.j0 kq a1 t166 x54_5 (⟨#[]⟩ : ByteArray) a0_0 a0_1 a0_2 a0_3 a0_4 a0_5 = some r) ∧ Aside0 (kq ≤ k) ∧ Aside0 (wc.heap[gb163]? = some (.cells #[.int .i64 a0_0, .int .i64 a0_1, .int .i64 a0_2, .bool a0_3, .int .u64 a0_4, .int .u64 a0_5] 24 (0, 0))) ∧ Aside0 (wc.heap[gb165]? = some (.cells #[.string (⟨#[]⟩ : ByteArray), .int .i64 a0_0, .int .i64 a0_1, .int .i64 a0_2, .bool a0_3, .int .u64 a0_4, .int .u64 a0_5] 28 (0, 0))) ∧ Aside0 (Below w.heap.size w wc))
  case first =>
   have H := HC6.out
   clear HC6
   by_cases c14 : a0_0 < 0
   ·rw [if_pos c14] at H
    have c14b0 : decide (a0_0 < 0) = true := decide_eq_true c14
    clear c14
    (first | rw [c14b0] | (simp only [i64_w, i32_w]; rw [c14b0]) | skip)
    have H' := Aside0.mk H
    clear H
    have hnb15 := NB163_165.out
    have hnc15 := NB165_163.out
    have hcz16_0 : w13.cell? ⟨gb163, 0, none⟩ = some (.int .i64 a0_0) := (blk_cell BK163.out 0).trans rfl
    have hcz16_1 : w13.cell? ⟨gb163, 1, none⟩ = some (.int .i64 a0_1) := (blk_cell BK163.out 1).trans rfl
    have hcz16_2 : w13.cell? ⟨gb163, 2, none⟩ = some (.int .i64 a0_2) := (blk_cell BK163.out 2).trans rfl
    have hcz16_3 : w13.cell? ⟨gb163, 3, none⟩ = some (.bool a0_3) := (blk_cell BK163.out 3).trans rfl
    have hcz16_4 : w13.cell? ⟨gb163, 4, none⟩ = some (.int .u64 a0_4) := (blk_cell BK163.out 4).trans rfl
    have hcz16_5 : w13.cell? ⟨gb163, 5, none⟩ = some (.int .u64 a0_5) := (blk_cell BK163.out 5).trans rfl
    have hfz16_0 := blk_frozen BK163.out 0
    have hfz16_1 := blk_frozen BK163.out 1
    have hfz16_2 := blk_frozen BK163.out 2
    have hfz16_3 := blk_frozen BK163.out 3
    have hfz16_4 := blk_frozen BK163.out 4
    have hfz16_5 := blk_frozen BK163.out 5
    go_wp2
    (try subst hji11)
    (try subst hji13)
    go_meet
    case rel => exact ⟨_, (true), (by first | rfl | (simp; done) | (simp [*]; done)), H', ⟨by first | omega | exact Nat.le_refl _⟩, ⟨by (with_reducible repeat (first | refine blk_drewN ?_ _ | refine blk_drew ?_ | refine blk_alloc ?_ _)); exact BK163.out⟩, ⟨by (with_reducible repeat (first | refine blk_drewN ?_ _ | refine blk_drew ?_ | refine blk_alloc ?_ _)); exact BK165.out⟩, ⟨by repeat (first | (with_reducible first | exact HB.out | apply below_alloc | apply pw_below_drewN | apply below_drew1 | refine below_set ?_ GE163.out | refine below_set ?_ GE165.out) | exact HB.out)⟩⟩
   ·rw [if_neg c14] at H
    have c14b0 : decide (a0_0 < 0) = false := decide_eq_false c14
    clear c14
    (first | rw [c14b0] | (simp only [i64_w, i32_w]; rw [c14b0]) | skip)
    by_cases c17 : a0_0 > 2
    ·rw [if_pos c17] at H
     have c17b0 : decide (2 < a0_0) = true := decide_eq_true c17
     clear c17
     have H' := Aside0.mk H
     clear H
     have hnb18 := NB163_165.out
     have hnc18 := NB165_163.out
     have hcz19_0 : w13.cell? ⟨gb163, 0, none⟩ = some (.int .i64 a0_0) := (blk_cell BK163.out 0).trans rfl
     have hcz19_1 : w13.cell? ⟨gb163, 1, none⟩ = some (.int .i64 a0_1) := (blk_cell BK163.out 1).trans rfl
     have hcz19_2 : w13.cell? ⟨gb163, 2, none⟩ = some (.int .i64 a0_2) := (blk_cell BK163.out 2).trans rfl
     have hcz19_3 : w13.cell? ⟨gb163, 3, none⟩ = some (.bool a0_3) := (blk_cell BK163.out 3).trans rfl
     have hcz19_4 : w13.cell? ⟨gb163, 4, none⟩ = some (.int .u64 a0_4) := (blk_cell BK163.out 4).trans rfl
     have hcz19_5 : w13.cell? ⟨gb163, 5, none⟩ = some (.int .u64 a0_5) := (blk_cell BK163.out 5).trans rfl
     have hfz19_0 := blk_frozen BK163.out 0
     have hfz19_1 := blk_frozen BK163.out 1
     have hfz19_2 := blk_frozen BK163.out 2
     have hfz19_3 := blk_frozen BK163.out 3
     have hfz19_4 := blk_frozen BK163.out 4
     have hfz19_5 := blk_frozen BK163.out 5
     go_wp2
     (try subst hji11)
     (try subst hji13)
     go_meet
     case rel => exact ⟨_, (true), (by first | rfl | (simp; done) | (simp [*]; done)), H', ⟨by first | omega | exact Nat.le_refl _⟩, ⟨by (with_reducible repeat (first | refine blk_drewN ?_ _ | refine blk_drew ?_ | refine blk_alloc ?_ _)); exact BK163.out⟩, ⟨by (with_reducible repeat (first | refine blk_drewN ?_ _ | refine blk_drew ?_ | refine blk_alloc ?_ _)); exact BK165.out⟩, ⟨by repeat (first | (with_reducible first | exact HB.out | apply below_alloc | apply pw_below_drewN | apply below_drew1 | refine below_set ?_ GE163.out | refine below_set ?_ GE165.out) | exact HB.out)⟩⟩
    ·rw [if_neg c17] at H
     have c17b0 : decide (2 < a0_0) = false := decide_eq_false c17
     clear c17
     by_cases c20 : a0_1 < 0
     ·rw [if_pos c20] at H
      have c20b0 : decide (a0_1 < 0) = true := decide_eq_true c20
      clear c20
      have H' := Aside0.mk H
      clear H
      have hnb21 := NB163_165.out
      have hnc21 := NB165_163.out
      have hcz22_0 : w13.cell? ⟨gb163, 0, none⟩ = some (.int .i64 a0_0) := (blk_cell BK163.out 0).trans rfl
      have hcz22_1 : w13.cell? ⟨gb163, 1, none⟩ = some (.int .i64 a0_1) := (blk_cell BK163.out 1).trans rfl
      have hcz22_2 : w13.cell? ⟨gb163, 2, none⟩ = some (.int .i64 a0_2) := (blk_cell BK163.out 2).trans rfl
      have hcz22_3 : w13.cell? ⟨gb163, 3, none⟩ = some (.bool a0_3) := (blk_cell BK163.out 3).trans rfl
      have hcz22_4 : w13.cell? ⟨gb163, 4, none⟩ = some (.int .u64 a0_4) := (blk_cell BK163.out 4).trans rfl
      have hcz22_5 : w13.cell? ⟨gb163, 5, none⟩ = some (.int .u64 a0_5) := (blk_cell BK163.out 5).trans rfl
      have hfz22_0 := blk_frozen BK163.out 0
      have hfz22_1 := blk_frozen BK163.out 1
      have hfz22_2 := blk_frozen BK163.out 2
      have hfz22_3 := blk_frozen BK163.out 3
      have hfz22_4 := blk_frozen BK163.out 4
      have hfz22_5 := blk_frozen BK163.out 5
      go_wp2
      (try subst hji11)
      (try subst hji13)
      go_meet
      case rel => exact ⟨_, (true), (by first | rfl | (simp; done) | (simp [*]; done)), H', ⟨by first | omega | exact Nat.le_refl _⟩, ⟨by (with_reducible repeat (first | refine blk_drewN ?_ _ | refine blk_drew ?_ | refine blk_alloc ?_ _)); exact BK163.out⟩, ⟨by (with_reducible repeat (first | refine blk_drewN ?_ _ | refine blk_drew ?_ | refine blk_alloc ?_ _)); exact BK165.out⟩, ⟨by repeat (first | (with_reducible first | exact HB.out | apply below_alloc | apply pw_below_drewN | apply below_drew1 | refine below_set ?_ GE163.out | refine below_set ?_ GE165.out) | exact HB.out)⟩⟩
     ·rw [if_neg c20] at H
      have c20b0 : decide (a0_1 < 0) = false := decide_eq_false c20
      clear c20
      by_cases c23 : a0_1 > 15
      ·rw [if_pos c23] at H
       have c23b0 : decide (15 < a0_1) = true := decide_eq_true c23
       clear c23
       have H' := Aside0.mk H
       clear H
       have hnb24 := NB163_165.out
       have hnc24 := NB165_163.out
       have hcz25_0 : w13.cell? ⟨gb163, 0, none⟩ = some (.int .i64 a0_0) := (blk_cell BK163.out 0).trans rfl
       have hcz25_1 : w13.cell? ⟨gb163, 1, none⟩ = some (.int .i64 a0_1) := (blk_cell BK163.out 1).trans rfl
       have hcz25_2 : w13.cell? ⟨gb163, 2, none⟩ = some (.int .i64 a0_2) := (blk_cell BK163.out 2).trans rfl
       have hcz25_3 : w13.cell? ⟨gb163, 3, none⟩ = some (.bool a0_3) := (blk_cell BK163.out 3).trans rfl
       have hcz25_4 : w13.cell? ⟨gb163, 4, none⟩ = some (.int .u64 a0_4) := (blk_cell BK163.out 4).trans rfl
       have hcz25_5 : w13.cell? ⟨gb163, 5, none⟩ = some (.int .u64 a0_5) := (blk_cell BK163.out 5).trans rfl
       have hfz25_0 := blk_frozen BK163.out 0
       have hfz25_1 := blk_frozen BK163.out 1
       have hfz25_2 := blk_frozen BK163.out 2
       have hfz25_3 := blk_frozen BK163.out 3
       have hfz25_4 := blk_frozen BK163.out 4
       have hfz25_5 := blk_frozen BK163.out 5
       go_wp2
       (try subst hji11)
       (try subst hji13)
       go_meet
       case rel => exact ⟨_, (true), (by first | rfl | (simp; done) | (simp [*]; done)), H', ⟨by first | omega | exact Nat.le_refl _⟩, ⟨by (with_reducible repeat (first | refine blk_drewN ?_ _ | refine blk_drew ?_ | refine blk_alloc ?_ _)); exact BK163.out⟩, ⟨by (with_reducible repeat (first | refine blk_drewN ?_ _ | refine blk_drew ?_ | refine blk_alloc ?_ _)); exact BK165.out⟩, ⟨by repeat (first | (with_reducible first | exact HB.out | apply below_alloc | apply pw_below_drewN | apply below_drew1 | refine below_set ?_ GE163.out | refine below_set ?_ GE165.out) | exact HB.out)⟩⟩
      ·rw [if_neg c23] at H
       have c23b0 : decide (15 < a0_1) = false := decide_eq_false c23
       clear c23
       by_cases c26 : a0_2 < 0
       ·rw [if_pos c26] at H
        have c26b0 : decide (a0_2 < 0) = true := decide_eq_true c26
        clear c26
        have H' := Aside0.mk H
        clear H
        have hnb27 := NB163_165.out
        have hnc27 := NB165_163.out
        have hcz28_0 : w13.cell? ⟨gb163, 0, none⟩ = some (.int .i64 a0_0) := (blk_cell BK163.out 0).trans rfl
        have hcz28_1 : w13.cell? ⟨gb163, 1, none⟩ = some (.int .i64 a0_1) := (blk_cell BK163.out 1).trans rfl
        have hcz28_2 : w13.cell? ⟨gb163, 2, none⟩ = some (.int .i64 a0_2) := (blk_cell BK163.out 2).trans rfl
        have hcz28_3 : w13.cell? ⟨gb163, 3, none⟩ = some (.bool a0_3) := (blk_cell BK163.out 3).trans rfl
        have hcz28_4 : w13.cell? ⟨gb163, 4, none⟩ = some (.int .u64 a0_4) := (blk_cell BK163.out 4).trans rfl
        have hcz28_5 : w13.cell? ⟨gb163, 5, none⟩ = some (.int .u64 a0_5) := (blk_cell BK163.out 5).trans rfl
        have hfz28_0 := blk_frozen BK163.out 0
        have hfz28_1 := blk_frozen BK163.out 1
        have hfz28_2 := blk_frozen BK163.out 2
        have hfz28_3 := blk_frozen BK163.out 3
        have hfz28_4 := blk_frozen BK163.out 4
        have hfz28_5 := blk_frozen BK163.out 5
        go_wp2
        (try subst hji11)
        (try subst hji13)
        go_meet
        case rel => exact ⟨_, (true), (by first | rfl | (simp; done) | (simp [*]; done)), H', ⟨by first | omega | exact Nat.le_refl _⟩, ⟨by (with_reducible repeat (first | refine blk_drewN ?_ _ | refine blk_drew ?_ | refine blk_alloc ?_ _)); exact BK163.out⟩, ⟨by (with_reducible repeat (first | refine blk_drewN ?_ _ | refine blk_drew ?_ | refine blk_alloc ?_ _)); exact BK165.out⟩, ⟨by repeat (first | (with_reducible first | exact HB.out | apply below_alloc | apply pw_below_drewN | apply below_drew1 | refine below_set ?_ GE163.out | refine below_set ?_ GE165.out) | exact HB.out)⟩⟩
       ·rw [if_neg c26] at H
        have c26b0 : decide (a0_2 < 0) = false := decide_eq_false c26
        clear c26
        have H' := Aside0.mk H
        clear H
        have hnb29 := NB163_165.out
        have hnc29 := NB165_163.out
        have hcz30_0 : w13.cell? ⟨gb163, 0, none⟩ = some (.int .i64 a0_0) := (blk_cell BK163.out 0).trans rfl
        have hcz30_1 : w13.cell? ⟨gb163, 1, none⟩ = some (.int .i64 a0_1) := (blk_cell BK163.out 1).trans rfl
        have hcz30_2 : w13.cell? ⟨gb163, 2, none⟩ = some (.int .i64 a0_2) := (blk_cell BK163.out 2).trans rfl
        have hcz30_3 : w13.cell? ⟨gb163, 3, none⟩ = some (.bool a0_3) := (blk_cell BK163.out 3).trans rfl
        have hcz30_4 : w13.cell? ⟨gb163, 4, none⟩ = some (.int .u64 a0_4) := (blk_cell BK163.out 4).trans rfl
        have hcz30_5 : w13.cell? ⟨gb163, 5, none⟩ = some (.int .u64 a0_5) := (blk_cell BK163.out 5).trans rfl
        have hfz30_0 := blk_frozen BK163.out 0
        have hfz30_1 := blk_frozen BK163.out 1
        have hfz30_2 := blk_frozen BK163.out 2
        have hfz30_3 := blk_frozen BK163.out 3
        have hfz30_4 := blk_frozen BK163.out 4
        have hfz30_5 := blk_frozen BK163.out 5
        go_wp2
        (try subst hji11)
        (try subst hji13)
        go_meet
        case rel => exact ⟨_, (decide (a0_2 > 3)), (by first | rfl | (simp; done) | (simp [*]; done)), H', ⟨by first | omega | exact Nat.le_refl _⟩, ⟨by (with_reducible repeat (first | refine blk_drewN ?_ _ | refine blk_drew ?_ | refine blk_alloc ?_ _)); exact BK163.out⟩, ⟨by (with_reducible repeat (first | refine blk_drewN ?_ _ | refine blk_drew ?_ | refine blk_alloc ?_ _)); exact BK165.out⟩, ⟨by repeat (first | (with_reducible first | exact HB.out | apply below_alloc | apply pw_below_drewN | apply below_drew1 | refine below_set ?_ GE163.out | refine below_set ?_ GE165.out) | exact HB.out)⟩⟩
  case rest =>
   clear HC6
   try clear c1
   try clear c2
   try clear p2
   try clear c3
   try clear c4
   try clear c7
   try clear c8
   try clear c11
   try clear c14
   try clear c14b0
   try clear c15
   try clear c17
   try clear c17b0
   try clear c18
   try clear c20
   try clear c20b0
   try clear c21
   try clear c23
   try clear c23b0
   try clear c24
   try clear c26
   try clear c26b0
   try clear c27
   try clear c29
   try clear hcz12_0
   try clear hcz12_1
   try clear hcz12_2
   try clear hcz12_3
   try clear hcz12_4
   try clear hcz12_5
   try clear hcz12_6
   try clear hcz16_0
   try clear hcz16_1
   try clear hcz16_2
   try clear hcz16_3
   try clear hcz16_4
   try clear hcz16_5
   try clear hcz19_0
   try clear hcz19_1
   try clear hcz19_2
   try clear hcz19_3
   try clear hcz19_4
   try clear hcz19_5
   try clear hcz22_0
   try clear hcz22_1
   try clear hcz22_2
   try clear hcz22_3
   try clear hcz22_4
   try clear hcz22_5
   try clear hcz25_0
   try clear hcz25_1
   try clear hcz25_2
   try clear hcz25_3
   try clear hcz25_4
   try clear hcz25_5
   try clear hcz28_0
   try clear hcz28_1
   try clear hcz28_2
   try clear hcz28_3
   try clear hcz28_4
   try clear hcz28_5
   try clear hcz30_0
   try clear hcz30_1
   try clear hcz30_2
   try clear hcz30_3
   try clear hcz30_4
   try clear hcz30_5
   try clear hcz9_0
   try clear hcz9_1
   try clear hcz9_2
   try clear hcz9_3
   try clear hcz9_4
   try clear hcz9_5
   try clear hfz12_0
   try clear hfz12_1
   try clear hfz12_2
   try clear hfz12_3
   try clear hfz12_4
   try clear hfz12_5
   try clear hfz12_6
   try clear hfz16_0
   try clear hfz16_1
   try clear hfz16_2
   try clear hfz16_3
   try clear hfz16_4
   try clear hfz16_5
   try clear hfz19_0
   try clear hfz19_1
   try clear hfz19_2
   try clear hfz19_3
   try clear hfz19_4
   try clear hfz19_5
   try clear hfz22_0
   try clear hfz22_1
   try clear hfz22_2
   try clear hfz22_3
   try clear hfz22_4
   try clear hfz22_5
   try clear hfz25_0
   try clear hfz25_1
   try clear hfz25_2
   try clear hfz25_3
   try clear hfz25_4
   try clear hfz25_5
   try clear hfz28_0
   try clear hfz28_1
   try clear hfz28_2
   try clear hfz28_3
   try clear hfz28_4
   try clear hfz28_5
   try clear hfz30_0
   try clear hfz30_1
   try clear hfz30_2
   try clear hfz30_3
   try clear hfz30_4
   try clear hfz30_5
   try clear hfz9_0
   try clear hfz9_1
   try clear hfz9_2
   try clear hfz9_3
   try clear hfz9_4
   try clear hfz9_5
   obtain ⟨kq, x54_5, rfl, HA, HJ5, BK163, BK165, HB⟩ := hcut
   cases kq with
   | zero => exact absurd HA.out (by simp [turnbucklelaw11_SymPuts.j0])
   | succ kj5 =>
    have H := HA.out
    clear HA
    simp only [turnbucklelaw11_SymPuts.j0] at H
    by_cases c31 : x54_5 = true
    ·subst c31
     have H1 : (some (t166.toList == ([] : List UInt8))) = some r := by rw [if_pos rfl] at H; exact H
     clear H
     have H := H1
     clear H1
     obtain rfl := Option.some.inj H
     go_wp2
     go_ret
     exact ⟨by first | rfl | (simp [errW_none, errW_some] <;> rfl) | (simp [*, errW_none, errW_some] <;> rfl), by repeat (first | (with_reducible first | exact HB.out | apply below_alloc | apply pw_below_drewN | apply below_drew1 | refine below_set ?_ GE163.out | refine below_set ?_ GE165.out) | exact HB.out)⟩
    ·replace c31 := Bool.eq_false_iff.mpr c31
     subst c31
     have H1 : ((turnbuckleref11_Put.f kj5 (⟨#[]⟩ : ByteArray) a0_0 a0_1 a0_2 a0_3 a0_4 a0_5 a1).bind fun t167 => (if t166.toList = t167.toList then (if 4 ≤ (t166.size : Int) then (if 4 + (t166.extract 4 t166.size).size ≤ 9223372036854775807 then ((sym_Read.f kj5 ((⟨#[0, 0, 0, 0]⟩ : ByteArray) ++ (t166.extract 4 t166.size)) (⟨#[97, 98, 0]⟩ : ByteArray)).bind fun bt168 => ((fail_Fault_OK.f bt168.2.1 bt168.2.2.1 bt168.2.2.2).bind fun t175 => (if t175 = true then (if (bt168.1.length : Int) = 1 then (if 0 < (bt168.1.length : Int) then (some ((((rd_T28 bt168.1 0).f0).toList) == ([97, 98] : List UInt8) && (((rd_T28 bt168.1 0).f1) == a0_0 && (((rd_T28 bt168.1 0).f2) == a0_1 && (((rd_T28 bt168.1 0).f3) == a0_2 && (((rd_T28 bt168.1 0).f4) == a0_3 && (((rd_T28 bt168.1 0).f5) == a0_4 && (((rd_T28 bt168.1 0).f6) == a0_5)))))))) else (none)) else (some false)) else (some false)))) else (none)) else (none)) else (some false))) = some r := by rw [if_neg (show ¬ (false = true) by decide)] at H; exact H
     clear H
     have H := H1
     clear H1
     replace H := Option.bind_eq_some_iff.mp H
     obtain ⟨t167, A320, H⟩ := H
     replace H : (if t166.toList = t167.toList then (if 4 ≤ (t166.size : Int) then (if 4 + (t166.extract 4 t166.size).size ≤ 9223372036854775807 then ((sym_Read.f kj5 ((⟨#[0, 0, 0, 0]⟩ : ByteArray) ++ (t166.extract 4 t166.size)) (⟨#[97, 98, 0]⟩ : ByteArray)).bind fun bt168 => ((fail_Fault_OK.f bt168.2.1 bt168.2.2.1 bt168.2.2.2).bind fun t175 => (if t175 = true then (if (bt168.1.length : Int) = 1 then (if 0 < (bt168.1.length : Int) then (some ((((rd_T28 bt168.1 0).f0).toList) == ([97, 98] : List UInt8) && (((rd_T28 bt168.1 0).f1) == a0_0 && (((rd_T28 bt168.1 0).f2) == a0_1 && (((rd_T28 bt168.1 0).f3) == a0_2 && (((rd_T28 bt168.1 0).f4) == a0_3 && (((rd_T28 bt168.1 0).f5) == a0_4 && (((rd_T28 bt168.1 0).f6) == a0_5)))))))) else (none)) else (some false)) else (some false)))) else (none)) else (none)) else (some false)) = some r := H
     have A32 := Aside0.mk A320
     clear A320
     by_cases c33 : t166.toList = t167.toList
     ·rw [if_pos c33] at H
      have c33b0 : (t166.toList == t167.toList) = true := beq_iff_eq.mpr c33
      have c33b1 : (t166.toList != t167.toList) = false := bne_eq_false_iff_eq.mpr c33
      clear c33
      by_cases c34 : 4 ≤ (t166.size : Int)
      ·rw [if_pos c34] at H
       have c34b0 := eq_true c34
       have c34b1 : decide (4 ≤ (t166.size : Int)) = true := decide_eq_true c34
       clear c34
       by_cases c35 : 4 + (t166.extract 4 t166.size).size ≤ 9223372036854775807
       ·rw [if_pos c35] at H
        have c35b0 := eq_true c35
        have c35b1 : decide (4 + (t166.extract 4 t166.size).size ≤ 9223372036854775807) = true := decide_eq_true c35
        try have c35b2 : (9223372036854775807 < 4 + (t166.extract 4 t166.size).size) = False := eq_false (Nat.not_lt.2 c35)
        (try (have c35b5 := c35b2; simp only [ByteArray.size_append, ByteArray.size_extract, Nat.sub_zero] at c35b5))
        (try (have c35b6 := c35b0; simp only [ByteArray.size_append, ByteArray.size_extract, Nat.sub_zero] at c35b6))
        (try (have c35b7 := c35b2; simp (discharger := (simp only [Int.toNat_le, *])) only [ByteArray.size_append, ByteArray.size_extract, Nat.sub_zero, Nat.min_self, Nat.min_eq_left] at c35b7))
        (try (have c35b8 := c35b0; simp (discharger := (simp only [Int.toNat_le, *])) only [ByteArray.size_append, ByteArray.size_extract, Nat.sub_zero, Nat.min_self, Nat.min_eq_left] at c35b8))
        replace H := Option.bind_eq_some_iff.mp H
        obtain ⟨⟨t168, t171, t172, t173⟩, A360, H⟩ := H
        replace H : ((fail_Fault_OK.f t171 t172 t173).bind fun t175 => (if t175 = true then (if (t168.length : Int) = 1 then (if 0 < (t168.length : Int) then (some ((((rd_T28 t168 0).f0).toList) == ([97, 98] : List UInt8) && (((rd_T28 t168 0).f1) == a0_0 && (((rd_T28 t168 0).f2) == a0_1 && (((rd_T28 t168 0).f3) == a0_2 && (((rd_T28 t168 0).f4) == a0_3 && (((rd_T28 t168 0).f5) == a0_4 && (((rd_T28 t168 0).f6) == a0_5)))))))) else (none)) else (some false)) else (some false))) = some r := H
        have A36 := Aside0.mk A360
        clear A360
        replace H := Option.bind_eq_some_iff.mp H
        obtain ⟨t175, A370, H⟩ := H
        replace H : (if t175 = true then (if (t168.length : Int) = 1 then (if 0 < (t168.length : Int) then (some ((((rd_T28 t168 0).f0).toList) == ([97, 98] : List UInt8) && (((rd_T28 t168 0).f1) == a0_0 && (((rd_T28 t168 0).f2) == a0_1 && (((rd_T28 t168 0).f3) == a0_2 && (((rd_T28 t168 0).f4) == a0_3 && (((rd_T28 t168 0).f5) == a0_4 && (((rd_T28 t168 0).f6) == a0_5)))))))) else (none)) else (some false)) else (some false)) = some r := H
        have A37 := Aside0.mk A370
        clear A370
        by_cases c38 : t175 = true
        ·subst c38
         have H1 : (if (t168.length : Int) = 1 then (if 0 < (t168.length : Int) then (some ((((rd_T28 t168 0).f0).toList) == ([97, 98] : List UInt8) && (((rd_T28 t168 0).f1) == a0_0 && (((rd_T28 t168 0).f2) == a0_1 && (((rd_T28 t168 0).f3) == a0_2 && (((rd_T28 t168 0).f4) == a0_3 && (((rd_T28 t168 0).f5) == a0_4 && (((rd_T28 t168 0).f6) == a0_5)))))))) else (none)) else (some false)) = some r := by rw [if_pos rfl] at H; exact H
         clear H
         have H := H1
         clear H1
         by_cases c39 : (t168.length : Int) = 1
         ·rw [if_pos c39] at H
          have c39b0 : ((t168.length : Int) == 1) = true := beq_iff_eq.mpr c39
          have c39b1 : ((t168.length : Int) != 1) = false := bne_eq_false_iff_eq.mpr c39
          clear c39
          by_cases c40 : 0 < (t168.length : Int)
          ·rw [if_pos c40] at H
           have c40b0 : decide (0 < (t168.length : Int)) = true := decide_eq_true c40
           have c40b1 : decide (0 < t168.length) = true := decide_eq_true (by omega)
           clear c40
           obtain rfl := Option.some.inj H
           have hnb41 := NB165_163.out
           have hnc41 := NB163_165.out
           have hcz42_0 : wc.cell? ⟨gb165, 0, none⟩ = some (.string (⟨#[]⟩ : ByteArray)) := (blk_cell BK165.out 0).trans rfl
           have hcz42_1 : wc.cell? ⟨gb165, 1, none⟩ = some (.int .i64 a0_0) := (blk_cell BK165.out 1).trans rfl
           have hcz42_2 : wc.cell? ⟨gb165, 2, none⟩ = some (.int .i64 a0_1) := (blk_cell BK165.out 2).trans rfl
           have hcz42_3 : wc.cell? ⟨gb165, 3, none⟩ = some (.int .i64 a0_2) := (blk_cell BK165.out 3).trans rfl
           have hcz42_4 : wc.cell? ⟨gb165, 4, none⟩ = some (.bool a0_3) := (blk_cell BK165.out 4).trans rfl
           have hcz42_5 : wc.cell? ⟨gb165, 5, none⟩ = some (.int .u64 a0_4) := (blk_cell BK165.out 5).trans rfl
           have hcz42_6 : wc.cell? ⟨gb165, 6, none⟩ = some (.int .u64 a0_5) := (blk_cell BK165.out 6).trans rfl
           have hfz42_0 := blk_frozen BK165.out 0
           have hfz42_1 := blk_frozen BK165.out 1
           have hfz42_2 := blk_frozen BK165.out 2
           have hfz42_3 := blk_frozen BK165.out 3
           have hfz42_4 := blk_frozen BK165.out 4
           have hfz42_5 := blk_frozen BK165.out 5
           have hfz42_6 := blk_frozen BK165.out 6
           try go_wp2_with (first | ((with_reducible refine gate_callee (f := 9) rfl ?_); refine goesL_ (some 60) rfl rfl Try.func9 (by kernel_rfl) rfl #[.agg #[.string (⟨#[]⟩ : ByteArray), .int .i64 a0_0, .int .i64 a0_1, .int .i64 a0_2, .bool a0_3, .int .u64 a0_4, .int .u64 a0_5], .int .u32 a1] rfl (by (try simp only [List.map_toArray, List.map_cons, List.map_nil]); first | done | rfl | (simp only [List.length_drop, List.length_take]; rfl)) ?_; (with_reducible refine (turnbuckleref11_Put.calls kj5 (⟨#[]⟩ : ByteArray) a0_0 a0_1 a0_2 a0_3 a0_4 a0_5 a1 t167 _ A32.out).mono ?_); rintro e w43 ⟨rfl, hb⟩; refine ⟨_, rfl, ?_⟩; have n0_ := Aside0.mk (blk_below (g := gb163) (o := .cells #[.int .i64 a0_0, .int .i64 a0_1, .int .i64 a0_2, .bool a0_3, .int .u64 a0_4, .int .u64 a0_5] 24 (0, 0)) (by (with_reducible repeat (first | refine blk_drewN ?_ _ | refine blk_drew ?_ | refine blk_alloc ?_ _)); exact BK163.out) hb); have n1_ := Aside0.mk (blk_below (g := gb165) (o := .cells #[.string (⟨#[]⟩ : ByteArray), .int .i64 a0_0, .int .i64 a0_1, .int .i64 a0_2, .bool a0_3, .int .u64 a0_4, .int .u64 a0_5] 28 (0, 0)) (by (with_reducible repeat (first | refine blk_drewN ?_ _ | refine blk_drew ?_ | refine blk_alloc ?_ _)); exact BK165.out) hb); have n2_ := Aside0.mk (below_step (by repeat (first | (with_reducible first | exact HB.out | apply below_alloc | apply pw_below_drewN | apply below_drew1 | refine below_set ?_ GE163.out | refine below_set ?_ GE165.out) | exact HB.out)) hb); clear BK163; clear BK165; clear HB; have BK163 := n0_; have BK165 := n1_; have HB := n2_; clear n0_ n1_ n2_; (try clear hb); (try clear hb2); (try clear hk); (try clear hi)) | ((with_reducible refine gate_callee (f := 10) rfl ?_); refine goesL_ (some 66) rfl rfl Try.func10 (by kernel_rfl) rfl #[.string ((⟨#[0, 0, 0, 0]⟩ : ByteArray) ++ (t166.extract 4 t166.size)), .string (⟨#[97, 98, 0]⟩ : ByteArray)] rfl (by (try simp only [List.map_toArray, List.map_cons, List.map_nil]); first | done | rfl | (simp only [List.length_drop, List.length_take]; rfl)) ?_; (with_reducible refine (sym_Read.calls kj5 ((⟨#[0, 0, 0, 0]⟩ : ByteArray) ++ (t166.extract 4 t166.size)) (⟨#[97, 98, 0]⟩ : ByteArray) t168 t171 t172 t173 _ A36.out).mono ?_); rintro e w44 ⟨v169, rfl, ho0, hb⟩; refine ⟨_, rfl, ?_⟩; have n0_ := Aside0.mk (Kd.R_lower (Kd.R_newB ho0 (g := gb165) (o := .cells #[.string (⟨#[]⟩ : ByteArray), .int .i64 a0_0, .int .i64 a0_1, .int .i64 a0_2, .bool a0_3, .int .u64 a0_4, .int .u64 a0_5] 28 (0, 0)) (by (with_reducible repeat (first | refine blk_drewN ?_ _ | refine blk_drew ?_ | refine blk_alloc ?_ _)); exact BK165.out)) (below_size (by repeat (first | (with_reducible first | exact HB.out | apply below_alloc | apply pw_below_drewN | apply below_drew1 | refine below_set ?_ GE163.out | refine below_set ?_ GE165.out) | exact HB.out)))); have n1_ := Aside0.mk (blk_below (g := gb163) (o := .cells #[.int .i64 a0_0, .int .i64 a0_1, .int .i64 a0_2, .bool a0_3, .int .u64 a0_4, .int .u64 a0_5] 24 (0, 0)) (by (with_reducible repeat (first | refine blk_drewN ?_ _ | refine blk_drew ?_ | refine blk_alloc ?_ _)); exact BK163.out) hb); have n2_ := Aside0.mk (blk_below (g := gb165) (o := .cells #[.string (⟨#[]⟩ : ByteArray), .int .i64 a0_0, .int .i64 a0_1, .int .i64 a0_2, .bool a0_3, .int .u64 a0_4, .int .u64 a0_5] 28 (0, 0)) (by (with_reducible repeat (first | refine blk_drewN ?_ _ | refine blk_drew ?_ | refine blk_alloc ?_ _)); exact BK165.out) hb); have n3_ := Aside0.mk (below_step (by repeat (first | (with_reducible first | exact HB.out | apply below_alloc | apply pw_below_drewN | apply below_drew1 | refine below_set ?_ GE163.out | refine below_set ?_ GE165.out) | exact HB.out)) hb); clear BK163; clear BK165; clear HB; have HO170 := n0_; have BK163 := n1_; have BK165 := n2_; have HB := n3_; clear n0_ n1_ n2_ n3_; (try clear hb); (try clear hb2); (try clear hk); (try clear hi); (try clear ho0)) | ((with_reducible refine gate_dst (N := 8) rfl ?_); (try (refine gate_guard (by rfl) ?_; dsimp only)); refine box_event ?hg (N := 8) ?hd (cs := #[.int .i64 0, .int .u64 0, .string (⟨#[]⟩ : ByteArray)]) (t := 35) ?hr ?_; (case hd => rfl); (case hg => rfl); (case hr => first | (go_simp; done) | (go_simp; rfl)); intro gb174 hg w45 hbox hb; have n0_ := Aside0.mk (Kd.R_below (by (with_reducible repeat (first | apply Kd.R_alloc | apply Kd.R_drewN | apply Kd.R_drew)); exact HO170.out) hb); have n1_ := Aside0.mk (blk_below (g := gb163) (o := .cells #[.int .i64 a0_0, .int .i64 a0_1, .int .i64 a0_2, .bool a0_3, .int .u64 a0_4, .int .u64 a0_5] 24 (0, 0)) (by (with_reducible repeat (first | refine blk_drewN ?_ _ | refine blk_drew ?_ | refine blk_alloc ?_ _)); exact BK163.out) hb); have n2_ := Aside0.mk (blk_below (g := gb165) (o := .cells #[.string (⟨#[]⟩ : ByteArray), .int .i64 a0_0, .int .i64 a0_1, .int .i64 a0_2, .bool a0_3, .int .u64 a0_4, .int .u64 a0_5] 28 (0, 0)) (by (with_reducible repeat (first | refine blk_drewN ?_ _ | refine blk_drew ?_ | refine blk_alloc ?_ _)); exact BK165.out) hb); have n3_ := Aside0.mk (below_step (by repeat (first | (with_reducible first | exact HB.out | apply below_alloc | apply pw_below_drewN | apply below_drew1 | refine below_set ?_ GE163.out | refine below_set ?_ GE165.out) | exact HB.out)) hb); have n4_ := Aside0.mk (hbox); have n5_ := Aside0.mk ((by rw [hg]; exact (below_size (by repeat (first | (with_reducible first | exact HB.out | apply below_alloc | apply pw_below_drewN | apply below_drew1 | refine below_set ?_ GE163.out | refine below_set ?_ GE165.out) | exact HB.out))) : w.heap.size ≤ gb174)); have n6_ := Aside0.mk ((by rw [hg]; exact (below_size (by repeat (first | (with_reducible first | exact HB.out | apply below_alloc | apply pw_below_drewN | apply below_drew1 | refine below_set ?_ GE163.out | refine below_set ?_ GE165.out) | exact HB.out))) : w.heap.size ≤ gb174)); have n7_ := Aside0.mk ((by rw [hg]; exact Nat.ne_of_lt (blk_lt (g := gb163) (o := .cells #[.int .i64 a0_0, .int .i64 a0_1, .int .i64 a0_2, .bool a0_3, .int .u64 a0_4, .int .u64 a0_5] 24 (0, 0)) (by (with_reducible repeat (first | refine blk_drewN ?_ _ | refine blk_drew ?_ | refine blk_alloc ?_ _)); exact BK163.out)) : gb163 ≠ gb174)); have n8_ := Aside0.mk ((by rw [hg]; exact Nat.ne_of_gt (blk_lt (g := gb163) (o := .cells #[.int .i64 a0_0, .int .i64 a0_1, .int .i64 a0_2, .bool a0_3, .int .u64 a0_4, .int .u64 a0_5] 24 (0, 0)) (by (with_reducible repeat (first | refine blk_drewN ?_ _ | refine blk_drew ?_ | refine blk_alloc ?_ _)); exact BK163.out)) : gb174 ≠ gb163)); have n9_ := Aside0.mk ((by rw [hg]; exact Nat.ne_of_lt (blk_lt (g := gb165) (o := .cells #[.string (⟨#[]⟩ : ByteArray), .int .i64 a0_0, .int .i64 a0_1, .int .i64 a0_2, .bool a0_3, .int .u64 a0_4, .int .u64 a0_5] 28 (0, 0)) (by (with_reducible repeat (first | refine blk_drewN ?_ _ | refine blk_drew ?_ | refine blk_alloc ?_ _)); exact BK165.out)) : gb165 ≠ gb174)); have n10_ := Aside0.mk ((by rw [hg]; exact Nat.ne_of_gt (blk_lt (g := gb165) (o := .cells #[.string (⟨#[]⟩ : ByteArray), .int .i64 a0_0, .int .i64 a0_1, .int .i64 a0_2, .bool a0_3, .int .u64 a0_4, .int .u64 a0_5] 28 (0, 0)) (by (with_reducible repeat (first | refine blk_drewN ?_ _ | refine blk_drew ?_ | refine blk_alloc ?_ _)); exact BK165.out)) : gb174 ≠ gb165)); clear HO170; clear BK163; clear BK165; clear HB; have HO170 := n0_; have BK163 := n1_; have BK165 := n2_; have HB := n3_; have BK174 := n4_; have GW174 := n5_; have GE174 := n6_; have NB163_174 := n7_; have NB174_163 := n8_; have NB165_174 := n9_; have NB174_165 := n10_; clear n0_ n1_ n2_ n3_ n4_ n5_ n6_ n7_ n8_ n9_ n10_; clear hb hbox hg; have hnb46 := NB174_163.out; have hnc46 := NB163_174.out; have hnb47 := NB174_165.out; have hnc47 := NB165_174.out; have hcz48_0 : w45.cell? ⟨gb174, 0, none⟩ = some (.int .i64 0) := (blk_cell BK174.out 0).trans rfl; have hcz48_1 : w45.cell? ⟨gb174, 1, none⟩ = some (.int .u64 0) := (blk_cell BK174.out 1).trans rfl; have hcz48_2 : w45.cell? ⟨gb174, 2, none⟩ = some (.string (⟨#[]⟩ : ByteArray)) := (blk_cell BK174.out 2).trans rfl; have hfz48_0 := blk_frozen BK174.out 0; have hfz48_1 := blk_frozen BK174.out 1; have hfz48_2 := blk_frozen BK174.out 2; have hcz49_0 : w45.cell? ⟨gb165, 0, none⟩ = some (.string (⟨#[]⟩ : ByteArray)) := (blk_cell BK165.out 0).trans rfl; have hcz49_1 : w45.cell? ⟨gb165, 1, none⟩ = some (.int .i64 a0_0) := (blk_cell BK165.out 1).trans rfl; have hcz49_2 : w45.cell? ⟨gb165, 2, none⟩ = some (.int .i64 a0_1) := (blk_cell BK165.out 2).trans rfl; have hcz49_3 : w45.cell? ⟨gb165, 3, none⟩ = some (.int .i64 a0_2) := (blk_cell BK165.out 3).trans rfl; have hcz49_4 : w45.cell? ⟨gb165, 4, none⟩ = some (.bool a0_3) := (blk_cell BK165.out 4).trans rfl; have hcz49_5 : w45.cell? ⟨gb165, 5, none⟩ = some (.int .u64 a0_4) := (blk_cell BK165.out 5).trans rfl; have hcz49_6 : w45.cell? ⟨gb165, 6, none⟩ = some (.int .u64 a0_5) := (blk_cell BK165.out 6).trans rfl; have hfz49_0 := blk_frozen BK165.out 0; have hfz49_1 := blk_frozen BK165.out 1; have hfz49_2 := blk_frozen BK165.out 2; have hfz49_3 := blk_frozen BK165.out 3; have hfz49_4 := blk_frozen BK165.out 4; have hfz49_5 := blk_frozen BK165.out 5; have hfz49_6 := blk_frozen BK165.out 6))
           have n0_ : Aside0 (Kd.R k28 28 ((((w45.setCell ⟨gb174, 0, none⟩ (.int .i64 t171)).setCell ⟨gb174, 1, none⟩ (.int .u64 t172)).setCell ⟨gb174, 2, none⟩ (.string t173)).setCell ⟨gb165, 0, none⟩ (.string (⟨#[97, 98]⟩ : ByteArray))) w.heap.size (fun k_ => k_ ≠ gb165) v169 t168) := ⟨by (with_reducible repeat (first | apply Kd.R_alloc | apply Kd.R_drewN | apply Kd.R_drew)); exact Kd.R_mono (Kd.R_far (p := ⟨gb165, 0, none⟩) (Kd.R_far (p := ⟨gb174, 2, none⟩) (Kd.R_far (p := ⟨gb174, 1, none⟩) (Kd.R_far (p := ⟨gb174, 0, none⟩) (Kd.R_mono (Kd.R_types HO170.out BK174.out (by decide)) (fun k_ hk => (⟨hk, hk.1.2⟩ : _ ∧ k_ ≠ gb165))) (fun _ hk => hk.1.2) (.int .i64 t171)) (fun _ hk => hk.1.2) (.int .u64 t172)) (fun _ hk => hk.1.2) (.string t173)) (fun _ hk => hk.2) (.string (⟨#[97, 98]⟩ : ByteArray))) (fun _ hk => hk.1.1.2)⟩
           have n1_ : Aside0 (((((w45.setCell ⟨gb174, 0, none⟩ (.int .i64 t171)).setCell ⟨gb174, 1, none⟩ (.int .u64 t172)).setCell ⟨gb174, 2, none⟩ (.string t173)).setCell ⟨gb165, 0, none⟩ (.string (⟨#[97, 98]⟩ : ByteArray))).heap[gb163]? = some (.cells #[.int .i64 a0_0, .int .i64 a0_1, .int .i64 a0_2, .bool a0_3, .int .u64 a0_4, .int .u64 a0_5] 24 (0, 0))) := ⟨by (with_reducible repeat (first | refine blk_drewN ?_ _ | refine blk_drew ?_ | refine blk_alloc ?_ _)); refine blk_far ?_ NB163_165.out _; (with_reducible repeat (first | refine blk_drewN ?_ _ | refine blk_drew ?_ | refine blk_alloc ?_ _)); refine blk_far ?_ NB163_174.out _; (with_reducible repeat (first | refine blk_drewN ?_ _ | refine blk_drew ?_ | refine blk_alloc ?_ _)); refine blk_far ?_ NB163_174.out _; (with_reducible repeat (first | refine blk_drewN ?_ _ | refine blk_drew ?_ | refine blk_alloc ?_ _)); refine blk_far ?_ NB163_174.out _; (with_reducible repeat (first | refine blk_drewN ?_ _ | refine blk_drew ?_ | refine blk_alloc ?_ _)); exact BK163.out⟩
           have n2_ : Aside0 (((((w45.setCell ⟨gb174, 0, none⟩ (.int .i64 t171)).setCell ⟨gb174, 1, none⟩ (.int .u64 t172)).setCell ⟨gb174, 2, none⟩ (.string t173)).setCell ⟨gb165, 0, none⟩ (.string (⟨#[97, 98]⟩ : ByteArray))).heap[gb165]? = some (.cells #[.string (⟨#[97, 98]⟩ : ByteArray), .int .i64 a0_0, .int .i64 a0_1, .int .i64 a0_2, .bool a0_3, .int .u64 a0_4, .int .u64 a0_5] 28 (0, 0))) := ⟨by (with_reducible repeat (first | refine blk_drewN ?_ _ | refine blk_drew ?_ | refine blk_alloc ?_ _)); refine blk_put (cs := #[.string (⟨#[]⟩ : ByteArray), .int .i64 a0_0, .int .i64 a0_1, .int .i64 a0_2, .bool a0_3, .int .u64 a0_4, .int .u64 a0_5]) ?_ 0 _ rfl; (with_reducible repeat (first | refine blk_drewN ?_ _ | refine blk_drew ?_ | refine blk_alloc ?_ _)); refine blk_far ?_ NB165_174.out _; (with_reducible repeat (first | refine blk_drewN ?_ _ | refine blk_drew ?_ | refine blk_alloc ?_ _)); refine blk_far ?_ NB165_174.out _; (with_reducible repeat (first | refine blk_drewN ?_ _ | refine blk_drew ?_ | refine blk_alloc ?_ _)); refine blk_far ?_ NB165_174.out _; (with_reducible repeat (first | refine blk_drewN ?_ _ | refine blk_drew ?_ | refine blk_alloc ?_ _)); exact BK165.out⟩
           have n3_ : Aside0 (((((w45.setCell ⟨gb174, 0, none⟩ (.int .i64 t171)).setCell ⟨gb174, 1, none⟩ (.int .u64 t172)).setCell ⟨gb174, 2, none⟩ (.string t173)).setCell ⟨gb165, 0, none⟩ (.string (⟨#[97, 98]⟩ : ByteArray))).heap[gb174]? = some (.cells #[.int .i64 t171, .int .u64 t172, .string t173] 35 (0, 0))) := ⟨by (with_reducible repeat (first | refine blk_drewN ?_ _ | refine blk_drew ?_ | refine blk_alloc ?_ _)); refine blk_far ?_ NB174_165.out _; (with_reducible repeat (first | refine blk_drewN ?_ _ | refine blk_drew ?_ | refine blk_alloc ?_ _)); refine blk_put (cs := #[.int .i64 t171, .int .u64 t172, .string (⟨#[]⟩ : ByteArray)]) ?_ 2 _ rfl; (with_reducible repeat (first | refine blk_drewN ?_ _ | refine blk_drew ?_ | refine blk_alloc ?_ _)); refine blk_put (cs := #[.int .i64 t171, .int .u64 0, .string (⟨#[]⟩ : ByteArray)]) ?_ 1 _ rfl; (with_reducible repeat (first | refine blk_drewN ?_ _ | refine blk_drew ?_ | refine blk_alloc ?_ _)); refine blk_put (cs := #[.int .i64 0, .int .u64 0, .string (⟨#[]⟩ : ByteArray)]) ?_ 0 _ rfl; (with_reducible repeat (first | refine blk_drewN ?_ _ | refine blk_drew ?_ | refine blk_alloc ?_ _)); exact BK174.out⟩
           have n4_ : Aside0 (Below w.heap.size w ((((w45.setCell ⟨gb174, 0, none⟩ (.int .i64 t171)).setCell ⟨gb174, 1, none⟩ (.int .u64 t172)).setCell ⟨gb174, 2, none⟩ (.string t173)).setCell ⟨gb165, 0, none⟩ (.string (⟨#[97, 98]⟩ : ByteArray)))) := ⟨by repeat (first | (with_reducible first | exact HB.out | apply below_alloc | apply pw_below_drewN | apply below_drew1 | refine below_set ?_ GE163.out | refine below_set ?_ GE165.out | refine below_set ?_ GE174.out) | exact HB.out)⟩
           (try clear HO170)
           (try clear BK163)
           (try clear BK165)
           (try clear BK174)
           (try clear HB)
           generalize ((((w45.setCell ⟨gb174, 0, none⟩ (.int .i64 t171)).setCell ⟨gb174, 1, none⟩ (.int .u64 t172)).setCell ⟨gb174, 2, none⟩ (.string t173)).setCell ⟨gb165, 0, none⟩ (.string (⟨#[97, 98]⟩ : ByteArray))) = w50 at n0_ n1_ n2_ n3_ n4_ ⊢
           have HO170 := n0_
           have BK163 := n1_
           have BK165 := n2_
           have BK174 := n3_
           have HB := n4_
           clear n0_ n1_ n2_ n3_ n4_
           have n0_ := Aside0.mk (Kd.R_drew HO170.out)
           have n1_ := Aside0.mk (blk_drew BK163.out)
           have n2_ := Aside0.mk (blk_drew BK165.out)
           have n3_ := Aside0.mk (blk_drew BK174.out)
           have n4_ := Aside0.mk (below_drew1 HB.out)
           clear HO170
           clear BK163
           clear BK165
           clear BK174
           clear HB
           have HO170 := n0_
           have BK163 := n1_
           have BK165 := n2_
           have BK174 := n3_
           have HB := n4_
           clear n0_ n1_ n2_ n3_ n4_
           have p176 : 0 ≤ (0 : Int) := (by omega)
           have q176 : 0 < (t168.length : Int) := of_decide_eq_true (by first | (with_reducible assumption) | assumption)
           (try (obtain ⟨Aq_, cq_, eq_⟩ := Kd.R_slice HO170.out; subst eq_))
           obtain ⟨ad176, e176, hx176_0, hx176_1, hx176_2, hx176_3, hx176_4, hx176_5, hx176_6⟩ := at_T28 (Kd.R_reads' HO170.out).2.2 0 p176 q176
           cases e176
           have qi176 : (0 < t168.length) = True := eq_true (by omega)
           (try rw [show ((0 : Int)).toNat = 0 from rfl] at hx176_0)
           (try rw [show 0 * 7 = 0 from rfl] at hx176_0)
           (try rw [Addr.add_zero'] at hx176_0)
           (try rw [show ((0 : Int)).toNat = 0 from rfl] at hx176_1)
           (try rw [show 0 * 7 = 0 from rfl] at hx176_1)
           (try rw [Addr.add_zero'] at hx176_1)
           (try rw [show ((0 : Int)).toNat = 0 from rfl] at hx176_2)
           (try rw [show 0 * 7 = 0 from rfl] at hx176_2)
           (try rw [Addr.add_zero'] at hx176_2)
           (try rw [show ((0 : Int)).toNat = 0 from rfl] at hx176_3)
           (try rw [show 0 * 7 = 0 from rfl] at hx176_3)
           (try rw [Addr.add_zero'] at hx176_3)
           (try rw [show ((0 : Int)).toNat = 0 from rfl] at hx176_4)
           (try rw [show 0 * 7 = 0 from rfl] at hx176_4)
           (try rw [Addr.add_zero'] at hx176_4)
           (try rw [show ((0 : Int)).toNat = 0 from rfl] at hx176_5)
           (try rw [show 0 * 7 = 0 from rfl] at hx176_5)
           (try rw [Addr.add_zero'] at hx176_5)
           (try rw [show ((0 : Int)).toNat = 0 from rfl] at hx176_6)
           (try rw [show 0 * 7 = 0 from rfl] at hx176_6)
           (try rw [Addr.add_zero'] at hx176_6)
           replace p176 := eq_true p176
           replace q176 := eq_true q176
           refine start_ (n := 15) (S := fun w' => w'.cell? ⟨gb174, 0, none⟩ = some (.int .i64 t171) ∧ w'.cell? ⟨gb174, 1, none⟩ = some (.int .u64 t172) ∧ w'.cell? ⟨gb174, 2, none⟩ = some (.string t173) ∧ w'.cell? ⟨gb165, 0, none⟩ = some (.string (⟨#[97, 98]⟩ : ByteArray)) ∧ w'.cell? ⟨gb165, 1, none⟩ = some (.int .i64 a0_0) ∧ w'.cell? ⟨gb165, 2, none⟩ = some (.int .i64 a0_1) ∧ w'.cell? ⟨gb165, 3, none⟩ = some (.int .i64 a0_2) ∧ w'.cell? ⟨gb165, 4, none⟩ = some (.bool a0_3) ∧ w'.cell? ⟨gb165, 5, none⟩ = some (.int .u64 a0_4) ∧ w'.cell? ⟨gb165, 6, none⟩ = some (.int .u64 a0_5) ∧ w'.cell? ad176 = some (.string ((rd_T28 t168 0).f0)) ∧ w'.cell? ⟨ad176.block, ad176.off + 1, none⟩ = some (.int .i64 ((rd_T28 t168 0).f1)) ∧ w'.cell? ⟨ad176.block, ad176.off + 2, none⟩ = some (.int .i64 ((rd_T28 t168 0).f2)) ∧ w'.cell? ⟨ad176.block, ad176.off + 3, none⟩ = some (.int .i64 ((rd_T28 t168 0).f3)) ∧ w'.cell? ⟨ad176.block, ad176.off + 4, none⟩ = some (.bool ((rd_T28 t168 0).f4)) ∧ w'.cell? ⟨ad176.block, ad176.off + 5, none⟩ = some (.int .u64 ((rd_T28 t168 0).f5)) ∧ w'.cell? ⟨ad176.block, ad176.off + 6, none⟩ = some (.int .u64 ((rd_T28 t168 0).f6))) (ds := []) #[false,false,false,false,false,false,false,false,false,false,false,false,false,false,false] (by kernel_rfl) rfl rfl ⟨(blk_cell BK174.out 0).trans rfl, (blk_cell BK174.out 1).trans rfl, (blk_cell BK174.out 2).trans rfl, (blk_cell BK165.out 0).trans rfl, (blk_cell BK165.out 1).trans rfl, (blk_cell BK165.out 2).trans rfl, (blk_cell BK165.out 3).trans rfl, (blk_cell BK165.out 4).trans rfl, (blk_cell BK165.out 5).trans rfl, (blk_cell BK165.out 6).trans rfl, hx176_0, hx176_1, hx176_2, hx176_3, hx176_4, hx176_5, hx176_6⟩ (fun hHeld => ?_); refine with_tabW turnbucklelaw11_SymPuts.tab11 turnbucklelaw11_SymPuts.bits11 (fun HT_ HW_ => ?_)
           generalize w50.drew = w51 at HO170 BK163 BK165 BK174 HB hx176_0 hx176_1 hx176_2 hx176_3 hx176_4 hx176_5 hx176_6 hHeld ⊢
           refine take_ (i := 0) (N := some 70) (v:=?_) (a':=?_) #[true,false,false,false,false,false,false,false,false,false,false,false,false,false,false] rfl rfl (take_ofW HT_.out HW_.out (by kernel_rfl)) (fun _ _ _ h=>h) (Or.inl ⟨by rfl, ?_⟩) hHeld ?_ ?_
           rotate_left
           ·rintro w' ⟨s0, s1, s2, s3, s4, s5, s6, s7, s8, s9, s10, s11, s12, s13, s14, s15, s16⟩
            go_simp
            with_reducible rfl
           rotate_left
           ·simp only [Act.put,lz1,lz2,lz3,i64_w,i32_w]
            rfl
           refine one_ (i := 1) (N := some 71) #[true,true,false,false,false,false,false,false,false,false,false,false,false,false,false] rfl rfl (one_of HT_.out (by kernel_rfl)) (by decide) (fun K hK => ?_)
           refine goes_ Try.func11 (by kernel_rfl) rfl #[.agg #[.int .i64 t171, .int .u64 t172, .string t173]] (by rfl) rfl rfl (by (try simp only [List.map_toArray, List.map_cons, List.map_nil]); first | done | rfl | (simp only [List.length_drop, List.length_take]; rfl)) ?_
           with_reducible refine (fail_Fault_OK.calls t171 t172 t173 true _ A37.out).mono ?_
           rintro e w52 ⟨rfl, hb⟩
           have HS10_ := (hb.cell (World.block_lt_of_cell? _ _ (hHeld.2.2.2.2.2.2.2.2.2.2.1))).trans (hHeld.2.2.2.2.2.2.2.2.2.2.1)
           have HS11_ := (hb.cell (World.block_lt_of_cell? _ _ (hHeld.2.2.2.2.2.2.2.2.2.2.2.1))).trans (hHeld.2.2.2.2.2.2.2.2.2.2.2.1)
           have HS12_ := (hb.cell (World.block_lt_of_cell? _ _ (hHeld.2.2.2.2.2.2.2.2.2.2.2.2.1))).trans (hHeld.2.2.2.2.2.2.2.2.2.2.2.2.1)
           have HS13_ := (hb.cell (World.block_lt_of_cell? _ _ (hHeld.2.2.2.2.2.2.2.2.2.2.2.2.2.1))).trans (hHeld.2.2.2.2.2.2.2.2.2.2.2.2.2.1)
           have HS14_ := (hb.cell (World.block_lt_of_cell? _ _ (hHeld.2.2.2.2.2.2.2.2.2.2.2.2.2.2.1))).trans (hHeld.2.2.2.2.2.2.2.2.2.2.2.2.2.2.1)
           have HS15_ := (hb.cell (World.block_lt_of_cell? _ _ (hHeld.2.2.2.2.2.2.2.2.2.2.2.2.2.2.2.1))).trans (hHeld.2.2.2.2.2.2.2.2.2.2.2.2.2.2.2.1)
           have HS16_ := (hb.cell (World.block_lt_of_cell? _ _ (hHeld.2.2.2.2.2.2.2.2.2.2.2.2.2.2.2.2))).trans (hHeld.2.2.2.2.2.2.2.2.2.2.2.2.2.2.2.2)
           refine ⟨_, rfl, ?_⟩
           have n0_ := Aside0.mk (Kd.R_below (by (with_reducible repeat (first | apply Kd.R_alloc | apply Kd.R_drewN | apply Kd.R_drew)); exact HO170.out) hb)
           have n1_ := Aside0.mk (blk_below (g := gb163) (o := .cells #[.int .i64 a0_0, .int .i64 a0_1, .int .i64 a0_2, .bool a0_3, .int .u64 a0_4, .int .u64 a0_5] 24 (0, 0)) (by (with_reducible repeat (first | refine blk_drewN ?_ _ | refine blk_drew ?_ | refine blk_alloc ?_ _)); exact BK163.out) hb)
           have n2_ := Aside0.mk (blk_below (g := gb165) (o := .cells #[.string (⟨#[97, 98]⟩ : ByteArray), .int .i64 a0_0, .int .i64 a0_1, .int .i64 a0_2, .bool a0_3, .int .u64 a0_4, .int .u64 a0_5] 28 (0, 0)) (by (with_reducible repeat (first | refine blk_drewN ?_ _ | refine blk_drew ?_ | refine blk_alloc ?_ _)); exact BK165.out) hb)
           have n3_ := Aside0.mk (blk_below (g := gb174) (o := .cells #[.int .i64 t171, .int .u64 t172, .string t173] 35 (0, 0)) (by (with_reducible repeat (first | refine blk_drewN ?_ _ | refine blk_drew ?_ | refine blk_alloc ?_ _)); exact BK174.out) hb)
           have n4_ := Aside0.mk (below_step (by repeat (first | (with_reducible first | exact HB.out | apply below_alloc | apply pw_below_drewN | apply below_drew1 | refine below_set ?_ GE163.out | refine below_set ?_ GE165.out | refine below_set ?_ GE174.out) | exact HB.out)) hb)
           clear HO170
           clear BK163
           clear BK165
           clear BK174
           clear HB
           have HO170 := n0_
           have BK163 := n1_
           have BK165 := n2_
           have BK174 := n3_
           have HB := n4_
           clear n0_ n1_ n2_ n3_ n4_
           (try clear hb)
           (try clear hb2)
           (try clear hk)
           (try clear hi)
           obtain ⟨Ao53, co53, eo53⟩ := Kd.R_slice HO170.out
           (first | subst eo53 | (injection eo53 with f1_ f2_ f3_; have f4_ := f1_.symm; have f5_ := f3_.symm; clear f1_ f2_ f3_; subst f4_; subst f5_))
           refine hK.out _ _ ⟨(blk_cell BK174.out 0).trans rfl, (blk_cell BK174.out 1).trans rfl, (blk_cell BK174.out 2).trans rfl, (blk_cell BK165.out 0).trans rfl, (blk_cell BK165.out 1).trans rfl, (blk_cell BK165.out 2).trans rfl, (blk_cell BK165.out 3).trans rfl, (blk_cell BK165.out 4).trans rfl, (blk_cell BK165.out 5).trans rfl, (blk_cell BK165.out 6).trans rfl, HS10_, HS11_, HS12_, HS13_, HS14_, HS15_, HS16_⟩ (fun hHeld => ?_)
           clear hK K
           refine norm_ (a' := ?_) ?_ ?_
           rotate_left
           ·show Act.put _ (some 71) _ = _
            simp only [Act.put,lz1,lz2,lz3,i64_w,i32_w]
            rfl
           refine pure_ (i:=2) (N := some 72) (v:=?_) (a':=?_) #[true,true,true,false,false,false,false,false,false,false,false,false,false,false,false] rfl rfl (any_of HT_.out (by kernel_rfl)) (fun _ _ _ h=>h) (Or.inl ⟨by rfl, ?_⟩) ?_ ?_
           rotate_left
           ·intro w'
            go_simp
            with_reducible rfl
           rotate_left
           ·simp only [Act.put,lz1,lz2,lz3,i64_w,i32_w]
            rfl
           refine pure_ (i:=3) (N := some 73) (v:=?_) (a':=?_) #[true,true,true,true,false,false,false,false,false,false,false,false,false,false,false] rfl rfl (any_of HT_.out (by kernel_rfl)) (fun _ _ _ h=>h) (Or.inl ⟨by rfl, ?_⟩) ?_ ?_
           rotate_left
           ·intro w'
            go_simp
            with_reducible rfl
           rotate_left
           ·simp only [Act.put,lz1,lz2,lz3,i64_w,i32_w]
            rfl
           refine pure_ (i:=4) (N := some 74) (v:=?_) (a':=?_) #[true,true,true,true,true,false,false,false,false,false,false,false,false,false,false] rfl rfl (any_of HT_.out (by kernel_rfl)) (fun _ _ _ h=>h) (Or.inl ⟨by rfl, ?_⟩) ?_ ?_
           rotate_left
           ·intro w'
            go_simp
            with_reducible rfl
           rotate_left
           ·simp only [Act.put,lz1,lz2,lz3,i64_w,i32_w]
            rfl
           refine pure_ (i:=5) (N := some 75) (v:=?_) (a':=?_) #[true,true,true,true,true,true,false,false,false,false,false,false,false,false,false] rfl rfl (any_of HT_.out (by kernel_rfl)) (fun _ _ _ h=>h) (Or.inl ⟨by rfl, ?_⟩) ?_ ?_
           rotate_left
           ·intro w'
            go_simp
            with_reducible rfl
           rotate_left
           ·simp only [Act.put,lz1,lz2,lz3,i64_w,i32_w]
            rfl
           refine pure_ (i:=6) (N := some 76) (v:=?_) (a':=?_) #[true,true,true,true,true,true,true,false,false,false,false,false,false,false,false] rfl rfl (any_of HT_.out (by kernel_rfl)) (fun _ _ _ h=>h) (Or.inl ⟨by rfl, ?_⟩) ?_ ?_
           rotate_left
           ·intro w'
            go_simp
            with_reducible rfl
           rotate_left
           ·simp only [Act.put,lz1,lz2,lz3,i64_w,i32_w]
            rfl
           refine pure_ (i:=7) (N := some 77) (v:=?_) (a':=?_) #[true,true,true,true,true,true,true,true,false,false,false,false,false,false,false] rfl rfl (any_of HT_.out (by kernel_rfl)) (fun _ _ _ h=>h) (Or.inl ⟨by rfl, ?_⟩) ?_ ?_
           rotate_left
           ·intro w'
            go_simp
            with_reducible rfl
           rotate_left
           ·simp only [Act.put,lz1,lz2,lz3,i64_w,i32_w]
            rfl
           refine pure_ (i:=8) (N := some 78) (v:=?_) (a':=?_) #[true,true,true,true,true,true,true,true,true,false,false,false,false,false,false] rfl rfl (any_of HT_.out (by kernel_rfl)) (fun _ _ _ h=>h) (Or.inl ⟨by rfl, ?_⟩) ?_ ?_
           rotate_left
           ·intro w'
            go_simp
            with_reducible rfl
           rotate_left
           ·simp only [Act.put,lz1,lz2,lz3,i64_w,i32_w]
            rfl
           refine pure_ (i:=9) (N := some 79) (v:=?_) (a':=?_) #[true,true,true,true,true,true,true,true,true,true,false,false,false,false,false] rfl rfl (any_of HT_.out (by kernel_rfl)) (fun _ _ _ h=>h) (Or.inl ⟨by rfl, ?_⟩) ?_ ?_
           rotate_left
           ·intro w'
            go_simp
            with_reducible rfl
           rotate_left
           ·simp only [Act.put,lz1,lz2,lz3,i64_w,i32_w]
            rfl
           refine take_ (i := 10) (N := some 80) (v:=?_) (a':=?_) #[true,true,true,true,true,true,true,true,true,true,true,false,false,false,false] rfl rfl (take_ofW HT_.out HW_.out (by kernel_rfl)) (fun _ _ _ h=>h) (Or.inl ⟨by rfl, ?_⟩) hHeld ?_ ?_
           rotate_left
           ·rintro w' ⟨s0, s1, s2, s3, s4, s5, s6, s7, s8, s9, s10, s11, s12, s13, s14, s15, s16⟩
            go_simp
            with_reducible rfl
           rotate_left
           ·simp only [Act.put,lz1,lz2,lz3,i64_w,i32_w]
            rfl
           refine take_ (i := 11) (N := some 81) (v:=?_) (a':=?_) #[true,true,true,true,true,true,true,true,true,true,true,true,false,false,false] rfl rfl (take_ofW HT_.out HW_.out (by kernel_rfl)) (fun _ _ _ h=>h) (Or.inl ⟨by rfl, ?_⟩) hHeld ?_ ?_
           rotate_left
           ·rintro w' ⟨s0, s1, s2, s3, s4, s5, s6, s7, s8, s9, s10, s11, s12, s13, s14, s15, s16⟩
            go_simp
            with_reducible rfl
           rotate_left
           ·simp only [Act.put,lz1,lz2,lz3,i64_w,i32_w]
            rfl
           refine pure_ (i:=12) (N := some 82) (v:=?_) (a':=?_) #[true,true,true,true,true,true,true,true,true,true,true,true,true,false,false] rfl rfl (any_of HT_.out (by kernel_rfl)) (fun _ _ _ h=>h) (Or.inl ⟨by rfl, ?_⟩) ?_ ?_
           rotate_left
           ·intro w'
            go_simp
            first | with_reducible rfl | (refine Eq.trans (b := .ok (.value (.bool true)) w') ?_ (by with_reducible rfl); (repeat' (first | with_reducible rfl | split)); all_goals (first | rfl | (exfalso; simp_all; done))) | (refine Eq.trans (b := .ok (.value (.bool false)) w') ?_ (by with_reducible rfl); (repeat' (first | with_reducible rfl | split)); all_goals (first | rfl | (exfalso; simp_all; done)))
           rotate_left
           ·simp only [Act.put,lz1,lz2,lz3,i64_w,i32_w]
            rfl
           refine pure_ (i:=13) (N := some 83) (v:=?_) (a':=?_) #[true,true,true,true,true,true,true,true,true,true,true,true,true,true,false] rfl rfl (any_of HT_.out (by kernel_rfl)) (fun _ _ _ h=>h) (Or.inl ⟨by rfl, ?_⟩) ?_ ?_
           rotate_left
           ·intro w'
            go_simp
            with_reducible rfl
           rotate_left
           ·simp only [Act.put,lz1,lz2,lz3,i64_w,i32_w]
            rfl
           refine pure_ (i:=14) (N := some 4) (v:=?_) (a':=?_) #[true,true,true,true,true,true,true,true,true,true,true,true,true,true,true] rfl rfl (any_of HT_.out (by kernel_rfl)) (fun _ _ _ h=>h) (Or.inl ⟨by rfl, ?_⟩) ?_ ?_
           rotate_left
           ·intro w'
            go_simp
            with_reducible rfl
           rotate_left
           ·simp only [Act.put,lz1,lz2,lz3,i64_w,i32_w]
            rfl
           refine done_ (done_of HT_.out (by kernel_rfl)) ?_
           try go_wp2
           go_ret
           exact ⟨by first | rfl | (simp [errW_none, errW_some] <;> rfl) | (simp [*, errW_none, errW_some] <;> rfl), by repeat (first | (with_reducible first | exact HB.out | apply below_alloc | apply pw_below_drewN | apply below_drew1 | refine below_set ?_ GE163.out | refine below_set ?_ GE165.out | refine below_set ?_ GE174.out) | exact HB.out)⟩
          ·rw [if_neg c40] at H
           exact absurd H (by simp)
         ·rw [if_neg c39] at H
          have c39b0 : ((t168.length : Int) == 1) = false := beq_eq_false_iff_ne.mpr c39
          have c39b1 : ((t168.length : Int) != 1) = true := bne_iff_ne.mpr c39
          obtain rfl := Option.some.inj H
          have hnb54 := NB165_163.out
          have hnc54 := NB163_165.out
          have hcz55_0 : wc.cell? ⟨gb165, 0, none⟩ = some (.string (⟨#[]⟩ : ByteArray)) := (blk_cell BK165.out 0).trans rfl
          have hcz55_1 : wc.cell? ⟨gb165, 1, none⟩ = some (.int .i64 a0_0) := (blk_cell BK165.out 1).trans rfl
          have hcz55_2 : wc.cell? ⟨gb165, 2, none⟩ = some (.int .i64 a0_1) := (blk_cell BK165.out 2).trans rfl
          have hcz55_3 : wc.cell? ⟨gb165, 3, none⟩ = some (.int .i64 a0_2) := (blk_cell BK165.out 3).trans rfl
          have hcz55_4 : wc.cell? ⟨gb165, 4, none⟩ = some (.bool a0_3) := (blk_cell BK165.out 4).trans rfl
          have hcz55_5 : wc.cell? ⟨gb165, 5, none⟩ = some (.int .u64 a0_4) := (blk_cell BK165.out 5).trans rfl
          have hcz55_6 : wc.cell? ⟨gb165, 6, none⟩ = some (.int .u64 a0_5) := (blk_cell BK165.out 6).trans rfl
          have hfz55_0 := blk_frozen BK165.out 0
          have hfz55_1 := blk_frozen BK165.out 1
          have hfz55_2 := blk_frozen BK165.out 2
          have hfz55_3 := blk_frozen BK165.out 3
          have hfz55_4 := blk_frozen BK165.out 4
          have hfz55_5 := blk_frozen BK165.out 5
          have hfz55_6 := blk_frozen BK165.out 6
          try go_wp2_with (first | ((with_reducible refine gate_callee (f := 9) rfl ?_); refine goesL_ (some 60) rfl rfl Try.func9 (by kernel_rfl) rfl #[.agg #[.string (⟨#[]⟩ : ByteArray), .int .i64 a0_0, .int .i64 a0_1, .int .i64 a0_2, .bool a0_3, .int .u64 a0_4, .int .u64 a0_5], .int .u32 a1] rfl (by (try simp only [List.map_toArray, List.map_cons, List.map_nil]); first | done | rfl | (simp only [List.length_drop, List.length_take]; rfl)) ?_; (with_reducible refine (turnbuckleref11_Put.calls kj5 (⟨#[]⟩ : ByteArray) a0_0 a0_1 a0_2 a0_3 a0_4 a0_5 a1 t167 _ A32.out).mono ?_); rintro e w56 ⟨rfl, hb⟩; refine ⟨_, rfl, ?_⟩; have n0_ := Aside0.mk (blk_below (g := gb163) (o := .cells #[.int .i64 a0_0, .int .i64 a0_1, .int .i64 a0_2, .bool a0_3, .int .u64 a0_4, .int .u64 a0_5] 24 (0, 0)) (by (with_reducible repeat (first | refine blk_drewN ?_ _ | refine blk_drew ?_ | refine blk_alloc ?_ _)); exact BK163.out) hb); have n1_ := Aside0.mk (blk_below (g := gb165) (o := .cells #[.string (⟨#[]⟩ : ByteArray), .int .i64 a0_0, .int .i64 a0_1, .int .i64 a0_2, .bool a0_3, .int .u64 a0_4, .int .u64 a0_5] 28 (0, 0)) (by (with_reducible repeat (first | refine blk_drewN ?_ _ | refine blk_drew ?_ | refine blk_alloc ?_ _)); exact BK165.out) hb); have n2_ := Aside0.mk (below_step (by repeat (first | (with_reducible first | exact HB.out | apply below_alloc | apply pw_below_drewN | apply below_drew1 | refine below_set ?_ GE163.out | refine below_set ?_ GE165.out) | exact HB.out)) hb); clear BK163; clear BK165; clear HB; have BK163 := n0_; have BK165 := n1_; have HB := n2_; clear n0_ n1_ n2_; (try clear hb); (try clear hb2); (try clear hk); (try clear hi)) | ((with_reducible refine gate_callee (f := 10) rfl ?_); refine goesL_ (some 66) rfl rfl Try.func10 (by kernel_rfl) rfl #[.string ((⟨#[0, 0, 0, 0]⟩ : ByteArray) ++ (t166.extract 4 t166.size)), .string (⟨#[97, 98, 0]⟩ : ByteArray)] rfl (by (try simp only [List.map_toArray, List.map_cons, List.map_nil]); first | done | rfl | (simp only [List.length_drop, List.length_take]; rfl)) ?_; (with_reducible refine (sym_Read.calls kj5 ((⟨#[0, 0, 0, 0]⟩ : ByteArray) ++ (t166.extract 4 t166.size)) (⟨#[97, 98, 0]⟩ : ByteArray) t168 t171 t172 t173 _ A36.out).mono ?_); rintro e w57 ⟨v169, rfl, ho0, hb⟩; refine ⟨_, rfl, ?_⟩; have n0_ := Aside0.mk (Kd.R_lower (Kd.R_newB ho0 (g := gb165) (o := .cells #[.string (⟨#[]⟩ : ByteArray), .int .i64 a0_0, .int .i64 a0_1, .int .i64 a0_2, .bool a0_3, .int .u64 a0_4, .int .u64 a0_5] 28 (0, 0)) (by (with_reducible repeat (first | refine blk_drewN ?_ _ | refine blk_drew ?_ | refine blk_alloc ?_ _)); exact BK165.out)) (below_size (by repeat (first | (with_reducible first | exact HB.out | apply below_alloc | apply pw_below_drewN | apply below_drew1 | refine below_set ?_ GE163.out | refine below_set ?_ GE165.out) | exact HB.out)))); have n1_ := Aside0.mk (blk_below (g := gb163) (o := .cells #[.int .i64 a0_0, .int .i64 a0_1, .int .i64 a0_2, .bool a0_3, .int .u64 a0_4, .int .u64 a0_5] 24 (0, 0)) (by (with_reducible repeat (first | refine blk_drewN ?_ _ | refine blk_drew ?_ | refine blk_alloc ?_ _)); exact BK163.out) hb); have n2_ := Aside0.mk (blk_below (g := gb165) (o := .cells #[.string (⟨#[]⟩ : ByteArray), .int .i64 a0_0, .int .i64 a0_1, .int .i64 a0_2, .bool a0_3, .int .u64 a0_4, .int .u64 a0_5] 28 (0, 0)) (by (with_reducible repeat (first | refine blk_drewN ?_ _ | refine blk_drew ?_ | refine blk_alloc ?_ _)); exact BK165.out) hb); have n3_ := Aside0.mk (below_step (by repeat (first | (with_reducible first | exact HB.out | apply below_alloc | apply pw_below_drewN | apply below_drew1 | refine below_set ?_ GE163.out | refine below_set ?_ GE165.out) | exact HB.out)) hb); clear BK163; clear BK165; clear HB; have HO170 := n0_; have BK163 := n1_; have BK165 := n2_; have HB := n3_; clear n0_ n1_ n2_ n3_; (try clear hb); (try clear hb2); (try clear hk); (try clear hi); (try clear ho0)) | ((with_reducible refine gate_dst (N := 8) rfl ?_); (try (refine gate_guard (by rfl) ?_; dsimp only)); refine box_event ?hg (N := 8) ?hd (cs := #[.int .i64 0, .int .u64 0, .string (⟨#[]⟩ : ByteArray)]) (t := 35) ?hr ?_; (case hd => rfl); (case hg => rfl); (case hr => first | (go_simp; done) | (go_simp; rfl)); intro gb174 hg w58 hbox hb; have n0_ := Aside0.mk (Kd.R_below (by (with_reducible repeat (first | apply Kd.R_alloc | apply Kd.R_drewN | apply Kd.R_drew)); exact HO170.out) hb); have n1_ := Aside0.mk (blk_below (g := gb163) (o := .cells #[.int .i64 a0_0, .int .i64 a0_1, .int .i64 a0_2, .bool a0_3, .int .u64 a0_4, .int .u64 a0_5] 24 (0, 0)) (by (with_reducible repeat (first | refine blk_drewN ?_ _ | refine blk_drew ?_ | refine blk_alloc ?_ _)); exact BK163.out) hb); have n2_ := Aside0.mk (blk_below (g := gb165) (o := .cells #[.string (⟨#[]⟩ : ByteArray), .int .i64 a0_0, .int .i64 a0_1, .int .i64 a0_2, .bool a0_3, .int .u64 a0_4, .int .u64 a0_5] 28 (0, 0)) (by (with_reducible repeat (first | refine blk_drewN ?_ _ | refine blk_drew ?_ | refine blk_alloc ?_ _)); exact BK165.out) hb); have n3_ := Aside0.mk (below_step (by repeat (first | (with_reducible first | exact HB.out | apply below_alloc | apply pw_below_drewN | apply below_drew1 | refine below_set ?_ GE163.out | refine below_set ?_ GE165.out) | exact HB.out)) hb); have n4_ := Aside0.mk (hbox); have n5_ := Aside0.mk ((by rw [hg]; exact (below_size (by repeat (first | (with_reducible first | exact HB.out | apply below_alloc | apply pw_below_drewN | apply below_drew1 | refine below_set ?_ GE163.out | refine below_set ?_ GE165.out) | exact HB.out))) : w.heap.size ≤ gb174)); have n6_ := Aside0.mk ((by rw [hg]; exact (below_size (by repeat (first | (with_reducible first | exact HB.out | apply below_alloc | apply pw_below_drewN | apply below_drew1 | refine below_set ?_ GE163.out | refine below_set ?_ GE165.out) | exact HB.out))) : w.heap.size ≤ gb174)); have n7_ := Aside0.mk ((by rw [hg]; exact Nat.ne_of_lt (blk_lt (g := gb163) (o := .cells #[.int .i64 a0_0, .int .i64 a0_1, .int .i64 a0_2, .bool a0_3, .int .u64 a0_4, .int .u64 a0_5] 24 (0, 0)) (by (with_reducible repeat (first | refine blk_drewN ?_ _ | refine blk_drew ?_ | refine blk_alloc ?_ _)); exact BK163.out)) : gb163 ≠ gb174)); have n8_ := Aside0.mk ((by rw [hg]; exact Nat.ne_of_gt (blk_lt (g := gb163) (o := .cells #[.int .i64 a0_0, .int .i64 a0_1, .int .i64 a0_2, .bool a0_3, .int .u64 a0_4, .int .u64 a0_5] 24 (0, 0)) (by (with_reducible repeat (first | refine blk_drewN ?_ _ | refine blk_drew ?_ | refine blk_alloc ?_ _)); exact BK163.out)) : gb174 ≠ gb163)); have n9_ := Aside0.mk ((by rw [hg]; exact Nat.ne_of_lt (blk_lt (g := gb165) (o := .cells #[.string (⟨#[]⟩ : ByteArray), .int .i64 a0_0, .int .i64 a0_1, .int .i64 a0_2, .bool a0_3, .int .u64 a0_4, .int .u64 a0_5] 28 (0, 0)) (by (with_reducible repeat (first | refine blk_drewN ?_ _ | refine blk_drew ?_ | refine blk_alloc ?_ _)); exact BK165.out)) : gb165 ≠ gb174)); have n10_ := Aside0.mk ((by rw [hg]; exact Nat.ne_of_gt (blk_lt (g := gb165) (o := .cells #[.string (⟨#[]⟩ : ByteArray), .int .i64 a0_0, .int .i64 a0_1, .int .i64 a0_2, .bool a0_3, .int .u64 a0_4, .int .u64 a0_5] 28 (0, 0)) (by (with_reducible repeat (first | refine blk_drewN ?_ _ | refine blk_drew ?_ | refine blk_alloc ?_ _)); exact BK165.out)) : gb174 ≠ gb165)); clear HO170; clear BK163; clear BK165; clear HB; have HO170 := n0_; have BK163 := n1_; have BK165 := n2_; have HB := n3_; have BK174 := n4_; have GW174 := n5_; have GE174 := n6_; have NB163_174 := n7_; have NB174_163 := n8_; have NB165_174 := n9_; have NB174_165 := n10_; clear n0_ n1_ n2_ n3_ n4_ n5_ n6_ n7_ n8_ n9_ n10_; clear hb hbox hg; have hnb59 := NB174_163.out; have hnc59 := NB163_174.out; have hnb60 := NB174_165.out; have hnc60 := NB165_174.out; have hcz61_0 : w58.cell? ⟨gb174, 0, none⟩ = some (.int .i64 0) := (blk_cell BK174.out 0).trans rfl; have hcz61_1 : w58.cell? ⟨gb174, 1, none⟩ = some (.int .u64 0) := (blk_cell BK174.out 1).trans rfl; have hcz61_2 : w58.cell? ⟨gb174, 2, none⟩ = some (.string (⟨#[]⟩ : ByteArray)) := (blk_cell BK174.out 2).trans rfl; have hfz61_0 := blk_frozen BK174.out 0; have hfz61_1 := blk_frozen BK174.out 1; have hfz61_2 := blk_frozen BK174.out 2; have hcz62_0 : w58.cell? ⟨gb165, 0, none⟩ = some (.string (⟨#[]⟩ : ByteArray)) := (blk_cell BK165.out 0).trans rfl; have hcz62_1 : w58.cell? ⟨gb165, 1, none⟩ = some (.int .i64 a0_0) := (blk_cell BK165.out 1).trans rfl; have hcz62_2 : w58.cell? ⟨gb165, 2, none⟩ = some (.int .i64 a0_1) := (blk_cell BK165.out 2).trans rfl; have hcz62_3 : w58.cell? ⟨gb165, 3, none⟩ = some (.int .i64 a0_2) := (blk_cell BK165.out 3).trans rfl; have hcz62_4 : w58.cell? ⟨gb165, 4, none⟩ = some (.bool a0_3) := (blk_cell BK165.out 4).trans rfl; have hcz62_5 : w58.cell? ⟨gb165, 5, none⟩ = some (.int .u64 a0_4) := (blk_cell BK165.out 5).trans rfl; have hcz62_6 : w58.cell? ⟨gb165, 6, none⟩ = some (.int .u64 a0_5) := (blk_cell BK165.out 6).trans rfl; have hfz62_0 := blk_frozen BK165.out 0; have hfz62_1 := blk_frozen BK165.out 1; have hfz62_2 := blk_frozen BK165.out 2; have hfz62_3 := blk_frozen BK165.out 3; have hfz62_4 := blk_frozen BK165.out 4; have hfz62_5 := blk_frozen BK165.out 5; have hfz62_6 := blk_frozen BK165.out 6))
          have n0_ : Aside0 (Kd.R k28 28 ((((w58.setCell ⟨gb174, 0, none⟩ (.int .i64 t171)).setCell ⟨gb174, 1, none⟩ (.int .u64 t172)).setCell ⟨gb174, 2, none⟩ (.string t173)).setCell ⟨gb165, 0, none⟩ (.string (⟨#[97, 98]⟩ : ByteArray))) w.heap.size (fun k_ => k_ ≠ gb165) v169 t168) := ⟨by (with_reducible repeat (first | apply Kd.R_alloc | apply Kd.R_drewN | apply Kd.R_drew)); exact Kd.R_mono (Kd.R_far (p := ⟨gb165, 0, none⟩) (Kd.R_far (p := ⟨gb174, 2, none⟩) (Kd.R_far (p := ⟨gb174, 1, none⟩) (Kd.R_far (p := ⟨gb174, 0, none⟩) (Kd.R_mono (Kd.R_types HO170.out BK174.out (by decide)) (fun k_ hk => (⟨hk, hk.1.2⟩ : _ ∧ k_ ≠ gb165))) (fun _ hk => hk.1.2) (.int .i64 t171)) (fun _ hk => hk.1.2) (.int .u64 t172)) (fun _ hk => hk.1.2) (.string t173)) (fun _ hk => hk.2) (.string (⟨#[97, 98]⟩ : ByteArray))) (fun _ hk => hk.1.1.2)⟩
          have n1_ : Aside0 (((((w58.setCell ⟨gb174, 0, none⟩ (.int .i64 t171)).setCell ⟨gb174, 1, none⟩ (.int .u64 t172)).setCell ⟨gb174, 2, none⟩ (.string t173)).setCell ⟨gb165, 0, none⟩ (.string (⟨#[97, 98]⟩ : ByteArray))).heap[gb163]? = some (.cells #[.int .i64 a0_0, .int .i64 a0_1, .int .i64 a0_2, .bool a0_3, .int .u64 a0_4, .int .u64 a0_5] 24 (0, 0))) := ⟨by (with_reducible repeat (first | refine blk_drewN ?_ _ | refine blk_drew ?_ | refine blk_alloc ?_ _)); refine blk_far ?_ NB163_165.out _; (with_reducible repeat (first | refine blk_drewN ?_ _ | refine blk_drew ?_ | refine blk_alloc ?_ _)); refine blk_far ?_ NB163_174.out _; (with_reducible repeat (first | refine blk_drewN ?_ _ | refine blk_drew ?_ | refine blk_alloc ?_ _)); refine blk_far ?_ NB163_174.out _; (with_reducible repeat (first | refine blk_drewN ?_ _ | refine blk_drew ?_ | refine blk_alloc ?_ _)); refine blk_far ?_ NB163_174.out _; (with_reducible repeat (first | refine blk_drewN ?_ _ | refine blk_drew ?_ | refine blk_alloc ?_ _)); exact BK163.out⟩
          have n2_ : Aside0 (((((w58.setCell ⟨gb174, 0, none⟩ (.int .i64 t171)).setCell ⟨gb174, 1, none⟩ (.int .u64 t172)).setCell ⟨gb174, 2, none⟩ (.string t173)).setCell ⟨gb165, 0, none⟩ (.string (⟨#[97, 98]⟩ : ByteArray))).heap[gb165]? = some (.cells #[.string (⟨#[97, 98]⟩ : ByteArray), .int .i64 a0_0, .int .i64 a0_1, .int .i64 a0_2, .bool a0_3, .int .u64 a0_4, .int .u64 a0_5] 28 (0, 0))) := ⟨by (with_reducible repeat (first | refine blk_drewN ?_ _ | refine blk_drew ?_ | refine blk_alloc ?_ _)); refine blk_put (cs := #[.string (⟨#[]⟩ : ByteArray), .int .i64 a0_0, .int .i64 a0_1, .int .i64 a0_2, .bool a0_3, .int .u64 a0_4, .int .u64 a0_5]) ?_ 0 _ rfl; (with_reducible repeat (first | refine blk_drewN ?_ _ | refine blk_drew ?_ | refine blk_alloc ?_ _)); refine blk_far ?_ NB165_174.out _; (with_reducible repeat (first | refine blk_drewN ?_ _ | refine blk_drew ?_ | refine blk_alloc ?_ _)); refine blk_far ?_ NB165_174.out _; (with_reducible repeat (first | refine blk_drewN ?_ _ | refine blk_drew ?_ | refine blk_alloc ?_ _)); refine blk_far ?_ NB165_174.out _; (with_reducible repeat (first | refine blk_drewN ?_ _ | refine blk_drew ?_ | refine blk_alloc ?_ _)); exact BK165.out⟩
          have n3_ : Aside0 (((((w58.setCell ⟨gb174, 0, none⟩ (.int .i64 t171)).setCell ⟨gb174, 1, none⟩ (.int .u64 t172)).setCell ⟨gb174, 2, none⟩ (.string t173)).setCell ⟨gb165, 0, none⟩ (.string (⟨#[97, 98]⟩ : ByteArray))).heap[gb174]? = some (.cells #[.int .i64 t171, .int .u64 t172, .string t173] 35 (0, 0))) := ⟨by (with_reducible repeat (first | refine blk_drewN ?_ _ | refine blk_drew ?_ | refine blk_alloc ?_ _)); refine blk_far ?_ NB174_165.out _; (with_reducible repeat (first | refine blk_drewN ?_ _ | refine blk_drew ?_ | refine blk_alloc ?_ _)); refine blk_put (cs := #[.int .i64 t171, .int .u64 t172, .string (⟨#[]⟩ : ByteArray)]) ?_ 2 _ rfl; (with_reducible repeat (first | refine blk_drewN ?_ _ | refine blk_drew ?_ | refine blk_alloc ?_ _)); refine blk_put (cs := #[.int .i64 t171, .int .u64 0, .string (⟨#[]⟩ : ByteArray)]) ?_ 1 _ rfl; (with_reducible repeat (first | refine blk_drewN ?_ _ | refine blk_drew ?_ | refine blk_alloc ?_ _)); refine blk_put (cs := #[.int .i64 0, .int .u64 0, .string (⟨#[]⟩ : ByteArray)]) ?_ 0 _ rfl; (with_reducible repeat (first | refine blk_drewN ?_ _ | refine blk_drew ?_ | refine blk_alloc ?_ _)); exact BK174.out⟩
          have n4_ : Aside0 (Below w.heap.size w ((((w58.setCell ⟨gb174, 0, none⟩ (.int .i64 t171)).setCell ⟨gb174, 1, none⟩ (.int .u64 t172)).setCell ⟨gb174, 2, none⟩ (.string t173)).setCell ⟨gb165, 0, none⟩ (.string (⟨#[97, 98]⟩ : ByteArray)))) := ⟨by repeat (first | (with_reducible first | exact HB.out | apply below_alloc | apply pw_below_drewN | apply below_drew1 | refine below_set ?_ GE163.out | refine below_set ?_ GE165.out | refine below_set ?_ GE174.out) | exact HB.out)⟩
          (try clear HO170)
          (try clear BK163)
          (try clear BK165)
          (try clear BK174)
          (try clear HB)
          generalize ((((w58.setCell ⟨gb174, 0, none⟩ (.int .i64 t171)).setCell ⟨gb174, 1, none⟩ (.int .u64 t172)).setCell ⟨gb174, 2, none⟩ (.string t173)).setCell ⟨gb165, 0, none⟩ (.string (⟨#[97, 98]⟩ : ByteArray))) = w63 at n0_ n1_ n2_ n3_ n4_ ⊢
          have HO170 := n0_
          have BK163 := n1_
          have BK165 := n2_
          have BK174 := n3_
          have HB := n4_
          clear n0_ n1_ n2_ n3_ n4_
          have n0_ := Aside0.mk (Kd.R_drew HO170.out)
          have n1_ := Aside0.mk (blk_drew BK163.out)
          have n2_ := Aside0.mk (blk_drew BK165.out)
          have n3_ := Aside0.mk (blk_drew BK174.out)
          have n4_ := Aside0.mk (below_drew1 HB.out)
          clear HO170
          clear BK163
          clear BK165
          clear BK174
          clear HB
          have HO170 := n0_
          have BK163 := n1_
          have BK165 := n2_
          have BK174 := n3_
          have HB := n4_
          clear n0_ n1_ n2_ n3_ n4_
          refine start_ (n := 15) (S := fun w' => w'.cell? ⟨gb174, 0, none⟩ = some (.int .i64 t171) ∧ w'.cell? ⟨gb174, 1, none⟩ = some (.int .u64 t172) ∧ w'.cell? ⟨gb174, 2, none⟩ = some (.string t173)) (ds := []) #[false,false,false,false,false,false,false,false,false,false,false,false,false,false,false] (by kernel_rfl) rfl rfl ⟨(blk_cell BK174.out 0).trans rfl, (blk_cell BK174.out 1).trans rfl, (blk_cell BK174.out 2).trans rfl⟩ (fun hHeld => ?_); refine with_tabW turnbucklelaw11_SymPuts.tab11 turnbucklelaw11_SymPuts.bits11 (fun HT_ HW_ => ?_)
          generalize w63.drew = w64 at HO170 BK163 BK165 BK174 HB hHeld ⊢
          refine take_ (i := 0) (N := some 70) (v:=?_) (a':=?_) #[true,false,false,false,false,false,false,false,false,false,false,false,false,false,false] rfl rfl (take_ofW HT_.out HW_.out (by kernel_rfl)) (fun _ _ _ h=>h) (Or.inl ⟨by rfl, ?_⟩) hHeld ?_ ?_
          rotate_left
          ·rintro w' ⟨s0, s1, s2⟩
           go_simp
           with_reducible rfl
          rotate_left
          ·simp only [Act.put,lz1,lz2,lz3,i64_w,i32_w]
           rfl
          refine one_ (i := 1) (N := some 71) #[true,true,false,false,false,false,false,false,false,false,false,false,false,false,false] rfl rfl (one_of HT_.out (by kernel_rfl)) (by decide) (fun K hK => ?_)
          refine goes_ Try.func11 (by kernel_rfl) rfl #[.agg #[.int .i64 t171, .int .u64 t172, .string t173]] (by rfl) rfl rfl (by (try simp only [List.map_toArray, List.map_cons, List.map_nil]); first | done | rfl | (simp only [List.length_drop, List.length_take]; rfl)) ?_
          with_reducible refine (fail_Fault_OK.calls t171 t172 t173 true _ A37.out).mono ?_
          rintro e w65 ⟨rfl, hb⟩
          refine ⟨_, rfl, ?_⟩
          have n0_ := Aside0.mk (Kd.R_below (by (with_reducible repeat (first | apply Kd.R_alloc | apply Kd.R_drewN | apply Kd.R_drew)); exact HO170.out) hb)
          have n1_ := Aside0.mk (blk_below (g := gb163) (o := .cells #[.int .i64 a0_0, .int .i64 a0_1, .int .i64 a0_2, .bool a0_3, .int .u64 a0_4, .int .u64 a0_5] 24 (0, 0)) (by (with_reducible repeat (first | refine blk_drewN ?_ _ | refine blk_drew ?_ | refine blk_alloc ?_ _)); exact BK163.out) hb)
          have n2_ := Aside0.mk (blk_below (g := gb165) (o := .cells #[.string (⟨#[97, 98]⟩ : ByteArray), .int .i64 a0_0, .int .i64 a0_1, .int .i64 a0_2, .bool a0_3, .int .u64 a0_4, .int .u64 a0_5] 28 (0, 0)) (by (with_reducible repeat (first | refine blk_drewN ?_ _ | refine blk_drew ?_ | refine blk_alloc ?_ _)); exact BK165.out) hb)
          have n3_ := Aside0.mk (blk_below (g := gb174) (o := .cells #[.int .i64 t171, .int .u64 t172, .string t173] 35 (0, 0)) (by (with_reducible repeat (first | refine blk_drewN ?_ _ | refine blk_drew ?_ | refine blk_alloc ?_ _)); exact BK174.out) hb)
          have n4_ := Aside0.mk (below_step (by repeat (first | (with_reducible first | exact HB.out | apply below_alloc | apply pw_below_drewN | apply below_drew1 | refine below_set ?_ GE163.out | refine below_set ?_ GE165.out | refine below_set ?_ GE174.out) | exact HB.out)) hb)
          clear HO170
          clear BK163
          clear BK165
          clear BK174
          clear HB
          have HO170 := n0_
          have BK163 := n1_
          have BK165 := n2_
          have BK174 := n3_
          have HB := n4_
          clear n0_ n1_ n2_ n3_ n4_
          (try clear hb)
          (try clear hb2)
          (try clear hk)
          (try clear hi)
          obtain ⟨Ao66, co66, eo66⟩ := Kd.R_slice HO170.out
          (first | subst eo66 | (injection eo66 with f1_ f2_ f3_; have f4_ := f1_.symm; have f5_ := f3_.symm; clear f1_ f2_ f3_; subst f4_; subst f5_))
          refine hK.out _ _ ⟨(blk_cell BK174.out 0).trans rfl, (blk_cell BK174.out 1).trans rfl, (blk_cell BK174.out 2).trans rfl⟩ (fun hHeld => ?_)
          clear hK K
          refine norm_ (a' := ?_) ?_ ?_
          rotate_left
          ·show Act.put _ (some 71) _ = _
           simp only [Act.put,lz1,lz2,lz3,i64_w,i32_w]
           rfl
          refine pure_ (i:=2) (N := some 72) (v:=?_) (a':=?_) #[true,true,true,false,false,false,false,false,false,false,false,false,false,false,false] rfl rfl (any_of HT_.out (by kernel_rfl)) (fun _ _ _ h=>h) (Or.inl ⟨by rfl, ?_⟩) ?_ ?_
          rotate_left
          ·intro w'
           go_simp
           with_reducible rfl
          rotate_left
          ·simp only [Act.put,lz1,lz2,lz3,i64_w,i32_w]
           rfl
          refine pure_ (i:=3) (N := some 73) (v:=?_) (a':=?_) #[true,true,true,true,false,false,false,false,false,false,false,false,false,false,false] rfl rfl (any_of HT_.out (by kernel_rfl)) (fun _ _ _ h=>h) (Or.inl ⟨by rfl, ?_⟩) ?_ ?_
          rotate_left
          ·intro w'
           go_simp
           with_reducible rfl
          rotate_left
          ·simp only [Act.put,lz1,lz2,lz3,i64_w,i32_w]
           rfl
          refine pure_ (i:=4) (N := some 74) (v:=?_) (a':=?_) #[true,true,true,true,true,false,false,false,false,false,false,false,false,false,false] rfl rfl (any_of HT_.out (by kernel_rfl)) (fun _ _ _ h=>h) (Or.inl ⟨by rfl, ?_⟩) ?_ ?_
          rotate_left
          ·intro w'
           go_simp
           with_reducible rfl
          rotate_left
          ·simp only [Act.put,lz1,lz2,lz3,i64_w,i32_w]
           rfl
          refine pure_ (i:=5) (N := some 75) (v:=?_) (a':=?_) #[true,true,true,true,true,true,false,false,false,false,false,false,false,false,false] rfl rfl (any_of HT_.out (by kernel_rfl)) (fun _ _ _ h=>h) (Or.inl ⟨by rfl, ?_⟩) ?_ ?_
          rotate_left
          ·intro w'
           go_simp
           with_reducible rfl
          rotate_left
          ·simp only [Act.put,lz1,lz2,lz3,i64_w,i32_w]
           rfl
          refine pure_ (i:=6) (N := some 76) (v:=?_) (a':=?_) #[true,true,true,true,true,true,true,false,false,false,false,false,false,false,false] rfl rfl (any_of HT_.out (by kernel_rfl)) (fun _ _ _ h=>h) (Or.inl ⟨by rfl, ?_⟩) ?_ ?_
          rotate_left
          ·intro w'
           go_simp
           with_reducible rfl
          rotate_left
          ·simp only [Act.put,lz1,lz2,lz3,i64_w,i32_w]
           rfl
          refine pure_ (i:=7) (N := some 77) (v:=?_) (a':=?_) #[true,true,true,true,true,true,true,true,false,false,false,false,false,false,false] rfl rfl (any_of HT_.out (by kernel_rfl)) (fun _ _ _ h=>h) (Or.inl ⟨by rfl, ?_⟩) ?_ ?_
          rotate_left
          ·intro w'
           go_simp
           with_reducible rfl
          rotate_left
          ·simp only [Act.put,lz1,lz2,lz3,i64_w,i32_w]
           rfl
          refine pure_ (i:=8) (N := some 78) (v := undef) (a' := ?_) #[true,true,true,true,true,true,true,true,true,false,false,false,false,false,false] rfl rfl (any_of HT_.out (by kernel_rfl)) (fun _ _ _ h=>h) (Or.inr ⟨by rfl, rfl⟩) ?_ ?_
          rotate_left
          ·simp only [Act.put,lz1,lz2,lz3,i64_w,i32_w]
           rfl
          refine pure_ (i:=9) (N := some 79) (v := undef) (a' := ?_) #[true,true,true,true,true,true,true,true,true,true,false,false,false,false,false] rfl rfl (any_of HT_.out (by kernel_rfl)) (fun _ _ _ h=>h) (Or.inr ⟨by rfl, rfl⟩) ?_ ?_
          rotate_left
          ·simp only [Act.put,lz1,lz2,lz3,i64_w,i32_w]
           rfl
          refine pure_ (i:=10) (N := some 80) (v := undef) (a' := ?_) #[true,true,true,true,true,true,true,true,true,true,true,false,false,false,false] rfl rfl (any_of HT_.out (by kernel_rfl)) (fun _ _ _ h=>h) (Or.inr ⟨by rfl, rfl⟩) ?_ ?_
          rotate_left
          ·simp only [Act.put,lz1,lz2,lz3,i64_w,i32_w]
           rfl
          refine pure_ (i:=11) (N := some 81) (v := undef) (a' := ?_) #[true,true,true,true,true,true,true,true,true,true,true,true,false,false,false] rfl rfl (any_of HT_.out (by kernel_rfl)) (fun _ _ _ h=>h) (Or.inr ⟨by rfl, rfl⟩) ?_ ?_
          rotate_left
          ·simp only [Act.put,lz1,lz2,lz3,i64_w,i32_w]
           rfl
          refine pure_ (i:=12) (N := some 82) (v := undef) (a' := ?_) #[true,true,true,true,true,true,true,true,true,true,true,true,true,false,false] rfl rfl (any_of HT_.out (by kernel_rfl)) (fun _ _ _ h=>h) (Or.inr ⟨by rfl, rfl⟩) ?_ ?_
          rotate_left
          ·simp only [Act.put,lz1,lz2,lz3,i64_w,i32_w]
           rfl
          refine pure_ (i:=13) (N := some 83) (v:=?_) (a':=?_) #[true,true,true,true,true,true,true,true,true,true,true,true,true,true,false] rfl rfl (any_of HT_.out (by kernel_rfl)) (fun _ _ _ h=>h) (Or.inl ⟨by rfl, ?_⟩) ?_ ?_
          rotate_left
          ·intro w'
           go_simp
           with_reducible rfl
          rotate_left
          ·simp only [Act.put,lz1,lz2,lz3,i64_w,i32_w]
           rfl
          refine pure_ (i:=14) (N := some 4) (v:=?_) (a':=?_) #[true,true,true,true,true,true,true,true,true,true,true,true,true,true,true] rfl rfl (any_of HT_.out (by kernel_rfl)) (fun _ _ _ h=>h) (Or.inl ⟨by rfl, ?_⟩) ?_ ?_
          rotate_left
          ·intro w'
           go_simp
           with_reducible rfl
          rotate_left
          ·simp only [Act.put,lz1,lz2,lz3,i64_w,i32_w]
           rfl
          refine done_ (done_of HT_.out (by kernel_rfl)) ?_
          try go_wp2
          go_ret
          exact ⟨by first | rfl | (simp [errW_none, errW_some] <;> rfl) | (simp [*, errW_none, errW_some] <;> rfl), by repeat (first | (with_reducible first | exact HB.out | apply below_alloc | apply pw_below_drewN | apply below_drew1 | refine below_set ?_ GE163.out | refine below_set ?_ GE165.out | refine below_set ?_ GE174.out) | exact HB.out)⟩
        ·replace c38 := Bool.eq_false_iff.mpr c38
         subst c38
         have H1 : (some false) = some r := by rw [if_neg (show ¬ (false = true) by decide)] at H; exact H
         clear H
         have H := H1
         clear H1
         obtain rfl := Option.some.inj H
         have hnb67 := NB165_163.out
         have hnc67 := NB163_165.out
         have hcz68_0 : wc.cell? ⟨gb165, 0, none⟩ = some (.string (⟨#[]⟩ : ByteArray)) := (blk_cell BK165.out 0).trans rfl
         have hcz68_1 : wc.cell? ⟨gb165, 1, none⟩ = some (.int .i64 a0_0) := (blk_cell BK165.out 1).trans rfl
         have hcz68_2 : wc.cell? ⟨gb165, 2, none⟩ = some (.int .i64 a0_1) := (blk_cell BK165.out 2).trans rfl
         have hcz68_3 : wc.cell? ⟨gb165, 3, none⟩ = some (.int .i64 a0_2) := (blk_cell BK165.out 3).trans rfl
         have hcz68_4 : wc.cell? ⟨gb165, 4, none⟩ = some (.bool a0_3) := (blk_cell BK165.out 4).trans rfl
         have hcz68_5 : wc.cell? ⟨gb165, 5, none⟩ = some (.int .u64 a0_4) := (blk_cell BK165.out 5).trans rfl
         have hcz68_6 : wc.cell? ⟨gb165, 6, none⟩ = some (.int .u64 a0_5) := (blk_cell BK165.out 6).trans rfl
         have hfz68_0 := blk_frozen BK165.out 0
         have hfz68_1 := blk_frozen BK165.out 1
         have hfz68_2 := blk_frozen BK165.out 2
         have hfz68_3 := blk_frozen BK165.out 3
         have hfz68_4 := blk_frozen BK165.out 4
         have hfz68_5 := blk_frozen BK165.out 5
         have hfz68_6 := blk_frozen BK165.out 6
         try go_wp2_with (first | ((with_reducible refine gate_callee (f := 9) rfl ?_); refine goesL_ (some 60) rfl rfl Try.func9 (by kernel_rfl) rfl #[.agg #[.string (⟨#[]⟩ : ByteArray), .int .i64 a0_0, .int .i64 a0_1, .int .i64 a0_2, .bool a0_3, .int .u64 a0_4, .int .u64 a0_5], .int .u32 a1] rfl (by (try simp only [List.map_toArray, List.map_cons, List.map_nil]); first | done | rfl | (simp only [List.length_drop, List.length_take]; rfl)) ?_; (with_reducible refine (turnbuckleref11_Put.calls kj5 (⟨#[]⟩ : ByteArray) a0_0 a0_1 a0_2 a0_3 a0_4 a0_5 a1 t167 _ A32.out).mono ?_); rintro e w69 ⟨rfl, hb⟩; refine ⟨_, rfl, ?_⟩; have n0_ := Aside0.mk (blk_below (g := gb163) (o := .cells #[.int .i64 a0_0, .int .i64 a0_1, .int .i64 a0_2, .bool a0_3, .int .u64 a0_4, .int .u64 a0_5] 24 (0, 0)) (by (with_reducible repeat (first | refine blk_drewN ?_ _ | refine blk_drew ?_ | refine blk_alloc ?_ _)); exact BK163.out) hb); have n1_ := Aside0.mk (blk_below (g := gb165) (o := .cells #[.string (⟨#[]⟩ : ByteArray), .int .i64 a0_0, .int .i64 a0_1, .int .i64 a0_2, .bool a0_3, .int .u64 a0_4, .int .u64 a0_5] 28 (0, 0)) (by (with_reducible repeat (first | refine blk_drewN ?_ _ | refine blk_drew ?_ | refine blk_alloc ?_ _)); exact BK165.out) hb); have n2_ := Aside0.mk (below_step (by repeat (first | (with_reducible first | exact HB.out | apply below_alloc | apply pw_below_drewN | apply below_drew1 | refine below_set ?_ GE163.out | refine below_set ?_ GE165.out) | exact HB.out)) hb); clear BK163; clear BK165; clear HB; have BK163 := n0_; have BK165 := n1_; have HB := n2_; clear n0_ n1_ n2_; (try clear hb); (try clear hb2); (try clear hk); (try clear hi)) | ((with_reducible refine gate_callee (f := 10) rfl ?_); refine goesL_ (some 66) rfl rfl Try.func10 (by kernel_rfl) rfl #[.string ((⟨#[0, 0, 0, 0]⟩ : ByteArray) ++ (t166.extract 4 t166.size)), .string (⟨#[97, 98, 0]⟩ : ByteArray)] rfl (by (try simp only [List.map_toArray, List.map_cons, List.map_nil]); first | done | rfl | (simp only [List.length_drop, List.length_take]; rfl)) ?_; (with_reducible refine (sym_Read.calls kj5 ((⟨#[0, 0, 0, 0]⟩ : ByteArray) ++ (t166.extract 4 t166.size)) (⟨#[97, 98, 0]⟩ : ByteArray) t168 t171 t172 t173 _ A36.out).mono ?_); rintro e w70 ⟨v169, rfl, ho0, hb⟩; refine ⟨_, rfl, ?_⟩; have n0_ := Aside0.mk (Kd.R_lower (Kd.R_newB ho0 (g := gb165) (o := .cells #[.string (⟨#[]⟩ : ByteArray), .int .i64 a0_0, .int .i64 a0_1, .int .i64 a0_2, .bool a0_3, .int .u64 a0_4, .int .u64 a0_5] 28 (0, 0)) (by (with_reducible repeat (first | refine blk_drewN ?_ _ | refine blk_drew ?_ | refine blk_alloc ?_ _)); exact BK165.out)) (below_size (by repeat (first | (with_reducible first | exact HB.out | apply below_alloc | apply pw_below_drewN | apply below_drew1 | refine below_set ?_ GE163.out | refine below_set ?_ GE165.out) | exact HB.out)))); have n1_ := Aside0.mk (blk_below (g := gb163) (o := .cells #[.int .i64 a0_0, .int .i64 a0_1, .int .i64 a0_2, .bool a0_3, .int .u64 a0_4, .int .u64 a0_5] 24 (0, 0)) (by (with_reducible repeat (first | refine blk_drewN ?_ _ | refine blk_drew ?_ | refine blk_alloc ?_ _)); exact BK163.out) hb); have n2_ := Aside0.mk (blk_below (g := gb165) (o := .cells #[.string (⟨#[]⟩ : ByteArray), .int .i64 a0_0, .int .i64 a0_1, .int .i64 a0_2, .bool a0_3, .int .u64 a0_4, .int .u64 a0_5] 28 (0, 0)) (by (with_reducible repeat (first | refine blk_drewN ?_ _ | refine blk_drew ?_ | refine blk_alloc ?_ _)); exact BK165.out) hb); have n3_ := Aside0.mk (below_step (by repeat (first | (with_reducible first | exact HB.out | apply below_alloc | apply pw_below_drewN | apply below_drew1 | refine below_set ?_ GE163.out | refine below_set ?_ GE165.out) | exact HB.out)) hb); clear BK163; clear BK165; clear HB; have HO170 := n0_; have BK163 := n1_; have BK165 := n2_; have HB := n3_; clear n0_ n1_ n2_ n3_; (try clear hb); (try clear hb2); (try clear hk); (try clear hi); (try clear ho0)) | ((with_reducible refine gate_dst (N := 8) rfl ?_); (try (refine gate_guard (by rfl) ?_; dsimp only)); refine box_event ?hg (N := 8) ?hd (cs := #[.int .i64 0, .int .u64 0, .string (⟨#[]⟩ : ByteArray)]) (t := 35) ?hr ?_; (case hd => rfl); (case hg => rfl); (case hr => first | (go_simp; done) | (go_simp; rfl)); intro gb174 hg w71 hbox hb; have n0_ := Aside0.mk (Kd.R_below (by (with_reducible repeat (first | apply Kd.R_alloc | apply Kd.R_drewN | apply Kd.R_drew)); exact HO170.out) hb); have n1_ := Aside0.mk (blk_below (g := gb163) (o := .cells #[.int .i64 a0_0, .int .i64 a0_1, .int .i64 a0_2, .bool a0_3, .int .u64 a0_4, .int .u64 a0_5] 24 (0, 0)) (by (with_reducible repeat (first | refine blk_drewN ?_ _ | refine blk_drew ?_ | refine blk_alloc ?_ _)); exact BK163.out) hb); have n2_ := Aside0.mk (blk_below (g := gb165) (o := .cells #[.string (⟨#[]⟩ : ByteArray), .int .i64 a0_0, .int .i64 a0_1, .int .i64 a0_2, .bool a0_3, .int .u64 a0_4, .int .u64 a0_5] 28 (0, 0)) (by (with_reducible repeat (first | refine blk_drewN ?_ _ | refine blk_drew ?_ | refine blk_alloc ?_ _)); exact BK165.out) hb); have n3_ := Aside0.mk (below_step (by repeat (first | (with_reducible first | exact HB.out | apply below_alloc | apply pw_below_drewN | apply below_drew1 | refine below_set ?_ GE163.out | refine below_set ?_ GE165.out) | exact HB.out)) hb); have n4_ := Aside0.mk (hbox); have n5_ := Aside0.mk ((by rw [hg]; exact (below_size (by repeat (first | (with_reducible first | exact HB.out | apply below_alloc | apply pw_below_drewN | apply below_drew1 | refine below_set ?_ GE163.out | refine below_set ?_ GE165.out) | exact HB.out))) : w.heap.size ≤ gb174)); have n6_ := Aside0.mk ((by rw [hg]; exact (below_size (by repeat (first | (with_reducible first | exact HB.out | apply below_alloc | apply pw_below_drewN | apply below_drew1 | refine below_set ?_ GE163.out | refine below_set ?_ GE165.out) | exact HB.out))) : w.heap.size ≤ gb174)); have n7_ := Aside0.mk ((by rw [hg]; exact Nat.ne_of_lt (blk_lt (g := gb163) (o := .cells #[.int .i64 a0_0, .int .i64 a0_1, .int .i64 a0_2, .bool a0_3, .int .u64 a0_4, .int .u64 a0_5] 24 (0, 0)) (by (with_reducible repeat (first | refine blk_drewN ?_ _ | refine blk_drew ?_ | refine blk_alloc ?_ _)); exact BK163.out)) : gb163 ≠ gb174)); have n8_ := Aside0.mk ((by rw [hg]; exact Nat.ne_of_gt (blk_lt (g := gb163) (o := .cells #[.int .i64 a0_0, .int .i64 a0_1, .int .i64 a0_2, .bool a0_3, .int .u64 a0_4, .int .u64 a0_5] 24 (0, 0)) (by (with_reducible repeat (first | refine blk_drewN ?_ _ | refine blk_drew ?_ | refine blk_alloc ?_ _)); exact BK163.out)) : gb174 ≠ gb163)); have n9_ := Aside0.mk ((by rw [hg]; exact Nat.ne_of_lt (blk_lt (g := gb165) (o := .cells #[.string (⟨#[]⟩ : ByteArray), .int .i64 a0_0, .int .i64 a0_1, .int .i64 a0_2, .bool a0_3, .int .u64 a0_4, .int .u64 a0_5] 28 (0, 0)) (by (with_reducible repeat (first | refine blk_drewN ?_ _ | refine blk_drew ?_ | refine blk_alloc ?_ _)); exact BK165.out)) : gb165 ≠ gb174)); have n10_ := Aside0.mk ((by rw [hg]; exact Nat.ne_of_gt (blk_lt (g := gb165) (o := .cells #[.string (⟨#[]⟩ : ByteArray), .int .i64 a0_0, .int .i64 a0_1, .int .i64 a0_2, .bool a0_3, .int .u64 a0_4, .int .u64 a0_5] 28 (0, 0)) (by (with_reducible repeat (first | refine blk_drewN ?_ _ | refine blk_drew ?_ | refine blk_alloc ?_ _)); exact BK165.out)) : gb174 ≠ gb165)); clear HO170; clear BK163; clear BK165; clear HB; have HO170 := n0_; have BK163 := n1_; have BK165 := n2_; have HB := n3_; have BK174 := n4_; have GW174 := n5_; have GE174 := n6_; have NB163_174 := n7_; have NB174_163 := n8_; have NB165_174 := n9_; have NB174_165 := n10_; clear n0_ n1_ n2_ n3_ n4_ n5_ n6_ n7_ n8_ n9_ n10_; clear hb hbox hg; have hnb72 := NB174_163.out; have hnc72 := NB163_174.out; have hnb73 := NB174_165.out; have hnc73 := NB165_174.out; have hcz74_0 : w71.cell? ⟨gb174, 0, none⟩ = some (.int .i64 0) := (blk_cell BK174.out 0).trans rfl; have hcz74_1 : w71.cell? ⟨gb174, 1, none⟩ = some (.int .u64 0) := (blk_cell BK174.out 1).trans rfl; have hcz74_2 : w71.cell? ⟨gb174, 2, none⟩ = some (.string (⟨#[]⟩ : ByteArray)) := (blk_cell BK174.out 2).trans rfl; have hfz74_0 := blk_frozen BK174.out 0; have hfz74_1 := blk_frozen BK174.out 1; have hfz74_2 := blk_frozen BK174.out 2; have hcz75_0 : w71.cell? ⟨gb165, 0, none⟩ = some (.string (⟨#[]⟩ : ByteArray)) := (blk_cell BK165.out 0).trans rfl; have hcz75_1 : w71.cell? ⟨gb165, 1, none⟩ = some (.int .i64 a0_0) := (blk_cell BK165.out 1).trans rfl; have hcz75_2 : w71.cell? ⟨gb165, 2, none⟩ = some (.int .i64 a0_1) := (blk_cell BK165.out 2).trans rfl; have hcz75_3 : w71.cell? ⟨gb165, 3, none⟩ = some (.int .i64 a0_2) := (blk_cell BK165.out 3).trans rfl; have hcz75_4 : w71.cell? ⟨gb165, 4, none⟩ = some (.bool a0_3) := (blk_cell BK165.out 4).trans rfl; have hcz75_5 : w71.cell? ⟨gb165, 5, none⟩ = some (.int .u64 a0_4) := (blk_cell BK165.out 5).trans rfl; have hcz75_6 : w71.cell? ⟨gb165, 6, none⟩ = some (.int .u64 a0_5) := (blk_cell BK165.out 6).trans rfl; have hfz75_0 := blk_frozen BK165.out 0; have hfz75_1 := blk_frozen BK165.out 1; have hfz75_2 := blk_frozen BK165.out 2; have hfz75_3 := blk_frozen BK165.out 3; have hfz75_4 := blk_frozen BK165.out 4; have hfz75_5 := blk_frozen BK165.out 5; have hfz75_6 := blk_frozen BK165.out 6))
         have n0_ : Aside0 (Kd.R k28 28 ((((w71.setCell ⟨gb174, 0, none⟩ (.int .i64 t171)).setCell ⟨gb174, 1, none⟩ (.int .u64 t172)).setCell ⟨gb174, 2, none⟩ (.string t173)).setCell ⟨gb165, 0, none⟩ (.string (⟨#[97, 98]⟩ : ByteArray))) w.heap.size (fun k_ => k_ ≠ gb165) v169 t168) := ⟨by (with_reducible repeat (first | apply Kd.R_alloc | apply Kd.R_drewN | apply Kd.R_drew)); exact Kd.R_mono (Kd.R_far (p := ⟨gb165, 0, none⟩) (Kd.R_far (p := ⟨gb174, 2, none⟩) (Kd.R_far (p := ⟨gb174, 1, none⟩) (Kd.R_far (p := ⟨gb174, 0, none⟩) (Kd.R_mono (Kd.R_types HO170.out BK174.out (by decide)) (fun k_ hk => (⟨hk, hk.1.2⟩ : _ ∧ k_ ≠ gb165))) (fun _ hk => hk.1.2) (.int .i64 t171)) (fun _ hk => hk.1.2) (.int .u64 t172)) (fun _ hk => hk.1.2) (.string t173)) (fun _ hk => hk.2) (.string (⟨#[97, 98]⟩ : ByteArray))) (fun _ hk => hk.1.1.2)⟩
         have n1_ : Aside0 (((((w71.setCell ⟨gb174, 0, none⟩ (.int .i64 t171)).setCell ⟨gb174, 1, none⟩ (.int .u64 t172)).setCell ⟨gb174, 2, none⟩ (.string t173)).setCell ⟨gb165, 0, none⟩ (.string (⟨#[97, 98]⟩ : ByteArray))).heap[gb163]? = some (.cells #[.int .i64 a0_0, .int .i64 a0_1, .int .i64 a0_2, .bool a0_3, .int .u64 a0_4, .int .u64 a0_5] 24 (0, 0))) := ⟨by (with_reducible repeat (first | refine blk_drewN ?_ _ | refine blk_drew ?_ | refine blk_alloc ?_ _)); refine blk_far ?_ NB163_165.out _; (with_reducible repeat (first | refine blk_drewN ?_ _ | refine blk_drew ?_ | refine blk_alloc ?_ _)); refine blk_far ?_ NB163_174.out _; (with_reducible repeat (first | refine blk_drewN ?_ _ | refine blk_drew ?_ | refine blk_alloc ?_ _)); refine blk_far ?_ NB163_174.out _; (with_reducible repeat (first | refine blk_drewN ?_ _ | refine blk_drew ?_ | refine blk_alloc ?_ _)); refine blk_far ?_ NB163_174.out _; (with_reducible repeat (first | refine blk_drewN ?_ _ | refine blk_drew ?_ | refine blk_alloc ?_ _)); exact BK163.out⟩
         have n2_ : Aside0 (((((w71.setCell ⟨gb174, 0, none⟩ (.int .i64 t171)).setCell ⟨gb174, 1, none⟩ (.int .u64 t172)).setCell ⟨gb174, 2, none⟩ (.string t173)).setCell ⟨gb165, 0, none⟩ (.string (⟨#[97, 98]⟩ : ByteArray))).heap[gb165]? = some (.cells #[.string (⟨#[97, 98]⟩ : ByteArray), .int .i64 a0_0, .int .i64 a0_1, .int .i64 a0_2, .bool a0_3, .int .u64 a0_4, .int .u64 a0_5] 28 (0, 0))) := ⟨by (with_reducible repeat (first | refine blk_drewN ?_ _ | refine blk_drew ?_ | refine blk_alloc ?_ _)); refine blk_put (cs := #[.string (⟨#[]⟩ : ByteArray), .int .i64 a0_0, .int .i64 a0_1, .int .i64 a0_2, .bool a0_3, .int .u64 a0_4, .int .u64 a0_5]) ?_ 0 _ rfl; (with_reducible repeat (first | refine blk_drewN ?_ _ | refine blk_drew ?_ | refine blk_alloc ?_ _)); refine blk_far ?_ NB165_174.out _; (with_reducible repeat (first | refine blk_drewN ?_ _ | refine blk_drew ?_ | refine blk_alloc ?_ _)); refine blk_far ?_ NB165_174.out _; (with_reducible repeat (first | refine blk_drewN ?_ _ | refine blk_drew ?_ | refine blk_alloc ?_ _)); refine blk_far ?_ NB165_174.out _; (with_reducible repeat (first | refine blk_drewN ?_ _ | refine blk_drew ?_ | refine blk_alloc ?_ _)); exact BK165.out⟩
         have n3_ : Aside0 (((((w71.setCell ⟨gb174, 0, none⟩ (.int .i64 t171)).setCell ⟨gb174, 1, none⟩ (.int .u64 t172)).setCell ⟨gb174, 2, none⟩ (.string t173)).setCell ⟨gb165, 0, none⟩ (.string (⟨#[97, 98]⟩ : ByteArray))).heap[gb174]? = some (.cells #[.int .i64 t171, .int .u64 t172, .string t173] 35 (0, 0))) := ⟨by (with_reducible repeat (first | refine blk_drewN ?_ _ | refine blk_drew ?_ | refine blk_alloc ?_ _)); refine blk_far ?_ NB174_165.out _; (with_reducible repeat (first | refine blk_drewN ?_ _ | refine blk_drew ?_ | refine blk_alloc ?_ _)); refine blk_put (cs := #[.int .i64 t171, .int .u64 t172, .string (⟨#[]⟩ : ByteArray)]) ?_ 2 _ rfl; (with_reducible repeat (first | refine blk_drewN ?_ _ | refine blk_drew ?_ | refine blk_alloc ?_ _)); refine blk_put (cs := #[.int .i64 t171, .int .u64 0, .string (⟨#[]⟩ : ByteArray)]) ?_ 1 _ rfl; (with_reducible repeat (first | refine blk_drewN ?_ _ | refine blk_drew ?_ | refine blk_alloc ?_ _)); refine blk_put (cs := #[.int .i64 0, .int .u64 0, .string (⟨#[]⟩ : ByteArray)]) ?_ 0 _ rfl; (with_reducible repeat (first | refine blk_drewN ?_ _ | refine blk_drew ?_ | refine blk_alloc ?_ _)); exact BK174.out⟩
         have n4_ : Aside0 (Below w.heap.size w ((((w71.setCell ⟨gb174, 0, none⟩ (.int .i64 t171)).setCell ⟨gb174, 1, none⟩ (.int .u64 t172)).setCell ⟨gb174, 2, none⟩ (.string t173)).setCell ⟨gb165, 0, none⟩ (.string (⟨#[97, 98]⟩ : ByteArray)))) := ⟨by repeat (first | (with_reducible first | exact HB.out | apply below_alloc | apply pw_below_drewN | apply below_drew1 | refine below_set ?_ GE163.out | refine below_set ?_ GE165.out | refine below_set ?_ GE174.out) | exact HB.out)⟩
         (try clear HO170)
         (try clear BK163)
         (try clear BK165)
         (try clear BK174)
         (try clear HB)
         generalize ((((w71.setCell ⟨gb174, 0, none⟩ (.int .i64 t171)).setCell ⟨gb174, 1, none⟩ (.int .u64 t172)).setCell ⟨gb174, 2, none⟩ (.string t173)).setCell ⟨gb165, 0, none⟩ (.string (⟨#[97, 98]⟩ : ByteArray))) = w76 at n0_ n1_ n2_ n3_ n4_ ⊢
         have HO170 := n0_
         have BK163 := n1_
         have BK165 := n2_
         have BK174 := n3_
         have HB := n4_
         clear n0_ n1_ n2_ n3_ n4_
         have n0_ := Aside0.mk (Kd.R_drew HO170.out)
         have n1_ := Aside0.mk (blk_drew BK163.out)
         have n2_ := Aside0.mk (blk_drew BK165.out)
         have n3_ := Aside0.mk (blk_drew BK174.out)
         have n4_ := Aside0.mk (below_drew1 HB.out)
         clear HO170
         clear BK163
         clear BK165
         clear BK174
         clear HB
         have HO170 := n0_
         have BK163 := n1_
         have BK165 := n2_
         have BK174 := n3_
         have HB := n4_
         clear n0_ n1_ n2_ n3_ n4_
         refine start_ (n := 15) (S := fun w' => w'.cell? ⟨gb174, 0, none⟩ = some (.int .i64 t171) ∧ w'.cell? ⟨gb174, 1, none⟩ = some (.int .u64 t172) ∧ w'.cell? ⟨gb174, 2, none⟩ = some (.string t173)) (ds := []) #[false,false,false,false,false,false,false,false,false,false,false,false,false,false,false] (by kernel_rfl) rfl rfl ⟨(blk_cell BK174.out 0).trans rfl, (blk_cell BK174.out 1).trans rfl, (blk_cell BK174.out 2).trans rfl⟩ (fun hHeld => ?_); refine with_tabW turnbucklelaw11_SymPuts.tab11 turnbucklelaw11_SymPuts.bits11 (fun HT_ HW_ => ?_)
         generalize w76.drew = w77 at HO170 BK163 BK165 BK174 HB hHeld ⊢
         refine take_ (i := 0) (N := some 70) (v:=?_) (a':=?_) #[true,false,false,false,false,false,false,false,false,false,false,false,false,false,false] rfl rfl (take_ofW HT_.out HW_.out (by kernel_rfl)) (fun _ _ _ h=>h) (Or.inl ⟨by rfl, ?_⟩) hHeld ?_ ?_
         rotate_left
         ·rintro w' ⟨s0, s1, s2⟩
          go_simp
          with_reducible rfl
         rotate_left
         ·simp only [Act.put,lz1,lz2,lz3,i64_w,i32_w]
          rfl
         refine one_ (i := 1) (N := some 71) #[true,true,false,false,false,false,false,false,false,false,false,false,false,false,false] rfl rfl (one_of HT_.out (by kernel_rfl)) (by decide) (fun K hK => ?_)
         refine goes_ Try.func11 (by kernel_rfl) rfl #[.agg #[.int .i64 t171, .int .u64 t172, .string t173]] (by rfl) rfl rfl (by (try simp only [List.map_toArray, List.map_cons, List.map_nil]); first | done | rfl | (simp only [List.length_drop, List.length_take]; rfl)) ?_
         with_reducible refine (fail_Fault_OK.calls t171 t172 t173 false _ A37.out).mono ?_
         rintro e w78 ⟨rfl, hb⟩
         refine ⟨_, rfl, ?_⟩
         have n0_ := Aside0.mk (Kd.R_below (by (with_reducible repeat (first | apply Kd.R_alloc | apply Kd.R_drewN | apply Kd.R_drew)); exact HO170.out) hb)
         have n1_ := Aside0.mk (blk_below (g := gb163) (o := .cells #[.int .i64 a0_0, .int .i64 a0_1, .int .i64 a0_2, .bool a0_3, .int .u64 a0_4, .int .u64 a0_5] 24 (0, 0)) (by (with_reducible repeat (first | refine blk_drewN ?_ _ | refine blk_drew ?_ | refine blk_alloc ?_ _)); exact BK163.out) hb)
         have n2_ := Aside0.mk (blk_below (g := gb165) (o := .cells #[.string (⟨#[97, 98]⟩ : ByteArray), .int .i64 a0_0, .int .i64 a0_1, .int .i64 a0_2, .bool a0_3, .int .u64 a0_4, .int .u64 a0_5] 28 (0, 0)) (by (with_reducible repeat (first | refine blk_drewN ?_ _ | refine blk_drew ?_ | refine blk_alloc ?_ _)); exact BK165.out) hb)
         have n3_ := Aside0.mk (blk_below (g := gb174) (o := .cells #[.int .i64 t171, .int .u64 t172, .string t173] 35 (0, 0)) (by (with_reducible repeat (first | refine blk_drewN ?_ _ | refine blk_drew ?_ | refine blk_alloc ?_ _)); exact BK174.out) hb)
         have n4_ := Aside0.mk (below_step (by repeat (first | (with_reducible first | exact HB.out | apply below_alloc | apply pw_below_drewN | apply below_drew1 | refine below_set ?_ GE163.out | refine below_set ?_ GE165.out | refine below_set ?_ GE174.out) | exact HB.out)) hb)
         clear HO170
         clear BK163
         clear BK165
         clear BK174
         clear HB
         have HO170 := n0_
         have BK163 := n1_
         have BK165 := n2_
         have BK174 := n3_
         have HB := n4_
         clear n0_ n1_ n2_ n3_ n4_
         (try clear hb)
         (try clear hb2)
         (try clear hk)
         (try clear hi)
         refine hK.out _ _ ⟨(blk_cell BK174.out 0).trans rfl, (blk_cell BK174.out 1).trans rfl, (blk_cell BK174.out 2).trans rfl⟩ (fun hHeld => ?_)
         clear hK K
         refine norm_ (a' := ?_) ?_ ?_
         rotate_left
         ·show Act.put _ (some 71) _ = _
          simp only [Act.put,lz1,lz2,lz3,i64_w,i32_w]
          rfl
         refine pure_ (i:=2) (N := some 72) (v:=?_) (a':=?_) #[true,true,true,false,false,false,false,false,false,false,false,false,false,false,false] rfl rfl (any_of HT_.out (by kernel_rfl)) (fun _ _ _ h=>h) (Or.inl ⟨by rfl, ?_⟩) ?_ ?_
         rotate_left
         ·intro w'
          go_simp
          with_reducible rfl
         rotate_left
         ·simp only [Act.put,lz1,lz2,lz3,i64_w,i32_w]
          rfl
         refine pure_ (i:=3) (N := some 73) (v := undef) (a' := ?_) #[true,true,true,true,false,false,false,false,false,false,false,false,false,false,false] rfl rfl (any_of HT_.out (by kernel_rfl)) (fun _ _ _ h=>h) (Or.inr ⟨by rfl, rfl⟩) ?_ ?_
         rotate_left
         ·simp only [Act.put,lz1,lz2,lz3,i64_w,i32_w]
          rfl
         refine pure_ (i:=4) (N := some 74) (v := undef) (a' := ?_) #[true,true,true,true,true,false,false,false,false,false,false,false,false,false,false] rfl rfl (any_of HT_.out (by kernel_rfl)) (fun _ _ _ h=>h) (Or.inr ⟨by rfl, rfl⟩) ?_ ?_
         rotate_left
         ·simp only [Act.put,lz1,lz2,lz3,i64_w,i32_w]
          rfl
         refine pure_ (i:=5) (N := some 75) (v := undef) (a' := ?_) #[true,true,true,true,true,true,false,false,false,false,false,false,false,false,false] rfl rfl (any_of HT_.out (by kernel_rfl)) (fun _ _ _ h=>h) (Or.inr ⟨by rfl, rfl⟩) ?_ ?_
         rotate_left
         ·simp only [Act.put,lz1,lz2,lz3,i64_w,i32_w]
          rfl
         refine pure_ (i:=6) (N := some 76) (v:=?_) (a':=?_) #[true,true,true,true,true,true,true,false,false,false,false,false,false,false,false] rfl rfl (any_of HT_.out (by kernel_rfl)) (fun _ _ _ h=>h) (Or.inl ⟨by rfl, ?_⟩) ?_ ?_
         rotate_left
         ·intro w'
          go_simp
          with_reducible rfl
         rotate_left
         ·simp only [Act.put,lz1,lz2,lz3,i64_w,i32_w]
          rfl
         refine pure_ (i:=7) (N := some 77) (v:=?_) (a':=?_) #[true,true,true,true,true,true,true,true,false,false,false,false,false,false,false] rfl rfl (any_of HT_.out (by kernel_rfl)) (fun _ _ _ h=>h) (Or.inl ⟨by rfl, ?_⟩) ?_ ?_
         rotate_left
         ·intro w'
          go_simp
          with_reducible rfl
         rotate_left
         ·simp only [Act.put,lz1,lz2,lz3,i64_w,i32_w]
          rfl
         refine pure_ (i:=8) (N := some 78) (v := undef) (a' := ?_) #[true,true,true,true,true,true,true,true,true,false,false,false,false,false,false] rfl rfl (any_of HT_.out (by kernel_rfl)) (fun _ _ _ h=>h) (Or.inr ⟨by rfl, rfl⟩) ?_ ?_
         rotate_left
         ·simp only [Act.put,lz1,lz2,lz3,i64_w,i32_w]
          rfl
         refine pure_ (i:=9) (N := some 79) (v := undef) (a' := ?_) #[true,true,true,true,true,true,true,true,true,true,false,false,false,false,false] rfl rfl (any_of HT_.out (by kernel_rfl)) (fun _ _ _ h=>h) (Or.inr ⟨by rfl, rfl⟩) ?_ ?_
         rotate_left
         ·simp only [Act.put,lz1,lz2,lz3,i64_w,i32_w]
          rfl
         refine pure_ (i:=10) (N := some 80) (v := undef) (a' := ?_) #[true,true,true,true,true,true,true,true,true,true,true,false,false,false,false] rfl rfl (any_of HT_.out (by kernel_rfl)) (fun _ _ _ h=>h) (Or.inr ⟨by rfl, rfl⟩) ?_ ?_
         rotate_left
         ·simp only [Act.put,lz1,lz2,lz3,i64_w,i32_w]
          rfl
         refine pure_ (i:=11) (N := some 81) (v := undef) (a' := ?_) #[true,true,true,true,true,true,true,true,true,true,true,true,false,false,false] rfl rfl (any_of HT_.out (by kernel_rfl)) (fun _ _ _ h=>h) (Or.inr ⟨by rfl, rfl⟩) ?_ ?_
         rotate_left
         ·simp only [Act.put,lz1,lz2,lz3,i64_w,i32_w]
          rfl
         refine pure_ (i:=12) (N := some 82) (v := undef) (a' := ?_) #[true,true,true,true,true,true,true,true,true,true,true,true,true,false,false] rfl rfl (any_of HT_.out (by kernel_rfl)) (fun _ _ _ h=>h) (Or.inr ⟨by rfl, rfl⟩) ?_ ?_
         rotate_left
         ·simp only [Act.put,lz1,lz2,lz3,i64_w,i32_w]
          rfl
         refine pure_ (i:=13) (N := some 83) (v:=?_) (a':=?_) #[true,true,true,true,true,true,true,true,true,true,true,true,true,true,false] rfl rfl (any_of HT_.out (by kernel_rfl)) (fun _ _ _ h=>h) (Or.inl ⟨by rfl, ?_⟩) ?_ ?_
         rotate_left
         ·intro w'
          go_simp
          with_reducible rfl
         rotate_left
         ·simp only [Act.put,lz1,lz2,lz3,i64_w,i32_w]
          rfl
         refine pure_ (i:=14) (N := some 4) (v:=?_) (a':=?_) #[true,true,true,true,true,true,true,true,true,true,true,true,true,true,true] rfl rfl (any_of HT_.out (by kernel_rfl)) (fun _ _ _ h=>h) (Or.inl ⟨by rfl, ?_⟩) ?_ ?_
         rotate_left
         ·intro w'
          go_simp
          with_reducible rfl
         rotate_left
         ·simp only [Act.put,lz1,lz2,lz3,i64_w,i32_w]
          rfl
         refine done_ (done_of HT_.out (by kernel_rfl)) ?_
         try go_wp2
         go_ret
         exact ⟨by first | rfl | (simp [errW_none, errW_some] <;> rfl) | (simp [*, errW_none, errW_some] <;> rfl), by repeat (first | (with_reducible first | exact HB.out | apply below_alloc | apply pw_below_drewN | apply below_drew1 | refine below_set ?_ GE163.out | refine below_set ?_ GE165.out | refine below_set ?_ GE174.out) | exact HB.out)⟩
       ·rw [if_neg c35] at H
        exact absurd H (by simp)
      ·rw [if_neg c34] at H
       exact absurd H (by simp)
     ·rw [if_neg c33] at H
      have c33b0 : (t166.toList == t167.toList) = false := beq_eq_false_iff_ne.mpr c33
      have c33b1 : (t166.toList != t167.toList) = true := bne_iff_ne.mpr c33
      obtain rfl := Option.some.inj H
      have hnb79 := NB165_163.out
      have hnc79 := NB163_165.out
      have hcz80_0 : wc.cell? ⟨gb165, 0, none⟩ = some (.string (⟨#[]⟩ : ByteArray)) := (blk_cell BK165.out 0).trans rfl
      have hcz80_1 : wc.cell? ⟨gb165, 1, none⟩ = some (.int .i64 a0_0) := (blk_cell BK165.out 1).trans rfl
      have hcz80_2 : wc.cell? ⟨gb165, 2, none⟩ = some (.int .i64 a0_1) := (blk_cell BK165.out 2).trans rfl
      have hcz80_3 : wc.cell? ⟨gb165, 3, none⟩ = some (.int .i64 a0_2) := (blk_cell BK165.out 3).trans rfl
      have hcz80_4 : wc.cell? ⟨gb165, 4, none⟩ = some (.bool a0_3) := (blk_cell BK165.out 4).trans rfl
      have hcz80_5 : wc.cell? ⟨gb165, 5, none⟩ = some (.int .u64 a0_4) := (blk_cell BK165.out 5).trans rfl
      have hcz80_6 : wc.cell? ⟨gb165, 6, none⟩ = some (.int .u64 a0_5) := (blk_cell BK165.out 6).trans rfl
      have hfz80_0 := blk_frozen BK165.out 0
      have hfz80_1 := blk_frozen BK165.out 1
      have hfz80_2 := blk_frozen BK165.out 2
      have hfz80_3 := blk_frozen BK165.out 3
      have hfz80_4 := blk_frozen BK165.out 4
      have hfz80_5 := blk_frozen BK165.out 5
      have hfz80_6 := blk_frozen BK165.out 6
      go_wp2_with (first | ((with_reducible refine gate_callee (f := 9) rfl ?_); refine goesL_ (some 60) rfl rfl Try.func9 (by kernel_rfl) rfl #[.agg #[.string (⟨#[]⟩ : ByteArray), .int .i64 a0_0, .int .i64 a0_1, .int .i64 a0_2, .bool a0_3, .int .u64 a0_4, .int .u64 a0_5], .int .u32 a1] rfl (by (try simp only [List.map_toArray, List.map_cons, List.map_nil]); first | done | rfl | (simp only [List.length_drop, List.length_take]; rfl)) ?_; (with_reducible refine (turnbuckleref11_Put.calls kj5 (⟨#[]⟩ : ByteArray) a0_0 a0_1 a0_2 a0_3 a0_4 a0_5 a1 t167 _ A32.out).mono ?_); rintro e w81 ⟨rfl, hb⟩; refine ⟨_, rfl, ?_⟩; have n0_ := Aside0.mk (blk_below (g := gb163) (o := .cells #[.int .i64 a0_0, .int .i64 a0_1, .int .i64 a0_2, .bool a0_3, .int .u64 a0_4, .int .u64 a0_5] 24 (0, 0)) (by (with_reducible repeat (first | refine blk_drewN ?_ _ | refine blk_drew ?_ | refine blk_alloc ?_ _)); exact BK163.out) hb); have n1_ := Aside0.mk (blk_below (g := gb165) (o := .cells #[.string (⟨#[]⟩ : ByteArray), .int .i64 a0_0, .int .i64 a0_1, .int .i64 a0_2, .bool a0_3, .int .u64 a0_4, .int .u64 a0_5] 28 (0, 0)) (by (with_reducible repeat (first | refine blk_drewN ?_ _ | refine blk_drew ?_ | refine blk_alloc ?_ _)); exact BK165.out) hb); have n2_ := Aside0.mk (below_step (by repeat (first | (with_reducible first | exact HB.out | apply below_alloc | apply pw_below_drewN | apply below_drew1 | refine below_set ?_ GE163.out | refine below_set ?_ GE165.out) | exact HB.out)) hb); clear BK163; clear BK165; clear HB; have BK163 := n0_; have BK165 := n1_; have HB := n2_; clear n0_ n1_ n2_; (try clear hb); (try clear hb2); (try clear hk); (try clear hi)))
      go_ret
      exact ⟨by first | rfl | (simp [errW_none, errW_some] <;> rfl) | (simp [*, errW_none, errW_some] <;> rfl), by repeat (first | (with_reducible first | exact HB.out | apply below_alloc | apply pw_below_drewN | apply below_drew1 | refine below_set ?_ GE163.out | refine below_set ?_ GE165.out) | exact HB.out)⟩
 ·replace c4 := Bool.eq_false_iff.mpr c4
  subst c4
  have H1 : (some false) = some r := by rw [if_neg (show ¬ (false = true) by decide)] at H; exact H
  clear H
  have H := H1
  clear H1
  obtain rfl := Option.some.inj H
  go_enter Try.func3, Try.ntmps3
  go_wp2_with (first | ((with_reducible refine gate_dst (N := 2) rfl ?_); (try (refine gate_guard (by rfl) ?_; dsimp only)); refine box_event ?hg (N := 2) ?hd (cs := #[.int .i64 a0_0, .int .i64 a0_1, .int .i64 a0_2, .bool a0_3, .int .u64 a0_4, .int .u64 a0_5]) (t := 24) ?hr ?_; (case hd => rfl); (case hg => rfl); (case hr => first | (go_simp; done) | (go_simp; rfl)); intro gb163 hg w82 hbox hb; have n0_ := Aside0.mk (below_step (by repeat (first | (with_reducible first | exact HB.out | apply below_alloc | apply pw_below_drewN | apply below_drew1) | exact HB.out)) hb); have n1_ := Aside0.mk (hbox); have n2_ := Aside0.mk ((by rw [hg]; exact (below_size (by repeat (first | (with_reducible first | exact HB.out | apply below_alloc | apply pw_below_drewN | apply below_drew1) | exact HB.out))) : w.heap.size ≤ gb163)); have n3_ := Aside0.mk ((by rw [hg]; exact (below_size (by repeat (first | (with_reducible first | exact HB.out | apply below_alloc | apply pw_below_drewN | apply below_drew1) | exact HB.out))) : w.heap.size ≤ gb163)); clear HB; have HB := n0_; have BK163 := n1_; have GW163 := n2_; have GE163 := n3_; clear n0_ n1_ n2_ n3_; clear hb hbox hg) | ((with_reducible refine gate_callee (f := 7) rfl ?_); refine goesL_ (some 9) rfl rfl Try.func7 (by kernel_rfl) rfl #[] rfl (by (try simp only [List.map_toArray, List.map_cons, List.map_nil]); first | done | rfl | (simp only [List.length_drop, List.length_take]; rfl)) ?_; (with_reducible refine (turnbucklelaw11_speaks.calls k  false _ A3.out).mono ?_); rintro e w83 ⟨rfl, hb⟩; refine ⟨_, rfl, ?_⟩; have n0_ := Aside0.mk (blk_below (g := gb163) (o := .cells #[.int .i64 a0_0, .int .i64 a0_1, .int .i64 a0_2, .bool a0_3, .int .u64 a0_4, .int .u64 a0_5] 24 (0, 0)) (by (with_reducible repeat (first | refine blk_drewN ?_ _ | refine blk_drew ?_ | refine blk_alloc ?_ _)); exact BK163.out) hb); have n1_ := Aside0.mk (below_step (by repeat (first | (with_reducible first | exact HB.out | apply below_alloc | apply pw_below_drewN | apply below_drew1 | refine below_set ?_ GE163.out) | exact HB.out)) hb); clear BK163; clear HB; have BK163 := n0_; have HB := n1_; clear n0_ n1_; (try clear hb); (try clear hb2); (try clear hk); (try clear hi)))
  go_ret
  exact ⟨by first | rfl | (simp [errW_none, errW_some] <;> rfl) | (simp [*, errW_none, errW_some] <;> rfl), by repeat (first | (with_reducible first | exact HB.out | apply below_alloc | apply pw_below_drewN | apply below_drew1 | refine below_set ?_ GE163.out) | exact HB.out)⟩

/-- THE ONE PURE STATEMENT of turnbucklelaw11_SymPuts: yours. -/
def turnbucklelaw11_SymPuts.Pure : Prop := ∀ (a0_0 : Int) (a0_1 : Int) (a0_2 : Int) (a0_3 : Bool) (a0_4 : Int) (a0_5 : Int) (a1 : Int), (Lit.int .i64 a0_0).wf = true → (Lit.int .i64 a0_1).wf = true → (Lit.int .i64 a0_2).wf = true → (Lit.int .u64 a0_4).wf = true → (Lit.int .u64 a0_5).wf = true → (Lit.int .u32 a1).wf = true → ∃ k, turnbucklelaw11_SymPuts.f k a0_0 a0_1 a0_2 a0_3 a0_4 a0_5 a1 = some true
theorem turnbucklelaw11_SymPuts.walk (P : turnbucklelaw11_SymPuts.Pure) (a0_0 : Int) (a0_1 : Int) (a0_2 : Int) (a0_3 : Bool) (a0_4 : Int) (a0_5 : Int) (a1 : Int) (w : World) (w0_0 : (Lit.int .i64 a0_0).wf = true) (w0_1 : (Lit.int .i64 a0_1).wf = true) (w0_2 : (Lit.int .i64 a0_2).wf = true) (w0_4 : (Lit.int .u64 a0_4).wf = true) (w0_5 : (Lit.int .u64 a0_5).wf = true) (w1 : (Lit.int .u32 a1).wf = true) :
  Calls Try.prog 3 #[.agg #[.int .i64 a0_0, .int .i64 a0_1, .int .i64 a0_2, .bool a0_3, .int .u64 a0_4, .int .u64 a0_5], .int .u32 a1] w fun e w' => e = .returned (.bool true) ∧ Below w.heap.size w w' := by
 obtain ⟨k, h⟩ := P a0_0 a0_1 a0_2 a0_3 a0_4 a0_5 a1 w0_0 w0_1 w0_2 w0_4 w0_5 w1
 refine (turnbucklelaw11_SymPuts.calls k a0_0 a0_1 a0_2 a0_3 a0_4 a0_5 a1 true w h).mono ?_
 rintro e w' ⟨rfl, hd⟩
 exact ⟨rfl, hd⟩

end Go.Proofs.Ytmekjomfdomogaa.PAll
