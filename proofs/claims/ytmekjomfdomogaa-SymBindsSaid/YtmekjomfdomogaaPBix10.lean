-- Written by a program of this session (a changed copy of the print of the kit). Not trusted: Lean checks it.
import Derived.Test.YtmekjomfdomogaaPBix0
import Derived.Test.YtmekjomfdomogaaPBix9
namespace Go.Proofs.Ytmekjomfdomogaa.PBi
open Go.RowKit Go.Proofs.YtmekjomfdomogaaW.PrintWords Go.Proofs.YtmekjomfdomogaaW.PrintLast Go.Proofs.YtmekjomfdomogaaW.PrintMore
attribute [local go_sem] max2_int min2_int max_two min_two max_three min_three max_four min_four   -- for this text's walks alone
set_option linter.unusedVariables false
set_option linter.unusedSimpArgs false

/-! ### turnbucklelaw11_SymBinds: function 6 -/
mutual
def turnbucklelaw11_SymBinds.j0 : Nat → ByteArray → Int → Int → Int → Bool → Int → Int → Option (Bool)
 | 0, _, _, _, _, _, _, _ => none
 | k + 1, x140000, x140001, x140002, x140003, x140004, x140005, x140006 => (sym_Symbol_Exported.f x140000 x140001 x140002 x140003 x140004 x140005 x140006).bind fun t142 => ((sym_Symbol_Exported.f x140000 (wrap64 (3 - x140001)) x140002 x140003 x140004 x140005 x140006).bind fun t143 => (if (t142 != t143) = true then (turnbucklelaw11_SymBinds.j1 k true x140000 x140001 x140002 x140003 x140004 x140005 x140006) else ((sym_Symbol_Own.f x140000 x140001 x140002 x140003 x140004 x140005 x140006).bind fun t144 => ((sym_Symbol_Own.f x140000 (wrap64 (3 - x140001)) x140002 x140003 x140004 x140005 x140006).bind fun t145 => (if (t144 != t145) = true then (turnbucklelaw11_SymBinds.j1 k true x140000 x140001 x140002 x140003 x140004 x140005 x140006) else ((sym_Symbol_Exported.f x140000 0 x140002 x140003 x140004 x140005 x140006).bind fun t146 => (if t146 = true then (turnbucklelaw11_SymBinds.j1 k true x140000 x140001 x140002 x140003 x140004 x140005 x140006) else ((sym_Symbol_Own.f x140000 0 x140002 x140003 x140004 x140005 x140006).bind fun t147 => (turnbucklelaw11_SymBinds.j1 k (t147 != x140004) x140000 x140001 x140002 x140003 x140004 x140005 x140006)))))))))
def turnbucklelaw11_SymBinds.j1 : Nat → Bool → ByteArray → Int → Int → Int → Bool → Int → Int → Option (Bool)
 | 0, _, _, _, _, _, _, _, _ => none
 | k + 1, x55, x140000, x140001, x140002, x140003, x140004, x140005, x140006 => if x55 = true then (some false) else (if x140003 = 2 then ((sym_Symbol_Exported.f x140000 x140001 x140002 x140003 x140004 x140005 x140006).bind fun t148 => (if t148 = true then (some false) else ((sym_Symbol_Own.f x140000 x140001 x140002 x140003 x140004 x140005 x140006).bind fun t149 => (some (t149 == x140004))))) else (if x140003 = 1 then ((sym_Symbol_Exported.f x140000 x140001 x140002 x140003 x140004 x140005 x140006).bind fun t150 => (if t150 = true then (some false) else ((sym_Symbol_Own.f x140000 x140001 x140002 x140003 x140004 x140005 x140006).bind fun t151 => (some (t151 == x140004))))) else (some true)))
end
def turnbucklelaw11_SymBinds.f (k : Nat) (a0_0 : Int) (a0_1 : Int) (a0_2 : Int) (a0_3 : Bool) (a0_4 : Int) (a0_5 : Int) : Option (Bool) := (turnbucklelaw11_speaks.f k).bind fun t138 => (if t138 = true then (if (wrap64 ((Go.bits .and .i64 a0_0 1) * 2)) = 0 then (turnbucklelaw11_SymBinds.j0 k (⟨#[]⟩ : ByteArray) 1 (Go.bits .and .i64 a0_1 15) (Go.bits .and .i64 a0_2 3) a0_3 0 0) else (turnbucklelaw11_SymBinds.j0 k (⟨#[]⟩ : ByteArray) (wrap64 ((Go.bits .and .i64 a0_0 1) * 2)) (Go.bits .and .i64 a0_1 15) (Go.bits .and .i64 a0_2 3) a0_3 0 0)) else (some false))
theorem turnbucklelaw11_SymBinds.mono_l : ∀ k, (∀ y0 y1 y2 y3 y4 y5 y6, LeO (turnbucklelaw11_SymBinds.j0 k y0 y1 y2 y3 y4 y5 y6) (turnbucklelaw11_SymBinds.j0 (k + 1) y0 y1 y2 y3 y4 y5 y6)) ∧ (∀ y0 y1 y2 y3 y4 y5 y6 y7, LeO (turnbucklelaw11_SymBinds.j1 k y0 y1 y2 y3 y4 y5 y6 y7) (turnbucklelaw11_SymBinds.j1 (k + 1) y0 y1 y2 y3 y4 y5 y6 y7))
 | 0 => ⟨fun _ _ _ _ _ _ _ r h => by simp [turnbucklelaw11_SymBinds.j0] at h, fun _ _ _ _ _ _ _ _ r h => by simp [turnbucklelaw11_SymBinds.j1] at h⟩
 | k + 1 => by
  obtain ⟨ih0, ih1⟩ := turnbucklelaw11_SymBinds.mono_l k
  refine ⟨?_, ?_⟩
  ·intro y0 y1 y2 y3 y4 y5 y6
   unfold turnbucklelaw11_SymBinds.j0
   repeat' first
   | (with_reducible exact ih0 _ _ _ _ _ _ _)
   | (with_reducible exact ih1 _ _ _ _ _ _ _ _)
   | (with_reducible exact turnbucklelaw11_speaks.mono _)
   | (with_reducible exact LeO.refl _)
   | (with_reducible exact LeO.none _)
   | (with_reducible refine LeO.ite ?_ ?_)
   | (with_reducible refine LeO.bind ?_ (fun _ => ?_))
   | exact ih0 _ _ _ _ _ _ _
   | exact ih1 _ _ _ _ _ _ _ _
   | exact turnbucklelaw11_speaks.mono _
   | exact LeO.none _
   | refine LeO.ite ?_ ?_
   | refine LeO.bind ?_ (fun _ => ?_)
  ·intro y0 y1 y2 y3 y4 y5 y6 y7
   unfold turnbucklelaw11_SymBinds.j1
   repeat' first
   | (with_reducible exact ih0 _ _ _ _ _ _ _)
   | (with_reducible exact ih1 _ _ _ _ _ _ _ _)
   | (with_reducible exact turnbucklelaw11_speaks.mono _)
   | (with_reducible exact LeO.refl _)
   | (with_reducible exact LeO.none _)
   | (with_reducible refine LeO.ite ?_ ?_)
   | (with_reducible refine LeO.bind ?_ (fun _ => ?_))
   | exact ih0 _ _ _ _ _ _ _
   | exact ih1 _ _ _ _ _ _ _ _
   | exact turnbucklelaw11_speaks.mono _
   | exact LeO.none _
   | refine LeO.ite ?_ ?_
   | refine LeO.bind ?_ (fun _ => ?_)
theorem turnbucklelaw11_SymBinds.mono : ∀ a0 a1 a2 a3 a4 a5 k, LeO (turnbucklelaw11_SymBinds.f k a0 a1 a2 a3 a4 a5) (turnbucklelaw11_SymBinds.f (k + 1) a0 a1 a2 a3 a4 a5) := by
 intro a0 a1 a2 a3 a4 a5 k
 obtain ⟨ih0, ih1⟩ := turnbucklelaw11_SymBinds.mono_l k
 unfold turnbucklelaw11_SymBinds.f
 repeat' first
   | (with_reducible exact ih0 _ _ _ _ _ _ _)
   | (with_reducible exact ih1 _ _ _ _ _ _ _ _)
   | (with_reducible exact turnbucklelaw11_speaks.mono _)
   | (with_reducible exact LeO.refl _)
   | (with_reducible exact LeO.none _)
   | (with_reducible refine LeO.ite ?_ ?_)
   | (with_reducible refine LeO.bind ?_ (fun _ => ?_))
   | exact ih0 _ _ _ _ _ _ _
   | exact ih1 _ _ _ _ _ _ _ _
   | exact turnbucklelaw11_speaks.mono _
   | exact LeO.none _
   | refine LeO.ite ?_ ?_
   | refine LeO.bind ?_ (fun _ => ?_)
def turnbucklelaw11_SymBinds.T10 : Bool × List (List Nat × List Nat) := (true, [([], []), ([0], [0]), ([], []), ([2, 1], [2]), ([1, 3], [1, 3]), ([4, 3], [4]), ([5], [5]), ([6, 5, 5], [5, 6]), ([5], [5]), ([8, 7, 5], [5, 8]), ([7, 9, 5], [5, 7, 9]), ([5, 10], [5, 10]), ([11, 9], [11]), ([12], [12]), ([13, 12, 12], [12, 13]), ([12, 14], [12, 14]), ([15, 14], [15]), ([16], [16]), ([17, 16, 16], [16, 17]), ([16], [16]), ([19, 16], [16, 19]), ([18, 20, 16], [16, 18, 20]), ([16, 21], [16, 21])])
def turnbucklelaw11_SymBinds.B10 : List Nat := [0, 1, 0, 7, 15, 31, 63, 127, 63, 511, 1023, 2047, 4095, 8191, 16383, 32767, 65535, 131071, 262143, 131071, 655359, 2097151, 4194303]
theorem turnbucklelaw11_SymBinds.tab10 : rtab .any (opsOf Try.f6 10) = turnbucklelaw11_SymBinds.T10 := by kernel_rfl
theorem turnbucklelaw11_SymBinds.bits10 : waitsOk turnbucklelaw11_SymBinds.T10.2 turnbucklelaw11_SymBinds.B10 = true := by kernel_rfl
def turnbucklelaw11_SymBinds.T13 : Bool × List (List Nat × List Nat) := (true, [([], []), ([0], [0]), ([1], [1]), ([2], [2]), ([3, 2, 2], [2, 3]), ([4, 2], [2, 4]), ([5, 4, 2], [2, 5]), ([6], [6]), ([7, 6, 6], [6, 7]), ([6], [6]), ([9, 6], [6, 9]), ([8, 10, 6], [6, 8, 10]), ([6, 11, 2], [2, 6, 11]), ([2, 12], [2, 12]), ([13, 8, 0, 1, 2, 3, 4, 5, 6, 7, 8, 9, 10, 11, 12, 13], [13])])
def turnbucklelaw11_SymBinds.B13 : List Nat := [0, 1, 3, 7, 15, 31, 63, 127, 255, 127, 639, 2047, 4095, 8191, 16383]
theorem turnbucklelaw11_SymBinds.tab13 : rtab .any (opsOf Try.f6 13) = turnbucklelaw11_SymBinds.T13 := by kernel_rfl
theorem turnbucklelaw11_SymBinds.bits13 : waitsOk turnbucklelaw11_SymBinds.T13.2 turnbucklelaw11_SymBinds.B13 = true := by kernel_rfl
set_option maxHeartbeats 8000000 in
set_option maxRecDepth 100000 in
theorem turnbucklelaw11_SymBinds.calls (k : Nat) (a0_0 : Int) (a0_1 : Int) (a0_2 : Int) (a0_3 : Bool) (a0_4 : Int) (a0_5 : Int) (r : Bool) (w : World) (h : turnbucklelaw11_SymBinds.f k a0_0 a0_1 a0_2 a0_3 a0_4 a0_5 = some r) :
  Calls Try.prog 6 #[.agg #[.int .i64 a0_0, .int .i64 a0_1, .int .i64 a0_2, .bool a0_3, .int .u64 a0_4, .int .u64 a0_5]] w fun e w' => e = .returned (.bool r) ∧ Below w.heap.size w w' := by
 have hu24 := Try.underlying24
 have hu28 := Try.underlying28
 have HB := Aside0.mk (Below.refl w.heap.size w)
 have H : ((turnbucklelaw11_speaks.f k).bind fun t138 => (if t138 = true then (if (wrap64 ((Go.bits .and .i64 a0_0 1) * 2)) = 0 then (turnbucklelaw11_SymBinds.j0 k (⟨#[]⟩ : ByteArray) 1 (Go.bits .and .i64 a0_1 15) (Go.bits .and .i64 a0_2 3) a0_3 0 0) else (turnbucklelaw11_SymBinds.j0 k (⟨#[]⟩ : ByteArray) (wrap64 ((Go.bits .and .i64 a0_0 1) * 2)) (Go.bits .and .i64 a0_1 15) (Go.bits .and .i64 a0_2 3) a0_3 0 0)) else (some false))) = some r := h
 clear h
 replace H := Option.bind_eq_some_iff.mp H
 obtain ⟨t138, A20, H⟩ := H
 replace H : (if t138 = true then (if (wrap64 ((Go.bits .and .i64 a0_0 1) * 2)) = 0 then (turnbucklelaw11_SymBinds.j0 k (⟨#[]⟩ : ByteArray) 1 (Go.bits .and .i64 a0_1 15) (Go.bits .and .i64 a0_2 3) a0_3 0 0) else (turnbucklelaw11_SymBinds.j0 k (⟨#[]⟩ : ByteArray) (wrap64 ((Go.bits .and .i64 a0_0 1) * 2)) (Go.bits .and .i64 a0_1 15) (Go.bits .and .i64 a0_2 3) a0_3 0 0)) else (some false)) = some r := H
 have A2 := Aside0.mk A20
 clear A20
 by_cases c3 : t138 = true
 ·subst c3
  have H1 : (if (wrap64 ((Go.bits .and .i64 a0_0 1) * 2)) = 0 then (turnbucklelaw11_SymBinds.j0 k (⟨#[]⟩ : ByteArray) 1 (Go.bits .and .i64 a0_1 15) (Go.bits .and .i64 a0_2 3) a0_3 0 0) else (turnbucklelaw11_SymBinds.j0 k (⟨#[]⟩ : ByteArray) (wrap64 ((Go.bits .and .i64 a0_0 1) * 2)) (Go.bits .and .i64 a0_1 15) (Go.bits .and .i64 a0_2 3) a0_3 0 0)) = some r := by rw [if_pos rfl] at H; exact H
  clear H
  have H := H1
  clear H1
  have HC4 := Aside0.mk H
  clear H
  go_enter Try.func6, Try.ntmps6
  go_upto_if 24 with (first | ((with_reducible refine gate_dst (N := 1) rfl ?_); refine box_event ?hg (N := 1) ?hd (cs := #[.int .i64 a0_0, .int .i64 a0_1, .int .i64 a0_2, .bool a0_3, .int .u64 a0_4, .int .u64 a0_5]) (t := 24) ?hr ?_; (case hd => rfl); (case hg => rfl); (case hr => first | (go_simp; done) | (go_simp; rfl)); intro gb137 hg w5 hbox hb; have n0_ := Aside0.mk (below_step (by repeat (first | (with_reducible first | exact HB.out | apply below_alloc | apply pw_below_drewN | apply below_drew1) | exact HB.out)) hb); have n1_ := Aside0.mk (hbox); have n2_ := Aside0.mk ((by rw [hg]; exact (below_size (by repeat (first | (with_reducible first | exact HB.out | apply below_alloc | apply pw_below_drewN | apply below_drew1) | exact HB.out))) : w.heap.size ≤ gb137)); have n3_ := Aside0.mk ((by rw [hg]; exact (below_size (by repeat (first | (with_reducible first | exact HB.out | apply below_alloc | apply pw_below_drewN | apply below_drew1) | exact HB.out))) : w.heap.size ≤ gb137)); clear HB; have HB := n0_; have BK137 := n1_; have GW137 := n2_; have GE137 := n3_; clear n0_ n1_ n2_ n3_; clear hb hbox hg) | ((with_reducible refine gate_callee (f := 7) rfl ?_); refine goesL_ (some 7) rfl rfl Try.func7 (by kernel_rfl) rfl #[] rfl (by (try simp only [List.map_toArray, List.map_cons, List.map_nil]); first | done | rfl | (simp only [List.length_drop, List.length_take]; rfl)) ?_; (with_reducible refine (turnbucklelaw11_speaks.calls k  true _ A2.out).mono ?_); rintro e w6 ⟨rfl, hb⟩; refine ⟨_, rfl, ?_⟩; have n0_ := Aside0.mk (blk_below (g := gb137) (o := .cells #[.int .i64 a0_0, .int .i64 a0_1, .int .i64 a0_2, .bool a0_3, .int .u64 a0_4, .int .u64 a0_5] 24 (0, 0)) (by (with_reducible repeat (first | refine blk_drewN ?_ _ | refine blk_drew ?_ | refine blk_alloc ?_ _)); exact BK137.out) hb); have n1_ := Aside0.mk (below_step (by repeat (first | (with_reducible first | exact HB.out | apply below_alloc | apply pw_below_drewN | apply below_drew1 | refine below_set ?_ GE137.out) | exact HB.out)) hb); clear BK137; clear HB; have BK137 := n0_; have HB := n1_; clear n0_ n1_; (try clear hb); (try clear hb2); (try clear hk); (try clear hi); have hcz7_0 : w6.cell? ⟨gb137, 0, none⟩ = some (.int .i64 a0_0) := (blk_cell BK137.out 0).trans rfl; have hcz7_1 : w6.cell? ⟨gb137, 1, none⟩ = some (.int .i64 a0_1) := (blk_cell BK137.out 1).trans rfl; have hcz7_2 : w6.cell? ⟨gb137, 2, none⟩ = some (.int .i64 a0_2) := (blk_cell BK137.out 2).trans rfl; have hcz7_3 : w6.cell? ⟨gb137, 3, none⟩ = some (.bool a0_3) := (blk_cell BK137.out 3).trans rfl; have hcz7_4 : w6.cell? ⟨gb137, 4, none⟩ = some (.int .u64 a0_4) := (blk_cell BK137.out 4).trans rfl; have hcz7_5 : w6.cell? ⟨gb137, 5, none⟩ = some (.int .u64 a0_5) := (blk_cell BK137.out 5).trans rfl; have hfz7_0 := blk_frozen BK137.out 0; have hfz7_1 := blk_frozen BK137.out 1; have hfz7_2 := blk_frozen BK137.out 2; have hfz7_3 := blk_frozen BK137.out 3; have hfz7_4 := blk_frozen BK137.out 4; have hfz7_5 := blk_frozen BK137.out 5) | ((with_reducible refine gate_dst (N := 3) rfl ?_); refine box_event ?hg (N := 3) ?hd (cs := #[.string (⟨#[]⟩ : ByteArray), .int .i64 0, .int .i64 0, .int .i64 0, .bool false, .int .u64 0, .int .u64 0]) (t := 28) ?hr ?_; (case hd => rfl); (case hg => rfl); (case hr => first | (go_simp; done) | (go_simp; rfl)); intro gb139 hg w8 hbox hb; have n0_ := Aside0.mk (blk_below (g := gb137) (o := .cells #[.int .i64 a0_0, .int .i64 a0_1, .int .i64 a0_2, .bool a0_3, .int .u64 a0_4, .int .u64 a0_5] 24 (0, 0)) (by (with_reducible repeat (first | refine blk_drewN ?_ _ | refine blk_drew ?_ | refine blk_alloc ?_ _)); exact BK137.out) hb); have n1_ := Aside0.mk (below_step (by repeat (first | (with_reducible first | exact HB.out | apply below_alloc | apply pw_below_drewN | apply below_drew1 | refine below_set ?_ GE137.out) | exact HB.out)) hb); have n2_ := Aside0.mk (hbox); have n3_ := Aside0.mk ((by rw [hg]; exact (below_size (by repeat (first | (with_reducible first | exact HB.out | apply below_alloc | apply pw_below_drewN | apply below_drew1 | refine below_set ?_ GE137.out) | exact HB.out))) : w.heap.size ≤ gb139)); have n4_ := Aside0.mk ((by rw [hg]; exact (below_size (by repeat (first | (with_reducible first | exact HB.out | apply below_alloc | apply pw_below_drewN | apply below_drew1 | refine below_set ?_ GE137.out) | exact HB.out))) : w.heap.size ≤ gb139)); have n5_ := Aside0.mk ((by rw [hg]; exact Nat.ne_of_lt (blk_lt (g := gb137) (o := .cells #[.int .i64 a0_0, .int .i64 a0_1, .int .i64 a0_2, .bool a0_3, .int .u64 a0_4, .int .u64 a0_5] 24 (0, 0)) (by (with_reducible repeat (first | refine blk_drewN ?_ _ | refine blk_drew ?_ | refine blk_alloc ?_ _)); exact BK137.out)) : gb137 ≠ gb139)); have n6_ := Aside0.mk ((by rw [hg]; exact Nat.ne_of_gt (blk_lt (g := gb137) (o := .cells #[.int .i64 a0_0, .int .i64 a0_1, .int .i64 a0_2, .bool a0_3, .int .u64 a0_4, .int .u64 a0_5] 24 (0, 0)) (by (with_reducible repeat (first | refine blk_drewN ?_ _ | refine blk_drew ?_ | refine blk_alloc ?_ _)); exact BK137.out)) : gb139 ≠ gb137)); clear BK137; clear HB; have BK137 := n0_; have HB := n1_; have BK139 := n2_; have GW139 := n3_; have GE139 := n4_; have NB137_139 := n5_; have NB139_137 := n6_; clear n0_ n1_ n2_ n3_ n4_ n5_ n6_; clear hb hbox hg; have hnb9 := NB139_137.out; have hnc9 := NB137_139.out; have hcz10_0 : w8.cell? ⟨gb139, 0, none⟩ = some (.string (⟨#[]⟩ : ByteArray)) := (blk_cell BK139.out 0).trans rfl; have hcz10_1 : w8.cell? ⟨gb139, 1, none⟩ = some (.int .i64 0) := (blk_cell BK139.out 1).trans rfl; have hcz10_2 : w8.cell? ⟨gb139, 2, none⟩ = some (.int .i64 0) := (blk_cell BK139.out 2).trans rfl; have hcz10_3 : w8.cell? ⟨gb139, 3, none⟩ = some (.int .i64 0) := (blk_cell BK139.out 3).trans rfl; have hcz10_4 : w8.cell? ⟨gb139, 4, none⟩ = some (.bool false) := (blk_cell BK139.out 4).trans rfl; have hcz10_5 : w8.cell? ⟨gb139, 5, none⟩ = some (.int .u64 0) := (blk_cell BK139.out 5).trans rfl; have hcz10_6 : w8.cell? ⟨gb139, 6, none⟩ = some (.int .u64 0) := (blk_cell BK139.out 6).trans rfl; have hfz10_0 := blk_frozen BK139.out 0; have hfz10_1 := blk_frozen BK139.out 1; have hfz10_2 := blk_frozen BK139.out 2; have hfz10_3 := blk_frozen BK139.out 3; have hfz10_4 := blk_frozen BK139.out 4; have hfz10_5 := blk_frozen BK139.out 5; have hfz10_6 := blk_frozen BK139.out 6))
  (try simp only [Act.put, List.setIfInBounds_toArray, List.set_cons_zero, List.set_cons_succ])
  go_cut [] (fun wc => ∃ (kq : Nat) (x140001_3 : Int), Aside0 (turnbucklelaw11_SymBinds.j0 kq (⟨#[]⟩ : ByteArray) x140001_3 (Go.bits .and .i64 a0_1 15) (Go.bits .and .i64 a0_2 3) a0_3 0 0 = some r) ∧ Aside0 (kq ≤ k) ∧ Aside0 (wc.heap[gb137]? = some (.cells #[.int .i64 a0_0, .int .i64 a0_1, .int .i64 a0_2, .bool a0_3, .int .u64 a0_4, .int .u64 a0_5] 24 (0, 0))) ∧ Aside0 (wc.heap[gb139]? = some (.cells #[.string (⟨#[]⟩ : ByteArray), .int .i64 x140001_3, .int .i64 (Go.bits .and .i64 a0_1 15), .int .i64 (Go.bits .and .i64 a0_2 3), .bool a0_3, .int .u64 0, .int .u64 0] 28 (0, 0))) ∧ Aside0 (Below w.heap.size w wc))
  case first =>
   have H := HC4.out
   clear HC4
   by_cases c11 : (wrap64 ((Go.bits .and .i64 a0_0 1) * 2)) = 0
   ·rw [if_pos c11] at H
    have c11b0 : ((wrap64 ((Go.bits .and .i64 a0_0 1) * 2)) == 0) = true := beq_iff_eq.mpr c11
    have c11b1 : ((wrap64 ((Go.bits .and .i64 a0_0 1) * 2)) != 0) = false := bne_eq_false_iff_eq.mpr c11
    clear c11
    (first | rw [c11b0] | (simp only [i64_w, i32_w]; rw [c11b0]) | skip)
    have H' := Aside0.mk H
    clear H
    have hnb12 := NB139_137.out
    have hnc12 := NB137_139.out
    have hcz13_0 : w8.cell? ⟨gb139, 0, none⟩ = some (.string (⟨#[]⟩ : ByteArray)) := (blk_cell BK139.out 0).trans rfl
    have hcz13_1 : w8.cell? ⟨gb139, 1, none⟩ = some (.int .i64 0) := (blk_cell BK139.out 1).trans rfl
    have hcz13_2 : w8.cell? ⟨gb139, 2, none⟩ = some (.int .i64 0) := (blk_cell BK139.out 2).trans rfl
    have hcz13_3 : w8.cell? ⟨gb139, 3, none⟩ = some (.int .i64 0) := (blk_cell BK139.out 3).trans rfl
    have hcz13_4 : w8.cell? ⟨gb139, 4, none⟩ = some (.bool false) := (blk_cell BK139.out 4).trans rfl
    have hcz13_5 : w8.cell? ⟨gb139, 5, none⟩ = some (.int .u64 0) := (blk_cell BK139.out 5).trans rfl
    have hcz13_6 : w8.cell? ⟨gb139, 6, none⟩ = some (.int .u64 0) := (blk_cell BK139.out 6).trans rfl
    have hfz13_0 := blk_frozen BK139.out 0
    have hfz13_1 := blk_frozen BK139.out 1
    have hfz13_2 := blk_frozen BK139.out 2
    have hfz13_3 := blk_frozen BK139.out 3
    have hfz13_4 := blk_frozen BK139.out 4
    have hfz13_5 := blk_frozen BK139.out 5
    have hfz13_6 := blk_frozen BK139.out 6
    go_wp2
    (try subst hji11)
    (try subst hji13)
    go_meet
    case rel => exact ⟨_, (1), H', ⟨by first | omega | exact Nat.le_refl _⟩, ⟨by (with_reducible repeat (first | refine blk_drewN ?_ _ | refine blk_drew ?_ | refine blk_alloc ?_ _)); refine blk_far ?_ NB137_139.out _; (with_reducible repeat (first | refine blk_drewN ?_ _ | refine blk_drew ?_ | refine blk_alloc ?_ _)); refine blk_far ?_ NB137_139.out _; (with_reducible repeat (first | refine blk_drewN ?_ _ | refine blk_drew ?_ | refine blk_alloc ?_ _)); refine blk_far ?_ NB137_139.out _; (with_reducible repeat (first | refine blk_drewN ?_ _ | refine blk_drew ?_ | refine blk_alloc ?_ _)); refine blk_far ?_ NB137_139.out _; (with_reducible repeat (first | refine blk_drewN ?_ _ | refine blk_drew ?_ | refine blk_alloc ?_ _)); refine blk_far ?_ NB137_139.out _; (with_reducible repeat (first | refine blk_drewN ?_ _ | refine blk_drew ?_ | refine blk_alloc ?_ _)); refine blk_far ?_ NB137_139.out _; (with_reducible repeat (first | refine blk_drewN ?_ _ | refine blk_drew ?_ | refine blk_alloc ?_ _)); refine blk_far ?_ NB137_139.out _; (with_reducible repeat (first | refine blk_drewN ?_ _ | refine blk_drew ?_ | refine blk_alloc ?_ _)); refine blk_far ?_ NB137_139.out _; (with_reducible repeat (first | refine blk_drewN ?_ _ | refine blk_drew ?_ | refine blk_alloc ?_ _)); exact BK137.out⟩, ⟨by (with_reducible repeat (first | refine blk_drewN ?_ _ | refine blk_drew ?_ | refine blk_alloc ?_ _)); refine blk_put (cs := #[.string (⟨#[]⟩ : ByteArray), .int .i64 (wrap64 ((Go.bits .and .i64 a0_0 1) * 2)), .int .i64 (Go.bits .and .i64 a0_1 15), .int .i64 (Go.bits .and .i64 a0_2 3), .bool a0_3, .int .u64 0, .int .u64 0]) ?_ 1 _ rfl; (with_reducible repeat (first | refine blk_drewN ?_ _ | refine blk_drew ?_ | refine blk_alloc ?_ _)); refine blk_put (cs := #[.string (⟨#[]⟩ : ByteArray), .int .i64 (wrap64 ((Go.bits .and .i64 a0_0 1) * 2)), .int .i64 (Go.bits .and .i64 a0_1 15), .int .i64 (Go.bits .and .i64 a0_2 3), .bool a0_3, .int .u64 0, .int .u64 0]) ?_ 6 _ rfl; (with_reducible repeat (first | refine blk_drewN ?_ _ | refine blk_drew ?_ | refine blk_alloc ?_ _)); refine blk_put (cs := #[.string (⟨#[]⟩ : ByteArray), .int .i64 (wrap64 ((Go.bits .and .i64 a0_0 1) * 2)), .int .i64 (Go.bits .and .i64 a0_1 15), .int .i64 (Go.bits .and .i64 a0_2 3), .bool a0_3, .int .u64 0, .int .u64 0]) ?_ 5 _ rfl; (with_reducible repeat (first | refine blk_drewN ?_ _ | refine blk_drew ?_ | refine blk_alloc ?_ _)); refine blk_put (cs := #[.string (⟨#[]⟩ : ByteArray), .int .i64 (wrap64 ((Go.bits .and .i64 a0_0 1) * 2)), .int .i64 (Go.bits .and .i64 a0_1 15), .int .i64 (Go.bits .and .i64 a0_2 3), .bool false, .int .u64 0, .int .u64 0]) ?_ 4 _ rfl; (with_reducible repeat (first | refine blk_drewN ?_ _ | refine blk_drew ?_ | refine blk_alloc ?_ _)); refine blk_put (cs := #[.string (⟨#[]⟩ : ByteArray), .int .i64 (wrap64 ((Go.bits .and .i64 a0_0 1) * 2)), .int .i64 (Go.bits .and .i64 a0_1 15), .int .i64 0, .bool false, .int .u64 0, .int .u64 0]) ?_ 3 _ rfl; (with_reducible repeat (first | refine blk_drewN ?_ _ | refine blk_drew ?_ | refine blk_alloc ?_ _)); refine blk_put (cs := #[.string (⟨#[]⟩ : ByteArray), .int .i64 (wrap64 ((Go.bits .and .i64 a0_0 1) * 2)), .int .i64 0, .int .i64 0, .bool false, .int .u64 0, .int .u64 0]) ?_ 2 _ rfl; (with_reducible repeat (first | refine blk_drewN ?_ _ | refine blk_drew ?_ | refine blk_alloc ?_ _)); refine blk_put (cs := #[.string (⟨#[]⟩ : ByteArray), .int .i64 0, .int .i64 0, .int .i64 0, .bool false, .int .u64 0, .int .u64 0]) ?_ 1 _ rfl; (with_reducible repeat (first | refine blk_drewN ?_ _ | refine blk_drew ?_ | refine blk_alloc ?_ _)); refine blk_put (cs := #[.string (⟨#[]⟩ : ByteArray), .int .i64 0, .int .i64 0, .int .i64 0, .bool false, .int .u64 0, .int .u64 0]) ?_ 0 _ rfl; (with_reducible repeat (first | refine blk_drewN ?_ _ | refine blk_drew ?_ | refine blk_alloc ?_ _)); exact BK139.out⟩, ⟨by repeat (first | (with_reducible first | exact HB.out | apply below_alloc | apply pw_below_drewN | apply below_drew1 | refine below_set ?_ GE137.out | refine below_set ?_ GE139.out) | exact HB.out)⟩⟩
   ·rw [if_neg c11] at H
    have c11b0 : ((wrap64 ((Go.bits .and .i64 a0_0 1) * 2)) == 0) = false := beq_eq_false_iff_ne.mpr c11
    have c11b1 : ((wrap64 ((Go.bits .and .i64 a0_0 1) * 2)) != 0) = true := bne_iff_ne.mpr c11
    (first | rw [c11b0] | (simp only [i64_w, i32_w]; rw [c11b0]) | skip)
    have H' := Aside0.mk H
    clear H
    go_wp2
    (try subst hji11)
    (try subst hji13)
    go_meet
    case rel => exact ⟨_, (wrap64 ((Go.bits .and .i64 a0_0 1) * 2)), H', ⟨by first | omega | exact Nat.le_refl _⟩, ⟨by (with_reducible repeat (first | refine blk_drewN ?_ _ | refine blk_drew ?_ | refine blk_alloc ?_ _)); refine blk_far ?_ NB137_139.out _; (with_reducible repeat (first | refine blk_drewN ?_ _ | refine blk_drew ?_ | refine blk_alloc ?_ _)); refine blk_far ?_ NB137_139.out _; (with_reducible repeat (first | refine blk_drewN ?_ _ | refine blk_drew ?_ | refine blk_alloc ?_ _)); refine blk_far ?_ NB137_139.out _; (with_reducible repeat (first | refine blk_drewN ?_ _ | refine blk_drew ?_ | refine blk_alloc ?_ _)); refine blk_far ?_ NB137_139.out _; (with_reducible repeat (first | refine blk_drewN ?_ _ | refine blk_drew ?_ | refine blk_alloc ?_ _)); refine blk_far ?_ NB137_139.out _; (with_reducible repeat (first | refine blk_drewN ?_ _ | refine blk_drew ?_ | refine blk_alloc ?_ _)); refine blk_far ?_ NB137_139.out _; (with_reducible repeat (first | refine blk_drewN ?_ _ | refine blk_drew ?_ | refine blk_alloc ?_ _)); refine blk_far ?_ NB137_139.out _; (with_reducible repeat (first | refine blk_drewN ?_ _ | refine blk_drew ?_ | refine blk_alloc ?_ _)); exact BK137.out⟩, ⟨by (with_reducible repeat (first | refine blk_drewN ?_ _ | refine blk_drew ?_ | refine blk_alloc ?_ _)); refine blk_put (cs := #[.string (⟨#[]⟩ : ByteArray), .int .i64 (wrap64 ((Go.bits .and .i64 a0_0 1) * 2)), .int .i64 (Go.bits .and .i64 a0_1 15), .int .i64 (Go.bits .and .i64 a0_2 3), .bool a0_3, .int .u64 0, .int .u64 0]) ?_ 6 _ rfl; (with_reducible repeat (first | refine blk_drewN ?_ _ | refine blk_drew ?_ | refine blk_alloc ?_ _)); refine blk_put (cs := #[.string (⟨#[]⟩ : ByteArray), .int .i64 (wrap64 ((Go.bits .and .i64 a0_0 1) * 2)), .int .i64 (Go.bits .and .i64 a0_1 15), .int .i64 (Go.bits .and .i64 a0_2 3), .bool a0_3, .int .u64 0, .int .u64 0]) ?_ 5 _ rfl; (with_reducible repeat (first | refine blk_drewN ?_ _ | refine blk_drew ?_ | refine blk_alloc ?_ _)); refine blk_put (cs := #[.string (⟨#[]⟩ : ByteArray), .int .i64 (wrap64 ((Go.bits .and .i64 a0_0 1) * 2)), .int .i64 (Go.bits .and .i64 a0_1 15), .int .i64 (Go.bits .and .i64 a0_2 3), .bool false, .int .u64 0, .int .u64 0]) ?_ 4 _ rfl; (with_reducible repeat (first | refine blk_drewN ?_ _ | refine blk_drew ?_ | refine blk_alloc ?_ _)); refine blk_put (cs := #[.string (⟨#[]⟩ : ByteArray), .int .i64 (wrap64 ((Go.bits .and .i64 a0_0 1) * 2)), .int .i64 (Go.bits .and .i64 a0_1 15), .int .i64 0, .bool false, .int .u64 0, .int .u64 0]) ?_ 3 _ rfl; (with_reducible repeat (first | refine blk_drewN ?_ _ | refine blk_drew ?_ | refine blk_alloc ?_ _)); refine blk_put (cs := #[.string (⟨#[]⟩ : ByteArray), .int .i64 (wrap64 ((Go.bits .and .i64 a0_0 1) * 2)), .int .i64 0, .int .i64 0, .bool false, .int .u64 0, .int .u64 0]) ?_ 2 _ rfl; (with_reducible repeat (first | refine blk_drewN ?_ _ | refine blk_drew ?_ | refine blk_alloc ?_ _)); refine blk_put (cs := #[.string (⟨#[]⟩ : ByteArray), .int .i64 0, .int .i64 0, .int .i64 0, .bool false, .int .u64 0, .int .u64 0]) ?_ 1 _ rfl; (with_reducible repeat (first | refine blk_drewN ?_ _ | refine blk_drew ?_ | refine blk_alloc ?_ _)); refine blk_put (cs := #[.string (⟨#[]⟩ : ByteArray), .int .i64 0, .int .i64 0, .int .i64 0, .bool false, .int .u64 0, .int .u64 0]) ?_ 0 _ rfl; (with_reducible repeat (first | refine blk_drewN ?_ _ | refine blk_drew ?_ | refine blk_alloc ?_ _)); exact BK139.out⟩, ⟨by repeat (first | (with_reducible first | exact HB.out | apply below_alloc | apply pw_below_drewN | apply below_drew1 | refine below_set ?_ GE137.out | refine below_set ?_ GE139.out) | exact HB.out)⟩⟩
  case rest =>
   clear HC4
   try clear c1
   try clear p2
   try clear c3
   try clear c6
   try clear p6
   try clear c7
   try clear c9
   try clear c11
   try clear c11b0
   try clear c11b1
   try clear c12
   try clear hcz10_0
   try clear hcz10_1
   try clear hcz10_2
   try clear hcz10_3
   try clear hcz10_4
   try clear hcz10_5
   try clear hcz10_6
   try clear hcz13_0
   try clear hcz13_1
   try clear hcz13_2
   try clear hcz13_3
   try clear hcz13_4
   try clear hcz13_5
   try clear hcz13_6
   try clear hcz7_0
   try clear hcz7_1
   try clear hcz7_2
   try clear hcz7_3
   try clear hcz7_4
   try clear hcz7_5
   try clear hfz10_0
   try clear hfz10_1
   try clear hfz10_2
   try clear hfz10_3
   try clear hfz10_4
   try clear hfz10_5
   try clear hfz10_6
   try clear hfz13_0
   try clear hfz13_1
   try clear hfz13_2
   try clear hfz13_3
   try clear hfz13_4
   try clear hfz13_5
   try clear hfz13_6
   try clear hfz7_0
   try clear hfz7_1
   try clear hfz7_2
   try clear hfz7_3
   try clear hfz7_4
   try clear hfz7_5
   obtain ⟨kq, x140001_3, HA, HJ3, BK137, BK139, HB⟩ := hcut
   cases kq with
   | zero => exact absurd HA.out (by simp [turnbucklelaw11_SymBinds.j0])
   | succ kj3 =>
    have H := HA.out
    clear HA
    simp only [turnbucklelaw11_SymBinds.j0] at H
    have HC14 := Aside0.mk H
    clear H
    have hnb15 := NB139_137.out
    have hnc15 := NB137_139.out
    have hcz16_0 : wc.cell? ⟨gb139, 0, none⟩ = some (.string (⟨#[]⟩ : ByteArray)) := (blk_cell BK139.out 0).trans rfl
    have hcz16_1 : wc.cell? ⟨gb139, 1, none⟩ = some (.int .i64 x140001_3) := (blk_cell BK139.out 1).trans rfl
    have hcz16_2 : wc.cell? ⟨gb139, 2, none⟩ = some (.int .i64 (Go.bits .and .i64 a0_1 15)) := (blk_cell BK139.out 2).trans rfl
    have hcz16_3 : wc.cell? ⟨gb139, 3, none⟩ = some (.int .i64 (Go.bits .and .i64 a0_2 3)) := (blk_cell BK139.out 3).trans rfl
    have hcz16_4 : wc.cell? ⟨gb139, 4, none⟩ = some (.bool a0_3) := (blk_cell BK139.out 4).trans rfl
    have hcz16_5 : wc.cell? ⟨gb139, 5, none⟩ = some (.int .u64 0) := (blk_cell BK139.out 5).trans rfl
    have hcz16_6 : wc.cell? ⟨gb139, 6, none⟩ = some (.int .u64 0) := (blk_cell BK139.out 6).trans rfl
    have hfz16_0 := blk_frozen BK139.out 0
    have hfz16_1 := blk_frozen BK139.out 1
    have hfz16_2 := blk_frozen BK139.out 2
    have hfz16_3 := blk_frozen BK139.out 3
    have hfz16_4 := blk_frozen BK139.out 4
    have hfz16_5 := blk_frozen BK139.out 5
    have hfz16_6 := blk_frozen BK139.out 6
    go_upto_region 10 with (first | ((with_reducible refine gate_dst (N := 4) rfl ?_); refine box_event ?hg (N := 4) ?hd (cs := #[.string (⟨#[]⟩ : ByteArray), .int .i64 0, .int .i64 0, .int .i64 0, .bool false, .int .u64 0, .int .u64 0]) (t := 28) ?hr ?_; (case hd => rfl); (case hg => rfl); (case hr => first | (go_simp; done) | (go_simp; rfl)); intro gb140 hg w17 hbox hb; have n0_ := Aside0.mk (blk_below (g := gb137) (o := .cells #[.int .i64 a0_0, .int .i64 a0_1, .int .i64 a0_2, .bool a0_3, .int .u64 a0_4, .int .u64 a0_5] 24 (0, 0)) (by (with_reducible repeat (first | refine blk_drewN ?_ _ | refine blk_drew ?_ | refine blk_alloc ?_ _)); exact BK137.out) hb); have n1_ := Aside0.mk (blk_below (g := gb139) (o := .cells #[.string (⟨#[]⟩ : ByteArray), .int .i64 x140001_3, .int .i64 (Go.bits .and .i64 a0_1 15), .int .i64 (Go.bits .and .i64 a0_2 3), .bool a0_3, .int .u64 0, .int .u64 0] 28 (0, 0)) (by (with_reducible repeat (first | refine blk_drewN ?_ _ | refine blk_drew ?_ | refine blk_alloc ?_ _)); exact BK139.out) hb); have n2_ := Aside0.mk (below_step (by repeat (first | (with_reducible first | exact HB.out | apply below_alloc | apply pw_below_drewN | apply below_drew1 | refine below_set ?_ GE137.out | refine below_set ?_ GE139.out) | exact HB.out)) hb); have n3_ := Aside0.mk (hbox); have n4_ := Aside0.mk ((by rw [hg]; exact (below_size (by repeat (first | (with_reducible first | exact HB.out | apply below_alloc | apply pw_below_drewN | apply below_drew1 | refine below_set ?_ GE137.out | refine below_set ?_ GE139.out) | exact HB.out))) : w.heap.size ≤ gb140)); have n5_ := Aside0.mk ((by rw [hg]; exact (below_size (by repeat (first | (with_reducible first | exact HB.out | apply below_alloc | apply pw_below_drewN | apply below_drew1 | refine below_set ?_ GE137.out | refine below_set ?_ GE139.out) | exact HB.out))) : w.heap.size ≤ gb140)); have n6_ := Aside0.mk ((by rw [hg]; exact Nat.ne_of_lt (blk_lt (g := gb137) (o := .cells #[.int .i64 a0_0, .int .i64 a0_1, .int .i64 a0_2, .bool a0_3, .int .u64 a0_4, .int .u64 a0_5] 24 (0, 0)) (by (with_reducible repeat (first | refine blk_drewN ?_ _ | refine blk_drew ?_ | refine blk_alloc ?_ _)); exact BK137.out)) : gb137 ≠ gb140)); have n7_ := Aside0.mk ((by rw [hg]; exact Nat.ne_of_gt (blk_lt (g := gb137) (o := .cells #[.int .i64 a0_0, .int .i64 a0_1, .int .i64 a0_2, .bool a0_3, .int .u64 a0_4, .int .u64 a0_5] 24 (0, 0)) (by (with_reducible repeat (first | refine blk_drewN ?_ _ | refine blk_drew ?_ | refine blk_alloc ?_ _)); exact BK137.out)) : gb140 ≠ gb137)); have n8_ := Aside0.mk ((by rw [hg]; exact Nat.ne_of_lt (blk_lt (g := gb139) (o := .cells #[.string (⟨#[]⟩ : ByteArray), .int .i64 x140001_3, .int .i64 (Go.bits .and .i64 a0_1 15), .int .i64 (Go.bits .and .i64 a0_2 3), .bool a0_3, .int .u64 0, .int .u64 0] 28 (0, 0)) (by (with_reducible repeat (first | refine blk_drewN ?_ _ | refine blk_drew ?_ | refine blk_alloc ?_ _)); exact BK139.out)) : gb139 ≠ gb140)); have n9_ := Aside0.mk ((by rw [hg]; exact Nat.ne_of_gt (blk_lt (g := gb139) (o := .cells #[.string (⟨#[]⟩ : ByteArray), .int .i64 x140001_3, .int .i64 (Go.bits .and .i64 a0_1 15), .int .i64 (Go.bits .and .i64 a0_2 3), .bool a0_3, .int .u64 0, .int .u64 0] 28 (0, 0)) (by (with_reducible repeat (first | refine blk_drewN ?_ _ | refine blk_drew ?_ | refine blk_alloc ?_ _)); exact BK139.out)) : gb140 ≠ gb139)); clear BK137; clear BK139; clear HB; have BK137 := n0_; have BK139 := n1_; have HB := n2_; have BK140 := n3_; have GW140 := n4_; have GE140 := n5_; have NB137_140 := n6_; have NB140_137 := n7_; have NB139_140 := n8_; have NB140_139 := n9_; clear n0_ n1_ n2_ n3_ n4_ n5_ n6_ n7_ n8_ n9_; clear hb hbox hg; have hnb18 := NB140_137.out; have hnc18 := NB137_140.out; have hnb19 := NB140_139.out; have hnc19 := NB139_140.out; have hcz20_0 : w17.cell? ⟨gb140, 0, none⟩ = some (.string (⟨#[]⟩ : ByteArray)) := (blk_cell BK140.out 0).trans rfl; have hcz20_1 : w17.cell? ⟨gb140, 1, none⟩ = some (.int .i64 0) := (blk_cell BK140.out 1).trans rfl; have hcz20_2 : w17.cell? ⟨gb140, 2, none⟩ = some (.int .i64 0) := (blk_cell BK140.out 2).trans rfl; have hcz20_3 : w17.cell? ⟨gb140, 3, none⟩ = some (.int .i64 0) := (blk_cell BK140.out 3).trans rfl; have hcz20_4 : w17.cell? ⟨gb140, 4, none⟩ = some (.bool false) := (blk_cell BK140.out 4).trans rfl; have hcz20_5 : w17.cell? ⟨gb140, 5, none⟩ = some (.int .u64 0) := (blk_cell BK140.out 5).trans rfl; have hcz20_6 : w17.cell? ⟨gb140, 6, none⟩ = some (.int .u64 0) := (blk_cell BK140.out 6).trans rfl; have hfz20_0 := blk_frozen BK140.out 0; have hfz20_1 := blk_frozen BK140.out 1; have hfz20_2 := blk_frozen BK140.out 2; have hfz20_3 := blk_frozen BK140.out 3; have hfz20_4 := blk_frozen BK140.out 4; have hfz20_5 := blk_frozen BK140.out 5; have hfz20_6 := blk_frozen BK140.out 6; have hcz21_0 : w17.cell? ⟨gb139, 0, none⟩ = some (.string (⟨#[]⟩ : ByteArray)) := (blk_cell BK139.out 0).trans rfl; have hcz21_1 : w17.cell? ⟨gb139, 1, none⟩ = some (.int .i64 x140001_3) := (blk_cell BK139.out 1).trans rfl; have hcz21_2 : w17.cell? ⟨gb139, 2, none⟩ = some (.int .i64 (Go.bits .and .i64 a0_1 15)) := (blk_cell BK139.out 2).trans rfl; have hcz21_3 : w17.cell? ⟨gb139, 3, none⟩ = some (.int .i64 (Go.bits .and .i64 a0_2 3)) := (blk_cell BK139.out 3).trans rfl; have hcz21_4 : w17.cell? ⟨gb139, 4, none⟩ = some (.bool a0_3) := (blk_cell BK139.out 4).trans rfl; have hcz21_5 : w17.cell? ⟨gb139, 5, none⟩ = some (.int .u64 0) := (blk_cell BK139.out 5).trans rfl; have hcz21_6 : w17.cell? ⟨gb139, 6, none⟩ = some (.int .u64 0) := (blk_cell BK139.out 6).trans rfl; have hfz21_0 := blk_frozen BK139.out 0; have hfz21_1 := blk_frozen BK139.out 1; have hfz21_2 := blk_frozen BK139.out 2; have hfz21_3 := blk_frozen BK139.out 3; have hfz21_4 := blk_frozen BK139.out 4; have hfz21_5 := blk_frozen BK139.out 5; have hfz21_6 := blk_frozen BK139.out 6) | ((with_reducible refine gate_dst (N := 5) rfl ?_); refine box_event ?hg (N := 5) ?hd (cs := #[.string (⟨#[]⟩ : ByteArray), .int .i64 0, .int .i64 0, .int .i64 0, .bool false, .int .u64 0, .int .u64 0]) (t := 28) ?hr ?_; (case hd => rfl); (case hg => rfl); (case hr => first | (go_simp; done) | (go_simp; rfl)); intro gb141 hg w22 hbox hb; have n0_ := Aside0.mk (blk_below (g := gb137) (o := .cells #[.int .i64 a0_0, .int .i64 a0_1, .int .i64 a0_2, .bool a0_3, .int .u64 a0_4, .int .u64 a0_5] 24 (0, 0)) (by (with_reducible repeat (first | refine blk_drewN ?_ _ | refine blk_drew ?_ | refine blk_alloc ?_ _)); refine blk_far ?_ NB137_140.out _; (with_reducible repeat (first | refine blk_drewN ?_ _ | refine blk_drew ?_ | refine blk_alloc ?_ _)); refine blk_far ?_ NB137_140.out _; (with_reducible repeat (first | refine blk_drewN ?_ _ | refine blk_drew ?_ | refine blk_alloc ?_ _)); refine blk_far ?_ NB137_140.out _; (with_reducible repeat (first | refine blk_drewN ?_ _ | refine blk_drew ?_ | refine blk_alloc ?_ _)); refine blk_far ?_ NB137_140.out _; (with_reducible repeat (first | refine blk_drewN ?_ _ | refine blk_drew ?_ | refine blk_alloc ?_ _)); refine blk_far ?_ NB137_140.out _; (with_reducible repeat (first | refine blk_drewN ?_ _ | refine blk_drew ?_ | refine blk_alloc ?_ _)); refine blk_far ?_ NB137_140.out _; (with_reducible repeat (first | refine blk_drewN ?_ _ | refine blk_drew ?_ | refine blk_alloc ?_ _)); refine blk_far ?_ NB137_140.out _; (with_reducible repeat (first | refine blk_drewN ?_ _ | refine blk_drew ?_ | refine blk_alloc ?_ _)); refine blk_far ?_ NB137_140.out _; (with_reducible repeat (first | refine blk_drewN ?_ _ | refine blk_drew ?_ | refine blk_alloc ?_ _)); exact BK137.out) hb); have n1_ := Aside0.mk (blk_below (g := gb139) (o := .cells #[.string (⟨#[]⟩ : ByteArray), .int .i64 x140001_3, .int .i64 (Go.bits .and .i64 a0_1 15), .int .i64 (Go.bits .and .i64 a0_2 3), .bool a0_3, .int .u64 0, .int .u64 0] 28 (0, 0)) (by (with_reducible repeat (first | refine blk_drewN ?_ _ | refine blk_drew ?_ | refine blk_alloc ?_ _)); refine blk_far ?_ NB139_140.out _; (with_reducible repeat (first | refine blk_drewN ?_ _ | refine blk_drew ?_ | refine blk_alloc ?_ _)); refine blk_far ?_ NB139_140.out _; (with_reducible repeat (first | refine blk_drewN ?_ _ | refine blk_drew ?_ | refine blk_alloc ?_ _)); refine blk_far ?_ NB139_140.out _; (with_reducible repeat (first | refine blk_drewN ?_ _ | refine blk_drew ?_ | refine blk_alloc ?_ _)); refine blk_far ?_ NB139_140.out _; (with_reducible repeat (first | refine blk_drewN ?_ _ | refine blk_drew ?_ | refine blk_alloc ?_ _)); refine blk_far ?_ NB139_140.out _; (with_reducible repeat (first | refine blk_drewN ?_ _ | refine blk_drew ?_ | refine blk_alloc ?_ _)); refine blk_far ?_ NB139_140.out _; (with_reducible repeat (first | refine blk_drewN ?_ _ | refine blk_drew ?_ | refine blk_alloc ?_ _)); refine blk_far ?_ NB139_140.out _; (with_reducible repeat (first | refine blk_drewN ?_ _ | refine blk_drew ?_ | refine blk_alloc ?_ _)); refine blk_far ?_ NB139_140.out _; (with_reducible repeat (first | refine blk_drewN ?_ _ | refine blk_drew ?_ | refine blk_alloc ?_ _)); exact BK139.out) hb); have n2_ := Aside0.mk (blk_below (g := gb140) (o := .cells #[.string (⟨#[]⟩ : ByteArray), .int .i64 (wrap64 (3 - x140001_3)), .int .i64 (Go.bits .and .i64 a0_1 15), .int .i64 (Go.bits .and .i64 a0_2 3), .bool a0_3, .int .u64 0, .int .u64 0] 28 (0, 0)) (by (with_reducible repeat (first | refine blk_drewN ?_ _ | refine blk_drew ?_ | refine blk_alloc ?_ _)); refine blk_put (cs := #[.string (⟨#[]⟩ : ByteArray), .int .i64 x140001_3, .int .i64 (Go.bits .and .i64 a0_1 15), .int .i64 (Go.bits .and .i64 a0_2 3), .bool a0_3, .int .u64 0, .int .u64 0]) ?_ 1 _ rfl; (with_reducible repeat (first | refine blk_drewN ?_ _ | refine blk_drew ?_ | refine blk_alloc ?_ _)); refine blk_put (cs := #[.string (⟨#[]⟩ : ByteArray), .int .i64 x140001_3, .int .i64 (Go.bits .and .i64 a0_1 15), .int .i64 (Go.bits .and .i64 a0_2 3), .bool a0_3, .int .u64 0, .int .u64 0]) ?_ 6 _ rfl; (with_reducible repeat (first | refine blk_drewN ?_ _ | refine blk_drew ?_ | refine blk_alloc ?_ _)); refine blk_put (cs := #[.string (⟨#[]⟩ : ByteArray), .int .i64 x140001_3, .int .i64 (Go.bits .and .i64 a0_1 15), .int .i64 (Go.bits .and .i64 a0_2 3), .bool a0_3, .int .u64 0, .int .u64 0]) ?_ 5 _ rfl; (with_reducible repeat (first | refine blk_drewN ?_ _ | refine blk_drew ?_ | refine blk_alloc ?_ _)); refine blk_put (cs := #[.string (⟨#[]⟩ : ByteArray), .int .i64 x140001_3, .int .i64 (Go.bits .and .i64 a0_1 15), .int .i64 (Go.bits .and .i64 a0_2 3), .bool false, .int .u64 0, .int .u64 0]) ?_ 4 _ rfl; (with_reducible repeat (first | refine blk_drewN ?_ _ | refine blk_drew ?_ | refine blk_alloc ?_ _)); refine blk_put (cs := #[.string (⟨#[]⟩ : ByteArray), .int .i64 x140001_3, .int .i64 (Go.bits .and .i64 a0_1 15), .int .i64 0, .bool false, .int .u64 0, .int .u64 0]) ?_ 3 _ rfl; (with_reducible repeat (first | refine blk_drewN ?_ _ | refine blk_drew ?_ | refine blk_alloc ?_ _)); refine blk_put (cs := #[.string (⟨#[]⟩ : ByteArray), .int .i64 x140001_3, .int .i64 0, .int .i64 0, .bool false, .int .u64 0, .int .u64 0]) ?_ 2 _ rfl; (with_reducible repeat (first | refine blk_drewN ?_ _ | refine blk_drew ?_ | refine blk_alloc ?_ _)); refine blk_put (cs := #[.string (⟨#[]⟩ : ByteArray), .int .i64 0, .int .i64 0, .int .i64 0, .bool false, .int .u64 0, .int .u64 0]) ?_ 1 _ rfl; (with_reducible repeat (first | refine blk_drewN ?_ _ | refine blk_drew ?_ | refine blk_alloc ?_ _)); refine blk_put (cs := #[.string (⟨#[]⟩ : ByteArray), .int .i64 0, .int .i64 0, .int .i64 0, .bool false, .int .u64 0, .int .u64 0]) ?_ 0 _ rfl; (with_reducible repeat (first | refine blk_drewN ?_ _ | refine blk_drew ?_ | refine blk_alloc ?_ _)); exact BK140.out) hb); have n3_ := Aside0.mk (below_step (by repeat (first | (with_reducible first | exact HB.out | apply below_alloc | apply pw_below_drewN | apply below_drew1 | refine below_set ?_ GE137.out | refine below_set ?_ GE139.out | refine below_set ?_ GE140.out) | exact HB.out)) hb); have n4_ := Aside0.mk (hbox); have n5_ := Aside0.mk ((by rw [hg]; exact (below_size (by repeat (first | (with_reducible first | exact HB.out | apply below_alloc | apply pw_below_drewN | apply below_drew1 | refine below_set ?_ GE137.out | refine below_set ?_ GE139.out | refine below_set ?_ GE140.out) | exact HB.out))) : w.heap.size ≤ gb141)); have n6_ := Aside0.mk ((by rw [hg]; exact (below_size (by repeat (first | (with_reducible first | exact HB.out | apply below_alloc | apply pw_below_drewN | apply below_drew1 | refine below_set ?_ GE137.out | refine below_set ?_ GE139.out | refine below_set ?_ GE140.out) | exact HB.out))) : w.heap.size ≤ gb141)); have n7_ := Aside0.mk ((by rw [hg]; exact Nat.ne_of_lt (blk_lt (g := gb137) (o := .cells #[.int .i64 a0_0, .int .i64 a0_1, .int .i64 a0_2, .bool a0_3, .int .u64 a0_4, .int .u64 a0_5] 24 (0, 0)) (by (with_reducible repeat (first | refine blk_drewN ?_ _ | refine blk_drew ?_ | refine blk_alloc ?_ _)); refine blk_far ?_ NB137_140.out _; (with_reducible repeat (first | refine blk_drewN ?_ _ | refine blk_drew ?_ | refine blk_alloc ?_ _)); refine blk_far ?_ NB137_140.out _; (with_reducible repeat (first | refine blk_drewN ?_ _ | refine blk_drew ?_ | refine blk_alloc ?_ _)); refine blk_far ?_ NB137_140.out _; (with_reducible repeat (first | refine blk_drewN ?_ _ | refine blk_drew ?_ | refine blk_alloc ?_ _)); refine blk_far ?_ NB137_140.out _; (with_reducible repeat (first | refine blk_drewN ?_ _ | refine blk_drew ?_ | refine blk_alloc ?_ _)); refine blk_far ?_ NB137_140.out _; (with_reducible repeat (first | refine blk_drewN ?_ _ | refine blk_drew ?_ | refine blk_alloc ?_ _)); refine blk_far ?_ NB137_140.out _; (with_reducible repeat (first | refine blk_drewN ?_ _ | refine blk_drew ?_ | refine blk_alloc ?_ _)); refine blk_far ?_ NB137_140.out _; (with_reducible repeat (first | refine blk_drewN ?_ _ | refine blk_drew ?_ | refine blk_alloc ?_ _)); refine blk_far ?_ NB137_140.out _; (with_reducible repeat (first | refine blk_drewN ?_ _ | refine blk_drew ?_ | refine blk_alloc ?_ _)); exact BK137.out)) : gb137 ≠ gb141)); have n8_ := Aside0.mk ((by rw [hg]; exact Nat.ne_of_gt (blk_lt (g := gb137) (o := .cells #[.int .i64 a0_0, .int .i64 a0_1, .int .i64 a0_2, .bool a0_3, .int .u64 a0_4, .int .u64 a0_5] 24 (0, 0)) (by (with_reducible repeat (first | refine blk_drewN ?_ _ | refine blk_drew ?_ | refine blk_alloc ?_ _)); refine blk_far ?_ NB137_140.out _; (with_reducible repeat (first | refine blk_drewN ?_ _ | refine blk_drew ?_ | refine blk_alloc ?_ _)); refine blk_far ?_ NB137_140.out _; (with_reducible repeat (first | refine blk_drewN ?_ _ | refine blk_drew ?_ | refine blk_alloc ?_ _)); refine blk_far ?_ NB137_140.out _; (with_reducible repeat (first | refine blk_drewN ?_ _ | refine blk_drew ?_ | refine blk_alloc ?_ _)); refine blk_far ?_ NB137_140.out _; (with_reducible repeat (first | refine blk_drewN ?_ _ | refine blk_drew ?_ | refine blk_alloc ?_ _)); refine blk_far ?_ NB137_140.out _; (with_reducible repeat (first | refine blk_drewN ?_ _ | refine blk_drew ?_ | refine blk_alloc ?_ _)); refine blk_far ?_ NB137_140.out _; (with_reducible repeat (first | refine blk_drewN ?_ _ | refine blk_drew ?_ | refine blk_alloc ?_ _)); refine blk_far ?_ NB137_140.out _; (with_reducible repeat (first | refine blk_drewN ?_ _ | refine blk_drew ?_ | refine blk_alloc ?_ _)); refine blk_far ?_ NB137_140.out _; (with_reducible repeat (first | refine blk_drewN ?_ _ | refine blk_drew ?_ | refine blk_alloc ?_ _)); exact BK137.out)) : gb141 ≠ gb137)); have n9_ := Aside0.mk ((by rw [hg]; exact Nat.ne_of_lt (blk_lt (g := gb139) (o := .cells #[.string (⟨#[]⟩ : ByteArray), .int .i64 x140001_3, .int .i64 (Go.bits .and .i64 a0_1 15), .int .i64 (Go.bits .and .i64 a0_2 3), .bool a0_3, .int .u64 0, .int .u64 0] 28 (0, 0)) (by (with_reducible repeat (first | refine blk_drewN ?_ _ | refine blk_drew ?_ | refine blk_alloc ?_ _)); refine blk_far ?_ NB139_140.out _; (with_reducible repeat (first | refine blk_drewN ?_ _ | refine blk_drew ?_ | refine blk_alloc ?_ _)); refine blk_far ?_ NB139_140.out _; (with_reducible repeat (first | refine blk_drewN ?_ _ | refine blk_drew ?_ | refine blk_alloc ?_ _)); refine blk_far ?_ NB139_140.out _; (with_reducible repeat (first | refine blk_drewN ?_ _ | refine blk_drew ?_ | refine blk_alloc ?_ _)); refine blk_far ?_ NB139_140.out _; (with_reducible repeat (first | refine blk_drewN ?_ _ | refine blk_drew ?_ | refine blk_alloc ?_ _)); refine blk_far ?_ NB139_140.out _; (with_reducible repeat (first | refine blk_drewN ?_ _ | refine blk_drew ?_ | refine blk_alloc ?_ _)); refine blk_far ?_ NB139_140.out _; (with_reducible repeat (first | refine blk_drewN ?_ _ | refine blk_drew ?_ | refine blk_alloc ?_ _)); refine blk_far ?_ NB139_140.out _; (with_reducible repeat (first | refine blk_drewN ?_ _ | refine blk_drew ?_ | refine blk_alloc ?_ _)); refine blk_far ?_ NB139_140.out _; (with_reducible repeat (first | refine blk_drewN ?_ _ | refine blk_drew ?_ | refine blk_alloc ?_ _)); exact BK139.out)) : gb139 ≠ gb141)); have n10_ := Aside0.mk ((by rw [hg]; exact Nat.ne_of_gt (blk_lt (g := gb139) (o := .cells #[.string (⟨#[]⟩ : ByteArray), .int .i64 x140001_3, .int .i64 (Go.bits .and .i64 a0_1 15), .int .i64 (Go.bits .and .i64 a0_2 3), .bool a0_3, .int .u64 0, .int .u64 0] 28 (0, 0)) (by (with_reducible repeat (first | refine blk_drewN ?_ _ | refine blk_drew ?_ | refine blk_alloc ?_ _)); refine blk_far ?_ NB139_140.out _; (with_reducible repeat (first | refine blk_drewN ?_ _ | refine blk_drew ?_ | refine blk_alloc ?_ _)); refine blk_far ?_ NB139_140.out _; (with_reducible repeat (first | refine blk_drewN ?_ _ | refine blk_drew ?_ | refine blk_alloc ?_ _)); refine blk_far ?_ NB139_140.out _; (with_reducible repeat (first | refine blk_drewN ?_ _ | refine blk_drew ?_ | refine blk_alloc ?_ _)); refine blk_far ?_ NB139_140.out _; (with_reducible repeat (first | refine blk_drewN ?_ _ | refine blk_drew ?_ | refine blk_alloc ?_ _)); refine blk_far ?_ NB139_140.out _; (with_reducible repeat (first | refine blk_drewN ?_ _ | refine blk_drew ?_ | refine blk_alloc ?_ _)); refine blk_far ?_ NB139_140.out _; (with_reducible repeat (first | refine blk_drewN ?_ _ | refine blk_drew ?_ | refine blk_alloc ?_ _)); refine blk_far ?_ NB139_140.out _; (with_reducible repeat (first | refine blk_drewN ?_ _ | refine blk_drew ?_ | refine blk_alloc ?_ _)); refine blk_far ?_ NB139_140.out _; (with_reducible repeat (first | refine blk_drewN ?_ _ | refine blk_drew ?_ | refine blk_alloc ?_ _)); exact BK139.out)) : gb141 ≠ gb139)); have n11_ := Aside0.mk ((by rw [hg]; exact Nat.ne_of_lt (blk_lt (g := gb140) (o := .cells #[.string (⟨#[]⟩ : ByteArray), .int .i64 (wrap64 (3 - x140001_3)), .int .i64 (Go.bits .and .i64 a0_1 15), .int .i64 (Go.bits .and .i64 a0_2 3), .bool a0_3, .int .u64 0, .int .u64 0] 28 (0, 0)) (by (with_reducible repeat (first | refine blk_drewN ?_ _ | refine blk_drew ?_ | refine blk_alloc ?_ _)); refine blk_put (cs := #[.string (⟨#[]⟩ : ByteArray), .int .i64 x140001_3, .int .i64 (Go.bits .and .i64 a0_1 15), .int .i64 (Go.bits .and .i64 a0_2 3), .bool a0_3, .int .u64 0, .int .u64 0]) ?_ 1 _ rfl; (with_reducible repeat (first | refine blk_drewN ?_ _ | refine blk_drew ?_ | refine blk_alloc ?_ _)); refine blk_put (cs := #[.string (⟨#[]⟩ : ByteArray), .int .i64 x140001_3, .int .i64 (Go.bits .and .i64 a0_1 15), .int .i64 (Go.bits .and .i64 a0_2 3), .bool a0_3, .int .u64 0, .int .u64 0]) ?_ 6 _ rfl; (with_reducible repeat (first | refine blk_drewN ?_ _ | refine blk_drew ?_ | refine blk_alloc ?_ _)); refine blk_put (cs := #[.string (⟨#[]⟩ : ByteArray), .int .i64 x140001_3, .int .i64 (Go.bits .and .i64 a0_1 15), .int .i64 (Go.bits .and .i64 a0_2 3), .bool a0_3, .int .u64 0, .int .u64 0]) ?_ 5 _ rfl; (with_reducible repeat (first | refine blk_drewN ?_ _ | refine blk_drew ?_ | refine blk_alloc ?_ _)); refine blk_put (cs := #[.string (⟨#[]⟩ : ByteArray), .int .i64 x140001_3, .int .i64 (Go.bits .and .i64 a0_1 15), .int .i64 (Go.bits .and .i64 a0_2 3), .bool false, .int .u64 0, .int .u64 0]) ?_ 4 _ rfl; (with_reducible repeat (first | refine blk_drewN ?_ _ | refine blk_drew ?_ | refine blk_alloc ?_ _)); refine blk_put (cs := #[.string (⟨#[]⟩ : ByteArray), .int .i64 x140001_3, .int .i64 (Go.bits .and .i64 a0_1 15), .int .i64 0, .bool false, .int .u64 0, .int .u64 0]) ?_ 3 _ rfl; (with_reducible repeat (first | refine blk_drewN ?_ _ | refine blk_drew ?_ | refine blk_alloc ?_ _)); refine blk_put (cs := #[.string (⟨#[]⟩ : ByteArray), .int .i64 x140001_3, .int .i64 0, .int .i64 0, .bool false, .int .u64 0, .int .u64 0]) ?_ 2 _ rfl; (with_reducible repeat (first | refine blk_drewN ?_ _ | refine blk_drew ?_ | refine blk_alloc ?_ _)); refine blk_put (cs := #[.string (⟨#[]⟩ : ByteArray), .int .i64 0, .int .i64 0, .int .i64 0, .bool false, .int .u64 0, .int .u64 0]) ?_ 1 _ rfl; (with_reducible repeat (first | refine blk_drewN ?_ _ | refine blk_drew ?_ | refine blk_alloc ?_ _)); refine blk_put (cs := #[.string (⟨#[]⟩ : ByteArray), .int .i64 0, .int .i64 0, .int .i64 0, .bool false, .int .u64 0, .int .u64 0]) ?_ 0 _ rfl; (with_reducible repeat (first | refine blk_drewN ?_ _ | refine blk_drew ?_ | refine blk_alloc ?_ _)); exact BK140.out)) : gb140 ≠ gb141)); have n12_ := Aside0.mk ((by rw [hg]; exact Nat.ne_of_gt (blk_lt (g := gb140) (o := .cells #[.string (⟨#[]⟩ : ByteArray), .int .i64 (wrap64 (3 - x140001_3)), .int .i64 (Go.bits .and .i64 a0_1 15), .int .i64 (Go.bits .and .i64 a0_2 3), .bool a0_3, .int .u64 0, .int .u64 0] 28 (0, 0)) (by (with_reducible repeat (first | refine blk_drewN ?_ _ | refine blk_drew ?_ | refine blk_alloc ?_ _)); refine blk_put (cs := #[.string (⟨#[]⟩ : ByteArray), .int .i64 x140001_3, .int .i64 (Go.bits .and .i64 a0_1 15), .int .i64 (Go.bits .and .i64 a0_2 3), .bool a0_3, .int .u64 0, .int .u64 0]) ?_ 1 _ rfl; (with_reducible repeat (first | refine blk_drewN ?_ _ | refine blk_drew ?_ | refine blk_alloc ?_ _)); refine blk_put (cs := #[.string (⟨#[]⟩ : ByteArray), .int .i64 x140001_3, .int .i64 (Go.bits .and .i64 a0_1 15), .int .i64 (Go.bits .and .i64 a0_2 3), .bool a0_3, .int .u64 0, .int .u64 0]) ?_ 6 _ rfl; (with_reducible repeat (first | refine blk_drewN ?_ _ | refine blk_drew ?_ | refine blk_alloc ?_ _)); refine blk_put (cs := #[.string (⟨#[]⟩ : ByteArray), .int .i64 x140001_3, .int .i64 (Go.bits .and .i64 a0_1 15), .int .i64 (Go.bits .and .i64 a0_2 3), .bool a0_3, .int .u64 0, .int .u64 0]) ?_ 5 _ rfl; (with_reducible repeat (first | refine blk_drewN ?_ _ | refine blk_drew ?_ | refine blk_alloc ?_ _)); refine blk_put (cs := #[.string (⟨#[]⟩ : ByteArray), .int .i64 x140001_3, .int .i64 (Go.bits .and .i64 a0_1 15), .int .i64 (Go.bits .and .i64 a0_2 3), .bool false, .int .u64 0, .int .u64 0]) ?_ 4 _ rfl; (with_reducible repeat (first | refine blk_drewN ?_ _ | refine blk_drew ?_ | refine blk_alloc ?_ _)); refine blk_put (cs := #[.string (⟨#[]⟩ : ByteArray), .int .i64 x140001_3, .int .i64 (Go.bits .and .i64 a0_1 15), .int .i64 0, .bool false, .int .u64 0, .int .u64 0]) ?_ 3 _ rfl; (with_reducible repeat (first | refine blk_drewN ?_ _ | refine blk_drew ?_ | refine blk_alloc ?_ _)); refine blk_put (cs := #[.string (⟨#[]⟩ : ByteArray), .int .i64 x140001_3, .int .i64 0, .int .i64 0, .bool false, .int .u64 0, .int .u64 0]) ?_ 2 _ rfl; (with_reducible repeat (first | refine blk_drewN ?_ _ | refine blk_drew ?_ | refine blk_alloc ?_ _)); refine blk_put (cs := #[.string (⟨#[]⟩ : ByteArray), .int .i64 0, .int .i64 0, .int .i64 0, .bool false, .int .u64 0, .int .u64 0]) ?_ 1 _ rfl; (with_reducible repeat (first | refine blk_drewN ?_ _ | refine blk_drew ?_ | refine blk_alloc ?_ _)); refine blk_put (cs := #[.string (⟨#[]⟩ : ByteArray), .int .i64 0, .int .i64 0, .int .i64 0, .bool false, .int .u64 0, .int .u64 0]) ?_ 0 _ rfl; (with_reducible repeat (first | refine blk_drewN ?_ _ | refine blk_drew ?_ | refine blk_alloc ?_ _)); exact BK140.out)) : gb141 ≠ gb140)); clear BK137; clear BK139; clear BK140; clear HB; have BK137 := n0_; have BK139 := n1_; have BK140 := n2_; have HB := n3_; have BK141 := n4_; have GW141 := n5_; have GE141 := n6_; have NB137_141 := n7_; have NB141_137 := n8_; have NB139_141 := n9_; have NB141_139 := n10_; have NB140_141 := n11_; have NB141_140 := n12_; clear n0_ n1_ n2_ n3_ n4_ n5_ n6_ n7_ n8_ n9_ n10_ n11_ n12_; clear hb hbox hg; have hnb23 := NB141_137.out; have hnc23 := NB137_141.out; have hnb24 := NB141_139.out; have hnc24 := NB139_141.out; have hnb25 := NB141_140.out; have hnc25 := NB140_141.out; have hcz26_0 : w22.cell? ⟨gb141, 0, none⟩ = some (.string (⟨#[]⟩ : ByteArray)) := (blk_cell BK141.out 0).trans rfl; have hcz26_1 : w22.cell? ⟨gb141, 1, none⟩ = some (.int .i64 0) := (blk_cell BK141.out 1).trans rfl; have hcz26_2 : w22.cell? ⟨gb141, 2, none⟩ = some (.int .i64 0) := (blk_cell BK141.out 2).trans rfl; have hcz26_3 : w22.cell? ⟨gb141, 3, none⟩ = some (.int .i64 0) := (blk_cell BK141.out 3).trans rfl; have hcz26_4 : w22.cell? ⟨gb141, 4, none⟩ = some (.bool false) := (blk_cell BK141.out 4).trans rfl; have hcz26_5 : w22.cell? ⟨gb141, 5, none⟩ = some (.int .u64 0) := (blk_cell BK141.out 5).trans rfl; have hcz26_6 : w22.cell? ⟨gb141, 6, none⟩ = some (.int .u64 0) := (blk_cell BK141.out 6).trans rfl; have hfz26_0 := blk_frozen BK141.out 0; have hfz26_1 := blk_frozen BK141.out 1; have hfz26_2 := blk_frozen BK141.out 2; have hfz26_3 := blk_frozen BK141.out 3; have hfz26_4 := blk_frozen BK141.out 4; have hfz26_5 := blk_frozen BK141.out 5; have hfz26_6 := blk_frozen BK141.out 6))
    (try simp only [Act.put, List.setIfInBounds_toArray, List.set_cons_zero, List.set_cons_succ])
    go_cut [55] (fun v55 wc => ∃ (kq : Nat) (x55_13 : Bool), v55 = .bool x55_13 ∧ Aside0 (turnbucklelaw11_SymBinds.j1 kq x55_13 (⟨#[]⟩ : ByteArray) x140001_3 (Go.bits .and .i64 a0_1 15) (Go.bits .and .i64 a0_2 3) a0_3 0 0 = some r) ∧ Aside0 (kq ≤ kj3) ∧ Aside0 (wc.heap[gb137]? = some (.cells #[.int .i64 a0_0, .int .i64 a0_1, .int .i64 a0_2, .bool a0_3, .int .u64 a0_4, .int .u64 a0_5] 24 (0, 0))) ∧ Aside0 (wc.heap[gb139]? = some (.cells #[.string (⟨#[]⟩ : ByteArray), .int .i64 x140001_3, .int .i64 (Go.bits .and .i64 a0_1 15), .int .i64 (Go.bits .and .i64 a0_2 3), .bool a0_3, .int .u64 0, .int .u64 0] 28 (0, 0))) ∧ Aside0 (wc.heap[gb140]? = some (.cells #[.string (⟨#[]⟩ : ByteArray), .int .i64 (wrap64 (3 - x140001_3)), .int .i64 (Go.bits .and .i64 a0_1 15), .int .i64 (Go.bits .and .i64 a0_2 3), .bool a0_3, .int .u64 0, .int .u64 0] 28 (0, 0))) ∧ Aside0 (wc.heap[gb141]? = some (.cells #[.string (⟨#[]⟩ : ByteArray), .int .i64 0, .int .i64 (Go.bits .and .i64 a0_1 15), .int .i64 (Go.bits .and .i64 a0_2 3), .bool a0_3, .int .u64 0, .int .u64 0] 28 (0, 0))) ∧ Aside0 (Below w.heap.size w wc))
    case first =>
     have H := HC14.out
     clear HC14
     replace H := Option.bind_eq_some_iff.mp H
     obtain ⟨t142, A270, H⟩ := H
     replace H : ((sym_Symbol_Exported.f (⟨#[]⟩ : ByteArray) (wrap64 (3 - x140001_3)) (Go.bits .and .i64 a0_1 15) (Go.bits .and .i64 a0_2 3) a0_3 0 0).bind fun t143 => (if (t142 != t143) = true then (turnbucklelaw11_SymBinds.j1 kj3 true (⟨#[]⟩ : ByteArray) x140001_3 (Go.bits .and .i64 a0_1 15) (Go.bits .and .i64 a0_2 3) a0_3 0 0) else ((sym_Symbol_Own.f (⟨#[]⟩ : ByteArray) x140001_3 (Go.bits .and .i64 a0_1 15) (Go.bits .and .i64 a0_2 3) a0_3 0 0).bind fun t144 => ((sym_Symbol_Own.f (⟨#[]⟩ : ByteArray) (wrap64 (3 - x140001_3)) (Go.bits .and .i64 a0_1 15) (Go.bits .and .i64 a0_2 3) a0_3 0 0).bind fun t145 => (if (t144 != t145) = true then (turnbucklelaw11_SymBinds.j1 kj3 true (⟨#[]⟩ : ByteArray) x140001_3 (Go.bits .and .i64 a0_1 15) (Go.bits .and .i64 a0_2 3) a0_3 0 0) else ((sym_Symbol_Exported.f (⟨#[]⟩ : ByteArray) 0 (Go.bits .and .i64 a0_1 15) (Go.bits .and .i64 a0_2 3) a0_3 0 0).bind fun t146 => (if t146 = true then (turnbucklelaw11_SymBinds.j1 kj3 true (⟨#[]⟩ : ByteArray) x140001_3 (Go.bits .and .i64 a0_1 15) (Go.bits .and .i64 a0_2 3) a0_3 0 0) else ((sym_Symbol_Own.f (⟨#[]⟩ : ByteArray) 0 (Go.bits .and .i64 a0_1 15) (Go.bits .and .i64 a0_2 3) a0_3 0 0).bind fun t147 => (turnbucklelaw11_SymBinds.j1 kj3 (t147 != a0_3) (⟨#[]⟩ : ByteArray) x140001_3 (Go.bits .and .i64 a0_1 15) (Go.bits .and .i64 a0_2 3) a0_3 0 0))))))))) = some r := H
     have A27 := Aside0.mk A270
     clear A270
     replace H := Option.bind_eq_some_iff.mp H
     obtain ⟨t143, A280, H⟩ := H
     replace H : (if (t142 != t143) = true then (turnbucklelaw11_SymBinds.j1 kj3 true (⟨#[]⟩ : ByteArray) x140001_3 (Go.bits .and .i64 a0_1 15) (Go.bits .and .i64 a0_2 3) a0_3 0 0) else ((sym_Symbol_Own.f (⟨#[]⟩ : ByteArray) x140001_3 (Go.bits .and .i64 a0_1 15) (Go.bits .and .i64 a0_2 3) a0_3 0 0).bind fun t144 => ((sym_Symbol_Own.f (⟨#[]⟩ : ByteArray) (wrap64 (3 - x140001_3)) (Go.bits .and .i64 a0_1 15) (Go.bits .and .i64 a0_2 3) a0_3 0 0).bind fun t145 => (if (t144 != t145) = true then (turnbucklelaw11_SymBinds.j1 kj3 true (⟨#[]⟩ : ByteArray) x140001_3 (Go.bits .and .i64 a0_1 15) (Go.bits .and .i64 a0_2 3) a0_3 0 0) else ((sym_Symbol_Exported.f (⟨#[]⟩ : ByteArray) 0 (Go.bits .and .i64 a0_1 15) (Go.bits .and .i64 a0_2 3) a0_3 0 0).bind fun t146 => (if t146 = true then (turnbucklelaw11_SymBinds.j1 kj3 true (⟨#[]⟩ : ByteArray) x140001_3 (Go.bits .and .i64 a0_1 15) (Go.bits .and .i64 a0_2 3) a0_3 0 0) else ((sym_Symbol_Own.f (⟨#[]⟩ : ByteArray) 0 (Go.bits .and .i64 a0_1 15) (Go.bits .and .i64 a0_2 3) a0_3 0 0).bind fun t147 => (turnbucklelaw11_SymBinds.j1 kj3 (t147 != a0_3) (⟨#[]⟩ : ByteArray) x140001_3 (Go.bits .and .i64 a0_1 15) (Go.bits .and .i64 a0_2 3) a0_3 0 0)))))))) = some r := H
     have A28 := Aside0.mk A280
     clear A280
     by_cases c29 : (t142 != t143) = true
     ·rw [if_pos c29] at H
      have c29b0 : (t142 != t143) = true := c29
      (try (have c29b1 : decide (t142 = t143) = false := by simpa using c29))
      (try (have c29b2 : (t142 == t143) = false := by simpa using c29))
      (try (have c29b3 : ¬ (t142 = t143) := by simpa using c29))
      clear c29
      (first | rw [c29b0] | (simp only [i64_w, i32_w]; rw [c29b0]) | skip)
      have H' := Aside0.mk H
      clear H
      try go_wp2
      have n0_ : Aside0 (((((((((w22.setCell ⟨gb141, 0, none⟩ (.string (⟨#[]⟩ : ByteArray))).setCell ⟨gb141, 1, none⟩ (.int .i64 x140001_3)).setCell ⟨gb141, 2, none⟩ (.int .i64 (Go.bits .and .i64 a0_1 15))).setCell ⟨gb141, 3, none⟩ (.int .i64 (Go.bits .and .i64 a0_2 3))).setCell ⟨gb141, 4, none⟩ (.bool a0_3)).setCell ⟨gb141, 5, none⟩ (.int .u64 0)).setCell ⟨gb141, 6, none⟩ (.int .u64 0)).setCell ⟨gb141, 1, none⟩ (.int .i64 0)).heap[gb137]? = some (.cells #[.int .i64 a0_0, .int .i64 a0_1, .int .i64 a0_2, .bool a0_3, .int .u64 a0_4, .int .u64 a0_5] 24 (0, 0))) := ⟨by (with_reducible repeat (first | refine blk_drewN ?_ _ | refine blk_drew ?_ | refine blk_alloc ?_ _)); refine blk_far ?_ NB137_141.out _; (with_reducible repeat (first | refine blk_drewN ?_ _ | refine blk_drew ?_ | refine blk_alloc ?_ _)); refine blk_far ?_ NB137_141.out _; (with_reducible repeat (first | refine blk_drewN ?_ _ | refine blk_drew ?_ | refine blk_alloc ?_ _)); refine blk_far ?_ NB137_141.out _; (with_reducible repeat (first | refine blk_drewN ?_ _ | refine blk_drew ?_ | refine blk_alloc ?_ _)); refine blk_far ?_ NB137_141.out _; (with_reducible repeat (first | refine blk_drewN ?_ _ | refine blk_drew ?_ | refine blk_alloc ?_ _)); refine blk_far ?_ NB137_141.out _; (with_reducible repeat (first | refine blk_drewN ?_ _ | refine blk_drew ?_ | refine blk_alloc ?_ _)); refine blk_far ?_ NB137_141.out _; (with_reducible repeat (first | refine blk_drewN ?_ _ | refine blk_drew ?_ | refine blk_alloc ?_ _)); refine blk_far ?_ NB137_141.out _; (with_reducible repeat (first | refine blk_drewN ?_ _ | refine blk_drew ?_ | refine blk_alloc ?_ _)); refine blk_far ?_ NB137_141.out _; (with_reducible repeat (first | refine blk_drewN ?_ _ | refine blk_drew ?_ | refine blk_alloc ?_ _)); exact BK137.out⟩
      have n1_ : Aside0 (((((((((w22.setCell ⟨gb141, 0, none⟩ (.string (⟨#[]⟩ : ByteArray))).setCell ⟨gb141, 1, none⟩ (.int .i64 x140001_3)).setCell ⟨gb141, 2, none⟩ (.int .i64 (Go.bits .and .i64 a0_1 15))).setCell ⟨gb141, 3, none⟩ (.int .i64 (Go.bits .and .i64 a0_2 3))).setCell ⟨gb141, 4, none⟩ (.bool a0_3)).setCell ⟨gb141, 5, none⟩ (.int .u64 0)).setCell ⟨gb141, 6, none⟩ (.int .u64 0)).setCell ⟨gb141, 1, none⟩ (.int .i64 0)).heap[gb139]? = some (.cells #[.string (⟨#[]⟩ : ByteArray), .int .i64 x140001_3, .int .i64 (Go.bits .and .i64 a0_1 15), .int .i64 (Go.bits .and .i64 a0_2 3), .bool a0_3, .int .u64 0, .int .u64 0] 28 (0, 0))) := ⟨by (with_reducible repeat (first | refine blk_drewN ?_ _ | refine blk_drew ?_ | refine blk_alloc ?_ _)); refine blk_far ?_ NB139_141.out _; (with_reducible repeat (first | refine blk_drewN ?_ _ | refine blk_drew ?_ | refine blk_alloc ?_ _)); refine blk_far ?_ NB139_141.out _; (with_reducible repeat (first | refine blk_drewN ?_ _ | refine blk_drew ?_ | refine blk_alloc ?_ _)); refine blk_far ?_ NB139_141.out _; (with_reducible repeat (first | refine blk_drewN ?_ _ | refine blk_drew ?_ | refine blk_alloc ?_ _)); refine blk_far ?_ NB139_141.out _; (with_reducible repeat (first | refine blk_drewN ?_ _ | refine blk_drew ?_ | refine blk_alloc ?_ _)); refine blk_far ?_ NB139_141.out _; (with_reducible repeat (first | refine blk_drewN ?_ _ | refine blk_drew ?_ | refine blk_alloc ?_ _)); refine blk_far ?_ NB139_141.out _; (with_reducible repeat (first | refine blk_drewN ?_ _ | refine blk_drew ?_ | refine blk_alloc ?_ _)); refine blk_far ?_ NB139_141.out _; (with_reducible repeat (first | refine blk_drewN ?_ _ | refine blk_drew ?_ | refine blk_alloc ?_ _)); refine blk_far ?_ NB139_141.out _; (with_reducible repeat (first | refine blk_drewN ?_ _ | refine blk_drew ?_ | refine blk_alloc ?_ _)); exact BK139.out⟩
      have n2_ : Aside0 (((((((((w22.setCell ⟨gb141, 0, none⟩ (.string (⟨#[]⟩ : ByteArray))).setCell ⟨gb141, 1, none⟩ (.int .i64 x140001_3)).setCell ⟨gb141, 2, none⟩ (.int .i64 (Go.bits .and .i64 a0_1 15))).setCell ⟨gb141, 3, none⟩ (.int .i64 (Go.bits .and .i64 a0_2 3))).setCell ⟨gb141, 4, none⟩ (.bool a0_3)).setCell ⟨gb141, 5, none⟩ (.int .u64 0)).setCell ⟨gb141, 6, none⟩ (.int .u64 0)).setCell ⟨gb141, 1, none⟩ (.int .i64 0)).heap[gb140]? = some (.cells #[.string (⟨#[]⟩ : ByteArray), .int .i64 (wrap64 (3 - x140001_3)), .int .i64 (Go.bits .and .i64 a0_1 15), .int .i64 (Go.bits .and .i64 a0_2 3), .bool a0_3, .int .u64 0, .int .u64 0] 28 (0, 0))) := ⟨by (with_reducible repeat (first | refine blk_drewN ?_ _ | refine blk_drew ?_ | refine blk_alloc ?_ _)); refine blk_far ?_ NB140_141.out _; (with_reducible repeat (first | refine blk_drewN ?_ _ | refine blk_drew ?_ | refine blk_alloc ?_ _)); refine blk_far ?_ NB140_141.out _; (with_reducible repeat (first | refine blk_drewN ?_ _ | refine blk_drew ?_ | refine blk_alloc ?_ _)); refine blk_far ?_ NB140_141.out _; (with_reducible repeat (first | refine blk_drewN ?_ _ | refine blk_drew ?_ | refine blk_alloc ?_ _)); refine blk_far ?_ NB140_141.out _; (with_reducible repeat (first | refine blk_drewN ?_ _ | refine blk_drew ?_ | refine blk_alloc ?_ _)); refine blk_far ?_ NB140_141.out _; (with_reducible repeat (first | refine blk_drewN ?_ _ | refine blk_drew ?_ | refine blk_alloc ?_ _)); refine blk_far ?_ NB140_141.out _; (with_reducible repeat (first | refine blk_drewN ?_ _ | refine blk_drew ?_ | refine blk_alloc ?_ _)); refine blk_far ?_ NB140_141.out _; (with_reducible repeat (first | refine blk_drewN ?_ _ | refine blk_drew ?_ | refine blk_alloc ?_ _)); refine blk_far ?_ NB140_141.out _; (with_reducible repeat (first | refine blk_drewN ?_ _ | refine blk_drew ?_ | refine blk_alloc ?_ _)); exact BK140.out⟩
      have n3_ : Aside0 (((((((((w22.setCell ⟨gb141, 0, none⟩ (.string (⟨#[]⟩ : ByteArray))).setCell ⟨gb141, 1, none⟩ (.int .i64 x140001_3)).setCell ⟨gb141, 2, none⟩ (.int .i64 (Go.bits .and .i64 a0_1 15))).setCell ⟨gb141, 3, none⟩ (.int .i64 (Go.bits .and .i64 a0_2 3))).setCell ⟨gb141, 4, none⟩ (.bool a0_3)).setCell ⟨gb141, 5, none⟩ (.int .u64 0)).setCell ⟨gb141, 6, none⟩ (.int .u64 0)).setCell ⟨gb141, 1, none⟩ (.int .i64 0)).heap[gb141]? = some (.cells #[.string (⟨#[]⟩ : ByteArray), .int .i64 0, .int .i64 (Go.bits .and .i64 a0_1 15), .int .i64 (Go.bits .and .i64 a0_2 3), .bool a0_3, .int .u64 0, .int .u64 0] 28 (0, 0))) := ⟨by (with_reducible repeat (first | refine blk_drewN ?_ _ | refine blk_drew ?_ | refine blk_alloc ?_ _)); refine blk_put (cs := #[.string (⟨#[]⟩ : ByteArray), .int .i64 x140001_3, .int .i64 (Go.bits .and .i64 a0_1 15), .int .i64 (Go.bits .and .i64 a0_2 3), .bool a0_3, .int .u64 0, .int .u64 0]) ?_ 1 _ rfl; (with_reducible repeat (first | refine blk_drewN ?_ _ | refine blk_drew ?_ | refine blk_alloc ?_ _)); refine blk_put (cs := #[.string (⟨#[]⟩ : ByteArray), .int .i64 x140001_3, .int .i64 (Go.bits .and .i64 a0_1 15), .int .i64 (Go.bits .and .i64 a0_2 3), .bool a0_3, .int .u64 0, .int .u64 0]) ?_ 6 _ rfl; (with_reducible repeat (first | refine blk_drewN ?_ _ | refine blk_drew ?_ | refine blk_alloc ?_ _)); refine blk_put (cs := #[.string (⟨#[]⟩ : ByteArray), .int .i64 x140001_3, .int .i64 (Go.bits .and .i64 a0_1 15), .int .i64 (Go.bits .and .i64 a0_2 3), .bool a0_3, .int .u64 0, .int .u64 0]) ?_ 5 _ rfl; (with_reducible repeat (first | refine blk_drewN ?_ _ | refine blk_drew ?_ | refine blk_alloc ?_ _)); refine blk_put (cs := #[.string (⟨#[]⟩ : ByteArray), .int .i64 x140001_3, .int .i64 (Go.bits .and .i64 a0_1 15), .int .i64 (Go.bits .and .i64 a0_2 3), .bool false, .int .u64 0, .int .u64 0]) ?_ 4 _ rfl; (with_reducible repeat (first | refine blk_drewN ?_ _ | refine blk_drew ?_ | refine blk_alloc ?_ _)); refine blk_put (cs := #[.string (⟨#[]⟩ : ByteArray), .int .i64 x140001_3, .int .i64 (Go.bits .and .i64 a0_1 15), .int .i64 0, .bool false, .int .u64 0, .int .u64 0]) ?_ 3 _ rfl; (with_reducible repeat (first | refine blk_drewN ?_ _ | refine blk_drew ?_ | refine blk_alloc ?_ _)); refine blk_put (cs := #[.string (⟨#[]⟩ : ByteArray), .int .i64 x140001_3, .int .i64 0, .int .i64 0, .bool false, .int .u64 0, .int .u64 0]) ?_ 2 _ rfl; (with_reducible repeat (first | refine blk_drewN ?_ _ | refine blk_drew ?_ | refine blk_alloc ?_ _)); refine blk_put (cs := #[.string (⟨#[]⟩ : ByteArray), .int .i64 0, .int .i64 0, .int .i64 0, .bool false, .int .u64 0, .int .u64 0]) ?_ 1 _ rfl; (with_reducible repeat (first | refine blk_drewN ?_ _ | refine blk_drew ?_ | refine blk_alloc ?_ _)); refine blk_put (cs := #[.string (⟨#[]⟩ : ByteArray), .int .i64 0, .int .i64 0, .int .i64 0, .bool false, .int .u64 0, .int .u64 0]) ?_ 0 _ rfl; (with_reducible repeat (first | refine blk_drewN ?_ _ | refine blk_drew ?_ | refine blk_alloc ?_ _)); exact BK141.out⟩
      have n4_ : Aside0 (Below w.heap.size w ((((((((w22.setCell ⟨gb141, 0, none⟩ (.string (⟨#[]⟩ : ByteArray))).setCell ⟨gb141, 1, none⟩ (.int .i64 x140001_3)).setCell ⟨gb141, 2, none⟩ (.int .i64 (Go.bits .and .i64 a0_1 15))).setCell ⟨gb141, 3, none⟩ (.int .i64 (Go.bits .and .i64 a0_2 3))).setCell ⟨gb141, 4, none⟩ (.bool a0_3)).setCell ⟨gb141, 5, none⟩ (.int .u64 0)).setCell ⟨gb141, 6, none⟩ (.int .u64 0)).setCell ⟨gb141, 1, none⟩ (.int .i64 0))) := ⟨by repeat (first | (with_reducible first | exact HB.out | apply below_alloc | apply pw_below_drewN | apply below_drew1 | refine below_set ?_ GE137.out | refine below_set ?_ GE139.out | refine below_set ?_ GE140.out | refine below_set ?_ GE141.out) | exact HB.out)⟩
      (try clear BK137)
      (try clear BK139)
      (try clear BK140)
      (try clear BK141)
      (try clear HB)
      generalize ((((((((w22.setCell ⟨gb141, 0, none⟩ (.string (⟨#[]⟩ : ByteArray))).setCell ⟨gb141, 1, none⟩ (.int .i64 x140001_3)).setCell ⟨gb141, 2, none⟩ (.int .i64 (Go.bits .and .i64 a0_1 15))).setCell ⟨gb141, 3, none⟩ (.int .i64 (Go.bits .and .i64 a0_2 3))).setCell ⟨gb141, 4, none⟩ (.bool a0_3)).setCell ⟨gb141, 5, none⟩ (.int .u64 0)).setCell ⟨gb141, 6, none⟩ (.int .u64 0)).setCell ⟨gb141, 1, none⟩ (.int .i64 0)) = w30 at n0_ n1_ n2_ n3_ n4_ ⊢
      have BK137 := n0_
      have BK139 := n1_
      have BK140 := n2_
      have BK141 := n3_
      have HB := n4_
      clear n0_ n1_ n2_ n3_ n4_
      have n0_ := Aside0.mk (blk_drew BK137.out)
      have n1_ := Aside0.mk (blk_drew BK139.out)
      have n2_ := Aside0.mk (blk_drew BK140.out)
      have n3_ := Aside0.mk (blk_drew BK141.out)
      have n4_ := Aside0.mk (below_drew1 HB.out)
      clear BK137
      clear BK139
      clear BK140
      clear BK141
      clear HB
      have BK137 := n0_
      have BK139 := n1_
      have BK140 := n2_
      have BK141 := n3_
      have HB := n4_
      clear n0_ n1_ n2_ n3_ n4_
      refine start_ (n := 23) (S := fun w' => w'.cell? ⟨gb139, 0, none⟩ = some (.string (⟨#[]⟩ : ByteArray)) ∧ w'.cell? ⟨gb139, 1, none⟩ = some (.int .i64 x140001_3) ∧ w'.cell? ⟨gb139, 2, none⟩ = some (.int .i64 (Go.bits .and .i64 a0_1 15)) ∧ w'.cell? ⟨gb139, 3, none⟩ = some (.int .i64 (Go.bits .and .i64 a0_2 3)) ∧ w'.cell? ⟨gb139, 4, none⟩ = some (.bool a0_3) ∧ w'.cell? ⟨gb139, 5, none⟩ = some (.int .u64 0) ∧ w'.cell? ⟨gb139, 6, none⟩ = some (.int .u64 0) ∧ w'.cell? ⟨gb140, 0, none⟩ = some (.string (⟨#[]⟩ : ByteArray)) ∧ w'.cell? ⟨gb140, 1, none⟩ = some (.int .i64 (wrap64 (3 - x140001_3))) ∧ w'.cell? ⟨gb140, 2, none⟩ = some (.int .i64 (Go.bits .and .i64 a0_1 15)) ∧ w'.cell? ⟨gb140, 3, none⟩ = some (.int .i64 (Go.bits .and .i64 a0_2 3)) ∧ w'.cell? ⟨gb140, 4, none⟩ = some (.bool a0_3) ∧ w'.cell? ⟨gb140, 5, none⟩ = some (.int .u64 0) ∧ w'.cell? ⟨gb140, 6, none⟩ = some (.int .u64 0)) (ds := []) #[false,false,false,false,false,false,false,false,false,false,false,false,false,false,false,false,false,false,false,false,false,false,false] (by kernel_rfl) rfl rfl ⟨(blk_cell BK139.out 0).trans rfl, (blk_cell BK139.out 1).trans rfl, (blk_cell BK139.out 2).trans rfl, (blk_cell BK139.out 3).trans rfl, (blk_cell BK139.out 4).trans rfl, (blk_cell BK139.out 5).trans rfl, (blk_cell BK139.out 6).trans rfl, (blk_cell BK140.out 0).trans rfl, (blk_cell BK140.out 1).trans rfl, (blk_cell BK140.out 2).trans rfl, (blk_cell BK140.out 3).trans rfl, (blk_cell BK140.out 4).trans rfl, (blk_cell BK140.out 5).trans rfl, (blk_cell BK140.out 6).trans rfl⟩ (fun hHeld => ?_); refine with_tabW turnbucklelaw11_SymBinds.tab10 turnbucklelaw11_SymBinds.bits10 (fun HT_ HW_ => ?_)
      generalize w30.drew = w31 at BK137 BK139 BK140 BK141 HB hHeld ⊢
      refine take_ (i := 0) (N := some 33) (v:=?_) (a':=?_) #[true,false,false,false,false,false,false,false,false,false,false,false,false,false,false,false,false,false,false,false,false,false,false] rfl rfl (take_ofW HT_.out HW_.out (by kernel_rfl)) (fun _ _ _ h=>h) (Or.inl ⟨by rfl, ?_⟩) hHeld ?_ ?_
      rotate_left
      ·rintro w' ⟨s0, s1, s2, s3, s4, s5, s6, s7, s8, s9, s10, s11, s12, s13⟩
       go_simp
       with_reducible rfl
      rotate_left
      ·simp only [Act.put,lz1,lz2,lz3,i64_w,i32_w]
       rfl
      refine take_ (i := 2) (N := some 35) (v:=?_) (a':=?_) #[true,false,true,false,false,false,false,false,false,false,false,false,false,false,false,false,false,false,false,false,false,false,false] rfl rfl (take_ofW HT_.out HW_.out (by kernel_rfl)) (fun _ _ _ h=>h) (Or.inl ⟨by rfl, ?_⟩) hHeld ?_ ?_
      rotate_left
      ·rintro w' ⟨s0, s1, s2, s3, s4, s5, s6, s7, s8, s9, s10, s11, s12, s13⟩
       go_simp
       with_reducible rfl
      rotate_left
      ·simp only [Act.put,lz1,lz2,lz3,i64_w,i32_w]
       rfl
      refine one_ (i := 1) (N := some 34) #[true,true,true,false,false,false,false,false,false,false,false,false,false,false,false,false,false,false,false,false,false,false,false] rfl rfl (one_of HT_.out (by kernel_rfl)) (by decide) (fun K hK => ?_)
      refine goes_ Try.func14 (by kernel_rfl) rfl #[.agg #[.string (⟨#[]⟩ : ByteArray), .int .i64 x140001_3, .int .i64 (Go.bits .and .i64 a0_1 15), .int .i64 (Go.bits .and .i64 a0_2 3), .bool a0_3, .int .u64 0, .int .u64 0]] (by rfl) rfl rfl (by (try simp only [List.map_toArray, List.map_cons, List.map_nil]); first | done | rfl | (simp only [List.length_drop, List.length_take]; rfl)) ?_
      with_reducible refine (sym_Symbol_Exported.calls (⟨#[]⟩ : ByteArray) x140001_3 (Go.bits .and .i64 a0_1 15) (Go.bits .and .i64 a0_2 3) a0_3 0 0 t142 _ A27.out).mono ?_
      rintro e w32 ⟨rfl, hb⟩
      refine ⟨_, rfl, ?_⟩
      have n0_ := Aside0.mk (blk_below (g := gb137) (o := .cells #[.int .i64 a0_0, .int .i64 a0_1, .int .i64 a0_2, .bool a0_3, .int .u64 a0_4, .int .u64 a0_5] 24 (0, 0)) (by (with_reducible repeat (first | refine blk_drewN ?_ _ | refine blk_drew ?_ | refine blk_alloc ?_ _)); exact BK137.out) hb)
      have n1_ := Aside0.mk (blk_below (g := gb139) (o := .cells #[.string (⟨#[]⟩ : ByteArray), .int .i64 x140001_3, .int .i64 (Go.bits .and .i64 a0_1 15), .int .i64 (Go.bits .and .i64 a0_2 3), .bool a0_3, .int .u64 0, .int .u64 0] 28 (0, 0)) (by (with_reducible repeat (first | refine blk_drewN ?_ _ | refine blk_drew ?_ | refine blk_alloc ?_ _)); exact BK139.out) hb)
      have n2_ := Aside0.mk (blk_below (g := gb140) (o := .cells #[.string (⟨#[]⟩ : ByteArray), .int .i64 (wrap64 (3 - x140001_3)), .int .i64 (Go.bits .and .i64 a0_1 15), .int .i64 (Go.bits .and .i64 a0_2 3), .bool a0_3, .int .u64 0, .int .u64 0] 28 (0, 0)) (by (with_reducible repeat (first | refine blk_drewN ?_ _ | refine blk_drew ?_ | refine blk_alloc ?_ _)); exact BK140.out) hb)
      have n3_ := Aside0.mk (blk_below (g := gb141) (o := .cells #[.string (⟨#[]⟩ : ByteArray), .int .i64 0, .int .i64 (Go.bits .and .i64 a0_1 15), .int .i64 (Go.bits .and .i64 a0_2 3), .bool a0_3, .int .u64 0, .int .u64 0] 28 (0, 0)) (by (with_reducible repeat (first | refine blk_drewN ?_ _ | refine blk_drew ?_ | refine blk_alloc ?_ _)); exact BK141.out) hb)
      have n4_ := Aside0.mk (below_step (by repeat (first | (with_reducible first | exact HB.out | apply below_alloc | apply pw_below_drewN | apply below_drew1 | refine below_set ?_ GE137.out | refine below_set ?_ GE139.out | refine below_set ?_ GE140.out | refine below_set ?_ GE141.out) | exact HB.out)) hb)
      clear BK137
      clear BK139
      clear BK140
      clear BK141
      clear HB
      have BK137 := n0_
      have BK139 := n1_
      have BK140 := n2_
      have BK141 := n3_
      have HB := n4_
      clear n0_ n1_ n2_ n3_ n4_
      (try clear hb)
      (try clear hb2)
      (try clear hk)
      (try clear hi)
      refine hK.out _ _ ⟨(blk_cell BK139.out 0).trans rfl, (blk_cell BK139.out 1).trans rfl, (blk_cell BK139.out 2).trans rfl, (blk_cell BK139.out 3).trans rfl, (blk_cell BK139.out 4).trans rfl, (blk_cell BK139.out 5).trans rfl, (blk_cell BK139.out 6).trans rfl, (blk_cell BK140.out 0).trans rfl, (blk_cell BK140.out 1).trans rfl, (blk_cell BK140.out 2).trans rfl, (blk_cell BK140.out 3).trans rfl, (blk_cell BK140.out 4).trans rfl, (blk_cell BK140.out 5).trans rfl, (blk_cell BK140.out 6).trans rfl⟩ (fun hHeld => ?_)
      clear hK K
      refine norm_ (a' := ?_) ?_ ?_
      rotate_left
      ·show Act.put _ (some 34) _ = _
       simp only [Act.put,lz1,lz2,lz3,i64_w,i32_w]
       rfl
      refine one_ (i := 3) (N := some 36) #[true,true,true,true,false,false,false,false,false,false,false,false,false,false,false,false,false,false,false,false,false,false,false] rfl rfl (one_of HT_.out (by kernel_rfl)) (by decide) (fun K hK => ?_)
      refine goes_ Try.func14 (by kernel_rfl) rfl #[.agg #[.string (⟨#[]⟩ : ByteArray), .int .i64 (wrap64 (3 - x140001_3)), .int .i64 (Go.bits .and .i64 a0_1 15), .int .i64 (Go.bits .and .i64 a0_2 3), .bool a0_3, .int .u64 0, .int .u64 0]] (by rfl) rfl rfl (by (try simp only [List.map_toArray, List.map_cons, List.map_nil]); first | done | rfl | (simp only [List.length_drop, List.length_take]; rfl)) ?_
      with_reducible refine (sym_Symbol_Exported.calls (⟨#[]⟩ : ByteArray) (wrap64 (3 - x140001_3)) (Go.bits .and .i64 a0_1 15) (Go.bits .and .i64 a0_2 3) a0_3 0 0 t143 _ A28.out).mono ?_
      rintro e w33 ⟨rfl, hb⟩
      refine ⟨_, rfl, ?_⟩
      have n0_ := Aside0.mk (blk_below (g := gb137) (o := .cells #[.int .i64 a0_0, .int .i64 a0_1, .int .i64 a0_2, .bool a0_3, .int .u64 a0_4, .int .u64 a0_5] 24 (0, 0)) (by (with_reducible repeat (first | refine blk_drewN ?_ _ | refine blk_drew ?_ | refine blk_alloc ?_ _)); exact BK137.out) hb)
      have n1_ := Aside0.mk (blk_below (g := gb139) (o := .cells #[.string (⟨#[]⟩ : ByteArray), .int .i64 x140001_3, .int .i64 (Go.bits .and .i64 a0_1 15), .int .i64 (Go.bits .and .i64 a0_2 3), .bool a0_3, .int .u64 0, .int .u64 0] 28 (0, 0)) (by (with_reducible repeat (first | refine blk_drewN ?_ _ | refine blk_drew ?_ | refine blk_alloc ?_ _)); exact BK139.out) hb)
      have n2_ := Aside0.mk (blk_below (g := gb140) (o := .cells #[.string (⟨#[]⟩ : ByteArray), .int .i64 (wrap64 (3 - x140001_3)), .int .i64 (Go.bits .and .i64 a0_1 15), .int .i64 (Go.bits .and .i64 a0_2 3), .bool a0_3, .int .u64 0, .int .u64 0] 28 (0, 0)) (by (with_reducible repeat (first | refine blk_drewN ?_ _ | refine blk_drew ?_ | refine blk_alloc ?_ _)); exact BK140.out) hb)
      have n3_ := Aside0.mk (blk_below (g := gb141) (o := .cells #[.string (⟨#[]⟩ : ByteArray), .int .i64 0, .int .i64 (Go.bits .and .i64 a0_1 15), .int .i64 (Go.bits .and .i64 a0_2 3), .bool a0_3, .int .u64 0, .int .u64 0] 28 (0, 0)) (by (with_reducible repeat (first | refine blk_drewN ?_ _ | refine blk_drew ?_ | refine blk_alloc ?_ _)); exact BK141.out) hb)
      have n4_ := Aside0.mk (below_step (by repeat (first | (with_reducible first | exact HB.out | apply below_alloc | apply pw_below_drewN | apply below_drew1 | refine below_set ?_ GE137.out | refine below_set ?_ GE139.out | refine below_set ?_ GE140.out | refine below_set ?_ GE141.out) | exact HB.out)) hb)
      clear BK137
      clear BK139
      clear BK140
      clear BK141
      clear HB
      have BK137 := n0_
      have BK139 := n1_
      have BK140 := n2_
      have BK141 := n3_
      have HB := n4_
      clear n0_ n1_ n2_ n3_ n4_
      (try clear hb)
      (try clear hb2)
      (try clear hk)
      (try clear hi)
      refine hK.out _ _ ⟨(blk_cell BK139.out 0).trans rfl, (blk_cell BK139.out 1).trans rfl, (blk_cell BK139.out 2).trans rfl, (blk_cell BK139.out 3).trans rfl, (blk_cell BK139.out 4).trans rfl, (blk_cell BK139.out 5).trans rfl, (blk_cell BK139.out 6).trans rfl, (blk_cell BK140.out 0).trans rfl, (blk_cell BK140.out 1).trans rfl, (blk_cell BK140.out 2).trans rfl, (blk_cell BK140.out 3).trans rfl, (blk_cell BK140.out 4).trans rfl, (blk_cell BK140.out 5).trans rfl, (blk_cell BK140.out 6).trans rfl⟩ (fun hHeld => ?_)
      clear hK K
      refine norm_ (a' := ?_) ?_ ?_
      rotate_left
      ·show Act.put _ (some 36) _ = _
       simp only [Act.put,lz1,lz2,lz3,i64_w,i32_w]
       rfl
      refine pure_ (i:=4) (N := some 37) (v:=?_) (a':=?_) #[true,true,true,true,true,false,false,false,false,false,false,false,false,false,false,false,false,false,false,false,false,false,false] rfl rfl (any_of HT_.out (by kernel_rfl)) (fun _ _ _ h=>h) (Or.inl ⟨by rfl, ?_⟩) ?_ ?_
      rotate_left
      ·intro w'
       go_simp
       first | with_reducible rfl | (refine Eq.trans (b := .ok (.value (.bool true)) w') ?_ (by with_reducible rfl); (repeat' (first | with_reducible rfl | split)); all_goals (first | rfl | (exfalso; simp_all; done))) | (refine Eq.trans (b := .ok (.value (.bool false)) w') ?_ (by with_reducible rfl); (repeat' (first | with_reducible rfl | split)); all_goals (first | rfl | (exfalso; simp_all; done)))
      rotate_left
      ·simp only [Act.put,lz1,lz2,lz3,i64_w,i32_w]
       rfl
      refine pure_ (i:=5) (N := some 38) (v:=?_) (a':=?_) #[true,true,true,true,true,true,false,false,false,false,false,false,false,false,false,false,false,false,false,false,false,false,false] rfl rfl (any_of HT_.out (by kernel_rfl)) (fun _ _ _ h=>h) (Or.inl ⟨by rfl, ?_⟩) ?_ ?_
      rotate_left
      ·intro w'
       go_simp
       with_reducible rfl
      rotate_left
      ·simp only [Act.put,lz1,lz2,lz3,i64_w,i32_w]
       rfl
      refine pure_ (i:=6) (N := some 39) (v := undef) (a' := ?_) #[true,true,true,true,true,true,true,false,false,false,false,false,false,false,false,false,false,false,false,false,false,false,false] rfl rfl (any_of HT_.out (by kernel_rfl)) (fun _ _ _ h=>h) (Or.inr ⟨by rfl, rfl⟩) ?_ ?_
      rotate_left
      ·simp only [Act.put,lz1,lz2,lz3,i64_w,i32_w]
       rfl
      refine pure_ (i:=7) (N := some 40) (v := undef) (a' := ?_) #[true,true,true,true,true,true,true,true,false,false,false,false,false,false,false,false,false,false,false,false,false,false,false] rfl rfl (any_of HT_.out (by kernel_rfl)) (fun _ _ _ h=>h) (Or.inr ⟨by rfl, rfl⟩) ?_ ?_
      rotate_left
      ·simp only [Act.put,lz1,lz2,lz3,i64_w,i32_w]
       rfl
      refine pure_ (i:=8) (N := some 41) (v := undef) (a' := ?_) #[true,true,true,true,true,true,true,true,true,false,false,false,false,false,false,false,false,false,false,false,false,false,false] rfl rfl (any_of HT_.out (by kernel_rfl)) (fun _ _ _ h=>h) (Or.inr ⟨by rfl, rfl⟩) ?_ ?_
      rotate_left
      ·simp only [Act.put,lz1,lz2,lz3,i64_w,i32_w]
       rfl
      refine pure_ (i:=9) (N := some 42) (v := undef) (a' := ?_) #[true,true,true,true,true,true,true,true,true,true,false,false,false,false,false,false,false,false,false,false,false,false,false] rfl rfl (any_of HT_.out (by kernel_rfl)) (fun _ _ _ h=>h) (Or.inr ⟨by rfl, rfl⟩) ?_ ?_
      rotate_left
      ·simp only [Act.put,lz1,lz2,lz3,i64_w,i32_w]
       rfl
      refine pure_ (i:=10) (N := some 43) (v := undef) (a' := ?_) #[true,true,true,true,true,true,true,true,true,true,true,false,false,false,false,false,false,false,false,false,false,false,false] rfl rfl (any_of HT_.out (by kernel_rfl)) (fun _ _ _ h=>h) (Or.inr ⟨by rfl, rfl⟩) ?_ ?_
      rotate_left
      ·simp only [Act.put,lz1,lz2,lz3,i64_w,i32_w]
       rfl
      refine pure_ (i:=11) (N := some 44) (v:=?_) (a':=?_) #[true,true,true,true,true,true,true,true,true,true,true,true,false,false,false,false,false,false,false,false,false,false,false] rfl rfl (any_of HT_.out (by kernel_rfl)) (fun _ _ _ h=>h) (Or.inl ⟨by rfl, ?_⟩) ?_ ?_
      rotate_left
      ·intro w'
       go_simp
       with_reducible rfl
      rotate_left
      ·simp only [Act.put,lz1,lz2,lz3,i64_w,i32_w]
       rfl
      refine pure_ (i:=12) (N := some 45) (v:=?_) (a':=?_) #[true,true,true,true,true,true,true,true,true,true,true,true,true,false,false,false,false,false,false,false,false,false,false] rfl rfl (any_of HT_.out (by kernel_rfl)) (fun _ _ _ h=>h) (Or.inl ⟨by rfl, ?_⟩) ?_ ?_
      rotate_left
      ·intro w'
       go_simp
       with_reducible rfl
      rotate_left
      ·simp only [Act.put,lz1,lz2,lz3,i64_w,i32_w]
       rfl
      refine pure_ (i:=13) (N := some 46) (v := undef) (a' := ?_) #[true,true,true,true,true,true,true,true,true,true,true,true,true,true,false,false,false,false,false,false,false,false,false] rfl rfl (any_of HT_.out (by kernel_rfl)) (fun _ _ _ h=>h) (Or.inr ⟨by rfl, rfl⟩) ?_ ?_
      rotate_left
      ·simp only [Act.put,lz1,lz2,lz3,i64_w,i32_w]
       rfl
      refine pure_ (i:=14) (N := some 47) (v := undef) (a' := ?_) #[true,true,true,true,true,true,true,true,true,true,true,true,true,true,true,false,false,false,false,false,false,false,false] rfl rfl (any_of HT_.out (by kernel_rfl)) (fun _ _ _ h=>h) (Or.inr ⟨by rfl, rfl⟩) ?_ ?_
      rotate_left
      ·simp only [Act.put,lz1,lz2,lz3,i64_w,i32_w]
       rfl
      refine pure_ (i:=15) (N := some 48) (v:=?_) (a':=?_) #[true,true,true,true,true,true,true,true,true,true,true,true,true,true,true,true,false,false,false,false,false,false,false] rfl rfl (any_of HT_.out (by kernel_rfl)) (fun _ _ _ h=>h) (Or.inl ⟨by rfl, ?_⟩) ?_ ?_
      rotate_left
      ·intro w'
       go_simp
       with_reducible rfl
      rotate_left
      ·simp only [Act.put,lz1,lz2,lz3,i64_w,i32_w]
       rfl
      refine pure_ (i:=16) (N := some 49) (v:=?_) (a':=?_) #[true,true,true,true,true,true,true,true,true,true,true,true,true,true,true,true,true,false,false,false,false,false,false] rfl rfl (any_of HT_.out (by kernel_rfl)) (fun _ _ _ h=>h) (Or.inl ⟨by rfl, ?_⟩) ?_ ?_
      rotate_left
      ·intro w'
       go_simp
       with_reducible rfl
      rotate_left
      ·simp only [Act.put,lz1,lz2,lz3,i64_w,i32_w]
       rfl
      refine pure_ (i:=17) (N := some 50) (v := undef) (a' := ?_) #[true,true,true,true,true,true,true,true,true,true,true,true,true,true,true,true,true,true,false,false,false,false,false] rfl rfl (any_of HT_.out (by kernel_rfl)) (fun _ _ _ h=>h) (Or.inr ⟨by rfl, rfl⟩) ?_ ?_
      rotate_left
      ·simp only [Act.put,lz1,lz2,lz3,i64_w,i32_w]
       rfl
      refine pure_ (i:=18) (N := some 51) (v := undef) (a' := ?_) #[true,true,true,true,true,true,true,true,true,true,true,true,true,true,true,true,true,true,true,false,false,false,false] rfl rfl (any_of HT_.out (by kernel_rfl)) (fun _ _ _ h=>h) (Or.inr ⟨by rfl, rfl⟩) ?_ ?_
      rotate_left
      ·simp only [Act.put,lz1,lz2,lz3,i64_w,i32_w]
       rfl
      refine pure_ (i:=19) (N := some 52) (v := undef) (a' := ?_) #[true,true,true,true,true,true,true,true,true,true,true,true,true,true,true,true,true,true,true,true,false,false,false] rfl rfl (any_of HT_.out (by kernel_rfl)) (fun _ _ _ h=>h) (Or.inr ⟨by rfl, rfl⟩) ?_ ?_
      rotate_left
      ·simp only [Act.put,lz1,lz2,lz3,i64_w,i32_w]
       rfl
      refine pure_ (i:=20) (N := some 53) (v := undef) (a' := ?_) #[true,true,true,true,true,true,true,true,true,true,true,true,true,true,true,true,true,true,true,true,true,false,false] rfl rfl (any_of HT_.out (by kernel_rfl)) (fun _ _ _ h=>h) (Or.inr ⟨by rfl, rfl⟩) ?_ ?_
      rotate_left
      ·simp only [Act.put,lz1,lz2,lz3,i64_w,i32_w]
       rfl
      refine pure_ (i:=21) (N := some 54) (v := undef) (a' := ?_) #[true,true,true,true,true,true,true,true,true,true,true,true,true,true,true,true,true,true,true,true,true,true,false] rfl rfl (any_of HT_.out (by kernel_rfl)) (fun _ _ _ h=>h) (Or.inr ⟨by rfl, rfl⟩) ?_ ?_
      rotate_left
      ·simp only [Act.put,lz1,lz2,lz3,i64_w,i32_w]
       rfl
      refine pure_ (i:=22) (N := some 55) (v:=?_) (a':=?_) #[true,true,true,true,true,true,true,true,true,true,true,true,true,true,true,true,true,true,true,true,true,true,true] rfl rfl (any_of HT_.out (by kernel_rfl)) (fun _ _ _ h=>h) (Or.inl ⟨by rfl, ?_⟩) ?_ ?_
      rotate_left
      ·intro w'
       go_simp
       with_reducible rfl
      rotate_left
      ·simp only [Act.put,lz1,lz2,lz3,i64_w,i32_w]
       rfl
      refine done_ (done_of HT_.out (by kernel_rfl)) ?_
      try go_wp2
      (try subst hji11)
      (try subst hji13)
      go_meet
      case rel => exact ⟨_, (true), (by first | rfl | (simp; done) | (simp [*]; done)), H', ⟨by have := HJ3.out; first | omega | exact Nat.le_refl _⟩, ⟨by (with_reducible repeat (first | refine blk_drewN ?_ _ | refine blk_drew ?_ | refine blk_alloc ?_ _)); exact BK137.out⟩, ⟨by (with_reducible repeat (first | refine blk_drewN ?_ _ | refine blk_drew ?_ | refine blk_alloc ?_ _)); exact BK139.out⟩, ⟨by (with_reducible repeat (first | refine blk_drewN ?_ _ | refine blk_drew ?_ | refine blk_alloc ?_ _)); exact BK140.out⟩, ⟨by (with_reducible repeat (first | refine blk_drewN ?_ _ | refine blk_drew ?_ | refine blk_alloc ?_ _)); exact BK141.out⟩, ⟨by repeat (first | (with_reducible first | exact HB.out | apply below_alloc | apply pw_below_drewN | apply below_drew1 | refine below_set ?_ GE137.out | refine below_set ?_ GE139.out | refine below_set ?_ GE140.out | refine below_set ?_ GE141.out) | exact HB.out)⟩⟩
     ·rw [if_neg c29] at H
      have c29b0 : (t142 != t143) = false := by simpa using c29
      (try (have c29b1 : decide (t142 = t143) = true := by simpa using c29))
      (try (have c29b2 : (t142 == t143) = true := by simpa using c29))
      clear c29
      (first | rw [c29b0] | (simp only [i64_w, i32_w]; rw [c29b0]) | skip)
      replace H := Option.bind_eq_some_iff.mp H
      obtain ⟨t144, A340, H⟩ := H
      replace H : ((sym_Symbol_Own.f (⟨#[]⟩ : ByteArray) (wrap64 (3 - x140001_3)) (Go.bits .and .i64 a0_1 15) (Go.bits .and .i64 a0_2 3) a0_3 0 0).bind fun t145 => (if (t144 != t145) = true then (turnbucklelaw11_SymBinds.j1 kj3 true (⟨#[]⟩ : ByteArray) x140001_3 (Go.bits .and .i64 a0_1 15) (Go.bits .and .i64 a0_2 3) a0_3 0 0) else ((sym_Symbol_Exported.f (⟨#[]⟩ : ByteArray) 0 (Go.bits .and .i64 a0_1 15) (Go.bits .and .i64 a0_2 3) a0_3 0 0).bind fun t146 => (if t146 = true then (turnbucklelaw11_SymBinds.j1 kj3 true (⟨#[]⟩ : ByteArray) x140001_3 (Go.bits .and .i64 a0_1 15) (Go.bits .and .i64 a0_2 3) a0_3 0 0) else ((sym_Symbol_Own.f (⟨#[]⟩ : ByteArray) 0 (Go.bits .and .i64 a0_1 15) (Go.bits .and .i64 a0_2 3) a0_3 0 0).bind fun t147 => (turnbucklelaw11_SymBinds.j1 kj3 (t147 != a0_3) (⟨#[]⟩ : ByteArray) x140001_3 (Go.bits .and .i64 a0_1 15) (Go.bits .and .i64 a0_2 3) a0_3 0 0)))))) = some r := H
      have A34 := Aside0.mk A340
      clear A340
      replace H := Option.bind_eq_some_iff.mp H
      obtain ⟨t145, A350, H⟩ := H
      replace H : (if (t144 != t145) = true then (turnbucklelaw11_SymBinds.j1 kj3 true (⟨#[]⟩ : ByteArray) x140001_3 (Go.bits .and .i64 a0_1 15) (Go.bits .and .i64 a0_2 3) a0_3 0 0) else ((sym_Symbol_Exported.f (⟨#[]⟩ : ByteArray) 0 (Go.bits .and .i64 a0_1 15) (Go.bits .and .i64 a0_2 3) a0_3 0 0).bind fun t146 => (if t146 = true then (turnbucklelaw11_SymBinds.j1 kj3 true (⟨#[]⟩ : ByteArray) x140001_3 (Go.bits .and .i64 a0_1 15) (Go.bits .and .i64 a0_2 3) a0_3 0 0) else ((sym_Symbol_Own.f (⟨#[]⟩ : ByteArray) 0 (Go.bits .and .i64 a0_1 15) (Go.bits .and .i64 a0_2 3) a0_3 0 0).bind fun t147 => (turnbucklelaw11_SymBinds.j1 kj3 (t147 != a0_3) (⟨#[]⟩ : ByteArray) x140001_3 (Go.bits .and .i64 a0_1 15) (Go.bits .and .i64 a0_2 3) a0_3 0 0))))) = some r := H
      have A35 := Aside0.mk A350
      clear A350
      by_cases c36 : (t144 != t145) = true
      ·rw [if_pos c36] at H
       have c36b0 : (t144 != t145) = true := c36
       (try (have c36b1 : decide (t144 = t145) = false := by simpa using c36))
       (try (have c36b2 : (t144 == t145) = false := by simpa using c36))
       (try (have c36b3 : ¬ (t144 = t145) := by simpa using c36))
       clear c36
       have H' := Aside0.mk H
       clear H
       try go_wp2
       have n0_ : Aside0 (((((((((w22.setCell ⟨gb141, 0, none⟩ (.string (⟨#[]⟩ : ByteArray))).setCell ⟨gb141, 1, none⟩ (.int .i64 x140001_3)).setCell ⟨gb141, 2, none⟩ (.int .i64 (Go.bits .and .i64 a0_1 15))).setCell ⟨gb141, 3, none⟩ (.int .i64 (Go.bits .and .i64 a0_2 3))).setCell ⟨gb141, 4, none⟩ (.bool a0_3)).setCell ⟨gb141, 5, none⟩ (.int .u64 0)).setCell ⟨gb141, 6, none⟩ (.int .u64 0)).setCell ⟨gb141, 1, none⟩ (.int .i64 0)).heap[gb137]? = some (.cells #[.int .i64 a0_0, .int .i64 a0_1, .int .i64 a0_2, .bool a0_3, .int .u64 a0_4, .int .u64 a0_5] 24 (0, 0))) := ⟨by (with_reducible repeat (first | refine blk_drewN ?_ _ | refine blk_drew ?_ | refine blk_alloc ?_ _)); refine blk_far ?_ NB137_141.out _; (with_reducible repeat (first | refine blk_drewN ?_ _ | refine blk_drew ?_ | refine blk_alloc ?_ _)); refine blk_far ?_ NB137_141.out _; (with_reducible repeat (first | refine blk_drewN ?_ _ | refine blk_drew ?_ | refine blk_alloc ?_ _)); refine blk_far ?_ NB137_141.out _; (with_reducible repeat (first | refine blk_drewN ?_ _ | refine blk_drew ?_ | refine blk_alloc ?_ _)); refine blk_far ?_ NB137_141.out _; (with_reducible repeat (first | refine blk_drewN ?_ _ | refine blk_drew ?_ | refine blk_alloc ?_ _)); refine blk_far ?_ NB137_141.out _; (with_reducible repeat (first | refine blk_drewN ?_ _ | refine blk_drew ?_ | refine blk_alloc ?_ _)); refine blk_far ?_ NB137_141.out _; (with_reducible repeat (first | refine blk_drewN ?_ _ | refine blk_drew ?_ | refine blk_alloc ?_ _)); refine blk_far ?_ NB137_141.out _; (with_reducible repeat (first | refine blk_drewN ?_ _ | refine blk_drew ?_ | refine blk_alloc ?_ _)); refine blk_far ?_ NB137_141.out _; (with_reducible repeat (first | refine blk_drewN ?_ _ | refine blk_drew ?_ | refine blk_alloc ?_ _)); exact BK137.out⟩
       have n1_ : Aside0 (((((((((w22.setCell ⟨gb141, 0, none⟩ (.string (⟨#[]⟩ : ByteArray))).setCell ⟨gb141, 1, none⟩ (.int .i64 x140001_3)).setCell ⟨gb141, 2, none⟩ (.int .i64 (Go.bits .and .i64 a0_1 15))).setCell ⟨gb141, 3, none⟩ (.int .i64 (Go.bits .and .i64 a0_2 3))).setCell ⟨gb141, 4, none⟩ (.bool a0_3)).setCell ⟨gb141, 5, none⟩ (.int .u64 0)).setCell ⟨gb141, 6, none⟩ (.int .u64 0)).setCell ⟨gb141, 1, none⟩ (.int .i64 0)).heap[gb139]? = some (.cells #[.string (⟨#[]⟩ : ByteArray), .int .i64 x140001_3, .int .i64 (Go.bits .and .i64 a0_1 15), .int .i64 (Go.bits .and .i64 a0_2 3), .bool a0_3, .int .u64 0, .int .u64 0] 28 (0, 0))) := ⟨by (with_reducible repeat (first | refine blk_drewN ?_ _ | refine blk_drew ?_ | refine blk_alloc ?_ _)); refine blk_far ?_ NB139_141.out _; (with_reducible repeat (first | refine blk_drewN ?_ _ | refine blk_drew ?_ | refine blk_alloc ?_ _)); refine blk_far ?_ NB139_141.out _; (with_reducible repeat (first | refine blk_drewN ?_ _ | refine blk_drew ?_ | refine blk_alloc ?_ _)); refine blk_far ?_ NB139_141.out _; (with_reducible repeat (first | refine blk_drewN ?_ _ | refine blk_drew ?_ | refine blk_alloc ?_ _)); refine blk_far ?_ NB139_141.out _; (with_reducible repeat (first | refine blk_drewN ?_ _ | refine blk_drew ?_ | refine blk_alloc ?_ _)); refine blk_far ?_ NB139_141.out _; (with_reducible repeat (first | refine blk_drewN ?_ _ | refine blk_drew ?_ | refine blk_alloc ?_ _)); refine blk_far ?_ NB139_141.out _; (with_reducible repeat (first | refine blk_drewN ?_ _ | refine blk_drew ?_ | refine blk_alloc ?_ _)); refine blk_far ?_ NB139_141.out _; (with_reducible repeat (first | refine blk_drewN ?_ _ | refine blk_drew ?_ | refine blk_alloc ?_ _)); refine blk_far ?_ NB139_141.out _; (with_reducible repeat (first | refine blk_drewN ?_ _ | refine blk_drew ?_ | refine blk_alloc ?_ _)); exact BK139.out⟩
       have n2_ : Aside0 (((((((((w22.setCell ⟨gb141, 0, none⟩ (.string (⟨#[]⟩ : ByteArray))).setCell ⟨gb141, 1, none⟩ (.int .i64 x140001_3)).setCell ⟨gb141, 2, none⟩ (.int .i64 (Go.bits .and .i64 a0_1 15))).setCell ⟨gb141, 3, none⟩ (.int .i64 (Go.bits .and .i64 a0_2 3))).setCell ⟨gb141, 4, none⟩ (.bool a0_3)).setCell ⟨gb141, 5, none⟩ (.int .u64 0)).setCell ⟨gb141, 6, none⟩ (.int .u64 0)).setCell ⟨gb141, 1, none⟩ (.int .i64 0)).heap[gb140]? = some (.cells #[.string (⟨#[]⟩ : ByteArray), .int .i64 (wrap64 (3 - x140001_3)), .int .i64 (Go.bits .and .i64 a0_1 15), .int .i64 (Go.bits .and .i64 a0_2 3), .bool a0_3, .int .u64 0, .int .u64 0] 28 (0, 0))) := ⟨by (with_reducible repeat (first | refine blk_drewN ?_ _ | refine blk_drew ?_ | refine blk_alloc ?_ _)); refine blk_far ?_ NB140_141.out _; (with_reducible repeat (first | refine blk_drewN ?_ _ | refine blk_drew ?_ | refine blk_alloc ?_ _)); refine blk_far ?_ NB140_141.out _; (with_reducible repeat (first | refine blk_drewN ?_ _ | refine blk_drew ?_ | refine blk_alloc ?_ _)); refine blk_far ?_ NB140_141.out _; (with_reducible repeat (first | refine blk_drewN ?_ _ | refine blk_drew ?_ | refine blk_alloc ?_ _)); refine blk_far ?_ NB140_141.out _; (with_reducible repeat (first | refine blk_drewN ?_ _ | refine blk_drew ?_ | refine blk_alloc ?_ _)); refine blk_far ?_ NB140_141.out _; (with_reducible repeat (first | refine blk_drewN ?_ _ | refine blk_drew ?_ | refine blk_alloc ?_ _)); refine blk_far ?_ NB140_141.out _; (with_reducible repeat (first | refine blk_drewN ?_ _ | refine blk_drew ?_ | refine blk_alloc ?_ _)); refine blk_far ?_ NB140_141.out _; (with_reducible repeat (first | refine blk_drewN ?_ _ | refine blk_drew ?_ | refine blk_alloc ?_ _)); refine blk_far ?_ NB140_141.out _; (with_reducible repeat (first | refine blk_drewN ?_ _ | refine blk_drew ?_ | refine blk_alloc ?_ _)); exact BK140.out⟩
       have n3_ : Aside0 (((((((((w22.setCell ⟨gb141, 0, none⟩ (.string (⟨#[]⟩ : ByteArray))).setCell ⟨gb141, 1, none⟩ (.int .i64 x140001_3)).setCell ⟨gb141, 2, none⟩ (.int .i64 (Go.bits .and .i64 a0_1 15))).setCell ⟨gb141, 3, none⟩ (.int .i64 (Go.bits .and .i64 a0_2 3))).setCell ⟨gb141, 4, none⟩ (.bool a0_3)).setCell ⟨gb141, 5, none⟩ (.int .u64 0)).setCell ⟨gb141, 6, none⟩ (.int .u64 0)).setCell ⟨gb141, 1, none⟩ (.int .i64 0)).heap[gb141]? = some (.cells #[.string (⟨#[]⟩ : ByteArray), .int .i64 0, .int .i64 (Go.bits .and .i64 a0_1 15), .int .i64 (Go.bits .and .i64 a0_2 3), .bool a0_3, .int .u64 0, .int .u64 0] 28 (0, 0))) := ⟨by (with_reducible repeat (first | refine blk_drewN ?_ _ | refine blk_drew ?_ | refine blk_alloc ?_ _)); refine blk_put (cs := #[.string (⟨#[]⟩ : ByteArray), .int .i64 x140001_3, .int .i64 (Go.bits .and .i64 a0_1 15), .int .i64 (Go.bits .and .i64 a0_2 3), .bool a0_3, .int .u64 0, .int .u64 0]) ?_ 1 _ rfl; (with_reducible repeat (first | refine blk_drewN ?_ _ | refine blk_drew ?_ | refine blk_alloc ?_ _)); refine blk_put (cs := #[.string (⟨#[]⟩ : ByteArray), .int .i64 x140001_3, .int .i64 (Go.bits .and .i64 a0_1 15), .int .i64 (Go.bits .and .i64 a0_2 3), .bool a0_3, .int .u64 0, .int .u64 0]) ?_ 6 _ rfl; (with_reducible repeat (first | refine blk_drewN ?_ _ | refine blk_drew ?_ | refine blk_alloc ?_ _)); refine blk_put (cs := #[.string (⟨#[]⟩ : ByteArray), .int .i64 x140001_3, .int .i64 (Go.bits .and .i64 a0_1 15), .int .i64 (Go.bits .and .i64 a0_2 3), .bool a0_3, .int .u64 0, .int .u64 0]) ?_ 5 _ rfl; (with_reducible repeat (first | refine blk_drewN ?_ _ | refine blk_drew ?_ | refine blk_alloc ?_ _)); refine blk_put (cs := #[.string (⟨#[]⟩ : ByteArray), .int .i64 x140001_3, .int .i64 (Go.bits .and .i64 a0_1 15), .int .i64 (Go.bits .and .i64 a0_2 3), .bool false, .int .u64 0, .int .u64 0]) ?_ 4 _ rfl; (with_reducible repeat (first | refine blk_drewN ?_ _ | refine blk_drew ?_ | refine blk_alloc ?_ _)); refine blk_put (cs := #[.string (⟨#[]⟩ : ByteArray), .int .i64 x140001_3, .int .i64 (Go.bits .and .i64 a0_1 15), .int .i64 0, .bool false, .int .u64 0, .int .u64 0]) ?_ 3 _ rfl; (with_reducible repeat (first | refine blk_drewN ?_ _ | refine blk_drew ?_ | refine blk_alloc ?_ _)); refine blk_put (cs := #[.string (⟨#[]⟩ : ByteArray), .int .i64 x140001_3, .int .i64 0, .int .i64 0, .bool false, .int .u64 0, .int .u64 0]) ?_ 2 _ rfl; (with_reducible repeat (first | refine blk_drewN ?_ _ | refine blk_drew ?_ | refine blk_alloc ?_ _)); refine blk_put (cs := #[.string (⟨#[]⟩ : ByteArray), .int .i64 0, .int .i64 0, .int .i64 0, .bool false, .int .u64 0, .int .u64 0]) ?_ 1 _ rfl; (with_reducible repeat (first | refine blk_drewN ?_ _ | refine blk_drew ?_ | refine blk_alloc ?_ _)); refine blk_put (cs := #[.string (⟨#[]⟩ : ByteArray), .int .i64 0, .int .i64 0, .int .i64 0, .bool false, .int .u64 0, .int .u64 0]) ?_ 0 _ rfl; (with_reducible repeat (first | refine blk_drewN ?_ _ | refine blk_drew ?_ | refine blk_alloc ?_ _)); exact BK141.out⟩
       have n4_ : Aside0 (Below w.heap.size w ((((((((w22.setCell ⟨gb141, 0, none⟩ (.string (⟨#[]⟩ : ByteArray))).setCell ⟨gb141, 1, none⟩ (.int .i64 x140001_3)).setCell ⟨gb141, 2, none⟩ (.int .i64 (Go.bits .and .i64 a0_1 15))).setCell ⟨gb141, 3, none⟩ (.int .i64 (Go.bits .and .i64 a0_2 3))).setCell ⟨gb141, 4, none⟩ (.bool a0_3)).setCell ⟨gb141, 5, none⟩ (.int .u64 0)).setCell ⟨gb141, 6, none⟩ (.int .u64 0)).setCell ⟨gb141, 1, none⟩ (.int .i64 0))) := ⟨by repeat (first | (with_reducible first | exact HB.out | apply below_alloc | apply pw_below_drewN | apply below_drew1 | refine below_set ?_ GE137.out | refine below_set ?_ GE139.out | refine below_set ?_ GE140.out | refine below_set ?_ GE141.out) | exact HB.out)⟩
       (try clear BK137)
       (try clear BK139)
       (try clear BK140)
       (try clear BK141)
       (try clear HB)
       generalize ((((((((w22.setCell ⟨gb141, 0, none⟩ (.string (⟨#[]⟩ : ByteArray))).setCell ⟨gb141, 1, none⟩ (.int .i64 x140001_3)).setCell ⟨gb141, 2, none⟩ (.int .i64 (Go.bits .and .i64 a0_1 15))).setCell ⟨gb141, 3, none⟩ (.int .i64 (Go.bits .and .i64 a0_2 3))).setCell ⟨gb141, 4, none⟩ (.bool a0_3)).setCell ⟨gb141, 5, none⟩ (.int .u64 0)).setCell ⟨gb141, 6, none⟩ (.int .u64 0)).setCell ⟨gb141, 1, none⟩ (.int .i64 0)) = w37 at n0_ n1_ n2_ n3_ n4_ ⊢
       have BK137 := n0_
       have BK139 := n1_
       have BK140 := n2_
       have BK141 := n3_
       have HB := n4_
       clear n0_ n1_ n2_ n3_ n4_
       have n0_ := Aside0.mk (blk_drew BK137.out)
       have n1_ := Aside0.mk (blk_drew BK139.out)
       have n2_ := Aside0.mk (blk_drew BK140.out)
       have n3_ := Aside0.mk (blk_drew BK141.out)
       have n4_ := Aside0.mk (below_drew1 HB.out)
       clear BK137
       clear BK139
       clear BK140
       clear BK141
       clear HB
       have BK137 := n0_
       have BK139 := n1_
       have BK140 := n2_
       have BK141 := n3_
       have HB := n4_
       clear n0_ n1_ n2_ n3_ n4_
       refine start_ (n := 23) (S := fun w' => w'.cell? ⟨gb139, 0, none⟩ = some (.string (⟨#[]⟩ : ByteArray)) ∧ w'.cell? ⟨gb139, 1, none⟩ = some (.int .i64 x140001_3) ∧ w'.cell? ⟨gb139, 2, none⟩ = some (.int .i64 (Go.bits .and .i64 a0_1 15)) ∧ w'.cell? ⟨gb139, 3, none⟩ = some (.int .i64 (Go.bits .and .i64 a0_2 3)) ∧ w'.cell? ⟨gb139, 4, none⟩ = some (.bool a0_3) ∧ w'.cell? ⟨gb139, 5, none⟩ = some (.int .u64 0) ∧ w'.cell? ⟨gb139, 6, none⟩ = some (.int .u64 0) ∧ w'.cell? ⟨gb140, 0, none⟩ = some (.string (⟨#[]⟩ : ByteArray)) ∧ w'.cell? ⟨gb140, 1, none⟩ = some (.int .i64 (wrap64 (3 - x140001_3))) ∧ w'.cell? ⟨gb140, 2, none⟩ = some (.int .i64 (Go.bits .and .i64 a0_1 15)) ∧ w'.cell? ⟨gb140, 3, none⟩ = some (.int .i64 (Go.bits .and .i64 a0_2 3)) ∧ w'.cell? ⟨gb140, 4, none⟩ = some (.bool a0_3) ∧ w'.cell? ⟨gb140, 5, none⟩ = some (.int .u64 0) ∧ w'.cell? ⟨gb140, 6, none⟩ = some (.int .u64 0)) (ds := []) #[false,false,false,false,false,false,false,false,false,false,false,false,false,false,false,false,false,false,false,false,false,false,false] (by kernel_rfl) rfl rfl ⟨(blk_cell BK139.out 0).trans rfl, (blk_cell BK139.out 1).trans rfl, (blk_cell BK139.out 2).trans rfl, (blk_cell BK139.out 3).trans rfl, (blk_cell BK139.out 4).trans rfl, (blk_cell BK139.out 5).trans rfl, (blk_cell BK139.out 6).trans rfl, (blk_cell BK140.out 0).trans rfl, (blk_cell BK140.out 1).trans rfl, (blk_cell BK140.out 2).trans rfl, (blk_cell BK140.out 3).trans rfl, (blk_cell BK140.out 4).trans rfl, (blk_cell BK140.out 5).trans rfl, (blk_cell BK140.out 6).trans rfl⟩ (fun hHeld => ?_); refine with_tabW turnbucklelaw11_SymBinds.tab10 turnbucklelaw11_SymBinds.bits10 (fun HT_ HW_ => ?_)
       generalize w37.drew = w38 at BK137 BK139 BK140 BK141 HB hHeld ⊢
       refine take_ (i := 0) (N := some 33) (v:=?_) (a':=?_) #[true,false,false,false,false,false,false,false,false,false,false,false,false,false,false,false,false,false,false,false,false,false,false] rfl rfl (take_ofW HT_.out HW_.out (by kernel_rfl)) (fun _ _ _ h=>h) (Or.inl ⟨by rfl, ?_⟩) hHeld ?_ ?_
       rotate_left
       ·rintro w' ⟨s0, s1, s2, s3, s4, s5, s6, s7, s8, s9, s10, s11, s12, s13⟩
        go_simp
        with_reducible rfl
       rotate_left
       ·simp only [Act.put,lz1,lz2,lz3,i64_w,i32_w]
        rfl
       refine take_ (i := 2) (N := some 35) (v:=?_) (a':=?_) #[true,false,true,false,false,false,false,false,false,false,false,false,false,false,false,false,false,false,false,false,false,false,false] rfl rfl (take_ofW HT_.out HW_.out (by kernel_rfl)) (fun _ _ _ h=>h) (Or.inl ⟨by rfl, ?_⟩) hHeld ?_ ?_
       rotate_left
       ·rintro w' ⟨s0, s1, s2, s3, s4, s5, s6, s7, s8, s9, s10, s11, s12, s13⟩
        go_simp
        with_reducible rfl
       rotate_left
       ·simp only [Act.put,lz1,lz2,lz3,i64_w,i32_w]
        rfl
       refine one_ (i := 1) (N := some 34) #[true,true,true,false,false,false,false,false,false,false,false,false,false,false,false,false,false,false,false,false,false,false,false] rfl rfl (one_of HT_.out (by kernel_rfl)) (by decide) (fun K hK => ?_)
       refine goes_ Try.func14 (by kernel_rfl) rfl #[.agg #[.string (⟨#[]⟩ : ByteArray), .int .i64 x140001_3, .int .i64 (Go.bits .and .i64 a0_1 15), .int .i64 (Go.bits .and .i64 a0_2 3), .bool a0_3, .int .u64 0, .int .u64 0]] (by rfl) rfl rfl (by (try simp only [List.map_toArray, List.map_cons, List.map_nil]); first | done | rfl | (simp only [List.length_drop, List.length_take]; rfl)) ?_
       with_reducible refine (sym_Symbol_Exported.calls (⟨#[]⟩ : ByteArray) x140001_3 (Go.bits .and .i64 a0_1 15) (Go.bits .and .i64 a0_2 3) a0_3 0 0 t142 _ A27.out).mono ?_
       rintro e w39 ⟨rfl, hb⟩
       refine ⟨_, rfl, ?_⟩
       have n0_ := Aside0.mk (blk_below (g := gb137) (o := .cells #[.int .i64 a0_0, .int .i64 a0_1, .int .i64 a0_2, .bool a0_3, .int .u64 a0_4, .int .u64 a0_5] 24 (0, 0)) (by (with_reducible repeat (first | refine blk_drewN ?_ _ | refine blk_drew ?_ | refine blk_alloc ?_ _)); exact BK137.out) hb)
       have n1_ := Aside0.mk (blk_below (g := gb139) (o := .cells #[.string (⟨#[]⟩ : ByteArray), .int .i64 x140001_3, .int .i64 (Go.bits .and .i64 a0_1 15), .int .i64 (Go.bits .and .i64 a0_2 3), .bool a0_3, .int .u64 0, .int .u64 0] 28 (0, 0)) (by (with_reducible repeat (first | refine blk_drewN ?_ _ | refine blk_drew ?_ | refine blk_alloc ?_ _)); exact BK139.out) hb)
       have n2_ := Aside0.mk (blk_below (g := gb140) (o := .cells #[.string (⟨#[]⟩ : ByteArray), .int .i64 (wrap64 (3 - x140001_3)), .int .i64 (Go.bits .and .i64 a0_1 15), .int .i64 (Go.bits .and .i64 a0_2 3), .bool a0_3, .int .u64 0, .int .u64 0] 28 (0, 0)) (by (with_reducible repeat (first | refine blk_drewN ?_ _ | refine blk_drew ?_ | refine blk_alloc ?_ _)); exact BK140.out) hb)
       have n3_ := Aside0.mk (blk_below (g := gb141) (o := .cells #[.string (⟨#[]⟩ : ByteArray), .int .i64 0, .int .i64 (Go.bits .and .i64 a0_1 15), .int .i64 (Go.bits .and .i64 a0_2 3), .bool a0_3, .int .u64 0, .int .u64 0] 28 (0, 0)) (by (with_reducible repeat (first | refine blk_drewN ?_ _ | refine blk_drew ?_ | refine blk_alloc ?_ _)); exact BK141.out) hb)
       have n4_ := Aside0.mk (below_step (by repeat (first | (with_reducible first | exact HB.out | apply below_alloc | apply pw_below_drewN | apply below_drew1 | refine below_set ?_ GE137.out | refine below_set ?_ GE139.out | refine below_set ?_ GE140.out | refine below_set ?_ GE141.out) | exact HB.out)) hb)
       clear BK137
       clear BK139
       clear BK140
       clear BK141
       clear HB
       have BK137 := n0_
       have BK139 := n1_
       have BK140 := n2_
       have BK141 := n3_
       have HB := n4_
       clear n0_ n1_ n2_ n3_ n4_
       (try clear hb)
       (try clear hb2)
       (try clear hk)
       (try clear hi)
       refine hK.out _ _ ⟨(blk_cell BK139.out 0).trans rfl, (blk_cell BK139.out 1).trans rfl, (blk_cell BK139.out 2).trans rfl, (blk_cell BK139.out 3).trans rfl, (blk_cell BK139.out 4).trans rfl, (blk_cell BK139.out 5).trans rfl, (blk_cell BK139.out 6).trans rfl, (blk_cell BK140.out 0).trans rfl, (blk_cell BK140.out 1).trans rfl, (blk_cell BK140.out 2).trans rfl, (blk_cell BK140.out 3).trans rfl, (blk_cell BK140.out 4).trans rfl, (blk_cell BK140.out 5).trans rfl, (blk_cell BK140.out 6).trans rfl⟩ (fun hHeld => ?_)
       clear hK K
       refine norm_ (a' := ?_) ?_ ?_
       rotate_left
       ·show Act.put _ (some 34) _ = _
        simp only [Act.put,lz1,lz2,lz3,i64_w,i32_w]
        rfl
       refine one_ (i := 3) (N := some 36) #[true,true,true,true,false,false,false,false,false,false,false,false,false,false,false,false,false,false,false,false,false,false,false] rfl rfl (one_of HT_.out (by kernel_rfl)) (by decide) (fun K hK => ?_)
       refine goes_ Try.func14 (by kernel_rfl) rfl #[.agg #[.string (⟨#[]⟩ : ByteArray), .int .i64 (wrap64 (3 - x140001_3)), .int .i64 (Go.bits .and .i64 a0_1 15), .int .i64 (Go.bits .and .i64 a0_2 3), .bool a0_3, .int .u64 0, .int .u64 0]] (by rfl) rfl rfl (by (try simp only [List.map_toArray, List.map_cons, List.map_nil]); first | done | rfl | (simp only [List.length_drop, List.length_take]; rfl)) ?_
       with_reducible refine (sym_Symbol_Exported.calls (⟨#[]⟩ : ByteArray) (wrap64 (3 - x140001_3)) (Go.bits .and .i64 a0_1 15) (Go.bits .and .i64 a0_2 3) a0_3 0 0 t143 _ A28.out).mono ?_
       rintro e w40 ⟨rfl, hb⟩
       refine ⟨_, rfl, ?_⟩
       have n0_ := Aside0.mk (blk_below (g := gb137) (o := .cells #[.int .i64 a0_0, .int .i64 a0_1, .int .i64 a0_2, .bool a0_3, .int .u64 a0_4, .int .u64 a0_5] 24 (0, 0)) (by (with_reducible repeat (first | refine blk_drewN ?_ _ | refine blk_drew ?_ | refine blk_alloc ?_ _)); exact BK137.out) hb)
       have n1_ := Aside0.mk (blk_below (g := gb139) (o := .cells #[.string (⟨#[]⟩ : ByteArray), .int .i64 x140001_3, .int .i64 (Go.bits .and .i64 a0_1 15), .int .i64 (Go.bits .and .i64 a0_2 3), .bool a0_3, .int .u64 0, .int .u64 0] 28 (0, 0)) (by (with_reducible repeat (first | refine blk_drewN ?_ _ | refine blk_drew ?_ | refine blk_alloc ?_ _)); exact BK139.out) hb)
       have n2_ := Aside0.mk (blk_below (g := gb140) (o := .cells #[.string (⟨#[]⟩ : ByteArray), .int .i64 (wrap64 (3 - x140001_3)), .int .i64 (Go.bits .and .i64 a0_1 15), .int .i64 (Go.bits .and .i64 a0_2 3), .bool a0_3, .int .u64 0, .int .u64 0] 28 (0, 0)) (by (with_reducible repeat (first | refine blk_drewN ?_ _ | refine blk_drew ?_ | refine blk_alloc ?_ _)); exact BK140.out) hb)
       have n3_ := Aside0.mk (blk_below (g := gb141) (o := .cells #[.string (⟨#[]⟩ : ByteArray), .int .i64 0, .int .i64 (Go.bits .and .i64 a0_1 15), .int .i64 (Go.bits .and .i64 a0_2 3), .bool a0_3, .int .u64 0, .int .u64 0] 28 (0, 0)) (by (with_reducible repeat (first | refine blk_drewN ?_ _ | refine blk_drew ?_ | refine blk_alloc ?_ _)); exact BK141.out) hb)
       have n4_ := Aside0.mk (below_step (by repeat (first | (with_reducible first | exact HB.out | apply below_alloc | apply pw_below_drewN | apply below_drew1 | refine below_set ?_ GE137.out | refine below_set ?_ GE139.out | refine below_set ?_ GE140.out | refine below_set ?_ GE141.out) | exact HB.out)) hb)
       clear BK137
       clear BK139
       clear BK140
       clear BK141
       clear HB
       have BK137 := n0_
       have BK139 := n1_
       have BK140 := n2_
       have BK141 := n3_
       have HB := n4_
       clear n0_ n1_ n2_ n3_ n4_
       (try clear hb)
       (try clear hb2)
       (try clear hk)
       (try clear hi)
       refine hK.out _ _ ⟨(blk_cell BK139.out 0).trans rfl, (blk_cell BK139.out 1).trans rfl, (blk_cell BK139.out 2).trans rfl, (blk_cell BK139.out 3).trans rfl, (blk_cell BK139.out 4).trans rfl, (blk_cell BK139.out 5).trans rfl, (blk_cell BK139.out 6).trans rfl, (blk_cell BK140.out 0).trans rfl, (blk_cell BK140.out 1).trans rfl, (blk_cell BK140.out 2).trans rfl, (blk_cell BK140.out 3).trans rfl, (blk_cell BK140.out 4).trans rfl, (blk_cell BK140.out 5).trans rfl, (blk_cell BK140.out 6).trans rfl⟩ (fun hHeld => ?_)
       clear hK K
       refine norm_ (a' := ?_) ?_ ?_
       rotate_left
       ·show Act.put _ (some 36) _ = _
        simp only [Act.put,lz1,lz2,lz3,i64_w,i32_w]
        rfl
       refine pure_ (i:=4) (N := some 37) (v:=?_) (a':=?_) #[true,true,true,true,true,false,false,false,false,false,false,false,false,false,false,false,false,false,false,false,false,false,false] rfl rfl (any_of HT_.out (by kernel_rfl)) (fun _ _ _ h=>h) (Or.inl ⟨by rfl, ?_⟩) ?_ ?_
       rotate_left
       ·intro w'
        go_simp
        first | with_reducible rfl | (refine Eq.trans (b := .ok (.value (.bool true)) w') ?_ (by with_reducible rfl); (repeat' (first | with_reducible rfl | split)); all_goals (first | rfl | (exfalso; simp_all; done))) | (refine Eq.trans (b := .ok (.value (.bool false)) w') ?_ (by with_reducible rfl); (repeat' (first | with_reducible rfl | split)); all_goals (first | rfl | (exfalso; simp_all; done)))
       rotate_left
       ·simp only [Act.put,lz1,lz2,lz3,i64_w,i32_w]
        rfl
       refine pure_ (i:=5) (N := some 38) (v:=?_) (a':=?_) #[true,true,true,true,true,true,false,false,false,false,false,false,false,false,false,false,false,false,false,false,false,false,false] rfl rfl (any_of HT_.out (by kernel_rfl)) (fun _ _ _ h=>h) (Or.inl ⟨by rfl, ?_⟩) ?_ ?_
       rotate_left
       ·intro w'
        go_simp
        with_reducible rfl
       rotate_left
       ·simp only [Act.put,lz1,lz2,lz3,i64_w,i32_w]
        rfl
       refine take_ (i := 6) (N := some 39) (v:=?_) (a':=?_) #[true,true,true,true,true,true,true,false,false,false,false,false,false,false,false,false,false,false,false,false,false,false,false] rfl rfl (take_ofW HT_.out HW_.out (by kernel_rfl)) (fun _ _ _ h=>h) (Or.inl ⟨by rfl, ?_⟩) hHeld ?_ ?_
       rotate_left
       ·rintro w' ⟨s0, s1, s2, s3, s4, s5, s6, s7, s8, s9, s10, s11, s12, s13⟩
        go_simp
        with_reducible rfl
       rotate_left
       ·simp only [Act.put,lz1,lz2,lz3,i64_w,i32_w]
        rfl
       refine take_ (i := 8) (N := some 41) (v:=?_) (a':=?_) #[true,true,true,true,true,true,true,false,true,false,false,false,false,false,false,false,false,false,false,false,false,false,false] rfl rfl (take_ofW HT_.out HW_.out (by kernel_rfl)) (fun _ _ _ h=>h) (Or.inl ⟨by rfl, ?_⟩) hHeld ?_ ?_
       rotate_left
       ·rintro w' ⟨s0, s1, s2, s3, s4, s5, s6, s7, s8, s9, s10, s11, s12, s13⟩
        go_simp
        with_reducible rfl
       rotate_left
       ·simp only [Act.put,lz1,lz2,lz3,i64_w,i32_w]
        rfl
       refine one_ (i := 7) (N := some 40) #[true,true,true,true,true,true,true,true,true,false,false,false,false,false,false,false,false,false,false,false,false,false,false] rfl rfl (one_of HT_.out (by kernel_rfl)) (by decide) (fun K hK => ?_)
       refine goes_ Try.func15 (by kernel_rfl) rfl #[.agg #[.string (⟨#[]⟩ : ByteArray), .int .i64 x140001_3, .int .i64 (Go.bits .and .i64 a0_1 15), .int .i64 (Go.bits .and .i64 a0_2 3), .bool a0_3, .int .u64 0, .int .u64 0]] (by rfl) rfl rfl (by (try simp only [List.map_toArray, List.map_cons, List.map_nil]); first | done | rfl | (simp only [List.length_drop, List.length_take]; rfl)) ?_
       with_reducible refine (sym_Symbol_Own.calls (⟨#[]⟩ : ByteArray) x140001_3 (Go.bits .and .i64 a0_1 15) (Go.bits .and .i64 a0_2 3) a0_3 0 0 t144 _ A34.out).mono ?_
       rintro e w41 ⟨rfl, hb⟩
       refine ⟨_, rfl, ?_⟩
       have n0_ := Aside0.mk (blk_below (g := gb137) (o := .cells #[.int .i64 a0_0, .int .i64 a0_1, .int .i64 a0_2, .bool a0_3, .int .u64 a0_4, .int .u64 a0_5] 24 (0, 0)) (by (with_reducible repeat (first | refine blk_drewN ?_ _ | refine blk_drew ?_ | refine blk_alloc ?_ _)); exact BK137.out) hb)
       have n1_ := Aside0.mk (blk_below (g := gb139) (o := .cells #[.string (⟨#[]⟩ : ByteArray), .int .i64 x140001_3, .int .i64 (Go.bits .and .i64 a0_1 15), .int .i64 (Go.bits .and .i64 a0_2 3), .bool a0_3, .int .u64 0, .int .u64 0] 28 (0, 0)) (by (with_reducible repeat (first | refine blk_drewN ?_ _ | refine blk_drew ?_ | refine blk_alloc ?_ _)); exact BK139.out) hb)
       have n2_ := Aside0.mk (blk_below (g := gb140) (o := .cells #[.string (⟨#[]⟩ : ByteArray), .int .i64 (wrap64 (3 - x140001_3)), .int .i64 (Go.bits .and .i64 a0_1 15), .int .i64 (Go.bits .and .i64 a0_2 3), .bool a0_3, .int .u64 0, .int .u64 0] 28 (0, 0)) (by (with_reducible repeat (first | refine blk_drewN ?_ _ | refine blk_drew ?_ | refine blk_alloc ?_ _)); exact BK140.out) hb)
       have n3_ := Aside0.mk (blk_below (g := gb141) (o := .cells #[.string (⟨#[]⟩ : ByteArray), .int .i64 0, .int .i64 (Go.bits .and .i64 a0_1 15), .int .i64 (Go.bits .and .i64 a0_2 3), .bool a0_3, .int .u64 0, .int .u64 0] 28 (0, 0)) (by (with_reducible repeat (first | refine blk_drewN ?_ _ | refine blk_drew ?_ | refine blk_alloc ?_ _)); exact BK141.out) hb)
       have n4_ := Aside0.mk (below_step (by repeat (first | (with_reducible first | exact HB.out | apply below_alloc | apply pw_below_drewN | apply below_drew1 | refine below_set ?_ GE137.out | refine below_set ?_ GE139.out | refine below_set ?_ GE140.out | refine below_set ?_ GE141.out) | exact HB.out)) hb)
       clear BK137
       clear BK139
       clear BK140
       clear BK141
       clear HB
       have BK137 := n0_
       have BK139 := n1_
       have BK140 := n2_
       have BK141 := n3_
       have HB := n4_
       clear n0_ n1_ n2_ n3_ n4_
       (try clear hb)
       (try clear hb2)
       (try clear hk)
       (try clear hi)
       refine hK.out _ _ ⟨(blk_cell BK139.out 0).trans rfl, (blk_cell BK139.out 1).trans rfl, (blk_cell BK139.out 2).trans rfl, (blk_cell BK139.out 3).trans rfl, (blk_cell BK139.out 4).trans rfl, (blk_cell BK139.out 5).trans rfl, (blk_cell BK139.out 6).trans rfl, (blk_cell BK140.out 0).trans rfl, (blk_cell BK140.out 1).trans rfl, (blk_cell BK140.out 2).trans rfl, (blk_cell BK140.out 3).trans rfl, (blk_cell BK140.out 4).trans rfl, (blk_cell BK140.out 5).trans rfl, (blk_cell BK140.out 6).trans rfl⟩ (fun hHeld => ?_)
       clear hK K
       refine norm_ (a' := ?_) ?_ ?_
       rotate_left
       ·show Act.put _ (some 40) _ = _
        simp only [Act.put,lz1,lz2,lz3,i64_w,i32_w]
        rfl
       refine one_ (i := 9) (N := some 42) #[true,true,true,true,true,true,true,true,true,true,false,false,false,false,false,false,false,false,false,false,false,false,false] rfl rfl (one_of HT_.out (by kernel_rfl)) (by decide) (fun K hK => ?_)
       refine goes_ Try.func15 (by kernel_rfl) rfl #[.agg #[.string (⟨#[]⟩ : ByteArray), .int .i64 (wrap64 (3 - x140001_3)), .int .i64 (Go.bits .and .i64 a0_1 15), .int .i64 (Go.bits .and .i64 a0_2 3), .bool a0_3, .int .u64 0, .int .u64 0]] (by rfl) rfl rfl (by (try simp only [List.map_toArray, List.map_cons, List.map_nil]); first | done | rfl | (simp only [List.length_drop, List.length_take]; rfl)) ?_
       with_reducible refine (sym_Symbol_Own.calls (⟨#[]⟩ : ByteArray) (wrap64 (3 - x140001_3)) (Go.bits .and .i64 a0_1 15) (Go.bits .and .i64 a0_2 3) a0_3 0 0 t145 _ A35.out).mono ?_
       rintro e w42 ⟨rfl, hb⟩
       refine ⟨_, rfl, ?_⟩
       have n0_ := Aside0.mk (blk_below (g := gb137) (o := .cells #[.int .i64 a0_0, .int .i64 a0_1, .int .i64 a0_2, .bool a0_3, .int .u64 a0_4, .int .u64 a0_5] 24 (0, 0)) (by (with_reducible repeat (first | refine blk_drewN ?_ _ | refine blk_drew ?_ | refine blk_alloc ?_ _)); exact BK137.out) hb)
       have n1_ := Aside0.mk (blk_below (g := gb139) (o := .cells #[.string (⟨#[]⟩ : ByteArray), .int .i64 x140001_3, .int .i64 (Go.bits .and .i64 a0_1 15), .int .i64 (Go.bits .and .i64 a0_2 3), .bool a0_3, .int .u64 0, .int .u64 0] 28 (0, 0)) (by (with_reducible repeat (first | refine blk_drewN ?_ _ | refine blk_drew ?_ | refine blk_alloc ?_ _)); exact BK139.out) hb)
       have n2_ := Aside0.mk (blk_below (g := gb140) (o := .cells #[.string (⟨#[]⟩ : ByteArray), .int .i64 (wrap64 (3 - x140001_3)), .int .i64 (Go.bits .and .i64 a0_1 15), .int .i64 (Go.bits .and .i64 a0_2 3), .bool a0_3, .int .u64 0, .int .u64 0] 28 (0, 0)) (by (with_reducible repeat (first | refine blk_drewN ?_ _ | refine blk_drew ?_ | refine blk_alloc ?_ _)); exact BK140.out) hb)
       have n3_ := Aside0.mk (blk_below (g := gb141) (o := .cells #[.string (⟨#[]⟩ : ByteArray), .int .i64 0, .int .i64 (Go.bits .and .i64 a0_1 15), .int .i64 (Go.bits .and .i64 a0_2 3), .bool a0_3, .int .u64 0, .int .u64 0] 28 (0, 0)) (by (with_reducible repeat (first | refine blk_drewN ?_ _ | refine blk_drew ?_ | refine blk_alloc ?_ _)); exact BK141.out) hb)
       have n4_ := Aside0.mk (below_step (by repeat (first | (with_reducible first | exact HB.out | apply below_alloc | apply pw_below_drewN | apply below_drew1 | refine below_set ?_ GE137.out | refine below_set ?_ GE139.out | refine below_set ?_ GE140.out | refine below_set ?_ GE141.out) | exact HB.out)) hb)
       clear BK137
       clear BK139
       clear BK140
       clear BK141
       clear HB
       have BK137 := n0_
       have BK139 := n1_
       have BK140 := n2_
       have BK141 := n3_
       have HB := n4_
       clear n0_ n1_ n2_ n3_ n4_
       (try clear hb)
       (try clear hb2)
       (try clear hk)
       (try clear hi)
       refine hK.out _ _ ⟨(blk_cell BK139.out 0).trans rfl, (blk_cell BK139.out 1).trans rfl, (blk_cell BK139.out 2).trans rfl, (blk_cell BK139.out 3).trans rfl, (blk_cell BK139.out 4).trans rfl, (blk_cell BK139.out 5).trans rfl, (blk_cell BK139.out 6).trans rfl, (blk_cell BK140.out 0).trans rfl, (blk_cell BK140.out 1).trans rfl, (blk_cell BK140.out 2).trans rfl, (blk_cell BK140.out 3).trans rfl, (blk_cell BK140.out 4).trans rfl, (blk_cell BK140.out 5).trans rfl, (blk_cell BK140.out 6).trans rfl⟩ (fun hHeld => ?_)
       clear hK K
       refine norm_ (a' := ?_) ?_ ?_
       rotate_left
       ·show Act.put _ (some 42) _ = _
        simp only [Act.put,lz1,lz2,lz3,i64_w,i32_w]
        rfl
       refine pure_ (i:=10) (N := some 43) (v:=?_) (a':=?_) #[true,true,true,true,true,true,true,true,true,true,true,false,false,false,false,false,false,false,false,false,false,false,false] rfl rfl (any_of HT_.out (by kernel_rfl)) (fun _ _ _ h=>h) (Or.inl ⟨by rfl, ?_⟩) ?_ ?_
       rotate_left
       ·intro w'
        go_simp
        first | with_reducible rfl | (refine Eq.trans (b := .ok (.value (.bool true)) w') ?_ (by with_reducible rfl); (repeat' (first | with_reducible rfl | split)); all_goals (first | rfl | (exfalso; simp_all; done))) | (refine Eq.trans (b := .ok (.value (.bool false)) w') ?_ (by with_reducible rfl); (repeat' (first | with_reducible rfl | split)); all_goals (first | rfl | (exfalso; simp_all; done)))
       rotate_left
       ·simp only [Act.put,lz1,lz2,lz3,i64_w,i32_w]
        rfl
       refine pure_ (i:=11) (N := some 44) (v:=?_) (a':=?_) #[true,true,true,true,true,true,true,true,true,true,true,true,false,false,false,false,false,false,false,false,false,false,false] rfl rfl (any_of HT_.out (by kernel_rfl)) (fun _ _ _ h=>h) (Or.inl ⟨by rfl, ?_⟩) ?_ ?_
       rotate_left
       ·intro w'
        go_simp
        with_reducible rfl
       rotate_left
       ·simp only [Act.put,lz1,lz2,lz3,i64_w,i32_w]
        rfl
       refine pure_ (i:=12) (N := some 45) (v:=?_) (a':=?_) #[true,true,true,true,true,true,true,true,true,true,true,true,true,false,false,false,false,false,false,false,false,false,false] rfl rfl (any_of HT_.out (by kernel_rfl)) (fun _ _ _ h=>h) (Or.inl ⟨by rfl, ?_⟩) ?_ ?_
       rotate_left
       ·intro w'
        go_simp
        with_reducible rfl
       rotate_left
       ·simp only [Act.put,lz1,lz2,lz3,i64_w,i32_w]
        rfl
       refine pure_ (i:=13) (N := some 46) (v := undef) (a' := ?_) #[true,true,true,true,true,true,true,true,true,true,true,true,true,true,false,false,false,false,false,false,false,false,false] rfl rfl (any_of HT_.out (by kernel_rfl)) (fun _ _ _ h=>h) (Or.inr ⟨by rfl, rfl⟩) ?_ ?_
       rotate_left
       ·simp only [Act.put,lz1,lz2,lz3,i64_w,i32_w]
        rfl
       refine pure_ (i:=14) (N := some 47) (v := undef) (a' := ?_) #[true,true,true,true,true,true,true,true,true,true,true,true,true,true,true,false,false,false,false,false,false,false,false] rfl rfl (any_of HT_.out (by kernel_rfl)) (fun _ _ _ h=>h) (Or.inr ⟨by rfl, rfl⟩) ?_ ?_
       rotate_left
       ·simp only [Act.put,lz1,lz2,lz3,i64_w,i32_w]
        rfl
       refine pure_ (i:=15) (N := some 48) (v:=?_) (a':=?_) #[true,true,true,true,true,true,true,true,true,true,true,true,true,true,true,true,false,false,false,false,false,false,false] rfl rfl (any_of HT_.out (by kernel_rfl)) (fun _ _ _ h=>h) (Or.inl ⟨by rfl, ?_⟩) ?_ ?_
       rotate_left
       ·intro w'
        go_simp
        with_reducible rfl
       rotate_left
       ·simp only [Act.put,lz1,lz2,lz3,i64_w,i32_w]
        rfl
       refine pure_ (i:=16) (N := some 49) (v:=?_) (a':=?_) #[true,true,true,true,true,true,true,true,true,true,true,true,true,true,true,true,true,false,false,false,false,false,false] rfl rfl (any_of HT_.out (by kernel_rfl)) (fun _ _ _ h=>h) (Or.inl ⟨by rfl, ?_⟩) ?_ ?_
       rotate_left
       ·intro w'
        go_simp
        with_reducible rfl
       rotate_left
       ·simp only [Act.put,lz1,lz2,lz3,i64_w,i32_w]
        rfl
       refine pure_ (i:=17) (N := some 50) (v := undef) (a' := ?_) #[true,true,true,true,true,true,true,true,true,true,true,true,true,true,true,true,true,true,false,false,false,false,false] rfl rfl (any_of HT_.out (by kernel_rfl)) (fun _ _ _ h=>h) (Or.inr ⟨by rfl, rfl⟩) ?_ ?_
       rotate_left
       ·simp only [Act.put,lz1,lz2,lz3,i64_w,i32_w]
        rfl
       refine pure_ (i:=18) (N := some 51) (v := undef) (a' := ?_) #[true,true,true,true,true,true,true,true,true,true,true,true,true,true,true,true,true,true,true,false,false,false,false] rfl rfl (any_of HT_.out (by kernel_rfl)) (fun _ _ _ h=>h) (Or.inr ⟨by rfl, rfl⟩) ?_ ?_
       rotate_left
       ·simp only [Act.put,lz1,lz2,lz3,i64_w,i32_w]
        rfl
       refine pure_ (i:=19) (N := some 52) (v := undef) (a' := ?_) #[true,true,true,true,true,true,true,true,true,true,true,true,true,true,true,true,true,true,true,true,false,false,false] rfl rfl (any_of HT_.out (by kernel_rfl)) (fun _ _ _ h=>h) (Or.inr ⟨by rfl, rfl⟩) ?_ ?_
       rotate_left
       ·simp only [Act.put,lz1,lz2,lz3,i64_w,i32_w]
        rfl
       refine pure_ (i:=20) (N := some 53) (v := undef) (a' := ?_) #[true,true,true,true,true,true,true,true,true,true,true,true,true,true,true,true,true,true,true,true,true,false,false] rfl rfl (any_of HT_.out (by kernel_rfl)) (fun _ _ _ h=>h) (Or.inr ⟨by rfl, rfl⟩) ?_ ?_
       rotate_left
       ·simp only [Act.put,lz1,lz2,lz3,i64_w,i32_w]
        rfl
       refine pure_ (i:=21) (N := some 54) (v := undef) (a' := ?_) #[true,true,true,true,true,true,true,true,true,true,true,true,true,true,true,true,true,true,true,true,true,true,false] rfl rfl (any_of HT_.out (by kernel_rfl)) (fun _ _ _ h=>h) (Or.inr ⟨by rfl, rfl⟩) ?_ ?_
       rotate_left
       ·simp only [Act.put,lz1,lz2,lz3,i64_w,i32_w]
        rfl
       refine pure_ (i:=22) (N := some 55) (v:=?_) (a':=?_) #[true,true,true,true,true,true,true,true,true,true,true,true,true,true,true,true,true,true,true,true,true,true,true] rfl rfl (any_of HT_.out (by kernel_rfl)) (fun _ _ _ h=>h) (Or.inl ⟨by rfl, ?_⟩) ?_ ?_
       rotate_left
       ·intro w'
        go_simp
        with_reducible rfl
       rotate_left
       ·simp only [Act.put,lz1,lz2,lz3,i64_w,i32_w]
        rfl
       refine done_ (done_of HT_.out (by kernel_rfl)) ?_
       try go_wp2
       (try subst hji11)
       (try subst hji13)
       go_meet
       case rel => exact ⟨_, (true), (by first | rfl | (simp; done) | (simp [*]; done)), H', ⟨by have := HJ3.out; first | omega | exact Nat.le_refl _⟩, ⟨by (with_reducible repeat (first | refine blk_drewN ?_ _ | refine blk_drew ?_ | refine blk_alloc ?_ _)); exact BK137.out⟩, ⟨by (with_reducible repeat (first | refine blk_drewN ?_ _ | refine blk_drew ?_ | refine blk_alloc ?_ _)); exact BK139.out⟩, ⟨by (with_reducible repeat (first | refine blk_drewN ?_ _ | refine blk_drew ?_ | refine blk_alloc ?_ _)); exact BK140.out⟩, ⟨by (with_reducible repeat (first | refine blk_drewN ?_ _ | refine blk_drew ?_ | refine blk_alloc ?_ _)); exact BK141.out⟩, ⟨by repeat (first | (with_reducible first | exact HB.out | apply below_alloc | apply pw_below_drewN | apply below_drew1 | refine below_set ?_ GE137.out | refine below_set ?_ GE139.out | refine below_set ?_ GE140.out | refine below_set ?_ GE141.out) | exact HB.out)⟩⟩
      ·rw [if_neg c36] at H
       have c36b0 : (t144 != t145) = false := by simpa using c36
       (try (have c36b1 : decide (t144 = t145) = true := by simpa using c36))
       (try (have c36b2 : (t144 == t145) = true := by simpa using c36))
       clear c36
       replace H := Option.bind_eq_some_iff.mp H
       obtain ⟨t146, A430, H⟩ := H
       replace H : (if t146 = true then (turnbucklelaw11_SymBinds.j1 kj3 true (⟨#[]⟩ : ByteArray) x140001_3 (Go.bits .and .i64 a0_1 15) (Go.bits .and .i64 a0_2 3) a0_3 0 0) else ((sym_Symbol_Own.f (⟨#[]⟩ : ByteArray) 0 (Go.bits .and .i64 a0_1 15) (Go.bits .and .i64 a0_2 3) a0_3 0 0).bind fun t147 => (turnbucklelaw11_SymBinds.j1 kj3 (t147 != a0_3) (⟨#[]⟩ : ByteArray) x140001_3 (Go.bits .and .i64 a0_1 15) (Go.bits .and .i64 a0_2 3) a0_3 0 0))) = some r := H
       have A43 := Aside0.mk A430
       clear A430
       by_cases c44 : t146 = true
       ·subst c44
        have H1 : (turnbucklelaw11_SymBinds.j1 kj3 true (⟨#[]⟩ : ByteArray) x140001_3 (Go.bits .and .i64 a0_1 15) (Go.bits .and .i64 a0_2 3) a0_3 0 0) = some r := by rw [if_pos rfl] at H; exact H
        clear H
        have H := H1
        clear H1
        have H' := Aside0.mk H
        clear H
        try go_wp2
        have n0_ : Aside0 (((((((((w22.setCell ⟨gb141, 0, none⟩ (.string (⟨#[]⟩ : ByteArray))).setCell ⟨gb141, 1, none⟩ (.int .i64 x140001_3)).setCell ⟨gb141, 2, none⟩ (.int .i64 (Go.bits .and .i64 a0_1 15))).setCell ⟨gb141, 3, none⟩ (.int .i64 (Go.bits .and .i64 a0_2 3))).setCell ⟨gb141, 4, none⟩ (.bool a0_3)).setCell ⟨gb141, 5, none⟩ (.int .u64 0)).setCell ⟨gb141, 6, none⟩ (.int .u64 0)).setCell ⟨gb141, 1, none⟩ (.int .i64 0)).heap[gb137]? = some (.cells #[.int .i64 a0_0, .int .i64 a0_1, .int .i64 a0_2, .bool a0_3, .int .u64 a0_4, .int .u64 a0_5] 24 (0, 0))) := ⟨by (with_reducible repeat (first | refine blk_drewN ?_ _ | refine blk_drew ?_ | refine blk_alloc ?_ _)); refine blk_far ?_ NB137_141.out _; (with_reducible repeat (first | refine blk_drewN ?_ _ | refine blk_drew ?_ | refine blk_alloc ?_ _)); refine blk_far ?_ NB137_141.out _; (with_reducible repeat (first | refine blk_drewN ?_ _ | refine blk_drew ?_ | refine blk_alloc ?_ _)); refine blk_far ?_ NB137_141.out _; (with_reducible repeat (first | refine blk_drewN ?_ _ | refine blk_drew ?_ | refine blk_alloc ?_ _)); refine blk_far ?_ NB137_141.out _; (with_reducible repeat (first | refine blk_drewN ?_ _ | refine blk_drew ?_ | refine blk_alloc ?_ _)); refine blk_far ?_ NB137_141.out _; (with_reducible repeat (first | refine blk_drewN ?_ _ | refine blk_drew ?_ | refine blk_alloc ?_ _)); refine blk_far ?_ NB137_141.out _; (with_reducible repeat (first | refine blk_drewN ?_ _ | refine blk_drew ?_ | refine blk_alloc ?_ _)); refine blk_far ?_ NB137_141.out _; (with_reducible repeat (first | refine blk_drewN ?_ _ | refine blk_drew ?_ | refine blk_alloc ?_ _)); refine blk_far ?_ NB137_141.out _; (with_reducible repeat (first | refine blk_drewN ?_ _ | refine blk_drew ?_ | refine blk_alloc ?_ _)); exact BK137.out⟩
        have n1_ : Aside0 (((((((((w22.setCell ⟨gb141, 0, none⟩ (.string (⟨#[]⟩ : ByteArray))).setCell ⟨gb141, 1, none⟩ (.int .i64 x140001_3)).setCell ⟨gb141, 2, none⟩ (.int .i64 (Go.bits .and .i64 a0_1 15))).setCell ⟨gb141, 3, none⟩ (.int .i64 (Go.bits .and .i64 a0_2 3))).setCell ⟨gb141, 4, none⟩ (.bool a0_3)).setCell ⟨gb141, 5, none⟩ (.int .u64 0)).setCell ⟨gb141, 6, none⟩ (.int .u64 0)).setCell ⟨gb141, 1, none⟩ (.int .i64 0)).heap[gb139]? = some (.cells #[.string (⟨#[]⟩ : ByteArray), .int .i64 x140001_3, .int .i64 (Go.bits .and .i64 a0_1 15), .int .i64 (Go.bits .and .i64 a0_2 3), .bool a0_3, .int .u64 0, .int .u64 0] 28 (0, 0))) := ⟨by (with_reducible repeat (first | refine blk_drewN ?_ _ | refine blk_drew ?_ | refine blk_alloc ?_ _)); refine blk_far ?_ NB139_141.out _; (with_reducible repeat (first | refine blk_drewN ?_ _ | refine blk_drew ?_ | refine blk_alloc ?_ _)); refine blk_far ?_ NB139_141.out _; (with_reducible repeat (first | refine blk_drewN ?_ _ | refine blk_drew ?_ | refine blk_alloc ?_ _)); refine blk_far ?_ NB139_141.out _; (with_reducible repeat (first | refine blk_drewN ?_ _ | refine blk_drew ?_ | refine blk_alloc ?_ _)); refine blk_far ?_ NB139_141.out _; (with_reducible repeat (first | refine blk_drewN ?_ _ | refine blk_drew ?_ | refine blk_alloc ?_ _)); refine blk_far ?_ NB139_141.out _; (with_reducible repeat (first | refine blk_drewN ?_ _ | refine blk_drew ?_ | refine blk_alloc ?_ _)); refine blk_far ?_ NB139_141.out _; (with_reducible repeat (first | refine blk_drewN ?_ _ | refine blk_drew ?_ | refine blk_alloc ?_ _)); refine blk_far ?_ NB139_141.out _; (with_reducible repeat (first | refine blk_drewN ?_ _ | refine blk_drew ?_ | refine blk_alloc ?_ _)); refine blk_far ?_ NB139_141.out _; (with_reducible repeat (first | refine blk_drewN ?_ _ | refine blk_drew ?_ | refine blk_alloc ?_ _)); exact BK139.out⟩
        have n2_ : Aside0 (((((((((w22.setCell ⟨gb141, 0, none⟩ (.string (⟨#[]⟩ : ByteArray))).setCell ⟨gb141, 1, none⟩ (.int .i64 x140001_3)).setCell ⟨gb141, 2, none⟩ (.int .i64 (Go.bits .and .i64 a0_1 15))).setCell ⟨gb141, 3, none⟩ (.int .i64 (Go.bits .and .i64 a0_2 3))).setCell ⟨gb141, 4, none⟩ (.bool a0_3)).setCell ⟨gb141, 5, none⟩ (.int .u64 0)).setCell ⟨gb141, 6, none⟩ (.int .u64 0)).setCell ⟨gb141, 1, none⟩ (.int .i64 0)).heap[gb140]? = some (.cells #[.string (⟨#[]⟩ : ByteArray), .int .i64 (wrap64 (3 - x140001_3)), .int .i64 (Go.bits .and .i64 a0_1 15), .int .i64 (Go.bits .and .i64 a0_2 3), .bool a0_3, .int .u64 0, .int .u64 0] 28 (0, 0))) := ⟨by (with_reducible repeat (first | refine blk_drewN ?_ _ | refine blk_drew ?_ | refine blk_alloc ?_ _)); refine blk_far ?_ NB140_141.out _; (with_reducible repeat (first | refine blk_drewN ?_ _ | refine blk_drew ?_ | refine blk_alloc ?_ _)); refine blk_far ?_ NB140_141.out _; (with_reducible repeat (first | refine blk_drewN ?_ _ | refine blk_drew ?_ | refine blk_alloc ?_ _)); refine blk_far ?_ NB140_141.out _; (with_reducible repeat (first | refine blk_drewN ?_ _ | refine blk_drew ?_ | refine blk_alloc ?_ _)); refine blk_far ?_ NB140_141.out _; (with_reducible repeat (first | refine blk_drewN ?_ _ | refine blk_drew ?_ | refine blk_alloc ?_ _)); refine blk_far ?_ NB140_141.out _; (with_reducible repeat (first | refine blk_drewN ?_ _ | refine blk_drew ?_ | refine blk_alloc ?_ _)); refine blk_far ?_ NB140_141.out _; (with_reducible repeat (first | refine blk_drewN ?_ _ | refine blk_drew ?_ | refine blk_alloc ?_ _)); refine blk_far ?_ NB140_141.out _; (with_reducible repeat (first | refine blk_drewN ?_ _ | refine blk_drew ?_ | refine blk_alloc ?_ _)); refine blk_far ?_ NB140_141.out _; (with_reducible repeat (first | refine blk_drewN ?_ _ | refine blk_drew ?_ | refine blk_alloc ?_ _)); exact BK140.out⟩
        have n3_ : Aside0 (((((((((w22.setCell ⟨gb141, 0, none⟩ (.string (⟨#[]⟩ : ByteArray))).setCell ⟨gb141, 1, none⟩ (.int .i64 x140001_3)).setCell ⟨gb141, 2, none⟩ (.int .i64 (Go.bits .and .i64 a0_1 15))).setCell ⟨gb141, 3, none⟩ (.int .i64 (Go.bits .and .i64 a0_2 3))).setCell ⟨gb141, 4, none⟩ (.bool a0_3)).setCell ⟨gb141, 5, none⟩ (.int .u64 0)).setCell ⟨gb141, 6, none⟩ (.int .u64 0)).setCell ⟨gb141, 1, none⟩ (.int .i64 0)).heap[gb141]? = some (.cells #[.string (⟨#[]⟩ : ByteArray), .int .i64 0, .int .i64 (Go.bits .and .i64 a0_1 15), .int .i64 (Go.bits .and .i64 a0_2 3), .bool a0_3, .int .u64 0, .int .u64 0] 28 (0, 0))) := ⟨by (with_reducible repeat (first | refine blk_drewN ?_ _ | refine blk_drew ?_ | refine blk_alloc ?_ _)); refine blk_put (cs := #[.string (⟨#[]⟩ : ByteArray), .int .i64 x140001_3, .int .i64 (Go.bits .and .i64 a0_1 15), .int .i64 (Go.bits .and .i64 a0_2 3), .bool a0_3, .int .u64 0, .int .u64 0]) ?_ 1 _ rfl; (with_reducible repeat (first | refine blk_drewN ?_ _ | refine blk_drew ?_ | refine blk_alloc ?_ _)); refine blk_put (cs := #[.string (⟨#[]⟩ : ByteArray), .int .i64 x140001_3, .int .i64 (Go.bits .and .i64 a0_1 15), .int .i64 (Go.bits .and .i64 a0_2 3), .bool a0_3, .int .u64 0, .int .u64 0]) ?_ 6 _ rfl; (with_reducible repeat (first | refine blk_drewN ?_ _ | refine blk_drew ?_ | refine blk_alloc ?_ _)); refine blk_put (cs := #[.string (⟨#[]⟩ : ByteArray), .int .i64 x140001_3, .int .i64 (Go.bits .and .i64 a0_1 15), .int .i64 (Go.bits .and .i64 a0_2 3), .bool a0_3, .int .u64 0, .int .u64 0]) ?_ 5 _ rfl; (with_reducible repeat (first | refine blk_drewN ?_ _ | refine blk_drew ?_ | refine blk_alloc ?_ _)); refine blk_put (cs := #[.string (⟨#[]⟩ : ByteArray), .int .i64 x140001_3, .int .i64 (Go.bits .and .i64 a0_1 15), .int .i64 (Go.bits .and .i64 a0_2 3), .bool false, .int .u64 0, .int .u64 0]) ?_ 4 _ rfl; (with_reducible repeat (first | refine blk_drewN ?_ _ | refine blk_drew ?_ | refine blk_alloc ?_ _)); refine blk_put (cs := #[.string (⟨#[]⟩ : ByteArray), .int .i64 x140001_3, .int .i64 (Go.bits .and .i64 a0_1 15), .int .i64 0, .bool false, .int .u64 0, .int .u64 0]) ?_ 3 _ rfl; (with_reducible repeat (first | refine blk_drewN ?_ _ | refine blk_drew ?_ | refine blk_alloc ?_ _)); refine blk_put (cs := #[.string (⟨#[]⟩ : ByteArray), .int .i64 x140001_3, .int .i64 0, .int .i64 0, .bool false, .int .u64 0, .int .u64 0]) ?_ 2 _ rfl; (with_reducible repeat (first | refine blk_drewN ?_ _ | refine blk_drew ?_ | refine blk_alloc ?_ _)); refine blk_put (cs := #[.string (⟨#[]⟩ : ByteArray), .int .i64 0, .int .i64 0, .int .i64 0, .bool false, .int .u64 0, .int .u64 0]) ?_ 1 _ rfl; (with_reducible repeat (first | refine blk_drewN ?_ _ | refine blk_drew ?_ | refine blk_alloc ?_ _)); refine blk_put (cs := #[.string (⟨#[]⟩ : ByteArray), .int .i64 0, .int .i64 0, .int .i64 0, .bool false, .int .u64 0, .int .u64 0]) ?_ 0 _ rfl; (with_reducible repeat (first | refine blk_drewN ?_ _ | refine blk_drew ?_ | refine blk_alloc ?_ _)); exact BK141.out⟩
        have n4_ : Aside0 (Below w.heap.size w ((((((((w22.setCell ⟨gb141, 0, none⟩ (.string (⟨#[]⟩ : ByteArray))).setCell ⟨gb141, 1, none⟩ (.int .i64 x140001_3)).setCell ⟨gb141, 2, none⟩ (.int .i64 (Go.bits .and .i64 a0_1 15))).setCell ⟨gb141, 3, none⟩ (.int .i64 (Go.bits .and .i64 a0_2 3))).setCell ⟨gb141, 4, none⟩ (.bool a0_3)).setCell ⟨gb141, 5, none⟩ (.int .u64 0)).setCell ⟨gb141, 6, none⟩ (.int .u64 0)).setCell ⟨gb141, 1, none⟩ (.int .i64 0))) := ⟨by repeat (first | (with_reducible first | exact HB.out | apply below_alloc | apply pw_below_drewN | apply below_drew1 | refine below_set ?_ GE137.out | refine below_set ?_ GE139.out | refine below_set ?_ GE140.out | refine below_set ?_ GE141.out) | exact HB.out)⟩
        (try clear BK137)
        (try clear BK139)
        (try clear BK140)
        (try clear BK141)
        (try clear HB)
        generalize ((((((((w22.setCell ⟨gb141, 0, none⟩ (.string (⟨#[]⟩ : ByteArray))).setCell ⟨gb141, 1, none⟩ (.int .i64 x140001_3)).setCell ⟨gb141, 2, none⟩ (.int .i64 (Go.bits .and .i64 a0_1 15))).setCell ⟨gb141, 3, none⟩ (.int .i64 (Go.bits .and .i64 a0_2 3))).setCell ⟨gb141, 4, none⟩ (.bool a0_3)).setCell ⟨gb141, 5, none⟩ (.int .u64 0)).setCell ⟨gb141, 6, none⟩ (.int .u64 0)).setCell ⟨gb141, 1, none⟩ (.int .i64 0)) = w45 at n0_ n1_ n2_ n3_ n4_ ⊢
        have BK137 := n0_
        have BK139 := n1_
        have BK140 := n2_
        have BK141 := n3_
        have HB := n4_
        clear n0_ n1_ n2_ n3_ n4_
        have n0_ := Aside0.mk (blk_drew BK137.out)
        have n1_ := Aside0.mk (blk_drew BK139.out)
        have n2_ := Aside0.mk (blk_drew BK140.out)
        have n3_ := Aside0.mk (blk_drew BK141.out)
        have n4_ := Aside0.mk (below_drew1 HB.out)
        clear BK137
        clear BK139
        clear BK140
        clear BK141
        clear HB
        have BK137 := n0_
        have BK139 := n1_
        have BK140 := n2_
        have BK141 := n3_
        have HB := n4_
        clear n0_ n1_ n2_ n3_ n4_
        refine start_ (n := 23) (S := fun w' => w'.cell? ⟨gb139, 0, none⟩ = some (.string (⟨#[]⟩ : ByteArray)) ∧ w'.cell? ⟨gb139, 1, none⟩ = some (.int .i64 x140001_3) ∧ w'.cell? ⟨gb139, 2, none⟩ = some (.int .i64 (Go.bits .and .i64 a0_1 15)) ∧ w'.cell? ⟨gb139, 3, none⟩ = some (.int .i64 (Go.bits .and .i64 a0_2 3)) ∧ w'.cell? ⟨gb139, 4, none⟩ = some (.bool a0_3) ∧ w'.cell? ⟨gb139, 5, none⟩ = some (.int .u64 0) ∧ w'.cell? ⟨gb139, 6, none⟩ = some (.int .u64 0) ∧ w'.cell? ⟨gb140, 0, none⟩ = some (.string (⟨#[]⟩ : ByteArray)) ∧ w'.cell? ⟨gb140, 1, none⟩ = some (.int .i64 (wrap64 (3 - x140001_3))) ∧ w'.cell? ⟨gb140, 2, none⟩ = some (.int .i64 (Go.bits .and .i64 a0_1 15)) ∧ w'.cell? ⟨gb140, 3, none⟩ = some (.int .i64 (Go.bits .and .i64 a0_2 3)) ∧ w'.cell? ⟨gb140, 4, none⟩ = some (.bool a0_3) ∧ w'.cell? ⟨gb140, 5, none⟩ = some (.int .u64 0) ∧ w'.cell? ⟨gb140, 6, none⟩ = some (.int .u64 0) ∧ w'.cell? ⟨gb141, 0, none⟩ = some (.string (⟨#[]⟩ : ByteArray)) ∧ w'.cell? ⟨gb141, 1, none⟩ = some (.int .i64 0) ∧ w'.cell? ⟨gb141, 2, none⟩ = some (.int .i64 (Go.bits .and .i64 a0_1 15)) ∧ w'.cell? ⟨gb141, 3, none⟩ = some (.int .i64 (Go.bits .and .i64 a0_2 3)) ∧ w'.cell? ⟨gb141, 4, none⟩ = some (.bool a0_3) ∧ w'.cell? ⟨gb141, 5, none⟩ = some (.int .u64 0) ∧ w'.cell? ⟨gb141, 6, none⟩ = some (.int .u64 0)) (ds := []) #[false,false,false,false,false,false,false,false,false,false,false,false,false,false,false,false,false,false,false,false,false,false,false] (by kernel_rfl) rfl rfl ⟨(blk_cell BK139.out 0).trans rfl, (blk_cell BK139.out 1).trans rfl, (blk_cell BK139.out 2).trans rfl, (blk_cell BK139.out 3).trans rfl, (blk_cell BK139.out 4).trans rfl, (blk_cell BK139.out 5).trans rfl, (blk_cell BK139.out 6).trans rfl, (blk_cell BK140.out 0).trans rfl, (blk_cell BK140.out 1).trans rfl, (blk_cell BK140.out 2).trans rfl, (blk_cell BK140.out 3).trans rfl, (blk_cell BK140.out 4).trans rfl, (blk_cell BK140.out 5).trans rfl, (blk_cell BK140.out 6).trans rfl, (blk_cell BK141.out 0).trans rfl, (blk_cell BK141.out 1).trans rfl, (blk_cell BK141.out 2).trans rfl, (blk_cell BK141.out 3).trans rfl, (blk_cell BK141.out 4).trans rfl, (blk_cell BK141.out 5).trans rfl, (blk_cell BK141.out 6).trans rfl⟩ (fun hHeld => ?_); refine with_tabW turnbucklelaw11_SymBinds.tab10 turnbucklelaw11_SymBinds.bits10 (fun HT_ HW_ => ?_)
        generalize w45.drew = w46 at BK137 BK139 BK140 BK141 HB hHeld ⊢
        refine take_ (i := 0) (N := some 33) (v:=?_) (a':=?_) #[true,false,false,false,false,false,false,false,false,false,false,false,false,false,false,false,false,false,false,false,false,false,false] rfl rfl (take_ofW HT_.out HW_.out (by kernel_rfl)) (fun _ _ _ h=>h) (Or.inl ⟨by rfl, ?_⟩) hHeld ?_ ?_
        rotate_left
        ·rintro w' ⟨s0, s1, s2, s3, s4, s5, s6, s7, s8, s9, s10, s11, s12, s13, s14, s15, s16, s17, s18, s19, s20⟩
         go_simp
         with_reducible rfl
        rotate_left
        ·simp only [Act.put,lz1,lz2,lz3,i64_w,i32_w]
         rfl
        refine take_ (i := 2) (N := some 35) (v:=?_) (a':=?_) #[true,false,true,false,false,false,false,false,false,false,false,false,false,false,false,false,false,false,false,false,false,false,false] rfl rfl (take_ofW HT_.out HW_.out (by kernel_rfl)) (fun _ _ _ h=>h) (Or.inl ⟨by rfl, ?_⟩) hHeld ?_ ?_
        rotate_left
        ·rintro w' ⟨s0, s1, s2, s3, s4, s5, s6, s7, s8, s9, s10, s11, s12, s13, s14, s15, s16, s17, s18, s19, s20⟩
         go_simp
         with_reducible rfl
        rotate_left
        ·simp only [Act.put,lz1,lz2,lz3,i64_w,i32_w]
         rfl
        refine one_ (i := 1) (N := some 34) #[true,true,true,false,false,false,false,false,false,false,false,false,false,false,false,false,false,false,false,false,false,false,false] rfl rfl (one_of HT_.out (by kernel_rfl)) (by decide) (fun K hK => ?_)
        refine goes_ Try.func14 (by kernel_rfl) rfl #[.agg #[.string (⟨#[]⟩ : ByteArray), .int .i64 x140001_3, .int .i64 (Go.bits .and .i64 a0_1 15), .int .i64 (Go.bits .and .i64 a0_2 3), .bool a0_3, .int .u64 0, .int .u64 0]] (by rfl) rfl rfl (by (try simp only [List.map_toArray, List.map_cons, List.map_nil]); first | done | rfl | (simp only [List.length_drop, List.length_take]; rfl)) ?_
        with_reducible refine (sym_Symbol_Exported.calls (⟨#[]⟩ : ByteArray) x140001_3 (Go.bits .and .i64 a0_1 15) (Go.bits .and .i64 a0_2 3) a0_3 0 0 t142 _ A27.out).mono ?_
        rintro e w47 ⟨rfl, hb⟩
        refine ⟨_, rfl, ?_⟩
        have n0_ := Aside0.mk (blk_below (g := gb137) (o := .cells #[.int .i64 a0_0, .int .i64 a0_1, .int .i64 a0_2, .bool a0_3, .int .u64 a0_4, .int .u64 a0_5] 24 (0, 0)) (by (with_reducible repeat (first | refine blk_drewN ?_ _ | refine blk_drew ?_ | refine blk_alloc ?_ _)); exact BK137.out) hb)
        have n1_ := Aside0.mk (blk_below (g := gb139) (o := .cells #[.string (⟨#[]⟩ : ByteArray), .int .i64 x140001_3, .int .i64 (Go.bits .and .i64 a0_1 15), .int .i64 (Go.bits .and .i64 a0_2 3), .bool a0_3, .int .u64 0, .int .u64 0] 28 (0, 0)) (by (with_reducible repeat (first | refine blk_drewN ?_ _ | refine blk_drew ?_ | refine blk_alloc ?_ _)); exact BK139.out) hb)
        have n2_ := Aside0.mk (blk_below (g := gb140) (o := .cells #[.string (⟨#[]⟩ : ByteArray), .int .i64 (wrap64 (3 - x140001_3)), .int .i64 (Go.bits .and .i64 a0_1 15), .int .i64 (Go.bits .and .i64 a0_2 3), .bool a0_3, .int .u64 0, .int .u64 0] 28 (0, 0)) (by (with_reducible repeat (first | refine blk_drewN ?_ _ | refine blk_drew ?_ | refine blk_alloc ?_ _)); exact BK140.out) hb)
        have n3_ := Aside0.mk (blk_below (g := gb141) (o := .cells #[.string (⟨#[]⟩ : ByteArray), .int .i64 0, .int .i64 (Go.bits .and .i64 a0_1 15), .int .i64 (Go.bits .and .i64 a0_2 3), .bool a0_3, .int .u64 0, .int .u64 0] 28 (0, 0)) (by (with_reducible repeat (first | refine blk_drewN ?_ _ | refine blk_drew ?_ | refine blk_alloc ?_ _)); exact BK141.out) hb)
        have n4_ := Aside0.mk (below_step (by repeat (first | (with_reducible first | exact HB.out | apply below_alloc | apply pw_below_drewN | apply below_drew1 | refine below_set ?_ GE137.out | refine below_set ?_ GE139.out | refine below_set ?_ GE140.out | refine below_set ?_ GE141.out) | exact HB.out)) hb)
        clear BK137
        clear BK139
        clear BK140
        clear BK141
        clear HB
        have BK137 := n0_
        have BK139 := n1_
        have BK140 := n2_
        have BK141 := n3_
        have HB := n4_
        clear n0_ n1_ n2_ n3_ n4_
        (try clear hb)
        (try clear hb2)
        (try clear hk)
        (try clear hi)
        refine hK.out _ _ ⟨(blk_cell BK139.out 0).trans rfl, (blk_cell BK139.out 1).trans rfl, (blk_cell BK139.out 2).trans rfl, (blk_cell BK139.out 3).trans rfl, (blk_cell BK139.out 4).trans rfl, (blk_cell BK139.out 5).trans rfl, (blk_cell BK139.out 6).trans rfl, (blk_cell BK140.out 0).trans rfl, (blk_cell BK140.out 1).trans rfl, (blk_cell BK140.out 2).trans rfl, (blk_cell BK140.out 3).trans rfl, (blk_cell BK140.out 4).trans rfl, (blk_cell BK140.out 5).trans rfl, (blk_cell BK140.out 6).trans rfl, (blk_cell BK141.out 0).trans rfl, (blk_cell BK141.out 1).trans rfl, (blk_cell BK141.out 2).trans rfl, (blk_cell BK141.out 3).trans rfl, (blk_cell BK141.out 4).trans rfl, (blk_cell BK141.out 5).trans rfl, (blk_cell BK141.out 6).trans rfl⟩ (fun hHeld => ?_)
        clear hK K
        refine norm_ (a' := ?_) ?_ ?_
        rotate_left
        ·show Act.put _ (some 34) _ = _
         simp only [Act.put,lz1,lz2,lz3,i64_w,i32_w]
         rfl
        refine one_ (i := 3) (N := some 36) #[true,true,true,true,false,false,false,false,false,false,false,false,false,false,false,false,false,false,false,false,false,false,false] rfl rfl (one_of HT_.out (by kernel_rfl)) (by decide) (fun K hK => ?_)
        refine goes_ Try.func14 (by kernel_rfl) rfl #[.agg #[.string (⟨#[]⟩ : ByteArray), .int .i64 (wrap64 (3 - x140001_3)), .int .i64 (Go.bits .and .i64 a0_1 15), .int .i64 (Go.bits .and .i64 a0_2 3), .bool a0_3, .int .u64 0, .int .u64 0]] (by rfl) rfl rfl (by (try simp only [List.map_toArray, List.map_cons, List.map_nil]); first | done | rfl | (simp only [List.length_drop, List.length_take]; rfl)) ?_
        with_reducible refine (sym_Symbol_Exported.calls (⟨#[]⟩ : ByteArray) (wrap64 (3 - x140001_3)) (Go.bits .and .i64 a0_1 15) (Go.bits .and .i64 a0_2 3) a0_3 0 0 t143 _ A28.out).mono ?_
        rintro e w48 ⟨rfl, hb⟩
        refine ⟨_, rfl, ?_⟩
        have n0_ := Aside0.mk (blk_below (g := gb137) (o := .cells #[.int .i64 a0_0, .int .i64 a0_1, .int .i64 a0_2, .bool a0_3, .int .u64 a0_4, .int .u64 a0_5] 24 (0, 0)) (by (with_reducible repeat (first | refine blk_drewN ?_ _ | refine blk_drew ?_ | refine blk_alloc ?_ _)); exact BK137.out) hb)
        have n1_ := Aside0.mk (blk_below (g := gb139) (o := .cells #[.string (⟨#[]⟩ : ByteArray), .int .i64 x140001_3, .int .i64 (Go.bits .and .i64 a0_1 15), .int .i64 (Go.bits .and .i64 a0_2 3), .bool a0_3, .int .u64 0, .int .u64 0] 28 (0, 0)) (by (with_reducible repeat (first | refine blk_drewN ?_ _ | refine blk_drew ?_ | refine blk_alloc ?_ _)); exact BK139.out) hb)
        have n2_ := Aside0.mk (blk_below (g := gb140) (o := .cells #[.string (⟨#[]⟩ : ByteArray), .int .i64 (wrap64 (3 - x140001_3)), .int .i64 (Go.bits .and .i64 a0_1 15), .int .i64 (Go.bits .and .i64 a0_2 3), .bool a0_3, .int .u64 0, .int .u64 0] 28 (0, 0)) (by (with_reducible repeat (first | refine blk_drewN ?_ _ | refine blk_drew ?_ | refine blk_alloc ?_ _)); exact BK140.out) hb)
        have n3_ := Aside0.mk (blk_below (g := gb141) (o := .cells #[.string (⟨#[]⟩ : ByteArray), .int .i64 0, .int .i64 (Go.bits .and .i64 a0_1 15), .int .i64 (Go.bits .and .i64 a0_2 3), .bool a0_3, .int .u64 0, .int .u64 0] 28 (0, 0)) (by (with_reducible repeat (first | refine blk_drewN ?_ _ | refine blk_drew ?_ | refine blk_alloc ?_ _)); exact BK141.out) hb)
        have n4_ := Aside0.mk (below_step (by repeat (first | (with_reducible first | exact HB.out | apply below_alloc | apply pw_below_drewN | apply below_drew1 | refine below_set ?_ GE137.out | refine below_set ?_ GE139.out | refine below_set ?_ GE140.out | refine below_set ?_ GE141.out) | exact HB.out)) hb)
        clear BK137
        clear BK139
        clear BK140
        clear BK141
        clear HB
        have BK137 := n0_
        have BK139 := n1_
        have BK140 := n2_
        have BK141 := n3_
        have HB := n4_
        clear n0_ n1_ n2_ n3_ n4_
        (try clear hb)
        (try clear hb2)
        (try clear hk)
        (try clear hi)
        refine hK.out _ _ ⟨(blk_cell BK139.out 0).trans rfl, (blk_cell BK139.out 1).trans rfl, (blk_cell BK139.out 2).trans rfl, (blk_cell BK139.out 3).trans rfl, (blk_cell BK139.out 4).trans rfl, (blk_cell BK139.out 5).trans rfl, (blk_cell BK139.out 6).trans rfl, (blk_cell BK140.out 0).trans rfl, (blk_cell BK140.out 1).trans rfl, (blk_cell BK140.out 2).trans rfl, (blk_cell BK140.out 3).trans rfl, (blk_cell BK140.out 4).trans rfl, (blk_cell BK140.out 5).trans rfl, (blk_cell BK140.out 6).trans rfl, (blk_cell BK141.out 0).trans rfl, (blk_cell BK141.out 1).trans rfl, (blk_cell BK141.out 2).trans rfl, (blk_cell BK141.out 3).trans rfl, (blk_cell BK141.out 4).trans rfl, (blk_cell BK141.out 5).trans rfl, (blk_cell BK141.out 6).trans rfl⟩ (fun hHeld => ?_)
        clear hK K
        refine norm_ (a' := ?_) ?_ ?_
        rotate_left
        ·show Act.put _ (some 36) _ = _
         simp only [Act.put,lz1,lz2,lz3,i64_w,i32_w]
         rfl
        refine pure_ (i:=4) (N := some 37) (v:=?_) (a':=?_) #[true,true,true,true,true,false,false,false,false,false,false,false,false,false,false,false,false,false,false,false,false,false,false] rfl rfl (any_of HT_.out (by kernel_rfl)) (fun _ _ _ h=>h) (Or.inl ⟨by rfl, ?_⟩) ?_ ?_
        rotate_left
        ·intro w'
         go_simp
         first | with_reducible rfl | (refine Eq.trans (b := .ok (.value (.bool true)) w') ?_ (by with_reducible rfl); (repeat' (first | with_reducible rfl | split)); all_goals (first | rfl | (exfalso; simp_all; done))) | (refine Eq.trans (b := .ok (.value (.bool false)) w') ?_ (by with_reducible rfl); (repeat' (first | with_reducible rfl | split)); all_goals (first | rfl | (exfalso; simp_all; done)))
        rotate_left
        ·simp only [Act.put,lz1,lz2,lz3,i64_w,i32_w]
         rfl
        refine pure_ (i:=5) (N := some 38) (v:=?_) (a':=?_) #[true,true,true,true,true,true,false,false,false,false,false,false,false,false,false,false,false,false,false,false,false,false,false] rfl rfl (any_of HT_.out (by kernel_rfl)) (fun _ _ _ h=>h) (Or.inl ⟨by rfl, ?_⟩) ?_ ?_
        rotate_left
        ·intro w'
         go_simp
         with_reducible rfl
        rotate_left
        ·simp only [Act.put,lz1,lz2,lz3,i64_w,i32_w]
         rfl
        refine take_ (i := 6) (N := some 39) (v:=?_) (a':=?_) #[true,true,true,true,true,true,true,false,false,false,false,false,false,false,false,false,false,false,false,false,false,false,false] rfl rfl (take_ofW HT_.out HW_.out (by kernel_rfl)) (fun _ _ _ h=>h) (Or.inl ⟨by rfl, ?_⟩) hHeld ?_ ?_
        rotate_left
        ·rintro w' ⟨s0, s1, s2, s3, s4, s5, s6, s7, s8, s9, s10, s11, s12, s13, s14, s15, s16, s17, s18, s19, s20⟩
         go_simp
         with_reducible rfl
        rotate_left
        ·simp only [Act.put,lz1,lz2,lz3,i64_w,i32_w]
         rfl
        refine take_ (i := 8) (N := some 41) (v:=?_) (a':=?_) #[true,true,true,true,true,true,true,false,true,false,false,false,false,false,false,false,false,false,false,false,false,false,false] rfl rfl (take_ofW HT_.out HW_.out (by kernel_rfl)) (fun _ _ _ h=>h) (Or.inl ⟨by rfl, ?_⟩) hHeld ?_ ?_
        rotate_left
        ·rintro w' ⟨s0, s1, s2, s3, s4, s5, s6, s7, s8, s9, s10, s11, s12, s13, s14, s15, s16, s17, s18, s19, s20⟩
         go_simp
         with_reducible rfl
        rotate_left
        ·simp only [Act.put,lz1,lz2,lz3,i64_w,i32_w]
         rfl
        refine one_ (i := 7) (N := some 40) #[true,true,true,true,true,true,true,true,true,false,false,false,false,false,false,false,false,false,false,false,false,false,false] rfl rfl (one_of HT_.out (by kernel_rfl)) (by decide) (fun K hK => ?_)
        refine goes_ Try.func15 (by kernel_rfl) rfl #[.agg #[.string (⟨#[]⟩ : ByteArray), .int .i64 x140001_3, .int .i64 (Go.bits .and .i64 a0_1 15), .int .i64 (Go.bits .and .i64 a0_2 3), .bool a0_3, .int .u64 0, .int .u64 0]] (by rfl) rfl rfl (by (try simp only [List.map_toArray, List.map_cons, List.map_nil]); first | done | rfl | (simp only [List.length_drop, List.length_take]; rfl)) ?_
        with_reducible refine (sym_Symbol_Own.calls (⟨#[]⟩ : ByteArray) x140001_3 (Go.bits .and .i64 a0_1 15) (Go.bits .and .i64 a0_2 3) a0_3 0 0 t144 _ A34.out).mono ?_
        rintro e w49 ⟨rfl, hb⟩
        refine ⟨_, rfl, ?_⟩
        have n0_ := Aside0.mk (blk_below (g := gb137) (o := .cells #[.int .i64 a0_0, .int .i64 a0_1, .int .i64 a0_2, .bool a0_3, .int .u64 a0_4, .int .u64 a0_5] 24 (0, 0)) (by (with_reducible repeat (first | refine blk_drewN ?_ _ | refine blk_drew ?_ | refine blk_alloc ?_ _)); exact BK137.out) hb)
        have n1_ := Aside0.mk (blk_below (g := gb139) (o := .cells #[.string (⟨#[]⟩ : ByteArray), .int .i64 x140001_3, .int .i64 (Go.bits .and .i64 a0_1 15), .int .i64 (Go.bits .and .i64 a0_2 3), .bool a0_3, .int .u64 0, .int .u64 0] 28 (0, 0)) (by (with_reducible repeat (first | refine blk_drewN ?_ _ | refine blk_drew ?_ | refine blk_alloc ?_ _)); exact BK139.out) hb)
        have n2_ := Aside0.mk (blk_below (g := gb140) (o := .cells #[.string (⟨#[]⟩ : ByteArray), .int .i64 (wrap64 (3 - x140001_3)), .int .i64 (Go.bits .and .i64 a0_1 15), .int .i64 (Go.bits .and .i64 a0_2 3), .bool a0_3, .int .u64 0, .int .u64 0] 28 (0, 0)) (by (with_reducible repeat (first | refine blk_drewN ?_ _ | refine blk_drew ?_ | refine blk_alloc ?_ _)); exact BK140.out) hb)
        have n3_ := Aside0.mk (blk_below (g := gb141) (o := .cells #[.string (⟨#[]⟩ : ByteArray), .int .i64 0, .int .i64 (Go.bits .and .i64 a0_1 15), .int .i64 (Go.bits .and .i64 a0_2 3), .bool a0_3, .int .u64 0, .int .u64 0] 28 (0, 0)) (by (with_reducible repeat (first | refine blk_drewN ?_ _ | refine blk_drew ?_ | refine blk_alloc ?_ _)); exact BK141.out) hb)
        have n4_ := Aside0.mk (below_step (by repeat (first | (with_reducible first | exact HB.out | apply below_alloc | apply pw_below_drewN | apply below_drew1 | refine below_set ?_ GE137.out | refine below_set ?_ GE139.out | refine below_set ?_ GE140.out | refine below_set ?_ GE141.out) | exact HB.out)) hb)
        clear BK137
        clear BK139
        clear BK140
        clear BK141
        clear HB
        have BK137 := n0_
        have BK139 := n1_
        have BK140 := n2_
        have BK141 := n3_
        have HB := n4_
        clear n0_ n1_ n2_ n3_ n4_
        (try clear hb)
        (try clear hb2)
        (try clear hk)
        (try clear hi)
        refine hK.out _ _ ⟨(blk_cell BK139.out 0).trans rfl, (blk_cell BK139.out 1).trans rfl, (blk_cell BK139.out 2).trans rfl, (blk_cell BK139.out 3).trans rfl, (blk_cell BK139.out 4).trans rfl, (blk_cell BK139.out 5).trans rfl, (blk_cell BK139.out 6).trans rfl, (blk_cell BK140.out 0).trans rfl, (blk_cell BK140.out 1).trans rfl, (blk_cell BK140.out 2).trans rfl, (blk_cell BK140.out 3).trans rfl, (blk_cell BK140.out 4).trans rfl, (blk_cell BK140.out 5).trans rfl, (blk_cell BK140.out 6).trans rfl, (blk_cell BK141.out 0).trans rfl, (blk_cell BK141.out 1).trans rfl, (blk_cell BK141.out 2).trans rfl, (blk_cell BK141.out 3).trans rfl, (blk_cell BK141.out 4).trans rfl, (blk_cell BK141.out 5).trans rfl, (blk_cell BK141.out 6).trans rfl⟩ (fun hHeld => ?_)
        clear hK K
        refine norm_ (a' := ?_) ?_ ?_
        rotate_left
        ·show Act.put _ (some 40) _ = _
         simp only [Act.put,lz1,lz2,lz3,i64_w,i32_w]
         rfl
        refine one_ (i := 9) (N := some 42) #[true,true,true,true,true,true,true,true,true,true,false,false,false,false,false,false,false,false,false,false,false,false,false] rfl rfl (one_of HT_.out (by kernel_rfl)) (by decide) (fun K hK => ?_)
        refine goes_ Try.func15 (by kernel_rfl) rfl #[.agg #[.string (⟨#[]⟩ : ByteArray), .int .i64 (wrap64 (3 - x140001_3)), .int .i64 (Go.bits .and .i64 a0_1 15), .int .i64 (Go.bits .and .i64 a0_2 3), .bool a0_3, .int .u64 0, .int .u64 0]] (by rfl) rfl rfl (by (try simp only [List.map_toArray, List.map_cons, List.map_nil]); first | done | rfl | (simp only [List.length_drop, List.length_take]; rfl)) ?_
        with_reducible refine (sym_Symbol_Own.calls (⟨#[]⟩ : ByteArray) (wrap64 (3 - x140001_3)) (Go.bits .and .i64 a0_1 15) (Go.bits .and .i64 a0_2 3) a0_3 0 0 t145 _ A35.out).mono ?_
        rintro e w50 ⟨rfl, hb⟩
        refine ⟨_, rfl, ?_⟩
        have n0_ := Aside0.mk (blk_below (g := gb137) (o := .cells #[.int .i64 a0_0, .int .i64 a0_1, .int .i64 a0_2, .bool a0_3, .int .u64 a0_4, .int .u64 a0_5] 24 (0, 0)) (by (with_reducible repeat (first | refine blk_drewN ?_ _ | refine blk_drew ?_ | refine blk_alloc ?_ _)); exact BK137.out) hb)
        have n1_ := Aside0.mk (blk_below (g := gb139) (o := .cells #[.string (⟨#[]⟩ : ByteArray), .int .i64 x140001_3, .int .i64 (Go.bits .and .i64 a0_1 15), .int .i64 (Go.bits .and .i64 a0_2 3), .bool a0_3, .int .u64 0, .int .u64 0] 28 (0, 0)) (by (with_reducible repeat (first | refine blk_drewN ?_ _ | refine blk_drew ?_ | refine blk_alloc ?_ _)); exact BK139.out) hb)
        have n2_ := Aside0.mk (blk_below (g := gb140) (o := .cells #[.string (⟨#[]⟩ : ByteArray), .int .i64 (wrap64 (3 - x140001_3)), .int .i64 (Go.bits .and .i64 a0_1 15), .int .i64 (Go.bits .and .i64 a0_2 3), .bool a0_3, .int .u64 0, .int .u64 0] 28 (0, 0)) (by (with_reducible repeat (first | refine blk_drewN ?_ _ | refine blk_drew ?_ | refine blk_alloc ?_ _)); exact BK140.out) hb)
        have n3_ := Aside0.mk (blk_below (g := gb141) (o := .cells #[.string (⟨#[]⟩ : ByteArray), .int .i64 0, .int .i64 (Go.bits .and .i64 a0_1 15), .int .i64 (Go.bits .and .i64 a0_2 3), .bool a0_3, .int .u64 0, .int .u64 0] 28 (0, 0)) (by (with_reducible repeat (first | refine blk_drewN ?_ _ | refine blk_drew ?_ | refine blk_alloc ?_ _)); exact BK141.out) hb)
        have n4_ := Aside0.mk (below_step (by repeat (first | (with_reducible first | exact HB.out | apply below_alloc | apply pw_below_drewN | apply below_drew1 | refine below_set ?_ GE137.out | refine below_set ?_ GE139.out | refine below_set ?_ GE140.out | refine below_set ?_ GE141.out) | exact HB.out)) hb)
        clear BK137
        clear BK139
        clear BK140
        clear BK141
        clear HB
        have BK137 := n0_
        have BK139 := n1_
        have BK140 := n2_
        have BK141 := n3_
        have HB := n4_
        clear n0_ n1_ n2_ n3_ n4_
        (try clear hb)
        (try clear hb2)
        (try clear hk)
        (try clear hi)
        refine hK.out _ _ ⟨(blk_cell BK139.out 0).trans rfl, (blk_cell BK139.out 1).trans rfl, (blk_cell BK139.out 2).trans rfl, (blk_cell BK139.out 3).trans rfl, (blk_cell BK139.out 4).trans rfl, (blk_cell BK139.out 5).trans rfl, (blk_cell BK139.out 6).trans rfl, (blk_cell BK140.out 0).trans rfl, (blk_cell BK140.out 1).trans rfl, (blk_cell BK140.out 2).trans rfl, (blk_cell BK140.out 3).trans rfl, (blk_cell BK140.out 4).trans rfl, (blk_cell BK140.out 5).trans rfl, (blk_cell BK140.out 6).trans rfl, (blk_cell BK141.out 0).trans rfl, (blk_cell BK141.out 1).trans rfl, (blk_cell BK141.out 2).trans rfl, (blk_cell BK141.out 3).trans rfl, (blk_cell BK141.out 4).trans rfl, (blk_cell BK141.out 5).trans rfl, (blk_cell BK141.out 6).trans rfl⟩ (fun hHeld => ?_)
        clear hK K
        refine norm_ (a' := ?_) ?_ ?_
        rotate_left
        ·show Act.put _ (some 42) _ = _
         simp only [Act.put,lz1,lz2,lz3,i64_w,i32_w]
         rfl
        refine pure_ (i:=10) (N := some 43) (v:=?_) (a':=?_) #[true,true,true,true,true,true,true,true,true,true,true,false,false,false,false,false,false,false,false,false,false,false,false] rfl rfl (any_of HT_.out (by kernel_rfl)) (fun _ _ _ h=>h) (Or.inl ⟨by rfl, ?_⟩) ?_ ?_
        rotate_left
        ·intro w'
         go_simp
         first | with_reducible rfl | (refine Eq.trans (b := .ok (.value (.bool true)) w') ?_ (by with_reducible rfl); (repeat' (first | with_reducible rfl | split)); all_goals (first | rfl | (exfalso; simp_all; done))) | (refine Eq.trans (b := .ok (.value (.bool false)) w') ?_ (by with_reducible rfl); (repeat' (first | with_reducible rfl | split)); all_goals (first | rfl | (exfalso; simp_all; done)))
        rotate_left
        ·simp only [Act.put,lz1,lz2,lz3,i64_w,i32_w]
         rfl
        refine pure_ (i:=11) (N := some 44) (v:=?_) (a':=?_) #[true,true,true,true,true,true,true,true,true,true,true,true,false,false,false,false,false,false,false,false,false,false,false] rfl rfl (any_of HT_.out (by kernel_rfl)) (fun _ _ _ h=>h) (Or.inl ⟨by rfl, ?_⟩) ?_ ?_
        rotate_left
        ·intro w'
         go_simp
         with_reducible rfl
        rotate_left
        ·simp only [Act.put,lz1,lz2,lz3,i64_w,i32_w]
         rfl
        refine pure_ (i:=12) (N := some 45) (v:=?_) (a':=?_) #[true,true,true,true,true,true,true,true,true,true,true,true,true,false,false,false,false,false,false,false,false,false,false] rfl rfl (any_of HT_.out (by kernel_rfl)) (fun _ _ _ h=>h) (Or.inl ⟨by rfl, ?_⟩) ?_ ?_
        rotate_left
        ·intro w'
         go_simp
         with_reducible rfl
        rotate_left
        ·simp only [Act.put,lz1,lz2,lz3,i64_w,i32_w]
         rfl
        refine take_ (i := 13) (N := some 46) (v:=?_) (a':=?_) #[true,true,true,true,true,true,true,true,true,true,true,true,true,true,false,false,false,false,false,false,false,false,false] rfl rfl (take_ofW HT_.out HW_.out (by kernel_rfl)) (fun _ _ _ h=>h) (Or.inl ⟨by rfl, ?_⟩) hHeld ?_ ?_
        rotate_left
        ·rintro w' ⟨s0, s1, s2, s3, s4, s5, s6, s7, s8, s9, s10, s11, s12, s13, s14, s15, s16, s17, s18, s19, s20⟩
         go_simp
         with_reducible rfl
        rotate_left
        ·simp only [Act.put,lz1,lz2,lz3,i64_w,i32_w]
         rfl
        refine one_ (i := 14) (N := some 47) #[true,true,true,true,true,true,true,true,true,true,true,true,true,true,true,false,false,false,false,false,false,false,false] rfl rfl (one_of HT_.out (by kernel_rfl)) (by decide) (fun K hK => ?_)
        refine goes_ Try.func14 (by kernel_rfl) rfl #[.agg #[.string (⟨#[]⟩ : ByteArray), .int .i64 0, .int .i64 (Go.bits .and .i64 a0_1 15), .int .i64 (Go.bits .and .i64 a0_2 3), .bool a0_3, .int .u64 0, .int .u64 0]] (by rfl) rfl rfl (by (try simp only [List.map_toArray, List.map_cons, List.map_nil]); first | done | rfl | (simp only [List.length_drop, List.length_take]; rfl)) ?_
        with_reducible refine (sym_Symbol_Exported.calls (⟨#[]⟩ : ByteArray) 0 (Go.bits .and .i64 a0_1 15) (Go.bits .and .i64 a0_2 3) a0_3 0 0 true _ A43.out).mono ?_
        rintro e w51 ⟨rfl, hb⟩
        refine ⟨_, rfl, ?_⟩
        have n0_ := Aside0.mk (blk_below (g := gb137) (o := .cells #[.int .i64 a0_0, .int .i64 a0_1, .int .i64 a0_2, .bool a0_3, .int .u64 a0_4, .int .u64 a0_5] 24 (0, 0)) (by (with_reducible repeat (first | refine blk_drewN ?_ _ | refine blk_drew ?_ | refine blk_alloc ?_ _)); exact BK137.out) hb)
        have n1_ := Aside0.mk (blk_below (g := gb139) (o := .cells #[.string (⟨#[]⟩ : ByteArray), .int .i64 x140001_3, .int .i64 (Go.bits .and .i64 a0_1 15), .int .i64 (Go.bits .and .i64 a0_2 3), .bool a0_3, .int .u64 0, .int .u64 0] 28 (0, 0)) (by (with_reducible repeat (first | refine blk_drewN ?_ _ | refine blk_drew ?_ | refine blk_alloc ?_ _)); exact BK139.out) hb)
        have n2_ := Aside0.mk (blk_below (g := gb140) (o := .cells #[.string (⟨#[]⟩ : ByteArray), .int .i64 (wrap64 (3 - x140001_3)), .int .i64 (Go.bits .and .i64 a0_1 15), .int .i64 (Go.bits .and .i64 a0_2 3), .bool a0_3, .int .u64 0, .int .u64 0] 28 (0, 0)) (by (with_reducible repeat (first | refine blk_drewN ?_ _ | refine blk_drew ?_ | refine blk_alloc ?_ _)); exact BK140.out) hb)
        have n3_ := Aside0.mk (blk_below (g := gb141) (o := .cells #[.string (⟨#[]⟩ : ByteArray), .int .i64 0, .int .i64 (Go.bits .and .i64 a0_1 15), .int .i64 (Go.bits .and .i64 a0_2 3), .bool a0_3, .int .u64 0, .int .u64 0] 28 (0, 0)) (by (with_reducible repeat (first | refine blk_drewN ?_ _ | refine blk_drew ?_ | refine blk_alloc ?_ _)); exact BK141.out) hb)
        have n4_ := Aside0.mk (below_step (by repeat (first | (with_reducible first | exact HB.out | apply below_alloc | apply pw_below_drewN | apply below_drew1 | refine below_set ?_ GE137.out | refine below_set ?_ GE139.out | refine below_set ?_ GE140.out | refine below_set ?_ GE141.out) | exact HB.out)) hb)
        clear BK137
        clear BK139
        clear BK140
        clear BK141
        clear HB
        have BK137 := n0_
        have BK139 := n1_
        have BK140 := n2_
        have BK141 := n3_
        have HB := n4_
        clear n0_ n1_ n2_ n3_ n4_
        (try clear hb)
        (try clear hb2)
        (try clear hk)
        (try clear hi)
        refine hK.out _ _ ⟨(blk_cell BK139.out 0).trans rfl, (blk_cell BK139.out 1).trans rfl, (blk_cell BK139.out 2).trans rfl, (blk_cell BK139.out 3).trans rfl, (blk_cell BK139.out 4).trans rfl, (blk_cell BK139.out 5).trans rfl, (blk_cell BK139.out 6).trans rfl, (blk_cell BK140.out 0).trans rfl, (blk_cell BK140.out 1).trans rfl, (blk_cell BK140.out 2).trans rfl, (blk_cell BK140.out 3).trans rfl, (blk_cell BK140.out 4).trans rfl, (blk_cell BK140.out 5).trans rfl, (blk_cell BK140.out 6).trans rfl, (blk_cell BK141.out 0).trans rfl, (blk_cell BK141.out 1).trans rfl, (blk_cell BK141.out 2).trans rfl, (blk_cell BK141.out 3).trans rfl, (blk_cell BK141.out 4).trans rfl, (blk_cell BK141.out 5).trans rfl, (blk_cell BK141.out 6).trans rfl⟩ (fun hHeld => ?_)
        clear hK K
        refine norm_ (a' := ?_) ?_ ?_
        rotate_left
        ·show Act.put _ (some 47) _ = _
         simp only [Act.put,lz1,lz2,lz3,i64_w,i32_w]
         rfl
        refine pure_ (i:=15) (N := some 48) (v:=?_) (a':=?_) #[true,true,true,true,true,true,true,true,true,true,true,true,true,true,true,true,false,false,false,false,false,false,false] rfl rfl (any_of HT_.out (by kernel_rfl)) (fun _ _ _ h=>h) (Or.inl ⟨by rfl, ?_⟩) ?_ ?_
        rotate_left
        ·intro w'
         go_simp
         with_reducible rfl
        rotate_left
        ·simp only [Act.put,lz1,lz2,lz3,i64_w,i32_w]
         rfl
        refine pure_ (i:=16) (N := some 49) (v:=?_) (a':=?_) #[true,true,true,true,true,true,true,true,true,true,true,true,true,true,true,true,true,false,false,false,false,false,false] rfl rfl (any_of HT_.out (by kernel_rfl)) (fun _ _ _ h=>h) (Or.inl ⟨by rfl, ?_⟩) ?_ ?_
        rotate_left
        ·intro w'
         go_simp
         with_reducible rfl
        rotate_left
        ·simp only [Act.put,lz1,lz2,lz3,i64_w,i32_w]
         rfl
        refine pure_ (i:=17) (N := some 50) (v := undef) (a' := ?_) #[true,true,true,true,true,true,true,true,true,true,true,true,true,true,true,true,true,true,false,false,false,false,false] rfl rfl (any_of HT_.out (by kernel_rfl)) (fun _ _ _ h=>h) (Or.inr ⟨by rfl, rfl⟩) ?_ ?_
        rotate_left
        ·simp only [Act.put,lz1,lz2,lz3,i64_w,i32_w]
         rfl
        refine pure_ (i:=18) (N := some 51) (v := undef) (a' := ?_) #[true,true,true,true,true,true,true,true,true,true,true,true,true,true,true,true,true,true,true,false,false,false,false] rfl rfl (any_of HT_.out (by kernel_rfl)) (fun _ _ _ h=>h) (Or.inr ⟨by rfl, rfl⟩) ?_ ?_
        rotate_left
        ·simp only [Act.put,lz1,lz2,lz3,i64_w,i32_w]
         rfl
        refine pure_ (i:=19) (N := some 52) (v := undef) (a' := ?_) #[true,true,true,true,true,true,true,true,true,true,true,true,true,true,true,true,true,true,true,true,false,false,false] rfl rfl (any_of HT_.out (by kernel_rfl)) (fun _ _ _ h=>h) (Or.inr ⟨by rfl, rfl⟩) ?_ ?_
        rotate_left
        ·simp only [Act.put,lz1,lz2,lz3,i64_w,i32_w]
         rfl
        refine pure_ (i:=20) (N := some 53) (v := undef) (a' := ?_) #[true,true,true,true,true,true,true,true,true,true,true,true,true,true,true,true,true,true,true,true,true,false,false] rfl rfl (any_of HT_.out (by kernel_rfl)) (fun _ _ _ h=>h) (Or.inr ⟨by rfl, rfl⟩) ?_ ?_
        rotate_left
        ·simp only [Act.put,lz1,lz2,lz3,i64_w,i32_w]
         rfl
        refine pure_ (i:=21) (N := some 54) (v := undef) (a' := ?_) #[true,true,true,true,true,true,true,true,true,true,true,true,true,true,true,true,true,true,true,true,true,true,false] rfl rfl (any_of HT_.out (by kernel_rfl)) (fun _ _ _ h=>h) (Or.inr ⟨by rfl, rfl⟩) ?_ ?_
        rotate_left
        ·simp only [Act.put,lz1,lz2,lz3,i64_w,i32_w]
         rfl
        refine pure_ (i:=22) (N := some 55) (v:=?_) (a':=?_) #[true,true,true,true,true,true,true,true,true,true,true,true,true,true,true,true,true,true,true,true,true,true,true] rfl rfl (any_of HT_.out (by kernel_rfl)) (fun _ _ _ h=>h) (Or.inl ⟨by rfl, ?_⟩) ?_ ?_
        rotate_left
        ·intro w'
         go_simp
         with_reducible rfl
        rotate_left
        ·simp only [Act.put,lz1,lz2,lz3,i64_w,i32_w]
         rfl
        refine done_ (done_of HT_.out (by kernel_rfl)) ?_
        try go_wp2
        (try subst hji11)
        (try subst hji13)
        go_meet
        case rel => exact ⟨_, (true), (by first | rfl | (simp; done) | (simp [*]; done)), H', ⟨by have := HJ3.out; first | omega | exact Nat.le_refl _⟩, ⟨by (with_reducible repeat (first | refine blk_drewN ?_ _ | refine blk_drew ?_ | refine blk_alloc ?_ _)); exact BK137.out⟩, ⟨by (with_reducible repeat (first | refine blk_drewN ?_ _ | refine blk_drew ?_ | refine blk_alloc ?_ _)); exact BK139.out⟩, ⟨by (with_reducible repeat (first | refine blk_drewN ?_ _ | refine blk_drew ?_ | refine blk_alloc ?_ _)); exact BK140.out⟩, ⟨by (with_reducible repeat (first | refine blk_drewN ?_ _ | refine blk_drew ?_ | refine blk_alloc ?_ _)); exact BK141.out⟩, ⟨by repeat (first | (with_reducible first | exact HB.out | apply below_alloc | apply pw_below_drewN | apply below_drew1 | refine below_set ?_ GE137.out | refine below_set ?_ GE139.out | refine below_set ?_ GE140.out | refine below_set ?_ GE141.out) | exact HB.out)⟩⟩
       ·replace c44 := Bool.eq_false_iff.mpr c44
        subst c44
        have H1 : ((sym_Symbol_Own.f (⟨#[]⟩ : ByteArray) 0 (Go.bits .and .i64 a0_1 15) (Go.bits .and .i64 a0_2 3) a0_3 0 0).bind fun t147 => (turnbucklelaw11_SymBinds.j1 kj3 (t147 != a0_3) (⟨#[]⟩ : ByteArray) x140001_3 (Go.bits .and .i64 a0_1 15) (Go.bits .and .i64 a0_2 3) a0_3 0 0)) = some r := by rw [if_neg (show ¬ (false = true) by decide)] at H; exact H
        clear H
        have H := H1
        clear H1
        replace H := Option.bind_eq_some_iff.mp H
        obtain ⟨t147, A520, H⟩ := H
        replace H : (turnbucklelaw11_SymBinds.j1 kj3 (t147 != a0_3) (⟨#[]⟩ : ByteArray) x140001_3 (Go.bits .and .i64 a0_1 15) (Go.bits .and .i64 a0_2 3) a0_3 0 0) = some r := H
        have A52 := Aside0.mk A520
        clear A520
        have H' := Aside0.mk H
        clear H
        try go_wp2
        have n0_ : Aside0 (((((((((w22.setCell ⟨gb141, 0, none⟩ (.string (⟨#[]⟩ : ByteArray))).setCell ⟨gb141, 1, none⟩ (.int .i64 x140001_3)).setCell ⟨gb141, 2, none⟩ (.int .i64 (Go.bits .and .i64 a0_1 15))).setCell ⟨gb141, 3, none⟩ (.int .i64 (Go.bits .and .i64 a0_2 3))).setCell ⟨gb141, 4, none⟩ (.bool a0_3)).setCell ⟨gb141, 5, none⟩ (.int .u64 0)).setCell ⟨gb141, 6, none⟩ (.int .u64 0)).setCell ⟨gb141, 1, none⟩ (.int .i64 0)).heap[gb137]? = some (.cells #[.int .i64 a0_0, .int .i64 a0_1, .int .i64 a0_2, .bool a0_3, .int .u64 a0_4, .int .u64 a0_5] 24 (0, 0))) := ⟨by (with_reducible repeat (first | refine blk_drewN ?_ _ | refine blk_drew ?_ | refine blk_alloc ?_ _)); refine blk_far ?_ NB137_141.out _; (with_reducible repeat (first | refine blk_drewN ?_ _ | refine blk_drew ?_ | refine blk_alloc ?_ _)); refine blk_far ?_ NB137_141.out _; (with_reducible repeat (first | refine blk_drewN ?_ _ | refine blk_drew ?_ | refine blk_alloc ?_ _)); refine blk_far ?_ NB137_141.out _; (with_reducible repeat (first | refine blk_drewN ?_ _ | refine blk_drew ?_ | refine blk_alloc ?_ _)); refine blk_far ?_ NB137_141.out _; (with_reducible repeat (first | refine blk_drewN ?_ _ | refine blk_drew ?_ | refine blk_alloc ?_ _)); refine blk_far ?_ NB137_141.out _; (with_reducible repeat (first | refine blk_drewN ?_ _ | refine blk_drew ?_ | refine blk_alloc ?_ _)); refine blk_far ?_ NB137_141.out _; (with_reducible repeat (first | refine blk_drewN ?_ _ | refine blk_drew ?_ | refine blk_alloc ?_ _)); refine blk_far ?_ NB137_141.out _; (with_reducible repeat (first | refine blk_drewN ?_ _ | refine blk_drew ?_ | refine blk_alloc ?_ _)); refine blk_far ?_ NB137_141.out _; (with_reducible repeat (first | refine blk_drewN ?_ _ | refine blk_drew ?_ | refine blk_alloc ?_ _)); exact BK137.out⟩
        have n1_ : Aside0 (((((((((w22.setCell ⟨gb141, 0, none⟩ (.string (⟨#[]⟩ : ByteArray))).setCell ⟨gb141, 1, none⟩ (.int .i64 x140001_3)).setCell ⟨gb141, 2, none⟩ (.int .i64 (Go.bits .and .i64 a0_1 15))).setCell ⟨gb141, 3, none⟩ (.int .i64 (Go.bits .and .i64 a0_2 3))).setCell ⟨gb141, 4, none⟩ (.bool a0_3)).setCell ⟨gb141, 5, none⟩ (.int .u64 0)).setCell ⟨gb141, 6, none⟩ (.int .u64 0)).setCell ⟨gb141, 1, none⟩ (.int .i64 0)).heap[gb139]? = some (.cells #[.string (⟨#[]⟩ : ByteArray), .int .i64 x140001_3, .int .i64 (Go.bits .and .i64 a0_1 15), .int .i64 (Go.bits .and .i64 a0_2 3), .bool a0_3, .int .u64 0, .int .u64 0] 28 (0, 0))) := ⟨by (with_reducible repeat (first | refine blk_drewN ?_ _ | refine blk_drew ?_ | refine blk_alloc ?_ _)); refine blk_far ?_ NB139_141.out _; (with_reducible repeat (first | refine blk_drewN ?_ _ | refine blk_drew ?_ | refine blk_alloc ?_ _)); refine blk_far ?_ NB139_141.out _; (with_reducible repeat (first | refine blk_drewN ?_ _ | refine blk_drew ?_ | refine blk_alloc ?_ _)); refine blk_far ?_ NB139_141.out _; (with_reducible repeat (first | refine blk_drewN ?_ _ | refine blk_drew ?_ | refine blk_alloc ?_ _)); refine blk_far ?_ NB139_141.out _; (with_reducible repeat (first | refine blk_drewN ?_ _ | refine blk_drew ?_ | refine blk_alloc ?_ _)); refine blk_far ?_ NB139_141.out _; (with_reducible repeat (first | refine blk_drewN ?_ _ | refine blk_drew ?_ | refine blk_alloc ?_ _)); refine blk_far ?_ NB139_141.out _; (with_reducible repeat (first | refine blk_drewN ?_ _ | refine blk_drew ?_ | refine blk_alloc ?_ _)); refine blk_far ?_ NB139_141.out _; (with_reducible repeat (first | refine blk_drewN ?_ _ | refine blk_drew ?_ | refine blk_alloc ?_ _)); refine blk_far ?_ NB139_141.out _; (with_reducible repeat (first | refine blk_drewN ?_ _ | refine blk_drew ?_ | refine blk_alloc ?_ _)); exact BK139.out⟩
        have n2_ : Aside0 (((((((((w22.setCell ⟨gb141, 0, none⟩ (.string (⟨#[]⟩ : ByteArray))).setCell ⟨gb141, 1, none⟩ (.int .i64 x140001_3)).setCell ⟨gb141, 2, none⟩ (.int .i64 (Go.bits .and .i64 a0_1 15))).setCell ⟨gb141, 3, none⟩ (.int .i64 (Go.bits .and .i64 a0_2 3))).setCell ⟨gb141, 4, none⟩ (.bool a0_3)).setCell ⟨gb141, 5, none⟩ (.int .u64 0)).setCell ⟨gb141, 6, none⟩ (.int .u64 0)).setCell ⟨gb141, 1, none⟩ (.int .i64 0)).heap[gb140]? = some (.cells #[.string (⟨#[]⟩ : ByteArray), .int .i64 (wrap64 (3 - x140001_3)), .int .i64 (Go.bits .and .i64 a0_1 15), .int .i64 (Go.bits .and .i64 a0_2 3), .bool a0_3, .int .u64 0, .int .u64 0] 28 (0, 0))) := ⟨by (with_reducible repeat (first | refine blk_drewN ?_ _ | refine blk_drew ?_ | refine blk_alloc ?_ _)); refine blk_far ?_ NB140_141.out _; (with_reducible repeat (first | refine blk_drewN ?_ _ | refine blk_drew ?_ | refine blk_alloc ?_ _)); refine blk_far ?_ NB140_141.out _; (with_reducible repeat (first | refine blk_drewN ?_ _ | refine blk_drew ?_ | refine blk_alloc ?_ _)); refine blk_far ?_ NB140_141.out _; (with_reducible repeat (first | refine blk_drewN ?_ _ | refine blk_drew ?_ | refine blk_alloc ?_ _)); refine blk_far ?_ NB140_141.out _; (with_reducible repeat (first | refine blk_drewN ?_ _ | refine blk_drew ?_ | refine blk_alloc ?_ _)); refine blk_far ?_ NB140_141.out _; (with_reducible repeat (first | refine blk_drewN ?_ _ | refine blk_drew ?_ | refine blk_alloc ?_ _)); refine blk_far ?_ NB140_141.out _; (with_reducible repeat (first | refine blk_drewN ?_ _ | refine blk_drew ?_ | refine blk_alloc ?_ _)); refine blk_far ?_ NB140_141.out _; (with_reducible repeat (first | refine blk_drewN ?_ _ | refine blk_drew ?_ | refine blk_alloc ?_ _)); refine blk_far ?_ NB140_141.out _; (with_reducible repeat (first | refine blk_drewN ?_ _ | refine blk_drew ?_ | refine blk_alloc ?_ _)); exact BK140.out⟩
        have n3_ : Aside0 (((((((((w22.setCell ⟨gb141, 0, none⟩ (.string (⟨#[]⟩ : ByteArray))).setCell ⟨gb141, 1, none⟩ (.int .i64 x140001_3)).setCell ⟨gb141, 2, none⟩ (.int .i64 (Go.bits .and .i64 a0_1 15))).setCell ⟨gb141, 3, none⟩ (.int .i64 (Go.bits .and .i64 a0_2 3))).setCell ⟨gb141, 4, none⟩ (.bool a0_3)).setCell ⟨gb141, 5, none⟩ (.int .u64 0)).setCell ⟨gb141, 6, none⟩ (.int .u64 0)).setCell ⟨gb141, 1, none⟩ (.int .i64 0)).heap[gb141]? = some (.cells #[.string (⟨#[]⟩ : ByteArray), .int .i64 0, .int .i64 (Go.bits .and .i64 a0_1 15), .int .i64 (Go.bits .and .i64 a0_2 3), .bool a0_3, .int .u64 0, .int .u64 0] 28 (0, 0))) := ⟨by (with_reducible repeat (first | refine blk_drewN ?_ _ | refine blk_drew ?_ | refine blk_alloc ?_ _)); refine blk_put (cs := #[.string (⟨#[]⟩ : ByteArray), .int .i64 x140001_3, .int .i64 (Go.bits .and .i64 a0_1 15), .int .i64 (Go.bits .and .i64 a0_2 3), .bool a0_3, .int .u64 0, .int .u64 0]) ?_ 1 _ rfl; (with_reducible repeat (first | refine blk_drewN ?_ _ | refine blk_drew ?_ | refine blk_alloc ?_ _)); refine blk_put (cs := #[.string (⟨#[]⟩ : ByteArray), .int .i64 x140001_3, .int .i64 (Go.bits .and .i64 a0_1 15), .int .i64 (Go.bits .and .i64 a0_2 3), .bool a0_3, .int .u64 0, .int .u64 0]) ?_ 6 _ rfl; (with_reducible repeat (first | refine blk_drewN ?_ _ | refine blk_drew ?_ | refine blk_alloc ?_ _)); refine blk_put (cs := #[.string (⟨#[]⟩ : ByteArray), .int .i64 x140001_3, .int .i64 (Go.bits .and .i64 a0_1 15), .int .i64 (Go.bits .and .i64 a0_2 3), .bool a0_3, .int .u64 0, .int .u64 0]) ?_ 5 _ rfl; (with_reducible repeat (first | refine blk_drewN ?_ _ | refine blk_drew ?_ | refine blk_alloc ?_ _)); refine blk_put (cs := #[.string (⟨#[]⟩ : ByteArray), .int .i64 x140001_3, .int .i64 (Go.bits .and .i64 a0_1 15), .int .i64 (Go.bits .and .i64 a0_2 3), .bool false, .int .u64 0, .int .u64 0]) ?_ 4 _ rfl; (with_reducible repeat (first | refine blk_drewN ?_ _ | refine blk_drew ?_ | refine blk_alloc ?_ _)); refine blk_put (cs := #[.string (⟨#[]⟩ : ByteArray), .int .i64 x140001_3, .int .i64 (Go.bits .and .i64 a0_1 15), .int .i64 0, .bool false, .int .u64 0, .int .u64 0]) ?_ 3 _ rfl; (with_reducible repeat (first | refine blk_drewN ?_ _ | refine blk_drew ?_ | refine blk_alloc ?_ _)); refine blk_put (cs := #[.string (⟨#[]⟩ : ByteArray), .int .i64 x140001_3, .int .i64 0, .int .i64 0, .bool false, .int .u64 0, .int .u64 0]) ?_ 2 _ rfl; (with_reducible repeat (first | refine blk_drewN ?_ _ | refine blk_drew ?_ | refine blk_alloc ?_ _)); refine blk_put (cs := #[.string (⟨#[]⟩ : ByteArray), .int .i64 0, .int .i64 0, .int .i64 0, .bool false, .int .u64 0, .int .u64 0]) ?_ 1 _ rfl; (with_reducible repeat (first | refine blk_drewN ?_ _ | refine blk_drew ?_ | refine blk_alloc ?_ _)); refine blk_put (cs := #[.string (⟨#[]⟩ : ByteArray), .int .i64 0, .int .i64 0, .int .i64 0, .bool false, .int .u64 0, .int .u64 0]) ?_ 0 _ rfl; (with_reducible repeat (first | refine blk_drewN ?_ _ | refine blk_drew ?_ | refine blk_alloc ?_ _)); exact BK141.out⟩
        have n4_ : Aside0 (Below w.heap.size w ((((((((w22.setCell ⟨gb141, 0, none⟩ (.string (⟨#[]⟩ : ByteArray))).setCell ⟨gb141, 1, none⟩ (.int .i64 x140001_3)).setCell ⟨gb141, 2, none⟩ (.int .i64 (Go.bits .and .i64 a0_1 15))).setCell ⟨gb141, 3, none⟩ (.int .i64 (Go.bits .and .i64 a0_2 3))).setCell ⟨gb141, 4, none⟩ (.bool a0_3)).setCell ⟨gb141, 5, none⟩ (.int .u64 0)).setCell ⟨gb141, 6, none⟩ (.int .u64 0)).setCell ⟨gb141, 1, none⟩ (.int .i64 0))) := ⟨by repeat (first | (with_reducible first | exact HB.out | apply below_alloc | apply pw_below_drewN | apply below_drew1 | refine below_set ?_ GE137.out | refine below_set ?_ GE139.out | refine below_set ?_ GE140.out | refine below_set ?_ GE141.out) | exact HB.out)⟩
        (try clear BK137)
        (try clear BK139)
        (try clear BK140)
        (try clear BK141)
        (try clear HB)
        generalize ((((((((w22.setCell ⟨gb141, 0, none⟩ (.string (⟨#[]⟩ : ByteArray))).setCell ⟨gb141, 1, none⟩ (.int .i64 x140001_3)).setCell ⟨gb141, 2, none⟩ (.int .i64 (Go.bits .and .i64 a0_1 15))).setCell ⟨gb141, 3, none⟩ (.int .i64 (Go.bits .and .i64 a0_2 3))).setCell ⟨gb141, 4, none⟩ (.bool a0_3)).setCell ⟨gb141, 5, none⟩ (.int .u64 0)).setCell ⟨gb141, 6, none⟩ (.int .u64 0)).setCell ⟨gb141, 1, none⟩ (.int .i64 0)) = w53 at n0_ n1_ n2_ n3_ n4_ ⊢
        have BK137 := n0_
        have BK139 := n1_
        have BK140 := n2_
        have BK141 := n3_
        have HB := n4_
        clear n0_ n1_ n2_ n3_ n4_
        have n0_ := Aside0.mk (blk_drew BK137.out)
        have n1_ := Aside0.mk (blk_drew BK139.out)
        have n2_ := Aside0.mk (blk_drew BK140.out)
        have n3_ := Aside0.mk (blk_drew BK141.out)
        have n4_ := Aside0.mk (below_drew1 HB.out)
        clear BK137
        clear BK139
        clear BK140
        clear BK141
        clear HB
        have BK137 := n0_
        have BK139 := n1_
        have BK140 := n2_
        have BK141 := n3_
        have HB := n4_
        clear n0_ n1_ n2_ n3_ n4_
        refine start_ (n := 23) (S := fun w' => w'.cell? ⟨gb139, 0, none⟩ = some (.string (⟨#[]⟩ : ByteArray)) ∧ w'.cell? ⟨gb139, 1, none⟩ = some (.int .i64 x140001_3) ∧ w'.cell? ⟨gb139, 2, none⟩ = some (.int .i64 (Go.bits .and .i64 a0_1 15)) ∧ w'.cell? ⟨gb139, 3, none⟩ = some (.int .i64 (Go.bits .and .i64 a0_2 3)) ∧ w'.cell? ⟨gb139, 4, none⟩ = some (.bool a0_3) ∧ w'.cell? ⟨gb139, 5, none⟩ = some (.int .u64 0) ∧ w'.cell? ⟨gb139, 6, none⟩ = some (.int .u64 0) ∧ w'.cell? ⟨gb140, 0, none⟩ = some (.string (⟨#[]⟩ : ByteArray)) ∧ w'.cell? ⟨gb140, 1, none⟩ = some (.int .i64 (wrap64 (3 - x140001_3))) ∧ w'.cell? ⟨gb140, 2, none⟩ = some (.int .i64 (Go.bits .and .i64 a0_1 15)) ∧ w'.cell? ⟨gb140, 3, none⟩ = some (.int .i64 (Go.bits .and .i64 a0_2 3)) ∧ w'.cell? ⟨gb140, 4, none⟩ = some (.bool a0_3) ∧ w'.cell? ⟨gb140, 5, none⟩ = some (.int .u64 0) ∧ w'.cell? ⟨gb140, 6, none⟩ = some (.int .u64 0) ∧ w'.cell? ⟨gb141, 0, none⟩ = some (.string (⟨#[]⟩ : ByteArray)) ∧ w'.cell? ⟨gb141, 1, none⟩ = some (.int .i64 0) ∧ w'.cell? ⟨gb141, 2, none⟩ = some (.int .i64 (Go.bits .and .i64 a0_1 15)) ∧ w'.cell? ⟨gb141, 3, none⟩ = some (.int .i64 (Go.bits .and .i64 a0_2 3)) ∧ w'.cell? ⟨gb141, 4, none⟩ = some (.bool a0_3) ∧ w'.cell? ⟨gb141, 5, none⟩ = some (.int .u64 0) ∧ w'.cell? ⟨gb141, 6, none⟩ = some (.int .u64 0)) (ds := []) #[false,false,false,false,false,false,false,false,false,false,false,false,false,false,false,false,false,false,false,false,false,false,false] (by kernel_rfl) rfl rfl ⟨(blk_cell BK139.out 0).trans rfl, (blk_cell BK139.out 1).trans rfl, (blk_cell BK139.out 2).trans rfl, (blk_cell BK139.out 3).trans rfl, (blk_cell BK139.out 4).trans rfl, (blk_cell BK139.out 5).trans rfl, (blk_cell BK139.out 6).trans rfl, (blk_cell BK140.out 0).trans rfl, (blk_cell BK140.out 1).trans rfl, (blk_cell BK140.out 2).trans rfl, (blk_cell BK140.out 3).trans rfl, (blk_cell BK140.out 4).trans rfl, (blk_cell BK140.out 5).trans rfl, (blk_cell BK140.out 6).trans rfl, (blk_cell BK141.out 0).trans rfl, (blk_cell BK141.out 1).trans rfl, (blk_cell BK141.out 2).trans rfl, (blk_cell BK141.out 3).trans rfl, (blk_cell BK141.out 4).trans rfl, (blk_cell BK141.out 5).trans rfl, (blk_cell BK141.out 6).trans rfl⟩ (fun hHeld => ?_); refine with_tabW turnbucklelaw11_SymBinds.tab10 turnbucklelaw11_SymBinds.bits10 (fun HT_ HW_ => ?_)
        generalize w53.drew = w54 at BK137 BK139 BK140 BK141 HB hHeld ⊢
        refine take_ (i := 0) (N := some 33) (v:=?_) (a':=?_) #[true,false,false,false,false,false,false,false,false,false,false,false,false,false,false,false,false,false,false,false,false,false,false] rfl rfl (take_ofW HT_.out HW_.out (by kernel_rfl)) (fun _ _ _ h=>h) (Or.inl ⟨by rfl, ?_⟩) hHeld ?_ ?_
        rotate_left
        ·rintro w' ⟨s0, s1, s2, s3, s4, s5, s6, s7, s8, s9, s10, s11, s12, s13, s14, s15, s16, s17, s18, s19, s20⟩
         go_simp
         with_reducible rfl
        rotate_left
        ·simp only [Act.put,lz1,lz2,lz3,i64_w,i32_w]
         rfl
        refine take_ (i := 2) (N := some 35) (v:=?_) (a':=?_) #[true,false,true,false,false,false,false,false,false,false,false,false,false,false,false,false,false,false,false,false,false,false,false] rfl rfl (take_ofW HT_.out HW_.out (by kernel_rfl)) (fun _ _ _ h=>h) (Or.inl ⟨by rfl, ?_⟩) hHeld ?_ ?_
        rotate_left
        ·rintro w' ⟨s0, s1, s2, s3, s4, s5, s6, s7, s8, s9, s10, s11, s12, s13, s14, s15, s16, s17, s18, s19, s20⟩
         go_simp
         with_reducible rfl
        rotate_left
        ·simp only [Act.put,lz1,lz2,lz3,i64_w,i32_w]
         rfl
        refine one_ (i := 1) (N := some 34) #[true,true,true,false,false,false,false,false,false,false,false,false,false,false,false,false,false,false,false,false,false,false,false] rfl rfl (one_of HT_.out (by kernel_rfl)) (by decide) (fun K hK => ?_)
        refine goes_ Try.func14 (by kernel_rfl) rfl #[.agg #[.string (⟨#[]⟩ : ByteArray), .int .i64 x140001_3, .int .i64 (Go.bits .and .i64 a0_1 15), .int .i64 (Go.bits .and .i64 a0_2 3), .bool a0_3, .int .u64 0, .int .u64 0]] (by rfl) rfl rfl (by (try simp only [List.map_toArray, List.map_cons, List.map_nil]); first | done | rfl | (simp only [List.length_drop, List.length_take]; rfl)) ?_
        with_reducible refine (sym_Symbol_Exported.calls (⟨#[]⟩ : ByteArray) x140001_3 (Go.bits .and .i64 a0_1 15) (Go.bits .and .i64 a0_2 3) a0_3 0 0 t142 _ A27.out).mono ?_
        rintro e w55 ⟨rfl, hb⟩
        refine ⟨_, rfl, ?_⟩
        have n0_ := Aside0.mk (blk_below (g := gb137) (o := .cells #[.int .i64 a0_0, .int .i64 a0_1, .int .i64 a0_2, .bool a0_3, .int .u64 a0_4, .int .u64 a0_5] 24 (0, 0)) (by (with_reducible repeat (first | refine blk_drewN ?_ _ | refine blk_drew ?_ | refine blk_alloc ?_ _)); exact BK137.out) hb)
        have n1_ := Aside0.mk (blk_below (g := gb139) (o := .cells #[.string (⟨#[]⟩ : ByteArray), .int .i64 x140001_3, .int .i64 (Go.bits .and .i64 a0_1 15), .int .i64 (Go.bits .and .i64 a0_2 3), .bool a0_3, .int .u64 0, .int .u64 0] 28 (0, 0)) (by (with_reducible repeat (first | refine blk_drewN ?_ _ | refine blk_drew ?_ | refine blk_alloc ?_ _)); exact BK139.out) hb)
        have n2_ := Aside0.mk (blk_below (g := gb140) (o := .cells #[.string (⟨#[]⟩ : ByteArray), .int .i64 (wrap64 (3 - x140001_3)), .int .i64 (Go.bits .and .i64 a0_1 15), .int .i64 (Go.bits .and .i64 a0_2 3), .bool a0_3, .int .u64 0, .int .u64 0] 28 (0, 0)) (by (with_reducible repeat (first | refine blk_drewN ?_ _ | refine blk_drew ?_ | refine blk_alloc ?_ _)); exact BK140.out) hb)
        have n3_ := Aside0.mk (blk_below (g := gb141) (o := .cells #[.string (⟨#[]⟩ : ByteArray), .int .i64 0, .int .i64 (Go.bits .and .i64 a0_1 15), .int .i64 (Go.bits .and .i64 a0_2 3), .bool a0_3, .int .u64 0, .int .u64 0] 28 (0, 0)) (by (with_reducible repeat (first | refine blk_drewN ?_ _ | refine blk_drew ?_ | refine blk_alloc ?_ _)); exact BK141.out) hb)
        have n4_ := Aside0.mk (below_step (by repeat (first | (with_reducible first | exact HB.out | apply below_alloc | apply pw_below_drewN | apply below_drew1 | refine below_set ?_ GE137.out | refine below_set ?_ GE139.out | refine below_set ?_ GE140.out | refine below_set ?_ GE141.out) | exact HB.out)) hb)
        clear BK137
        clear BK139
        clear BK140
        clear BK141
        clear HB
        have BK137 := n0_
        have BK139 := n1_
        have BK140 := n2_
        have BK141 := n3_
        have HB := n4_
        clear n0_ n1_ n2_ n3_ n4_
        (try clear hb)
        (try clear hb2)
        (try clear hk)
        (try clear hi)
        refine hK.out _ _ ⟨(blk_cell BK139.out 0).trans rfl, (blk_cell BK139.out 1).trans rfl, (blk_cell BK139.out 2).trans rfl, (blk_cell BK139.out 3).trans rfl, (blk_cell BK139.out 4).trans rfl, (blk_cell BK139.out 5).trans rfl, (blk_cell BK139.out 6).trans rfl, (blk_cell BK140.out 0).trans rfl, (blk_cell BK140.out 1).trans rfl, (blk_cell BK140.out 2).trans rfl, (blk_cell BK140.out 3).trans rfl, (blk_cell BK140.out 4).trans rfl, (blk_cell BK140.out 5).trans rfl, (blk_cell BK140.out 6).trans rfl, (blk_cell BK141.out 0).trans rfl, (blk_cell BK141.out 1).trans rfl, (blk_cell BK141.out 2).trans rfl, (blk_cell BK141.out 3).trans rfl, (blk_cell BK141.out 4).trans rfl, (blk_cell BK141.out 5).trans rfl, (blk_cell BK141.out 6).trans rfl⟩ (fun hHeld => ?_)
        clear hK K
        refine norm_ (a' := ?_) ?_ ?_
        rotate_left
        ·show Act.put _ (some 34) _ = _
         simp only [Act.put,lz1,lz2,lz3,i64_w,i32_w]
         rfl
        refine one_ (i := 3) (N := some 36) #[true,true,true,true,false,false,false,false,false,false,false,false,false,false,false,false,false,false,false,false,false,false,false] rfl rfl (one_of HT_.out (by kernel_rfl)) (by decide) (fun K hK => ?_)
        refine goes_ Try.func14 (by kernel_rfl) rfl #[.agg #[.string (⟨#[]⟩ : ByteArray), .int .i64 (wrap64 (3 - x140001_3)), .int .i64 (Go.bits .and .i64 a0_1 15), .int .i64 (Go.bits .and .i64 a0_2 3), .bool a0_3, .int .u64 0, .int .u64 0]] (by rfl) rfl rfl (by (try simp only [List.map_toArray, List.map_cons, List.map_nil]); first | done | rfl | (simp only [List.length_drop, List.length_take]; rfl)) ?_
        with_reducible refine (sym_Symbol_Exported.calls (⟨#[]⟩ : ByteArray) (wrap64 (3 - x140001_3)) (Go.bits .and .i64 a0_1 15) (Go.bits .and .i64 a0_2 3) a0_3 0 0 t143 _ A28.out).mono ?_
        rintro e w56 ⟨rfl, hb⟩
        refine ⟨_, rfl, ?_⟩
        have n0_ := Aside0.mk (blk_below (g := gb137) (o := .cells #[.int .i64 a0_0, .int .i64 a0_1, .int .i64 a0_2, .bool a0_3, .int .u64 a0_4, .int .u64 a0_5] 24 (0, 0)) (by (with_reducible repeat (first | refine blk_drewN ?_ _ | refine blk_drew ?_ | refine blk_alloc ?_ _)); exact BK137.out) hb)
        have n1_ := Aside0.mk (blk_below (g := gb139) (o := .cells #[.string (⟨#[]⟩ : ByteArray), .int .i64 x140001_3, .int .i64 (Go.bits .and .i64 a0_1 15), .int .i64 (Go.bits .and .i64 a0_2 3), .bool a0_3, .int .u64 0, .int .u64 0] 28 (0, 0)) (by (with_reducible repeat (first | refine blk_drewN ?_ _ | refine blk_drew ?_ | refine blk_alloc ?_ _)); exact BK139.out) hb)
        have n2_ := Aside0.mk (blk_below (g := gb140) (o := .cells #[.string (⟨#[]⟩ : ByteArray), .int .i64 (wrap64 (3 - x140001_3)), .int .i64 (Go.bits .and .i64 a0_1 15), .int .i64 (Go.bits .and .i64 a0_2 3), .bool a0_3, .int .u64 0, .int .u64 0] 28 (0, 0)) (by (with_reducible repeat (first | refine blk_drewN ?_ _ | refine blk_drew ?_ | refine blk_alloc ?_ _)); exact BK140.out) hb)
        have n3_ := Aside0.mk (blk_below (g := gb141) (o := .cells #[.string (⟨#[]⟩ : ByteArray), .int .i64 0, .int .i64 (Go.bits .and .i64 a0_1 15), .int .i64 (Go.bits .and .i64 a0_2 3), .bool a0_3, .int .u64 0, .int .u64 0] 28 (0, 0)) (by (with_reducible repeat (first | refine blk_drewN ?_ _ | refine blk_drew ?_ | refine blk_alloc ?_ _)); exact BK141.out) hb)
        have n4_ := Aside0.mk (below_step (by repeat (first | (with_reducible first | exact HB.out | apply below_alloc | apply pw_below_drewN | apply below_drew1 | refine below_set ?_ GE137.out | refine below_set ?_ GE139.out | refine below_set ?_ GE140.out | refine below_set ?_ GE141.out) | exact HB.out)) hb)
        clear BK137
        clear BK139
        clear BK140
        clear BK141
        clear HB
        have BK137 := n0_
        have BK139 := n1_
        have BK140 := n2_
        have BK141 := n3_
        have HB := n4_
        clear n0_ n1_ n2_ n3_ n4_
        (try clear hb)
        (try clear hb2)
        (try clear hk)
        (try clear hi)
        refine hK.out _ _ ⟨(blk_cell BK139.out 0).trans rfl, (blk_cell BK139.out 1).trans rfl, (blk_cell BK139.out 2).trans rfl, (blk_cell BK139.out 3).trans rfl, (blk_cell BK139.out 4).trans rfl, (blk_cell BK139.out 5).trans rfl, (blk_cell BK139.out 6).trans rfl, (blk_cell BK140.out 0).trans rfl, (blk_cell BK140.out 1).trans rfl, (blk_cell BK140.out 2).trans rfl, (blk_cell BK140.out 3).trans rfl, (blk_cell BK140.out 4).trans rfl, (blk_cell BK140.out 5).trans rfl, (blk_cell BK140.out 6).trans rfl, (blk_cell BK141.out 0).trans rfl, (blk_cell BK141.out 1).trans rfl, (blk_cell BK141.out 2).trans rfl, (blk_cell BK141.out 3).trans rfl, (blk_cell BK141.out 4).trans rfl, (blk_cell BK141.out 5).trans rfl, (blk_cell BK141.out 6).trans rfl⟩ (fun hHeld => ?_)
        clear hK K
        refine norm_ (a' := ?_) ?_ ?_
        rotate_left
        ·show Act.put _ (some 36) _ = _
         simp only [Act.put,lz1,lz2,lz3,i64_w,i32_w]
         rfl
        refine pure_ (i:=4) (N := some 37) (v:=?_) (a':=?_) #[true,true,true,true,true,false,false,false,false,false,false,false,false,false,false,false,false,false,false,false,false,false,false] rfl rfl (any_of HT_.out (by kernel_rfl)) (fun _ _ _ h=>h) (Or.inl ⟨by rfl, ?_⟩) ?_ ?_
        rotate_left
        ·intro w'
         go_simp
         first | with_reducible rfl | (refine Eq.trans (b := .ok (.value (.bool true)) w') ?_ (by with_reducible rfl); (repeat' (first | with_reducible rfl | split)); all_goals (first | rfl | (exfalso; simp_all; done))) | (refine Eq.trans (b := .ok (.value (.bool false)) w') ?_ (by with_reducible rfl); (repeat' (first | with_reducible rfl | split)); all_goals (first | rfl | (exfalso; simp_all; done)))
        rotate_left
        ·simp only [Act.put,lz1,lz2,lz3,i64_w,i32_w]
         rfl
        refine pure_ (i:=5) (N := some 38) (v:=?_) (a':=?_) #[true,true,true,true,true,true,false,false,false,false,false,false,false,false,false,false,false,false,false,false,false,false,false] rfl rfl (any_of HT_.out (by kernel_rfl)) (fun _ _ _ h=>h) (Or.inl ⟨by rfl, ?_⟩) ?_ ?_
        rotate_left
        ·intro w'
         go_simp
         with_reducible rfl
        rotate_left
        ·simp only [Act.put,lz1,lz2,lz3,i64_w,i32_w]
         rfl
        refine take_ (i := 6) (N := some 39) (v:=?_) (a':=?_) #[true,true,true,true,true,true,true,false,false,false,false,false,false,false,false,false,false,false,false,false,false,false,false] rfl rfl (take_ofW HT_.out HW_.out (by kernel_rfl)) (fun _ _ _ h=>h) (Or.inl ⟨by rfl, ?_⟩) hHeld ?_ ?_
        rotate_left
        ·rintro w' ⟨s0, s1, s2, s3, s4, s5, s6, s7, s8, s9, s10, s11, s12, s13, s14, s15, s16, s17, s18, s19, s20⟩
         go_simp
         with_reducible rfl
        rotate_left
        ·simp only [Act.put,lz1,lz2,lz3,i64_w,i32_w]
         rfl
        refine take_ (i := 8) (N := some 41) (v:=?_) (a':=?_) #[true,true,true,true,true,true,true,false,true,false,false,false,false,false,false,false,false,false,false,false,false,false,false] rfl rfl (take_ofW HT_.out HW_.out (by kernel_rfl)) (fun _ _ _ h=>h) (Or.inl ⟨by rfl, ?_⟩) hHeld ?_ ?_
        rotate_left
        ·rintro w' ⟨s0, s1, s2, s3, s4, s5, s6, s7, s8, s9, s10, s11, s12, s13, s14, s15, s16, s17, s18, s19, s20⟩
         go_simp
         with_reducible rfl
        rotate_left
        ·simp only [Act.put,lz1,lz2,lz3,i64_w,i32_w]
         rfl
        refine one_ (i := 7) (N := some 40) #[true,true,true,true,true,true,true,true,true,false,false,false,false,false,false,false,false,false,false,false,false,false,false] rfl rfl (one_of HT_.out (by kernel_rfl)) (by decide) (fun K hK => ?_)
        refine goes_ Try.func15 (by kernel_rfl) rfl #[.agg #[.string (⟨#[]⟩ : ByteArray), .int .i64 x140001_3, .int .i64 (Go.bits .and .i64 a0_1 15), .int .i64 (Go.bits .and .i64 a0_2 3), .bool a0_3, .int .u64 0, .int .u64 0]] (by rfl) rfl rfl (by (try simp only [List.map_toArray, List.map_cons, List.map_nil]); first | done | rfl | (simp only [List.length_drop, List.length_take]; rfl)) ?_
        with_reducible refine (sym_Symbol_Own.calls (⟨#[]⟩ : ByteArray) x140001_3 (Go.bits .and .i64 a0_1 15) (Go.bits .and .i64 a0_2 3) a0_3 0 0 t144 _ A34.out).mono ?_
        rintro e w57 ⟨rfl, hb⟩
        refine ⟨_, rfl, ?_⟩
        have n0_ := Aside0.mk (blk_below (g := gb137) (o := .cells #[.int .i64 a0_0, .int .i64 a0_1, .int .i64 a0_2, .bool a0_3, .int .u64 a0_4, .int .u64 a0_5] 24 (0, 0)) (by (with_reducible repeat (first | refine blk_drewN ?_ _ | refine blk_drew ?_ | refine blk_alloc ?_ _)); exact BK137.out) hb)
        have n1_ := Aside0.mk (blk_below (g := gb139) (o := .cells #[.string (⟨#[]⟩ : ByteArray), .int .i64 x140001_3, .int .i64 (Go.bits .and .i64 a0_1 15), .int .i64 (Go.bits .and .i64 a0_2 3), .bool a0_3, .int .u64 0, .int .u64 0] 28 (0, 0)) (by (with_reducible repeat (first | refine blk_drewN ?_ _ | refine blk_drew ?_ | refine blk_alloc ?_ _)); exact BK139.out) hb)
        have n2_ := Aside0.mk (blk_below (g := gb140) (o := .cells #[.string (⟨#[]⟩ : ByteArray), .int .i64 (wrap64 (3 - x140001_3)), .int .i64 (Go.bits .and .i64 a0_1 15), .int .i64 (Go.bits .and .i64 a0_2 3), .bool a0_3, .int .u64 0, .int .u64 0] 28 (0, 0)) (by (with_reducible repeat (first | refine blk_drewN ?_ _ | refine blk_drew ?_ | refine blk_alloc ?_ _)); exact BK140.out) hb)
        have n3_ := Aside0.mk (blk_below (g := gb141) (o := .cells #[.string (⟨#[]⟩ : ByteArray), .int .i64 0, .int .i64 (Go.bits .and .i64 a0_1 15), .int .i64 (Go.bits .and .i64 a0_2 3), .bool a0_3, .int .u64 0, .int .u64 0] 28 (0, 0)) (by (with_reducible repeat (first | refine blk_drewN ?_ _ | refine blk_drew ?_ | refine blk_alloc ?_ _)); exact BK141.out) hb)
        have n4_ := Aside0.mk (below_step (by repeat (first | (with_reducible first | exact HB.out | apply below_alloc | apply pw_below_drewN | apply below_drew1 | refine below_set ?_ GE137.out | refine below_set ?_ GE139.out | refine below_set ?_ GE140.out | refine below_set ?_ GE141.out) | exact HB.out)) hb)
        clear BK137
        clear BK139
        clear BK140
        clear BK141
        clear HB
        have BK137 := n0_
        have BK139 := n1_
        have BK140 := n2_
        have BK141 := n3_
        have HB := n4_
        clear n0_ n1_ n2_ n3_ n4_
        (try clear hb)
        (try clear hb2)
        (try clear hk)
        (try clear hi)
        refine hK.out _ _ ⟨(blk_cell BK139.out 0).trans rfl, (blk_cell BK139.out 1).trans rfl, (blk_cell BK139.out 2).trans rfl, (blk_cell BK139.out 3).trans rfl, (blk_cell BK139.out 4).trans rfl, (blk_cell BK139.out 5).trans rfl, (blk_cell BK139.out 6).trans rfl, (blk_cell BK140.out 0).trans rfl, (blk_cell BK140.out 1).trans rfl, (blk_cell BK140.out 2).trans rfl, (blk_cell BK140.out 3).trans rfl, (blk_cell BK140.out 4).trans rfl, (blk_cell BK140.out 5).trans rfl, (blk_cell BK140.out 6).trans rfl, (blk_cell BK141.out 0).trans rfl, (blk_cell BK141.out 1).trans rfl, (blk_cell BK141.out 2).trans rfl, (blk_cell BK141.out 3).trans rfl, (blk_cell BK141.out 4).trans rfl, (blk_cell BK141.out 5).trans rfl, (blk_cell BK141.out 6).trans rfl⟩ (fun hHeld => ?_)
        clear hK K
        refine norm_ (a' := ?_) ?_ ?_
        rotate_left
        ·show Act.put _ (some 40) _ = _
         simp only [Act.put,lz1,lz2,lz3,i64_w,i32_w]
         rfl
        refine one_ (i := 9) (N := some 42) #[true,true,true,true,true,true,true,true,true,true,false,false,false,false,false,false,false,false,false,false,false,false,false] rfl rfl (one_of HT_.out (by kernel_rfl)) (by decide) (fun K hK => ?_)
        refine goes_ Try.func15 (by kernel_rfl) rfl #[.agg #[.string (⟨#[]⟩ : ByteArray), .int .i64 (wrap64 (3 - x140001_3)), .int .i64 (Go.bits .and .i64 a0_1 15), .int .i64 (Go.bits .and .i64 a0_2 3), .bool a0_3, .int .u64 0, .int .u64 0]] (by rfl) rfl rfl (by (try simp only [List.map_toArray, List.map_cons, List.map_nil]); first | done | rfl | (simp only [List.length_drop, List.length_take]; rfl)) ?_
        with_reducible refine (sym_Symbol_Own.calls (⟨#[]⟩ : ByteArray) (wrap64 (3 - x140001_3)) (Go.bits .and .i64 a0_1 15) (Go.bits .and .i64 a0_2 3) a0_3 0 0 t145 _ A35.out).mono ?_
        rintro e w58 ⟨rfl, hb⟩
        refine ⟨_, rfl, ?_⟩
        have n0_ := Aside0.mk (blk_below (g := gb137) (o := .cells #[.int .i64 a0_0, .int .i64 a0_1, .int .i64 a0_2, .bool a0_3, .int .u64 a0_4, .int .u64 a0_5] 24 (0, 0)) (by (with_reducible repeat (first | refine blk_drewN ?_ _ | refine blk_drew ?_ | refine blk_alloc ?_ _)); exact BK137.out) hb)
        have n1_ := Aside0.mk (blk_below (g := gb139) (o := .cells #[.string (⟨#[]⟩ : ByteArray), .int .i64 x140001_3, .int .i64 (Go.bits .and .i64 a0_1 15), .int .i64 (Go.bits .and .i64 a0_2 3), .bool a0_3, .int .u64 0, .int .u64 0] 28 (0, 0)) (by (with_reducible repeat (first | refine blk_drewN ?_ _ | refine blk_drew ?_ | refine blk_alloc ?_ _)); exact BK139.out) hb)
        have n2_ := Aside0.mk (blk_below (g := gb140) (o := .cells #[.string (⟨#[]⟩ : ByteArray), .int .i64 (wrap64 (3 - x140001_3)), .int .i64 (Go.bits .and .i64 a0_1 15), .int .i64 (Go.bits .and .i64 a0_2 3), .bool a0_3, .int .u64 0, .int .u64 0] 28 (0, 0)) (by (with_reducible repeat (first | refine blk_drewN ?_ _ | refine blk_drew ?_ | refine blk_alloc ?_ _)); exact BK140.out) hb)
        have n3_ := Aside0.mk (blk_below (g := gb141) (o := .cells #[.string (⟨#[]⟩ : ByteArray), .int .i64 0, .int .i64 (Go.bits .and .i64 a0_1 15), .int .i64 (Go.bits .and .i64 a0_2 3), .bool a0_3, .int .u64 0, .int .u64 0] 28 (0, 0)) (by (with_reducible repeat (first | refine blk_drewN ?_ _ | refine blk_drew ?_ | refine blk_alloc ?_ _)); exact BK141.out) hb)
        have n4_ := Aside0.mk (below_step (by repeat (first | (with_reducible first | exact HB.out | apply below_alloc | apply pw_below_drewN | apply below_drew1 | refine below_set ?_ GE137.out | refine below_set ?_ GE139.out | refine below_set ?_ GE140.out | refine below_set ?_ GE141.out) | exact HB.out)) hb)
        clear BK137
        clear BK139
        clear BK140
        clear BK141
        clear HB
        have BK137 := n0_
        have BK139 := n1_
        have BK140 := n2_
        have BK141 := n3_
        have HB := n4_
        clear n0_ n1_ n2_ n3_ n4_
        (try clear hb)
        (try clear hb2)
        (try clear hk)
        (try clear hi)
        refine hK.out _ _ ⟨(blk_cell BK139.out 0).trans rfl, (blk_cell BK139.out 1).trans rfl, (blk_cell BK139.out 2).trans rfl, (blk_cell BK139.out 3).trans rfl, (blk_cell BK139.out 4).trans rfl, (blk_cell BK139.out 5).trans rfl, (blk_cell BK139.out 6).trans rfl, (blk_cell BK140.out 0).trans rfl, (blk_cell BK140.out 1).trans rfl, (blk_cell BK140.out 2).trans rfl, (blk_cell BK140.out 3).trans rfl, (blk_cell BK140.out 4).trans rfl, (blk_cell BK140.out 5).trans rfl, (blk_cell BK140.out 6).trans rfl, (blk_cell BK141.out 0).trans rfl, (blk_cell BK141.out 1).trans rfl, (blk_cell BK141.out 2).trans rfl, (blk_cell BK141.out 3).trans rfl, (blk_cell BK141.out 4).trans rfl, (blk_cell BK141.out 5).trans rfl, (blk_cell BK141.out 6).trans rfl⟩ (fun hHeld => ?_)
        clear hK K
        refine norm_ (a' := ?_) ?_ ?_
        rotate_left
        ·show Act.put _ (some 42) _ = _
         simp only [Act.put,lz1,lz2,lz3,i64_w,i32_w]
         rfl
        refine pure_ (i:=10) (N := some 43) (v:=?_) (a':=?_) #[true,true,true,true,true,true,true,true,true,true,true,false,false,false,false,false,false,false,false,false,false,false,false] rfl rfl (any_of HT_.out (by kernel_rfl)) (fun _ _ _ h=>h) (Or.inl ⟨by rfl, ?_⟩) ?_ ?_
        rotate_left
        ·intro w'
         go_simp
         first | with_reducible rfl | (refine Eq.trans (b := .ok (.value (.bool true)) w') ?_ (by with_reducible rfl); (repeat' (first | with_reducible rfl | split)); all_goals (first | rfl | (exfalso; simp_all; done))) | (refine Eq.trans (b := .ok (.value (.bool false)) w') ?_ (by with_reducible rfl); (repeat' (first | with_reducible rfl | split)); all_goals (first | rfl | (exfalso; simp_all; done)))
        rotate_left
        ·simp only [Act.put,lz1,lz2,lz3,i64_w,i32_w]
         rfl
        refine pure_ (i:=11) (N := some 44) (v:=?_) (a':=?_) #[true,true,true,true,true,true,true,true,true,true,true,true,false,false,false,false,false,false,false,false,false,false,false] rfl rfl (any_of HT_.out (by kernel_rfl)) (fun _ _ _ h=>h) (Or.inl ⟨by rfl, ?_⟩) ?_ ?_
        rotate_left
        ·intro w'
         go_simp
         with_reducible rfl
        rotate_left
        ·simp only [Act.put,lz1,lz2,lz3,i64_w,i32_w]
         rfl
        refine pure_ (i:=12) (N := some 45) (v:=?_) (a':=?_) #[true,true,true,true,true,true,true,true,true,true,true,true,true,false,false,false,false,false,false,false,false,false,false] rfl rfl (any_of HT_.out (by kernel_rfl)) (fun _ _ _ h=>h) (Or.inl ⟨by rfl, ?_⟩) ?_ ?_
        rotate_left
        ·intro w'
         go_simp
         with_reducible rfl
        rotate_left
        ·simp only [Act.put,lz1,lz2,lz3,i64_w,i32_w]
         rfl
        refine take_ (i := 13) (N := some 46) (v:=?_) (a':=?_) #[true,true,true,true,true,true,true,true,true,true,true,true,true,true,false,false,false,false,false,false,false,false,false] rfl rfl (take_ofW HT_.out HW_.out (by kernel_rfl)) (fun _ _ _ h=>h) (Or.inl ⟨by rfl, ?_⟩) hHeld ?_ ?_
        rotate_left
        ·rintro w' ⟨s0, s1, s2, s3, s4, s5, s6, s7, s8, s9, s10, s11, s12, s13, s14, s15, s16, s17, s18, s19, s20⟩
         go_simp
         with_reducible rfl
        rotate_left
        ·simp only [Act.put,lz1,lz2,lz3,i64_w,i32_w]
         rfl
        refine one_ (i := 14) (N := some 47) #[true,true,true,true,true,true,true,true,true,true,true,true,true,true,true,false,false,false,false,false,false,false,false] rfl rfl (one_of HT_.out (by kernel_rfl)) (by decide) (fun K hK => ?_)
        refine goes_ Try.func14 (by kernel_rfl) rfl #[.agg #[.string (⟨#[]⟩ : ByteArray), .int .i64 0, .int .i64 (Go.bits .and .i64 a0_1 15), .int .i64 (Go.bits .and .i64 a0_2 3), .bool a0_3, .int .u64 0, .int .u64 0]] (by rfl) rfl rfl (by (try simp only [List.map_toArray, List.map_cons, List.map_nil]); first | done | rfl | (simp only [List.length_drop, List.length_take]; rfl)) ?_
        with_reducible refine (sym_Symbol_Exported.calls (⟨#[]⟩ : ByteArray) 0 (Go.bits .and .i64 a0_1 15) (Go.bits .and .i64 a0_2 3) a0_3 0 0 false _ A43.out).mono ?_
        rintro e w59 ⟨rfl, hb⟩
        refine ⟨_, rfl, ?_⟩
        have n0_ := Aside0.mk (blk_below (g := gb137) (o := .cells #[.int .i64 a0_0, .int .i64 a0_1, .int .i64 a0_2, .bool a0_3, .int .u64 a0_4, .int .u64 a0_5] 24 (0, 0)) (by (with_reducible repeat (first | refine blk_drewN ?_ _ | refine blk_drew ?_ | refine blk_alloc ?_ _)); exact BK137.out) hb)
        have n1_ := Aside0.mk (blk_below (g := gb139) (o := .cells #[.string (⟨#[]⟩ : ByteArray), .int .i64 x140001_3, .int .i64 (Go.bits .and .i64 a0_1 15), .int .i64 (Go.bits .and .i64 a0_2 3), .bool a0_3, .int .u64 0, .int .u64 0] 28 (0, 0)) (by (with_reducible repeat (first | refine blk_drewN ?_ _ | refine blk_drew ?_ | refine blk_alloc ?_ _)); exact BK139.out) hb)
        have n2_ := Aside0.mk (blk_below (g := gb140) (o := .cells #[.string (⟨#[]⟩ : ByteArray), .int .i64 (wrap64 (3 - x140001_3)), .int .i64 (Go.bits .and .i64 a0_1 15), .int .i64 (Go.bits .and .i64 a0_2 3), .bool a0_3, .int .u64 0, .int .u64 0] 28 (0, 0)) (by (with_reducible repeat (first | refine blk_drewN ?_ _ | refine blk_drew ?_ | refine blk_alloc ?_ _)); exact BK140.out) hb)
        have n3_ := Aside0.mk (blk_below (g := gb141) (o := .cells #[.string (⟨#[]⟩ : ByteArray), .int .i64 0, .int .i64 (Go.bits .and .i64 a0_1 15), .int .i64 (Go.bits .and .i64 a0_2 3), .bool a0_3, .int .u64 0, .int .u64 0] 28 (0, 0)) (by (with_reducible repeat (first | refine blk_drewN ?_ _ | refine blk_drew ?_ | refine blk_alloc ?_ _)); exact BK141.out) hb)
        have n4_ := Aside0.mk (below_step (by repeat (first | (with_reducible first | exact HB.out | apply below_alloc | apply pw_below_drewN | apply below_drew1 | refine below_set ?_ GE137.out | refine below_set ?_ GE139.out | refine below_set ?_ GE140.out | refine below_set ?_ GE141.out) | exact HB.out)) hb)
        clear BK137
        clear BK139
        clear BK140
        clear BK141
        clear HB
        have BK137 := n0_
        have BK139 := n1_
        have BK140 := n2_
        have BK141 := n3_
        have HB := n4_
        clear n0_ n1_ n2_ n3_ n4_
        (try clear hb)
        (try clear hb2)
        (try clear hk)
        (try clear hi)
        refine hK.out _ _ ⟨(blk_cell BK139.out 0).trans rfl, (blk_cell BK139.out 1).trans rfl, (blk_cell BK139.out 2).trans rfl, (blk_cell BK139.out 3).trans rfl, (blk_cell BK139.out 4).trans rfl, (blk_cell BK139.out 5).trans rfl, (blk_cell BK139.out 6).trans rfl, (blk_cell BK140.out 0).trans rfl, (blk_cell BK140.out 1).trans rfl, (blk_cell BK140.out 2).trans rfl, (blk_cell BK140.out 3).trans rfl, (blk_cell BK140.out 4).trans rfl, (blk_cell BK140.out 5).trans rfl, (blk_cell BK140.out 6).trans rfl, (blk_cell BK141.out 0).trans rfl, (blk_cell BK141.out 1).trans rfl, (blk_cell BK141.out 2).trans rfl, (blk_cell BK141.out 3).trans rfl, (blk_cell BK141.out 4).trans rfl, (blk_cell BK141.out 5).trans rfl, (blk_cell BK141.out 6).trans rfl⟩ (fun hHeld => ?_)
        clear hK K
        refine norm_ (a' := ?_) ?_ ?_
        rotate_left
        ·show Act.put _ (some 47) _ = _
         simp only [Act.put,lz1,lz2,lz3,i64_w,i32_w]
         rfl
        refine pure_ (i:=15) (N := some 48) (v:=?_) (a':=?_) #[true,true,true,true,true,true,true,true,true,true,true,true,true,true,true,true,false,false,false,false,false,false,false] rfl rfl (any_of HT_.out (by kernel_rfl)) (fun _ _ _ h=>h) (Or.inl ⟨by rfl, ?_⟩) ?_ ?_
        rotate_left
        ·intro w'
         go_simp
         with_reducible rfl
        rotate_left
        ·simp only [Act.put,lz1,lz2,lz3,i64_w,i32_w]
         rfl
        refine pure_ (i:=16) (N := some 49) (v:=?_) (a':=?_) #[true,true,true,true,true,true,true,true,true,true,true,true,true,true,true,true,true,false,false,false,false,false,false] rfl rfl (any_of HT_.out (by kernel_rfl)) (fun _ _ _ h=>h) (Or.inl ⟨by rfl, ?_⟩) ?_ ?_
        rotate_left
        ·intro w'
         go_simp
         with_reducible rfl
        rotate_left
        ·simp only [Act.put,lz1,lz2,lz3,i64_w,i32_w]
         rfl
        refine pure_ (i:=19) (N := some 52) (v:=?_) (a':=?_) #[true,true,true,true,true,true,true,true,true,true,true,true,true,true,true,true,true,false,false,true,false,false,false] rfl rfl (any_of HT_.out (by kernel_rfl)) (fun _ _ _ h=>h) (Or.inl ⟨by rfl, ?_⟩) ?_ ?_
        rotate_left
        ·intro w'
         go_simp
         with_reducible rfl
        rotate_left
        ·simp only [Act.put,lz1,lz2,lz3,i64_w,i32_w]
         rfl
        refine take_ (i := 17) (N := some 50) (v:=?_) (a':=?_) #[true,true,true,true,true,true,true,true,true,true,true,true,true,true,true,true,true,true,false,true,false,false,false] rfl rfl (take_ofW HT_.out HW_.out (by kernel_rfl)) (fun _ _ _ h=>h) (Or.inl ⟨by rfl, ?_⟩) hHeld ?_ ?_
        rotate_left
        ·rintro w' ⟨s0, s1, s2, s3, s4, s5, s6, s7, s8, s9, s10, s11, s12, s13, s14, s15, s16, s17, s18, s19, s20⟩
         go_simp
         with_reducible rfl
        rotate_left
        ·simp only [Act.put,lz1,lz2,lz3,i64_w,i32_w]
         rfl
        refine take_ (i := 20) (N := some 53) (v:=?_) (a':=?_) #[true,true,true,true,true,true,true,true,true,true,true,true,true,true,true,true,true,true,false,true,true,false,false] rfl rfl (take_ofW HT_.out HW_.out (by kernel_rfl)) (fun _ _ _ h=>h) (Or.inl ⟨by rfl, ?_⟩) hHeld ?_ ?_
        rotate_left
        ·rintro w' ⟨s0, s1, s2, s3, s4, s5, s6, s7, s8, s9, s10, s11, s12, s13, s14, s15, s16, s17, s18, s19, s20⟩
         go_simp
         with_reducible rfl
        rotate_left
        ·simp only [Act.put,lz1,lz2,lz3,i64_w,i32_w]
         rfl
        refine one_ (i := 18) (N := some 51) #[true,true,true,true,true,true,true,true,true,true,true,true,true,true,true,true,true,true,true,true,true,false,false] rfl rfl (one_of HT_.out (by kernel_rfl)) (by decide) (fun K hK => ?_)
        refine goes_ Try.func15 (by kernel_rfl) rfl #[.agg #[.string (⟨#[]⟩ : ByteArray), .int .i64 0, .int .i64 (Go.bits .and .i64 a0_1 15), .int .i64 (Go.bits .and .i64 a0_2 3), .bool a0_3, .int .u64 0, .int .u64 0]] (by rfl) rfl rfl (by (try simp only [List.map_toArray, List.map_cons, List.map_nil]); first | done | rfl | (simp only [List.length_drop, List.length_take]; rfl)) ?_
        with_reducible refine (sym_Symbol_Own.calls (⟨#[]⟩ : ByteArray) 0 (Go.bits .and .i64 a0_1 15) (Go.bits .and .i64 a0_2 3) a0_3 0 0 t147 _ A52.out).mono ?_
        rintro e w60 ⟨rfl, hb⟩
        refine ⟨_, rfl, ?_⟩
        have n0_ := Aside0.mk (blk_below (g := gb137) (o := .cells #[.int .i64 a0_0, .int .i64 a0_1, .int .i64 a0_2, .bool a0_3, .int .u64 a0_4, .int .u64 a0_5] 24 (0, 0)) (by (with_reducible repeat (first | refine blk_drewN ?_ _ | refine blk_drew ?_ | refine blk_alloc ?_ _)); exact BK137.out) hb)
        have n1_ := Aside0.mk (blk_below (g := gb139) (o := .cells #[.string (⟨#[]⟩ : ByteArray), .int .i64 x140001_3, .int .i64 (Go.bits .and .i64 a0_1 15), .int .i64 (Go.bits .and .i64 a0_2 3), .bool a0_3, .int .u64 0, .int .u64 0] 28 (0, 0)) (by (with_reducible repeat (first | refine blk_drewN ?_ _ | refine blk_drew ?_ | refine blk_alloc ?_ _)); exact BK139.out) hb)
        have n2_ := Aside0.mk (blk_below (g := gb140) (o := .cells #[.string (⟨#[]⟩ : ByteArray), .int .i64 (wrap64 (3 - x140001_3)), .int .i64 (Go.bits .and .i64 a0_1 15), .int .i64 (Go.bits .and .i64 a0_2 3), .bool a0_3, .int .u64 0, .int .u64 0] 28 (0, 0)) (by (with_reducible repeat (first | refine blk_drewN ?_ _ | refine blk_drew ?_ | refine blk_alloc ?_ _)); exact BK140.out) hb)
        have n3_ := Aside0.mk (blk_below (g := gb141) (o := .cells #[.string (⟨#[]⟩ : ByteArray), .int .i64 0, .int .i64 (Go.bits .and .i64 a0_1 15), .int .i64 (Go.bits .and .i64 a0_2 3), .bool a0_3, .int .u64 0, .int .u64 0] 28 (0, 0)) (by (with_reducible repeat (first | refine blk_drewN ?_ _ | refine blk_drew ?_ | refine blk_alloc ?_ _)); exact BK141.out) hb)
        have n4_ := Aside0.mk (below_step (by repeat (first | (with_reducible first | exact HB.out | apply below_alloc | apply pw_below_drewN | apply below_drew1 | refine below_set ?_ GE137.out | refine below_set ?_ GE139.out | refine below_set ?_ GE140.out | refine below_set ?_ GE141.out) | exact HB.out)) hb)
        clear BK137
        clear BK139
        clear BK140
        clear BK141
        clear HB
        have BK137 := n0_
        have BK139 := n1_
        have BK140 := n2_
        have BK141 := n3_
        have HB := n4_
        clear n0_ n1_ n2_ n3_ n4_
        (try clear hb)
        (try clear hb2)
        (try clear hk)
        (try clear hi)
        refine hK.out _ _ ⟨(blk_cell BK139.out 0).trans rfl, (blk_cell BK139.out 1).trans rfl, (blk_cell BK139.out 2).trans rfl, (blk_cell BK139.out 3).trans rfl, (blk_cell BK139.out 4).trans rfl, (blk_cell BK139.out 5).trans rfl, (blk_cell BK139.out 6).trans rfl, (blk_cell BK140.out 0).trans rfl, (blk_cell BK140.out 1).trans rfl, (blk_cell BK140.out 2).trans rfl, (blk_cell BK140.out 3).trans rfl, (blk_cell BK140.out 4).trans rfl, (blk_cell BK140.out 5).trans rfl, (blk_cell BK140.out 6).trans rfl, (blk_cell BK141.out 0).trans rfl, (blk_cell BK141.out 1).trans rfl, (blk_cell BK141.out 2).trans rfl, (blk_cell BK141.out 3).trans rfl, (blk_cell BK141.out 4).trans rfl, (blk_cell BK141.out 5).trans rfl, (blk_cell BK141.out 6).trans rfl⟩ (fun hHeld => ?_)
        clear hK K
        refine norm_ (a' := ?_) ?_ ?_
        rotate_left
        ·show Act.put _ (some 51) _ = _
         simp only [Act.put,lz1,lz2,lz3,i64_w,i32_w]
         rfl
        refine pure_ (i:=21) (N := some 54) (v:=?_) (a':=?_) #[true,true,true,true,true,true,true,true,true,true,true,true,true,true,true,true,true,true,true,true,true,true,false] rfl rfl (any_of HT_.out (by kernel_rfl)) (fun _ _ _ h=>h) (Or.inl ⟨by rfl, ?_⟩) ?_ ?_
        rotate_left
        ·intro w'
         go_simp
         first | with_reducible rfl | (refine Eq.trans (b := .ok (.value (.bool true)) w') ?_ (by with_reducible rfl); (repeat' (first | with_reducible rfl | split)); all_goals (first | rfl | (exfalso; simp_all; done))) | (refine Eq.trans (b := .ok (.value (.bool false)) w') ?_ (by with_reducible rfl); (repeat' (first | with_reducible rfl | split)); all_goals (first | rfl | (exfalso; simp_all; done)))
        rotate_left
        ·simp only [Act.put,lz1,lz2,lz3,i64_w,i32_w]
         rfl
        refine pure_ (i:=22) (N := some 55) (v:=?_) (a':=?_) #[true,true,true,true,true,true,true,true,true,true,true,true,true,true,true,true,true,true,true,true,true,true,true] rfl rfl (any_of HT_.out (by kernel_rfl)) (fun _ _ _ h=>h) (Or.inl ⟨by rfl, ?_⟩) ?_ ?_
        rotate_left
        ·intro w'
         go_simp
         with_reducible rfl
        rotate_left
        ·simp only [Act.put,lz1,lz2,lz3,i64_w,i32_w]
         rfl
        refine done_ (done_of HT_.out (by kernel_rfl)) ?_
        try go_wp2
        (try subst hji11)
        (try subst hji13)
        go_meet
        case rel => exact ⟨_, ((t147 != a0_3)), (by first | rfl | (simp; done) | (simp [*]; done)), H', ⟨by have := HJ3.out; first | omega | exact Nat.le_refl _⟩, ⟨by (with_reducible repeat (first | refine blk_drewN ?_ _ | refine blk_drew ?_ | refine blk_alloc ?_ _)); exact BK137.out⟩, ⟨by (with_reducible repeat (first | refine blk_drewN ?_ _ | refine blk_drew ?_ | refine blk_alloc ?_ _)); exact BK139.out⟩, ⟨by (with_reducible repeat (first | refine blk_drewN ?_ _ | refine blk_drew ?_ | refine blk_alloc ?_ _)); exact BK140.out⟩, ⟨by (with_reducible repeat (first | refine blk_drewN ?_ _ | refine blk_drew ?_ | refine blk_alloc ?_ _)); exact BK141.out⟩, ⟨by repeat (first | (with_reducible first | exact HB.out | apply below_alloc | apply pw_below_drewN | apply below_drew1 | refine below_set ?_ GE137.out | refine below_set ?_ GE139.out | refine below_set ?_ GE140.out | refine below_set ?_ GE141.out) | exact HB.out)⟩⟩
    case rest =>
     clear HC14
     try clear c1
     try clear p2
     try clear c4
     try clear p6
     try clear c14
     try clear c15
     try clear c44
     obtain ⟨kq, x55_13, rfl, HA, HJ13, BK137, BK139, BK140, BK141, HB⟩ := hcut
     cases kq with
     | zero => exact absurd HA.out (by simp [turnbucklelaw11_SymBinds.j1])
     | succ kj13 =>
      have H := HA.out
      clear HA
      simp only [turnbucklelaw11_SymBinds.j1] at H
      by_cases c61 : x55_13 = true
      ·subst c61
       have H1 : (some false) = some r := by rw [if_pos rfl] at H; exact H
       clear H
       have H := H1
       clear H1
       obtain rfl := Option.some.inj H
       go_wp2
       go_ret
       exact ⟨by first | rfl | (simp [errW_none, errW_some] <;> rfl) | (simp [*, errW_none, errW_some] <;> rfl), by repeat (first | (with_reducible first | exact HB.out | apply below_alloc | apply pw_below_drewN | apply below_drew1 | refine below_set ?_ GE137.out | refine below_set ?_ GE139.out | refine below_set ?_ GE140.out | refine below_set ?_ GE141.out) | exact HB.out)⟩
      ·replace c61 := Bool.eq_false_iff.mpr c61
       subst c61
       have H1 : (if (Go.bits .and .i64 a0_2 3) = 2 then ((sym_Symbol_Exported.f (⟨#[]⟩ : ByteArray) x140001_3 (Go.bits .and .i64 a0_1 15) (Go.bits .and .i64 a0_2 3) a0_3 0 0).bind fun t148 => (if t148 = true then (some false) else ((sym_Symbol_Own.f (⟨#[]⟩ : ByteArray) x140001_3 (Go.bits .and .i64 a0_1 15) (Go.bits .and .i64 a0_2 3) a0_3 0 0).bind fun t149 => (some (t149 == a0_3))))) else (if (Go.bits .and .i64 a0_2 3) = 1 then ((sym_Symbol_Exported.f (⟨#[]⟩ : ByteArray) x140001_3 (Go.bits .and .i64 a0_1 15) (Go.bits .and .i64 a0_2 3) a0_3 0 0).bind fun t150 => (if t150 = true then (some false) else ((sym_Symbol_Own.f (⟨#[]⟩ : ByteArray) x140001_3 (Go.bits .and .i64 a0_1 15) (Go.bits .and .i64 a0_2 3) a0_3 0 0).bind fun t151 => (some (t151 == a0_3))))) else (some true))) = some r := by rw [if_neg (show ¬ (false = true) by decide)] at H; exact H
       clear H
       have H := H1
       clear H1
       by_cases c62 : (Go.bits .and .i64 a0_2 3) = 2
       ·rw [if_pos c62] at H
        have c62b0 : ((Go.bits .and .i64 a0_2 3) == 2) = true := beq_iff_eq.mpr c62
        have c62b1 : ((Go.bits .and .i64 a0_2 3) != 2) = false := bne_eq_false_iff_eq.mpr c62
        clear c62
        replace H := Option.bind_eq_some_iff.mp H
        obtain ⟨t148, A630, H⟩ := H
        replace H : (if t148 = true then (some false) else ((sym_Symbol_Own.f (⟨#[]⟩ : ByteArray) x140001_3 (Go.bits .and .i64 a0_1 15) (Go.bits .and .i64 a0_2 3) a0_3 0 0).bind fun t149 => (some (t149 == a0_3)))) = some r := H
        have A63 := Aside0.mk A630
        clear A630
        by_cases c64 : t148 = true
        ·subst c64
         have H1 : (some false) = some r := by rw [if_pos rfl] at H; exact H
         clear H
         have H := H1
         clear H1
         obtain rfl := Option.some.inj H
         have hnb65 := NB139_137.out
         have hnc65 := NB137_139.out
         have hnb66 := NB139_140.out
         have hnc66 := NB140_139.out
         have hnb67 := NB139_141.out
         have hnc67 := NB141_139.out
         have hcz68_0 : wc.cell? ⟨gb139, 0, none⟩ = some (.string (⟨#[]⟩ : ByteArray)) := (blk_cell BK139.out 0).trans rfl
         have hcz68_1 : wc.cell? ⟨gb139, 1, none⟩ = some (.int .i64 x140001_3) := (blk_cell BK139.out 1).trans rfl
         have hcz68_2 : wc.cell? ⟨gb139, 2, none⟩ = some (.int .i64 (Go.bits .and .i64 a0_1 15)) := (blk_cell BK139.out 2).trans rfl
         have hcz68_3 : wc.cell? ⟨gb139, 3, none⟩ = some (.int .i64 (Go.bits .and .i64 a0_2 3)) := (blk_cell BK139.out 3).trans rfl
         have hcz68_4 : wc.cell? ⟨gb139, 4, none⟩ = some (.bool a0_3) := (blk_cell BK139.out 4).trans rfl
         have hcz68_5 : wc.cell? ⟨gb139, 5, none⟩ = some (.int .u64 0) := (blk_cell BK139.out 5).trans rfl
         have hcz68_6 : wc.cell? ⟨gb139, 6, none⟩ = some (.int .u64 0) := (blk_cell BK139.out 6).trans rfl
         have hfz68_0 := blk_frozen BK139.out 0
         have hfz68_1 := blk_frozen BK139.out 1
         have hfz68_2 := blk_frozen BK139.out 2
         have hfz68_3 := blk_frozen BK139.out 3
         have hfz68_4 := blk_frozen BK139.out 4
         have hfz68_5 := blk_frozen BK139.out 5
         have hfz68_6 := blk_frozen BK139.out 6
         try go_wp2
         have n0_ := Aside0.mk (blk_drew BK137.out)
         have n1_ := Aside0.mk (blk_drew BK139.out)
         have n2_ := Aside0.mk (blk_drew BK140.out)
         have n3_ := Aside0.mk (blk_drew BK141.out)
         have n4_ := Aside0.mk (below_drew1 HB.out)
         clear BK137
         clear BK139
         clear BK140
         clear BK141
         clear HB
         have BK137 := n0_
         have BK139 := n1_
         have BK140 := n2_
         have BK141 := n3_
         have HB := n4_
         clear n0_ n1_ n2_ n3_ n4_
         refine start_ (n := 15) (S := fun w' => w'.cell? ⟨gb139, 0, none⟩ = some (.string (⟨#[]⟩ : ByteArray)) ∧ w'.cell? ⟨gb139, 1, none⟩ = some (.int .i64 x140001_3) ∧ w'.cell? ⟨gb139, 2, none⟩ = some (.int .i64 (Go.bits .and .i64 a0_1 15)) ∧ w'.cell? ⟨gb139, 3, none⟩ = some (.int .i64 (Go.bits .and .i64 a0_2 3)) ∧ w'.cell? ⟨gb139, 4, none⟩ = some (.bool a0_3) ∧ w'.cell? ⟨gb139, 5, none⟩ = some (.int .u64 0) ∧ w'.cell? ⟨gb139, 6, none⟩ = some (.int .u64 0)) (ds := []) #[false,false,false,false,false,false,false,false,false,false,false,false,false,false,false] (by kernel_rfl) rfl rfl ⟨(blk_cell BK139.out 0).trans rfl, (blk_cell BK139.out 1).trans rfl, (blk_cell BK139.out 2).trans rfl, (blk_cell BK139.out 3).trans rfl, (blk_cell BK139.out 4).trans rfl, (blk_cell BK139.out 5).trans rfl, (blk_cell BK139.out 6).trans rfl⟩ (fun hHeld => ?_); refine with_tabW turnbucklelaw11_SymBinds.tab13 turnbucklelaw11_SymBinds.bits13 (fun HT_ HW_ => ?_)
         generalize wc.drew = w69 at BK137 BK139 BK140 BK141 HB hHeld ⊢
         refine pure_ (i:=0) (N := some 64) (v:=?_) (a':=?_) #[true,false,false,false,false,false,false,false,false,false,false,false,false,false,false] rfl rfl (any_of HT_.out (by kernel_rfl)) (fun _ _ _ h=>h) (Or.inl ⟨by rfl, ?_⟩) ?_ ?_
         rotate_left
         ·intro w'
          go_simp
          with_reducible rfl
         rotate_left
         ·simp only [Act.put,lz1,lz2,lz3,i64_w,i32_w]
          rfl
         refine pure_ (i:=1) (N := some 65) (v:=?_) (a':=?_) #[true,true,false,false,false,false,false,false,false,false,false,false,false,false,false] rfl rfl (any_of HT_.out (by kernel_rfl)) (fun _ _ _ h=>h) (Or.inl ⟨by rfl, ?_⟩) ?_ ?_
         rotate_left
         ·intro w'
          go_simp
          with_reducible rfl
         rotate_left
         ·simp only [Act.put,lz1,lz2,lz3,i64_w,i32_w]
          rfl
         refine pure_ (i:=2) (N := some 66) (v:=?_) (a':=?_) #[true,true,true,false,false,false,false,false,false,false,false,false,false,false,false] rfl rfl (any_of HT_.out (by kernel_rfl)) (fun _ _ _ h=>h) (Or.inl ⟨by rfl, ?_⟩) ?_ ?_
         rotate_left
         ·intro w'
          go_simp
          with_reducible rfl
         rotate_left
         ·simp only [Act.put,lz1,lz2,lz3,i64_w,i32_w]
          rfl
         refine take_ (i := 3) (N := some 67) (v:=?_) (a':=?_) #[true,true,true,true,false,false,false,false,false,false,false,false,false,false,false] rfl rfl (take_ofW HT_.out HW_.out (by kernel_rfl)) (fun _ _ _ h=>h) (Or.inl ⟨by rfl, ?_⟩) hHeld ?_ ?_
         rotate_left
         ·rintro w' ⟨s0, s1, s2, s3, s4, s5, s6⟩
          go_simp
          with_reducible rfl
         rotate_left
         ·simp only [Act.put,lz1,lz2,lz3,i64_w,i32_w]
          rfl
         refine one_ (i := 4) (N := some 68) #[true,true,true,true,true,false,false,false,false,false,false,false,false,false,false] rfl rfl (one_of HT_.out (by kernel_rfl)) (by decide) (fun K hK => ?_)
         refine goes_ Try.func14 (by kernel_rfl) rfl #[.agg #[.string (⟨#[]⟩ : ByteArray), .int .i64 x140001_3, .int .i64 (Go.bits .and .i64 a0_1 15), .int .i64 (Go.bits .and .i64 a0_2 3), .bool a0_3, .int .u64 0, .int .u64 0]] (by rfl) rfl rfl (by (try simp only [List.map_toArray, List.map_cons, List.map_nil]); first | done | rfl | (simp only [List.length_drop, List.length_take]; rfl)) ?_
         with_reducible refine (sym_Symbol_Exported.calls (⟨#[]⟩ : ByteArray) x140001_3 (Go.bits .and .i64 a0_1 15) (Go.bits .and .i64 a0_2 3) a0_3 0 0 true _ A63.out).mono ?_
         rintro e w70 ⟨rfl, hb⟩
         refine ⟨_, rfl, ?_⟩
         have n0_ := Aside0.mk (blk_below (g := gb137) (o := .cells #[.int .i64 a0_0, .int .i64 a0_1, .int .i64 a0_2, .bool a0_3, .int .u64 a0_4, .int .u64 a0_5] 24 (0, 0)) (by (with_reducible repeat (first | refine blk_drewN ?_ _ | refine blk_drew ?_ | refine blk_alloc ?_ _)); exact BK137.out) hb)
         have n1_ := Aside0.mk (blk_below (g := gb139) (o := .cells #[.string (⟨#[]⟩ : ByteArray), .int .i64 x140001_3, .int .i64 (Go.bits .and .i64 a0_1 15), .int .i64 (Go.bits .and .i64 a0_2 3), .bool a0_3, .int .u64 0, .int .u64 0] 28 (0, 0)) (by (with_reducible repeat (first | refine blk_drewN ?_ _ | refine blk_drew ?_ | refine blk_alloc ?_ _)); exact BK139.out) hb)
         have n2_ := Aside0.mk (blk_below (g := gb140) (o := .cells #[.string (⟨#[]⟩ : ByteArray), .int .i64 (wrap64 (3 - x140001_3)), .int .i64 (Go.bits .and .i64 a0_1 15), .int .i64 (Go.bits .and .i64 a0_2 3), .bool a0_3, .int .u64 0, .int .u64 0] 28 (0, 0)) (by (with_reducible repeat (first | refine blk_drewN ?_ _ | refine blk_drew ?_ | refine blk_alloc ?_ _)); exact BK140.out) hb)
         have n3_ := Aside0.mk (blk_below (g := gb141) (o := .cells #[.string (⟨#[]⟩ : ByteArray), .int .i64 0, .int .i64 (Go.bits .and .i64 a0_1 15), .int .i64 (Go.bits .and .i64 a0_2 3), .bool a0_3, .int .u64 0, .int .u64 0] 28 (0, 0)) (by (with_reducible repeat (first | refine blk_drewN ?_ _ | refine blk_drew ?_ | refine blk_alloc ?_ _)); exact BK141.out) hb)
         have n4_ := Aside0.mk (below_step (by repeat (first | (with_reducible first | exact HB.out | apply below_alloc | apply pw_below_drewN | apply below_drew1 | refine below_set ?_ GE137.out | refine below_set ?_ GE139.out | refine below_set ?_ GE140.out | refine below_set ?_ GE141.out) | exact HB.out)) hb)
         clear BK137
         clear BK139
         clear BK140
         clear BK141
         clear HB
         have BK137 := n0_
         have BK139 := n1_
         have BK140 := n2_
         have BK141 := n3_
         have HB := n4_
         clear n0_ n1_ n2_ n3_ n4_
         (try clear hb)
         (try clear hb2)
         (try clear hk)
         (try clear hi)
         refine hK.out _ _ ⟨(blk_cell BK139.out 0).trans rfl, (blk_cell BK139.out 1).trans rfl, (blk_cell BK139.out 2).trans rfl, (blk_cell BK139.out 3).trans rfl, (blk_cell BK139.out 4).trans rfl, (blk_cell BK139.out 5).trans rfl, (blk_cell BK139.out 6).trans rfl⟩ (fun hHeld => ?_)
         clear hK K
         refine norm_ (a' := ?_) ?_ ?_
         rotate_left
         ·show Act.put _ (some 68) _ = _
          simp only [Act.put,lz1,lz2,lz3,i64_w,i32_w]
          rfl
         refine pure_ (i:=5) (N := some 69) (v:=?_) (a':=?_) #[true,true,true,true,true,true,false,false,false,false,false,false,false,false,false] rfl rfl (any_of HT_.out (by kernel_rfl)) (fun _ _ _ h=>h) (Or.inl ⟨by rfl, ?_⟩) ?_ ?_
         rotate_left
         ·intro w'
          go_simp
          with_reducible rfl
         rotate_left
         ·simp only [Act.put,lz1,lz2,lz3,i64_w,i32_w]
          rfl
         refine pure_ (i:=6) (N := some 70) (v:=?_) (a':=?_) #[true,true,true,true,true,true,true,false,false,false,false,false,false,false,false] rfl rfl (any_of HT_.out (by kernel_rfl)) (fun _ _ _ h=>h) (Or.inl ⟨by rfl, ?_⟩) ?_ ?_
         rotate_left
         ·intro w'
          go_simp
          with_reducible rfl
         rotate_left
         ·simp only [Act.put,lz1,lz2,lz3,i64_w,i32_w]
          rfl
         refine pure_ (i:=7) (N := some 71) (v := undef) (a' := ?_) #[true,true,true,true,true,true,true,true,false,false,false,false,false,false,false] rfl rfl (any_of HT_.out (by kernel_rfl)) (fun _ _ _ h=>h) (Or.inr ⟨by rfl, rfl⟩) ?_ ?_
         rotate_left
         ·simp only [Act.put,lz1,lz2,lz3,i64_w,i32_w]
          rfl
         refine pure_ (i:=8) (N := some 72) (v := undef) (a' := ?_) #[true,true,true,true,true,true,true,true,true,false,false,false,false,false,false] rfl rfl (any_of HT_.out (by kernel_rfl)) (fun _ _ _ h=>h) (Or.inr ⟨by rfl, rfl⟩) ?_ ?_
         rotate_left
         ·simp only [Act.put,lz1,lz2,lz3,i64_w,i32_w]
          rfl
         refine pure_ (i:=9) (N := some 73) (v := undef) (a' := ?_) #[true,true,true,true,true,true,true,true,true,true,false,false,false,false,false] rfl rfl (any_of HT_.out (by kernel_rfl)) (fun _ _ _ h=>h) (Or.inr ⟨by rfl, rfl⟩) ?_ ?_
         rotate_left
         ·simp only [Act.put,lz1,lz2,lz3,i64_w,i32_w]
          rfl
         refine pure_ (i:=10) (N := some 74) (v := undef) (a' := ?_) #[true,true,true,true,true,true,true,true,true,true,true,false,false,false,false] rfl rfl (any_of HT_.out (by kernel_rfl)) (fun _ _ _ h=>h) (Or.inr ⟨by rfl, rfl⟩) ?_ ?_
         rotate_left
         ·simp only [Act.put,lz1,lz2,lz3,i64_w,i32_w]
          rfl
         refine pure_ (i:=11) (N := some 75) (v := undef) (a' := ?_) #[true,true,true,true,true,true,true,true,true,true,true,true,false,false,false] rfl rfl (any_of HT_.out (by kernel_rfl)) (fun _ _ _ h=>h) (Or.inr ⟨by rfl, rfl⟩) ?_ ?_
         rotate_left
         ·simp only [Act.put,lz1,lz2,lz3,i64_w,i32_w]
          rfl
         refine pure_ (i:=12) (N := some 76) (v:=?_) (a':=?_) #[true,true,true,true,true,true,true,true,true,true,true,true,true,false,false] rfl rfl (any_of HT_.out (by kernel_rfl)) (fun _ _ _ h=>h) (Or.inl ⟨by rfl, ?_⟩) ?_ ?_
         rotate_left
         ·intro w'
          go_simp
          with_reducible rfl
         rotate_left
         ·simp only [Act.put,lz1,lz2,lz3,i64_w,i32_w]
          rfl
         refine pure_ (i:=13) (N := some 77) (v:=?_) (a':=?_) #[true,true,true,true,true,true,true,true,true,true,true,true,true,true,false] rfl rfl (any_of HT_.out (by kernel_rfl)) (fun _ _ _ h=>h) (Or.inl ⟨by rfl, ?_⟩) ?_ ?_
         rotate_left
         ·intro w'
          go_simp
          with_reducible rfl
         rotate_left
         ·simp only [Act.put,lz1,lz2,lz3,i64_w,i32_w]
          rfl
         refine pure_ (i:=14) (N := some 2) (v:=?_) (a':=?_) #[true,true,true,true,true,true,true,true,true,true,true,true,true,true,true] rfl rfl (any_of HT_.out (by kernel_rfl)) (fun _ _ _ h=>h) (Or.inl ⟨by rfl, ?_⟩) ?_ ?_
         rotate_left
         ·intro w'
          go_simp
          with_reducible rfl
         rotate_left
         ·simp only [Act.put,lz1,lz2,lz3,i64_w,i32_w]
          rfl
         refine done_ (done_of HT_.out (by kernel_rfl)) ?_
         try go_wp2
         go_ret
         exact ⟨by first | rfl | (simp [errW_none, errW_some] <;> rfl) | (simp [*, errW_none, errW_some] <;> rfl), by repeat (first | (with_reducible first | exact HB.out | apply below_alloc | apply pw_below_drewN | apply below_drew1 | refine below_set ?_ GE137.out | refine below_set ?_ GE139.out | refine below_set ?_ GE140.out | refine below_set ?_ GE141.out) | exact HB.out)⟩
        ·replace c64 := Bool.eq_false_iff.mpr c64
         subst c64
         have H1 : ((sym_Symbol_Own.f (⟨#[]⟩ : ByteArray) x140001_3 (Go.bits .and .i64 a0_1 15) (Go.bits .and .i64 a0_2 3) a0_3 0 0).bind fun t149 => (some (t149 == a0_3))) = some r := by rw [if_neg (show ¬ (false = true) by decide)] at H; exact H
         clear H
         have H := H1
         clear H1
         replace H := Option.bind_eq_some_iff.mp H
         obtain ⟨t149, A710, H⟩ := H
         replace H : (some (t149 == a0_3)) = some r := H
         have A71 := Aside0.mk A710
         clear A710
         obtain rfl := Option.some.inj H
         have hnb72 := NB139_137.out
         have hnc72 := NB137_139.out
         have hnb73 := NB139_140.out
         have hnc73 := NB140_139.out
         have hnb74 := NB139_141.out
         have hnc74 := NB141_139.out
         have hcz75_0 : wc.cell? ⟨gb139, 0, none⟩ = some (.string (⟨#[]⟩ : ByteArray)) := (blk_cell BK139.out 0).trans rfl
         have hcz75_1 : wc.cell? ⟨gb139, 1, none⟩ = some (.int .i64 x140001_3) := (blk_cell BK139.out 1).trans rfl
         have hcz75_2 : wc.cell? ⟨gb139, 2, none⟩ = some (.int .i64 (Go.bits .and .i64 a0_1 15)) := (blk_cell BK139.out 2).trans rfl
         have hcz75_3 : wc.cell? ⟨gb139, 3, none⟩ = some (.int .i64 (Go.bits .and .i64 a0_2 3)) := (blk_cell BK139.out 3).trans rfl
         have hcz75_4 : wc.cell? ⟨gb139, 4, none⟩ = some (.bool a0_3) := (blk_cell BK139.out 4).trans rfl
         have hcz75_5 : wc.cell? ⟨gb139, 5, none⟩ = some (.int .u64 0) := (blk_cell BK139.out 5).trans rfl
         have hcz75_6 : wc.cell? ⟨gb139, 6, none⟩ = some (.int .u64 0) := (blk_cell BK139.out 6).trans rfl
         have hfz75_0 := blk_frozen BK139.out 0
         have hfz75_1 := blk_frozen BK139.out 1
         have hfz75_2 := blk_frozen BK139.out 2
         have hfz75_3 := blk_frozen BK139.out 3
         have hfz75_4 := blk_frozen BK139.out 4
         have hfz75_5 := blk_frozen BK139.out 5
         have hfz75_6 := blk_frozen BK139.out 6
         try go_wp2
         have n0_ := Aside0.mk (blk_drew BK137.out)
         have n1_ := Aside0.mk (blk_drew BK139.out)
         have n2_ := Aside0.mk (blk_drew BK140.out)
         have n3_ := Aside0.mk (blk_drew BK141.out)
         have n4_ := Aside0.mk (below_drew1 HB.out)
         clear BK137
         clear BK139
         clear BK140
         clear BK141
         clear HB
         have BK137 := n0_
         have BK139 := n1_
         have BK140 := n2_
         have BK141 := n3_
         have HB := n4_
         clear n0_ n1_ n2_ n3_ n4_
         refine start_ (n := 15) (S := fun w' => w'.cell? ⟨gb139, 0, none⟩ = some (.string (⟨#[]⟩ : ByteArray)) ∧ w'.cell? ⟨gb139, 1, none⟩ = some (.int .i64 x140001_3) ∧ w'.cell? ⟨gb139, 2, none⟩ = some (.int .i64 (Go.bits .and .i64 a0_1 15)) ∧ w'.cell? ⟨gb139, 3, none⟩ = some (.int .i64 (Go.bits .and .i64 a0_2 3)) ∧ w'.cell? ⟨gb139, 4, none⟩ = some (.bool a0_3) ∧ w'.cell? ⟨gb139, 5, none⟩ = some (.int .u64 0) ∧ w'.cell? ⟨gb139, 6, none⟩ = some (.int .u64 0)) (ds := []) #[false,false,false,false,false,false,false,false,false,false,false,false,false,false,false] (by kernel_rfl) rfl rfl ⟨(blk_cell BK139.out 0).trans rfl, (blk_cell BK139.out 1).trans rfl, (blk_cell BK139.out 2).trans rfl, (blk_cell BK139.out 3).trans rfl, (blk_cell BK139.out 4).trans rfl, (blk_cell BK139.out 5).trans rfl, (blk_cell BK139.out 6).trans rfl⟩ (fun hHeld => ?_); refine with_tabW turnbucklelaw11_SymBinds.tab13 turnbucklelaw11_SymBinds.bits13 (fun HT_ HW_ => ?_)
         generalize wc.drew = w76 at BK137 BK139 BK140 BK141 HB hHeld ⊢
         refine pure_ (i:=0) (N := some 64) (v:=?_) (a':=?_) #[true,false,false,false,false,false,false,false,false,false,false,false,false,false,false] rfl rfl (any_of HT_.out (by kernel_rfl)) (fun _ _ _ h=>h) (Or.inl ⟨by rfl, ?_⟩) ?_ ?_
         rotate_left
         ·intro w'
          go_simp
          with_reducible rfl
         rotate_left
         ·simp only [Act.put,lz1,lz2,lz3,i64_w,i32_w]
          rfl
         refine pure_ (i:=1) (N := some 65) (v:=?_) (a':=?_) #[true,true,false,false,false,false,false,false,false,false,false,false,false,false,false] rfl rfl (any_of HT_.out (by kernel_rfl)) (fun _ _ _ h=>h) (Or.inl ⟨by rfl, ?_⟩) ?_ ?_
         rotate_left
         ·intro w'
          go_simp
          with_reducible rfl
         rotate_left
         ·simp only [Act.put,lz1,lz2,lz3,i64_w,i32_w]
          rfl
         refine pure_ (i:=2) (N := some 66) (v:=?_) (a':=?_) #[true,true,true,false,false,false,false,false,false,false,false,false,false,false,false] rfl rfl (any_of HT_.out (by kernel_rfl)) (fun _ _ _ h=>h) (Or.inl ⟨by rfl, ?_⟩) ?_ ?_
         rotate_left
         ·intro w'
          go_simp
          with_reducible rfl
         rotate_left
         ·simp only [Act.put,lz1,lz2,lz3,i64_w,i32_w]
          rfl
         refine take_ (i := 3) (N := some 67) (v:=?_) (a':=?_) #[true,true,true,true,false,false,false,false,false,false,false,false,false,false,false] rfl rfl (take_ofW HT_.out HW_.out (by kernel_rfl)) (fun _ _ _ h=>h) (Or.inl ⟨by rfl, ?_⟩) hHeld ?_ ?_
         rotate_left
         ·rintro w' ⟨s0, s1, s2, s3, s4, s5, s6⟩
          go_simp
          with_reducible rfl
         rotate_left
         ·simp only [Act.put,lz1,lz2,lz3,i64_w,i32_w]
          rfl
         refine one_ (i := 4) (N := some 68) #[true,true,true,true,true,false,false,false,false,false,false,false,false,false,false] rfl rfl (one_of HT_.out (by kernel_rfl)) (by decide) (fun K hK => ?_)
         refine goes_ Try.func14 (by kernel_rfl) rfl #[.agg #[.string (⟨#[]⟩ : ByteArray), .int .i64 x140001_3, .int .i64 (Go.bits .and .i64 a0_1 15), .int .i64 (Go.bits .and .i64 a0_2 3), .bool a0_3, .int .u64 0, .int .u64 0]] (by rfl) rfl rfl (by (try simp only [List.map_toArray, List.map_cons, List.map_nil]); first | done | rfl | (simp only [List.length_drop, List.length_take]; rfl)) ?_
         with_reducible refine (sym_Symbol_Exported.calls (⟨#[]⟩ : ByteArray) x140001_3 (Go.bits .and .i64 a0_1 15) (Go.bits .and .i64 a0_2 3) a0_3 0 0 false _ A63.out).mono ?_
         rintro e w77 ⟨rfl, hb⟩
         refine ⟨_, rfl, ?_⟩
         have n0_ := Aside0.mk (blk_below (g := gb137) (o := .cells #[.int .i64 a0_0, .int .i64 a0_1, .int .i64 a0_2, .bool a0_3, .int .u64 a0_4, .int .u64 a0_5] 24 (0, 0)) (by (with_reducible repeat (first | refine blk_drewN ?_ _ | refine blk_drew ?_ | refine blk_alloc ?_ _)); exact BK137.out) hb)
         have n1_ := Aside0.mk (blk_below (g := gb139) (o := .cells #[.string (⟨#[]⟩ : ByteArray), .int .i64 x140001_3, .int .i64 (Go.bits .and .i64 a0_1 15), .int .i64 (Go.bits .and .i64 a0_2 3), .bool a0_3, .int .u64 0, .int .u64 0] 28 (0, 0)) (by (with_reducible repeat (first | refine blk_drewN ?_ _ | refine blk_drew ?_ | refine blk_alloc ?_ _)); exact BK139.out) hb)
         have n2_ := Aside0.mk (blk_below (g := gb140) (o := .cells #[.string (⟨#[]⟩ : ByteArray), .int .i64 (wrap64 (3 - x140001_3)), .int .i64 (Go.bits .and .i64 a0_1 15), .int .i64 (Go.bits .and .i64 a0_2 3), .bool a0_3, .int .u64 0, .int .u64 0] 28 (0, 0)) (by (with_reducible repeat (first | refine blk_drewN ?_ _ | refine blk_drew ?_ | refine blk_alloc ?_ _)); exact BK140.out) hb)
         have n3_ := Aside0.mk (blk_below (g := gb141) (o := .cells #[.string (⟨#[]⟩ : ByteArray), .int .i64 0, .int .i64 (Go.bits .and .i64 a0_1 15), .int .i64 (Go.bits .and .i64 a0_2 3), .bool a0_3, .int .u64 0, .int .u64 0] 28 (0, 0)) (by (with_reducible repeat (first | refine blk_drewN ?_ _ | refine blk_drew ?_ | refine blk_alloc ?_ _)); exact BK141.out) hb)
         have n4_ := Aside0.mk (below_step (by repeat (first | (with_reducible first | exact HB.out | apply below_alloc | apply pw_below_drewN | apply below_drew1 | refine below_set ?_ GE137.out | refine below_set ?_ GE139.out | refine below_set ?_ GE140.out | refine below_set ?_ GE141.out) | exact HB.out)) hb)
         clear BK137
         clear BK139
         clear BK140
         clear BK141
         clear HB
         have BK137 := n0_
         have BK139 := n1_
         have BK140 := n2_
         have BK141 := n3_
         have HB := n4_
         clear n0_ n1_ n2_ n3_ n4_
         (try clear hb)
         (try clear hb2)
         (try clear hk)
         (try clear hi)
         refine hK.out _ _ ⟨(blk_cell BK139.out 0).trans rfl, (blk_cell BK139.out 1).trans rfl, (blk_cell BK139.out 2).trans rfl, (blk_cell BK139.out 3).trans rfl, (blk_cell BK139.out 4).trans rfl, (blk_cell BK139.out 5).trans rfl, (blk_cell BK139.out 6).trans rfl⟩ (fun hHeld => ?_)
         clear hK K
         refine norm_ (a' := ?_) ?_ ?_
         rotate_left
         ·show Act.put _ (some 68) _ = _
          simp only [Act.put,lz1,lz2,lz3,i64_w,i32_w]
          rfl
         refine pure_ (i:=5) (N := some 69) (v:=?_) (a':=?_) #[true,true,true,true,true,true,false,false,false,false,false,false,false,false,false] rfl rfl (any_of HT_.out (by kernel_rfl)) (fun _ _ _ h=>h) (Or.inl ⟨by rfl, ?_⟩) ?_ ?_
         rotate_left
         ·intro w'
          go_simp
          with_reducible rfl
         rotate_left
         ·simp only [Act.put,lz1,lz2,lz3,i64_w,i32_w]
          rfl
         refine pure_ (i:=6) (N := some 70) (v:=?_) (a':=?_) #[true,true,true,true,true,true,true,false,false,false,false,false,false,false,false] rfl rfl (any_of HT_.out (by kernel_rfl)) (fun _ _ _ h=>h) (Or.inl ⟨by rfl, ?_⟩) ?_ ?_
         rotate_left
         ·intro w'
          go_simp
          with_reducible rfl
         rotate_left
         ·simp only [Act.put,lz1,lz2,lz3,i64_w,i32_w]
          rfl
         refine pure_ (i:=9) (N := some 73) (v:=?_) (a':=?_) #[true,true,true,true,true,true,true,false,false,true,false,false,false,false,false] rfl rfl (any_of HT_.out (by kernel_rfl)) (fun _ _ _ h=>h) (Or.inl ⟨by rfl, ?_⟩) ?_ ?_
         rotate_left
         ·intro w'
          go_simp
          with_reducible rfl
         rotate_left
         ·simp only [Act.put,lz1,lz2,lz3,i64_w,i32_w]
          rfl
         refine take_ (i := 7) (N := some 71) (v:=?_) (a':=?_) #[true,true,true,true,true,true,true,true,false,true,false,false,false,false,false] rfl rfl (take_ofW HT_.out HW_.out (by kernel_rfl)) (fun _ _ _ h=>h) (Or.inl ⟨by rfl, ?_⟩) hHeld ?_ ?_
         rotate_left
         ·rintro w' ⟨s0, s1, s2, s3, s4, s5, s6⟩
          go_simp
          with_reducible rfl
         rotate_left
         ·simp only [Act.put,lz1,lz2,lz3,i64_w,i32_w]
          rfl
         refine take_ (i := 10) (N := some 74) (v:=?_) (a':=?_) #[true,true,true,true,true,true,true,true,false,true,true,false,false,false,false] rfl rfl (take_ofW HT_.out HW_.out (by kernel_rfl)) (fun _ _ _ h=>h) (Or.inl ⟨by rfl, ?_⟩) hHeld ?_ ?_
         rotate_left
         ·rintro w' ⟨s0, s1, s2, s3, s4, s5, s6⟩
          go_simp
          with_reducible rfl
         rotate_left
         ·simp only [Act.put,lz1,lz2,lz3,i64_w,i32_w]
          rfl
         refine one_ (i := 8) (N := some 72) #[true,true,true,true,true,true,true,true,true,true,true,false,false,false,false] rfl rfl (one_of HT_.out (by kernel_rfl)) (by decide) (fun K hK => ?_)
         refine goes_ Try.func15 (by kernel_rfl) rfl #[.agg #[.string (⟨#[]⟩ : ByteArray), .int .i64 x140001_3, .int .i64 (Go.bits .and .i64 a0_1 15), .int .i64 (Go.bits .and .i64 a0_2 3), .bool a0_3, .int .u64 0, .int .u64 0]] (by rfl) rfl rfl (by (try simp only [List.map_toArray, List.map_cons, List.map_nil]); first | done | rfl | (simp only [List.length_drop, List.length_take]; rfl)) ?_
         with_reducible refine (sym_Symbol_Own.calls (⟨#[]⟩ : ByteArray) x140001_3 (Go.bits .and .i64 a0_1 15) (Go.bits .and .i64 a0_2 3) a0_3 0 0 t149 _ A71.out).mono ?_
         rintro e w78 ⟨rfl, hb⟩
         refine ⟨_, rfl, ?_⟩
         have n0_ := Aside0.mk (blk_below (g := gb137) (o := .cells #[.int .i64 a0_0, .int .i64 a0_1, .int .i64 a0_2, .bool a0_3, .int .u64 a0_4, .int .u64 a0_5] 24 (0, 0)) (by (with_reducible repeat (first | refine blk_drewN ?_ _ | refine blk_drew ?_ | refine blk_alloc ?_ _)); exact BK137.out) hb)
         have n1_ := Aside0.mk (blk_below (g := gb139) (o := .cells #[.string (⟨#[]⟩ : ByteArray), .int .i64 x140001_3, .int .i64 (Go.bits .and .i64 a0_1 15), .int .i64 (Go.bits .and .i64 a0_2 3), .bool a0_3, .int .u64 0, .int .u64 0] 28 (0, 0)) (by (with_reducible repeat (first | refine blk_drewN ?_ _ | refine blk_drew ?_ | refine blk_alloc ?_ _)); exact BK139.out) hb)
         have n2_ := Aside0.mk (blk_below (g := gb140) (o := .cells #[.string (⟨#[]⟩ : ByteArray), .int .i64 (wrap64 (3 - x140001_3)), .int .i64 (Go.bits .and .i64 a0_1 15), .int .i64 (Go.bits .and .i64 a0_2 3), .bool a0_3, .int .u64 0, .int .u64 0] 28 (0, 0)) (by (with_reducible repeat (first | refine blk_drewN ?_ _ | refine blk_drew ?_ | refine blk_alloc ?_ _)); exact BK140.out) hb)
         have n3_ := Aside0.mk (blk_below (g := gb141) (o := .cells #[.string (⟨#[]⟩ : ByteArray), .int .i64 0, .int .i64 (Go.bits .and .i64 a0_1 15), .int .i64 (Go.bits .and .i64 a0_2 3), .bool a0_3, .int .u64 0, .int .u64 0] 28 (0, 0)) (by (with_reducible repeat (first | refine blk_drewN ?_ _ | refine blk_drew ?_ | refine blk_alloc ?_ _)); exact BK141.out) hb)
         have n4_ := Aside0.mk (below_step (by repeat (first | (with_reducible first | exact HB.out | apply below_alloc | apply pw_below_drewN | apply below_drew1 | refine below_set ?_ GE137.out | refine below_set ?_ GE139.out | refine below_set ?_ GE140.out | refine below_set ?_ GE141.out) | exact HB.out)) hb)
         clear BK137
         clear BK139
         clear BK140
         clear BK141
         clear HB
         have BK137 := n0_
         have BK139 := n1_
         have BK140 := n2_
         have BK141 := n3_
         have HB := n4_
         clear n0_ n1_ n2_ n3_ n4_
         (try clear hb)
         (try clear hb2)
         (try clear hk)
         (try clear hi)
         refine hK.out _ _ ⟨(blk_cell BK139.out 0).trans rfl, (blk_cell BK139.out 1).trans rfl, (blk_cell BK139.out 2).trans rfl, (blk_cell BK139.out 3).trans rfl, (blk_cell BK139.out 4).trans rfl, (blk_cell BK139.out 5).trans rfl, (blk_cell BK139.out 6).trans rfl⟩ (fun hHeld => ?_)
         clear hK K
         refine norm_ (a' := ?_) ?_ ?_
         rotate_left
         ·show Act.put _ (some 72) _ = _
          simp only [Act.put,lz1,lz2,lz3,i64_w,i32_w]
          rfl
         refine pure_ (i:=11) (N := some 75) (v:=?_) (a':=?_) #[true,true,true,true,true,true,true,true,true,true,true,true,false,false,false] rfl rfl (any_of HT_.out (by kernel_rfl)) (fun _ _ _ h=>h) (Or.inl ⟨by rfl, ?_⟩) ?_ ?_
         rotate_left
         ·intro w'
          go_simp
          first | with_reducible rfl | (refine Eq.trans (b := .ok (.value (.bool true)) w') ?_ (by with_reducible rfl); (repeat' (first | with_reducible rfl | split)); all_goals (first | rfl | (exfalso; simp_all; done))) | (refine Eq.trans (b := .ok (.value (.bool false)) w') ?_ (by with_reducible rfl); (repeat' (first | with_reducible rfl | split)); all_goals (first | rfl | (exfalso; simp_all; done)))
         rotate_left
         ·simp only [Act.put,lz1,lz2,lz3,i64_w,i32_w]
          rfl
         refine pure_ (i:=12) (N := some 76) (v:=?_) (a':=?_) #[true,true,true,true,true,true,true,true,true,true,true,true,true,false,false] rfl rfl (any_of HT_.out (by kernel_rfl)) (fun _ _ _ h=>h) (Or.inl ⟨by rfl, ?_⟩) ?_ ?_
         rotate_left
         ·intro w'
          go_simp
          with_reducible rfl
         rotate_left
         ·simp only [Act.put,lz1,lz2,lz3,i64_w,i32_w]
          rfl
         refine pure_ (i:=13) (N := some 77) (v:=?_) (a':=?_) #[true,true,true,true,true,true,true,true,true,true,true,true,true,true,false] rfl rfl (any_of HT_.out (by kernel_rfl)) (fun _ _ _ h=>h) (Or.inl ⟨by rfl, ?_⟩) ?_ ?_
         rotate_left
         ·intro w'
          go_simp
          with_reducible rfl
         rotate_left
         ·simp only [Act.put,lz1,lz2,lz3,i64_w,i32_w]
          rfl
         refine pure_ (i:=14) (N := some 2) (v:=?_) (a':=?_) #[true,true,true,true,true,true,true,true,true,true,true,true,true,true,true] rfl rfl (any_of HT_.out (by kernel_rfl)) (fun _ _ _ h=>h) (Or.inl ⟨by rfl, ?_⟩) ?_ ?_
         rotate_left
         ·intro w'
          go_simp
          with_reducible rfl
         rotate_left
         ·simp only [Act.put,lz1,lz2,lz3,i64_w,i32_w]
          rfl
         refine done_ (done_of HT_.out (by kernel_rfl)) ?_
         try go_wp2
         go_ret
         exact ⟨by first | rfl | (simp [errW_none, errW_some] <;> rfl) | (simp [*, errW_none, errW_some] <;> rfl), by repeat (first | (with_reducible first | exact HB.out | apply below_alloc | apply pw_below_drewN | apply below_drew1 | refine below_set ?_ GE137.out | refine below_set ?_ GE139.out | refine below_set ?_ GE140.out | refine below_set ?_ GE141.out) | exact HB.out)⟩
       ·rw [if_neg c62] at H
        have c62b0 : ((Go.bits .and .i64 a0_2 3) == 2) = false := beq_eq_false_iff_ne.mpr c62
        have c62b1 : ((Go.bits .and .i64 a0_2 3) != 2) = true := bne_iff_ne.mpr c62
        by_cases c79 : (Go.bits .and .i64 a0_2 3) = 1
        ·rw [if_pos c79] at H
         have c79b0 : ((Go.bits .and .i64 a0_2 3) == 1) = true := beq_iff_eq.mpr c79
         have c79b1 : ((Go.bits .and .i64 a0_2 3) != 1) = false := bne_eq_false_iff_eq.mpr c79
         clear c79
         replace H := Option.bind_eq_some_iff.mp H
         obtain ⟨t150, A800, H⟩ := H
         replace H : (if t150 = true then (some false) else ((sym_Symbol_Own.f (⟨#[]⟩ : ByteArray) x140001_3 (Go.bits .and .i64 a0_1 15) (Go.bits .and .i64 a0_2 3) a0_3 0 0).bind fun t151 => (some (t151 == a0_3)))) = some r := H
         have A80 := Aside0.mk A800
         clear A800
         by_cases c81 : t150 = true
         ·subst c81
          have H1 : (some false) = some r := by rw [if_pos rfl] at H; exact H
          clear H
          have H := H1
          clear H1
          obtain rfl := Option.some.inj H
          have hnb82 := NB139_137.out
          have hnc82 := NB137_139.out
          have hnb83 := NB139_140.out
          have hnc83 := NB140_139.out
          have hnb84 := NB139_141.out
          have hnc84 := NB141_139.out
          have hcz85_0 : wc.cell? ⟨gb139, 0, none⟩ = some (.string (⟨#[]⟩ : ByteArray)) := (blk_cell BK139.out 0).trans rfl
          have hcz85_1 : wc.cell? ⟨gb139, 1, none⟩ = some (.int .i64 x140001_3) := (blk_cell BK139.out 1).trans rfl
          have hcz85_2 : wc.cell? ⟨gb139, 2, none⟩ = some (.int .i64 (Go.bits .and .i64 a0_1 15)) := (blk_cell BK139.out 2).trans rfl
          have hcz85_3 : wc.cell? ⟨gb139, 3, none⟩ = some (.int .i64 (Go.bits .and .i64 a0_2 3)) := (blk_cell BK139.out 3).trans rfl
          have hcz85_4 : wc.cell? ⟨gb139, 4, none⟩ = some (.bool a0_3) := (blk_cell BK139.out 4).trans rfl
          have hcz85_5 : wc.cell? ⟨gb139, 5, none⟩ = some (.int .u64 0) := (blk_cell BK139.out 5).trans rfl
          have hcz85_6 : wc.cell? ⟨gb139, 6, none⟩ = some (.int .u64 0) := (blk_cell BK139.out 6).trans rfl
          have hfz85_0 := blk_frozen BK139.out 0
          have hfz85_1 := blk_frozen BK139.out 1
          have hfz85_2 := blk_frozen BK139.out 2
          have hfz85_3 := blk_frozen BK139.out 3
          have hfz85_4 := blk_frozen BK139.out 4
          have hfz85_5 := blk_frozen BK139.out 5
          have hfz85_6 := blk_frozen BK139.out 6
          try go_wp2
          have n0_ := Aside0.mk (blk_drew BK137.out)
          have n1_ := Aside0.mk (blk_drew BK139.out)
          have n2_ := Aside0.mk (blk_drew BK140.out)
          have n3_ := Aside0.mk (blk_drew BK141.out)
          have n4_ := Aside0.mk (below_drew1 HB.out)
          clear BK137
          clear BK139
          clear BK140
          clear BK141
          clear HB
          have BK137 := n0_
          have BK139 := n1_
          have BK140 := n2_
          have BK141 := n3_
          have HB := n4_
          clear n0_ n1_ n2_ n3_ n4_
          refine start_ (n := 15) (S := fun w' => w'.cell? ⟨gb139, 0, none⟩ = some (.string (⟨#[]⟩ : ByteArray)) ∧ w'.cell? ⟨gb139, 1, none⟩ = some (.int .i64 x140001_3) ∧ w'.cell? ⟨gb139, 2, none⟩ = some (.int .i64 (Go.bits .and .i64 a0_1 15)) ∧ w'.cell? ⟨gb139, 3, none⟩ = some (.int .i64 (Go.bits .and .i64 a0_2 3)) ∧ w'.cell? ⟨gb139, 4, none⟩ = some (.bool a0_3) ∧ w'.cell? ⟨gb139, 5, none⟩ = some (.int .u64 0) ∧ w'.cell? ⟨gb139, 6, none⟩ = some (.int .u64 0)) (ds := []) #[false,false,false,false,false,false,false,false,false,false,false,false,false,false,false] (by kernel_rfl) rfl rfl ⟨(blk_cell BK139.out 0).trans rfl, (blk_cell BK139.out 1).trans rfl, (blk_cell BK139.out 2).trans rfl, (blk_cell BK139.out 3).trans rfl, (blk_cell BK139.out 4).trans rfl, (blk_cell BK139.out 5).trans rfl, (blk_cell BK139.out 6).trans rfl⟩ (fun hHeld => ?_); refine with_tabW turnbucklelaw11_SymBinds.tab13 turnbucklelaw11_SymBinds.bits13 (fun HT_ HW_ => ?_)
          generalize wc.drew = w86 at BK137 BK139 BK140 BK141 HB hHeld ⊢
          refine pure_ (i:=0) (N := some 64) (v:=?_) (a':=?_) #[true,false,false,false,false,false,false,false,false,false,false,false,false,false,false] rfl rfl (any_of HT_.out (by kernel_rfl)) (fun _ _ _ h=>h) (Or.inl ⟨by rfl, ?_⟩) ?_ ?_
          rotate_left
          ·intro w'
           go_simp
           with_reducible rfl
          rotate_left
          ·simp only [Act.put,lz1,lz2,lz3,i64_w,i32_w]
           rfl
          refine pure_ (i:=1) (N := some 65) (v:=?_) (a':=?_) #[true,true,false,false,false,false,false,false,false,false,false,false,false,false,false] rfl rfl (any_of HT_.out (by kernel_rfl)) (fun _ _ _ h=>h) (Or.inl ⟨by rfl, ?_⟩) ?_ ?_
          rotate_left
          ·intro w'
           go_simp
           with_reducible rfl
          rotate_left
          ·simp only [Act.put,lz1,lz2,lz3,i64_w,i32_w]
           rfl
          refine pure_ (i:=2) (N := some 66) (v:=?_) (a':=?_) #[true,true,true,false,false,false,false,false,false,false,false,false,false,false,false] rfl rfl (any_of HT_.out (by kernel_rfl)) (fun _ _ _ h=>h) (Or.inl ⟨by rfl, ?_⟩) ?_ ?_
          rotate_left
          ·intro w'
           go_simp
           with_reducible rfl
          rotate_left
          ·simp only [Act.put,lz1,lz2,lz3,i64_w,i32_w]
           rfl
          refine take_ (i := 3) (N := some 67) (v:=?_) (a':=?_) #[true,true,true,true,false,false,false,false,false,false,false,false,false,false,false] rfl rfl (take_ofW HT_.out HW_.out (by kernel_rfl)) (fun _ _ _ h=>h) (Or.inl ⟨by rfl, ?_⟩) hHeld ?_ ?_
          rotate_left
          ·rintro w' ⟨s0, s1, s2, s3, s4, s5, s6⟩
           go_simp
           with_reducible rfl
          rotate_left
          ·simp only [Act.put,lz1,lz2,lz3,i64_w,i32_w]
           rfl
          refine one_ (i := 4) (N := some 68) #[true,true,true,true,true,false,false,false,false,false,false,false,false,false,false] rfl rfl (one_of HT_.out (by kernel_rfl)) (by decide) (fun K hK => ?_)
          refine goes_ Try.func14 (by kernel_rfl) rfl #[.agg #[.string (⟨#[]⟩ : ByteArray), .int .i64 x140001_3, .int .i64 (Go.bits .and .i64 a0_1 15), .int .i64 (Go.bits .and .i64 a0_2 3), .bool a0_3, .int .u64 0, .int .u64 0]] (by rfl) rfl rfl (by (try simp only [List.map_toArray, List.map_cons, List.map_nil]); first | done | rfl | (simp only [List.length_drop, List.length_take]; rfl)) ?_
          with_reducible refine (sym_Symbol_Exported.calls (⟨#[]⟩ : ByteArray) x140001_3 (Go.bits .and .i64 a0_1 15) (Go.bits .and .i64 a0_2 3) a0_3 0 0 true _ A80.out).mono ?_
          rintro e w87 ⟨rfl, hb⟩
          refine ⟨_, rfl, ?_⟩
          have n0_ := Aside0.mk (blk_below (g := gb137) (o := .cells #[.int .i64 a0_0, .int .i64 a0_1, .int .i64 a0_2, .bool a0_3, .int .u64 a0_4, .int .u64 a0_5] 24 (0, 0)) (by (with_reducible repeat (first | refine blk_drewN ?_ _ | refine blk_drew ?_ | refine blk_alloc ?_ _)); exact BK137.out) hb)
          have n1_ := Aside0.mk (blk_below (g := gb139) (o := .cells #[.string (⟨#[]⟩ : ByteArray), .int .i64 x140001_3, .int .i64 (Go.bits .and .i64 a0_1 15), .int .i64 (Go.bits .and .i64 a0_2 3), .bool a0_3, .int .u64 0, .int .u64 0] 28 (0, 0)) (by (with_reducible repeat (first | refine blk_drewN ?_ _ | refine blk_drew ?_ | refine blk_alloc ?_ _)); exact BK139.out) hb)
          have n2_ := Aside0.mk (blk_below (g := gb140) (o := .cells #[.string (⟨#[]⟩ : ByteArray), .int .i64 (wrap64 (3 - x140001_3)), .int .i64 (Go.bits .and .i64 a0_1 15), .int .i64 (Go.bits .and .i64 a0_2 3), .bool a0_3, .int .u64 0, .int .u64 0] 28 (0, 0)) (by (with_reducible repeat (first | refine blk_drewN ?_ _ | refine blk_drew ?_ | refine blk_alloc ?_ _)); exact BK140.out) hb)
          have n3_ := Aside0.mk (blk_below (g := gb141) (o := .cells #[.string (⟨#[]⟩ : ByteArray), .int .i64 0, .int .i64 (Go.bits .and .i64 a0_1 15), .int .i64 (Go.bits .and .i64 a0_2 3), .bool a0_3, .int .u64 0, .int .u64 0] 28 (0, 0)) (by (with_reducible repeat (first | refine blk_drewN ?_ _ | refine blk_drew ?_ | refine blk_alloc ?_ _)); exact BK141.out) hb)
          have n4_ := Aside0.mk (below_step (by repeat (first | (with_reducible first | exact HB.out | apply below_alloc | apply pw_below_drewN | apply below_drew1 | refine below_set ?_ GE137.out | refine below_set ?_ GE139.out | refine below_set ?_ GE140.out | refine below_set ?_ GE141.out) | exact HB.out)) hb)
          clear BK137
          clear BK139
          clear BK140
          clear BK141
          clear HB
          have BK137 := n0_
          have BK139 := n1_
          have BK140 := n2_
          have BK141 := n3_
          have HB := n4_
          clear n0_ n1_ n2_ n3_ n4_
          (try clear hb)
          (try clear hb2)
          (try clear hk)
          (try clear hi)
          refine hK.out _ _ ⟨(blk_cell BK139.out 0).trans rfl, (blk_cell BK139.out 1).trans rfl, (blk_cell BK139.out 2).trans rfl, (blk_cell BK139.out 3).trans rfl, (blk_cell BK139.out 4).trans rfl, (blk_cell BK139.out 5).trans rfl, (blk_cell BK139.out 6).trans rfl⟩ (fun hHeld => ?_)
          clear hK K
          refine norm_ (a' := ?_) ?_ ?_
          rotate_left
          ·show Act.put _ (some 68) _ = _
           simp only [Act.put,lz1,lz2,lz3,i64_w,i32_w]
           rfl
          refine pure_ (i:=5) (N := some 69) (v:=?_) (a':=?_) #[true,true,true,true,true,true,false,false,false,false,false,false,false,false,false] rfl rfl (any_of HT_.out (by kernel_rfl)) (fun _ _ _ h=>h) (Or.inl ⟨by rfl, ?_⟩) ?_ ?_
          rotate_left
          ·intro w'
           go_simp
           with_reducible rfl
          rotate_left
          ·simp only [Act.put,lz1,lz2,lz3,i64_w,i32_w]
           rfl
          refine pure_ (i:=6) (N := some 70) (v:=?_) (a':=?_) #[true,true,true,true,true,true,true,false,false,false,false,false,false,false,false] rfl rfl (any_of HT_.out (by kernel_rfl)) (fun _ _ _ h=>h) (Or.inl ⟨by rfl, ?_⟩) ?_ ?_
          rotate_left
          ·intro w'
           go_simp
           with_reducible rfl
          rotate_left
          ·simp only [Act.put,lz1,lz2,lz3,i64_w,i32_w]
           rfl
          refine pure_ (i:=7) (N := some 71) (v := undef) (a' := ?_) #[true,true,true,true,true,true,true,true,false,false,false,false,false,false,false] rfl rfl (any_of HT_.out (by kernel_rfl)) (fun _ _ _ h=>h) (Or.inr ⟨by rfl, rfl⟩) ?_ ?_
          rotate_left
          ·simp only [Act.put,lz1,lz2,lz3,i64_w,i32_w]
           rfl
          refine pure_ (i:=8) (N := some 72) (v := undef) (a' := ?_) #[true,true,true,true,true,true,true,true,true,false,false,false,false,false,false] rfl rfl (any_of HT_.out (by kernel_rfl)) (fun _ _ _ h=>h) (Or.inr ⟨by rfl, rfl⟩) ?_ ?_
          rotate_left
          ·simp only [Act.put,lz1,lz2,lz3,i64_w,i32_w]
           rfl
          refine pure_ (i:=9) (N := some 73) (v := undef) (a' := ?_) #[true,true,true,true,true,true,true,true,true,true,false,false,false,false,false] rfl rfl (any_of HT_.out (by kernel_rfl)) (fun _ _ _ h=>h) (Or.inr ⟨by rfl, rfl⟩) ?_ ?_
          rotate_left
          ·simp only [Act.put,lz1,lz2,lz3,i64_w,i32_w]
           rfl
          refine pure_ (i:=10) (N := some 74) (v := undef) (a' := ?_) #[true,true,true,true,true,true,true,true,true,true,true,false,false,false,false] rfl rfl (any_of HT_.out (by kernel_rfl)) (fun _ _ _ h=>h) (Or.inr ⟨by rfl, rfl⟩) ?_ ?_
          rotate_left
          ·simp only [Act.put,lz1,lz2,lz3,i64_w,i32_w]
           rfl
          refine pure_ (i:=11) (N := some 75) (v := undef) (a' := ?_) #[true,true,true,true,true,true,true,true,true,true,true,true,false,false,false] rfl rfl (any_of HT_.out (by kernel_rfl)) (fun _ _ _ h=>h) (Or.inr ⟨by rfl, rfl⟩) ?_ ?_
          rotate_left
          ·simp only [Act.put,lz1,lz2,lz3,i64_w,i32_w]
           rfl
          refine pure_ (i:=12) (N := some 76) (v:=?_) (a':=?_) #[true,true,true,true,true,true,true,true,true,true,true,true,true,false,false] rfl rfl (any_of HT_.out (by kernel_rfl)) (fun _ _ _ h=>h) (Or.inl ⟨by rfl, ?_⟩) ?_ ?_
          rotate_left
          ·intro w'
           go_simp
           with_reducible rfl
          rotate_left
          ·simp only [Act.put,lz1,lz2,lz3,i64_w,i32_w]
           rfl
          refine pure_ (i:=13) (N := some 77) (v:=?_) (a':=?_) #[true,true,true,true,true,true,true,true,true,true,true,true,true,true,false] rfl rfl (any_of HT_.out (by kernel_rfl)) (fun _ _ _ h=>h) (Or.inl ⟨by rfl, ?_⟩) ?_ ?_
          rotate_left
          ·intro w'
           go_simp
           with_reducible rfl
          rotate_left
          ·simp only [Act.put,lz1,lz2,lz3,i64_w,i32_w]
           rfl
          refine pure_ (i:=14) (N := some 2) (v:=?_) (a':=?_) #[true,true,true,true,true,true,true,true,true,true,true,true,true,true,true] rfl rfl (any_of HT_.out (by kernel_rfl)) (fun _ _ _ h=>h) (Or.inl ⟨by rfl, ?_⟩) ?_ ?_
          rotate_left
          ·intro w'
           go_simp
           with_reducible rfl
          rotate_left
          ·simp only [Act.put,lz1,lz2,lz3,i64_w,i32_w]
           rfl
          refine done_ (done_of HT_.out (by kernel_rfl)) ?_
          try go_wp2
          go_ret
          exact ⟨by first | rfl | (simp [errW_none, errW_some] <;> rfl) | (simp [*, errW_none, errW_some] <;> rfl), by repeat (first | (with_reducible first | exact HB.out | apply below_alloc | apply pw_below_drewN | apply below_drew1 | refine below_set ?_ GE137.out | refine below_set ?_ GE139.out | refine below_set ?_ GE140.out | refine below_set ?_ GE141.out) | exact HB.out)⟩
         ·replace c81 := Bool.eq_false_iff.mpr c81
          subst c81
          have H1 : ((sym_Symbol_Own.f (⟨#[]⟩ : ByteArray) x140001_3 (Go.bits .and .i64 a0_1 15) (Go.bits .and .i64 a0_2 3) a0_3 0 0).bind fun t151 => (some (t151 == a0_3))) = some r := by rw [if_neg (show ¬ (false = true) by decide)] at H; exact H
          clear H
          have H := H1
          clear H1
          replace H := Option.bind_eq_some_iff.mp H
          obtain ⟨t151, A880, H⟩ := H
          replace H : (some (t151 == a0_3)) = some r := H
          have A88 := Aside0.mk A880
          clear A880
          obtain rfl := Option.some.inj H
          have hnb89 := NB139_137.out
          have hnc89 := NB137_139.out
          have hnb90 := NB139_140.out
          have hnc90 := NB140_139.out
          have hnb91 := NB139_141.out
          have hnc91 := NB141_139.out
          have hcz92_0 : wc.cell? ⟨gb139, 0, none⟩ = some (.string (⟨#[]⟩ : ByteArray)) := (blk_cell BK139.out 0).trans rfl
          have hcz92_1 : wc.cell? ⟨gb139, 1, none⟩ = some (.int .i64 x140001_3) := (blk_cell BK139.out 1).trans rfl
          have hcz92_2 : wc.cell? ⟨gb139, 2, none⟩ = some (.int .i64 (Go.bits .and .i64 a0_1 15)) := (blk_cell BK139.out 2).trans rfl
          have hcz92_3 : wc.cell? ⟨gb139, 3, none⟩ = some (.int .i64 (Go.bits .and .i64 a0_2 3)) := (blk_cell BK139.out 3).trans rfl
          have hcz92_4 : wc.cell? ⟨gb139, 4, none⟩ = some (.bool a0_3) := (blk_cell BK139.out 4).trans rfl
          have hcz92_5 : wc.cell? ⟨gb139, 5, none⟩ = some (.int .u64 0) := (blk_cell BK139.out 5).trans rfl
          have hcz92_6 : wc.cell? ⟨gb139, 6, none⟩ = some (.int .u64 0) := (blk_cell BK139.out 6).trans rfl
          have hfz92_0 := blk_frozen BK139.out 0
          have hfz92_1 := blk_frozen BK139.out 1
          have hfz92_2 := blk_frozen BK139.out 2
          have hfz92_3 := blk_frozen BK139.out 3
          have hfz92_4 := blk_frozen BK139.out 4
          have hfz92_5 := blk_frozen BK139.out 5
          have hfz92_6 := blk_frozen BK139.out 6
          try go_wp2
          have n0_ := Aside0.mk (blk_drew BK137.out)
          have n1_ := Aside0.mk (blk_drew BK139.out)
          have n2_ := Aside0.mk (blk_drew BK140.out)
          have n3_ := Aside0.mk (blk_drew BK141.out)
          have n4_ := Aside0.mk (below_drew1 HB.out)
          clear BK137
          clear BK139
          clear BK140
          clear BK141
          clear HB
          have BK137 := n0_
          have BK139 := n1_
          have BK140 := n2_
          have BK141 := n3_
          have HB := n4_
          clear n0_ n1_ n2_ n3_ n4_
          refine start_ (n := 15) (S := fun w' => w'.cell? ⟨gb139, 0, none⟩ = some (.string (⟨#[]⟩ : ByteArray)) ∧ w'.cell? ⟨gb139, 1, none⟩ = some (.int .i64 x140001_3) ∧ w'.cell? ⟨gb139, 2, none⟩ = some (.int .i64 (Go.bits .and .i64 a0_1 15)) ∧ w'.cell? ⟨gb139, 3, none⟩ = some (.int .i64 (Go.bits .and .i64 a0_2 3)) ∧ w'.cell? ⟨gb139, 4, none⟩ = some (.bool a0_3) ∧ w'.cell? ⟨gb139, 5, none⟩ = some (.int .u64 0) ∧ w'.cell? ⟨gb139, 6, none⟩ = some (.int .u64 0)) (ds := []) #[false,false,false,false,false,false,false,false,false,false,false,false,false,false,false] (by kernel_rfl) rfl rfl ⟨(blk_cell BK139.out 0).trans rfl, (blk_cell BK139.out 1).trans rfl, (blk_cell BK139.out 2).trans rfl, (blk_cell BK139.out 3).trans rfl, (blk_cell BK139.out 4).trans rfl, (blk_cell BK139.out 5).trans rfl, (blk_cell BK139.out 6).trans rfl⟩ (fun hHeld => ?_); refine with_tabW turnbucklelaw11_SymBinds.tab13 turnbucklelaw11_SymBinds.bits13 (fun HT_ HW_ => ?_)
          generalize wc.drew = w93 at BK137 BK139 BK140 BK141 HB hHeld ⊢
          refine pure_ (i:=0) (N := some 64) (v:=?_) (a':=?_) #[true,false,false,false,false,false,false,false,false,false,false,false,false,false,false] rfl rfl (any_of HT_.out (by kernel_rfl)) (fun _ _ _ h=>h) (Or.inl ⟨by rfl, ?_⟩) ?_ ?_
          rotate_left
          ·intro w'
           go_simp
           with_reducible rfl
          rotate_left
          ·simp only [Act.put,lz1,lz2,lz3,i64_w,i32_w]
           rfl
          refine pure_ (i:=1) (N := some 65) (v:=?_) (a':=?_) #[true,true,false,false,false,false,false,false,false,false,false,false,false,false,false] rfl rfl (any_of HT_.out (by kernel_rfl)) (fun _ _ _ h=>h) (Or.inl ⟨by rfl, ?_⟩) ?_ ?_
          rotate_left
          ·intro w'
           go_simp
           with_reducible rfl
          rotate_left
          ·simp only [Act.put,lz1,lz2,lz3,i64_w,i32_w]
           rfl
          refine pure_ (i:=2) (N := some 66) (v:=?_) (a':=?_) #[true,true,true,false,false,false,false,false,false,false,false,false,false,false,false] rfl rfl (any_of HT_.out (by kernel_rfl)) (fun _ _ _ h=>h) (Or.inl ⟨by rfl, ?_⟩) ?_ ?_
          rotate_left
          ·intro w'
           go_simp
           with_reducible rfl
          rotate_left
          ·simp only [Act.put,lz1,lz2,lz3,i64_w,i32_w]
           rfl
          refine take_ (i := 3) (N := some 67) (v:=?_) (a':=?_) #[true,true,true,true,false,false,false,false,false,false,false,false,false,false,false] rfl rfl (take_ofW HT_.out HW_.out (by kernel_rfl)) (fun _ _ _ h=>h) (Or.inl ⟨by rfl, ?_⟩) hHeld ?_ ?_
          rotate_left
          ·rintro w' ⟨s0, s1, s2, s3, s4, s5, s6⟩
           go_simp
           with_reducible rfl
          rotate_left
          ·simp only [Act.put,lz1,lz2,lz3,i64_w,i32_w]
           rfl
          refine one_ (i := 4) (N := some 68) #[true,true,true,true,true,false,false,false,false,false,false,false,false,false,false] rfl rfl (one_of HT_.out (by kernel_rfl)) (by decide) (fun K hK => ?_)
          refine goes_ Try.func14 (by kernel_rfl) rfl #[.agg #[.string (⟨#[]⟩ : ByteArray), .int .i64 x140001_3, .int .i64 (Go.bits .and .i64 a0_1 15), .int .i64 (Go.bits .and .i64 a0_2 3), .bool a0_3, .int .u64 0, .int .u64 0]] (by rfl) rfl rfl (by (try simp only [List.map_toArray, List.map_cons, List.map_nil]); first | done | rfl | (simp only [List.length_drop, List.length_take]; rfl)) ?_
          with_reducible refine (sym_Symbol_Exported.calls (⟨#[]⟩ : ByteArray) x140001_3 (Go.bits .and .i64 a0_1 15) (Go.bits .and .i64 a0_2 3) a0_3 0 0 false _ A80.out).mono ?_
          rintro e w94 ⟨rfl, hb⟩
          refine ⟨_, rfl, ?_⟩
          have n0_ := Aside0.mk (blk_below (g := gb137) (o := .cells #[.int .i64 a0_0, .int .i64 a0_1, .int .i64 a0_2, .bool a0_3, .int .u64 a0_4, .int .u64 a0_5] 24 (0, 0)) (by (with_reducible repeat (first | refine blk_drewN ?_ _ | refine blk_drew ?_ | refine blk_alloc ?_ _)); exact BK137.out) hb)
          have n1_ := Aside0.mk (blk_below (g := gb139) (o := .cells #[.string (⟨#[]⟩ : ByteArray), .int .i64 x140001_3, .int .i64 (Go.bits .and .i64 a0_1 15), .int .i64 (Go.bits .and .i64 a0_2 3), .bool a0_3, .int .u64 0, .int .u64 0] 28 (0, 0)) (by (with_reducible repeat (first | refine blk_drewN ?_ _ | refine blk_drew ?_ | refine blk_alloc ?_ _)); exact BK139.out) hb)
          have n2_ := Aside0.mk (blk_below (g := gb140) (o := .cells #[.string (⟨#[]⟩ : ByteArray), .int .i64 (wrap64 (3 - x140001_3)), .int .i64 (Go.bits .and .i64 a0_1 15), .int .i64 (Go.bits .and .i64 a0_2 3), .bool a0_3, .int .u64 0, .int .u64 0] 28 (0, 0)) (by (with_reducible repeat (first | refine blk_drewN ?_ _ | refine blk_drew ?_ | refine blk_alloc ?_ _)); exact BK140.out) hb)
          have n3_ := Aside0.mk (blk_below (g := gb141) (o := .cells #[.string (⟨#[]⟩ : ByteArray), .int .i64 0, .int .i64 (Go.bits .and .i64 a0_1 15), .int .i64 (Go.bits .and .i64 a0_2 3), .bool a0_3, .int .u64 0, .int .u64 0] 28 (0, 0)) (by (with_reducible repeat (first | refine blk_drewN ?_ _ | refine blk_drew ?_ | refine blk_alloc ?_ _)); exact BK141.out) hb)
          have n4_ := Aside0.mk (below_step (by repeat (first | (with_reducible first | exact HB.out | apply below_alloc | apply pw_below_drewN | apply below_drew1 | refine below_set ?_ GE137.out | refine below_set ?_ GE139.out | refine below_set ?_ GE140.out | refine below_set ?_ GE141.out) | exact HB.out)) hb)
          clear BK137
          clear BK139
          clear BK140
          clear BK141
          clear HB
          have BK137 := n0_
          have BK139 := n1_
          have BK140 := n2_
          have BK141 := n3_
          have HB := n4_
          clear n0_ n1_ n2_ n3_ n4_
          (try clear hb)
          (try clear hb2)
          (try clear hk)
          (try clear hi)
          refine hK.out _ _ ⟨(blk_cell BK139.out 0).trans rfl, (blk_cell BK139.out 1).trans rfl, (blk_cell BK139.out 2).trans rfl, (blk_cell BK139.out 3).trans rfl, (blk_cell BK139.out 4).trans rfl, (blk_cell BK139.out 5).trans rfl, (blk_cell BK139.out 6).trans rfl⟩ (fun hHeld => ?_)
          clear hK K
          refine norm_ (a' := ?_) ?_ ?_
          rotate_left
          ·show Act.put _ (some 68) _ = _
           simp only [Act.put,lz1,lz2,lz3,i64_w,i32_w]
           rfl
          refine pure_ (i:=5) (N := some 69) (v:=?_) (a':=?_) #[true,true,true,true,true,true,false,false,false,false,false,false,false,false,false] rfl rfl (any_of HT_.out (by kernel_rfl)) (fun _ _ _ h=>h) (Or.inl ⟨by rfl, ?_⟩) ?_ ?_
          rotate_left
          ·intro w'
           go_simp
           with_reducible rfl
          rotate_left
          ·simp only [Act.put,lz1,lz2,lz3,i64_w,i32_w]
           rfl
          refine pure_ (i:=6) (N := some 70) (v:=?_) (a':=?_) #[true,true,true,true,true,true,true,false,false,false,false,false,false,false,false] rfl rfl (any_of HT_.out (by kernel_rfl)) (fun _ _ _ h=>h) (Or.inl ⟨by rfl, ?_⟩) ?_ ?_
          rotate_left
          ·intro w'
           go_simp
           with_reducible rfl
          rotate_left
          ·simp only [Act.put,lz1,lz2,lz3,i64_w,i32_w]
           rfl
          refine pure_ (i:=9) (N := some 73) (v:=?_) (a':=?_) #[true,true,true,true,true,true,true,false,false,true,false,false,false,false,false] rfl rfl (any_of HT_.out (by kernel_rfl)) (fun _ _ _ h=>h) (Or.inl ⟨by rfl, ?_⟩) ?_ ?_
          rotate_left
          ·intro w'
           go_simp
           with_reducible rfl
          rotate_left
          ·simp only [Act.put,lz1,lz2,lz3,i64_w,i32_w]
           rfl
          refine take_ (i := 7) (N := some 71) (v:=?_) (a':=?_) #[true,true,true,true,true,true,true,true,false,true,false,false,false,false,false] rfl rfl (take_ofW HT_.out HW_.out (by kernel_rfl)) (fun _ _ _ h=>h) (Or.inl ⟨by rfl, ?_⟩) hHeld ?_ ?_
          rotate_left
          ·rintro w' ⟨s0, s1, s2, s3, s4, s5, s6⟩
           go_simp
           with_reducible rfl
          rotate_left
          ·simp only [Act.put,lz1,lz2,lz3,i64_w,i32_w]
           rfl
          refine take_ (i := 10) (N := some 74) (v:=?_) (a':=?_) #[true,true,true,true,true,true,true,true,false,true,true,false,false,false,false] rfl rfl (take_ofW HT_.out HW_.out (by kernel_rfl)) (fun _ _ _ h=>h) (Or.inl ⟨by rfl, ?_⟩) hHeld ?_ ?_
          rotate_left
          ·rintro w' ⟨s0, s1, s2, s3, s4, s5, s6⟩
           go_simp
           with_reducible rfl
          rotate_left
          ·simp only [Act.put,lz1,lz2,lz3,i64_w,i32_w]
           rfl
          refine one_ (i := 8) (N := some 72) #[true,true,true,true,true,true,true,true,true,true,true,false,false,false,false] rfl rfl (one_of HT_.out (by kernel_rfl)) (by decide) (fun K hK => ?_)
          refine goes_ Try.func15 (by kernel_rfl) rfl #[.agg #[.string (⟨#[]⟩ : ByteArray), .int .i64 x140001_3, .int .i64 (Go.bits .and .i64 a0_1 15), .int .i64 (Go.bits .and .i64 a0_2 3), .bool a0_3, .int .u64 0, .int .u64 0]] (by rfl) rfl rfl (by (try simp only [List.map_toArray, List.map_cons, List.map_nil]); first | done | rfl | (simp only [List.length_drop, List.length_take]; rfl)) ?_
          with_reducible refine (sym_Symbol_Own.calls (⟨#[]⟩ : ByteArray) x140001_3 (Go.bits .and .i64 a0_1 15) (Go.bits .and .i64 a0_2 3) a0_3 0 0 t151 _ A88.out).mono ?_
          rintro e w95 ⟨rfl, hb⟩
          refine ⟨_, rfl, ?_⟩
          have n0_ := Aside0.mk (blk_below (g := gb137) (o := .cells #[.int .i64 a0_0, .int .i64 a0_1, .int .i64 a0_2, .bool a0_3, .int .u64 a0_4, .int .u64 a0_5] 24 (0, 0)) (by (with_reducible repeat (first | refine blk_drewN ?_ _ | refine blk_drew ?_ | refine blk_alloc ?_ _)); exact BK137.out) hb)
          have n1_ := Aside0.mk (blk_below (g := gb139) (o := .cells #[.string (⟨#[]⟩ : ByteArray), .int .i64 x140001_3, .int .i64 (Go.bits .and .i64 a0_1 15), .int .i64 (Go.bits .and .i64 a0_2 3), .bool a0_3, .int .u64 0, .int .u64 0] 28 (0, 0)) (by (with_reducible repeat (first | refine blk_drewN ?_ _ | refine blk_drew ?_ | refine blk_alloc ?_ _)); exact BK139.out) hb)
          have n2_ := Aside0.mk (blk_below (g := gb140) (o := .cells #[.string (⟨#[]⟩ : ByteArray), .int .i64 (wrap64 (3 - x140001_3)), .int .i64 (Go.bits .and .i64 a0_1 15), .int .i64 (Go.bits .and .i64 a0_2 3), .bool a0_3, .int .u64 0, .int .u64 0] 28 (0, 0)) (by (with_reducible repeat (first | refine blk_drewN ?_ _ | refine blk_drew ?_ | refine blk_alloc ?_ _)); exact BK140.out) hb)
          have n3_ := Aside0.mk (blk_below (g := gb141) (o := .cells #[.string (⟨#[]⟩ : ByteArray), .int .i64 0, .int .i64 (Go.bits .and .i64 a0_1 15), .int .i64 (Go.bits .and .i64 a0_2 3), .bool a0_3, .int .u64 0, .int .u64 0] 28 (0, 0)) (by (with_reducible repeat (first | refine blk_drewN ?_ _ | refine blk_drew ?_ | refine blk_alloc ?_ _)); exact BK141.out) hb)
          have n4_ := Aside0.mk (below_step (by repeat (first | (with_reducible first | exact HB.out | apply below_alloc | apply pw_below_drewN | apply below_drew1 | refine below_set ?_ GE137.out | refine below_set ?_ GE139.out | refine below_set ?_ GE140.out | refine below_set ?_ GE141.out) | exact HB.out)) hb)
          clear BK137
          clear BK139
          clear BK140
          clear BK141
          clear HB
          have BK137 := n0_
          have BK139 := n1_
          have BK140 := n2_
          have BK141 := n3_
          have HB := n4_
          clear n0_ n1_ n2_ n3_ n4_
          (try clear hb)
          (try clear hb2)
          (try clear hk)
          (try clear hi)
          refine hK.out _ _ ⟨(blk_cell BK139.out 0).trans rfl, (blk_cell BK139.out 1).trans rfl, (blk_cell BK139.out 2).trans rfl, (blk_cell BK139.out 3).trans rfl, (blk_cell BK139.out 4).trans rfl, (blk_cell BK139.out 5).trans rfl, (blk_cell BK139.out 6).trans rfl⟩ (fun hHeld => ?_)
          clear hK K
          refine norm_ (a' := ?_) ?_ ?_
          rotate_left
          ·show Act.put _ (some 72) _ = _
           simp only [Act.put,lz1,lz2,lz3,i64_w,i32_w]
           rfl
          refine pure_ (i:=11) (N := some 75) (v:=?_) (a':=?_) #[true,true,true,true,true,true,true,true,true,true,true,true,false,false,false] rfl rfl (any_of HT_.out (by kernel_rfl)) (fun _ _ _ h=>h) (Or.inl ⟨by rfl, ?_⟩) ?_ ?_
          rotate_left
          ·intro w'
           go_simp
           first | with_reducible rfl | (refine Eq.trans (b := .ok (.value (.bool true)) w') ?_ (by with_reducible rfl); (repeat' (first | with_reducible rfl | split)); all_goals (first | rfl | (exfalso; simp_all; done))) | (refine Eq.trans (b := .ok (.value (.bool false)) w') ?_ (by with_reducible rfl); (repeat' (first | with_reducible rfl | split)); all_goals (first | rfl | (exfalso; simp_all; done)))
          rotate_left
          ·simp only [Act.put,lz1,lz2,lz3,i64_w,i32_w]
           rfl
          refine pure_ (i:=12) (N := some 76) (v:=?_) (a':=?_) #[true,true,true,true,true,true,true,true,true,true,true,true,true,false,false] rfl rfl (any_of HT_.out (by kernel_rfl)) (fun _ _ _ h=>h) (Or.inl ⟨by rfl, ?_⟩) ?_ ?_
          rotate_left
          ·intro w'
           go_simp
           with_reducible rfl
          rotate_left
          ·simp only [Act.put,lz1,lz2,lz3,i64_w,i32_w]
           rfl
          refine pure_ (i:=13) (N := some 77) (v:=?_) (a':=?_) #[true,true,true,true,true,true,true,true,true,true,true,true,true,true,false] rfl rfl (any_of HT_.out (by kernel_rfl)) (fun _ _ _ h=>h) (Or.inl ⟨by rfl, ?_⟩) ?_ ?_
          rotate_left
          ·intro w'
           go_simp
           with_reducible rfl
          rotate_left
          ·simp only [Act.put,lz1,lz2,lz3,i64_w,i32_w]
           rfl
          refine pure_ (i:=14) (N := some 2) (v:=?_) (a':=?_) #[true,true,true,true,true,true,true,true,true,true,true,true,true,true,true] rfl rfl (any_of HT_.out (by kernel_rfl)) (fun _ _ _ h=>h) (Or.inl ⟨by rfl, ?_⟩) ?_ ?_
          rotate_left
          ·intro w'
           go_simp
           with_reducible rfl
          rotate_left
          ·simp only [Act.put,lz1,lz2,lz3,i64_w,i32_w]
           rfl
          refine done_ (done_of HT_.out (by kernel_rfl)) ?_
          try go_wp2
          go_ret
          exact ⟨by first | rfl | (simp [errW_none, errW_some] <;> rfl) | (simp [*, errW_none, errW_some] <;> rfl), by repeat (first | (with_reducible first | exact HB.out | apply below_alloc | apply pw_below_drewN | apply below_drew1 | refine below_set ?_ GE137.out | refine below_set ?_ GE139.out | refine below_set ?_ GE140.out | refine below_set ?_ GE141.out) | exact HB.out)⟩
        ·rw [if_neg c79] at H
         have c79b0 : ((Go.bits .and .i64 a0_2 3) == 1) = false := beq_eq_false_iff_ne.mpr c79
         have c79b1 : ((Go.bits .and .i64 a0_2 3) != 1) = true := bne_iff_ne.mpr c79
         obtain rfl := Option.some.inj H
         have hnb96 := NB139_137.out
         have hnc96 := NB137_139.out
         have hnb97 := NB139_140.out
         have hnc97 := NB140_139.out
         have hnb98 := NB139_141.out
         have hnc98 := NB141_139.out
         have hcz99_0 : wc.cell? ⟨gb139, 0, none⟩ = some (.string (⟨#[]⟩ : ByteArray)) := (blk_cell BK139.out 0).trans rfl
         have hcz99_1 : wc.cell? ⟨gb139, 1, none⟩ = some (.int .i64 x140001_3) := (blk_cell BK139.out 1).trans rfl
         have hcz99_2 : wc.cell? ⟨gb139, 2, none⟩ = some (.int .i64 (Go.bits .and .i64 a0_1 15)) := (blk_cell BK139.out 2).trans rfl
         have hcz99_3 : wc.cell? ⟨gb139, 3, none⟩ = some (.int .i64 (Go.bits .and .i64 a0_2 3)) := (blk_cell BK139.out 3).trans rfl
         have hcz99_4 : wc.cell? ⟨gb139, 4, none⟩ = some (.bool a0_3) := (blk_cell BK139.out 4).trans rfl
         have hcz99_5 : wc.cell? ⟨gb139, 5, none⟩ = some (.int .u64 0) := (blk_cell BK139.out 5).trans rfl
         have hcz99_6 : wc.cell? ⟨gb139, 6, none⟩ = some (.int .u64 0) := (blk_cell BK139.out 6).trans rfl
         have hfz99_0 := blk_frozen BK139.out 0
         have hfz99_1 := blk_frozen BK139.out 1
         have hfz99_2 := blk_frozen BK139.out 2
         have hfz99_3 := blk_frozen BK139.out 3
         have hfz99_4 := blk_frozen BK139.out 4
         have hfz99_5 := blk_frozen BK139.out 5
         have hfz99_6 := blk_frozen BK139.out 6
         try go_wp2
         have n0_ := Aside0.mk (blk_drew BK137.out)
         have n1_ := Aside0.mk (blk_drew BK139.out)
         have n2_ := Aside0.mk (blk_drew BK140.out)
         have n3_ := Aside0.mk (blk_drew BK141.out)
         have n4_ := Aside0.mk (below_drew1 HB.out)
         clear BK137
         clear BK139
         clear BK140
         clear BK141
         clear HB
         have BK137 := n0_
         have BK139 := n1_
         have BK140 := n2_
         have BK141 := n3_
         have HB := n4_
         clear n0_ n1_ n2_ n3_ n4_
         refine start_ (n := 15) (S := fun w' => True) (ds := []) #[false,false,false,false,false,false,false,false,false,false,false,false,false,false,false] (by kernel_rfl) rfl rfl trivial (fun hHeld => ?_); refine with_tabW turnbucklelaw11_SymBinds.tab13 turnbucklelaw11_SymBinds.bits13 (fun HT_ HW_ => ?_)
         generalize wc.drew = w100 at BK137 BK139 BK140 BK141 HB hHeld ⊢
         refine pure_ (i:=0) (N := some 64) (v:=?_) (a':=?_) #[true,false,false,false,false,false,false,false,false,false,false,false,false,false,false] rfl rfl (any_of HT_.out (by kernel_rfl)) (fun _ _ _ h=>h) (Or.inl ⟨by rfl, ?_⟩) ?_ ?_
         rotate_left
         ·intro w'
          go_simp
          with_reducible rfl
         rotate_left
         ·simp only [Act.put,lz1,lz2,lz3,i64_w,i32_w]
          rfl
         refine pure_ (i:=1) (N := some 65) (v:=?_) (a':=?_) #[true,true,false,false,false,false,false,false,false,false,false,false,false,false,false] rfl rfl (any_of HT_.out (by kernel_rfl)) (fun _ _ _ h=>h) (Or.inl ⟨by rfl, ?_⟩) ?_ ?_
         rotate_left
         ·intro w'
          go_simp
          with_reducible rfl
         rotate_left
         ·simp only [Act.put,lz1,lz2,lz3,i64_w,i32_w]
          rfl
         refine pure_ (i:=2) (N := some 66) (v:=?_) (a':=?_) #[true,true,true,false,false,false,false,false,false,false,false,false,false,false,false] rfl rfl (any_of HT_.out (by kernel_rfl)) (fun _ _ _ h=>h) (Or.inl ⟨by rfl, ?_⟩) ?_ ?_
         rotate_left
         ·intro w'
          go_simp
          with_reducible rfl
         rotate_left
         ·simp only [Act.put,lz1,lz2,lz3,i64_w,i32_w]
          rfl
         refine pure_ (i:=3) (N := some 67) (v := undef) (a' := ?_) #[true,true,true,true,false,false,false,false,false,false,false,false,false,false,false] rfl rfl (any_of HT_.out (by kernel_rfl)) (fun _ _ _ h=>h) (Or.inr ⟨by rfl, rfl⟩) ?_ ?_
         rotate_left
         ·simp only [Act.put,lz1,lz2,lz3,i64_w,i32_w]
          rfl
         refine pure_ (i:=4) (N := some 68) (v := undef) (a' := ?_) #[true,true,true,true,true,false,false,false,false,false,false,false,false,false,false] rfl rfl (any_of HT_.out (by kernel_rfl)) (fun _ _ _ h=>h) (Or.inr ⟨by rfl, rfl⟩) ?_ ?_
         rotate_left
         ·simp only [Act.put,lz1,lz2,lz3,i64_w,i32_w]
          rfl
         refine pure_ (i:=5) (N := some 69) (v := undef) (a' := ?_) #[true,true,true,true,true,true,false,false,false,false,false,false,false,false,false] rfl rfl (any_of HT_.out (by kernel_rfl)) (fun _ _ _ h=>h) (Or.inr ⟨by rfl, rfl⟩) ?_ ?_
         rotate_left
         ·simp only [Act.put,lz1,lz2,lz3,i64_w,i32_w]
          rfl
         refine pure_ (i:=6) (N := some 70) (v := undef) (a' := ?_) #[true,true,true,true,true,true,true,false,false,false,false,false,false,false,false] rfl rfl (any_of HT_.out (by kernel_rfl)) (fun _ _ _ h=>h) (Or.inr ⟨by rfl, rfl⟩) ?_ ?_
         rotate_left
         ·simp only [Act.put,lz1,lz2,lz3,i64_w,i32_w]
          rfl
         refine pure_ (i:=7) (N := some 71) (v := undef) (a' := ?_) #[true,true,true,true,true,true,true,true,false,false,false,false,false,false,false] rfl rfl (any_of HT_.out (by kernel_rfl)) (fun _ _ _ h=>h) (Or.inr ⟨by rfl, rfl⟩) ?_ ?_
         rotate_left
         ·simp only [Act.put,lz1,lz2,lz3,i64_w,i32_w]
          rfl
         refine pure_ (i:=8) (N := some 72) (v := undef) (a' := ?_) #[true,true,true,true,true,true,true,true,true,false,false,false,false,false,false] rfl rfl (any_of HT_.out (by kernel_rfl)) (fun _ _ _ h=>h) (Or.inr ⟨by rfl, rfl⟩) ?_ ?_
         rotate_left
         ·simp only [Act.put,lz1,lz2,lz3,i64_w,i32_w]
          rfl
         refine pure_ (i:=9) (N := some 73) (v := undef) (a' := ?_) #[true,true,true,true,true,true,true,true,true,true,false,false,false,false,false] rfl rfl (any_of HT_.out (by kernel_rfl)) (fun _ _ _ h=>h) (Or.inr ⟨by rfl, rfl⟩) ?_ ?_
         rotate_left
         ·simp only [Act.put,lz1,lz2,lz3,i64_w,i32_w]
          rfl
         refine pure_ (i:=10) (N := some 74) (v := undef) (a' := ?_) #[true,true,true,true,true,true,true,true,true,true,true,false,false,false,false] rfl rfl (any_of HT_.out (by kernel_rfl)) (fun _ _ _ h=>h) (Or.inr ⟨by rfl, rfl⟩) ?_ ?_
         rotate_left
         ·simp only [Act.put,lz1,lz2,lz3,i64_w,i32_w]
          rfl
         refine pure_ (i:=11) (N := some 75) (v := undef) (a' := ?_) #[true,true,true,true,true,true,true,true,true,true,true,true,false,false,false] rfl rfl (any_of HT_.out (by kernel_rfl)) (fun _ _ _ h=>h) (Or.inr ⟨by rfl, rfl⟩) ?_ ?_
         rotate_left
         ·simp only [Act.put,lz1,lz2,lz3,i64_w,i32_w]
          rfl
         refine pure_ (i:=12) (N := some 76) (v := undef) (a' := ?_) #[true,true,true,true,true,true,true,true,true,true,true,true,true,false,false] rfl rfl (any_of HT_.out (by kernel_rfl)) (fun _ _ _ h=>h) (Or.inr ⟨by rfl, rfl⟩) ?_ ?_
         rotate_left
         ·simp only [Act.put,lz1,lz2,lz3,i64_w,i32_w]
          rfl
         refine pure_ (i:=13) (N := some 77) (v:=?_) (a':=?_) #[true,true,true,true,true,true,true,true,true,true,true,true,true,true,false] rfl rfl (any_of HT_.out (by kernel_rfl)) (fun _ _ _ h=>h) (Or.inl ⟨by rfl, ?_⟩) ?_ ?_
         rotate_left
         ·intro w'
          go_simp
          with_reducible rfl
         rotate_left
         ·simp only [Act.put,lz1,lz2,lz3,i64_w,i32_w]
          rfl
         refine pure_ (i:=14) (N := some 2) (v:=?_) (a':=?_) #[true,true,true,true,true,true,true,true,true,true,true,true,true,true,true] rfl rfl (any_of HT_.out (by kernel_rfl)) (fun _ _ _ h=>h) (Or.inl ⟨by rfl, ?_⟩) ?_ ?_
         rotate_left
         ·intro w'
          go_simp
          with_reducible rfl
         rotate_left
         ·simp only [Act.put,lz1,lz2,lz3,i64_w,i32_w]
          rfl
         refine done_ (done_of HT_.out (by kernel_rfl)) ?_
         try go_wp2
         go_ret
         exact ⟨by first | rfl | (simp [errW_none, errW_some] <;> rfl) | (simp [*, errW_none, errW_some] <;> rfl), by repeat (first | (with_reducible first | exact HB.out | apply below_alloc | apply pw_below_drewN | apply below_drew1 | refine below_set ?_ GE137.out | refine below_set ?_ GE139.out | refine below_set ?_ GE140.out | refine below_set ?_ GE141.out) | exact HB.out)⟩
 ·replace c3 := Bool.eq_false_iff.mpr c3
  subst c3
  have H1 : (some false) = some r := by rw [if_neg (show ¬ (false = true) by decide)] at H; exact H
  clear H
  have H := H1
  clear H1
  obtain rfl := Option.some.inj H
  go_enter Try.func6, Try.ntmps6
  go_wp2_with (first | ((with_reducible refine gate_dst (N := 1) rfl ?_); refine box_event ?hg (N := 1) ?hd (cs := #[.int .i64 a0_0, .int .i64 a0_1, .int .i64 a0_2, .bool a0_3, .int .u64 a0_4, .int .u64 a0_5]) (t := 24) ?hr ?_; (case hd => rfl); (case hg => rfl); (case hr => first | (go_simp; done) | (go_simp; rfl)); intro gb137 hg w101 hbox hb; have n0_ := Aside0.mk (below_step (by repeat (first | (with_reducible first | exact HB.out | apply below_alloc | apply pw_below_drewN | apply below_drew1) | exact HB.out)) hb); have n1_ := Aside0.mk (hbox); have n2_ := Aside0.mk ((by rw [hg]; exact (below_size (by repeat (first | (with_reducible first | exact HB.out | apply below_alloc | apply pw_below_drewN | apply below_drew1) | exact HB.out))) : w.heap.size ≤ gb137)); have n3_ := Aside0.mk ((by rw [hg]; exact (below_size (by repeat (first | (with_reducible first | exact HB.out | apply below_alloc | apply pw_below_drewN | apply below_drew1) | exact HB.out))) : w.heap.size ≤ gb137)); clear HB; have HB := n0_; have BK137 := n1_; have GW137 := n2_; have GE137 := n3_; clear n0_ n1_ n2_ n3_; clear hb hbox hg) | ((with_reducible refine gate_callee (f := 7) rfl ?_); refine goesL_ (some 7) rfl rfl Try.func7 (by kernel_rfl) rfl #[] rfl (by (try simp only [List.map_toArray, List.map_cons, List.map_nil]); first | done | rfl | (simp only [List.length_drop, List.length_take]; rfl)) ?_; (with_reducible refine (turnbucklelaw11_speaks.calls k  false _ A2.out).mono ?_); rintro e w102 ⟨rfl, hb⟩; refine ⟨_, rfl, ?_⟩; have n0_ := Aside0.mk (blk_below (g := gb137) (o := .cells #[.int .i64 a0_0, .int .i64 a0_1, .int .i64 a0_2, .bool a0_3, .int .u64 a0_4, .int .u64 a0_5] 24 (0, 0)) (by (with_reducible repeat (first | refine blk_drewN ?_ _ | refine blk_drew ?_ | refine blk_alloc ?_ _)); exact BK137.out) hb); have n1_ := Aside0.mk (below_step (by repeat (first | (with_reducible first | exact HB.out | apply below_alloc | apply pw_below_drewN | apply below_drew1 | refine below_set ?_ GE137.out) | exact HB.out)) hb); clear BK137; clear HB; have BK137 := n0_; have HB := n1_; clear n0_ n1_; (try clear hb); (try clear hb2); (try clear hk); (try clear hi)))
  go_ret
  exact ⟨by first | rfl | (simp [errW_none, errW_some] <;> rfl) | (simp [*, errW_none, errW_some] <;> rfl), by repeat (first | (with_reducible first | exact HB.out | apply below_alloc | apply pw_below_drewN | apply below_drew1 | refine below_set ?_ GE137.out) | exact HB.out)⟩

/-- THE ONE PURE STATEMENT of turnbucklelaw11_SymBinds: yours. -/
def turnbucklelaw11_SymBinds.Pure : Prop := ∀ (a0_0 : Int) (a0_1 : Int) (a0_2 : Int) (a0_3 : Bool) (a0_4 : Int) (a0_5 : Int), (Lit.int .i64 a0_0).wf = true → (Lit.int .i64 a0_1).wf = true → (Lit.int .i64 a0_2).wf = true → (Lit.int .u64 a0_4).wf = true → (Lit.int .u64 a0_5).wf = true → ∃ k, turnbucklelaw11_SymBinds.f k a0_0 a0_1 a0_2 a0_3 a0_4 a0_5 = some true
theorem turnbucklelaw11_SymBinds.walk (P : turnbucklelaw11_SymBinds.Pure) (a0_0 : Int) (a0_1 : Int) (a0_2 : Int) (a0_3 : Bool) (a0_4 : Int) (a0_5 : Int) (w : World) (w0_0 : (Lit.int .i64 a0_0).wf = true) (w0_1 : (Lit.int .i64 a0_1).wf = true) (w0_2 : (Lit.int .i64 a0_2).wf = true) (w0_4 : (Lit.int .u64 a0_4).wf = true) (w0_5 : (Lit.int .u64 a0_5).wf = true) :
  Calls Try.prog 6 #[.agg #[.int .i64 a0_0, .int .i64 a0_1, .int .i64 a0_2, .bool a0_3, .int .u64 a0_4, .int .u64 a0_5]] w fun e w' => e = .returned (.bool true) ∧ Below w.heap.size w w' := by
 obtain ⟨k, h⟩ := P a0_0 a0_1 a0_2 a0_3 a0_4 a0_5 w0_0 w0_1 w0_2 w0_4 w0_5
 refine (turnbucklelaw11_SymBinds.calls k a0_0 a0_1 a0_2 a0_3 a0_4 a0_5 true w h).mono ?_
 rintro e w' ⟨rfl, hd⟩
 exact ⟨rfl, hd⟩

end Go.Proofs.Ytmekjomfdomogaa.PBi
