-- Written by a program of this session (a changed copy of the print of the kit). Not trusted: Lean checks it.
import Derived.Test.YtmekjomfdomogaaPRdx0
import Derived.Test.YtmekjomfdomogaaPRdx7
import Derived.Test.YtmekjomfdomogaaLiftDrawG
import Derived.Test.YtmekjomfdomogaaLiftPost
import Derived.Deep.DeepMust
namespace Go.Proofs.Ytmekjomfdomogaa.PRd
open Go.RowKit Go.Proofs.YtmekjomfdomogaaW.PrintWords Go.Proofs.YtmekjomfdomogaaW.PrintLast Go.Proofs.YtmekjomfdomogaaW.PrintMore
attribute [local go_sem] max2_int min2_int max_two min_two max_three min_three max_four min_four   -- for this text's walks alone
set_option linter.unusedVariables false
set_option linter.unusedSimpArgs false

-- GIVENCHUNK
-- GIVEN rounds=1 making=1
-- DESCEND
-- NEEDS Derived.Test.YtmekjomfdomogaaLiftDrawG
-- NEEDS Derived.Test.YtmekjomfdomogaaLiftPost
-- NEEDS Derived.Deep.DeepMust
/-! ### sym_read: function 20 (given by hand) -/
section
open Go.Proofs.YtmekjomfdomogaaLift
def sym_read.of (p : ByteArray) (t : ByteArray × Bool) (v z : Int) : ByteArray × Int × Int × Int × Bool × Int × Int × Int :=
  if t.2 = true then (if bt p 4 / 16 > 2 then (⟨#[]⟩, 0, 0, 0, false, 0, 0, 4) else (t.1, bt p 4 / 16, bt p 4 % 16, bt p 5 % 4, (if bt p 6 = 0 then decide (bt p 7 ≠ 0) else true), v, z, 0)) else (⟨#[]⟩, 0, 0, 0, false, 0, 0, 25)
def sym_read.f (k : Nat) (a0 a1 : ByteArray) : Option (ByteArray × Int × Int × Int × Bool × Int × Int × Int) :=
  if a0.size = 24 then (le_Get.f k (a0.extract 0 4)).bind fun g => (le_Text.f a1 g 32).bind fun t => (le_Get.f k (a0.extract 8 16)).bind fun v => (le_Get.f k (a0.extract 16 24)).bind fun z => some (sym_read.of a0 t v z) else none
theorem sym_read.mono : ∀ a0 a1 k, LeO (sym_read.f k a0 a1) (sym_read.f (k + 1) a0 a1) := by
  intro a0 a1 k
  unfold sym_read.f
  split
  · exact LeO.bind (le_Get.mono _ k) fun g => LeO.bind (LeO.refl _) fun t => LeO.bind (le_Get.mono _ k) fun v => LeO.bind (le_Get.mono _ k) fun z => LeO.refl _
  · exact LeO.refl _
set_option maxHeartbeats 4000000 in
set_option maxRecDepth 100000 in
theorem sym_read.calls (k : Nat) (a0 a1 : ByteArray) (r1 : ByteArray) (r2 r3 r4 : Int) (r5 : Bool) (r6 r7 r8 : Int) (w : World) (h : sym_read.f k a0 a1 = some (r1, r2, r3, r4, r5, r6, r7, r8)) :
    Calls Try.prog 20 #[.string a0, .string a1] w fun e w' => e = .returned (.tuple #[.agg #[.string r1, .int .i64 r2, .int .i64 r3, .int .i64 r4, .bool r5, .int .u64 r6, .int .u64 r7], .int .i64 r8]) ∧ Below w.heap.size w w' := by
  have hend : ∀ (W : World) (a : Act) (q1 : ByteArray) (q2 q3 q4 : Int) (q5 : Bool) (q6 q7 q8 : Int), a.defers = [] → a.tmps.getD 4 undef = .pointer (some ⟨w.heap.size, 0, none⟩) → a.tmps.getD 5 undef = .int .i64 q8 →
      W.heap[w.heap.size]? = some (.cells #[.string q1, .int .i64 q2, .int .i64 q3, .int .i64 q4, .bool q5, .int .u64 q6, .int .u64 q7] 28 (0, 0)) → Below w.heap.size w W → (q1, q2, q3, q4, q5, q6, q7, q8) = (r1, r2, r3, r4, r5, r6, r7, r8) →
      bodyPostM Fence.wide 1 Try.prog Try.f20 (fun e w' => e = .returned (.tuple #[.agg #[.string r1, .int .i64 r2, .int .i64 r3, .int .i64 r4, .bool r5, .int .u64 r6, .int .u64 r7], .int .i64 r8]) ∧ Below w.heap.size w w') .ret a W := by
    intro W a q1 q2 q3 q4 q5 q6 q7 q8 hd h4 h5 g4 hb hq
    simp only [Prod.mk.injEq] at hq
    obtain ⟨rfl, rfl, rfl, rfl, rfl, rfl, rfl, rfl⟩ := hq
    have hr := results_res (P := Try.prog) (w := W) (tmps := a.tmps) (fn := Try.f20) (rs := [.cell 4 28, .tmp 5]) (vs := [.agg #[.string q1, .int .i64 q2, .int .i64 q3, .int .i64 q4, .bool q5, .int .u64 q6, .int .u64 q7], a.tmps.getD 5 undef]) rfl (by simp) (.cell _ _ h4 (run_loadVar_row W _ _ _ _ _ _ g4 Try.underlying28 rfl (by kernel_rfl)) (.tmp .nil))
    rw [h5] at hr
    exact postM_ret hr hd ⟨rfl, hb⟩
  unfold sym_read.f at h
  by_cases hsz : a0.size = 24
  · rw [if_pos hsz] at h
    obtain ⟨g, e0, h1⟩ := Option.bind_eq_some_iff.mp h
    clear h
    obtain ⟨⟨nm, ok⟩, e1, h2⟩ := Option.bind_eq_some_iff.mp h1
    clear h1
    obtain ⟨v, e2, h3⟩ := Option.bind_eq_some_iff.mp h2
    clear h2
    obtain ⟨z, e3, h4⟩ := Option.bind_eq_some_iff.mp h3
    clear h3
    have h := Option.some.inj h4
    clear h4
    have hs1 : ∀ wx : World, (Instr.slice 9 (.string a0) none (some (.int .i64 4)) none).run Try.prog wx = .ok (.string (a0.extract 0 4)) wx := fun wx => run_slice_string_h (P := Try.prog) wx 9 a0 Try.underlying9 .i64 4 (by omega) (by omega)
    have hs2 : ∀ wx : World, (Instr.slice 9 (.string a0) (some (.int .i64 8)) (some (.int .i64 16)) none).run Try.prog wx = .ok (.string (a0.extract 8 16)) wx := fun wx => run_slice_string (P := Try.prog) (w := wx) 9 a0 .i64 .i64 8 16 Try.underlying9 (by omega) (by omega) (by omega)
    have hs3 : ∀ wx : World, (Instr.slice 9 (.string a0) (some (.int .i64 16)) none none).run Try.prog wx = .ok (.string (a0.extract 16 24)) wx := fun wx => by
      have := run_slice_string_l (P := Try.prog) wx 9 a0 Try.underlying9 .i64 16 (by omega) (by omega)
      rw [hsz] at this
      exact this
    have hi : ∀ (n : Int) (wx : World), 0 ≤ n → n < 24 → (Instr.index 9 (.string a0) (.int .i64 n)).run Try.prog wx = .ok (.int .u8 (bt a0 n)) wx := fun n wx h0 hn => by
      rw [run_index_string (P := Try.prog) wx 9 a0 .i64 n Try.underlying9]
      rw [dif_pos ⟨h0, by omega⟩, bt_at]
    have hi4 := fun wx => hi 4 wx (by decide) (by decide)
    have hi5 := fun wx => hi 5 wx (by decide) (by decide)
    have hi6 := fun wx => hi 6 wx (by decide) (by decide)
    have hi7 := fun wx => hi 7 wx (by decide) (by decide)
    clear hi
    have b4 := bt_range a0 4; have b5 := bt_range a0 5
    unfold sym_read.of at h
    dsimp only at h
    generalize bt a0 4 = x4 at *
    generalize bt a0 5 = x5 at *
    generalize bt a0 6 = x6 at *
    generalize bt a0 7 = x7 at *
    clear hsz
    replace h := Aside0.mk h
    refine callsIn_wide.1 (callsIn_of_wp_marks (n := 1) Try.func20 rfl trivial (wpIn_wide.2 ?_))
    simp only [Try.ntmps20, List.size_toArray, List.length_cons, List.length_nil, Nat.reduceAdd, Nat.reduceSub, Array.replicate_succ, Array.replicate_zero, List.push_toArray, List.append_toArray, List.nil_append, List.cons_append]
    go_wp2_with (first | (go_at_call 27; go_must (with_reducible refine (le_Get.calls k _ g _ e0).mono ?_; rintro e w' ⟨rfl, ⟨nd, rfl⟩⟩)) | (go_at_call 26; go_must (with_reducible refine (le_Text.calls _ _ _ nm ok _ e1).mono ?_; rintro e w' ⟨rfl, ⟨nd2, rfl⟩⟩)))
    obtain ⟨W2, hW2⟩ : ∃ W2 : World, W2 = ((w.alloc (.cells #[.string ⟨#[]⟩, .int .i64 0, .int .i64 0, .int .i64 0, .bool false, .int .u64 0, .int .u64 0] 28)).drewN (nd + nd2)).drew := ⟨_, rfl⟩
    have g4 : W2.heap[w.heap.size]? = some (.cells #[.string ⟨#[]⟩, .int .i64 0, .int .i64 0, .int .i64 0, .bool false, .int .u64 0, .int .u64 0] 28 (0, 0)) := by rw [hW2]; exact blk_new _ _
    have hb2 : Below w.heap.size w W2 := by rw [hW2]; exact below_drew1 (pw_below_drewN (below_alloc (Below.refl _ _) _) _)
    have hm15 : Go.bits .and .u8 x4 15 = x4 % 16 := bits_mask .u8 8 (by decide) wraps_u8 4 (by decide) x4 (by omega) (by omega)
    have hm3 : Go.bits .and .u8 x5 3 = x5 % 4 := bits_mask .u8 8 (by decide) wraps_u8 2 (by decide) x5 (by omega) (by omega)
    have hw1 : IntKind.i64.wrap (x4 / 16) = x4 / 16 := by rw [IntKind.wrap_i64]; omega
    have hw2 : IntKind.i64.wrap (x4 % 16) = x4 % 16 := by rw [IntKind.wrap_i64]; omega
    have hw3 : IntKind.i64.wrap (x5 % 4) = x5 % 4 := by rw [IntKind.wrap_i64]; omega
    refine wp_region_any (by kernel_rfl) ?_
    rw [show { (w.alloc (.cells #[.string ⟨#[]⟩, .int .i64 0, .int .i64 0, .int .i64 0, .bool false, .int .u64 0, .int .u64 0] 28)).drewN (nd + nd2) with drawn := ((w.alloc (.cells #[.string ⟨#[]⟩, .int .i64 0, .int .i64 0, .int .i64 0, .bool false, .int .u64 0, .int .u64 0] 28)).drewN (nd + nd2)).drawn + 1 } = W2 from hW2.symm]
    clear hW2
    cases hx6 : (x6 != 0) with
    | true =>
      refine any_guarded (n := 29) (p := 28) (ts := []) (cv := .pointer (some ⟨W2.heap.size, 0, none⟩)) (af := ?af)
        (C := fun b w' => ∃ m, w' = (if b = true then W2.alloc (.cells #[.string ⟨#[]⟩, .int .i64 0, .int .i64 0, .int .i64 0, .bool false, .int .u64 0, .int .u64 0] 28) else W2).drewN m) ?hB ?hF ?hC ?heff ?hwalk ?hlast
      case hB => kernel_rfl
      case hF => kernel_rfl
      case hC => exact ⟨0, rfl⟩
      case hwalk =>
        intro b
        generalize (if b = true then W2.alloc (.cells #[.string ⟨#[]⟩, .int .i64 0, .int .i64 0, .int .i64 0, .bool false, .int .u64 0, .int .u64 0] 28) else W2) = wb
        simp only [mask, Nat.reduceAdd, Nat.reduceEqDiff, Nat.reduceLeDiff, if_true, if_false, reduceIte]
        repeat (quiet_step ((go_at_call 27; (first | (with_reducible exact quiet_drawn (le_Get.calls k _ v _ e2)) | (with_reducible exact quiet_drawn (le_Get.calls k _ z _ e3))))))
        refine wpQuiet_nil ?_
        with_reducible rfl
      case heff =>
        rintro o a w1 ho ⟨m, rfl⟩ _
        cases ho
        refine ⟨(W2.alloc (.cells #[.string ⟨#[]⟩, .int .i64 0, .int .i64 0, .int .i64 0, .bool false, .int .u64 0, .int .u64 0] 28)).drewN m, ?_, m, rfl⟩
        go_simp
        rfl
      case hlast =>
        rintro w3 ⟨m, hm⟩
        replace hm : w3 = (W2.alloc (.cells #[.string ⟨#[]⟩, .int .i64 0, .int .i64 0, .int .i64 0, .bool false, .int .u64 0, .int .u64 0] 28)).drewN m := hm
        have g9 : w3.heap[W2.heap.size]? = some (.cells #[.string ⟨#[]⟩, .int .i64 0, .int .i64 0, .int .i64 0, .bool false, .int .u64 0, .int .u64 0] 28 (0, 0)) := by rw [hm]; exact blk_drewN (blk_new _ _) m
        have hb3 : Below W2.heap.size W2 w3 := by rw [hm]; exact pw_below_drewN (below_alloc (Below.refl _ _) _) m
        clear hm
        have c90 := blk_cell g9 0; have c91 := blk_cell g9 1; have c92 := blk_cell g9 2; have c93 := blk_cell g9 3; have c94 := blk_cell g9 4; have c95 := blk_cell g9 5; have c96 := blk_cell g9 6; have f90 := blk_frozen g9 0; have f91 := blk_frozen g9 1; have f92 := blk_frozen g9 2; have f93 := blk_frozen g9 3; have f94 := blk_frozen g9 4; have f95 := blk_frozen g9 5; have f96 := blk_frozen g9 6
        simp only [List.drop_succ_cons, List.drop_zero]
        clear hs1 hs2 hs3 hi4 hi5 hi6 hi7
        iterate 4 go_step
        obtain ⟨g9', hb4⟩ := stored7 g9 (.string nm) (.int .i64 (x4 / 16)) (.int .i64 (x4 % 16)) (.int .i64 (x5 % 4)) (.bool true) (.int .u64 v) (.int .u64 z)
        replace hb4 := hb4 _ _ hb3 (Nat.le_refl _)
        generalize hW4 : ((((((w3.setCell ⟨W2.heap.size, 0, none⟩ (.string nm)).setCell ⟨W2.heap.size, 1, none⟩ (.int .i64 (x4 / 16))).setCell ⟨W2.heap.size, 2, none⟩ (.int .i64 (x4 % 16))).setCell ⟨W2.heap.size, 3, none⟩ (.int .i64 (x5 % 4))).setCell ⟨W2.heap.size, 4, none⟩ (.bool true)).setCell ⟨W2.heap.size, 5, none⟩ (.int .u64 v)).setCell ⟨W2.heap.size, 6, none⟩ (.int .u64 z) = W4 at g9' hb4 ⊢
        clear hW4 c90 c91 c92 c93 c94 c95 c96 f90 f91 f92 f93 f94 f95 f96 g9 hb3 w3
        have g4' := blk_below g4 hb4
        have hbw := below_step hb2 hb4
        clear hb4 g4 hb2
        have c40 := blk_cell g4' 0; have c41 := blk_cell g4' 1; have c42 := blk_cell g4' 2; have c43 := blk_cell g4' 3; have c44 := blk_cell g4' 4; have c45 := blk_cell g4' 5; have c46 := blk_cell g4' 6; have f40 := blk_frozen g4' 0; have f41 := blk_frozen g4' 1; have f42 := blk_frozen g4' 2; have f43 := blk_frozen g4' 3; have f44 := blk_frozen g4' 4; have f45 := blk_frozen g4' 5; have f46 := blk_frozen g4' 6
        cases ok with
        | false =>
          clear g9'
          go_wp2
          obtain ⟨s4, sb⟩ := stored7 g4' (.string ⟨#[]⟩) (.int .i64 0) (.int .i64 0) (.int .i64 0) (.bool false) (.int .u64 0) (.int .u64 0)
          exact hend _ _ _ _ _ _ _ _ _ _ rfl rfl rfl s4 (sb _ _ hbw (Nat.le_refl _)) h.out
        | true =>
          by_cases c : x4 / 16 > 2
          · have cb : decide (2 < x4 / 16) = true := decide_eq_true c
            have c91 := blk_cell g9' 1; have f91 := blk_frozen g9' 1
            go_wp2
            obtain ⟨s4, sb⟩ := stored7 g4' (.string ⟨#[]⟩) (.int .i64 0) (.int .i64 0) (.int .i64 0) (.bool false) (.int .u64 0) (.int .u64 0)
            refine hend _ _ _ _ _ _ _ _ _ _ rfl rfl rfl s4 (sb _ _ hbw (Nat.le_refl _)) ?_
            have h' := h.out
            rw [if_pos trivial, if_pos c] at h'
            exact h'
          · have cb : decide (2 < x4 / 16) = false := decide_eq_false c
            have c90 := blk_cell g9' 0; have c91 := blk_cell g9' 1; have c92 := blk_cell g9' 2; have c93 := blk_cell g9' 3; have c94 := blk_cell g9' 4; have c95 := blk_cell g9' 5; have c96 := blk_cell g9' 6; have f90 := blk_frozen g9' 0; have f91 := blk_frozen g9' 1; have f92 := blk_frozen g9' 2; have f93 := blk_frozen g9' 3; have f94 := blk_frozen g9' 4; have f95 := blk_frozen g9' 5; have f96 := blk_frozen g9' 6
            go_wp2
            obtain ⟨s4, sb⟩ := stored7 g4' (.string nm) (.int .i64 (x4 / 16)) (.int .i64 (x4 % 16)) (.int .i64 (x5 % 4)) (.bool true) (.int .u64 v) (.int .u64 z)
            refine hend _ _ _ _ _ _ _ _ _ _ rfl rfl rfl s4 (sb _ _ hbw (Nat.le_refl _)) ?_
            have h' := h.out
            rw [if_pos trivial, if_neg (by omega)] at h'
            rw [if_neg (by simpa using hx6)] at h'
            exact h'
    | false =>
      refine any_guarded (n := 29) (p := 28) (ts := []) (cv := .pointer (some ⟨W2.heap.size, 0, none⟩)) (af := ?af2)
        (C := fun b w' => ∃ m, w' = (if b = true then W2.alloc (.cells #[.string ⟨#[]⟩, .int .i64 0, .int .i64 0, .int .i64 0, .bool false, .int .u64 0, .int .u64 0] 28) else W2).drewN m) ?hB2 ?hF2 ?hC2 ?heff2 ?hwalk2 ?hlast2
      case hB2 => kernel_rfl
      case hF2 => kernel_rfl
      case hC2 => exact ⟨0, rfl⟩
      case hwalk2 =>
        intro b
        generalize (if b = true then W2.alloc (.cells #[.string ⟨#[]⟩, .int .i64 0, .int .i64 0, .int .i64 0, .bool false, .int .u64 0, .int .u64 0] 28) else W2) = wb
        simp only [mask, Nat.reduceAdd, Nat.reduceEqDiff, Nat.reduceLeDiff, if_true, if_false, reduceIte]
        repeat (quiet_step ((go_at_call 27; (first | (with_reducible exact quiet_drawn (le_Get.calls k _ v _ e2)) | (with_reducible exact quiet_drawn (le_Get.calls k _ z _ e3))))))
        refine wpQuiet_nil ?_
        with_reducible rfl
      case heff2 =>
        rintro o a w1 ho ⟨m, rfl⟩ _
        cases ho
        refine ⟨(W2.alloc (.cells #[.string ⟨#[]⟩, .int .i64 0, .int .i64 0, .int .i64 0, .bool false, .int .u64 0, .int .u64 0] 28)).drewN m, ?_, m, rfl⟩
        go_simp
        rfl
      case hlast2 =>
        rintro w3 ⟨m, hm⟩
        replace hm : w3 = (W2.alloc (.cells #[.string ⟨#[]⟩, .int .i64 0, .int .i64 0, .int .i64 0, .bool false, .int .u64 0, .int .u64 0] 28)).drewN m := hm
        have g9 : w3.heap[W2.heap.size]? = some (.cells #[.string ⟨#[]⟩, .int .i64 0, .int .i64 0, .int .i64 0, .bool false, .int .u64 0, .int .u64 0] 28 (0, 0)) := by rw [hm]; exact blk_drewN (blk_new _ _) m
        have hb3 : Below W2.heap.size W2 w3 := by rw [hm]; exact pw_below_drewN (below_alloc (Below.refl _ _) _) m
        clear hm
        have c90 := blk_cell g9 0; have c91 := blk_cell g9 1; have c92 := blk_cell g9 2; have c93 := blk_cell g9 3; have c94 := blk_cell g9 4; have c95 := blk_cell g9 5; have c96 := blk_cell g9 6; have f90 := blk_frozen g9 0; have f91 := blk_frozen g9 1; have f92 := blk_frozen g9 2; have f93 := blk_frozen g9 3; have f94 := blk_frozen g9 4; have f95 := blk_frozen g9 5; have f96 := blk_frozen g9 6
        simp only [List.drop_succ_cons, List.drop_zero]
        clear hs1 hs2 hs3 hi4 hi5 hi6 hi7
        iterate 4 go_step
        obtain ⟨g9', hb4⟩ := stored7 g9 (.string nm) (.int .i64 (x4 / 16)) (.int .i64 (x4 % 16)) (.int .i64 (x5 % 4)) (.bool (x7 != 0)) (.int .u64 v) (.int .u64 z)
        replace hb4 := hb4 _ _ hb3 (Nat.le_refl _)
        generalize hW4 : ((((((w3.setCell ⟨W2.heap.size, 0, none⟩ (.string nm)).setCell ⟨W2.heap.size, 1, none⟩ (.int .i64 (x4 / 16))).setCell ⟨W2.heap.size, 2, none⟩ (.int .i64 (x4 % 16))).setCell ⟨W2.heap.size, 3, none⟩ (.int .i64 (x5 % 4))).setCell ⟨W2.heap.size, 4, none⟩ (.bool (x7 != 0))).setCell ⟨W2.heap.size, 5, none⟩ (.int .u64 v)).setCell ⟨W2.heap.size, 6, none⟩ (.int .u64 z) = W4 at g9' hb4 ⊢
        clear hW4 c90 c91 c92 c93 c94 c95 c96 f90 f91 f92 f93 f94 f95 f96 g9 hb3 w3
        have g4' := blk_below g4 hb4
        have hbw := below_step hb2 hb4
        clear hb4 g4 hb2
        have c40 := blk_cell g4' 0; have c41 := blk_cell g4' 1; have c42 := blk_cell g4' 2; have c43 := blk_cell g4' 3; have c44 := blk_cell g4' 4; have c45 := blk_cell g4' 5; have c46 := blk_cell g4' 6; have f40 := blk_frozen g4' 0; have f41 := blk_frozen g4' 1; have f42 := blk_frozen g4' 2; have f43 := blk_frozen g4' 3; have f44 := blk_frozen g4' 4; have f45 := blk_frozen g4' 5; have f46 := blk_frozen g4' 6
        cases ok with
        | false =>
          clear g9'
          go_wp2
          obtain ⟨s4, sb⟩ := stored7 g4' (.string ⟨#[]⟩) (.int .i64 0) (.int .i64 0) (.int .i64 0) (.bool false) (.int .u64 0) (.int .u64 0)
          exact hend _ _ _ _ _ _ _ _ _ _ rfl rfl rfl s4 (sb _ _ hbw (Nat.le_refl _)) h.out
        | true =>
          by_cases c : x4 / 16 > 2
          · have cb : decide (2 < x4 / 16) = true := decide_eq_true c
            have c91 := blk_cell g9' 1; have f91 := blk_frozen g9' 1
            go_wp2
            obtain ⟨s4, sb⟩ := stored7 g4' (.string ⟨#[]⟩) (.int .i64 0) (.int .i64 0) (.int .i64 0) (.bool false) (.int .u64 0) (.int .u64 0)
            refine hend _ _ _ _ _ _ _ _ _ _ rfl rfl rfl s4 (sb _ _ hbw (Nat.le_refl _)) ?_
            have h' := h.out
            rw [if_pos trivial, if_pos c] at h'
            exact h'
          · have cb : decide (2 < x4 / 16) = false := decide_eq_false c
            have c90 := blk_cell g9' 0; have c91 := blk_cell g9' 1; have c92 := blk_cell g9' 2; have c93 := blk_cell g9' 3; have c94 := blk_cell g9' 4; have c95 := blk_cell g9' 5; have c96 := blk_cell g9' 6; have f90 := blk_frozen g9' 0; have f91 := blk_frozen g9' 1; have f92 := blk_frozen g9' 2; have f93 := blk_frozen g9' 3; have f94 := blk_frozen g9' 4; have f95 := blk_frozen g9' 5; have f96 := blk_frozen g9' 6
            go_wp2
            obtain ⟨s4, sb⟩ := stored7 g4' (.string nm) (.int .i64 (x4 / 16)) (.int .i64 (x4 % 16)) (.int .i64 (x5 % 4)) (.bool (x7 != 0)) (.int .u64 v) (.int .u64 z)
            refine hend _ _ _ _ _ _ _ _ _ _ rfl rfl rfl s4 (sb _ _ hbw (Nat.le_refl _)) ?_
            have h' := h.out
            rw [if_pos trivial, if_neg (by omega)] at h'
            rw [if_pos (by simpa using hx6)] at h'
            rw [show (x7 != 0) = decide (x7 ≠ 0) by by_cases hz : x7 = 0 <;> simp [hz]]
            exact h'
  · rw [if_neg hsz] at h; cases h
end

end Go.Proofs.Ytmekjomfdomogaa.PRd
