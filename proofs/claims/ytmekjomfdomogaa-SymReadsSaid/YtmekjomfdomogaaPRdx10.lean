-- Written by a program of this session (a changed copy of the print of the kit). Not trusted: Lean checks it.
import Derived.Test.YtmekjomfdomogaaPRdx0
import Derived.Test.YtmekjomfdomogaaPRdx5
import Derived.Test.YtmekjomfdomogaaPRdx8
import Derived.Test.YtmekjomfdomogaaPRdx9
import Derived.Test.YtmekjomfdomogaaLeEach
import Derived.Test.YtmekjomfdomogaaLiftDraw
import Derived.Test.YtmekjomfdomogaaLiftPost
namespace Go.Proofs.Ytmekjomfdomogaa.PRd
open Go.RowKit Go.Proofs.YtmekjomfdomogaaW.PrintWords Go.Proofs.YtmekjomfdomogaaW.PrintLast Go.Proofs.YtmekjomfdomogaaW.PrintMore
attribute [local go_sem] max2_int min2_int max_two min_two max_three min_three max_four min_four   -- for this text's walks alone
set_option linter.unusedVariables false
set_option linter.unusedSimpArgs false

-- GIVENCHUNK
-- GIVEN rounds=1 making=1
-- DESCEND
-- NEEDS Derived.Test.YtmekjomfdomogaaLeEach
-- NEEDS Derived.Test.YtmekjomfdomogaaLiftDraw
-- NEEDS Derived.Test.YtmekjomfdomogaaLiftPost
/-! ### sym_Read: function 10 (given by hand) -/
section
open Go.Proofs.YtmekjomfdomogaaLift Go.Proofs.YtmekjomfdomogaaLe
def sym_Read.go (k : Nat) (s names : ByteArray) : Nat → Nat → List S28 → Option (List S28 × Int × Int × ByteArray)
  | 0, _, xs => some (xs, 0, 0, ⟨#[]⟩)
  | m + 1, i, xs => (sym_read.f k (eachPart s 24 i) names).bind fun q => if q.2.2.2.2.2.2.2 = 0 then sym_Read.go k s names m (i + 1) (xs ++ [⟨q.1, q.2.1, q.2.2.1, q.2.2.2.1, q.2.2.2.2.1, q.2.2.2.2.2.1, q.2.2.2.2.2.2.1⟩]) else (fail_At.f q.2.2.2.2.2.2.2 ((i : Int) * 24)).bind fun t => some ([], t.1, t.2.1, t.2.2)
def sym_Read.f (k : Nat) (a0 a1 : ByteArray) : Option (List S28 × Int × Int × ByteArray) :=
  if a0.size > 140737488351232 then none else if a0.size % 24 = 0 then (if a0.size / 24 > 256 then (fail_Of.f 6).bind fun t => some ([], t.1, t.2.1, t.2.2) else sym_Read.go k a0 a1 (a0.size / 24) 0 []) else (fail_Of.f 4).bind fun t => some ([], t.1, t.2.1, t.2.2)
theorem sym_Read.go_mono (k : Nat) (s names : ByteArray) : ∀ m i xs, LeO (sym_Read.go k s names m i xs) (sym_Read.go (k + 1) s names m i xs)
  | 0, _, _ => LeO.refl _
  | m + 1, i, xs => by
    unfold sym_Read.go
    refine LeO.bind (sym_read.mono _ _ k) fun q => ?_
    split
    · exact sym_Read.go_mono k s names m (i + 1) _
    · exact LeO.refl _
theorem sym_Read.mono : ∀ a0 a1 k, LeO (sym_Read.f k a0 a1) (sym_Read.f (k + 1) a0 a1) := by
  intro a0 a1 k
  unfold sym_Read.f
  split
  · exact LeO.refl _
  split
  · split
    · exact LeO.refl _
    · exact sym_Read.go_mono k a0 a1 _ _ _
  · exact LeO.refl _
set_option maxHeartbeats 4000000 in
set_option maxRecDepth 100000 in
theorem sym_Read.calls (k : Nat) (a0 a1 : ByteArray) (r1 : List S28) (r2 r3 : Int) (r4 : ByteArray) (w : World) (h : sym_Read.f k a0 a1 = some (r1, r2, r3, r4)) :
    Calls Try.prog 10 #[.string a0, .string a1] w fun e w' => ∃ v0_ : Value, e = .returned (.tuple #[v0_, .agg #[.int .i64 r2, .int .u64 r3, .string r4]]) ∧ Kd.R k28 28 w' w.heap.size (fun _ => True) v0_ r1 ∧ Below w.heap.size w w' := by
  have hu38 := Try.underlying28
  have hu32 := Try.underlying35
  obtain ⟨g3, g4, g5, hb0⟩ := alloc3 w (.cells #[.string a1] 9) (.cells #[.slice none 0 0] 32) (.cells #[.int .i64 0, .int .u64 0, .string ⟨#[]⟩] 35)
  have hend : ∀ (W : World) (a : Act) (v : Value) (r1 : List S28) (r2 r3 : Int) (r4 : ByteArray), a.defers = [] → a.tmps.getD 4 undef = .pointer (some ⟨w.heap.size + 1, 0, none⟩) → a.tmps.getD 5 undef = .pointer (some ⟨w.heap.size + 1 + 1, 0, none⟩) →
      W.heap[w.heap.size + 1]? = some (.cells #[v] 32 (0, 0)) → W.heap[w.heap.size + 1 + 1]? = some (.cells #[.int .i64 r2, .int .u64 r3, .string r4] 35 (0, 0)) →
      Kd.R k28 28 W w.heap.size (fun _ => True) v r1 → Below w.heap.size w W →
      bodyPostM Fence.wide 1 Try.prog Try.f10 (fun e w' => ∃ v0_ : Value, e = .returned (.tuple #[v0_, .agg #[.int .i64 r2, .int .u64 r3, .string r4]]) ∧ Kd.R k28 28 w' w.heap.size (fun _ => True) v0_ r1 ∧ Below w.heap.size w w') .ret a W := by
    intro W a v r1 r2 r3 r4 hd h4 h5 g4 g5 hR hb
    refine postM_ret (results_res (rs := [.cell 4 32, .cell 5 35]) (vs := [v, .agg #[.int .i64 r2, .int .u64 r3, .string r4]]) rfl (by simp) (.cell _ _ h4 (load_one g4 rfl Try.underlying32) (.cell _ _ h5 (run_loadVar_row W _ _ _ _ _ _ g5 Try.underlying35 rfl (by kernel_rfl)) .nil))) hd ⟨v, rfl, hR, hb⟩
  have hendD : ∀ (W : World) (a : Act) (v : Value) (r1 : List S28) (r2 r3 : Int) (r4 : ByteArray) (D B : Nat), a.defers = [{ target := .collected D, args := #[] }] → a.tmps.getD 4 undef = .pointer (some ⟨w.heap.size + 1, 0, none⟩) → a.tmps.getD 5 undef = .pointer (some ⟨w.heap.size + 1 + 1, 0, none⟩) →
      W.heap[D]? = some (.deferred (some [])) → B ≤ D → w.heap.size ≤ B →
      W.heap[w.heap.size + 1]? = some (.cells #[v] 32 (0, 0)) → W.heap[w.heap.size + 1 + 1]? = some (.cells #[.int .i64 r2, .int .u64 r3, .string r4] 35 (0, 0)) →
      Kd.R k28 28 W w.heap.size (fun _ => True) v r1 → Below w.heap.size w W →
      bodyPostM Fence.wide 1 Try.prog Try.f10 (fun e w' => ∃ v0_ : Value, e = .returned (.tuple #[v0_, .agg #[.int .i64 r2, .int .u64 r3, .string r4]]) ∧ Kd.R k28 28 w' w.heap.size (fun _ => True) v0_ r1 ∧ Below w.heap.size w w') .ret a W := by
    intro W a v r1 r2 r3 r4 D B hd h4 h5 hm hB hw g4 g5 hR hb
    have hc : Go.Proofs.YtmekjomfdomogaaLift.Calm B W (W.putObj D (.deferred none)) := .putObj hm rfl hB
    exact postM_mark hd hm (results_res (rs := [.cell 4 32, .cell 5 35]) (vs := [v, .agg #[.int .i64 r2, .int .u64 r3, .string r4]]) rfl (by simp) (.cell _ _ h4 (load_one (hc.block _ _ g4 (.inl rfl)) rfl Try.underlying32) (.cell _ _ h5 (run_loadVar_row _ _ _ _ _ _ _ (hc.block _ _ g5 (.inl rfl)) Try.underlying35 rfl (by kernel_rfl)) .nil))) ⟨v, rfl, calm_row hc hR, hc.below hb hw (Nat.le_refl _)⟩
  unfold sym_Read.f at h
  by_cases c0 : a0.size > 140737488351232
  · rw [if_pos c0] at h; cases h
  rw [if_neg c0] at h
  by_cases c1 : a0.size % 24 = 0
  · rw [if_pos c1] at h
    have c1b0 : (((a0.size : Int) % 24) == 0) = true := beq_iff_eq.mpr (by omega)
    have c1b1 : (((a0.size : Int) % 24) != 0) = false := bne_eq_false_iff_eq.mpr (by omega)
    by_cases c2 : a0.size / 24 > 256
    · rw [if_pos c2] at h
      have c2b0 : decide (256 < (wrap64 ((a0.size : Int) / 24))) = true := decide_eq_true (by rw [show wrap64 ((a0.size : Int) / 24) = (a0.size : Int) / 24 by unfold wrap64; omega]; omega)
      obtain ⟨⟨t1, t2, t3⟩, ht, h⟩ := Option.bind_eq_some_iff.mp h
      simp only [Option.some.injEq, Prod.mk.injEq] at h
      obtain ⟨rfl, rfl, rfl, rfl⟩ := h
      refine callsIn_wide.1 (callsIn_of_wp_marks (n := 1) Try.func10 rfl trivial (wpIn_wide.2 ?_))
      simp only [Try.ntmps10, List.size_toArray, List.length_cons, List.length_nil, Nat.reduceAdd, Nat.reduceSub, Array.replicate_succ, Array.replicate_zero, List.push_toArray, List.append_toArray, List.nil_append, List.cons_append]
      go_wp2_with (first | (go_at_call 18; go_must (refine (fail_Of.calls 6 t1 t2 t3 _ ht).mono ?_; rintro e w' ⟨rfl, hb⟩; have g4' := blk_below g4 hb; have g5' := blk_below g5 hb; have c40 := blk_cell g4' 0; have c50 := blk_cell g5' 0; have c51 := blk_cell g5' 1; have c52 := blk_cell g5' 2; have f40 := blk_frozen g4' 0; have f50 := blk_frozen g5' 0; have f51 := blk_frozen g5' 1; have f52 := blk_frozen g5' 2)))
      obtain ⟨s4, s5, sf, sb, _⟩ := stored13 (by omega) g4' g5' (.slice none 0 0) (.int .i64 t1) (.int .u64 t2) (.string t3)
      exact hend _ _ _ _ _ _ _ rfl rfl rfl s4 s5 (Kd.R_nil _ _ _ _ _) (sb _ _ (below_step hb0 hb) (by omega) (by omega))
    · rw [if_neg c2] at h
      have c2b0 : decide (256 < (wrap64 ((a0.size : Int) / 24))) = false := decide_eq_false (by rw [show wrap64 ((a0.size : Int) / 24) = (a0.size : Int) / 24 by unfold wrap64; omega]; omega)
      refine callsIn_wide.1 (callsIn_of_wp_marks (n := 1) Try.func10 rfl trivial (wpIn_wide.2 ?_))
      simp only [Try.ntmps10, List.size_toArray, List.length_cons, List.length_nil, Nat.reduceAdd, Nat.reduceSub, Array.replicate_succ, Array.replicate_zero, List.push_toArray, List.append_toArray, List.nil_append, List.cons_append]
      go_wp2_with (first | (go_at_call 19; go_must (refine (each_calls a0 24 _ (by omega)).mono ?_; rintro e w' ⟨lb, keep, rfl, hit, hkp, hb⟩)))
      have hN : eachN a0 24 = a0.size / 24 := rfl
      generalize hw4 : (((w.alloc (.cells #[.string a1] 9)).alloc (.cells #[.slice none 0 0] 32)).alloc (.cells #[.int .i64 0, .int .u64 0, .string ⟨#[]⟩] 35)).alloc (.cells #[.slice none 0 0] 32) = w4 at hb hkp hit ⊢
      have hs4 : w4.heap.size = w.heap.size + 1 + 1 + 1 + 1 := by rw [← hw4]; simp
      have g6 : w4.heap[w.heap.size + 1 + 1 + 1]? = some (.cells #[.slice none 0 0] 32 (0, 0)) := by
        rw [← hw4]
        have := blk_new (((w.alloc (.cells #[.string a1] 9)).alloc (.cells #[.slice none 0 0] 32)).alloc (.cells #[.int .i64 0, .int .u64 0, .string ⟨#[]⟩] 35)) (.cells #[.slice none 0 0] 32)
        simpa using this
      have g3' := blk_below (hw4 ▸ blk_alloc g3 _) hb
      have g4' := blk_below (hw4 ▸ blk_alloc g4 _) hb
      have g5' := blk_below (hw4 ▸ blk_alloc g5 _) hb
      have g6' := blk_below g6 hb
      have hbw : Below w.heap.size w w' := below_step (hw4 ▸ below_alloc hb0 _) hb
      clear hw4 g6 g3 g4 g5 hb0
      have hsz' : w.heap.size + 1 + 1 + 1 + 1 ≤ w'.heap.size := by have := hb.size; omega
      have hkp' : ∀ b, keep b → w.heap.size + 1 + 1 + 1 + 1 ≤ b ∧ b < w'.heap.size := fun b hb => by have := hkp b hb; omega
      clear hkp hb hs4
      refine wp_range (w0 := w') rfl (fun _ _ => rfl) hit (fun b hb => ⟨(hkp' b hb).2, rfl⟩) (fun _ => rfl)
        (fun i W => ∃ (xs : List S28) (v6 : Value), sym_Read.go k a0 a1 (a0.size / 24 - i) i xs = some (r1, r2, r3, r4) ∧ W.heap[w.heap.size]? = some (.cells #[.string a1] 9 (0, 0)) ∧ W.heap[w.heap.size + 1]? = some (.cells #[.slice none 0 0] 32 (0, 0)) ∧ W.heap[w.heap.size + 1 + 1]? = some (.cells #[.int .i64 0, .int .u64 0, .string ⟨#[]⟩] 35 (0, 0)) ∧ W.heap[w.heap.size + 1 + 1 + 1]? = some (.cells #[v6] 32 (0, 0)) ∧
          Kd.R k28 28 W w.heap.size (fun b => w.heap.size + 1 + 1 + 1 + 1 ≤ b ∧ ¬ keep b) v6 xs ∧ Below w.heap.size w W ∧ w'.heap.size ≤ W.heap.size ∧ xs.length = i)
        (fun i c W => c = .ret ∧ ∃ v, W.heap[w.heap.size + 1]? = some (.cells #[v] 32 (0, 0)) ∧ W.heap[w.heap.size + 1 + 1]? = some (.cells #[.int .i64 r2, .int .u64 r3, .string r4] 35 (0, 0)) ∧ Kd.R k28 28 W w.heap.size (fun _ => True) v r1 ∧ Below w.heap.size w W)
        ?hI ?hIx ?h0 ?hround ?hdone ?hstop
      case hI =>
        rintro i A A' hc ⟨xs, v6, h1, g3, g4, g5, g6, hR, hb, hs, hxl⟩
        exact ⟨xs, v6, h1, hc.block _ _ g3 (.inl rfl), hc.block _ _ g4 (.inl rfl), hc.block _ _ g5 (.inl rfl), hc.block _ _ g6 (.inl rfl), calm_row hc hR, hc.below hb (by omega) (by omega), Nat.le_trans hs hc.size, hxl⟩
      case hIx =>
        rintro i c A A' hc ⟨rfl, v, g4, g5, hR, hb⟩
        exact ⟨rfl, v, hc.block _ _ g4 (.inl rfl), hc.block _ _ g5 (.inl rfl), calm_row hc hR, hc.below hb (by omega) (by omega)⟩
      case h0 => exact ⟨[], _, by rw [Nat.sub_zero]; exact h, g3', g4', g5', g6', Kd.R_nil _ _ _ _ _, hbw, Nat.le_refl _, rfl⟩
      case hstop =>
        rintro D i c W hD hi ⟨rfl, v, g4, g5, hR, hb⟩ hm
        go_wp2
        exact hendD _ _ _ _ _ _ _ D w'.heap.size rfl rfl rfl hm hD (by omega) g4 g5 hR hb
      case hdone =>
        rintro D W hD ⟨xs, v6, h1, g3, g4, g5, g6, hR, hb, hs, hxl⟩ hm
        have hx : xs = r1 ∧ 0 = r2 ∧ 0 = r3 ∧ ⟨#[]⟩ = r4 := by
          rw [hN, Nat.sub_self] at h1
          simpa [sym_Read.go] using h1
        obtain ⟨rfl, rfl, rfl, rfl⟩ := hx
        clear hxl
        obtain ⟨A6, cc6, rfl⟩ := Kd.R_slice hR
        have c60 := blk_cell g6 0; have c40 := blk_cell g4 0; have c50 := blk_cell g5 0; have c51 := blk_cell g5 1; have c52 := blk_cell g5 2; have f40 := blk_frozen g4 0; have f50 := blk_frozen g5 0; have f51 := blk_frozen g5 1; have f52 := blk_frozen g5 2; have f60 := blk_frozen g6 0
        dsimp only
        go_wp2
        obtain ⟨s4, s5, sf, sb, _⟩ := stored13 (by omega) g4 g5 (.slice A6 xs.length cc6) (.int .i64 0) (.int .u64 0) (.string ⟨#[]⟩)
        refine hendD _ _ _ _ _ _ _ D w'.heap.size rfl rfl rfl ((sf _ (by omega) (by omega)).trans hm) hD (by omega) s4 s5 ?_ (sb _ _ hb (by omega) (by omega))
        exact Kd.R_mono (Kd.R_move hR (fun k hk => sf _ (by omega) (by omega))) (fun _ _ => trivial)
      case hround =>
        rintro l i W hl hlr hi ⟨xs, v6, h1, g3, g4, g5, g6, hR, hb, hs, hxl⟩ K hK
        rw [hN] at hi
        have hxa := Aside0.mk hxl
        have hxb : (xs.length + 1) * 64 ≤ 140737488355328 := by omega
        clear hxl
        clear hend hendD g3' g4' g5' g6' hit
        obtain ⟨p, hp, hps⟩ : ∃ p, eachPart a0 24 i = p ∧ p.size = 24 := by
          refine ⟨_, rfl, ?_⟩
          rw [eachPart, ByteArray.size_extract]
          omega
        rw [show eachEnc a0 24 i = #[.int .i64 i, .string p] from by rw [← hp]; rfl, params2]
        simp only [List.setIfInBounds_toArray, List.set_cons_zero, List.set_cons_succ]
        refine wpIn_seq (round_region (by rfl) (by repeat (first | exact NoOut.roundEnd | exact NoOut.false | apply NoOut.then | apply NoOut.inBlock)) ?_)
        go_wp2
        refine round_region (by rfl) (by repeat (first | exact NoOut.roundEnd | exact NoOut.false | apply NoOut.then | apply NoOut.inBlock)) ?_
        go_wp2
        refine hK _ _ (Below.refl _ _) (fun W2 hc => ?_)
        replace g3 := hc.block _ _ g3 (.inl rfl)
        replace g4 := hc.block _ _ g4 (.inl rfl)
        replace g5 := hc.block _ _ g5 (.inl rfl)
        replace g6 := hc.block _ _ g6 (.inl rfl)
        replace hR := calm_row hc hR
        replace hb := hc.below hb (by omega) (by omega)
        replace hs := Nat.le_trans hs hc.size
        clear hc hK hlr
        rw [show a0.size / 24 - i = (a0.size / 24 - (i + 1)) + 1 by omega] at h1
        unfold sym_Read.go at h1
        rw [hp] at h1
        obtain ⟨⟨q1, q2, q3, q4, q5, q6, q7, ew⟩, e4, h1⟩ := Option.bind_eq_some_iff.mp h1
        dsimp only at h1
        clear W hp h hps
        have c30 := blk_cell g3 0; have f30 := blk_frozen g3 0
        refine wpIn_block (wpIn_seq (round_region (by rfl) (by repeat (first | exact NoOut.roundEnd | exact NoOut.false | apply NoOut.then | apply NoOut.inBlock)) ?_))
        go_wp2_with (first | (go_at_call 20; go_must (with_reducible refine (sym_read.calls k p a1 q1 q2 q3 q4 q5 q6 q7 ew _ e4).mono ?_; rintro e w5 ⟨rfl, hb5⟩; have g9 := blk_new w5 (.cells #[.string ⟨#[]⟩, .int .i64 0, .int .i64 0, .int .i64 0, .bool false, .int .u64 0, .int .u64 0] 28); have c90 := blk_cell g9 0; have c91 := blk_cell g9 1; have c92 := blk_cell g9 2; have c93 := blk_cell g9 3; have c94 := blk_cell g9 4; have c95 := blk_cell g9 5; have c96 := blk_cell g9 6; have f90 := blk_frozen g9 0; have f91 := blk_frozen g9 1; have f92 := blk_frozen g9 2; have f93 := blk_frozen g9 3; have f94 := blk_frozen g9 4; have f95 := blk_frozen g9 5; have f96 := blk_frozen g9 6)))
        have g9' := blk_new w5 (.cells #[.string q1, .int .i64 q2, .int .i64 q3, .int .i64 q4, .bool q5, .int .u64 q6, .int .u64 q7] 28)
        have hb9 : Below w5.heap.size w5 (w5.alloc (.cells #[.string q1, .int .i64 q2, .int .i64 q3, .int .i64 q4, .bool q5, .int .u64 q6, .int .u64 q7] 28)) := below_alloc (Below.refl w5.heap.size w5) _
        generalize hW4 : w5.alloc (.cells #[.string q1, .int .i64 q2, .int .i64 q3, .int .i64 q4, .bool q5, .int .u64 q6, .int .u64 q7] 28) = W4 at g9' hb9 ⊢
        clear hW4 c90 c91 c92 c93 c94 c95 c96 f90 f91 f92 f93 f94 f95 f96 g9 c30 f30
        have hb6 := below_step hb5 hb9
        have hs9 := hb9.size
        have hs5' := hb5.size
        have hx9 : W2.heap.size ≤ w5.heap.size := hb5.size
        clear hb9 hb5
        replace g3 := blk_below g3 hb6
        replace g4 := blk_below g4 hb6
        replace g5 := blk_below g5 hb6
        replace g6 := blk_below g6 hb6
        replace hR := Kd.R_below hR hb6
        replace hb := below_step hb hb6
        have hkb : ∀ c, keep c → W4.heap[c]? = W2.heap[c]? := fun c hc => hb6.block c (by have := hkp' c hc; omega)
        have hL := Leaves.of_below (B := w'.heap.size) hb6
        have hs5 : W2.heap.size ≤ W4.heap.size := hb6.size
        clear hb6
        by_cases hew : ew = 0
        · rw [if_pos hew] at h1
          have ew0 : (ew != 0) = false := bne_eq_false_iff_eq.mpr hew
          refine wpIn_seq (wpIn_seq (round_region (by rfl) (by repeat (first | exact NoOut.roundEnd | exact NoOut.false | apply NoOut.then | apply NoOut.inBlock)) ?_))
          go_wp2
          refine wpIn_cond_false (by simp [go_sem, ew0]) (wpIn_skip ?_)
          go_wp2
          refine round_region (by rfl) (by repeat (first | exact NoOut.roundEnd | exact NoOut.false | apply NoOut.then | apply NoOut.inBlock)) ?_
          obtain ⟨A6, cc6, rfl⟩ := Kd.R_slice hR
          have c60 := blk_cell g6 0; have f60 := blk_frozen g6 0
          have c90 := blk_cell g9' 0; have c91 := blk_cell g9' 1; have c92 := blk_cell g9' 2; have c93 := blk_cell g9' 3; have c94 := blk_cell g9' 4; have c95 := blk_cell g9' 5; have c96 := blk_cell g9' 6; have f90 := blk_frozen g9' 0; have f91 := blk_frozen g9' 1; have f92 := blk_frozen g9' 2; have f93 := blk_frozen g9' 3; have f94 := blk_frozen g9' 4; have f95 := blk_frozen g9' 5; have f96 := blk_frozen g9' 6
          go_wp2_with (first | ((with_reducible refine gate_builtin (b := .append) (xs := #[.tmp 40, .tmp 42]) rfl ?_); at_builtin; go_must (refine Kd.R_append k28 (w0 := w) w.heap.size rfl (.tmp 40) (.tmp 42) 32 28 (.agg #[.string ⟨#[]⟩, .int .i64 0, .int .i64 0, .int .i64 0, .bool false, .int .u64 0, .int .u64 0]) 64 rfl Try.underlying32 info28 rfl (by decide) (by omega) (.slice A6 xs.length cc6) xs (⟨q1, q2, q3, q4, q5, q6, q7⟩ : S28) [.string q1, .int .i64 q2, .int .i64 q3, .int .i64 q4, .bool q5, .int .u64 q6, .int .u64 q7] (fun b => w.heap.size + 1 + 1 + 1 + 1 ≤ b ∧ ¬ keep b) (fun _ => False) rfl rfl ?aP (fun _ hk => hk.elim) ?aF hR hb ?aS ?aL ?_; (case aP => exact k28_mkM _ _ _ (⟨q1, q2, q3, q4, q5, q6, q7⟩ : S28)); (case aF => exact fun c hc => ⟨by omega, fun hk => by have := hkp' c hk; omega⟩); (case aS => omega); (case aL => exact hxb); intro v1 w6 hR1 hb1 hg1 _; obtain ⟨A7, cc7, rfl⟩ := Kd.R_slice hR1; have g6' := blk_grown g6 hg1 (Kd.R_away hR (fun c hc => by omega)); have c61 := blk_cell g6' 0; have f61 := blk_frozen g6' 0)))
          have hne : ∀ c, c < w.heap.size + 1 + 1 + 1 + 1 → some c ≠ (Value.slice A6 xs.length cc6).ownBlock := fun c hc => Kd.R_away hR (fun k hk => by omega)
          show _ ∧ _ ∧ _
          refine ⟨(hL.trans (Leaves.grown hg1 hg1.size (fun c hc => by obtain ⟨cs, hcs⟩ := Kd.R_typed hR c hc; exact ⟨_, _, _, hcs⟩))).trans (Leaves.setCell _ _ _), fun c hc => ?_, xs ++ [⟨q1, q2, q3, q4, q5, q6, q7⟩], .slice A7 (xs.length + 1) cc7, h1, blk_far (blk_grown g3 hg1 (hne _ (by omega))) (by simp <;> omega) _, blk_far (blk_grown g4 hg1 (hne _ (by omega))) (by simp <;> omega) _, blk_far (blk_grown g5 hg1 (hne _ (by omega))) (by simp <;> omega) _, blk_set g6' 0 _, ?_, ?_, ?_, by simp [hxa.out]⟩
          · have := hkp' c hc
            rw [Below.heap_setCell _ _ _ _ (by simp; omega)]
            exact (hg1.block c (by omega) (Kd.R_away hR (fun k hk e => hk.2 (e ▸ hc)))).trans (hkb c hc)
          · have := Kd.R_far hR1 (p := ⟨w.heap.size + 1 + 1 + 1, 0, none⟩) (fun k hk => by have := hk.1; simp; omega) (Value.slice A7 (xs.length + 1) cc7)
            simpa using this
          · exact hb1.setCell (by simp; omega) _
          · have h1 := hg1.size
            have h2 := (KeepsOthers.setCell w6 ⟨w.heap.size + 1 + 1 + 1, 0, none⟩ (Value.slice A7 (xs.length + 1) cc7)).size
            omega
        · rw [if_neg hew] at h1
          have ew0 : (ew != 0) = true := bne_iff_ne.mpr hew
          obtain ⟨⟨u1, u2, u3⟩, hat, h1⟩ := Option.bind_eq_some_iff.mp h1
          simp only [Option.some.injEq, Prod.mk.injEq] at h1
          obtain ⟨rfl, rfl, rfl, rfl⟩ := h1
          refine wpIn_seq (wpIn_seq (round_region (by rfl) (by repeat (first | exact NoOut.roundEnd | exact NoOut.false | apply NoOut.then | apply NoOut.inBlock)) ?_))
          go_wp2
          refine wpIn_cond_true (by simp [go_sem, ew0]) (wpIn_seq (round_region (by rfl) (by repeat (first | exact NoOut.roundEnd | exact NoOut.false | apply NoOut.then | apply NoOut.inBlock)) ?_))
          have hi1 : IntKind.u64.wrap (i : Int) = i := by rw [IntKind.wrap_u64]; omega
          have hi2 : IntKind.u64.wrap ((i : Int) * 24) = (i : Int) * 24 := by rw [IntKind.wrap_u64]; omega
          go_wp2_with (first | (go_at_call 21; go_must (with_reducible refine (fail_At.calls ew ((i : Int) * 24) u1 u2 u3 _ hat).mono ?_; rintro e w6 ⟨rfl, hb7⟩; have g4' := blk_below g4 hb7; have g5' := blk_below g5 hb7; have c40 := blk_cell g4' 0; have c50 := blk_cell g5' 0; have c51 := blk_cell g5' 1; have c52 := blk_cell g5' 2; have f40 := blk_frozen g4' 0; have f50 := blk_frozen g5' 0; have f51 := blk_frozen g5' 1; have f52 := blk_frozen g5' 2)))
          refine wpIn_ret ?_
          obtain ⟨s4, s5, sf, sb, ss⟩ := stored13 (by omega) g4' g5' (.slice none 0 0) (.int .i64 u1) (.int .u64 u2) (.string u3)
          have hl6 := hb7.size
          show _ ∧ _ ∧ _
          refine ⟨((((hL.trans (Leaves.of_below hb7)).trans (Leaves.setCell _ _ _)).trans (Leaves.setCell _ _ _)).trans (Leaves.setCell _ _ _)).trans (Leaves.setCell _ _ _), fun c hc => ?_, rfl, _, s4, s5, Kd.R_nil _ _ _ _ _, sb _ _ (below_step hb hb7) (by omega) (by omega)⟩
          have := hkp' c hc
          rw [sf c (by omega) (by omega)]
          exact (hb7.block c (by omega)).trans (hkb c hc)
  · rw [if_neg c1] at h
    have c1b0 : (((a0.size : Int) % 24) == 0) = false := beq_eq_false_iff_ne.mpr (by omega)
    have c1b1 : (((a0.size : Int) % 24) != 0) = true := bne_iff_ne.mpr (by omega)
    obtain ⟨⟨t1, t2, t3⟩, ht, h⟩ := Option.bind_eq_some_iff.mp h
    simp only [Option.some.injEq, Prod.mk.injEq] at h
    obtain ⟨rfl, rfl, rfl, rfl⟩ := h
    refine callsIn_wide.1 (callsIn_of_wp_marks (n := 1) Try.func10 rfl trivial (wpIn_wide.2 ?_))
    simp only [Try.ntmps10, List.size_toArray, List.length_cons, List.length_nil, Nat.reduceAdd, Nat.reduceSub, Array.replicate_succ, Array.replicate_zero, List.push_toArray, List.append_toArray, List.nil_append, List.cons_append]
    go_wp2_with (first | (go_at_call 18; go_must (refine (fail_Of.calls 4 t1 t2 t3 _ ht).mono ?_; rintro e w' ⟨rfl, hb⟩; have g4' := blk_below g4 hb; have g5' := blk_below g5 hb; have c40 := blk_cell g4' 0; have c50 := blk_cell g5' 0; have c51 := blk_cell g5' 1; have c52 := blk_cell g5' 2; have f40 := blk_frozen g4' 0; have f50 := blk_frozen g5' 0; have f51 := blk_frozen g5' 1; have f52 := blk_frozen g5' 2)))
    obtain ⟨s4, s5, sf, sb, _⟩ := stored13 (by omega) g4' g5' (.slice none 0 0) (.int .i64 t1) (.int .u64 t2) (.string t3)
    exact hend _ _ _ _ _ _ _ rfl rfl rfl s4 s5 (Kd.R_nil _ _ _ _ _) (sb _ _ (below_step hb0 hb) (by omega) (by omega))
end

end Go.Proofs.Ytmekjomfdomogaa.PRd
