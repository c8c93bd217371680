-- Written by a program of this session (a changed copy of the print of the kit). Not trusted: Lean checks it.
import Derived.Test.YtoaliamemkjfhaaPNdx0
import Derived.Test.YtoaliamemkjfhaaPNdx3
import Derived.Test.YtoaliamemkjfhaaPNdx5
import Derived.Test.YtoaliamemkjfhaaPNdx6
import Derived.Test.YtoaliamemkjfhaaPNdx8
import Derived.Test.YtoaliamemkjfhaaLift2
import Derived.Test.YtoaliamemkjfhaaLiftDraw
import Derived.Test.YtoaliamemkjfhaaLiftPost
import Derived.Outline
import Derived.Lib.Hide
import Derived.Deep.DeepMust
namespace Go.Proofs.Ytoaliamemkjfhaa.PNd
open Go.RowKit Go.Proofs.YtoaliamemkjfhaaW.PrintWords Go.Proofs.YtoaliamemkjfhaaW.PrintLast Go.Proofs.YtoaliamemkjfhaaW.PrintMore
attribute [local go_sem] max2_int min2_int max_two min_two max_three min_three max_four min_four   -- for this text's walks alone
set_option linter.unusedVariables false
set_option linter.unusedSimpArgs false

-- GIVENCHUNK
-- GIVEN rounds=1 making=1
-- DESCEND
-- NEEDS Derived.Test.YtoaliamemkjfhaaLift2
-- NEEDS Derived.Test.YtoaliamemkjfhaaLiftDraw
-- NEEDS Derived.Test.YtoaliamemkjfhaaLiftPost
-- NEEDS Derived.Outline
-- NEEDS Derived.Lib.Hide
-- NEEDS Derived.Deep.DeepMust
/-! ### vers_Needs: function 18 (given by hand) -/
section
open Go.Proofs.YtoaliamemkjfhaaLift Go.Shelf
attribute [local go_sem] Oper.semAt_some
-- over vers_Defs.mono's chainL
def vers_Needs.stop (e v : Int) : Option (List S50 × Bool × Int × Int × ByteArray) := (fail_At.f e v).bind fun q => some ([], true, q.1, q.2.1, q.2.2)
def vers_Needs.inner (k : Nat) (b names file : ByteArray) : List Int → List S50 → Option (List S50 × Bool × Int × Int × ByteArray)
  | [], xs => some (xs, false, 0, 0, ⟨#[]⟩)
  | v :: l, xs => (vers_number.f k b (IntKind.u64.wrap (v + 8)) 4).bind fun nn => (vers_text.f names nn).bind fun t => (vers_there.f b v 16).bind fun th =>
    if th = true then (if t.2 = true then (if xs.length = 64 then vers_Needs.stop 6 v else
      (vers_number.f k b (IntKind.u64.wrap (v + 6)) 2).bind fun n6 => (vers_number.f k b (IntKind.u64.wrap (v + 4)) 2).bind fun n4 => vers_Needs.inner k b names file l (xs ++ [⟨IntKind.i64.wrap (Go.bits .and .u64 n6 32767), file, t.1, Go.bits .and .u64 n4 2 != 0⟩]))
      else vers_Needs.stop 25 v) else vers_Needs.stop 2 v
def vers_Needs.go (k : Nat) (b names : ByteArray) : List Int → List S50 → Option (List S50 × Int × Int × ByteArray)
  | [], xs => some (xs, 0, 0, ⟨#[]⟩)
  | a :: l, xs => (vers_file.f k b names a).bind fun q => if q.2.2.2 = 0 then (if 0 ≤ q.2.2.1 ∧ q.2.2.1 ≤ 100000 then (chainL k b 12 q.2.2.1.toNat q.2.1).bind fun vs => (vers_Needs.inner k b names q.1 vs xs).bind fun u => if u.2.1 = true then some ([], u.2.2.1, u.2.2.2.1, u.2.2.2.2) else vers_Needs.go k b names l u.1 else none)
    else (fail_At.f q.2.2.2 a).bind fun t => some ([], t.1, t.2.1, t.2.2)
def vers_Needs.f (k : Nat) (a0 a1 : ByteArray) (a2 : Int) : Option (List S50 × Int × Int × ByteArray) :=
  if a2 < 0 then ((fail_Of.f 6).bind fun t => some ([], t.1, t.2.1, t.2.2)) else if a2 > 64 then ((fail_Of.f 6).bind fun t => some ([], t.1, t.2.1, t.2.2)) else (chainL k a0 12 a2.toNat 0).bind fun l => vers_Needs.go k a0 a1 l []
theorem vers_Needs.inner_mono (k : Nat) (b names file : ByteArray) : ∀ l xs, LeO (vers_Needs.inner k b names file l xs) (vers_Needs.inner (k + 1) b names file l xs)
  | [], _ => LeO.refl _
  | v :: l, xs => by
    unfold vers_Needs.inner
    refine LeO.bind (vers_number.mono _ _ _ k) fun nn => LeO.bind (LeO.refl _) fun t => LeO.bind (LeO.refl _) fun th => ?_
    split
    · split
      · split
        · exact LeO.refl _
        · exact LeO.bind (vers_number.mono _ _ _ k) fun n6 => LeO.bind (vers_number.mono _ _ _ k) fun n4 => vers_Needs.inner_mono k b names file l _
      · exact LeO.refl _
    · exact LeO.refl _
theorem vers_Needs.go_mono (k : Nat) (b names : ByteArray) : ∀ l xs, LeO (vers_Needs.go k b names l xs) (vers_Needs.go (k + 1) b names l xs)
  | [], _ => LeO.refl _
  | a :: l, xs => by
    unfold vers_Needs.go
    refine LeO.bind (vers_file.mono _ _ _ k) fun q => ?_
    split
    · split
      · refine LeO.bind (chainL_mono k b 12 _ _) fun vs => LeO.bind (vers_Needs.inner_mono k b names _ vs xs) fun u => ?_
        split
        · exact LeO.refl _
        · exact vers_Needs.go_mono k b names l _
      · exact LeO.refl _
    · exact LeO.refl _
theorem vers_Needs.mono : ∀ a0 a1 a2 k, LeO (vers_Needs.f k a0 a1 a2) (vers_Needs.f (k + 1) a0 a1 a2) := by
  intro a0 a1 a2 k
  unfold vers_Needs.f
  split
  · exact LeO.refl _
  split
  · exact LeO.refl _
  · intro r h
    obtain ⟨l, h1, h2⟩ := Option.bind_eq_some_iff.mp h
    exact Option.bind_eq_some_iff.2 ⟨l, chainL_mono k a0 12 _ _ _ h1, vers_Needs.go_mono k a0 a1 l [] _ h2⟩
theorem calm_leaves {B B' : Nat} {W A A' : World} (hc : Go.Proofs.YtoaliamemkjfhaaLift.Calm B' A A') (hL : Go.Proofs.YtoaliamemkjfhaaLift.Leaves B W A) (hs : W.heap.size ≤ B') : Go.Proofs.YtoaliamemkjfhaaLift.Leaves B W A' :=
  ⟨Nat.le_trans hL.1 hc.size, fun k o hB ho hn => hc.block k o (hL.2 k o hB ho hn) (.inr (by have := (Array.getElem?_eq_some_iff.1 ho).1; omega))⟩
theorem four_leaves (B : Nat) (W : World) (p1 p2 p3 p4 : Addr) (v1 v2 v3 v4 : Value) : Go.Proofs.YtoaliamemkjfhaaLift.Leaves B W ((((W.setCell p1 v1).setCell p2 v2).setCell p3 v3).setCell p4 v4) :=
  (((Leaves.setCell _ _ _).trans (Leaves.setCell _ _ _)).trans (Leaves.setCell _ _ _)).trans (Leaves.setCell _ _ _)
theorem calm_same {B : Nat} {A A' : World} (hc : Go.Proofs.YtoaliamemkjfhaaLift.Calm B A A') {k : Nat} (h : k < B) (hl : k < A.heap.size) : A'.heap[k]? = A.heap[k]? := by
  rw [Array.getElem?_eq_getElem hl]
  exact hc.block k _ (Array.getElem?_eq_getElem hl) (.inr h)
set_option maxHeartbeats 4000000 in
set_option maxRecDepth 100000 in
theorem vers_Needs.calls (k : Nat) (a0 a1 : ByteArray) (a2 : Int) (r1 : List S50) (r2 r3 : Int) (r4 : ByteArray) (w : World) (h : vers_Needs.f k a0 a1 a2 = some (r1, r2, r3, r4)) :
    Calls Try.prog 18 #[.string a0, .string a1, .int .i64 a2] w (fun e w' => ∃ v0_ : Value, e = .returned (.tuple #[v0_, .agg #[.int .i64 r2, .int .u64 r3, .string r4]]) ∧ Kd.R k50 50 w' w.heap.size (fun _ => True) v0_ r1 ∧ Below w.heap.size w w') := by
  have hu38 := Try.underlying50
  have hu32 := Try.underlying30
  obtain ⟨g3, g4, g6, g7, hb0⟩ := alloc4 w (.cells #[.string a0] 9) (.cells #[.string a1] 9) (.cells #[.slice none 0 0] 45) (.cells #[.int .i64 0, .int .u64 0, .string ⟨#[]⟩] 30)
  have hend : ∀ (W : World) (a : Act) (v : Value) (r1 : List S50) (r2 r3 : Int) (r4 : ByteArray), a.defers = [] → a.tmps.getD 6 undef = .pointer (some ⟨w.heap.size + 1 + 1, 0, none⟩) → a.tmps.getD 7 undef = .pointer (some ⟨w.heap.size + 1 + 1 + 1, 0, none⟩) →
      W.heap[w.heap.size + 1 + 1]? = some (.cells #[v] 45 (0, 0)) → W.heap[w.heap.size + 1 + 1 + 1]? = some (.cells #[.int .i64 r2, .int .u64 r3, .string r4] 30 (0, 0)) →
      Kd.R k50 50 W w.heap.size (fun _ => True) v r1 → Below w.heap.size w W →
      bodyPostM Fence.wide 1 Try.prog Try.f18 (fun e w' => ∃ v0_ : Value, e = .returned (.tuple #[v0_, .agg #[.int .i64 r2, .int .u64 r3, .string r4]]) ∧ Kd.R k50 50 w' w.heap.size (fun _ => True) v0_ r1 ∧ Below w.heap.size w w') .ret a W := by
    intro W a v r1 r2 r3 r4 hd h6 h7 g6 g7 hR hb
    refine postM_ret (results_res (rs := [.cell 6 45, .cell 7 30]) (vs := [v, .agg #[.int .i64 r2, .int .u64 r3, .string r4]]) rfl (by simp) (.cell _ _ h6 (load_one g6 rfl Try.underlying45) (.cell _ _ h7 (run_loadVar_row W _ _ _ _ _ _ g7 Try.underlying30 rfl (by kernel_rfl)) .nil))) hd ⟨v, rfl, hR, hb⟩
  have hendD : ∀ (W : World) (a : Act) (v : Value) (r1 : List S50) (r2 r3 : Int) (r4 : ByteArray) (D B : Nat), a.defers = [{ target := .collected D, args := #[] }] → a.tmps.getD 6 undef = .pointer (some ⟨w.heap.size + 1 + 1, 0, none⟩) → a.tmps.getD 7 undef = .pointer (some ⟨w.heap.size + 1 + 1 + 1, 0, none⟩) →
      W.heap[D]? = some (.deferred (some [])) → B ≤ D → w.heap.size ≤ B →
      W.heap[w.heap.size + 1 + 1]? = some (.cells #[v] 45 (0, 0)) → W.heap[w.heap.size + 1 + 1 + 1]? = some (.cells #[.int .i64 r2, .int .u64 r3, .string r4] 30 (0, 0)) →
      Kd.R k50 50 W w.heap.size (fun _ => True) v r1 → Below w.heap.size w W →
      bodyPostM Fence.wide 1 Try.prog Try.f18 (fun e w' => ∃ v0_ : Value, e = .returned (.tuple #[v0_, .agg #[.int .i64 r2, .int .u64 r3, .string r4]]) ∧ Kd.R k50 50 w' w.heap.size (fun _ => True) v0_ r1 ∧ Below w.heap.size w w') .ret a W := by
    intro W a v r1 r2 r3 r4 D B hd h6 h7 hm hB hw g6 g7 hR hb
    have hc : Go.Proofs.YtoaliamemkjfhaaLift.Calm B W (W.putObj D (.deferred none)) := .putObj hm rfl hB
    exact postM_mark hd hm (results_res (rs := [.cell 6 45, .cell 7 30]) (vs := [v, .agg #[.int .i64 r2, .int .u64 r3, .string r4]]) rfl (by simp) (.cell _ _ h6 (load_one (hc.block _ _ g6 (.inl rfl)) rfl Try.underlying45) (.cell _ _ h7 (run_loadVar_row _ _ _ _ _ _ _ (hc.block _ _ g7 (.inl rfl)) Try.underlying30 rfl (by kernel_rfl)) .nil))) ⟨v, rfl, calm_row hc hR, hc.below hb hw (Nat.le_refl _)⟩
  have hend6 : ∀ W, Below w.heap.size (((((w.alloc (.cells #[.string a0] 9)).alloc (.cells #[.string a1] 9)).alloc (.cells #[.slice none 0 0] 45)).alloc (.cells #[.int .i64 0, .int .u64 0, .string ⟨#[]⟩] 30))) W → True := fun _ _ => trivial
  clear hend6
  unfold vers_Needs.f at h
  by_cases c0 : a2 < 0
  · rw [if_pos c0] at h
    have c0b := decide_eq_true c0
    obtain ⟨⟨t1, t2, t3⟩, ht, h1⟩ := Option.bind_eq_some_iff.mp h
    clear h
    simp only [Option.some.injEq, Prod.mk.injEq] at h1
    obtain ⟨rfl, rfl, rfl, rfl⟩ := h1
    refine callsIn_wide.1 (callsIn_of_wp_marks (n := 1) Try.func18 rfl trivial (wpIn_wide.2 ?_))
    simp only [Try.ntmps18, List.size_toArray, List.length_cons, List.length_nil, Nat.reduceAdd, Nat.reduceSub, Array.replicate_succ, Array.replicate_zero, List.push_toArray, List.append_toArray, List.nil_append, List.cons_append]
    go_wp2_with (first | (go_at_call 20; go_must (refine (fail_Of.calls 6 t1 t2 t3 _ ht).mono ?_; rintro e w' ⟨rfl, hb⟩; have g6' := blk_below g6 hb; have g7' := blk_below g7 hb; have c60 := blk_cell g6' 0; have c70 := blk_cell g7' 0; have c71 := blk_cell g7' 1; have c72 := blk_cell g7' 2; have f60 := blk_frozen g6' 0; have f70 := blk_frozen g7' 0; have f71 := blk_frozen g7' 1; have f72 := blk_frozen g7' 2)))
    obtain ⟨s6, s7, sf, sb, _⟩ := stored13 (by omega) g6' g7' (.slice none 0 0) (.int .i64 t1) (.int .u64 t2) (.string t3)
    exact hend _ _ _ _ _ _ _ rfl rfl rfl s6 s7 (Kd.R_nil _ _ _ _ _) (sb _ _ (below_step hb0 hb) (by omega) (by omega))
  rw [if_neg c0] at h
  have c0b := decide_eq_false c0
  by_cases c1 : a2 > 64
  · rw [if_pos c1] at h
    have c1b : decide (64 < a2) = true := decide_eq_true c1
    obtain ⟨⟨t1, t2, t3⟩, ht, h1⟩ := Option.bind_eq_some_iff.mp h
    clear h
    simp only [Option.some.injEq, Prod.mk.injEq] at h1
    obtain ⟨rfl, rfl, rfl, rfl⟩ := h1
    refine callsIn_wide.1 (callsIn_of_wp_marks (n := 1) Try.func18 rfl trivial (wpIn_wide.2 ?_))
    simp only [Try.ntmps18, List.size_toArray, List.length_cons, List.length_nil, Nat.reduceAdd, Nat.reduceSub, Array.replicate_succ, Array.replicate_zero, List.push_toArray, List.append_toArray, List.nil_append, List.cons_append]
    go_wp2_with (first | (go_at_call 20; go_must (refine (fail_Of.calls 6 t1 t2 t3 _ ht).mono ?_; rintro e w' ⟨rfl, hb⟩; have g6' := blk_below g6 hb; have g7' := blk_below g7 hb; have c60 := blk_cell g6' 0; have c70 := blk_cell g7' 0; have c71 := blk_cell g7' 1; have c72 := blk_cell g7' 2; have f60 := blk_frozen g6' 0; have f70 := blk_frozen g7' 0; have f71 := blk_frozen g7' 1; have f72 := blk_frozen g7' 2)))
    obtain ⟨s6, s7, sf, sb, _⟩ := stored13 (by omega) g6' g7' (.slice none 0 0) (.int .i64 t1) (.int .u64 t2) (.string t3)
    exact hend _ _ _ _ _ _ _ rfl rfl rfl s6 s7 (Kd.R_nil _ _ _ _ _) (sb _ _ (below_step hb0 hb) (by omega) (by omega))
  rw [if_neg c1] at h
  have c1b : decide (64 < a2) = false := decide_eq_false c1
  obtain ⟨n, rfl⟩ := Int.eq_ofNat_of_zero_le (show 0 ≤ a2 by omega)
  rw [Int.toNat_natCast] at h
  obtain ⟨l, hl, hgo⟩ := Option.bind_eq_some_iff.mp h
  clear h
  have hn64 : n ≤ 64 := by omega
  obtain ⟨hlen, _, _⟩ := chainL_at k a0 12 n 0 l hl
  replace hl := Aside0.mk hl
  replace hgo := Aside0.mk hgo
  refine callsIn_wide.1 (callsIn_of_wp_marks (n := 1) Try.func18 rfl trivial (wpIn_wide.2 ?_))
  simp only [Try.ntmps18, List.size_toArray, List.length_cons, List.length_nil, Nat.reduceAdd, Nat.reduceSub, Array.replicate_succ, Array.replicate_zero, List.push_toArray, List.append_toArray, List.nil_append, List.cons_append]
  go_wp2_with (first | (go_at_call 21; go_must (refine (chain_calls k a0 12 0 n l _ (by omega) hl.out).mono ?_; rintro e w' ⟨lb, keep, own, rfl, hit, hkp, hok, hb⟩)))
  generalize hw4 : ((((w.alloc (.cells #[.string a0] 9)).alloc (.cells #[.string a1] 9)).alloc (.cells #[.slice none 0 0] 45)).alloc (.cells #[.int .i64 0, .int .u64 0, .string ⟨#[]⟩] 30)).alloc (.cells #[.slice none 0 0] 45) = w4 at hb hkp hit ⊢
  have hs4 : w4.heap.size = w.heap.size + 1 + 1 + 1 + 1 + 1 := by rw [← hw4]; simp
  have g8 : w4.heap[w.heap.size + 1 + 1 + 1 + 1]? = some (.cells #[.slice none 0 0] 45 (0, 0)) := by
    rw [← hw4]
    have := blk_new ((((w.alloc (.cells #[.string a0] 9)).alloc (.cells #[.string a1] 9)).alloc (.cells #[.slice none 0 0] 45)).alloc (.cells #[.int .i64 0, .int .u64 0, .string ⟨#[]⟩] 30)) (.cells #[.slice none 0 0] 45)
    simpa using this
  have g3' := blk_below (hw4 ▸ blk_alloc g3 _) hb
  have g4' := blk_below (hw4 ▸ blk_alloc g4 _) hb
  have g6' := blk_below (hw4 ▸ blk_alloc g6 _) hb
  have g7' := blk_below (hw4 ▸ blk_alloc g7 _) hb
  have g8' := blk_below g8 hb
  have hbw : Below w.heap.size w w' := below_step (hw4 ▸ below_alloc hb0 _) hb
  clear hw4 g8 g3 g4 g6 g7 hb0
  have hsz' : w.heap.size + 1 + 1 + 1 + 1 + 1 ≤ w'.heap.size := by have := hb.size; omega
  have hkp' : ∀ b, keep b → w.heap.size + 1 + 1 + 1 + 1 + 1 ≤ b ∧ b < w'.heap.size := fun b hb => by have := hkp b hb; omega
  clear hkp hb hs4
  refine wp_range2 (w0 := w') rfl (fun _ _ => rfl) hit (fun b hb => ⟨(hkp' b hb).2, rfl⟩) (fun _ => rfl)
    (fun i W => ∃ (xs : List S50) (v8 : Value), vers_Needs.go k a0 a1 (l.drop i) xs = some (r1, r2, r3, r4) ∧ W.heap[w.heap.size]? = some (.cells #[.string a0] 9 (0, 0)) ∧ W.heap[w.heap.size + 1]? = some (.cells #[.string a1] 9 (0, 0)) ∧ W.heap[w.heap.size + 1 + 1]? = some (.cells #[.slice none 0 0] 45 (0, 0)) ∧ W.heap[w.heap.size + 1 + 1 + 1]? = some (.cells #[.int .i64 0, .int .u64 0, .string ⟨#[]⟩] 30 (0, 0)) ∧ W.heap[w.heap.size + 1 + 1 + 1 + 1]? = some (.cells #[v8] 45 (0, 0)) ∧
      Kd.R k50 50 W w.heap.size (fun b => w.heap.size + 1 + 1 + 1 + 1 + 1 ≤ b ∧ ¬ keep b) v8 xs ∧ Below w.heap.size w W ∧ w'.heap.size ≤ W.heap.size ∧ xs.length ≤ 64)
    (fun i c W => c = .ret ∧ ∃ v, W.heap[w.heap.size + 1 + 1]? = some (.cells #[v] 45 (0, 0)) ∧ W.heap[w.heap.size + 1 + 1 + 1]? = some (.cells #[.int .i64 r2, .int .u64 r3, .string r4] 30 (0, 0)) ∧ Kd.R k50 50 W w.heap.size (fun _ => True) v r1 ∧ Below w.heap.size w W)
    ?hI ?hIx ?hIo ?h0 ?hround ?hdone ?hstop
  case hI =>
    rintro i A A' hc ⟨xs, v8, h1, g3, g4, g6, g7, g8, hR, hb, hs, hxl⟩
    exact ⟨xs, v8, h1, hc.block _ _ g3 (.inl rfl), hc.block _ _ g4 (.inl rfl), hc.block _ _ g6 (.inl rfl), hc.block _ _ g7 (.inl rfl), hc.block _ _ g8 (.inl rfl), calm_row hc hR, hc.below hb (by omega) (by omega), Nat.le_trans hs hc.size, hxl⟩
  case hIx =>
    rintro i c A A' hc ⟨rfl, v, g6, g7, hR, hb⟩
    exact ⟨rfl, v, hc.block _ _ g6 (.inl rfl), hc.block _ _ g7 (.inl rfl), calm_row hc hR, hc.below hb (by omega) (by omega)⟩
  case hIo =>
    rintro i A b v hob ⟨xs, v8, h1, g3, g4, g6, g7, g8, hR, hb, hs, hxl⟩
    have hkb := hkp' b (hok b hob)
    refine ⟨xs, v8, h1, blk_far g3 (by simp; omega) _, blk_far g4 (by simp; omega) _, blk_far g6 (by simp; omega) _, blk_far g7 (by simp; omega) _, blk_far g8 (by simp; omega) _, Kd.R_far hR (fun c hc => ?_) _, hb.setCell (by simp; omega) _, ?_, hxl⟩
    · rintro rfl
      exact hc.2 (hok _ hob)
    · have h2 := (KeepsOthers.setCell A ⟨b, 0, none⟩ v).size
      omega
  case h0 => exact ⟨[], _, hgo.out, g3', g4', g6', g7', g8', Kd.R_nil _ _ _ _ _, hbw, Nat.le_refl _, Nat.zero_le _⟩
  case hstop =>
    rintro D i c W hD hi ⟨rfl, v, g6, g7, hR, hb⟩ hm
    go_wp2
    exact hendD _ _ _ _ _ _ _ D w'.heap.size rfl rfl rfl hm hD (by omega) g6 g7 hR hb
  case hdone =>
    rintro D W hD ⟨xs, v8, h1, g3, g4, g6, g7, g8, hR, hb, hs, hxl⟩ hm
    have hx : xs = r1 ∧ 0 = r2 ∧ 0 = r3 ∧ ⟨#[]⟩ = r4 := by
      rw [List.drop_of_length_le (by omega)] at h1
      simpa [vers_Needs.go] using h1
    obtain ⟨rfl, rfl, rfl, rfl⟩ := hx
    clear hxl h1
    obtain ⟨A8, cc8, rfl⟩ := Kd.R_slice hR
    have c80 := blk_cell g8 0; have c60 := blk_cell g6 0; have c70 := blk_cell g7 0; have c71 := blk_cell g7 1; have c72 := blk_cell g7 2; have f60 := blk_frozen g6 0; have f70 := blk_frozen g7 0; have f71 := blk_frozen g7 1; have f72 := blk_frozen g7 2; have f80 := blk_frozen g8 0
    dsimp only
    go_wp2
    obtain ⟨s6, s7, sf, sb, _⟩ := stored13 (by omega) g6 g7 (.slice A8 xs.length cc8) (.int .i64 0) (.int .u64 0) (.string ⟨#[]⟩)
    refine hendD _ _ _ _ _ _ _ D w'.heap.size rfl rfl rfl ((sf _ (by omega) (by omega)).trans hm) hD (by omega) s6 s7 ?_ (sb _ _ hb (by omega) (by omega))
    exact Kd.R_mono (Kd.R_move hR (fun k hk => sf _ (by omega) (by omega))) (fun _ _ => trivial)
  case hround =>
    rintro lp i W hl' hlr hi ⟨xs, v8, h1, g3, g4, g6, g7, g8, hR, hb, hs, hxl⟩ K hK
    have hil : i < l.length := by omega
    rw [List.drop_eq_getElem_cons hil] at h1
    have hg : l.getD i 0 = l[i] := by simp [List.getD, hil]
    clear hend hendD g3' g4' g6' g7' g8' hit hgo hl
    rw [params1, hg]
    generalize l[i] = p at h1 ⊢
    clear hg
    simp only [List.setIfInBounds_toArray, List.set_cons_zero, List.set_cons_succ]
    refine round_region (by rfl) (by repeat (first | exact NoOut.roundEnd | exact NoOut.false | apply NoOut.then | apply NoOut.inBlock)) ?_
    go_wp2
    refine hK _ _ (Below.refl _ _) (fun W2 hc hl2 => ?_)
    replace g3 := hc.block _ _ g3 (.inl rfl)
    replace g4 := hc.block _ _ g4 (.inl rfl)
    replace g6 := hc.block _ _ g6 (.inl rfl)
    replace g7 := hc.block _ _ g7 (.inl rfl)
    replace g8 := hc.block _ _ g8 (.inl rfl)
    replace hR := calm_row hc hR
    replace hb := hc.below hb (by omega) (by omega)
    replace hs := Nat.le_trans hs hc.size
    clear hc hK hlr
    unfold vers_Needs.go at h1
    obtain ⟨⟨q1, q2, q3, ew⟩, e4, h2⟩ := Option.bind_eq_some_iff.mp h1
    clear h1
    dsimp only at h2
    clear W
    have c30 := blk_cell g3 0; have f30 := blk_frozen g3 0; have c40 := blk_cell g4 0; have f40 := blk_frozen g4 0
    refine wpIn_block (wpIn_seq (round_region (by rfl) (by repeat (first | exact NoOut.roundEnd | exact NoOut.false | apply NoOut.then | apply NoOut.inBlock)) ?_))
    go_wp2_with (first | (go_at_call 34; go_must (with_reducible refine (vers_file.calls k a0 a1 p q1 q2 q3 ew _ e4).mono ?_; rintro e w5 ⟨rfl, hd5⟩; have hb5 := hd5.below; have g9 := blk_new w5 (.cells #[.string ⟨#[]⟩] 9); have c90 := blk_cell g9 0; have f90 := blk_frozen g9 0)))
    have g9' := blk_new w5 (.cells #[.string q1] 9)
    have hb9 : Below w5.heap.size w5 (w5.alloc (.cells #[.string q1] 9)) := below_alloc (Below.refl w5.heap.size w5) _
    have hz9 : (w5.alloc (.cells #[.string q1] 9)).heap.size = w5.heap.size + 1 := World.size_alloc _ _
    generalize hW4 : w5.alloc (.cells #[.string q1] 9) = W4 at g9' hb9 hz9 ⊢
    clear hW4 c90 f90 g9 c30 f30 c40 f40 hd5
    have hx9 : W2.heap.size ≤ w5.heap.size := hb5.size
    have hb6 := below_step hb5 hb9
    clear hb9 hb5
    have hR2 := Kd.R_mono (Kd.R_bound hR) (ok' := fun b => (w.heap.size + 1 + 1 + 1 + 1 + 1 ≤ b ∧ ¬ keep b) ∧ b < W2.heap.size) (fun b h => ⟨h.1, h.2.2.1⟩)
    replace g3 := blk_below g3 hb6
    replace g4 := blk_below g4 hb6
    replace g6 := blk_below g6 hb6
    replace g7 := blk_below g7 hb6
    replace g8 := blk_below g8 hb6
    replace hR := Kd.R_below hR2 hb6
    replace hb := below_step hb hb6
    have hkb : ∀ c, keep c → W4.heap[c]? = W2.heap[c]? := fun c hc => hb6.block c (by have := hkp' c hc; omega)
    have hL := Leaves.of_below (B := w'.heap.size) hb6
    have hs5 : W2.heap.size ≤ W4.heap.size := hb6.size
    obtain ⟨rl, hrl⟩ := hl2
    replace hrl := blk_below hrl hb6
    clear hb6 hR2
    by_cases hew : ew = 0
    · rw [if_pos hew] at h2
      have ew0 : (ew != 0) = false := bne_eq_false_iff_eq.mpr hew
      by_cases hq3 : 0 ≤ q3 ∧ q3 ≤ 100000
      rotate_left
      · rw [if_neg hq3] at h2; cases h2
      rw [if_pos hq3] at h2
      obtain ⟨m, rfl⟩ := Int.eq_ofNat_of_zero_le hq3.1
      rw [Int.toNat_natCast] at h2
      obtain ⟨vs, hvs, h3⟩ := Option.bind_eq_some_iff.mp h2
      obtain ⟨⟨ux, us, u1, u2, u3⟩, hin, h4⟩ := Option.bind_eq_some_iff.mp h3
      clear h2 h3
      dsimp only at h4
      refine wpIn_seq (wpIn_seq (round_region (by rfl) (by repeat (first | exact NoOut.roundEnd | exact NoOut.false | apply NoOut.then | apply NoOut.inBlock)) ?_))
      go_wp2
      refine wpIn_cond_false (by simp [go_sem, ew0]) (wpIn_skip ?_)
      go_wp2
      have c30 := blk_cell g3 0; have f30 := blk_frozen g3 0
      refine wpIn_seq (round_region (by rfl) (by repeat (first | exact NoOut.roundEnd | exact NoOut.false | apply NoOut.then | apply NoOut.inBlock)) ?_)
      go_wp2_with (first | (go_at_call 21; go_must (refine (chain_calls k a0 12 q2 m vs _ (by omega) hvs).mono ?_; rintro e w6 ⟨lb2, keep2, own2, rfl, hit2, hkp2, hok2, hb6⟩)))
      obtain ⟨hlen2, _, _⟩ := chainL_at k a0 12 m q2 vs hvs
      have h64 := hs5
      replace g3 := blk_below g3 hb6
      replace g4 := blk_below g4 hb6
      replace g6 := blk_below g6 hb6
      replace g7 := blk_below g7 hb6
      replace g8 := blk_below g8 hb6
      replace g9' := blk_below g9' hb6
      replace hrl := blk_below hrl hb6
      replace hR := Kd.R_below hR hb6
      replace hb := below_step hb hb6
      replace hkb : ∀ c, keep c → w6.heap[c]? = W2.heap[c]? := fun c hc => (hb6.block c (by have := hkp' c hc; omega)).trans (hkb c hc)
      replace hL := hL.trans (Leaves.of_below hb6)
      have hs6 := hb6.size
      clear hb6 hvs c30 f30
      refine wpIn_block (wp_range2_in (w0 := w6) hrl rfl (fun _ _ => rfl) hit2 (fun b hb => ⟨(hkp2 b hb).2, rfl⟩) (fun _ => rfl)
        (fun i W => ∃ (xs : List S50) (v8 : Value), vers_Needs.inner k a0 a1 q1 (vs.drop i) xs = some (ux, us, u1, u2, u3) ∧ W.heap[w.heap.size]? = some (.cells #[.string a0] 9 (0, 0)) ∧ W.heap[w.heap.size + 1]? = some (.cells #[.string a1] 9 (0, 0)) ∧ W.heap[w.heap.size + 1 + 1]? = some (.cells #[.slice none 0 0] 45 (0, 0)) ∧ W.heap[w.heap.size + 1 + 1 + 1]? = some (.cells #[.int .i64 0, .int .u64 0, .string ⟨#[]⟩] 30 (0, 0)) ∧ W.heap[w.heap.size + 1 + 1 + 1 + 1]? = some (.cells #[v8] 45 (0, 0)) ∧ W.heap[w5.heap.size]? = some (.cells #[.string q1] 9 (0, 0)) ∧
          Kd.R k50 50 W w.heap.size (fun b => w.heap.size + 1 + 1 + 1 + 1 + 1 ≤ b ∧ ¬ keep b ∧ ¬ keep2 b ∧ b ≠ w5.heap.size) v8 xs ∧ Below w.heap.size w W ∧ w6.heap.size ≤ W.heap.size ∧ xs.length ≤ 64 ∧ Go.Proofs.YtoaliamemkjfhaaLift.Leaves w'.heap.size W2 W ∧ ∀ c, keep c → W.heap[c]? = W2.heap[c]?)
        (fun i c W => c = .ret ∧ us = true ∧ W.heap[w.heap.size + 1 + 1]? = some (.cells #[.slice none 0 0] 45 (0, 0)) ∧ W.heap[w.heap.size + 1 + 1 + 1]? = some (.cells #[.int .i64 u1, .int .u64 u2, .string u3] 30 (0, 0)) ∧ Below w.heap.size w W ∧ w6.heap.size ≤ W.heap.size ∧ Go.Proofs.YtoaliamemkjfhaaLift.Leaves w'.heap.size W2 W ∧ ∀ c, keep c → W.heap[c]? = W2.heap[c]?)
        ?iI ?iIx ?iIo ?i0 ?iround ?idone ?istop rfl)
      case iI =>
        rintro i A A' hc ⟨xs, v8, h1, g3, g4, g6, g7, g8, g9, hR, hb, hs, hxl, hL, hkb⟩
        exact ⟨xs, v8, h1, hc.block _ _ g3 (.inl rfl), hc.block _ _ g4 (.inl rfl), hc.block _ _ g6 (.inl rfl), hc.block _ _ g7 (.inl rfl), hc.block _ _ g8 (.inl rfl), hc.block _ _ g9 (.inl rfl), calm_row hc hR, hc.below hb (by omega) (by omega), Nat.le_trans hs hc.size, hxl, calm_leaves hc hL (by omega), fun c hk => (calm_same hc (by have := hkp' c hk; omega) (by have := hkp' c hk; omega)).trans (hkb c hk)⟩
      case iIx =>
        rintro i c A A' hc ⟨rfl, hu, g6, g7, hb, hs, hL, hkb⟩
        exact ⟨rfl, hu, hc.block _ _ g6 (.inl rfl), hc.block _ _ g7 (.inl rfl), hc.below hb (by omega) (by omega), Nat.le_trans hs hc.size, calm_leaves hc hL (by omega), fun c hk => (calm_same hc (by have := hkp' c hk; omega) (by have := hkp' c hk; omega)).trans (hkb c hk)⟩
      case iIo =>
        rintro i A b v hob ⟨xs, v8, h1, g3, g4, g6, g7, g8, g9, hR, hb, hs, hxl, hL, hkb⟩
        have hkb2 := hkp2 b (hok2 b hob)
        refine ⟨xs, v8, h1, blk_far g3 (by simp; omega) _, blk_far g4 (by simp; omega) _, blk_far g6 (by simp; omega) _, blk_far g7 (by simp; omega) _, blk_far g8 (by simp; omega) _, blk_far g9 (by simp; omega) _, Kd.R_far hR (fun c hc => ?_) _, hb.setCell (by simp; omega) _, ?_, hxl, hL.trans (Leaves.setCell _ _ _), fun c hk => ?_⟩
        · rintro rfl
          exact hc.2.2.1 (hok2 _ hob)
        · have h2 := (KeepsOthers.setCell A ⟨b, 0, none⟩ v).size
          omega
        · rw [Below.heap_setCell _ _ _ _ (by have := hkp' c hk; simp; omega)]
          exact hkb c hk
      case i0 => exact ⟨xs, _, hin, g3, g4, g6, g7, g8, g9', Kd.R_mono hR (fun b h => ⟨h.1.1, h.1.2, fun hk => by have := hkp2 b hk; omega, by have := h.2; omega⟩), hb, Nat.le_refl _, hxl, hL, hkb⟩
      case istop =>
        rintro i c W hi ⟨rfl, rfl, g6, g7, hb, hs, hL, hkb⟩
        rw [if_pos rfl] at h4
        simp only [Option.some.injEq, Prod.mk.injEq] at h4
        obtain ⟨rfl, rfl, rfl, rfl⟩ := h4
        refine wpIn_ret ?_
        show _ ∧ _ ∧ _
        exact ⟨hL, hkb, rfl, _, g6, g7, Kd.R_nil _ _ _ _ _, hb⟩
      case idone =>
        rintro W ⟨xs, v8, h1, g3, g4, g6, g7, g8, g9, hR, hb, hs, hxl, hL, hkb⟩
        have hx : xs = ux ∧ us = false := by
          rw [List.drop_of_length_le (by omega)] at h1
          simp only [vers_Needs.inner, Option.some.injEq, Prod.mk.injEq] at h1
          exact ⟨h1.1, h1.2.1.symm⟩
        obtain ⟨rfl, rfl⟩ := hx
        rw [if_neg (by decide)] at h4
        show _ ∧ _ ∧ _
        exact ⟨hL, hkb, xs, v8, h4, g3, g4, g6, g7, g8, Kd.R_mono hR (fun b h => ⟨h.1, h.2.1⟩), hb, by omega, hxl⟩
      case iround =>
        clear h4 hit2 hrl g3 g4 g6 g7 g8 g9' hR hb hL hkb hin hxl e4 hew ew0
        rintro lp2 j W hl'' hlr hj ⟨xs, v8, h1, g3, g4, g6, g7, g8, g9, hR, hb, hsW, hxl, hL, hkb⟩ K hK
        have hjl : j < vs.length := by omega
        rw [List.drop_eq_getElem_cons hjl] at h1
        have hg : vs.getD j 0 = vs[j] := by simp [List.getD, hjl]
        rw [params1, hg]
        generalize vs[j] = v at h1 ⊢
        clear hg
        simp only [List.setIfInBounds_toArray, List.set_cons_zero, List.set_cons_succ]
        refine round_region (by rfl) (by repeat (first | exact NoOut.roundEnd | exact NoOut.false | apply NoOut.then | apply NoOut.inBlock)) ?_
        go_wp2
        refine hK _ _ (Below.refl _ _) (fun W3 hc _ => ?_)
        replace g3 := hc.block _ _ g3 (.inl rfl)
        replace g4 := hc.block _ _ g4 (.inl rfl)
        replace g6 := hc.block _ _ g6 (.inl rfl)
        replace g7 := hc.block _ _ g7 (.inl rfl)
        replace g8 := hc.block _ _ g8 (.inl rfl)
        replace g9 := hc.block _ _ g9 (.inl rfl)
        replace hR := calm_row hc hR
        replace hb := hc.below hb (by omega) (by omega)
        replace hL := calm_leaves hc hL (by omega)
        replace hkb : ∀ c, keep c → W3.heap[c]? = W2.heap[c]? := fun c hk => (calm_same hc (by have := hkp' c hk; omega) (by have := hkp' c hk; omega)).trans (hkb c hk)
        replace hsW := Nat.le_trans hsW hc.size
        clear hc hK hlr W
        unfold vers_Needs.inner at h1
        obtain ⟨nn, e8, k1⟩ := Option.bind_eq_some_iff.mp h1
        clear h1
        obtain ⟨⟨t1, t2⟩, et, k2⟩ := Option.bind_eq_some_iff.mp k1
        clear k1
        obtain ⟨th, eth, k3⟩ := Option.bind_eq_some_iff.mp k2
        clear k2
        dsimp only at k3
        have c30 := blk_cell g3 0; have f30 := blk_frozen g3 0; have c40 := blk_cell g4 0; have f40 := blk_frozen g4 0
        have k4 := Aside0.mk k3
        clear k3
        refine wpIn_block (wpIn_seq (round_region_any (by kernel_rfl) (by rfl) (by repeat (first | exact NoOut.roundEnd | exact NoOut.false | apply NoOut.then | apply NoOut.inBlock)) (any_floating (n := 11) (p := 11) (ts := []) (cv := .bool false) (af := ?af)
          (C := fun _ w' => ∃ m, w' = W3.drewN m) ?hB ?hF ?hC ?heff ?hwalk ?hlast)))
        case hB => kernel_rfl
        case hF => kernel_rfl
        case hC => exact ⟨1, rfl⟩
        case heff =>
          intro o a w ho
          cases ho
        case hwalk =>
          intro b
          simp only [mask, Nat.reduceAdd, Nat.reduceEqDiff, Nat.reduceLeDiff, if_true, if_false, reduceIte]
          repeat (quiet_step ((first | (go_at_call 36; (with_reducible exact quiet_drawn (vers_number.calls k a0 _ 4 nn _ e8))) | (go_at_call 35; (with_reducible exact quiet_drawn (vers_text.calls a1 nn t1 t2 _ et))))))
          refine wpQuiet_nil ?_
          with_reducible rfl
        case hlast =>
          rintro w3 ⟨m3, rfl⟩
          simp only [List.drop_succ_cons, List.drop_zero, List.drop_nil]
          have hb3 : Below W3.heap.size W3 (W3.drewN m3) := pw_below_drewN (Below.refl _ _) m3
          generalize hW5 : W3.drewN m3 = W5 at hb3 ⊢
          clear hW5
          go_wp2
          have hs3 : W3.heap.size ≤ W5.heap.size := hb3.size
          replace g3 := blk_below g3 hb3
          replace g4 := blk_below g4 hb3
          replace g6 := blk_below g6 hb3
          replace g7 := blk_below g7 hb3
          replace g8 := blk_below g8 hb3
          replace g9 := blk_below g9 hb3
          replace hR := Kd.R_below hR hb3
          replace hb := below_step hb hb3
          have hP := Leaves.of_below (B := w6.heap.size) hb3
          replace hL := hL.trans (Leaves.of_below hb3)
          have hkb2 : ∀ c, keep2 c → W5.heap[c]? = W3.heap[c]? := fun c hc => hb3.block c (by have := hkp2 c hc; omega)
          replace hkb : ∀ c, keep c → W5.heap[c]? = W2.heap[c]? := fun c hc => (hb3.block c (by have := hkp' c hc; omega)).trans (hkb c hc)
          clear hb3 c30 f30 c40 f40 e8 et
          have c30 := blk_cell g3 0; have f30 := blk_frozen g3 0
          refine wpIn_seq (wpIn_block (wpIn_seq (round_region (by rfl) (by repeat (first | exact NoOut.roundEnd | exact NoOut.false | apply NoOut.then | apply NoOut.inBlock)) ?_)))
          go_wp2_with (first | (go_at_call 37; go_must (with_reducible refine (vers_there.calls a0 v 16 th _ eth).mono ?_; rintro e w7 ⟨rfl, hd7⟩)))
          have hb3 := hd7.below
          clear hd7 c30 f30 eth
          have h1 := k4.out
          clear k4
          have hs7 : W5.heap.size ≤ w7.heap.size := hb3.size
          replace g3 := blk_below g3 hb3
          replace g4 := blk_below g4 hb3
          replace g6 := blk_below g6 hb3
          replace g7 := blk_below g7 hb3
          replace g8 := blk_below g8 hb3
          replace g9 := blk_below g9 hb3
          replace hR := Kd.R_below hR hb3
          replace hb := below_step hb hb3
          replace hP := hP.trans (Leaves.of_below hb3)
          replace hL := hL.trans (Leaves.of_below hb3)
          replace hkb2 : ∀ c, keep2 c → w7.heap[c]? = W3.heap[c]? := fun c hc => (hb3.block c (by have := hkp2 c hc; omega)).trans (hkb2 c hc)
          replace hkb : ∀ c, keep c → w7.heap[c]? = W2.heap[c]? := fun c hc => (hb3.block c (by have := hkp' c hc; omega)).trans (hkb c hc)
          clear hb3
          cases th with
          | false =>
            rw [if_neg (by decide)] at h1
            refine wpIn_cond_true (by simp [go_sem]) (wpIn_seq (round_region (by rfl) (by repeat (first | exact NoOut.roundEnd | exact NoOut.false | apply NoOut.then | apply NoOut.inBlock)) ?_))
            unfold vers_Needs.stop at h1
            obtain ⟨⟨q1', q2', q3'⟩, hat, k1⟩ := Option.bind_eq_some_iff.mp h1
            clear h1
            simp only [Option.some.injEq, Prod.mk.injEq] at k1
            obtain ⟨rfl, rfl, rfl, rfl, rfl⟩ := k1
            go_wp2_with (first | (go_at_call 23; go_must (with_reducible refine (fail_At.calls 2 v q1' q2' q3' _ hat).mono ?_; rintro e w8 ⟨rfl, hb7⟩; have g6' := blk_below g6 hb7; have g7' := blk_below g7 hb7; have c60 := blk_cell g6' 0; have f60 := blk_frozen g6' 0; have c70 := blk_cell g7' 0; have f70 := blk_frozen g7' 0; have c71 := blk_cell g7' 1; have f71 := blk_frozen g7' 1; have c72 := blk_cell g7' 2; have f72 := blk_frozen g7' 2)))
            refine wpIn_ret ?_
            obtain ⟨s6, s7, sf, sb, ss⟩ := stored13 (by omega) g6' g7' (.slice none 0 0) (.int .i64 q1') (.int .u64 q2') (.string q3')
            have hl7 := hb7.size
            have hT : ∀ B, Go.Proofs.YtoaliamemkjfhaaLift.Leaves B w7 _ := fun B => (Leaves.of_below (B := B) hb7).trans (four_leaves B w8 ⟨w.heap.size + 1 + 1, 0, none⟩ ⟨w.heap.size + 1 + 1 + 1, 0, none⟩ ⟨w.heap.size + 1 + 1 + 1, 1, none⟩ ⟨w.heap.size + 1 + 1 + 1, 2, none⟩ (.slice none 0 0) (.int .i64 q1') (.int .u64 q2') (.string q3'))
            have hT0 := (hT 0).1
            show _ ∧ _ ∧ _
            refine ⟨hP.trans (hT _), fun c hc => ?_, by first | rfl | trivial, by first | rfl | trivial, s6, s7, sb _ _ (below_step hb hb7) (by omega) (by omega), by omega, hL.trans (hT _), fun c hk => ?_⟩
            · have := hkp2 c hc
              rw [sf c (by omega) (by omega)]
              exact (hb7.block c (by omega)).trans (hkb2 c hc)
            · have := hkp' c hk
              rw [sf c (by omega) (by omega)]
              exact (hb7.block c (by omega)).trans (hkb c hk)
          | true =>
            rw [if_pos rfl] at h1
            refine wpIn_cond_false (by simp [go_sem]) (wpIn_seq (round_region (by rfl) (by repeat (first | exact NoOut.roundEnd | exact NoOut.false | apply NoOut.then | apply NoOut.inBlock)) ?_))
            go_wp2
            cases t2 with
            | false =>
              rw [if_neg (by decide)] at h1
              refine wpIn_cond_true (by simp [go_sem]) (wpIn_seq (round_region (by rfl) (by repeat (first | exact NoOut.roundEnd | exact NoOut.false | apply NoOut.then | apply NoOut.inBlock)) ?_))
              unfold vers_Needs.stop at h1
              obtain ⟨⟨q1', q2', q3'⟩, hat, k1⟩ := Option.bind_eq_some_iff.mp h1
              clear h1
              simp only [Option.some.injEq, Prod.mk.injEq] at k1
              obtain ⟨rfl, rfl, rfl, rfl, rfl⟩ := k1
              go_wp2_with (first | (go_at_call 23; go_must (with_reducible refine (fail_At.calls 25 v q1' q2' q3' _ hat).mono ?_; rintro e w8 ⟨rfl, hb7⟩; have g6' := blk_below g6 hb7; have g7' := blk_below g7 hb7; have c60 := blk_cell g6' 0; have f60 := blk_frozen g6' 0; have c70 := blk_cell g7' 0; have f70 := blk_frozen g7' 0; have c71 := blk_cell g7' 1; have f71 := blk_frozen g7' 1; have c72 := blk_cell g7' 2; have f72 := blk_frozen g7' 2)))
              refine wpIn_ret ?_
              obtain ⟨s6, s7, sf, sb, ss⟩ := stored13 (by omega) g6' g7' (.slice none 0 0) (.int .i64 q1') (.int .u64 q2') (.string q3')
              have hl7 := hb7.size
              have hT : ∀ B, Go.Proofs.YtoaliamemkjfhaaLift.Leaves B w7 _ := fun B => (Leaves.of_below (B := B) hb7).trans (four_leaves B w8 ⟨w.heap.size + 1 + 1, 0, none⟩ ⟨w.heap.size + 1 + 1 + 1, 0, none⟩ ⟨w.heap.size + 1 + 1 + 1, 1, none⟩ ⟨w.heap.size + 1 + 1 + 1, 2, none⟩ (.slice none 0 0) (.int .i64 q1') (.int .u64 q2') (.string q3'))
              have hT0 := (hT 0).1
              show _ ∧ _ ∧ _
              refine ⟨hP.trans (hT _), fun c hc => ?_, by first | rfl | trivial, by first | rfl | trivial, s6, s7, sb _ _ (below_step hb hb7) (by omega) (by omega), by omega, hL.trans (hT _), fun c hk => ?_⟩
              · have := hkp2 c hc
                rw [sf c (by omega) (by omega)]
                exact (hb7.block c (by omega)).trans (hkb2 c hc)
              · have := hkp' c hk
                rw [sf c (by omega) (by omega)]
                exact (hb7.block c (by omega)).trans (hkb c hk)
            | true =>
              rw [if_pos rfl] at h1
              refine wpIn_cond_false (by simp [go_sem]) (wpIn_seq (round_region (by rfl) (by repeat (first | exact NoOut.roundEnd | exact NoOut.false | apply NoOut.then | apply NoOut.inBlock)) ?_))
              obtain ⟨A8, cc8, rfl⟩ := Kd.R_slice hR
              have c80 := blk_cell g8 0; have f80 := blk_frozen g8 0
              go_wp2
              by_cases h64' : xs.length = 64
              · rw [if_pos h64'] at h1
                have x0 : (((xs.length : Nat) : Int) == 64) = true := beq_iff_eq.mpr (by omega)
                refine wpIn_cond_true (by simp [go_sem, x0]) (wpIn_seq (round_region (by rfl) (by repeat (first | exact NoOut.roundEnd | exact NoOut.false | apply NoOut.then | apply NoOut.inBlock)) ?_))
                unfold vers_Needs.stop at h1
                obtain ⟨⟨q1', q2', q3'⟩, hat, k1⟩ := Option.bind_eq_some_iff.mp h1
                clear h1
                simp only [Option.some.injEq, Prod.mk.injEq] at k1
                obtain ⟨rfl, rfl, rfl, rfl, rfl⟩ := k1
                go_wp2_with (first | (go_at_call 23; go_must (with_reducible refine (fail_At.calls 6 v q1' q2' q3' _ hat).mono ?_; rintro e w8 ⟨rfl, hb7⟩; have g6' := blk_below g6 hb7; have g7' := blk_below g7 hb7; have c60 := blk_cell g6' 0; have f60 := blk_frozen g6' 0; have c70 := blk_cell g7' 0; have f70 := blk_frozen g7' 0; have c71 := blk_cell g7' 1; have f71 := blk_frozen g7' 1; have c72 := blk_cell g7' 2; have f72 := blk_frozen g7' 2)))
                refine wpIn_ret ?_
                obtain ⟨s6, s7, sf, sb, ss⟩ := stored13 (by omega) g6' g7' (.slice none 0 0) (.int .i64 q1') (.int .u64 q2') (.string q3')
                have hl7 := hb7.size
                have hT : ∀ B, Go.Proofs.YtoaliamemkjfhaaLift.Leaves B w7 _ := fun B => (Leaves.of_below (B := B) hb7).trans (four_leaves B w8 ⟨w.heap.size + 1 + 1, 0, none⟩ ⟨w.heap.size + 1 + 1 + 1, 0, none⟩ ⟨w.heap.size + 1 + 1 + 1, 1, none⟩ ⟨w.heap.size + 1 + 1 + 1, 2, none⟩ (.slice none 0 0) (.int .i64 q1') (.int .u64 q2') (.string q3'))
                have hT0 := (hT 0).1
                show _ ∧ _ ∧ _
                refine ⟨hP.trans (hT _), fun c hc => ?_, by first | rfl | trivial, by first | rfl | trivial, s6, s7, sb _ _ (below_step hb hb7) (by omega) (by omega), by omega, hL.trans (hT _), fun c hk => ?_⟩
                · have := hkp2 c hc
                  rw [sf c (by omega) (by omega)]
                  exact (hb7.block c (by omega)).trans (hkb2 c hc)
                · have := hkp' c hk
                  rw [sf c (by omega) (by omega)]
                  exact (hb7.block c (by omega)).trans (hkb c hk)
              · rw [if_neg h64'] at h1
                have x0 : (((xs.length : Nat) : Int) == 64) = false := beq_eq_false_iff_ne.mpr (by omega)
                refine wpIn_cond_false (by simp [go_sem, x0]) (wpIn_skip ?_)
                go_wp2
                obtain ⟨n6, e6, k1⟩ := Option.bind_eq_some_iff.mp h1
                clear h1
                obtain ⟨n4, e4, k2⟩ := Option.bind_eq_some_iff.mp k1
                clear k1
                have c30 := blk_cell g3 0; have f30 := blk_frozen g3 0; have c90 := blk_cell g9 0; have f90 := blk_frozen g9 0
                have h1 := Aside0.mk k2
                clear k2
                have hxb : (xs.length + 1) * 48 ≤ 140737488355328 := by omega
                refine round_region_any (by kernel_rfl) (by rfl) (by repeat (first | exact NoOut.roundEnd | exact NoOut.false | apply NoOut.then | apply NoOut.inBlock)) (any_floating (n := 17) (p := 16) (ts := [89]) (cv := .slice (some ⟨w7.heap.size, 0, none⟩) 1 1) (af := ?af2)
                  (C := fun b w' => ∃ m, w' = (if b = true then w7.alloc (.cells #[.int .i64 (IntKind.i64.wrap (Go.bits .and .u64 n6 32767)), .string q1, .string t1, .bool (Go.bits .and .u64 n4 2 != 0)] 50) else w7).drewN m) ?hB2 ?hF2 ?hC2 ?heff2 ?hwalk2 ?hlast2)
                case hB2 => kernel_rfl
                case hF2 => kernel_rfl
                case hC2 => exact ⟨1, rfl⟩
                case hwalk2 =>
                  intro b
                  have hwb : Below w7.heap.size w7 (if b = true then w7.alloc (.cells #[.int .i64 (IntKind.i64.wrap (Go.bits .and .u64 n6 32767)), .string q1, .string t1, .bool (Go.bits .and .u64 n4 2 != 0)] 50) else w7) := by
                    cases b
                    · exact Below.refl _ _
                    · exact below_alloc (Below.refl _ _) _
                  generalize (if b = true then w7.alloc (.cells #[.int .i64 (IntKind.i64.wrap (Go.bits .and .u64 n6 32767)), .string q1, .string t1, .bool (Go.bits .and .u64 n4 2 != 0)] 50) else w7) = wb at hwb ⊢
                  have g8w := blk_below g8 hwb; have g3w := blk_below g3 hwb; have g9w := blk_below g9 hwb
                  have c80w := blk_cell g8w 0; have f80w := blk_frozen g8w 0; have c30w := blk_cell g3w 0; have f30w := blk_frozen g3w 0; have c90w := blk_cell g9w 0; have f90w := blk_frozen g9w 0
                  clear g8w g3w g9w hwb
                  simp only [mask, Nat.reduceAdd, Nat.reduceEqDiff, Nat.reduceLeDiff, if_true, if_false, reduceIte]
                  repeat (quiet_step ((go_at_call 36; (first | (with_reducible exact quiet_drawn (vers_number.calls k a0 _ 2 n6 _ e6)) | (with_reducible exact quiet_drawn (vers_number.calls k a0 _ 2 n4 _ e4))))))
                  refine wpQuiet_nil ?_
                  with_reducible rfl
                case heff2 =>
                  rintro o a wx ho ⟨m, rfl⟩ hts
                  cases ho
                  have hv : a.eval (.tmp 89) = .agg #[.int .i64 (IntKind.i64.wrap (Go.bits .and .u64 n6 32767)), .string q1, .string t1, .bool (Go.bits .and .u64 n4 2 != 0)] := by
                    have h_ := hts 89 (by simp)
                    simp only [Act.eval, Array.getD_eq_getD_getElem?, ← h_]
                    simp only [List.getElem?_toArray, List.getElem?_cons_succ, List.getElem?_cons_zero, Option.getD_some]
                  refine ⟨(w7.alloc (.cells #[.int .i64 (IntKind.i64.wrap (Go.bits .and .u64 n6 32767)), .string q1, .string t1, .bool (Go.bits .and .u64 n4 2 != 0)] 50)).drewN m, ?_, m, rfl⟩
                  simp only [execOp, hv, Array.map_singleton, List.map_toArray, List.map_cons, List.map_nil]
                  go_simp
                  rfl
                case hlast2 =>
                  rintro w8 ⟨m8, hm8⟩
                  replace hm8 : w8 = (w7.drewN m8).alloc (.cells #[.int .i64 (IntKind.i64.wrap (Go.bits .and .u64 n6 32767)), .string q1, .string t1, .bool (Go.bits .and .u64 n4 2 != 0)] 50) := hm8
                  subst hm8
                  simp only [List.drop_succ_cons, List.drop_zero]
                  have hb3 : Below w7.heap.size w7 (w7.drewN m8) := pw_below_drewN (Below.refl _ _) m8
                  have hz8 : w7.heap.size = (w7.drewN m8).heap.size := rfl
                  simp only [hz8]
                  generalize w7.drewN m8 = W8 at hb3 hz8 ⊢
                  clear c30 f30 c90 f90 c80 f80 e6 e4
                  have hs8 : w7.heap.size ≤ W8.heap.size := hb3.size
                  replace g3 := blk_below g3 hb3
                  replace g4 := blk_below g4 hb3
                  replace g6 := blk_below g6 hb3
                  replace g7 := blk_below g7 hb3
                  replace g8 := blk_below g8 hb3
                  replace g9 := blk_below g9 hb3
                  replace hR := Kd.R_below hR hb3
                  replace hb := below_step hb hb3
                  replace hP := hP.trans (Leaves.of_below hb3)
                  replace hL := hL.trans (Leaves.of_below hb3)
                  replace hkb2 : ∀ c, keep2 c → W8.heap[c]? = W3.heap[c]? := fun c hc => (hb3.block c (by have := hkp2 c hc; omega)).trans (hkb2 c hc)
                  replace hkb : ∀ c, keep c → W8.heap[c]? = W2.heap[c]? := fun c hc => (hb3.block c (by have := hkp' c hc; omega)).trans (hkb c hc)
                  clear hb3
                  have c80 := blk_cell g8 0; have f80 := blk_frozen g8 0
                  go_wp2_with (first | ((with_reducible refine gate_builtin (b := .append) (xs := #[.tmp 74, .tmp 90]) rfl ?_); at_builtin; go_must (refine Kd.R_append k50 (w0 := w) w.heap.size rfl (.tmp 74) (.tmp 90) 45 50 (.agg #[.int .i64 0, .string ⟨#[]⟩, .string ⟨#[]⟩, .bool false]) 48 rfl Try.underlying45 info50 rfl (by decide) (by omega) (.slice A8 xs.length cc8) xs (⟨IntKind.i64.wrap (Go.bits .and .u64 n6 32767), q1, t1, Go.bits .and .u64 n4 2 != 0⟩ : S50) [.int .i64 (IntKind.i64.wrap (Go.bits .and .u64 n6 32767)), .string q1, .string t1, .bool (Go.bits .and .u64 n4 2 != 0)] (fun b => w.heap.size + 1 + 1 + 1 + 1 + 1 ≤ b ∧ ¬ keep b ∧ ¬ keep2 b ∧ b ≠ w5.heap.size) (fun _ => False) rfl rfl ?aP (fun _ hk => hk.elim) ?aF hR hb ?aS ?aL ?_; (case aP => exact k50_mkM _ _ _ (⟨IntKind.i64.wrap (Go.bits .and .u64 n6 32767), q1, t1, Go.bits .and .u64 n4 2 != 0⟩ : S50)); (case aF => exact fun c hc => ⟨by omega, fun hk => by have := hkp' c hk; omega, fun hk => by have := hkp2 c hk; omega, by omega⟩); (case aS => omega); (case aL => exact hxb); intro v1 w6 hR1 hb1 hg1 _; obtain ⟨A9, cc9, rfl⟩ := Kd.R_slice hR1; have g8' := blk_grown g8 hg1 (Kd.R_away hR (fun c hc => by omega)); have c81 := blk_cell g8' 0; have f81 := blk_frozen g8' 0)))
                  have hne : ∀ c, c < w.heap.size + 1 + 1 + 1 + 1 + 1 → some c ≠ (Value.slice A8 xs.length cc8).ownBlock := fun c hc => Kd.R_away hR (fun k hk => by omega)
                  have hT : ∀ B, Go.Proofs.YtoaliamemkjfhaaLift.Leaves B W8 _ := fun B => (Leaves.grown hg1 hg1.size (fun c hc => by obtain ⟨cs, hcs⟩ := Kd.R_typed hR c hc; exact ⟨_, _, _, hcs⟩)).trans (Leaves.setCell _ ⟨w.heap.size + 1 + 1 + 1 + 1, 0, none⟩ (Value.slice A9 (xs.length + 1) cc9))
                  have hsz9 := (hT 0).1
                  show _ ∧ _ ∧ _
                  refine ⟨hP.trans (hT _), fun c hc => ?_, xs ++ [⟨IntKind.i64.wrap (Go.bits .and .u64 n6 32767), q1, t1, Go.bits .and .u64 n4 2 != 0⟩], .slice A9 (xs.length + 1) cc9, h1.out, blk_far (blk_grown g3 hg1 (hne _ (by omega))) (by simp <;> omega) _, blk_far (blk_grown g4 hg1 (hne _ (by omega))) (by simp <;> omega) _, blk_far (blk_grown g6 hg1 (hne _ (by omega))) (by simp <;> omega) _, blk_far (blk_grown g7 hg1 (hne _ (by omega))) (by simp <;> omega) _, blk_set g8' 0 _, blk_far (blk_grown g9 hg1 (Kd.R_away hR (fun k hk => hk.2.2.2))) (by simp <;> omega) _, ?_, hb1.setCell (by simp; omega) _, by omega, by simp; omega, hL.trans (hT _), fun c hk => ?_⟩
                  · have := hkp2 c hc
                    rw [Below.heap_setCell _ _ _ _ (by simp; omega)]
                    exact (hg1.block c (by omega) (Kd.R_away hR (fun k hk e => hk.2.2.1 (e ▸ hc)))).trans (hkb2 c hc)
                  · have := Kd.R_far hR1 (p := ⟨w.heap.size + 1 + 1 + 1 + 1, 0, none⟩) (fun k hk => by have := hk.1; simp; omega) (Value.slice A9 (xs.length + 1) cc9)
                    simpa using this
                  · have := hkp' c hk
                    rw [Below.heap_setCell _ _ _ _ (by simp; omega)]
                    exact (hg1.block c (by omega) (Kd.R_away hR (fun k hk' e => hk'.2.1 (e ▸ hk)))).trans (hkb c hk)
    · rw [if_neg hew] at h2
      have ew0 : (ew != 0) = true := bne_iff_ne.mpr hew
      obtain ⟨⟨u1, u2, u3⟩, hat, h3⟩ := Option.bind_eq_some_iff.mp h2
      clear h2
      simp only [Option.some.injEq, Prod.mk.injEq] at h3
      obtain ⟨rfl, rfl, rfl, rfl⟩ := h3
      refine wpIn_seq (wpIn_seq (round_region (by rfl) (by repeat (first | exact NoOut.roundEnd | exact NoOut.false | apply NoOut.then | apply NoOut.inBlock)) ?_))
      go_wp2
      refine wpIn_cond_true (by simp [go_sem, ew0]) (wpIn_seq (round_region (by rfl) (by repeat (first | exact NoOut.roundEnd | exact NoOut.false | apply NoOut.then | apply NoOut.inBlock)) ?_))
      go_wp2_with (first | (go_at_call 23; go_must (with_reducible refine (fail_At.calls ew p u1 u2 u3 _ hat).mono ?_; rintro e w6 ⟨rfl, hb7⟩; have g6' := blk_below g6 hb7; have g7' := blk_below g7 hb7; have c60 := blk_cell g6' 0; have f60 := blk_frozen g6' 0; have c70 := blk_cell g7' 0; have f70 := blk_frozen g7' 0; have c71 := blk_cell g7' 1; have f71 := blk_frozen g7' 1; have c72 := blk_cell g7' 2; have f72 := blk_frozen g7' 2)))
      refine wpIn_ret ?_
      obtain ⟨s6, s7, sf, sb, ss⟩ := stored13 (by omega) g6' g7' (.slice none 0 0) (.int .i64 u1) (.int .u64 u2) (.string u3)
      have hl7 := hb7.size
      show _ ∧ _ ∧ _
      refine ⟨((((hL.trans (Leaves.of_below hb7)).trans (Leaves.setCell _ _ _)).trans (Leaves.setCell _ _ _)).trans (Leaves.setCell _ _ _)).trans (Leaves.setCell _ _ _), fun c hc => ?_, rfl, _, s6, s7, Kd.R_nil _ _ _ _ _, sb _ _ (below_step hb hb7) (by omega) (by omega)⟩
      have := hkp' c hc
      rw [sf c (by omega) (by omega)]
      exact (hb7.block c (by omega)).trans (hkb c hc)
end

end Go.Proofs.Ytoaliamemkjfhaa.PNd
