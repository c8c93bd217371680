-- Written by a program of this session (a changed copy of the print of the kit). Not trusted: Lean checks it.
import Derived.Test.YtoaliamemkjfhaaPAllx0
import Derived.Test.YtoaliamemkjfhaaPAllx2
import Derived.Test.YtoaliamemkjfhaaPAllx4
import Derived.Test.YtoaliamemkjfhaaLift2
import Derived.Test.YtoaliamemkjfhaaLiftPost
import Derived.Outline
import Derived.Lib.Hide
import Derived.Deep.DeepMust
namespace Go.Proofs.Ytoaliamemkjfhaa.PAll
open Go.RowKit Go.Proofs.YtoaliamemkjfhaaW.PrintWords Go.Proofs.YtoaliamemkjfhaaW.PrintLast Go.Proofs.YtoaliamemkjfhaaW.PrintMore
attribute [local go_sem] max2_int min2_int max_two min_two max_three min_three max_four min_four   -- for this text's walks alone
set_option linter.unusedVariables false
set_option linter.unusedSimpArgs false

-- GIVENCHUNK
-- GIVEN rounds=1 making=1
-- DESCEND
-- NEEDS Derived.Test.YtoaliamemkjfhaaLift2
-- NEEDS Derived.Test.YtoaliamemkjfhaaLiftPost
-- NEEDS Derived.Outline
-- NEEDS Derived.Lib.Hide
-- NEEDS Derived.Deep.DeepMust
/-! ### vers_Defs: function 11 (given by hand) -/
section
open Go.Proofs.YtoaliamemkjfhaaLift Go.Shelf
attribute [local go_sem] Oper.semAt_some
/-- The places that a chain tells. -/
def chainL (k : Nat) (b : ByteArray) (next : Int) : Nat → Int → Option (List Int)
  | 0, _ => some []
  | m + 1, a => (le_At.f k b (IntKind.u64.wrap (a + next)) 4).bind fun t => (chainL k b next m (IntKind.u64.wrap (a + t.1))).bind fun l => some (a :: l)
def vers_Defs.go (k : Nat) (b names : ByteArray) : List Int → List S38 → Option (List S38 × Int × Int × ByteArray)
  | [], xs => some (xs, 0, 0, ⟨#[]⟩)
  | a :: l, xs => (vers_def.f k b names a).bind fun q => if q.2.2 = 0 then vers_Defs.go k b names l (xs ++ [⟨q.1, q.2.1⟩]) else (fail_At.f q.2.2 a).bind fun t => some ([], t.1, t.2.1, t.2.2)
def vers_Defs.f (k : Nat) (a0 a1 : ByteArray) (a2 : Int) : Option (List S38 × Int × Int × ByteArray) :=
  if a2 < 0 then ((fail_Of.f 6).bind fun t => some ([], t.1, t.2.1, t.2.2)) else if a2 > 64 then ((fail_Of.f 6).bind fun t => some ([], t.1, t.2.1, t.2.2)) else (chainL k a0 16 a2.toNat 0).bind fun l => vers_Defs.go k a0 a1 l []
theorem chainL_mono (k : Nat) (b : ByteArray) (next : Int) : ∀ m a, LeO (chainL k b next m a) (chainL (k + 1) b next m a)
  | 0, _ => LeO.refl _
  | m + 1, a => by
    unfold chainL
    exact LeO.bind (le_At.mono _ _ _ k) fun t => LeO.bind (chainL_mono k b next m _) fun l => LeO.refl _
theorem vers_Defs.go_mono (k : Nat) (b names : ByteArray) : ∀ l xs, LeO (vers_Defs.go k b names l xs) (vers_Defs.go (k + 1) b names l xs)
  | [], _ => LeO.refl _
  | a :: l, xs => by
    unfold vers_Defs.go
    refine LeO.bind (vers_def.mono _ _ _ k) fun q => ?_
    split
    · exact vers_Defs.go_mono k b names l _
    · exact LeO.refl _
theorem vers_Defs.mono : ∀ a0 a1 a2 k, LeO (vers_Defs.f k a0 a1 a2) (vers_Defs.f (k + 1) a0 a1 a2) := by
  intro a0 a1 a2 k
  unfold vers_Defs.f
  split
  · exact LeO.refl _
  split
  · exact LeO.refl _
  · intro r h
    obtain ⟨l, h1, h2⟩ := Option.bind_eq_some_iff.mp h
    exact Option.bind_eq_some_iff.2 ⟨l, chainL_mono k a0 16 _ _ _ h1, vers_Defs.go_mono k a0 a1 l [] _ h2⟩
/-- From a list of places: each one's follower. -/
theorem chainL_at (k : Nat) (b : ByteArray) (next : Int) : ∀ (m : Nat) (a : Int) (l : List Int), chainL k b next m a = some l →
    l.length = m ∧ (0 < m → l.getD 0 0 = a) ∧ ∀ i, i < m → ∃ d ok, le_At.f k b (IntKind.u64.wrap (l.getD i 0 + next)) 4 = some (d, ok) ∧ (i + 1 < m → l.getD (i + 1) 0 = IntKind.u64.wrap (l.getD i 0 + d))
  | 0, a, l, h => by
    unfold chainL at h
    cases h
    exact ⟨rfl, fun h => absurd h (by omega), fun i h => absurd h (by omega)⟩
  | m + 1, a, l, h => by
    unfold chainL at h
    obtain ⟨⟨d, ok⟩, h1, h2⟩ := Option.bind_eq_some_iff.mp h
    obtain ⟨l', h3, h4⟩ := Option.bind_eq_some_iff.mp h2
    cases h4
    obtain ⟨e1, e2, e3⟩ := chainL_at k b next m _ l' h3
    refine ⟨by simp [e1], fun _ => rfl, fun i hi => ?_⟩
    cases i with
    | zero => exact ⟨d, ok, h1, fun h => by simpa using e2 (by omega)⟩
    | succ i =>
      obtain ⟨d', ok', g1, g2⟩ := e3 i (by omega)
      exact ⟨d', ok', by simpa using g1, fun h => by simpa using g2 (by omega)⟩
theorem cell_same_ {w w1 : World} {b : Nat} (h : w1.heap[b]? = w.heap[b]?) : w1.cell? ⟨b, 0, none⟩ = w.cell? ⟨b, 0, none⟩ := by
  simp only [World.cell?, h]
set_option maxHeartbeats 1000000 in
set_option maxRecDepth 100000 in
theorem chain1_iter (k : Nat) (s : ByteArray) (next a0 : Int) (N : Nat) (l : List Int) (bn ba bs bx : Nat) (w0 : World)
    (hn : w0.heap[bn]? = some (.cells #[.int .i64 N] 3 (0, 0))) (ha : w0.heap[ba]? = some (.cells #[.int .u64 a0] 28 (0, 0))) (hs : w0.heap[bs]? = some (.cells #[.string s] 9 (0, 0))) (hx : w0.heap[bx]? = some (.cells #[.int .u64 next] 28 (0, 0)))
    (h1 : ba ≠ bn) (h2 : ba ≠ bs) (h3 : ba ≠ bx) (hN : N ≤ 64) (hl : chainL k s next N a0 = some l) :
    Iter2 Try.prog 38 #[.pointer (some ⟨bn, 0, none⟩), .pointer (some ⟨ba, 0, none⟩), .pointer (some ⟨bs, 0, none⟩), .pointer (some ⟨bx, 0, none⟩)] (fun i => #[.int .u64 (l.getD i 0)]) N (fun b => b = bn ∨ b = ba ∨ b = bs ∨ b = bx) (fun b => b = ba) w0 := by
  intro y J Jx W hkeep hJ hJx hJo hY h0
  obtain ⟨hlen, hl0, hlS⟩ := chainL_at k s next N a0 l hl
  have hgn : W.heap[bn]? = some (.cells #[.int .i64 N] 3 (0, 0)) := (hkeep bn (.inl rfl)).trans hn
  have hga : W.heap[ba]? = some (.cells #[.int .u64 a0] 28 (0, 0)) := (hkeep ba (.inr (.inl rfl))).trans ha
  have hgs : W.heap[bs]? = some (.cells #[.string s] 9 (0, 0)) := (hkeep bs (.inr (.inr (.inl rfl)))).trans hs
  have hgx : W.heap[bx]? = some (.cells #[.int .u64 next] 28 (0, 0)) := (hkeep bx (.inr (.inr (.inr rfl)))).trans hx
  clear hn ha hs hx hkeep hl
  refine callsIn_wide.1 (callsIn_of_wp (n := 3) Try.func38 rfl trivial ?_)
  simp only [Try.ntmps38, List.size_toArray, List.length_cons, List.length_nil, Nat.reduceAdd, Nat.reduceSub, Array.replicate_succ, Array.replicate_zero, List.push_toArray, List.append_toArray, List.nil_append, List.cons_append]
  have cn := blk_cell hgn 0; have ca := blk_cell hga 0; have cs := blk_cell hgs 0; have cx := blk_cell hgx 0
  gi_wp2
  gi_loopw [9] (fun i wr => ∃ q : Nat, q ≤ N ∧ i = .int .i64 q ∧ J q wr ∧ wr.heap[bn]? = some (.cells #[.int .i64 N] 3 (0, 0)) ∧ wr.heap[bs]? = some (.cells #[.string s] 9 (0, 0)) ∧ wr.heap[bx]? = some (.cells #[.int .u64 next] 28 (0, 0)) ∧ ∃ av : Int, wr.heap[ba]? = some (.cells #[.int .u64 av] 28 (0, 0)) ∧ (q < N → av = l.getD q 0))
    (fun i _ => N - (intOf i).toNat)
  case atStart => exact ⟨0, Nat.zero_le _, rfl, h0, hgn, hgs, hgx, a0, hga, fun h => (hl0 h).symm⟩
  case round =>
    obtain ⟨q, hq, rfl, hJq, gn, gs, gx, av, ga, hav⟩ := hrel
    clear hgn hga hgs hgx cn ca cs cx h0
    have cn := blk_cell gn 0; have ca := blk_cell ga 0
    by_cases hlt : q < N
    · obtain rfl := hav hlt
      obtain ⟨d, ok, hd, hnx⟩ := hlS q hlt
      have hY1 : YieldsB Try.prog y #[.int .u64 (l.getD q 0)] wr fun b W' => (∀ c, (c = bn ∨ c = ba ∨ c = bs ∨ c = bx) → W'.heap[c]? = wr.heap[c]?) ∧ wr.heap.size ≤ W'.heap.size ∧ (if b = true then J (q + 1) W' else Jx q W') := hY q wr hlt hJq
      clear hY hlS hl0 hlen hav
      generalize l.getD q 0 = aq at *
      replace hd := Aside0.mk hd
      replace hnx := Aside0.mk hnx
      gi_wp2_with (first | ((with_reducible refine gate_yield (t := 11) rfl ?_); go_must (refine yield_op (t := 11) rfl rfl y #[.int .u64 aq] rfl (by simp only [List.map_toArray, List.map_cons, List.map_nil]; rfl) hY1 ?_); rintro b w1 ⟨hk1, hs1, hj1⟩; have gn1 := (hk1 bn (.inl rfl)).trans gn; have ga1 := (hk1 ba (.inr (.inl rfl))).trans ga; have gs1 := (hk1 bs (.inr (.inr (.inl rfl)))).trans gs; have gx1 := (hk1 bx (.inr (.inr (.inr rfl)))).trans gx; have ca1 := blk_cell ga1 0; have fa1 := blk_frozen ga1 0; have cs1 := blk_cell gs1 0; have cx1 := blk_cell gx1 0; cases b) | (refine ⟨trivial, callsIn_wide.2 ((le_At.calls k s _ 4 d ok _ hd.out).mono ?_)⟩; rintro e w2 ⟨rfl, ⟨nd, rfl⟩⟩))
      · refine bodyPost_ret (results_none rfl _ _ _) rfl ⟨rfl, .inr ⟨q, hlt, ?_⟩⟩
        simpa using hj1
      · refine ⟨⟨q + 1, by omega, by go_num, hJo _ _ _ _ rfl (hJ _ w1 _ (pw_below_drewN (Below.refl _ _) nd) (by simpa using hj1)), blk_far (blk_drewN gn1 nd) (fun h => h1 h.symm) _, blk_far (blk_drewN gs1 nd) (fun h => h2 h.symm) _, blk_far (blk_drewN gx1 nd) (fun h => h3 h.symm) _, _, blk_set (blk_drewN ga1 nd) 0 _, fun h => (hnx.out h).symm⟩, by simp [intOf]; omega⟩
    · have hk2 : q = N := by omega
      gi_wp2_with fail
      refine bodyPost_end (results_none rfl _ _ _) rfl ⟨rfl, .inl ?_⟩
      rw [← hk2]; exact hJq
theorem alloc4 (w : World) (o p q r : Obj) : ((((w.alloc o).alloc p).alloc q).alloc r).heap[w.heap.size]? = some o ∧ ((((w.alloc o).alloc p).alloc q).alloc r).heap[w.heap.size + 1]? = some p ∧ ((((w.alloc o).alloc p).alloc q).alloc r).heap[w.heap.size + 1 + 1]? = some q ∧ ((((w.alloc o).alloc p).alloc q).alloc r).heap[w.heap.size + 1 + 1 + 1]? = some r ∧ Below w.heap.size w ((((w.alloc o).alloc p).alloc q).alloc r) := by
  obtain ⟨h1, h2, h3, h4⟩ := alloc3 w o p q
  have h5 := blk_new (((w.alloc o).alloc p).alloc q) r
  simp only [World.size_alloc] at h5
  exact ⟨blk_alloc h1 _, blk_alloc h2 _, blk_alloc h3 _, h5, below_alloc h4 _⟩
set_option maxHeartbeats 1000000 in
theorem chain_calls (k : Nat) (s : ByteArray) (next a0 : Int) (N : Nat) (l : List Int) (w : World) (hN : N ≤ 64) (hl : chainL k s next N a0 = some l) :
    Calls Try.prog 21 #[.string s, .int .u64 a0, .int .i64 N, .int .u64 next] w fun e w' => ∃ lb keep own, e = .returned (.func (.func 38) #[] lb) ∧
      Iter2 Try.prog 38 lb (fun i => #[.int .u64 (l.getD i 0)]) N keep own w' ∧ (∀ b, keep b → w.heap.size ≤ b ∧ b < w'.heap.size) ∧ (∀ b, own b → keep b) ∧ Below w.heap.size w w' := by
  go_enter Try.func21, Try.ntmps21
  go_wp2
  go_ret
  obtain ⟨h1, h2, h3, h4, hb⟩ := alloc4 w (.cells #[.string s] 9) (.cells #[.int .u64 a0] 28) (.cells #[.int .i64 N] 3) (.cells #[.int .u64 next] 28)
  refine ⟨_, _, _, rfl, chain1_iter k s next a0 N l (w.heap.size + 1 + 1) (w.heap.size + 1) w.heap.size (w.heap.size + 1 + 1 + 1) _ h3 h2 h1 h4 (by omega) (by omega) (by omega) hN hl, ?_, fun b h => .inr (.inl h), hb⟩
  rintro b (rfl | rfl | rfl | rfl) <;> simp only [World.size_alloc] <;> omega
set_option maxHeartbeats 4000000 in
set_option maxRecDepth 100000 in
theorem vers_Defs.calls (k : Nat) (a0 a1 : ByteArray) (a2 : Int) (r1 : List S38) (r2 r3 : Int) (r4 : ByteArray) (w : World) (h : vers_Defs.f k a0 a1 a2 = some (r1, r2, r3, r4)) :
    Calls Try.prog 11 #[.string a0, .string a1, .int .i64 a2] w (fun e w' => ∃ v0_ : Value, e = .returned (.tuple #[v0_, .agg #[.int .i64 r2, .int .u64 r3, .string r4]]) ∧ Kd.R k38 38 w' w.heap.size (fun _ => True) v0_ r1 ∧ Below w.heap.size w w') := by
  have hu38 := Try.underlying38
  have hu32 := Try.underlying30
  obtain ⟨g3, g4, g6, g7, hb0⟩ := alloc4 w (.cells #[.string a0] 9) (.cells #[.string a1] 9) (.cells #[.slice none 0 0] 26) (.cells #[.int .i64 0, .int .u64 0, .string ⟨#[]⟩] 30)
  have hend : ∀ (W : World) (a : Act) (v : Value) (r1 : List S38) (r2 r3 : Int) (r4 : ByteArray), a.defers = [] → a.tmps.getD 6 undef = .pointer (some ⟨w.heap.size + 1 + 1, 0, none⟩) → a.tmps.getD 7 undef = .pointer (some ⟨w.heap.size + 1 + 1 + 1, 0, none⟩) →
      W.heap[w.heap.size + 1 + 1]? = some (.cells #[v] 26 (0, 0)) → W.heap[w.heap.size + 1 + 1 + 1]? = some (.cells #[.int .i64 r2, .int .u64 r3, .string r4] 30 (0, 0)) →
      Kd.R k38 38 W w.heap.size (fun _ => True) v r1 → Below w.heap.size w W →
      bodyPostM Fence.wide 1 Try.prog Try.f11 (fun e w' => ∃ v0_ : Value, e = .returned (.tuple #[v0_, .agg #[.int .i64 r2, .int .u64 r3, .string r4]]) ∧ Kd.R k38 38 w' w.heap.size (fun _ => True) v0_ r1 ∧ Below w.heap.size w w') .ret a W := by
    intro W a v r1 r2 r3 r4 hd h6 h7 g6 g7 hR hb
    refine postM_ret (results_res (rs := [.cell 6 26, .cell 7 30]) (vs := [v, .agg #[.int .i64 r2, .int .u64 r3, .string r4]]) rfl (by simp) (.cell _ _ h6 (load_one g6 rfl Try.underlying26) (.cell _ _ h7 (run_loadVar_row W _ _ _ _ _ _ g7 Try.underlying30 rfl (by kernel_rfl)) .nil))) hd ⟨v, rfl, hR, hb⟩
  have hendD : ∀ (W : World) (a : Act) (v : Value) (r1 : List S38) (r2 r3 : Int) (r4 : ByteArray) (D B : Nat), a.defers = [{ target := .collected D, args := #[] }] → a.tmps.getD 6 undef = .pointer (some ⟨w.heap.size + 1 + 1, 0, none⟩) → a.tmps.getD 7 undef = .pointer (some ⟨w.heap.size + 1 + 1 + 1, 0, none⟩) →
      W.heap[D]? = some (.deferred (some [])) → B ≤ D → w.heap.size ≤ B →
      W.heap[w.heap.size + 1 + 1]? = some (.cells #[v] 26 (0, 0)) → W.heap[w.heap.size + 1 + 1 + 1]? = some (.cells #[.int .i64 r2, .int .u64 r3, .string r4] 30 (0, 0)) →
      Kd.R k38 38 W w.heap.size (fun _ => True) v r1 → Below w.heap.size w W →
      bodyPostM Fence.wide 1 Try.prog Try.f11 (fun e w' => ∃ v0_ : Value, e = .returned (.tuple #[v0_, .agg #[.int .i64 r2, .int .u64 r3, .string r4]]) ∧ Kd.R k38 38 w' w.heap.size (fun _ => True) v0_ r1 ∧ Below w.heap.size w w') .ret a W := by
    intro W a v r1 r2 r3 r4 D B hd h6 h7 hm hB hw g6 g7 hR hb
    have hc : Go.Proofs.YtoaliamemkjfhaaLift.Calm B W (W.putObj D (.deferred none)) := .putObj hm rfl hB
    exact postM_mark hd hm (results_res (rs := [.cell 6 26, .cell 7 30]) (vs := [v, .agg #[.int .i64 r2, .int .u64 r3, .string r4]]) rfl (by simp) (.cell _ _ h6 (load_one (hc.block _ _ g6 (.inl rfl)) rfl Try.underlying26) (.cell _ _ h7 (run_loadVar_row _ _ _ _ _ _ _ (hc.block _ _ g7 (.inl rfl)) Try.underlying30 rfl (by kernel_rfl)) .nil))) ⟨v, rfl, calm_row hc hR, hc.below hb hw (Nat.le_refl _)⟩
  have hend6 : ∀ W, Below w.heap.size (((((w.alloc (.cells #[.string a0] 9)).alloc (.cells #[.string a1] 9)).alloc (.cells #[.slice none 0 0] 26)).alloc (.cells #[.int .i64 0, .int .u64 0, .string ⟨#[]⟩] 30))) W → True := fun _ _ => trivial
  clear hend6
  unfold vers_Defs.f at h
  by_cases c0 : a2 < 0
  · rw [if_pos c0] at h
    have c0b := decide_eq_true c0
    obtain ⟨⟨t1, t2, t3⟩, ht, h1⟩ := Option.bind_eq_some_iff.mp h
    clear h
    simp only [Option.some.injEq, Prod.mk.injEq] at h1
    obtain ⟨rfl, rfl, rfl, rfl⟩ := h1
    refine callsIn_wide.1 (callsIn_of_wp_marks (n := 1) Try.func11 rfl trivial (wpIn_wide.2 ?_))
    simp only [Try.ntmps11, List.size_toArray, List.length_cons, List.length_nil, Nat.reduceAdd, Nat.reduceSub, Array.replicate_succ, Array.replicate_zero, List.push_toArray, List.append_toArray, List.nil_append, List.cons_append]
    go_wp2_with (first | (go_at_call 20; go_must (refine (fail_Of.calls 6 t1 t2 t3 _ ht).mono ?_; rintro e w' ⟨rfl, hb⟩; have g6' := blk_below g6 hb; have g7' := blk_below g7 hb; have c60 := blk_cell g6' 0; have c70 := blk_cell g7' 0; have c71 := blk_cell g7' 1; have c72 := blk_cell g7' 2; have f60 := blk_frozen g6' 0; have f70 := blk_frozen g7' 0; have f71 := blk_frozen g7' 1; have f72 := blk_frozen g7' 2)))
    obtain ⟨s6, s7, sf, sb, _⟩ := stored13 (by omega) g6' g7' (.slice none 0 0) (.int .i64 t1) (.int .u64 t2) (.string t3)
    exact hend _ _ _ _ _ _ _ rfl rfl rfl s6 s7 (Kd.R_nil _ _ _ _ _) (sb _ _ (below_step hb0 hb) (by omega) (by omega))
  rw [if_neg c0] at h
  have c0b := decide_eq_false c0
  by_cases c1 : a2 > 64
  · rw [if_pos c1] at h
    have c1b : decide (64 < a2) = true := decide_eq_true c1
    obtain ⟨⟨t1, t2, t3⟩, ht, h1⟩ := Option.bind_eq_some_iff.mp h
    clear h
    simp only [Option.some.injEq, Prod.mk.injEq] at h1
    obtain ⟨rfl, rfl, rfl, rfl⟩ := h1
    refine callsIn_wide.1 (callsIn_of_wp_marks (n := 1) Try.func11 rfl trivial (wpIn_wide.2 ?_))
    simp only [Try.ntmps11, List.size_toArray, List.length_cons, List.length_nil, Nat.reduceAdd, Nat.reduceSub, Array.replicate_succ, Array.replicate_zero, List.push_toArray, List.append_toArray, List.nil_append, List.cons_append]
    go_wp2_with (first | (go_at_call 20; go_must (refine (fail_Of.calls 6 t1 t2 t3 _ ht).mono ?_; rintro e w' ⟨rfl, hb⟩; have g6' := blk_below g6 hb; have g7' := blk_below g7 hb; have c60 := blk_cell g6' 0; have c70 := blk_cell g7' 0; have c71 := blk_cell g7' 1; have c72 := blk_cell g7' 2; have f60 := blk_frozen g6' 0; have f70 := blk_frozen g7' 0; have f71 := blk_frozen g7' 1; have f72 := blk_frozen g7' 2)))
    obtain ⟨s6, s7, sf, sb, _⟩ := stored13 (by omega) g6' g7' (.slice none 0 0) (.int .i64 t1) (.int .u64 t2) (.string t3)
    exact hend _ _ _ _ _ _ _ rfl rfl rfl s6 s7 (Kd.R_nil _ _ _ _ _) (sb _ _ (below_step hb0 hb) (by omega) (by omega))
  rw [if_neg c1] at h
  have c1b : decide (64 < a2) = false := decide_eq_false c1
  obtain ⟨n, rfl⟩ := Int.eq_ofNat_of_zero_le (show 0 ≤ a2 by omega)
  rw [Int.toNat_natCast] at h
  obtain ⟨l, hl, hgo⟩ := Option.bind_eq_some_iff.mp h
  clear h
  have hn64 : n ≤ 64 := by omega
  obtain ⟨hlen, _, _⟩ := chainL_at k a0 16 n 0 l hl
  replace hl := Aside0.mk hl
  replace hgo := Aside0.mk hgo
  refine callsIn_wide.1 (callsIn_of_wp_marks (n := 1) Try.func11 rfl trivial (wpIn_wide.2 ?_))
  simp only [Try.ntmps11, List.size_toArray, List.length_cons, List.length_nil, Nat.reduceAdd, Nat.reduceSub, Array.replicate_succ, Array.replicate_zero, List.push_toArray, List.append_toArray, List.nil_append, List.cons_append]
  go_wp2_with (first | (go_at_call 21; go_must (refine (chain_calls k a0 16 0 n l _ hn64 hl.out).mono ?_; rintro e w' ⟨lb, keep, own, rfl, hit, hkp, hok, hb⟩)))
  generalize hw4 : ((((w.alloc (.cells #[.string a0] 9)).alloc (.cells #[.string a1] 9)).alloc (.cells #[.slice none 0 0] 26)).alloc (.cells #[.int .i64 0, .int .u64 0, .string ⟨#[]⟩] 30)).alloc (.cells #[.slice none 0 0] 26) = w4 at hb hkp hit ⊢
  have hs4 : w4.heap.size = w.heap.size + 1 + 1 + 1 + 1 + 1 := by rw [← hw4]; simp
  have g8 : w4.heap[w.heap.size + 1 + 1 + 1 + 1]? = some (.cells #[.slice none 0 0] 26 (0, 0)) := by
    rw [← hw4]
    have := blk_new ((((w.alloc (.cells #[.string a0] 9)).alloc (.cells #[.string a1] 9)).alloc (.cells #[.slice none 0 0] 26)).alloc (.cells #[.int .i64 0, .int .u64 0, .string ⟨#[]⟩] 30)) (.cells #[.slice none 0 0] 26)
    simpa using this
  have g3' := blk_below (hw4 ▸ blk_alloc g3 _) hb
  have g4' := blk_below (hw4 ▸ blk_alloc g4 _) hb
  have g6' := blk_below (hw4 ▸ blk_alloc g6 _) hb
  have g7' := blk_below (hw4 ▸ blk_alloc g7 _) hb
  have g8' := blk_below g8 hb
  have hbw : Below w.heap.size w w' := below_step (hw4 ▸ below_alloc hb0 _) hb
  clear hw4 g8 g3 g4 g6 g7 hb0
  have hsz' : w.heap.size + 1 + 1 + 1 + 1 + 1 ≤ w'.heap.size := by have := hb.size; omega
  have hkp' : ∀ b, keep b → w.heap.size + 1 + 1 + 1 + 1 + 1 ≤ b ∧ b < w'.heap.size := fun b hb => by have := hkp b hb; omega
  clear hkp hb hs4
  refine wp_range2 (w0 := w') rfl (fun _ _ => rfl) hit (fun b hb => ⟨(hkp' b hb).2, rfl⟩) (fun _ => rfl)
    (fun i W => ∃ (xs : List S38) (v8 : Value), vers_Defs.go k a0 a1 (l.drop i) xs = some (r1, r2, r3, r4) ∧ W.heap[w.heap.size]? = some (.cells #[.string a0] 9 (0, 0)) ∧ W.heap[w.heap.size + 1]? = some (.cells #[.string a1] 9 (0, 0)) ∧ W.heap[w.heap.size + 1 + 1]? = some (.cells #[.slice none 0 0] 26 (0, 0)) ∧ W.heap[w.heap.size + 1 + 1 + 1]? = some (.cells #[.int .i64 0, .int .u64 0, .string ⟨#[]⟩] 30 (0, 0)) ∧ W.heap[w.heap.size + 1 + 1 + 1 + 1]? = some (.cells #[v8] 26 (0, 0)) ∧
      Kd.R k38 38 W w.heap.size (fun b => w.heap.size + 1 + 1 + 1 + 1 + 1 ≤ b ∧ ¬ keep b) v8 xs ∧ Below w.heap.size w W ∧ w'.heap.size ≤ W.heap.size ∧ xs.length = i)
    (fun i c W => c = .ret ∧ ∃ v, W.heap[w.heap.size + 1 + 1]? = some (.cells #[v] 26 (0, 0)) ∧ W.heap[w.heap.size + 1 + 1 + 1]? = some (.cells #[.int .i64 r2, .int .u64 r3, .string r4] 30 (0, 0)) ∧ Kd.R k38 38 W w.heap.size (fun _ => True) v r1 ∧ Below w.heap.size w W)
    ?hI ?hIx ?hIo ?h0 ?hround ?hdone ?hstop
  case hI =>
    rintro i A A' hc ⟨xs, v8, h1, g3, g4, g6, g7, g8, hR, hb, hs, hxl⟩
    exact ⟨xs, v8, h1, hc.block _ _ g3 (.inl rfl), hc.block _ _ g4 (.inl rfl), hc.block _ _ g6 (.inl rfl), hc.block _ _ g7 (.inl rfl), hc.block _ _ g8 (.inl rfl), calm_row hc hR, hc.below hb (by omega) (by omega), Nat.le_trans hs hc.size, hxl⟩
  case hIx =>
    rintro i c A A' hc ⟨rfl, v, g6, g7, hR, hb⟩
    exact ⟨rfl, v, hc.block _ _ g6 (.inl rfl), hc.block _ _ g7 (.inl rfl), calm_row hc hR, hc.below hb (by omega) (by omega)⟩
  case hIo =>
    rintro i A b v hob ⟨xs, v8, h1, g3, g4, g6, g7, g8, hR, hb, hs, hxl⟩
    have hkb := hkp' b (hok b hob)
    refine ⟨xs, v8, h1, blk_far g3 (by simp; omega) _, blk_far g4 (by simp; omega) _, blk_far g6 (by simp; omega) _, blk_far g7 (by simp; omega) _, blk_far g8 (by simp; omega) _, Kd.R_far hR (fun c hc => ?_) _, hb.setCell (by simp; omega) _, ?_, hxl⟩
    · rintro rfl
      exact hc.2 (hok _ hob)
    · have h2 := (KeepsOthers.setCell A ⟨b, 0, none⟩ v).size
      omega
  case h0 => exact ⟨[], _, hgo.out, g3', g4', g6', g7', g8', Kd.R_nil _ _ _ _ _, hbw, Nat.le_refl _, rfl⟩
  case hstop =>
    rintro D i c W hD hi ⟨rfl, v, g6, g7, hR, hb⟩ hm
    go_wp2
    exact hendD _ _ _ _ _ _ _ D w'.heap.size rfl rfl rfl hm hD (by omega) g6 g7 hR hb
  case hdone =>
    rintro D W hD ⟨xs, v8, h1, g3, g4, g6, g7, g8, hR, hb, hs, hxl⟩ hm
    have hx : xs = r1 ∧ 0 = r2 ∧ 0 = r3 ∧ ⟨#[]⟩ = r4 := by
      rw [List.drop_of_length_le (by omega)] at h1
      simpa [vers_Defs.go] using h1
    obtain ⟨rfl, rfl, rfl, rfl⟩ := hx
    clear hxl h1
    obtain ⟨A8, cc8, rfl⟩ := Kd.R_slice hR
    have c80 := blk_cell g8 0; have c60 := blk_cell g6 0; have c70 := blk_cell g7 0; have c71 := blk_cell g7 1; have c72 := blk_cell g7 2; have f60 := blk_frozen g6 0; have f70 := blk_frozen g7 0; have f71 := blk_frozen g7 1; have f72 := blk_frozen g7 2; have f80 := blk_frozen g8 0
    dsimp only
    go_wp2
    obtain ⟨s6, s7, sf, sb, _⟩ := stored13 (by omega) g6 g7 (.slice A8 xs.length cc8) (.int .i64 0) (.int .u64 0) (.string ⟨#[]⟩)
    refine hendD _ _ _ _ _ _ _ D w'.heap.size rfl rfl rfl ((sf _ (by omega) (by omega)).trans hm) hD (by omega) s6 s7 ?_ (sb _ _ hb (by omega) (by omega))
    exact Kd.R_mono (Kd.R_move hR (fun k hk => sf _ (by omega) (by omega))) (fun _ _ => trivial)
  case hround =>
    rintro lp i W hl' hlr hi ⟨xs, v8, h1, g3, g4, g6, g7, g8, hR, hb, hs, hxl⟩ K hK
    have hxa := Aside0.mk hxl
    have hxb : (xs.length + 1) * 24 ≤ 140737488355328 := by omega
    have hil : i < l.length := by omega
    rw [List.drop_eq_getElem_cons hil] at h1
    have hg : l.getD i 0 = l[i] := by simp [List.getD, hil]
    clear hxl hend hendD g3' g4' g6' g7' g8' hit hgo hl
    rw [params1, hg]
    generalize l[i] = p at h1 ⊢
    clear hg
    simp only [List.setIfInBounds_toArray, List.set_cons_zero, List.set_cons_succ]
    refine round_region (by rfl) (by repeat (first | exact NoOut.roundEnd | exact NoOut.false | apply NoOut.then | apply NoOut.inBlock)) ?_
    go_wp2
    refine hK _ _ (Below.refl _ _) (fun W2 hc => ?_)
    replace g3 := hc.block _ _ g3 (.inl rfl)
    replace g4 := hc.block _ _ g4 (.inl rfl)
    replace g6 := hc.block _ _ g6 (.inl rfl)
    replace g7 := hc.block _ _ g7 (.inl rfl)
    replace g8 := hc.block _ _ g8 (.inl rfl)
    replace hR := calm_row hc hR
    replace hb := hc.below hb (by omega) (by omega)
    replace hs := Nat.le_trans hs hc.size
    clear hc hK hlr
    unfold vers_Defs.go at h1
    obtain ⟨⟨q1, q2, ew⟩, e4, h2⟩ := Option.bind_eq_some_iff.mp h1
    clear h1
    dsimp only at h2
    clear W
    have c30 := blk_cell g3 0; have f30 := blk_frozen g3 0; have c40 := blk_cell g4 0; have f40 := blk_frozen g4 0
    refine wpIn_block (wpIn_seq (round_region (by rfl) (by repeat (first | exact NoOut.roundEnd | exact NoOut.false | apply NoOut.then | apply NoOut.inBlock)) ?_))
    go_wp2_with (first | (go_at_call 22; go_must (with_reducible refine (vers_def.calls k a0 a1 p q1 q2 ew _ e4).mono ?_; rintro e w5 ⟨rfl, hb5⟩; have g9 := blk_new w5 (.cells #[.int .i64 0, .string ⟨#[]⟩] 38); have c90 := blk_cell g9 0; have c91 := blk_cell g9 1; have f90 := blk_frozen g9 0; have f91 := blk_frozen g9 1)))
    have g9' := blk_new w5 (.cells #[.int .i64 q1, .string q2] 38)
    have hb9 : Below w5.heap.size w5 (w5.alloc (.cells #[.int .i64 q1, .string q2] 38)) := below_alloc (Below.refl w5.heap.size w5) _
    generalize hW4 : w5.alloc (.cells #[.int .i64 q1, .string q2] 38) = W4 at g9' hb9 ⊢
    clear hW4 c90 c91 f90 f91 g9 c30 f30 c40 f40
    have hb6 := below_step hb5 hb9
    have hs9 := hb9.size
    have hx9 : W2.heap.size ≤ w5.heap.size := hb5.size
    clear hb9 hb5
    replace g3 := blk_below g3 hb6
    replace g4 := blk_below g4 hb6
    replace g6 := blk_below g6 hb6
    replace g7 := blk_below g7 hb6
    replace g8 := blk_below g8 hb6
    replace hR := Kd.R_below hR hb6
    replace hb := below_step hb hb6
    have hkb : ∀ c, keep c → W4.heap[c]? = W2.heap[c]? := fun c hc => hb6.block c (by have := hkp' c hc; omega)
    have hL := Leaves.of_below (B := w'.heap.size) hb6
    have hs5 : W2.heap.size ≤ W4.heap.size := hb6.size
    clear hb6
    by_cases hew : ew = 0
    · rw [if_pos hew] at h2
      have ew0 : (ew != 0) = false := bne_eq_false_iff_eq.mpr hew
      refine wpIn_seq (wpIn_seq (round_region (by rfl) (by repeat (first | exact NoOut.roundEnd | exact NoOut.false | apply NoOut.then | apply NoOut.inBlock)) ?_))
      go_wp2
      refine wpIn_cond_false (by simp [go_sem, ew0]) (wpIn_skip ?_)
      go_wp2
      refine round_region (by rfl) (by repeat (first | exact NoOut.roundEnd | exact NoOut.false | apply NoOut.then | apply NoOut.inBlock)) ?_
      obtain ⟨A8, cc8, rfl⟩ := Kd.R_slice hR
      have c80 := blk_cell g8 0; have f80 := blk_frozen g8 0
      have c90 := blk_cell g9' 0; have c91 := blk_cell g9' 1; have f90 := blk_frozen g9' 0; have f91 := blk_frozen g9' 1
      go_wp2_with (first | ((with_reducible refine gate_builtin (b := .append) (xs := #[.tmp 35, .tmp 37]) rfl ?_); at_builtin; go_must (refine Kd.R_append k38 (w0 := w) w.heap.size rfl (.tmp 35) (.tmp 37) 26 38 (.agg #[.int .i64 0, .string ⟨#[]⟩]) 24 rfl Try.underlying26 info38 rfl (by decide) (by omega) (.slice A8 xs.length cc8) xs (⟨q1, q2⟩ : S38) [.int .i64 q1, .string q2] (fun b => w.heap.size + 1 + 1 + 1 + 1 + 1 ≤ b ∧ ¬ keep b) (fun _ => False) rfl rfl ?aP (fun _ hk => hk.elim) ?aF hR hb ?aS ?aL ?_; (case aP => exact k38_mkM _ _ _ (⟨q1, q2⟩ : S38)); (case aF => exact fun c hc => ⟨by omega, fun hk => by have := hkp' c hk; omega⟩); (case aS => omega); (case aL => exact hxb); intro v1 w6 hR1 hb1 hg1 _; obtain ⟨A9, cc9, rfl⟩ := Kd.R_slice hR1; have g8' := blk_grown g8 hg1 (Kd.R_away hR (fun c hc => by omega)); have c81 := blk_cell g8' 0; have f81 := blk_frozen g8' 0)))
      have hne : ∀ c, c < w.heap.size + 1 + 1 + 1 + 1 + 1 → some c ≠ (Value.slice A8 xs.length cc8).ownBlock := fun c hc => Kd.R_away hR (fun k hk => by omega)
      show _ ∧ _ ∧ _
      refine ⟨(hL.trans (Leaves.grown hg1 hg1.size (fun c hc => by obtain ⟨cs, hcs⟩ := Kd.R_typed hR c hc; exact ⟨_, _, _, hcs⟩))).trans (Leaves.setCell _ _ _), fun c hc => ?_, xs ++ [⟨q1, q2⟩], .slice A9 (xs.length + 1) cc9, h2, blk_far (blk_grown g3 hg1 (hne _ (by omega))) (by simp <;> omega) _, blk_far (blk_grown g4 hg1 (hne _ (by omega))) (by simp <;> omega) _, blk_far (blk_grown g6 hg1 (hne _ (by omega))) (by simp <;> omega) _, blk_far (blk_grown g7 hg1 (hne _ (by omega))) (by simp <;> omega) _, blk_set g8' 0 _, ?_, ?_, ?_, by simp [hxa.out]⟩
      · have := hkp' c hc
        rw [Below.heap_setCell _ _ _ _ (by simp; omega)]
        exact (hg1.block c (by omega) (Kd.R_away hR (fun k hk e => hk.2 (e ▸ hc)))).trans (hkb c hc)
      · have := Kd.R_far hR1 (p := ⟨w.heap.size + 1 + 1 + 1 + 1, 0, none⟩) (fun k hk => by have := hk.1; simp; omega) (Value.slice A9 (xs.length + 1) cc9)
        simpa using this
      · exact hb1.setCell (by simp; omega) _
      · have h1 := hg1.size
        have h2 := (KeepsOthers.setCell w6 ⟨w.heap.size + 1 + 1 + 1 + 1, 0, none⟩ (Value.slice A9 (xs.length + 1) cc9)).size
        omega
    · rw [if_neg hew] at h2
      have ew0 : (ew != 0) = true := bne_iff_ne.mpr hew
      obtain ⟨⟨u1, u2, u3⟩, hat, h3⟩ := Option.bind_eq_some_iff.mp h2
      clear h2
      simp only [Option.some.injEq, Prod.mk.injEq] at h3
      obtain ⟨rfl, rfl, rfl, rfl⟩ := h3
      refine wpIn_seq (wpIn_seq (round_region (by rfl) (by repeat (first | exact NoOut.roundEnd | exact NoOut.false | apply NoOut.then | apply NoOut.inBlock)) ?_))
      go_wp2
      refine wpIn_cond_true (by simp [go_sem, ew0]) (wpIn_seq (round_region (by rfl) (by repeat (first | exact NoOut.roundEnd | exact NoOut.false | apply NoOut.then | apply NoOut.inBlock)) ?_))
      go_wp2_with (first | (go_at_call 23; go_must (with_reducible refine (fail_At.calls ew p u1 u2 u3 _ hat).mono ?_; rintro e w6 ⟨rfl, hb7⟩; have g6' := blk_below g6 hb7; have g7' := blk_below g7 hb7; have c60 := blk_cell g6' 0; have c70 := blk_cell g7' 0; have c71 := blk_cell g7' 1; have c72 := blk_cell g7' 2; have f60 := blk_frozen g6' 0; have f70 := blk_frozen g7' 0; have f71 := blk_frozen g7' 1; have f72 := blk_frozen g7' 2)))
      refine wpIn_ret ?_
      obtain ⟨s6, s7, sf, sb, ss⟩ := stored13 (by omega) g6' g7' (.slice none 0 0) (.int .i64 u1) (.int .u64 u2) (.string u3)
      have hl7 := hb7.size
      show _ ∧ _ ∧ _
      refine ⟨((((hL.trans (Leaves.of_below hb7)).trans (Leaves.setCell _ _ _)).trans (Leaves.setCell _ _ _)).trans (Leaves.setCell _ _ _)).trans (Leaves.setCell _ _ _), fun c hc => ?_, rfl, _, s6, s7, Kd.R_nil _ _ _ _ _, sb _ _ (below_step hb hb7) (by omega) (by omega)⟩
      have := hkp' c hc
      rw [sf c (by omega) (by omega)]
      exact (hb7.block c (by omega)).trans (hkb c hc)
end

end Go.Proofs.Ytoaliamemkjfhaa.PAll
