/-
  What layer 12 computes: versions that are defined.
-/
import Derived.Test.YtoaliamemkjfhaaVersNice
import Derived.Laws.BitsLemmas
namespace Go.Proofs.Ytoaliamemkjfhaa.Vers
open Go Go.RowKit Go.Proofs.Ytoaliamemkjfhaa.PAll Go.Proofs.YtoaliamemkjfhaaW.PrintWords Go.Proofs.YtoaliamemkjfhaaW.PrintLast Go.Proofs.Ytoaliamemkjfhaa.Nice
set_option linter.unusedVariables false

theorem law_speaks : Ev (fun k => turnbucklelaw12_speaks.f k) true := Ev.of (g := fun k => turnbucklelaw12_speaks.f k) (fun k => turnbucklelaw12_speaks.mono k) (k := 60) (by decide +kernel)
theorem wraps_u64 (n : Int) (h₀ : 0 ≤ n) (h₁ : n < 2 ^ 64) : IntKind.u64.wrap n = n := by rw [IntKind.wrap_u64]; omega
/-- A place further on. -/
def ad (a t : Nat) : Nat := (a + t) % 18446744073709551616
theorem ad_lt (a t : Nat) : ad a t < 18446744073709551616 := Nat.mod_lt _ (by decide)
theorem ad_eq (a t : Nat) : IntKind.u64.wrap ((a : Int) + (t : Int)) = ((ad a t : Nat) : Int) := by rw [IntKind.wrap_u64]; unfold ad; omega
def numF (b : ByteArray) (a : Nat) (n : Int) : Nat := (atF b a n).1
theorem getS_lt64 (s : ByteArray) : getS s < 18446744073709551616 := by
  unfold getS
  by_cases h : s.size ≤ 8
  · rw [if_pos h]
    refine Nat.lt_of_lt_of_le (getL_lt _ (bl_lt s)) ?_
    rw [bl_length]
    exact Nat.le_trans (Nat.pow_le_pow_right (by decide) h) (by decide)
  · rw [if_neg h]
    decide
theorem numF_lt (b : ByteArray) (a : Nat) (n : Int) : numF b a n < 18446744073709551616 := by
  unfold numF atF
  split
  · exact getS_lt64 _
  · decide
theorem num_ev (b : ByteArray) (a : Nat) (n : Int) (hb : b.size ≤ 140737488351232) (ha : a < 18446744073709551616) : Ev (fun k => vers_number.f k b a n) (numF b a n : Nat) := by
  unfold vers_number.f
  exact Ev.bind (at_ev b a n hb ha) (Ev.now _)
theorem there_eq (b : ByteArray) (a n : Nat) (hb : b.size ≤ 140737488351232) (ha : a < 18446744073709551616) (hn : n < 18446744073709551616) : vers_there.f b a n = some (decide (a + n ≤ b.size)) := by
  unfold vers_there.f
  rw [part_eq b a n hb ha hn, Option.bind_some, partF]
  split <;> simp [*]
theorem vtext_eq (s : ByteArray) (a : Nat) (hs : s.size ≤ 140737488351232) : vers_text.f s a = some (textF s a 32) := by
  unfold vers_text.f
  rw [text_eq s a 32 hs, Option.bind_some]
theorem has_eq (b : ByteArray) (a n : Nat) (hb : b.size ≤ 140737488351232) (ha : a < 18446744073709551616) (hn : n < 18446744073709551616) : turnbuckleref12_has.f b a n = some (decide (a + n ≤ b.size)) := by
  unfold turnbuckleref12_has.f
  rw [u64w (x := (b.size : Int)) (by omega) (by omega)]
  by_cases h : a ≤ b.size
  · rw [if_pos (by omega), u64w (by omega) (by omega)]
    congr 1
    exact decide_eq_decide.2 (by omega)
  · rw [if_neg (by omega)]
    congr 1
    exact (decide_eq_false (by omega)).symm
theorem rnum_ev (b : ByteArray) (a n : Nat) (hb : b.size ≤ 140737488351232) (ha : a < 18446744073709551616) (h1 : 1 ≤ n) (h8 : n ≤ 8) : Ev (fun k => turnbuckleref12_num.f k b a n) (numF b a n : Nat) := by
  unfold turnbuckleref12_num.f numF atF
  rw [u64w (x := (n : Int)) (by omega) (by omega), has_eq b a n hb ha (by omega)]
  simp only [Option.bind_some]
  by_cases h : a + n ≤ b.size
  · rw [decide_eq_true h]
    simp only [if_true]
    have e : ((a : Int) + n).toNat = a + n := by omega
    have hr := rget_ev (b.extract a (a + n)) (by rw [ByteArray.size_extract]; omega)
    rw [if_pos (show 1 ≤ (n : Int) ∧ (n : Int) ≤ 8 ∧ a + ((n : Int)).toNat ≤ b.size by omega), Int.toNat_natCast]
    refine Ev.congr (fun k => ?_) (Ev.bind hr (Ev.now _))
    rw [w64 (x := (a : Int)) (by omega) (by omega), w64 (x := (a : Int) + n) (by omega) (by omega), if_pos (by omega), if_pos (by omega), if_pos (by omega), e, Int.toNat_natCast]
  · rw [decide_eq_false h]
    simp only [Bool.false_eq_true, if_false]
    rw [if_neg (by omega)]
    exact Ev.now _
attribute [irreducible] numF ad

/-- Where an entry's name's place is told. -/
def fstF (b : ByteArray) (a : Nat) : Nat := ad a (numF b (ad a 12) 4)
/-- One entry: its number, its name, what is wrong with it. -/
def D (b names : ByteArray) (a : Nat) : Int × ByteArray × Int :=
  if ¬ (a + 20 ≤ b.size) ∨ ¬ (fstF b a + 8 ≤ b.size) then (0, ⟨#[]⟩, 2)
  else if ¬ (numF b a 2 = 1) ∨ numF b (ad a 6) 2 = 0 then (0, ⟨#[]⟩, 4)
  else if (textF names (numF b (fstF b a) 4) 32).2 = true then (((numF b (ad a 4) 2 % 32768 : Nat) : Int), (textF names (numF b (fstF b a) 4) 32).1, 0) else (0, ⟨#[]⟩, 25)
theorem and15 (n : Nat) (h : n < 18446744073709551616) : wrap64 (Go.bits .and .u64 (n : Int) 32767) = ((n % 32768 : Nat) : Int) := by
  have e : Go.bits .and .u64 (n : Int) 32767 = ((n &&& 32767 : Nat) : Int) := (bits_nat .u64 64 (by decide) wraps_u64 n 32767 h (by decide)).1
  have e2 : n &&& 32767 = n % 32768 := Nat.and_two_pow_sub_one_eq_mod n 15
  rw [e, e2, w64 (by omega) (by omega)]
theorem mod15 (n : Nat) (h : n < 18446744073709551616) : wrap64 (Int.tmod (n : Int) 32768) = ((n % 32768 : Nat) : Int) := by
  have e : Int.tmod (n : Int) 32768 = ((n % 32768 : Nat) : Int) := rfl
  rw [e, w64 (by omega) (by omega)]
theorem def_ev (b names : ByteArray) (a : Nat) (hb : b.size ≤ 140737488351232) (hn : names.size ≤ 140737488351232) (ha : a < 18446744073709551616) : Ev (fun k => vers_def.f k b names a) (D b names a) := by
  obtain ⟨K0, e0⟩ := num_ev b (ad a 12) 4 hb (ad_lt _ _)
  obtain ⟨K1, e1⟩ := num_ev b (fstF b a) 4 hb (ad_lt _ _)
  obtain ⟨K2, e2⟩ := num_ev b a 2 hb ha
  obtain ⟨K3, e3⟩ := num_ev b (ad a 6) 2 hb (ad_lt _ _)
  obtain ⟨K4, e4⟩ := num_ev b (ad a 4) 2 hb (ad_lt _ _)
  have w12 : IntKind.u64.wrap ((a : Int) + 12) = ((ad a 12 : Nat) : Int) := ad_eq a 12
  have w6 : IntKind.u64.wrap ((a : Int) + 6) = ((ad a 6 : Nat) : Int) := ad_eq a 6
  have w4 : IntKind.u64.wrap ((a : Int) + 4) = ((ad a 4 : Nat) : Int) := ad_eq a 4
  have wf : IntKind.u64.wrap ((a : Int) + ((numF b (ad a 12) 4 : Nat) : Int)) = ((fstF b a : Nat) : Int) := ad_eq a _
  have t20 : vers_there.f b a 20 = some (decide (a + 20 ≤ b.size)) := there_eq b a 20 hb ha (by decide)
  have t8 : vers_there.f b (fstF b a : Nat) 8 = some (decide (fstF b a + 8 ≤ b.size)) := there_eq b _ 8 hb (ad_lt _ _) (by decide)
  have tx := vtext_eq names (numF b (fstF b a) 4) hn
  have l4 := numF_lt b (ad a 4) 2
  dsimp only at e0 e1 e2 e3 e4
  refine ⟨K0 + K1 + K2 + K3 + K4 + 1, fun k hk => ?_⟩
  obtain ⟨j, rfl⟩ : ∃ j, k = j + 1 := ⟨k - 1, by omega⟩
  show vers_def.f (j + 1) b names a = _
  unfold vers_def.f
  rw [t20, Option.bind_some, w12, e0 (j + 1) (by omega), Option.bind_some, wf, e1 (j + 1) (by omega), Option.bind_some, tx, Option.bind_some, t8, Option.bind_some, w6, e2 (j + 1) (by omega), Option.bind_some, e3 (j + 1) (by omega), Option.bind_some]
  simp only [vers_def.j0, w4, e4 j (by omega), Option.bind_some, and15 _ l4]
  unfold D
  by_cases c1 : a + 20 ≤ b.size
  · by_cases c2 : fstF b a + 8 ≤ b.size
    · rw [if_neg (show ¬ (¬ (a + 20 ≤ b.size) ∨ ¬ (fstF b a + 8 ≤ b.size)) by simp [c1, c2])]
      simp only [c1, c2, decide_true, if_true]
      by_cases c3 : numF b a 2 = 1
      · by_cases c4 : numF b (ad a 6) 2 = 0
        · simp [c3, c4]
        · simp [c3, c4]
          split <;> rfl
      · simp [c3, show ¬ ((numF b a 2 : Nat) : Int) = 1 by omega]
    · simp [c1, c2]
  · simp [c1]
/-- The next entry's place. -/
def nxt (b : ByteArray) (a : Nat) : Nat := ad a (numF b (ad a 16) 4)
/-- So many entries. -/
def run (b names : ByteArray) : Nat → Nat → List (Int × ByteArray) → List (Int × ByteArray) × Int × Nat
  | 0, _, xs => (xs, 0, 0)
  | m + 1, a, xs => if (D b names a).2.2 = 0 then run b names m (nxt b a) (xs ++ [((D b names a).1, (D b names a).2.1)]) else ([], (D b names a).2.2, a)
def places (b : ByteArray) : Nat → Nat → List Int
  | 0, _ => []
  | m + 1, a => (a : Int) :: places b m (nxt b a)
theorem chain_ev (b : ByteArray) (hb : b.size ≤ 140737488351232) : ∀ (m a : Nat), a < 18446744073709551616 → Ev (fun k => chainL k b 16 m (a : Int)) (places b m a)
  | 0, a, _ => Ev.now _
  | m + 1, a, ha => by
    have w16 : IntKind.u64.wrap ((a : Int) + 16) = ((ad a 16 : Nat) : Int) := ad_eq a 16
    have h1 := at_ev b (ad a 16) 4 hb (ad_lt _ _)
    unfold chainL
    rw [w16]
    refine Ev.bind h1 ?_
    have wn : IntKind.u64.wrap ((a : Int) + (((atF b (ad a 16) 4).1 : Nat) : Int)) = ((nxt b a : Nat) : Int) := by
      have h := ad_eq a (numF b (ad a 16) 4)
      unfold numF at h
      unfold nxt numF
      exact h
    dsimp only
    rw [wn]
    exact Ev.bind (chain_ev b hb m (nxt b a) (ad_lt _ _)) (Ev.now _)
def S38of (p : Int × ByteArray) : S38 := ⟨p.1, p.2⟩
def S37of (p : Int × ByteArray) : S37 := ⟨p.1, p.2⟩
theorem go_ev (b names : ByteArray) (hb : b.size ≤ 140737488351232) (hn : names.size ≤ 140737488351232) : ∀ (m a : Nat), a < 18446744073709551616 → ∀ xs, Ev (fun k => vers_Defs.go k b names (places b m a) (xs.map S38of)) ((run b names m a xs).1.map S38of, (run b names m a xs).2.1, ((run b names m a xs).2.2 : Nat), ⟨#[]⟩)
  | 0, a, _, xs => Ev.now _
  | m + 1, a, ha, xs => by
    have h1 := def_ev b names a hb hn ha
    unfold places vers_Defs.go run
    refine Ev.bind h1 ?_
    by_cases c : (D b names a).2.2 = 0
    · simp only [c, if_true]
      have h2 := go_ev b names hb hn m (nxt b a) (ad_lt _ _) (xs ++ [((D b names a).1, (D b names a).2.1)])
      rw [List.map_append] at h2
      exact h2
    · simp only [c, if_false]
      exact Ev.now _
theorem rloop_ev (b names : ByteArray) (hb : b.size ≤ 140737488351232) (hn : names.size ≤ 140737488351232) (n : Nat) (h64 : n ≤ 64) : ∀ (m i a : Nat), i + m = n → a < 18446744073709551616 → ∀ xs, xs.length = i → Ev (fun k => turnbuckleref12_Defs.l0 k b names n (xs.map S37of) a i) ((run b names m a xs).1.map S37of, (run b names m a xs).2.1, ((run b names m a xs).2.2 : Nat)) := by
  intro m
  induction m with
  | zero =>
    intro i a hi ha xs hx
    refine Ev.step (f := fun _ => some (xs.map S37of, 0, 0)) (fun k => ?_) (Ev.now _)
    simp only [turnbuckleref12_Defs.l0]
    rw [if_neg (by omega)]
  | succ m ih =>
    intro i a hi ha xs hx
    have wi : wrap64 ((i : Int) + 1) = ((i + 1 : Nat) : Int) := by rw [w64 (by omega) (by omega)]; omega
    have hlen : (xs.map S37of).length < 5864062014805 := by rw [List.length_map]; omega
    have hin : (i : Int) < n := by omega
    obtain ⟨K0, e0⟩ := rnum_ev b (ad a 12) 4 hb (ad_lt _ _) (by omega) (by omega)
    obtain ⟨K1, e1⟩ := rnum_ev b (fstF b a) 4 hb (ad_lt _ _) (by omega) (by omega)
    obtain ⟨K2, e2⟩ := rnum_ev b a 2 hb ha (by omega) (by omega)
    obtain ⟨K3, e3⟩ := rnum_ev b (ad a 6) 2 hb (ad_lt _ _) (by omega) (by omega)
    obtain ⟨K4, e4⟩ := rnum_ev b (ad a 4) 2 hb (ad_lt _ _) (by omega) (by omega)
    obtain ⟨K5, e5⟩ := rnum_ev b (ad a 16) 4 hb (ad_lt _ _) (by omega) (by omega)
    obtain ⟨K6, e6⟩ := rtext_ev names (numF b (fstF b a) 4) 32 hn
    have w12 : IntKind.u64.wrap ((a : Int) + 12) = ((ad a 12 : Nat) : Int) := ad_eq a 12
    have w6 : IntKind.u64.wrap ((a : Int) + 6) = ((ad a 6 : Nat) : Int) := ad_eq a 6
    have w4 : IntKind.u64.wrap ((a : Int) + 4) = ((ad a 4 : Nat) : Int) := ad_eq a 4
    have w16 : IntKind.u64.wrap ((a : Int) + 16) = ((ad a 16 : Nat) : Int) := ad_eq a 16
    have wf : IntKind.u64.wrap ((a : Int) + ((numF b (ad a 12) 4 : Nat) : Int)) = ((fstF b a : Nat) : Int) := ad_eq a _
    have wn : IntKind.u64.wrap ((a : Int) + ((numF b (ad a 16) 4 : Nat) : Int)) = ((nxt b a : Nat) : Int) := ad_eq a _
    have t20 : turnbuckleref12_has.f b a 20 = some (decide (a + 20 ≤ b.size)) := has_eq b a 20 hb ha (by decide)
    have t8 : turnbuckleref12_has.f b (fstF b a : Nat) 8 = some (decide (fstF b a + 8 ≤ b.size)) := has_eq b _ 8 hb (ad_lt _ _) (by decide)
    have l4 := numF_lt b (ad a 4) 2
    have hrun : run b names (m + 1) a xs = if (D b names a).2.2 = 0 then run b names m (nxt b a) (xs ++ [((D b names a).1, (D b names a).2.1)]) else ([], (D b names a).2.2, a) := rfl
    dsimp only at e0 e1 e2 e3 e4 e5 e6
    simp only [Int.cast_ofNat_Int] at e0 e1 e2 e3 e4 e5
    -- what one round does
    have key : ∀ k, K0 + K1 + K2 + K3 + K4 + K5 + K6 ≤ k → turnbuckleref12_Defs.l0 (k + 3) b names n (xs.map S37of) a i =
        if (D b names a).2.2 = 0 then turnbuckleref12_Defs.l0 k b names n ((xs ++ [((D b names a).1, (D b names a).2.1)]).map S37of) (nxt b a : Nat) ((i + 1 : Nat) : Int) else some ([], (D b names a).2.2, (a : Int)) := by
      intro k hk
      simp only [turnbuckleref12_Defs.l0, turnbuckleref12_Defs.j2, turnbuckleref12_Defs.j3]
      rw [if_pos hin, w12, e0 (k + 2) (by omega), Option.bind_some, wf, t20, Option.bind_some, t8, Option.bind_some, w6, e2 (k + 1) (by omega), Option.bind_some, e3 (k + 1) (by omega), Option.bind_some, e1 k (by omega), Option.bind_some, e6 k (by omega), Option.bind_some, w4, e4 k (by omega), Option.bind_some, if_pos hlen, w16, e5 k (by omega), Option.bind_some, wn, wi, mod15 _ l4]
      unfold D
      by_cases c1 : a + 20 ≤ b.size
      · by_cases c2 : fstF b a + 8 ≤ b.size
        · rw [if_neg (show ¬ (¬ (a + 20 ≤ b.size) ∨ ¬ (fstF b a + 8 ≤ b.size)) by simp [c1, c2])]
          simp only [c1, c2, decide_true, if_true]
          by_cases c3 : numF b a 2 = 1
          · by_cases c4 : numF b (ad a 6) 2 = 0
            · simp [c3, c4]
            · simp only [c3, c4]
              by_cases c5 : (textF names (numF b (fstF b a) 4) 32).2 = true
              · simp [c4, c5, S37of]
              · simp [c4, c5]
          · simp [c3, show ¬ ((numF b a 2 : Nat) : Int) = 1 by omega]
        · simp [c1, c2]
      · simp [c1]
    rw [hrun]
    by_cases c : (D b names a).2.2 = 0
    · rw [if_pos c]
      obtain ⟨K, e⟩ := ih (i + 1) (nxt b a) (by omega) (ad_lt _ _) (xs ++ [((D b names a).1, (D b names a).2.1)]) (by simp; omega)
      refine ⟨K + (K0 + K1 + K2 + K3 + K4 + K5 + K6) + 3, fun k hk => ?_⟩
      obtain ⟨j, rfl⟩ : ∃ j, k = j + 3 := ⟨k - 3, by omega⟩
      have h := key j (by omega)
      rw [if_pos c] at h
      exact h.trans (e j (by omega))
    · rw [if_neg c]
      refine ⟨(K0 + K1 + K2 + K3 + K4 + K5 + K6) + 3, fun k hk => ?_⟩
      obtain ⟨j, rfl⟩ : ∃ j, k = j + 3 := ⟨k - 3, by omega⟩
      have h := key j (by omega)
      rw [if_neg c] at h
      exact h
/-- vers.Defs. -/
theorem defs_ev (b names : ByteArray) (n : Nat) (hb : b.size ≤ 140737488351232) (hn : names.size ≤ 140737488351232) (h64 : n ≤ 64) :
    Ev (fun k => vers_Defs.f k b names n) ((run b names n 0 []).1.map S38of, (run b names n 0 []).2.1, ((run b names n 0 []).2.2 : Nat), ⟨#[]⟩) := by
  unfold vers_Defs.f
  refine Ev.congr (fun k => ?_) (Ev.bind (f := fun k l => vers_Defs.go k b names l []) (chain_ev b hb n 0 (by decide)) (go_ev b names hb hn n 0 (by decide) []))
  rw [if_neg (by omega), if_neg (by omega), Int.toNat_natCast]
  rfl
theorem rdefs_ev (b names : ByteArray) (n : Nat) (hb : b.size ≤ 140737488351232) (hn : names.size ≤ 140737488351232) (h64 : n ≤ 64) :
    Ev (fun k => turnbuckleref12_Defs.f k b names n) ((run b names n 0 []).1.map S37of, (run b names n 0 []).2.1, ((run b names n 0 []).2.2 : Nat)) := by
  unfold turnbuckleref12_Defs.f
  refine Ev.congr (f := fun k => turnbuckleref12_Defs.j0 k b names n false) (fun k => by rw [if_neg (by omega), decide_eq_false (by omega)]) ?_
  refine Ev.step (fun k => ?_) (rloop_ev b names hb hn n h64 n 0 0 (by omega) (by decide) [] rfl)
  simp only [turnbuckleref12_Defs.j0, Bool.false_eq_true, if_false]
  rfl
end Go.Proofs.Ytoaliamemkjfhaa.Vers
