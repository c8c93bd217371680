/-
  What any bytes need.
-/
import Derived.Test.YtoaliamemkjfhaaNeedsNice
import Derived.Test.YtoaliamemkjfhaaPNdx12
import Derived.Laws.BitsLemmas
namespace Go.Proofs.Ytoaliamemkjfhaa.Pure
open Go Go.RowKit Go.Proofs.Ytoaliamemkjfhaa.PNd Go.Proofs.YtoaliamemkjfhaaW.PrintWords Go.Proofs.YtoaliamemkjfhaaW.PrintLast Go.Proofs.Ytoaliamemkjfhaa.NiceN
set_option linter.unusedVariables false

theorem law_speaks : Ev (fun k => turnbucklelaw12_speaks.f k) true := Ev.of (g := fun k => turnbucklelaw12_speaks.f k) (fun k => turnbucklelaw12_speaks.mono k) (k := 60) (by decide +kernel)
theorem wraps_u64 (n : Int) (h₀ : 0 ≤ n) (h₁ : n < 2 ^ 64) : IntKind.u64.wrap n = n := by rw [IntKind.wrap_u64]; omega
/-- A place further on. -/
def ad (a t : Nat) : Nat := (a + t) % 18446744073709551616
theorem ad_lt (a t : Nat) : ad a t < 18446744073709551616 := Nat.mod_lt _ (by decide)
theorem ad_eq (a t : Nat) : IntKind.u64.wrap ((a : Int) + (t : Int)) = ((ad a t : Nat) : Int) := by rw [IntKind.wrap_u64]; unfold ad; omega
def numF (b : ByteArray) (a : Nat) (n : Int) : Nat := (atF b a n).1
theorem getS_lt64 (s : ByteArray) : getS s < 18446744073709551616 := by
  unfold getS
  by_cases h : s.size ≤ 8
  · rw [if_pos h]
    refine Nat.lt_of_lt_of_le (getL_lt _ (bl_lt s)) ?_
    rw [bl_length]
    exact Nat.le_trans (Nat.pow_le_pow_right (by decide) h) (by decide)
  · rw [if_neg h]
    decide
theorem numF_lt (b : ByteArray) (a : Nat) (n : Int) : numF b a n < 18446744073709551616 := by
  unfold numF atF
  split
  · exact getS_lt64 _
  · decide
theorem num_ev (b : ByteArray) (a : Nat) (n : Int) (hb : b.size ≤ 140737488351232) (ha : a < 18446744073709551616) : Ev (fun k => vers_number.f k b a n) (numF b a n : Nat) := by
  unfold vers_number.f
  exact Ev.bind (at_ev b a n hb ha) (Ev.now _)
theorem there_eq (b : ByteArray) (a n : Nat) (hb : b.size ≤ 140737488351232) (ha : a < 18446744073709551616) (hn : n < 18446744073709551616) : vers_there.f b a n = some (decide (a + n ≤ b.size)) := by
  unfold vers_there.f
  rw [part_eq b a n hb ha hn, Option.bind_some, partF]
  split <;> simp [*]
theorem vtext_eq (s : ByteArray) (a : Nat) (hs : s.size ≤ 140737488351232) : vers_text.f s a = some (textF s a 32) := by
  unfold vers_text.f
  rw [text_eq s a 32 hs, Option.bind_some]
theorem has_eq (b : ByteArray) (a n : Nat) (hb : b.size ≤ 140737488351232) (ha : a < 18446744073709551616) (hn : n < 18446744073709551616) : turnbuckleref12_has.f b a n = some (decide (a + n ≤ b.size)) := by
  unfold turnbuckleref12_has.f
  rw [u64w (x := (b.size : Int)) (by omega) (by omega)]
  by_cases h : a ≤ b.size
  · rw [if_pos (by omega), u64w (by omega) (by omega)]
    congr 1
    exact decide_eq_decide.2 (by omega)
  · rw [if_neg (by omega)]
    congr 1
    exact (decide_eq_false (by omega)).symm
theorem rnum_ev (b : ByteArray) (a n : Nat) (hb : b.size ≤ 140737488351232) (ha : a < 18446744073709551616) (h1 : 1 ≤ n) (h8 : n ≤ 8) : Ev (fun k => turnbuckleref12_num.f k b a n) (numF b a n : Nat) := by
  unfold turnbuckleref12_num.f numF atF
  rw [u64w (x := (n : Int)) (by omega) (by omega), has_eq b a n hb ha (by omega)]
  simp only [Option.bind_some]
  by_cases h : a + n ≤ b.size
  · rw [decide_eq_true h]
    simp only [if_true]
    have e : ((a : Int) + n).toNat = a + n := by omega
    have hr := rget_ev (b.extract a (a + n)) (by rw [ByteArray.size_extract]; omega)
    rw [if_pos (show 1 ≤ (n : Int) ∧ (n : Int) ≤ 8 ∧ a + ((n : Int)).toNat ≤ b.size by omega), Int.toNat_natCast]
    refine Ev.congr (fun k => ?_) (Ev.bind hr (Ev.now _))
    rw [w64 (x := (a : Int)) (by omega) (by omega), w64 (x := (a : Int) + n) (by omega) (by omega), if_pos (by omega), if_pos (by omega), if_pos (by omega), e, Int.toNat_natCast]
  · rw [decide_eq_false h]
    simp only [Bool.false_eq_true, if_false]
    rw [if_neg (by omega)]
    exact Ev.now _
attribute [irreducible] numF ad
theorem mod15 (n : Nat) (h : n < 18446744073709551616) : wrap64 (Int.tmod (n : Int) 32768) = ((n % 32768 : Nat) : Int) := by
  have e : Int.tmod (n : Int) 32768 = ((n % 32768 : Nat) : Int) := rfl
  rw [e, w64 (by omega) (by omega)]
theorem and15 (n : Nat) (h : n < 18446744073709551616) : IntKind.i64.wrap (Go.bits .and .u64 (n : Int) 32767) = ((n % 32768 : Nat) : Int) := by
  have e : Go.bits .and .u64 (n : Int) 32767 = ((n &&& 32767 : Nat) : Int) := (bits_nat .u64 64 (by decide) wraps_u64 n 32767 h (by decide)).1
  have e2 : n &&& 32767 = n % 32768 := Nat.and_two_pow_sub_one_eq_mod n 15
  rw [e, e2, IntKind.wrap_i64]
  omega
theorem and2 (n : Nat) (h : n < 18446744073709551616) : (Go.bits .and .u64 (n : Int) 2 != 0) = (n / 2 % 2 == 1) := by
  have e : Go.bits .and .u64 (n : Int) 2 = ((n &&& 2 : Nat) : Int) := (bits_nat .u64 64 (by decide) wraps_u64 n 2 h (by decide)).1
  have e2 : n &&& 2 = (n % 4) &&& 2 := by
    rw [← Nat.and_two_pow_sub_one_eq_mod n 2, Nat.and_assoc]
    rfl
  rw [e, e2]
  have h4 : n % 4 = 0 ∨ n % 4 = 1 ∨ n % 4 = 2 ∨ n % 4 = 3 := by omega
  rcases h4 with h4 | h4 | h4 | h4
  · rw [h4, show n / 2 % 2 = 0 by omega]; rfl
  · rw [h4, show n / 2 % 2 = 0 by omega]; rfl
  · rw [h4, show n / 2 % 2 = 1 by omega]; rfl
  · rw [h4, show n / 2 % 2 = 1 by omega]; rfl
theorem div2 (n : Nat) (h : n < 18446744073709551616) : (Int.tmod (IntKind.u64.wrap (Int.tdiv (n : Int) 2)) 2 == 1) = (n / 2 % 2 == 1) := by
  have e : Int.tdiv (n : Int) 2 = ((n / 2 : Nat) : Int) := rfl
  rw [e, u64w (by omega) (by omega)]
  have e2 : Int.tmod ((n / 2 : Nat) : Int) 2 = ((n / 2 % 2 : Nat) : Int) := rfl
  rw [e2]
  by_cases c : n / 2 % 2 = 1
  · rw [c]; rfl
  · rw [beq_eq_false_iff_ne.mpr c, beq_eq_false_iff_ne.mpr (by omega)]
/-! ### one file's entry -/
def vF (b : ByteArray) (a : Nat) : Nat := ad a (numF b (ad a 8) 4)
def F (b names : ByteArray) (a : Nat) : ByteArray × Nat × Nat × Int :=
  if ¬ (a + 16 ≤ b.size) ∨ ¬ (vF b a + 16 ≤ b.size) then (⟨#[]⟩, 0, 0, 2)
  else if ¬ (numF b a 2 = 1) ∨ numF b (ad a 2) 2 = 0 then (⟨#[]⟩, 0, 0, 4)
  else if (textF names (numF b (ad a 4) 4) 32).2 = true then ((textF names (numF b (ad a 4) 4) 32).1, vF b a, numF b (ad a 2) 2, 0) else (⟨#[]⟩, 0, 0, 25)
theorem num2_lt (b : ByteArray) (a : Nat) : numF b a 2 < 65536 := by
  unfold numF atF
  split
  · rename_i h
    have hz : (b.extract a (a + (2 : Int).toNat)).size = 2 := by rw [ByteArray.size_extract]; omega
    unfold getS
    rw [if_pos (by omega)]
    have := getL_lt _ (bl_lt (b.extract a (a + (2 : Int).toNat)))
    rw [bl_length, hz] at this
    exact this
  · decide
theorem F_lt (b names : ByteArray) (a : Nat) : (F b names a).2.1 < 18446744073709551616 ∧ (F b names a).2.2.1 < 65536 := by
  have h2 := num2_lt b (ad a 2)
  have h1 : vF b a < 18446744073709551616 := ad_lt _ _
  unfold F
  split
  · exact ⟨(by decide : (0 : Nat) < 18446744073709551616), (by decide : (0 : Nat) < 65536)⟩
  · split
    · exact ⟨(by decide : (0 : Nat) < 18446744073709551616), (by decide : (0 : Nat) < 65536)⟩
    · split
      · exact ⟨h1, h2⟩
      · exact ⟨(by decide : (0 : Nat) < 18446744073709551616), (by decide : (0 : Nat) < 65536)⟩
theorem w64n {n : Nat} (h : n < 65536) : wrap64 (n : Int) = n := w64 (by omega) (by omega)
theorem file_ev (b names : ByteArray) (a : Nat) (hb : b.size ≤ 140737488351232) (hn : names.size ≤ 140737488351232) (ha : a < 18446744073709551616) :
    Ev (fun k => vers_file.f k b names a) ((F b names a).1, ((F b names a).2.1 : Int), ((F b names a).2.2.1 : Int), (F b names a).2.2.2) := by
  obtain ⟨K0, e0⟩ := num_ev b (ad a 8) 4 hb (ad_lt _ _)
  obtain ⟨K1, e1⟩ := num_ev b (ad a 4) 4 hb (ad_lt _ _)
  obtain ⟨K2, e2⟩ := num_ev b (ad a 2) 2 hb (ad_lt _ _)
  obtain ⟨K3, e3⟩ := num_ev b a 2 hb ha
  have w8 : IntKind.u64.wrap ((a : Int) + 8) = ((ad a 8 : Nat) : Int) := ad_eq a 8
  have w4 : IntKind.u64.wrap ((a : Int) + 4) = ((ad a 4 : Nat) : Int) := ad_eq a 4
  have w2 : IntKind.u64.wrap ((a : Int) + 2) = ((ad a 2 : Nat) : Int) := ad_eq a 2
  have wf : IntKind.u64.wrap ((a : Int) + ((numF b (ad a 8) 4 : Nat) : Int)) = ((vF b a : Nat) : Int) := ad_eq a _
  have t16 : vers_there.f b a 16 = some (decide (a + 16 ≤ b.size)) := there_eq b a 16 hb ha (by decide)
  have tv : vers_there.f b (vF b a : Nat) 16 = some (decide (vF b a + 16 ≤ b.size)) := there_eq b _ 16 hb (ad_lt _ _) (by decide)
  have tx := vtext_eq names (numF b (ad a 4) 4) hn
  have l2 := num2_lt b (ad a 2)
  dsimp only at e0 e1 e2 e3
  refine ⟨K0 + K1 + K2 + K3 + 1, fun k hk => ?_⟩
  obtain ⟨j, rfl⟩ : ∃ j, k = j + 1 := ⟨k - 1, by omega⟩
  show vers_file.f (j + 1) b names a = _
  unfold vers_file.f
  rw [t16, Option.bind_some, w8, e0 _ (by omega), Option.bind_some, w4, e1 _ (by omega), Option.bind_some, tx, Option.bind_some, w2, e2 _ (by omega), Option.bind_some, wf, tv, Option.bind_some, e3 _ (by omega), Option.bind_some]
  simp only [vers_file.j0]
  unfold F
  clear e0 e1 e2 e3 w8 w4 w2 wf t16 tv tx hk
  generalize vF b a = vv
  generalize numF b (ad a 2) 2 = n2 at l2 ⊢
  generalize numF b a 2 = n1
  have wk : wrap64 (n2 : Int) = (n2 : Int) := w64n l2
  rw [wk]
  generalize textF names (numF b (ad a 4) 4) 32 = tt
  have i1 : ((n1 : Int) = 1) = (n1 = 1) := propext (by omega)
  have i2 : ((n2 : Int) == 0) = decide (n2 = 0) := by
    by_cases c : n2 = 0
    · subst c; rfl
    · rw [decide_eq_false c]; exact beq_eq_false_iff_ne.mpr (by omega)
  simp only [i1, i2]
  by_cases c1 : a + 16 ≤ b.size
  · by_cases c2 : vv + 16 ≤ b.size
    · by_cases c3 : n1 = 1
      · by_cases c4 : n2 = 0
        · simp [c1, c2, c3, c4]
        · by_cases c5 : tt.2 = true
          · simp [c1, c2, c3, c4, c5]
          · simp [c1, c2, c3, c4, c5]
      · simp [c1, c2, c3]
    · simp [c1, c2]
  · simp [c1]
/-! ### places -/
def nx (b : ByteArray) (a : Nat) : Nat := ad a (numF b (ad a 12) 4)
def places (b : ByteArray) : Nat → Nat → List Int
  | 0, _ => []
  | m + 1, a => (a : Int) :: places b m (nx b a)
theorem chain_ev (b : ByteArray) (hb : b.size ≤ 140737488351232) : ∀ (m a : Nat), a < 18446744073709551616 → Ev (fun k => chainL k b 12 m (a : Int)) (places b m a)
  | 0, a, _ => Ev.now _
  | m + 1, a, ha => by
    have w16 : IntKind.u64.wrap ((a : Int) + 12) = ((ad a 12 : Nat) : Int) := ad_eq a 12
    have h1 := at_ev b (ad a 12) 4 hb (ad_lt _ _)
    unfold chainL
    rw [w16]
    refine Ev.bind h1 ?_
    have wn : IntKind.u64.wrap ((a : Int) + (((atF b (ad a 12) 4).1 : Nat) : Int)) = ((nx b a : Nat) : Int) := by
      have h := ad_eq a (numF b (ad a 12) 4)
      unfold numF at h
      unfold nx numF
      exact h
    dsimp only
    rw [wn]
    exact Ev.bind (chain_ev b hb m (nx b a) (ad_lt _ _)) (Ev.now _)
/-! ### rows -/
abbrev R := Int × ByteArray × ByteArray × Bool
def sN (p : R) : S50 := ⟨p.1, p.2.1, p.2.2.1, p.2.2.2⟩
def sR (p : R) : S61 := ⟨p.1, p.2.1, p.2.2.1, p.2.2.2⟩
def row (b names file : ByteArray) (v : Nat) : R := (((numF b (ad v 6) 2 % 32768 : Nat) : Int), file, (textF names (numF b (ad v 8) 4) 32).1, numF b (ad v 4) 2 / 2 % 2 == 1)
def inn (b names file : ByteArray) : Nat → Nat → List R → List R × Bool × Int × Nat
  | 0, _, xs => (xs, false, 0, 0)
  | m + 1, v, xs => if v + 16 ≤ b.size then (if (textF names (numF b (ad v 8) 4) 32).2 = true then (if xs.length = 64 then ([], true, 6, v) else inn b names file m (nx b v) (xs ++ [row b names file v])) else ([], true, 25, v)) else ([], true, 2, v)
def run (b names : ByteArray) : Nat → Nat → List R → List R × Int × Nat
  | 0, _, xs => (xs, 0, 0)
  | m + 1, a, xs => if (F b names a).2.2.2 = 0 then (if (inn b names (F b names a).1 (F b names a).2.2.1 (F b names a).2.1 xs).2.1 = true then ([], (inn b names (F b names a).1 (F b names a).2.2.1 (F b names a).2.1 xs).2.2.1, (inn b names (F b names a).1 (F b names a).2.2.1 (F b names a).2.1 xs).2.2.2)
      else run b names m (nx b a) (inn b names (F b names a).1 (F b names a).2.2.1 (F b names a).2.1 xs).1) else ([], (F b names a).2.2.2, a)
theorem inn_len (b names file : ByteArray) : ∀ m v xs, xs.length ≤ 64 → (inn b names file m v xs).1.length ≤ 64
  | 0, _, _, h => h
  | m + 1, v, xs, h => by
    unfold inn
    split
    · split
      · split
        · exact Nat.zero_le _
        · exact inn_len b names file m _ _ (by simp; omega)
      · exact Nat.zero_le _
    · exact Nat.zero_le _
theorem run_len (b names : ByteArray) : ∀ m a xs, xs.length ≤ 64 → (run b names m a xs).1.length ≤ 64
  | 0, _, _, h => h
  | m + 1, a, xs, h => by
    unfold run
    split
    · split
      · exact Nat.zero_le _
      · exact run_len b names m _ _ (inn_len _ _ _ _ _ _ h)
    · exact Nat.zero_le _
theorem inner_ev (b names file : ByteArray) (hb : b.size ≤ 140737488351232) (hn : names.size ≤ 140737488351232) : ∀ (m v : Nat), v < 18446744073709551616 → ∀ xs, 
    Ev (fun k => vers_Needs.inner k b names file (places b m v) (xs.map sN)) ((inn b names file m v xs).1.map sN, (inn b names file m v xs).2.1, (inn b names file m v xs).2.2.1, ((inn b names file m v xs).2.2.2 : Nat), ⟨#[]⟩)
  | 0, v, _, xs => Ev.now _
  | m + 1, v, hv, xs => by
    have w8 : IntKind.u64.wrap ((v : Int) + 8) = ((ad v 8 : Nat) : Int) := ad_eq v 8
    have w6 : IntKind.u64.wrap ((v : Int) + 6) = ((ad v 6 : Nat) : Int) := ad_eq v 6
    have w4 : IntKind.u64.wrap ((v : Int) + 4) = ((ad v 4 : Nat) : Int) := ad_eq v 4
    have t16 : vers_there.f b v 16 = some (decide (v + 16 ≤ b.size)) := there_eq b v 16 hb hv (by decide)
    have e8 := num_ev b (ad v 8) 4 hb (ad_lt _ _)
    have e6 := num_ev b (ad v 6) 2 hb (ad_lt _ _)
    have e4 := num_ev b (ad v 4) 2 hb (ad_lt _ _)
    have ih := fun xs => inner_ev b names file hb hn m (nx b v) (ad_lt _ _) xs
    have l6 := numF_lt b (ad v 6) 2
    have l4 := numF_lt b (ad v 4) 2
    unfold places vers_Needs.inner inn
    rw [w8, w6, w4]
    refine Ev.bind e8 ?_
    simp only [vtext_eq names _ hn, Option.bind_some, t16]
    by_cases c1 : v + 16 ≤ b.size
    · simp only [c1, decide_true, if_true]
      by_cases c2 : (textF names (numF b (ad v 8) 4) 32).2 = true
      · simp only [c2, if_true, List.length_map]
        by_cases c3 : xs.length = 64
        · simp only [c3, if_true]
          exact Ev.now _
        · simp only [c3, if_false]
          refine Ev.bind e6 (Ev.bind e4 ?_)
          have h := ih (xs ++ [row b names file v])
          rw [List.map_append] at h
          simp only [and15 _ l6, and2 _ l4]
          exact h
      · simp only [c2, if_false]
        exact Ev.now _
    · simp only [c1, decide_false, Bool.false_eq_true, if_false]
      exact Ev.now _
theorem go_ev (b names : ByteArray) (hb : b.size ≤ 140737488351232) (hn : names.size ≤ 140737488351232) : ∀ (m a : Nat), a < 18446744073709551616 → ∀ xs,
    Ev (fun k => vers_Needs.go k b names (places b m a) (xs.map sN)) ((run b names m a xs).1.map sN, (run b names m a xs).2.1, ((run b names m a xs).2.2 : Nat), ⟨#[]⟩)
  | 0, a, _, xs => Ev.now _
  | m + 1, a, ha, xs => by
    have h1 := file_ev b names a hb hn ha
    obtain ⟨l1, l2⟩ := F_lt b names a
    have ih := fun xs => go_ev b names hb hn m (nx b a) (ad_lt _ _) xs
    unfold places vers_Needs.go run
    generalize F b names a = q at h1 l1 l2 ⊢
    obtain ⟨q1, q2, q3, q4⟩ := q
    dsimp only at h1 l1 l2 ⊢
    refine Ev.bind h1 ?_
    dsimp only
    by_cases c : q4 = 0
    · simp only [c, if_true]
      refine Ev.congr (fun k => if_pos (show (0 : Int) ≤ (q3 : Int) ∧ (q3 : Int) ≤ 100000 by omega)) ?_
      rw [Int.toNat_natCast]
      refine Ev.bind (chain_ev b hb q3 q2 l1) (Ev.bind (inner_ev b names q1 hb hn q3 q2 l1 xs) ?_)
      dsimp only
      generalize inn b names q1 q3 q2 xs = u
      by_cases c2 : u.2.1 = true
      · simp only [c2, if_true]
        exact Ev.now _
      · simp only [c2, if_false]
        exact ih u.1
    · simp only [c, if_false]
      exact Ev.now _
/-! ### the document's -/
theorem rinner_ev (b names file : ByteArray) (hb : b.size ≤ 140737488351232) (hn : names.size ≤ 140737488351232) (n : Nat) (a i cnt : Nat) (ha : a < 18446744073709551616) (hc : cnt < 65536) (r : List S61 × Int × Int) (wi : wrap64 ((i : Int) + 1) = ((i + 1 : Nat) : Int)) : ∀ (m j v : Nat), j + m = cnt → v < 18446744073709551616 → ∀ xs, xs.length ≤ 64 →
    ((inn b names file m v xs).2.1 = true → r = ([], (inn b names file m v xs).2.2.1, (((inn b names file m v xs).2.2.2 : Nat) : Int))) →
    ((inn b names file m v xs).2.1 = false → Ev (fun k => turnbuckleref12_Needs.l0 k b names n ((inn b names file m v xs).1.map sR) (nx b a : Nat) ((i + 1 : Nat) : Int)) r) →
    Ev (fun k => turnbuckleref12_Needs.l1 k b names n (xs.map sR) a i v cnt file (j : Int)) r
  | 0, j, v, hj, hv, xs, hx, h1, h2 => by
    obtain ⟨K5, e5⟩ := rnum_ev b (ad a 12) 4 hb (ad_lt _ _) (by omega) (by omega)
    have w12 : IntKind.u64.wrap ((a : Int) + 12) = ((ad a 12 : Nat) : Int) := ad_eq a 12
    have wn : IntKind.u64.wrap ((a : Int) + ((numF b (ad a 12) 4 : Nat) : Int)) = ((nx b a : Nat) : Int) := ad_eq a _
    obtain ⟨K, e⟩ := h2 rfl
    dsimp only at e5 e
    simp only [Int.cast_ofNat_Int] at e5
    refine ⟨K + K5 + 1, fun k hk => ?_⟩
    obtain ⟨k, rfl⟩ : ∃ j, k = j + 1 := ⟨k - 1, by omega⟩
    show turnbuckleref12_Needs.l1 (k + 1) b names n (xs.map sR) a i v cnt file (j : Int) = _
    simp only [turnbuckleref12_Needs.l1]
    rw [if_neg (by omega), w12, e5 k (by omega), Option.bind_some, wn, wi]
    exact e k (by omega)
  | m + 1, j, v, hj, hv, xs, hx, h1, h2 => by
    have w8 : IntKind.u64.wrap ((v : Int) + 8) = ((ad v 8 : Nat) : Int) := ad_eq v 8
    have w6 : IntKind.u64.wrap ((v : Int) + 6) = ((ad v 6 : Nat) : Int) := ad_eq v 6
    have w4 : IntKind.u64.wrap ((v : Int) + 4) = ((ad v 4 : Nat) : Int) := ad_eq v 4
    have w12 : IntKind.u64.wrap ((v : Int) + 12) = ((ad v 12 : Nat) : Int) := ad_eq v 12
    have wn : IntKind.u64.wrap ((v : Int) + ((numF b (ad v 12) 4 : Nat) : Int)) = ((nx b v : Nat) : Int) := ad_eq v _
    have wj : IntKind.u64.wrap ((j : Int) + 1) = ((j + 1 : Nat) : Int) := by rw [u64w (by omega) (by omega)]; omega
    have t16 : turnbuckleref12_has.f b v 16 = some (decide (v + 16 ≤ b.size)) := has_eq b v 16 hb hv (by decide)
    obtain ⟨K8, e8⟩ := rnum_ev b (ad v 8) 4 hb (ad_lt _ _) (by omega) (by omega)
    obtain ⟨K6, e6⟩ := rnum_ev b (ad v 6) 2 hb (ad_lt _ _) (by omega) (by omega)
    obtain ⟨K4, e4⟩ := rnum_ev b (ad v 4) 2 hb (ad_lt _ _) (by omega) (by omega)
    obtain ⟨K12, e12⟩ := rnum_ev b (ad v 12) 4 hb (ad_lt _ _) (by omega) (by omega)
    obtain ⟨KT, eT⟩ := rtext_ev names (numF b (ad v 8) 4) 32 hn
    have l6 := numF_lt b (ad v 6) 2
    have l4 := numF_lt b (ad v 4) 2
    have hF : inn b names file (m + 1) v xs = if v + 16 ≤ b.size then (if (textF names (numF b (ad v 8) 4) 32).2 = true then (if xs.length = 64 then ([], true, 6, v) else inn b names file m (nx b v) (xs ++ [row b names file v])) else ([], true, 25, v)) else ([], true, 2, v) := rfl
    rw [hF] at h1 h2
    clear hF
    dsimp only at e8 e6 e4 e12 eT
    simp only [Int.cast_ofNat_Int] at e8 e6 e4 e12
    have key : ∀ k, K8 + K6 + K4 + K12 + KT ≤ k → turnbuckleref12_Needs.l1 (k + 1) b names n (xs.map sR) a i v cnt file (j : Int) =
        if v + 16 ≤ b.size then (if (textF names (numF b (ad v 8) 4) 32).2 = true then (if xs.length = 64 then some ([], 6, (v : Int)) else turnbuckleref12_Needs.l1 k b names n ((xs ++ [row b names file v]).map sR) a i (nx b v : Nat) cnt file ((j + 1 : Nat) : Int)) else some ([], 25, (v : Int))) else some ([], 2, (v : Int)) := by
      intro k hk
      simp only [turnbuckleref12_Needs.l1]
      have hlm : (xs.map sR).length < 2932031007402 := by rw [List.length_map]; omega
      rw [if_pos (show (j : Int) < (cnt : Int) by omega), t16, Option.bind_some, w8, e8 k (by omega), Option.bind_some, eT k (by omega), Option.bind_some, w6, e6 k (by omega), Option.bind_some, w4, e4 k (by omega), Option.bind_some, if_pos hlm, w12, e12 k (by omega), Option.bind_some, wn, wj, mod15 _ l6, div2 _ l4]
      have hl : (((xs.map sR).length : Int) = 64) = (xs.length = 64) := by rw [List.length_map]; exact propext (by omega)
      simp only [hl, List.map_append, decide_eq_true_eq]
      rfl
    by_cases c1 : v + 16 ≤ b.size
    · simp only [c1, if_true] at h1 h2 key
      by_cases c2 : (textF names (numF b (ad v 8) 4) 32).2 = true
      · simp only [c2, if_true] at h1 h2 key
        by_cases c3 : xs.length = 64
        · simp only [c3, if_true] at h1 h2 key
          refine ⟨K8 + K6 + K4 + K12 + KT + 1, fun k hk => ?_⟩
          obtain ⟨k, rfl⟩ : ∃ j, k = j + 1 := ⟨k - 1, by omega⟩
          rw [h1 (by first | trivial | rfl)]
          exact key k (by omega)
        · simp only [c3, if_false] at h1 h2 key
          obtain ⟨K, e⟩ := rinner_ev b names file hb hn n a i cnt ha hc r wi m (j + 1) (nx b v) (by omega) (ad_lt _ _) (xs ++ [row b names file v]) (by simp; omega) h1 h2
          refine ⟨K + K8 + K6 + K4 + K12 + KT + 1, fun k hk => ?_⟩
          obtain ⟨k, rfl⟩ : ∃ j, k = j + 1 := ⟨k - 1, by omega⟩
          exact (key k (by omega)).trans (e k (by omega))
      · simp only [c2, if_false] at h1 h2 key
        refine ⟨K8 + K6 + K4 + K12 + KT + 1, fun k hk => ?_⟩
        obtain ⟨k, rfl⟩ : ∃ j, k = j + 1 := ⟨k - 1, by omega⟩
        rw [h1 (by first | trivial | rfl)]
        exact key k (by omega)
    · simp only [c1, if_false] at h1 h2 key
      refine ⟨K8 + K6 + K4 + K12 + KT + 1, fun k hk => ?_⟩
      obtain ⟨k, rfl⟩ : ∃ j, k = j + 1 := ⟨k - 1, by omega⟩
      rw [h1 (by first | trivial | rfl)]
      exact key k (by omega)
theorem rloop_ev (b names : ByteArray) (hb : b.size ≤ 140737488351232) (hn : names.size ≤ 140737488351232) (n : Nat) (h64 : n ≤ 64) : ∀ (m i a : Nat), i + m = n → a < 18446744073709551616 → ∀ xs, xs.length ≤ 64 →
    Ev (fun k => turnbuckleref12_Needs.l0 k b names n (xs.map sR) a i) ((run b names m a xs).1.map sR, (run b names m a xs).2.1, ((run b names m a xs).2.2 : Nat)) := by
  intro m
  induction m with
  | zero =>
    intro i a hi ha xs hx
    refine Ev.step (f := fun _ => some (xs.map sR, 0, 0)) (fun k => ?_) (Ev.now _)
    simp only [turnbuckleref12_Needs.l0]
    rw [if_neg (by omega)]
  | succ m ih =>
    intro i a hi ha xs hx
    have wi : wrap64 ((i : Int) + 1) = ((i + 1 : Nat) : Int) := by rw [w64 (by omega) (by omega)]; omega
    have hin : (i : Int) < n := by omega
    obtain ⟨K0, e0⟩ := rnum_ev b (ad a 8) 4 hb (ad_lt _ _) (by omega) (by omega)
    obtain ⟨K1, e1⟩ := rnum_ev b (ad a 4) 4 hb (ad_lt _ _) (by omega) (by omega)
    obtain ⟨K2, e2⟩ := rnum_ev b a 2 hb ha (by omega) (by omega)
    obtain ⟨K3, e3⟩ := rnum_ev b (ad a 2) 2 hb (ad_lt _ _) (by omega) (by omega)
    obtain ⟨K6, e6⟩ := rtext_ev names (numF b (ad a 4) 4) 32 hn
    have w8 : IntKind.u64.wrap ((a : Int) + 8) = ((ad a 8 : Nat) : Int) := ad_eq a 8
    have w4 : IntKind.u64.wrap ((a : Int) + 4) = ((ad a 4 : Nat) : Int) := ad_eq a 4
    have w2 : IntKind.u64.wrap ((a : Int) + 2) = ((ad a 2 : Nat) : Int) := ad_eq a 2
    have wf : IntKind.u64.wrap ((a : Int) + ((numF b (ad a 8) 4 : Nat) : Int)) = ((vF b a : Nat) : Int) := ad_eq a _
    have t20 : turnbuckleref12_has.f b a 16 = some (decide (a + 16 ≤ b.size)) := has_eq b a 16 hb ha (by decide)
    have t8 : turnbuckleref12_has.f b (vF b a : Nat) 16 = some (decide (vF b a + 16 ≤ b.size)) := has_eq b _ 16 hb (ad_lt _ _) (by decide)
    have l2 := num2_lt b (ad a 2)
    dsimp only at e0 e1 e2 e3 e6
    simp only [Int.cast_ofNat_Int] at e0 e1 e2 e3
    -- what one round does
    have key : ∀ k, K0 + K1 + K2 + K3 + K6 ≤ k → turnbuckleref12_Needs.l0 (k + 3) b names n (xs.map sR) a i =
        if (F b names a).2.2.2 = 0 then turnbuckleref12_Needs.l1 k b names n (xs.map sR) a i ((F b names a).2.1 : Nat) ((F b names a).2.2.1 : Nat) (F b names a).1 0 else some ([], (F b names a).2.2.2, (a : Int)) := by
      intro k hk
      simp only [turnbuckleref12_Needs.l0, turnbuckleref12_Needs.j2, turnbuckleref12_Needs.j3]
      rw [if_pos hin, w8, e0 (k + 2) (by omega), Option.bind_some, wf, t20, Option.bind_some, t8, Option.bind_some, w2, e3 (k + 1) (by omega), Option.bind_some, e2 (k + 1) (by omega), Option.bind_some, w4, e1 k (by omega), Option.bind_some, e6 k (by omega), Option.bind_some]
      unfold F
      generalize vF b a = vv
      generalize numF b (ad a 2) 2 = n2 at *
      generalize numF b a 2 = n1 at *
      generalize textF names (numF b (ad a 4) 4) 32 = tt
      have i1 : ((n1 : Int) = 1) = (n1 = 1) := propext (by omega)
      have i2 : ((n2 : Int) == 0) = decide (n2 = 0) := by
        by_cases c : n2 = 0
        · subst c; rfl
        · rw [decide_eq_false c]; exact beq_eq_false_iff_ne.mpr (by omega)
      simp only [i1, i2]
      by_cases c1 : a + 16 ≤ b.size
      · by_cases c2 : vv + 16 ≤ b.size
        · by_cases c3 : n1 = 1
          · by_cases c4 : n2 = 0
            · simp [c1, c2, c3, c4]
            · by_cases c5 : tt.2 = true
              · simp [c1, c2, c3, c4, c5]
              · simp [c1, c2, c3, c4, c5]
          · simp [c1, c2, c3]
        · simp [c1, c2]
      · simp [c1]
    obtain ⟨l1, l3⟩ := F_lt b names a
    have hR : run b names (m + 1) a xs = if (F b names a).2.2.2 = 0 then (if (inn b names (F b names a).1 (F b names a).2.2.1 (F b names a).2.1 xs).2.1 = true then ([], (inn b names (F b names a).1 (F b names a).2.2.1 (F b names a).2.1 xs).2.2.1, (inn b names (F b names a).1 (F b names a).2.2.1 (F b names a).2.1 xs).2.2.2)
      else run b names m (nx b a) (inn b names (F b names a).1 (F b names a).2.2.1 (F b names a).2.1 xs).1) else ([], (F b names a).2.2.2, a) := rfl
    rw [hR]
    clear hR
    generalize F b names a = q at key l1 l3 ⊢
    obtain ⟨q1, q2, q3, q4⟩ := q
    dsimp only at key l1 l3 ⊢
    by_cases c : q4 = 0
    · simp only [c, if_true] at key ⊢
      have hl := inn_len b names q1 q3 q2 xs hx
      have main : ∀ r : List S61 × Int × Int, ((inn b names q1 q3 q2 xs).2.1 = true → r = ([], (inn b names q1 q3 q2 xs).2.2.1, (((inn b names q1 q3 q2 xs).2.2.2 : Nat) : Int))) →
          ((inn b names q1 q3 q2 xs).2.1 = false → Ev (fun k => turnbuckleref12_Needs.l0 k b names n ((inn b names q1 q3 q2 xs).1.map sR) (nx b a : Nat) ((i + 1 : Nat) : Int)) r) → Ev (fun k => turnbuckleref12_Needs.l0 k b names n (xs.map sR) a i) r := by
        intro r h1 h2
        obtain ⟨K, e⟩ := rinner_ev b names q1 hb hn n a i q3 ha l3 r wi q3 0 q2 (by omega) l1 xs hx h1 h2
        refine ⟨K + K0 + K1 + K2 + K3 + K6 + 3, fun k hk => ?_⟩
        obtain ⟨k, rfl⟩ : ∃ j, k = j + 3 := ⟨k - 3, by omega⟩
        exact (key k (by omega)).trans (e k (by omega))
      generalize inn b names q1 q3 q2 xs = u at hl main ⊢
      by_cases c2 : u.2.1 = true
      · simp only [c2, if_true]
        exact main _ (fun _ => rfl) (fun h => by rw [c2] at h; cases h)
      · simp only [c2, if_false]
        exact main _ (fun h => absurd h c2) (fun _ => ih (i + 1) (nx b a) (by omega) (ad_lt _ _) u.1 hl)
    · simp only [c, if_false] at key ⊢
      refine ⟨K0 + K1 + K2 + K3 + K6 + 3, fun k hk => ?_⟩
      obtain ⟨k, rfl⟩ : ∃ j, k = j + 3 := ⟨k - 3, by omega⟩
      exact key k (by omega)
/-! ### the law -/
theorem same_loop (xs : List R) (hx : xs.length ≤ 64) : ∀ (d i : Nat), i + d = xs.length → Ev (fun k => turnbucklelaw12_VersNeeds.l0 k (xs.map sN) (xs.map sR) (i : Int)) true := by
  intro d
  induction d with
  | zero =>
    intro i hi
    refine Ev.step (f := fun _ => some true) (fun k => ?_) (Ev.now _)
    simp only [turnbucklelaw12_VersNeeds.l0]
    rw [if_neg (by rw [List.length_map]; omega)]
  | succ d ih =>
    intro i hi
    have wi : wrap64 ((i : Int) + 1) = ((i + 1 : Nat) : Int) := by rw [w64 (by omega) (by omega)]; omega
    refine Ev.step (fun k => ?_) (ih (i + 1) (by omega))
    simp only [turnbucklelaw12_VersNeeds.l0]
    have h : i < xs.length := by omega
    have g1 : rd_T50 (xs.map sN) (i : Int) = sN xs[i] := by
      unfold rd_T50
      rw [Int.toNat_natCast, List.getD_eq_getElem?_getD, List.getElem?_map, List.getElem?_eq_getElem h]
      rfl
    have g2 : rd_T61 (xs.map sR) (i : Int) = sR xs[i] := by
      unfold rd_T61
      rw [Int.toNat_natCast, List.getD_eq_getElem?_getD, List.getElem?_map, List.getElem?_eq_getElem h]
      rfl
    rw [if_pos (by rw [List.length_map]; omega), if_pos (by omega), if_pos (by rw [List.length_map]; omega), g1, g2, wi, if_neg (by simp [sN, sR])]
theorem VersNeeds : turnbucklelaw12_VersNeeds.Pure := by
  intro b names n hb hn hw
  have hn64 := i64_bounds hw
  apply Ev.rounds
  unfold turnbucklelaw12_VersNeeds.f
  refine Ev.bind law_speaks ?_
  refine Ev.congr (fun k => if_pos rfl) ?_
  have long : Ev (fun k => turnbucklelaw12_VersNeeds.j0 k b names n true) true := Ev.step (f := fun _ => some true) (fun k => by simp only [turnbucklelaw12_VersNeeds.j0, if_true]) (Ev.now _)
  by_cases h : (b.size : Int) > 4000
  · exact Ev.congr (fun k => if_pos h) long
  · refine Ev.congr (fun k => if_neg h) ?_
    by_cases h2 : (names.size : Int) > 1000
    · rw [decide_eq_true h2]; exact long
    · rw [decide_eq_false h2]
      have both : ∃ (xs : List R) (e p : Int), xs.length ≤ 64 ∧ Ev (fun k => vers_Needs.f k b names n) (xs.map sN, e, p, ⟨#[]⟩) ∧ Ev (fun k => turnbuckleref12_Needs.f k b names n) (xs.map sR, e, p) := by
        by_cases c : n < 0 ∨ n > 64
        · refine ⟨[], 6, 0, by decide, ?_, ?_⟩
          · unfold vers_Needs.f
            by_cases c1 : n < 0
            · simp only [if_pos c1]; exact Ev.now _
            · simp only [if_neg c1, if_pos (show n > 64 by omega)]; exact Ev.now _
          · unfold turnbuckleref12_Needs.f
            have hj : Ev (fun k => turnbuckleref12_Needs.j0 k b names n true) (([] : List S61), 6, 0) := Ev.step (f := fun _ => some (([] : List S61), 6, 0)) (fun k => by simp only [turnbuckleref12_Needs.j0, if_true]) (Ev.now _)
            by_cases c1 : n < 0
            · simp only [if_pos c1]; exact hj
            · simp only [if_neg c1, decide_eq_true (show n > 64 by omega)]; exact hj
        · obtain ⟨m, rfl⟩ := Int.eq_ofNat_of_zero_le (show 0 ≤ n by omega)
          refine ⟨(run b names m 0 []).1, (run b names m 0 []).2.1, ((run b names m 0 []).2.2 : Nat), run_len b names m 0 [] (Nat.zero_le _), ?_, ?_⟩
          · unfold vers_Needs.f
            simp only [if_neg (show ¬ ((m : Nat) : Int) < 0 by omega), if_neg (show ¬ ((m : Nat) : Int) > 64 by omega), Int.toNat_natCast]
            exact Ev.bind (chain_ev b hb m 0 (by decide)) (go_ev b names hb hn m 0 (by decide) [])
          · unfold turnbuckleref12_Needs.f
            simp only [if_neg (show ¬ ((m : Nat) : Int) < 0 by omega), decide_eq_false (show ¬ ((m : Nat) : Int) > 64 by omega)]
            refine Ev.step (fun k => ?_) (rloop_ev b names hb hn m (by omega) m 0 0 (by omega) (by decide) [] (Nat.zero_le _))
            simp only [turnbuckleref12_Needs.j0, Bool.false_eq_true, if_false]
            rfl
      obtain ⟨xs, e, p, hx, h1, h3⟩ := both
      obtain ⟨K1, e1⟩ := h1
      obtain ⟨K3, e3⟩ := h3
      obtain ⟨K4, e4⟩ := same_loop xs hx xs.length 0 (by omega)
      dsimp only at e1 e3 e4
      refine ⟨K1 + K3 + K4 + 2, fun k hk => ?_⟩
      obtain ⟨k, rfl⟩ : ∃ j, k = j + 2 := ⟨k - 2, by omega⟩
      show turnbucklelaw12_VersNeeds.j0 (k + 2) b names n false = _
      simp only [turnbucklelaw12_VersNeeds.j0, Bool.false_eq_true, if_false]
      rw [e1 _ (by omega), Option.bind_some, e3 _ (by omega), Option.bind_some]
      simp only [if_true, List.length_map, bne_self_eq_false, turnbucklelaw12_VersNeeds.j1, Bool.false_eq_true, if_false]
      exact e4 _ (by omega)
end Go.Proofs.Ytoaliamemkjfhaa.Pure
