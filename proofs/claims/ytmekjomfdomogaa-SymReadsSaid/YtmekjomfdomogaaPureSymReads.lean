/-
  Any bytes as symbols, with any names, or what is wrong with them, and where.
-/
import Derived.Test.YtmekjomfdomogaaSymNiceR
import Derived.Test.YtmekjomfdomogaaPRdx14
import Derived.Laws.BitsLemmas
namespace Go.Proofs.Ytmekjomfdomogaa.Pure
open Go Go.RowKit Go.Proofs.Ytmekjomfdomogaa.PRd Go.Proofs.YtmekjomfdomogaaW.PrintWords Go.Proofs.YtmekjomfdomogaaW.PrintLast Go.Proofs.Ytmekjomfdomogaa.NiceR Go.Proofs.YtmekjomfdomogaaLe
set_option linter.unusedVariables false

theorem speaks : Ev (fun k => turnbucklelaw11_speaks.f k) true := Ev.of (g := fun k => turnbucklelaw11_speaks.f k) (fun k => turnbucklelaw11_speaks.mono k) (k := 40) (by decide +kernel)
abbrev T8 := ByteArray × Int × Int × Int × Bool × Int × Int × Int
def s28 (t : T8) : S28 := ⟨t.1, t.2.1, t.2.2.1, t.2.2.2.1, t.2.2.2.2.1, t.2.2.2.2.2.1, t.2.2.2.2.2.2.1⟩
def s31 (t : T8) : S31 := ⟨t.1, t.2.1, t.2.2.1, t.2.2.2.1, t.2.2.2.2.1, t.2.2.2.2.2.1, t.2.2.2.2.2.2.1⟩
def er (t : T8) : Int := t.2.2.2.2.2.2.2
/-! ### bytes of a part -/
theorem bl_extract (s : ByteArray) (a b : Nat) : bl (s.extract a b) = ((bl s).drop a).take (b - a) := by
  simp only [bl, extract_toList, List.map_take, List.map_drop]
theorem bt_extract (s : ByteArray) (a b j : Nat) (h : a + j < b) (hb : b ≤ s.size) : bt (s.extract a b) (j : Int) = bt s ((a + j : Nat) : Int) := by
  have hl := bl_length s
  rw [bt_bl _ j (by rw [ByteArray.size_extract]; omega), bt_bl _ (a + j) (by omega)]
  congr 1
  simp only [bl_extract, List.getElem_take, List.getElem_drop]
theorem bt_range (s : ByteArray) (i : Nat) (h : i < s.size) : 0 ≤ bt s (i : Int) ∧ bt s (i : Int) < 256 := by
  rw [bt_bl s i h]
  have := bl_lt s _ (List.getElem_mem (l := bl s) (n := i) (by rw [bl_length]; exact h))
  omega
theorem get2 (s : ByteArray) (a : Nat) (h : a + 2 ≤ s.size) : ((getS (s.extract a (a + 2)) : Nat) : Int) = bt s (a : Int) + 256 * bt s ((a + 1 : Nat) : Int) := by
  have hl := bl_length s
  have hz : (s.extract a (a + 2)).size = 2 := by rw [ByteArray.size_extract]; omega
  rw [bt_bl s a (by omega), bt_bl s (a + 1) (by omega), getS, if_pos (by omega), bl_extract]
  have e : ((bl s).drop a).take (a + 2 - a) = [(bl s)[a]'(by omega), (bl s)[a + 1]'(by omega)] := by
    rw [show a + 2 - a = 2 by omega, List.drop_eq_getElem_cons (by omega), List.take_succ_cons, List.drop_eq_getElem_cons (by omega), List.take_succ_cons, List.take_zero]
  rw [e]
  simp only [getL, List.foldr_cons, List.foldr_nil]
  omega
theorem ex_ex (s : ByteArray) (q c d : Nat) (h : d ≤ 24) : (s.extract q (q + 24)).extract c d = s.extract (q + c) (q + d) := by
  rw [ByteArray.extract_extract]
  congr 1
  omega
/-! ### one row -/
/-- A row's symbol, by what its parts tell. -/
def mk (b4 b5 : Int) (D : Bool) (t : ByteArray × Bool) (v z : Int) : T8 :=
  if t.2 = true then (if b4 / 16 > 2 then (⟨#[]⟩, 0, 0, 0, false, 0, 0, 4) else (t.1, b4 / 16, b4 % 16, b5 % 4, D, v, z, 0)) else (⟨#[]⟩, 0, 0, 0, false, 0, 0, 25)
def rowT (s names : ByteArray) (a : Nat) : T8 :=
  mk (bt s ((a + 4 : Nat) : Int)) (bt s ((a + 5 : Nat) : Int)) (((getS (s.extract (a + 6) (a + 8)) : Nat) : Int) != 0) (textF names (getS (s.extract a (a + 4))) 32) (getS (s.extract (a + 8) (a + 16)) : Nat) (getS (s.extract (a + 16) (a + 24)) : Nat)
theorem row_ev (s names : ByteArray) (i : Nat) (hi : 24 * i + 24 ≤ s.size) (hn : names.size ≤ 140737488351232) : Ev (fun k => sym_read.f k (eachPart s 24 i) names) (rowT s names (24 * i)) := by
  have hp : eachPart s 24 i = s.extract (24 * i) (24 * i + 24) := by
    unfold eachPart
    rw [Nat.mul_comm i 24, Nat.mul_comm (i + 1) 24]
    rfl
  rw [hp]
  have e0 : (s.extract (24 * i) (24 * i + 24)).extract 0 4 = s.extract (24 * i) (24 * i + 4) := ex_ex s (24 * i) 0 4 (by omega)
  have e1 := ex_ex s (24 * i) 8 16 (by omega)
  have e2 := ex_ex s (24 * i) 16 24 (by omega)
  have b4 := bt_extract s (24 * i) (24 * i + 24) 4 (by omega) hi
  have b5 := bt_extract s (24 * i) (24 * i + 24) 5 (by omega) hi
  have b6 := bt_extract s (24 * i) (24 * i + 24) 6 (by omega) hi
  have b7 := bt_extract s (24 * i) (24 * i + 24) 7 (by omega) hi
  have r6 := bt_range s (24 * i + 6) (by omega)
  have r7 := bt_range s (24 * i + 7) (by omega)
  have hg2 := get2 s (24 * i + 6) (by omega)
  have hsz : (s.extract (24 * i) (24 * i + 24)).size = 24 := by rw [ByteArray.size_extract]; omega
  have hT := text_eq names (getS (s.extract (24 * i) (24 * i + 4))) 32 hn
  obtain ⟨K0, k0⟩ := get_ev (s.extract (24 * i) (24 * i + 4))
  obtain ⟨K1, k1⟩ := get_ev (s.extract (24 * i + 8) (24 * i + 16))
  obtain ⟨K2, k2⟩ := get_ev (s.extract (24 * i + 16) (24 * i + 24))
  dsimp only at k0 k1 k2
  unfold rowT
  rw [show 24 * i + 6 + 1 = 24 * i + 7 by omega] at hg2
  generalize s.extract (24 * i) (24 * i + 24) = p at *
  generalize getS (s.extract (24 * i) (24 * i + 4)) = n0 at *
  generalize getS (s.extract (24 * i + 8) (24 * i + 16)) = n1 at *
  generalize getS (s.extract (24 * i + 16) (24 * i + 24)) = n2 at *
  have hg : ((getS (s.extract (24 * i + 6) (24 * i + 8)) : Nat) : Int) = bt s ((24 * i + 6 : Nat) : Int) + 256 * bt s ((24 * i + 7 : Nat) : Int) := hg2
  generalize getS (s.extract (24 * i + 6) (24 * i + 8)) = n3 at *
  refine ⟨K0 + K1 + K2, fun k hk => ?_⟩
  show sym_read.f k p names = _
  unfold sym_read.f
  rw [if_pos hsz, e0, e1, e2, k0 k (by omega), Option.bind_some, hT, Option.bind_some, k1 k (by omega), Option.bind_some, k2 k (by omega), Option.bind_some]
  unfold sym_read.of mk
  have c4 : bt p 4 = bt s ((24 * i + 4 : Nat) : Int) := b4
  have c5 : bt p 5 = bt s ((24 * i + 5 : Nat) : Int) := b5
  have c6 : bt p 6 = bt s ((24 * i + 6 : Nat) : Int) := b6
  have c7 : bt p 7 = bt s ((24 * i + 7 : Nat) : Int) := b7
  rw [c4, c5, c6, c7]
  have hD : (if bt s ((24 * i + 6 : Nat) : Int) = 0 then decide (bt s ((24 * i + 7 : Nat) : Int) ≠ 0) else true) = ((n3 : Int) != 0) := by
    rw [hg]
    by_cases h6 : bt s ((24 * i + 6 : Nat) : Int) = 0
    · rw [if_pos h6, h6]
      by_cases h7 : bt s ((24 * i + 7 : Nat) : Int) = 0
      · rw [h7]; rfl
      · rw [decide_eq_true h7]; exact (bne_iff_ne.mpr (by omega)).symm
    · rw [if_neg h6]; exact (bne_iff_ne.mpr (by omega)).symm
  rw [hD]
/-- The document's step. -/
theorem ref_step (s names : ByteArray) (i : Nat) (xs : List S31) (hx : xs.length < 2199023255552) (hi : 24 * i + 24 ≤ s.size) (hs : s.size ≤ 100000) (hn : names.size ≤ 140737488351232) :
    ∃ K, ∀ j, K ≤ j → turnbuckleref11_Read.l0 (j + 1) s names xs ((24 * i : Nat) : Int) = if er (rowT s names (24 * i)) = 0 then turnbuckleref11_Read.l0 j s names (xs ++ [s31 (rowT s names (24 * i))]) ((24 * (i + 1) : Nat) : Int) else some ([], er (rowT s names (24 * i)), (i : Int) * 24) := by
  have hsz : ∀ a b, b ≤ s.size → (s.extract a b).size = b - a := fun a b h => by rw [ByteArray.size_extract]; omega
  obtain ⟨K0, k0⟩ := rget_ev (s.extract (24 * i) (24 * i + 4)) (by rw [hsz _ _ (by omega)]; omega)
  obtain ⟨K3, k3⟩ := rget_ev (s.extract (24 * i + 6) (24 * i + 8)) (by rw [hsz _ _ (by omega)]; omega)
  obtain ⟨K1, k1⟩ := rget_ev (s.extract (24 * i + 8) (24 * i + 16)) (by rw [hsz _ _ (by omega)]; omega)
  obtain ⟨K2, k2⟩ := rget_ev (s.extract (24 * i + 16) (24 * i + 24)) (by rw [hsz _ _ (by omega)]; omega)
  obtain ⟨K4, k4⟩ := rtext_ev names (getS (s.extract (24 * i) (24 * i + 4))) 32 hn
  have r4 := bt_range s (24 * i + 4) (by omega)
  have r5 := bt_range s (24 * i + 5) (by omega)
  dsimp only at k0 k1 k2 k3 k4
  unfold rowT
  generalize getS (s.extract (24 * i) (24 * i + 4)) = n0 at *
  generalize getS (s.extract (24 * i + 8) (24 * i + 16)) = n1 at *
  generalize getS (s.extract (24 * i + 16) (24 * i + 24)) = n2 at *
  generalize getS (s.extract (24 * i + 6) (24 * i + 8)) = n3 at *
  generalize textF names n0 32 = t at *
  refine ⟨K0 + K1 + K2 + K3 + K4, fun j hj => ?_⟩
  have g : ∀ c : Nat, c ≤ 24 → wrap64 (((24 * i : Nat) : Int) + (c : Int)) = ((24 * i + c : Nat) : Int) := fun c hc => by rw [w64 (by omega) (by omega)]; omega
  have g4 : wrap64 (((24 * i : Nat) : Int) + 4) = ((24 * i + 4 : Nat) : Int) := g 4 (by omega)
  have g5 : wrap64 (((24 * i : Nat) : Int) + 5) = ((24 * i + 5 : Nat) : Int) := g 5 (by omega)
  have g6 : wrap64 (((24 * i : Nat) : Int) + 6) = ((24 * i + 6 : Nat) : Int) := g 6 (by omega)
  have g8 : wrap64 (((24 * i : Nat) : Int) + 8) = ((24 * i + 8 : Nat) : Int) := g 8 (by omega)
  have g16 : wrap64 (((24 * i : Nat) : Int) + 16) = ((24 * i + 16 : Nat) : Int) := g 16 (by omega)
  have g24 : wrap64 (((24 * i : Nat) : Int) + 24) = ((24 * i + 24 : Nat) : Int) := g 24 (by omega)
  have hu : IntKind.u64.wrap ((24 * i : Nat) : Int) = (i : Int) * 24 := by rw [u64w (by omega) (by omega)]; omega
  rw [turnbuckleref11_Read.l0, g4, g5, g6, g8, g16, g24, hu]
  generalize bt s ((24 * i + 4 : Nat) : Int) = b4 at *
  generalize bt s ((24 * i + 5 : Nat) : Int) = b5 at *
  have w4 : wrap64 b4 = b4 := w64 (by omega) (by omega)
  have w5 : wrap64 b5 = b5 := w64 (by omega) (by omega)
  have d4 : wrap64 (Int.tdiv b4 16) = b4 / 16 := by
    rw [Int.tdiv_eq_ediv_of_nonneg r4.1, w64 (by omega) (by omega)]
  have m4 : Int.tmod b4 16 = b4 % 16 := Int.tmod_eq_emod_of_nonneg r4.1
  have m5 : Int.tmod b5 4 = b5 % 4 := Int.tmod_eq_emod_of_nonneg r5.1
  rw [w4, w5, d4, m4, m5]
  simp only [Int.toNat_natCast]
  rw [if_pos (by omega), if_pos (by omega), if_pos (by omega), if_pos (by omega), k0 j (by omega), Option.bind_some, k4 j (by omega), Option.bind_some]
  unfold mk
  by_cases ht : t.2 = true
  · rw [if_pos ht, if_pos ht, if_pos (by omega), if_pos (by omega), if_pos (by omega), if_pos (by omega)]
    by_cases h2 : b4 / 16 > 2
    · rw [if_pos h2, if_pos h2]
      rfl
    · rw [if_neg h2, if_neg h2, if_pos (by omega), if_pos (by omega), if_pos (by omega), k3 j (by omega), Option.bind_some, if_pos (by omega), if_pos (by omega), if_pos (by omega), k1 j (by omega), Option.bind_some,
        if_pos (by omega), if_pos (by omega), if_pos (by omega), k2 j (by omega), Option.bind_some, if_pos hx]
      rfl
  · rw [if_neg ht, if_neg ht]
    rfl
/-! ### all rows -/
def resF (q : Nat → T8) : Nat → Nat → List T8 → List T8 × Int × Int
  | 0, _, xs => (xs, 0, 0)
  | m + 1, i, xs => if er (q i) = 0 then resF q m (i + 1) (xs ++ [q i]) else ([], er (q i), (i : Int) * 24)
theorem go_ev (s names : ByteArray) (hn : names.size ≤ 140737488351232) : ∀ m i xs, 24 * (i + m) ≤ s.size →
    Ev (fun k => sym_Read.go k s names m i (xs.map s28)) ((resF (fun j => rowT s names (24 * j)) m i xs).1.map s28, (resF (fun j => rowT s names (24 * j)) m i xs).2.1, (resF (fun j => rowT s names (24 * j)) m i xs).2.2, ⟨#[]⟩)
  | 0, i, xs, _ => Ev.congr (f := fun _ => some (xs.map s28, 0, 0, ⟨#[]⟩)) (fun k => rfl) (Ev.now _)
  | m + 1, i, xs, hi => by
    have hrow := row_ev s names i (by omega) hn
    have ih := go_ev s names hn m (i + 1) (xs ++ [rowT s names (24 * i)]) (by omega)
    have hF : resF (fun j => rowT s names (24 * j)) (m + 1) i xs = if er (rowT s names (24 * i)) = 0 then resF (fun j => rowT s names (24 * j)) m (i + 1) (xs ++ [rowT s names (24 * i)]) else ([], er (rowT s names (24 * i)), (i : Int) * 24) := rfl
    rw [hF]
    generalize rowT s names (24 * i) = t at hrow ih ⊢
    refine Ev.congr (fun k => ?_) (Ev.bind (f := fun k (q : T8) => if q.2.2.2.2.2.2.2 = 0 then sym_Read.go k s names m (i + 1) (xs.map s28 ++ [⟨q.1, q.2.1, q.2.2.1, q.2.2.2.1, q.2.2.2.2.1, q.2.2.2.2.2.1, q.2.2.2.2.2.2.1⟩]) else (fail_At.f q.2.2.2.2.2.2.2 ((i : Int) * 24)).bind fun t => some ([], t.1, t.2.1, t.2.2)) hrow ?_)
    · show sym_Read.go k s names (m + 1) i _ = _
      rw [sym_Read.go]
    · by_cases h : er t = 0
      · rw [if_pos h]
        refine Ev.congr (fun k => ?_) ih
        have h' : t.2.2.2.2.2.2.2 = 0 := h
        rw [if_pos h', List.map_append]
        rfl
      · rw [if_neg h]
        refine Ev.congr (f := fun _ => some ([], er t, (i : Int) * 24, ⟨#[]⟩)) (fun k => ?_) (by simp only [List.map_nil]; exact Ev.now _)
        have h' : ¬ t.2.2.2.2.2.2.2 = 0 := h
        rw [if_neg h']
        simp only [fail_At.f, Option.bind_some]
        rfl
theorem ref_loop (s names : ByteArray) (hs : s.size ≤ 100000) (hn : names.size ≤ 140737488351232) : ∀ m i xs, xs.length = i → 24 * (i + m) = s.size →
    Ev (fun k => turnbuckleref11_Read.l0 k s names (xs.map s31) ((24 * i : Nat) : Int)) ((resF (fun j => rowT s names (24 * j)) m i xs).1.map s31, (resF (fun j => rowT s names (24 * j)) m i xs).2.1, (resF (fun j => rowT s names (24 * j)) m i xs).2.2)
  | 0, i, xs, _, hi => by
    refine Ev.step (f := fun _ => some (xs.map s31, 0, 0)) (fun k => ?_) (Ev.now _)
    rw [turnbuckleref11_Read.l0, if_neg (by omega)]
  | m + 1, i, xs, hx, hi => by
    obtain ⟨K, e⟩ := ref_step s names i (xs.map s31) (by rw [List.length_map]; omega) (by omega) hs hn
    have ih := ref_loop s names hs hn m (i + 1) (xs ++ [rowT s names (24 * i)]) (by simp [hx]) (by omega)
    have hF : resF (fun j => rowT s names (24 * j)) (m + 1) i xs = if er (rowT s names (24 * i)) = 0 then resF (fun j => rowT s names (24 * j)) m (i + 1) (xs ++ [rowT s names (24 * i)]) else ([], er (rowT s names (24 * i)), (i : Int) * 24) := rfl
    rw [hF]
    generalize rowT s names (24 * i) = t at e ih ⊢
    by_cases h : er t = 0
    · rw [if_pos h]
      obtain ⟨K2, e2⟩ := ih
      refine ⟨K + K2 + 1, fun k hk => ?_⟩
      obtain ⟨j, rfl⟩ : ∃ j, k = j + 1 := ⟨k - 1, by omega⟩
      have h1 := e j (by omega)
      rw [if_pos h] at h1
      have h2 := e2 j (by omega)
      rw [List.map_append] at h2
      exact h1.trans h2
    · rw [if_neg h]
      refine ⟨K + 1, fun k hk => ?_⟩
      obtain ⟨j, rfl⟩ : ∃ j, k = j + 1 := ⟨k - 1, by omega⟩
      have h1 := e j (by omega)
      rw [if_neg h] at h1
      exact h1
def readF (s names : ByteArray) : List T8 × Int × Int := if s.size % 24 = 0 then (if s.size / 24 > 256 then ([], 6, 0) else resF (fun j => rowT s names (24 * j)) (s.size / 24) 0 []) else ([], 4, 0)
theorem read_ev (s names : ByteArray) (hs : s.size ≤ 140737488351232) (hn : names.size ≤ 140737488351232) : Ev (fun k => sym_Read.f k s names) ((readF s names).1.map s28, (readF s names).2.1, (readF s names).2.2, ⟨#[]⟩) := by
  unfold readF
  by_cases h1 : s.size % 24 = 0
  · by_cases h2 : s.size / 24 > 256
    · rw [if_pos h1, if_pos h2]
      refine Ev.congr (f := fun _ => some ([], 6, 0, ⟨#[]⟩)) (fun k => ?_) (Ev.now _)
      unfold sym_Read.f
      rw [if_neg (by omega), if_pos h1, if_pos h2]
      simp only [fail_Of.f, Option.bind_some]
    · rw [if_pos h1, if_neg h2]
      refine Ev.congr (fun k => ?_) (go_ev s names hn (s.size / 24) 0 [] (by omega))
      show sym_Read.f k s names = sym_Read.go k s names (s.size / 24) 0 []
      unfold sym_Read.f
      rw [if_neg (by omega), if_pos h1, if_neg h2]
  · rw [if_neg h1]
    refine Ev.congr (f := fun _ => some ([], 4, 0, ⟨#[]⟩)) (fun k => ?_) (Ev.now _)
    unfold sym_Read.f
    rw [if_neg (by omega), if_neg h1]
    simp only [fail_Of.f, Option.bind_some]
theorem ref_read_ev (s names : ByteArray) (hs : s.size ≤ 140737488351232) (hn : names.size ≤ 140737488351232) : Ev (fun k => turnbuckleref11_Read.f k s names) ((readF s names).1.map s31, (readF s names).2.1, (readF s names).2.2) := by
  unfold readF
  have w : wrap64 ((s.size : Int) / 24) = ((s.size / 24 : Nat) : Int) := by rw [w64 (by omega) (by omega)]; omega
  by_cases h1 : s.size % 24 = 0
  · by_cases h2 : s.size / 24 > 256
    · rw [if_pos h1, if_pos h2]
      refine Ev.congr (f := fun _ => some ([], 6, 0)) (fun k => ?_) (Ev.now _)
      unfold turnbuckleref11_Read.f
      rw [if_pos (by omega), w, if_pos (by omega)]
    · rw [if_pos h1, if_neg h2]
      refine Ev.congr (fun k => ?_) (ref_loop s names (by omega) hn (s.size / 24) 0 [] rfl (by omega))
      show turnbuckleref11_Read.f k s names = turnbuckleref11_Read.l0 k s names [] 0
      unfold turnbuckleref11_Read.f
      rw [if_pos (by omega), w, if_neg (by omega)]
  · rw [if_neg h1]
    refine Ev.congr (f := fun _ => some ([], 4, 0)) (fun k => ?_) (Ev.now _)
    unfold turnbuckleref11_Read.f
    rw [if_neg (by omega)]
/-! ### the law -/
/-- What the law's last part asks of a symbol. -/
def Fine (t : T8) : Prop := 0 ≤ t.2.1 ∧ 0 ≤ t.2.2.2.1
theorem mk_fine (b4 b5 : Int) (D : Bool) (t : ByteArray × Bool) (v z : Int) (h4 : 0 ≤ b4) (h5 : 0 ≤ b5) : Fine (mk b4 b5 D t v z) := by
  unfold mk Fine
  split
  · split
    · exact ⟨by decide, by decide⟩
    · dsimp only; omega
  · exact ⟨by decide, by decide⟩
theorem rowT_fine (s names : ByteArray) (a : Nat) (h : a + 24 ≤ s.size) : Fine (rowT s names a) := mk_fine _ _ _ _ _ _ (bt_range s (a + 4) (by omega)).1 (bt_range s (a + 5) (by omega)).1
theorem res_fine (q : Nat → T8) : ∀ m i xs, (∀ x ∈ xs, Fine x) → (∀ j, j < i + m → Fine (q j)) → xs.length ≤ i → (∀ x ∈ (resF q m i xs).1, Fine x) ∧ (resF q m i xs).1.length ≤ i + m
  | 0, i, xs, h, _, hl => ⟨h, hl⟩
  | m + 1, i, xs, h, hq, hl => by
    unfold resF
    split
    · have := res_fine q m (i + 1) (xs ++ [q i]) (fun x hx => by
        rcases List.mem_append.1 hx with hx | hx
        · exact h x hx
        · rw [List.mem_singleton.1 hx]; exact hq i (by omega)) (fun j hj => hq j (by omega)) (by simp; omega)
      exact ⟨this.1, by have := this.2; omega⟩
    · exact ⟨fun x hx => (List.not_mem_nil hx).elim, Nat.zero_le _⟩
theorem read_fine (s names : ByteArray) : (∀ x ∈ (readF s names).1, Fine x) ∧ (readF s names).1.length ≤ 256 := by
  unfold readF
  split
  · split
    · exact ⟨fun x hx => (List.not_mem_nil hx).elim, Nat.zero_le _⟩
    · have := res_fine (fun j => rowT s names (24 * j)) (s.size / 24) 0 [] (fun x hx => (List.not_mem_nil hx).elim) (fun j hj => rowT_fine s names _ (by omega)) (Nat.le_refl _)
      exact ⟨this.1, by have := this.2; omega⟩
  · exact ⟨fun x hx => (List.not_mem_nil hx).elim, Nat.zero_le _⟩
theorem rd_28 (xs : List T8) (j : Nat) (h : j < xs.length) : rd_T28 (xs.map s28) (j : Int) = s28 xs[j] := by
  rw [rd_T28, Int.toNat_natCast, List.getD_eq_getElem?_getD, List.getElem?_map, List.getElem?_eq_getElem h]; rfl
theorem rd_31 (xs : List T8) (j : Nat) (h : j < xs.length) : rd_T31 (xs.map s31) (j : Int) = s31 xs[j] := by
  rw [rd_T31, Int.toNat_natCast, List.getD_eq_getElem?_getD, List.getElem?_map, List.getElem?_eq_getElem h]; rfl
set_option maxHeartbeats 1000000 in
theorem loop_step (k : Nat) (xs : List S28) (ys : List S31) (j : Nat) (nm : ByteArray) (B Kd V : Int) (D : Bool) (v z : Int) (hB : 0 ≤ B) (hV : 0 ≤ V) (hx : (j : Int) < xs.length) (hy : (j : Int) < ys.length)
    (h28 : rd_T28 xs (j : Int) = ⟨nm, B, Kd, V, D, v, z⟩) (h31 : rd_T31 ys (j : Int) = ⟨nm, B, Kd, V, D, v, z⟩) :
    turnbucklelaw11_SymReads.l0 (k + 1) xs ys (j : Int) = turnbucklelaw11_SymReads.l0 k xs ys (wrap64 ((j : Int) + 1)) := by
  have h0 : (0 : Int) ≤ (j : Int) := by omega
  rw [turnbucklelaw11_SymReads.l0, h28, h31, if_pos hy, if_pos h0, if_pos hx]
  generalize turnbucklelaw11_SymReads.l0 k xs ys (wrap64 ((j : Int) + 1)) = r
  have e1 : turnbucklelaw11_same.f nm B Kd V D v z nm B Kd V D v z = some true := by simp [turnbucklelaw11_same.f]
  dsimp only
  rw [e1]
  simp only [Option.bind_some, if_true]
  clear h28 h31 e1
  have iB : (B > 0) = (B ≠ 0) := propext (by omega)
  have iV : (V > 0) = (V ≠ 0) := propext (by omega)
  simp only [iB, iV, sym_Symbol_Exported.f, sym_Symbol_Own.f]
  cases D
  · simp
  · by_cases hb : B = 0
    · by_cases hv : V = 0
      · simp [hb, hv]
      · by_cases hv3 : V = 3
        · simp [hb, hv3]
        · simp [hb, hv, hv3]
    · by_cases hv : V = 0
      · simp [hb, hv]
      · by_cases hv3 : V = 3
        · simp [hb, hv3]
        · simp [hb, hv, hv3]
theorem loop_ev (xs : List T8) (hf : ∀ x ∈ xs, Fine x) (hl : xs.length ≤ 256) : ∀ d j, j + d = xs.length → Ev (fun k => turnbucklelaw11_SymReads.l0 k (xs.map s28) (xs.map s31) (j : Int)) true := by
  intro d
  induction d with
  | zero =>
    intro j hj
    refine Ev.step (f := fun _ => some true) (fun k => ?_) (Ev.now _)
    rw [turnbucklelaw11_SymReads.l0, if_neg (by rw [List.length_map]; omega)]
  | succ d ih =>
    intro j hj
    have hlt : j < xs.length := by omega
    have w : wrap64 ((j : Int) + 1) = ((j + 1 : Nat) : Int) := by rw [w64 (by omega) (by omega)]; omega
    have h28 := rd_28 xs j hlt
    have h31 := rd_31 xs j hlt
    have hx := hf _ (List.getElem_mem hlt)
    generalize xs[j] = t at h28 h31 hx
    obtain ⟨nm, B, Kd, V, D, v, z, e⟩ := t
    refine Ev.step (fun k => ?_) (ih (j + 1) (by omega))
    rw [loop_step k _ _ j nm B Kd V D v z hx.1 hx.2 (by rw [List.length_map]; omega) (by rw [List.length_map]; omega) h28 h31, w]
theorem tail_ev (b names : ByteArray) (hb : b.size ≤ 140737488351232) (hn : names.size ≤ 140737488351232) : Ev (fun k => turnbucklelaw11_SymReads.j0 k b names) true := by
  have hf := read_fine b names
  obtain ⟨K1, e1⟩ := read_ev b names hb hn
  obtain ⟨K2, e2⟩ := ref_read_ev b names hb hn
  obtain ⟨K3, e3⟩ := loop_ev (readF b names).1 hf.1 hf.2 (readF b names).1.length 0 (by omega)
  dsimp only at e1 e2 e3
  generalize readF b names = r at e1 e2 e3
  refine ⟨K1 + K2 + K3 + 2, fun k hk => ?_⟩
  obtain ⟨k, rfl⟩ : ∃ q, k = q + 2 := ⟨k - 2, by omega⟩
  show turnbucklelaw11_SymReads.j0 (k + 2) b names = _
  rw [turnbucklelaw11_SymReads.j0, e1 _ (by omega), Option.bind_some, e2 _ (by omega), Option.bind_some, if_pos rfl, if_pos rfl]
  simp only [List.length_map, bne_self_eq_false]
  rw [turnbucklelaw11_SymReads.j1]
  simp only [Bool.false_eq_true, if_false]
  exact e3 _ (by omega)
theorem SymReads : turnbucklelaw11_SymReads.Pure := by
  intro b names cut hb hn hc
  apply Ev.rounds
  unfold turnbucklelaw11_SymReads.f
  refine Ev.bind speaks ?_
  have hmn : 0 ≤ mn (b.size : Int) 7000 ∧ mn (b.size : Int) 7000 ≤ b.size ∧ mn (b.size : Int) 7000 ≤ 7000 := by unfold mn; split <;> omega
  refine Ev.congr (fun k => ((if_pos rfl).trans (if_pos hmn.1)).trans (if_pos hmn.2.1)) ?_
  have hsz : (b.extract 0 (mn (b.size : Int) 7000).toNat).size ≤ 7000 := by rw [ByteArray.size_extract]; omega
  generalize b.extract 0 (mn (b.size : Int) 7000).toNat = b2 at hsz ⊢
  by_cases h : Go.bits .and .i64 cut 3 > 0
  · have hw : wrap64 (wrap64 ((b2.size : Int) / 24) * 24) = (b2.size : Int) / 24 * 24 := by
      rw [w64 (x := (b2.size : Int) / 24) (by omega) (by omega), w64 (by omega) (by omega)]
    rw [hw]
    refine Ev.congr (fun k => ((if_pos h).trans (if_pos (by omega))).trans (if_pos (by omega))) ?_
    exact tail_ev _ names (by rw [ByteArray.size_extract]; omega) hn
  · refine Ev.congr (fun k => if_neg h) ?_
    exact tail_ev b2 names (by omega) hn
end Go.Proofs.Ytmekjomfdomogaa.Pure
