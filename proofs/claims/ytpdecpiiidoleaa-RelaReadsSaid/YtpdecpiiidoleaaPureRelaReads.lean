/- The law RelaReads over what its functions compute. -/
import Derived.Test.YtpdecpiiidoleaaRelaNice2
import Derived.Test.YtpdecpiiidoleaaPureRelaPuts
namespace Go.Proofs.Ytpdecpiiidoleaa.Pure
open Go Go.RowKit Go.Proofs.Ytpdecpiiidoleaa.PAll Go.Proofs.YtpdecpiiidoleaaW.PrintWords Go.Proofs.YtpdecpiiidoleaaW.PrintLast Go.Proofs.Ytpdecpiiidoleaa.Nice Go.Proofs.YtpdecpiiidoleaaLe

/-! ### a number put again -/
theorem dig_getL : ∀ (l : List Nat), (∀ b ∈ l, b < 256) → ∀ i (h : i < l.length), dig (getL l) i = l[i]
  | b :: l, hb, 0, _ => by
    have h1 : getL (b :: l) = b + 256 * getL l := rfl
    have h2 := hb b List.mem_cons_self
    simp only [dig, h1, Nat.pow_zero, Nat.div_one, List.getElem_cons_zero]
    omega
  | b :: l, hb, i + 1, h => by
    have h1 : getL (b :: l) = b + 256 * getL l := rfl
    have h2 := hb b List.mem_cons_self
    have ih := dig_getL l (fun x hx => hb x (List.mem_cons_of_mem _ hx)) i (by simpa using h)
    have h3 : (b + 256 * getL l) / 256 = getL l := by omega
    simp only [dig, h1, List.getElem_cons_succ] at ih ⊢
    rw [Nat.pow_succ, Nat.mul_comm (256 ^ i) 256, ← Nat.div_div_eq_div_mul, h3]
    exact ih
theorem ba_of_bl {a b : ByteArray} (h : bl a = bl b) : a = b := by
  apply ByteArray.ext
  apply Array.ext'
  exact (List.map_inj_right (fun x y h => UInt8.toNat_inj.1 h)).1 h
theorem put_get (q : ByteArray) (m : Nat) (hq : q.size = m) (h : 1 ≤ m ∧ m ≤ 8) : putF (getS q) m = q := by
  apply ba_of_bl
  have h1 : putF (getS q) m = putS (getS q) m := by rw [putF, if_pos (by omega), Int.toNat_natCast]
  rw [h1, bl_putS, getS, if_pos (by omega)]
  apply List.ext_getElem
  · simp [bl_length, hq]
  · intro i h1 h2
    simp only [List.getElem_map, List.getElem_range]
    exact dig_getL _ (bl_lt q) i h2
theorem getS_lt (q : ByteArray) (m : Nat) (hq : q.size = m) (h : m ≤ 8) : getS q < 256 ^ m := by
  rw [getS, if_pos (by omega)]
  have := getL_lt (bl q) (bl_lt q)
  rw [bl_length, hq] at this
  exact this

/-! ### what both read -/
abbrev R4 := Nat × Nat × Nat × Nat
def rowF (p : ByteArray) : R4 := (getS (p.extract 0 8), getS (p.extract 8 12), getS (p.extract 12 16), getS (p.extract 16 24))
def wrongF (x : R4) (sym : Int) : Int := if x.2.1 < 2 ∨ 5 < x.2.1 then 22 else if x.2.1 = 3 then (if x.2.2.1 = 0 then (if x.1 % 8 = 0 then 0 else 13) else 4) else if sym ≤ x.2.2.1 then 5 else if x.1 % 8 = 0 then 0 else 13
def s38 (x : R4) : S38 := ⟨x.1, x.2.1, x.2.2.1, x.2.2.2⟩
def s27 (x : R4) : S27 := ⟨x.1, x.2.1, x.2.2.1, x.2.2.2⟩
theorem ex_size (p : ByteArray) (i j : Nat) (h : j ≤ p.size) : (p.extract i j).size = j - i := by rw [ByteArray.size_extract]; omega
theorem row_lt (p : ByteArray) (hp : p.size = 24) : (rowF p).1 < 18446744073709551616 ∧ (rowF p).2.1 < 4294967296 ∧ (rowF p).2.2.1 < 4294967296 ∧ (rowF p).2.2.2 < 18446744073709551616 := by
  have h0 := getS_lt (p.extract 0 8) 8 (ex_size p 0 8 (by omega)) (by omega)
  have h1 := getS_lt (p.extract 8 12) 4 (ex_size p 8 12 (by omega)) (by omega)
  have h2 := getS_lt (p.extract 12 16) 4 (ex_size p 12 16 (by omega)) (by omega)
  have h3 := getS_lt (p.extract 16 24) 8 (ex_size p 16 24 (by omega)) (by omega)
  simp only [Nat.reducePow] at h0 h1 h2 h3
  unfold rowF
  dsimp only
  generalize getS (p.extract 0 8) = a0 at h0 ⊢
  generalize getS (p.extract 8 12) = a1 at h1 ⊢
  generalize getS (p.extract 12 16) = a2 at h2 ⊢
  generalize getS (p.extract 16 24) = a3 at h3 ⊢
  exact ⟨h0, h1, h2, h3⟩
theorem put_get8 (q : ByteArray) (hq : q.size = 8) : putF (getS q) 8 = q := put_get q 8 hq (by omega)
theorem put_get4 (q : ByteArray) (hq : q.size = 4) : putF (getS q) 4 = q := put_get q 4 hq (by omega)
theorem ex_join (p : ByteArray) (hp : p.size = 24) : p.extract 0 8 ++ p.extract 8 12 ++ p.extract 12 16 ++ p.extract 16 24 = p := by
  apply ByteArray.ext
  apply Array.ext'
  have hl : p.data.toList.length = 24 := hp
  simp only [ByteArray.data_append, ByteArray.data_extract, Array.toList_append, Array.toList_extract]
  generalize p.data.toList = l at hl
  match l, hl with
  | [_, _, _, _, _, _, _, _, _, _, _, _, _, _, _, _, _, _, _, _, _, _, _, _], _ => rfl
theorem relaF_row (p : ByteArray) (hp : p.size = 24) : relaF (rowF p).1 (rowF p).2.1 (rowF p).2.2.1 (rowF p).2.2.2 = p := by
  unfold relaF rowF
  dsimp only
  rw [put_get8 _ (ex_size p 0 8 (by omega)), put_get4 _ (ex_size p 8 12 (by omega)), put_get4 _ (ex_size p 12 16 (by omega)), put_get8 _ (ex_size p 16 24 (by omega))]
  exact ex_join p hp
theorem wrong_ev (x : R4) (sym : Int) : Ev (fun k => rela_Rela_wrong.f k x.1 x.2.1 x.2.2.1 x.2.2.2 sym) (wrongF x sym) := by
  obtain ⟨a, b, c, d⟩ := x
  refine Ev.of (rela_Rela_wrong.mono _ _ _ _ _) (k := 4) ?_
  have ht : Int.tmod (a : Int) 8 = ((a % 8 : Nat) : Int) := rfl
  have i1 : ((b : Int) < 2) = (b < 2) := propext (by omega)
  have i2 : ((b : Int) > 5) = (5 < b) := propext (by omega)
  have i3 : ((b : Int) = 3) = (b = 3) := propext (by omega)
  have i4 : ((c : Int) != 0) = decide (c ≠ 0) := by
    by_cases h : c = 0
    · subst h; rfl
    · rw [decide_eq_true h]; exact bne_iff_ne.mpr (by omega)
  have i6 : (((a % 8 : Nat) : Int) = 0) = (a % 8 = 0) := propext (by omega)
  simp only [rela_Rela_wrong.f, rela_Rela_wrong.j0, rela_Rela_wrong.j1, rela_Rela_wrong.j2, wrongF, ht, i1, i2, i3, i4, i6, ge_iff_le]
  by_cases h1 : b < 2
  · simp [h1]
  · by_cases h2 : 5 < b
    · simp [h1, h2]
    · by_cases h3 : b = 3
      · by_cases h4 : c = 0
        · by_cases h5 : a % 8 = 0 <;> simp [h3, h4, h5]
        · simp [h3, h4]
      · by_cases h4 : sym ≤ (c : Int)
        · simp [h1, h2, h3, h4]
        · by_cases h5 : a % 8 = 0 <;> simp [h1, h2, h3, h4, h5]
/-- rela.Read's step. -/
theorem row_of (p : ByteArray) (sym : Int) (n0 n1 n2 n3 : Nat) (h0 : Ev (fun k => le_Get.f k (p.extract 0 8)) (n0 : Int)) (h1 : Ev (fun k => le_Get.f k (p.extract 8 12)) (n1 : Int)) (h2 : Ev (fun k => le_Get.f k (p.extract 12 16)) (n2 : Int)) (h3 : Ev (fun k => le_Get.f k (p.extract 16 24)) (n3 : Int))
    (l1 : n1 < 4294967296) (l2 : n2 < 4294967296) : Ev (fun k => rela_Read.row k p sym) (s38 (n0, n1, n2, n3), wrongF (n0, n1, n2, n3) sym) := by
  obtain ⟨K0, e0⟩ := h0
  obtain ⟨K1, e1⟩ := h1
  obtain ⟨K2, e2⟩ := h2
  obtain ⟨K3, e3⟩ := h3
  obtain ⟨K4, e4⟩ := wrong_ev (n0, n1, n2, n3) sym
  dsimp only at e0 e1 e2 e3 e4
  refine ⟨K0 + K1 + K2 + K3 + K4, fun k hk => ?_⟩
  have w1 : wrap64 (n1 : Int) = n1 := w64 (by omega) (by omega)
  have w2 : wrap64 (n2 : Int) = n2 := w64 (by omega) (by omega)
  show rela_Read.row k p sym = _
  unfold rela_Read.row
  refine Option.bind_eq_some_iff.2 ⟨(n0 : Int), e0 k (by omega), ?_⟩
  refine Option.bind_eq_some_iff.2 ⟨(n1 : Int), e1 k (by omega), ?_⟩
  refine Option.bind_eq_some_iff.2 ⟨(n2 : Int), e2 k (by omega), ?_⟩
  refine Option.bind_eq_some_iff.2 ⟨(n3 : Int), e3 k (by omega), ?_⟩
  rw [w1, w2]
  refine Option.bind_eq_some_iff.2 ⟨wrongF (n0, n1, n2, n3) sym, e4 k (by omega), ?_⟩
  unfold s38
  rfl
theorem row_ev (p : ByteArray) (sym : Int) (hp : p.size = 24) : Ev (fun k => rela_Read.row k p sym) (s38 (rowF p), wrongF (rowF p) sym) := by
  have hl := row_lt p hp
  have h := fun l1 l2 => row_of p sym (getS (p.extract 0 8)) (getS (p.extract 8 12)) (getS (p.extract 12 16)) (getS (p.extract 16 24)) (get_ev _) (get_ev _) (get_ev _) (get_ev _) l1 l2
  unfold rowF at hl ⊢
  dsimp only at hl
  exact h hl.2.1 hl.2.2.1

/-! ### both readers -/
def partF (s : ByteArray) (i : Nat) : ByteArray := s.extract (24 * i) (24 * i + 24)
theorem part_size (s : ByteArray) (i : Nat) (h : 24 * i + 24 ≤ s.size) : (partF s i).size = 24 := by rw [partF, ex_size _ _ _ h]; omega
theorem part_each (s : ByteArray) (i : Nat) : eachPart s 24 i = partF s i := by
  unfold eachPart partF
  rw [Nat.mul_comm i 24, Nat.mul_comm (i + 1) 24]
  rfl
def badF (s : ByteArray) (sym : Int) : Nat → Nat → Option (Nat × Int)
  | 0, _ => none
  | m + 1, i => if wrongF (rowF (partF s i)) sym = 0 then badF s sym m (i + 1) else some (i, wrongF (rowF (partF s i)) sym)
def rowsF (s : ByteArray) (i : Nat) : List R4 := (List.range i).map fun j => rowF (partF s j)
theorem rowsF_succ (s : ByteArray) (i : Nat) : rowsF s (i + 1) = rowsF s i ++ [rowF (partF s i)] := by simp [rowsF, List.range_succ]
def resF (s : ByteArray) (sym : Int) (m i : Nat) : List R4 × Int × Int := match badF s sym m i with
  | none => (rowsF s (i + m), 0, 0)
  | some (j, e) => ([], e, (j : Int) * 24)
theorem resF_zero (s : ByteArray) (sym : Int) (i : Nat) : resF s sym 0 i = (rowsF s i, 0, 0) := rfl
theorem resF_succ (s : ByteArray) (sym : Int) (m i : Nat) : resF s sym (m + 1) i = if wrongF (rowF (partF s i)) sym = 0 then resF s sym m (i + 1) else ([], wrongF (rowF (partF s i)) sym, (i : Int) * 24) := by
  unfold resF
  rw [badF]
  by_cases h : wrongF (rowF (partF s i)) sym = 0
  · rw [if_pos h, if_pos h, show i + (m + 1) = i + 1 + m by omega]
  · rw [if_neg h, if_neg h]
theorem go_ev (s : ByteArray) (sym : Int) : ∀ m i, 24 * (i + m) ≤ s.size → Ev (fun k => rela_Read.go k s sym m i ((rowsF s i).map s38)) ((resF s sym m i).1.map s38, (resF s sym m i).2.1, (resF s sym m i).2.2, ⟨#[]⟩) := by
  intro m
  induction m with
  | zero => intro i _; exact Ev.congr (f := fun _ => some ((rowsF s i).map s38, 0, 0, ⟨#[]⟩)) (fun k => rfl) (Ev.now _)
  | succ m ih =>
    intro i hi
    have hp := part_size s i (by omega)
    have hrow := row_ev (partF s i) sym hp
    rw [resF_succ]
    refine Ev.congr (fun k => ?_) (Ev.bind (f := fun k (q : S38 × Int) => if q.2 = 0 then rela_Read.go k s sym m (i + 1) ((rowsF s i).map s38 ++ [q.1]) else (fail_At.f q.2 ((i : Int) * 24)).bind fun t => some ([], t.1, t.2.1, t.2.2)) hrow ?_)
    · show rela_Read.go k s sym (m + 1) i _ = _
      rw [rela_Read.go, part_each]
    · by_cases h : wrongF (rowF (partF s i)) sym = 0
      · rw [if_pos h]
        refine Ev.congr (fun k => ?_) (ih (i + 1) (by omega))
        dsimp only
        rw [if_pos h, rowsF_succ, List.map_append]
        rfl
      · rw [if_neg h]
        refine Ev.congr (f := fun _ => some ([], wrongF (rowF (partF s i)) sym, (i : Int) * 24, ⟨#[]⟩)) (fun k => ?_) (by simp only [List.map_nil]; exact Ev.now _)
        dsimp only
        rw [if_neg h]
        simp only [fail_At.f, Option.bind_some]
def readF (s : ByteArray) (sym : Int) : List R4 × Int × Int := if s.size % 24 = 0 then (if s.size / 24 > 256 then ([], 6, 0) else resF s sym (s.size / 24) 0) else ([], 4, 0)
theorem rela_read_ev (s : ByteArray) (sym : Int) (hs : s.size ≤ 140737488351232) : Ev (fun k => rela_Read.f k s sym) ((readF s sym).1.map s38, (readF s sym).2.1, (readF s sym).2.2, ⟨#[]⟩) := by
  unfold readF
  by_cases h1 : s.size % 24 = 0
  · by_cases h2 : s.size / 24 > 256
    · rw [if_pos h1, if_pos h2]
      refine Ev.congr (f := fun _ => some ([], 6, 0, ⟨#[]⟩)) (fun k => ?_) (Ev.now _)
      unfold rela_Read.f
      rw [if_neg (by omega), if_pos h1, if_pos h2]
      simp only [fail_Of.f, Option.bind_some]
    · rw [if_pos h1, if_neg h2]
      refine Ev.congr (fun k => ?_) (go_ev s sym (s.size / 24) 0 (by omega))
      show rela_Read.f k s sym = rela_Read.go k s sym (s.size / 24) 0 []
      unfold rela_Read.f
      rw [if_neg (by omega), if_pos h1, if_neg h2]
  · rw [if_neg h1]
    refine Ev.congr (f := fun _ => some ([], 4, 0, ⟨#[]⟩)) (fun k => ?_) (Ev.now _)
    unfold rela_Read.f
    rw [if_neg (by omega), if_neg h1]
    simp only [fail_Of.f, Option.bind_some]
theorem ref_chain (j : Nat) (s : ByteArray) (sym : Int) (xs : List S27) (x8 : Int) (x : R4) (hx : xs.length < 4398046511104) :
    turnbuckleref15_Read.j1 (j + 6) s sym xs x8 (if x.1 % 8 = 0 then 0 else 13) x.1 x.2.1 x.2.2.1 x.2.2.2 = if wrongF x sym = 0 then turnbuckleref15_Read.l0 j s sym (xs ++ [s27 x]) (wrap64 (x8 + 24)) else some ([], wrongF x sym, IntKind.u64.wrap x8) := by
  obtain ⟨a, b, c, d⟩ := x
  have i1 : ((b : Int) < 2) = (b < 2) := propext (by omega)
  have i2 : ((b : Int) > 5) = (5 < b) := propext (by omega)
  have i3 : ((b : Int) = 3) = (b = 3) := propext (by omega)
  have i4 : ((c : Int) > 0) = (c ≠ 0) := propext (by omega)
  simp only [turnbuckleref15_Read.j1, turnbuckleref15_Read.j2, turnbuckleref15_Read.j3, turnbuckleref15_Read.j4, turnbuckleref15_Read.j5, turnbuckleref15_Read.j6, wrongF, s27, i1, i2, i3, i4, ge_iff_le, hx, if_true]
  generalize wrap64 (x8 + 24) = y
  generalize IntKind.u64.wrap x8 = z
  by_cases h1 : b < 2
  · by_cases h3 : b = 3
    · omega
    · by_cases h4 : sym ≤ (c : Int) <;> simp [h1, h3, h4]
  · by_cases h2 : 5 < b
    · have h3 : ¬ b = 3 := by omega
      by_cases h4 : sym ≤ (c : Int) <;> simp [h1, h2, h3, h4]
    · by_cases h3 : b = 3
      · by_cases h4 : c = 0
        · by_cases h5 : a % 8 = 0 <;> simp [h3, h4, h5]
        · simp [h3, h4]
      · by_cases h4 : sym ≤ (c : Int)
        · simp [h1, h2, h3, h4]
        · by_cases h5 : a % 8 = 0 <;> simp [h1, h2, h3, h4, h5]
theorem ex_ex (s : ByteArray) (q c d : Nat) (h : d ≤ 24) : (s.extract q (q + 24)).extract c d = s.extract (q + c) (q + d) := by
  rw [ByteArray.extract_extract]
  congr 1
  omega
theorem ref_step (s : ByteArray) (sym : Int) (i : Nat) (xs : List S27) (hx : xs.length < 4398046511104) (hi : 24 * i + 24 ≤ s.size) (hN : i < 100000) (hs : s.size ≤ 140737488351232) :
    ∃ K, ∀ j, K ≤ j → turnbuckleref15_Read.l0 (j + 7) s sym xs ((24 * i : Nat) : Int) = if wrongF (rowF (partF s i)) sym = 0 then turnbuckleref15_Read.l0 j s sym (xs ++ [s27 (rowF (partF s i))]) ((24 * (i + 1) : Nat) : Int) else some ([], wrongF (rowF (partF s i)) sym, (i : Int) * 24) := by
  have hl := row_lt (partF s i) (part_size s i hi)
  obtain ⟨K0, e0⟩ := rget_ev ((partF s i).extract 0 8) (by rw [ByteArray.size_extract, part_size s i hi]; omega)
  obtain ⟨K1, e1⟩ := rget_ev ((partF s i).extract 8 12) (by rw [ByteArray.size_extract, part_size s i hi]; omega)
  obtain ⟨K2, e2⟩ := rget_ev ((partF s i).extract 12 16) (by rw [ByteArray.size_extract, part_size s i hi]; omega)
  obtain ⟨K3, e3⟩ := rget_ev ((partF s i).extract 16 24) (by rw [ByteArray.size_extract, part_size s i hi]; omega)
  have hr : rowF (partF s i) = (getS ((partF s i).extract 0 8), getS ((partF s i).extract 8 12), getS ((partF s i).extract 12 16), getS ((partF s i).extract 16 24)) := rfl
  unfold partF at e0 e1 e2 e3 hr
  rw [ex_ex s _ _ _ (by omega)] at e0 e1 e2 e3
  rw [ex_ex s _ _ _ (by omega), ex_ex s _ _ _ (by omega), ex_ex s _ _ _ (by omega), ex_ex s _ _ _ (by omega)] at hr
  change rowF (partF s i) = _ at hr
  dsimp only at e0 e1 e2 e3
  generalize getS (s.extract (24 * i + 0) (24 * i + 8)) = n0 at e0 hr
  generalize getS (s.extract (24 * i + 8) (24 * i + 12)) = n1 at e1 hr
  generalize getS (s.extract (24 * i + 12) (24 * i + 16)) = n2 at e2 hr
  generalize getS (s.extract (24 * i + 16) (24 * i + 24)) = n3 at e3 hr
  rw [hr] at hl ⊢
  dsimp only at hl
  refine ⟨K0 + K1 + K2 + K3, fun j hj => ?_⟩
  have hc := ref_chain j s sym xs ((24 * i : Nat) : Int) (n0, n1, n2, n3) hx
  have hu : IntKind.u64.wrap ((24 * i : Nat) : Int) = (i : Int) * 24 := by rw [u64w (by omega) (by omega)]; omega
  have hw : wrap64 (((24 * i : Nat) : Int) + 24) = ((24 * (i + 1) : Nat) : Int) := by rw [w64 (by omega) (by omega)]; omega
  rw [hu, hw] at hc
  rw [← hc]
  have g8 : wrap64 (((24 * i : Nat) : Int) + 8) = ((24 * i + 8 : Nat) : Int) := by rw [w64 (by omega) (by omega)]; omega
  have g12 : wrap64 (((24 * i : Nat) : Int) + 12) = ((24 * i + 12 : Nat) : Int) := by rw [w64 (by omega) (by omega)]; omega
  have g16 : wrap64 (((24 * i : Nat) : Int) + 16) = ((24 * i + 16 : Nat) : Int) := by rw [w64 (by omega) (by omega)]; omega
  have g24 : wrap64 (((24 * i : Nat) : Int) + 24) = ((24 * i + 24 : Nat) : Int) := by rw [w64 (by omega) (by omega)]; omega
  have w1 : wrap64 (n1 : Int) = n1 := w64 (by omega) (by omega)
  have w2 : wrap64 (n2 : Int) = n2 := w64 (by omega) (by omega)
  have ht : (Int.tmod (n0 : Int) 8 = 0) = (n0 % 8 = 0) := propext (by have : Int.tmod (n0 : Int) 8 = ((n0 % 8 : Nat) : Int) := rfl; rw [this]; omega)
  rw [turnbuckleref15_Read.l0]
  rw [g8, g12, g16, g24, Int.toNat_natCast, Int.toNat_natCast, Int.toNat_natCast, Int.toNat_natCast, Int.toNat_natCast]
  rw [if_pos (by omega), if_pos (by omega), if_pos (by omega), if_pos (by omega)]
  have f0 : turnbuckleref01_Get.f (j + 6) (s.extract (24 * i) (24 * i + 8)) = some (n0 : Int) := e0 (j + 6) (by omega)
  rw [f0, Option.bind_some, if_pos (by omega), if_pos (by omega), if_pos (by omega), e1 _ (by omega), Option.bind_some, if_pos (by omega), if_pos (by omega), if_pos (by omega), e2 _ (by omega), Option.bind_some, if_pos (by omega), if_pos (by omega), if_pos (by omega), e3 _ (by omega), Option.bind_some, w1, w2]
  by_cases h5 : n0 % 8 = 0
  · rw [if_pos (by rw [ht]; exact h5)]; simp only [h5, if_true]
  · rw [if_neg (by rw [ht]; exact h5)]; simp only [h5, if_false]
theorem rowsF_length (s : ByteArray) (i : Nat) : (rowsF s i).length = i := by simp [rowsF]
theorem ref_loop (s : ByteArray) (sym : Int) (hs : s.size ≤ 140737488351232) (hb : s.size ≤ 10000) : ∀ m i, 24 * (i + m) = s.size → Ev (fun k => turnbuckleref15_Read.l0 k s sym ((rowsF s i).map s27) ((24 * i : Nat) : Int)) ((resF s sym m i).1.map s27, (resF s sym m i).2.1, (resF s sym m i).2.2) := by
  intro m
  induction m with
  | zero =>
    intro i hi
    refine Ev.step (f := fun _ => some ((rowsF s i).map s27, 0, 0)) (fun k => ?_) (Ev.now _)
    rw [turnbuckleref15_Read.l0, if_neg (by omega)]
  | succ m ih =>
    intro i hi
    obtain ⟨K, e⟩ := ref_step s sym i ((rowsF s i).map s27) (by rw [List.length_map, rowsF_length]; omega) (by omega) (by omega) hs
    rw [resF_succ]
    by_cases h : wrongF (rowF (partF s i)) sym = 0
    · rw [if_pos h]
      obtain ⟨K2, e2⟩ := ih (i + 1) (by omega)
      refine ⟨K + K2 + 7, fun k hk => ?_⟩
      obtain ⟨j, rfl⟩ : ∃ j, k = j + 7 := ⟨k - 7, by omega⟩
      have h1 := e j (by omega)
      rw [if_pos h] at h1
      have h2 := e2 j (by omega)
      rw [rowsF_succ, List.map_append] at h2
      exact h1.trans h2
    · rw [if_neg h]
      refine ⟨K + 7, fun k hk => ?_⟩
      obtain ⟨j, rfl⟩ : ∃ j, k = j + 7 := ⟨k - 7, by omega⟩
      have h1 := e j (by omega)
      rw [if_neg h] at h1
      generalize wrongF (rowF (partF s i)) sym = ww at h1 ⊢
      exact h1
theorem ref_read_ev (s : ByteArray) (sym : Int) (hs : s.size ≤ 140737488351232) : Ev (fun k => turnbuckleref15_Read.f k s sym) ((readF s sym).1.map s27, (readF s sym).2.1, (readF s sym).2.2) := by
  unfold readF
  have w : wrap64 ((s.size : Int) / 24) = ((s.size / 24 : Nat) : Int) := by rw [w64 (by omega) (by omega)]; omega
  by_cases h1 : s.size % 24 = 0
  · by_cases h2 : s.size / 24 > 256
    · rw [if_pos h1, if_pos h2]
      refine Ev.congr (f := fun _ => some ([], 6, 0)) (fun k => ?_) (Ev.now _)
      unfold turnbuckleref15_Read.f
      rw [if_pos (by omega), w, if_pos (by omega)]
    · rw [if_pos h1, if_neg h2]
      refine Ev.congr (fun k => ?_) (ref_loop s sym hs (by omega) (s.size / 24) 0 (by omega))
      show turnbuckleref15_Read.f k s sym = turnbuckleref15_Read.l0 k s sym [] 0
      unfold turnbuckleref15_Read.f
      rw [if_pos (by omega), w, if_neg (by omega)]
  · rw [if_neg h1]
    refine Ev.congr (f := fun _ => some ([], 4, 0)) (fun k => ?_) (Ev.now _)
    unfold turnbuckleref15_Read.f
    rw [if_neg (by omega)]

/-! ### the law -/
theorem rows_get (s : ByteArray) (N j : Nat) (h : j < N) : (rowsF s N)[j]? = some (rowF (partF s j)) := by
  rw [rowsF, List.getElem?_map, List.getElem?_range h]; rfl
theorem rd38 (xs : List R4) (j : Nat) (x : R4) (h : xs[j]? = some x) : rd_T38 (xs.map s38) (j : Int) = s38 x := by
  rw [rd_T38, Int.toNat_natCast, List.getD_eq_getElem?_getD, List.getElem?_map, h]; rfl
theorem rd27 (xs : List R4) (j : Nat) (x : R4) (h : xs[j]? = some x) : rd_T27 (xs.map s27) (j : Int) = s27 x := by
  rw [rd_T27, Int.toNat_natCast, List.getD_eq_getElem?_getD, List.getElem?_map, h]; rfl
theorem rows_step (k : Nat) (s : ByteArray) (xs : List S38) (ys : List S27) (j N : Nat) (hx : xs.length = N) (hy : ys.length = N) (n0 n1 n2 n3 : Nat) (h38 : rd_T38 xs (j : Int) = s38 (n0, n1, n2, n3)) (h27 : rd_T27 ys (j : Int) = s27 (n0, n1, n2, n3))
    (rf : ByteArray) (e1 : rela_Put.f k n0 n1 n2 n3 = some rf) (hT : rf.toList = (s.extract (24 * j) (24 * j + 24)).toList) (hj : j < N) (hN : N ≤ 256) (hs : 24 * N ≤ s.size) (e2 : turnbucklelaw15_RelaReads.l1 k s xs ys ((j + 1 : Nat) : Int) = some true) : turnbucklelaw15_RelaReads.l1 (k + 1) s xs ys (j : Int) = some true := by
  have w1 : wrap64 (24 * (j : Int)) = ((24 * j : Nat) : Int) := by rw [w64 (by omega) (by omega)]; omega
  have w2 : wrap64 (((24 * j : Nat) : Int) + 24) = ((24 * j + 24 : Nat) : Int) := by rw [w64 (by omega) (by omega)]; omega
  have w3 : wrap64 ((j : Int) + 1) = ((j + 1 : Nat) : Int) := by rw [w64 (by omega) (by omega)]; omega
  have c1 : (j : Int) < (N : Int) := by omega
  have c2 : (0 : Int) ≤ (j : Int) := by omega
  have c4 : (0 : Int) ≤ ((24 * j : Nat) : Int) := by omega
  have c5 : ((24 * j : Nat) : Int) ≤ ((24 * j + 24 : Nat) : Int) := by omega
  have c6 : ((24 * j + 24 : Nat) : Int) ≤ (s.size : Int) := by omega
  rw [turnbucklelaw15_RelaReads.l1, h38, h27, hx, hy]
  simp only [s38, s27]
  rw [w1, w2, w3, Int.toNat_natCast, Int.toNat_natCast, if_pos c1, if_pos c2, if_pos c1]
  simp only [beq_self_eq_true, Bool.not_true, Bool.or_self, Bool.false_eq_true, if_false]
  rw [e1, Option.bind_some, if_pos c4, if_pos c5, if_pos c6, if_pos hT]
  exact e2
theorem loop_rows (s : ByteArray) (N : Nat) (hN : N ≤ 256) (hs : 24 * N ≤ s.size) : ∀ d j, j + d = N → Ev (fun k => turnbucklelaw15_RelaReads.l1 k s ((rowsF s N).map s38) ((rowsF s N).map s27) (j : Int)) true := by
  intro d
  induction d with
  | zero =>
    intro j hj
    refine Ev.step (f := fun _ => some true) (fun k => ?_) (Ev.now _)
    rw [turnbucklelaw15_RelaReads.l1, if_neg (by rw [List.length_map, rowsF_length]; omega)]
  | succ d ih =>
    intro j hj
    have hg := rows_get s N j (by omega)
    have hp := part_size s j (by omega)
    have hl := row_lt (partF s j) hp
    have hF := relaF_row (partF s j) hp
    have h38 := rd38 _ _ _ hg
    have h27 := rd27 _ _ _ hg
    generalize hx : rowF (partF s j) = x at hg hl hF h38 h27
    obtain ⟨n0, n1, n2, n3⟩ := x
    dsimp only at hl hF
    clear hp hx hg
    have hl1 := hl.1
    have hl2 := hl.2.1
    have hl3 := hl.2.2.1
    have hl4 := hl.2.2.2
    clear hl
    obtain ⟨K1, e1⟩ := rela_put_ev n0 n1 n2 n3 hl1 hl2 hl3 hl4
    obtain ⟨K2, e2⟩ := ih (j + 1) (by omega)
    dsimp only at e1 e2
    generalize relaF n0 n1 n2 n3 = rf at hF e1
    clear hl1 hl2 hl3 hl4
    have hT : rf.toList = (s.extract (24 * j) (24 * j + 24)).toList := by rw [hF]; unfold partF; rfl
    clear hF
    refine ⟨K1 + K2 + 1, fun k hk => ?_⟩
    obtain ⟨k, rfl⟩ : ∃ q, k = q + 1 := ⟨k - 1, by omega⟩
    show turnbucklelaw15_RelaReads.l1 (k + 1) s _ _ _ = _
    exact rows_step k s _ _ j N (by simp [rowsF_length]) (by simp [rowsF_length]) n0 n1 n2 n3 h38 h27 rf (e1 k (by omega)) hT (by omega) hN hs (e2 k (by omega))
theorem tail_ev (s : ByteArray) (more : ByteArray) (sym : Int) (hs : s.size ≤ 6240) : Ev (fun k => turnbucklelaw15_RelaReads.j1 k more sym s) true := by
  have hmn : 0 ≤ mn (more.size : Int) 100 ∧ mn (more.size : Int) 100 ≤ more.size ∧ mn (more.size : Int) 100 ≤ 100 := by unfold mn; split <;> omega
  have hsz : (more.extract 0 (mn (more.size : Int) 100).toNat).size ≤ 100 := by rw [ByteArray.size_extract]; omega
  obtain ⟨b, hb⟩ : ∃ b, s ++ more.extract 0 (mn (more.size : Int) 100).toNat = b := ⟨_, rfl⟩
  have hbs : b.size ≤ 6340 := by rw [← hb, ByteArray.size_append]; omega
  obtain ⟨K1, e1⟩ := rela_read_ev b sym (by omega)
  obtain ⟨K2, e2⟩ := ref_read_ev b sym (by omega)
  have hloop : Ev (fun k => turnbucklelaw15_RelaReads.l1 k b ((readF b sym).1.map s38) ((readF b sym).1.map s27) 0) true := by
    have hnil : Ev (fun k => turnbucklelaw15_RelaReads.l1 k b (([] : List R4).map s38) (([] : List R4).map s27) 0) true := by
      refine Ev.step (f := fun _ => some true) (fun k => ?_) (Ev.now _)
      rw [turnbucklelaw15_RelaReads.l1, if_neg (by simp)]
    unfold readF
    by_cases h1 : b.size % 24 = 0
    · by_cases h2 : b.size / 24 > 256
      · rw [if_pos h1, if_pos h2]; exact hnil
      · rw [if_pos h1, if_neg h2]
        unfold resF
        cases hbad : badF b sym (b.size / 24) 0 with
        | none =>
          rw [Nat.zero_add]
          exact loop_rows b (b.size / 24) (by omega) (by omega) (b.size / 24) 0 (by omega)
        | some q => exact hnil
    · rw [if_neg h1]; exact hnil
  obtain ⟨K3, e3⟩ := hloop
  dsimp only at e1 e2 e3
  generalize readF b sym = r at e1 e2 e3
  refine ⟨K1 + K2 + K3 + 2, fun k hk => ?_⟩
  obtain ⟨k, rfl⟩ : ∃ q, k = q + 2 := ⟨k - 2, by omega⟩
  show turnbucklelaw15_RelaReads.j1 (k + 2) more sym s = _
  rw [turnbucklelaw15_RelaReads.j1, if_pos hmn.1, if_pos hmn.2.1, if_pos (by omega), hb, e1 _ (by omega), Option.bind_some, e2 _ (by omega), Option.bind_some, if_pos rfl, if_pos rfl]
  simp only [List.length_map, bne_self_eq_false]
  rw [turnbucklelaw15_RelaReads.j2]
  simp only [Bool.false_eq_true, if_false]
  exact e3 _ (by omega)
theorem wrap_nat (x : Int) : ∃ n : Nat, IntKind.u64.wrap x = n ∧ n < 18446744073709551616 := ⟨(x % 18446744073709551616).toNat, by rw [IntKind.wrap_u64]; omega, by omega⟩
theorem any_put_ev (x : S28) (h0 : (Lit.int .u64 x.f0).wf = true) (h3 : (Lit.int .u64 x.f3).wf = true) : ∃ t : ByteArray, t.size = 24 ∧ Ev (fun k => turnbuckleref15_Put.f k x.f0 x.f1 x.f2 x.f3) t := by
  obtain ⟨l0, u0⟩ := u64_bounds h0
  obtain ⟨l3, u3⟩ := u64_bounds h3
  obtain ⟨n0, hn0⟩ := Int.eq_ofNat_of_zero_le l0
  obtain ⟨n3, hn3⟩ := Int.eq_ofNat_of_zero_le l3
  obtain ⟨n1, hn1, k1⟩ := wrap_nat x.f1
  obtain ⟨n2, hn2, k2⟩ := wrap_nat x.f2
  obtain ⟨K0, e0⟩ := rput_ev n0 8 (by omega)
  obtain ⟨K1, e1⟩ := rput_ev n1 4 (by omega)
  obtain ⟨K2, e2⟩ := rput_ev n2 4 (by omega)
  obtain ⟨K3, e3⟩ := rput_ev n3 8 (by omega)
  dsimp only at e0 e1 e2 e3
  have s0 : (putF n0 8).size = 8 := by rw [putF_size]; simp
  have s1 : (putF n1 4).size = 4 := by rw [putF_size]; simp
  have s2 : (putF n2 4).size = 4 := by rw [putF_size]; simp
  have s3 : (putF n3 8).size = 8 := by rw [putF_size]; simp
  refine ⟨putF n0 8 ++ putF n1 4 ++ putF n2 4 ++ putF n3 8, by simp only [ByteArray.size_append, s0, s1, s2, s3], K0 + K1 + K2 + K3, fun k hk => ?_⟩
  show turnbuckleref15_Put.f k x.f0 x.f1 x.f2 x.f3 = _
  unfold turnbuckleref15_Put.f
  rw [hn0, hn1, hn2, hn3, e0 _ (by omega), Option.bind_some, e1 _ (by omega), Option.bind_some, if_pos (by omega), e2 _ (by omega), Option.bind_some, if_pos (by rw [ByteArray.size_append]; omega), e3 _ (by omega), Option.bind_some, if_pos (by rw [ByteArray.size_append, ByteArray.size_append]; omega)]
theorem law_loop (l : List S28) (more : ByteArray) (sym : Int) (hw : ∀ x ∈ l, (Lit.int .u64 x.f0).wf = true ∧ (Lit.int .i64 x.f1).wf = true ∧ (Lit.int .i64 x.f2).wf = true ∧ (Lit.int .u64 x.f3).wf = true) :
    ∀ d i (s : ByteArray), i + d = 260 → s.size = 24 * i → Ev (fun k => turnbucklelaw15_RelaReads.l0 k l more sym s (i : Int)) true := by
  intro d
  induction d with
  | zero =>
    intro i s hi hs
    refine Ev.step (fun k => ?_) (tail_ev s more sym (by omega))
    rw [turnbucklelaw15_RelaReads.l0]
    by_cases h : (i : Int) < (l.length : Int)
    · rw [if_pos h, if_neg (by omega)]
    · rw [if_neg h]
  | succ d ih =>
    intro i s hi hs
    by_cases h : i < l.length
    · have hx := hw l[i] (List.getElem_mem h)
      have hrd : rd_T28 l (i : Int) = l[i] := by
        rw [rd_T28, Int.toNat_natCast, List.getD_eq_getElem?_getD, List.getElem?_eq_getElem h]; rfl
      obtain ⟨t, ht, K1, e1⟩ := any_put_ev l[i] hx.1 hx.2.2.2
      obtain ⟨K2, e2⟩ := ih (i + 1) (s ++ t) (by omega) (by rw [ByteArray.size_append]; omega)
      dsimp only at e1 e2
      refine ⟨K1 + K2 + 1, fun k hk => ?_⟩
      obtain ⟨k, rfl⟩ : ∃ q, k = q + 1 := ⟨k - 1, by omega⟩
      have w3 : wrap64 ((i : Int) + 1) = ((i + 1 : Nat) : Int) := by rw [w64 (by omega) (by omega)]; omega
      show turnbucklelaw15_RelaReads.l0 (k + 1) l more sym s i = _
      rw [turnbucklelaw15_RelaReads.l0, if_pos (by omega), if_pos (by omega), if_pos (by omega), hrd, e1 _ (by omega), Option.bind_some, if_pos (by omega), w3]
      exact e2 _ (by omega)
    · refine Ev.step (fun k => ?_) (tail_ev s more sym (by omega))
      rw [turnbucklelaw15_RelaReads.l0, if_neg (by omega)]
theorem RelaReads : turnbucklelaw15_RelaReads.Pure := by
  unfold turnbucklelaw15_RelaReads.Pure
  intros
  rename_i l more sym _ hw _ _
  obtain ⟨K1, e1⟩ := law_speaks
  obtain ⟨K2, e2⟩ := law_loop l more sym hw 260 0 ⟨#[]⟩ rfl rfl
  dsimp only at e1 e2
  refine ⟨K1 + K2, ?_⟩
  unfold turnbucklelaw15_RelaReads.f
  rw [e1 _ (by omega)]
  simp only [Option.bind_some, if_true]
  exact e2 _ (by omega)
end Go.Proofs.Ytpdecpiiidoleaa.Pure
