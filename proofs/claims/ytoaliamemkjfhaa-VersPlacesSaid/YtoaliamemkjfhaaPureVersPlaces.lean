/-
  Definitions one behind the other.
-/
import Derived.Test.YtoaliamemkjfhaaPureVersDefs
import Derived.Test.YtoaliamemkjfhaaPAllx11
namespace Go.Proofs.Ytoaliamemkjfhaa.Pure
open Go Go.RowKit Go.Proofs.Ytoaliamemkjfhaa.PAll Go.Proofs.YtoaliamemkjfhaaW.PrintWords Go.Proofs.YtoaliamemkjfhaaW.PrintLast Go.Proofs.Ytoaliamemkjfhaa.Nice Go.Proofs.Ytoaliamemkjfhaa.Vers
set_option linter.unusedVariables false

theorem ba_ext {a b : ByteArray} (h : a.data.toList = b.data.toList) : a = b := ByteArray.ext (Array.ext' h)
/-! ### bytes in rows -/
theorem flat_drop : ∀ (i : Nat) (L : List (List UInt8)), (∀ r ∈ L, r.length = 28) → L.flatten.drop (28 * i) = (L.drop i).flatten
  | 0, L, _ => by simp
  | i + 1, [], _ => by simp
  | i + 1, r :: t, h => by
    have hr := h r List.mem_cons_self
    have ih := flat_drop i t (fun x hx => h x (List.mem_cons_of_mem _ hx))
    rw [List.flatten_cons, show 28 * (i + 1) = r.length + 28 * i by omega, ← List.drop_drop, List.drop_left, ih, List.drop_succ_cons]
theorem flat_take : ∀ (i : Nat) (L : List (List UInt8)), (∀ r ∈ L, r.length = 28) → L.flatten.take (28 * i) = (L.take i).flatten
  | 0, L, _ => by simp
  | i + 1, [], _ => by simp
  | i + 1, r :: t, h => by
    have hr := h r List.mem_cons_self
    have ih := flat_take i t (fun x hx => h x (List.mem_cons_of_mem _ hx))
    rw [List.flatten_cons, show 28 * (i + 1) = r.length + 28 * i by omega, List.take_length_add_append, ih, List.take_succ_cons, List.flatten_cons]
theorem flat_length (L : List (List UInt8)) (h : ∀ r ∈ L, r.length = 28) : L.flatten.length = 28 * L.length := by
  induction L with
  | nil => rfl
  | cons r t ih =>
    rw [List.flatten_cons, List.length_append, ih (fun x hx => h x (List.mem_cons_of_mem _ hx)), h r List.mem_cons_self, List.length_cons]
    omega
def lists (rows : List ByteArray) : List (List UInt8) := rows.map fun r => r.data.toList
def cat (rows : List ByteArray) : ByteArray := ⟨(lists rows).flatten.toArray⟩
def Rows28 (rows : List ByteArray) : Prop := ∀ r ∈ rows, r.size = 28
theorem lists_len {rows : List ByteArray} (h : Rows28 rows) : ∀ r ∈ lists rows, r.length = 28 := by
  intro r hr
  obtain ⟨x, hx, rfl⟩ := List.mem_map.1 hr
  exact h x hx
theorem cat_size {rows : List ByteArray} (h : Rows28 rows) : (cat rows).size = 28 * rows.length := by
  show (lists rows).flatten.toArray.size = _
  rw [List.size_toArray, flat_length _ (lists_len h)]
  simp [lists]
theorem cat_snoc (rows : List ByteArray) (r : ByteArray) : cat (rows ++ [r]) = cat rows ++ r := by
  apply ba_ext
  simp [cat, lists]
theorem and_mask (a : Int) (i : Nat) (hi : i ≤ 62) : bits .and .i64 a (2 ^ i - 1) = a % 2 ^ i := by
  have hpos : 0 < 2 ^ i := Nat.two_pow_pos i
  have hle : 2 ^ i ≤ 2 ^ 62 := Nat.pow_le_pow_right (by decide) hi
  have hc : ((2 : Int) ^ i - 1) = ((2 ^ i - 1 : Nat) : Int) := by
    rw [Int.natCast_sub hpos]; simp
  have hb : (2 ^ i - 1) % 2 ^ IntKind.i64.bits = 2 ^ i - 1 := Nat.mod_eq_of_lt (by show 2 ^ i - 1 < 2 ^ 64; omega)
  rw [hc]
  simp only [bits, BitVec.ofInt_natCast, BitVec.toNat_and, BitVec.toNat_ofNat, hb, BitVec.toNat_ofInt]
  rw [Nat.and_two_pow_sub_one_eq_mod, IntKind.wrap_i64]
  have hd : ((2 : Int) ^ i) ∣ 18446744073709551616 := ⟨2 ^ (64 - i), by rw [← Int.pow_add, show i + (64 - i) = 64 by omega]; rfl⟩
  have h1 : (((a % ((2 ^ IntKind.i64.bits : Nat) : Int)).toNat % 2 ^ i : Nat) : Int) = a % 2 ^ i := by
    have h2 : ((2 ^ IntKind.i64.bits : Nat) : Int) = 18446744073709551616 := rfl
    rw [h2, Int.natCast_emod, Int.toNat_of_nonneg (Int.emod_nonneg _ (by decide))]
    rw [show ((2 ^ i : Nat) : Int) = 2 ^ i by simp]
    exact Int.emod_emod_of_dvd a hd
  rw [h1]
  have h3 := Int.emod_nonneg a (b := 2 ^ i) (Int.ne_of_gt (Int.pow_pos (by decide)))
  have h4 := Int.emod_lt_of_pos a (b := 2 ^ i) (Int.pow_pos (by decide))
  have h5 : (2 : Int) ^ i ≤ 2 ^ 62 := by exact_mod_cast hle
  have h6 : (2 : Int) ^ 62 = 4611686018427387904 := rfl
  omega

theorem cat_extract {rows : List ByteArray} (h : Rows28 rows) (i : Nat) (r : ByteArray) (hi : rows[i]? = some r) (o n : Nat) (ho : o + n ≤ 28) : (cat rows).extract (28 * i + o) (28 * i + o + n) = r.extract o (o + n) := by
  apply ba_ext
  have hL := lists_len h
  have hlt := (List.getElem?_eq_some_iff.1 hi).1
  rw [extract_toList, extract_toList, show 28 * i + o + n - (28 * i + o) = n by omega, show o + n - o = n by omega]
  show ((lists rows).flatten.drop (28 * i + o)).take n = _
  rw [← List.drop_drop, flat_drop i _ hL]
  have hg : (lists rows)[i]? = some r.data.toList := by simp [lists, hi]
  have hlt2 : i < (lists rows).length := by simpa [lists] using hlt
  rw [List.drop_eq_getElem_cons hlt2, List.flatten_cons]
  have he : (lists rows)[i] = r.data.toList := by
    have := List.getElem?_eq_getElem hlt2
    rw [hg] at this
    exact (Option.some.inj this).symm
  have hlr : r.data.toList.length = 28 := h r (List.mem_of_getElem? hi)
  rw [he, List.drop_append_of_le_length (by omega), List.take_append_of_le_length (by rw [List.length_drop]; omega)]
theorem part_of (A X B : ByteArray) (o n : Nat) (hA : A.size = o) (hX : X.size = n) : (A ++ X ++ B).extract o (o + n) = X := by
  apply ba_ext
  have lA : A.data.toList.length = o := hA
  have lX : X.data.toList.length = n := hX
  rw [extract_toList, show o + n - o = n by omega, ByteArray.data_append, Array.toList_append, ByteArray.data_append, Array.toList_append, List.append_assoc, ← lA, List.drop_left, ← lX, List.take_left]
theorem part_of0 (X B : ByteArray) (n : Nat) (hX : X.size = n) : (X ++ B).extract 0 n = X := by
  apply ba_ext
  have lX : X.data.toList.length = n := hX
  rw [extract_toList, Nat.sub_zero, List.drop_zero, ByteArray.data_append, Array.toList_append, ← lX, List.take_left]
theorem putF4 (n : Nat) : (putF n 4).size = 4 := by rw [putF_size]; simp
theorem putF2 (n : Nat) : (putF n 2).size = 2 := by rw [putF_size]; simp
/-- One definition's bytes. -/
def rowV (v p : Nat) : ByteArray := ((((((((putF 1 2 ++ putF 0 2) ++ putF v 2) ++ putF 1 2) ++ putF 0 4) ++ putF 20 4) ++ putF 28 4) ++ putF p 4) ++ putF 0 4)
theorem rowV_size (v p : Nat) : (rowV v p).size = 28 := by simp only [rowV, ByteArray.size_append, putF2, putF4]
theorem row_parts (v p : Nat) : (rowV v p).extract 0 2 = putF 1 2 ∧ (rowV v p).extract 4 6 = putF v 2 ∧ (rowV v p).extract 6 8 = putF 1 2 ∧ (rowV v p).extract 12 16 = putF 20 4 ∧ (rowV v p).extract 16 20 = putF 28 4 ∧ (rowV v p).extract 20 24 = putF p 4 := by
  unfold rowV
  have s0 : (putF 1 2).size = 2 := putF2 _
  have s1 : (putF 0 2).size = 2 := putF2 _
  have s2 : (putF v 2).size = 2 := putF2 _
  have s4 : (putF 0 4).size = 4 := putF4 _
  have s5 : (putF 20 4).size = 4 := putF4 _
  have s6 : (putF 28 4).size = 4 := putF4 _
  have s7 : (putF p 4).size = 4 := putF4 _
  generalize putF 1 2 = a0 at s0 ⊢
  generalize putF 0 2 = a1 at s1 ⊢
  generalize putF v 2 = a2 at s2 ⊢
  generalize putF 0 4 = a4 at s4 ⊢
  generalize putF 20 4 = a5 at s5 ⊢
  generalize putF 28 4 = a6 at s6 ⊢
  generalize putF p 4 = a7 at s7 ⊢
  refine ⟨?_, ?_, ?_, ?_, ?_, ?_⟩
  · have e : a0 ++ a1 ++ a2 ++ a0 ++ a4 ++ a5 ++ a6 ++ a7 ++ a4 = a0 ++ (a1 ++ a2 ++ a0 ++ a4 ++ a5 ++ a6 ++ a7 ++ a4) := by simp only [ByteArray.append_assoc]
    rw [e]; exact part_of0 _ _ 2 s0
  · have e : a0 ++ a1 ++ a2 ++ a0 ++ a4 ++ a5 ++ a6 ++ a7 ++ a4 = (a0 ++ a1) ++ a2 ++ (a0 ++ a4 ++ a5 ++ a6 ++ a7 ++ a4) := by simp only [ByteArray.append_assoc]
    rw [e]; exact part_of _ _ _ 4 2 (by simp only [ByteArray.size_append, s0, s1]) s2
  · have e : a0 ++ a1 ++ a2 ++ a0 ++ a4 ++ a5 ++ a6 ++ a7 ++ a4 = (a0 ++ a1 ++ a2) ++ a0 ++ (a4 ++ a5 ++ a6 ++ a7 ++ a4) := by simp only [ByteArray.append_assoc]
    rw [e]; exact part_of _ _ _ 6 2 (by simp only [ByteArray.size_append, s0, s1, s2]) s0
  · have e : a0 ++ a1 ++ a2 ++ a0 ++ a4 ++ a5 ++ a6 ++ a7 ++ a4 = (a0 ++ a1 ++ a2 ++ a0 ++ a4) ++ a5 ++ (a6 ++ a7 ++ a4) := by simp only [ByteArray.append_assoc]
    rw [e]; exact part_of _ _ _ 12 4 (by simp only [ByteArray.size_append, s0, s1, s2, s4]) s5
  · have e : a0 ++ a1 ++ a2 ++ a0 ++ a4 ++ a5 ++ a6 ++ a7 ++ a4 = (a0 ++ a1 ++ a2 ++ a0 ++ a4 ++ a5) ++ a6 ++ (a7 ++ a4) := by simp only [ByteArray.append_assoc]
    rw [e]; exact part_of _ _ _ 16 4 (by simp only [ByteArray.size_append, s0, s1, s2, s4, s5]) s6
  · have e : a0 ++ a1 ++ a2 ++ a0 ++ a4 ++ a5 ++ a6 ++ a7 ++ a4 = (a0 ++ a1 ++ a2 ++ a0 ++ a4 ++ a5 ++ a6) ++ a7 ++ a4 := by simp only [ByteArray.append_assoc]
    rw [e]; exact part_of _ _ _ 20 4 (by simp only [ByteArray.size_append, s0, s1, s2, s4, s5, s6]) s7
theorem ad_small (a t : Nat) (h : a + t < 18446744073709551616) : ad a t = a + t := by unfold ad; exact Nat.mod_eq_of_lt h
theorem numF_in (b : ByteArray) (a n : Nat) (h1 : 1 ≤ n) (h8 : n ≤ 8) (h : a + n ≤ b.size) : numF b a n = getS (b.extract a (a + n)) := by
  unfold numF atF
  rw [if_pos (by omega), Int.toNat_natCast]
/-- The rows of some definitions: a number, a place for each. -/
def Vrows (vs : List Nat) : List ByteArray := (List.range vs.length).map fun i => rowV (vs.getD i 0) (2 * (i % 4))
theorem Vrows_len (vs : List Nat) : (Vrows vs).length = vs.length := by simp [Vrows]
theorem Vrows_28 (vs : List Nat) : Rows28 (Vrows vs) := by
  intro r hr
  obtain ⟨i, _, rfl⟩ := List.mem_map.1 hr
  exact rowV_size _ _
theorem Vrows_at (vs : List Nat) (i : Nat) (hi : i < vs.length) : (Vrows vs)[i]? = some (rowV (vs.getD i 0) (2 * (i % 4))) := by
  simp [Vrows, List.getElem?_map, List.getElem?_range hi]
theorem Vsize (vs : List Nat) : (cat (Vrows vs)).size = 28 * vs.length := by rw [cat_size (Vrows_28 vs), Vrows_len]
/-- What stands in the row i. -/
theorem row_nums (vs : List Nat) (hl : vs.length ≤ 20) (i : Nat) (hi : i < vs.length) :
    numF (cat (Vrows vs)) (28 * i) 2 = 1 ∧ numF (cat (Vrows vs)) (28 * i + 4) 2 = vs.getD i 0 % 65536 ∧ numF (cat (Vrows vs)) (28 * i + 6) 2 = 1 ∧
    numF (cat (Vrows vs)) (28 * i + 12) 4 = 20 ∧ numF (cat (Vrows vs)) (28 * i + 16) 4 = 28 ∧ numF (cat (Vrows vs)) (28 * i + 20) 4 = 2 * (i % 4) := by
  have hs := Vsize vs
  obtain ⟨p0, p1, p2, p3, p4, p5⟩ := row_parts (vs.getD i 0) (2 * (i % 4))
  have x := fun o n ho => cat_extract (Vrows_28 vs) i _ (Vrows_at vs i hi) o n ho
  have n2 : ∀ o, o + 2 ≤ 28 → numF (cat (Vrows vs)) (28 * i + o) 2 = getS ((rowV (vs.getD i 0) (2 * (i % 4))).extract o (o + 2)) := by
    intro o ho
    rw [← x o 2 ho]
    exact numF_in _ _ 2 (by decide) (by decide) (by omega)
  have n4 : ∀ o, o + 4 ≤ 28 → numF (cat (Vrows vs)) (28 * i + o) 4 = getS ((rowV (vs.getD i 0) (2 * (i % 4))).extract o (o + 4)) := by
    intro o ho
    rw [← x o 4 ho]
    exact numF_in _ _ 4 (by decide) (by decide) (by omega)
  have g2 : ∀ n, getS (putF n 2) = n % 65536 := fun n => get_putF n 2 (by decide)
  have g4 : ∀ n, getS (putF n 4) = n % 4294967296 := fun n => get_putF n 4 (by decide)
  refine ⟨?_, ?_, ?_, ?_, ?_, ?_⟩
  · have z := n2 0 (by decide)
    rw [Nat.add_zero] at z
    rw [z, p0, g2]
  · rw [n2 4 (by decide), p1, g2]
  · rw [n2 6 (by decide), p2, g2]
  · rw [n4 12 (by decide), p3, g4]
  · rw [n4 16 (by decide), p4, g4]
  · rw [n4 20 (by decide), p5, g4]; omega
def NM : ByteArray := ⟨#[97, 0, 98, 0, 99, 0, 100, 0]⟩
def nmF (i : Nat) : ByteArray := NM.extract (2 * (i % 4)) (2 * (i % 4) + 1)
theorem nm_text (i : Nat) : textF NM (2 * (i % 4)) 32 = (nmF i, true) := by
  unfold nmF
  have h : i % 4 < 4 := Nat.mod_lt _ (by decide)
  generalize i % 4 = j at h
  match j, h with
  | 0, _ => decide +kernel
  | 1, _ => decide +kernel
  | 2, _ => decide +kernel
  | 3, _ => decide +kernel
theorem D_row (vs : List Nat) (hl : vs.length ≤ 20) (i : Nat) (hi : i < vs.length) :
    D (cat (Vrows vs)) NM (28 * i) = (((vs.getD i 0 % 32768 : Nat) : Int), nmF i, 0) ∧ nxt (cat (Vrows vs)) (28 * i) = 28 * (i + 1) := by
  obtain ⟨q0, q1, q2, q3, q4, q5⟩ := row_nums vs hl i hi
  have hs := Vsize vs
  have a4 := ad_small (28 * i) 4 (by omega)
  have a6 := ad_small (28 * i) 6 (by omega)
  have a12 := ad_small (28 * i) 12 (by omega)
  have a16 := ad_small (28 * i) 16 (by omega)
  have a20 := ad_small (28 * i) 20 (by omega)
  have a28 := ad_small (28 * i) 28 (by omega)
  have hf : fstF (cat (Vrows vs)) (28 * i) = 28 * i + 20 := by unfold fstF; rw [a12, q3, a20]
  constructor
  · unfold D
    rw [hf, a4, a6, q0, q1, q2, q5, nm_text]
    rw [if_neg (show ¬ (¬ (28 * i + 20 ≤ (cat (Vrows vs)).size) ∨ ¬ (28 * i + 20 + 8 ≤ (cat (Vrows vs)).size)) by rw [hs]; omega), if_neg (by decide), if_pos rfl]
    have : vs.getD i 0 % 65536 % 32768 = vs.getD i 0 % 32768 := by omega
    rw [this]
  · unfold nxt
    rw [a16, q4, a28]
    omega
theorem D_end (vs : List Nat) : D (cat (Vrows vs)) NM (28 * vs.length) = (0, ⟨#[]⟩, 2) := by
  unfold D
  rw [if_pos (Or.inl (by rw [Vsize]; omega))]
def ent (vs : List Nat) (i : Nat) : Int × ByteArray := (((vs.getD i 0 % 32768 : Nat) : Int), nmF i)
theorem run_some (vs : List Nat) (hl : vs.length ≤ 20) (rest : Nat) : ∀ (m i : Nat) (xs : List (Int × ByteArray)), i + m ≤ vs.length →
    run (cat (Vrows vs)) NM (m + rest) (28 * i) xs = run (cat (Vrows vs)) NM rest (28 * (i + m)) (xs ++ (List.range m).map fun j => ent vs (i + j))
  | 0, i, xs, _ => by simp
  | m + 1, i, xs, h => by
    obtain ⟨d1, d2⟩ := D_row vs hl i (by omega)
    rw [show m + 1 + rest = (m + rest) + 1 by omega]
    have e : run (cat (Vrows vs)) NM ((m + rest) + 1) (28 * i) xs = run (cat (Vrows vs)) NM (m + rest) (28 * (i + 1)) (xs ++ [ent vs i]) := by
      rw [run, d1, d2, if_pos rfl]; rfl
    rw [e, run_some vs hl rest m (i + 1) _ (by omega), show i + 1 + m = i + (m + 1) by omega]
    congr 1
    rw [List.range_succ_eq_map, List.map_cons, List.map_map, List.append_assoc]
    congr 1
    show ent vs i :: _ = _
    congr 1
    refine List.map_congr_left fun j _ => ?_
    show ent vs (i + 1 + j) = ent vs (i + (j + 1))
    congr 1
    omega
theorem run_in (vs : List Nat) (hl : vs.length ≤ 20) (m : Nat) (h : m ≤ vs.length) : run (cat (Vrows vs)) NM m 0 [] = ((List.range m).map (ent vs), 0, 0) := by
  have e := run_some vs hl 0 m 0 [] (by omega)
  simp only [Nat.add_zero, Nat.mul_zero, Nat.zero_add, List.nil_append] at e
  rw [e, run]
theorem run_out (vs : List Nat) (hl : vs.length ≤ 20) : run (cat (Vrows vs)) NM (vs.length + 1) 0 [] = ([], 2, 28 * vs.length) := by
  have e := run_some vs hl 1 vs.length 0 [] (by omega)
  simp only [Nat.mul_zero, Nat.zero_add, List.nil_append] at e
  rw [e, run, D_end, if_neg (by decide)]

/-! ### packing -/
def vN (x : Int) : Nat := (x % 18446744073709551616).toNat
def plF (m : Nat) : List Int := (List.range m).map fun i => ((2 * (i % 4) : Nat) : Int)
theorem plF_len (m : Nat) : (plF m).length = m := by simp [plF]
theorem plF_at (m i : Nat) (hi : i < m) : rd (plF m) i = ((2 * (i % 4) : Nat) : Int) := by
  unfold rd
  rw [Int.toNat_natCast, List.getD_eq_getElem?_getD, plF, List.getElem?_map, List.getElem?_range hi]
  rfl
theorem pack_ev (ns : List Int) (hl : ns.length ≤ 20) (hw : ∀ x ∈ ns, (Lit.int .i64 x).wf = true) : Ev (fun k => turnbuckleref12_PackDefs.f k ns (plF ns.length)) (cat (Vrows (ns.map vN))) := by
  have hv : (ns.map vN).length = ns.length := by simp
  have all : ∀ d i, i + d = ns.length → Ev (fun k => turnbuckleref12_PackDefs.l0 k ns (plF ns.length) (cat ((Vrows (ns.map vN)).take i)) (i : Int)) (cat (Vrows (ns.map vN))) := by
    intro d
    induction d with
    | zero =>
      intro i hi
      have hlist : (Vrows (ns.map vN)).take i = Vrows (ns.map vN) := List.take_of_length_le (by rw [Vrows_len, hv]; omega)
      rw [hlist]
      refine Ev.step (g := fun k => turnbuckleref12_PackDefs.l0 k ns (plF ns.length) (cat (Vrows (ns.map vN))) (i : Int)) (f := fun k => turnbuckleref12_PackDefs.j1 k ns (plF ns.length) (cat (Vrows (ns.map vN))) (i : Int) false) (fun k => ?_) (Ev.step (f := fun _ => some (cat (Vrows (ns.map vN)))) (fun k => ?_) (Ev.now _))
      · simp only [turnbuckleref12_PackDefs.l0]
        rw [if_neg (by omega)]
      · simp only [turnbuckleref12_PackDefs.j1, Bool.false_eq_true, if_false]
    | succ d ih =>
      intro i hi
      have hlt : i < ns.length := by omega
      have wi : wrap64 ((i : Int) + 1) = ((i + 1 : Nat) : Int) := by rw [w64 (by omega) (by omega)]; omega
      have hz : (cat ((Vrows (ns.map vN)).take i)).size = 28 * i := by
        rw [cat_size (fun r hr => Vrows_28 _ r (List.mem_of_mem_take hr)), List.length_take, Vrows_len, hv]
        omega
      have hpl := plF_at ns.length i hlt
      have hpn := plF_len ns.length
      have hx : IntKind.u64.wrap (rd ns i) = ((vN ns[i] : Nat) : Int) := by
        have e : rd ns i = ns[i] := by unfold rd; rw [Int.toNat_natCast, List.getD_eq_getElem?_getD, List.getElem?_eq_getElem hlt]; rfl
        rw [e, IntKind.wrap_u64]
        unfold vN
        omega
      have hnext : cat ((Vrows (ns.map vN)).take (i + 1)) = cat ((Vrows (ns.map vN)).take i) ++ rowV (vN ns[i]) (2 * (i % 4)) := by
        have hi' : i < (Vrows (ns.map vN)).length := by rw [Vrows_len, hv]; omega
        have ha := Vrows_at (ns.map vN) i (by rw [hv]; omega)
        have hg : (Vrows (ns.map vN))[i] = rowV (vN ns[i]) (2 * (i % 4)) := by
          rw [List.getElem?_eq_getElem hi'] at ha
          rw [Option.some.inj ha]
          congr 1
          rw [List.getD_eq_getElem?_getD, List.getElem?_map, List.getElem?_eq_getElem hlt]
          rfl
        rw [List.take_succ_eq_append_getElem hi', cat_snoc, hg]
      have ih := ih (i + 1) (by omega)
      rw [hnext] at ih
      have hv64 : vN ns[i] < 18446744073709551616 := by unfold vN; omega
      generalize cat ((Vrows (ns.map vN)).take i) = z at hz ih ⊢
      generalize cat (Vrows (ns.map vN)) = whole at ih ⊢
      generalize vN ns[i] = v at hx ih hv64
      have hp64 : 2 * (i % 4) < 18446744073709551616 := by omega
      have hpw : IntKind.u64.wrap (((2 * (i % 4) : Nat)) : Int) = ((2 * (i % 4) : Nat) : Int) := by rw [u64w (by omega) (by omega)]
      generalize 2 * (i % 4) = p at hpl ih hp64 hpw
      obtain ⟨K, ih⟩ := ih
      obtain ⟨K0, e0⟩ := rput_ev 1 2 (by decide)
      obtain ⟨K1, e1⟩ := rput_ev 0 2 (by decide)
      obtain ⟨K2, e2⟩ := rput_ev v 2 hv64
      obtain ⟨K3, e3⟩ := rput_ev 0 4 (by decide)
      obtain ⟨K4, e4⟩ := rput_ev 20 4 (by decide)
      obtain ⟨K5, e5⟩ := rput_ev 28 4 (by decide)
      obtain ⟨K6, e6⟩ := rput_ev p 4 hp64
      dsimp only at ih e0 e1 e2 e3 e4 e5 e6
      simp only [Int.cast_ofNat_Int, Int.natCast_one, Int.natCast_zero] at e0 e1 e3 e4 e5
      refine ⟨K + K0 + K1 + K2 + K3 + K4 + K5 + K6 + 2, fun k hk => ?_⟩
      obtain ⟨j, rfl⟩ : ∃ j, k = j + 2 := ⟨k - 2, by omega⟩
      show turnbuckleref12_PackDefs.l0 (j + 2) ns (plF ns.length) z (i : Int) = some whole
      simp only [turnbuckleref12_PackDefs.l0]
      have hi1 : (i : Int) < (ns.length : Int) := by omega
      have hi2 : (i : Int) < ((plF ns.length).length : Int) := by rw [hpn]; exact hi1
      have hi0 : (0 : Int) ≤ (i : Int) := by omega
      rw [if_pos hi1, decide_eq_true hi2]
      simp only [turnbuckleref12_PackDefs.j1, if_true]
      rw [e0 j (by omega), e1 j (by omega), hx, e2 j (by omega), e3 j (by omega), e4 j (by omega), e5 j (by omega), hpl, hpw, e6 j (by omega), wi]
      have t := ih j (by omega)
      unfold rowV at t
      simp only [Option.bind_some, ByteArray.size_append, putF2, putF4, hz, if_pos hi0, if_pos hi1, if_pos hi2, t]
      have big : 28 * i ≤ 9223372036854775779 := Nat.le_trans (show 28 * i ≤ 560 by omega) (by decide)
      simp
      exact big
  exact all ns.length 0 (by omega)

/-! ### the law -/
theorem places_ev (ns : List Int) (c : Int) (hl : ns.length ≤ 20) (r : Bool) (h : Ev (fun k => turnbucklelaw12_VersPlaces.l0 k ns c (plF ns.length) (ns.length : Int)) r) : Ev (fun k => turnbucklelaw12_VersPlaces.l0 k ns c [] 0) r := by
  have all : ∀ d i, i + d = ns.length → Ev (fun k => turnbucklelaw12_VersPlaces.l0 k ns c (plF i) (i : Int)) r := by
    intro d
    induction d with
    | zero =>
      intro i hi
      obtain rfl : i = ns.length := by omega
      exact h
    | succ d ih =>
      intro i hi
      have ih := ih (i + 1) (by omega)
      have wi : wrap64 ((i : Int) + 1) = ((i + 1 : Nat) : Int) := by rw [w64 (by omega) (by omega)]; omega
      have hb : bits .and .i64 (i : Int) 3 = (i : Int) % 4 := and_mask _ 2 (by decide)
      have hp : wrap64 (2 * (Go.bits .and .i64 (i : Int) 3)) % 4294967296 = ((2 * (i % 4) : Nat) : Int) := by
        rw [hb, w64 (by omega) (by omega)]
        omega
      have hs : plF i ++ [((2 * (i % 4) : Nat) : Int)] = plF (i + 1) := by simp [plF, List.range_succ]
      have hlen := plF_len i
      have hc : (plF i).length < 35184372088832 := by rw [hlen]; omega
      have hin : (i : Int) < (ns.length : Int) := by omega
      refine Ev.step (fun k => ?_) ih
      simp only [turnbucklelaw12_VersPlaces.l0]
      rw [if_pos hin, if_pos hc, hp, hs, wi]
  exact all ns.length 0 (by omega)
theorem cmp_loop (ns : List Int) (m : Nat) (hm : m ≤ ns.length) (hl : ns.length ≤ 20) (hw : ∀ x ∈ ns, (Lit.int .i64 x).wf = true) : ∀ (d i : Nat), i + d = m →
    Ev (fun k => turnbucklelaw12_VersPlaces.l1 k ns NM (m : Int) (((List.range m).map (ent (ns.map vN))).map S38of) (i : Int)) true := by
  intro d
  induction d with
  | zero =>
    intro i hi
    refine Ev.step (f := fun _ => some true) (fun k => ?_) (Ev.now _)
    simp only [turnbucklelaw12_VersPlaces.l1]
    rw [if_neg (by omega)]
  | succ d ih =>
    intro i hi
    have ih := ih (i + 1) (by omega)
    have him : i < m := by omega
    have hlt : i < ns.length := by omega
    have wi : wrap64 ((i : Int) + 1) = ((i + 1 : Nat) : Int) := by rw [w64 (by omega) (by omega)]; omega
    have hb : bits .and .i64 (i : Int) 3 = (i : Int) % 4 := and_mask _ 2 (by decide)
    have hp : wrap64 (2 * (Go.bits .and .i64 (i : Int) 3)) = ((2 * (i % 4) : Nat) : Int) := by
      rw [hb, w64 (by omega) (by omega)]
      omega
    have hp1 : wrap64 (((2 * (i % 4) : Nat) : Int) + 1) = ((2 * (i % 4) + 1 : Nat) : Int) := by rw [w64 (by omega) (by omega)]; omega
    have g38 : rd_T38 (((List.range m).map (ent (ns.map vN))).map S38of) (i : Int) = S38of (ent (ns.map vN) i) := by
      unfold rd_T38
      rw [Int.toNat_natCast, List.getD_eq_getElem?_getD, List.getElem?_map, List.getElem?_map, List.getElem?_range him]
      rfl
    have hlen : (((List.range m).map (ent (ns.map vN))).map S38of).length = m := by simp
    have hr : rd ns i = ns[i] := by unfold rd; rw [Int.toNat_natCast, List.getD_eq_getElem?_getD, List.getElem?_eq_getElem hlt]; rfl
    have hv : (S38of (ent (ns.map vN) i)).f0 = bits .and .i64 (rd ns i) 32767 := by
      have e1 : bits .and .i64 ns[i] 32767 = ns[i] % 32768 := and_mask _ 15 (by decide)
      have e2 : (ns.map vN).getD i 0 = vN ns[i] := by
        rw [List.getD_eq_getElem?_getD, List.getElem?_map, List.getElem?_eq_getElem hlt]; rfl
      rw [hr, e1]
      show (((ns.map vN).getD i 0 % 32768 : Nat) : Int) = _
      rw [e2]
      unfold vN
      omega
    have c0 : (i : Int) < (m : Int) := by omega
    have c1 : (0 : Int) ≤ (i : Int) := by omega
    have c2 : (i : Int) < (((((List.range m).map (ent (ns.map vN))).map S38of).length : Nat) : Int) := by rw [hlen]; exact c0
    have c3 : (i : Int) < (ns.length : Int) := by omega
    have c4 : (0 : Int) ≤ ((2 * (i % 4) : Nat) : Int) := by omega
    have c5 : ((2 * (i % 4) : Nat) : Int) ≤ ((2 * (i % 4) + 1 : Nat) : Int) := by omega
    have c6 : ((2 * (i % 4) + 1 : Nat) : Int) ≤ (NM.size : Int) := by
      have : NM.size = 8 := rfl
      rw [this]
      omega
    have c7 : ((S38of (ent (ns.map vN) i)).f1).toList = (NM.extract (((2 * (i % 4) : Nat) : Int)).toNat (((2 * (i % 4) + 1 : Nat) : Int)).toNat).toList := by
      rw [Int.toNat_natCast, Int.toNat_natCast]
      rfl
    refine Ev.step (fun k => ?_) ih
    simp only [turnbucklelaw12_VersPlaces.l1]
    rw [if_pos c0, if_pos c1, if_pos c2, if_pos c3, g38, if_pos hv, hp, hp1, if_pos c4, if_pos c5, if_pos c6, if_pos c7, wi]
theorem VersPlaces : turnbucklelaw12_VersPlaces.Pure := by
  intro l c _ _ hw hc
  have hc := i64_bounds hc
  apply Ev.rounds
  unfold turnbucklelaw12_VersPlaces.f
  refine Ev.bind law_speaks ?_
  refine Ev.congr (fun k => if_pos rfl) ?_
  have hm : 0 ≤ mn (l.length : Int) 20 ∧ mn (l.length : Int) 20 ≤ (l.length : Int) ∧ mn (l.length : Int) 20 ≤ 20 := by unfold mn; split <;> omega
  obtain ⟨m0, m1, m2⟩ := hm
  refine Ev.congr (fun k => (if_pos m0).trans (if_pos m1)) ?_
  have hl : (l.take (mn (l.length : Int) 20).toNat).length ≤ 20 := by rw [List.length_take]; omega
  have hw2 : ∀ x ∈ l.take (mn (l.length : Int) 20).toNat, (Lit.int .i64 x).wf = true := fun x hx => hw x (List.mem_of_mem_take hx)
  generalize l.take (mn (l.length : Int) 20).toNat = ns at hl hw2
  clear m0 m1 m2 hw
  refine places_ev ns c hl true ?_
  -- how many are asked for
  obtain ⟨q, hq0, hq1, hqe⟩ : ∃ q : Nat, q ≤ ns.length + 1 ∧ wrap64 ((ns.length : Int) + 2) = (ns.length : Int) + 2 ∧ Int.tmod (wrap64 ((wrap64 ((Int.tmod c ((ns.length : Int) + 2)) + (ns.length : Int))) + 2)) ((ns.length : Int) + 2) = (q : Int) := by
    have w0 : wrap64 ((ns.length : Int) + 2) = (ns.length : Int) + 2 := w64 (by omega) (by omega)
    have t1 := Int.tmod_lt_of_pos c (show (0 : Int) < (ns.length : Int) + 2 by omega)
    have t2 : -((ns.length : Int) + 2) < Int.tmod c ((ns.length : Int) + 2) := by
      have := Int.lt_tmod_of_pos c (show (0 : Int) < (ns.length : Int) + 2 by omega)
      exact this
    generalize Int.tmod c ((ns.length : Int) + 2) = t at t1 t2
    have w1 : wrap64 (t + (ns.length : Int)) = t + (ns.length : Int) := w64 (by omega) (by omega)
    have w2 : wrap64 (t + (ns.length : Int) + 2) = t + (ns.length : Int) + 2 := w64 (by omega) (by omega)
    have h0 : 0 ≤ t + (ns.length : Int) + 2 := by omega
    refine ⟨((t + (ns.length : Int) + 2) % ((ns.length : Int) + 2)).toNat, ?_, w0, ?_⟩
    · have := Int.emod_lt_of_pos (t + (ns.length : Int) + 2) (show (0 : Int) < (ns.length : Int) + 2 by omega)
      have := Int.emod_nonneg (t + (ns.length : Int) + 2) (show (ns.length : Int) + 2 ≠ 0 by omega)
      omega
    · have := Int.emod_nonneg (t + (ns.length : Int) + 2) (show (ns.length : Int) + 2 ≠ 0 by omega)
      rw [w1, w2, Int.tmod_eq_emod_of_nonneg h0]
      omega
  have hlen : (ns.map vN).length = ns.length := by simp
  have hb : (cat (Vrows (ns.map vN))).size ≤ 140737488351232 := by rw [Vsize, hlen]; omega
  have hnz : ¬ ((ns.length : Int) + 2 = 0) := by omega
  have hge : ¬ ((ns.length : Int) < (ns.length : Int)) := by omega
  have hd := defs_ev (cat (Vrows (ns.map vN))) NM q hb (by decide) (by omega)
  refine Ev.step (f := fun k => (turnbuckleref12_PackDefs.f k ns (plF ns.length)).bind fun t197 => ((vers_Defs.f k t197 NM (q : Int)).bind fun bt198 => (if (q : Int) > (ns.length : Int) then (if bt198.2.1 = 2 then (if bt198.2.2.1 = (IntKind.u64.wrap (wrap64 (28 * (ns.length : Int)))) then (some ((bt198.1.length : Int) == 0)) else (some false)) else (some false)) else ((fail_Fault_OK.f bt198.2.1 bt198.2.2.1 bt198.2.2.2).bind fun t205 => (if t205 = true then (turnbucklelaw12_VersPlaces.j1 k ns NM (q : Int) bt198.1 ((bt198.1.length : Int) != (q : Int))) else (turnbucklelaw12_VersPlaces.j1 k ns NM (q : Int) bt198.1 true)))))) (fun k => ?_) ?_
  · simp only [turnbucklelaw12_VersPlaces.l0]
    rw [if_neg hge, hq1]
    simp only [if_neg hnz, hqe]
    rfl
  · refine Ev.bind (pack_ev ns hl hw2) ?_
    refine Ev.bind hd ?_
    by_cases h : q ≤ ns.length
    · have hr := run_in (ns.map vN) (by rw [hlen]; exact hl) q (by rw [hlen]; exact h)
      rw [hr]
      have hn : ¬ ((q : Int) > (ns.length : Int)) := by omega
      have hl2 : ((((List.range q).map (ent (ns.map vN))).map S38of).length : Int) = (q : Int) := by simp
      refine Ev.congr (fun k => if_neg hn) ?_
      refine Ev.congr (f := fun k => turnbucklelaw12_VersPlaces.j1 k ns NM (q : Int) (((List.range q).map (ent (ns.map vN))).map S38of) false) (fun k => ?_) (Ev.step (fun k => ?_) (cmp_loop ns q h hl hw2 q 0 (by omega)))
      · simp only [fail_Fault_OK.f, Option.bind_some]
        rw [if_pos (by decide), hl2]
        simp
      · simp only [turnbucklelaw12_VersPlaces.j1, Bool.false_eq_true, if_false]
        rfl
    · obtain rfl : q = ns.length + 1 := by omega
      have hr := run_out (ns.map vN) (by rw [hlen]; exact hl)
      rw [hlen] at hr
      rw [hr]
      have hy : ((ns.length + 1 : Nat) : Int) > (ns.length : Int) := by omega
      refine Ev.congr (fun k => if_pos hy) ?_
      refine Ev.congr (fun k => ?_) (Ev.now _)
      have h28 : ((28 * ns.length : Nat) : Int) = IntKind.u64.wrap (wrap64 (28 * (ns.length : Int))) := by
        rw [w64 (by omega) (by omega), u64w (by omega) (by omega)]
        omega
      show (if (2 : Int) = 2 then (if ((28 * ns.length : Nat) : Int) = IntKind.u64.wrap (wrap64 (28 * (ns.length : Int))) then some (((([] : List (Int × ByteArray)).map S38of).length : Int) == 0) else some false) else some false) = some true
      rw [if_pos rfl, if_pos h28]
      rfl
end Go.Proofs.Ytoaliamemkjfhaa.Pure
