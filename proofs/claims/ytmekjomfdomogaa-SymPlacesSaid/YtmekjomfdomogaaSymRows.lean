/-
  Rows of 24 bytes, one behind the other, as sym.Read reads them.
-/
import Derived.Test.YtmekjomfdomogaaSymPure
namespace Go.Proofs.Ytmekjomfdomogaa.Sym
open Go Go.RowKit Go.Proofs.Ytmekjomfdomogaa.PAll Go.Proofs.YtmekjomfdomogaaW.PrintWords Go.Proofs.YtmekjomfdomogaaW.PrintLast Go.Proofs.Ytmekjomfdomogaa.Nice Go.Proofs.YtmekjomfdomogaaLe
set_option linter.unusedVariables false

/-! ### bytes in rows -/
theorem flat_drop : ∀ (i : Nat) (L : List (List UInt8)), (∀ r ∈ L, r.length = 24) → L.flatten.drop (24 * i) = (L.drop i).flatten
  | 0, L, _ => by simp
  | i + 1, [], _ => by simp
  | i + 1, r :: t, h => by
    have hr := h r List.mem_cons_self
    have ih := flat_drop i t (fun x hx => h x (List.mem_cons_of_mem _ hx))
    rw [List.flatten_cons, show 24 * (i + 1) = r.length + 24 * i by omega, ← List.drop_drop, List.drop_left, ih, List.drop_succ_cons]
theorem flat_take : ∀ (i : Nat) (L : List (List UInt8)), (∀ r ∈ L, r.length = 24) → L.flatten.take (24 * i) = (L.take i).flatten
  | 0, L, _ => by simp
  | i + 1, [], _ => by simp
  | i + 1, r :: t, h => by
    have hr := h r List.mem_cons_self
    have ih := flat_take i t (fun x hx => h x (List.mem_cons_of_mem _ hx))
    rw [List.flatten_cons, show 24 * (i + 1) = r.length + 24 * i by omega, List.take_length_add_append, ih, List.take_succ_cons, List.flatten_cons]
theorem flat_length (L : List (List UInt8)) (h : ∀ r ∈ L, r.length = 24) : L.flatten.length = 24 * L.length := by
  induction L with
  | nil => rfl
  | cons r t ih =>
    rw [List.flatten_cons, List.length_append, ih (fun x hx => h x (List.mem_cons_of_mem _ hx)), h r List.mem_cons_self, List.length_cons]
    omega
def lists (rows : List ByteArray) : List (List UInt8) := rows.map fun r => r.data.toList
def cat (rows : List ByteArray) : ByteArray := ⟨(lists rows).flatten.toArray⟩
def Rows24 (rows : List ByteArray) : Prop := ∀ r ∈ rows, r.size = 24
theorem lists_len {rows : List ByteArray} (h : Rows24 rows) : ∀ r ∈ lists rows, r.length = 24 := by
  intro r hr
  obtain ⟨x, hx, rfl⟩ := List.mem_map.1 hr
  exact h x hx
theorem cat_size {rows : List ByteArray} (h : Rows24 rows) : (cat rows).size = 24 * rows.length := by
  show (lists rows).flatten.toArray.size = _
  rw [List.size_toArray, flat_length _ (lists_len h)]
  simp [lists]
theorem cat_snoc (rows : List ByteArray) (r : ByteArray) : cat (rows ++ [r]) = cat rows ++ r := by
  apply ba_ext
  simp [cat, lists]
theorem cat_part {rows : List ByteArray} (h : Rows24 rows) (i : Nat) (r : ByteArray) (hi : rows[i]? = some r) : eachPart (cat rows) 24 i = r := by
  apply ba_ext
  have hL := lists_len h
  have hlt := (List.getElem?_eq_some_iff.1 hi).1
  unfold eachPart
  rw [extract_toList, Nat.mul_comm i 24, show (i + 1) * 24 - 24 * i = 24 by omega]
  show ((lists rows).flatten.drop (24 * i)).take 24 = _
  rw [flat_drop i _ hL]
  have hg : (lists rows)[i]? = some r.data.toList := by simp [lists, hi]
  have hlt2 : i < (lists rows).length := by simpa [lists] using hlt
  rw [List.drop_eq_getElem_cons hlt2, List.flatten_cons]
  have he : (lists rows)[i] = r.data.toList := by
    have := List.getElem?_eq_getElem hlt2
    rw [hg] at this
    exact (Option.some.inj this).symm
  have hlr : r.data.toList.length = 24 := h r (List.mem_of_getElem? hi)
  rw [he, ← hlr, List.take_left]
/-- One byte of a row's first place, another one. -/
theorem cat_spoil {rows : List ByteArray} (h : Rows24 rows) (K : Nat) (r : ByteArray) (hK : rows[K]? = some r) (c : UInt8) :
    (cat rows).extract 0 (24 * K) ++ ⟨#[c]⟩ ++ (cat rows).extract (24 * K + 1) (cat rows).size = cat (rows.set K (⟨#[c]⟩ ++ r.extract 1 24)) := by
  apply ba_ext
  have hL := lists_len h
  have hlt := (List.getElem?_eq_some_iff.1 hK).1
  have hlt2 : K < (lists rows).length := by simpa [lists] using hlt
  have hg : (lists rows)[K]? = some r.data.toList := by simp [lists, hK]
  have he : (lists rows)[K] = r.data.toList := by
    have := List.getElem?_eq_getElem hlt2
    rw [hg] at this
    exact (Option.some.inj this).symm
  have hlr : r.data.toList.length = 24 := h r (List.mem_of_getElem? hK)
  have e1 : ((cat rows).extract 0 (24 * K)).data.toList = ((lists rows).take K).flatten := by
    rw [extract_toList, Nat.sub_zero, List.drop_zero]
    exact flat_take K _ hL
  have e2 : ((cat rows).extract (24 * K + 1) (cat rows).size).data.toList = r.data.toList.drop 1 ++ ((lists rows).drop (K + 1)).flatten := by
    rw [extract_to_end]
    show (lists rows).flatten.drop (24 * K + 1) = _
    rw [← List.drop_drop, flat_drop K _ hL, List.drop_eq_getElem_cons hlt2, List.flatten_cons, he, List.drop_append_of_le_length (by omega)]
  have e3 : (cat (rows.set K (⟨#[c]⟩ ++ r.extract 1 24))).data.toList = ((lists rows).set K ([c] ++ r.data.toList.drop 1)).flatten := by
    show (lists (rows.set K _)).flatten = _
    congr 1
    unfold lists
    rw [List.map_set]
    congr 1
    rw [ByteArray.data_append, Array.toList_append, extract_toList]
    congr 1
    rw [List.take_of_length_le (by rw [List.length_drop]; omega)]
  rw [ByteArray.data_append, Array.toList_append, ByteArray.data_append, Array.toList_append, e1, e2, e3, List.set_eq_take_append_cons_drop, if_pos hlt2, List.flatten_append, List.flatten_cons]
  simp

/-! ### sym.Read over rows -/
def tupleOf (x : S28) : ByteArray × Int × Int × Int × Bool × Int × Int × Int := (x.f0, x.f1, x.f2, x.f3, x.f4, x.f5, x.f6, 0)
theorem go_good (s names : ByteArray) (rows : Nat → S28) (rest : Nat) (r : List S28 × Int × Int × ByteArray) : ∀ (m i : Nat) (xs : List S28),
    (∀ j, i ≤ j → j < i + m → Ev (fun k => sym_read.f k (eachPart s 24 j) names) (tupleOf (rows j))) →
    Ev (fun k => sym_Read.go k s names rest (i + m) (xs ++ (List.range m).map fun j => rows (i + j))) r → Ev (fun k => sym_Read.go k s names (m + rest) i xs) r
  | 0, i, xs, _, h => by simpa using h
  | m + 1, i, xs, hr, h => by
    have h0 := hr i (Nat.le_refl _) (by omega)
    have ih := go_good s names rows rest r m (i + 1) (xs ++ [rows i]) (fun j h1 h2 => hr j (by omega) (by omega)) (by
      have e : i + 1 + m = i + (m + 1) := by omega
      rw [e]
      have e2 : xs ++ [rows i] ++ (List.range m).map (fun j => rows (i + 1 + j)) = xs ++ (List.range (m + 1)).map fun j => rows (i + j) := by
        rw [List.range_succ_eq_map, List.map_cons, List.map_map, List.append_assoc]
        congr 1
        show rows i :: _ = _
        congr 1
        refine List.map_congr_left fun j _ => ?_
        show rows (i + 1 + j) = rows (i + (j + 1))
        congr 1
        omega
      rw [e2]
      exact h)
    rw [show m + 1 + rest = (m + rest) + 1 by omega]
    refine Ev.congr (fun k => ?_) (Ev.bind (f := fun k q => if q.2.2.2.2.2.2.2 = 0 then sym_Read.go k s names (m + rest) (i + 1) (xs ++ [⟨q.1, q.2.1, q.2.2.1, q.2.2.2.1, q.2.2.2.2.1, q.2.2.2.2.2.1, q.2.2.2.2.2.2.1⟩]) else (fail_At.f q.2.2.2.2.2.2.2 ((i : Int) * 24)).bind fun t => some ([], t.1, t.2.1, t.2.2)) h0 ?_)
    · rw [sym_Read.go]
    · refine Ev.congr (fun k => ?_) ih
      show (if (0 : Int) = 0 then _ else _) = _
      rw [if_pos rfl]
      rfl
theorem go_bad (s names : ByteArray) (m i : Nat) (xs : List S28) (e : Int) (he : e ≠ 0) (b : ByteArray) (c1 c2 c3 : Int) (c4 : Bool) (c5 c6 : Int)
    (h : Ev (fun k => sym_read.f k (eachPart s 24 i) names) (b, c1, c2, c3, c4, c5, c6, e)) : Ev (fun k => sym_Read.go k s names (m + 1) i xs) ([], e, (i : Int) * 24, ⟨#[]⟩) := by
  refine Ev.congr (fun k => ?_) (Ev.bind (f := fun k q => if q.2.2.2.2.2.2.2 = 0 then sym_Read.go k s names m (i + 1) (xs ++ [⟨q.1, q.2.1, q.2.2.1, q.2.2.2.1, q.2.2.2.2.1, q.2.2.2.2.2.1, q.2.2.2.2.2.2.1⟩]) else (fail_At.f q.2.2.2.2.2.2.2 ((i : Int) * 24)).bind fun t => some ([], t.1, t.2.1, t.2.2)) h ?_)
  · rw [sym_Read.go]
  · refine Ev.congr (f := fun _ => some ([], e, (i : Int) * 24, ⟨#[]⟩)) (fun k => ?_) (Ev.now _)
    dsimp only
    rw [if_neg he]
    simp only [fail_At.f, Option.bind_some]
end Go.Proofs.Ytmekjomfdomogaa.Sym
