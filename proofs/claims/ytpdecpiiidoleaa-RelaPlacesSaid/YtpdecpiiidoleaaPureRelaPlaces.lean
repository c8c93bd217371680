/-
  Relocations one behind the other are each read as alone; the first one that is wrong is told by its place.
-/
import Derived.Test.YtpdecpiiidoleaaPlNice
import Derived.Test.YtpdecpiiidoleaaPPlx6
import Derived.Laws.BitsLemmas
namespace Go.Proofs.Ytpdecpiiidoleaa.Pure
open Go Go.RowKit Go.Proofs.Ytpdecpiiidoleaa.PPl Go.Proofs.YtpdecpiiidoleaaW.PrintWords Go.Proofs.YtpdecpiiidoleaaW.PrintLast Go.Proofs.Ytpdecpiiidoleaa.PNice Go.Proofs.YtpdecpiiidoleaaLe
set_option linter.unusedVariables false

theorem ba_ext {a b : ByteArray} (h : a.data.toList = b.data.toList) : a = b := ByteArray.ext (Array.ext' h)
theorem extract_toList (s : ByteArray) (i j : Nat) : (s.extract i j).data.toList = (s.data.toList.drop i).take (j - i) := by simp
theorem extract_to_end (s : ByteArray) (i : Nat) : (s.extract i s.size).data.toList = s.data.toList.drop i := by
  rw [extract_toList, List.take_of_length_le (by rw [List.length_drop]; exact Nat.le_refl _)]
/-! ### bytes in rows -/
theorem flat_drop : ∀ (i : Nat) (L : List (List UInt8)), (∀ r ∈ L, r.length = 24) → L.flatten.drop (24 * i) = (L.drop i).flatten
  | 0, L, _ => by simp
  | i + 1, [], _ => by simp
  | i + 1, r :: t, h => by
    have hr := h r List.mem_cons_self
    have ih := flat_drop i t (fun x hx => h x (List.mem_cons_of_mem _ hx))
    rw [List.flatten_cons, show 24 * (i + 1) = r.length + 24 * i by omega, ← List.drop_drop, List.drop_left, ih, List.drop_succ_cons]
theorem flat_take : ∀ (i : Nat) (L : List (List UInt8)), (∀ r ∈ L, r.length = 24) → L.flatten.take (24 * i) = (L.take i).flatten
  | 0, L, _ => by simp
  | i + 1, [], _ => by simp
  | i + 1, r :: t, h => by
    have hr := h r List.mem_cons_self
    have ih := flat_take i t (fun x hx => h x (List.mem_cons_of_mem _ hx))
    rw [List.flatten_cons, show 24 * (i + 1) = r.length + 24 * i by omega, List.take_length_add_append, ih, List.take_succ_cons, List.flatten_cons]
theorem flat_length (L : List (List UInt8)) (h : ∀ r ∈ L, r.length = 24) : L.flatten.length = 24 * L.length := by
  induction L with
  | nil => rfl
  | cons r t ih =>
    rw [List.flatten_cons, List.length_append, ih (fun x hx => h x (List.mem_cons_of_mem _ hx)), h r List.mem_cons_self, List.length_cons]
    omega
def lists (rows : List ByteArray) : List (List UInt8) := rows.map fun r => r.data.toList
def cat (rows : List ByteArray) : ByteArray := ⟨(lists rows).flatten.toArray⟩
def Rows24 (rows : List ByteArray) : Prop := ∀ r ∈ rows, r.size = 24
theorem lists_len {rows : List ByteArray} (h : Rows24 rows) : ∀ r ∈ lists rows, r.length = 24 := by
  intro r hr
  obtain ⟨x, hx, rfl⟩ := List.mem_map.1 hr
  exact h x hx
theorem cat_size {rows : List ByteArray} (h : Rows24 rows) : (cat rows).size = 24 * rows.length := by
  show (lists rows).flatten.toArray.size = _
  rw [List.size_toArray, flat_length _ (lists_len h)]
  simp [lists]
theorem cat_snoc (rows : List ByteArray) (r : ByteArray) : cat (rows ++ [r]) = cat rows ++ r := by
  apply ba_ext
  simp [cat, lists]
theorem cat_part {rows : List ByteArray} (h : Rows24 rows) (i : Nat) (r : ByteArray) (hi : rows[i]? = some r) : eachPart (cat rows) 24 i = r := by
  apply ba_ext
  have hL := lists_len h
  have hlt := (List.getElem?_eq_some_iff.1 hi).1
  unfold eachPart
  rw [extract_toList, Nat.mul_comm i 24, show (i + 1) * 24 - 24 * i = 24 by omega]
  show ((lists rows).flatten.drop (24 * i)).take 24 = _
  rw [flat_drop i _ hL]
  have hg : (lists rows)[i]? = some r.data.toList := by simp [lists, hi]
  have hlt2 : i < (lists rows).length := by simpa [lists] using hlt
  rw [List.drop_eq_getElem_cons hlt2, List.flatten_cons]
  have he : (lists rows)[i] = r.data.toList := by
    have := List.getElem?_eq_getElem hlt2
    rw [hg] at this
    exact (Option.some.inj this).symm
  have hlr : r.data.toList.length = 24 := h r (List.mem_of_getElem? hi)
  rw [he, ← hlr, List.take_left]
/-- Another row in place of one. -/
theorem cat_spoil {rows : List ByteArray} (h : Rows24 rows) (K : Nat) (hK : K < rows.length) (c : ByteArray) :
    (cat rows).extract 0 (24 * K) ++ c ++ (cat rows).extract (24 * K + 24) (cat rows).size = cat (rows.set K c) := by
  apply ba_ext
  have hL := lists_len h
  have hlt2 : K < (lists rows).length := by simpa [lists] using hK
  have e1 : ((cat rows).extract 0 (24 * K)).data.toList = ((lists rows).take K).flatten := by
    rw [extract_toList, Nat.sub_zero, List.drop_zero]
    exact flat_take K _ hL
  have e2 : ((cat rows).extract (24 * K + 24) (cat rows).size).data.toList = ((lists rows).drop (K + 1)).flatten := by
    rw [extract_to_end]
    exact flat_drop (K + 1) _ hL
  have e3 : (cat (rows.set K c)).data.toList = ((lists rows).set K c.data.toList).flatten := by
    show (lists (rows.set K _)).flatten = _
    congr 1
    unfold lists
    rw [List.map_set]
  rw [ByteArray.data_append, Array.toList_append, ByteArray.data_append, Array.toList_append, e1, e2, e3, List.set_eq_take_append_cons_drop, if_pos hlt2, List.flatten_append, List.flatten_cons]
  simp

/-! ### rela.Put and rela.Read -/
theorem law_speaks : Ev (fun k => turnbucklelaw15_speaks.f k) true := Ev.of (g := fun k => turnbucklelaw15_speaks.f k) (fun k => turnbucklelaw15_speaks.mono k) (k := 40) (by decide +kernel)
def relaF (n0 n1 n2 n3 : Nat) : ByteArray := putF n0 8 ++ putF n1 4 ++ putF n2 4 ++ putF n3 8
theorem putF4 (n : Nat) : (putF n 4).size = 4 := by rw [putF_size]; simp
theorem putF8 (n : Nat) : (putF n 8).size = 8 := by rw [putF_size]; simp
theorem relaF_size (n0 n1 n2 n3 : Nat) : (relaF n0 n1 n2 n3).size = 24 := by
  simp only [relaF, ByteArray.size_append, putF4, putF8]
theorem rela_put_ev (n0 n1 n2 n3 : Nat) (h0 : n0 < 18446744073709551616) (h1 : n1 < 4294967296) (h2 : n2 < 4294967296) (h3 : n3 < 18446744073709551616) : Ev (fun k => rela_Put.f k n0 n1 n2 n3) (relaF n0 n1 n2 n3) := by
  obtain ⟨K0, e0⟩ := put_ev n0 8 h0
  obtain ⟨K1, e1⟩ := put_ev n1 4 (by omega)
  obtain ⟨K2, e2⟩ := put_ev n2 4 (by omega)
  obtain ⟨K3, e3⟩ := put_ev n3 8 h3
  dsimp only at e0 e1 e2 e3
  refine ⟨K0 + K1 + K2 + K3 + 1, fun k hk => ?_⟩
  obtain ⟨j, rfl⟩ : ∃ j, k = j + 1 := ⟨k - 1, by omega⟩
  have w1 : IntKind.u64.wrap (n1 : Int) = n1 := u64w (by omega) (by omega)
  have w2 : IntKind.u64.wrap (n2 : Int) = n2 := u64w (by omega) (by omega)
  simp only [rela_Put.f]
  rw [if_neg (by omega), if_neg (by omega), if_neg (by omega), decide_eq_false (by omega)]
  simp only [rela_Put.j0, Bool.false_eq_true, if_false, w1, w2]
  rw [e0 _ (by omega), e1 _ (by omega), e2 _ (by omega), e3 _ (by omega)]
  simp only [Option.bind_some, ByteArray.size_append, putF4, putF8, Nat.reduceAdd]
  rw [if_pos (by decide), if_pos (by decide), if_pos (by decide)]
  rfl
theorem parts4 (A B C D : ByteArray) (hA : A.size = 8) (hB : B.size = 4) (hC : C.size = 4) (hD : D.size = 8) :
    (A ++ B ++ C ++ D).extract 0 8 = A ∧ (A ++ B ++ C ++ D).extract 8 12 = B ∧ (A ++ B ++ C ++ D).extract 12 16 = C ∧ (A ++ B ++ C ++ D).extract 16 24 = D := by
  have lA : A.data.toList.length = 8 := hA
  have lB : B.data.toList.length = 4 := hB
  have lC : C.data.toList.length = 4 := hC
  have lD : D.data.toList.length = 8 := hD
  have e : (A ++ B ++ C ++ D).data.toList = A.data.toList ++ B.data.toList ++ C.data.toList ++ D.data.toList := by simp
  have ex : ∀ i j, ((A ++ B ++ C ++ D).extract i j).data.toList = ((A.data.toList ++ B.data.toList ++ C.data.toList ++ D.data.toList).drop i).take (j - i) := fun i j => by
    rw [extract_toList, e]
  refine ⟨ba_ext ?_, ba_ext ?_, ba_ext ?_, ba_ext ?_⟩
  all_goals rw [ex]
  all_goals
    clear ex e hA hB hC hD
    generalize A.data.toList = a at lA ⊢
    generalize B.data.toList = b at lB ⊢
    generalize C.data.toList = c at lC ⊢
    generalize D.data.toList = d at lD ⊢
    (match a, lA, b, lB, c, lC, d, lD with
     | [_, _, _, _, _, _, _, _], _, [_, _, _, _], _, [_, _, _, _], _, [_, _, _, _, _, _, _, _], _ => rfl)
/-- A row, as it is read. -/
theorem row_of (p q0 q1 q2 q3 : ByteArray) (sym e : Int) (n0 n1 n2 n3 : Nat) (p0 : p.extract 0 8 = q0) (p1 : p.extract 8 12 = q1) (p2 : p.extract 12 16 = q2) (p3 : p.extract 16 24 = q3)
    (h0 : Ev (fun k => le_Get.f k q0) (n0 : Int)) (h1 : Ev (fun k => le_Get.f k q1) (n1 : Int)) (h2 : Ev (fun k => le_Get.f k q2) (n2 : Int)) (h3 : Ev (fun k => le_Get.f k q3) (n3 : Int))
    (l1 : n1 < 4294967296) (l2 : n2 < 4294967296) (h4 : Ev (fun k => rela_Rela_wrong.f k n0 n1 n2 n3 sym) e) : Ev (fun k => rela_Read.row k p sym) ((⟨n0, n1, n2, n3⟩ : S38), e) := by
  obtain ⟨K0, e0⟩ := h0
  obtain ⟨K1, e1⟩ := h1
  obtain ⟨K2, e2⟩ := h2
  obtain ⟨K3, e3⟩ := h3
  obtain ⟨K4, e4⟩ := h4
  dsimp only at e0 e1 e2 e3 e4
  refine ⟨K0 + K1 + K2 + K3 + K4, fun k hk => ?_⟩
  have w1 : wrap64 (n1 : Int) = n1 := w64 (by omega) (by omega)
  have w2 : wrap64 (n2 : Int) = n2 := w64 (by omega) (by omega)
  show rela_Read.row k p sym = _
  unfold rela_Read.row
  rw [p0, p1, p2, p3]
  refine Option.bind_eq_some_iff.2 ⟨(n0 : Int), e0 k (by omega), ?_⟩
  refine Option.bind_eq_some_iff.2 ⟨(n1 : Int), e1 k (by omega), ?_⟩
  refine Option.bind_eq_some_iff.2 ⟨(n2 : Int), e2 k (by omega), ?_⟩
  refine Option.bind_eq_some_iff.2 ⟨(n3 : Int), e3 k (by omega), ?_⟩
  rw [w1, w2]
  exact Option.bind_eq_some_iff.2 ⟨e, e4 k (by omega), rfl⟩
theorem row_ev (n0 n1 n2 n3 : Nat) (sym e : Int) (h0 : n0 < 18446744073709551616) (h1 : n1 < 4294967296) (h2 : n2 < 4294967296) (h3 : n3 < 18446744073709551616) (h4 : Ev (fun k => rela_Rela_wrong.f k n0 n1 n2 n3 sym) e) :
    Ev (fun k => rela_Read.row k (relaF n0 n1 n2 n3) sym) ((⟨n0, n1, n2, n3⟩ : S38), e) := by
  obtain ⟨p0, p1, p2, p3⟩ := parts4 (putF n0 8) (putF n1 4) (putF n2 4) (putF n3 8) (putF8 _) (putF4 _) (putF4 _) (putF8 _)
  have g0 := get_ev (putF n0 8)
  have g1 := get_ev (putF n1 4)
  have g2 := get_ev (putF n2 4)
  have g3 := get_ev (putF n3 8)
  rw [get_put8 n0 h0] at g0
  rw [get_putF n1 4 (by omega), Nat.mod_eq_of_lt (by simpa using h1)] at g1
  rw [get_putF n2 4 (by omega), Nat.mod_eq_of_lt (by simpa using h2)] at g2
  rw [get_put8 n3 h3] at g3
  exact row_of (relaF n0 n1 n2 n3) _ _ _ _ sym e n0 n1 n2 n3 p0 p1 p2 p3 g0 g1 g2 g3 h1 h2 h4
/-- A row of the law's own list. -/
structure Q where
  a : Nat
  kd : Nat
  s : Nat
  y : Nat
def Q.ok (q : Q) : Prop := q.a < 18446744073709551616 ∧ q.a % 8 = 0 ∧ 2 ≤ q.kd ∧ q.kd ≤ 5 ∧ q.s < 8 ∧ (q.kd = 3 → q.s = 0) ∧ q.y < 18446744073709551616
def Q.bytes (q : Q) : ByteArray := relaF q.a q.kd q.s q.y
def Q.rela (q : Q) : S38 := ⟨q.a, q.kd, q.s, q.y⟩
theorem wrong_ok (q : Q) (h : q.ok) : Ev (fun k => rela_Rela_wrong.f k q.a q.kd q.s q.y 8) 0 := by
  obtain ⟨a, b, c, d⟩ := q
  obtain ⟨h0, h1, h2, h3, h4, h5, h6⟩ := h
  dsimp only at *
  refine Ev.of (rela_Rela_wrong.mono _ _ _ _ _) (k := 4) ?_
  have ht : Int.tmod (a : Int) 8 = ((a % 8 : Nat) : Int) := rfl
  have i1 : ((b : Int) < 2) = False := eq_false (by omega)
  have i2 : ((b : Int) > 5) = False := eq_false (by omega)
  have i3 : ((b : Int) = 3) = (b = 3) := propext (by omega)
  have i5 : (8 ≤ (c : Int)) = False := eq_false (by omega)
  simp only [rela_Rela_wrong.f, rela_Rela_wrong.j0, rela_Rela_wrong.j1, rela_Rela_wrong.j2, ht, i1, i2, i3, i5, ge_iff_le, h1]
  by_cases h : b = 3
  · simp [h, h5 h]
  · simp [h]
theorem good_ev (q : Q) (h : q.ok) : Ev (fun k => rela_Read.row k q.bytes 8) (q.rela, 0) := by
  have h' := h
  obtain ⟨h0, h1, h2, h3, h4, h5, h6⟩ := h'
  exact row_ev q.a q.kd q.s q.y 8 0 h0 (by omega) (by omega) h6 (wrong_ok q h)
def badB : ByteArray := relaF 8 7 0 0
theorem bad_ev : Ev (fun k => rela_Read.row k badB 8) ((⟨8, 7, 0, 0⟩ : S38), 22) :=
  row_ev 8 7 0 0 8 22 (by decide) (by decide) (by decide) (by decide) (Ev.of (rela_Rela_wrong.mono _ _ _ _ _) (k := 6) (by decide +kernel))
theorem rows24 (qs : List Q) : Rows24 (qs.map Q.bytes) := by
  intro r hr
  obtain ⟨q, _, rfl⟩ := List.mem_map.1 hr
  exact relaF_size _ _ _ _

theorem go_good (s : ByteArray) (sym : Int) (rows : Nat → S38) (rest : Nat) (r : List S38 × Int × Int × ByteArray) : ∀ (m i : Nat) (xs : List S38),
    (∀ j, i ≤ j → j < i + m → Ev (fun k => rela_Read.row k (eachPart s 24 j) sym) (rows j, 0)) →
    Ev (fun k => rela_Read.go k s sym rest (i + m) (xs ++ (List.range m).map fun j => rows (i + j))) r → Ev (fun k => rela_Read.go k s sym (m + rest) i xs) r
  | 0, i, xs, _, h => by simpa using h
  | m + 1, i, xs, hr, h => by
    have h0 := hr i (Nat.le_refl _) (by omega)
    have ih := go_good s sym rows rest r m (i + 1) (xs ++ [rows i]) (fun j h1 h2 => hr j (by omega) (by omega)) (by
      have e : i + 1 + m = i + (m + 1) := by omega
      rw [e]
      have e2 : xs ++ [rows i] ++ (List.range m).map (fun j => rows (i + 1 + j)) = xs ++ (List.range (m + 1)).map fun j => rows (i + j) := by
        rw [List.range_succ_eq_map, List.map_cons, List.map_map, List.append_assoc]
        congr 1
        show rows i :: _ = _
        congr 1
        refine List.map_congr_left fun j _ => ?_
        show rows (i + 1 + j) = rows (i + (j + 1))
        congr 1
        omega
      rw [e2]
      exact h)
    rw [show m + 1 + rest = (m + rest) + 1 by omega]
    refine Ev.congr (fun k => ?_) (Ev.bind (f := fun k (q : S38 × Int) => if q.2 = 0 then rela_Read.go k s sym (m + rest) (i + 1) (xs ++ [q.1]) else (fail_At.f q.2 ((i : Int) * 24)).bind fun t => some ([], t.1, t.2.1, t.2.2)) h0 ?_)
    · rw [rela_Read.go]
    · refine Ev.congr (fun k => ?_) ih
      show (if (0 : Int) = 0 then _ else _) = _
      rw [if_pos rfl]
theorem go_bad (s : ByteArray) (sym : Int) (m i : Nat) (xs : List S38) (x : S38) (e : Int) (he : e ≠ 0)
    (h : Ev (fun k => rela_Read.row k (eachPart s 24 i) sym) (x, e)) : Ev (fun k => rela_Read.go k s sym (m + 1) i xs) ([], e, (i : Int) * 24, ⟨#[]⟩) := by
  refine Ev.congr (fun k => ?_) (Ev.bind (f := fun k (q : S38 × Int) => if q.2 = 0 then rela_Read.go k s sym m (i + 1) (xs ++ [q.1]) else (fail_At.f q.2 ((i : Int) * 24)).bind fun t => some ([], t.1, t.2.1, t.2.2)) h ?_)
  · rw [rela_Read.go]
  · refine Ev.congr (f := fun _ => some ([], e, (i : Int) * 24, ⟨#[]⟩)) (fun k => ?_) (Ev.now _)
    dsimp only
    rw [if_neg he]
    simp only [fail_At.f, Option.bind_some]
/-- All rows are read. -/
theorem all_read (qs : List Q) (hq : ∀ q ∈ qs, q.ok) (hN : qs.length ≤ 30) : Ev (fun k => rela_Read.f k (cat (qs.map Q.bytes)) 8) (qs.map Q.rela, 0, 0, ⟨#[]⟩) := by
  have hR := rows24 qs
  have hs := cat_size hR
  rw [List.length_map] at hs
  let d : Q := ⟨0, 0, 0, 0⟩
  have hg := go_good (cat (qs.map Q.bytes)) 8 (fun j => (qs.getD j d).rela) 0 (qs.map Q.rela, 0, 0, ⟨#[]⟩) qs.length 0 [] (fun j _ hj => by
    have hj' : j < qs.length := by omega
    have he : qs.getD j d = qs[j] := by simp [List.getD, hj']
    rw [he, cat_part hR j qs[j].bytes (by simp [hj'])]
    exact good_ev _ (hq _ (List.getElem_mem hj'))) (by
    have e : (List.range qs.length).map (fun j => (qs.getD (0 + j) d).rela) = qs.map Q.rela := by
      apply List.ext_getElem
      · simp
      · intro i h1 h2
        simp at h1 h2
        simp [List.getD, h1]
    rw [List.nil_append, e]
    exact Ev.now _)
  refine Ev.congr (fun k => ?_) hg
  unfold rela_Read.f
  rw [if_neg (by omega), if_pos (by omega), if_neg (by omega), show (cat (qs.map Q.bytes)).size / 24 = qs.length + 0 by omega]
/-- A spoilt row is told by its place. -/
theorem bad_read (qs : List Q) (hq : ∀ q ∈ qs, q.ok) (hN : qs.length ≤ 30) (K : Nat) (hK : K < qs.length) :
    Ev (fun k => rela_Read.f k (cat ((qs.map Q.bytes).set K badB)) 8) ([], 22, (K : Int) * 24, ⟨#[]⟩) := by
  have hR : Rows24 ((qs.map Q.bytes).set K badB) := by
    intro r hr
    rcases List.mem_or_eq_of_mem_set hr with h | h
    · exact rows24 qs r h
    · rw [h]; exact relaF_size _ _ _ _
  have hs := cat_size hR
  rw [List.length_set, List.length_map] at hs
  let d : Q := ⟨0, 0, 0, 0⟩
  generalize hB : (qs.map Q.bytes).set K badB = rows at hR hs ⊢
  have hbad := go_bad (cat rows) 8 (qs.length - K - 1) K ([] ++ (List.range K).map fun j => (qs.getD (0 + j) d).rela) ⟨8, 7, 0, 0⟩ 22 (by decide) (by
    rw [cat_part hR K badB (by rw [← hB]; simp [hK])]
    exact bad_ev)
  have hg := go_good (cat rows) 8 (fun j => (qs.getD j d).rela) (qs.length - K - 1 + 1) ([], 22, (K : Int) * 24, ⟨#[]⟩) K 0 [] (fun j _ hj => by
    have hj' : j < qs.length := by omega
    have he : qs.getD j d = qs[j] := by simp [List.getD, hj']
    rw [he, cat_part hR j qs[j].bytes (by rw [← hB, List.getElem?_set_ne (by omega)]; simp [hj'])]
    exact good_ev _ (hq _ (List.getElem_mem hj'))) (by rw [Nat.zero_add]; exact hbad)
  refine Ev.congr (fun k => ?_) hg
  unfold rela_Read.f
  rw [if_neg (by omega), if_pos (by omega), if_neg (by omega), show (cat rows).size / 24 = K + (qs.length - K - 1 + 1) by omega]

theorem rd_rela (qs : List Q) (j : Nat) (hj : j < qs.length) : rd_T38 (qs.map Q.rela) (j : Int) = qs[j].rela := by
  rw [rd_T38, Int.toNat_natCast]
  simp [List.getD, hj]
/-- The law's end: the rows are the same; one that is spoilt is told. -/
theorem end_ev (qs : List Q) (hq : ∀ q ∈ qs, q.ok) (hN : qs.length ≤ 30) (bad : Int) (hb0 : -9223372036854775808 ≤ bad) (hb1 : bad < 9223372036854775808) : ∀ d j, j + d = qs.length →
    Ev (fun k => turnbucklelaw15_RelaPlaces.l1 k bad (cat (qs.map Q.bytes)) (qs.map Q.rela) (qs.map Q.rela) (j : Int)) true := by
  intro d
  induction d with
  | zero =>
    intro j hj
    have hl : ((qs.map Q.rela).length : Int) = (qs.length : Int) := by simp
    by_cases h0 : qs.length = 0
    · refine Ev.step (f := fun _ => some true) (fun k => ?_) (Ev.now _)
      simp only [turnbucklelaw15_RelaPlaces.l1, hl]
      rw [if_neg (by omega), if_pos (by omega)]
    · obtain ⟨N, hNN⟩ : ∃ N : Nat, qs.length = N := ⟨_, rfl⟩
      have hNp : 0 < N := by omega
      have t1 : -(N : Int) < bad.tmod N ∧ bad.tmod N < N := by
        constructor
        · have := Int.tmod_lt_of_pos (-bad) (b := (N : Int)) (by omega)
          rw [Int.neg_tmod] at this
          omega
        · exact Int.tmod_lt_of_pos _ (by omega)
      have w1 : wrap64 (bad.tmod N + N) = bad.tmod N + N := w64 (by omega) (by omega)
      obtain ⟨K, hK⟩ : ∃ K : Nat, (bad.tmod N + N).tmod N = (K : Int) ∧ K < N := by
        rw [Int.tmod_eq_emod_of_nonneg (by omega)]
        have h1 := Int.emod_nonneg (bad.tmod N + N) (b := (N : Int)) (by omega)
        have h2 := Int.emod_lt_of_pos (bad.tmod N + N) (b := (N : Int)) (by omega)
        exact ⟨((bad.tmod N + N) % N).toNat, by omega, by omega⟩
      obtain ⟨hK1, hK2⟩ := hK
      have hKq : K < qs.length := by omega
      have w2 : wrap64 (24 * (K : Int)) = ((24 * K : Nat) : Int) := by rw [w64 (by omega) (by omega)]; omega
      have w3 : wrap64 (((24 * K : Nat) : Int) + 24) = ((24 * K + 24 : Nat) : Int) := by rw [w64 (by omega) (by omega)]; omega
      have hsz := cat_size (rows24 qs)
      rw [List.length_map] at hsz
      have hsp := cat_spoil (rows24 qs) K (by simpa using hKq) badB
      have hread := bad_read qs hq hN K hKq
      rw [← hsp] at hread
      have hput : Ev (fun k => rela_Put.f k 8 7 0 0) badB := rela_put_ev 8 7 0 0 (by decide) (by decide) (by decide) (by decide)
      have hbs : badB.size = 24 := relaF_size _ _ _ _
      generalize badB = bb at hread hput hbs
      generalize cat (qs.map Q.bytes) = s at hsz hread ⊢
      clear hsp
      have hu : IntKind.u64.wrap ((24 * K : Nat) : Int) = (K : Int) * 24 := by rw [u64w (by omega) (by omega)]; omega
      have e1 : (s.extract 0 (24 * K)).size = 24 * K := by rw [ByteArray.size_extract]; omega
      have e2 : (s.extract (24 * K + 24) s.size).size ≤ s.size := by rw [ByteArray.size_extract]; omega
      have e3 : (s.extract 0 (24 * K) ++ bb).size = 24 * K + 24 := by rw [ByteArray.size_append, e1, hbs]
      refine Ev.step (f := fun k => (rela_Put.f k 8 7 0 0).bind fun t152 => if (s.extract 0 (24 * K)).size + t152.size ≤ 9223372036854775807 then (if (0 : Int) ≤ ((24 * K + 24 : Nat) : Int) then (if ((24 * K + 24 : Nat) : Int) ≤ (s.size : Int) then (if ((s.extract 0 (24 * K)) ++ t152).size + (s.extract (24 * K + 24) s.size).size ≤ 9223372036854775807 then ((rela_Read.f k (((s.extract 0 (24 * K)) ++ t152) ++ (s.extract (24 * K + 24) s.size)) 8).bind fun bt153 => (if bt153.2.1 = 22 then (some (bt153.2.2.1 == (K : Int) * 24)) else (some false))) else (none)) else (none)) else (none)) else (none)) (fun k => ?_) ?_
      · simp only [turnbucklelaw15_RelaPlaces.l1, hl, hNN, w1, hK1, w2, w3, Int.toNat_natCast]
        rw [if_neg (by omega), if_neg (by omega), if_pos (by omega), if_pos (by omega), hu]
      · refine Ev.bind hput ?_
        refine Ev.congr (fun k => if_pos (by omega)) ?_
        refine Ev.congr (fun k => if_pos (by omega)) ?_
        refine Ev.congr (fun k => if_pos (by omega)) ?_
        refine Ev.congr (fun k => if_pos (by omega)) ?_
        refine Ev.bind hread ?_
        refine Ev.congr (f := fun _ => some true) (fun k => ?_) (Ev.now _)
        simp
  | succ d ih =>
    intro j hj
    have hjq : j < qs.length := by omega
    have hl : ((qs.map Q.rela).length : Int) = (qs.length : Int) := by simp
    have w : wrap64 ((j : Int) + 1) = ((j + 1 : Nat) : Int) := by rw [w64 (by omega) (by omega)]; omega
    refine Ev.step (f := fun k => turnbucklelaw15_RelaPlaces.l1 k bad (cat (qs.map Q.bytes)) (qs.map Q.rela) (qs.map Q.rela) ((j + 1 : Nat) : Int)) (fun k => ?_) (ih (j + 1) (by omega))
    simp only [turnbucklelaw15_RelaPlaces.l1, hl, rd_rela qs j hjq, w]
    rw [if_pos (by omega), if_pos (by omega), if_pos (by omega)]
    simp
theorem j1_ev (l : List S28) (x7 : Int) (qs : List Q) (hq : ∀ q ∈ qs, q.ok) (hN : qs.length ≤ 30) (bad : Int) (hb0 : -9223372036854775808 ≤ bad) (hb1 : bad < 9223372036854775808) :
    Ev (fun k => turnbucklelaw15_RelaPlaces.j1 k l bad (cat (qs.map Q.bytes)) (qs.map Q.rela) x7 false) true := by
  have hread := all_read qs hq hN
  have hend := end_ev qs hq hN bad hb0 hb1 qs.length 0 (by omega)
  generalize cat (qs.map Q.bytes) = s at hread hend ⊢
  refine Ev.step (f := fun k => (rela_Read.f k s 8).bind fun bt142 => ((fail_Fault_OK.f bt142.2.1 bt142.2.2.1 bt142.2.2.2).bind fun t149 => (if t149 = true then (turnbucklelaw15_RelaPlaces.j2 k bad s (qs.map Q.rela) bt142.1 ((bt142.1.length : Int) != ((qs.map Q.rela).length : Int))) else (turnbucklelaw15_RelaPlaces.j2 k bad s (qs.map Q.rela) bt142.1 true)))) (fun k => ?_) ?_
  · simp only [turnbucklelaw15_RelaPlaces.j1]
    rw [if_neg (by decide)]
  refine Ev.bind hread ?_
  refine Ev.congr (f := fun k => turnbucklelaw15_RelaPlaces.j2 k bad s (qs.map Q.rela) (qs.map Q.rela) false) (fun k => ?_) ?_
  · simp [fail_Fault_OK.f]
  · refine Ev.step (f := fun k => turnbucklelaw15_RelaPlaces.l1 k bad s (qs.map Q.rela) (qs.map Q.rela) 0) (fun k => ?_) hend
    simp only [turnbucklelaw15_RelaPlaces.j2]
    rw [if_neg (by decide)]

/-! ### the law's list -/
theorem andnot_ok (x : Int) : ∃ n : Nat, bits .andNot .u64 x 7 = (n : Int) ∧ n < 18446744073709551616 ∧ n % 8 = 0 := by
  refine ⟨(BitVec.ofInt IntKind.u64.bits x &&& ~~~BitVec.ofInt IntKind.u64.bits 7).toNat, ?_, BitVec.isLt _, ?_⟩
  · simp only [bits]
    exact u64w (Int.natCast_nonneg _) (by have := (BitVec.ofInt IntKind.u64.bits x &&& ~~~BitVec.ofInt IntKind.u64.bits 7).isLt; exact Int.ofNat_lt.2 this)
  · have h0 : (BitVec.ofInt IntKind.u64.bits x &&& ~~~BitVec.ofInt IntKind.u64.bits 7) &&& BitVec.ofInt IntKind.u64.bits 7 = 0 := by
      rw [BitVec.and_assoc, BitVec.and_comm (~~~_), BitVec.and_not_self]
      simp
    have h1 := congrArg BitVec.toNat h0
    rw [BitVec.toNat_and] at h1
    have h7 : (BitVec.ofInt IntKind.u64.bits 7).toNat = 2 ^ 3 - 1 := by decide
    rw [h7, Nat.and_two_pow_sub_one_eq_mod] at h1
    exact h1
theorem and_mask (a : Int) (i : Nat) (hi : i ≤ 62) : bits .and .i64 a (2 ^ i - 1) = a % 2 ^ i := by
  have hpos : 0 < 2 ^ i := Nat.two_pow_pos i
  have hle : 2 ^ i ≤ 2 ^ 62 := Nat.pow_le_pow_right (by decide) hi
  have hc : ((2 : Int) ^ i - 1) = ((2 ^ i - 1 : Nat) : Int) := by
    rw [Int.natCast_sub hpos]; simp
  have hb : (2 ^ i - 1) % 2 ^ IntKind.i64.bits = 2 ^ i - 1 := Nat.mod_eq_of_lt (by show 2 ^ i - 1 < 2 ^ 64; omega)
  rw [hc]
  simp only [bits, BitVec.ofInt_natCast, BitVec.toNat_and, BitVec.toNat_ofNat, hb, BitVec.toNat_ofInt]
  rw [Nat.and_two_pow_sub_one_eq_mod, IntKind.wrap_i64]
  have hd : ((2 : Int) ^ i) ∣ 18446744073709551616 := ⟨2 ^ (64 - i), by rw [← Int.pow_add, show i + (64 - i) = 64 by omega]; rfl⟩
  have h1 : (((a % ((2 ^ IntKind.i64.bits : Nat) : Int)).toNat % 2 ^ i : Nat) : Int) = a % 2 ^ i := by
    have h2 : ((2 ^ IntKind.i64.bits : Nat) : Int) = 18446744073709551616 := rfl
    rw [h2, Int.natCast_emod, Int.toNat_of_nonneg (Int.emod_nonneg _ (by decide))]
    rw [show ((2 ^ i : Nat) : Int) = 2 ^ i by simp]
    exact Int.emod_emod_of_dvd a hd
  rw [h1]
  have h3 := Int.emod_nonneg a (b := 2 ^ i) (Int.ne_of_gt (Int.pow_pos (by decide)))
  have h4 := Int.emod_lt_of_pos a (b := 2 ^ i) (Int.pow_pos (by decide))
  have h5 : (2 : Int) ^ i ≤ 2 ^ 62 := by exact_mod_cast hle
  have h6 : (2 : Int) ^ 62 = 4611686018427387904 := rfl
  omega
def toQ (x : S28) : Q := ⟨(bits .andNot .u64 x.f0 7).toNat, 2 + (x.f1 % 4).toNat, if x.f1 % 4 = 1 then 0 else (x.f2 % 8).toNat, x.f3.toNat⟩
theorem step_ev (l : List S28) (bad : Int) (i : Nat) (xs : List S38) (s pb : ByteArray) (x : S28) (q : Q) (hrd : rd_T28 l (i : Int) = x)
    (m0 : bits .andNot .u64 x.f0 7 = (q.a : Int)) (m1 : wrap64 (2 + bits .and .i64 x.f1 3) = (q.kd : Int)) (m2 : q.kd ≠ 3 → bits .and .i64 x.f2 7 = (q.s : Int)) (m2' : q.kd = 3 → q.s = 0) (m3 : x.f3 = (q.y : Int))
    (hil : i < l.length) (hi : i < 30) (hxs : xs.length ≤ 30) (hs : s.size ≤ 720) (hpb : pb.size = 24)
    (hput : Ev (fun k => rela_Put.f k (q.a : Int) (q.kd : Int) (q.s : Int) (q.y : Int)) pb)
    (ih : Ev (fun k => turnbucklelaw15_RelaPlaces.l0 k l bad (s ++ pb) (xs ++ [(⟨(q.a : Int), (q.kd : Int), (q.s : Int), (q.y : Int)⟩ : S38)]) ((i + 1 : Nat) : Int)) true) :
    Ev (fun k => turnbucklelaw15_RelaPlaces.l0 k l bad s xs (i : Int)) true := by
  obtain ⟨w, c1, c2, c3, c5⟩ : wrap64 ((i : Int) + 1) = ((i + 1 : Nat) : Int) ∧ (i : Int) < (l.length : Int) ∧ (i : Int) < 30 ∧ (0 : Int) ≤ (i : Int) ∧ s.size + pb.size ≤ 9223372036854775807 := by
    clear m0 m1 m2 m3 m2' hrd hput ih
    generalize l.length = L at hil ⊢
    generalize s.size = a at hs ⊢
    generalize pb.size = b at hpb ⊢
    refine ⟨?_, by omega, by omega, by omega, by omega⟩
    rw [w64 (by omega) (by omega)]; omega
  have hlt : xs.length < 4398046511104 := Nat.lt_of_le_of_lt hxs (by decide)
  refine Ev.step (f := fun k => turnbucklelaw15_RelaPlaces.j1 k l bad s xs i true) (fun k => ?_) ?_
  · simp only [turnbucklelaw15_RelaPlaces.l0]
    rw [if_pos c1, decide_eq_true c2]
  refine Ev.step (f := fun k => (rela_Put.f k (q.a : Int) (q.kd : Int) (q.s : Int) (q.y : Int)).bind fun t137 => if s.size + t137.size ≤ 9223372036854775807 then turnbucklelaw15_RelaPlaces.l0 k l bad (s ++ t137) (xs ++ [(⟨(q.a : Int), (q.kd : Int), (q.s : Int), (q.y : Int)⟩ : S38)]) ((i + 1 : Nat) : Int) else none) (fun k => ?_) (Ev.bind hput (Ev.congr (fun k => if_pos c5) ih))
  simp only [turnbucklelaw15_RelaPlaces.j1, hrd, m0, m1, m3, w]
  by_cases h3 : q.kd = 3
  · have h3' : (q.kd : Int) = 3 := by rw [h3]; rfl
    rw [if_pos trivial, if_pos c3, if_pos c1, if_pos h3', if_pos hlt, m2' h3]
    rfl
  · have h3' : ¬ (q.kd : Int) = 3 := fun h => h3 (by exact_mod_cast h)
    rw [if_pos trivial, if_pos c3, if_pos c1, if_neg h3', if_pos hlt, m2 h3]
theorem RelaPlaces : turnbucklelaw15_RelaPlaces.Pure := by
  intro l bad hlen hw hb
  obtain ⟨hb0, hb1⟩ := i64_bounds hb
  apply Ev.rounds
  unfold turnbucklelaw15_RelaPlaces.f
  refine Ev.bind law_speaks ?_
  refine Ev.congr (fun k => if_pos rfl) ?_
  obtain ⟨M, hM⟩ : ∃ M : Nat, min l.length 30 = M := ⟨_, rfl⟩
  have hok : ∀ i, i ≤ M → ∀ q ∈ (l.take i).map toQ, q.ok := by
    intro i _ q hq
    obtain ⟨s, hs, rfl⟩ := List.mem_map.1 hq
    obtain ⟨h0, h1, h2, h3⟩ := hw s (List.mem_of_mem_take hs)
    have b3 := u64_bounds h3
    obtain ⟨n, hn, hn1, hn2⟩ := andnot_ok s.f0
    have ha : (toQ s).a = n := by show (bits .andNot .u64 s.f0 7).toNat = n; rw [hn, Int.toNat_natCast]
    have hk : (toQ s).kd = 2 + (s.f1 % 4).toNat := rfl
    have hss : (toQ s).s = if s.f1 % 4 = 1 then 0 else (s.f2 % 8).toNat := rfl
    have hy : (toQ s).y = s.f3.toNat := rfl
    unfold Q.ok
    rw [ha, hk, hss, hy]
    clear ha hk hss hy hn
    refine ⟨hn1, hn2, by omega, by omega, by split <;> omega, fun h => if_pos (by omega), by omega⟩
  have hmx : l.length ≤ 9223372036854775807 := by unfold maxLen at hlen; omega
  have all : ∀ d i, i + d = M → Ev (fun k => turnbucklelaw15_RelaPlaces.l0 k l bad (cat (((l.take i).map toQ).map Q.bytes)) (((l.take i).map toQ).map Q.rela) (i : Int)) true := by
    intro d
    induction d with
    | zero =>
      intro i hi
      have hj := j1_ev l i ((l.take i).map toQ) (hok i (by omega)) (by simp; omega) bad hb0 hb1
      refine Ev.step (fun k => ?_) hj
      simp only [turnbucklelaw15_RelaPlaces.l0]
      by_cases h : (i : Int) < (l.length : Int)
      · rw [if_pos h, decide_eq_false (by omega)]
      · rw [if_neg h]
    | succ d ih =>
      intro i hi
      have hil : i < l.length := by omega
      have hrd : rd_T28 l (i : Int) = l[i] := by
        rw [rd_T28, Int.toNat_natCast]
        simp [List.getD, hil]
      obtain ⟨q, hq⟩ : ∃ q, toQ l[i] = q := ⟨_, rfl⟩
      have htake : (l.take (i + 1)).map toQ = (l.take i).map toQ ++ [q] := by
        rw [List.take_succ_eq_append_getElem hil, List.map_append, ← hq]; rfl
      have hqok : q.ok := hok (i + 1) (by omega) q (by rw [htake]; simp)
      have ih := ih (i + 1) (by omega)
      rw [htake, List.map_append, List.map_append] at ih
      have hcat : cat (((l.take i).map toQ).map Q.bytes ++ [q].map Q.bytes) = cat (((l.take i).map toQ).map Q.bytes) ++ q.bytes := cat_snoc _ _
      rw [hcat] at ih
      obtain ⟨q0, q1, q2, q3, q4, q5, q6⟩ := hqok
      have hput : Ev (fun k => rela_Put.f k (q.a : Int) (q.kd : Int) (q.s : Int) (q.y : Int)) q.bytes := rela_put_ev q.a q.kd q.s q.y q0 (by omega) (by omega) q6
      have hcs := cat_size (rows24 ((l.take i).map toQ))
      have hqs : q.bytes.size = 24 := relaF_size _ _ _ _
      simp only [List.length_map, List.length_take] at hcs
      obtain ⟨h0, h1, h2, h3⟩ := hw l[i] (List.getElem_mem hil)
      have b3 := u64_bounds h3
      have m0 : bits .andNot .u64 l[i].f0 7 = (q.a : Int) := by
        obtain ⟨n, hn, _, _⟩ := andnot_ok l[i].f0
        rw [← hq]
        show _ = (((bits .andNot .u64 l[i].f0 7).toNat : Nat) : Int)
        rw [hn, Int.toNat_natCast]
      have k1 : bits .and .i64 l[i].f1 3 = l[i].f1 % 4 := and_mask _ 2 (by decide)
      have k2 : bits .and .i64 l[i].f2 7 = l[i].f2 % 8 := and_mask _ 3 (by decide)
      have hkd : q.kd = 2 + (l[i].f1 % 4).toNat := by rw [← hq]; rfl
      have hqs2 : q.s = if l[i].f1 % 4 = 1 then 0 else (l[i].f2 % 8).toNat := by rw [← hq]; rfl
      have hy : q.y = l[i].f3.toNat := by rw [← hq]; rfl
      have m1 : wrap64 (2 + bits .and .i64 l[i].f1 3) = (q.kd : Int) := by rw [k1, hkd, w64 (by omega) (by omega)]; omega
      have m2 : q.kd ≠ 3 → bits .and .i64 l[i].f2 7 = (q.s : Int) := by
        intro h
        rw [k2, hqs2, if_neg (by rw [hkd] at h; omega)]
        omega
      have m3 : l[i].f3 = (q.y : Int) := by rw [hy]; omega
      exact step_ev l bad i _ _ q.bytes l[i] q hrd m0 m1 m2 q5 m3 hil (by omega) (by rw [List.length_map, List.length_map, List.length_take]; omega) (by omega) hqs hput ih
  have := all M 0 (by omega)
  exact this
end Go.Proofs.Ytpdecpiiidoleaa.Pure
