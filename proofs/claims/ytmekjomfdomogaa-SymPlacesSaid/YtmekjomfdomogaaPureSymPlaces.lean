/-
  Symbols one behind the other are each read as alone; the first one that is wrong is told by its place.
-/
import Derived.Test.YtmekjomfdomogaaSymRows
import Derived.Test.YtmekjomfdomogaaPAllx16
namespace Go.Proofs.Ytmekjomfdomogaa.Pure
open Go Go.RowKit Go.Proofs.Ytmekjomfdomogaa.PAll Go.Proofs.YtmekjomfdomogaaW.PrintWords Go.Proofs.YtmekjomfdomogaaW.PrintLast Go.Proofs.Ytmekjomfdomogaa.Nice Go.Proofs.Ytmekjomfdomogaa.Sym Go.Proofs.YtmekjomfdomogaaLe
set_option linter.unusedVariables false

theorem and_mask (a : Int) (i : Nat) (hi : i ≤ 62) : bits .and .i64 a (2 ^ i - 1) = a % 2 ^ i := by
  have hpos : 0 < 2 ^ i := Nat.two_pow_pos i
  have hle : 2 ^ i ≤ 2 ^ 62 := Nat.pow_le_pow_right (by decide) hi
  have hc : ((2 : Int) ^ i - 1) = ((2 ^ i - 1 : Nat) : Int) := by
    rw [Int.natCast_sub hpos]; simp
  have hb : (2 ^ i - 1) % 2 ^ IntKind.i64.bits = 2 ^ i - 1 := Nat.mod_eq_of_lt (by show 2 ^ i - 1 < 2 ^ 64; omega)
  rw [hc]
  simp only [bits, BitVec.ofInt_natCast, BitVec.toNat_and, BitVec.toNat_ofNat, hb, BitVec.toNat_ofInt]
  rw [Nat.and_two_pow_sub_one_eq_mod, IntKind.wrap_i64]
  have hd : ((2 : Int) ^ i) ∣ 18446744073709551616 := ⟨2 ^ (64 - i), by rw [← Int.pow_add, show i + (64 - i) = 64 by omega]; rfl⟩
  have h1 : (((a % ((2 ^ IntKind.i64.bits : Nat) : Int)).toNat % 2 ^ i : Nat) : Int) = a % 2 ^ i := by
    have h2 : ((2 ^ IntKind.i64.bits : Nat) : Int) = 18446744073709551616 := rfl
    rw [h2, Int.natCast_emod, Int.toNat_of_nonneg (Int.emod_nonneg _ (by decide))]
    rw [show ((2 ^ i : Nat) : Int) = 2 ^ i by simp]
    exact Int.emod_emod_of_dvd a hd
  rw [h1]
  have h3 := Int.emod_nonneg a (b := 2 ^ i) (Int.ne_of_gt (Int.pow_pos (by decide)))
  have h4 := Int.emod_lt_of_pos a (b := 2 ^ i) (Int.pow_pos (by decide))
  have h5 : (2 : Int) ^ i ≤ 2 ^ 62 := by exact_mod_cast hle
  have h6 : (2 : Int) ^ 62 = 4611686018427387904 := rfl
  omega

/-- A symbol of the law's own list, as it is put. -/
structure Q where
  b : Nat
  kd : Nat
  v : Nat
  D : Bool
  x : Nat
  y : Nat
def Q.ok (q : Q) : Prop := q.b ≤ 2 ∧ q.kd ≤ 15 ∧ q.v ≤ 3 ∧ q.x < 18446744073709551616 ∧ q.y < 18446744073709551616
def Q.bytes (q : Q) (n : Nat) : ByteArray := symF n q.b q.kd q.v q.D q.x q.y
def Q.sym (q : Q) : S28 := S28of ⟨#[120]⟩ q.b q.kd q.v q.D q.x q.y
def toQ (s : S24) : Q := ⟨(s.f0 % 2).toNat, (s.f1 % 16).toNat, (s.f2 % 4).toNat, s.f3, s.f4.toNat, s.f5.toNat⟩
theorem x_text : le_Text.f ⟨#[120, 0]⟩ ((0 : Nat) : Int) 32 = some (⟨#[120]⟩, true) := by decide +kernel
theorem x_none : le_Text.f ⟨#[120, 0]⟩ ((9 : Nat) : Int) 32 = some (⟨#[]⟩, false) := by decide +kernel
theorem rows24 (qs : List Q) : Rows24 (qs.map fun q => q.bytes 0) := by
  intro r hr
  obtain ⟨q, _, rfl⟩ := List.mem_map.1 hr
  exact symF_size _ _ _ _ _ _ _
theorem good_ev (q : Q) (h : q.ok) : Ev (fun k => sym_read.f k (q.bytes 0) ⟨#[120, 0]⟩) (tupleOf q.sym) :=
  read_row ⟨#[120, 0]⟩ ⟨#[120]⟩ true 0 q.b q.kd q.v q.D q.x q.y (by decide) h.1 h.2.1 h.2.2.1 h.2.2.2.1 h.2.2.2.2 x_text
theorem bad_ev (q : Q) (h : q.ok) : Ev (fun k => sym_read.f k (q.bytes 9) ⟨#[120, 0]⟩) (⟨#[]⟩, 0, 0, 0, false, 0, 0, 25) :=
  read_row ⟨#[120, 0]⟩ ⟨#[]⟩ false 9 q.b q.kd q.v q.D q.x q.y (by decide) h.1 h.2.1 h.2.2.1 h.2.2.2.1 h.2.2.2.2 x_none
theorem spoil_row (q : Q) : (⟨#[9]⟩ : ByteArray) ++ (q.bytes 0).extract 1 24 = q.bytes 9 := by
  have h0 : putF 0 4 = ⟨#[0, 0, 0, 0]⟩ := by decide +kernel
  have h9 : putF 9 4 = ⟨#[9, 0, 0, 0]⟩ := by decide +kernel
  have hs := symF_size 0 q.b q.kd q.v q.D q.x q.y
  unfold Q.bytes symF
  rw [h0, h9]
  have hM := midF_size q.b q.kd q.v
  have hS := putF2 (if q.D then 1 else 0)
  have hX := putF8 q.x
  have hY := putF8 q.y
  generalize midF q.b q.kd q.v = M at hM ⊢
  generalize putF (if q.D then 1 else 0) 2 = S at hS ⊢
  generalize putF q.x 8 = X at hX ⊢
  generalize putF q.y 8 = Y at hY ⊢
  clear hs
  apply ba_ext
  have e : ∀ A : ByteArray, (A ++ M ++ S ++ X ++ Y).data.toList = A.data.toList ++ (M.data.toList ++ (S.data.toList ++ (X.data.toList ++ Y.data.toList))) := fun A => by simp
  have lM : M.data.toList.length = 2 := hM
  have lS : S.data.toList.length = 2 := hS
  have lX : X.data.toList.length = 8 := hX
  have lY : Y.data.toList.length = 8 := hY
  rw [ByteArray.data_append, Array.toList_append, extract_toList, e, e]
  show [9] ++ (([0, 0, 0, 0] ++ (M.data.toList ++ (S.data.toList ++ (X.data.toList ++ Y.data.toList)))).drop 1).take 23 = [9, 0, 0, 0] ++ _
  rw [List.take_of_length_le (by simp; omega)]
  rfl

/-- All rows are read. -/
theorem all_read (qs : List Q) (hq : ∀ q ∈ qs, q.ok) (hN : qs.length ≤ 30) : Ev (fun k => sym_Read.f k (cat (qs.map fun q => q.bytes 0)) ⟨#[120, 0]⟩) (qs.map Q.sym, 0, 0, ⟨#[]⟩) := by
  have hR := rows24 qs
  have hs := cat_size hR
  rw [List.length_map] at hs
  let d : Q := ⟨0, 0, 0, false, 0, 0⟩
  have hg := go_good (cat (qs.map fun q => q.bytes 0)) ⟨#[120, 0]⟩ (fun j => (qs.getD j d).sym) 0 (qs.map Q.sym, 0, 0, ⟨#[]⟩) qs.length 0 [] (fun j _ hj => by
    have hj' : j < qs.length := by omega
    have he : qs.getD j d = qs[j] := by simp [List.getD, hj']
    rw [he, cat_part hR j (qs[j].bytes 0) (by simp [hj'])]
    exact good_ev _ (hq _ (List.getElem_mem hj'))) (by
    have e : (List.range qs.length).map (fun j => (qs.getD (0 + j) d).sym) = qs.map Q.sym := by
      apply List.ext_getElem
      · simp
      · intro i h1 h2
        simp at h1 h2
        simp [List.getD, h1]
    rw [List.nil_append, e]
    exact Ev.now _)
  refine Ev.congr (fun k => ?_) hg
  unfold sym_Read.f
  rw [if_neg (by omega), if_pos (by omega), if_neg (by omega), show (cat (qs.map fun q => q.bytes 0)).size / 24 = qs.length + 0 by omega]
/-- A spoilt row is told by its place. -/
theorem bad_read (qs : List Q) (hq : ∀ q ∈ qs, q.ok) (hN : qs.length ≤ 30) (K : Nat) (hK : K < qs.length) :
    Ev (fun k => sym_Read.f k (cat ((qs.map fun q => q.bytes 0).set K (qs[K].bytes 9))) ⟨#[120, 0]⟩) ([], 25, (K : Int) * 24, ⟨#[]⟩) := by
  have hR : Rows24 ((qs.map fun q => q.bytes 0).set K (qs[K].bytes 9)) := by
    intro r hr
    rcases List.mem_or_eq_of_mem_set hr with h | h
    · exact rows24 qs r h
    · rw [h]; exact symF_size _ _ _ _ _ _ _
  have hs := cat_size hR
  rw [List.length_set, List.length_map] at hs
  let d : Q := ⟨0, 0, 0, false, 0, 0⟩
  generalize hB : (qs.map fun q => q.bytes 0).set K (qs[K].bytes 9) = rows at hR hs ⊢
  have hbad := go_bad (cat rows) ⟨#[120, 0]⟩ (qs.length - K - 1) K ([] ++ (List.range K).map fun j => (qs.getD (0 + j) d).sym) 25 (by decide) ⟨#[]⟩ 0 0 0 false 0 0 (by
    rw [cat_part hR K (qs[K].bytes 9) (by rw [← hB]; simp [hK])]
    exact bad_ev _ (hq _ (List.getElem_mem hK)))
  have hg := go_good (cat rows) ⟨#[120, 0]⟩ (fun j => (qs.getD j d).sym) (qs.length - K - 1 + 1) ([], 25, (K : Int) * 24, ⟨#[]⟩) K 0 [] (fun j _ hj => by
    have hj' : j < qs.length := by omega
    have he : qs.getD j d = qs[j] := by simp [List.getD, hj']
    rw [he, cat_part hR j (qs[j].bytes 0) (by rw [← hB, List.getElem?_set_ne (by omega)]; simp [hj'])]
    exact good_ev _ (hq _ (List.getElem_mem hj'))) (by rw [Nat.zero_add]; exact hbad)
  refine Ev.congr (fun k => ?_) hg
  unfold sym_Read.f
  rw [if_neg (by omega), if_pos (by omega), if_neg (by omega), show (cat rows).size / 24 = K + (qs.length - K - 1 + 1) by omega]

theorem rd_sym (qs : List Q) (j : Nat) (hj : j < qs.length) : rd_T28 (qs.map Q.sym) (j : Int) = qs[j].sym := by
  rw [rd_T28, Int.toNat_natCast]
  simp [List.getD, hj]
/-- The law's end: the rows are the same; one that is spoilt is told. -/
theorem end_ev (qs : List Q) (hq : ∀ q ∈ qs, q.ok) (hN : qs.length ≤ 30) (bad : Int) (hb0 : -9223372036854775808 ≤ bad) (hb1 : bad < 9223372036854775808) : ∀ d j, j + d = qs.length →
    Ev (fun k => turnbucklelaw11_SymPlaces.l1 k bad (qs.map Q.sym) (cat (qs.map fun q => q.bytes 0)) (qs.map Q.sym) (j : Int)) true := by
  intro d
  induction d with
  | zero =>
    intro j hj
    have hl : ((qs.map Q.sym).length : Int) = (qs.length : Int) := by simp
    by_cases h0 : qs.length = 0
    · refine Ev.step (f := fun _ => some true) (fun k => ?_) (Ev.now _)
      simp only [turnbucklelaw11_SymPlaces.l1, hl]
      rw [if_neg (by omega), if_pos (by omega)]
    · obtain ⟨N, hNN⟩ : ∃ N : Nat, qs.length = N := ⟨_, rfl⟩
      have hNp : 0 < N := by omega
      have t1 : -(N : Int) < bad.tmod N ∧ bad.tmod N < N := by
        constructor
        · have := Int.tmod_lt_of_pos (-bad) (b := (N : Int)) (by omega)
          rw [Int.neg_tmod] at this
          omega
        · exact Int.tmod_lt_of_pos _ (by omega)
      have w1 : wrap64 (bad.tmod N + N) = bad.tmod N + N := w64 (by omega) (by omega)
      obtain ⟨K, hK⟩ : ∃ K : Nat, (bad.tmod N + N).tmod N = (K : Int) ∧ K < N := by
        rw [Int.tmod_eq_emod_of_nonneg (by omega)]
        have h1 := Int.emod_nonneg (bad.tmod N + N) (b := (N : Int)) (by omega)
        have h2 := Int.emod_lt_of_pos (bad.tmod N + N) (b := (N : Int)) (by omega)
        exact ⟨((bad.tmod N + N) % N).toNat, by omega, by omega⟩
      obtain ⟨hK1, hK2⟩ := hK
      have hKq : K < qs.length := by omega
      have w2 : wrap64 (24 * (K : Int)) = ((24 * K : Nat) : Int) := by rw [w64 (by omega) (by omega)]; omega
      have w3 : wrap64 (((24 * K : Nat) : Int) + 1) = ((24 * K + 1 : Nat) : Int) := by rw [w64 (by omega) (by omega)]; omega
      have hsz := cat_size (rows24 qs)
      rw [List.length_map] at hsz
      have hsp := cat_spoil (rows24 qs) K (qs[K].bytes 0) (by simp [hKq]) 9
      rw [spoil_row] at hsp
      have hread := bad_read qs hq hN K hKq
      rw [← hsp] at hread
      generalize cat (qs.map fun q => q.bytes 0) = s at hsz hread ⊢
      clear hsp
      have hu : IntKind.u64.wrap ((24 * K : Nat) : Int) = (K : Int) * 24 := by rw [u64w (by omega) (by omega)]; omega
      refine Ev.step (f := fun k => (sym_Read.f k (s.extract 0 (24 * K) ++ ⟨#[9]⟩ ++ s.extract (24 * K + 1) s.size) ⟨#[120, 0]⟩).bind fun bt246 => if bt246.2.1 = 25 then some (bt246.2.2.1 == (K : Int) * 24) else some false) (fun k => ?_) ?_
      · have e1 : (s.extract 0 (24 * K)).size = 24 * K := by rw [ByteArray.size_extract]; omega
        have e2 : (s.extract (24 * K + 1) s.size).size ≤ s.size := by rw [ByteArray.size_extract]; omega
        have e3 : (s.extract 0 (24 * K) ++ (⟨#[9]⟩ : ByteArray)).size = 24 * K + 1 := by rw [ByteArray.size_append, e1]; rfl
        simp only [turnbucklelaw11_SymPlaces.l1, hl, hNN, w1, hK1, w2, w3, Int.toNat_natCast]
        rw [if_neg (by omega), if_neg (by omega), if_pos (by omega), if_pos (by omega), if_pos (by omega), if_pos (by omega), if_pos (by omega), if_pos (by omega), hu]
      · refine Ev.bind hread ?_
        refine Ev.congr (f := fun _ => some true) (fun k => ?_) (Ev.now _)
        simp
  | succ d ih =>
    intro j hj
    have hjq : j < qs.length := by omega
    have hl : ((qs.map Q.sym).length : Int) = (qs.length : Int) := by simp
    have w : wrap64 ((j : Int) + 1) = ((j + 1 : Nat) : Int) := by rw [w64 (by omega) (by omega)]; omega
    refine Ev.step (f := fun k => turnbucklelaw11_SymPlaces.l1 k bad (qs.map Q.sym) (cat (qs.map fun q => q.bytes 0)) (qs.map Q.sym) ((j + 1 : Nat) : Int)) (fun k => ?_) (ih (j + 1) (by omega))
    simp only [turnbucklelaw11_SymPlaces.l1, hl, rd_sym qs j hjq, w]
    rw [if_pos (by omega), if_pos (by omega), if_pos (by omega)]
    simp
theorem j1_ev (qs : List Q) (hq : ∀ q ∈ qs, q.ok) (hN : qs.length ≤ 30) (bad : Int) (hb0 : -9223372036854775808 ≤ bad) (hb1 : bad < 9223372036854775808) :
    Ev (fun k => turnbucklelaw11_SymPlaces.j1 k bad (qs.map Q.sym) (cat (qs.map fun q => q.bytes 0))) true := by
  have hread := all_read qs hq hN
  have hend := end_ev qs hq hN bad hb0 hb1 qs.length 0 (by omega)
  generalize cat (qs.map fun q => q.bytes 0) = s at hread hend ⊢
  refine Ev.step (f := fun k => (sym_Read.f k s ⟨#[120, 0]⟩).bind fun bt236 => ((fail_Fault_OK.f bt236.2.1 bt236.2.2.1 bt236.2.2.2).bind fun t243 => (if t243 = true then (turnbucklelaw11_SymPlaces.j2 k bad (qs.map Q.sym) s bt236.1 ((bt236.1.length : Int) != ((qs.map Q.sym).length : Int))) else (turnbucklelaw11_SymPlaces.j2 k bad (qs.map Q.sym) s bt236.1 true)))) (fun k => rfl) ?_
  refine Ev.bind hread ?_
  refine Ev.congr (f := fun k => turnbucklelaw11_SymPlaces.j2 k bad (qs.map Q.sym) s (qs.map Q.sym) false) (fun k => ?_) ?_
  · simp [fail_Fault_OK.f]
  · refine Ev.step (f := fun k => turnbucklelaw11_SymPlaces.l1 k bad (qs.map Q.sym) s (qs.map Q.sym) 0) (fun k => ?_) hend
    simp only [turnbucklelaw11_SymPlaces.j2]
    rw [if_neg (by decide)]

theorem step_ev (l : List S24) (bad : Int) (i : Nat) (xs : List S28) (s pb : ByteArray) (x : S24) (q : Q) (hrd : rd_T24 l (i : Int) = x)
    (m0 : bits .and .i64 x.f0 1 = (q.b : Int)) (m1 : bits .and .i64 x.f1 15 = (q.kd : Int)) (m2 : bits .and .i64 x.f2 3 = (q.v : Int)) (m3 : x.f3 = q.D) (m4 : x.f4 = (q.x : Int)) (m5 : x.f5 = (q.y : Int))
    (hil : i < l.length) (hi : i < 30) (hxs : xs.length ≤ 30) (hs : s.size ≤ 720) (hpb : pb.size = 24)
    (hput : Ev (fun k => sym_Put.f k (⟨#[120]⟩ : ByteArray) (q.b : Int) (q.kd : Int) (q.v : Int) q.D (q.x : Int) (q.y : Int) ((0 : Nat) : Int)) pb)
    (ih : Ev (fun k => turnbucklelaw11_SymPlaces.l0 k l bad (xs ++ [(⟨⟨#[120]⟩, (q.b : Int), (q.kd : Int), (q.v : Int), q.D, (q.x : Int), (q.y : Int)⟩ : S28)]) (s ++ pb) ((i + 1 : Nat) : Int)) true) :
    Ev (fun k => turnbucklelaw11_SymPlaces.l0 k l bad xs s (i : Int)) true := by
  obtain ⟨w, c1, c2, c3, c5⟩ : wrap64 ((i : Int) + 1) = ((i + 1 : Nat) : Int) ∧ (i : Int) < (l.length : Int) ∧ (i : Int) < 30 ∧ (0 : Int) ≤ (i : Int) ∧ s.size + pb.size ≤ 9223372036854775807 := by
    clear m0 m1 m2 m3 m4 m5 hrd hput ih
    generalize l.length = L at hil ⊢
    generalize s.size = a at hs ⊢
    generalize pb.size = b at hpb ⊢
    refine ⟨?_, by omega, by omega, by omega, by omega⟩
    rw [w64 (by omega) (by omega)]; omega
  refine Ev.step (f := fun k => (sym_Put.f k (⟨#[120]⟩ : ByteArray) (q.b : Int) (q.kd : Int) (q.v : Int) q.D (q.x : Int) (q.y : Int) ((0 : Nat) : Int)).bind fun t235 => if s.size + t235.size ≤ 9223372036854775807 then turnbucklelaw11_SymPlaces.l0 k l bad (xs ++ [(⟨⟨#[120]⟩, (q.b : Int), (q.kd : Int), (q.v : Int), q.D, (q.x : Int), (q.y : Int)⟩ : S28)]) (s ++ t235) ((i + 1 : Nat) : Int) else none) (fun k => ?_) (Ev.bind hput (Ev.congr (fun k => if_pos c5) ih))
  simp only [turnbucklelaw11_SymPlaces.l0, hrd, m0, m1, m2, m3, m4, m5, w]
  rw [if_pos c1, if_pos c2, if_pos c3, if_pos (Nat.lt_of_le_of_lt hxs (by decide))]
  rfl
theorem SymPlaces : turnbucklelaw11_SymPlaces.Pure := by
  intro l bad hlen hw hb
  obtain ⟨hb0, hb1⟩ := i64_bounds hb
  apply Ev.rounds
  unfold turnbucklelaw11_SymPlaces.f
  refine Ev.bind law_speaks ?_
  refine Ev.congr (fun k => if_pos rfl) ?_
  obtain ⟨M, hM⟩ : ∃ M : Nat, min l.length 30 = M := ⟨_, rfl⟩
  have hok : ∀ i, i ≤ M → ∀ q ∈ (l.take i).map toQ, q.ok := by
    intro i _ q hq
    obtain ⟨s, hs, rfl⟩ := List.mem_map.1 hq
    obtain ⟨h0, h1, h2, h4, h5⟩ := hw s (List.mem_of_mem_take hs)
    have b4 := u64_bounds h4
    have b5 := u64_bounds h5
    refine ⟨?_, ?_, ?_, ?_, ?_⟩ <;> simp only [toQ] <;> omega
  have hmx : l.length ≤ 9223372036854775807 := by unfold maxLen at hlen; omega
  have all : ∀ d i, i + d = M → Ev (fun k => turnbucklelaw11_SymPlaces.l0 k l bad (((l.take i).map toQ).map Q.sym) (cat (((l.take i).map toQ).map fun q => q.bytes 0)) (i : Int)) true := by
    intro d
    induction d with
    | zero =>
      intro i hi
      have hj := j1_ev ((l.take i).map toQ) (hok i (by omega)) (by simp; omega) bad hb0 hb1
      refine Ev.step (fun k => ?_) hj
      simp only [turnbucklelaw11_SymPlaces.l0]
      by_cases h : (i : Int) < (l.length : Int)
      · rw [if_pos h, if_neg (by omega)]
      · rw [if_neg h]
    | succ d ih =>
      intro i hi
      have hil : i < l.length := by omega
      have hrd : rd_T24 l (i : Int) = l[i] := by
        rw [rd_T24, Int.toNat_natCast]
        simp [List.getD, hil]
      obtain ⟨q, hq⟩ : ∃ q, toQ l[i] = q := ⟨_, rfl⟩
      have htake : (l.take (i + 1)).map toQ = (l.take i).map toQ ++ [q] := by
        rw [List.take_succ_eq_append_getElem hil, List.map_append, ← hq]; rfl
      have hqok : q.ok := hok (i + 1) (by omega) q (by rw [htake]; simp)
      have ih := ih (i + 1) (by omega)
      rw [htake, List.map_append, List.map_append] at ih
      have hcat : cat (((l.take i).map toQ).map (fun q => q.bytes 0) ++ [q].map fun q => q.bytes 0) = cat (((l.take i).map toQ).map fun q => q.bytes 0) ++ q.bytes 0 := cat_snoc _ _
      rw [hcat] at ih
      have hput := sym_put_ev ⟨#[120]⟩ 0 q.b q.kd q.v q.D q.x q.y (by decide) hqok.1 hqok.2.1 hqok.2.2.1 hqok.2.2.2.1 hqok.2.2.2.2
      have hcs := cat_size (rows24 ((l.take i).map toQ))
      have hqs : (q.bytes 0).size = 24 := symF_size _ _ _ _ _ _ _
      change Ev _ (q.bytes 0) at hput
      simp only [List.length_map, List.length_take] at hcs
      obtain ⟨h0, h1, h2, h4, h5⟩ := hw l[i] (List.getElem_mem hil)
      have b4 := u64_bounds h4
      have b5 := u64_bounds h5
      have m0 : bits .and .i64 l[i].f0 1 = (q.b : Int) := by rw [← hq]; exact (and_mask _ 1 (by decide)).trans (by simp only [toQ]; omega)
      have m1 : bits .and .i64 l[i].f1 15 = (q.kd : Int) := by rw [← hq]; exact (and_mask _ 4 (by decide)).trans (by simp only [toQ]; omega)
      have m2 : bits .and .i64 l[i].f2 3 = (q.v : Int) := by rw [← hq]; exact (and_mask _ 2 (by decide)).trans (by simp only [toQ]; omega)
      have m3 : l[i].f3 = q.D := by rw [← hq]; rfl
      have m4 : l[i].f4 = (q.x : Int) := by rw [← hq]; simp only [toQ]; omega
      have m5 : l[i].f5 = (q.y : Int) := by rw [← hq]; simp only [toQ]; omega
      exact step_ev l bad i _ _ (q.bytes 0) l[i] q hrd m0 m1 m2 m3 m4 m5 hil (by omega) (by rw [List.length_map, List.length_map, List.length_take]; omega) (by omega) hqs hput ih
  have := all M 0 (by omega)
  exact this
end Go.Proofs.Ytmekjomfdomogaa.Pure
