/-
  What the functions of layer 1 compute, in plain words: numbers and texts in bytes.
-/
import Derived.Test.YtoaliamemkjfhaaPNdx9
import Derived.Test.YtoaliamemkjfhaaPNdx10
import Derived.Test.YtoaliamemkjfhaaPNdx8
import Derived.Laws.Bits64b
namespace Go.Proofs.Ytoaliamemkjfhaa.NiceN
open Go Go.RowKit Go.Proofs.Ytoaliamemkjfhaa.PNd Go.Proofs.YtoaliamemkjfhaaW.PrintWords Go.Proofs.YtoaliamemkjfhaaW.PrintLast Go.Proofs.YtoaliamemkjfhaaW.PrintMore
set_option linter.unusedVariables false

theorem u64w {x : Int} (h0 : 0 ≤ x) (h1 : x < 18446744073709551616) : IntKind.u64.wrap x = x := by
  rw [IntKind.wrap_u64]; omega
theorem w64 {x : Int} (h0 : -9223372036854775808 ≤ x) (h1 : x < 9223372036854775808) : wrap64 x = x := by
  unfold wrap64; omega

/-- A number's byte i. -/
def dig (n i : Nat) : Nat := n / 256 ^ i % 256
def putL (n m : Nat) : List Int := (List.range m).map fun i => (dig n i : Int)
def putS (n m : Nat) : ByteArray := strOfNums (putL n m)
def getL (l : List Nat) : Nat := l.foldr (fun b r => b + 256 * r) 0
def bl (s : ByteArray) : List Nat := s.data.toList.map UInt8.toNat
def getS (s : ByteArray) : Nat := if s.size ≤ 8 then getL (bl s) else 0

theorem bl_length (s : ByteArray) : (bl s).length = s.size := by simp [bl]
theorem bl_lt (s : ByteArray) : ∀ b ∈ bl s, b < 256 := by
  intro b hb
  simp only [bl, List.mem_map] at hb
  obtain ⟨c, _, rfl⟩ := hb
  exact c.toNat_lt
theorem bt_bl (s : ByteArray) (i : Nat) (h : i < s.size) : bt s i = (((bl s)[i]'(by rw [bl_length]; exact h) : Nat) : Int) := by
  simp only [bt, Int.toNat_natCast, dif_pos h, bl, List.getElem_map]
  rfl
theorem getL_lt (l : List Nat) (h : ∀ b ∈ l, b < 256) : getL l < 256 ^ l.length := by
  induction l with
  | nil => simp [getL]
  | cons b l ih =>
    have h1 := ih (fun c hc => h c (List.mem_cons_of_mem _ hc))
    have h2 := h b List.mem_cons_self
    simp only [getL, List.foldr_cons, List.length_cons] at h1 ⊢
    rw [Nat.pow_succ]
    omega

theorem or_add (a b : Nat) (hb : b < 256) : (a * 256) ||| b = a * 256 + b := by
  have h := Nat.shiftLeft_add_eq_or_of_lt (i := 8) (b := b) hb a
  rw [Nat.shiftLeft_eq] at h
  exact h.symm

theorem get_loop (s : ByteArray) (hs : s.size ≤ 8) : ∀ d : Nat, d ≤ s.size → Ev (fun k => le_Get.l0 k s (getL ((bl s).drop d) : Nat) ((d : Int) - 1)) (getL (bl s) : Nat) := by
  intro d
  induction d with
  | zero =>
    intro _
    refine Ev.step (f := fun _ => some (((getL (bl s) : Nat)) : Int)) (fun k => ?_) (Ev.now _)
    simp only [le_Get.l0, List.drop_zero]
    rw [if_neg (by omega)]
  | succ d ih =>
    intro hd
    have hlt : getL ((bl s).drop (d + 1)) < 256 ^ 7 := by
      refine Nat.lt_of_lt_of_le (getL_lt _ (fun b hb => bl_lt s b (List.mem_of_mem_drop hb))) ?_
      rw [List.length_drop, bl_length]
      exact Nat.pow_le_pow_right (by omega) (by omega)
    have hb := bl_lt s _ (List.getElem_mem (l := bl s) (n := d) (by rw [bl_length]; omega))
    refine Ev.step (fun k => ?_) (ih (by omega))
    simp only [le_Get.l0]
    rw [if_pos (by omega), if_pos (by omega), if_pos (by omega)]
    have e1 : ((d + 1 : Nat) : Int) - 1 = (d : Int) := by omega
    rw [e1, bt_bl s d (by omega), w64 (x := (d : Int) - 1) (by omega) (by omega)]
    congr 1
    rw [u64w (by omega) (by omega), u64w (by omega) (by omega)]
    have e2 : (((getL ((bl s).drop (d + 1)) : Nat) : Int) * 256) = ((getL ((bl s).drop (d + 1)) * 256 : Nat) : Int) := by omega
    rw [e2, bits_or_u64_nat _ _ (by omega) (by omega), or_add _ _ hb]
    rw [List.drop_eq_getElem_cons (i := d) (by rw [bl_length]; omega)]
    simp only [getL, List.foldr_cons]
    congr 1
    omega

theorem get_ev (s : ByteArray) : Ev (fun k => le_Get.f k s) (getS s : Nat) := by
  unfold le_Get.f getS
  by_cases h : s.size ≤ 8
  · have h0 := get_loop s h s.size (Nat.le_refl _)
    rw [List.drop_of_length_le (by rw [bl_length]; exact Nat.le_refl _)] at h0
    rw [if_pos h]
    refine Ev.congr (fun k => ?_) h0
    rw [if_neg (by omega), w64 (by omega) (by omega)]
    rfl
  · rw [if_neg h]
    refine Ev.congr (f := fun _ => some 0) (fun k => ?_) (Ev.now _)
    rw [if_pos (by omega)]

theorem putL_length (n m : Nat) : (putL n m).length = m := by simp [putL]
def putF (n : Nat) (m : Int) : ByteArray := if 1 ≤ m ∧ m ≤ 8 then putS n m.toNat else ⟨#[]⟩
theorem sized_eq (m : Int) : le_sized.f m = some (decide (1 ≤ m ∧ m ≤ 8)) := by
  unfold le_sized.f
  by_cases h : 1 ≤ m
  · rw [if_pos h]; simp [h]
  · rw [if_neg h]; simp [h]
theorem putS_succ (n i : Nat) : putS n (i + 1) = putS n i ++ strOfNums [(dig n i : Int)] := by
  apply ByteArray.ext
  apply Array.ext'
  simp [putS, putL, strOfNums, List.range_succ]
theorem rput_loop (n m : Nat) (hn : n < 18446744073709551616) (hm : m ≤ 8) : ∀ (d i : Nat), i + d = m →
    Ev (fun k => turnbuckleref01_Put.l0 k ((n / 256 ^ i : Nat) : Int) m (putS n i) i) (putS n m) := by
  intro d
  induction d with
  | zero =>
    intro i hi
    refine Ev.step (f := fun _ => some (putS n m)) (fun k => ?_) (Ev.now _)
    simp only [turnbuckleref01_Put.l0]
    obtain rfl : i = m := by omega
    rw [if_neg (by omega)]
  | succ d ih =>
    intro i hi
    refine Ev.step (fun k => ?_) (ih (i + 1) (by omega))
    have h1 : n / 256 ^ i < 18446744073709551616 := Nat.lt_of_le_of_lt (Nat.div_le_self _ _) hn
    have h2 : Int.tdiv ((n / 256 ^ i : Nat) : Int) 256 = ((n / 256 ^ (i + 1) : Nat) : Int) := by
      rw [Nat.pow_succ, ← Nat.div_div_eq_div_mul]; rfl
    have h3 : n / 256 ^ (i + 1) < 18446744073709551616 := Nat.lt_of_le_of_lt (Nat.div_le_self _ _) hn
    have h4 : (Int.tmod ((n / 256 ^ i : Nat) : Int) 256) % 256 = (dig n i : Int) := by
      have : Int.tmod ((n / 256 ^ i : Nat) : Int) 256 = ((n / 256 ^ i % 256 : Nat) : Int) := rfl
      rw [this, dig]; omega
    generalize n / 256 ^ (i + 1) = q at h2 h3 ⊢
    generalize n / 256 ^ i = p at h1 h2 h4 ⊢
    simp only [turnbuckleref01_Put.l0]
    rw [if_pos (by omega), if_pos (by omega)]
    simp only [Option.bind_some]
    rw [if_pos (by simp [putS, strOfNums_size, putL]; omega), h2, h4, u64w (by omega) (by omega), w64 (by omega) (by omega), ← putS_succ]
    rfl
theorem rput_ev (n : Nat) (m : Int) (hn : n < 18446744073709551616) : Ev (fun k => turnbuckleref01_Put.f k n m) (putF n m) := by
  unfold turnbuckleref01_Put.f putF
  by_cases h : 1 ≤ m ∧ m ≤ 8
  · obtain ⟨j, rfl⟩ : ∃ j : Nat, m = j := ⟨m.toNat, by omega⟩
    rw [if_pos h]
    have h0 := rput_loop n j hn (by omega) j 0 (by omega)
    simp only [Nat.pow_zero, Nat.div_one] at h0
    exact h0
  · rw [if_neg h]
    refine Ev.step (f := fun _ => some ⟨#[]⟩) (fun k => ?_) (Ev.now _)
    simp only [turnbuckleref01_Put.l0]
    by_cases h1 : 0 < m
    · rw [if_pos h1, if_neg (by omega)]
    · rw [if_neg h1]

theorem rget_loop (s : ByteArray) (hs : s.size ≤ 8) : ∀ d : Nat, d ≤ s.size → Ev (fun k => turnbuckleref01_Get.l0 k s (getL ((bl s).drop d) : Nat) (d : Int)) (getL (bl s) : Nat) := by
  intro d
  induction d with
  | zero =>
    intro _
    refine Ev.step (f := fun _ => some (((getL (bl s) : Nat)) : Int)) (fun k => ?_) (Ev.now _)
    simp only [turnbuckleref01_Get.l0, List.drop_zero]
    rw [if_neg (by omega)]
  | succ d ih =>
    intro hd
    have hlt : getL ((bl s).drop (d + 1)) < 256 ^ 7 := by
      refine Nat.lt_of_lt_of_le (getL_lt _ (fun b hb => bl_lt s b (List.mem_of_mem_drop hb))) ?_
      rw [List.length_drop, bl_length]
      exact Nat.pow_le_pow_right (by omega) (by omega)
    have hb := bl_lt s _ (List.getElem_mem (l := bl s) (n := d) (by rw [bl_length]; omega))
    refine Ev.step (fun k => ?_) (ih (by omega))
    have e1 : ((d + 1 : Nat) : Int) - 1 = (d : Int) := by omega
    simp only [turnbuckleref01_Get.l0]
    rw [if_pos (by omega), if_pos (by omega), e1, w64 (x := (d : Int)) (by omega) (by omega), if_pos (by omega), if_pos (by omega), bt_bl s d (by omega)]
    congr 1
    generalize hB : (bl s)[d]'(by rw [bl_length]; omega) = B at hb
    rw [u64w (x := (B : Int)) (by omega) (by omega), u64w (x := 256 * _) (by omega) (by omega), u64w (by omega) (by omega)]
    rw [List.drop_eq_getElem_cons (i := d) (by rw [bl_length]; omega), hB]
    simp only [getL, List.foldr_cons]
    omega
theorem rget_ev (s : ByteArray) (hs0 : s.size ≤ 140737488351232) : Ev (fun k => turnbuckleref01_Get.f k s) (getS s : Nat) := by
  unfold turnbuckleref01_Get.f getS
  by_cases h : s.size ≤ 8
  · have h0 := rget_loop s h s.size (Nat.le_refl _)
    rw [List.drop_of_length_le (by rw [bl_length]; exact Nat.le_refl _)] at h0
    rw [if_pos h]
    exact h0
  · rw [if_neg h]
    refine Ev.step (f := fun _ => some 0) (fun k => ?_) (Ev.now _)
    simp only [turnbuckleref01_Get.l0]
    rw [if_pos (by omega), if_neg (by omega)]

def finT (s : ByteArray) (at_ : Nat) (most : Int) (j : Nat) : ByteArray × Bool :=
  if 0 ≤ Lib.indexByte (s.data.toList.drop j) 0 then
    (if (j : Int) + Lib.indexByte (s.data.toList.drop j) 0 - at_ > most then (⟨#[]⟩, false) else (s.extract at_ (j + (Lib.indexByte (s.data.toList.drop j) 0).toNat), true))
  else (⟨#[]⟩, false)
/-- le.Text. -/
def textF (s : ByteArray) (at_ : Nat) (most : Int) : ByteArray × Bool := if s.size < at_ then (⟨#[]⟩, false) else finT s at_ most at_

theorem indexByte_range (l : List UInt8) (c : UInt8) : -1 ≤ Lib.indexByte l c ∧ Lib.indexByte l c < l.length := by
  induction l with
  | nil => simp [Lib.indexByte]
  | cons b l ih => simp only [Lib.indexByte, List.length_cons]; split <;> (try split) <;> omega
theorem extract_toList (s : ByteArray) (i j : Nat) : (s.extract i j).data.toList = (s.data.toList.drop i).take (j - i) := by simp
theorem extract_to_end (s : ByteArray) (i : Nat) : (s.extract i s.size).data.toList = s.data.toList.drop i := by
  rw [extract_toList, List.take_of_length_le (by simp)]
theorem text_eq (s : ByteArray) (at_ : Nat) (most : Int) (hs : s.size ≤ 140737488351232) : le_Text.f s at_ most = some (textF s at_ most) := by
  unfold le_Text.f textF
  rw [u64w (x := (s.size : Int)) (by omega) (by omega)]
  by_cases h : s.size < at_
  · rw [if_pos (by omega), if_pos h]
  · rw [if_neg (by omega), if_neg h, if_pos (by omega), if_pos (by omega), Int.toNat_natCast]
    have h1 : (s.extract at_ s.size).size ≤ 140737488351232 := by rw [ByteArray.size_extract]; omega
    have hr := indexByte_range (s.data.toList.drop at_) 0
    have hl : (s.data.toList.drop at_).length = s.size - at_ := by simp
    unfold strings_Cut.f finT
    rw [dif_pos ⟨rfl, h1⟩]
    simp only [Option.bind_some, Go.Proofs.YtoaliamemkjfhaaCut.cut1, extract_to_end]
    have e0 : ((⟨#[0]⟩ : ByteArray)[0]) = 0 := rfl
    rw [e0]
    by_cases h2 : 0 ≤ Lib.indexByte (s.data.toList.drop at_) 0
    · rw [if_pos h2, if_pos h2]
      simp only [if_true]
      generalize Lib.indexByte (s.data.toList.drop at_) 0 = i at hr h2
      obtain ⟨j, rfl⟩ := Int.eq_ofNat_of_zero_le h2
      have h3 : ((s.extract at_ s.size).extract 0 (j : Int).toNat).size = j := by simp only [ByteArray.size_extract, Int.toNat_natCast]; omega
      rw [h3]
      by_cases h4 : (j : Int) > most
      · rw [if_pos h4, if_pos (by omega)]
      · rw [if_neg h4, if_neg (by omega)]
        congr 2
        apply ByteArray.ext
        apply Array.ext'
        simp only [extract_toList, Int.toNat_natCast]
        rw [List.drop_zero, Nat.sub_zero, List.take_take]
        congr 1
        omega
    · rw [if_neg h2, if_neg h2]
      simp
theorem rtext_loop (s : ByteArray) (at_ : Nat) (most : Int) (hs : s.size ≤ 140737488351232) (ha : at_ ≤ s.size) : ∀ (d j : Nat), j + d = s.size → at_ ≤ j →
    Ev (fun k => turnbuckleref01_Text.l0 k s at_ most j) (finT s at_ most j) := by
  intro d
  induction d with
  | zero =>
    intro j hj hj2
    refine Ev.step (f := fun _ => some (finT s at_ most j)) (fun k => ?_) (Ev.now _)
    simp only [turnbuckleref01_Text.l0]
    rw [if_neg (by omega), finT, List.drop_of_length_le (by simp; omega), if_neg (by simp [Lib.indexByte])]
  | succ d ih =>
    intro j hj hj2
    have hlt : j < s.data.toList.length := by simp; omega
    have hd := List.drop_eq_getElem_cons hlt
    have hb : bt s j = ((s.data.toList[j].toNat : Nat) : Int) := by
      rw [bt_bl s j (by omega)]
      simp [bl]
    by_cases hz : s.data.toList[j] = 0
    · refine Ev.step (f := fun _ => some (finT s at_ most j)) (fun k => ?_) (Ev.now _)
      simp only [turnbuckleref01_Text.l0]
      rw [if_pos (by omega), if_pos (by omega), if_pos (by rw [hb, hz]; rfl), w64 (x := (at_ : Int)) (by omega) (by omega), w64 (x := (j : Int) - at_) (by omega) (by omega), finT, hd]
      have e : Lib.indexByte (s.data.toList[j] :: s.data.toList.drop (j + 1)) 0 = 0 := by simp [Lib.indexByte, hz]
      rw [e]
      simp only [Int.le_refl, if_true, Int.add_zero, Int.toNat_zero, Nat.add_zero, Int.toNat_natCast]
      by_cases h4 : (j : Int) - at_ > most
      · rw [if_pos h4, if_pos h4]
      · rw [if_neg h4, if_neg h4, if_pos (by omega), if_pos (by omega), if_pos (by omega)]
    · have hr := indexByte_range (s.data.toList.drop (j + 1)) 0
      have e2 : finT s at_ most j = finT s at_ most (j + 1) := by
        have e : Lib.indexByte (s.data.toList[j] :: s.data.toList.drop (j + 1)) 0 = if Lib.indexByte (s.data.toList.drop (j + 1)) 0 == -1 then -1 else Lib.indexByte (s.data.toList.drop (j + 1)) 0 + 1 := by
          simp only [Lib.indexByte]
          rw [if_neg (by rw [beq_iff_eq]; exact hz)]
        unfold finT
        rw [hd, e]
        generalize Lib.indexByte (s.data.toList.drop (j + 1)) 0 = i at hr
        by_cases h5 : i = -1
        · subst h5; simp
        · have h6 : (i == -1) = false := by simpa using h5
          simp only [h6, Bool.false_eq_true, if_false]
          rw [if_pos (show 0 ≤ i + 1 by omega), if_pos (show 0 ≤ i by omega)]
          have e3 : (j : Int) + (i + 1) - at_ = ((j + 1 : Nat) : Int) + i - at_ := by omega
          have e4 : j + (i + 1).toNat = j + 1 + i.toNat := by omega
          rw [e3, e4]
      rw [e2]
      refine Ev.step (fun k => ?_) (ih (j + 1) (by omega) (by omega))
      simp only [turnbuckleref01_Text.l0]
      have hnz : ¬ bt s j = 0 := by
        rw [hb]
        intro e
        apply hz
        have : s.data.toList[j].toNat = 0 := by omega
        exact UInt8.toNat_inj.1 this
      rw [if_pos (by omega), if_pos (by omega), if_neg hnz, w64 (by omega) (by omega)]
      rfl
theorem rtext_ev (s : ByteArray) (at_ : Nat) (most : Int) (hs : s.size ≤ 140737488351232) : Ev (fun k => turnbuckleref01_Text.f k s at_ most) (textF s at_ most) := by
  unfold turnbuckleref01_Text.f textF
  rw [u64w (x := (s.size : Int)) (by omega) (by omega)]
  by_cases h : s.size < at_
  · rw [if_pos h]
    refine Ev.congr (fun k => ?_) (Ev.now _)
    rw [if_pos (by omega)]
  · rw [if_neg h]
    refine Ev.congr (fun k => ?_) (rtext_loop s at_ most hs (by omega) (s.size - at_) at_ (by omega) (Nat.le_refl _))
    rw [if_neg (by omega), w64 (by omega) (by omega)]

/-- le.Part. -/
def partF (s : ByteArray) (at_ n : Nat) : ByteArray × Bool := if at_ + n ≤ s.size then (s.extract at_ (at_ + n), true) else (⟨#[]⟩, false)
theorem part_eq (s : ByteArray) (at_ n : Nat) (hs : s.size ≤ 140737488351232) (ha : at_ < 18446744073709551616) (hn : n < 18446744073709551616) : le_Part.f s at_ n = some (partF s at_ n) := by
  unfold le_Part.f partF
  rw [u64w (x := (s.size : Int)) (by omega) (by omega)]
  by_cases h : at_ ≤ s.size
  · rw [if_neg (by omega), u64w (x := (s.size : Int) - at_) (by omega) (by omega)]
    by_cases h2 : at_ + n ≤ s.size
    · rw [if_neg (by omega), if_pos (by omega), u64w (x := (at_ : Int) + n) (by omega) (by omega), if_pos (by omega), if_pos (by omega), if_pos h2]
      congr 2
    · rw [if_pos (by omega), if_neg h2]
  · rw [if_pos (by omega), if_neg (by omega)]
/-- le.At. -/
def atF (s : ByteArray) (at_ : Nat) (size : Int) : Nat × Bool :=
  if 1 ≤ size ∧ size ≤ 8 ∧ at_ + size.toNat ≤ s.size then (getS (s.extract at_ (at_ + size.toNat)), true) else (0, false)
theorem at_ev (s : ByteArray) (at_ : Nat) (size : Int) (hs : s.size ≤ 140737488351232) (ha : at_ < 18446744073709551616) : Ev (fun k => le_At.f k s at_ size) (((atF s at_ size).1 : Nat), (atF s at_ size).2) := by
  unfold atF
  by_cases h : 1 ≤ size ∧ size ≤ 8
  · obtain ⟨n, rfl⟩ : ∃ n : Nat, size = n := ⟨size.toNat, by omega⟩
    have hp := part_eq s at_ n hs ha (by omega)
    have hg := get_ev (partF s at_ n).1
    refine Ev.congr (fun k => ?_) (Ev.bind (f := fun _ t => some (t, (partF s at_ n).2)) hg ?_)
    · simp only [le_At.f, sized_eq, Option.bind_some, h, and_self, decide_true, if_true]
      rw [u64w (by omega) (by omega), hp]
      rfl
    · refine Ev.congr (fun k => ?_) (Ev.now _)
      unfold partF
      by_cases h2 : at_ + n ≤ s.size
      · rw [if_pos h2, if_pos (by omega), Int.toNat_natCast]
      · rw [if_neg h2, if_neg (by omega)]
        rfl
  · refine Ev.congr (f := fun _ => some (0, false)) (fun k => ?_) ?_
    · simp only [le_At.f, sized_eq, Option.bind_some, h, decide_false, Bool.false_eq_true, if_false]
    · rw [if_neg (by omega)]; exact Ev.now _
theorem u64_bounds {x : Int} (h : (Lit.int .u64 x).wf = true) : 0 ≤ x ∧ x < 18446744073709551616 := by
  simp [Lit.wf, IntKind.min, IntKind.max, IntKind.signed, IntKind.bits] at h; omega
theorem i64_bounds {x : Int} (h : (Lit.int .i64 x).wf = true) : -9223372036854775808 ≤ x ∧ x < 9223372036854775808 := by
  simp [Lit.wf, IntKind.min, IntKind.max, IntKind.signed, IntKind.bits] at h; omega
theorem putF_size (n : Nat) (m : Int) : (putF n m).size = if 1 ≤ m ∧ m ≤ 8 then m.toNat else 0 := by
  unfold putF
  split
  · rw [putS, strOfNums_size, putL_length]
  · rfl
theorem getL_append (l : List Nat) (x : Nat) : getL (l ++ [x]) = getL l + 256 ^ l.length * x := by
  induction l with
  | nil => simp [getL]
  | cons b l ih =>
    have h : getL (b :: l ++ [x]) = b + 256 * getL (l ++ [x]) := rfl
    have h2 : getL (b :: l) = b + 256 * getL l := rfl
    rw [h, ih, h2, List.length_cons, Nat.pow_succ, Nat.mul_add, Nat.add_assoc, Nat.mul_comm (256 ^ l.length) 256, Nat.mul_assoc]
theorem getL_putL (n : Nat) : ∀ m, getL ((List.range m).map (dig n)) = n % 256 ^ m := by
  intro m
  induction m with
  | zero => simp [getL, Nat.mod_one]
  | succ m ih =>
    rw [List.range_succ, List.map_append, List.map_singleton, getL_append, ih, List.length_map, List.length_range, Nat.pow_succ, Nat.mod_mul]
    rfl
theorem bl_putS (n m : Nat) : bl (putS n m) = (List.range m).map (dig n) := by
  simp only [bl, putS, strOfNums, putL, List.map_map]
  refine List.map_congr_left fun i _ => ?_
  have h : dig n i < 256 := Nat.mod_lt _ (by omega)
  simp only [Function.comp, Int.toNat_natCast, UInt8.toNat_ofNat']
  omega
theorem get_putF (n : Nat) (m : Int) (h : 1 ≤ m ∧ m ≤ 8) : getS (putF n m) = n % 256 ^ m.toNat := by
  have h1 : putF n m = putS n m.toNat := if_pos h
  have h2 : (putS n m.toNat).size = m.toNat := by rw [putS, strOfNums_size, putL_length]
  rw [h1, getS, if_pos (by omega), bl_putS, getL_putL]
theorem get_put8 (n : Nat) (hn : n < 18446744073709551616) : getS (putF n 8) = n := by
  rw [get_putF n 8 (by omega)]
  exact Nat.mod_eq_of_lt hn
end Go.Proofs.Ytoaliamemkjfhaa.NiceN
