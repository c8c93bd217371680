/-
  What the functions of layer 1 compute, in plain words: numbers and texts in bytes.
-/
import Derived.Test.YtmekjomfdomogaaPRdx12
import Derived.Test.YtmekjomfdomogaaPRdx13
import Derived.Test.YtmekjomfdomogaaPRdx14
import Derived.Laws.Bits64b
namespace Go.Proofs.Ytmekjomfdomogaa.NiceR
open Go Go.RowKit Go.Proofs.Ytmekjomfdomogaa.PRd Go.Proofs.YtmekjomfdomogaaW.PrintWords Go.Proofs.YtmekjomfdomogaaW.PrintLast Go.Proofs.YtmekjomfdomogaaW.PrintMore
set_option linter.unusedVariables false

theorem u64w {x : Int} (h0 : 0 ≤ x) (h1 : x < 18446744073709551616) : IntKind.u64.wrap x = x := by
  rw [IntKind.wrap_u64]; omega
theorem w64 {x : Int} (h0 : -9223372036854775808 ≤ x) (h1 : x < 9223372036854775808) : wrap64 x = x := by
  unfold wrap64; omega

/-- A number's byte i. -/
def dig (n i : Nat) : Nat := n / 256 ^ i % 256
def putL (n m : Nat) : List Int := (List.range m).map fun i => (dig n i : Int)
def putS (n m : Nat) : ByteArray := strOfNums (putL n m)
def getL (l : List Nat) : Nat := l.foldr (fun b r => b + 256 * r) 0
def bl (s : ByteArray) : List Nat := s.data.toList.map UInt8.toNat
def getS (s : ByteArray) : Nat := if s.size ≤ 8 then getL (bl s) else 0

theorem bl_length (s : ByteArray) : (bl s).length = s.size := by simp [bl]
theorem bl_lt (s : ByteArray) : ∀ b ∈ bl s, b < 256 := by
  intro b hb
  simp only [bl, List.mem_map] at hb
  obtain ⟨c, _, rfl⟩ := hb
  exact c.toNat_lt
theorem bt_bl (s : ByteArray) (i : Nat) (h : i < s.size) : bt s i = (((bl s)[i]'(by rw [bl_length]; exact h) : Nat) : Int) := by
  simp only [bt, Int.toNat_natCast, dif_pos h, bl, List.getElem_map]
  rfl
theorem getL_lt (l : List Nat) (h : ∀ b ∈ l, b < 256) : getL l < 256 ^ l.length := by
  induction l with
  | nil => simp [getL]
  | cons b l ih =>
    have h1 := ih (fun c hc => h c (List.mem_cons_of_mem _ hc))
    have h2 := h b List.mem_cons_self
    simp only [getL, List.foldr_cons, List.length_cons] at h1 ⊢
    rw [Nat.pow_succ]
    omega

theorem or_add (a b : Nat) (hb : b < 256) : (a * 256) ||| b = a * 256 + b := by
  have h := Nat.shiftLeft_add_eq_or_of_lt (i := 8) (b := b) hb a
  rw [Nat.shiftLeft_eq] at h
  exact h.symm

theorem get_loop (s : ByteArray) (hs : s.size ≤ 8) : ∀ d : Nat, d ≤ s.size → Ev (fun k => le_Get.l0 k s (getL ((bl s).drop d) : Nat) ((d : Int) - 1)) (getL (bl s) : Nat) := by
  intro d
  induction d with
  | zero =>
    intro _
    refine Ev.step (f := fun _ => some (((getL (bl s) : Nat)) : Int)) (fun k => ?_) (Ev.now _)
    simp only [le_Get.l0, List.drop_zero]
    rw [if_neg (by omega)]
  | succ d ih =>
    intro hd
    have hlt : getL ((bl s).drop (d + 1)) < 256 ^ 7 := by
      refine Nat.lt_of_lt_of_le (getL_lt _ (fun b hb => bl_lt s b (List.mem_of_mem_drop hb))) ?_
      rw [List.length_drop, bl_length]
      exact Nat.pow_le_pow_right (by omega) (by omega)
    have hb := bl_lt s _ (List.getElem_mem (l := bl s) (n := d) (by rw [bl_length]; omega))
    refine Ev.step (fun k => ?_) (ih (by omega))
    simp only [le_Get.l0]
    rw [if_pos (by omega), if_pos (by omega), if_pos (by omega)]
    have e1 : ((d + 1 : Nat) : Int) - 1 = (d : Int) := by omega
    rw [e1, bt_bl s d (by omega), w64 (x := (d : Int) - 1) (by omega) (by omega)]
    congr 1
    rw [u64w (by omega) (by omega), u64w (by omega) (by omega)]
    have e2 : (((getL ((bl s).drop (d + 1)) : Nat) : Int) * 256) = ((getL ((bl s).drop (d + 1)) * 256 : Nat) : Int) := by omega
    rw [e2, bits_or_u64_nat _ _ (by omega) (by omega), or_add _ _ hb]
    rw [List.drop_eq_getElem_cons (i := d) (by rw [bl_length]; omega)]
    simp only [getL, List.foldr_cons]
    congr 1
    omega

theorem get_ev (s : ByteArray) : Ev (fun k => le_Get.f k s) (getS s : Nat) := by
  unfold le_Get.f getS
  by_cases h : s.size ≤ 8
  · have h0 := get_loop s h s.size (Nat.le_refl _)
    rw [List.drop_of_length_le (by rw [bl_length]; exact Nat.le_refl _)] at h0
    rw [if_pos h]
    refine Ev.congr (fun k => ?_) h0
    rw [if_neg (by omega), w64 (by omega) (by omega)]
    rfl
  · rw [if_neg h]
    refine Ev.congr (f := fun _ => some 0) (fun k => ?_) (Ev.now _)
    rw [if_pos (by omega)]

theorem putL_length (n m : Nat) : (putL n m).length = m := by simp [putL]
theorem dig_pow (n i : Nat) : n / 2 ^ (8 * i) % 256 = dig n i := by
  rw [dig, Nat.pow_mul]
theorem put_loop (n m : Nat) (hn : n < 18446744073709551616) (hm : m ≤ 8) : ∀ (d i : Nat) (xs : List Int), i + d = m → xs.length = m → (∀ j, j < i → xs[j]? = some (dig n j : Int)) →
    Ev (fun k => le_Put.l0 k n xs m i) (putS n m) := by
  intro d
  induction d with
  | zero =>
    intro i xs hi hx hj
    refine Ev.step (f := fun _ => some (putS n m)) (fun k => ?_) (Ev.now _)
    simp only [le_Put.l0]
    rw [if_neg (by omega)]
    congr 2
    refine List.ext_getElem? fun j => ?_
    by_cases h : j < i
    · rw [hj j h, putL, List.getElem?_map, List.getElem?_range (by omega)]; rfl
    · rw [List.getElem?_eq_none (by omega), List.getElem?_eq_none (by rw [putL_length]; omega)]
  | succ d ih =>
    intro i xs hi hx hj
    have hg : shr .u64 (n : Int) (8 * (i : Int)) % 256 = (dig n i : Int) := by
      rw [shr, ← dig_pow]
      have e1 : min (8 * (i : Int)).toNat IntKind.u64.bits = 8 * i := by simp only [IntKind.bits]; omega
      rw [e1, Int.natCast_emod, Int.natCast_ediv, Int.natCast_pow]
      rfl
    refine Ev.step (fun k => ?_) (ih (i + 1) (xs.set i (dig n i : Int)) (by omega) (by rw [List.length_set]; exact hx) ?_)
    · simp only [le_Put.l0]
      rw [w64 (x := 8 * (i : Int)) (by omega) (by omega), if_pos (by omega), if_pos (by omega), if_pos (by omega), if_pos (by omega), w64 (by omega) (by omega), hg, Int.toNat_natCast]
      rfl
    · intro j h
      by_cases e : j = i
      · subst e
        rw [List.getElem?_set_self (by omega)]
      · rw [List.getElem?_set_ne (by omega)]
        exact hj j (by omega)

/-- le.Put. -/
def putF (n : Nat) (m : Int) : ByteArray := if 1 ≤ m ∧ m ≤ 8 then putS n m.toNat else ⟨#[]⟩
theorem sized_eq (m : Int) : le_sized.f m = some (decide (1 ≤ m ∧ m ≤ 8)) := by
  unfold le_sized.f
  by_cases h : 1 ≤ m
  · rw [if_pos h]; simp [h]
  · rw [if_neg h]; simp [h]
theorem put_ev (n : Nat) (m : Int) (hn : n < 18446744073709551616) : Ev (fun k => le_Put.f k n m) (putF n m) := by
  unfold putF
  by_cases h : 1 ≤ m ∧ m ≤ 8
  · obtain ⟨j, rfl⟩ : ∃ j : Nat, m = j := ⟨m.toNat, by omega⟩
    rw [if_pos h]
    refine Ev.congr (fun k => ?_) (put_loop n j hn (by omega) j 0 (List.replicate j 0) (by omega) (by simp) (fun i hi => by omega))
    simp only [le_Put.f, sized_eq, Option.bind_some, h, and_self, decide_true, if_true]
    rw [if_pos (by omega), if_pos (by omega), Int.toNat_natCast, List.length_replicate]
    rfl
  · rw [if_neg h]
    refine Ev.congr (f := fun _ => some ⟨#[]⟩) (fun k => ?_) (Ev.now _)
    simp only [le_Put.f, sized_eq, Option.bind_some, h, decide_false, Bool.false_eq_true, if_false]

theorem rget_loop (s : ByteArray) (hs : s.size ≤ 8) : ∀ d : Nat, d ≤ s.size → Ev (fun k => turnbuckleref01_Get.l0 k s (getL ((bl s).drop d) : Nat) (d : Int)) (getL (bl s) : Nat) := by
  intro d
  induction d with
  | zero =>
    intro _
    refine Ev.step (f := fun _ => some (((getL (bl s) : Nat)) : Int)) (fun k => ?_) (Ev.now _)
    simp only [turnbuckleref01_Get.l0, List.drop_zero]
    rw [if_neg (by omega)]
  | succ d ih =>
    intro hd
    have hlt : getL ((bl s).drop (d + 1)) < 256 ^ 7 := by
      refine Nat.lt_of_lt_of_le (getL_lt _ (fun b hb => bl_lt s b (List.mem_of_mem_drop hb))) ?_
      rw [List.length_drop, bl_length]
      exact Nat.pow_le_pow_right (by omega) (by omega)
    have hb := bl_lt s _ (List.getElem_mem (l := bl s) (n := d) (by rw [bl_length]; omega))
    refine Ev.step (fun k => ?_) (ih (by omega))
    have e1 : ((d + 1 : Nat) : Int) - 1 = (d : Int) := by omega
    simp only [turnbuckleref01_Get.l0]
    rw [if_pos (by omega), if_pos (by omega), e1, w64 (x := (d : Int)) (by omega) (by omega), if_pos (by omega), if_pos (by omega), bt_bl s d (by omega)]
    congr 1
    generalize hB : (bl s)[d]'(by rw [bl_length]; omega) = B at hb
    rw [u64w (x := (B : Int)) (by omega) (by omega), u64w (x := 256 * _) (by omega) (by omega), u64w (by omega) (by omega)]
    rw [List.drop_eq_getElem_cons (i := d) (by rw [bl_length]; omega), hB]
    simp only [getL, List.foldr_cons]
    omega
theorem rget_ev (s : ByteArray) (hs0 : s.size ≤ 140737488351232) : Ev (fun k => turnbuckleref01_Get.f k s) (getS s : Nat) := by
  unfold turnbuckleref01_Get.f getS
  by_cases h : s.size ≤ 8
  · have h0 := rget_loop s h s.size (Nat.le_refl _)
    rw [List.drop_of_length_le (by rw [bl_length]; exact Nat.le_refl _)] at h0
    rw [if_pos h]
    exact h0
  · rw [if_neg h]
    refine Ev.step (f := fun _ => some 0) (fun k => ?_) (Ev.now _)
    simp only [turnbuckleref01_Get.l0]
    rw [if_pos (by omega), if_neg (by omega)]

def finT (s : ByteArray) (at_ : Nat) (most : Int) (j : Nat) : ByteArray × Bool :=
  if 0 ≤ Lib.indexByte (s.data.toList.drop j) 0 then
    (if (j : Int) + Lib.indexByte (s.data.toList.drop j) 0 - at_ > most then (⟨#[]⟩, false) else (s.extract at_ (j + (Lib.indexByte (s.data.toList.drop j) 0).toNat), true))
  else (⟨#[]⟩, false)
/-- le.Text. -/
def textF (s : ByteArray) (at_ : Nat) (most : Int) : ByteArray × Bool := if s.size < at_ then (⟨#[]⟩, false) else finT s at_ most at_

theorem indexByte_range (l : List UInt8) (c : UInt8) : -1 ≤ Lib.indexByte l c ∧ Lib.indexByte l c < l.length := by
  induction l with
  | nil => simp [Lib.indexByte]
  | cons b l ih => simp only [Lib.indexByte, List.length_cons]; split <;> (try split) <;> omega
theorem extract_toList (s : ByteArray) (i j : Nat) : (s.extract i j).data.toList = (s.data.toList.drop i).take (j - i) := by simp
theorem extract_to_end (s : ByteArray) (i : Nat) : (s.extract i s.size).data.toList = s.data.toList.drop i := by
  rw [extract_toList, List.take_of_length_le (by simp)]
theorem text_eq (s : ByteArray) (at_ : Nat) (most : Int) (hs : s.size ≤ 140737488351232) : le_Text.f s at_ most = some (textF s at_ most) := by
  unfold le_Text.f textF
  rw [u64w (x := (s.size : Int)) (by omega) (by omega)]
  by_cases h : s.size < at_
  · rw [if_pos (by omega), if_pos h]
  · rw [if_neg (by omega), if_neg h, if_pos (by omega), if_pos (by omega), Int.toNat_natCast]
    have h1 : (s.extract at_ s.size).size ≤ 140737488351232 := by rw [ByteArray.size_extract]; omega
    have hr := indexByte_range (s.data.toList.drop at_) 0
    have hl : (s.data.toList.drop at_).length = s.size - at_ := by simp
    unfold strings_Cut.f finT
    rw [dif_pos ⟨rfl, h1⟩]
    simp only [Option.bind_some, Go.Proofs.YtmekjomfdomogaaCut.cut1, extract_to_end]
    have e0 : ((⟨#[0]⟩ : ByteArray)[0]) = 0 := rfl
    rw [e0]
    by_cases h2 : 0 ≤ Lib.indexByte (s.data.toList.drop at_) 0
    · rw [if_pos h2, if_pos h2]
      simp only [if_true]
      generalize Lib.indexByte (s.data.toList.drop at_) 0 = i at hr h2
      obtain ⟨j, rfl⟩ := Int.eq_ofNat_of_zero_le h2
      have h3 : ((s.extract at_ s.size).extract 0 (j : Int).toNat).size = j := by simp only [ByteArray.size_extract, Int.toNat_natCast]; omega
      rw [h3]
      by_cases h4 : (j : Int) > most
      · rw [if_pos h4, if_pos (by omega)]
      · rw [if_neg h4, if_neg (by omega)]
        congr 2
        apply ByteArray.ext
        apply Array.ext'
        simp only [extract_toList, Int.toNat_natCast]
        rw [List.drop_zero, Nat.sub_zero, List.take_take]
        congr 1
        omega
    · rw [if_neg h2, if_neg h2]
      simp
theorem rtext_loop (s : ByteArray) (at_ : Nat) (most : Int) (hs : s.size ≤ 140737488351232) (ha : at_ ≤ s.size) : ∀ (d j : Nat), j + d = s.size → at_ ≤ j →
    Ev (fun k => turnbuckleref01_Text.l0 k s at_ most j) (finT s at_ most j) := by
  intro d
  induction d with
  | zero =>
    intro j hj hj2
    refine Ev.step (f := fun _ => some (finT s at_ most j)) (fun k => ?_) (Ev.now _)
    simp only [turnbuckleref01_Text.l0]
    rw [if_neg (by omega), finT, List.drop_of_length_le (by simp; omega), if_neg (by simp [Lib.indexByte])]
  | succ d ih =>
    intro j hj hj2
    have hlt : j < s.data.toList.length := by simp; omega
    have hd := List.drop_eq_getElem_cons hlt
    have hb : bt s j = ((s.data.toList[j].toNat : Nat) : Int) := by
      rw [bt_bl s j (by omega)]
      simp [bl]
    by_cases hz : s.data.toList[j] = 0
    · refine Ev.step (f := fun _ => some (finT s at_ most j)) (fun k => ?_) (Ev.now _)
      simp only [turnbuckleref01_Text.l0]
      rw [if_pos (by omega), if_pos (by omega), if_pos (by rw [hb, hz]; rfl), w64 (x := (at_ : Int)) (by omega) (by omega), w64 (x := (j : Int) - at_) (by omega) (by omega), finT, hd]
      have e : Lib.indexByte (s.data.toList[j] :: s.data.toList.drop (j + 1)) 0 = 0 := by simp [Lib.indexByte, hz]
      rw [e]
      simp only [Int.le_refl, if_true, Int.add_zero, Int.toNat_zero, Nat.add_zero, Int.toNat_natCast]
      by_cases h4 : (j : Int) - at_ > most
      · rw [if_pos h4, if_pos h4]
      · rw [if_neg h4, if_neg h4, if_pos (by omega), if_pos (by omega), if_pos (by omega)]
    · have hr := indexByte_range (s.data.toList.drop (j + 1)) 0
      have e2 : finT s at_ most j = finT s at_ most (j + 1) := by
        have e : Lib.indexByte (s.data.toList[j] :: s.data.toList.drop (j + 1)) 0 = if Lib.indexByte (s.data.toList.drop (j + 1)) 0 == -1 then -1 else Lib.indexByte (s.data.toList.drop (j + 1)) 0 + 1 := by
          simp only [Lib.indexByte]
          rw [if_neg (by rw [beq_iff_eq]; exact hz)]
        unfold finT
        rw [hd, e]
        generalize Lib.indexByte (s.data.toList.drop (j + 1)) 0 = i at hr
        by_cases h5 : i = -1
        · subst h5; simp
        · have h6 : (i == -1) = false := by simpa using h5
          simp only [h6, Bool.false_eq_true, if_false]
          rw [if_pos (show 0 ≤ i + 1 by omega), if_pos (show 0 ≤ i by omega)]
          have e3 : (j : Int) + (i + 1) - at_ = ((j + 1 : Nat) : Int) + i - at_ := by omega
          have e4 : j + (i + 1).toNat = j + 1 + i.toNat := by omega
          rw [e3, e4]
      rw [e2]
      refine Ev.step (fun k => ?_) (ih (j + 1) (by omega) (by omega))
      simp only [turnbuckleref01_Text.l0]
      have hnz : ¬ bt s j = 0 := by
        rw [hb]
        intro e
        apply hz
        have : s.data.toList[j].toNat = 0 := by omega
        exact UInt8.toNat_inj.1 this
      rw [if_pos (by omega), if_pos (by omega), if_neg hnz, w64 (by omega) (by omega)]
      rfl
theorem rtext_ev (s : ByteArray) (at_ : Nat) (most : Int) (hs : s.size ≤ 140737488351232) : Ev (fun k => turnbuckleref01_Text.f k s at_ most) (textF s at_ most) := by
  unfold turnbuckleref01_Text.f textF
  rw [u64w (x := (s.size : Int)) (by omega) (by omega)]
  by_cases h : s.size < at_
  · rw [if_pos h]
    refine Ev.congr (fun k => ?_) (Ev.now _)
    rw [if_pos (by omega)]
  · rw [if_neg h]
    refine Ev.congr (fun k => ?_) (rtext_loop s at_ most hs (by omega) (s.size - at_) at_ (by omega) (Nat.le_refl _))
    rw [if_neg (by omega), w64 (by omega) (by omega)]

theorem u64_bounds {x : Int} (h : (Lit.int .u64 x).wf = true) : 0 ≤ x ∧ x < 18446744073709551616 := by
  simp [Lit.wf, IntKind.min, IntKind.max, IntKind.signed, IntKind.bits] at h; omega
theorem i64_bounds {x : Int} (h : (Lit.int .i64 x).wf = true) : -9223372036854775808 ≤ x ∧ x < 9223372036854775808 := by
  simp [Lit.wf, IntKind.min, IntKind.max, IntKind.signed, IntKind.bits] at h; omega
theorem putF_size (n : Nat) (m : Int) : (putF n m).size = if 1 ≤ m ∧ m ≤ 8 then m.toNat else 0 := by
  unfold putF
  split
  · rw [putS, strOfNums_size, putL_length]
  · rfl
theorem getL_append (l : List Nat) (x : Nat) : getL (l ++ [x]) = getL l + 256 ^ l.length * x := by
  induction l with
  | nil => simp [getL]
  | cons b l ih =>
    have h : getL (b :: l ++ [x]) = b + 256 * getL (l ++ [x]) := rfl
    have h2 : getL (b :: l) = b + 256 * getL l := rfl
    rw [h, ih, h2, List.length_cons, Nat.pow_succ, Nat.mul_add, Nat.add_assoc, Nat.mul_comm (256 ^ l.length) 256, Nat.mul_assoc]
theorem getL_putL (n : Nat) : ∀ m, getL ((List.range m).map (dig n)) = n % 256 ^ m := by
  intro m
  induction m with
  | zero => simp [getL, Nat.mod_one]
  | succ m ih =>
    rw [List.range_succ, List.map_append, List.map_singleton, getL_append, ih, List.length_map, List.length_range, Nat.pow_succ, Nat.mod_mul]
    rfl
theorem bl_putS (n m : Nat) : bl (putS n m) = (List.range m).map (dig n) := by
  simp only [bl, putS, strOfNums, putL, List.map_map]
  refine List.map_congr_left fun i _ => ?_
  have h : dig n i < 256 := Nat.mod_lt _ (by omega)
  simp only [Function.comp, Int.toNat_natCast, UInt8.toNat_ofNat']
  omega
theorem get_putF (n : Nat) (m : Int) (h : 1 ≤ m ∧ m ≤ 8) : getS (putF n m) = n % 256 ^ m.toNat := by
  have h1 : putF n m = putS n m.toNat := if_pos h
  have h2 : (putS n m.toNat).size = m.toNat := by rw [putS, strOfNums_size, putL_length]
  rw [h1, getS, if_pos (by omega), bl_putS, getL_putL]
theorem get_put8 (n : Nat) (hn : n < 18446744073709551616) : getS (putF n 8) = n := by
  rw [get_putF n 8 (by omega)]
  exact Nat.mod_eq_of_lt hn
end Go.Proofs.Ytmekjomfdomogaa.NiceR
