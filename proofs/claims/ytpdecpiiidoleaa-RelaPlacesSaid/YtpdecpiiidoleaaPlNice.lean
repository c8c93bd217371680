/-
  What the functions of layer 1 compute, in plain words: numbers and texts in bytes.
-/
import Derived.Test.YtpdecpiiidoleaaPPlx3
import Derived.Test.YtpdecpiiidoleaaPPlx4
import Derived.Test.YtpdecpiiidoleaaPPlx5
import Derived.Laws.Bits64b
namespace Go.Proofs.Ytpdecpiiidoleaa.PNice
open Go Go.RowKit Go.Proofs.Ytpdecpiiidoleaa.PPl Go.Proofs.YtpdecpiiidoleaaW.PrintWords Go.Proofs.YtpdecpiiidoleaaW.PrintLast Go.Proofs.YtpdecpiiidoleaaW.PrintMore
set_option linter.unusedVariables false

theorem u64w {x : Int} (h0 : 0 ≤ x) (h1 : x < 18446744073709551616) : IntKind.u64.wrap x = x := by
  rw [IntKind.wrap_u64]; omega
theorem w64 {x : Int} (h0 : -9223372036854775808 ≤ x) (h1 : x < 9223372036854775808) : wrap64 x = x := by
  unfold wrap64; omega

/-- A number's byte i. -/
def dig (n i : Nat) : Nat := n / 256 ^ i % 256
def putL (n m : Nat) : List Int := (List.range m).map fun i => (dig n i : Int)
def putS (n m : Nat) : ByteArray := strOfNums (putL n m)
def getL (l : List Nat) : Nat := l.foldr (fun b r => b + 256 * r) 0
def bl (s : ByteArray) : List Nat := s.data.toList.map UInt8.toNat
def getS (s : ByteArray) : Nat := if s.size ≤ 8 then getL (bl s) else 0

theorem bl_length (s : ByteArray) : (bl s).length = s.size := by simp [bl]
theorem bl_lt (s : ByteArray) : ∀ b ∈ bl s, b < 256 := by
  intro b hb
  simp only [bl, List.mem_map] at hb
  obtain ⟨c, _, rfl⟩ := hb
  exact c.toNat_lt
theorem bt_bl (s : ByteArray) (i : Nat) (h : i < s.size) : bt s i = (((bl s)[i]'(by rw [bl_length]; exact h) : Nat) : Int) := by
  simp only [bt, Int.toNat_natCast, dif_pos h, bl, List.getElem_map]
  rfl
theorem getL_lt (l : List Nat) (h : ∀ b ∈ l, b < 256) : getL l < 256 ^ l.length := by
  induction l with
  | nil => simp [getL]
  | cons b l ih =>
    have h1 := ih (fun c hc => h c (List.mem_cons_of_mem _ hc))
    have h2 := h b List.mem_cons_self
    simp only [getL, List.foldr_cons, List.length_cons] at h1 ⊢
    rw [Nat.pow_succ]
    omega

theorem or_add (a b : Nat) (hb : b < 256) : (a * 256) ||| b = a * 256 + b := by
  have h := Nat.shiftLeft_add_eq_or_of_lt (i := 8) (b := b) hb a
  rw [Nat.shiftLeft_eq] at h
  exact h.symm

theorem get_loop (s : ByteArray) (hs : s.size ≤ 8) : ∀ d : Nat, d ≤ s.size → Ev (fun k => le_Get.l0 k s (getL ((bl s).drop d) : Nat) ((d : Int) - 1)) (getL (bl s) : Nat) := by
  intro d
  induction d with
  | zero =>
    intro _
    refine Ev.step (f := fun _ => some (((getL (bl s) : Nat)) : Int)) (fun k => ?_) (Ev.now _)
    simp only [le_Get.l0, List.drop_zero]
    rw [if_neg (by omega)]
  | succ d ih =>
    intro hd
    have hlt : getL ((bl s).drop (d + 1)) < 256 ^ 7 := by
      refine Nat.lt_of_lt_of_le (getL_lt _ (fun b hb => bl_lt s b (List.mem_of_mem_drop hb))) ?_
      rw [List.length_drop, bl_length]
      exact Nat.pow_le_pow_right (by omega) (by omega)
    have hb := bl_lt s _ (List.getElem_mem (l := bl s) (n := d) (by rw [bl_length]; omega))
    refine Ev.step (fun k => ?_) (ih (by omega))
    simp only [le_Get.l0]
    rw [if_pos (by omega), if_pos (by omega), if_pos (by omega)]
    have e1 : ((d + 1 : Nat) : Int) - 1 = (d : Int) := by omega
    rw [e1, bt_bl s d (by omega), w64 (x := (d : Int) - 1) (by omega) (by omega)]
    congr 1
    rw [u64w (by omega) (by omega), u64w (by omega) (by omega)]
    have e2 : (((getL ((bl s).drop (d + 1)) : Nat) : Int) * 256) = ((getL ((bl s).drop (d + 1)) * 256 : Nat) : Int) := by omega
    rw [e2, bits_or_u64_nat _ _ (by omega) (by omega), or_add _ _ hb]
    rw [List.drop_eq_getElem_cons (i := d) (by rw [bl_length]; omega)]
    simp only [getL, List.foldr_cons]
    congr 1
    omega

theorem get_ev (s : ByteArray) : Ev (fun k => le_Get.f k s) (getS s : Nat) := by
  unfold le_Get.f getS
  by_cases h : s.size ≤ 8
  · have h0 := get_loop s h s.size (Nat.le_refl _)
    rw [List.drop_of_length_le (by rw [bl_length]; exact Nat.le_refl _)] at h0
    rw [if_pos h]
    refine Ev.congr (fun k => ?_) h0
    rw [if_neg (by omega), w64 (by omega) (by omega)]
    rfl
  · rw [if_neg h]
    refine Ev.congr (f := fun _ => some 0) (fun k => ?_) (Ev.now _)
    rw [if_pos (by omega)]

theorem putL_length (n m : Nat) : (putL n m).length = m := by simp [putL]
theorem dig_pow (n i : Nat) : n / 2 ^ (8 * i) % 256 = dig n i := by
  rw [dig, Nat.pow_mul]
theorem put_loop (n m : Nat) (hn : n < 18446744073709551616) (hm : m ≤ 8) : ∀ (d i : Nat) (xs : List Int), i + d = m → xs.length = m → (∀ j, j < i → xs[j]? = some (dig n j : Int)) →
    Ev (fun k => le_Put.l0 k n xs m i) (putS n m) := by
  intro d
  induction d with
  | zero =>
    intro i xs hi hx hj
    refine Ev.step (f := fun _ => some (putS n m)) (fun k => ?_) (Ev.now _)
    simp only [le_Put.l0]
    rw [if_neg (by omega)]
    congr 2
    refine List.ext_getElem? fun j => ?_
    by_cases h : j < i
    · rw [hj j h, putL, List.getElem?_map, List.getElem?_range (by omega)]; rfl
    · rw [List.getElem?_eq_none (by omega), List.getElem?_eq_none (by rw [putL_length]; omega)]
  | succ d ih =>
    intro i xs hi hx hj
    have hg : shr .u64 (n : Int) (8 * (i : Int)) % 256 = (dig n i : Int) := by
      rw [shr, ← dig_pow]
      have e1 : min (8 * (i : Int)).toNat IntKind.u64.bits = 8 * i := by simp only [IntKind.bits]; omega
      rw [e1, Int.natCast_emod, Int.natCast_ediv, Int.natCast_pow]
      rfl
    refine Ev.step (fun k => ?_) (ih (i + 1) (xs.set i (dig n i : Int)) (by omega) (by rw [List.length_set]; exact hx) ?_)
    · simp only [le_Put.l0]
      rw [w64 (x := 8 * (i : Int)) (by omega) (by omega), if_pos (by omega), if_pos (by omega), if_pos (by omega), if_pos (by omega), w64 (by omega) (by omega), hg, Int.toNat_natCast]
      rfl
    · intro j h
      by_cases e : j = i
      · subst e
        rw [List.getElem?_set_self (by omega)]
      · rw [List.getElem?_set_ne (by omega)]
        exact hj j (by omega)

/-- le.Put. -/
def putF (n : Nat) (m : Int) : ByteArray := if 1 ≤ m ∧ m ≤ 8 then putS n m.toNat else ⟨#[]⟩
theorem sized_eq (m : Int) : le_sized.f m = some (decide (1 ≤ m ∧ m ≤ 8)) := by
  unfold le_sized.f
  by_cases h : 1 ≤ m
  · rw [if_pos h]; simp [h]
  · rw [if_neg h]; simp [h]
theorem put_ev (n : Nat) (m : Int) (hn : n < 18446744073709551616) : Ev (fun k => le_Put.f k n m) (putF n m) := by
  unfold putF
  by_cases h : 1 ≤ m ∧ m ≤ 8
  · obtain ⟨j, rfl⟩ : ∃ j : Nat, m = j := ⟨m.toNat, by omega⟩
    rw [if_pos h]
    refine Ev.congr (fun k => ?_) (put_loop n j hn (by omega) j 0 (List.replicate j 0) (by omega) (by simp) (fun i hi => by omega))
    simp only [le_Put.f, sized_eq, Option.bind_some, h, and_self, decide_true, if_true]
    rw [if_pos (by omega), if_pos (by omega), Int.toNat_natCast, List.length_replicate]
    rfl
  · rw [if_neg h]
    refine Ev.congr (f := fun _ => some ⟨#[]⟩) (fun k => ?_) (Ev.now _)
    simp only [le_Put.f, sized_eq, Option.bind_some, h, decide_false, Bool.false_eq_true, if_false]

theorem u64_bounds {x : Int} (h : (Lit.int .u64 x).wf = true) : 0 ≤ x ∧ x < 18446744073709551616 := by
  simp [Lit.wf, IntKind.min, IntKind.max, IntKind.signed, IntKind.bits] at h; omega
theorem i64_bounds {x : Int} (h : (Lit.int .i64 x).wf = true) : -9223372036854775808 ≤ x ∧ x < 9223372036854775808 := by
  simp [Lit.wf, IntKind.min, IntKind.max, IntKind.signed, IntKind.bits] at h; omega
theorem putF_size (n : Nat) (m : Int) : (putF n m).size = if 1 ≤ m ∧ m ≤ 8 then m.toNat else 0 := by
  unfold putF
  split
  · rw [putS, strOfNums_size, putL_length]
  · rfl
theorem getL_append (l : List Nat) (x : Nat) : getL (l ++ [x]) = getL l + 256 ^ l.length * x := by
  induction l with
  | nil => simp [getL]
  | cons b l ih =>
    have h : getL (b :: l ++ [x]) = b + 256 * getL (l ++ [x]) := rfl
    have h2 : getL (b :: l) = b + 256 * getL l := rfl
    rw [h, ih, h2, List.length_cons, Nat.pow_succ, Nat.mul_add, Nat.add_assoc, Nat.mul_comm (256 ^ l.length) 256, Nat.mul_assoc]
theorem getL_putL (n : Nat) : ∀ m, getL ((List.range m).map (dig n)) = n % 256 ^ m := by
  intro m
  induction m with
  | zero => simp [getL, Nat.mod_one]
  | succ m ih =>
    rw [List.range_succ, List.map_append, List.map_singleton, getL_append, ih, List.length_map, List.length_range, Nat.pow_succ, Nat.mod_mul]
    rfl
theorem bl_putS (n m : Nat) : bl (putS n m) = (List.range m).map (dig n) := by
  simp only [bl, putS, strOfNums, putL, List.map_map]
  refine List.map_congr_left fun i _ => ?_
  have h : dig n i < 256 := Nat.mod_lt _ (by omega)
  simp only [Function.comp, Int.toNat_natCast, UInt8.toNat_ofNat']
  omega
theorem get_putF (n : Nat) (m : Int) (h : 1 ≤ m ∧ m ≤ 8) : getS (putF n m) = n % 256 ^ m.toNat := by
  have h1 : putF n m = putS n m.toNat := if_pos h
  have h2 : (putS n m.toNat).size = m.toNat := by rw [putS, strOfNums_size, putL_length]
  rw [h1, getS, if_pos (by omega), bl_putS, getL_putL]
theorem get_put8 (n : Nat) (hn : n < 18446744073709551616) : getS (putF n 8) = n := by
  rw [get_putF n 8 (by omega)]
  exact Nat.mod_eq_of_lt hn
end Go.Proofs.Ytpdecpiiidoleaa.PNice
