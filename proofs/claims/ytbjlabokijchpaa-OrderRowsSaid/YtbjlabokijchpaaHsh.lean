/-
  The System V hash, as the code's and the document's steps make it.
-/
import Derived.Test.YtbjlabokijchpaaA14
import Derived.Laws.BitsLemmas
namespace Go.Proofs.YtbjlabokijchpaaA
set_option linter.unusedVariables false
open Go Go.RowKit
theorem wraps_u32 (n : Int) (h₀ : 0 ≤ n) (h₁ : n < 2 ^ 32) : IntKind.u32.wrap n = n := by rw [IntKind.wrap_u32]; omega
theorem xor32 (a b : Nat) (ha : a < 2 ^ 32) (hb : b < 2 ^ 32) : IntKind.u32.wrap (BitVec.ofInt IntKind.u32.bits (a : Int) ^^^ BitVec.ofInt IntKind.u32.bits (b : Int)).toNat = ((a ^^^ b : Nat) : Int) := by
  have ha' : a % 2 ^ IntKind.u32.bits = a := Nat.mod_eq_of_lt ha
  have hb' : b % 2 ^ IntKind.u32.bits = b := Nat.mod_eq_of_lt hb
  have hx := Nat.xor_lt_two_pow ha hb
  simp only [BitVec.ofInt_natCast, BitVec.toNat_xor, BitVec.toNat_ofNat, ha', hb']
  exact wraps_u32 _ (Int.natCast_nonneg _) (by exact_mod_cast hx)
theorem and32 (a b : Nat) (ha : a < 2 ^ 32) (hb : b < 2 ^ 32) : IntKind.u32.wrap (BitVec.ofInt IntKind.u32.bits (a : Int) &&& BitVec.ofInt IntKind.u32.bits (b : Int)).toNat = ((a &&& b : Nat) : Int) := by
  have ha' : a % 2 ^ IntKind.u32.bits = a := Nat.mod_eq_of_lt ha
  have hb' : b % 2 ^ IntKind.u32.bits = b := Nat.mod_eq_of_lt hb
  have hx : a &&& b < 2 ^ 32 := Nat.lt_of_le_of_lt Nat.and_le_left ha
  simp only [BitVec.ofInt_natCast, BitVec.toNat_and, BitVec.toNat_ofNat, ha', hb']
  exact wraps_u32 _ (Int.natCast_nonneg _) (by exact_mod_cast hx)
theorem andNot32 (a b : Nat) (ha : a < 2 ^ 32) (hb : b < 2 ^ 32) : IntKind.u32.wrap (BitVec.ofInt IntKind.u32.bits (a : Int) &&& ~~~BitVec.ofInt IntKind.u32.bits (b : Int)).toNat = ((a &&& (2 ^ 32 - (b + 1)) : Nat) : Int) := by
  have ha' : a % 2 ^ IntKind.u32.bits = a := Nat.mod_eq_of_lt ha
  have hb' : b % 2 ^ IntKind.u32.bits = b := Nat.mod_eq_of_lt hb
  have hx : a &&& (2 ^ 32 - (b + 1)) < 2 ^ 32 := Nat.lt_of_le_of_lt Nat.and_le_left ha
  simp only [BitVec.ofInt_natCast, BitVec.toNat_and, BitVec.toNat_not, BitVec.toNat_ofNat, ha', hb']
  have e : 2 ^ IntKind.u32.bits - 1 - b = 2 ^ 32 - (b + 1) := by show 2 ^ 32 - 1 - b = _; omega
  rw [e]
  exact wraps_u32 _ (Int.natCast_nonneg _) (by exact_mod_cast hx)
theorem xor64 (a b : Nat) (ha : a < 2 ^ 64) (hb : b < 2 ^ 64) : IntKind.u64.wrap (BitVec.ofInt IntKind.u64.bits (a : Int) ^^^ BitVec.ofInt IntKind.u64.bits (b : Int)).toNat = ((a ^^^ b : Nat) : Int) := by
  have ha' : a % 2 ^ IntKind.u64.bits = a := Nat.mod_eq_of_lt ha
  have hb' : b % 2 ^ IntKind.u64.bits = b := Nat.mod_eq_of_lt hb
  have hx := Nat.xor_lt_two_pow ha hb
  simp only [BitVec.ofInt_natCast, BitVec.toNat_xor, BitVec.toNat_ofNat, ha', hb']
  exact u64_in ⟨Int.natCast_nonneg _, by have : (2 : Int) ^ 64 = 18446744073709551616 := rfl; have : ((a ^^^ b : Nat) : Int) < 2 ^ 64 := by exact_mod_cast hx
                                         omega⟩
theorem and_top (A : Nat) (hA : A < 2 ^ 32) : A &&& 4026531840 = 2 ^ 28 * (A / 2 ^ 28) := by
  have e : 4026531840 = 2 ^ 28 * (2 ^ 4 - 1) := by decide
  rw [e]
  apply Nat.eq_of_testBit_eq
  intro i
  rw [Nat.testBit_and, Nat.testBit_two_pow_mul, Nat.testBit_two_pow_mul, Nat.testBit_two_pow_sub_one, Nat.testBit_div_two_pow]
  by_cases h : 28 ≤ i
  · rw [show i - 28 + 28 = i by omega]
    by_cases h2 : i < 32
    · simp [h, show i - 28 < 4 by omega]
    · have : A.testBit i = false := Nat.testBit_lt_two_pow (Nat.lt_of_lt_of_le hA (Nat.pow_le_pow_right (by decide) (by omega)))
      simp [this]
  · simp [h]
def stepF (h c : Nat) : Nat := (((16 * h + c) % 2 ^ 32) % 2 ^ 28) ^^^ (16 * (((16 * h + c) % 2 ^ 32) / 2 ^ 28))
theorem step_lt (h c : Nat) (hh : h < 2 ^ 28) (hc : c < 256) : stepF h c < 2 ^ 28 := by
  unfold stepF
  refine Nat.xor_lt_two_pow (Nat.mod_lt _ (by decide)) ?_
  omega
theorem clear_top (A : Nat) (hA : A < 2 ^ 32) : (A ^^^ (16 * (A / 2 ^ 28))) &&& (2 ^ 32 - (2 ^ 28 * (A / 2 ^ 28) + 1)) = (A % 2 ^ 28) ^^^ (16 * (A / 2 ^ 28)) := by
  have hg : 2 ^ 28 * (A / 2 ^ 28) < 2 ^ 32 := by omega
  have hS : 16 * (A / 2 ^ 28) < 2 ^ 8 := by omega
  apply Nat.eq_of_testBit_eq
  intro i
  rw [Nat.testBit_and, Nat.testBit_xor, Nat.testBit_two_pow_sub_succ hg, Nat.testBit_xor, Nat.testBit_mod_two_pow, Nat.testBit_two_pow_mul, Nat.testBit_div_two_pow]
  by_cases h : 28 ≤ i
  · have hs : (16 * (A / 2 ^ 28)).testBit i = false := Nat.testBit_lt_two_pow (Nat.lt_of_lt_of_le hS (Nat.pow_le_pow_right (by decide) (by omega)))
    rw [hs, show i - 28 + 28 = i by omega]
    simp [h]
    cases A.testBit i <;> simp [h]
  · have h' : i < 32 := by omega
    simp [h, h']
    omega
theorem low_form (L G : Nat) (hG : G < 16) : L / 256 * 256 + ((L % 256) ^^^ (16 * G)) % 256 = L ^^^ (16 * G) := by
  have h1 : (L ^^^ (16 * G)) / 2 ^ 8 = L / 2 ^ 8 := by
    rw [Nat.xor_div_two_pow, show 16 * G / 2 ^ 8 = 0 by omega, Nat.xor_zero]
  have h2 : (L ^^^ (16 * G)) % 2 ^ 8 = ((L % 256) ^^^ (16 * G)) % 256 := by
    rw [Nat.xor_mod_two_pow]
    show _ = ((L % 2 ^ 8) ^^^ (16 * G)) % 2 ^ 8
    rw [Nat.xor_mod_two_pow, Nat.mod_mod]
  have h3 := Nat.div_add_mod (L ^^^ (16 * G)) (2 ^ 8)
  rw [h1, h2] at h3
  rw [← h3]
  omega
def hashN (s : ByteArray) (i : Nat) : Nat := (s.data.toList.take i).foldl (fun h c => stepF h c.toNat) 0
def hash (s : ByteArray) : Nat := hashN s s.size
theorem hashN_succ (s : ByteArray) (i : Nat) (h : i < s.size) : hashN s (i + 1) = stepF (hashN s i) s[i].toNat := by
  unfold hashN
  rw [List.take_succ_eq_append_getElem (by simpa using h), List.foldl_append]
  rfl
theorem hashN_lt (s : ByteArray) : ∀ i, hashN s i < 2 ^ 28 := by
  intro i
  unfold hashN
  have key : ∀ (l : List UInt8) (a : Nat), a < 2 ^ 28 → l.foldl (fun h c => stepF h c.toNat) a < 2 ^ 28 := by
    intro l
    induction l with
    | nil => intro a h; exact h
    | cons c l ih => intro a h; exact ih _ (step_lt _ _ h c.toNat_lt)
  exact key _ _ (by decide)
theorem hash_lt (s : ByteArray) : hash s < 2 ^ 28 := hashN_lt s _
/-- The code's step. -/
theorem vstep (h c : Nat) (hh : h < 2 ^ 28) (hc : c < 256) :
    IntKind.u32.wrap (BitVec.ofInt IntKind.u32.bits (IntKind.u32.wrap (BitVec.ofInt IntKind.u32.bits (IntKind.u32.wrap (IntKind.u32.wrap ((h : Int) * 2 ^ (min (4 : Int).toNat IntKind.u32.bits)) + IntKind.u32.wrap (c : Int))) ^^^
      BitVec.ofInt IntKind.u32.bits (Int.fdiv (IntKind.u32.wrap (BitVec.ofInt IntKind.u32.bits (IntKind.u32.wrap (IntKind.u32.wrap ((h : Int) * 2 ^ (min (4 : Int).toNat IntKind.u32.bits)) + IntKind.u32.wrap (c : Int))) &&& BitVec.ofInt IntKind.u32.bits 4026531840).toNat) (2 ^ (min (24 : Int).toNat IntKind.u32.bits)))).toNat) &&&
      ~~~BitVec.ofInt IntKind.u32.bits (IntKind.u32.wrap (BitVec.ofInt IntKind.u32.bits (IntKind.u32.wrap (IntKind.u32.wrap ((h : Int) * 2 ^ (min (4 : Int).toNat IntKind.u32.bits)) + IntKind.u32.wrap (c : Int))) &&& BitVec.ofInt IntKind.u32.bits 4026531840).toNat)).toNat = ((stepF h c : Nat) : Int) := by
  obtain ⟨A, hA⟩ : ∃ A, (16 * h + c) % 2 ^ 32 = A := ⟨_, rfl⟩
  have hA32 : A < 2 ^ 32 := by omega
  have e : IntKind.u32.wrap (IntKind.u32.wrap ((h : Int) * 2 ^ (min (4 : Int).toNat IntKind.u32.bits)) + IntKind.u32.wrap (c : Int)) = (A : Int) := by
    rw [show (min (4 : Int).toNat IntKind.u32.bits) = 4 from rfl, IntKind.wrap_u32, IntKind.wrap_u32, IntKind.wrap_u32]
    omega
  have e2 : IntKind.u32.wrap (BitVec.ofInt IntKind.u32.bits (A : Int) &&& BitVec.ofInt IntKind.u32.bits 4026531840).toNat = ((2 ^ 28 * (A / 2 ^ 28) : Nat) : Int) := by
    rw [← and_top A hA32]
    exact and32 A 4026531840 hA32 (by decide)
  have e3 : Int.fdiv ((2 ^ 28 * (A / 2 ^ 28) : Nat) : Int) (2 ^ (min (24 : Int).toNat IntKind.u32.bits)) = ((16 * (A / 2 ^ 28) : Nat) : Int) := by
    rw [show ((2 : Int) ^ (min (24 : Int).toNat IntKind.u32.bits)) = 16777216 from rfl, Int.fdiv_eq_ediv_of_nonneg _ (by decide)]
    omega
  rw [e, e2, e3, xor32 A _ hA32 (by omega), andNot32 _ _ (Nat.xor_lt_two_pow hA32 (by omega)) (by omega), clear_top A hA32]
  unfold stepF
  rw [hA]
end Go.Proofs.YtbjlabokijchpaaA
