/-
  The hash of any name.
-/
import Derived.Test.YtoaliamemkjfhaaHashNice
import Derived.Laws.BitsLemmas
namespace Go.Proofs.Ytoaliamemkjfhaa.Pure
open Go Go.RowKit Go.Proofs.Ytoaliamemkjfhaa.PAll Go.Proofs.YtoaliamemkjfhaaW.PrintWords Go.Proofs.YtoaliamemkjfhaaW.PrintLast Go.Proofs.Ytoaliamemkjfhaa.Nice
set_option linter.unusedVariables false

theorem law_speaks : Ev (fun k => turnbucklelaw12_speaks.f k) true := Ev.of (g := fun k => turnbucklelaw12_speaks.f k) (fun k => turnbucklelaw12_speaks.mono k) (k := 60) (by decide +kernel)
theorem wraps_u32 (n : Int) (h₀ : 0 ≤ n) (h₁ : n < 2 ^ 32) : IntKind.u32.wrap n = n := by rw [IntKind.wrap_u32]; omega
theorem xor32 (a b : Nat) (ha : a < 2 ^ 32) (hb : b < 2 ^ 32) : bits .xor .u32 a b = ((a ^^^ b : Nat) : Int) := by
  have ha' : a % 2 ^ IntKind.u32.bits = a := Nat.mod_eq_of_lt ha
  have hb' : b % 2 ^ IntKind.u32.bits = b := Nat.mod_eq_of_lt hb
  have hx := Nat.xor_lt_two_pow ha hb
  simp only [bits, BitVec.ofInt_natCast, BitVec.toNat_xor, BitVec.toNat_ofNat, ha', hb']
  exact wraps_u32 _ (Int.natCast_nonneg _) (by exact_mod_cast hx)
theorem andNot32 (a b : Nat) (ha : a < 2 ^ 32) (hb : b < 2 ^ 32) : bits .andNot .u32 a b = ((a &&& (2 ^ 32 - (b + 1)) : Nat) : Int) := by
  have ha' : a % 2 ^ IntKind.u32.bits = a := Nat.mod_eq_of_lt ha
  have hb' : b % 2 ^ IntKind.u32.bits = b := Nat.mod_eq_of_lt hb
  have hx : a &&& (2 ^ 32 - (b + 1)) < 2 ^ 32 := Nat.lt_of_le_of_lt Nat.and_le_left ha
  simp only [bits, BitVec.ofInt_natCast, BitVec.toNat_and, BitVec.toNat_not, BitVec.toNat_ofNat, ha', hb']
  have e : 2 ^ IntKind.u32.bits - 1 - b = 2 ^ 32 - (b + 1) := by show 2 ^ 32 - 1 - b = _; omega
  rw [e]
  exact wraps_u32 _ (Int.natCast_nonneg _) (by exact_mod_cast hx)
theorem and_top (A : Nat) (hA : A < 2 ^ 32) : A &&& 4026531840 = 2 ^ 28 * (A / 2 ^ 28) := by
  have e : 4026531840 = 2 ^ 28 * (2 ^ 4 - 1) := by decide
  rw [e]
  apply Nat.eq_of_testBit_eq
  intro i
  rw [Nat.testBit_and, Nat.testBit_two_pow_mul, Nat.testBit_two_pow_mul, Nat.testBit_two_pow_sub_one, Nat.testBit_div_two_pow]
  by_cases h : 28 ≤ i
  · rw [show i - 28 + 28 = i by omega]
    by_cases h2 : i < 32
    · simp [h, show i - 28 < 4 by omega]
    · have : A.testBit i = false := Nat.testBit_lt_two_pow (Nat.lt_of_lt_of_le hA (Nat.pow_le_pow_right (by decide) (by omega)))
      simp [this]
  · simp [h]
def stepF (h c : Nat) : Nat := (((16 * h + c) % 2 ^ 32) % 2 ^ 28) ^^^ (16 * (((16 * h + c) % 2 ^ 32) / 2 ^ 28))
theorem step_lt (h c : Nat) (hh : h < 2 ^ 28) (hc : c < 256) : stepF h c < 2 ^ 28 := by
  unfold stepF
  refine Nat.xor_lt_two_pow (Nat.mod_lt _ (by decide)) ?_
  omega
theorem clear_top (A : Nat) (hA : A < 2 ^ 32) : (A ^^^ (16 * (A / 2 ^ 28))) &&& (2 ^ 32 - (2 ^ 28 * (A / 2 ^ 28) + 1)) = (A % 2 ^ 28) ^^^ (16 * (A / 2 ^ 28)) := by
  have hg : 2 ^ 28 * (A / 2 ^ 28) < 2 ^ 32 := by omega
  have hS : 16 * (A / 2 ^ 28) < 2 ^ 8 := by omega
  apply Nat.eq_of_testBit_eq
  intro i
  rw [Nat.testBit_and, Nat.testBit_xor, Nat.testBit_two_pow_sub_succ hg, Nat.testBit_xor, Nat.testBit_mod_two_pow, Nat.testBit_two_pow_mul, Nat.testBit_div_two_pow]
  by_cases h : 28 ≤ i
  · have hs : (16 * (A / 2 ^ 28)).testBit i = false := Nat.testBit_lt_two_pow (Nat.lt_of_lt_of_le hS (Nat.pow_le_pow_right (by decide) (by omega)))
    rw [hs, show i - 28 + 28 = i by omega]
    simp [h]
    cases A.testBit i <;> simp [h]
  · have h' : i < 32 := by omega
    simp [h, h']
    omega
theorem low_form (L G : Nat) (hG : G < 16) : L / 256 * 256 + ((L % 256) ^^^ (16 * G)) % 256 = L ^^^ (16 * G) := by
  have h1 : (L ^^^ (16 * G)) / 2 ^ 8 = L / 2 ^ 8 := by
    rw [Nat.xor_div_two_pow, show 16 * G / 2 ^ 8 = 0 by omega, Nat.xor_zero]
  have h2 : (L ^^^ (16 * G)) % 2 ^ 8 = ((L % 256) ^^^ (16 * G)) % 256 := by
    rw [Nat.xor_mod_two_pow]
    show _ = ((L % 2 ^ 8) ^^^ (16 * G)) % 2 ^ 8
    rw [Nat.xor_mod_two_pow, Nat.mod_mod]
  have h3 := Nat.div_add_mod (L ^^^ (16 * G)) (2 ^ 8)
  rw [h1, h2] at h3
  rw [← h3]
  omega
def H (s : ByteArray) : Nat → Nat
  | 0 => 0
  | i + 1 => stepF (H s i) ((bl s).getD i 0)
theorem byte_lt (s : ByteArray) (i : Nat) : (bl s).getD i 0 < 256 := by
  rw [List.getD_eq_getElem?_getD]
  cases h : (bl s)[i]? with
  | none => decide
  | some b => exact bl_lt s b (List.mem_of_getElem? h)
theorem H_lt (s : ByteArray) : ∀ i, H s i < 2 ^ 28
  | 0 => Nat.two_pow_pos 28
  | i + 1 => step_lt _ _ (H_lt s i) (byte_lt s i)
theorem bt_at_ (s : ByteArray) (i : Nat) (h : i < s.size) : bt s i = (((bl s).getD i 0 : Nat) : Int) := by
  rw [bt_bl s i h, List.getD_eq_getElem?_getD, List.getElem?_eq_getElem (by rw [bl_length]; exact h)]
  rfl
/-- vers.Hash's step. -/
theorem vstep (h c : Nat) (hh : h < 2 ^ 28) (hc : c < 256) : Go.bits .andNot .u32 (Go.bits .xor .u32 (((((h : Int) * 16) % 4294967296) + ((c : Int) % 4294967296)) % 4294967296) ((Go.bits .and .u32 (((((h : Int) * 16) % 4294967296) + ((c : Int) % 4294967296)) % 4294967296) 4026531840) / 16777216)) (Go.bits .and .u32 (((((h : Int) * 16) % 4294967296) + ((c : Int) % 4294967296)) % 4294967296) 4026531840) = ((stepF h c : Nat) : Int) := by
  obtain ⟨A, hA⟩ : ∃ A, (16 * h + c) % 2 ^ 32 = A := ⟨_, rfl⟩
  have hA32 : A < 2 ^ 32 := by omega
  have e : ((((h : Int) * 16) % 4294967296) + ((c : Int) % 4294967296)) % 4294967296 = (A : Int) := by omega
  have e2 : Go.bits .and .u32 (A : Int) 4026531840 = ((2 ^ 28 * (A / 2 ^ 28) : Nat) : Int) := by
    rw [← and_top A hA32]
    exact (bits_nat .u32 32 (by decide) wraps_u32 A 4026531840 hA32 (by decide)).1
  have e3 : ((2 ^ 28 * (A / 2 ^ 28) : Nat) : Int) / 16777216 = ((16 * (A / 2 ^ 28) : Nat) : Int) := by omega
  rw [e, e2, e3, xor32 A _ hA32 (by omega), andNot32 _ _ (Nat.xor_lt_two_pow hA32 (by omega)) (by omega), clear_top A hA32]
  unfold stepF
  rw [hA]
/-- The document's step. -/
theorem xor64 (a b : Nat) (ha : a < 2 ^ 64) (hb : b < 2 ^ 64) : bits .xor .u64 a b = ((a ^^^ b : Nat) : Int) := by
  have ha' : a % 2 ^ IntKind.u64.bits = a := Nat.mod_eq_of_lt ha
  have hb' : b % 2 ^ IntKind.u64.bits = b := Nat.mod_eq_of_lt hb
  have hx := Nat.xor_lt_two_pow ha hb
  simp only [bits, BitVec.ofInt_natCast, BitVec.toNat_xor, BitVec.toNat_ofNat, ha', hb']
  exact u64w (Int.natCast_nonneg _) (by have : (2 : Int) ^ 64 = 18446744073709551616 := rfl; have : ((a ^^^ b : Nat) : Int) < 2 ^ 64 := by exact_mod_cast hx
                                        omega)
theorem rstep (h c : Nat) (hh : h < 2 ^ 28) (hc : c < 256) : IntKind.u64.wrap ((IntKind.u64.wrap ((IntKind.u64.wrap (Int.tdiv (Int.tmod (Int.tmod (IntKind.u64.wrap ((IntKind.u64.wrap (16 * (h : Int))) + (IntKind.u64.wrap (c : Int)))) 4294967296) 268435456) 256)) * 256)) + (Int.tmod (Go.bits .xor .u64 (Int.tmod (Int.tmod (Int.tmod (IntKind.u64.wrap ((IntKind.u64.wrap (16 * (h : Int))) + (IntKind.u64.wrap (c : Int)))) 4294967296) 268435456) 256) (IntKind.u64.wrap (16 * (IntKind.u64.wrap (Int.tdiv (Int.tmod (IntKind.u64.wrap ((IntKind.u64.wrap (16 * (h : Int))) + (IntKind.u64.wrap (c : Int)))) 4294967296) 268435456))))) 256)) = ((stepF h c : Nat) : Int) := by
  obtain ⟨A, hA⟩ : ∃ A, (16 * h + c) % 2 ^ 32 = A := ⟨_, rfl⟩
  have hA32 : A < 2 ^ 32 := by omega
  have e : Int.tmod (IntKind.u64.wrap ((IntKind.u64.wrap (16 * (h : Int))) + (IntKind.u64.wrap (c : Int)))) 4294967296 = (A : Int) := by
    rw [u64w (x := 16 * (h : Int)) (by omega) (by omega), u64w (x := (c : Int)) (by omega) (by omega), u64w (by omega) (by omega), Int.tmod_eq_emod_of_nonneg (by omega)]
    omega
  have e1 : Int.tmod (A : Int) 268435456 = ((A % 2 ^ 28 : Nat) : Int) := rfl
  have e2 : Int.tdiv (A : Int) 268435456 = ((A / 2 ^ 28 : Nat) : Int) := rfl
  rw [e, e1, e2]
  obtain ⟨L, hL⟩ : ∃ L, A % 2 ^ 28 = L := ⟨_, rfl⟩
  obtain ⟨G, hG⟩ : ∃ G, A / 2 ^ 28 = G := ⟨_, rfl⟩
  have hG16 : G < 16 := by omega
  have hLlt : L < 2 ^ 28 := by omega
  have hs : stepF h c = L / 256 * 256 + ((L % 256) ^^^ (16 * G)) % 256 := by
    rw [low_form L G hG16]
    unfold stepF
    rw [hA, hL, hG]
  rw [hL, hG, hs]
  have e3 : Int.tmod (L : Int) 256 = ((L % 256 : Nat) : Int) := rfl
  have e4 : Int.tdiv (L : Int) 256 = ((L / 256 : Nat) : Int) := rfl
  have e5 : IntKind.u64.wrap (16 * IntKind.u64.wrap (G : Int)) = ((16 * G : Nat) : Int) := by
    rw [u64w (x := (G : Int)) (by omega) (by omega), u64w (by omega) (by omega)]; omega
  rw [e3, e4, e5, xor64 (L % 256) (16 * G) (by omega) (by omega)]
  have e6 : Int.tmod (((L % 256) ^^^ (16 * G) : Nat) : Int) 256 = ((((L % 256) ^^^ (16 * G)) % 256 : Nat) : Int) := rfl
  rw [e6]
  have hz : ((L % 256) ^^^ (16 * G)) % 256 < 256 := Nat.mod_lt _ (by decide)
  generalize ((L % 256) ^^^ (16 * G)) % 256 = z at hz ⊢
  clear e e1 e2 e3 e4 e5 e6 hs
  rw [u64w (x := ((L / 256 : Nat) : Int)) (by omega) (by omega), u64w (x := ((L / 256 : Nat) : Int) * 256) (by omega) (by omega), u64w (by omega) (by omega)]
  omega
theorem vhash_ev (s : ByteArray) (hs : s.size ≤ 1000) : Ev (fun k => vers_Hash.f k s) (H s s.size : Nat) := by
  have all : ∀ d i, i + d = s.size → Ev (fun k => vers_Hash.l0 k s (H s i : Nat) (s.size : Int) (i : Int)) (H s s.size : Nat) := by
    intro d
    induction d with
    | zero =>
      intro i hi
      refine Ev.step (f := fun _ => some ((H s i : Nat) : Int)) (fun k => ?_) (by rw [show i = s.size by omega]; exact Ev.now _)
      simp only [vers_Hash.l0]
      rw [if_neg (by omega)]
    | succ d ih =>
      intro i hi
      have ih := ih (i + 1) (by omega)
      have hst := vstep (H s i) ((bl s).getD i 0) (H_lt s i) (byte_lt s i)
      have w : wrap64 ((i : Int) + 1) = ((i + 1 : Nat) : Int) := by rw [w64 (by omega) (by omega)]; omega
      refine Ev.step (fun k => ?_) ih
      simp only [vers_Hash.l0]
      rw [if_pos (by omega), if_pos (by omega), if_pos (by omega), bt_at_ s i (by omega), hst, w]
      rfl
  exact all s.size 0 (by omega)
theorem rhash_ev (s : ByteArray) (hs : s.size ≤ 1000) : Ev (fun k => turnbuckleref12_Hash.f k s) (H s s.size : Nat) := by
  have all : ∀ d i, i + d = s.size → Ev (fun k => turnbuckleref12_Hash.l0 k s (H s i : Nat) (i : Int)) (H s s.size : Nat) := by
    intro d
    induction d with
    | zero =>
      intro i hi
      have h := H_lt s i
      refine Ev.step (f := fun _ => some ((H s i : Nat) : Int)) (fun k => ?_) (by rw [show i = s.size by omega]; exact Ev.now _)
      simp only [turnbuckleref12_Hash.l0]
      rw [if_neg (by omega)]
      generalize H s i = x at h
      congr 1
      omega
    | succ d ih =>
      intro i hi
      have ih := ih (i + 1) (by omega)
      have hst := rstep (H s i) ((bl s).getD i 0) (H_lt s i) (byte_lt s i)
      have w : wrap64 ((i : Int) + 1) = ((i + 1 : Nat) : Int) := by rw [w64 (by omega) (by omega)]; omega
      refine Ev.step (fun k => ?_) ih
      simp only [turnbuckleref12_Hash.l0]
      rw [if_pos (by omega), if_pos (by omega), bt_at_ s i (by omega), hst, w]
      rfl
  exact all s.size 0 (by omega)
theorem VersHash : turnbucklelaw12_VersHash.Pure := by
  intro s _
  apply Ev.rounds
  unfold turnbucklelaw12_VersHash.f
  refine Ev.bind law_speaks ?_
  refine Ev.congr (fun k => if_pos rfl) ?_
  by_cases h : (s.size : Int) > 1000
  · exact Ev.congr (fun k => if_pos h) (Ev.now _)
  · refine Ev.congr (fun k => if_neg h) ?_
    refine Ev.bind (vhash_ev s (by omega)) ?_
    refine Ev.bind (rhash_ev s (by omega)) ?_
    rw [beq_self_eq_true]
    exact Ev.now _
end Go.Proofs.Ytoaliamemkjfhaa.Pure
