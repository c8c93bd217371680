/-
  A shift up and down again leaves the lower bits; a shift by 64 more is the same; the sign's bit comes down by sra; xor of or and and is xor.
-/
import Derived.Test.YtoolfgohbffgnaaDoorWordPure
namespace Go.Proofs.YtoolfgohbffgnaaDoor.Pure
open Go Go.RowKit Go.Proofs.YtoolfgohbffgnaaDoor.PNm Go.Proofs.YtoolfgohbffgnaaDoorW.PrintWords Go.Proofs.YtoolfgohbffgnaaDoorW.PrintLast Go.Proofs.YtoolfgohbffgnaaDoorW.PrintMore Go.Proofs.YtoolfgohbffgnaaDoor.Nice
set_option linter.unusedVariables false

theorem bits_xor (a b : Nat) (ha : a < 2 ^ 64) (hb : b < 2 ^ 64) : bits .xor .u64 a b = ((a ^^^ b : Nat) : Int) := by
  have ha' : a % 2 ^ IntKind.u64.bits = a := Nat.mod_eq_of_lt ha
  have hb' : b % 2 ^ IntKind.u64.bits = b := Nat.mod_eq_of_lt hb
  have hx := Nat.xor_lt_two_pow ha hb
  simp only [bits, BitVec.ofInt_natCast, BitVec.toNat_xor, BitVec.toNat_ofNat, ha', hb']
  exact wraps_u64 _ (Int.natCast_nonneg _) (by exact_mod_cast hx)
theorem xor_or_and (a b : Nat) : (a ||| b) ^^^ (a &&& b) = a ^^^ b := by
  apply Nat.eq_of_testBit_eq
  intro i
  simp only [Nat.testBit_xor, Nat.testBit_or, Nat.testBit_and]
  cases a.testBit i <;> cases b.testBit i <;> rfl
/-- What a shift of the signed number gives. -/
theorem sra_mod (a P Q : Int) (h0 : 0 ≤ a) (h1 : a < 18446744073709551616) (hP : 0 < P) (hPQ : P * Q = 18446744073709551616) :
    IntKind.u64.wrap (IntKind.u64.wrap (wrap64 a / P) * P) = a - a % P := by
  have e : wrap64 a = a ∨ wrap64 a = a - 18446744073709551616 := by unfold wrap64; omega
  have key : ∀ x y : Int, (∃ c, y = x + 18446744073709551616 * c) → IntKind.u64.wrap x = IntKind.u64.wrap y := by
    rintro x y ⟨c, rfl⟩
    rw [IntKind.wrap_u64, IntKind.wrap_u64]
    omega
  have hm : ∀ x : Int, IntKind.u64.wrap (IntKind.u64.wrap x * P) = IntKind.u64.wrap (x * P) := by
    intro x
    rw [IntKind.wrap_u64, IntKind.wrap_u64, IntKind.wrap_u64, Int.mul_emod, Int.emod_emod_of_dvd _ (Int.dvd_refl _), ← Int.mul_emod]
  have hd : a % P = a - P * (a / P) := Int.emod_def a P
  have hr0 := Int.emod_nonneg a (Int.ne_of_gt hP)
  have hr1 := Int.emod_lt_of_pos a hP
  have hle : 0 ≤ P * (a / P) := Int.mul_nonneg (Int.le_of_lt hP) (Int.ediv_nonneg h0 (Int.le_of_lt hP))
  rw [hm]
  have fin : IntKind.u64.wrap (a / P * P) = a - a % P := by
    rw [Int.mul_comm, u64w hle (by omega)]
    omega
  rcases e with e | e
  · rw [e]; exact fin
  · rw [e, ← fin]
    refine key _ _ ⟨1, ?_⟩
    have : (a - 18446744073709551616) / P = a / P - Q := by
      rw [← hPQ, Int.sub_mul_ediv_left a Q (Int.ne_of_gt hP)]
    rw [this, Int.sub_mul, Int.mul_comm Q P, hPQ]
    omega
theorem sign_shift (a P : Int) (h0 : 0 ≤ a) (h1 : a < 18446744073709551616) (hP : 0 < P) :
    (wrap64 (IntKind.u64.wrap (wrap64 a / P)) < 0) ↔ wrap64 a < 0 := by
  have hb : -9223372036854775808 ≤ wrap64 a ∧ wrap64 a < 9223372036854775808 := by unfold wrap64; omega
  have e : wrap64 (IntKind.u64.wrap (wrap64 a / P)) = wrap64 a / P := by
    have h2 : wrap64 a / P < 9223372036854775808 := by
      by_cases h : 0 ≤ wrap64 a
      · have := Int.ediv_le_self (b := P) (a := wrap64 a) h; omega
      · have := Int.ediv_neg_of_neg_of_pos (a := wrap64 a) (b := P) (by omega) hP; omega
    have h3 : -9223372036854775808 ≤ wrap64 a / P := by
      by_cases h : 0 ≤ wrap64 a
      · have := Int.ediv_nonneg h (Int.le_of_lt hP); omega
      · rw [Int.le_ediv_iff_mul_le hP]
        have : (-9223372036854775808 : Int) * P ≤ -9223372036854775808 * 1 := by omega
        omega
    generalize wrap64 a / P = q at h2 h3 ⊢
    rw [IntKind.wrap_u64]; unfold wrap64; omega
  rw [e]
  constructor
  · intro h
    apply Classical.byContradiction
    intro h'
    have := Int.ediv_nonneg (a := wrap64 a) (b := P) (by omega) (Int.le_of_lt hP)
    omega
  · intro h
    exact Int.ediv_neg_of_neg_of_pos h hP

theorem WordShifts : turnbucklelaw05_WordShifts.Pure := by
  intro a b ha hb
  obtain ⟨ha0, ha1⟩ := wf_u64 ha
  obtain ⟨hb0, hb1⟩ := wf_u64 hb
  have hn : b.tmod 64 = b % 64 := Int.tmod_eq_emod_of_nonneg hb0
  have hb2 : 0 ≤ IntKind.u64.wrap (b + 64) := by rw [IntKind.wrap_u64]; omega
  have hn2 : (IntKind.u64.wrap (b + 64)).tmod 64 = b % 64 := by rw [Int.tmod_eq_emod_of_nonneg hb2, IntKind.wrap_u64]; omega
  apply Ev.rounds
  unfold turnbucklelaw05_WordShifts.f
  refine Ev.bind speaks ?_
  refine Ev.congr (fun k => if_pos rfl) ?_
  obtain ⟨n, hbn⟩ : ∃ n : Nat, b % 64 = n := ⟨(b % 64).toNat, by omega⟩
  have hn64 : n < 64 := by omega
  rw [hbn] at hn hn2
  simp only [hn]
  refine Ev.bind (simple_do (o := 2) (r := shl .u64 a n) (by decide) (by decide) (by simp [word_simple.f, hn])) ?_
  refine Ev.bind (simple_do (o := 2) (r := shl .u64 a n) (by decide) (by decide) (by simp [word_simple.f, hn2])) ?_
  refine Ev.congr (fun k => if_pos rfl) ?_
  refine Ev.bind (simple_do (o := 6) (r := shr .u64 (shl .u64 a n) n) (by decide) (by decide) (by simp [word_simple.f, hn])) ?_
  refine Ev.congr (fun k => if_pos (by omega)) ?_
  refine Ev.congr (fun k => if_pos rfl) ?_
  refine Ev.bind (simple_do (o := 6) (r := shr .u64 a n) (by decide) (by decide) (by simp [word_simple.f, hn])) ?_
  obtain ⟨A, rfl⟩ := Int.eq_ofNat_of_zero_le ha0
  obtain ⟨B, rfl⟩ := Int.eq_ofNat_of_zero_le hb0
  have hA : A < 2 ^ 64 := by omega
  have hB : B < 2 ^ 64 := by omega
  have hP : (0 : Int) < 2 ^ n := Int.pow_pos (by decide)
  have hPN : 2 ^ n * 2 ^ (64 - n) = (18446744073709551616 : Int) := by
    rw [← Int.pow_add, show n + (64 - n) = 64 by omega]; rfl
  have hmin : min (Int.toNat (n : Int)) 64 = n := by rw [Int.toNat_natCast]; omega
  have hs : shr .i64 (wrap64 A) n = wrap64 A / 2 ^ n := by
    show wrap64 A / 2 ^ (min (Int.toNat (n : Int)) 64) = _
    rw [hmin]
  have hl : ∀ x, shl .u64 x n = IntKind.u64.wrap (x * 2 ^ n) := by
    intro x
    show IntKind.u64.wrap (x * 2 ^ (min (Int.toNat (n : Int)) 64)) = _
    rw [hmin]
  have hP64 : (2 : Nat) ^ n < 2 ^ 64 := Nat.pow_lt_pow_right (by decide) hn64
  have e64 : (2 : Int) ^ 64 = 18446744073709551616 := rfl
  have hA64 : (A : Int) < 2 ^ 64 := by rw [e64]; exact ha1
  have hP64'' : (2 : Int) ^ n < 2 ^ 64 := by exact_mod_cast hP64
  have hP64' : ((2 : Int) ^ n) < 18446744073709551616 := by rw [← e64]; exact hP64''
  have hmask : IntKind.u64.wrap (shl .u64 1 n - 1) = 2 ^ n - 1 := by
    rw [hl, Int.one_mul, u64w (Int.le_of_lt hP) hP64', u64w (by omega) (by omega)]
  have hand : bits .and .u64 (A : Int) (2 ^ n - 1) = (A : Int) % 2 ^ n := bits_mask .u64 64 (by decide) wraps_u64 n (by omega) _ ha0 (by exact_mod_cast hA)
  have hr0 := Int.emod_nonneg (A : Int) (Int.ne_of_gt hP)
  have hr1 := Int.emod_lt_of_pos (A : Int) hP
  have hdm := Int.emod_def (A : Int) (2 ^ n)
  have hq0 : 0 ≤ 2 ^ n * ((A : Int) / 2 ^ n) := Int.mul_nonneg (Int.le_of_lt hP) (Int.ediv_nonneg ha0 (Int.le_of_lt hP))
  have hor : bits .or .u64 ((A : Int) - A % 2 ^ n) ((A : Int) % 2 ^ n) = A := by
    have := bits_join .u64 64 (by decide) wraps_u64 n ((A : Int) - A % 2 ^ n) ((A : Int) % 2 ^ n) (by omega) (by
      rw [show (A : Int) - A % 2 ^ n = 2 ^ n * ((A : Int) / 2 ^ n) by omega, Int.mul_emod_right]) (by rw [e64]; omega) hr0 hr1 (by rw [e64]; omega)
    rw [this]; omega
  have hjoin := sra_mod (A : Int) (2 ^ n) (2 ^ (64 - n)) ha0 ha1 hP hPN
  have hsign := sign_shift (A : Int) (2 ^ n) ha0 ha1 hP
  rw [bne_self_eq_false]
  refine Ev.step (f := fun k => ?f) (fun k => ?_) ?_
  case f => exact (word_Do.f k 7 (A : Int) (B : Int)).bind fun t155 => if 0 ≤ (n : Int) then (if (Go.bits .or .u64 (shl .u64 t155 n) (Go.bits .and .u64 (A : Int) (IntKind.u64.wrap ((shl .u64 1 n) - 1)))) = (A : Int) then (if ((decide ((wrap64 (t155)) < 0)) == (decide ((wrap64 (A : Int)) < 0))) = true then ((word_Do.f k 8 (A : Int) (B : Int)).bind fun t156 => ((word_Do.f k 9 (A : Int) (B : Int)).bind fun t157 => ((word_Do.f k 5 t156 t157).bind fun t158 => (some (t158 == (Go.bits .xor .u64 (A : Int) (B : Int))))))) else (some false)) else (some false)) else (none)
  · simp only [turnbucklelaw05_WordShifts.j0]
    rw [if_neg (by decide)]
  refine Ev.bind (simple_do (o := 7) (r := IntKind.u64.wrap (wrap64 A / 2 ^ n)) (by decide) (by decide) (by simp [word_simple.f, hn, hs])) ?_
  refine Ev.congr (fun k => if_pos (by omega)) ?_
  refine Ev.congr (fun k => if_pos (by rw [hmask, hand, hl, hjoin, hor])) ?_
  refine Ev.congr (fun k => if_pos (by rw [beq_iff_eq]; exact decide_eq_decide.2 hsign)) ?_
  have hob := bits_nat .u64 64 (by decide) wraps_u64 A B hA hB
  refine Ev.bind (simple_do (o := 8) (r := ((A ||| B : Nat) : Int)) (by decide) (by decide) (by simp [word_simple.f, hob.2])) ?_
  refine Ev.bind (simple_do (o := 9) (r := ((A &&& B : Nat) : Int)) (by decide) (by decide) (by simp [word_simple.f, hob.1])) ?_
  refine Ev.bind (simple_do (o := 5) (r := ((A ^^^ B : Nat) : Int)) (by decide) (by decide) (by
    simp only [word_simple.f]
    simp [bits_xor _ _ (Nat.or_lt_two_pow hA hB) (Nat.and_lt_two_pow _ hB), xor_or_and])) ?_
  rw [bits_xor A B hA hB, beq_self_eq_true]
  exact Ev.now _
end Go.Proofs.YtoolfgohbffgnaaDoor.Pure
