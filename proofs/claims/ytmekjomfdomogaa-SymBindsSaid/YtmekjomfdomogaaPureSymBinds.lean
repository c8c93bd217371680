/-
  No symbol is both exported, and hidden from others; a weak one is exported as a global one is.
-/
import Derived.Test.YtmekjomfdomogaaPBix10
import Derived.Laws.BitsLemmas
namespace Go.Proofs.Ytmekjomfdomogaa.Pure
open Go Go.RowKit Go.Proofs.Ytmekjomfdomogaa.PBi Go.Proofs.YtmekjomfdomogaaW.PrintWords Go.Proofs.YtmekjomfdomogaaW.PrintLast Go.Proofs.YtmekjomfdomogaaW.PrintMore
set_option linter.unusedVariables false

theorem speaks : Ev (fun k => turnbucklelaw11_speaks.f k) true := Ev.of (g := fun k => turnbucklelaw11_speaks.f k) (fun k => turnbucklelaw11_speaks.mono k) (k := 40) (by decide +kernel)
theorem and_mask (a : Int) (i : Nat) (hi : i ≤ 62) : bits .and .i64 a (2 ^ i - 1) = a % 2 ^ i := by
  have hpos : 0 < 2 ^ i := Nat.two_pow_pos i
  have hle : 2 ^ i ≤ 2 ^ 62 := Nat.pow_le_pow_right (by decide) hi
  have hc : ((2 : Int) ^ i - 1) = ((2 ^ i - 1 : Nat) : Int) := by
    rw [Int.natCast_sub hpos]; simp
  have hb : (2 ^ i - 1) % 2 ^ IntKind.i64.bits = 2 ^ i - 1 := Nat.mod_eq_of_lt (by show 2 ^ i - 1 < 2 ^ 64; omega)
  rw [hc]
  simp only [bits, BitVec.ofInt_natCast, BitVec.toNat_and, BitVec.toNat_ofNat, hb, BitVec.toNat_ofInt]
  rw [Nat.and_two_pow_sub_one_eq_mod, IntKind.wrap_i64]
  have hd : ((2 : Int) ^ i) ∣ 18446744073709551616 := ⟨2 ^ (64 - i), by rw [← Int.pow_add, show i + (64 - i) = 64 by omega]; rfl⟩
  have h1 : (((a % ((2 ^ IntKind.i64.bits : Nat) : Int)).toNat % 2 ^ i : Nat) : Int) = a % 2 ^ i := by
    have h2 : ((2 ^ IntKind.i64.bits : Nat) : Int) = 18446744073709551616 := rfl
    rw [h2, Int.natCast_emod, Int.toNat_of_nonneg (Int.emod_nonneg _ (by decide))]
    rw [show ((2 ^ i : Nat) : Int) = 2 ^ i by simp]
    exact Int.emod_emod_of_dvd a hd
  rw [h1]
  have h3 := Int.emod_nonneg a (b := 2 ^ i) (Int.ne_of_gt (Int.pow_pos (by decide)))
  have h4 := Int.emod_lt_of_pos a (b := 2 ^ i) (Int.pow_pos (by decide))
  have h5 : (2 : Int) ^ i ≤ 2 ^ 62 := by exact_mod_cast hle
  have h6 : (2 : Int) ^ 62 = 4611686018427387904 := rfl
  omega
theorem j1_ok (x B K V : Int) (D : Bool) (hB : B = 1 ∨ B = 2) (hV : V = 0 ∨ V = 1 ∨ V = 2 ∨ V = 3) : Ev (fun k => turnbucklelaw11_SymBinds.j1 k false ⟨#[]⟩ B K V D 0 0) true := by
  refine Ev.step (f := fun _ => some true) (fun k => ?_) (Ev.now _)
  rcases hB with rfl | rfl <;> rcases hV with rfl | rfl | rfl | rfl <;> cases D <;> simp [turnbucklelaw11_SymBinds.j1, sym_Symbol_Exported.f, sym_Symbol_Own.f]
theorem j0_ok (B K V : Int) (D : Bool) (hB : B = 1 ∨ B = 2) (hV : V = 0 ∨ V = 1 ∨ V = 2 ∨ V = 3) : Ev (fun k => turnbucklelaw11_SymBinds.j0 k ⟨#[]⟩ B K V D 0 0) true := by
  refine Ev.step (f := fun k => turnbucklelaw11_SymBinds.j1 k false ⟨#[]⟩ B K V D 0 0) (fun k => ?_) (j1_ok 0 B K V D hB hV)
  rcases hB with rfl | rfl <;> rcases hV with rfl | rfl | rfl | rfl <;> cases D <;> simp [turnbucklelaw11_SymBinds.j0, sym_Symbol_Exported.f, sym_Symbol_Own.f, wrap64]
theorem SymBinds : turnbucklelaw11_SymBinds.Pure := by
  intro a0 a1 a2 D a4 a5 _ _ _ _ _
  have m1 : bits .and .i64 a0 1 = a0 % 2 := and_mask a0 1 (by decide)
  have m3 : bits .and .i64 a2 3 = a2 % 4 := and_mask a2 2 (by decide)
  apply Ev.rounds
  unfold turnbucklelaw11_SymBinds.f
  refine Ev.bind speaks ?_
  refine Ev.congr (fun k => if_pos rfl) ?_
  rw [m1, m3]
  have hV : a2 % 4 = 0 ∨ a2 % 4 = 1 ∨ a2 % 4 = 2 ∨ a2 % 4 = 3 := by omega
  have hw : wrap64 (a0 % 2 * 2) = a0 % 2 * 2 := by unfold wrap64; omega
  rw [hw]
  by_cases h : a0 % 2 * 2 = 0
  · exact Ev.congr (fun k => if_pos h) (j0_ok 1 _ _ D (.inl rfl) hV)
  · exact Ev.congr (fun k => if_neg h) (j0_ok _ _ _ D (.inr (by omega)) hV)
end Go.Proofs.Ytmekjomfdomogaa.Pure
