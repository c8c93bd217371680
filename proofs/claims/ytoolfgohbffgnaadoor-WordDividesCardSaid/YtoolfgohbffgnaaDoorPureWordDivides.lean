/-
  Quotient times divisor, and the rest, are what was divided; the rest is smaller than the divisor.
-/
import Derived.Test.YtoolfgohbffgnaaDoorWordPure
namespace Go.Proofs.YtoolfgohbffgnaaDoor.Pure
open Go Go.RowKit Go.Proofs.YtoolfgohbffgnaaDoor.PNm Go.Proofs.YtoolfgohbffgnaaDoorW.PrintWords Go.Proofs.YtoolfgohbffgnaaDoorW.PrintLast Go.Proofs.YtoolfgohbffgnaaDoorW.PrintMore Go.Proofs.YtoolfgohbffgnaaDoor.Nice
set_option linter.unusedVariables false

/-- Modulo 2^64, what is wrapped is as good as what is not. -/
theorem back (q b r T B R : Int) (hq : q % 18446744073709551616 = T % 18446744073709551616) (hb : b % 18446744073709551616 = B % 18446744073709551616) (hr : r % 18446744073709551616 = R % 18446744073709551616) :
    IntKind.u64.wrap (IntKind.u64.wrap (q * b) + r) = (T * B + R) % 18446744073709551616 := by
  rw [IntKind.wrap_u64, IntKind.wrap_u64]
  have h1 : q * b % 18446744073709551616 = T * B % 18446744073709551616 := by rw [Int.mul_emod, hq, hb, ← Int.mul_emod]
  rw [h1]
  generalize T * B = x
  omega
theorem w64_mod (x : Int) : wrap64 x % 18446744073709551616 = x % 18446744073709551616 := by unfold wrap64; omega
theorem u64_mod (x : Int) : IntKind.u64.wrap x % 18446744073709551616 = x % 18446744073709551616 := by rw [IntKind.wrap_u64]; omega
theorem w64_range (x : Int) : -9223372036854775808 ≤ wrap64 x ∧ wrap64 x < 9223372036854775808 := by unfold wrap64; omega

theorem product_do_of {o a b r : Int} (q u : Int × Int) (h0 : 14 ≤ o) (h1 : o < 18) (hq : word_quotient.f a b = some q) (hu : word_unsigned.f a b = some u)
    (hr : r = if o = 14 then q.1 else if o = 15 then u.1 else if o = 16 then q.2 else u.2) : Ev (fun k => word_Do.f k o a b) r := by
  refine product_do (by omega) h1 (Ev.congr (fun k => ?_) (Ev.now r))
  simp only [word_product.f, hq, hu, Option.bind_some]
  rw [if_neg (by omega), if_neg (by omega), if_neg (by omega), if_neg (by omega), hr]
  split
  · rfl
  split
  · rfl
  split <;> rfl
/-- The rest of signed numbers: its sign, its size. -/
theorem tmod_sign (A B : Int) (hB : B ≠ 0) (hR : A.tmod B ≠ 0) : (A.tmod B < 0 ↔ A < 0) ∧ (A.tmod B).natAbs < B.natAbs := by
  constructor
  · by_cases h : 0 ≤ A
    · have := Int.tmod_nonneg B h
      omega
    · have h1 : 0 ≤ (-A).tmod B := Int.tmod_nonneg B (by omega)
      rw [Int.neg_tmod] at h1
      omega
  · rw [Int.natAbs_tmod]
    exact Nat.mod_lt _ (by omega)
theorem abs_f {x y : Int} (h : y = ((wrap64 x).natAbs : Int)) (h0 : 0 ≤ x) (h1 : x < 18446744073709551616) : turnbucklelaw05_abs.f x = some y := by
  unfold turnbucklelaw05_abs.f
  split
  · rename_i hn
    rw [h, IntKind.wrap_u64, Option.some.injEq]
    revert hn
    unfold wrap64
    omega
  · rename_i hn
    rw [h, Option.some.injEq]
    revert hn
    unfold wrap64
    omega

theorem WordDivides : turnbucklelaw05_WordDivides.Pure := by
  intro a b ha hb
  obtain ⟨ha0, ha1⟩ := wf_u64 ha
  obtain ⟨hb0, hb1⟩ := wf_u64 hb
  apply Ev.rounds
  unfold turnbucklelaw05_WordDivides.f
  refine Ev.bind speaks ?_
  refine Ev.congr (fun k => if_pos rfl) ?_
  by_cases hz : b = 0
  · subst hz
    have hq : word_quotient.f a 0 = some (18446744073709551615, a) := by simp [word_quotient.f]
    have hu : word_unsigned.f a 0 = some (18446744073709551615, a) := by simp [word_unsigned.f]
    refine Ev.bind (product_do_of (o := 14) _ _ (by decide) (by decide) hq hu rfl) ?_
    refine Ev.bind (product_do_of (o := 16) _ _ (by decide) (by decide) hq hu rfl) ?_
    refine Ev.bind (product_do_of (o := 15) _ _ (by decide) (by decide) hq hu rfl) ?_
    refine Ev.bind (product_do_of (o := 17) _ _ (by decide) (by decide) hq hu rfl) ?_
    simp
    exact Ev.now _
  have hu : word_unsigned.f a b = some (a / b, a % b) := by
    have e1 : a.tdiv b = a / b := Int.tdiv_eq_ediv_of_nonneg ha0
    have e2 : a.tmod b = a % b := Int.tmod_eq_emod_of_nonneg ha0
    have h1 : 0 ≤ a / b := Int.ediv_nonneg ha0 hb0
    have h2 : a / b ≤ a := Int.ediv_le_self b ha0
    unfold word_unsigned.f
    rw [if_neg hz, e1, e2, u64w h1 (by omega)]
  have hs0 : 0 ≤ a % b := Int.emod_nonneg a hz
  have hs1 : a % b < b := Int.emod_lt_of_pos a (by omega)
  have hp : IntKind.u64.wrap (IntKind.u64.wrap (a / b * b) + a % b) = a := by
    rw [back (a / b) b (a % b) (a / b) b (a % b) rfl rfl rfl, Int.mul_comm, Int.mul_ediv_add_emod]
    omega
  obtain ⟨q, r, hq, hr0, hr1, hqb, hsig⟩ : ∃ q r, word_quotient.f a b = some (q, r) ∧ 0 ≤ r ∧ r < 18446744073709551616 ∧ IntKind.u64.wrap (IntKind.u64.wrap (q * b) + r) = a ∧
      (r ≠ 0 → (wrap64 r < 0 ↔ wrap64 a < 0) ∧ (wrap64 r).natAbs < (wrap64 b).natAbs) := by
    by_cases hm : b = 18446744073709551615
    · subst hm
      refine ⟨IntKind.u64.wrap (-a), 0, by simp [word_quotient.f], by omega, by omega, ?_, fun h => absurd rfl h⟩
      rw [back _ _ _ (-a) (-1) 0 (u64_mod _) (by decide) rfl]
      omega
    · have hB0 : wrap64 b ≠ 0 := by unfold wrap64; omega
      refine ⟨_, _, by unfold word_quotient.f; rw [if_neg hz, if_neg hm, if_neg hB0], ?_, ?_, ?_, ?_⟩
      · rw [IntKind.wrap_u64]; omega
      · rw [IntKind.wrap_u64]; omega
      · rw [back _ _ _ ((wrap64 a).tdiv (wrap64 b)) (wrap64 b) ((wrap64 a).tmod (wrap64 b)) ((u64_mod _).trans (w64_mod _)) (w64_mod _).symm (u64_mod _)]
        rw [Int.mul_comm, Int.mul_tdiv_add_tmod, w64_mod]
        omega
      · intro hr
        have hR : (wrap64 a).tmod (wrap64 b) ≠ 0 := by
          intro h
          apply hr
          rw [h]
          rfl
        obtain ⟨h1, h2⟩ := tmod_sign (wrap64 a) (wrap64 b) hB0 hR
        have hbr := w64_range b
        have e : wrap64 (IntKind.u64.wrap ((wrap64 a).tmod (wrap64 b))) = (wrap64 a).tmod (wrap64 b) := by
          generalize (wrap64 a).tmod (wrap64 b) = x at h1 h2 ⊢
          rw [IntKind.wrap_u64]
          unfold wrap64 at *
          omega
        rw [e]
        exact ⟨h1, h2⟩
  refine Ev.bind (product_do_of (o := 14) _ _ (by decide) (by decide) hq hu rfl) ?_
  refine Ev.bind (product_do_of (o := 16) _ _ (by decide) (by decide) hq hu rfl) ?_
  refine Ev.bind (product_do_of (o := 15) _ _ (by decide) (by decide) hq hu rfl) ?_
  refine Ev.bind (product_do_of (o := 17) _ _ (by decide) (by decide) hq hu rfl) ?_
  simp only [Int.reduceEq, if_true, if_false, reduceIte]
  refine Ev.congr (fun k => if_neg hz) ?_
  refine Ev.congr (fun k => if_pos hqb) ?_
  refine Ev.congr (fun k => if_pos hp) ?_
  rw [decide_eq_false (by omega)]
  refine Ev.step (f := fun k => ?f) (fun k => ?_) ?_
  case f => exact if r = 0 then (some true) else (if ((decide ((wrap64 r) < 0)) == (decide ((wrap64 a) < 0))) = true then ((turnbucklelaw05_abs.f r).bind fun t144 => ((turnbucklelaw05_abs.f b).bind fun t145 => ((word_Do.f k 4 t144 t145).bind fun t146 => (some (t146 == 1))))) else (some false))
  · simp only [turnbucklelaw05_WordDivides.j0]
    rw [if_neg (by decide)]
  by_cases hr : r = 0
  · exact Ev.congr (fun k => if_pos hr) (Ev.now _)
  refine Ev.congr (fun k => if_neg hr) ?_
  obtain ⟨h1, h2⟩ := hsig hr
  refine Ev.congr (fun k => if_pos (by rw [beq_iff_eq]; exact decide_eq_decide.2 h1)) ?_
  have hlt : ((wrap64 r).natAbs : Int) < ((wrap64 b).natAbs : Int) := by omega
  rw [abs_f rfl hr0 hr1, abs_f rfl hb0 hb1]
  simp only [Option.bind_some]
  refine Ev.bind (simple_do (o := 4) (r := 1) (by decide) (by decide) (by simp only [word_simple.f, decide_eq_true hlt]; rfl)) ?_
  exact Ev.now _
end Go.Proofs.YtoolfgohbffgnaaDoor.Pure
