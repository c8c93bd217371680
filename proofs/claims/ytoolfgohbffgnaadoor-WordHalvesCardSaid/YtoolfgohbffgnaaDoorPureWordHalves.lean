/-
  An operation of 32 bits hangs on the low halves alone, and what comes of it is extended by its sign.
-/
import Derived.Test.YtoolfgohbffgnaaDoorWordPure
namespace Go.Proofs.YtoolfgohbffgnaaDoor.Pure
open Go Go.RowKit Go.Proofs.YtoolfgohbffgnaaDoor.PNm Go.Proofs.YtoolfgohbffgnaaDoorW.PrintWords Go.Proofs.YtoolfgohbffgnaaDoorW.PrintLast Go.Proofs.YtoolfgohbffgnaaDoorW.PrintMore Go.Proofs.YtoolfgohbffgnaaDoor.Nice
set_option linter.unusedVariables false

theorem quotient_ok (a b : Int) (h0 : 0 ≤ b) (h1 : b < 18446744073709551616) : ∃ q, word_quotient.f a b = some q := by
  unfold word_quotient.f
  split
  · exact ⟨_, rfl⟩
  split
  · exact ⟨_, rfl⟩
  split
  · rename_i h2 h3 h4
    unfold wrap64 at h4
    omega
  · exact ⟨_, rfl⟩
theorem unsigned_ok (a b : Int) : ∃ q, word_unsigned.f a b = some q := by
  unfold word_unsigned.f
  split
  · exact ⟨_, rfl⟩
  · exact ⟨_, rfl⟩
theorem product_ok (o a b : Int) (ho : 14 ≤ o) (h0 : 0 ≤ b) (h1 : b < 18446744073709551616) : ∃ r, ∀ k, word_product.f k o a b = some r := by
  obtain ⟨q, hq⟩ := quotient_ok a b h0 h1
  obtain ⟨u, hu⟩ := unsigned_ok a b
  by_cases h14 : o = 14
  · exact ⟨q.1, fun k => by simp [word_product.f, hq, hu, h14]⟩
  by_cases h15 : o = 15
  · exact ⟨u.1, fun k => by simp [word_product.f, hq, hu, h15]⟩
  by_cases h16 : o = 16
  · exact ⟨q.2, fun k => by simp [word_product.f, hq, hu, h16]⟩
  · refine ⟨u.2, fun k => ?_⟩
    simp only [word_product.f, hq, hu, Option.bind_some]
    rw [if_neg (by omega), if_neg (by omega), if_neg (by omega), if_neg (by omega), if_neg h14, if_neg h15, if_neg h16]
theorem halves_ok (o a b : Int) (h18 : 18 ≤ o) (h28 : o < 28) (hb0 : 0 ≤ b) : ∃ t, ∀ k, word_halves.f k o a b = some (low t) := by
  have hl := low_f
  have hr := low_range
  have hm : 0 ≤ b.tmod 32 := by rw [Int.tmod_eq_emod_of_nonneg hb0]; omega
  have hb : 0 ≤ b % 4294967296 ∧ b % 4294967296 < 18446744073709551616 := by omega
  simp only [word_halves.f, hl, Option.bind_some]
  by_cases c : o = 18
  · exact ⟨_, fun k => by rw [if_pos c]⟩
  by_cases c1 : o = 19
  · exact ⟨_, fun k => by rw [if_neg c, if_pos c1]⟩
  by_cases c2 : o = 20
  · exact ⟨_, fun k => by rw [if_neg c, if_neg c1, if_pos c2, if_pos hm]⟩
  by_cases c3 : o = 21
  · exact ⟨_, fun k => by rw [if_neg c, if_neg c1, if_neg c2, if_pos c3, if_pos hm]⟩
  by_cases c4 : o = 22
  · have hm2 : 0 ≤ (b.tmod 32).tmod 64 := by rw [Int.tmod_eq_emod_of_nonneg hm]; omega
    refine ⟨IntKind.u64.wrap (shr .i64 (wrap64 (low a)) ((b.tmod 32).tmod 64)), fun k => ?_⟩
    rw [if_neg c, if_neg c1, if_neg c2, if_neg c3, if_pos c4]
    simp only [word_simple.f]
    rw [if_neg (by decide), if_neg (by decide), if_neg (by decide), if_neg (by decide), if_neg (by decide), if_neg (by decide), if_neg (by decide), if_pos trivial, if_pos hm2]
    rfl
  by_cases c5 : o = 23
  · exact ⟨_, fun k => by rw [if_neg c, if_neg c1, if_neg c2, if_neg c3, if_neg c4, if_pos c5]⟩
  by_cases c6 : o = 24
  · obtain ⟨r, h⟩ := product_ok 14 (low a) (low b) (by decide) (hr b).1 (hr b).2
    exact ⟨r, fun k => by rw [if_neg c, if_neg c1, if_neg c2, if_neg c3, if_neg c4, if_neg c5, if_pos c6, h]; rfl⟩
  by_cases c7 : o = 25
  · obtain ⟨r, h⟩ := product_ok 15 (a % 4294967296) (b % 4294967296) (by decide) hb.1 hb.2
    exact ⟨r, fun k => by rw [if_neg c, if_neg c1, if_neg c2, if_neg c3, if_neg c4, if_neg c5, if_neg c6, if_pos c7, h]; rfl⟩
  by_cases c8 : o = 26
  · obtain ⟨r, h⟩ := product_ok 16 (low a) (low b) (by decide) (hr b).1 (hr b).2
    exact ⟨r, fun k => by rw [if_neg c, if_neg c1, if_neg c2, if_neg c3, if_neg c4, if_neg c5, if_neg c6, if_neg c7, if_pos c8, h]; rfl⟩
  · obtain ⟨r, h⟩ := product_ok 17 (a % 4294967296) (b % 4294967296) (by decide) hb.1 hb.2
    exact ⟨r, fun k => by rw [if_neg c, if_neg c1, if_neg c2, if_neg c3, if_neg c4, if_neg c5, if_neg c6, if_neg c7, if_neg c8, h]; rfl⟩
theorem halves_same (k : Nat) (o a b a' b' : Int) (ha : a' % 4294967296 = a % 4294967296) (hb : b' % 4294967296 = b % 4294967296) (hb0 : 0 ≤ b) (hb1 : 0 ≤ b') : word_halves.f k o a' b' = word_halves.f k o a b := by
  have e1 : low a' = low a := by unfold low; rw [ha]
  have e2 : low b' = low b := by unfold low; rw [hb]
  have e3 : b'.tmod 32 = b.tmod 32 := by rw [Int.tmod_eq_emod_of_nonneg hb0, Int.tmod_eq_emod_of_nonneg hb1]; omega
  simp only [word_halves.f, low_f, e1, e2, e3, ha, hb]
theorem joined (a c : Int) (ha0 : 0 ≤ a) (ha1 : a < 18446744073709551616) :
    (bits .or .u64 (bits .and .u64 a 4294967295) (IntKind.u64.wrap (c * 4294967296))) % 4294967296 = a % 4294967296 ∧ 0 ≤ bits .or .u64 (bits .and .u64 a 4294967295) (IntKind.u64.wrap (c * 4294967296)) := by
  have e64 : (2 : Int) ^ 64 = 18446744073709551616 := rfl
  have e32 : (2 : Int) ^ 32 = 4294967296 := rfl
  have h1 : bits .and .u64 a 4294967295 = a % 4294967296 := bits_mask .u64 64 (by decide) wraps_u64 32 (by decide) a ha0 (by rw [e64]; exact ha1)
  have h2 : 0 ≤ IntKind.u64.wrap (c * 4294967296) ∧ IntKind.u64.wrap (c * 4294967296) < 18446744073709551616 ∧ IntKind.u64.wrap (c * 4294967296) % 4294967296 = 0 := by rw [IntKind.wrap_u64]; omega
  rw [h1]
  generalize IntKind.u64.wrap (c * 4294967296) = x at h2 ⊢
  obtain ⟨h3, h4, h5⟩ := h2
  have hy0 : 0 ≤ a % 4294967296 := by omega
  have hy1 : a % 4294967296 < 4294967296 := by omega
  generalize a % 4294967296 = y at hy0 hy1 ⊢
  have hj := bits_join .u64 64 (by decide) wraps_u64 32 x y h3 (by rw [e32]; exact h5) (by rw [e64]; exact h4) hy0 (by rw [e32]; exact hy1) (by rw [e64]; omega)
  obtain ⟨X, rfl⟩ := Int.eq_ofNat_of_zero_le h3
  obtain ⟨Y, rfl⟩ := Int.eq_ofNat_of_zero_le hy0
  have hX : X < 2 ^ 64 := by omega
  have hY : Y < 2 ^ 64 := by omega
  rw [(bits_nat .u64 64 (by decide) wraps_u64 X Y hX hY).2] at hj
  rw [(bits_nat .u64 64 (by decide) wraps_u64 Y X hY hX).2, Nat.or_comm, hj]
  omega

theorem WordHalves : turnbucklelaw05_WordHalves.Pure := by
  intro a b c ha hb hc
  obtain ⟨ha0, ha1⟩ := wf_u64 ha
  obtain ⟨hb0, hb1⟩ := wf_u64 hb
  obtain ⟨ja, ja0⟩ := joined a c ha0 ha1
  obtain ⟨jb, jb0⟩ := joined b c hb0 hb1
  apply Ev.rounds
  unfold turnbucklelaw05_WordHalves.f
  refine Ev.bind speaks ?_
  refine Ev.congr (fun k => if_pos rfl) ?_
  have all : ∀ d : Nat, d ≤ 10 → Ev (fun k => turnbucklelaw05_WordHalves.l0 k a b c (28 - d)) true := by
    intro d
    induction d with
    | zero =>
      intro _
      refine Ev.step (f := fun _ => some true) (fun k => ?_) (Ev.now _)
      simp only [turnbucklelaw05_WordHalves.l0]
      rw [if_neg (by omega)]
    | succ d ih =>
      intro hd
      obtain ⟨t, ht⟩ := halves_ok (28 - (d + 1 : Nat)) a b (by omega) (by omega) hb0
      refine Ev.step (f := fun k => ?f) (fun k => ?_) ?_
      case f => exact (word_Do.f k (28 - (d + 1 : Nat)) a b).bind fun t148 => (word_Do.f k (28 - (d + 1 : Nat)) (Go.bits .or .u64 (Go.bits .and .u64 a 4294967295) (IntKind.u64.wrap (c * 4294967296))) (Go.bits .or .u64 (Go.bits .and .u64 b 4294967295) (IntKind.u64.wrap (c * 4294967296)))).bind fun t149 => (if t148 = t149 then (if t148 = (IntKind.u64.wrap (wrap64 (wrap32 ((t148) % 4294967296)))) then (turnbucklelaw05_WordHalves.l0 k a b c (wrap64 ((28 - (d + 1 : Nat)) + 1))) else (some false)) else (some false))
      · simp only [turnbucklelaw05_WordHalves.l0]
        rw [if_pos (by omega)]
      refine Ev.bind (halves_do (by omega) (by omega) (Ev.congr (fun k => ht k) (Ev.now _))) ?_
      refine Ev.bind (halves_do (by omega) (by omega) (Ev.congr (fun k => (halves_same k _ a b _ _ ja jb hb0 jb0).trans (ht k)) (Ev.now _))) ?_
      refine Ev.congr (fun k => if_pos rfl) ?_
      refine Ev.congr (fun k => if_pos (low_back t)) ?_
      have e : wrap64 (28 - ((d + 1 : Nat) : Int) + 1) = 28 - (d : Int) := by unfold wrap64; omega
      simp only [e]
      exact ih (by omega)
  exact all 10 (by decide)
end Go.Proofs.YtoolfgohbffgnaaDoor.Pure
