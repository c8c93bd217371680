/- The law LeParts over what its functions compute: for every text, place and number it answers true. -/
import Derived.Test.YtdiecgjhmlljmaaLePure
namespace Go.Proofs.Ytdiecgjhmlljmaa.Pure
open Go Go.RowKit Go.Proofs.Ytdiecgjhmlljmaa.PAll Go.Proofs.YtdiecgjhmlljmaaW.PrintWords Go.Proofs.YtdiecgjhmlljmaaW.PrintLast Go.Proofs.Ytdiecgjhmlljmaa.Nice

theorem LeParts : turnbucklelaw01_LeParts.Pure := by
  intro s a1 a2 hs h1 h2
  obtain ⟨l1, u1⟩ := u64_bounds h1
  obtain ⟨l2, u2⟩ := i64_bounds h2
  obtain ⟨p, rfl⟩ := Int.eq_ofNat_of_zero_le l1
  have hp : p < 18446744073709551616 := by omega
  obtain ⟨n, hn, hn2, hn3⟩ : ∃ n : Nat, IntKind.u64.wrap a2 = n ∧ n < 18446744073709551616 ∧ (1 ≤ a2 ∧ a2 ≤ 8 → n = a2.toNat) := by
    refine ⟨(a2 % 18446744073709551616).toNat, ?_, ?_, ?_⟩
    · rw [IntKind.wrap_u64]; omega
    · omega
    · omega
  obtain ⟨K1, e1⟩ := speaks_ev
  obtain ⟨K2, e2⟩ := get_ev s
  obtain ⟨K3, e3⟩ := rget_ev s hs
  obtain ⟨K4, e4⟩ := rtext_ev s p a2 hs
  obtain ⟨K5, e5⟩ := at_ev s p a2 hs hp
  have hps : (partF s p n).1.size ≤ 140737488351232 := by
    unfold partF
    split
    · simp only [ByteArray.size_extract]; omega
    · exact Nat.zero_le _
  obtain ⟨K6, e6⟩ := rget_ev (partF s p n).1 hps
  dsimp only at e1 e2 e3 e4 e5 e6
  refine ⟨K1 + K2 + K3 + K4 + K5 + K6 + 1 + 1, ?_⟩
  unfold turnbucklelaw01_LeParts.f
  rw [e1 _ (by omega)]; simp only [Option.bind_some, if_true]
  by_cases h3 : (s.size : Int) > 2000
  · rw [if_pos h3]
  · rw [if_neg h3, hn, part_eq s p n hs hp hn2, rpart_eq s p n hs hp hn2, e2 _ (by omega), e3 _ (by omega)]
    simp only [Option.bind_some, if_true, bne_self_eq_false, Bool.false_eq_true, if_false, turnbucklelaw01_LeParts.j0]
    rw [text_eq s p a2 hs, e4 _ (by omega)]
    simp only [Option.bind_some, if_true, bne_self_eq_false, Bool.false_eq_true, if_false, turnbucklelaw01_LeParts.j1]
    rw [e5 _ (by omega)]
    simp only [Option.bind_some]
    by_cases h4 : a2 < 1
    · have hat : atF s p a2 = (0, false) := if_neg (by omega)
      rw [if_pos h4, hat]; simp
    · rw [if_neg h4]
      by_cases h5 : a2 > 8
      · have hat : atF s p a2 = (0, false) := if_neg (by omega)
        rw [if_pos h5, hat]; simp
      · rw [if_neg h5, e6 _ (by omega)]
        have h7 := hn3 (by omega)
        by_cases h6 : p + n ≤ s.size
        · have hat : atF s p a2 = (getS (s.extract p (p + n)), true) := by rw [h7]; exact if_pos ⟨by omega, by omega, by omega⟩
          have hpt : partF s p n = (s.extract p (p + n), true) := if_pos h6
          rw [hat, hpt]; simp
        · have hat : atF s p a2 = (0, false) := if_neg (by omega)
          have hpt : partF s p n = (⟨#[]⟩, false) := if_neg h6
          rw [hat, hpt]; simp
end Go.Proofs.Ytdiecgjhmlljmaa.Pure
