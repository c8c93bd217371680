/- The law LeNumbers over what its functions compute: for every number, size and count of bits it answers true. -/
import Derived.Test.YtdiecgjhmlljmaaLePure
namespace Go.Proofs.Ytdiecgjhmlljmaa.Pure
open Go Go.RowKit Go.Proofs.Ytdiecgjhmlljmaa.PAll Go.Proofs.YtdiecgjhmlljmaaW.PrintWords Go.Proofs.YtdiecgjhmlljmaaW.PrintLast Go.Proofs.Ytdiecgjhmlljmaa.Nice

theorem LeNumbers : turnbucklelaw01_LeNumbers.Pure := by
  intro a0 a1 a2 h0 h1 h2
  obtain ⟨l0, u0⟩ := u64_bounds h0
  obtain ⟨n, rfl⟩ := Int.eq_ofNat_of_zero_le l0
  have hn : n < 18446744073709551616 := by omega
  obtain ⟨K1, e1⟩ := speaks_ev
  obtain ⟨K2, e2⟩ := put_ev n a1 hn
  obtain ⟨K3, e3⟩ := rput_ev n a1 hn
  obtain ⟨K4, e4⟩ := rext_ev n a2 hn
  obtain ⟨K5, e5⟩ := get_ev (putF n a1)
  have hsz : (putF n a1).size ≤ 140737488351232 := by rw [putF_size]; split <;> omega
  obtain ⟨K6, e6⟩ := rget_ev (putF n a1) hsz
  dsimp only at e1 e2 e3 e4 e5 e6
  refine ⟨K1 + K2 + K3 + K4 + K5 + K6 + 1, ?_⟩
  unfold turnbucklelaw01_LeNumbers.f
  rw [e1 _ (by omega)]; simp only [Option.bind_some, if_true]
  rw [e2 _ (by omega)]; simp only [Option.bind_some]
  rw [e3 _ (by omega)]; simp only [Option.bind_some, if_true]
  rw [extend_eq n a2 hn]; simp only [Option.bind_some]
  rw [e4 _ (by omega)]; simp only [Option.bind_some, turnbucklelaw01_LeNumbers.j0, bne_self_eq_false, Bool.false_eq_true, if_false]
  by_cases h3 : a1 < 1
  · rw [if_pos h3]
  · rw [if_neg h3]
    by_cases h4 : a1 > 8
    · rw [if_pos h4]
    · rw [if_neg h4, if_pos (by rw [putF_size, if_pos ⟨by omega, by omega⟩]; omega), e5 _ (by omega)]; simp only [Option.bind_some]
      rw [e6 _ (by omega)]; simp only [Option.bind_some, if_true]
      by_cases h5 : a1 < 8
      · rw [if_pos h5]
      · rw [if_neg h5]
        obtain rfl : a1 = 8 := by omega
        rw [get_put8 n hn]
        simp
end Go.Proofs.Ytdiecgjhmlljmaa.Pure
