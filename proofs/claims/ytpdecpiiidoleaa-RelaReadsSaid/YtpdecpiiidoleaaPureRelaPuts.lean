/- The law RelaPuts over what its functions compute. -/
import Derived.Test.YtpdecpiiidoleaaRelaNice
import Derived.Test.YtpdecpiiidoleaaPureRelaValues
namespace Go.Proofs.Ytpdecpiiidoleaa.Pure
open Go Go.RowKit Go.Proofs.Ytpdecpiiidoleaa.PAll Go.Proofs.YtpdecpiiidoleaaW.PrintWords Go.Proofs.YtpdecpiiidoleaaW.PrintLast Go.Proofs.Ytpdecpiiidoleaa.Nice
def relaF (n0 n1 n2 n3 : Nat) : ByteArray := putF n0 8 ++ putF n1 4 ++ putF n2 4 ++ putF n3 8
theorem relaF_size (n0 n1 n2 n3 : Nat) : (relaF n0 n1 n2 n3).size = 24 := by
  simp only [relaF, ByteArray.size_append, putF_size]
  simp
/-- rela.Put, of what goes into bytes. -/
theorem rela_put_ev (n0 n1 n2 n3 : Nat) (h0 : n0 < 18446744073709551616) (h1 : n1 < 4294967296) (h2 : n2 < 4294967296) (h3 : n3 < 18446744073709551616) : Ev (fun k => rela_Put.f k n0 n1 n2 n3) (relaF n0 n1 n2 n3) := by
  obtain ⟨K0, e0⟩ := put_ev n0 8 h0
  obtain ⟨K1, e1⟩ := put_ev n1 4 (by omega)
  obtain ⟨K2, e2⟩ := put_ev n2 4 (by omega)
  obtain ⟨K3, e3⟩ := put_ev n3 8 h3
  dsimp only at e0 e1 e2 e3
  refine ⟨K0 + K1 + K2 + K3 + 1, fun k hk => ?_⟩
  obtain ⟨j, rfl⟩ : ∃ j, k = j + 1 := ⟨k - 1, by omega⟩
  have w1 : IntKind.u64.wrap (n1 : Int) = n1 := u64w (by omega) (by omega)
  have w2 : IntKind.u64.wrap (n2 : Int) = n2 := u64w (by omega) (by omega)
  have s0 : (putF n0 8).size = 8 := by rw [putF_size]; simp
  have s1 : (putF n1 4).size = 4 := by rw [putF_size]; simp
  have s2 : (putF n2 4).size = 4 := by rw [putF_size]; simp
  have s3 : (putF n3 8).size = 8 := by rw [putF_size]; simp
  simp only [rela_Put.f]
  rw [if_neg (by omega), if_neg (by omega), if_neg (by omega), decide_eq_false (by omega)]
  simp only [rela_Put.j0, Bool.false_eq_true, if_false, w1, w2]
  rw [e0 _ (by omega), e1 _ (by omega), e2 _ (by omega), e3 _ (by omega)]
  simp only [Option.bind_some, ByteArray.size_append, s0, s1, s2, s3, Nat.reduceAdd]
  rw [if_pos (by decide), if_pos (by decide), if_pos (by decide)]
  rfl
theorem rela_rput_ev (n0 n1 n2 n3 : Nat) (h0 : n0 < 18446744073709551616) (h1 : n1 < 4294967296) (h2 : n2 < 4294967296) (h3 : n3 < 18446744073709551616) : Ev (fun k => turnbuckleref15_Put.f k n0 n1 n2 n3) (relaF n0 n1 n2 n3) := by
  obtain ⟨K0, e0⟩ := rput_ev n0 8 h0
  obtain ⟨K1, e1⟩ := rput_ev n1 4 (by omega)
  obtain ⟨K2, e2⟩ := rput_ev n2 4 (by omega)
  obtain ⟨K3, e3⟩ := rput_ev n3 8 h3
  dsimp only at e0 e1 e2 e3
  refine ⟨K0 + K1 + K2 + K3 + 1, fun k hk => ?_⟩
  have w1 : IntKind.u64.wrap (n1 : Int) = n1 := u64w (by omega) (by omega)
  have w2 : IntKind.u64.wrap (n2 : Int) = n2 := u64w (by omega) (by omega)
  have s0 : (putF n0 8).size = 8 := by rw [putF_size]; simp
  have s1 : (putF n1 4).size = 4 := by rw [putF_size]; simp
  have s2 : (putF n2 4).size = 4 := by rw [putF_size]; simp
  have s3 : (putF n3 8).size = 8 := by rw [putF_size]; simp
  simp only [turnbuckleref15_Put.f, w1, w2]
  rw [e0 _ (by omega), e1 _ (by omega), e2 _ (by omega), e3 _ (by omega)]
  simp only [Option.bind_some, ByteArray.size_append, s0, s1, s2, s3, Nat.reduceAdd]
  rw [if_pos (by decide), if_pos (by decide), if_pos (by decide)]
  rfl
theorem RelaPuts : turnbucklelaw15_RelaPuts.Pure := by
  intro x0 x1 x2 x3 h0 h1 h2 h3
  obtain ⟨l0, u0⟩ := u64_bounds h0
  obtain ⟨l1, u1⟩ := i64_bounds h1
  obtain ⟨l2, u2⟩ := i64_bounds h2
  obtain ⟨l3, u3⟩ := u64_bounds h3
  obtain ⟨K1, e1⟩ := law_speaks
  dsimp only at e1
  by_cases hin : 0 ≤ x1 ∧ x1 < 4294967296 ∧ 0 ≤ x2 ∧ x2 < 4294967296
  · obtain ⟨n0, rfl⟩ := Int.eq_ofNat_of_zero_le l0
    obtain ⟨n1, rfl⟩ := Int.eq_ofNat_of_zero_le hin.1
    obtain ⟨n2, rfl⟩ := Int.eq_ofNat_of_zero_le hin.2.2.1
    obtain ⟨n3, rfl⟩ := Int.eq_ofNat_of_zero_le l3
    obtain ⟨K2, e2⟩ := rela_put_ev n0 n1 n2 n3 (by omega) (by omega) (by omega) (by omega)
    obtain ⟨K3, e3⟩ := rela_rput_ev n0 n1 n2 n3 (by omega) (by omega) (by omega) (by omega)
    dsimp only at e2 e3
    refine ⟨K1 + K2 + K3, ?_⟩
    unfold turnbucklelaw15_RelaPuts.f
    rw [e1 _ (by omega)]
    simp only [Option.bind_some, if_true]
    rw [e2 _ (by omega)]
    simp only [Option.bind_some]
    rw [if_neg (by omega), if_neg (by omega), if_neg (by omega), if_neg (by omega), e3 _ (by omega)]
    simp
  · have hp : rela_Put.f (K1 + 1) x0 x1 x2 x3 = some ⟨#[]⟩ := by
      simp only [rela_Put.f]
      by_cases a1 : x1 < 0
      · rw [if_pos a1]; rfl
      · rw [if_neg a1]
        by_cases a2 : x1 ≥ 4294967296
        · rw [if_pos a2]; rfl
        · rw [if_neg a2]
          by_cases a3 : x2 < 0
          · rw [if_pos a3]; rfl
          · rw [if_neg a3, decide_eq_true (by omega)]; rfl
    have hem : ((⟨#[]⟩ : ByteArray).toList == ([] : List UInt8)) = true := by decide +kernel
    refine ⟨K1 + 1, ?_⟩
    unfold turnbucklelaw15_RelaPuts.f
    rw [e1 _ (by omega)]
    simp only [Option.bind_some, if_true]
    rw [hp]
    simp only [Option.bind_some]
    by_cases a1 : x1 < 0
    · rw [if_pos a1, hem]
    · rw [if_neg a1]
      by_cases a2 : x1 ≥ 4294967296
      · rw [if_pos a2, hem]
      · rw [if_neg a2]
        by_cases a3 : x2 < 0
        · rw [if_pos a3, hem]
        · rw [if_neg a3, if_pos (by omega), hem]
end Go.Proofs.Ytpdecpiiidoleaa.Pure
