/-
  Walks of functions of the given program, and what they compute.
-/
import Derived.Test.YtdiecgjhmlljmaaE2
import Derived.Test.YtdiecgjhmlljmaaA18
import Derived.Test.YtdiecgjhmlljmaaProg
import Derived.KernelRfl
namespace Go.Proofs.YtdiecgjhmlljmaaA
set_option linter.unusedVariables false
open Go Go.RowKit Go.Shelf Go.Proofs

theorem ext_size (s : ByteArray) (i j : Nat) : (s.extract i j).size = min j s.size - i := by
  rw [ByteArray.size_extract]
theorem ext_add (s : ByteArray) (i j : Nat) (h : i ≤ j) : s.extract 0 i ++ s.extract i j = s.extract 0 j := by
  rw [ByteArray.extract_append_extract]
  congr 1 <;> omega
theorem ext_zero (s : ByteArray) : s.extract 0 0 = ⟨#[]⟩ := by
  have : (s.extract 0 0).size = 0 := by rw [ext_size]; omega
  exact ByteArray.ext (Array.eq_empty_of_size_eq_zero this)
/-- After how many parts one stops. -/
def stopAt (s : ByteArray) (size stop : Int) : Nat := if 1 ≤ stop ∧ stop < (eachN s size : Nat) then stop.toNat else eachN s size
theorem each_run {H0 : AHeap} {n0 : Nat} (h0 : H0.length = n0) (s : ByteArray) (hs : s.size ≤ 300) (size stop : Int) (hsz : size ≤ 9223372036854775807) :
    ACalls Try.prog 25 [.func (.func 22) #[] #[.pointer (some ⟨n0 + 4, 0, none⟩), .pointer (some ⟨n0 + 3, 0, none⟩), .pointer (some ⟨n0 + 0, 0, none⟩), .pointer (some ⟨n0 + 2, 0, none⟩), .pointer (some ⟨n0 + 1, 0, none⟩)], .pointer (some ⟨n0 + 6, 0, none⟩), .pointer (some ⟨n0 + 5, 0, none⟩)] (H0 ++ [.cells true [.int .i64 size] 1, .cells true [.int .i64 stop] 1, .cells true [.string (⟨#[]⟩)] 1, .cells true [.int .i64 (0)] 1, .cells true [.bool (true)] 1, .cells true [.string s] 1, .cells true [.int .i64 size] 1]) (fun v H' => v = .tuple #[] ∧ H' = H0 ++ [.cells true [.int .i64 size] 1, .cells true [.int .i64 stop] 1, .cells true [.string (s.extract 0 (stopAt s size stop * size.toNat))] 1, .cells true [.int .i64 (((stopAt s size stop : Nat) : Int))] 1, .cells true [.bool (true)] 1, .cells true [.string s] 1, .cells true [.int .i64 size] 1]) := by
  have hN : ∀ k, k < eachN s size → ∃ z : Nat, size = z ∧ 1 ≤ z ∧ (k + 1) * z ≤ s.size := fun k hk => by
    by_cases h : size < 1
    · rw [eachN_lt h] at hk; omega
    · obtain ⟨z, rfl⟩ := Int.eq_ofNat_of_zero_le (show 0 ≤ size by omega)
      rw [eachN_nat h] at hk
      exact ⟨z, rfl, by omega, each_in hk⟩
  have hNs : eachN s size ≤ 300 := by
    by_cases h : size < 1
    · rw [eachN_lt h]; omega
    · obtain ⟨z, rfl⟩ := Int.eq_ofNat_of_zero_le (show 0 ≤ size by omega)
      rw [eachN_nat h]
      exact Nat.le_trans (Nat.div_le_self _ _) hs
  refine (each1_ok (H0 := H0 ++ [.cells true [.int .i64 size] 1, .cells true [.int .i64 stop] 1, .cells true [.string (⟨#[]⟩)] 1, .cells true [.int .i64 (0)] 1, .cells true [.bool (true)] 1, .cells true [.string s] 1, .cells true [.int .i64 size] 1]) (loc_len h0 rfl) s (by omega) size hsz _ (n0 + 6) (n0 + 5)
    (fun k H => k ≤ eachN s size ∧ H = H0 ++ [.cells true [.int .i64 size] 1, .cells true [.int .i64 stop] 1, .cells true [.string (s.extract 0 (k * size.toNat))] 1, .cells true [.int .i64 (((k : Nat) : Int))] 1, .cells true [.bool (true)] 1, .cells true [.string s] 1, .cells true [.int .i64 size] 1] ∧ ∀ j : Nat, 1 ≤ j → j ≤ k → (j : Int) ≠ stop)
    (fun H => ∃ k : Nat, k < eachN s size ∧ ((k + 1 : Nat) : Int) = stop ∧ H = H0 ++ [.cells true [.int .i64 size] 1, .cells true [.int .i64 stop] 1, .cells true [.string (s.extract 0 ((k + 1) * size.toNat))] 1, .cells true [.int .i64 (((k + 1 : Nat) : Int))] 1, .cells true [.bool (true)] 1, .cells true [.string s] 1, .cells true [.int .i64 size] 1]) ?_ ?_ ?_).mono ?_
  · refine ⟨Nat.zero_le _, ?_, fun j h1 h2 => by omega⟩
    rw [Nat.zero_mul, ext_zero]; rfl
  · rintro k H ⟨_, rfl, _⟩
    exact ⟨loc_get h0 rfl, loc_get h0 rfl⟩
  · rintro k H ⟨hk, rfl, hst⟩ hlt
    obtain ⟨z, rfl, hz1, hz2⟩ := hN k hlt
    have hp : epart s (z : Int) k = s.extract (k * z) ((k + 1) * z) := rfl
    have e1 : (epart s (z : Int) k).size = z := by rw [hp, ext_size, Nat.min_eq_left hz2, Nat.add_mul]; omega
    have hle : k * z ≤ (k + 1) * z := Nat.mul_le_mul_right z (Nat.le_succ k)
    refine ylds_func Try.call22 ((clos_ok h0 s (s.extract 0 (k * z)) (epart s (z : Int) k) z stop k k true ?_ ?_).mono ?_)
    · have h9 : z ≤ s.size := Nat.le_trans (Nat.le_mul_of_pos_left z (Nat.succ_pos k)) hz2
      rw [e1, ext_size]; omega
    · omega
    · rintro v H ⟨rfl, rfl⟩
      have e2 : s.extract 0 (k * z) ++ epart s (z : Int) k = s.extract 0 ((k + 1) * z) := ext_add s _ _ hle
      have e3 : (true && (k : Int) == (k : Int) && ((epart s (z : Int) k).size : Int) == (z : Int)) = true := by simp [e1]
      rw [e2, e3]
      refine ⟨_, rfl, fun hb => ⟨hlt, rfl, fun j h1 h2 => ?_⟩, fun hb => ⟨k, hlt, ?_, rfl⟩⟩
      · by_cases hj : j = k + 1
        · subst hj; simpa using hb
        · exact hst j h1 (by omega)
      · simpa using hb
  · rintro v H' ⟨rfl, ⟨_, rfl, hst⟩ | ⟨k, hk, hst, rfl⟩⟩
    · refine ⟨rfl, ?_⟩
      have : stopAt s size stop = eachN s size := by
        unfold stopAt
        rw [if_neg]
        rintro ⟨h1, h2⟩
        exact hst stop.toNat (by omega) (by omega) (by omega)
      rw [this]
    · refine ⟨rfl, ?_⟩
      have : stopAt s size stop = k + 1 := by
        unfold stopAt
        split <;> omega
      rw [this]

end Go.Proofs.YtdiecgjhmlljmaaA
