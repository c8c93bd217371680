-- Written by a program of this session (a changed copy of the print of the kit). Not trusted: Lean checks it.
import Derived.Test.YtoolfgohbffgnaaDoorPNnx0
import Derived.Test.YtoolfgohbffgnaaDoorGlob
import Derived.Deep.DeepMust
namespace Go.Proofs.YtoolfgohbffgnaaDoor.PNn
open Go.RowKit Go.Proofs.YtoolfgohbffgnaaDoorW.PrintWords Go.Proofs.YtoolfgohbffgnaaDoorW.PrintLast Go.Proofs.YtoolfgohbffgnaaDoorW.PrintMore
attribute [local go_sem] max2_int min2_int max_two min_two max_three min_three max_four min_four   -- for this text's walks alone
set_option linter.unusedVariables false
set_option linter.unusedSimpArgs false

-- GIVENCHUNK
-- GIVEN rounds=0 making=0 global=1
-- NEEDS Derived.Test.YtoolfgohbffgnaaDoorGlob
-- NEEDS Derived.Deep.DeepMust
/-! ### word_Op_Name: function 13 (given by hand) -/
section
open Go.Proofs.YtoolfgohbffgnaaDoorGlob
def word_Op_Name.f (a0 : Int) : Option ByteArray := some (if a0 < 0 then ⟨#[]⟩ else if a0 ≥ 28 then ⟨#[]⟩ else names.getD a0.toNat ⟨#[]⟩)
set_option maxHeartbeats 4000000 in
set_option maxRecDepth 100000 in
theorem word_Op_Name.calls (a0 : Int) (r : ByteArray) (w : World) (hG_ : Is w) (h : word_Op_Name.f a0 = some r) :
    Calls Tryd.prog 13 #[.int .i64 a0] w fun e w' => e = .returned (.string r) ∧ Drawn0 w w' := by
  unfold word_Op_Name.f at h
  have h := Option.some.inj h
  subst h
  have hcell : ∀ i : Nat, i < 28 → w.cell? ⟨0, i, none⟩ = some (.string (names.getD i ⟨#[]⟩)) := hG_.cell
  clear hG_
  generalize names = nm at hcell ⊢
  by_cases c0 : a0 < 0
  · rw [if_pos c0]
    have c0b := decide_eq_true c0
    clear hcell
    go_enter Tryd.func13, Tryd.ntmps13
    go_wp2
    go_ret
    exact ⟨rfl, Drawn0.refl _⟩
  rw [if_neg c0]
  have c0b := decide_eq_false c0
  by_cases c1 : a0 ≥ 28
  · rw [if_pos c1]
    have c1b : decide (28 ≤ a0) = true := decide_eq_true c1
    clear hcell
    go_enter Tryd.func13, Tryd.ntmps13
    go_wp2
    go_ret
    exact ⟨rfl, Drawn0.refl _⟩
  · rw [if_neg c1]
    have c1b : decide (28 ≤ a0) = false := decide_eq_false (by omega)
    obtain ⟨n, rfl⟩ := Int.eq_ofNat_of_zero_le (show 0 ≤ a0 by omega)
    have hn : n < 28 := by omega
    have hc := hcell n hn
    rw [Int.toNat_natCast]
    generalize nm.getD n ⟨#[]⟩ = x at hc ⊢
    clear hcell h
    have h1 : Tryd.prog.arrayLen 40 = 28 := by kernel_rfl
    go_enter Tryd.func13, Tryd.ntmps13
    go_wp2
    go_ret
    exact ⟨rfl, Drawn0.refl _⟩
end

end Go.Proofs.YtoolfgohbffgnaaDoor.PNn
