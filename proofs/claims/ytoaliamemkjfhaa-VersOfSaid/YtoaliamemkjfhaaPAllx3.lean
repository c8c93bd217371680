-- Written by a program of this session (a changed copy of the print of the kit). Not trusted: Lean checks it.
import Derived.Test.YtoaliamemkjfhaaPAllx0
import Derived.Test.YtoaliamemkjfhaaStrCut
namespace Go.Proofs.Ytoaliamemkjfhaa.PAll
open Go.RowKit Go.Proofs.YtoaliamemkjfhaaW.PrintWords Go.Proofs.YtoaliamemkjfhaaW.PrintLast Go.Proofs.YtoaliamemkjfhaaW.PrintMore
attribute [local go_sem] max2_int min2_int max_two min_two max_three min_three max_four min_four   -- for this text's walks alone
set_option linter.unusedVariables false
set_option linter.unusedSimpArgs false

-- GIVENCHUNK
-- GIVEN rounds=0 making=0
-- NEEDS Derived.Test.YtoaliamemkjfhaaStrCut
/-! ### strings_Cut: function 44 (given by hand) -/
def strings_Cut.f (a0 a1 : ByteArray) : Option (ByteArray × ByteArray × Bool) := if h : a1.size = 1 ∧ a0.size ≤ 140737488351232 then some (Go.Proofs.YtoaliamemkjfhaaCut.cut1 a0 (a1[0]'(by omega))) else none
theorem strings_Cut.calls (a0 a1 : ByteArray) (r1 r2 : ByteArray) (r3 : Bool) (w : World) (h : strings_Cut.f a0 a1 = some (r1, r2, r3)) :
    Calls Try.prog 44 #[.string a0, .string a1] w fun e w' => e = .returned (.tuple #[.string r1, .string r2, .bool r3]) ∧ Drawn0 w w' := by
  unfold strings_Cut.f at h
  split at h
  · rename_i hb
    obtain ⟨⟨l⟩⟩ := a1
    match l, hb with
    | [c], hb =>
      have h2 := Option.some.inj h
      refine (Go.Proofs.YtoaliamemkjfhaaCut.cut_calls a0 c w hb.2).mono ?_
      rintro e w' ⟨rfl, n, rfl⟩
      have h3 : Go.Proofs.YtoaliamemkjfhaaCut.cut1 a0 c = (r1, r2, r3) := h2
      rw [h3]
      exact ⟨rfl, ⟨n, rfl⟩⟩
  · cases h

end Go.Proofs.Ytoaliamemkjfhaa.PAll
