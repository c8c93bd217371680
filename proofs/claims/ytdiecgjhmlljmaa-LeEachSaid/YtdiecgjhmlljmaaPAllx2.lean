-- Written by a program of this session (a changed copy of the print of the kit). Not trusted: Lean checks it.
import Derived.Test.YtdiecgjhmlljmaaPAllx0
import Derived.Test.YtdiecgjhmlljmaaStrCut
namespace Go.Proofs.Ytdiecgjhmlljmaa.PAll
open Go.RowKit Go.Proofs.YtdiecgjhmlljmaaW.PrintWords Go.Proofs.YtdiecgjhmlljmaaW.PrintLast Go.Proofs.YtdiecgjhmlljmaaW.PrintMore
attribute [local go_sem] max2_int min2_int max_two min_two max_three min_three max_four min_four   -- for this text's walks alone
set_option linter.unusedVariables false
set_option linter.unusedSimpArgs false

-- GIVENCHUNK
-- GIVEN rounds=0 making=0
-- NEEDS Derived.Test.YtdiecgjhmlljmaaStrCut
/-! ### strings_Cut: function 24 (given by hand) -/
def strings_Cut.f (a0 a1 : ByteArray) : Option (ByteArray × ByteArray × Bool) := if h : a1.size = 1 ∧ a0.size ≤ 140737488351232 then some (Go.Proofs.YtdiecgjhmlljmaaCut.cut1 a0 (a1[0]'(by omega))) else none
theorem strings_Cut.calls (a0 a1 : ByteArray) (r1 r2 : ByteArray) (r3 : Bool) (w : World) (h : strings_Cut.f a0 a1 = some (r1, r2, r3)) :
    Calls Try.prog 24 #[.string a0, .string a1] w fun e w' => e = .returned (.tuple #[.string r1, .string r2, .bool r3]) ∧ Drawn0 w w' := by
  unfold strings_Cut.f at h
  split at h
  · rename_i hb
    obtain ⟨⟨l⟩⟩ := a1
    match l, hb with
    | [c], hb =>
      have h2 := Option.some.inj h
      refine (Go.Proofs.YtdiecgjhmlljmaaCut.cut_calls a0 c w hb.2).mono ?_
      rintro e w' ⟨rfl, n, rfl⟩
      have h3 : Go.Proofs.YtdiecgjhmlljmaaCut.cut1 a0 c = (r1, r2, r3) := h2
      rw [h3]
      exact ⟨rfl, ⟨n, rfl⟩⟩
  · cases h

end Go.Proofs.Ytdiecgjhmlljmaa.PAll
