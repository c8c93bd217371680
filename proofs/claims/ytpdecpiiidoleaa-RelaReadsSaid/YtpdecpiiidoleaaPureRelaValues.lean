/- The law RelaValues over what its functions compute. -/
import Derived.Test.YtpdecpiiidoleaaRelaNice
namespace Go.Proofs.Ytpdecpiiidoleaa.Pure
open Go Go.RowKit Go.Proofs.Ytpdecpiiidoleaa.PAll Go.Proofs.YtpdecpiiidoleaaW.PrintWords Go.Proofs.YtpdecpiiidoleaaW.PrintLast Go.Proofs.Ytpdecpiiidoleaa.Nice
theorem law_speaks : Ev (fun k => turnbucklelaw15_speaks.f k) true := Ev.of turnbucklelaw15_speaks.mono (k := 40) (by decide +kernel)
theorem RelaValues : turnbucklelaw15_RelaValues.Pure := by
  intro x0 x1 x2 x3 a1 a2 _ _ _ _ _ _
  obtain ⟨K1, e1⟩ := law_speaks
  dsimp only at e1
  refine ⟨K1 + 1, ?_⟩
  unfold turnbucklelaw15_RelaValues.f
  rw [e1 _ (by omega)]
  simp only [Option.bind_some, if_true]
  unfold rela_Rela_Value.f
  by_cases h2 : x1 = 2
  · subst h2
    simp [rela_Rela_Value.j0, turnbucklelaw15_RelaValues.j0]
  · by_cases h5 : x1 = 5
    · subst h5
      simp [rela_Rela_Value.j0, turnbucklelaw15_RelaValues.j0]
    · by_cases h3 : x1 = 3
      · subst h3
        simp [rela_Rela_Value.j0, turnbucklelaw15_RelaValues.j0]
      · have hb : (x1 == 5) = false := beq_eq_false_iff_ne.mpr h5
        simp [rela_Rela_Value.j0, turnbucklelaw15_RelaValues.j0, h2, h3, hb]
end Go.Proofs.Ytpdecpiiidoleaa.Pure
