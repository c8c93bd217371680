/-
  DERIVED. GIVEN WITH THE SEED: THE CARDS: each row of YtoolfgohbffgnaaDoorRows.lean that lists a variable, with what it lists TIED to the program's text (the seventh form; the later family's looks); each row that meets fmt, with fmt's text TOLD by the authors' own Lean function (tested against real Go, not proved from fmt's source: count such statements apart). THE CARD IS WHAT COUNTS. Prove the row's statement (the work); the ties are given (YtoolfgohbffgnaaDoorTie.lean); close each card by the builder's one call (the guide's Derived/Test/ToyasCard.lean, 'card_holds'). Laid BY PROGRAM, IN A SANDBOX (cutbox-door.mjs). By AI agents, Wed Nov 11 2026. No macro, syntax, notation, axiom, sorry.
-/
import Derived.Test.YtoolfgohbffgnaaDoorRows
import GoSem.ClaimSeven
namespace Go.Proofs.YtoolfgohbffgnaaDoor
namespace Rows

/-- THE TIED CARD OF 'turnbucklelaw05.WordOps'. -/
def wordOpsCard : Claim7 := { stood := { row := wordOpsRow, standIns := [], harness := (true, "c830c46b7e78c655a48da6df24d4ea22f0119370fe9755dae2788f61510972d8"), looks := false }, kinds := [], alts := [], laidByText := true, laidKinds := [.widerDeep], laidTests := true, laidLooks := .later }
def WordOpsCardSaid : Prop := Claim7.holds Tryd.pinned (.plain (OpenSpec.ofChange wordOpsSpec)) wordOpsCard

/-- THE TIED CARD OF 'turnbucklelaw05.WordDivides'. -/
def wordDividesCard : Claim7 := { stood := { row := wordDividesRow, standIns := [], harness := (true, "c830c46b7e78c655a48da6df24d4ea22f0119370fe9755dae2788f61510972d8"), looks := false }, kinds := [], alts := [], laidByText := true, laidKinds := [.widerDeep], laidTests := true, laidLooks := .later }
def WordDividesCardSaid : Prop := Claim7.holds Tryd.pinned (.plain (OpenSpec.ofChange wordDividesSpec)) wordDividesCard

/-- THE TIED CARD OF 'turnbucklelaw05.WordHalves'. -/
def wordHalvesCard : Claim7 := { stood := { row := wordHalvesRow, standIns := [], harness := (true, "c830c46b7e78c655a48da6df24d4ea22f0119370fe9755dae2788f61510972d8"), looks := false }, kinds := [], alts := [], laidByText := true, laidKinds := [.widerDeep], laidTests := true, laidLooks := .later }
def WordHalvesCardSaid : Prop := Claim7.holds Tryd.pinned (.plain (OpenSpec.ofChange wordHalvesSpec)) wordHalvesCard

/-- THE TIED CARD OF 'turnbucklelaw05.WordShifts'. -/
def wordShiftsCard : Claim7 := { stood := { row := wordShiftsRow, standIns := [], harness := (true, "c830c46b7e78c655a48da6df24d4ea22f0119370fe9755dae2788f61510972d8"), looks := false }, kinds := [], alts := [], laidByText := true, laidKinds := [.widerDeep], laidTests := true, laidLooks := .later }
def WordShiftsCardSaid : Prop := Claim7.holds Tryd.pinned (.plain (OpenSpec.ofChange wordShiftsSpec)) wordShiftsCard

/-- THE TIED CARD OF 'turnbucklelaw05.WordNames'. -/
def wordNamesCard : Claim7 := { stood := { row := wordNamesRow, standIns := [], harness := (true, "c830c46b7e78c655a48da6df24d4ea22f0119370fe9755dae2788f61510972d8"), looks := false }, kinds := [], alts := [], laidByText := true, laidKinds := [.widerDeep], laidTests := true, laidLooks := .later }
def WordNamesCardSaid : Prop := Claim7.holds Tryd.pinned (.plain (OpenSpec.ofChange wordNamesSpec)) wordNamesCard

/-- THE SECOND FORM's CARD OF 'turnbucklelaw05.WordOps'. -/
def wordOpsUptoCard : Claim7 := { stood := { row := wordOpsUptoRow, standIns := [], harness := (true, "c830c46b7e78c655a48da6df24d4ea22f0119370fe9755dae2788f61510972d8"), looks := false }, kinds := [], alts := [], laidByText := true, laidKinds := [.widerDeep], laidTests := true, laidLooks := .later }
def WordOpsUptoCardSaid : Prop := Claim7.holds Tryd.pinned (.plain (OpenSpec.upto wordOpsSpec)) wordOpsUptoCard

/-- THE SECOND FORM's CARD OF 'turnbucklelaw05.WordDivides'. -/
def wordDividesUptoCard : Claim7 := { stood := { row := wordDividesUptoRow, standIns := [], harness := (true, "c830c46b7e78c655a48da6df24d4ea22f0119370fe9755dae2788f61510972d8"), looks := false }, kinds := [], alts := [], laidByText := true, laidKinds := [.widerDeep], laidTests := true, laidLooks := .later }
def WordDividesUptoCardSaid : Prop := Claim7.holds Tryd.pinned (.plain (OpenSpec.upto wordDividesSpec)) wordDividesUptoCard

/-- THE SECOND FORM's CARD OF 'turnbucklelaw05.WordHalves'. -/
def wordHalvesUptoCard : Claim7 := { stood := { row := wordHalvesUptoRow, standIns := [], harness := (true, "c830c46b7e78c655a48da6df24d4ea22f0119370fe9755dae2788f61510972d8"), looks := false }, kinds := [], alts := [], laidByText := true, laidKinds := [.widerDeep], laidTests := true, laidLooks := .later }
def WordHalvesUptoCardSaid : Prop := Claim7.holds Tryd.pinned (.plain (OpenSpec.upto wordHalvesSpec)) wordHalvesUptoCard

/-- THE SECOND FORM's CARD OF 'turnbucklelaw05.WordShifts'. -/
def wordShiftsUptoCard : Claim7 := { stood := { row := wordShiftsUptoRow, standIns := [], harness := (true, "c830c46b7e78c655a48da6df24d4ea22f0119370fe9755dae2788f61510972d8"), looks := false }, kinds := [], alts := [], laidByText := true, laidKinds := [.widerDeep], laidTests := true, laidLooks := .later }
def WordShiftsUptoCardSaid : Prop := Claim7.holds Tryd.pinned (.plain (OpenSpec.upto wordShiftsSpec)) wordShiftsUptoCard

/-- THE SECOND FORM's CARD OF 'turnbucklelaw05.WordNames'. -/
def wordNamesUptoCard : Claim7 := { stood := { row := wordNamesUptoRow, standIns := [], harness := (true, "c830c46b7e78c655a48da6df24d4ea22f0119370fe9755dae2788f61510972d8"), looks := false }, kinds := [], alts := [], laidByText := true, laidKinds := [.widerDeep], laidTests := true, laidLooks := .later }
def WordNamesUptoCardSaid : Prop := Claim7.holds Tryd.pinned (.plain (OpenSpec.upto wordNamesSpec)) wordNamesUptoCard
end Rows
end Go.Proofs.YtoolfgohbffgnaaDoor
