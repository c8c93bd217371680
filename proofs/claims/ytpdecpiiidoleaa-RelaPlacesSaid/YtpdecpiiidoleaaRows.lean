/-
  No cell of these rows narrows 'for every input' (looked for: loops, veiled, ifaces, maps, wideKeys, modest, calm, conditions, laid).
  DERIVED. THE GIVEN ROWS OF THIS SEAT. 4 by the template 'for every input the law returns true; each argument reads behind the call as it read before'; 0 by the template 'total and deterministic' (their statements: YtpdecpiiidoleaaTotals.lean).
  GIVEN WITH THE SEED: the statements are not yours to turn. If you find one false, say at which input.
  Laid BY PROGRAM, IN A SANDBOX (cutbox-rows.mjs): the forced cells as the released guide's own fill.sh prints them over the translation ce78e48037e89618… (all of the seat's roots in one cut). By AI agents, Wed Nov 11 2026. No macro, syntax, notation, axiom, sorry.
-/
import Derived.Test.YtpdecpiiidoleaaChecked
import GoSem.Claim
import GoSem.ClaimJoined
import GoSem.ClaimMapViews
import Derived.JoinedTies
import Derived.KernelRfl
namespace Go.Proofs.Ytpdecpiiidoleaa
/- THE CELL 'sum', in the pinned program and in every row, IS THE sha256 OF THE DUMP (.gsa) THAT YtpdecpiiidoleaaProg.lean LOADS. Nothing in Lean hashes anything: it is a label: what it is worth is what the hold of that sum in a sandbox is worth. -/
noncomputable def Try.pinned : Pinned := { name := "ytpdecpiiidoleaa", sum := "ce78e48037e89618b00ffd7e35fddfba2ea6b17fa20421d183f68c9811f2bbec", checked := Try.checked }
namespace Rows
def none {H : Type} : Left H := { results := [], args := [] }

/-- 'turnbucklelaw15.RelaReads': WHATEVER THE INPUT: true; the input reads as it did. -/
def relaReadsSpec : ChangeSpec := { name := "relaReads", fn := fun _ => fun
  | [d1, d2, d3] => { results := [.lit (.bool true)], args := [d1, d2, d3] }
  | _ => none }
def relaReadsRow : OpenClaim := { program := "ytpdecpiiidoleaa", sum := "ce78e48037e89618b00ffd7e35fddfba2ea6b17fa20421d183f68c9811f2bbec", func := "turnbuckle/turnbucklelaw15.RelaReads", spec := "relaReads", unfollowed := true, recurses := true, apart := false }
def RelaReadsSaid : Prop := relaReadsRow.holds Try.pinned (OpenSpec.ofChange relaReadsSpec)

/-- ITS FALSE NEIGHBOUR: 'it returns false'. Refute it at one input. -/
def relaReadsWrong : ChangeSpec := { name := "relaReads", fn := fun _ => fun
  | [d1, d2, d3] => { results := [.lit (.bool false)], args := [d1, d2, d3] }
  | _ => none }
def RelaReadsWrongFalsely : Prop := relaReadsRow.holds Try.pinned (OpenSpec.ofChange relaReadsWrong)

/-- 'turnbucklelaw15.RelaPuts': WHATEVER THE INPUT: true; the input reads as it did. -/
def relaPutsSpec : ChangeSpec := { name := "relaPuts", fn := fun _ => fun
  | [d] => { results := [.lit (.bool true)], args := [d] }
  | _ => none }
def relaPutsRow : OpenClaim := { program := "ytpdecpiiidoleaa", sum := "ce78e48037e89618b00ffd7e35fddfba2ea6b17fa20421d183f68c9811f2bbec", func := "turnbuckle/turnbucklelaw15.RelaPuts", spec := "relaPuts", unfollowed := true, recurses := true, apart := false }
def RelaPutsSaid : Prop := relaPutsRow.holds Try.pinned (OpenSpec.ofChange relaPutsSpec)

/-- ITS FALSE NEIGHBOUR: 'it returns false'. Refute it at one input. -/
def relaPutsWrong : ChangeSpec := { name := "relaPuts", fn := fun _ => fun
  | [d] => { results := [.lit (.bool false)], args := [d] }
  | _ => none }
def RelaPutsWrongFalsely : Prop := relaPutsRow.holds Try.pinned (OpenSpec.ofChange relaPutsWrong)

/-- 'turnbucklelaw15.RelaValues': WHATEVER THE INPUT: true; the input reads as it did. -/
def relaValuesSpec : ChangeSpec := { name := "relaValues", fn := fun _ => fun
  | [d1, d2, d3] => { results := [.lit (.bool true)], args := [d1, d2, d3] }
  | _ => none }
def relaValuesRow : OpenClaim := { program := "ytpdecpiiidoleaa", sum := "ce78e48037e89618b00ffd7e35fddfba2ea6b17fa20421d183f68c9811f2bbec", func := "turnbuckle/turnbucklelaw15.RelaValues", spec := "relaValues", unfollowed := true, recurses := true, apart := false }
def RelaValuesSaid : Prop := relaValuesRow.holds Try.pinned (OpenSpec.ofChange relaValuesSpec)

/-- ITS FALSE NEIGHBOUR: 'it returns false'. Refute it at one input. -/
def relaValuesWrong : ChangeSpec := { name := "relaValues", fn := fun _ => fun
  | [d1, d2, d3] => { results := [.lit (.bool false)], args := [d1, d2, d3] }
  | _ => none }
def RelaValuesWrongFalsely : Prop := relaValuesRow.holds Try.pinned (OpenSpec.ofChange relaValuesWrong)

/-- 'turnbucklelaw15.RelaPlaces': WHATEVER THE INPUT: true; the input reads as it did. -/
def relaPlacesSpec : ChangeSpec := { name := "relaPlaces", fn := fun _ => fun
  | [d1, d2] => { results := [.lit (.bool true)], args := [d1, d2] }
  | _ => none }
def relaPlacesRow : OpenClaim := { program := "ytpdecpiiidoleaa", sum := "ce78e48037e89618b00ffd7e35fddfba2ea6b17fa20421d183f68c9811f2bbec", func := "turnbuckle/turnbucklelaw15.RelaPlaces", spec := "relaPlaces", unfollowed := true, recurses := true, apart := false }
def RelaPlacesSaid : Prop := relaPlacesRow.holds Try.pinned (OpenSpec.ofChange relaPlacesSpec)

/-- ITS FALSE NEIGHBOUR: 'it returns false'. Refute it at one input. -/
def relaPlacesWrong : ChangeSpec := { name := "relaPlaces", fn := fun _ => fun
  | [d1, d2] => { results := [.lit (.bool false)], args := [d1, d2] }
  | _ => none }
def RelaPlacesWrongFalsely : Prop := relaPlacesRow.holds Try.pinned (OpenSpec.ofChange relaPlacesWrong)

/- THE SECOND FORM. 'bulk': how many values and letters a reading holds, each counted each time it is reached (what is shared counts as often as it is met; a slice's spare places count too). A statement '..UptoSaid' is the law's where the arguments, and the package variables that the reading takes, are together of bulk at most 1048576: NARROWER than '..Said'. Prove '..Said' where nothing that the law and all that it calls make is longer than what came in: it says more and counts as full. Else prove '..UptoSaid'. A law counts once. -/
mutual
def uptoBulk {H : Type} : DataW H → Nat
  | .lit (.string bytes) => bytes.length + 1
  | .lit _ => 1
  | .nil => 1
  | .ptr d => uptoBulk d + 1
  | .slice elems spare => uptoBulkAll elems + uptoBulkAll spare + 1
  | .agg parts => uptoBulkAll parts + 1
  | .iface _ d => uptoBulk d + 1
  | .map entries => uptoBulkEntries entries + 1
  | .held _ => 1
def uptoBulkAll {H : Type} : List (DataW H) → Nat
  | [] => 0
  | d :: r => uptoBulk d + uptoBulkAll r
def uptoBulkEntries {H : Type} : List (Lit × DataW H) → Nat
  | [] => 0
  | x :: r => uptoBulkEntry x + uptoBulkEntries r
def uptoBulkEntry {H : Type} : Lit × DataW H → Nat
  | (.string bytes, d) => bytes.length + uptoBulk d + 1
  | (_, d) => uptoBulk d + 1
 end
def uptoSmall : (H : Type) → List (DataW H) → Bool := fun _ ds => decide (uptoBulkAll ds ≤ 1048576)
def OpenSpec.upto (s : _root_.Go.ChangeSpec) : _root_.Go.OpenSpec := { _root_.Go.OpenSpec.ofChange s with cond := some uptoSmall }

/-- 'turnbucklelaw15.RelaReads', WHERE WHAT IT READS IS OF BULK AT MOST 1048576: true; the input reads as it did. -/
def relaReadsUptoRow : OpenClaim := { program := "ytpdecpiiidoleaa", sum := "ce78e48037e89618b00ffd7e35fddfba2ea6b17fa20421d183f68c9811f2bbec", func := "turnbuckle/turnbucklelaw15.RelaReads", spec := "relaReads", unfollowed := true, recurses := true, apart := false, narrowed := true }
def RelaReadsUptoSaid : Prop := relaReadsUptoRow.holds Try.pinned (OpenSpec.upto relaReadsSpec)

/-- 'turnbucklelaw15.RelaPuts', WHERE WHAT IT READS IS OF BULK AT MOST 1048576: true; the input reads as it did. -/
def relaPutsUptoRow : OpenClaim := { program := "ytpdecpiiidoleaa", sum := "ce78e48037e89618b00ffd7e35fddfba2ea6b17fa20421d183f68c9811f2bbec", func := "turnbuckle/turnbucklelaw15.RelaPuts", spec := "relaPuts", unfollowed := true, recurses := true, apart := false, narrowed := true }
def RelaPutsUptoSaid : Prop := relaPutsUptoRow.holds Try.pinned (OpenSpec.upto relaPutsSpec)

/-- 'turnbucklelaw15.RelaValues', WHERE WHAT IT READS IS OF BULK AT MOST 1048576: true; the input reads as it did. -/
def relaValuesUptoRow : OpenClaim := { program := "ytpdecpiiidoleaa", sum := "ce78e48037e89618b00ffd7e35fddfba2ea6b17fa20421d183f68c9811f2bbec", func := "turnbuckle/turnbucklelaw15.RelaValues", spec := "relaValues", unfollowed := true, recurses := true, apart := false, narrowed := true }
def RelaValuesUptoSaid : Prop := relaValuesUptoRow.holds Try.pinned (OpenSpec.upto relaValuesSpec)

/-- 'turnbucklelaw15.RelaPlaces', WHERE WHAT IT READS IS OF BULK AT MOST 1048576: true; the input reads as it did. -/
def relaPlacesUptoRow : OpenClaim := { program := "ytpdecpiiidoleaa", sum := "ce78e48037e89618b00ffd7e35fddfba2ea6b17fa20421d183f68c9811f2bbec", func := "turnbuckle/turnbucklelaw15.RelaPlaces", spec := "relaPlaces", unfollowed := true, recurses := true, apart := false, narrowed := true }
def RelaPlacesUptoSaid : Prop := relaPlacesUptoRow.holds Try.pinned (OpenSpec.upto relaPlacesSpec)

end Rows
end Go.Proofs.Ytpdecpiiidoleaa
