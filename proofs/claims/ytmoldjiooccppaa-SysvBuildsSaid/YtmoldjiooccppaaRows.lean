/-
  No cell of these rows narrows 'for every input' (looked for: loops, veiled, ifaces, maps, wideKeys, modest, calm, conditions, laid).
  DERIVED. THE GIVEN ROWS OF THIS SEAT. 4 by the template 'for every input the law returns true; each argument reads behind the call as it read before'; 0 by the template 'total and deterministic' (their statements: YtmoldjiooccppaaTotals.lean).
  GIVEN WITH THE SEED: the statements are not yours to turn. If you find one false, say at which input.
  Laid BY PROGRAM, IN A SANDBOX (cutbox-rows.mjs): the forced cells as the released guide's own fill.sh prints them over the translation 2a2edc57de02de21… (all of the seat's roots in one cut). By AI agents, Wed Nov 11 2026. No macro, syntax, notation, axiom, sorry.
-/
import Derived.Test.YtmoldjiooccppaaChecked
import GoSem.Claim
import GoSem.ClaimJoined
import GoSem.ClaimMapViews
import Derived.JoinedTies
import Derived.KernelRfl
namespace Go.Proofs.Ytmoldjiooccppaa
/- THE CELL 'sum', in the pinned program and in every row, IS THE sha256 OF THE DUMP (.gsa) THAT YtmoldjiooccppaaProg.lean LOADS. Nothing in Lean hashes anything: it is a label: what it is worth is what the hold of that sum in a sandbox is worth. -/
noncomputable def Try.pinned : Pinned := { name := "ytmoldjiooccppaa", sum := "2a2edc57de02de21145105242f1066b4f95e520ea63d7481c8c92379d51cdf9d", checked := Try.checked }
namespace Rows
def none {H : Type} : Left H := { results := [], args := [] }

/-- 'turnbucklelaw13.SysvApart': WHATEVER THE INPUT: true; the input reads as it did. -/
def sysvApartSpec : ChangeSpec := { name := "sysvApart", fn := fun _ => fun
  | [d1, d2] => { results := [.lit (.bool true)], args := [d1, d2] }
  | _ => none }
def sysvApartRow : OpenClaim := { program := "ytmoldjiooccppaa", sum := "2a2edc57de02de21145105242f1066b4f95e520ea63d7481c8c92379d51cdf9d", func := "turnbuckle/turnbucklelaw13.SysvApart", spec := "sysvApart", unfollowed := true, recurses := true, apart := false }
def SysvApartSaid : Prop := sysvApartRow.holds Try.pinned (OpenSpec.ofChange sysvApartSpec)

/-- ITS FALSE NEIGHBOUR: 'it returns false'. Refute it at one input. -/
def sysvApartWrong : ChangeSpec := { name := "sysvApart", fn := fun _ => fun
  | [d1, d2] => { results := [.lit (.bool false)], args := [d1, d2] }
  | _ => none }
def SysvApartWrongFalsely : Prop := sysvApartRow.holds Try.pinned (OpenSpec.ofChange sysvApartWrong)

/-- 'turnbucklelaw13.SysvWalks': WHATEVER THE INPUT: true; the input reads as it did. -/
def sysvWalksSpec : ChangeSpec := { name := "sysvWalks", fn := fun _ => fun
  | [d1, d2, d3] => { results := [.lit (.bool true)], args := [d1, d2, d3] }
  | _ => none }
def sysvWalksRow : OpenClaim := { program := "ytmoldjiooccppaa", sum := "2a2edc57de02de21145105242f1066b4f95e520ea63d7481c8c92379d51cdf9d", func := "turnbuckle/turnbucklelaw13.SysvWalks", spec := "sysvWalks", unfollowed := true, recurses := true, apart := false }
def SysvWalksSaid : Prop := sysvWalksRow.holds Try.pinned (OpenSpec.ofChange sysvWalksSpec)

/-- ITS FALSE NEIGHBOUR: 'it returns false'. Refute it at one input. -/
def sysvWalksWrong : ChangeSpec := { name := "sysvWalks", fn := fun _ => fun
  | [d1, d2, d3] => { results := [.lit (.bool false)], args := [d1, d2, d3] }
  | _ => none }
def SysvWalksWrongFalsely : Prop := sysvWalksRow.holds Try.pinned (OpenSpec.ofChange sysvWalksWrong)

/-- 'turnbucklelaw13.SysvReads': WHATEVER THE INPUT: true; the input reads as it did. -/
def sysvReadsSpec : ChangeSpec := { name := "sysvReads", fn := fun _ => fun
  | [d] => { results := [.lit (.bool true)], args := [d] }
  | _ => none }
def sysvReadsRow : OpenClaim := { program := "ytmoldjiooccppaa", sum := "2a2edc57de02de21145105242f1066b4f95e520ea63d7481c8c92379d51cdf9d", func := "turnbuckle/turnbucklelaw13.SysvReads", spec := "sysvReads", inPlace := ["internal/abi.NoEscape"], unfollowed := true, recurses := true, apart := false }
def SysvReadsSaid : Prop := sysvReadsRow.holds Try.pinned (OpenSpec.ofChange sysvReadsSpec)

/-- ITS FALSE NEIGHBOUR: 'it returns false'. Refute it at one input. -/
def sysvReadsWrong : ChangeSpec := { name := "sysvReads", fn := fun _ => fun
  | [d] => { results := [.lit (.bool false)], args := [d] }
  | _ => none }
def SysvReadsWrongFalsely : Prop := sysvReadsRow.holds Try.pinned (OpenSpec.ofChange sysvReadsWrong)

/-- 'turnbucklelaw13.SysvBuilds': WHATEVER THE INPUT: true; the input reads as it did. -/
def sysvBuildsSpec : ChangeSpec := { name := "sysvBuilds", fn := fun _ => fun
  | [d1, d2, d3] => { results := [.lit (.bool true)], args := [d1, d2, d3] }
  | _ => none }
def sysvBuildsRow : OpenClaim := { program := "ytmoldjiooccppaa", sum := "2a2edc57de02de21145105242f1066b4f95e520ea63d7481c8c92379d51cdf9d", func := "turnbuckle/turnbucklelaw13.SysvBuilds", spec := "sysvBuilds", inPlace := ["internal/abi.NoEscape"], unfollowed := true, recurses := true, apart := false }
def SysvBuildsSaid : Prop := sysvBuildsRow.holds Try.pinned (OpenSpec.ofChange sysvBuildsSpec)

/-- ITS FALSE NEIGHBOUR: 'it returns false'. Refute it at one input. -/
def sysvBuildsWrong : ChangeSpec := { name := "sysvBuilds", fn := fun _ => fun
  | [d1, d2, d3] => { results := [.lit (.bool false)], args := [d1, d2, d3] }
  | _ => none }
def SysvBuildsWrongFalsely : Prop := sysvBuildsRow.holds Try.pinned (OpenSpec.ofChange sysvBuildsWrong)

/- THE SECOND FORM. 'bulk': how many values and letters a reading holds, each counted each time it is reached (what is shared counts as often as it is met; a slice's spare places count too). A statement '..UptoSaid' is the law's where the arguments, and the package variables that the reading takes, are together of bulk at most 1048576: NARROWER than '..Said'. Prove '..Said' where nothing that the law and all that it calls make is longer than what came in: it says more and counts as full. Else prove '..UptoSaid'. A law counts once. -/
mutual
def uptoBulk {H : Type} : DataW H → Nat
  | .lit (.string bytes) => bytes.length + 1
  | .lit _ => 1
  | .nil => 1
  | .ptr d => uptoBulk d + 1
  | .slice elems spare => uptoBulkAll elems + uptoBulkAll spare + 1
  | .agg parts => uptoBulkAll parts + 1
  | .iface _ d => uptoBulk d + 1
  | .map entries => uptoBulkEntries entries + 1
  | .held _ => 1
def uptoBulkAll {H : Type} : List (DataW H) → Nat
  | [] => 0
  | d :: r => uptoBulk d + uptoBulkAll r
def uptoBulkEntries {H : Type} : List (Lit × DataW H) → Nat
  | [] => 0
  | x :: r => uptoBulkEntry x + uptoBulkEntries r
def uptoBulkEntry {H : Type} : Lit × DataW H → Nat
  | (.string bytes, d) => bytes.length + uptoBulk d + 1
  | (_, d) => uptoBulk d + 1
 end
def uptoSmall : (H : Type) → List (DataW H) → Bool := fun _ ds => decide (uptoBulkAll ds ≤ 1048576)
def OpenSpec.upto (s : _root_.Go.ChangeSpec) : _root_.Go.OpenSpec := { _root_.Go.OpenSpec.ofChange s with cond := some uptoSmall }

/-- 'turnbucklelaw13.SysvApart', WHERE WHAT IT READS IS OF BULK AT MOST 1048576: true; the input reads as it did. -/
def sysvApartUptoRow : OpenClaim := { program := "ytmoldjiooccppaa", sum := "2a2edc57de02de21145105242f1066b4f95e520ea63d7481c8c92379d51cdf9d", func := "turnbuckle/turnbucklelaw13.SysvApart", spec := "sysvApart", unfollowed := true, recurses := true, apart := false, narrowed := true }
def SysvApartUptoSaid : Prop := sysvApartUptoRow.holds Try.pinned (OpenSpec.upto sysvApartSpec)

/-- 'turnbucklelaw13.SysvWalks', WHERE WHAT IT READS IS OF BULK AT MOST 1048576: true; the input reads as it did. -/
def sysvWalksUptoRow : OpenClaim := { program := "ytmoldjiooccppaa", sum := "2a2edc57de02de21145105242f1066b4f95e520ea63d7481c8c92379d51cdf9d", func := "turnbuckle/turnbucklelaw13.SysvWalks", spec := "sysvWalks", unfollowed := true, recurses := true, apart := false, narrowed := true }
def SysvWalksUptoSaid : Prop := sysvWalksUptoRow.holds Try.pinned (OpenSpec.upto sysvWalksSpec)

/-- 'turnbucklelaw13.SysvReads', WHERE WHAT IT READS IS OF BULK AT MOST 1048576: true; the input reads as it did. -/
def sysvReadsUptoRow : OpenClaim := { program := "ytmoldjiooccppaa", sum := "2a2edc57de02de21145105242f1066b4f95e520ea63d7481c8c92379d51cdf9d", func := "turnbuckle/turnbucklelaw13.SysvReads", spec := "sysvReads", inPlace := ["internal/abi.NoEscape"], unfollowed := true, recurses := true, apart := false, narrowed := true }
def SysvReadsUptoSaid : Prop := sysvReadsUptoRow.holds Try.pinned (OpenSpec.upto sysvReadsSpec)

/-- 'turnbucklelaw13.SysvBuilds', WHERE WHAT IT READS IS OF BULK AT MOST 1048576: true; the input reads as it did. -/
def sysvBuildsUptoRow : OpenClaim := { program := "ytmoldjiooccppaa", sum := "2a2edc57de02de21145105242f1066b4f95e520ea63d7481c8c92379d51cdf9d", func := "turnbuckle/turnbucklelaw13.SysvBuilds", spec := "sysvBuilds", inPlace := ["internal/abi.NoEscape"], unfollowed := true, recurses := true, apart := false, narrowed := true }
def SysvBuildsUptoSaid : Prop := sysvBuildsUptoRow.holds Try.pinned (OpenSpec.upto sysvBuildsSpec)

end Rows
end Go.Proofs.Ytmoldjiooccppaa
