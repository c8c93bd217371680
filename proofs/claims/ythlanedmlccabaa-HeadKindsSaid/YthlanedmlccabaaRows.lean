/-
  No cell of these rows narrows 'for every input' (looked for: loops, veiled, ifaces, maps, wideKeys, modest, calm, conditions, laid).
  DERIVED. THE GIVEN ROWS OF THIS SEAT. 4 by the template 'for every input the law returns true; each argument reads behind the call as it read before'; 0 by the template 'total and deterministic' (their statements: YthlanedmlccabaaTotals.lean).
  GIVEN WITH THE SEED: the statements are not yours to turn. If you find one false, say at which input.
  Laid BY PROGRAM, IN A SANDBOX (cutbox-rows.mjs): the forced cells as the released guide's own fill.sh prints them over the translation a7c6b2868d8dcf54… (all of the seat's roots in one cut). By AI agents, Wed Nov 11 2026. No macro, syntax, notation, axiom, sorry.
-/
import Derived.Test.YthlanedmlccabaaChecked
import GoSem.Claim
import GoSem.ClaimJoined
import GoSem.ClaimMapViews
import Derived.JoinedTies
import Derived.KernelRfl
namespace Go.Proofs.Ythlanedmlccabaa
/- THE CELL 'sum', in the pinned program and in every row, IS THE sha256 OF THE DUMP (.gsa) THAT YthlanedmlccabaaProg.lean LOADS. Nothing in Lean hashes anything: it is a label: what it is worth is what the hold of that sum in a sandbox is worth. -/
noncomputable def Try.pinned : Pinned := { name := "ythlanedmlccabaa", sum := "a7c6b2868d8dcf5430ca5bdedffd57339bdb8abda23947dcd0d5ac5c254dad5d", checked := Try.checked }
namespace Rows
def none {H : Type} : Left H := { results := [], args := [] }

/-- 'turnbucklelaw09.HeadReads': WHATEVER THE INPUT: true; the input reads as it did. -/
def headReadsSpec : ChangeSpec := { name := "headReads", fn := fun _ => fun
  | [d] => { results := [.lit (.bool true)], args := [d] }
  | _ => none }
def headReadsRow : OpenClaim := { program := "ythlanedmlccabaa", sum := "a7c6b2868d8dcf5430ca5bdedffd57339bdb8abda23947dcd0d5ac5c254dad5d", func := "turnbuckle/turnbucklelaw09.HeadReads", spec := "headReads", inPlace := ["internal/abi.NoEscape", "internal/bytealg.MakeNoZero"], unfollowed := true, recurses := true, apart := false }
def HeadReadsSaid : Prop := headReadsRow.holds Try.pinned (OpenSpec.ofChange headReadsSpec)

/-- ITS FALSE NEIGHBOUR: 'it returns false'. Refute it at one input. -/
def headReadsWrong : ChangeSpec := { name := "headReads", fn := fun _ => fun
  | [d] => { results := [.lit (.bool false)], args := [d] }
  | _ => none }
def HeadReadsWrongFalsely : Prop := headReadsRow.holds Try.pinned (OpenSpec.ofChange headReadsWrong)

/-- 'turnbucklelaw09.HeadSegments': WHATEVER THE INPUT: true; the input reads as it did. -/
def headSegmentsSpec : ChangeSpec := { name := "headSegments", fn := fun _ => fun
  | [d1, d2, d3] => { results := [.lit (.bool true)], args := [d1, d2, d3] }
  | _ => none }
def headSegmentsRow : OpenClaim := { program := "ythlanedmlccabaa", sum := "a7c6b2868d8dcf5430ca5bdedffd57339bdb8abda23947dcd0d5ac5c254dad5d", func := "turnbuckle/turnbucklelaw09.HeadSegments", spec := "headSegments", inPlace := ["internal/abi.NoEscape", "internal/bytealg.MakeNoZero"], unfollowed := true, recurses := true, apart := false }
def HeadSegmentsSaid : Prop := headSegmentsRow.holds Try.pinned (OpenSpec.ofChange headSegmentsSpec)

/-- ITS FALSE NEIGHBOUR: 'it returns false'. Refute it at one input. -/
def headSegmentsWrong : ChangeSpec := { name := "headSegments", fn := fun _ => fun
  | [d1, d2, d3] => { results := [.lit (.bool false)], args := [d1, d2, d3] }
  | _ => none }
def HeadSegmentsWrongFalsely : Prop := headSegmentsRow.holds Try.pinned (OpenSpec.ofChange headSegmentsWrong)

/-- 'turnbucklelaw09.HeadKinds': WHATEVER THE INPUT: true; the input reads as it did. -/
def headKindsSpec : ChangeSpec := { name := "headKinds", fn := fun _ => fun
  | [d1, d2, d3] => { results := [.lit (.bool true)], args := [d1, d2, d3] }
  | _ => none }
def headKindsRow : OpenClaim := { program := "ythlanedmlccabaa", sum := "a7c6b2868d8dcf5430ca5bdedffd57339bdb8abda23947dcd0d5ac5c254dad5d", func := "turnbuckle/turnbucklelaw09.HeadKinds", spec := "headKinds", inPlace := ["internal/abi.NoEscape", "internal/bytealg.MakeNoZero"], unfollowed := true, recurses := true, apart := false }
def HeadKindsSaid : Prop := headKindsRow.holds Try.pinned (OpenSpec.ofChange headKindsSpec)

/-- ITS FALSE NEIGHBOUR: 'it returns false'. Refute it at one input. -/
def headKindsWrong : ChangeSpec := { name := "headKinds", fn := fun _ => fun
  | [d1, d2, d3] => { results := [.lit (.bool false)], args := [d1, d2, d3] }
  | _ => none }
def HeadKindsWrongFalsely : Prop := headKindsRow.holds Try.pinned (OpenSpec.ofChange headKindsWrong)

/-- 'turnbucklelaw09.HeadBytes': WHATEVER THE INPUT: true; the input reads as it did. -/
def headBytesSpec : ChangeSpec := { name := "headBytes", fn := fun _ => fun
  | [d1, d2, d3] => { results := [.lit (.bool true)], args := [d1, d2, d3] }
  | _ => none }
def headBytesRow : OpenClaim := { program := "ythlanedmlccabaa", sum := "a7c6b2868d8dcf5430ca5bdedffd57339bdb8abda23947dcd0d5ac5c254dad5d", func := "turnbuckle/turnbucklelaw09.HeadBytes", spec := "headBytes", inPlace := ["internal/abi.NoEscape", "internal/bytealg.MakeNoZero"], unfollowed := true, recurses := true, apart := false }
def HeadBytesSaid : Prop := headBytesRow.holds Try.pinned (OpenSpec.ofChange headBytesSpec)

/-- ITS FALSE NEIGHBOUR: 'it returns false'. Refute it at one input. -/
def headBytesWrong : ChangeSpec := { name := "headBytes", fn := fun _ => fun
  | [d1, d2, d3] => { results := [.lit (.bool false)], args := [d1, d2, d3] }
  | _ => none }
def HeadBytesWrongFalsely : Prop := headBytesRow.holds Try.pinned (OpenSpec.ofChange headBytesWrong)

/- THE SECOND FORM. 'bulk': how many values and letters a reading holds, each counted each time it is reached (what is shared counts as often as it is met; a slice's spare places count too). A statement '..UptoSaid' is the law's where the arguments, and the package variables that the reading takes, are together of bulk at most 1048576: NARROWER than '..Said'. Prove '..Said' where nothing that the law and all that it calls make is longer than what came in: it says more and counts as full. Else prove '..UptoSaid'. A law counts once. -/
mutual
def uptoBulk {H : Type} : DataW H → Nat
  | .lit (.string bytes) => bytes.length + 1
  | .lit _ => 1
  | .nil => 1
  | .ptr d => uptoBulk d + 1
  | .slice elems spare => uptoBulkAll elems + uptoBulkAll spare + 1
  | .agg parts => uptoBulkAll parts + 1
  | .iface _ d => uptoBulk d + 1
  | .map entries => uptoBulkEntries entries + 1
  | .held _ => 1
def uptoBulkAll {H : Type} : List (DataW H) → Nat
  | [] => 0
  | d :: r => uptoBulk d + uptoBulkAll r
def uptoBulkEntries {H : Type} : List (Lit × DataW H) → Nat
  | [] => 0
  | x :: r => uptoBulkEntry x + uptoBulkEntries r
def uptoBulkEntry {H : Type} : Lit × DataW H → Nat
  | (.string bytes, d) => bytes.length + uptoBulk d + 1
  | (_, d) => uptoBulk d + 1
 end
def uptoSmall : (H : Type) → List (DataW H) → Bool := fun _ ds => decide (uptoBulkAll ds ≤ 1048576)
def OpenSpec.upto (s : _root_.Go.ChangeSpec) : _root_.Go.OpenSpec := { _root_.Go.OpenSpec.ofChange s with cond := some uptoSmall }

/-- 'turnbucklelaw09.HeadReads', WHERE WHAT IT READS IS OF BULK AT MOST 1048576: true; the input reads as it did. -/
def headReadsUptoRow : OpenClaim := { program := "ythlanedmlccabaa", sum := "a7c6b2868d8dcf5430ca5bdedffd57339bdb8abda23947dcd0d5ac5c254dad5d", func := "turnbuckle/turnbucklelaw09.HeadReads", spec := "headReads", inPlace := ["internal/abi.NoEscape", "internal/bytealg.MakeNoZero"], unfollowed := true, recurses := true, apart := false, narrowed := true }
def HeadReadsUptoSaid : Prop := headReadsUptoRow.holds Try.pinned (OpenSpec.upto headReadsSpec)

/-- 'turnbucklelaw09.HeadSegments', WHERE WHAT IT READS IS OF BULK AT MOST 1048576: true; the input reads as it did. -/
def headSegmentsUptoRow : OpenClaim := { program := "ythlanedmlccabaa", sum := "a7c6b2868d8dcf5430ca5bdedffd57339bdb8abda23947dcd0d5ac5c254dad5d", func := "turnbuckle/turnbucklelaw09.HeadSegments", spec := "headSegments", inPlace := ["internal/abi.NoEscape", "internal/bytealg.MakeNoZero"], unfollowed := true, recurses := true, apart := false, narrowed := true }
def HeadSegmentsUptoSaid : Prop := headSegmentsUptoRow.holds Try.pinned (OpenSpec.upto headSegmentsSpec)

/-- 'turnbucklelaw09.HeadKinds', WHERE WHAT IT READS IS OF BULK AT MOST 1048576: true; the input reads as it did. -/
def headKindsUptoRow : OpenClaim := { program := "ythlanedmlccabaa", sum := "a7c6b2868d8dcf5430ca5bdedffd57339bdb8abda23947dcd0d5ac5c254dad5d", func := "turnbuckle/turnbucklelaw09.HeadKinds", spec := "headKinds", inPlace := ["internal/abi.NoEscape", "internal/bytealg.MakeNoZero"], unfollowed := true, recurses := true, apart := false, narrowed := true }
def HeadKindsUptoSaid : Prop := headKindsUptoRow.holds Try.pinned (OpenSpec.upto headKindsSpec)

/-- 'turnbucklelaw09.HeadBytes', WHERE WHAT IT READS IS OF BULK AT MOST 1048576: true; the input reads as it did. -/
def headBytesUptoRow : OpenClaim := { program := "ythlanedmlccabaa", sum := "a7c6b2868d8dcf5430ca5bdedffd57339bdb8abda23947dcd0d5ac5c254dad5d", func := "turnbuckle/turnbucklelaw09.HeadBytes", spec := "headBytes", inPlace := ["internal/abi.NoEscape", "internal/bytealg.MakeNoZero"], unfollowed := true, recurses := true, apart := false, narrowed := true }
def HeadBytesUptoSaid : Prop := headBytesUptoRow.holds Try.pinned (OpenSpec.upto headBytesSpec)

end Rows
end Go.Proofs.Ythlanedmlccabaa
