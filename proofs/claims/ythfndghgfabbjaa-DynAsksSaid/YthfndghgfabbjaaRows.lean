/-
  No cell of these rows narrows 'for every input' (looked for: loops, veiled, ifaces, maps, wideKeys, modest, calm, conditions, laid).
  DERIVED. THE GIVEN ROWS OF THIS SEAT. 4 by the template 'for every input the law returns true; each argument reads behind the call as it read before'; 0 by the template 'total and deterministic' (their statements: YthfndghgfabbjaaTotals.lean).
  GIVEN WITH THE SEED: the statements are not yours to turn. If you find one false, say at which input.
  Laid BY PROGRAM, IN A SANDBOX (cutbox-rows.mjs): the forced cells as the released guide's own fill.sh prints them over the translation 6f90c611e136a422… (all of the seat's roots in one cut). By AI agents, Wed Nov 11 2026. No macro, syntax, notation, axiom, sorry.
-/
import Derived.Test.YthfndghgfabbjaaChecked
import GoSem.Claim
import GoSem.ClaimJoined
import GoSem.ClaimMapViews
import Derived.JoinedTies
import Derived.KernelRfl
namespace Go.Proofs.Ythfndghgfabbjaa
/- THE CELL 'sum', in the pinned program and in every row, IS THE sha256 OF THE DUMP (.gsa) THAT YthfndghgfabbjaaProg.lean LOADS. Nothing in Lean hashes anything: it is a label: what it is worth is what the hold of that sum in a sandbox is worth. -/
noncomputable def Try.pinned : Pinned := { name := "ythfndghgfabbjaa", sum := "6f90c611e136a42282d2531fd016322aff83814571bab9fd6401c5d156d47129", checked := Try.checked }
namespace Rows
def none {H : Type} : Left H := { results := [], args := [] }

/-- 'turnbucklelaw10.DynReads': WHATEVER THE INPUT: true; the input reads as it did. -/
def dynReadsSpec : ChangeSpec := { name := "dynReads", fn := fun _ => fun
  | [d1, d2, d3] => { results := [.lit (.bool true)], args := [d1, d2, d3] }
  | _ => none }
def dynReadsRow : OpenClaim := { program := "ythfndghgfabbjaa", sum := "6f90c611e136a42282d2531fd016322aff83814571bab9fd6401c5d156d47129", func := "turnbuckle/turnbucklelaw10.DynReads", spec := "dynReads", inPlace := ["internal/abi.NoEscape", "internal/bytealg.MakeNoZero", "internal/bytealg.IndexByteString", "internal/bytealg.IndexString"], unfollowed := true, recurses := true, named := ["internal/bytealg.MaxLen"], apart := false }
def DynReadsSaid : Prop := dynReadsRow.holds Try.pinned (OpenSpec.ofChange dynReadsSpec)

/-- ITS FALSE NEIGHBOUR: 'it returns false'. Refute it at one input. -/
def dynReadsWrong : ChangeSpec := { name := "dynReads", fn := fun _ => fun
  | [d1, d2, d3] => { results := [.lit (.bool false)], args := [d1, d2, d3] }
  | _ => none }
def DynReadsWrongFalsely : Prop := dynReadsRow.holds Try.pinned (OpenSpec.ofChange dynReadsWrong)

/-- 'turnbucklelaw10.DynAsks': WHATEVER THE INPUT: true; the input reads as it did. -/
def dynAsksSpec : ChangeSpec := { name := "dynAsks", fn := fun _ => fun
  | [d1, d2, d3] => { results := [.lit (.bool true)], args := [d1, d2, d3] }
  | _ => none }
def dynAsksRow : OpenClaim := { program := "ythfndghgfabbjaa", sum := "6f90c611e136a42282d2531fd016322aff83814571bab9fd6401c5d156d47129", func := "turnbuckle/turnbucklelaw10.DynAsks", spec := "dynAsks", inPlace := ["internal/abi.NoEscape", "internal/bytealg.MakeNoZero", "internal/bytealg.IndexByteString", "internal/bytealg.IndexString"], unfollowed := true, recurses := true, named := ["internal/bytealg.MaxLen"], apart := false }
def DynAsksSaid : Prop := dynAsksRow.holds Try.pinned (OpenSpec.ofChange dynAsksSpec)

/-- ITS FALSE NEIGHBOUR: 'it returns false'. Refute it at one input. -/
def dynAsksWrong : ChangeSpec := { name := "dynAsks", fn := fun _ => fun
  | [d1, d2, d3] => { results := [.lit (.bool false)], args := [d1, d2, d3] }
  | _ => none }
def DynAsksWrongFalsely : Prop := dynAsksRow.holds Try.pinned (OpenSpec.ofChange dynAsksWrong)

/-- 'turnbucklelaw10.DynNone': WHATEVER THE INPUT: true; the input reads as it did. -/
def dynNoneSpec : ChangeSpec := { name := "dynNone", fn := fun _ => fun
  | [d] => { results := [.lit (.bool true)], args := [d] }
  | _ => none }
def dynNoneRow : OpenClaim := { program := "ythfndghgfabbjaa", sum := "6f90c611e136a42282d2531fd016322aff83814571bab9fd6401c5d156d47129", func := "turnbuckle/turnbucklelaw10.DynNone", spec := "dynNone", inPlace := ["internal/abi.NoEscape", "internal/bytealg.MakeNoZero", "internal/bytealg.IndexByteString", "internal/bytealg.IndexString"], unfollowed := true, recurses := true, named := ["internal/bytealg.MaxLen"], apart := false }
def DynNoneSaid : Prop := dynNoneRow.holds Try.pinned (OpenSpec.ofChange dynNoneSpec)

/-- ITS FALSE NEIGHBOUR: 'it returns false'. Refute it at one input. -/
def dynNoneWrong : ChangeSpec := { name := "dynNone", fn := fun _ => fun
  | [d] => { results := [.lit (.bool false)], args := [d] }
  | _ => none }
def DynNoneWrongFalsely : Prop := dynNoneRow.holds Try.pinned (OpenSpec.ofChange dynNoneWrong)

/-- 'turnbucklelaw10.DynFirst': WHATEVER THE INPUT: true; the input reads as it did. -/
def dynFirstSpec : ChangeSpec := { name := "dynFirst", fn := fun _ => fun
  | [d1, d2, d3] => { results := [.lit (.bool true)], args := [d1, d2, d3] }
  | _ => none }
def dynFirstRow : OpenClaim := { program := "ythfndghgfabbjaa", sum := "6f90c611e136a42282d2531fd016322aff83814571bab9fd6401c5d156d47129", func := "turnbuckle/turnbucklelaw10.DynFirst", spec := "dynFirst", inPlace := ["internal/abi.NoEscape", "internal/bytealg.MakeNoZero", "internal/bytealg.IndexByteString", "internal/bytealg.IndexString"], unfollowed := true, recurses := true, named := ["internal/bytealg.MaxLen"], apart := false }
def DynFirstSaid : Prop := dynFirstRow.holds Try.pinned (OpenSpec.ofChange dynFirstSpec)

/-- ITS FALSE NEIGHBOUR: 'it returns false'. Refute it at one input. -/
def dynFirstWrong : ChangeSpec := { name := "dynFirst", fn := fun _ => fun
  | [d1, d2, d3] => { results := [.lit (.bool false)], args := [d1, d2, d3] }
  | _ => none }
def DynFirstWrongFalsely : Prop := dynFirstRow.holds Try.pinned (OpenSpec.ofChange dynFirstWrong)

/- THE SECOND FORM. 'bulk': how many values and letters a reading holds, each counted each time it is reached (what is shared counts as often as it is met; a slice's spare places count too). A statement '..UptoSaid' is the law's where the arguments, and the package variables that the reading takes, are together of bulk at most 1048576: NARROWER than '..Said'. Prove '..Said' where nothing that the law and all that it calls make is longer than what came in: it says more and counts as full. Else prove '..UptoSaid'. A law counts once. -/
mutual
def uptoBulk {H : Type} : DataW H → Nat
  | .lit (.string bytes) => bytes.length + 1
  | .lit _ => 1
  | .nil => 1
  | .ptr d => uptoBulk d + 1
  | .slice elems spare => uptoBulkAll elems + uptoBulkAll spare + 1
  | .agg parts => uptoBulkAll parts + 1
  | .iface _ d => uptoBulk d + 1
  | .map entries => uptoBulkEntries entries + 1
  | .held _ => 1
def uptoBulkAll {H : Type} : List (DataW H) → Nat
  | [] => 0
  | d :: r => uptoBulk d + uptoBulkAll r
def uptoBulkEntries {H : Type} : List (Lit × DataW H) → Nat
  | [] => 0
  | x :: r => uptoBulkEntry x + uptoBulkEntries r
def uptoBulkEntry {H : Type} : Lit × DataW H → Nat
  | (.string bytes, d) => bytes.length + uptoBulk d + 1
  | (_, d) => uptoBulk d + 1
 end
def uptoSmall : (H : Type) → List (DataW H) → Bool := fun _ ds => decide (uptoBulkAll ds ≤ 1048576)
def OpenSpec.upto (s : _root_.Go.ChangeSpec) : _root_.Go.OpenSpec := { _root_.Go.OpenSpec.ofChange s with cond := some uptoSmall }

/-- 'turnbucklelaw10.DynReads', WHERE WHAT IT READS IS OF BULK AT MOST 1048576: true; the input reads as it did. -/
def dynReadsUptoRow : OpenClaim := { program := "ythfndghgfabbjaa", sum := "6f90c611e136a42282d2531fd016322aff83814571bab9fd6401c5d156d47129", func := "turnbuckle/turnbucklelaw10.DynReads", spec := "dynReads", inPlace := ["internal/abi.NoEscape", "internal/bytealg.MakeNoZero", "internal/bytealg.IndexByteString", "internal/bytealg.IndexString"], unfollowed := true, recurses := true, named := ["internal/bytealg.MaxLen"], apart := false, narrowed := true }
def DynReadsUptoSaid : Prop := dynReadsUptoRow.holds Try.pinned (OpenSpec.upto dynReadsSpec)

/-- 'turnbucklelaw10.DynAsks', WHERE WHAT IT READS IS OF BULK AT MOST 1048576: true; the input reads as it did. -/
def dynAsksUptoRow : OpenClaim := { program := "ythfndghgfabbjaa", sum := "6f90c611e136a42282d2531fd016322aff83814571bab9fd6401c5d156d47129", func := "turnbuckle/turnbucklelaw10.DynAsks", spec := "dynAsks", inPlace := ["internal/abi.NoEscape", "internal/bytealg.MakeNoZero", "internal/bytealg.IndexByteString", "internal/bytealg.IndexString"], unfollowed := true, recurses := true, named := ["internal/bytealg.MaxLen"], apart := false, narrowed := true }
def DynAsksUptoSaid : Prop := dynAsksUptoRow.holds Try.pinned (OpenSpec.upto dynAsksSpec)

/-- 'turnbucklelaw10.DynNone', WHERE WHAT IT READS IS OF BULK AT MOST 1048576: true; the input reads as it did. -/
def dynNoneUptoRow : OpenClaim := { program := "ythfndghgfabbjaa", sum := "6f90c611e136a42282d2531fd016322aff83814571bab9fd6401c5d156d47129", func := "turnbuckle/turnbucklelaw10.DynNone", spec := "dynNone", inPlace := ["internal/abi.NoEscape", "internal/bytealg.MakeNoZero", "internal/bytealg.IndexByteString", "internal/bytealg.IndexString"], unfollowed := true, recurses := true, named := ["internal/bytealg.MaxLen"], apart := false, narrowed := true }
def DynNoneUptoSaid : Prop := dynNoneUptoRow.holds Try.pinned (OpenSpec.upto dynNoneSpec)

/-- 'turnbucklelaw10.DynFirst', WHERE WHAT IT READS IS OF BULK AT MOST 1048576: true; the input reads as it did. -/
def dynFirstUptoRow : OpenClaim := { program := "ythfndghgfabbjaa", sum := "6f90c611e136a42282d2531fd016322aff83814571bab9fd6401c5d156d47129", func := "turnbuckle/turnbucklelaw10.DynFirst", spec := "dynFirst", inPlace := ["internal/abi.NoEscape", "internal/bytealg.MakeNoZero", "internal/bytealg.IndexByteString", "internal/bytealg.IndexString"], unfollowed := true, recurses := true, named := ["internal/bytealg.MaxLen"], apart := false, narrowed := true }
def DynFirstUptoSaid : Prop := dynFirstUptoRow.holds Try.pinned (OpenSpec.upto dynFirstSpec)

end Rows
end Go.Proofs.Ythfndghgfabbjaa
