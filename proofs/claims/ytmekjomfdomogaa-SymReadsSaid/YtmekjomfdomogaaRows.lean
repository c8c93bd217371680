/-
  No cell of these rows narrows 'for every input' (looked for: loops, veiled, ifaces, maps, wideKeys, modest, calm, conditions, laid).
  DERIVED. THE GIVEN ROWS OF THIS SEAT. 4 by the template 'for every input the law returns true; each argument reads behind the call as it read before'; 0 by the template 'total and deterministic' (their statements: YtmekjomfdomogaaTotals.lean).
  GIVEN WITH THE SEED: the statements are not yours to turn. If you find one false, say at which input.
  Laid BY PROGRAM, IN A SANDBOX (cutbox-rows.mjs): the forced cells as the released guide's own fill.sh prints them over the translation bf21ec6bc28e879c… (all of the seat's roots in one cut). By AI agents, Wed Nov 11 2026. No macro, syntax, notation, axiom, sorry.
-/
import Derived.Test.YtmekjomfdomogaaChecked
import GoSem.Claim
import GoSem.ClaimJoined
import GoSem.ClaimMapViews
import Derived.JoinedTies
import Derived.KernelRfl
namespace Go.Proofs.Ytmekjomfdomogaa
/- THE CELL 'sum', in the pinned program and in every row, IS THE sha256 OF THE DUMP (.gsa) THAT YtmekjomfdomogaaProg.lean LOADS. Nothing in Lean hashes anything: it is a label: what it is worth is what the hold of that sum in a sandbox is worth. -/
noncomputable def Try.pinned : Pinned := { name := "ytmekjomfdomogaa", sum := "bf21ec6bc28e879c0ac63ca243740af7018b323aff3fd7af3e44ac9b392b9e5e", checked := Try.checked }
namespace Rows
def none {H : Type} : Left H := { results := [], args := [] }

/-- 'turnbucklelaw11.SymPuts': WHATEVER THE INPUT: true; the input reads as it did. -/
def symPutsSpec : ChangeSpec := { name := "symPuts", fn := fun _ => fun
  | [d1, d2] => { results := [.lit (.bool true)], args := [d1, d2] }
  | _ => none }
def symPutsRow : OpenClaim := { program := "ytmekjomfdomogaa", sum := "bf21ec6bc28e879c0ac63ca243740af7018b323aff3fd7af3e44ac9b392b9e5e", func := "turnbuckle/turnbucklelaw11.SymPuts", spec := "symPuts", inPlace := ["internal/bytealg.IndexByteString", "internal/bytealg.IndexString"], unfollowed := true, recurses := true, named := ["internal/bytealg.MaxLen"], apart := false }
def SymPutsSaid : Prop := symPutsRow.holds Try.pinned (OpenSpec.ofChange symPutsSpec)

/-- ITS FALSE NEIGHBOUR: 'it returns false'. Refute it at one input. -/
def symPutsWrong : ChangeSpec := { name := "symPuts", fn := fun _ => fun
  | [d1, d2] => { results := [.lit (.bool false)], args := [d1, d2] }
  | _ => none }
def SymPutsWrongFalsely : Prop := symPutsRow.holds Try.pinned (OpenSpec.ofChange symPutsWrong)

/-- 'turnbucklelaw11.SymPlaces': WHATEVER THE INPUT: true; the input reads as it did. -/
def symPlacesSpec : ChangeSpec := { name := "symPlaces", fn := fun _ => fun
  | [d1, d2] => { results := [.lit (.bool true)], args := [d1, d2] }
  | _ => none }
def symPlacesRow : OpenClaim := { program := "ytmekjomfdomogaa", sum := "bf21ec6bc28e879c0ac63ca243740af7018b323aff3fd7af3e44ac9b392b9e5e", func := "turnbuckle/turnbucklelaw11.SymPlaces", spec := "symPlaces", inPlace := ["internal/bytealg.IndexByteString", "internal/bytealg.IndexString"], unfollowed := true, recurses := true, named := ["internal/bytealg.MaxLen"], apart := false }
def SymPlacesSaid : Prop := symPlacesRow.holds Try.pinned (OpenSpec.ofChange symPlacesSpec)

/-- ITS FALSE NEIGHBOUR: 'it returns false'. Refute it at one input. -/
def symPlacesWrong : ChangeSpec := { name := "symPlaces", fn := fun _ => fun
  | [d1, d2] => { results := [.lit (.bool false)], args := [d1, d2] }
  | _ => none }
def SymPlacesWrongFalsely : Prop := symPlacesRow.holds Try.pinned (OpenSpec.ofChange symPlacesWrong)

/-- 'turnbucklelaw11.SymReads': WHATEVER THE INPUT: true; the input reads as it did. -/
def symReadsSpec : ChangeSpec := { name := "symReads", fn := fun _ => fun
  | [d1, d2, d3] => { results := [.lit (.bool true)], args := [d1, d2, d3] }
  | _ => none }
def symReadsRow : OpenClaim := { program := "ytmekjomfdomogaa", sum := "bf21ec6bc28e879c0ac63ca243740af7018b323aff3fd7af3e44ac9b392b9e5e", func := "turnbuckle/turnbucklelaw11.SymReads", spec := "symReads", inPlace := ["internal/bytealg.IndexByteString", "internal/bytealg.IndexString"], unfollowed := true, recurses := true, named := ["internal/bytealg.MaxLen"], apart := false }
def SymReadsSaid : Prop := symReadsRow.holds Try.pinned (OpenSpec.ofChange symReadsSpec)

/-- ITS FALSE NEIGHBOUR: 'it returns false'. Refute it at one input. -/
def symReadsWrong : ChangeSpec := { name := "symReads", fn := fun _ => fun
  | [d1, d2, d3] => { results := [.lit (.bool false)], args := [d1, d2, d3] }
  | _ => none }
def SymReadsWrongFalsely : Prop := symReadsRow.holds Try.pinned (OpenSpec.ofChange symReadsWrong)

/-- 'turnbucklelaw11.SymBinds': WHATEVER THE INPUT: true; the input reads as it did. -/
def symBindsSpec : ChangeSpec := { name := "symBinds", fn := fun _ => fun
  | [d] => { results := [.lit (.bool true)], args := [d] }
  | _ => none }
def symBindsRow : OpenClaim := { program := "ytmekjomfdomogaa", sum := "bf21ec6bc28e879c0ac63ca243740af7018b323aff3fd7af3e44ac9b392b9e5e", func := "turnbuckle/turnbucklelaw11.SymBinds", spec := "symBinds", inPlace := ["internal/bytealg.IndexByteString", "internal/bytealg.IndexString"], unfollowed := true, recurses := true, named := ["internal/bytealg.MaxLen"], apart := false }
def SymBindsSaid : Prop := symBindsRow.holds Try.pinned (OpenSpec.ofChange symBindsSpec)

/-- ITS FALSE NEIGHBOUR: 'it returns false'. Refute it at one input. -/
def symBindsWrong : ChangeSpec := { name := "symBinds", fn := fun _ => fun
  | [d] => { results := [.lit (.bool false)], args := [d] }
  | _ => none }
def SymBindsWrongFalsely : Prop := symBindsRow.holds Try.pinned (OpenSpec.ofChange symBindsWrong)

/- THE SECOND FORM. 'bulk': how many values and letters a reading holds, each counted each time it is reached (what is shared counts as often as it is met; a slice's spare places count too). A statement '..UptoSaid' is the law's where the arguments, and the package variables that the reading takes, are together of bulk at most 1048576: NARROWER than '..Said'. Prove '..Said' where nothing that the law and all that it calls make is longer than what came in: it says more and counts as full. Else prove '..UptoSaid'. A law counts once. -/
mutual
def uptoBulk {H : Type} : DataW H → Nat
  | .lit (.string bytes) => bytes.length + 1
  | .lit _ => 1
  | .nil => 1
  | .ptr d => uptoBulk d + 1
  | .slice elems spare => uptoBulkAll elems + uptoBulkAll spare + 1
  | .agg parts => uptoBulkAll parts + 1
  | .iface _ d => uptoBulk d + 1
  | .map entries => uptoBulkEntries entries + 1
  | .held _ => 1
def uptoBulkAll {H : Type} : List (DataW H) → Nat
  | [] => 0
  | d :: r => uptoBulk d + uptoBulkAll r
def uptoBulkEntries {H : Type} : List (Lit × DataW H) → Nat
  | [] => 0
  | x :: r => uptoBulkEntry x + uptoBulkEntries r
def uptoBulkEntry {H : Type} : Lit × DataW H → Nat
  | (.string bytes, d) => bytes.length + uptoBulk d + 1
  | (_, d) => uptoBulk d + 1
 end
def uptoSmall : (H : Type) → List (DataW H) → Bool := fun _ ds => decide (uptoBulkAll ds ≤ 1048576)
def OpenSpec.upto (s : _root_.Go.ChangeSpec) : _root_.Go.OpenSpec := { _root_.Go.OpenSpec.ofChange s with cond := some uptoSmall }

/-- 'turnbucklelaw11.SymPuts', WHERE WHAT IT READS IS OF BULK AT MOST 1048576: true; the input reads as it did. -/
def symPutsUptoRow : OpenClaim := { program := "ytmekjomfdomogaa", sum := "bf21ec6bc28e879c0ac63ca243740af7018b323aff3fd7af3e44ac9b392b9e5e", func := "turnbuckle/turnbucklelaw11.SymPuts", spec := "symPuts", inPlace := ["internal/bytealg.IndexByteString", "internal/bytealg.IndexString"], unfollowed := true, recurses := true, named := ["internal/bytealg.MaxLen"], apart := false, narrowed := true }
def SymPutsUptoSaid : Prop := symPutsUptoRow.holds Try.pinned (OpenSpec.upto symPutsSpec)

/-- 'turnbucklelaw11.SymPlaces', WHERE WHAT IT READS IS OF BULK AT MOST 1048576: true; the input reads as it did. -/
def symPlacesUptoRow : OpenClaim := { program := "ytmekjomfdomogaa", sum := "bf21ec6bc28e879c0ac63ca243740af7018b323aff3fd7af3e44ac9b392b9e5e", func := "turnbuckle/turnbucklelaw11.SymPlaces", spec := "symPlaces", inPlace := ["internal/bytealg.IndexByteString", "internal/bytealg.IndexString"], unfollowed := true, recurses := true, named := ["internal/bytealg.MaxLen"], apart := false, narrowed := true }
def SymPlacesUptoSaid : Prop := symPlacesUptoRow.holds Try.pinned (OpenSpec.upto symPlacesSpec)

/-- 'turnbucklelaw11.SymReads', WHERE WHAT IT READS IS OF BULK AT MOST 1048576: true; the input reads as it did. -/
def symReadsUptoRow : OpenClaim := { program := "ytmekjomfdomogaa", sum := "bf21ec6bc28e879c0ac63ca243740af7018b323aff3fd7af3e44ac9b392b9e5e", func := "turnbuckle/turnbucklelaw11.SymReads", spec := "symReads", inPlace := ["internal/bytealg.IndexByteString", "internal/bytealg.IndexString"], unfollowed := true, recurses := true, named := ["internal/bytealg.MaxLen"], apart := false, narrowed := true }
def SymReadsUptoSaid : Prop := symReadsUptoRow.holds Try.pinned (OpenSpec.upto symReadsSpec)

/-- 'turnbucklelaw11.SymBinds', WHERE WHAT IT READS IS OF BULK AT MOST 1048576: true; the input reads as it did. -/
def symBindsUptoRow : OpenClaim := { program := "ytmekjomfdomogaa", sum := "bf21ec6bc28e879c0ac63ca243740af7018b323aff3fd7af3e44ac9b392b9e5e", func := "turnbuckle/turnbucklelaw11.SymBinds", spec := "symBinds", inPlace := ["internal/bytealg.IndexByteString", "internal/bytealg.IndexString"], unfollowed := true, recurses := true, named := ["internal/bytealg.MaxLen"], apart := false, narrowed := true }
def SymBindsUptoSaid : Prop := symBindsUptoRow.holds Try.pinned (OpenSpec.upto symBindsSpec)

end Rows
end Go.Proofs.Ytmekjomfdomogaa
