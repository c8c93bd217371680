/-
  No cell of these rows narrows 'for every input' (looked for: loops, veiled, ifaces, maps, wideKeys, modest, calm, conditions, laid).
  DERIVED. THE GIVEN ROWS OF THIS SEAT. 5 by the template 'for every input the law returns true; each argument reads behind the call as it read before'; 0 by the template 'total and deterministic' (their statements: YtoaliamemkjfhaaTotals.lean).
  GIVEN WITH THE SEED: the statements are not yours to turn. If you find one false, say at which input.
  Laid BY PROGRAM, IN A SANDBOX (cutbox-rows.mjs): the forced cells as the released guide's own fill.sh prints them over the translation 2becf0bf6af5fe5f… (all of the seat's roots in one cut). By AI agents, Wed Nov 11 2026. No macro, syntax, notation, axiom, sorry.
-/
import Derived.Test.YtoaliamemkjfhaaChecked
import GoSem.Claim
import GoSem.ClaimJoined
import GoSem.ClaimMapViews
import Derived.JoinedTies
import Derived.KernelRfl
namespace Go.Proofs.Ytoaliamemkjfhaa
/- THE CELL 'sum', in the pinned program and in every row, IS THE sha256 OF THE DUMP (.gsa) THAT YtoaliamemkjfhaaProg.lean LOADS. Nothing in Lean hashes anything: it is a label: what it is worth is what the hold of that sum in a sandbox is worth. -/
noncomputable def Try.pinned : Pinned := { name := "ytoaliamemkjfhaa", sum := "2becf0bf6af5fe5f1584a8ed7835e2fe9934bc3fa7b99efbf0113155dee2af35", checked := Try.checked }
namespace Rows
def none {H : Type} : Left H := { results := [], args := [] }

/-- 'turnbucklelaw12.VersHash': WHATEVER THE INPUT: true; the input reads as it did. -/
def versHashSpec : ChangeSpec := { name := "versHash", fn := fun _ => fun
  | [d] => { results := [.lit (.bool true)], args := [d] }
  | _ => none }
def versHashRow : OpenClaim := { program := "ytoaliamemkjfhaa", sum := "2becf0bf6af5fe5f1584a8ed7835e2fe9934bc3fa7b99efbf0113155dee2af35", func := "turnbuckle/turnbucklelaw12.VersHash", spec := "versHash", inPlace := ["internal/bytealg.IndexByteString", "internal/bytealg.IndexString"], unfollowed := true, recurses := true, named := ["internal/bytealg.MaxLen"], apart := false }
def VersHashSaid : Prop := versHashRow.holds Try.pinned (OpenSpec.ofChange versHashSpec)

/-- ITS FALSE NEIGHBOUR: 'it returns false'. Refute it at one input. -/
def versHashWrong : ChangeSpec := { name := "versHash", fn := fun _ => fun
  | [d] => { results := [.lit (.bool false)], args := [d] }
  | _ => none }
def VersHashWrongFalsely : Prop := versHashRow.holds Try.pinned (OpenSpec.ofChange versHashWrong)

/-- 'turnbucklelaw12.VersDefs': WHATEVER THE INPUT: true; the input reads as it did. -/
def versDefsSpec : ChangeSpec := { name := "versDefs", fn := fun _ => fun
  | [d1, d2, d3] => { results := [.lit (.bool true)], args := [d1, d2, d3] }
  | _ => none }
def versDefsRow : OpenClaim := { program := "ytoaliamemkjfhaa", sum := "2becf0bf6af5fe5f1584a8ed7835e2fe9934bc3fa7b99efbf0113155dee2af35", func := "turnbuckle/turnbucklelaw12.VersDefs", spec := "versDefs", inPlace := ["internal/bytealg.IndexByteString", "internal/bytealg.IndexString"], unfollowed := true, recurses := true, named := ["internal/bytealg.MaxLen"], apart := false }
def VersDefsSaid : Prop := versDefsRow.holds Try.pinned (OpenSpec.ofChange versDefsSpec)

/-- ITS FALSE NEIGHBOUR: 'it returns false'. Refute it at one input. -/
def versDefsWrong : ChangeSpec := { name := "versDefs", fn := fun _ => fun
  | [d1, d2, d3] => { results := [.lit (.bool false)], args := [d1, d2, d3] }
  | _ => none }
def VersDefsWrongFalsely : Prop := versDefsRow.holds Try.pinned (OpenSpec.ofChange versDefsWrong)

/-- 'turnbucklelaw12.VersPlaces': WHATEVER THE INPUT: true; the input reads as it did. -/
def versPlacesSpec : ChangeSpec := { name := "versPlaces", fn := fun _ => fun
  | [d1, d2] => { results := [.lit (.bool true)], args := [d1, d2] }
  | _ => none }
def versPlacesRow : OpenClaim := { program := "ytoaliamemkjfhaa", sum := "2becf0bf6af5fe5f1584a8ed7835e2fe9934bc3fa7b99efbf0113155dee2af35", func := "turnbuckle/turnbucklelaw12.VersPlaces", spec := "versPlaces", inPlace := ["internal/bytealg.IndexByteString", "internal/bytealg.IndexString"], unfollowed := true, recurses := true, named := ["internal/bytealg.MaxLen"], apart := false }
def VersPlacesSaid : Prop := versPlacesRow.holds Try.pinned (OpenSpec.ofChange versPlacesSpec)

/-- ITS FALSE NEIGHBOUR: 'it returns false'. Refute it at one input. -/
def versPlacesWrong : ChangeSpec := { name := "versPlaces", fn := fun _ => fun
  | [d1, d2] => { results := [.lit (.bool false)], args := [d1, d2] }
  | _ => none }
def VersPlacesWrongFalsely : Prop := versPlacesRow.holds Try.pinned (OpenSpec.ofChange versPlacesWrong)

/-- 'turnbucklelaw12.VersOf': WHATEVER THE INPUT: true; the input reads as it did. -/
def versOfSpec : ChangeSpec := { name := "versOf", fn := fun _ => fun
  | [d1, d2, d3] => { results := [.lit (.bool true)], args := [d1, d2, d3] }
  | _ => none }
def versOfRow : OpenClaim := { program := "ytoaliamemkjfhaa", sum := "2becf0bf6af5fe5f1584a8ed7835e2fe9934bc3fa7b99efbf0113155dee2af35", func := "turnbuckle/turnbucklelaw12.VersOf", spec := "versOf", inPlace := ["internal/bytealg.IndexByteString", "internal/bytealg.IndexString"], unfollowed := true, recurses := true, named := ["internal/bytealg.MaxLen"], apart := false }
def VersOfSaid : Prop := versOfRow.holds Try.pinned (OpenSpec.ofChange versOfSpec)

/-- ITS FALSE NEIGHBOUR: 'it returns false'. Refute it at one input. -/
def versOfWrong : ChangeSpec := { name := "versOf", fn := fun _ => fun
  | [d1, d2, d3] => { results := [.lit (.bool false)], args := [d1, d2, d3] }
  | _ => none }
def VersOfWrongFalsely : Prop := versOfRow.holds Try.pinned (OpenSpec.ofChange versOfWrong)

/-- 'turnbucklelaw12.VersNeeds': WHATEVER THE INPUT: true; the input reads as it did. -/
def versNeedsSpec : ChangeSpec := { name := "versNeeds", fn := fun _ => fun
  | [d1, d2, d3] => { results := [.lit (.bool true)], args := [d1, d2, d3] }
  | _ => none }
def versNeedsRow : OpenClaim := { program := "ytoaliamemkjfhaa", sum := "2becf0bf6af5fe5f1584a8ed7835e2fe9934bc3fa7b99efbf0113155dee2af35", func := "turnbuckle/turnbucklelaw12.VersNeeds", spec := "versNeeds", inPlace := ["internal/bytealg.IndexByteString", "internal/bytealg.IndexString"], unfollowed := true, recurses := true, named := ["internal/bytealg.MaxLen"], apart := false }
def VersNeedsSaid : Prop := versNeedsRow.holds Try.pinned (OpenSpec.ofChange versNeedsSpec)

/-- ITS FALSE NEIGHBOUR: 'it returns false'. Refute it at one input. -/
def versNeedsWrong : ChangeSpec := { name := "versNeeds", fn := fun _ => fun
  | [d1, d2, d3] => { results := [.lit (.bool false)], args := [d1, d2, d3] }
  | _ => none }
def VersNeedsWrongFalsely : Prop := versNeedsRow.holds Try.pinned (OpenSpec.ofChange versNeedsWrong)

/- THE SECOND FORM. 'bulk': how many values and letters a reading holds, each counted each time it is reached (what is shared counts as often as it is met; a slice's spare places count too). A statement '..UptoSaid' is the law's where the arguments, and the package variables that the reading takes, are together of bulk at most 1048576: NARROWER than '..Said'. Prove '..Said' where nothing that the law and all that it calls make is longer than what came in: it says more and counts as full. Else prove '..UptoSaid'. A law counts once. -/
mutual
def uptoBulk {H : Type} : DataW H → Nat
  | .lit (.string bytes) => bytes.length + 1
  | .lit _ => 1
  | .nil => 1
  | .ptr d => uptoBulk d + 1
  | .slice elems spare => uptoBulkAll elems + uptoBulkAll spare + 1
  | .agg parts => uptoBulkAll parts + 1
  | .iface _ d => uptoBulk d + 1
  | .map entries => uptoBulkEntries entries + 1
  | .held _ => 1
def uptoBulkAll {H : Type} : List (DataW H) → Nat
  | [] => 0
  | d :: r => uptoBulk d + uptoBulkAll r
def uptoBulkEntries {H : Type} : List (Lit × DataW H) → Nat
  | [] => 0
  | x :: r => uptoBulkEntry x + uptoBulkEntries r
def uptoBulkEntry {H : Type} : Lit × DataW H → Nat
  | (.string bytes, d) => bytes.length + uptoBulk d + 1
  | (_, d) => uptoBulk d + 1
 end
def uptoSmall : (H : Type) → List (DataW H) → Bool := fun _ ds => decide (uptoBulkAll ds ≤ 1048576)
def OpenSpec.upto (s : _root_.Go.ChangeSpec) : _root_.Go.OpenSpec := { _root_.Go.OpenSpec.ofChange s with cond := some uptoSmall }

/-- 'turnbucklelaw12.VersHash', WHERE WHAT IT READS IS OF BULK AT MOST 1048576: true; the input reads as it did. -/
def versHashUptoRow : OpenClaim := { program := "ytoaliamemkjfhaa", sum := "2becf0bf6af5fe5f1584a8ed7835e2fe9934bc3fa7b99efbf0113155dee2af35", func := "turnbuckle/turnbucklelaw12.VersHash", spec := "versHash", inPlace := ["internal/bytealg.IndexByteString", "internal/bytealg.IndexString"], unfollowed := true, recurses := true, named := ["internal/bytealg.MaxLen"], apart := false, narrowed := true }
def VersHashUptoSaid : Prop := versHashUptoRow.holds Try.pinned (OpenSpec.upto versHashSpec)

/-- 'turnbucklelaw12.VersDefs', WHERE WHAT IT READS IS OF BULK AT MOST 1048576: true; the input reads as it did. -/
def versDefsUptoRow : OpenClaim := { program := "ytoaliamemkjfhaa", sum := "2becf0bf6af5fe5f1584a8ed7835e2fe9934bc3fa7b99efbf0113155dee2af35", func := "turnbuckle/turnbucklelaw12.VersDefs", spec := "versDefs", inPlace := ["internal/bytealg.IndexByteString", "internal/bytealg.IndexString"], unfollowed := true, recurses := true, named := ["internal/bytealg.MaxLen"], apart := false, narrowed := true }
def VersDefsUptoSaid : Prop := versDefsUptoRow.holds Try.pinned (OpenSpec.upto versDefsSpec)

/-- 'turnbucklelaw12.VersPlaces', WHERE WHAT IT READS IS OF BULK AT MOST 1048576: true; the input reads as it did. -/
def versPlacesUptoRow : OpenClaim := { program := "ytoaliamemkjfhaa", sum := "2becf0bf6af5fe5f1584a8ed7835e2fe9934bc3fa7b99efbf0113155dee2af35", func := "turnbuckle/turnbucklelaw12.VersPlaces", spec := "versPlaces", inPlace := ["internal/bytealg.IndexByteString", "internal/bytealg.IndexString"], unfollowed := true, recurses := true, named := ["internal/bytealg.MaxLen"], apart := false, narrowed := true }
def VersPlacesUptoSaid : Prop := versPlacesUptoRow.holds Try.pinned (OpenSpec.upto versPlacesSpec)

/-- 'turnbucklelaw12.VersOf', WHERE WHAT IT READS IS OF BULK AT MOST 1048576: true; the input reads as it did. -/
def versOfUptoRow : OpenClaim := { program := "ytoaliamemkjfhaa", sum := "2becf0bf6af5fe5f1584a8ed7835e2fe9934bc3fa7b99efbf0113155dee2af35", func := "turnbuckle/turnbucklelaw12.VersOf", spec := "versOf", inPlace := ["internal/bytealg.IndexByteString", "internal/bytealg.IndexString"], unfollowed := true, recurses := true, named := ["internal/bytealg.MaxLen"], apart := false, narrowed := true }
def VersOfUptoSaid : Prop := versOfUptoRow.holds Try.pinned (OpenSpec.upto versOfSpec)

/-- 'turnbucklelaw12.VersNeeds', WHERE WHAT IT READS IS OF BULK AT MOST 1048576: true; the input reads as it did. -/
def versNeedsUptoRow : OpenClaim := { program := "ytoaliamemkjfhaa", sum := "2becf0bf6af5fe5f1584a8ed7835e2fe9934bc3fa7b99efbf0113155dee2af35", func := "turnbuckle/turnbucklelaw12.VersNeeds", spec := "versNeeds", inPlace := ["internal/bytealg.IndexByteString", "internal/bytealg.IndexString"], unfollowed := true, recurses := true, named := ["internal/bytealg.MaxLen"], apart := false, narrowed := true }
def VersNeedsUptoSaid : Prop := versNeedsUptoRow.holds Try.pinned (OpenSpec.upto versNeedsSpec)

end Rows
end Go.Proofs.Ytoaliamemkjfhaa
