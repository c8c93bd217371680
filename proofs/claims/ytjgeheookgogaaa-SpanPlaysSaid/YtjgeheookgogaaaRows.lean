/-
  No cell of these rows narrows 'for every input' (looked for: loops, veiled, ifaces, maps, wideKeys, modest, calm, conditions, laid).
  DERIVED. THE GIVEN ROWS OF THIS SEAT. 5 by the template 'for every input the law returns true; each argument reads behind the call as it read before'; 0 by the template 'total and deterministic' (their statements: YtjgeheookgogaaaTotals.lean).
  GIVEN WITH THE SEED: the statements are not yours to turn. If you find one false, say at which input.
  Laid BY PROGRAM, IN A SANDBOX (cutbox-rows.mjs): the forced cells as the released guide's own fill.sh prints them over the translation 9c002a35f3853def… (all of the seat's roots in one cut). By AI agents, Wed Nov 11 2026. No macro, syntax, notation, axiom, sorry.
-/
import Derived.Test.YtjgeheookgogaaaChecked
import GoSem.Claim
import GoSem.ClaimJoined
import GoSem.ClaimMapViews
import Derived.JoinedTies
import Derived.KernelRfl
namespace Go.Proofs.Ytjgeheookgogaaa
/- THE CELL 'sum', in the pinned program and in every row, IS THE sha256 OF THE DUMP (.gsa) THAT YtjgeheookgogaaaProg.lean LOADS. Nothing in Lean hashes anything: it is a label: what it is worth is what the hold of that sum in a sandbox is worth. -/
noncomputable def Try.pinned : Pinned := { name := "ytjgeheookgogaaa", sum := "9c002a35f3853def1fb5c26e97ddb0b741054f95e8356a6502670af513d1094b", checked := Try.checked }
namespace Rows
def none {H : Type} : Left H := { results := [], args := [] }

/-- 'turnbucklelaw03.SpanStops': WHATEVER THE INPUT: true; the input reads as it did. -/
def spanStopsSpec : ChangeSpec := { name := "spanStops", fn := fun _ => fun
  | [d1, d2] => { results := [.lit (.bool true)], args := [d1, d2] }
  | _ => none }
def spanStopsRow : OpenClaim := { program := "ytjgeheookgogaaa", sum := "9c002a35f3853def1fb5c26e97ddb0b741054f95e8356a6502670af513d1094b", func := "turnbuckle/turnbucklelaw03.SpanStops", spec := "spanStops", unfollowed := true, recurses := true, apart := false }
def SpanStopsSaid : Prop := spanStopsRow.holds Try.pinned (OpenSpec.ofChange spanStopsSpec)

/-- ITS FALSE NEIGHBOUR: 'it returns false'. Refute it at one input. -/
def spanStopsWrong : ChangeSpec := { name := "spanStops", fn := fun _ => fun
  | [d1, d2] => { results := [.lit (.bool false)], args := [d1, d2] }
  | _ => none }
def SpanStopsWrongFalsely : Prop := spanStopsRow.holds Try.pinned (OpenSpec.ofChange spanStopsWrong)

/-- 'turnbucklelaw03.SpanTwo': WHATEVER THE INPUT: true; the input reads as it did. -/
def spanTwoSpec : ChangeSpec := { name := "spanTwo", fn := fun _ => fun
  | [d1, d2, d3] => { results := [.lit (.bool true)], args := [d1, d2, d3] }
  | _ => none }
def spanTwoRow : OpenClaim := { program := "ytjgeheookgogaaa", sum := "9c002a35f3853def1fb5c26e97ddb0b741054f95e8356a6502670af513d1094b", func := "turnbuckle/turnbucklelaw03.SpanTwo", spec := "spanTwo", unfollowed := true, recurses := true, apart := false }
def SpanTwoSaid : Prop := spanTwoRow.holds Try.pinned (OpenSpec.ofChange spanTwoSpec)

/-- ITS FALSE NEIGHBOUR: 'it returns false'. Refute it at one input. -/
def spanTwoWrong : ChangeSpec := { name := "spanTwo", fn := fun _ => fun
  | [d1, d2, d3] => { results := [.lit (.bool false)], args := [d1, d2, d3] }
  | _ => none }
def SpanTwoWrongFalsely : Prop := spanTwoRow.holds Try.pinned (OpenSpec.ofChange spanTwoWrong)

/-- 'turnbucklelaw03.SpanPlays': WHATEVER THE INPUT: true; the input reads as it did. -/
def spanPlaysSpec : ChangeSpec := { name := "spanPlays", fn := fun _ => fun
  | [d] => { results := [.lit (.bool true)], args := [d] }
  | _ => none }
def spanPlaysRow : OpenClaim := { program := "ytjgeheookgogaaa", sum := "9c002a35f3853def1fb5c26e97ddb0b741054f95e8356a6502670af513d1094b", func := "turnbuckle/turnbucklelaw03.SpanPlays", spec := "spanPlays", unfollowed := true, recurses := true, apart := false }
def SpanPlaysSaid : Prop := spanPlaysRow.holds Try.pinned (OpenSpec.ofChange spanPlaysSpec)

/-- ITS FALSE NEIGHBOUR: 'it returns false'. Refute it at one input. -/
def spanPlaysWrong : ChangeSpec := { name := "spanPlays", fn := fun _ => fun
  | [d] => { results := [.lit (.bool false)], args := [d] }
  | _ => none }
def SpanPlaysWrongFalsely : Prop := spanPlaysRow.holds Try.pinned (OpenSpec.ofChange spanPlaysWrong)

/-- 'turnbucklelaw03.SpanFits': WHATEVER THE INPUT: true; the input reads as it did. -/
def spanFitsSpec : ChangeSpec := { name := "spanFits", fn := fun _ => fun
  | [d1, d2, d3] => { results := [.lit (.bool true)], args := [d1, d2, d3] }
  | _ => none }
def spanFitsRow : OpenClaim := { program := "ytjgeheookgogaaa", sum := "9c002a35f3853def1fb5c26e97ddb0b741054f95e8356a6502670af513d1094b", func := "turnbuckle/turnbucklelaw03.SpanFits", spec := "spanFits", unfollowed := true, recurses := true, apart := false }
def SpanFitsSaid : Prop := spanFitsRow.holds Try.pinned (OpenSpec.ofChange spanFitsSpec)

/-- ITS FALSE NEIGHBOUR: 'it returns false'. Refute it at one input. -/
def spanFitsWrong : ChangeSpec := { name := "spanFits", fn := fun _ => fun
  | [d1, d2, d3] => { results := [.lit (.bool false)], args := [d1, d2, d3] }
  | _ => none }
def SpanFitsWrongFalsely : Prop := spanFitsRow.holds Try.pinned (OpenSpec.ofChange spanFitsWrong)

/-- 'turnbucklelaw03.SpanNil': WHATEVER THE INPUT: true; the input reads as it did. -/
def spanNilSpec : ChangeSpec := { name := "spanNil", fn := fun _ => fun
  | [d1, d2] => { results := [.lit (.bool true)], args := [d1, d2] }
  | _ => none }
def spanNilRow : OpenClaim := { program := "ytjgeheookgogaaa", sum := "9c002a35f3853def1fb5c26e97ddb0b741054f95e8356a6502670af513d1094b", func := "turnbuckle/turnbucklelaw03.SpanNil", spec := "spanNil", unfollowed := true, recurses := true, apart := false }
def SpanNilSaid : Prop := spanNilRow.holds Try.pinned (OpenSpec.ofChange spanNilSpec)

/-- ITS FALSE NEIGHBOUR: 'it returns false'. Refute it at one input. -/
def spanNilWrong : ChangeSpec := { name := "spanNil", fn := fun _ => fun
  | [d1, d2] => { results := [.lit (.bool false)], args := [d1, d2] }
  | _ => none }
def SpanNilWrongFalsely : Prop := spanNilRow.holds Try.pinned (OpenSpec.ofChange spanNilWrong)

/- THE SECOND FORM. 'bulk': how many values and letters a reading holds, each counted each time it is reached (what is shared counts as often as it is met; a slice's spare places count too). A statement '..UptoSaid' is the law's where the arguments, and the package variables that the reading takes, are together of bulk at most 1048576: NARROWER than '..Said'. Prove '..Said' where nothing that the law and all that it calls make is longer than what came in: it says more and counts as full. Else prove '..UptoSaid'. A law counts once. -/
mutual
def uptoBulk {H : Type} : DataW H → Nat
  | .lit (.string bytes) => bytes.length + 1
  | .lit _ => 1
  | .nil => 1
  | .ptr d => uptoBulk d + 1
  | .slice elems spare => uptoBulkAll elems + uptoBulkAll spare + 1
  | .agg parts => uptoBulkAll parts + 1
  | .iface _ d => uptoBulk d + 1
  | .map entries => uptoBulkEntries entries + 1
  | .held _ => 1
def uptoBulkAll {H : Type} : List (DataW H) → Nat
  | [] => 0
  | d :: r => uptoBulk d + uptoBulkAll r
def uptoBulkEntries {H : Type} : List (Lit × DataW H) → Nat
  | [] => 0
  | x :: r => uptoBulkEntry x + uptoBulkEntries r
def uptoBulkEntry {H : Type} : Lit × DataW H → Nat
  | (.string bytes, d) => bytes.length + uptoBulk d + 1
  | (_, d) => uptoBulk d + 1
 end
def uptoSmall : (H : Type) → List (DataW H) → Bool := fun _ ds => decide (uptoBulkAll ds ≤ 1048576)
def OpenSpec.upto (s : _root_.Go.ChangeSpec) : _root_.Go.OpenSpec := { _root_.Go.OpenSpec.ofChange s with cond := some uptoSmall }

/-- 'turnbucklelaw03.SpanStops', WHERE WHAT IT READS IS OF BULK AT MOST 1048576: true; the input reads as it did. -/
def spanStopsUptoRow : OpenClaim := { program := "ytjgeheookgogaaa", sum := "9c002a35f3853def1fb5c26e97ddb0b741054f95e8356a6502670af513d1094b", func := "turnbuckle/turnbucklelaw03.SpanStops", spec := "spanStops", unfollowed := true, recurses := true, apart := false, narrowed := true }
def SpanStopsUptoSaid : Prop := spanStopsUptoRow.holds Try.pinned (OpenSpec.upto spanStopsSpec)

/-- 'turnbucklelaw03.SpanTwo', WHERE WHAT IT READS IS OF BULK AT MOST 1048576: true; the input reads as it did. -/
def spanTwoUptoRow : OpenClaim := { program := "ytjgeheookgogaaa", sum := "9c002a35f3853def1fb5c26e97ddb0b741054f95e8356a6502670af513d1094b", func := "turnbuckle/turnbucklelaw03.SpanTwo", spec := "spanTwo", unfollowed := true, recurses := true, apart := false, narrowed := true }
def SpanTwoUptoSaid : Prop := spanTwoUptoRow.holds Try.pinned (OpenSpec.upto spanTwoSpec)

/-- 'turnbucklelaw03.SpanPlays', WHERE WHAT IT READS IS OF BULK AT MOST 1048576: true; the input reads as it did. -/
def spanPlaysUptoRow : OpenClaim := { program := "ytjgeheookgogaaa", sum := "9c002a35f3853def1fb5c26e97ddb0b741054f95e8356a6502670af513d1094b", func := "turnbuckle/turnbucklelaw03.SpanPlays", spec := "spanPlays", unfollowed := true, recurses := true, apart := false, narrowed := true }
def SpanPlaysUptoSaid : Prop := spanPlaysUptoRow.holds Try.pinned (OpenSpec.upto spanPlaysSpec)

/-- 'turnbucklelaw03.SpanFits', WHERE WHAT IT READS IS OF BULK AT MOST 1048576: true; the input reads as it did. -/
def spanFitsUptoRow : OpenClaim := { program := "ytjgeheookgogaaa", sum := "9c002a35f3853def1fb5c26e97ddb0b741054f95e8356a6502670af513d1094b", func := "turnbuckle/turnbucklelaw03.SpanFits", spec := "spanFits", unfollowed := true, recurses := true, apart := false, narrowed := true }
def SpanFitsUptoSaid : Prop := spanFitsUptoRow.holds Try.pinned (OpenSpec.upto spanFitsSpec)

/-- 'turnbucklelaw03.SpanNil', WHERE WHAT IT READS IS OF BULK AT MOST 1048576: true; the input reads as it did. -/
def spanNilUptoRow : OpenClaim := { program := "ytjgeheookgogaaa", sum := "9c002a35f3853def1fb5c26e97ddb0b741054f95e8356a6502670af513d1094b", func := "turnbuckle/turnbucklelaw03.SpanNil", spec := "spanNil", unfollowed := true, recurses := true, apart := false, narrowed := true }
def SpanNilUptoSaid : Prop := spanNilUptoRow.holds Try.pinned (OpenSpec.upto spanNilSpec)

end Rows
end Go.Proofs.Ytjgeheookgogaaa
