/-
  No cell of these rows narrows 'for every input' (looked for: loops, veiled, ifaces, maps, wideKeys, modest, calm, conditions, laid).
  DERIVED. THE GIVEN ROWS OF THIS SEAT. 5 by the template 'for every input the law returns true; each argument reads behind the call as it read before'; 0 by the template 'total and deterministic' (their statements: YtdiecgjhmlljmaaTotals.lean).
  GIVEN WITH THE SEED: the statements are not yours to turn. If you find one false, say at which input.
  Laid BY PROGRAM, IN A SANDBOX (cutbox-rows.mjs): the forced cells as the released guide's own fill.sh prints them over the translation 79e071621e75e122… (all of the seat's roots in one cut). By AI agents, Wed Nov 11 2026. No macro, syntax, notation, axiom, sorry.
-/
import Derived.Test.YtdiecgjhmlljmaaChecked
import GoSem.Claim
import GoSem.ClaimJoined
import GoSem.ClaimMapViews
import Derived.JoinedTies
import Derived.KernelRfl
namespace Go.Proofs.Ytdiecgjhmlljmaa
/- THE CELL 'sum', in the pinned program and in every row, IS THE sha256 OF THE DUMP (.gsa) THAT YtdiecgjhmlljmaaProg.lean LOADS. Nothing in Lean hashes anything: it is a label: what it is worth is what the hold of that sum in a sandbox is worth. -/
noncomputable def Try.pinned : Pinned := { name := "ytdiecgjhmlljmaa", sum := "79e071621e75e122e6b11f2a3dc1706c199cbc3143bf55517c0bbb47bd6c9b07", checked := Try.checked }
namespace Rows
def none {H : Type} : Left H := { results := [], args := [] }

/-- 'turnbucklelaw01.LeNumbers': WHATEVER THE INPUT: true; the input reads as it did. -/
def leNumbersSpec : ChangeSpec := { name := "leNumbers", fn := fun _ => fun
  | [d1, d2, d3] => { results := [.lit (.bool true)], args := [d1, d2, d3] }
  | _ => none }
def leNumbersRow : OpenClaim := { program := "ytdiecgjhmlljmaa", sum := "79e071621e75e122e6b11f2a3dc1706c199cbc3143bf55517c0bbb47bd6c9b07", func := "turnbuckle/turnbucklelaw01.LeNumbers", spec := "leNumbers", inPlace := ["internal/bytealg.IndexByteString", "internal/bytealg.IndexString"], named := ["internal/bytealg.MaxLen"], apart := false }
def LeNumbersSaid : Prop := leNumbersRow.holds Try.pinned (OpenSpec.ofChange leNumbersSpec)

/-- ITS FALSE NEIGHBOUR: 'it returns false'. Refute it at one input. -/
def leNumbersWrong : ChangeSpec := { name := "leNumbers", fn := fun _ => fun
  | [d1, d2, d3] => { results := [.lit (.bool false)], args := [d1, d2, d3] }
  | _ => none }
def LeNumbersWrongFalsely : Prop := leNumbersRow.holds Try.pinned (OpenSpec.ofChange leNumbersWrong)

/-- 'turnbucklelaw01.LeParts': WHATEVER THE INPUT: true; the input reads as it did. -/
def lePartsSpec : ChangeSpec := { name := "leParts", fn := fun _ => fun
  | [d1, d2, d3] => { results := [.lit (.bool true)], args := [d1, d2, d3] }
  | _ => none }
def lePartsRow : OpenClaim := { program := "ytdiecgjhmlljmaa", sum := "79e071621e75e122e6b11f2a3dc1706c199cbc3143bf55517c0bbb47bd6c9b07", func := "turnbuckle/turnbucklelaw01.LeParts", spec := "leParts", inPlace := ["internal/bytealg.IndexByteString", "internal/bytealg.IndexString"], named := ["internal/bytealg.MaxLen"], apart := false }
def LePartsSaid : Prop := lePartsRow.holds Try.pinned (OpenSpec.ofChange lePartsSpec)

/-- ITS FALSE NEIGHBOUR: 'it returns false'. Refute it at one input. -/
def lePartsWrong : ChangeSpec := { name := "leParts", fn := fun _ => fun
  | [d1, d2, d3] => { results := [.lit (.bool false)], args := [d1, d2, d3] }
  | _ => none }
def LePartsWrongFalsely : Prop := lePartsRow.holds Try.pinned (OpenSpec.ofChange lePartsWrong)

/-- 'turnbucklelaw01.LeJoins': WHATEVER THE INPUT: true; the input reads as it did. -/
def leJoinsSpec : ChangeSpec := { name := "leJoins", fn := fun _ => fun
  | [d1, d2] => { results := [.lit (.bool true)], args := [d1, d2] }
  | _ => none }
def leJoinsRow : OpenClaim := { program := "ytdiecgjhmlljmaa", sum := "79e071621e75e122e6b11f2a3dc1706c199cbc3143bf55517c0bbb47bd6c9b07", func := "turnbuckle/turnbucklelaw01.LeJoins", spec := "leJoins", inPlace := ["internal/bytealg.IndexByteString", "internal/bytealg.IndexString"], named := ["internal/bytealg.MaxLen"], apart := false }
def LeJoinsSaid : Prop := leJoinsRow.holds Try.pinned (OpenSpec.ofChange leJoinsSpec)

/-- ITS FALSE NEIGHBOUR: 'it returns false'. Refute it at one input. -/
def leJoinsWrong : ChangeSpec := { name := "leJoins", fn := fun _ => fun
  | [d1, d2] => { results := [.lit (.bool false)], args := [d1, d2] }
  | _ => none }
def LeJoinsWrongFalsely : Prop := leJoinsRow.holds Try.pinned (OpenSpec.ofChange leJoinsWrong)

/-- 'turnbucklelaw01.LeWith': WHATEVER THE INPUT: true; the input reads as it did. -/
def leWithSpec : ChangeSpec := { name := "leWith", fn := fun _ => fun
  | [d1, d2, d3] => { results := [.lit (.bool true)], args := [d1, d2, d3] }
  | _ => none }
def leWithRow : OpenClaim := { program := "ytdiecgjhmlljmaa", sum := "79e071621e75e122e6b11f2a3dc1706c199cbc3143bf55517c0bbb47bd6c9b07", func := "turnbuckle/turnbucklelaw01.LeWith", spec := "leWith", inPlace := ["internal/bytealg.IndexByteString", "internal/bytealg.IndexString"], named := ["internal/bytealg.MaxLen"], apart := false }
def LeWithSaid : Prop := leWithRow.holds Try.pinned (OpenSpec.ofChange leWithSpec)

/-- ITS FALSE NEIGHBOUR: 'it returns false'. Refute it at one input. -/
def leWithWrong : ChangeSpec := { name := "leWith", fn := fun _ => fun
  | [d1, d2, d3] => { results := [.lit (.bool false)], args := [d1, d2, d3] }
  | _ => none }
def LeWithWrongFalsely : Prop := leWithRow.holds Try.pinned (OpenSpec.ofChange leWithWrong)

/-- 'turnbucklelaw01.LeEach': WHATEVER THE INPUT: true; the input reads as it did. -/
def leEachSpec : ChangeSpec := { name := "leEach", fn := fun _ => fun
  | [d1, d2, d3] => { results := [.lit (.bool true)], args := [d1, d2, d3] }
  | _ => none }
def leEachRow : OpenClaim := { program := "ytdiecgjhmlljmaa", sum := "79e071621e75e122e6b11f2a3dc1706c199cbc3143bf55517c0bbb47bd6c9b07", func := "turnbuckle/turnbucklelaw01.LeEach", spec := "leEach", inPlace := ["internal/bytealg.IndexByteString", "internal/bytealg.IndexString"], unfollowed := true, recurses := true, named := ["internal/bytealg.MaxLen"], apart := false }
def LeEachSaid : Prop := leEachRow.holds Try.pinned (OpenSpec.ofChange leEachSpec)

/-- ITS FALSE NEIGHBOUR: 'it returns false'. Refute it at one input. -/
def leEachWrong : ChangeSpec := { name := "leEach", fn := fun _ => fun
  | [d1, d2, d3] => { results := [.lit (.bool false)], args := [d1, d2, d3] }
  | _ => none }
def LeEachWrongFalsely : Prop := leEachRow.holds Try.pinned (OpenSpec.ofChange leEachWrong)

/- THE SECOND FORM. 'bulk': how many values and letters a reading holds, each counted each time it is reached (what is shared counts as often as it is met; a slice's spare places count too). A statement '..UptoSaid' is the law's where the arguments, and the package variables that the reading takes, are together of bulk at most 1048576: NARROWER than '..Said'. Prove '..Said' where nothing that the law and all that it calls make is longer than what came in: it says more and counts as full. Else prove '..UptoSaid'. A law counts once. -/
mutual
def uptoBulk {H : Type} : DataW H → Nat
  | .lit (.string bytes) => bytes.length + 1
  | .lit _ => 1
  | .nil => 1
  | .ptr d => uptoBulk d + 1
  | .slice elems spare => uptoBulkAll elems + uptoBulkAll spare + 1
  | .agg parts => uptoBulkAll parts + 1
  | .iface _ d => uptoBulk d + 1
  | .map entries => uptoBulkEntries entries + 1
  | .held _ => 1
def uptoBulkAll {H : Type} : List (DataW H) → Nat
  | [] => 0
  | d :: r => uptoBulk d + uptoBulkAll r
def uptoBulkEntries {H : Type} : List (Lit × DataW H) → Nat
  | [] => 0
  | x :: r => uptoBulkEntry x + uptoBulkEntries r
def uptoBulkEntry {H : Type} : Lit × DataW H → Nat
  | (.string bytes, d) => bytes.length + uptoBulk d + 1
  | (_, d) => uptoBulk d + 1
 end
def uptoSmall : (H : Type) → List (DataW H) → Bool := fun _ ds => decide (uptoBulkAll ds ≤ 1048576)
def OpenSpec.upto (s : _root_.Go.ChangeSpec) : _root_.Go.OpenSpec := { _root_.Go.OpenSpec.ofChange s with cond := some uptoSmall }

/-- 'turnbucklelaw01.LeNumbers', WHERE WHAT IT READS IS OF BULK AT MOST 1048576: true; the input reads as it did. -/
def leNumbersUptoRow : OpenClaim := { program := "ytdiecgjhmlljmaa", sum := "79e071621e75e122e6b11f2a3dc1706c199cbc3143bf55517c0bbb47bd6c9b07", func := "turnbuckle/turnbucklelaw01.LeNumbers", spec := "leNumbers", inPlace := ["internal/bytealg.IndexByteString", "internal/bytealg.IndexString"], named := ["internal/bytealg.MaxLen"], apart := false, narrowed := true }
def LeNumbersUptoSaid : Prop := leNumbersUptoRow.holds Try.pinned (OpenSpec.upto leNumbersSpec)

/-- 'turnbucklelaw01.LeParts', WHERE WHAT IT READS IS OF BULK AT MOST 1048576: true; the input reads as it did. -/
def lePartsUptoRow : OpenClaim := { program := "ytdiecgjhmlljmaa", sum := "79e071621e75e122e6b11f2a3dc1706c199cbc3143bf55517c0bbb47bd6c9b07", func := "turnbuckle/turnbucklelaw01.LeParts", spec := "leParts", inPlace := ["internal/bytealg.IndexByteString", "internal/bytealg.IndexString"], named := ["internal/bytealg.MaxLen"], apart := false, narrowed := true }
def LePartsUptoSaid : Prop := lePartsUptoRow.holds Try.pinned (OpenSpec.upto lePartsSpec)

/-- 'turnbucklelaw01.LeJoins', WHERE WHAT IT READS IS OF BULK AT MOST 1048576: true; the input reads as it did. -/
def leJoinsUptoRow : OpenClaim := { program := "ytdiecgjhmlljmaa", sum := "79e071621e75e122e6b11f2a3dc1706c199cbc3143bf55517c0bbb47bd6c9b07", func := "turnbuckle/turnbucklelaw01.LeJoins", spec := "leJoins", inPlace := ["internal/bytealg.IndexByteString", "internal/bytealg.IndexString"], named := ["internal/bytealg.MaxLen"], apart := false, narrowed := true }
def LeJoinsUptoSaid : Prop := leJoinsUptoRow.holds Try.pinned (OpenSpec.upto leJoinsSpec)

/-- 'turnbucklelaw01.LeWith', WHERE WHAT IT READS IS OF BULK AT MOST 1048576: true; the input reads as it did. -/
def leWithUptoRow : OpenClaim := { program := "ytdiecgjhmlljmaa", sum := "79e071621e75e122e6b11f2a3dc1706c199cbc3143bf55517c0bbb47bd6c9b07", func := "turnbuckle/turnbucklelaw01.LeWith", spec := "leWith", inPlace := ["internal/bytealg.IndexByteString", "internal/bytealg.IndexString"], named := ["internal/bytealg.MaxLen"], apart := false, narrowed := true }
def LeWithUptoSaid : Prop := leWithUptoRow.holds Try.pinned (OpenSpec.upto leWithSpec)

/-- 'turnbucklelaw01.LeEach', WHERE WHAT IT READS IS OF BULK AT MOST 1048576: true; the input reads as it did. -/
def leEachUptoRow : OpenClaim := { program := "ytdiecgjhmlljmaa", sum := "79e071621e75e122e6b11f2a3dc1706c199cbc3143bf55517c0bbb47bd6c9b07", func := "turnbuckle/turnbucklelaw01.LeEach", spec := "leEach", inPlace := ["internal/bytealg.IndexByteString", "internal/bytealg.IndexString"], unfollowed := true, recurses := true, named := ["internal/bytealg.MaxLen"], apart := false, narrowed := true }
def LeEachUptoSaid : Prop := leEachUptoRow.holds Try.pinned (OpenSpec.upto leEachSpec)

end Rows
end Go.Proofs.Ytdiecgjhmlljmaa
