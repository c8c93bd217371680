/-
  NARROWER THAN 'FOR EVERY INPUT', by the rows' own cells (each row's printed sentence says how): WordOps: laid · WordDivides: laid · WordHalves: laid · WordShifts: laid · WordNames: laid.
  DERIVED. THE GIVEN ROWS OF THIS SEAT. 5 by the template 'for every input the law returns true; each argument reads behind the call as it read before'; 0 by the template 'total and deterministic' (their statements: YtoolfgohbffgnaaDoorTotals.lean).
  GIVEN WITH THE SEED: the statements are not yours to turn. If you find one false, say at which input.
  Laid BY PROGRAM, IN A SANDBOX (cutbox-rows.mjs): the forced cells as the released guide's own fill.sh prints them over the translation 19168684f1d8ec50… (all of the seat's roots in one cut). By AI agents, Wed Nov 11 2026. No macro, syntax, notation, axiom, sorry.
-/
import Derived.Test.YtoolfgohbffgnaaDoorChecked
import GoSem.Claim
import GoSem.ClaimJoined
import GoSem.ClaimMapViews
import Derived.JoinedTies
import Derived.KernelRfl
namespace Go.Proofs.YtoolfgohbffgnaaDoor
/- THE CELL 'sum', in the pinned program and in every row, IS THE sha256 OF THE DUMP (.gsa) THAT YtoolfgohbffgnaaDoorProg.lean LOADS. Nothing in Lean hashes anything: it is a label: what it is worth is what the hold of that sum in a sandbox is worth. -/
noncomputable def Tryd.pinned : Pinned := { name := "ytoolfgohbffgnaadoor", sum := "19168684f1d8ec50b255abcc8a784e4ef7cde0ef0c43dec11f77ec47ff4a24ff", checked := Tryd.checked }
namespace Rows
def none {H : Type} : Left H := { results := [], args := [] }

/- WHAT THE LISTED PACKAGE-LEVEL VARIABLES READ AS WHEN THE CALL BEGINS. Each datum BY PROGRAM (the guide's laid-datum.mjs) off the statement by which the dump's own 'gosem.cut.vars' lays the variable. In a bare row this is a premise. The card (YtoolfgohbffgnaaDoorCards.lean) ties it to the program's text. -/
def laid_turnbuckle_word_names {H : Type} : DataW H := .agg [.lit (.string [97, 100, 100]), .lit (.string [115, 117, 98]), .lit (.string [115, 108, 108]), .lit (.string [115, 108, 116]), .lit (.string [115, 108, 116, 117]), .lit (.string [120, 111, 114]), .lit (.string [115, 114, 108]), .lit (.string [115, 114, 97]), .lit (.string [111, 114]), .lit (.string [97, 110, 100]), .lit (.string [109, 117, 108]), .lit (.string [109, 117, 108, 104]), .lit (.string [109, 117, 108, 104, 115, 117]), .lit (.string [109, 117, 108, 104, 117]), .lit (.string [100, 105, 118]), .lit (.string [100, 105, 118, 117]), .lit (.string [114, 101, 109]), .lit (.string [114, 101, 109, 117]), .lit (.string [97, 100, 100, 119]), .lit (.string [115, 117, 98, 119]), .lit (.string [115, 108, 108, 119]), .lit (.string [115, 114, 108, 119]), .lit (.string [115, 114, 97, 119]), .lit (.string [109, 117, 108, 119]), .lit (.string [100, 105, 118, 119]), .lit (.string [100, 105, 118, 117, 119]), .lit (.string [114, 101, 109, 119]), .lit (.string [114, 101, 109, 117, 119])]

/-- 'turnbucklelaw05.WordOps': WHATEVER THE INPUT: true; the input reads as it did. -/
def wordOpsSpec : ChangeSpec := { name := "wordOps", fn := fun _ => fun
  | [d1, d2] => { results := [.lit (.bool true)], args := [d1, d2] }
  | _ => none }
def wordOpsRow : OpenClaim := { program := "ytoolfgohbffgnaadoor", sum := "19168684f1d8ec50b255abcc8a784e4ef7cde0ef0c43dec11f77ec47ff4a24ff", func := "turnbuckle/turnbucklelaw05.WordOps", spec := "wordOps", named := ["turnbuckle/word.names"], apart := false, laid := [("turnbuckle/word.names", laid_turnbuckle_word_names)] }
def WordOpsSaid : Prop := wordOpsRow.holds Tryd.pinned (OpenSpec.ofChange wordOpsSpec)

/-- ITS FALSE NEIGHBOUR: 'it returns false'. Refute it at one input. -/
def wordOpsWrong : ChangeSpec := { name := "wordOps", fn := fun _ => fun
  | [d1, d2] => { results := [.lit (.bool false)], args := [d1, d2] }
  | _ => none }
def WordOpsWrongFalsely : Prop := wordOpsRow.holds Tryd.pinned (OpenSpec.ofChange wordOpsWrong)

/-- 'turnbucklelaw05.WordDivides': WHATEVER THE INPUT: true; the input reads as it did. -/
def wordDividesSpec : ChangeSpec := { name := "wordDivides", fn := fun _ => fun
  | [d1, d2] => { results := [.lit (.bool true)], args := [d1, d2] }
  | _ => none }
def wordDividesRow : OpenClaim := { program := "ytoolfgohbffgnaadoor", sum := "19168684f1d8ec50b255abcc8a784e4ef7cde0ef0c43dec11f77ec47ff4a24ff", func := "turnbuckle/turnbucklelaw05.WordDivides", spec := "wordDivides", named := ["turnbuckle/word.names"], apart := false, laid := [("turnbuckle/word.names", laid_turnbuckle_word_names)] }
def WordDividesSaid : Prop := wordDividesRow.holds Tryd.pinned (OpenSpec.ofChange wordDividesSpec)

/-- ITS FALSE NEIGHBOUR: 'it returns false'. Refute it at one input. -/
def wordDividesWrong : ChangeSpec := { name := "wordDivides", fn := fun _ => fun
  | [d1, d2] => { results := [.lit (.bool false)], args := [d1, d2] }
  | _ => none }
def WordDividesWrongFalsely : Prop := wordDividesRow.holds Tryd.pinned (OpenSpec.ofChange wordDividesWrong)

/-- 'turnbucklelaw05.WordHalves': WHATEVER THE INPUT: true; the input reads as it did. -/
def wordHalvesSpec : ChangeSpec := { name := "wordHalves", fn := fun _ => fun
  | [d1, d2, d3] => { results := [.lit (.bool true)], args := [d1, d2, d3] }
  | _ => none }
def wordHalvesRow : OpenClaim := { program := "ytoolfgohbffgnaadoor", sum := "19168684f1d8ec50b255abcc8a784e4ef7cde0ef0c43dec11f77ec47ff4a24ff", func := "turnbuckle/turnbucklelaw05.WordHalves", spec := "wordHalves", named := ["turnbuckle/word.names"], apart := false, laid := [("turnbuckle/word.names", laid_turnbuckle_word_names)] }
def WordHalvesSaid : Prop := wordHalvesRow.holds Tryd.pinned (OpenSpec.ofChange wordHalvesSpec)

/-- ITS FALSE NEIGHBOUR: 'it returns false'. Refute it at one input. -/
def wordHalvesWrong : ChangeSpec := { name := "wordHalves", fn := fun _ => fun
  | [d1, d2, d3] => { results := [.lit (.bool false)], args := [d1, d2, d3] }
  | _ => none }
def WordHalvesWrongFalsely : Prop := wordHalvesRow.holds Tryd.pinned (OpenSpec.ofChange wordHalvesWrong)

/-- 'turnbucklelaw05.WordShifts': WHATEVER THE INPUT: true; the input reads as it did. -/
def wordShiftsSpec : ChangeSpec := { name := "wordShifts", fn := fun _ => fun
  | [d1, d2] => { results := [.lit (.bool true)], args := [d1, d2] }
  | _ => none }
def wordShiftsRow : OpenClaim := { program := "ytoolfgohbffgnaadoor", sum := "19168684f1d8ec50b255abcc8a784e4ef7cde0ef0c43dec11f77ec47ff4a24ff", func := "turnbuckle/turnbucklelaw05.WordShifts", spec := "wordShifts", named := ["turnbuckle/word.names"], apart := false, laid := [("turnbuckle/word.names", laid_turnbuckle_word_names)] }
def WordShiftsSaid : Prop := wordShiftsRow.holds Tryd.pinned (OpenSpec.ofChange wordShiftsSpec)

/-- ITS FALSE NEIGHBOUR: 'it returns false'. Refute it at one input. -/
def wordShiftsWrong : ChangeSpec := { name := "wordShifts", fn := fun _ => fun
  | [d1, d2] => { results := [.lit (.bool false)], args := [d1, d2] }
  | _ => none }
def WordShiftsWrongFalsely : Prop := wordShiftsRow.holds Tryd.pinned (OpenSpec.ofChange wordShiftsWrong)

/-- 'turnbucklelaw05.WordNames': WHATEVER THE INPUT: true; the input reads as it did. -/
def wordNamesSpec : ChangeSpec := { name := "wordNames", fn := fun _ => fun
  | [d1, d2] => { results := [.lit (.bool true)], args := [d1, d2] }
  | _ => none }
def wordNamesRow : OpenClaim := { program := "ytoolfgohbffgnaadoor", sum := "19168684f1d8ec50b255abcc8a784e4ef7cde0ef0c43dec11f77ec47ff4a24ff", func := "turnbuckle/turnbucklelaw05.WordNames", spec := "wordNames", named := ["turnbuckle/word.names"], apart := false, laid := [("turnbuckle/word.names", laid_turnbuckle_word_names)] }
def WordNamesSaid : Prop := wordNamesRow.holds Tryd.pinned (OpenSpec.ofChange wordNamesSpec)

/-- ITS FALSE NEIGHBOUR: 'it returns false'. Refute it at one input. -/
def wordNamesWrong : ChangeSpec := { name := "wordNames", fn := fun _ => fun
  | [d1, d2] => { results := [.lit (.bool false)], args := [d1, d2] }
  | _ => none }
def WordNamesWrongFalsely : Prop := wordNamesRow.holds Tryd.pinned (OpenSpec.ofChange wordNamesWrong)

/- THE SECOND FORM. 'bulk': how many values and letters a reading holds, each counted each time it is reached (what is shared counts as often as it is met; a slice's spare places count too). A statement '..UptoSaid' is the law's where the arguments, and the package variables that the reading takes, are together of bulk at most 1048576: NARROWER than '..Said'. Prove '..Said' where nothing that the law and all that it calls make is longer than what came in: it says more and counts as full. Else prove '..UptoSaid'. A law counts once. -/
mutual
def uptoBulk {H : Type} : DataW H → Nat
  | .lit (.string bytes) => bytes.length + 1
  | .lit _ => 1
  | .nil => 1
  | .ptr d => uptoBulk d + 1
  | .slice elems spare => uptoBulkAll elems + uptoBulkAll spare + 1
  | .agg parts => uptoBulkAll parts + 1
  | .iface _ d => uptoBulk d + 1
  | .map entries => uptoBulkEntries entries + 1
  | .held _ => 1
def uptoBulkAll {H : Type} : List (DataW H) → Nat
  | [] => 0
  | d :: r => uptoBulk d + uptoBulkAll r
def uptoBulkEntries {H : Type} : List (Lit × DataW H) → Nat
  | [] => 0
  | x :: r => uptoBulkEntry x + uptoBulkEntries r
def uptoBulkEntry {H : Type} : Lit × DataW H → Nat
  | (.string bytes, d) => bytes.length + uptoBulk d + 1
  | (_, d) => uptoBulk d + 1
 end
def uptoSmall : (H : Type) → List (DataW H) → Bool := fun _ ds => decide (uptoBulkAll ds ≤ 1048576)
def OpenSpec.upto (s : _root_.Go.ChangeSpec) : _root_.Go.OpenSpec := { _root_.Go.OpenSpec.ofChange s with cond := some uptoSmall }

/-- 'turnbucklelaw05.WordOps', WHERE WHAT IT READS IS OF BULK AT MOST 1048576: true; the input reads as it did. -/
def wordOpsUptoRow : OpenClaim := { program := "ytoolfgohbffgnaadoor", sum := "19168684f1d8ec50b255abcc8a784e4ef7cde0ef0c43dec11f77ec47ff4a24ff", func := "turnbuckle/turnbucklelaw05.WordOps", spec := "wordOps", named := ["turnbuckle/word.names"], apart := false, laid := [("turnbuckle/word.names", laid_turnbuckle_word_names)], narrowed := true }
def WordOpsUptoSaid : Prop := wordOpsUptoRow.holds Tryd.pinned (OpenSpec.upto wordOpsSpec)

/-- 'turnbucklelaw05.WordDivides', WHERE WHAT IT READS IS OF BULK AT MOST 1048576: true; the input reads as it did. -/
def wordDividesUptoRow : OpenClaim := { program := "ytoolfgohbffgnaadoor", sum := "19168684f1d8ec50b255abcc8a784e4ef7cde0ef0c43dec11f77ec47ff4a24ff", func := "turnbuckle/turnbucklelaw05.WordDivides", spec := "wordDivides", named := ["turnbuckle/word.names"], apart := false, laid := [("turnbuckle/word.names", laid_turnbuckle_word_names)], narrowed := true }
def WordDividesUptoSaid : Prop := wordDividesUptoRow.holds Tryd.pinned (OpenSpec.upto wordDividesSpec)

/-- 'turnbucklelaw05.WordHalves', WHERE WHAT IT READS IS OF BULK AT MOST 1048576: true; the input reads as it did. -/
def wordHalvesUptoRow : OpenClaim := { program := "ytoolfgohbffgnaadoor", sum := "19168684f1d8ec50b255abcc8a784e4ef7cde0ef0c43dec11f77ec47ff4a24ff", func := "turnbuckle/turnbucklelaw05.WordHalves", spec := "wordHalves", named := ["turnbuckle/word.names"], apart := false, laid := [("turnbuckle/word.names", laid_turnbuckle_word_names)], narrowed := true }
def WordHalvesUptoSaid : Prop := wordHalvesUptoRow.holds Tryd.pinned (OpenSpec.upto wordHalvesSpec)

/-- 'turnbucklelaw05.WordShifts', WHERE WHAT IT READS IS OF BULK AT MOST 1048576: true; the input reads as it did. -/
def wordShiftsUptoRow : OpenClaim := { program := "ytoolfgohbffgnaadoor", sum := "19168684f1d8ec50b255abcc8a784e4ef7cde0ef0c43dec11f77ec47ff4a24ff", func := "turnbuckle/turnbucklelaw05.WordShifts", spec := "wordShifts", named := ["turnbuckle/word.names"], apart := false, laid := [("turnbuckle/word.names", laid_turnbuckle_word_names)], narrowed := true }
def WordShiftsUptoSaid : Prop := wordShiftsUptoRow.holds Tryd.pinned (OpenSpec.upto wordShiftsSpec)

/-- 'turnbucklelaw05.WordNames', WHERE WHAT IT READS IS OF BULK AT MOST 1048576: true; the input reads as it did. -/
def wordNamesUptoRow : OpenClaim := { program := "ytoolfgohbffgnaadoor", sum := "19168684f1d8ec50b255abcc8a784e4ef7cde0ef0c43dec11f77ec47ff4a24ff", func := "turnbuckle/turnbucklelaw05.WordNames", spec := "wordNames", named := ["turnbuckle/word.names"], apart := false, laid := [("turnbuckle/word.names", laid_turnbuckle_word_names)], narrowed := true }
def WordNamesUptoSaid : Prop := wordNamesUptoRow.holds Tryd.pinned (OpenSpec.upto wordNamesSpec)

end Rows
end Go.Proofs.YtoolfgohbffgnaaDoor
