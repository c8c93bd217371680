/-
  No cell of these rows narrows 'for every input' (looked for: loops, veiled, ifaces, maps, wideKeys, modest, calm, conditions, laid).
  DERIVED. THE GIVEN ROWS OF THIS SEAT. 4 by the template 'for every input the law returns true; each argument reads behind the call as it read before'; 0 by the template 'total and deterministic' (their statements: YtponfeigjmjbmaaTotals.lean).
  GIVEN WITH THE SEED: the statements are not yours to turn. If you find one false, say at which input.
  Laid BY PROGRAM, IN A SANDBOX (cutbox-rows.mjs): the forced cells as the released guide's own fill.sh prints them over the translation 3e732ffcdd8c7391… (all of the seat's roots in one cut). By AI agents, Wed Nov 11 2026. No macro, syntax, notation, axiom, sorry.
-/
import Derived.Test.YtponfeigjmjbmaaChecked
import GoSem.Claim
import GoSem.ClaimJoined
import GoSem.ClaimMapViews
import Derived.JoinedTies
import Derived.KernelRfl
namespace Go.Proofs.Ytponfeigjmjbmaa
/- THE CELL 'sum', in the pinned program and in every row, IS THE sha256 OF THE DUMP (.gsa) THAT YtponfeigjmjbmaaProg.lean LOADS. Nothing in Lean hashes anything: it is a label: what it is worth is what the hold of that sum in a sandbox is worth. -/
noncomputable def Try.pinned : Pinned := { name := "ytponfeigjmjbmaa", sum := "3e732ffcdd8c7391168703aa613a05f6b294937e1df940b8eba3afe09c027820", checked := Try.checked }
namespace Rows
def none {H : Type} : Left H := { results := [], args := [] }

/-- 'turnbucklelaw14.GnuRefuses': WHATEVER THE INPUT: true; the input reads as it did. -/
def gnuRefusesSpec : ChangeSpec := { name := "gnuRefuses", fn := fun _ => fun
  | [d1, d2] => { results := [.lit (.bool true)], args := [d1, d2] }
  | _ => none }
def gnuRefusesRow : OpenClaim := { program := "ytponfeigjmjbmaa", sum := "3e732ffcdd8c7391168703aa613a05f6b294937e1df940b8eba3afe09c027820", func := "turnbuckle/turnbucklelaw14.GnuRefuses", spec := "gnuRefuses", unfollowed := true, recurses := true, apart := false }
def GnuRefusesSaid : Prop := gnuRefusesRow.holds Try.pinned (OpenSpec.ofChange gnuRefusesSpec)

/-- ITS FALSE NEIGHBOUR: 'it returns false'. Refute it at one input. -/
def gnuRefusesWrong : ChangeSpec := { name := "gnuRefuses", fn := fun _ => fun
  | [d1, d2] => { results := [.lit (.bool false)], args := [d1, d2] }
  | _ => none }
def GnuRefusesWrongFalsely : Prop := gnuRefusesRow.holds Try.pinned (OpenSpec.ofChange gnuRefusesWrong)

/-- 'turnbucklelaw14.GnuFilters': WHATEVER THE INPUT: true; the input reads as it did. -/
def gnuFiltersSpec : ChangeSpec := { name := "gnuFilters", fn := fun _ => fun
  | [d1, d2, d3] => { results := [.lit (.bool true)], args := [d1, d2, d3] }
  | _ => none }
def gnuFiltersRow : OpenClaim := { program := "ytponfeigjmjbmaa", sum := "3e732ffcdd8c7391168703aa613a05f6b294937e1df940b8eba3afe09c027820", func := "turnbuckle/turnbucklelaw14.GnuFilters", spec := "gnuFilters", unfollowed := true, recurses := true, apart := false }
def GnuFiltersSaid : Prop := gnuFiltersRow.holds Try.pinned (OpenSpec.ofChange gnuFiltersSpec)

/-- ITS FALSE NEIGHBOUR: 'it returns false'. Refute it at one input. -/
def gnuFiltersWrong : ChangeSpec := { name := "gnuFilters", fn := fun _ => fun
  | [d1, d2, d3] => { results := [.lit (.bool false)], args := [d1, d2, d3] }
  | _ => none }
def GnuFiltersWrongFalsely : Prop := gnuFiltersRow.holds Try.pinned (OpenSpec.ofChange gnuFiltersWrong)

/-- 'turnbucklelaw14.GnuReads': WHATEVER THE INPUT: true; the input reads as it did. -/
def gnuReadsSpec : ChangeSpec := { name := "gnuReads", fn := fun _ => fun
  | [d] => { results := [.lit (.bool true)], args := [d] }
  | _ => none }
def gnuReadsRow : OpenClaim := { program := "ytponfeigjmjbmaa", sum := "3e732ffcdd8c7391168703aa613a05f6b294937e1df940b8eba3afe09c027820", func := "turnbuckle/turnbucklelaw14.GnuReads", spec := "gnuReads", inPlace := ["internal/abi.NoEscape"], unfollowed := true, recurses := true, apart := false }
def GnuReadsSaid : Prop := gnuReadsRow.holds Try.pinned (OpenSpec.ofChange gnuReadsSpec)

/-- ITS FALSE NEIGHBOUR: 'it returns false'. Refute it at one input. -/
def gnuReadsWrong : ChangeSpec := { name := "gnuReads", fn := fun _ => fun
  | [d] => { results := [.lit (.bool false)], args := [d] }
  | _ => none }
def GnuReadsWrongFalsely : Prop := gnuReadsRow.holds Try.pinned (OpenSpec.ofChange gnuReadsWrong)

/-- 'turnbucklelaw14.GnuBuilds': WHATEVER THE INPUT: true; the input reads as it did. -/
def gnuBuildsSpec : ChangeSpec := { name := "gnuBuilds", fn := fun _ => fun
  | [d1, d2, d3] => { results := [.lit (.bool true)], args := [d1, d2, d3] }
  | _ => none }
def gnuBuildsRow : OpenClaim := { program := "ytponfeigjmjbmaa", sum := "3e732ffcdd8c7391168703aa613a05f6b294937e1df940b8eba3afe09c027820", func := "turnbuckle/turnbucklelaw14.GnuBuilds", spec := "gnuBuilds", inPlace := ["internal/abi.NoEscape"], unfollowed := true, recurses := true, apart := false }
def GnuBuildsSaid : Prop := gnuBuildsRow.holds Try.pinned (OpenSpec.ofChange gnuBuildsSpec)

/-- ITS FALSE NEIGHBOUR: 'it returns false'. Refute it at one input. -/
def gnuBuildsWrong : ChangeSpec := { name := "gnuBuilds", fn := fun _ => fun
  | [d1, d2, d3] => { results := [.lit (.bool false)], args := [d1, d2, d3] }
  | _ => none }
def GnuBuildsWrongFalsely : Prop := gnuBuildsRow.holds Try.pinned (OpenSpec.ofChange gnuBuildsWrong)

/- THE SECOND FORM. 'bulk': how many values and letters a reading holds, each counted each time it is reached (what is shared counts as often as it is met; a slice's spare places count too). A statement '..UptoSaid' is the law's where the arguments, and the package variables that the reading takes, are together of bulk at most 1048576: NARROWER than '..Said'. Prove '..Said' where nothing that the law and all that it calls make is longer than what came in: it says more and counts as full. Else prove '..UptoSaid'. A law counts once. -/
mutual
def uptoBulk {H : Type} : DataW H → Nat
  | .lit (.string bytes) => bytes.length + 1
  | .lit _ => 1
  | .nil => 1
  | .ptr d => uptoBulk d + 1
  | .slice elems spare => uptoBulkAll elems + uptoBulkAll spare + 1
  | .agg parts => uptoBulkAll parts + 1
  | .iface _ d => uptoBulk d + 1
  | .map entries => uptoBulkEntries entries + 1
  | .held _ => 1
def uptoBulkAll {H : Type} : List (DataW H) → Nat
  | [] => 0
  | d :: r => uptoBulk d + uptoBulkAll r
def uptoBulkEntries {H : Type} : List (Lit × DataW H) → Nat
  | [] => 0
  | x :: r => uptoBulkEntry x + uptoBulkEntries r
def uptoBulkEntry {H : Type} : Lit × DataW H → Nat
  | (.string bytes, d) => bytes.length + uptoBulk d + 1
  | (_, d) => uptoBulk d + 1
 end
def uptoSmall : (H : Type) → List (DataW H) → Bool := fun _ ds => decide (uptoBulkAll ds ≤ 1048576)
def OpenSpec.upto (s : _root_.Go.ChangeSpec) : _root_.Go.OpenSpec := { _root_.Go.OpenSpec.ofChange s with cond := some uptoSmall }

/-- 'turnbucklelaw14.GnuRefuses', WHERE WHAT IT READS IS OF BULK AT MOST 1048576: true; the input reads as it did. -/
def gnuRefusesUptoRow : OpenClaim := { program := "ytponfeigjmjbmaa", sum := "3e732ffcdd8c7391168703aa613a05f6b294937e1df940b8eba3afe09c027820", func := "turnbuckle/turnbucklelaw14.GnuRefuses", spec := "gnuRefuses", unfollowed := true, recurses := true, apart := false, narrowed := true }
def GnuRefusesUptoSaid : Prop := gnuRefusesUptoRow.holds Try.pinned (OpenSpec.upto gnuRefusesSpec)

/-- 'turnbucklelaw14.GnuFilters', WHERE WHAT IT READS IS OF BULK AT MOST 1048576: true; the input reads as it did. -/
def gnuFiltersUptoRow : OpenClaim := { program := "ytponfeigjmjbmaa", sum := "3e732ffcdd8c7391168703aa613a05f6b294937e1df940b8eba3afe09c027820", func := "turnbuckle/turnbucklelaw14.GnuFilters", spec := "gnuFilters", unfollowed := true, recurses := true, apart := false, narrowed := true }
def GnuFiltersUptoSaid : Prop := gnuFiltersUptoRow.holds Try.pinned (OpenSpec.upto gnuFiltersSpec)

/-- 'turnbucklelaw14.GnuReads', WHERE WHAT IT READS IS OF BULK AT MOST 1048576: true; the input reads as it did. -/
def gnuReadsUptoRow : OpenClaim := { program := "ytponfeigjmjbmaa", sum := "3e732ffcdd8c7391168703aa613a05f6b294937e1df940b8eba3afe09c027820", func := "turnbuckle/turnbucklelaw14.GnuReads", spec := "gnuReads", inPlace := ["internal/abi.NoEscape"], unfollowed := true, recurses := true, apart := false, narrowed := true }
def GnuReadsUptoSaid : Prop := gnuReadsUptoRow.holds Try.pinned (OpenSpec.upto gnuReadsSpec)

/-- 'turnbucklelaw14.GnuBuilds', WHERE WHAT IT READS IS OF BULK AT MOST 1048576: true; the input reads as it did. -/
def gnuBuildsUptoRow : OpenClaim := { program := "ytponfeigjmjbmaa", sum := "3e732ffcdd8c7391168703aa613a05f6b294937e1df940b8eba3afe09c027820", func := "turnbuckle/turnbucklelaw14.GnuBuilds", spec := "gnuBuilds", inPlace := ["internal/abi.NoEscape"], unfollowed := true, recurses := true, apart := false, narrowed := true }
def GnuBuildsUptoSaid : Prop := gnuBuildsUptoRow.holds Try.pinned (OpenSpec.upto gnuBuildsSpec)

end Rows
end Go.Proofs.Ytponfeigjmjbmaa
