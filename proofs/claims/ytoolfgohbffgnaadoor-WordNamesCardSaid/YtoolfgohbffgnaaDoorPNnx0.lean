-- Written by a program of this session (a changed copy of the print of the kit). Not trusted: Lean checks it.
import Derived.Test.YtoolfgohbffgnaaDoorProg
import Derived.Below
import Derived.Deep.Draws
import Derived.Deep.AppendLies
import Derived.Maps.AppendAt
import Derived.OwnWalk
import Derived.Laws.BytesArg
import Derived.Laws.MakeOwn
import Derived.Laws.OwnMore
import Derived.Deep.OwnRows
import Derived.Tactics
import Derived.Lib.ConvBytes
import Derived.Laws.Slices
import Derived.WalkKit
import Derived.KernelRfl
import Derived.RowKit3
import Derived.Deep.LoopGhost
import Derived.Deep.QuietTactic
import Derived.BigQuiet
import Derived.WideLaws
import Derived.Deep.DeepCutAuto
import Derived.Deep.CutBlock
import Derived.Deep.RegionHeld3
import Derived.Laws.Rows
import Derived.Lib.AppendStr
import Derived.ArgAppend
import Derived.Laws.IdiomCopy
import Derived.OrdersHeld
import Derived.Laws.BitsLemmas
import Derived.RowKit
import Derived.Test.YtoolfgohbffgnaaDoorWWords
import Derived.Test.YtoolfgohbffgnaaDoorWLast
import Derived.Test.YtoolfgohbffgnaaDoorWTab
import Derived.Test.YtoolfgohbffgnaaDoorWFour
import Derived.Test.YtoolfgohbffgnaaDoorWQPut
import Derived.Test.YtoolfgohbffgnaaDoorWApart
import Derived.Test.YtoolfgohbffgnaaDoorWArr
import Derived.Test.YtoolfgohbffgnaaDoorWZeros
import Derived.Test.YtoolfgohbffgnaaDoorWFoot
import Derived.Test.YtoolfgohbffgnaaDoorWKept
import Derived.Test.YtoolfgohbffgnaaDoorWShare
import Derived.Test.YtoolfgohbffgnaaDoorWN
import Derived.Test.YtoolfgohbffgnaaDoorWFootNe
import Derived.Test.YtoolfgohbffgnaaDoorWAt
import Derived.Test.YtoolfgohbffgnaaDoorWEqStruct
import Derived.Test.YtoolfgohbffgnaaDoorWRepsOne
import Derived.Test.YtoolfgohbffgnaaDoorWInv
import Derived.Test.YtoolfgohbffgnaaDoorWInvWords
import Derived.Test.YtoolfgohbffgnaaDoorWGuard
import Derived.Test.YtoolfgohbffgnaaDoorWNEv
import Derived.Test.YtoolfgohbffgnaaDoorWMore
namespace Go.Proofs.YtoolfgohbffgnaaDoor.PNn
open Go.RowKit Go.Proofs.YtoolfgohbffgnaaDoorW.PrintWords Go.Proofs.YtoolfgohbffgnaaDoorW.PrintLast Go.Proofs.YtoolfgohbffgnaaDoorW.PrintMore
attribute [local go_sem] max2_int min2_int max_two min_two max_three min_three max_four min_four   -- for this text's walks alone
set_option linter.unusedVariables false
set_option linter.unusedSimpArgs false



def errW : Option Int → Value
  | none => .nilIface
  | some c => .iface 0 (.int .i64 c)
theorem errW_none : errW none = .nilIface := rfl
theorem errW_some (c : Int) : errW (some c) = .iface 0 (.int .i64 c) := rfl

theorem info9 : (Tryd.prog.info? 9).map (fun i => (i.zero, i.size, i.bytes)) = some (some (.string ⟨#[]⟩), 1, 16) := by kernel_rfl
-- the values' own types

end Go.Proofs.YtoolfgohbffgnaaDoor.PNn
