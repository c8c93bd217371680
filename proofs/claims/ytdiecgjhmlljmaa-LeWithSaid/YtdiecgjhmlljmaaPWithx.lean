-- Written by a program of this session (a changed copy of the print of the kit). Not trusted: Lean checks it.
import Derived.Test.YtdiecgjhmlljmaaPWithx0
import Derived.Test.YtdiecgjhmlljmaaPWithx1
import Derived.Test.YtdiecgjhmlljmaaPWithx2
import Derived.Test.YtdiecgjhmlljmaaPWithx3
import Derived.Test.YtdiecgjhmlljmaaPWithx4
namespace Go.Proofs.Ytdiecgjhmlljmaa.PWith
open Go.RowKit Go.Proofs.YtdiecgjhmlljmaaW.PrintWords Go.Proofs.YtdiecgjhmlljmaaW.PrintLast Go.Proofs.YtdiecgjhmlljmaaW.PrintMore
attribute [local go_sem] max2_int min2_int max_two min_two max_three min_three max_four min_four   -- for this text's walks alone
set_option linter.unusedVariables false
set_option linter.unusedSimpArgs false

end Go.Proofs.Ytdiecgjhmlljmaa.PWith
