-- Written by a program of this session (a changed copy of the print of the kit). Not trusted: Lean checks it.
import Derived.Test.YtdiecgjhmlljmaaPAllx0
import Derived.Test.YtdiecgjhmlljmaaPAllx1
import Derived.Test.YtdiecgjhmlljmaaPAllx2
import Derived.Test.YtdiecgjhmlljmaaPAllx3
import Derived.Test.YtdiecgjhmlljmaaPAllx4
import Derived.Test.YtdiecgjhmlljmaaPAllx5
import Derived.Test.YtdiecgjhmlljmaaPAllx6
namespace Go.Proofs.Ytdiecgjhmlljmaa.PAll
open Go.RowKit Go.Proofs.YtdiecgjhmlljmaaW.PrintWords Go.Proofs.YtdiecgjhmlljmaaW.PrintLast Go.Proofs.YtdiecgjhmlljmaaW.PrintMore
attribute [local go_sem] max2_int min2_int max_two min_two max_three min_three max_four min_four   -- for this text's walks alone
set_option linter.unusedVariables false
set_option linter.unusedSimpArgs false

end Go.Proofs.Ytdiecgjhmlljmaa.PAll
