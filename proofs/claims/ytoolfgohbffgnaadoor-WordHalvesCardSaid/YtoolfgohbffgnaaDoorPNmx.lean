-- Written by a program of this session (a changed copy of the print of the kit). Not trusted: Lean checks it.
import Derived.Test.YtoolfgohbffgnaaDoorPNmx0
import Derived.Test.YtoolfgohbffgnaaDoorPNmx1
import Derived.Test.YtoolfgohbffgnaaDoorPNmx2
import Derived.Test.YtoolfgohbffgnaaDoorPNmx3
import Derived.Test.YtoolfgohbffgnaaDoorPNmx4
import Derived.Test.YtoolfgohbffgnaaDoorPNmx5
namespace Go.Proofs.YtoolfgohbffgnaaDoor.PNm
open Go.RowKit Go.Proofs.YtoolfgohbffgnaaDoorW.PrintWords Go.Proofs.YtoolfgohbffgnaaDoorW.PrintLast Go.Proofs.YtoolfgohbffgnaaDoorW.PrintMore
attribute [local go_sem] max2_int min2_int max_two min_two max_three min_three max_four min_four   -- for this text's walks alone
set_option linter.unusedVariables false
set_option linter.unusedSimpArgs false

end Go.Proofs.YtoolfgohbffgnaaDoor.PNm
