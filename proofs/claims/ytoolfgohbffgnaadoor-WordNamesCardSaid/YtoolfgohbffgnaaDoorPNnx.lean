-- Written by a program of this session (a changed copy of the print of the kit). Not trusted: Lean checks it.
import Derived.Test.YtoolfgohbffgnaaDoorPNnx0
import Derived.Test.YtoolfgohbffgnaaDoorPNnx1
import Derived.Test.YtoolfgohbffgnaaDoorPNnx2
import Derived.Test.YtoolfgohbffgnaaDoorPNnx3
import Derived.Test.YtoolfgohbffgnaaDoorPNnx4
import Derived.Test.YtoolfgohbffgnaaDoorPNnx5
import Derived.Test.YtoolfgohbffgnaaDoorPNnx6
namespace Go.Proofs.YtoolfgohbffgnaaDoor.PNn
open Go.RowKit Go.Proofs.YtoolfgohbffgnaaDoorW.PrintWords Go.Proofs.YtoolfgohbffgnaaDoorW.PrintLast Go.Proofs.YtoolfgohbffgnaaDoorW.PrintMore
attribute [local go_sem] max2_int min2_int max_two min_two max_three min_three max_four min_four   -- for this text's walks alone
set_option linter.unusedVariables false
set_option linter.unusedSimpArgs false

end Go.Proofs.YtoolfgohbffgnaaDoor.PNn
