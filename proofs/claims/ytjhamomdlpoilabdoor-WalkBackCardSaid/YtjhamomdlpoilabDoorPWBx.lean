-- printed by wip/tools/pr.py (own) through the kit's printer; texts GIVEN by hand stand among them
import Derived.Test.YtjhamomdlpoilabDoorPWBx0
import Derived.Test.YtjhamomdlpoilabDoorPWBx1
import Derived.Test.YtjhamomdlpoilabDoorPWBx2
import Derived.Test.YtjhamomdlpoilabDoorPWBx3
import Derived.Test.YtjhamomdlpoilabDoorPWBx4
import Derived.Test.YtjhamomdlpoilabDoorPWBx5
import Derived.Test.YtjhamomdlpoilabDoorPWBx6
import Derived.Test.YtjhamomdlpoilabDoorPWBx7
import Derived.Test.YtjhamomdlpoilabDoorPWBx8
import Derived.Test.YtjhamomdlpoilabDoorPWBx9
namespace Go.Proofs.YtjhamomdlpoilabDoor.PWB
open Go.RowKit Go.Proofs.YtjhamomdlpoilabDoorW.PrintWords Go.Proofs.YtjhamomdlpoilabDoorW.PrintLast Go.Proofs.YtjhamomdlpoilabDoorW.PrintMore
attribute [local go_sem] max2_int min2_int max_two min_two max_three min_three max_four min_four   -- for this text's walks alone
set_option linter.unusedVariables false
set_option linter.unusedSimpArgs false

end Go.Proofs.YtjhamomdlpoilabDoor.PWB
