-- printed by wip/tools/pr.py (own) through the kit's printer; texts GIVEN by hand stand among them
import Derived.Test.YtjhamomdlpoilabDoorPWOx0
import Derived.Test.YtjhamomdlpoilabDoorPWOx1
import Derived.Test.YtjhamomdlpoilabDoorPWOx2
import Derived.Test.YtjhamomdlpoilabDoorPWOx3
import Derived.Test.YtjhamomdlpoilabDoorPWOx4
import Derived.Test.YtjhamomdlpoilabDoorPWOx5
import Derived.Test.YtjhamomdlpoilabDoorPWOx6
import Derived.Test.YtjhamomdlpoilabDoorPWOx7
import Derived.Test.YtjhamomdlpoilabDoorPWOx8
import Derived.Test.YtjhamomdlpoilabDoorPWOx9
namespace Go.Proofs.YtjhamomdlpoilabDoor.PWO
open Go.RowKit Go.Proofs.YtjhamomdlpoilabDoorW.PrintWords Go.Proofs.YtjhamomdlpoilabDoorW.PrintLast Go.Proofs.YtjhamomdlpoilabDoorW.PrintMore
attribute [local go_sem] max2_int min2_int max_two min_two max_three min_three max_four min_four   -- for this text's walks alone
set_option linter.unusedVariables false
set_option linter.unusedSimpArgs false

end Go.Proofs.YtjhamomdlpoilabDoor.PWO
