-- printed by wip/tools/pr.py (own) through the kit's printer; texts GIVEN by hand stand among them
import Derived.Test.YthcfbjllohmfoaaDoorPDSx0
import Derived.Test.YthcfbjllohmfoaaDoorPDSx1
import Derived.Test.YthcfbjllohmfoaaDoorPDSx2
import Derived.Test.YthcfbjllohmfoaaDoorPDSx3
import Derived.Test.YthcfbjllohmfoaaDoorPDSx4
import Derived.Test.YthcfbjllohmfoaaDoorPDSx5
import Derived.Test.YthcfbjllohmfoaaDoorPDSx6
import Derived.Test.YthcfbjllohmfoaaDoorPDSx7
import Derived.Test.YthcfbjllohmfoaaDoorPDSx8
import Derived.Test.YthcfbjllohmfoaaDoorPDSx9
import Derived.Test.YthcfbjllohmfoaaDoorPDSx10
import Derived.Test.YthcfbjllohmfoaaDoorPDSx11
namespace Go.Proofs.YthcfbjllohmfoaaDoor.PDS
open Go.RowKit Go.Proofs.YthcfbjllohmfoaaDoorW.PrintWords Go.Proofs.YthcfbjllohmfoaaDoorW.PrintLast Go.Proofs.YthcfbjllohmfoaaDoorW.PrintMore
attribute [local go_sem] max2_int min2_int max_two min_two max_three min_three max_four min_four   -- for this text's walks alone
set_option linter.unusedVariables false
set_option linter.unusedSimpArgs false

end Go.Proofs.YthcfbjllohmfoaaDoor.PDS
