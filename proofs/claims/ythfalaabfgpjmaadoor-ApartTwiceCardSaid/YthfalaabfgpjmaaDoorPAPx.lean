-- printed by wip/tools/pr.py (own) through the kit's printer; texts GIVEN by hand stand among them
import Derived.Test.YthfalaabfgpjmaaDoorPAPx0
import Derived.Test.YthfalaabfgpjmaaDoorPAPx1
import Derived.Test.YthfalaabfgpjmaaDoorPAPx2
import Derived.Test.YthfalaabfgpjmaaDoorPAPx3
import Derived.Test.YthfalaabfgpjmaaDoorPAPx4
import Derived.Test.YthfalaabfgpjmaaDoorPAPx5
import Derived.Test.YthfalaabfgpjmaaDoorPAPx6
import Derived.Test.YthfalaabfgpjmaaDoorPAPx7
import Derived.Test.YthfalaabfgpjmaaDoorPAPx8
import Derived.Test.YthfalaabfgpjmaaDoorPAPx9
import Derived.Test.YthfalaabfgpjmaaDoorPAPx10
import Derived.Test.YthfalaabfgpjmaaDoorPAPx11
namespace Go.Proofs.YthfalaabfgpjmaaDoor.PAP
open Go.RowKit Go.Proofs.YthfalaabfgpjmaaDoorW.PrintWords Go.Proofs.YthfalaabfgpjmaaDoorW.PrintLast Go.Proofs.YthfalaabfgpjmaaDoorW.PrintMore
attribute [local go_sem] max2_int min2_int max_two min_two max_three min_three max_four min_four   -- for this text's walks alone
set_option linter.unusedVariables false
set_option linter.unusedSimpArgs false

end Go.Proofs.YthfalaabfgpjmaaDoor.PAP
