-- printed by wip/tools/pr.py (own) through the kit's printer; texts GIVEN by hand stand among them
import Derived.Test.YthggdgnpphjpkaaDoorPSPx0
import Derived.Test.YthggdgnpphjpkaaDoorPSPx1
import Derived.Test.YthggdgnpphjpkaaDoorPSPx2
import Derived.Test.YthggdgnpphjpkaaDoorPSPx3
import Derived.Test.YthggdgnpphjpkaaDoorPSPx4
import Derived.Test.YthggdgnpphjpkaaDoorPSPx5
import Derived.Test.YthggdgnpphjpkaaDoorPSPx6
import Derived.Test.YthggdgnpphjpkaaDoorPSPx7
import Derived.Test.YthggdgnpphjpkaaDoorPSPx8
import Derived.Test.YthggdgnpphjpkaaDoorPSPx9
import Derived.Test.YthggdgnpphjpkaaDoorPSPx10
import Derived.Test.YthggdgnpphjpkaaDoorPSPx11
import Derived.Test.YthggdgnpphjpkaaDoorPSPx12
import Derived.Test.YthggdgnpphjpkaaDoorPSPx13
namespace Go.Proofs.YthggdgnpphjpkaaDoor.PSP
open Go.RowKit Go.Proofs.YthggdgnpphjpkaaDoorW.PrintWords Go.Proofs.YthggdgnpphjpkaaDoorW.PrintLast Go.Proofs.YthggdgnpphjpkaaDoorW.PrintMore
attribute [local go_sem] max2_int min2_int max_two min_two max_three min_three max_four min_four   -- for this text's walks alone
set_option linter.unusedVariables false
set_option linter.unusedSimpArgs false

end Go.Proofs.YthggdgnpphjpkaaDoor.PSP
