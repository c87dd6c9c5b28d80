-- printed by wip/tools/pr.py (own) through the kit's printer; texts GIVEN by hand stand among them
import Derived.Test.YtonnokjkapkbjaaDoorPSOx0
import Derived.Test.YtonnokjkapkbjaaDoorPSOx1
import Derived.Test.YtonnokjkapkbjaaDoorPSOx2
import Derived.Test.YtonnokjkapkbjaaDoorPSOx3
import Derived.Test.YtonnokjkapkbjaaDoorPSOx4
import Derived.Test.YtonnokjkapkbjaaDoorPSOx5
import Derived.Test.YtonnokjkapkbjaaDoorPSOx6
import Derived.Test.YtonnokjkapkbjaaDoorPSOx7
import Derived.Test.YtonnokjkapkbjaaDoorPSOx8
import Derived.Test.YtonnokjkapkbjaaDoorPSOx9
import Derived.Test.YtonnokjkapkbjaaDoorPSOx10
import Derived.Test.YtonnokjkapkbjaaDoorPSOx11
import Derived.Test.YtonnokjkapkbjaaDoorPSOx12
namespace Go.Proofs.YtonnokjkapkbjaaDoor.PSO
open Go.RowKit Go.Proofs.YtonnokjkapkbjaaDoorW.PrintWords Go.Proofs.YtonnokjkapkbjaaDoorW.PrintLast Go.Proofs.YtonnokjkapkbjaaDoorW.PrintMore
attribute [local go_sem] max2_int min2_int max_two min_two max_three min_three max_four min_four   -- for this text's walks alone
set_option linter.unusedVariables false
set_option linter.unusedSimpArgs false

end Go.Proofs.YtonnokjkapkbjaaDoor.PSO
