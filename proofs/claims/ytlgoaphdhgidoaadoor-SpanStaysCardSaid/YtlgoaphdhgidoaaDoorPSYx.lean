-- printed by wip/tools/pr.py (own) through the kit's printer; texts GIVEN by hand stand among them
import Derived.Test.YtlgoaphdhgidoaaDoorPSYx0
import Derived.Test.YtlgoaphdhgidoaaDoorPSYx1
import Derived.Test.YtlgoaphdhgidoaaDoorPSYx2
import Derived.Test.YtlgoaphdhgidoaaDoorPSYx3
import Derived.Test.YtlgoaphdhgidoaaDoorPSYx4
import Derived.Test.YtlgoaphdhgidoaaDoorPSYx5
import Derived.Test.YtlgoaphdhgidoaaDoorPSYx6
import Derived.Test.YtlgoaphdhgidoaaDoorPSYx7
import Derived.Test.YtlgoaphdhgidoaaDoorPSYx8
import Derived.Test.YtlgoaphdhgidoaaDoorPSYx9
import Derived.Test.YtlgoaphdhgidoaaDoorPSYx10
import Derived.Test.YtlgoaphdhgidoaaDoorPSYx11
import Derived.Test.YtlgoaphdhgidoaaDoorPSYx12
import Derived.Test.YtlgoaphdhgidoaaDoorPSYx13
import Derived.Test.YtlgoaphdhgidoaaDoorPSYx14
namespace Go.Proofs.YtlgoaphdhgidoaaDoor.PSY
open Go.RowKit Go.Proofs.YtlgoaphdhgidoaaDoorW.PrintWords Go.Proofs.YtlgoaphdhgidoaaDoorW.PrintLast Go.Proofs.YtlgoaphdhgidoaaDoorW.PrintMore
attribute [local go_sem] max2_int min2_int max_two min_two max_three min_three max_four min_four   -- for this text's walks alone
set_option linter.unusedVariables false
set_option linter.unusedSimpArgs false

end Go.Proofs.YtlgoaphdhgidoaaDoor.PSY
