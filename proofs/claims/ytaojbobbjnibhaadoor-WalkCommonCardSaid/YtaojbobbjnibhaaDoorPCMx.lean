-- printed by wip/tools/pr.py (own) through the kit's printer; texts GIVEN by hand stand among them
import Derived.Test.YtaojbobbjnibhaaDoorPCMx0
import Derived.Test.YtaojbobbjnibhaaDoorPCMx1
import Derived.Test.YtaojbobbjnibhaaDoorPCMx2
import Derived.Test.YtaojbobbjnibhaaDoorPCMx3
import Derived.Test.YtaojbobbjnibhaaDoorPCMx4
import Derived.Test.YtaojbobbjnibhaaDoorPCMx5
import Derived.Test.YtaojbobbjnibhaaDoorPCMx6
import Derived.Test.YtaojbobbjnibhaaDoorPCMx7
import Derived.Test.YtaojbobbjnibhaaDoorPCMx8
import Derived.Test.YtaojbobbjnibhaaDoorPCMx9
import Derived.Test.YtaojbobbjnibhaaDoorPCMx10
namespace Go.Proofs.YtaojbobbjnibhaaDoor.PCM
open Go.RowKit Go.Proofs.YtaojbobbjnibhaaDoorW.PrintWords Go.Proofs.YtaojbobbjnibhaaDoorW.PrintLast Go.Proofs.YtaojbobbjnibhaaDoorW.PrintMore
attribute [local go_sem] max2_int min2_int max_two min_two max_three min_three max_four min_four   -- for this text's walks alone
set_option linter.unusedVariables false
set_option linter.unusedSimpArgs false

end Go.Proofs.YtaojbobbjnibhaaDoor.PCM
