-- printed by wip/tools/pr.py (own) through the kit's printer; texts GIVEN by hand stand among them
import Derived.Test.YtaojbobbjnibhaaDoorPDOx0
import Derived.Test.YtaojbobbjnibhaaDoorPDOx1
import Derived.Test.YtaojbobbjnibhaaDoorPDOx2
import Derived.Test.YtaojbobbjnibhaaDoorPDOx3
import Derived.Test.YtaojbobbjnibhaaDoorPDOx4
import Derived.Test.YtaojbobbjnibhaaDoorPDOx5
import Derived.Test.YtaojbobbjnibhaaDoorPDOx6
import Derived.Test.YtaojbobbjnibhaaDoorPDOx7
import Derived.Test.YtaojbobbjnibhaaDoorPDOx8
import Derived.Test.YtaojbobbjnibhaaDoorPDOx9
namespace Go.Proofs.YtaojbobbjnibhaaDoor.PDO
open Go.RowKit Go.Proofs.YtaojbobbjnibhaaDoorW.PrintWords Go.Proofs.YtaojbobbjnibhaaDoorW.PrintLast Go.Proofs.YtaojbobbjnibhaaDoorW.PrintMore
attribute [local go_sem] max2_int min2_int max_two min_two max_three min_three max_four min_four   -- for this text's walks alone
set_option linter.unusedVariables false
set_option linter.unusedSimpArgs false

end Go.Proofs.YtaojbobbjnibhaaDoor.PDO
