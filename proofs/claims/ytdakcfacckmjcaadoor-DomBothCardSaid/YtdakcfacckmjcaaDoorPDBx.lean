-- printed by wip/tools/pr.py (own) through the kit's printer; texts GIVEN by hand stand among them
import Derived.Test.YtdakcfacckmjcaaDoorPDBx0
import Derived.Test.YtdakcfacckmjcaaDoorPDBx1
import Derived.Test.YtdakcfacckmjcaaDoorPDBx2
import Derived.Test.YtdakcfacckmjcaaDoorPDBx3
import Derived.Test.YtdakcfacckmjcaaDoorPDBx4
import Derived.Test.YtdakcfacckmjcaaDoorPDBx5
import Derived.Test.YtdakcfacckmjcaaDoorPDBx6
import Derived.Test.YtdakcfacckmjcaaDoorPDBx7
import Derived.Test.YtdakcfacckmjcaaDoorPDBx8
import Derived.Test.YtdakcfacckmjcaaDoorPDBx9
import Derived.Test.YtdakcfacckmjcaaDoorPDBx10
import Derived.Test.YtdakcfacckmjcaaDoorPDBx11
import Derived.Test.YtdakcfacckmjcaaDoorPDBx12
namespace Go.Proofs.YtdakcfacckmjcaaDoor.PDB
open Go.RowKit Go.Proofs.YtdakcfacckmjcaaDoorW.PrintWords Go.Proofs.YtdakcfacckmjcaaDoorW.PrintLast Go.Proofs.YtdakcfacckmjcaaDoorW.PrintMore
attribute [local go_sem] max2_int min2_int max_two min_two max_three min_three max_four min_four   -- for this text's walks alone
set_option linter.unusedVariables false
set_option linter.unusedSimpArgs false

end Go.Proofs.YtdakcfacckmjcaaDoor.PDB
