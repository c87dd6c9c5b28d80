-- printed by wip/tools/pr.py (own) through the kit's printer; texts GIVEN by hand stand among them
import Derived.Test.YtmcinclecpeakaaGreatDoorPRRx0
import Derived.Test.YtmcinclecpeakaaGreatDoorPRRx1
import Derived.Test.YtmcinclecpeakaaGreatDoorPRRx2
import Derived.Test.YtmcinclecpeakaaGreatDoorPRRx3
import Derived.Test.YtmcinclecpeakaaGreatDoorPRRx4
import Derived.Test.YtmcinclecpeakaaGreatDoorPRRx5
import Derived.Test.YtmcinclecpeakaaGreatDoorPRRx6
import Derived.Test.YtmcinclecpeakaaGreatDoorPRRx7
import Derived.Test.YtmcinclecpeakaaGreatDoorPRRx8
import Derived.Test.YtmcinclecpeakaaGreatDoorPRRx9
import Derived.Test.YtmcinclecpeakaaGreatDoorPRRx10
import Derived.Test.YtmcinclecpeakaaGreatDoorPRRx11
namespace Go.Proofs.YtmcinclecpeakaaGreatDoor.PRR
open Go.RowKit Go.Proofs.YtmcinclecpeakaaGreatDoorW.PrintWords Go.Proofs.YtmcinclecpeakaaGreatDoorW.PrintLast Go.Proofs.YtmcinclecpeakaaGreatDoorW.PrintMore
attribute [local go_sem] max2_int min2_int max_two min_two max_three min_three max_four min_four   -- for this text's walks alone
set_option linter.unusedVariables false
set_option linter.unusedSimpArgs false

end Go.Proofs.YtmcinclecpeakaaGreatDoor.PRR
