/- What every row of a 'door' seat needs where no table is read: closed facts on the program. -/
import Derived.Test.YtmcinclecpeakaaGreatDoorCards
import Derived.Test.YtmcinclecpeakaaGreatDoorTie
import Derived.WalkKit
import Derived.ProofKit
import Derived.OpenShut
import Derived.ShutString
import Derived.Below
import Derived.SizedLaws
import Derived.Deep.DeepHandedRow
import Derived.Lib.LaidTab
import Derived.Lib.LaidIn
import Derived.Lib.LaidU8T
import Derived.SevenTiedAt
namespace Go.Proofs.YtmcinclecpeakaaGreatDoor.RowM
open Go.Shelf
theorem own : ownKnob Tryz.prog.godebug = none := by kernel_rfl
theorem laidOut : laidOutB Tryz.prog = true := by kernel_rfl
end Go.Proofs.YtmcinclecpeakaaGreatDoor.RowM
