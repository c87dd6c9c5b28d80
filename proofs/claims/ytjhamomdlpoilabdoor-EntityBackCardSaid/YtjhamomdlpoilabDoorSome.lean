/- Package clerestorykeep1: some bytes of a text. -/
import Derived.Test.YtjhamomdlpoilabDoorChars4
import Derived.Test.YtjhamomdlpoilabDoorWWords
import Derived.WalkSpells
import Derived.Lib.Hide
namespace Go.Proofs.YtjhamomdlpoilabDoor.Keep
open Go.RowKit Go.Proofs.YtjhamomdlpoilabDoorW.PrintWords
set_option linter.unusedVariables false

set_option maxHeartbeats 1000000 in
theorem some_any (s : ByteArray) (m : Nat) (w : World) (hs : s.size ≤ 140737488351232) :
    Calls Tryd.prog 9 #[.string s, .int .i64 m] w fun e w' => e = .returned (.string (s.extract 0 (min s.size m))) ∧ w = w' := by
  have h1 : (min (s.size : Int) m).toNat = min s.size m := by omega
  have H1 := Lib.hid h1
  clear h1
  go_enter Tryd.func9, Tryd.ntmps9
  go_wp2_with fail
  go_ret
  exact ⟨by rw [← H1.out]; rfl, rfl⟩
end Go.Proofs.YtjhamomdlpoilabDoor.Keep
