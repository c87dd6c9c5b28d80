/- Package active: Check, Last. -/
import Derived.Test.YtdheifnebkkjhaaAct1
namespace Go.Proofs.Ytdheifnebkkjhaa.Act
open Go.RowKit Go.Proofs.YtdheifnebkkjhaaW.PrintWords
set_option linter.unusedVariables false
set_option linter.unusedSimpArgs false

set_option maxHeartbeats 1000000 in
theorem containsFunc_any (A : Option Addr) (n c : Nat) (xs : List It) (w : World) (hr : RIt w A n xs) :
    Calls Try.prog 18 #[.slice A n c, .func (.func 19) #[] #[]] w fun e w' => e = .returned (.bool (decide (0 ≤ idxF badF xs))) ∧ Below w.heap.size w w' := by
  have HI := Lib.hid (indexFunc_any A n c xs w hr)
  clear hr
  go_enter Try.func18, Try.ntmps18
  go_wp2_with fail
  refine HI.out.mono ?_
  rintro e w1 ⟨rfl, hb⟩
  have HB := Lib.hid hb
  clear hb
  go_wp2_with fail
  go_ret
  exact ⟨rfl, HB.out⟩

/-- What Check answers. -/
def chkF (xs : List It) : Int := if 60 < xs.length then 2 else if 0 ≤ idxF badF xs then 3 else 0
set_option maxHeartbeats 1000000 in
theorem check_any (A : Option Addr) (n c : Nat) (xs : List It) (w : World) (hr : RIt w A n xs) :
    Calls Try.prog 12 #[.slice A n c] w fun e w' => e = .returned (.int .i64 (chkF xs)) ∧ Below w.heap.size w w' := by
  have hl := hr.len
  have HI := Lib.hid (containsFunc_any A n c xs w hr)
  clear hr
  by_cases h1 : 60 < n
  · have HE : Hid (chkF xs = 2) := Lib.hid (by unfold chkF; rw [if_pos (by omega)])
    go_enter Try.func12, Try.ntmps12
    go_wp2_with fail
    go_ret
    exact ⟨by rw [HE.out]; rfl, Below.refl _ _⟩
  · by_cases h2 : 0 ≤ idxF badF xs
    · have HE : Hid (chkF xs = 3) := Lib.hid (by unfold chkF; rw [if_neg (by omega), if_pos h2])
      rw [decide_eq_true h2] at HI
      clear h2
      go_enter Try.func12, Try.ntmps12
      go_wp2_with fail
      refine HI.out.mono ?_
      rintro e w1 ⟨rfl, hb⟩
      have HB := Lib.hid hb
      clear hb
      go_wp2_with fail
      go_ret
      exact ⟨by rw [HE.out]; rfl, HB.out⟩
    · have HE : Hid (chkF xs = 0) := Lib.hid (by unfold chkF; rw [if_neg (by omega), if_neg h2])
      rw [decide_eq_false h2] at HI
      clear h2
      go_enter Try.func12, Try.ntmps12
      go_wp2_with fail
      refine HI.out.mono ?_
      rintro e w1 ⟨rfl, hb⟩
      have HB := Lib.hid hb
      clear hb
      go_wp2_with fail
      go_ret
      exact ⟨by rw [HE.out]; rfl, HB.out⟩
end Go.Proofs.Ytdheifnebkkjhaa.Act
