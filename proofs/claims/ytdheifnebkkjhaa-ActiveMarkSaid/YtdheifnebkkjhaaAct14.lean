/- Package active: Again, where a marker is on top. -/
import Derived.Test.YtdheifnebkkjhaaAct11
namespace Go.Proofs.Ytdheifnebkkjhaa.Act
open Go.RowKit Go.Proofs.YtdheifnebkkjhaaW.PrintWords
set_option linter.unusedVariables false
set_option linter.unusedSimpArgs false

set_option maxHeartbeats 4000000 in
theorem missing_top (A : Option Addr) (n c : Nat) (xs : List It) (vo : Value) (w : World) (hr : RIt w A n xs) (ht : lastS (xs.map sk) = n) (A2 : Option Addr) (n2 c2 : Nat) (hv : vo = .slice A2 n2 c2) :
    Calls Try.prog 15 #[.slice A n c, vo] w fun e w' => e = .returned (.int .i64 n) ∧ Below w.heap.size w w' := by
  subst hv
  have HLa : Hid (∀ W, Below w.heap.size w W → Calls Try.prog 21 #[.slice A n c] W fun e w' => e = .returned (.int .i64 n) ∧ Below w.heap.size w w') := Lib.hid (fun W hb => (last_any A n c xs W (hr.below hb)).mono (fun e w' h => ⟨by rw [← ht, ← lastF_sk]; exact h.1, hb.trans (h.2.mono hb.size)⟩))
  clear hr ht
  go_enter Try.func15, Try.ntmps15
  go_wp2_with fail
  go_loopw [5] (fun i wr => i = .int .i64 n ∧ Hid (Below w.heap.size w wr)) (fun _ _ => 0)
  case atStart => exact ⟨rfl, Lib.hid (Below.refl _ _)⟩
  case round =>
    obtain ⟨rfl, HB⟩ := hrel
    go_wp2_with fail
    refine (HLa.out _ HB.out).mono ?_
    rintro e w1 ⟨rfl, hb⟩
    have HB1 := Lib.hid hb
    clear hb
    go_wp2_with fail
    go_ret
    exact ⟨rfl, HB1.out⟩
set_option maxHeartbeats 4000000 in
theorem again_top (A : Option Addr) (n c : Nat) (xs : List It) (A2 : Option Addr) (n2 c2 : Nat) (w : World) (hr : RIt w A n xs) (ht : lastS (xs.map sk) = n) (hk : chkS (xs.map sk) = 0) :
    Calls Try.prog 8 #[.slice A n c, .slice A2 n2 c2] w fun e w' => e = .returned (.tuple #[.slice none 0 0, .int .i64 0]) ∧ Below w.heap.size w w' := by
  have HC : Hid (∀ W, Below w.heap.size w W → Calls Try.prog 12 #[.slice A n c] W fun e w' => e = .returned (.int .i64 0) ∧ Below w.heap.size w w') := Lib.hid (fun W hb => (check_any A n c xs W (hr.below hb)).mono (fun e w' h => ⟨by rw [← hk, ← chkF_sk]; exact h.1, hb.trans (h.2.mono hb.size)⟩))
  have HM : Hid (∀ W, Below w.heap.size w W → Calls Try.prog 15 #[.slice A n c, .slice A2 n2 c2] W fun e w' => e = .returned (.int .i64 n) ∧ Below w.heap.size w w') := Lib.hid (fun W hb => (missing_top A n c xs _ W (hr.below hb) ht A2 n2 c2 rfl).mono (fun e w' h => ⟨h.1, hb.trans (h.2.mono hb.size)⟩))
  clear hr ht hk
  go_enter Try.func8, Try.ntmps8
  go_wp2_with fail
  refine (HC.out _ (Below.refl _ _)).mono ?_
  rintro e w1 ⟨rfl, hb⟩
  have HB := Lib.hid hb
  clear hb
  go_wp2_with fail
  refine (HM.out _ HB.out).mono ?_
  rintro e w2 ⟨rfl, hb⟩
  have HB2 := Lib.hid hb
  clear hb
  go_wp2_with fail
  go_loopw [7, 8] (fun o i wr => o = .slice none 0 0 ∧ i = .int .i64 n ∧ Hid (Below w.heap.size w wr)) (fun _ _ _ => 0)
  case atStart => exact ⟨rfl, rfl, HB2⟩
  case round =>
    obtain ⟨rfl, rfl, HB3⟩ := hrel
    go_wp2_with fail
    go_ret2
    exact ⟨rfl, HB3.out⟩
end Go.Proofs.Ytdheifnebkkjhaa.Act
