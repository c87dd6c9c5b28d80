/- Package active: Last. -/
import Derived.Test.YtdheifnebkkjhaaAct2
namespace Go.Proofs.Ytdheifnebkkjhaa.Act
open Go.RowKit Go.Proofs.YtdheifnebkkjhaaW.PrintWords
set_option linter.unusedVariables false
set_option linter.unusedSimpArgs false

/-- Where the last ones begin, among the first k. -/
def lastK (xs : List It) : Nat → Nat
  | 0 => 0
  | k + 1 => if (xs.getD k zIt).node == -1 then k + 1 else lastK xs k
def lastF (xs : List It) : Nat := lastK xs xs.length
theorem lastK_le (xs : List It) : ∀ k, lastK xs k ≤ k
  | 0 => Nat.le_refl _
  | k + 1 => by
    have := lastK_le xs k
    simp only [lastK]
    split <;> omega

set_option maxHeartbeats 2000000 in
theorem last_any (A : Option Addr) (n c : Nat) (xs : List It) (w : World) (hr : RIt w A n xs) :
    Calls Try.prog 21 #[.slice A n c] w fun e w' => e = .returned (.int .i64 (lastF xs)) ∧ Below w.heap.size w w' := by
  have hnm : n ≤ 9223372036854775807 := hr.2.1
  have HL := Lib.hid hr.len
  have HR := Lib.hid hr
  clear hr
  go_enter Try.func21, Try.ntmps21
  go_wp2_with fail
  go_loopw [3] (fun i wr => ∃ k : Nat, k ≤ n ∧ i = .int .i64 k ∧ Hid (lastF xs = lastK xs k) ∧ Hid (Below w.heap.size w wr))
    (fun i _ => (intOf i).toNat)
  case atStart => exact ⟨n, Nat.le_refl _, rfl, Lib.hid (by unfold lastF; rw [HL.out]), Lib.hid (Below.refl _ _)⟩
  case round =>
    obtain ⟨k, hk, rfl, HK, HB⟩ := hrel
    cases k with
    | zero =>
      have HE : Hid (lastF xs = 0) := Lib.hid (by rw [HK.out]; rfl)
      go_wp2_with fail
      go_ret
      exact ⟨by rw [HE.out]; rfl, HB.out⟩
    | succ k =>
      obtain ⟨ad, rfl, c0, c1, c2⟩ := (HR.out.below HB.out).cells k (by omega)
      have HM : Hid (∀ W, Calls Try.prog 20 #[itVal (xs.getD k zIt)] W fun e w' => e = .returned (.bool ((xs.getD k zIt).node == -1)) ∧ Below W.heap.size W w') := Lib.hid (fun W => marker_any _ W)
      have HS : Hid (lastK xs (k + 1) = if (xs.getD k zIt).node == -1 then k + 1 else lastK xs k) := Lib.hid rfl
      generalize xs.getD k zIt = x at *
      go_wp2_with fail
      refine (HM.out _).mono ?_
      rintro e w1 ⟨rfl, hb⟩
      have HB1 := Lib.hid (HB.out.trans (hb.mono HB.out.size))
      clear hb c0 c1 c2
      by_cases hm : (x.node == -1) = true
      · have HE : Hid (lastF xs = k + 1) := Lib.hid (by rw [HK.out, HS.out, if_pos hm])
        rw [hm]
        clear hm
        go_wp2_with fail
        go_ret
        exact ⟨by rw [HE.out]; rfl, HB1.out⟩
      · have HE : Hid (lastF xs = lastK xs k) := Lib.hid (by rw [HK.out, HS.out, if_neg hm])
        have hm : (x.node == -1) = false := by simpa using hm
        rw [hm]
        clear hm
        go_wp2_with fail
        go_roundw
        case rel => exact ⟨k, by omega, by go_num, HE, HB1⟩
        case measure => simp [intOf]; try omega
end Go.Proofs.Ytdheifnebkkjhaa.Act
