/- Package active: activeBegun. -/
import Derived.Test.YtdheifnebkkjhaaAct10
namespace Go.Proofs.Ytdheifnebkkjhaa.Act
open Go.RowKit Go.Proofs.YtdheifnebkkjhaaW.PrintWords
set_option linter.unusedVariables false
set_option linter.unusedSimpArgs false

theorem RIt.nil (w : World) : RIt w none 0 [] := ⟨rfl, Nat.zero_le _, fun h => absurd h (Nat.lt_irrefl _)⟩
theorem chk_one : chkS [(3, ⟨#[98]⟩, 0)] = 0 := by simp [chkS, idxF, badS, List.findIdx?_cons]
set_option maxRecDepth 100000 in
set_option maxHeartbeats 4000000 in
theorem begun_any (w : World) :
    Calls Try.prog 7 #[] w fun e w' => e = .returned (.bool true) ∧ Below w.heap.size w w' := by
  go_enter Try.func7, Try.ntmps7
  have HP := Lib.hid (push_any none 0 0 [] ⟨3, ⟨#[98]⟩, none, 0, 0⟩ w (RIt.nil w) (fun y hy => by simp at hy) (RA.nil w 3 ⟨#[98]⟩ 0) (by omega))
  go_wp2_with fail
  refine HP.out.mono ?_
  clear HP
  rintro e w1 ⟨hb, ⟨h, rfl⟩ | ⟨h0, A', c', zs, S, rfl, hr, ha, hg, hs⟩⟩
  · exact absurd chk_one h
  have hS : S = [] := by
    cases S with
    | nil => rfl
    | cons a b => have := (hg.1 a (by simp)).2; simp at this
  subst hS
  have hk : zs.map sk = [(3, ⟨#[98]⟩, 0)] := by rw [hs]; rfl
  obtain ⟨z, rfl⟩ : ∃ z, zs = [z] := by
    cases zs with
    | nil => simp at hk
    | cons a b => cases b with
      | nil => exact ⟨a, rfl⟩
      | cons c d => simp at hk
  obtain ⟨ad, rfl, c0, c1, c2⟩ := hr.cells 0 (by simp)
  have hz : z.node = 3 := by simp [sk] at hk; exact hk.1
  have HR := Lib.hid hr
  have HB := Lib.hid hb
  have HC : Hid (∀ W, Below w1.heap.size w1 W → Calls Try.prog 9 #[.slice (some ad) 1 c'] W fun e w' => ∃ A1 c1, e = .returned (.tuple #[.slice A1 0 c1, .int .i64 0]) ∧ w'.cell? (ad.add (0 * 3)) = some (.int .i64 3) ∧ Below w.heap.size w w') := Lib.hid (fun W hbw => by
    refine (clear_any (some ad) 1 c' [z] W (hr.below hbw) (fun x hx => (ha x hx).below hbw) (by omega)).mono ?_
    rintro e w' ⟨hb2, ⟨h, rfl⟩ | ⟨h, A1, c1', ys, rfl, hr2, hy⟩⟩
    · rw [hk] at h; exact absurd chk_one h
    · have h0 : ys = [] := by
        rw [hk] at hy
        have : ys.map sk = [] := by rw [hy]; rfl
        simpa using this
      subst h0
      have hbb := hbw.trans (hb2.mono hbw.size)
      refine ⟨A1, c1', rfl, ?_, hb.trans (hbb.mono hb.size)⟩
      have := pw_cell_below hbb c0
      rw [← hz]
      exact this)
  clear c0 c1 c2 hs hk hg ha hr h0 hb hz
  go_wp2_with fail
  refine (HC.out _ (Below.refl _ _)).mono ?_
  rintro e w2 ⟨A1, c1, rfl, hc, hb⟩
  rw [show ad.add (0 * 3) = ad from by simp [Addr.add]] at hc
  have HB2 := Lib.hid hb
  clear hb
  go_wp2_with fail
  go_ret
  exact ⟨rfl, HB2.out⟩
end Go.Proofs.Ytdheifnebkkjhaa.Act
