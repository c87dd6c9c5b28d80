/- The law WalkBack, plainly: the printed function always comes to true. -/
import Derived.Test.YtjhamomdlpoilabDoorDocF
import Derived.Laws.BitsLemmas
namespace Go.Proofs.YtjhamomdlpoilabDoor.DocC
open Go.RowKit Go.Proofs.YtjhamomdlpoilabDoorW.PrintWords Go.Proofs.YtjhamomdlpoilabDoor.PWB Go.Proofs.YtjhamomdlpoilabDoor.DocP
set_option linter.unusedVariables false

theorem and7 (a : Int) : 0 ≤ Go.bits .and .i64 a 7 ∧ Go.bits .and .i64 a 7 ≤ 7 := by
  have h : (BitVec.ofInt 64 a &&& BitVec.ofInt 64 7).toNat ≤ 7 := by
    rw [BitVec.toNat_and]
    exact Nat.le_trans Nat.and_le_right (by decide)
  have e : Go.bits .and .i64 a 7 = IntKind.i64.wrap ((BitVec.ofInt 64 a &&& BitVec.ofInt 64 7).toNat : Int) := rfl
  rw [e, IntKind.wrap_i64]
  omega
theorem few_some (l : List S61) (q : Bool) : clerestorykeep1_few.f l q 60 = some (l.take (mn (l.length : Int) 60).toNat, q) := by
  have : 0 ≤ mn (l.length : Int) 60 ∧ mn (l.length : Int) 60 ≤ l.length := by unfold mn; split <;> omega
  simp only [clerestorykeep1_few.f]
  rw [if_pos this.1, if_pos this.2]
theorem step_back {n : Nat} {par : Int → Int} {kids : Int → List Int} (h : WF n par kids) {a b how back : Int} {d d' : Nat} (ha : In n a) (hd : Dep par a d) (e : stepF par kids d a how = b) (h0 : 0 ≤ b) (hb : In n b) (hd' : Dep par b d')
    (hh : (how = 1 ∧ back = 2) ∨ (how = 2 ∧ back = 1) ∨ (how = 4 ∧ back = 8) ∨ (how = 5 ∧ back = 8) ∨ (how = 6 ∧ back = 7) ∨ (how = 7 ∧ back = 6)) : stepF par kids d' b back = a := by
  rcases hh with ⟨rfl, rfl⟩ | ⟨rfl, rfl⟩ | ⟨rfl, rfl⟩ | ⟨rfl, rfl⟩ | ⟨rfl, rfl⟩ | ⟨rfl, rfl⟩
  · exact h.next_last ha hd e h0 hd' hb
  · exact (h.last_next ha e h0 hd').1
  · have e' : firstKid kids a = b := e
    by_cases he : kids a = []
    · rw [firstKid_nil a he] at e'; omega
    · have hl : 0 < (kids a).length := List.length_pos_iff.2 he
      rw [firstKid_cons a hl] at e'
      exact (h.kid_in ha (e' ▸ List.getElem_mem _)).2
  · have e' : lastKid kids a = b := e
    by_cases he : kids a = []
    · rw [lastKid_nil a he] at e'; omega
    · have hl : 0 < (kids a).length := List.length_pos_iff.2 he
      rw [lastKid_cons a hl] at e'
      exact (h.kid_in ha (e' ▸ List.getElem_mem _)).2
  · exact (h.beside_back ha (show beside par kids a 1 = b from e) h0).1
  · exact (h.beside_back ha (show beside par kids a (-1) = b from e) h0).1
theorem j1_true (l : List S61) (q : Bool) (a how x : Int) (hx : x = 0) : Ev (fun k => clerestorykeep1_WalkBack.j1 k a how x true l q) true :=
  Ev.step (fun k => by simp only [clerestorykeep1_WalkBack.j1, if_true]) (Ev.bind (f := fun _ t => if t = true then some (x == 0) else some false) begun_ev (Ev.congr (f := fun _ => some true) (fun k => by rw [if_pos rfl, hx]; rfl) (Ev.now true)))
theorem WalkBack_L (L : List S61) (q : Bool) (a how : Int) (hf : Fit L) (h1 : 1 ≤ how) (h8 : how ≤ 8) (h3 : how ≠ 3) (hn8 : how ≠ 8) : Ev (fun k => clerestorykeep1_WalkBack.j0 k a how false L q) true := by
  obtain ⟨r, hr, ht⟩ := Step_ev L q hf a how
  refine Ev.step (fun k => by simp only [clerestorykeep1_WalkBack.j0, Bool.false_eq_true, if_false]) (Ev.bind (f := fun k (b : Int × Bool × Int) => if b.2.2 = 0 then clerestorykeep1_WalkBack.j1 k a how b.1 (!b.2.1) L q else clerestorykeep1_WalkBack.j1 k a how b.1 true L q) hr ?_)
  by_cases hz : r.2.2 = 0
  · obtain ⟨hg, ha, hrt, _, _, d, hd, e⟩ := ht.good hz
    obtain ⟨_, hw⟩ := hg.wf hf
    obtain ⟨b, hb⟩ : ∃ b, stepF (par L) (kids L) d a how = b := ⟨_, rfl⟩
    rw [hb] at e
    by_cases h0 : b < 0
    · refine Ev.congr (fun k => ?_) (j1_true L q a how 0 rfl)
      rw [if_pos hz, e]
      simp only []
      rw [if_pos h0, decide_eq_false (by omega)]
      rfl
    · obtain ⟨hib, hrb⟩ := step_rt hw ha hd hb (by omega)
      obtain ⟨back, hbk⟩ : ∃ x, rd ([0, 2, 1, 0, 8, 8, 7, 6] : List Int) how = x := ⟨_, rfl⟩
      have hcase : (how = 1 ∧ back = 2) ∨ (how = 2 ∧ back = 1) ∨ (how = 4 ∧ back = 8) ∨ (how = 5 ∧ back = 8) ∨ (how = 6 ∧ back = 7) ∨ (how = 7 ∧ back = 6) := by
        rw [← hbk]
        rcases (show how = 1 ∨ how = 2 ∨ how = 4 ∨ how = 5 ∨ how = 6 ∨ how = 7 by omega) with rfl | rfl | rfl | rfl | rfl | rfl <;> decide
      obtain ⟨r2, hr2, ht2⟩ := Step_ev L q hf b back
      have hz2 := ht2.fine hg hib (hrb.2 hrt) (by omega) (by omega)
      obtain ⟨_, _, _, _, _, d', hd', e2⟩ := ht2.good hz2
      rw [step_back hw ha hd hb (by omega) hib hd' hcase] at e2
      refine Ev.congr (f := fun k => clerestorykeep1_WalkBack.j1 k a how b false L q) (fun k => ?_) (Ev.step (fun k => ?_) (Ev.bind (f := fun k (b2 : Int × Bool × Int) => (clerestorykeep1_walkBegun.f k).bind fun t => if t = true then if b2.2.2 = 0 then if b2.2.1 = true then some (b2.1 == a) else some false else some false else some false) hr2 (Ev.bind (f := fun _ t => if t = true then if r2.2.2 = 0 then if r2.2.1 = true then some (r2.1 == a) else some false else some false else some false) begun_ev (Ev.congr (f := fun _ => some true) (fun k => ?_) (Ev.now true)))))
      · rw [if_pos hz, e]
        simp only []
        rw [if_neg h0, decide_eq_true (by omega)]
        rfl
      · simp only [clerestorykeep1_WalkBack.j1, Bool.false_eq_true, if_false, Option.bind_some]
        rw [if_pos (by omega), if_pos (by simp; omega), hbk]
      · have e3 : r2 = (a, true, 0) := by rw [e2, if_neg (by have := ha.1; omega), decide_eq_true ha.1]
        rw [if_pos rfl, if_pos hz2, e3]
        simp
  · obtain ⟨b1, b2⟩ := ht.bad hz
    exact Ev.congr (fun k => by rw [if_neg hz]) (j1_true L q a how r.1 b1)
theorem WalkBack_ev (l : List S61) (q : Bool) (a how0 : Int) (hf : Fit (l.take (mn (l.length : Int) 60).toNat)) : ∃ k, clerestorykeep1_WalkBack.f k l q a how0 = some true := by
  refine Ev.rounds (g := fun k => clerestorykeep1_WalkBack.f k l q a how0) ?_
  have h7 := and7 how0
  have hw : wrap64 (1 + Go.bits .and .i64 how0 7) = 1 + Go.bits .and .i64 how0 7 := wrap_in (by omega)
  have hfew := few_some l q
  generalize l.take (mn (l.length : Int) 60).toNat = L at hf hfew
  obtain ⟨how, hhow⟩ : ∃ x, 1 + Go.bits .and .i64 how0 7 = x := ⟨_, rfl⟩
  rw [hhow] at hw
  have hj0 : Ev (fun k => clerestorykeep1_WalkBack.j0 k a how true L q) true :=
    Ev.step (fun k => by simp only [clerestorykeep1_WalkBack.j0, if_true]) (Ev.bind (f := fun _ t => some t) begun_ev (Ev.now true))
  by_cases h3 : how = 3
  · refine Ev.congr (fun k => ?_) hj0
    simp only [clerestorykeep1_WalkBack.f, hfew, Option.bind_some, hhow, hw]
    rw [if_pos h3]
  by_cases h8 : how = 8
  · refine Ev.congr (fun k => ?_) hj0
    simp only [clerestorykeep1_WalkBack.f, hfew, Option.bind_some, hhow, hw]
    rw [if_neg h3, h8]; rfl
  · refine Ev.congr (fun k => ?_) (WalkBack_L L q a how hf (by omega) (by omega) h3 h8)
    simp only [clerestorykeep1_WalkBack.f, hfew, Option.bind_some, hhow, hw]
    rw [if_neg h3, show (how == 8) = false from by simpa using h8]
end Go.Proofs.YtjhamomdlpoilabDoor.DocC
