-- printed by wip/tools/pr.py (own) through the kit's printer; texts GIVEN by hand stand among them
import Derived.Test.YtmcinclecpeakaaGreatDoorPRRx0
import Derived.Test.YtmcinclecpeakaaGreatDoorPRRx3
import Derived.Test.YtmcinclecpeakaaGreatDoorPRRx4
namespace Go.Proofs.YtmcinclecpeakaaGreatDoor.PRR
open Go.RowKit Go.Proofs.YtmcinclecpeakaaGreatDoorW.PrintWords Go.Proofs.YtmcinclecpeakaaGreatDoorW.PrintLast Go.Proofs.YtmcinclecpeakaaGreatDoorW.PrintMore
attribute [local go_sem] max2_int min2_int max_two min_two max_three min_three max_four min_four   -- for this text's walks alone
set_option linter.unusedVariables false
set_option linter.unusedSimpArgs false

/-! ### dom_up: function 40 -/
def dom_up.l0 : Nat → Int → Int → List (S43) → Bool → Option (Int)
 | 0, _, _, _, _ => none
 | k + 1, x1, x4, x140000, x140001 => if 0 ≤ x1 then (if x1 < (x140000.length : Int) then (if ((rd_T43 x140000 x1).f4) ≥ 0 then (if x4 ≤ (x140000.length : Int) then (dom_up.l0 k ((rd_T43 x140000 x1).f4) (wrap64 (x4 + 1)) x140000 x140001) else (some x4)) else (some x4)) else (none)) else (none)
def dom_up.f (k : Nat) (l0_0 : List (S43)) (a0_1 : Bool) (a1 : Int) : Option (Int) := dom_up.l0 k a1 0 l0_0 a0_1
theorem dom_up.mono_l : ∀ k, (∀ y0 y1 y2 y3, LeO (dom_up.l0 k y0 y1 y2 y3) (dom_up.l0 (k + 1) y0 y1 y2 y3))
 | 0 => fun _ _ _ _ r h => by simp [dom_up.l0] at h
 | k + 1 => by
  have ih0 := dom_up.mono_l k
  ·intro y0 y1 y2 y3
   unfold dom_up.l0
   repeat' first
   | (with_reducible exact ih0 _ _ _ _)
   | (with_reducible exact LeO.refl _)
   | (with_reducible exact LeO.none _)
   | (with_reducible refine LeO.ite ?_ ?_)
   | (with_reducible refine LeO.bind ?_ (fun _ => ?_))
   | exact ih0 _ _ _ _
   | exact LeO.none _
   | refine LeO.ite ?_ ?_
   | refine LeO.bind ?_ (fun _ => ?_)
theorem dom_up.mono : ∀ a0 a1 a2 k, LeO (dom_up.f k a0 a1 a2) (dom_up.f (k + 1) a0 a1 a2) := by
 intro a0 a1 a2 k
 have ih0 := dom_up.mono_l k
 unfold dom_up.f
 repeat' first
   | (with_reducible exact ih0 _ _ _ _)
   | (with_reducible exact LeO.refl _)
   | (with_reducible exact LeO.none _)
   | (with_reducible refine LeO.ite ?_ ?_)
   | (with_reducible refine LeO.bind ?_ (fun _ => ?_))
   | exact ih0 _ _ _ _
   | exact LeO.none _
   | refine LeO.ite ?_ ?_
   | refine LeO.bind ?_ (fun _ => ?_)
set_option maxHeartbeats 8000000 in
set_option maxRecDepth 100000 in
theorem dom_up.calls (k : Nat) (A0_0 : Option Addr) (c0_0 : Nat) (l0_0 : List (S43)) (a0_1 : Bool) (a1 : Int) (r : Int) (w : World) (hr0_0 : Kd.C k43 w A0_0 l0_0.length l0_0) (hc0_0 : l0_0.length ≤ c0_0) (h : dom_up.f k l0_0 a0_1 a1 = some r) :
  Calls Tryz.prog 40 #[.agg #[.slice A0_0 l0_0.length c0_0, .bool a0_1], .int .i64 a1] w fun e w' => e = .returned (.int .i64 r) ∧ Below w.heap.size w w' := by
 have hu24 := Tryz.underlying24
 have HR0_0 := Aside0.mk hr0_0
 have HC0_0 := Aside0.mk hc0_0
 clear hr0_0 hc0_0
 have HB := Aside0.mk (Below.refl w.heap.size w)
 have H : (dom_up.l0 k a1 0 l0_0 a0_1) = some r := h
 clear h
 have H' := Aside0.mk H
 clear H
 go_enter Tryz.func40, Tryz.ntmps40
 go_wp2_with (first | ((with_reducible refine gate_dst (N := 2) rfl ?_); (try (refine gate_guard (by rfl) ?_; dsimp only)); refine box_event rf_ (N := 2) rf_ (cs := #[.slice A0_0 l0_0.length c0_0, .bool a0_1]) (t := 24) gs_ ?_; intro gb139 hg w3 hbox hb; have BK139 := Aside0.mk hbox; have GW139 := Aside0.mk (gle_ (w := w) hg bl0_); replace HB := Aside0.mk (below_step bl0_ hb); have GE139 := GW139; clear hb hbox hg))
 go_loopg [1, 4] k (fun kq v1 v4 w' => ∃ (x1_1 : Int) (x4_1 : Int), v1 = .int .i64 x1_1 ∧ v4 = .int .i64 x4_1 ∧ Aside0 (dom_up.l0 kq x1_1 x4_1 l0_0 a0_1 = some r) ∧ Aside0 (kq ≤ k) ∧ Aside0 (w'.heap[gb139]? = some (.cells #[(.slice A0_0 l0_0.length c0_0), .bool a0_1] 24 (0, 0))) ∧ Aside0 (Below w.heap.size w w'))
 case atStart => exact ⟨(a1), (0), rs_, rs_, H', ⟨Nat.le_refl _⟩, ⟨by (with_reducible repeat (first | refine blk_drewN ?_ _ | refine blk_drew ?_ | refine blk_alloc ?_ _)); exact BK139.out⟩, ⟨bl0_⟩⟩
 case round =>
  clear H'
  obtain ⟨x1_1, x4_1, rfl, rfl, HA, HK1, BK139, HB⟩ := hrel
  cases gk with
  | zero => exact absurd HA.out (by simp [dom_up.l0])
  | succ k1 =>
   have H := HA.out
   clear HA
   simp only [dom_up.l0] at H
   by_cases c4 : 0 ≤ x1_1
   ·rw [if_pos c4] at H
    have c4b0 : decide (0 ≤ x1_1) = true := decide_eq_true c4
    clear c4
    by_cases c5 : x1_1 < (l0_0.length : Int)
    ·rw [if_pos c5] at H
     have c5b0 : decide (x1_1 < (l0_0.length : Int)) = true := decide_eq_true c5
     clear c5
     by_cases c6 : ((rd_T43 l0_0 x1_1).f4) ≥ 0
     ·rw [if_pos c6] at H
      have c6b0 : decide (0 ≤ ((rd_T43 l0_0 x1_1).f4)) = true := decide_eq_true c6
      clear c6
      by_cases c7 : x4_1 ≤ (l0_0.length : Int)
      ·rw [if_pos c7] at H
       have c7b0 : decide (x4_1 ≤ (l0_0.length : Int)) = true := decide_eq_true c7
       clear c7
       have H' := Aside0.mk H
       clear H
       obtain ⟨hcz8_0, hcz8_1, hfz8_0, hfz8_1⟩ := cf2_ BK139
       have p140 : 0 ≤ (x1_1 : Int) := of_decide_eq_true as_
       have q140 : x1_1 < (l0_0.length : Int) := of_decide_eq_true as_
       obtain ⟨ad140, A140_2, c140_2, A140_5, c140_5, e140, hx140_0, hx140_1, hx140_2, hx140_3, hx140_4, hx140_5, hl140_2, hi140_2, hl140_5, hi140_5⟩ := at_T43 HR0_0.out x1_1 p140 q140
       cases e140
       replace hx140_0 := pw_cell_below HB.out hx140_0
       replace hx140_1 := pw_cell_below HB.out hx140_1
       replace hx140_2 := pw_cell_below HB.out hx140_2
       replace hx140_3 := pw_cell_below HB.out hx140_3
       replace hx140_4 := pw_cell_below HB.out hx140_4
       replace hx140_5 := pw_cell_below HB.out hx140_5
       have HR140_2 := Aside0.mk hi140_2
       have HC140_2 := Aside0.mk hl140_2
       clear hi140_2 hl140_2
       have HR140_5 := Aside0.mk hi140_5
       have HC140_5 := Aside0.mk hl140_5
       clear hi140_5 hl140_5
       replace p140 := eq_true p140
       replace q140 := eq_true q140
       have p141 : 0 ≤ (x1_1 : Int) := of_decide_eq_true as_
       have q141 : x1_1 < (l0_0.length : Int) := of_decide_eq_true as_
       obtain ⟨ad141, A141_2, c141_2, A141_5, c141_5, e141, hx141_0, hx141_1, hx141_2, hx141_3, hx141_4, hx141_5, hl141_2, hi141_2, hl141_5, hi141_5⟩ := at_T43 HR0_0.out x1_1 p141 q141
       obtain rfl : ad140 = ad141 := (by injection e141)
       replace hx141_0 := pw_cell_below HB.out hx141_0
       replace hx141_1 := pw_cell_below HB.out hx141_1
       replace hx141_2 := pw_cell_below HB.out hx141_2
       replace hx141_3 := pw_cell_below HB.out hx141_3
       replace hx141_4 := pw_cell_below HB.out hx141_4
       replace hx141_5 := pw_cell_below HB.out hx141_5
       have HR141_2 := Aside0.mk hi141_2
       have HC141_2 := Aside0.mk hl141_2
       clear hi141_2 hl141_2
       have HR141_5 := Aside0.mk hi141_5
       have HC141_5 := Aside0.mk hl141_5
       clear hi141_5 hl141_5
       replace p141 := eq_true p141
       replace q141 := eq_true q141
       have ea_ := Option.some.inj (hx140_2.symm.trans hx141_2)
       injection ea_ with ea_ en_ ec_
       subst ea_
       subst ec_
       clear en_
       have ea_ := Option.some.inj (hx140_5.symm.trans hx141_5)
       injection ea_ with ea_ en_ ec_
       subst ea_
       subst ec_
       clear en_
       go_wp2
       go_roundg k1
       case measure => have := HK1.out; omega
       case rel => exact ⟨((rd_T43 l0_0 x1_1).f4), (wrap64 (x4_1 + 1)), rs_, rs_, H', ⟨by have := HK1.out; omega⟩, ⟨by (with_reducible repeat (first | refine blk_drewN ?_ _ | refine blk_drew ?_ | refine blk_alloc ?_ _)); exact BK139.out⟩, ⟨bl0_⟩⟩
      ·rw [if_neg c7] at H
       have c7b0 : decide (x4_1 ≤ (l0_0.length : Int)) = false := decide_eq_false c7
       clear c7
       obtain rfl := Option.some.inj H
       obtain ⟨hcz9_0, hcz9_1, hfz9_0, hfz9_1⟩ := cf2_ BK139
       have p140 : 0 ≤ (x1_1 : Int) := of_decide_eq_true as_
       have q140 : x1_1 < (l0_0.length : Int) := of_decide_eq_true as_
       obtain ⟨ad140, A140_2, c140_2, A140_5, c140_5, e140, hx140_0, hx140_1, hx140_2, hx140_3, hx140_4, hx140_5, hl140_2, hi140_2, hl140_5, hi140_5⟩ := at_T43 HR0_0.out x1_1 p140 q140
       cases e140
       replace hx140_0 := pw_cell_below HB.out hx140_0
       replace hx140_1 := pw_cell_below HB.out hx140_1
       replace hx140_2 := pw_cell_below HB.out hx140_2
       replace hx140_3 := pw_cell_below HB.out hx140_3
       replace hx140_4 := pw_cell_below HB.out hx140_4
       replace hx140_5 := pw_cell_below HB.out hx140_5
       have HR140_2 := Aside0.mk hi140_2
       have HC140_2 := Aside0.mk hl140_2
       clear hi140_2 hl140_2
       have HR140_5 := Aside0.mk hi140_5
       have HC140_5 := Aside0.mk hl140_5
       clear hi140_5 hl140_5
       replace p140 := eq_true p140
       replace q140 := eq_true q140
       go_wp2
       go_ret
       exact ⟨er_, bl0_⟩
     ·rw [if_neg c6] at H
      have c6b0 : decide (0 ≤ ((rd_T43 l0_0 x1_1).f4)) = false := decide_eq_false c6
      clear c6
      obtain rfl := Option.some.inj H
      obtain ⟨hcz10_0, hcz10_1, hfz10_0, hfz10_1⟩ := cf2_ BK139
      have p140 : 0 ≤ (x1_1 : Int) := of_decide_eq_true as_
      have q140 : x1_1 < (l0_0.length : Int) := of_decide_eq_true as_
      obtain ⟨ad140, A140_2, c140_2, A140_5, c140_5, e140, hx140_0, hx140_1, hx140_2, hx140_3, hx140_4, hx140_5, hl140_2, hi140_2, hl140_5, hi140_5⟩ := at_T43 HR0_0.out x1_1 p140 q140
      cases e140
      replace hx140_0 := pw_cell_below HB.out hx140_0
      replace hx140_1 := pw_cell_below HB.out hx140_1
      replace hx140_2 := pw_cell_below HB.out hx140_2
      replace hx140_3 := pw_cell_below HB.out hx140_3
      replace hx140_4 := pw_cell_below HB.out hx140_4
      replace hx140_5 := pw_cell_below HB.out hx140_5
      have HR140_2 := Aside0.mk hi140_2
      have HC140_2 := Aside0.mk hl140_2
      clear hi140_2 hl140_2
      have HR140_5 := Aside0.mk hi140_5
      have HC140_5 := Aside0.mk hl140_5
      clear hi140_5 hl140_5
      replace p140 := eq_true p140
      replace q140 := eq_true q140
      go_wp2
      go_ret
      exact ⟨er_, bl0_⟩
    ·rw [if_neg c5] at H
     exact absurd H (by simp)
   ·rw [if_neg c4] at H
    exact absurd H (by simp)

/-! ### dom_Check: function 19 -/
mutual
def dom_Check.l0 : Nat → List (S43) → Int → Int → List (S43) → Bool → Option (Int)
 | 0, _, _, _, _, _ => none
 | k + 1, x20, x21, x22, x143000, x143001 => if x22 < x21 then (if 0 ≤ x22 then (if x22 < (x20.length : Int) then (if ((((rd_T43 x20 x22).f0) == 1) != (x22 == 0)) = true then (some 3) else ((dom_one.f k ((rd_T43 x20 x22).f0) ((rd_T43 x20 x22).f1) ((rd_T43 x20 x22).f2) ((rd_T43 x20 x22).f3) ((rd_T43 x20 x22).f4) ((rd_T43 x20 x22).f5)).bind fun t145 => (if t145 = 0 then (dom_Check.l0 k x20 x21 (wrap64 (x22 + 1)) x143000 x143001) else (some t145)))) else (none)) else (none)) else ((dom_kids.f k x143000 x143001).bind fun t146 => (if t146 = 0 then (dom_Check.l1 k (x143000.length : Int) 0 x143000 x143001) else (some t146)))
def dom_Check.l1 : Nat → Int → Int → List (S43) → Bool → Option (Int)
 | 0, _, _, _, _ => none
 | k + 1, x46, x47, x143000, x143001 => if x47 < x46 then ((dom_up.f k x143000 x143001 x47).bind fun t147 => (if t147 > (x143000.length : Int) then (some 8) else (if t147 > 40 then (some 2) else (dom_Check.l1 k x46 (wrap64 (x47 + 1)) x143000 x143001)))) else (some 0)
end
def dom_Check.f (k : Nat) (l0_0 : List (S43)) (a0_1 : Bool) : Option (Int) := if (l0_0.length : Int) > 200 then (some 2) else (if (l0_0.length : Int) = 0 then (some 3) else (dom_Check.l0 k l0_0 (l0_0.length : Int) 0 l0_0 a0_1))
theorem dom_Check.mono_l : ∀ k, (∀ y0 y1 y2 y3 y4, LeO (dom_Check.l0 k y0 y1 y2 y3 y4) (dom_Check.l0 (k + 1) y0 y1 y2 y3 y4)) ∧ (∀ y0 y1 y2 y3, LeO (dom_Check.l1 k y0 y1 y2 y3) (dom_Check.l1 (k + 1) y0 y1 y2 y3))
 | 0 => ⟨fun _ _ _ _ _ r h => by simp [dom_Check.l0] at h, fun _ _ _ _ r h => by simp [dom_Check.l1] at h⟩
 | k + 1 => by
  obtain ⟨ih0, ih1⟩ := dom_Check.mono_l k
  refine ⟨?_, ?_⟩
  ·intro y0 y1 y2 y3 y4
   unfold dom_Check.l0
   repeat' first
   | (with_reducible exact ih0 _ _ _ _ _)
   | (with_reducible exact ih1 _ _ _ _)
   | (with_reducible exact dom_kids.mono _ _ _)
   | (with_reducible exact dom_one.mono _ _ _ _ _ _ _)
   | (with_reducible exact dom_up.mono _ _ _ _)
   | (with_reducible exact LeO.refl _)
   | (with_reducible exact LeO.none _)
   | (with_reducible refine LeO.ite ?_ ?_)
   | (with_reducible refine LeO.bind ?_ (fun _ => ?_))
   | exact ih0 _ _ _ _ _
   | exact ih1 _ _ _ _
   | exact dom_kids.mono _ _ _
   | exact dom_one.mono _ _ _ _ _ _ _
   | exact dom_up.mono _ _ _ _
   | exact LeO.none _
   | refine LeO.ite ?_ ?_
   | refine LeO.bind ?_ (fun _ => ?_)
  ·intro y0 y1 y2 y3
   unfold dom_Check.l1
   repeat' first
   | (with_reducible exact ih0 _ _ _ _ _)
   | (with_reducible exact ih1 _ _ _ _)
   | (with_reducible exact dom_kids.mono _ _ _)
   | (with_reducible exact dom_one.mono _ _ _ _ _ _ _)
   | (with_reducible exact dom_up.mono _ _ _ _)
   | (with_reducible exact LeO.refl _)
   | (with_reducible exact LeO.none _)
   | (with_reducible refine LeO.ite ?_ ?_)
   | (with_reducible refine LeO.bind ?_ (fun _ => ?_))
   | exact ih0 _ _ _ _ _
   | exact ih1 _ _ _ _
   | exact dom_kids.mono _ _ _
   | exact dom_one.mono _ _ _ _ _ _ _
   | exact dom_up.mono _ _ _ _
   | exact LeO.none _
   | refine LeO.ite ?_ ?_
   | refine LeO.bind ?_ (fun _ => ?_)
theorem dom_Check.mono : ∀ a0 a1 k, LeO (dom_Check.f k a0 a1) (dom_Check.f (k + 1) a0 a1) := by
 intro a0 a1 k
 obtain ⟨ih0, ih1⟩ := dom_Check.mono_l k
 unfold dom_Check.f
 repeat' first
   | (with_reducible exact ih0 _ _ _ _ _)
   | (with_reducible exact ih1 _ _ _ _)
   | (with_reducible exact dom_kids.mono _ _ _)
   | (with_reducible exact dom_one.mono _ _ _ _ _ _ _)
   | (with_reducible exact dom_up.mono _ _ _ _)
   | (with_reducible exact LeO.refl _)
   | (with_reducible exact LeO.none _)
   | (with_reducible refine LeO.ite ?_ ?_)
   | (with_reducible refine LeO.bind ?_ (fun _ => ?_))
   | exact ih0 _ _ _ _ _
   | exact ih1 _ _ _ _
   | exact dom_kids.mono _ _ _
   | exact dom_one.mono _ _ _ _ _ _ _
   | exact dom_up.mono _ _ _ _
   | exact LeO.none _
   | refine LeO.ite ?_ ?_
   | refine LeO.bind ?_ (fun _ => ?_)
set_option maxHeartbeats 8000000 in
set_option maxRecDepth 100000 in
theorem dom_Check.calls (k : Nat) (A0_0 : Option Addr) (c0_0 : Nat) (l0_0 : List (S43)) (a0_1 : Bool) (r : Int) (w : World) (hr0_0 : Kd.C k43 w A0_0 l0_0.length l0_0) (hc0_0 : l0_0.length ≤ c0_0) (h : dom_Check.f k l0_0 a0_1 = some r) :
  Calls Tryz.prog 19 #[.agg #[.slice A0_0 l0_0.length c0_0, .bool a0_1]] w fun e w' => e = .returned (.int .i64 r) ∧ Below w.heap.size w w' := by
 have hu24 := Tryz.underlying24
 have hu43 := Tryz.underlying43
 have HR0_0 := Aside0.mk hr0_0
 have HC0_0 := Aside0.mk hc0_0
 clear hr0_0 hc0_0
 have HB := Aside0.mk (Below.refl w.heap.size w)
 have H : (if (l0_0.length : Int) > 200 then (some 2) else (if (l0_0.length : Int) = 0 then (some 3) else (dom_Check.l0 k l0_0 (l0_0.length : Int) 0 l0_0 a0_1))) = some r := h
 clear h
 by_cases c2 : (l0_0.length : Int) > 200
 ·rw [if_pos c2] at H
  have c2b0 : decide (200 < (l0_0.length : Int)) = true := decide_eq_true c2
  have c2b1 : decide (200 < l0_0.length) = true := decide_eq_true (by omega)
  clear c2
  obtain rfl := Option.some.inj H
  go_enter Tryz.func19, Tryz.ntmps19
  go_wp2_with (first | ((with_reducible refine gate_dst (N := 1) rfl ?_); refine box_event rf_ (N := 1) rf_ (cs := #[.slice A0_0 l0_0.length c0_0, .bool a0_1]) (t := 24) gs_ ?_; intro gb142 hg w3 hbox hb; have BK142 := Aside0.mk hbox; have GW142 := Aside0.mk (gle_ (w := w) hg bl0_); replace HB := Aside0.mk (below_step bl0_ hb); have GE142 := GW142; clear hb hbox hg; obtain ⟨hcz4_0, hcz4_1, hfz4_0, hfz4_1⟩ := cf2_ BK142))
  go_ret
  exact ⟨er_, bl0_⟩
 ·rw [if_neg c2] at H
  have c2b0 : decide (200 < (l0_0.length : Int)) = false := decide_eq_false c2
  have c2b1 : decide (200 < l0_0.length) = false := decide_eq_false (by omega)
  clear c2
  by_cases c5 : (l0_0.length : Int) = 0
  ·rw [if_pos c5] at H
   have c5b0 : ((l0_0.length : Int) == 0) = true := beq_iff_eq.mpr c5
   have c5b1 : ((l0_0.length : Int) != 0) = false := bne_eq_false_iff_eq.mpr c5
   clear c5
   obtain rfl := Option.some.inj H
   go_enter Tryz.func19, Tryz.ntmps19
   go_wp2_with (first | ((with_reducible refine gate_dst (N := 1) rfl ?_); refine box_event rf_ (N := 1) rf_ (cs := #[.slice A0_0 l0_0.length c0_0, .bool a0_1]) (t := 24) gs_ ?_; intro gb142 hg w6 hbox hb; have BK142 := Aside0.mk hbox; have GW142 := Aside0.mk (gle_ (w := w) hg bl0_); replace HB := Aside0.mk (below_step bl0_ hb); have GE142 := GW142; clear hb hbox hg; obtain ⟨hcz7_0, hcz7_1, hfz7_0, hfz7_1⟩ := cf2_ BK142))
   go_ret
   exact ⟨er_, bl0_⟩
  ·rw [if_neg c5] at H
   have c5b0 : ((l0_0.length : Int) == 0) = false := beq_eq_false_iff_ne.mpr c5
   have c5b1 : ((l0_0.length : Int) != 0) = true := bne_iff_ne.mpr c5
   have c5b2 : ¬ (l0_0 = []) := fun h_ => c5 (by rw [h_]; rfl)
   have H' := Aside0.mk H
   clear H
   go_enter Tryz.func19, Tryz.ntmps19
   go_wp2_with (first | ((with_reducible refine gate_dst (N := 1) rfl ?_); refine box_event rf_ (N := 1) rf_ (cs := #[.slice A0_0 l0_0.length c0_0, .bool a0_1]) (t := 24) gs_ ?_; intro gb142 hg w8 hbox hb; have BK142 := Aside0.mk hbox; have GW142 := Aside0.mk (gle_ (w := w) hg bl0_); replace HB := Aside0.mk (below_step bl0_ hb); have GE142 := GW142; clear hb hbox hg; obtain ⟨hcz9_0, hcz9_1, hfz9_0, hfz9_1⟩ := cf2_ BK142))
   go_loopg [22] k (fun kq v22 w' => ∃ (x22_1 : Int), v22 = .int .i64 x22_1 ∧ Aside0 (dom_Check.l0 kq l0_0 (l0_0.length : Int) x22_1 l0_0 a0_1 = some r) ∧ Aside0 (kq ≤ k) ∧ Aside0 (w'.heap[gb142]? = some (.cells #[(.slice A0_0 l0_0.length c0_0), .bool a0_1] 24 (0, 0))) ∧ Aside0 (Below w.heap.size w w'))
   case atStart => exact ⟨(0), rs_, H', ⟨Nat.le_refl _⟩, ⟨by (with_reducible repeat (first | refine blk_drewN ?_ _ | refine blk_drew ?_ | refine blk_alloc ?_ _)); exact BK142.out⟩, ⟨bl0_⟩⟩
   case round =>
    clear H'
    try clear c2b0; try clear c2b1; try clear c5; try clear c5b0; try clear c5b1; try clear c5b2; try clear hcz4_0; try clear hcz4_1; try clear hcz7_0; try clear hcz7_1; try clear hcz9_0; try clear hcz9_1; try clear hfz4_0; try clear hfz4_1; try clear hfz7_0; try clear hfz7_1; try clear hfz9_0; try clear hfz9_1
    obtain ⟨x22_1, rfl, HA, HK1, BK142, HB⟩ := hrel
    cases gk with
    | zero => exact absurd HA.out (by simp [dom_Check.l0])
    | succ k1 =>
     have H := HA.out
     clear HA
     simp only [dom_Check.l0] at H
     by_cases c10 : x22_1 < (l0_0.length : Int)
     ·rw [if_pos c10] at H
      have c10b0 : decide (x22_1 < (l0_0.length : Int)) = true := decide_eq_true c10
      clear c10
      by_cases c11 : 0 ≤ x22_1
      ·rw [if_pos c11] at H
       have c11b0 : decide (0 ≤ x22_1) = true := decide_eq_true c11
       clear c11
       by_cases c12 : x22_1 < (l0_0.length : Int)
       ·rw [if_pos c12] at H
        have c12b0 : decide (x22_1 < (l0_0.length : Int)) = true := decide_eq_true c12
        clear c12
        by_cases c13 : ((((rd_T43 l0_0 x22_1).f0) == 1) != (x22_1 == 0)) = true
        ·rw [if_pos c13] at H
         have c13b0 : ((((rd_T43 l0_0 x22_1).f0) == 1) != (x22_1 == 0)) = true := c13
         (try (have c13b1 : decide ((((rd_T43 l0_0 x22_1).f0) == 1) = (x22_1 == 0)) = false := by simpa using c13))
         (try (have c13b2 : ((((rd_T43 l0_0 x22_1).f0) == 1) == (x22_1 == 0)) = false := by simpa using c13))
         (try (have c13b3 : ¬ ((((rd_T43 l0_0 x22_1).f0) == 1) = (x22_1 == 0)) := by simpa using c13))
         clear c13
         obtain rfl := Option.some.inj H
         have p143 : 0 ≤ (x22_1 : Int) := of_decide_eq_true as_
         have q143 : x22_1 < (l0_0.length : Int) := of_decide_eq_true as_
         obtain ⟨ad143, A143_2, c143_2, A143_5, c143_5, e143, hx143_0, hx143_1, hx143_2, hx143_3, hx143_4, hx143_5, hl143_2, hi143_2, hl143_5, hi143_5⟩ := at_T43 HR0_0.out x22_1 p143 q143
         cases e143
         replace hx143_0 := pw_cell_below HB.out hx143_0
         replace hx143_1 := pw_cell_below HB.out hx143_1
         replace hx143_2 := pw_cell_below HB.out hx143_2
         replace hx143_3 := pw_cell_below HB.out hx143_3
         replace hx143_4 := pw_cell_below HB.out hx143_4
         replace hx143_5 := pw_cell_below HB.out hx143_5
         have HR143_2 := Aside0.mk hi143_2
         have HC143_2 := Aside0.mk hl143_2
         clear hi143_2 hl143_2
         have HR143_5 := Aside0.mk hi143_5
         have HC143_5 := Aside0.mk hl143_5
         clear hi143_5 hl143_5
         replace p143 := eq_true p143
         replace q143 := eq_true q143
         go_wp2_with (first | ((with_reducible refine gate_dst (N := 4) rfl ?_); refine box_event rf_ (N := 4) rf_ (cs := #[.int .i64 0, .string (⟨#[]⟩ : ByteArray), .slice none 0 0, .string (⟨#[]⟩ : ByteArray), .int .i64 0, .slice none 0 0]) (t := 43) gs_ ?_; intro gb144 hg w14 hbox hb; have n0_ := bb_ BK142 hb; have n1_ := Aside0.mk (below_step bl0_ hb); have n2_ := Aside0.mk hbox; have n3_ := Aside0.mk (gle_ (w := w) hg bl0_); have n4_ := n3_; have n5_ := nl_ hg BK142; have n6_ := ng_ hg BK142; clear BK142; clear HB; have BK142 := n0_; have HB := n1_; have BK144 := n2_; have GW144 := n3_; have GE144 := n4_; have NB142_144 := n5_; have NB144_142 := n6_; clear n0_ n1_ n2_ n3_ n4_ n5_ n6_; clear hb hbox hg; have hnb15 := NB144_142.out; have hnc15 := NB142_144.out; obtain ⟨hcz16_0, hcz16_1, hcz16_2, hcz16_3, hcz16_4, hcz16_5, hfz16_0, hfz16_1, hfz16_2, hfz16_3, hfz16_4, hfz16_5⟩ := cf6_ BK144))
         go_ret
         exact ⟨er_, bl0_⟩
        ·rw [if_neg c13] at H
         have c13b0 : ((((rd_T43 l0_0 x22_1).f0) == 1) != (x22_1 == 0)) = false := by simpa using c13
         (try (have c13b1 : decide ((((rd_T43 l0_0 x22_1).f0) == 1) = (x22_1 == 0)) = true := by simpa using c13))
         (try (have c13b2 : ((((rd_T43 l0_0 x22_1).f0) == 1) == (x22_1 == 0)) = true := by simpa using c13))
         clear c13
         replace H := Option.bind_eq_some_iff.mp H
         obtain ⟨t145, A170, H⟩ := H
         replace H : (if t145 = 0 then (dom_Check.l0 k1 l0_0 (l0_0.length : Int) (wrap64 (x22_1 + 1)) l0_0 a0_1) else (some t145)) = some r := H
         have A17 := Aside0.mk A170
         clear A170
         by_cases c18 : t145 = 0
         ·rw [if_pos c18] at H
          have c18b0 : (t145 == 0) = true := beq_iff_eq.mpr c18
          have c18b1 : (t145 != 0) = false := bne_eq_false_iff_eq.mpr c18
          clear c18
          have H' := Aside0.mk H
          clear H
          have p143 : 0 ≤ (x22_1 : Int) := of_decide_eq_true as_
          have q143 : x22_1 < (l0_0.length : Int) := of_decide_eq_true as_
          obtain ⟨ad143, A143_2, c143_2, A143_5, c143_5, e143, hx143_0, hx143_1, hx143_2, hx143_3, hx143_4, hx143_5, hl143_2, hi143_2, hl143_5, hi143_5⟩ := at_T43 HR0_0.out x22_1 p143 q143
          cases e143
          replace hx143_0 := pw_cell_below HB.out hx143_0
          replace hx143_1 := pw_cell_below HB.out hx143_1
          replace hx143_2 := pw_cell_below HB.out hx143_2
          replace hx143_3 := pw_cell_below HB.out hx143_3
          replace hx143_4 := pw_cell_below HB.out hx143_4
          replace hx143_5 := pw_cell_below HB.out hx143_5
          have HR143_2 := Aside0.mk hi143_2
          have HC143_2 := Aside0.mk hl143_2
          clear hi143_2 hl143_2
          have HR143_5 := Aside0.mk hi143_5
          have HC143_5 := Aside0.mk hl143_5
          clear hi143_5 hl143_5
          replace p143 := eq_true p143
          replace q143 := eq_true q143
          go_wp2_with (first | ((with_reducible refine gate_dst (N := 4) rfl ?_); refine box_event rf_ (N := 4) rf_ (cs := #[.int .i64 0, .string (⟨#[]⟩ : ByteArray), .slice none 0 0, .string (⟨#[]⟩ : ByteArray), .int .i64 0, .slice none 0 0]) (t := 43) gs_ ?_; intro gb144 hg w19 hbox hb; have n0_ := bb_ BK142 hb; have n1_ := Aside0.mk (below_step bl0_ hb); have n2_ := Aside0.mk hbox; have n3_ := Aside0.mk (gle_ (w := w) hg bl0_); have n4_ := n3_; have n5_ := nl_ hg BK142; have n6_ := ng_ hg BK142; clear BK142; clear HB; have BK142 := n0_; have HB := n1_; have BK144 := n2_; have GW144 := n3_; have GE144 := n4_; have NB142_144 := n5_; have NB144_142 := n6_; clear n0_ n1_ n2_ n3_ n4_ n5_ n6_; clear hb hbox hg; have hnb20 := NB144_142.out; have hnc20 := NB142_144.out; obtain ⟨hcz21_0, hcz21_1, hcz21_2, hcz21_3, hcz21_4, hcz21_5, hfz21_0, hfz21_1, hfz21_2, hfz21_3, hfz21_4, hfz21_5⟩ := cf6_ BK144) | ((with_reducible refine gate_callee (f := 38) rfl ?_); refine goesL_ (some 34) rfl rfl Tryz.func38 (by kernel_rfl) rfl #[.agg #[.int .i64 ((rd_T43 l0_0 x22_1).f0), .string ((rd_T43 l0_0 x22_1).f1), .slice A143_2 ((rd_T43 l0_0 x22_1).f2).length c143_2, .string ((rd_T43 l0_0 x22_1).f3), .int .i64 ((rd_T43 l0_0 x22_1).f4), .slice A143_5 ((rd_T43 l0_0 x22_1).f5).length c143_5]] rfl mp_ ?_; (with_reducible refine (dom_one.calls k1 ((rd_T43 l0_0 x22_1).f0) ((rd_T43 l0_0 x22_1).f1) _ _ ((rd_T43 l0_0 x22_1).f2) ((rd_T43 l0_0 x22_1).f3) ((rd_T43 l0_0 x22_1).f4) _ _ ((rd_T43 l0_0 x22_1).f5) t145 _ ?side1 ?side2 ?side3 ?side4 A17.out).mono ?_); (case side1 => exact Kd.C_below HR143_2.out bl0_); (case side2 => exact HC143_2.out); (case side3 => exact Kd.C_below HR143_5.out bl0_); (case side4 => exact HC143_5.out); rintro e w22 ⟨rfl, hb⟩; refine ⟨_, rfl, ?_⟩; replace BK142 := Aside0.mk (blk_below (g := gb142) (o := .cells #[.slice (some ad143) l0_0.length c0_0, .bool a0_1] 24 (0, 0)) (bw_ BK142) hb); replace BK144 := Aside0.mk (blk_below (g := gb144) (o := .cells #[.int .i64 ((rd_T43 l0_0 x22_1).f0), .string ((rd_T43 l0_0 x22_1).f1), .slice A143_2 ((rd_T43 l0_0 x22_1).f2).length c143_2, .string ((rd_T43 l0_0 x22_1).f3), .int .i64 ((rd_T43 l0_0 x22_1).f4), .slice A143_5 ((rd_T43 l0_0 x22_1).f5).length c143_5] 43 (0, 0)) (bw_ BK144) hb); replace HB := Aside0.mk (below_step bl0_ hb); (try clear hb); (try clear hb2); (try clear hk); (try clear hi)))
          go_roundg k1
          case measure => have := HK1.out; omega
          case rel => exact ⟨(wrap64 (x22_1 + 1)), rs_, H', ⟨by have := HK1.out; omega⟩, ⟨by (with_reducible repeat (first | refine blk_drewN ?_ _ | refine blk_drew ?_ | refine blk_alloc ?_ _)); exact BK142.out⟩, ⟨bl0_⟩⟩
         ·rw [if_neg c18] at H
          have c18b0 : (t145 == 0) = false := beq_eq_false_iff_ne.mpr c18
          have c18b1 : (t145 != 0) = true := bne_iff_ne.mpr c18
          obtain rfl := Option.some.inj H
          have p143 : 0 ≤ (x22_1 : Int) := of_decide_eq_true as_
          have q143 : x22_1 < (l0_0.length : Int) := of_decide_eq_true as_
          obtain ⟨ad143, A143_2, c143_2, A143_5, c143_5, e143, hx143_0, hx143_1, hx143_2, hx143_3, hx143_4, hx143_5, hl143_2, hi143_2, hl143_5, hi143_5⟩ := at_T43 HR0_0.out x22_1 p143 q143
          cases e143
          replace hx143_0 := pw_cell_below HB.out hx143_0
          replace hx143_1 := pw_cell_below HB.out hx143_1
          replace hx143_2 := pw_cell_below HB.out hx143_2
          replace hx143_3 := pw_cell_below HB.out hx143_3
          replace hx143_4 := pw_cell_below HB.out hx143_4
          replace hx143_5 := pw_cell_below HB.out hx143_5
          have HR143_2 := Aside0.mk hi143_2
          have HC143_2 := Aside0.mk hl143_2
          clear hi143_2 hl143_2
          have HR143_5 := Aside0.mk hi143_5
          have HC143_5 := Aside0.mk hl143_5
          clear hi143_5 hl143_5
          replace p143 := eq_true p143
          replace q143 := eq_true q143
          go_wp2_with (first | ((with_reducible refine gate_dst (N := 4) rfl ?_); refine box_event rf_ (N := 4) rf_ (cs := #[.int .i64 0, .string (⟨#[]⟩ : ByteArray), .slice none 0 0, .string (⟨#[]⟩ : ByteArray), .int .i64 0, .slice none 0 0]) (t := 43) gs_ ?_; intro gb144 hg w23 hbox hb; have n0_ := bb_ BK142 hb; have n1_ := Aside0.mk (below_step bl0_ hb); have n2_ := Aside0.mk hbox; have n3_ := Aside0.mk (gle_ (w := w) hg bl0_); have n4_ := n3_; have n5_ := nl_ hg BK142; have n6_ := ng_ hg BK142; clear BK142; clear HB; have BK142 := n0_; have HB := n1_; have BK144 := n2_; have GW144 := n3_; have GE144 := n4_; have NB142_144 := n5_; have NB144_142 := n6_; clear n0_ n1_ n2_ n3_ n4_ n5_ n6_; clear hb hbox hg; have hnb24 := NB144_142.out; have hnc24 := NB142_144.out; obtain ⟨hcz25_0, hcz25_1, hcz25_2, hcz25_3, hcz25_4, hcz25_5, hfz25_0, hfz25_1, hfz25_2, hfz25_3, hfz25_4, hfz25_5⟩ := cf6_ BK144) | ((with_reducible refine gate_callee (f := 38) rfl ?_); refine goesL_ (some 34) rfl rfl Tryz.func38 (by kernel_rfl) rfl #[.agg #[.int .i64 ((rd_T43 l0_0 x22_1).f0), .string ((rd_T43 l0_0 x22_1).f1), .slice A143_2 ((rd_T43 l0_0 x22_1).f2).length c143_2, .string ((rd_T43 l0_0 x22_1).f3), .int .i64 ((rd_T43 l0_0 x22_1).f4), .slice A143_5 ((rd_T43 l0_0 x22_1).f5).length c143_5]] rfl mp_ ?_; (with_reducible refine (dom_one.calls k1 ((rd_T43 l0_0 x22_1).f0) ((rd_T43 l0_0 x22_1).f1) _ _ ((rd_T43 l0_0 x22_1).f2) ((rd_T43 l0_0 x22_1).f3) ((rd_T43 l0_0 x22_1).f4) _ _ ((rd_T43 l0_0 x22_1).f5) t145 _ ?side1 ?side2 ?side3 ?side4 A17.out).mono ?_); (case side1 => exact Kd.C_below HR143_2.out bl0_); (case side2 => exact HC143_2.out); (case side3 => exact Kd.C_below HR143_5.out bl0_); (case side4 => exact HC143_5.out); rintro e w26 ⟨rfl, hb⟩; refine ⟨_, rfl, ?_⟩; replace BK142 := Aside0.mk (blk_below (g := gb142) (o := .cells #[.slice (some ad143) l0_0.length c0_0, .bool a0_1] 24 (0, 0)) (bw_ BK142) hb); replace BK144 := Aside0.mk (blk_below (g := gb144) (o := .cells #[.int .i64 ((rd_T43 l0_0 x22_1).f0), .string ((rd_T43 l0_0 x22_1).f1), .slice A143_2 ((rd_T43 l0_0 x22_1).f2).length c143_2, .string ((rd_T43 l0_0 x22_1).f3), .int .i64 ((rd_T43 l0_0 x22_1).f4), .slice A143_5 ((rd_T43 l0_0 x22_1).f5).length c143_5] 43 (0, 0)) (bw_ BK144) hb); replace HB := Aside0.mk (below_step bl0_ hb); (try clear hb); (try clear hb2); (try clear hk); (try clear hi)))
          go_ret
          exact ⟨er_, bl0_⟩
       ·rw [if_neg c12] at H
        exact absurd H (by simp)
      ·rw [if_neg c11] at H
       exact absurd H (by simp)
     ·rw [if_neg c10] at H
      have c10b0 : decide (x22_1 < (l0_0.length : Int)) = false := decide_eq_false c10
      clear c10
      replace H := Option.bind_eq_some_iff.mp H
      obtain ⟨t146, A270, H⟩ := H
      replace H : (if t146 = 0 then (dom_Check.l1 k1 (l0_0.length : Int) 0 l0_0 a0_1) else (some t146)) = some r := H
      have A27 := Aside0.mk A270
      clear A270
      by_cases c28 : t146 = 0
      ·rw [if_pos c28] at H
       have c28b0 : (t146 == 0) = true := beq_iff_eq.mpr c28
       have c28b1 : (t146 != 0) = false := bne_eq_false_iff_eq.mpr c28
       clear c28
       have H' := Aside0.mk H
       clear H
       obtain ⟨hcz29_0, hcz29_1, hfz29_0, hfz29_1⟩ := cf2_ BK142
       go_wp2_with (first | ((with_reducible refine gate_callee (f := 39) rfl ?_); refine goesL_ (some 40) rfl rfl Tryz.func39 (by kernel_rfl) rfl #[.agg #[.slice A0_0 l0_0.length c0_0, .bool a0_1]] rfl mp_ ?_; (with_reducible refine (dom_kids.calls k1 _ _ l0_0 a0_1 t146 _ ?side1 ?side2 A27.out).mono ?_); (case side1 => repeat (first | exact (Kd.C_below HR0_0.out HB.out) | (with_reducible refine Kd.C_alloc ?_ _) | (with_reducible refine Kd.C_drewN ?_ _) | (with_reducible refine Kd.C_drew ?_))); (case side2 => exact HC0_0.out); rintro e w30 ⟨rfl, hb⟩; refine ⟨_, rfl, ?_⟩; have n0_ := bb_ BK142 hb; have n1_ := Aside0.mk (below_step bl0_ hb); clear BK142; clear HB; have BK142 := n0_; have HB := n1_; clear n0_ n1_; (try clear hb); (try clear hb2); (try clear hk); (try clear hi); obtain ⟨hcz31_0, hcz31_1, hfz31_0, hfz31_1⟩ := cf2_ BK142))
       go_loopg [47] k1 (fun kq v47 w' => ∃ (x47_2 : Int), v47 = .int .i64 x47_2 ∧ Aside0 (dom_Check.l1 kq (l0_0.length : Int) x47_2 l0_0 a0_1 = some r) ∧ Aside0 (kq ≤ k1) ∧ Aside0 (w'.heap[gb142]? = some (.cells #[(.slice A0_0 l0_0.length c0_0), .bool a0_1] 24 (0, 0))) ∧ Aside0 (Below w.heap.size w w'))
       case atStart => exact ⟨(0), rs_, H', ⟨Nat.le_refl _⟩, ⟨by (with_reducible repeat (first | refine blk_drewN ?_ _ | refine blk_drew ?_ | refine blk_alloc ?_ _)); exact BK142.out⟩, ⟨bl0_⟩⟩
       case round =>
        clear H'
        try clear c10b0; try clear c11; try clear c11b0; try clear c12; try clear c12b0; try clear c13b0; try clear c13b1; try clear c13b2; try clear c18; try clear c18b0; try clear c18b1; try clear c28b0; try clear c28b1; try clear hcz16_0; try clear hcz16_1; try clear hcz16_2; try clear hcz16_3; try clear hcz16_4; try clear hcz16_5; try clear hcz21_0; try clear hcz21_1; try clear hcz21_2; try clear hcz21_3; try clear hcz21_4; try clear hcz21_5; try clear hcz25_0; try clear hcz25_1; try clear hcz25_2; try clear hcz25_3; try clear hcz25_4; try clear hcz25_5; try clear hcz29_0; try clear hcz29_1; try clear hcz31_0; try clear hcz31_1; try clear hfz16_0; try clear hfz16_1; try clear hfz16_2; try clear hfz16_3; try clear hfz16_4; try clear hfz16_5; try clear hfz21_0; try clear hfz21_1; try clear hfz21_2; try clear hfz21_3; try clear hfz21_4; try clear hfz21_5; try clear hfz25_0; try clear hfz25_1; try clear hfz25_2; try clear hfz25_3; try clear hfz25_4; try clear hfz25_5; try clear hfz29_0; try clear hfz29_1; try clear hfz31_0; try clear hfz31_1; try clear hx143_0; try clear hx143_1; try clear hx143_2; try clear hx143_3; try clear hx143_4; try clear hx143_5; try clear p143; try clear q143
        obtain ⟨x47_2, rfl, HA, HK2, BK142, HB⟩ := hrel
        cases gk with
        | zero => exact absurd HA.out (by simp [dom_Check.l1])
        | succ k2 =>
         have H := HA.out
         clear HA
         simp only [dom_Check.l1] at H
         by_cases c32 : x47_2 < (l0_0.length : Int)
         ·rw [if_pos c32] at H
          have c32b0 : decide (x47_2 < (l0_0.length : Int)) = true := decide_eq_true c32
          clear c32
          replace H := Option.bind_eq_some_iff.mp H
          obtain ⟨t147, A330, H⟩ := H
          replace H : (if t147 > (l0_0.length : Int) then (some 8) else (if t147 > 40 then (some 2) else (dom_Check.l1 k2 (l0_0.length : Int) (wrap64 (x47_2 + 1)) l0_0 a0_1))) = some r := H
          have A33 := Aside0.mk A330
          clear A330
          by_cases c34 : t147 > (l0_0.length : Int)
          ·rw [if_pos c34] at H
           have c34b0 : decide ((l0_0.length : Int) < t147) = true := decide_eq_true c34
           clear c34
           obtain rfl := Option.some.inj H
           obtain ⟨hcz35_0, hcz35_1, hfz35_0, hfz35_1⟩ := cf2_ BK142
           go_wp2_with (first | ((with_reducible refine gate_callee (f := 40) rfl ?_); refine goesL_ (some 52) rfl rfl Tryz.func40 (by kernel_rfl) rfl #[.agg #[.slice A0_0 l0_0.length c0_0, .bool a0_1], .int .i64 x47_2] rfl mp_ ?_; (with_reducible refine (dom_up.calls k2 _ _ l0_0 a0_1 x47_2 t147 _ ?side1 ?side2 A33.out).mono ?_); (case side1 => repeat (first | exact (Kd.C_below HR0_0.out HB.out) | (with_reducible refine Kd.C_alloc ?_ _) | (with_reducible refine Kd.C_drewN ?_ _) | (with_reducible refine Kd.C_drew ?_))); (case side2 => exact HC0_0.out); rintro e w36 ⟨rfl, hb⟩; refine ⟨_, rfl, ?_⟩; have n0_ := bb_ BK142 hb; have n1_ := Aside0.mk (below_step bl0_ hb); clear BK142; clear HB; have BK142 := n0_; have HB := n1_; clear n0_ n1_; (try clear hb); (try clear hb2); (try clear hk); (try clear hi); obtain ⟨hcz37_0, hcz37_1, hfz37_0, hfz37_1⟩ := cf2_ BK142))
           go_ret
           exact ⟨er_, bl0_⟩
          ·rw [if_neg c34] at H
           have c34b0 : decide ((l0_0.length : Int) < t147) = false := decide_eq_false c34
           clear c34
           by_cases c38 : t147 > 40
           ·rw [if_pos c38] at H
            have c38b0 : decide (40 < t147) = true := decide_eq_true c38
            clear c38
            obtain rfl := Option.some.inj H
            obtain ⟨hcz39_0, hcz39_1, hfz39_0, hfz39_1⟩ := cf2_ BK142
            go_wp2_with (first | ((with_reducible refine gate_callee (f := 40) rfl ?_); refine goesL_ (some 52) rfl rfl Tryz.func40 (by kernel_rfl) rfl #[.agg #[.slice A0_0 l0_0.length c0_0, .bool a0_1], .int .i64 x47_2] rfl mp_ ?_; (with_reducible refine (dom_up.calls k2 _ _ l0_0 a0_1 x47_2 t147 _ ?side1 ?side2 A33.out).mono ?_); (case side1 => repeat (first | exact (Kd.C_below HR0_0.out HB.out) | (with_reducible refine Kd.C_alloc ?_ _) | (with_reducible refine Kd.C_drewN ?_ _) | (with_reducible refine Kd.C_drew ?_))); (case side2 => exact HC0_0.out); rintro e w40 ⟨rfl, hb⟩; refine ⟨_, rfl, ?_⟩; have n0_ := bb_ BK142 hb; have n1_ := Aside0.mk (below_step bl0_ hb); clear BK142; clear HB; have BK142 := n0_; have HB := n1_; clear n0_ n1_; (try clear hb); (try clear hb2); (try clear hk); (try clear hi); obtain ⟨hcz41_0, hcz41_1, hfz41_0, hfz41_1⟩ := cf2_ BK142))
            go_ret
            exact ⟨er_, bl0_⟩
           ·rw [if_neg c38] at H
            have c38b0 : decide (40 < t147) = false := decide_eq_false c38
            clear c38
            have H' := Aside0.mk H
            clear H
            obtain ⟨hcz42_0, hcz42_1, hfz42_0, hfz42_1⟩ := cf2_ BK142
            go_wp2_with (first | ((with_reducible refine gate_callee (f := 40) rfl ?_); refine goesL_ (some 52) rfl rfl Tryz.func40 (by kernel_rfl) rfl #[.agg #[.slice A0_0 l0_0.length c0_0, .bool a0_1], .int .i64 x47_2] rfl mp_ ?_; (with_reducible refine (dom_up.calls k2 _ _ l0_0 a0_1 x47_2 t147 _ ?side1 ?side2 A33.out).mono ?_); (case side1 => repeat (first | exact (Kd.C_below HR0_0.out HB.out) | (with_reducible refine Kd.C_alloc ?_ _) | (with_reducible refine Kd.C_drewN ?_ _) | (with_reducible refine Kd.C_drew ?_))); (case side2 => exact HC0_0.out); rintro e w43 ⟨rfl, hb⟩; refine ⟨_, rfl, ?_⟩; have n0_ := bb_ BK142 hb; have n1_ := Aside0.mk (below_step bl0_ hb); clear BK142; clear HB; have BK142 := n0_; have HB := n1_; clear n0_ n1_; (try clear hb); (try clear hb2); (try clear hk); (try clear hi); obtain ⟨hcz44_0, hcz44_1, hfz44_0, hfz44_1⟩ := cf2_ BK142))
            go_roundg k2
            case measure => have := HK1.out; have := HK2.out; omega
            case rel => exact ⟨(wrap64 (x47_2 + 1)), rs_, H', ⟨by have := HK1.out; have := HK2.out; omega⟩, ⟨by (with_reducible repeat (first | refine blk_drewN ?_ _ | refine blk_drew ?_ | refine blk_alloc ?_ _)); exact BK142.out⟩, ⟨bl0_⟩⟩
         ·rw [if_neg c32] at H
          have c32b0 : decide (x47_2 < (l0_0.length : Int)) = false := decide_eq_false c32
          clear c32
          obtain rfl := Option.some.inj H
          go_wp2
          go_ret
          exact ⟨er_, bl0_⟩
      ·rw [if_neg c28] at H
       have c28b0 : (t146 == 0) = false := beq_eq_false_iff_ne.mpr c28
       have c28b1 : (t146 != 0) = true := bne_iff_ne.mpr c28
       obtain rfl := Option.some.inj H
       obtain ⟨hcz45_0, hcz45_1, hfz45_0, hfz45_1⟩ := cf2_ BK142
       go_wp2_with (first | ((with_reducible refine gate_callee (f := 39) rfl ?_); refine goesL_ (some 40) rfl rfl Tryz.func39 (by kernel_rfl) rfl #[.agg #[.slice A0_0 l0_0.length c0_0, .bool a0_1]] rfl mp_ ?_; (with_reducible refine (dom_kids.calls k1 _ _ l0_0 a0_1 t146 _ ?side1 ?side2 A27.out).mono ?_); (case side1 => repeat (first | exact (Kd.C_below HR0_0.out HB.out) | (with_reducible refine Kd.C_alloc ?_ _) | (with_reducible refine Kd.C_drewN ?_ _) | (with_reducible refine Kd.C_drew ?_))); (case side2 => exact HC0_0.out); rintro e w46 ⟨rfl, hb⟩; refine ⟨_, rfl, ?_⟩; have n0_ := bb_ BK142 hb; have n1_ := Aside0.mk (below_step bl0_ hb); clear BK142; clear HB; have BK142 := n0_; have HB := n1_; clear n0_ n1_; (try clear hb); (try clear hb2); (try clear hk); (try clear hi)))
       go_ret
       exact ⟨er_, bl0_⟩

end Go.Proofs.YtmcinclecpeakaaGreatDoor.PRR
