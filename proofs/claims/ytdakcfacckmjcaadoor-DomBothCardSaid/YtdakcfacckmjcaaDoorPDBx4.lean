-- printed by wip/tools/pr.py (own) through the kit's printer; texts GIVEN by hand stand among them
import Derived.Test.YtdakcfacckmjcaaDoorPDBx0
namespace Go.Proofs.YtdakcfacckmjcaaDoor.PDB
open Go.RowKit Go.Proofs.YtdakcfacckmjcaaDoorW.PrintWords Go.Proofs.YtdakcfacckmjcaaDoorW.PrintLast Go.Proofs.YtdakcfacckmjcaaDoorW.PrintMore
attribute [local go_sem] max2_int min2_int max_two min_two max_three min_three max_four min_four   -- for this text's walks alone
set_option linter.unusedVariables false
set_option linter.unusedSimpArgs false

/-! ### dom_kids: function 14 -/
mutual
def dom_kids.l0 : Nat → List Bool → List (S41) → Int → Int → List (S41) → Bool → Option (Int)
  | 0, _, _, _, _, _, _ => none
  | k + 1, x3, x15, x16, x17, x116000, x116001 => if x17 < x16 then (if 0 ≤ x17 then (if x17 < (x15.length : Int) then (dom_kids.l1 k x3 x17 x15 x16 x17 ((rd_T41 x15 x17).f5) (((rd_T41 x15 x17).f5).length : Int) 0 x116000 x116001) else (none)) else (none)) else (dom_kids.l2 k x3 x116000 (x116000.length : Int) 0 x116000 x116001)
def dom_kids.l1 : Nat → List Bool → Int → List (S41) → Int → Int → List Int → Int → Int → List (S41) → Bool → Option (Int)
  | 0, _, _, _, _, _, _, _, _, _, _ => none
  | k + 1, x3, x4, x15, x16, x17, x23, x24, x25, x116000, x116001 => if x25 < x24 then (if 0 ≤ x25 then (if x25 < (x23.length : Int) then (if (rd x23 x25) < 0 then (dom_kids.j2 k x3 x4 (rd x23 x25) x15 x16 x17 x23 x24 x25 true x116000 x116001) else (if (rd x23 x25) ≥ (x3.length : Int) then (dom_kids.j2 k x3 x4 (rd x23 x25) x15 x16 x17 x23 x24 x25 true x116000 x116001) else (if 0 ≤ (rd x23 x25) then (if (rd x23 x25) < (x116000.length : Int) then (if ((rd_T41 x116000 (rd x23 x25)).f4) = x4 then (if (rd x23 x25) < (x3.length : Int) then (dom_kids.j2 k x3 x4 (rd x23 x25) x15 x16 x17 x23 x24 x25 (rdOf false x3 (rd x23 x25)) x116000 x116001) else (none)) else (dom_kids.j2 k x3 x4 (rd x23 x25) x15 x16 x17 x23 x24 x25 true x116000 x116001)) else (none)) else (none)))) else (none)) else (none)) else (dom_kids.l0 k x3 x15 x16 (wrap64 (x17 + 1)) x116000 x116001)
def dom_kids.j2 : Nat → List Bool → Int → Int → List (S41) → Int → Int → List Int → Int → Int → Bool → List (S41) → Bool → Option (Int)
  | 0, _, _, _, _, _, _, _, _, _, _, _, _ => none
  | k + 1, x3, x4, x7, x15, x16, x17, x23, x24, x25, x29, x116000, x116001 => if x29 = true then (some 3) else (if x4 = 0 then (if 0 ≤ x7 then (if x7 < (x116000.length : Int) then (if ((rd_T41 x116000 x7).f0) = 3 then (some 7) else (if x7 < (x3.length : Int) then (dom_kids.l1 k (x3.set (x7 : Int).toNat true) x4 x15 x16 x17 x23 x24 (wrap64 (x25 + 1)) x116000 x116001) else (none))) else (none)) else (none)) else (if 0 ≤ x7 then (if x7 < (x3.length : Int) then (dom_kids.l1 k (x3.set (x7 : Int).toNat true) x4 x15 x16 x17 x23 x24 (wrap64 (x25 + 1)) x116000 x116001) else (none)) else (none)))
def dom_kids.l2 : Nat → List Bool → List (S41) → Int → Int → List (S41) → Bool → Option (Int)
  | 0, _, _, _, _, _, _ => none
  | k + 1, x3, x72, x73, x74, x116000, x116001 => if x74 < x73 then (if 0 ≤ x74 then (if x74 < (x72.length : Int) then (if ((rd_T41 x72 x74).f4) = (-1) then (dom_kids.l2 k x3 x72 x73 (wrap64 (x74 + 1)) x116000 x116001) else (if x74 < (x3.length : Int) then (if rdOf false x3 x74 = true then (dom_kids.l2 k x3 x72 x73 (wrap64 (x74 + 1)) x116000 x116001) else (some 3)) else (none))) else (none)) else (none)) else (if 0 < (x116000.length : Int) then (if ((rd_T41 x116000 0).f4) = (-1) then (some 0) else (some 3)) else (none))
end
def dom_kids.f (k : Nat) (l0_0 : List (S41)) (a0_1 : Bool) : Option (Int) := if 0 ≤ (l0_0.length : Int) then (if ((l0_0.length : Int) : Int).toNat ≤ 281474976710656 then (dom_kids.l0 k (List.replicate ((l0_0.length : Int) : Int).toNat false) l0_0 (l0_0.length : Int) 0 l0_0 a0_1) else (none)) else (none)
theorem dom_kids.mono_l : ∀ k, (∀ y0 y1 y2 y3 y4 y5, LeO (dom_kids.l0 k y0 y1 y2 y3 y4 y5) (dom_kids.l0 (k + 1) y0 y1 y2 y3 y4 y5)) ∧ (∀ y0 y1 y2 y3 y4 y5 y6 y7 y8 y9, LeO (dom_kids.l1 k y0 y1 y2 y3 y4 y5 y6 y7 y8 y9) (dom_kids.l1 (k + 1) y0 y1 y2 y3 y4 y5 y6 y7 y8 y9)) ∧ (∀ y0 y1 y2 y3 y4 y5 y6 y7 y8 y9 y10 y11, LeO (dom_kids.j2 k y0 y1 y2 y3 y4 y5 y6 y7 y8 y9 y10 y11) (dom_kids.j2 (k + 1) y0 y1 y2 y3 y4 y5 y6 y7 y8 y9 y10 y11)) ∧ (∀ y0 y1 y2 y3 y4 y5, LeO (dom_kids.l2 k y0 y1 y2 y3 y4 y5) (dom_kids.l2 (k + 1) y0 y1 y2 y3 y4 y5))
  | 0 => ⟨fun _ _ _ _ _ _ r h => by simp [dom_kids.l0] at h, fun _ _ _ _ _ _ _ _ _ _ r h => by simp [dom_kids.l1] at h, fun _ _ _ _ _ _ _ _ _ _ _ _ r h => by simp [dom_kids.j2] at h, fun _ _ _ _ _ _ r h => by simp [dom_kids.l2] at h⟩
  | k + 1 => by
    obtain ⟨ih0, ih1, ih2, ih3⟩ := dom_kids.mono_l k
    refine ⟨?_, ?_, ?_, ?_⟩
    · intro y0 y1 y2 y3 y4 y5
      unfold dom_kids.l0
      repeat' first
      | (with_reducible exact ih0 _ _ _ _ _ _)
      | (with_reducible exact ih1 _ _ _ _ _ _ _ _ _ _)
      | (with_reducible exact ih2 _ _ _ _ _ _ _ _ _ _ _ _)
      | (with_reducible exact ih3 _ _ _ _ _ _)
      | (with_reducible exact LeO.refl _)
      | (with_reducible exact LeO.none _)
      | (with_reducible refine LeO.ite ?_ ?_)
      | (with_reducible refine LeO.bind ?_ (fun _ => ?_))
      | exact ih0 _ _ _ _ _ _
      | exact ih1 _ _ _ _ _ _ _ _ _ _
      | exact ih2 _ _ _ _ _ _ _ _ _ _ _ _
      | exact ih3 _ _ _ _ _ _
      | exact LeO.none _
      | refine LeO.ite ?_ ?_
      | refine LeO.bind ?_ (fun _ => ?_)
    · intro y0 y1 y2 y3 y4 y5 y6 y7 y8 y9
      unfold dom_kids.l1
      repeat' first
      | (with_reducible exact ih0 _ _ _ _ _ _)
      | (with_reducible exact ih1 _ _ _ _ _ _ _ _ _ _)
      | (with_reducible exact ih2 _ _ _ _ _ _ _ _ _ _ _ _)
      | (with_reducible exact ih3 _ _ _ _ _ _)
      | (with_reducible exact LeO.refl _)
      | (with_reducible exact LeO.none _)
      | (with_reducible refine LeO.ite ?_ ?_)
      | (with_reducible refine LeO.bind ?_ (fun _ => ?_))
      | exact ih0 _ _ _ _ _ _
      | exact ih1 _ _ _ _ _ _ _ _ _ _
      | exact ih2 _ _ _ _ _ _ _ _ _ _ _ _
      | exact ih3 _ _ _ _ _ _
      | exact LeO.none _
      | refine LeO.ite ?_ ?_
      | refine LeO.bind ?_ (fun _ => ?_)
    · intro y0 y1 y2 y3 y4 y5 y6 y7 y8 y9 y10 y11
      unfold dom_kids.j2
      repeat' first
      | (with_reducible exact ih0 _ _ _ _ _ _)
      | (with_reducible exact ih1 _ _ _ _ _ _ _ _ _ _)
      | (with_reducible exact ih2 _ _ _ _ _ _ _ _ _ _ _ _)
      | (with_reducible exact ih3 _ _ _ _ _ _)
      | (with_reducible exact LeO.refl _)
      | (with_reducible exact LeO.none _)
      | (with_reducible refine LeO.ite ?_ ?_)
      | (with_reducible refine LeO.bind ?_ (fun _ => ?_))
      | exact ih0 _ _ _ _ _ _
      | exact ih1 _ _ _ _ _ _ _ _ _ _
      | exact ih2 _ _ _ _ _ _ _ _ _ _ _ _
      | exact ih3 _ _ _ _ _ _
      | exact LeO.none _
      | refine LeO.ite ?_ ?_
      | refine LeO.bind ?_ (fun _ => ?_)
    · intro y0 y1 y2 y3 y4 y5
      unfold dom_kids.l2
      repeat' first
      | (with_reducible exact ih0 _ _ _ _ _ _)
      | (with_reducible exact ih1 _ _ _ _ _ _ _ _ _ _)
      | (with_reducible exact ih2 _ _ _ _ _ _ _ _ _ _ _ _)
      | (with_reducible exact ih3 _ _ _ _ _ _)
      | (with_reducible exact LeO.refl _)
      | (with_reducible exact LeO.none _)
      | (with_reducible refine LeO.ite ?_ ?_)
      | (with_reducible refine LeO.bind ?_ (fun _ => ?_))
      | exact ih0 _ _ _ _ _ _
      | exact ih1 _ _ _ _ _ _ _ _ _ _
      | exact ih2 _ _ _ _ _ _ _ _ _ _ _ _
      | exact ih3 _ _ _ _ _ _
      | exact LeO.none _
      | refine LeO.ite ?_ ?_
      | refine LeO.bind ?_ (fun _ => ?_)
theorem dom_kids.mono : ∀ a0 a1 k, LeO (dom_kids.f k a0 a1) (dom_kids.f (k + 1) a0 a1) := by
  intro a0 a1 k
  obtain ⟨ih0, ih1, ih2, ih3⟩ := dom_kids.mono_l k
  unfold dom_kids.f
  repeat' first
      | (with_reducible exact ih0 _ _ _ _ _ _)
      | (with_reducible exact ih1 _ _ _ _ _ _ _ _ _ _)
      | (with_reducible exact ih2 _ _ _ _ _ _ _ _ _ _ _ _)
      | (with_reducible exact ih3 _ _ _ _ _ _)
      | (with_reducible exact LeO.refl _)
      | (with_reducible exact LeO.none _)
      | (with_reducible refine LeO.ite ?_ ?_)
      | (with_reducible refine LeO.bind ?_ (fun _ => ?_))
      | exact ih0 _ _ _ _ _ _
      | exact ih1 _ _ _ _ _ _ _ _ _ _
      | exact ih2 _ _ _ _ _ _ _ _ _ _ _ _
      | exact ih3 _ _ _ _ _ _
      | exact LeO.none _
      | refine LeO.ite ?_ ?_
      | refine LeO.bind ?_ (fun _ => ?_)
set_option maxHeartbeats 8000000 in
set_option maxRecDepth 100000 in
theorem dom_kids.calls (k : Nat) (A0_0 : Option Addr) (c0_0 : Nat) (l0_0 : List (S41)) (a0_1 : Bool) (r : Int) (w : World) (hr0_0 : Kd.C k41 w A0_0 l0_0.length l0_0) (hc0_0 : l0_0.length ≤ c0_0) (h : dom_kids.f k l0_0 a0_1 = some r) :
    Calls Tryd.prog 14 #[.agg #[.slice A0_0 l0_0.length c0_0, .bool a0_1]] w fun e w' => e = .returned (.int .i64 r) ∧ Below w.heap.size w w' := by
  have hu24 := Tryd.underlying24
  have hu41 := Tryd.underlying41
  have HR0_0 := Aside0.mk hr0_0
  have HC0_0 := Aside0.mk hc0_0
  clear hr0_0 hc0_0
  have HB := Aside0.mk (Below.refl w.heap.size w)
  have H : (if 0 ≤ (l0_0.length : Int) then (if ((l0_0.length : Int) : Int).toNat ≤ 281474976710656 then (dom_kids.l0 k (List.replicate ((l0_0.length : Int) : Int).toNat false) l0_0 (l0_0.length : Int) 0 l0_0 a0_1) else (none)) else (none)) = some r := h
  clear h
  by_cases c2 : 0 ≤ (l0_0.length : Int)
  · rw [if_pos c2] at H
    have c2b0 := eq_true c2
    have c2b1 : decide (0 ≤ (l0_0.length : Int)) = true := decide_eq_true c2
    clear c2
    by_cases c3 : ((l0_0.length : Int) : Int).toNat ≤ 281474976710656
    · rw [if_pos c3] at H
      have c3b0 := eq_true c3
      have c3b1 : decide (((l0_0.length : Int) : Int).toNat ≤ 281474976710656) = true := decide_eq_true c3
      clear c3
      obtain ⟨y116, hy116⟩ : ∃ y_ : List Bool, y_ = (List.replicate ((l0_0.length : Int) : Int).toNat false) := ⟨_, rfl⟩
      replace H : (dom_kids.l0 k y116 l0_0 (l0_0.length : Int) 0 l0_0 a0_1) = some r := by first | (rw [hy116]; with_reducible exact H) | (have H2_ := (Option.bind_some _ _).symm.trans H; rw [hy116]; with_reducible exact H2_) | (have H2_ := (Option.bind_some _ _).symm.trans H; with_reducible exact H2_) | with_reducible exact H | (rw [hy116]; exact H) | exact H
      have Ny116 := Aside0.mk hy116
      clear hy116
      have H' := Aside0.mk H
      clear H
      go_enter Tryd.func14, Tryd.ntmps14
      go_wp2_with (first | ((with_reducible refine gate_dst (N := 1) rfl ?_); (try (refine gate_guard (by rfl) ?_; dsimp only)); refine box_event ?hg (N := 1) ?hd (cs := #[.slice A0_0 l0_0.length c0_0, .bool a0_1]) (t := 24) ?hr ?_; (case hd => rfl); (case hg => rfl); (case hr => first | (go_simp; done) | (go_simp; rfl)); intro gb115 hg w4 hbox hb; have n0_ := Aside0.mk (below_step (by repeat (first | (with_reducible first | exact HB.out | apply below_alloc | apply pw_below_drewN | apply below_drew1) | exact HB.out)) hb); have n1_ := Aside0.mk (hbox); have n2_ := Aside0.mk ((by rw [hg]; exact (below_size (by repeat (first | (with_reducible first | exact HB.out | apply below_alloc | apply pw_below_drewN | apply below_drew1) | exact HB.out))) : w.heap.size ≤ gb115)); have n3_ := Aside0.mk ((by rw [hg]; exact (below_size (by repeat (first | (with_reducible first | exact HB.out | apply below_alloc | apply pw_below_drewN | apply below_drew1) | exact HB.out))) : w.heap.size ≤ gb115)); clear HB; have HB := n0_; have BK115 := n1_; have GW115 := n2_; have GE115 := n3_; clear n0_ n1_ n2_ n3_; clear hb hbox hg; have hcz5_0 : w4.cell? ⟨gb115, 0, none⟩ = some (.slice A0_0 l0_0.length c0_0) := (blk_cell BK115.out 0).trans rfl; have hcz5_1 : w4.cell? ⟨gb115, 1, none⟩ = some (.bool a0_1) := (blk_cell BK115.out 1).trans rfl; have hfz5_0 := blk_frozen BK115.out 0; have hfz5_1 := blk_frozen BK115.out 1) | ((with_reducible refine gate_dst (N := 13) rfl ?_); (try (refine gate_guard (by rfl) ?_; dsimp only)); refine Kd.R_make Kd.bool _ 4 rfl (N := 13) rfl 59 _ _ rfl (l0_0.length : Int) rfl rfl Tryd.underlying59 (.bool false) 1 info4 rfl (by decide) (by omega) false (ok := fun _ => True) (okp := fun _ => True) rfl (fun _ hk => hk) trivial (of_decide_eq_true (by first | (with_reducible assumption) | assumption)) (Nat.le_trans (Nat.mul_le_mul_right _ (of_decide_eq_true (by first | (with_reducible assumption) | assumption) : (l0_0.length : Int).toNat ≤ 281474976710656)) (by omega)) (Below.refl _ _) (Nat.le_refl _) ?_; intro v117 w6 ho7 hb hg_ hnew_; clear hg_ hnew_; (first | rw [← Ny116.out] at ho7 | (simp only [Int.reduceToNat] at ho7; rw [← Ny116.out] at ho7)); have n0_ := Aside0.mk (Kd.R_lower ho7 (below_size (by repeat (first | (with_reducible first | exact HB.out | apply below_alloc | apply pw_below_drewN | apply below_drew1 | refine below_set ?_ GE115.out) | exact HB.out)))); have n1_ := Aside0.mk (blk_below (g := gb115) (o := .cells #[.slice A0_0 l0_0.length c0_0, .bool a0_1] 24 (0, 0)) (by (with_reducible repeat (first | refine blk_drewN ?_ _ | refine blk_drew ?_ | refine blk_alloc ?_ _)); exact BK115.out) hb); have n2_ := Aside0.mk (below_step (by repeat (first | (with_reducible first | exact HB.out | apply below_alloc | apply pw_below_drewN | apply below_drew1 | refine below_set ?_ GE115.out) | exact HB.out)) hb); clear BK115; clear HB; have HO118 := n0_; have BK115 := n1_; have HB := n2_; clear n0_ n1_ n2_; clear hb ho7; have hcz8_0 : w6.cell? ⟨gb115, 0, none⟩ = some (.slice A0_0 l0_0.length c0_0) := (blk_cell BK115.out 0).trans rfl; have hcz8_1 : w6.cell? ⟨gb115, 1, none⟩ = some (.bool a0_1) := (blk_cell BK115.out 1).trans rfl; have hfz8_0 := blk_frozen BK115.out 0; have hfz8_1 := blk_frozen BK115.out 1))
      go_loopg [17] k (fun kq v17 w' => ∃ (x3_1 : List Bool) (x17_1 : Int), v17 = .int .i64 x17_1 ∧ Aside0 (dom_kids.l0 kq x3_1 l0_0 (l0_0.length : Int) x17_1 l0_0 a0_1 = some r) ∧ Aside0 (kq ≤ k) ∧ Aside0 (Kd.R Kd.bool 4 w' w.heap.size (fun _ => True) v117 x3_1) ∧ Aside0 (w'.heap[gb115]? = some (.cells #[(.slice A0_0 l0_0.length c0_0), .bool a0_1] 24 (0, 0))) ∧ Aside0 (Below w.heap.size w w'))
      case atStart => exact ⟨(y116), (0), (by first | rfl | (simp; done) | (simp [*]; done)), H', ⟨Nat.le_refl _⟩, ⟨by (with_reducible repeat (first | apply Kd.R_alloc | apply Kd.R_drewN | apply Kd.R_drew)); exact HO118.out⟩, ⟨by (with_reducible repeat (first | refine blk_drewN ?_ _ | refine blk_drew ?_ | refine blk_alloc ?_ _)); exact BK115.out⟩, ⟨by repeat (first | (with_reducible first | exact HB.out | apply below_alloc | apply pw_below_drewN | apply below_drew1 | refine below_set ?_ GE115.out) | exact HB.out)⟩⟩
      case round =>
        clear H'
        try clear c1
        try clear c2
        try clear c2b0
        try clear c2b1
        try clear p2
        try clear c3
        try clear c3b0
        try clear c3b1
        try clear hcz5_0
        try clear hcz5_1
        try clear hcz8_0
        try clear hcz8_1
        try clear hfz5_0
        try clear hfz5_1
        try clear hfz8_0
        try clear hfz8_1
        obtain ⟨x3_1, x17_1, rfl, HA, HK1, HO_3, BK115, HB⟩ := hrel
        cases gk with
        | zero => exact absurd HA.out (by simp [dom_kids.l0])
        | succ k1 =>
          have H := HA.out
          clear HA
          simp only [dom_kids.l0] at H
          by_cases c9 : x17_1 < (l0_0.length : Int)
          · rw [if_pos c9] at H
            have c9b0 : decide (x17_1 < (l0_0.length : Int)) = true := decide_eq_true c9
            clear c9
            by_cases c10 : 0 ≤ x17_1
            · rw [if_pos c10] at H
              have c10b0 : decide (0 ≤ x17_1) = true := decide_eq_true c10
              clear c10
              by_cases c11 : x17_1 < (l0_0.length : Int)
              · rw [if_pos c11] at H
                have c11b0 : decide (x17_1 < (l0_0.length : Int)) = true := decide_eq_true c11
                clear c11
                have H' := Aside0.mk H
                clear H
                have p119 : 0 ≤ (x17_1 : Int) := of_decide_eq_true (by first | (with_reducible assumption) | assumption)
                have q119 : x17_1 < (l0_0.length : Int) := of_decide_eq_true (by first | (with_reducible assumption) | assumption)
                obtain ⟨ad119, A119_2, c119_2, A119_5, c119_5, e119, hx119_0, hx119_1, hx119_2, hx119_3, hx119_4, hx119_5, hl119_2, hi119_2, hl119_5, hi119_5⟩ := at_T41 HR0_0.out x17_1 p119 q119
                cases e119
                replace hx119_0 := (HB.out.cell (World.block_lt_of_cell? w _ hx119_0)).trans hx119_0
                replace hx119_1 := (HB.out.cell (World.block_lt_of_cell? w _ hx119_1)).trans hx119_1
                replace hx119_2 := (HB.out.cell (World.block_lt_of_cell? w _ hx119_2)).trans hx119_2
                replace hx119_3 := (HB.out.cell (World.block_lt_of_cell? w _ hx119_3)).trans hx119_3
                replace hx119_4 := (HB.out.cell (World.block_lt_of_cell? w _ hx119_4)).trans hx119_4
                replace hx119_5 := (HB.out.cell (World.block_lt_of_cell? w _ hx119_5)).trans hx119_5
                have HR119_2 := Aside0.mk hi119_2
                have HC119_2 := Aside0.mk hl119_2
                clear hi119_2 hl119_2
                have HR119_5 := Aside0.mk hi119_5
                have HC119_5 := Aside0.mk hl119_5
                clear hi119_5 hl119_5
                replace p119 := eq_true p119
                replace q119 := eq_true q119
                go_wp2_with (first | ((with_reducible refine gate_dst (N := 5) rfl ?_); (try (refine gate_guard (by rfl) ?_; dsimp only)); refine box_event ?hg (N := 5) ?hd (cs := #[.int .i64 0, .string (⟨#[]⟩ : ByteArray), .slice none 0 0, .string (⟨#[]⟩ : ByteArray), .int .i64 0, .slice none 0 0]) (t := 41) ?hr ?_; (case hd => rfl); (case hg => rfl); (case hr => first | (go_simp; done) | (go_simp; rfl)); intro gb120 hg w12 hbox hb; have n0_ := Aside0.mk (Kd.R_below (by (with_reducible repeat (first | apply Kd.R_alloc | apply Kd.R_drewN | apply Kd.R_drew)); exact HO_3.out) hb); have n1_ := Aside0.mk (blk_below (g := gb115) (o := .cells #[.slice (some ad119) l0_0.length c0_0, .bool a0_1] 24 (0, 0)) (by (with_reducible repeat (first | refine blk_drewN ?_ _ | refine blk_drew ?_ | refine blk_alloc ?_ _)); exact BK115.out) hb); have n2_ := Aside0.mk (below_step (by repeat (first | (with_reducible first | exact HB.out | apply below_alloc | apply pw_below_drewN | apply below_drew1 | refine below_set ?_ GE115.out) | exact HB.out)) hb); have n3_ := Aside0.mk (hbox); have n4_ := Aside0.mk ((by rw [hg]; exact (below_size (by repeat (first | (with_reducible first | exact HB.out | apply below_alloc | apply pw_below_drewN | apply below_drew1 | refine below_set ?_ GE115.out) | exact HB.out))) : w.heap.size ≤ gb120)); have n5_ := Aside0.mk ((by rw [hg]; exact (below_size (by repeat (first | (with_reducible first | exact HB.out | apply below_alloc | apply pw_below_drewN | apply below_drew1 | refine below_set ?_ GE115.out) | exact HB.out))) : w.heap.size ≤ gb120)); have n6_ := Aside0.mk ((by rw [hg]; exact Nat.ne_of_lt (blk_lt (g := gb115) (o := .cells #[.slice (some ad119) l0_0.length c0_0, .bool a0_1] 24 (0, 0)) (by (with_reducible repeat (first | refine blk_drewN ?_ _ | refine blk_drew ?_ | refine blk_alloc ?_ _)); exact BK115.out)) : gb115 ≠ gb120)); have n7_ := Aside0.mk ((by rw [hg]; exact Nat.ne_of_gt (blk_lt (g := gb115) (o := .cells #[.slice (some ad119) l0_0.length c0_0, .bool a0_1] 24 (0, 0)) (by (with_reducible repeat (first | refine blk_drewN ?_ _ | refine blk_drew ?_ | refine blk_alloc ?_ _)); exact BK115.out)) : gb120 ≠ gb115)); clear HO_3; clear BK115; clear HB; have HO_3 := n0_; have BK115 := n1_; have HB := n2_; have BK120 := n3_; have GW120 := n4_; have GE120 := n5_; have NB115_120 := n6_; have NB120_115 := n7_; clear n0_ n1_ n2_ n3_ n4_ n5_ n6_ n7_; clear hb hbox hg; have hnb13 := NB120_115.out; have hnc13 := NB115_120.out; have hcz14_0 : w12.cell? ⟨gb120, 0, none⟩ = some (.int .i64 0) := (blk_cell BK120.out 0).trans rfl; have hcz14_1 : w12.cell? ⟨gb120, 1, none⟩ = some (.string (⟨#[]⟩ : ByteArray)) := (blk_cell BK120.out 1).trans rfl; have hcz14_2 : w12.cell? ⟨gb120, 2, none⟩ = some (.slice none 0 0) := (blk_cell BK120.out 2).trans rfl; have hcz14_3 : w12.cell? ⟨gb120, 3, none⟩ = some (.string (⟨#[]⟩ : ByteArray)) := (blk_cell BK120.out 3).trans rfl; have hcz14_4 : w12.cell? ⟨gb120, 4, none⟩ = some (.int .i64 0) := (blk_cell BK120.out 4).trans rfl; have hcz14_5 : w12.cell? ⟨gb120, 5, none⟩ = some (.slice none 0 0) := (blk_cell BK120.out 5).trans rfl; have hfz14_0 := blk_frozen BK120.out 0; have hfz14_1 := blk_frozen BK120.out 1; have hfz14_2 := blk_frozen BK120.out 2; have hfz14_3 := blk_frozen BK120.out 3; have hfz14_4 := blk_frozen BK120.out 4; have hfz14_5 := blk_frozen BK120.out 5))
                go_loopg [25] k1 (fun kq v25 w' => ∃ (x3_2 : List Bool) (x25_2 : Int), v25 = .int .i64 x25_2 ∧ Aside0 (dom_kids.l1 kq x3_2 x17_1 l0_0 (l0_0.length : Int) x17_1 ((rd_T41 l0_0 x17_1).f5) (((rd_T41 l0_0 x17_1).f5).length : Int) x25_2 l0_0 a0_1 = some r) ∧ Aside0 (kq ≤ k1) ∧ Aside0 (Kd.R Kd.bool 4 w' w.heap.size (fun _ => True) v117 x3_2) ∧ Aside0 (w'.heap[gb115]? = some (.cells #[(.slice (some ad119) l0_0.length c0_0), .bool a0_1] 24 (0, 0))) ∧ Aside0 (w'.heap[gb120]? = some (.cells #[.int .i64 ((rd_T41 l0_0 x17_1).f0), .string ((rd_T41 l0_0 x17_1).f1), (.slice A119_2 ((rd_T41 l0_0 x17_1).f2).length c119_2), .string ((rd_T41 l0_0 x17_1).f3), .int .i64 ((rd_T41 l0_0 x17_1).f4), (.slice A119_5 ((rd_T41 l0_0 x17_1).f5).length c119_5)] 41 (0, 0))) ∧ Aside0 (Below w.heap.size w w'))
                case atStart => exact ⟨(x3_1), (0), (by first | rfl | (simp; done) | (simp [*]; done)), H', ⟨Nat.le_refl _⟩, ⟨by (with_reducible repeat (first | apply Kd.R_alloc | apply Kd.R_drewN | apply Kd.R_drew)); exact Kd.R_mono (Kd.R_far (p := ⟨gb120, 5, none⟩) (Kd.R_far (p := ⟨gb120, 4, none⟩) (Kd.R_far (p := ⟨gb120, 3, none⟩) (Kd.R_far (p := ⟨gb120, 2, none⟩) (Kd.R_far (p := ⟨gb120, 1, none⟩) (Kd.R_far (p := ⟨gb120, 0, none⟩) (Kd.R_types HO_3.out BK120.out (by decide)) (fun _ hk => hk.2) (.int .i64 ((rd_T41 l0_0 x17_1).f0))) (fun _ hk => hk.2) (.string ((rd_T41 l0_0 x17_1).f1))) (fun _ hk => hk.2) (.slice A119_2 ((rd_T41 l0_0 x17_1).f2).length c119_2)) (fun _ hk => hk.2) (.string ((rd_T41 l0_0 x17_1).f3))) (fun _ hk => hk.2) (.int .i64 ((rd_T41 l0_0 x17_1).f4))) (fun _ hk => hk.2) (.slice A119_5 ((rd_T41 l0_0 x17_1).f5).length c119_5)) (fun _ hk => trivial)⟩, ⟨by (with_reducible repeat (first | refine blk_drewN ?_ _ | refine blk_drew ?_ | refine blk_alloc ?_ _)); refine blk_far ?_ NB115_120.out _; (with_reducible repeat (first | refine blk_drewN ?_ _ | refine blk_drew ?_ | refine blk_alloc ?_ _)); refine blk_far ?_ NB115_120.out _; (with_reducible repeat (first | refine blk_drewN ?_ _ | refine blk_drew ?_ | refine blk_alloc ?_ _)); refine blk_far ?_ NB115_120.out _; (with_reducible repeat (first | refine blk_drewN ?_ _ | refine blk_drew ?_ | refine blk_alloc ?_ _)); refine blk_far ?_ NB115_120.out _; (with_reducible repeat (first | refine blk_drewN ?_ _ | refine blk_drew ?_ | refine blk_alloc ?_ _)); refine blk_far ?_ NB115_120.out _; (with_reducible repeat (first | refine blk_drewN ?_ _ | refine blk_drew ?_ | refine blk_alloc ?_ _)); refine blk_far ?_ NB115_120.out _; (with_reducible repeat (first | refine blk_drewN ?_ _ | refine blk_drew ?_ | refine blk_alloc ?_ _)); exact BK115.out⟩, ⟨by (with_reducible repeat (first | refine blk_drewN ?_ _ | refine blk_drew ?_ | refine blk_alloc ?_ _)); refine blk_put (cs := #[.int .i64 ((rd_T41 l0_0 x17_1).f0), .string ((rd_T41 l0_0 x17_1).f1), .slice A119_2 ((rd_T41 l0_0 x17_1).f2).length c119_2, .string ((rd_T41 l0_0 x17_1).f3), .int .i64 ((rd_T41 l0_0 x17_1).f4), .slice none 0 0]) ?_ 5 _ rfl; (with_reducible repeat (first | refine blk_drewN ?_ _ | refine blk_drew ?_ | refine blk_alloc ?_ _)); refine blk_put (cs := #[.int .i64 ((rd_T41 l0_0 x17_1).f0), .string ((rd_T41 l0_0 x17_1).f1), .slice A119_2 ((rd_T41 l0_0 x17_1).f2).length c119_2, .string ((rd_T41 l0_0 x17_1).f3), .int .i64 0, .slice none 0 0]) ?_ 4 _ rfl; (with_reducible repeat (first | refine blk_drewN ?_ _ | refine blk_drew ?_ | refine blk_alloc ?_ _)); refine blk_put (cs := #[.int .i64 ((rd_T41 l0_0 x17_1).f0), .string ((rd_T41 l0_0 x17_1).f1), .slice A119_2 ((rd_T41 l0_0 x17_1).f2).length c119_2, .string (⟨#[]⟩ : ByteArray), .int .i64 0, .slice none 0 0]) ?_ 3 _ rfl; (with_reducible repeat (first | refine blk_drewN ?_ _ | refine blk_drew ?_ | refine blk_alloc ?_ _)); refine blk_put (cs := #[.int .i64 ((rd_T41 l0_0 x17_1).f0), .string ((rd_T41 l0_0 x17_1).f1), .slice none 0 0, .string (⟨#[]⟩ : ByteArray), .int .i64 0, .slice none 0 0]) ?_ 2 _ rfl; (with_reducible repeat (first | refine blk_drewN ?_ _ | refine blk_drew ?_ | refine blk_alloc ?_ _)); refine blk_put (cs := #[.int .i64 ((rd_T41 l0_0 x17_1).f0), .string (⟨#[]⟩ : ByteArray), .slice none 0 0, .string (⟨#[]⟩ : ByteArray), .int .i64 0, .slice none 0 0]) ?_ 1 _ rfl; (with_reducible repeat (first | refine blk_drewN ?_ _ | refine blk_drew ?_ | refine blk_alloc ?_ _)); refine blk_put (cs := #[.int .i64 0, .string (⟨#[]⟩ : ByteArray), .slice none 0 0, .string (⟨#[]⟩ : ByteArray), .int .i64 0, .slice none 0 0]) ?_ 0 _ rfl; (with_reducible repeat (first | refine blk_drewN ?_ _ | refine blk_drew ?_ | refine blk_alloc ?_ _)); exact BK120.out⟩, ⟨by repeat (first | (with_reducible first | exact HB.out | apply below_alloc | apply pw_below_drewN | apply below_drew1 | refine below_set ?_ GE115.out | refine below_set ?_ GE120.out) | exact HB.out)⟩⟩
                case round =>
                  clear H'
                  try clear c1
                  try clear p1
                  try clear q1
                  try clear hx1
                  try clear c2
                  try clear c2b0
                  try clear c2b1
                  try clear p2
                  try clear c3
                  try clear c3b0
                  try clear c3b1
                  try clear c9
                  try clear c9b0
                  try clear c10
                  try clear c10b0
                  try clear c11
                  try clear c11b0
                  try clear p11
                  try clear q11
                  try clear hx11
                  try clear c13
                  try clear c14
                  try clear hcz14_0
                  try clear hcz14_1
                  try clear hcz14_2
                  try clear hcz14_3
                  try clear hcz14_4
                  try clear hcz14_5
                  try clear hcz5_0
                  try clear hcz5_1
                  try clear hcz8_0
                  try clear hcz8_1
                  try clear hfz14_0
                  try clear hfz14_1
                  try clear hfz14_2
                  try clear hfz14_3
                  try clear hfz14_4
                  try clear hfz14_5
                  try clear hfz5_0
                  try clear hfz5_1
                  try clear hfz8_0
                  try clear hfz8_1
                  try clear hx119_0
                  try clear hx119_1
                  try clear hx119_2
                  try clear hx119_3
                  try clear hx119_4
                  try clear hx119_5
                  try clear p119
                  try clear p2
                  try clear q119
                  obtain ⟨x3_2, x25_2, rfl, HA, HK2, HO_3, BK115, BK120, HB⟩ := hrel
                  cases gk with
                  | zero => exact absurd HA.out (by simp [dom_kids.l1])
                  | succ k2 =>
                    have H := HA.out
                    clear HA
                    simp only [dom_kids.l1] at H
                    by_cases c15 : x25_2 < (((rd_T41 l0_0 x17_1).f5).length : Int)
                    · rw [if_pos c15] at H
                      have c15b0 : decide (x25_2 < (((rd_T41 l0_0 x17_1).f5).length : Int)) = true := decide_eq_true c15
                      clear c15
                      by_cases c16 : 0 ≤ x25_2
                      · rw [if_pos c16] at H
                        have c16b0 : decide (0 ≤ x25_2) = true := decide_eq_true c16
                        clear c16
                        by_cases c17 : x25_2 < (((rd_T41 l0_0 x17_1).f5).length : Int)
                        · rw [if_pos c17] at H
                          have c17b0 : decide (x25_2 < (((rd_T41 l0_0 x17_1).f5).length : Int)) = true := decide_eq_true c17
                          clear c17
                          have HC18 := Aside0.mk H
                          clear H
                          have p121 : 0 ≤ (x25_2 : Int) := of_decide_eq_true (by first | (with_reducible assumption) | assumption)
                          have q121 : x25_2 < (((rd_T41 l0_0 x17_1).f5).length : Int) := of_decide_eq_true (by first | (with_reducible assumption) | assumption)
                          obtain ⟨ad121, e121, hx121_0⟩ := Kd.at_int HR119_5.out x25_2 p121 q121
                          cases e121
                          replace hx121_0 := (HB.out.cell (World.block_lt_of_cell? w _ hx121_0)).trans hx121_0
                          replace p121 := eq_true p121
                          replace q121 := eq_true q121
                          go_upto_region 8 with (fail)
                          go_cut [29] (fun v29 wc => ∃ (kq : Nat) (x29_17 : Bool), v29 = .bool x29_17 ∧ Aside0 (dom_kids.j2 kq x3_2 x17_1 (rd ((rd_T41 l0_0 x17_1).f5) x25_2) l0_0 (l0_0.length : Int) x17_1 ((rd_T41 l0_0 x17_1).f5) (((rd_T41 l0_0 x17_1).f5).length : Int) x25_2 x29_17 l0_0 a0_1 = some r) ∧ Aside0 (kq ≤ k2) ∧ Aside0 (Kd.R Kd.bool 4 wc w.heap.size (fun _ => True) v117 x3_2) ∧ Aside0 (wc.heap[gb115]? = some (.cells #[(.slice (some ad119) l0_0.length c0_0), .bool a0_1] 24 (0, 0))) ∧ Aside0 (wc.heap[gb120]? = some (.cells #[.int .i64 ((rd_T41 l0_0 x17_1).f0), .string ((rd_T41 l0_0 x17_1).f1), (.slice A119_2 ((rd_T41 l0_0 x17_1).f2).length c119_2), .string ((rd_T41 l0_0 x17_1).f3), .int .i64 ((rd_T41 l0_0 x17_1).f4), (.slice (some ad121) ((rd_T41 l0_0 x17_1).f5).length c119_5)] 41 (0, 0))) ∧ Aside0 (Below w.heap.size w wc))
                          case first =>
                            have H := HC18.out
                            clear HC18
                            by_cases c19 : (rd ((rd_T41 l0_0 x17_1).f5) x25_2) < 0
                            · rw [if_pos c19] at H
                              have c19b0 : decide ((rd ((rd_T41 l0_0 x17_1).f5) x25_2) < 0) = true := decide_eq_true c19
                              clear c19
                              (first | rw [c19b0] | (simp only [i64_w, i32_w]; rw [c19b0]) | skip)
                              have H' := Aside0.mk H
                              clear H
                              go_wp2
                              go_meet
                              case rel => exact ⟨_, (true), (by first | rfl | (simp; done) | (simp [*]; done)), H', ⟨by have := HK1.out; have := HK2.out; first | omega | exact Nat.le_refl _⟩, ⟨by (with_reducible repeat (first | apply Kd.R_alloc | apply Kd.R_drewN | apply Kd.R_drew)); exact HO_3.out⟩, ⟨by (with_reducible repeat (first | refine blk_drewN ?_ _ | refine blk_drew ?_ | refine blk_alloc ?_ _)); exact BK115.out⟩, ⟨by (with_reducible repeat (first | refine blk_drewN ?_ _ | refine blk_drew ?_ | refine blk_alloc ?_ _)); exact BK120.out⟩, ⟨by repeat (first | (with_reducible first | exact HB.out | apply below_alloc | apply pw_below_drewN | apply below_drew1 | refine below_set ?_ GE115.out | refine below_set ?_ GE120.out) | exact HB.out)⟩⟩
                            · rw [if_neg c19] at H
                              have c19b0 : decide ((rd ((rd_T41 l0_0 x17_1).f5) x25_2) < 0) = false := decide_eq_false c19
                              clear c19
                              (first | rw [c19b0] | (simp only [i64_w, i32_w]; rw [c19b0]) | skip)
                              by_cases c20 : (rd ((rd_T41 l0_0 x17_1).f5) x25_2) ≥ (x3_2.length : Int)
                              · rw [if_pos c20] at H
                                have c20b0 : decide ((x3_2.length : Int) ≤ (rd ((rd_T41 l0_0 x17_1).f5) x25_2)) = true := decide_eq_true c20
                                clear c20
                                have H' := Aside0.mk H
                                clear H
                                obtain ⟨Ao21, co21, eo21⟩ := Kd.R_slice HO_3.out
                                subst eo21
                                go_wp2
                                go_meet
                                case rel => exact ⟨_, (true), (by first | rfl | (simp; done) | (simp [*]; done)), H', ⟨by have := HK1.out; have := HK2.out; first | omega | exact Nat.le_refl _⟩, ⟨by (with_reducible repeat (first | apply Kd.R_alloc | apply Kd.R_drewN | apply Kd.R_drew)); exact HO_3.out⟩, ⟨by (with_reducible repeat (first | refine blk_drewN ?_ _ | refine blk_drew ?_ | refine blk_alloc ?_ _)); exact BK115.out⟩, ⟨by (with_reducible repeat (first | refine blk_drewN ?_ _ | refine blk_drew ?_ | refine blk_alloc ?_ _)); exact BK120.out⟩, ⟨by repeat (first | (with_reducible first | exact HB.out | apply below_alloc | apply pw_below_drewN | apply below_drew1 | refine below_set ?_ GE115.out | refine below_set ?_ GE120.out) | exact HB.out)⟩⟩
                              · rw [if_neg c20] at H
                                have c20b0 : decide ((x3_2.length : Int) ≤ (rd ((rd_T41 l0_0 x17_1).f5) x25_2)) = false := decide_eq_false c20
                                clear c20
                                by_cases c22 : 0 ≤ (rd ((rd_T41 l0_0 x17_1).f5) x25_2)
                                · rw [if_pos c22] at H
                                  have c22b0 : decide (0 ≤ (rd ((rd_T41 l0_0 x17_1).f5) x25_2)) = true := decide_eq_true c22
                                  clear c22
                                  by_cases c23 : (rd ((rd_T41 l0_0 x17_1).f5) x25_2) < (l0_0.length : Int)
                                  · rw [if_pos c23] at H
                                    have c23b0 : decide ((rd ((rd_T41 l0_0 x17_1).f5) x25_2) < (l0_0.length : Int)) = true := decide_eq_true c23
                                    clear c23
                                    by_cases c24 : ((rd_T41 l0_0 (rd ((rd_T41 l0_0 x17_1).f5) x25_2)).f4) = x17_1
                                    · rw [if_pos c24] at H
                                      have c24b0 : (((rd_T41 l0_0 (rd ((rd_T41 l0_0 x17_1).f5) x25_2)).f4) == x17_1) = true := beq_iff_eq.mpr c24
                                      have c24b1 : (((rd_T41 l0_0 (rd ((rd_T41 l0_0 x17_1).f5) x25_2)).f4) != x17_1) = false := bne_eq_false_iff_eq.mpr c24
                                      clear c24
                                      by_cases c25 : (rd ((rd_T41 l0_0 x17_1).f5) x25_2) < (x3_2.length : Int)
                                      · rw [if_pos c25] at H
                                        have c25b0 : decide ((rd ((rd_T41 l0_0 x17_1).f5) x25_2) < (x3_2.length : Int)) = true := decide_eq_true c25
                                        clear c25
                                        have H' := Aside0.mk H
                                        clear H
                                        obtain ⟨Ao26, co26, eo26⟩ := Kd.R_slice HO_3.out
                                        subst eo26
                                        have hnb27 := NB115_120.out
                                        have hnc27 := NB120_115.out
                                        have hcz28_0 : wr.cell? ⟨gb115, 0, none⟩ = some (.slice (some ad119) l0_0.length c0_0) := (blk_cell BK115.out 0).trans rfl
                                        have hcz28_1 : wr.cell? ⟨gb115, 1, none⟩ = some (.bool a0_1) := (blk_cell BK115.out 1).trans rfl
                                        have hfz28_0 := blk_frozen BK115.out 0
                                        have hfz28_1 := blk_frozen BK115.out 1
                                        have p122 : 0 ≤ ((rd ((rd_T41 l0_0 x17_1).f5) x25_2) : Int) := of_decide_eq_true (by first | (with_reducible assumption) | assumption)
                                        have q122 : (rd ((rd_T41 l0_0 x17_1).f5) x25_2) < (l0_0.length : Int) := of_decide_eq_true (by first | (with_reducible assumption) | assumption)
                                        obtain ⟨ad122, A122_2, c122_2, A122_5, c122_5, e122, hx122_0, hx122_1, hx122_2, hx122_3, hx122_4, hx122_5, hl122_2, hi122_2, hl122_5, hi122_5⟩ := at_T41 HR0_0.out (rd ((rd_T41 l0_0 x17_1).f5) x25_2) p122 q122
                                        obtain rfl : ad119 = ad122 := (by injection e122)
                                        replace hx122_0 := (HB.out.cell (World.block_lt_of_cell? w _ hx122_0)).trans hx122_0
                                        replace hx122_1 := (HB.out.cell (World.block_lt_of_cell? w _ hx122_1)).trans hx122_1
                                        replace hx122_2 := (HB.out.cell (World.block_lt_of_cell? w _ hx122_2)).trans hx122_2
                                        replace hx122_3 := (HB.out.cell (World.block_lt_of_cell? w _ hx122_3)).trans hx122_3
                                        replace hx122_4 := (HB.out.cell (World.block_lt_of_cell? w _ hx122_4)).trans hx122_4
                                        replace hx122_5 := (HB.out.cell (World.block_lt_of_cell? w _ hx122_5)).trans hx122_5
                                        have HR122_2 := Aside0.mk hi122_2
                                        have HC122_2 := Aside0.mk hl122_2
                                        clear hi122_2 hl122_2
                                        have HR122_5 := Aside0.mk hi122_5
                                        have HC122_5 := Aside0.mk hl122_5
                                        clear hi122_5 hl122_5
                                        replace p122 := eq_true p122
                                        replace q122 := eq_true q122
                                        have p123 : 0 ≤ ((rd ((rd_T41 l0_0 x17_1).f5) x25_2) : Int) := of_decide_eq_true (by first | (with_reducible assumption) | assumption)
                                        have q123 : (rd ((rd_T41 l0_0 x17_1).f5) x25_2) < (x3_2.length : Int) := of_decide_eq_true (by first | (with_reducible assumption) | assumption)
                                        obtain ⟨ad123, e123, hx123_0⟩ := Kd.at_bool (Kd.R_reads' HO_3.out).2.2 (rd ((rd_T41 l0_0 x17_1).f5) x25_2) p123 q123
                                        cases e123
                                        replace p123 := eq_true p123
                                        replace q123 := eq_true q123
                                        go_wp2
                                        go_meet
                                        case rel => exact ⟨_, (rdOf false x3_2 (rd ((rd_T41 l0_0 x17_1).f5) x25_2)), (by first | rfl | (simp; done) | (simp [*]; done)), H', ⟨by have := HK1.out; have := HK2.out; first | omega | exact Nat.le_refl _⟩, ⟨by (with_reducible repeat (first | apply Kd.R_alloc | apply Kd.R_drewN | apply Kd.R_drew)); exact HO_3.out⟩, ⟨by (with_reducible repeat (first | refine blk_drewN ?_ _ | refine blk_drew ?_ | refine blk_alloc ?_ _)); exact BK115.out⟩, ⟨by (with_reducible repeat (first | refine blk_drewN ?_ _ | refine blk_drew ?_ | refine blk_alloc ?_ _)); exact BK120.out⟩, ⟨by repeat (first | (with_reducible first | exact HB.out | apply below_alloc | apply pw_below_drewN | apply below_drew1 | refine below_set ?_ GE115.out | refine below_set ?_ GE120.out) | exact HB.out)⟩⟩
                                      · rw [if_neg c25] at H
                                        exact absurd H (by simp)
                                    · rw [if_neg c24] at H
                                      have c24b0 : (((rd_T41 l0_0 (rd ((rd_T41 l0_0 x17_1).f5) x25_2)).f4) == x17_1) = false := beq_eq_false_iff_ne.mpr c24
                                      have c24b1 : (((rd_T41 l0_0 (rd ((rd_T41 l0_0 x17_1).f5) x25_2)).f4) != x17_1) = true := bne_iff_ne.mpr c24
                                      have H' := Aside0.mk H
                                      clear H
                                      obtain ⟨Ao29, co29, eo29⟩ := Kd.R_slice HO_3.out
                                      subst eo29
                                      have hnb30 := NB115_120.out
                                      have hnc30 := NB120_115.out
                                      have hcz31_0 : wr.cell? ⟨gb115, 0, none⟩ = some (.slice (some ad119) l0_0.length c0_0) := (blk_cell BK115.out 0).trans rfl
                                      have hcz31_1 : wr.cell? ⟨gb115, 1, none⟩ = some (.bool a0_1) := (blk_cell BK115.out 1).trans rfl
                                      have hfz31_0 := blk_frozen BK115.out 0
                                      have hfz31_1 := blk_frozen BK115.out 1
                                      have p122 : 0 ≤ ((rd ((rd_T41 l0_0 x17_1).f5) x25_2) : Int) := of_decide_eq_true (by first | (with_reducible assumption) | assumption)
                                      have q122 : (rd ((rd_T41 l0_0 x17_1).f5) x25_2) < (l0_0.length : Int) := of_decide_eq_true (by first | (with_reducible assumption) | assumption)
                                      obtain ⟨ad122, A122_2, c122_2, A122_5, c122_5, e122, hx122_0, hx122_1, hx122_2, hx122_3, hx122_4, hx122_5, hl122_2, hi122_2, hl122_5, hi122_5⟩ := at_T41 HR0_0.out (rd ((rd_T41 l0_0 x17_1).f5) x25_2) p122 q122
                                      obtain rfl : ad119 = ad122 := (by injection e122)
                                      replace hx122_0 := (HB.out.cell (World.block_lt_of_cell? w _ hx122_0)).trans hx122_0
                                      replace hx122_1 := (HB.out.cell (World.block_lt_of_cell? w _ hx122_1)).trans hx122_1
                                      replace hx122_2 := (HB.out.cell (World.block_lt_of_cell? w _ hx122_2)).trans hx122_2
                                      replace hx122_3 := (HB.out.cell (World.block_lt_of_cell? w _ hx122_3)).trans hx122_3
                                      replace hx122_4 := (HB.out.cell (World.block_lt_of_cell? w _ hx122_4)).trans hx122_4
                                      replace hx122_5 := (HB.out.cell (World.block_lt_of_cell? w _ hx122_5)).trans hx122_5
                                      have HR122_2 := Aside0.mk hi122_2
                                      have HC122_2 := Aside0.mk hl122_2
                                      clear hi122_2 hl122_2
                                      have HR122_5 := Aside0.mk hi122_5
                                      have HC122_5 := Aside0.mk hl122_5
                                      clear hi122_5 hl122_5
                                      replace p122 := eq_true p122
                                      replace q122 := eq_true q122
                                      go_wp2
                                      go_meet
                                      case rel => exact ⟨_, (true), (by first | rfl | (simp; done) | (simp [*]; done)), H', ⟨by have := HK1.out; have := HK2.out; first | omega | exact Nat.le_refl _⟩, ⟨by (with_reducible repeat (first | apply Kd.R_alloc | apply Kd.R_drewN | apply Kd.R_drew)); exact HO_3.out⟩, ⟨by (with_reducible repeat (first | refine blk_drewN ?_ _ | refine blk_drew ?_ | refine blk_alloc ?_ _)); exact BK115.out⟩, ⟨by (with_reducible repeat (first | refine blk_drewN ?_ _ | refine blk_drew ?_ | refine blk_alloc ?_ _)); exact BK120.out⟩, ⟨by repeat (first | (with_reducible first | exact HB.out | apply below_alloc | apply pw_below_drewN | apply below_drew1 | refine below_set ?_ GE115.out | refine below_set ?_ GE120.out) | exact HB.out)⟩⟩
                                  · rw [if_neg c23] at H
                                    exact absurd H (by simp)
                                · rw [if_neg c22] at H
                                  exact absurd H (by simp)
                          case rest =>
                            clear HC18
                            try clear c1
                            try clear p1
                            try clear q1
                            try clear hx1
                            try clear c2
                            try clear c2b0
                            try clear c2b1
                            try clear p2
                            try clear c3
                            try clear c3b0
                            try clear c3b1
                            try clear c9
                            try clear c9b0
                            try clear c10
                            try clear c10b0
                            try clear c11
                            try clear c11b0
                            try clear p11
                            try clear q11
                            try clear hx11
                            try clear c12
                            try clear p12
                            try clear q12
                            try clear hx12
                            try clear c13
                            try clear c14
                            try clear c15
                            try clear c15b0
                            try clear c16
                            try clear c16b0
                            try clear c17
                            try clear c17b0
                            try clear c19
                            try clear c19b0
                            try clear c20
                            try clear c20b0
                            try clear c22
                            try clear c22b0
                            try clear c23
                            try clear c23b0
                            try clear c24
                            try clear c24b0
                            try clear c24b1
                            try clear c25
                            try clear c25b0
                            try clear c27
                            try clear c30
                            try clear hcz14_0
                            try clear hcz14_1
                            try clear hcz14_2
                            try clear hcz14_3
                            try clear hcz14_4
                            try clear hcz14_5
                            try clear hcz28_0
                            try clear hcz28_1
                            try clear hcz31_0
                            try clear hcz31_1
                            try clear hcz5_0
                            try clear hcz5_1
                            try clear hcz8_0
                            try clear hcz8_1
                            try clear hfz14_0
                            try clear hfz14_1
                            try clear hfz14_2
                            try clear hfz14_3
                            try clear hfz14_4
                            try clear hfz14_5
                            try clear hfz28_0
                            try clear hfz28_1
                            try clear hfz31_0
                            try clear hfz31_1
                            try clear hfz5_0
                            try clear hfz5_1
                            try clear hfz8_0
                            try clear hfz8_1
                            try clear hx119_0
                            try clear hx119_1
                            try clear hx119_2
                            try clear hx119_3
                            try clear hx119_4
                            try clear hx119_5
                            try clear hx121_0
                            try clear hx122_0
                            try clear hx122_1
                            try clear hx122_2
                            try clear hx122_3
                            try clear hx122_4
                            try clear hx122_5
                            try clear hx123_0
                            try clear p1
                            try clear p11
                            try clear p119
                            try clear p121
                            try clear p122
                            try clear p123
                            try clear p2
                            try clear q1
                            try clear q11
                            try clear q119
                            try clear q121
                            try clear q122
                            try clear q123
                            obtain ⟨kq, x29_17, rfl, HA, HJ17, HO_3, BK115, BK120, HB⟩ := hcut
                            cases kq with
                            | zero => exact absurd HA.out (by simp [dom_kids.j2])
                            | succ kj17 =>
                              have H := HA.out
                              clear HA
                              simp only [dom_kids.j2] at H
                              by_cases c32 : x29_17 = true
                              · subst c32
                                have H1 : (some 3) = some r := by rw [if_pos rfl] at H; exact H
                                clear H
                                have H := H1
                                clear H1
                                obtain rfl := Option.some.inj H
                                go_wp2
                                go_ret
                                exact ⟨by first | rfl | (simp [errW_none, errW_some] <;> rfl) | (simp [*, errW_none, errW_some] <;> rfl), by repeat (first | (with_reducible first | exact HB.out | apply below_alloc | apply pw_below_drewN | apply below_drew1 | refine below_set ?_ GE115.out | refine below_set ?_ GE120.out) | exact HB.out)⟩
                              · replace c32 := Bool.eq_false_iff.mpr c32
                                subst c32
                                have H1 : (if x17_1 = 0 then (if 0 ≤ (rd ((rd_T41 l0_0 x17_1).f5) x25_2) then (if (rd ((rd_T41 l0_0 x17_1).f5) x25_2) < (l0_0.length : Int) then (if ((rd_T41 l0_0 (rd ((rd_T41 l0_0 x17_1).f5) x25_2)).f0) = 3 then (some 7) else (if (rd ((rd_T41 l0_0 x17_1).f5) x25_2) < (x3_2.length : Int) then (dom_kids.l1 kj17 (x3_2.set ((rd ((rd_T41 l0_0 x17_1).f5) x25_2) : Int).toNat true) x17_1 l0_0 (l0_0.length : Int) x17_1 ((rd_T41 l0_0 x17_1).f5) (((rd_T41 l0_0 x17_1).f5).length : Int) (wrap64 (x25_2 + 1)) l0_0 a0_1) else (none))) else (none)) else (none)) else (if 0 ≤ (rd ((rd_T41 l0_0 x17_1).f5) x25_2) then (if (rd ((rd_T41 l0_0 x17_1).f5) x25_2) < (x3_2.length : Int) then (dom_kids.l1 kj17 (x3_2.set ((rd ((rd_T41 l0_0 x17_1).f5) x25_2) : Int).toNat true) x17_1 l0_0 (l0_0.length : Int) x17_1 ((rd_T41 l0_0 x17_1).f5) (((rd_T41 l0_0 x17_1).f5).length : Int) (wrap64 (x25_2 + 1)) l0_0 a0_1) else (none)) else (none))) = some r := by rw [if_neg (show ¬ (false = true) by decide)] at H; exact H
                                clear H
                                have H := H1
                                clear H1
                                by_cases c33 : x17_1 = 0
                                · rw [if_pos c33] at H
                                  have c33b0 : (x17_1 == 0) = true := beq_iff_eq.mpr c33
                                  have c33b1 : (x17_1 != 0) = false := bne_eq_false_iff_eq.mpr c33
                                  clear c33
                                  by_cases c34 : 0 ≤ (rd ((rd_T41 l0_0 x17_1).f5) x25_2)
                                  · rw [if_pos c34] at H
                                    have c34b0 : decide (0 ≤ (rd ((rd_T41 l0_0 x17_1).f5) x25_2)) = true := decide_eq_true c34
                                    clear c34
                                    by_cases c35 : (rd ((rd_T41 l0_0 x17_1).f5) x25_2) < (l0_0.length : Int)
                                    · rw [if_pos c35] at H
                                      have c35b0 : decide ((rd ((rd_T41 l0_0 x17_1).f5) x25_2) < (l0_0.length : Int)) = true := decide_eq_true c35
                                      clear c35
                                      by_cases c36 : ((rd_T41 l0_0 (rd ((rd_T41 l0_0 x17_1).f5) x25_2)).f0) = 3
                                      · rw [if_pos c36] at H
                                        have c36b0 : (((rd_T41 l0_0 (rd ((rd_T41 l0_0 x17_1).f5) x25_2)).f0) == 3) = true := beq_iff_eq.mpr c36
                                        have c36b1 : (((rd_T41 l0_0 (rd ((rd_T41 l0_0 x17_1).f5) x25_2)).f0) != 3) = false := bne_eq_false_iff_eq.mpr c36
                                        clear c36
                                        obtain rfl := Option.some.inj H
                                        have hnb37 := NB115_120.out
                                        have hnc37 := NB120_115.out
                                        have hcz38_0 : wc.cell? ⟨gb115, 0, none⟩ = some (.slice (some ad119) l0_0.length c0_0) := (blk_cell BK115.out 0).trans rfl
                                        have hcz38_1 : wc.cell? ⟨gb115, 1, none⟩ = some (.bool a0_1) := (blk_cell BK115.out 1).trans rfl
                                        have hfz38_0 := blk_frozen BK115.out 0
                                        have hfz38_1 := blk_frozen BK115.out 1
                                        have p124 : 0 ≤ ((rd ((rd_T41 l0_0 x17_1).f5) x25_2) : Int) := of_decide_eq_true (by first | (with_reducible assumption) | assumption)
                                        have q124 : (rd ((rd_T41 l0_0 x17_1).f5) x25_2) < (l0_0.length : Int) := of_decide_eq_true (by first | (with_reducible assumption) | assumption)
                                        obtain ⟨ad124, A124_2, c124_2, A124_5, c124_5, e124, hx124_0, hx124_1, hx124_2, hx124_3, hx124_4, hx124_5, hl124_2, hi124_2, hl124_5, hi124_5⟩ := at_T41 HR0_0.out (rd ((rd_T41 l0_0 x17_1).f5) x25_2) p124 q124
                                        obtain rfl : ad119 = ad124 := (by injection e124)
                                        replace hx124_0 := (HB.out.cell (World.block_lt_of_cell? w _ hx124_0)).trans hx124_0
                                        replace hx124_1 := (HB.out.cell (World.block_lt_of_cell? w _ hx124_1)).trans hx124_1
                                        replace hx124_2 := (HB.out.cell (World.block_lt_of_cell? w _ hx124_2)).trans hx124_2
                                        replace hx124_3 := (HB.out.cell (World.block_lt_of_cell? w _ hx124_3)).trans hx124_3
                                        replace hx124_4 := (HB.out.cell (World.block_lt_of_cell? w _ hx124_4)).trans hx124_4
                                        replace hx124_5 := (HB.out.cell (World.block_lt_of_cell? w _ hx124_5)).trans hx124_5
                                        have HR124_2 := Aside0.mk hi124_2
                                        have HC124_2 := Aside0.mk hl124_2
                                        clear hi124_2 hl124_2
                                        have HR124_5 := Aside0.mk hi124_5
                                        have HC124_5 := Aside0.mk hl124_5
                                        clear hi124_5 hl124_5
                                        replace p124 := eq_true p124
                                        replace q124 := eq_true q124
                                        go_wp2
                                        go_ret
                                        exact ⟨by first | rfl | (simp [errW_none, errW_some] <;> rfl) | (simp [*, errW_none, errW_some] <;> rfl), by repeat (first | (with_reducible first | exact HB.out | apply below_alloc | apply pw_below_drewN | apply below_drew1 | refine below_set ?_ GE115.out | refine below_set ?_ GE120.out) | exact HB.out)⟩
                                      · rw [if_neg c36] at H
                                        have c36b0 : (((rd_T41 l0_0 (rd ((rd_T41 l0_0 x17_1).f5) x25_2)).f0) == 3) = false := beq_eq_false_iff_ne.mpr c36
                                        have c36b1 : (((rd_T41 l0_0 (rd ((rd_T41 l0_0 x17_1).f5) x25_2)).f0) != 3) = true := bne_iff_ne.mpr c36
                                        by_cases c39 : (rd ((rd_T41 l0_0 x17_1).f5) x25_2) < (x3_2.length : Int)
                                        · rw [if_pos c39] at H
                                          have c39b0 : decide ((rd ((rd_T41 l0_0 x17_1).f5) x25_2) < (x3_2.length : Int)) = true := decide_eq_true c39
                                          clear c39
                                          obtain ⟨y125, hy125⟩ : ∃ y_ : List Bool, y_ = (x3_2.set ((rd ((rd_T41 l0_0 x17_1).f5) x25_2) : Int).toNat true) := ⟨_, rfl⟩
                                          replace H : (dom_kids.l1 kj17 y125 x17_1 l0_0 (l0_0.length : Int) x17_1 ((rd_T41 l0_0 x17_1).f5) (((rd_T41 l0_0 x17_1).f5).length : Int) (wrap64 (x25_2 + 1)) l0_0 a0_1) = some r := by first | (rw [hy125]; with_reducible exact H) | (have H2_ := (Option.bind_some _ _).symm.trans H; rw [hy125]; with_reducible exact H2_) | (have H2_ := (Option.bind_some _ _).symm.trans H; with_reducible exact H2_) | with_reducible exact H | (rw [hy125]; exact H) | exact H
                                          have Ny125 := Aside0.mk hy125
                                          clear hy125
                                          have H' := Aside0.mk H
                                          clear H
                                          have hnb41 := NB115_120.out
                                          have hnc41 := NB120_115.out
                                          have hcz42_0 : wc.cell? ⟨gb115, 0, none⟩ = some (.slice (some ad119) l0_0.length c0_0) := (blk_cell BK115.out 0).trans rfl
                                          have hcz42_1 : wc.cell? ⟨gb115, 1, none⟩ = some (.bool a0_1) := (blk_cell BK115.out 1).trans rfl
                                          have hfz42_0 := blk_frozen BK115.out 0
                                          have hfz42_1 := blk_frozen BK115.out 1
                                          have p124 : 0 ≤ ((rd ((rd_T41 l0_0 x17_1).f5) x25_2) : Int) := of_decide_eq_true (by first | (with_reducible assumption) | assumption)
                                          have q124 : (rd ((rd_T41 l0_0 x17_1).f5) x25_2) < (l0_0.length : Int) := of_decide_eq_true (by first | (with_reducible assumption) | assumption)
                                          obtain ⟨ad124, A124_2, c124_2, A124_5, c124_5, e124, hx124_0, hx124_1, hx124_2, hx124_3, hx124_4, hx124_5, hl124_2, hi124_2, hl124_5, hi124_5⟩ := at_T41 HR0_0.out (rd ((rd_T41 l0_0 x17_1).f5) x25_2) p124 q124
                                          obtain rfl : ad119 = ad124 := (by injection e124)
                                          replace hx124_0 := (HB.out.cell (World.block_lt_of_cell? w _ hx124_0)).trans hx124_0
                                          replace hx124_1 := (HB.out.cell (World.block_lt_of_cell? w _ hx124_1)).trans hx124_1
                                          replace hx124_2 := (HB.out.cell (World.block_lt_of_cell? w _ hx124_2)).trans hx124_2
                                          replace hx124_3 := (HB.out.cell (World.block_lt_of_cell? w _ hx124_3)).trans hx124_3
                                          replace hx124_4 := (HB.out.cell (World.block_lt_of_cell? w _ hx124_4)).trans hx124_4
                                          replace hx124_5 := (HB.out.cell (World.block_lt_of_cell? w _ hx124_5)).trans hx124_5
                                          have HR124_2 := Aside0.mk hi124_2
                                          have HC124_2 := Aside0.mk hl124_2
                                          clear hi124_2 hl124_2
                                          have HR124_5 := Aside0.mk hi124_5
                                          have HC124_5 := Aside0.mk hl124_5
                                          clear hi124_5 hl124_5
                                          replace p124 := eq_true p124
                                          replace q124 := eq_true q124
                                          have p40 : 0 ≤ ((rd ((rd_T41 l0_0 x17_1).f5) x25_2) : Int) := of_decide_eq_true (by first | (with_reducible assumption) | assumption)
                                          have q40 : ((rd ((rd_T41 l0_0 x17_1).f5) x25_2) : Int) < ((x3_2.length : Int) : Int) := of_decide_eq_true (by first | (with_reducible assumption) | assumption)
                                          obtain ⟨go40, co40, eo40, gb40, gl40, cl40, HG40⟩ := Kd.R_form HO_3.out (by omega)
                                          (first | cases eo40 | (injection eo40 with ea_ en_ ec_; (first | subst ea_ | (injection ea_ with ea_; subst ea_)); subst ec_; clear en_))
                                          have GB40 := Aside0.mk gb40
                                          have GG40 := Aside0.mk HG40
                                          clear gb40 gl40 HG40
                                          obtain ⟨hx40_0, hf40_0⟩ := Kd.R_celln false HO_3.out ((rd ((rd_T41 l0_0 x17_1).f5) x25_2) : Int) p40 q40
                                          replace p40 := eq_true p40
                                          replace q40 := eq_true q40
                                          have HP43 := Kd.R_putg HO_3.out ((rd ((rd_T41 l0_0 x17_1).f5) x25_2) : Int) true
                                          go_wp2_with (first | ((with_reducible refine gate_store (t := 4) (p := 68) rfl ?_); refine store_event (t := 4) (p := 68) (v := ?vo_w44) (w1 := (wc.setCell ⟨go40, ((rd ((rd_T41 l0_0 x17_1).f5) x25_2) : Int).toNat, none⟩ (.bool true))) ?hg ?ho ?hn ?hr ?_; (case ho => rfl); (case hg => rfl); (case hn => rfl); (case hr => first | (go_simp; done) | (go_simp; rfl)); intro w44 hw; have hg : wc.grownBy w44 (some go40) := (by rw [hw]; exact HP43.2); have hp_ : Kd.R Kd.bool 4 w44 w.heap.size (fun _ => True) (.slice (some ⟨go40, 0, none⟩) x3_2.length co40) y125 := (by rw [hw, Ny125.out]; exact HP43.1); clear HP43; have n0_ := Aside0.mk (hp_); have n1_ := Aside0.mk (blk_grown (g := gb115) (o := .cells #[.slice (some ad119) l0_0.length c0_0, .bool a0_1] 24 (0, 0)) (by (with_reducible repeat (first | refine blk_drewN ?_ _ | refine blk_drew ?_ | refine blk_alloc ?_ _)); exact BK115.out) hg (Kd.R_ne HO_3.out BK115.out (by decide))); have n2_ := Aside0.mk (blk_grown (g := gb120) (o := .cells #[.int .i64 ((rd_T41 l0_0 x17_1).f0), .string ((rd_T41 l0_0 x17_1).f1), .slice A119_2 ((rd_T41 l0_0 x17_1).f2).length c119_2, .string ((rd_T41 l0_0 x17_1).f3), .int .i64 ((rd_T41 l0_0 x17_1).f4), .slice (some ad121) ((rd_T41 l0_0 x17_1).f5).length c119_5] 41 (0, 0)) (by (with_reducible repeat (first | refine blk_drewN ?_ _ | refine blk_drew ?_ | refine blk_alloc ?_ _)); exact BK120.out) hg (Kd.R_ne HO_3.out BK120.out (by decide))); have n3_ := Aside0.mk ((by rw [hw]; exact below_set (HB.out) GB40.out : Below w.heap.size w w44)); clear HO_3; clear BK115; clear BK120; clear HB; have HO_3 := n0_; have BK115 := n1_; have BK120 := n2_; have HB := n3_; clear n0_ n1_ n2_ n3_; clear hg hw hp_))
                                          go_roundg kj17
                                          case measure => have := HK1.out; have := HK2.out; have := HJ17.out; omega
                                          case rel => exact ⟨(y125), (wrap64 (x25_2 + 1)), (by first | rfl | (simp; done) | (simp [*]; done)), H', ⟨by have := HK1.out; have := HK2.out; have := HJ17.out; omega⟩, ⟨by (with_reducible repeat (first | apply Kd.R_alloc | apply Kd.R_drewN | apply Kd.R_drew)); exact HO_3.out⟩, ⟨by (with_reducible repeat (first | refine blk_drewN ?_ _ | refine blk_drew ?_ | refine blk_alloc ?_ _)); exact BK115.out⟩, ⟨by (with_reducible repeat (first | refine blk_drewN ?_ _ | refine blk_drew ?_ | refine blk_alloc ?_ _)); exact BK120.out⟩, ⟨by repeat (first | (with_reducible first | exact HB.out | apply below_alloc | apply pw_below_drewN | apply below_drew1 | refine below_set ?_ GE115.out | refine below_set ?_ GE120.out) | exact HB.out)⟩⟩
                                        · rw [if_neg c39] at H
                                          exact absurd H (by simp)
                                    · rw [if_neg c35] at H
                                      exact absurd H (by simp)
                                  · rw [if_neg c34] at H
                                    exact absurd H (by simp)
                                · rw [if_neg c33] at H
                                  have c33b0 : (x17_1 == 0) = false := beq_eq_false_iff_ne.mpr c33
                                  have c33b1 : (x17_1 != 0) = true := bne_iff_ne.mpr c33
                                  by_cases c45 : 0 ≤ (rd ((rd_T41 l0_0 x17_1).f5) x25_2)
                                  · rw [if_pos c45] at H
                                    have c45b0 : decide (0 ≤ (rd ((rd_T41 l0_0 x17_1).f5) x25_2)) = true := decide_eq_true c45
                                    clear c45
                                    by_cases c46 : (rd ((rd_T41 l0_0 x17_1).f5) x25_2) < (x3_2.length : Int)
                                    · rw [if_pos c46] at H
                                      have c46b0 : decide ((rd ((rd_T41 l0_0 x17_1).f5) x25_2) < (x3_2.length : Int)) = true := decide_eq_true c46
                                      clear c46
                                      obtain ⟨y126, hy126⟩ : ∃ y_ : List Bool, y_ = (x3_2.set ((rd ((rd_T41 l0_0 x17_1).f5) x25_2) : Int).toNat true) := ⟨_, rfl⟩
                                      replace H : (dom_kids.l1 kj17 y126 x17_1 l0_0 (l0_0.length : Int) x17_1 ((rd_T41 l0_0 x17_1).f5) (((rd_T41 l0_0 x17_1).f5).length : Int) (wrap64 (x25_2 + 1)) l0_0 a0_1) = some r := by first | (rw [hy126]; with_reducible exact H) | (have H2_ := (Option.bind_some _ _).symm.trans H; rw [hy126]; with_reducible exact H2_) | (have H2_ := (Option.bind_some _ _).symm.trans H; with_reducible exact H2_) | with_reducible exact H | (rw [hy126]; exact H) | exact H
                                      have Ny126 := Aside0.mk hy126
                                      clear hy126
                                      have H' := Aside0.mk H
                                      clear H
                                      have p47 : 0 ≤ ((rd ((rd_T41 l0_0 x17_1).f5) x25_2) : Int) := of_decide_eq_true (by first | (with_reducible assumption) | assumption)
                                      have q47 : ((rd ((rd_T41 l0_0 x17_1).f5) x25_2) : Int) < ((x3_2.length : Int) : Int) := of_decide_eq_true (by first | (with_reducible assumption) | assumption)
                                      obtain ⟨go47, co47, eo47, gb47, gl47, cl47, HG47⟩ := Kd.R_form HO_3.out (by omega)
                                      (first | cases eo47 | (injection eo47 with ea_ en_ ec_; (first | subst ea_ | (injection ea_ with ea_; subst ea_)); subst ec_; clear en_))
                                      have GB47 := Aside0.mk gb47
                                      have GG47 := Aside0.mk HG47
                                      clear gb47 gl47 HG47
                                      obtain ⟨hx47_0, hf47_0⟩ := Kd.R_celln false HO_3.out ((rd ((rd_T41 l0_0 x17_1).f5) x25_2) : Int) p47 q47
                                      replace p47 := eq_true p47
                                      replace q47 := eq_true q47
                                      have HP48 := Kd.R_putg HO_3.out ((rd ((rd_T41 l0_0 x17_1).f5) x25_2) : Int) true
                                      go_wp2_with (first | ((with_reducible refine gate_store (t := 4) (p := 68) rfl ?_); refine store_event (t := 4) (p := 68) (v := ?vo_w49) (w1 := (wc.setCell ⟨go47, ((rd ((rd_T41 l0_0 x17_1).f5) x25_2) : Int).toNat, none⟩ (.bool true))) ?hg ?ho ?hn ?hr ?_; (case ho => rfl); (case hg => rfl); (case hn => rfl); (case hr => first | (go_simp; done) | (go_simp; rfl)); intro w49 hw; have hg : wc.grownBy w49 (some go47) := (by rw [hw]; exact HP48.2); have hp_ : Kd.R Kd.bool 4 w49 w.heap.size (fun _ => True) (.slice (some ⟨go47, 0, none⟩) x3_2.length co47) y126 := (by rw [hw, Ny126.out]; exact HP48.1); clear HP48; have n0_ := Aside0.mk (hp_); have n1_ := Aside0.mk (blk_grown (g := gb115) (o := .cells #[.slice (some ad119) l0_0.length c0_0, .bool a0_1] 24 (0, 0)) (by (with_reducible repeat (first | refine blk_drewN ?_ _ | refine blk_drew ?_ | refine blk_alloc ?_ _)); exact BK115.out) hg (Kd.R_ne HO_3.out BK115.out (by decide))); have n2_ := Aside0.mk (blk_grown (g := gb120) (o := .cells #[.int .i64 ((rd_T41 l0_0 x17_1).f0), .string ((rd_T41 l0_0 x17_1).f1), .slice A119_2 ((rd_T41 l0_0 x17_1).f2).length c119_2, .string ((rd_T41 l0_0 x17_1).f3), .int .i64 ((rd_T41 l0_0 x17_1).f4), .slice (some ad121) ((rd_T41 l0_0 x17_1).f5).length c119_5] 41 (0, 0)) (by (with_reducible repeat (first | refine blk_drewN ?_ _ | refine blk_drew ?_ | refine blk_alloc ?_ _)); exact BK120.out) hg (Kd.R_ne HO_3.out BK120.out (by decide))); have n3_ := Aside0.mk ((by rw [hw]; exact below_set (HB.out) GB47.out : Below w.heap.size w w49)); clear HO_3; clear BK115; clear BK120; clear HB; have HO_3 := n0_; have BK115 := n1_; have BK120 := n2_; have HB := n3_; clear n0_ n1_ n2_ n3_; clear hg hw hp_))
                                      go_roundg kj17
                                      case measure => have := HK1.out; have := HK2.out; have := HJ17.out; omega
                                      case rel => exact ⟨(y126), (wrap64 (x25_2 + 1)), (by first | rfl | (simp; done) | (simp [*]; done)), H', ⟨by have := HK1.out; have := HK2.out; have := HJ17.out; omega⟩, ⟨by (with_reducible repeat (first | apply Kd.R_alloc | apply Kd.R_drewN | apply Kd.R_drew)); exact HO_3.out⟩, ⟨by (with_reducible repeat (first | refine blk_drewN ?_ _ | refine blk_drew ?_ | refine blk_alloc ?_ _)); exact BK115.out⟩, ⟨by (with_reducible repeat (first | refine blk_drewN ?_ _ | refine blk_drew ?_ | refine blk_alloc ?_ _)); exact BK120.out⟩, ⟨by repeat (first | (with_reducible first | exact HB.out | apply below_alloc | apply pw_below_drewN | apply below_drew1 | refine below_set ?_ GE115.out | refine below_set ?_ GE120.out) | exact HB.out)⟩⟩
                                    · rw [if_neg c46] at H
                                      exact absurd H (by simp)
                                  · rw [if_neg c45] at H
                                    exact absurd H (by simp)
                        · rw [if_neg c17] at H
                          exact absurd H (by simp)
                      · rw [if_neg c16] at H
                        exact absurd H (by simp)
                    · rw [if_neg c15] at H
                      have c15b0 : decide (x25_2 < (((rd_T41 l0_0 x17_1).f5).length : Int)) = false := decide_eq_false c15
                      clear c15
                      have H' := Aside0.mk H
                      clear H
                      go_wp2
                      go_roundg k2
                      case measure => have := HK1.out; have := HK2.out; omega
                      case rel => exact ⟨(x3_2), (wrap64 (x17_1 + 1)), (by first | rfl | (simp; done) | (simp [*]; done)), H', ⟨by have := HK1.out; have := HK2.out; omega⟩, ⟨by (with_reducible repeat (first | apply Kd.R_alloc | apply Kd.R_drewN | apply Kd.R_drew)); exact HO_3.out⟩, ⟨by (with_reducible repeat (first | refine blk_drewN ?_ _ | refine blk_drew ?_ | refine blk_alloc ?_ _)); exact BK115.out⟩, ⟨by repeat (first | (with_reducible first | exact HB.out | apply below_alloc | apply pw_below_drewN | apply below_drew1 | refine below_set ?_ GE115.out | refine below_set ?_ GE120.out) | exact HB.out)⟩⟩
              · rw [if_neg c11] at H
                exact absurd H (by simp)
            · rw [if_neg c10] at H
              exact absurd H (by simp)
          · rw [if_neg c9] at H
            have c9b0 : decide (x17_1 < (l0_0.length : Int)) = false := decide_eq_false c9
            clear c9
            have H' := Aside0.mk H
            clear H
            have hcz50_0 : wr.cell? ⟨gb115, 0, none⟩ = some (.slice A0_0 l0_0.length c0_0) := (blk_cell BK115.out 0).trans rfl
            have hcz50_1 : wr.cell? ⟨gb115, 1, none⟩ = some (.bool a0_1) := (blk_cell BK115.out 1).trans rfl
            have hfz50_0 := blk_frozen BK115.out 0
            have hfz50_1 := blk_frozen BK115.out 1
            go_wp2
            go_loopg [74] k1 (fun kq v74 w' => ∃ (x74_2 : Int), v74 = .int .i64 x74_2 ∧ Aside0 (dom_kids.l2 kq x3_1 l0_0 (l0_0.length : Int) x74_2 l0_0 a0_1 = some r) ∧ Aside0 (kq ≤ k1) ∧ Aside0 (Kd.R Kd.bool 4 w' w.heap.size (fun _ => True) v117 x3_1) ∧ Aside0 (w'.heap[gb115]? = some (.cells #[(.slice A0_0 l0_0.length c0_0), .bool a0_1] 24 (0, 0))) ∧ Aside0 (Below w.heap.size w w'))
            case atStart => exact ⟨(0), (by first | rfl | (simp; done) | (simp [*]; done)), H', ⟨Nat.le_refl _⟩, ⟨by (with_reducible repeat (first | apply Kd.R_alloc | apply Kd.R_drewN | apply Kd.R_drew)); exact HO_3.out⟩, ⟨by (with_reducible repeat (first | refine blk_drewN ?_ _ | refine blk_drew ?_ | refine blk_alloc ?_ _)); exact BK115.out⟩, ⟨by repeat (first | (with_reducible first | exact HB.out | apply below_alloc | apply pw_below_drewN | apply below_drew1 | refine below_set ?_ GE115.out) | exact HB.out)⟩⟩
            case round =>
              clear H'
              try clear c1
              try clear p1
              try clear q1
              try clear hx1
              try clear c2
              try clear c2b0
              try clear c2b1
              try clear p2
              try clear c3
              try clear c3b0
              try clear c3b1
              try clear c4
              try clear p4
              try clear q4
              try clear hx4
              try clear hf4
              try clear p6
              try clear c9
              try clear c9b0
              try clear c10
              try clear c10b0
              try clear c11
              try clear c11b0
              try clear p11
              try clear q11
              try clear hx11
              try clear c12
              try clear p12
              try clear q12
              try clear hx12
              try clear c13
              try clear c14
              try clear c15
              try clear c15b0
              try clear c16
              try clear c16b0
              try clear c17
              try clear c17b0
              try clear c19
              try clear c19b0
              try clear c20
              try clear c20b0
              try clear c22
              try clear c22b0
              try clear c23
              try clear c23b0
              try clear c24
              try clear c24b0
              try clear c24b1
              try clear c25
              try clear c25b0
              try clear c27
              try clear c30
              try clear c32
              try clear c33
              try clear c33b0
              try clear c33b1
              try clear c34
              try clear c34b0
              try clear c35
              try clear c35b0
              try clear c36
              try clear c36b0
              try clear c36b1
              try clear c37
              try clear c39
              try clear c39b0
              try clear p40
              try clear q40
              try clear hx40
              try clear hf40
              try clear c41
              try clear c45
              try clear c45b0
              try clear c46
              try clear c46b0
              try clear p47
              try clear q47
              try clear hx47
              try clear hf47
              try clear hcz14_0
              try clear hcz14_1
              try clear hcz14_2
              try clear hcz14_3
              try clear hcz14_4
              try clear hcz14_5
              try clear hcz28_0
              try clear hcz28_1
              try clear hcz31_0
              try clear hcz31_1
              try clear hcz38_0
              try clear hcz38_1
              try clear hcz42_0
              try clear hcz42_1
              try clear hcz50_0
              try clear hcz50_1
              try clear hcz5_0
              try clear hcz5_1
              try clear hcz8_0
              try clear hcz8_1
              try clear hfz14_0
              try clear hfz14_1
              try clear hfz14_2
              try clear hfz14_3
              try clear hfz14_4
              try clear hfz14_5
              try clear hfz28_0
              try clear hfz28_1
              try clear hfz31_0
              try clear hfz31_1
              try clear hfz38_0
              try clear hfz38_1
              try clear hfz42_0
              try clear hfz42_1
              try clear hfz50_0
              try clear hfz50_1
              try clear hfz5_0
              try clear hfz5_1
              try clear hfz8_0
              try clear hfz8_1
              try clear hx119_0
              try clear hx119_1
              try clear hx119_2
              try clear hx119_3
              try clear hx119_4
              try clear hx119_5
              try clear hx121_0
              try clear hx122_0
              try clear hx122_1
              try clear hx122_2
              try clear hx122_3
              try clear hx122_4
              try clear hx122_5
              try clear hx123_0
              try clear hx124_0
              try clear hx124_1
              try clear hx124_2
              try clear hx124_3
              try clear hx124_4
              try clear hx124_5
              try clear hx40_0
              try clear hx47_0
              try clear p1
              try clear p11
              try clear p119
              try clear p12
              try clear p121
              try clear p122
              try clear p123
              try clear p124
              try clear p2
              try clear p40
              try clear p47
              try clear q1
              try clear q11
              try clear q119
              try clear q12
              try clear q121
              try clear q122
              try clear q123
              try clear q124
              try clear q40
              try clear q47
              obtain ⟨x74_2, rfl, HA, HK2, HO_3, BK115, HB⟩ := hrel
              cases gk with
              | zero => exact absurd HA.out (by simp [dom_kids.l2])
              | succ k2 =>
                have H := HA.out
                clear HA
                simp only [dom_kids.l2] at H
                by_cases c51 : x74_2 < (l0_0.length : Int)
                · rw [if_pos c51] at H
                  have c51b0 : decide (x74_2 < (l0_0.length : Int)) = true := decide_eq_true c51
                  clear c51
                  by_cases c52 : 0 ≤ x74_2
                  · rw [if_pos c52] at H
                    have c52b0 : decide (0 ≤ x74_2) = true := decide_eq_true c52
                    clear c52
                    by_cases c53 : x74_2 < (l0_0.length : Int)
                    · rw [if_pos c53] at H
                      have c53b0 : decide (x74_2 < (l0_0.length : Int)) = true := decide_eq_true c53
                      clear c53
                      by_cases c54 : ((rd_T41 l0_0 x74_2).f4) = (-1)
                      · rw [if_pos c54] at H
                        have c54b0 : (((rd_T41 l0_0 x74_2).f4) == (-1)) = true := beq_iff_eq.mpr c54
                        have c54b1 : (((rd_T41 l0_0 x74_2).f4) != (-1)) = false := bne_eq_false_iff_eq.mpr c54
                        clear c54
                        have H' := Aside0.mk H
                        clear H
                        have p127 : 0 ≤ (x74_2 : Int) := of_decide_eq_true (by first | (with_reducible assumption) | assumption)
                        have q127 : x74_2 < (l0_0.length : Int) := of_decide_eq_true (by first | (with_reducible assumption) | assumption)
                        obtain ⟨ad127, A127_2, c127_2, A127_5, c127_5, e127, hx127_0, hx127_1, hx127_2, hx127_3, hx127_4, hx127_5, hl127_2, hi127_2, hl127_5, hi127_5⟩ := at_T41 HR0_0.out x74_2 p127 q127
                        cases e127
                        replace hx127_0 := (HB.out.cell (World.block_lt_of_cell? w _ hx127_0)).trans hx127_0
                        replace hx127_1 := (HB.out.cell (World.block_lt_of_cell? w _ hx127_1)).trans hx127_1
                        replace hx127_2 := (HB.out.cell (World.block_lt_of_cell? w _ hx127_2)).trans hx127_2
                        replace hx127_3 := (HB.out.cell (World.block_lt_of_cell? w _ hx127_3)).trans hx127_3
                        replace hx127_4 := (HB.out.cell (World.block_lt_of_cell? w _ hx127_4)).trans hx127_4
                        replace hx127_5 := (HB.out.cell (World.block_lt_of_cell? w _ hx127_5)).trans hx127_5
                        have HR127_2 := Aside0.mk hi127_2
                        have HC127_2 := Aside0.mk hl127_2
                        clear hi127_2 hl127_2
                        have HR127_5 := Aside0.mk hi127_5
                        have HC127_5 := Aside0.mk hl127_5
                        clear hi127_5 hl127_5
                        replace p127 := eq_true p127
                        replace q127 := eq_true q127
                        go_wp2_with (first | ((with_reducible refine gate_dst (N := 9) rfl ?_); (try (refine gate_guard (by rfl) ?_; dsimp only)); refine box_event ?hg (N := 9) ?hd (cs := #[.int .i64 0, .string (⟨#[]⟩ : ByteArray), .slice none 0 0, .string (⟨#[]⟩ : ByteArray), .int .i64 0, .slice none 0 0]) (t := 41) ?hr ?_; (case hd => rfl); (case hg => rfl); (case hr => first | (go_simp; done) | (go_simp; rfl)); intro gb128 hg w55 hbox hb; have n0_ := Aside0.mk (Kd.R_below (by (with_reducible repeat (first | apply Kd.R_alloc | apply Kd.R_drewN | apply Kd.R_drew)); exact HO_3.out) hb); have n1_ := Aside0.mk (blk_below (g := gb115) (o := .cells #[.slice (some ad127) l0_0.length c0_0, .bool a0_1] 24 (0, 0)) (by (with_reducible repeat (first | refine blk_drewN ?_ _ | refine blk_drew ?_ | refine blk_alloc ?_ _)); exact BK115.out) hb); have n2_ := Aside0.mk (below_step (by repeat (first | (with_reducible first | exact HB.out | apply below_alloc | apply pw_below_drewN | apply below_drew1 | refine below_set ?_ GE115.out) | exact HB.out)) hb); have n3_ := Aside0.mk (hbox); have n4_ := Aside0.mk ((by rw [hg]; exact (below_size (by repeat (first | (with_reducible first | exact HB.out | apply below_alloc | apply pw_below_drewN | apply below_drew1 | refine below_set ?_ GE115.out) | exact HB.out))) : w.heap.size ≤ gb128)); have n5_ := Aside0.mk ((by rw [hg]; exact (below_size (by repeat (first | (with_reducible first | exact HB.out | apply below_alloc | apply pw_below_drewN | apply below_drew1 | refine below_set ?_ GE115.out) | exact HB.out))) : w.heap.size ≤ gb128)); have n6_ := Aside0.mk ((by rw [hg]; exact Nat.ne_of_lt (blk_lt (g := gb115) (o := .cells #[.slice (some ad127) l0_0.length c0_0, .bool a0_1] 24 (0, 0)) (by (with_reducible repeat (first | refine blk_drewN ?_ _ | refine blk_drew ?_ | refine blk_alloc ?_ _)); exact BK115.out)) : gb115 ≠ gb128)); have n7_ := Aside0.mk ((by rw [hg]; exact Nat.ne_of_gt (blk_lt (g := gb115) (o := .cells #[.slice (some ad127) l0_0.length c0_0, .bool a0_1] 24 (0, 0)) (by (with_reducible repeat (first | refine blk_drewN ?_ _ | refine blk_drew ?_ | refine blk_alloc ?_ _)); exact BK115.out)) : gb128 ≠ gb115)); clear HO_3; clear BK115; clear HB; have HO_3 := n0_; have BK115 := n1_; have HB := n2_; have BK128 := n3_; have GW128 := n4_; have GE128 := n5_; have NB115_128 := n6_; have NB128_115 := n7_; clear n0_ n1_ n2_ n3_ n4_ n5_ n6_ n7_; clear hb hbox hg; have hnb56 := NB128_115.out; have hnc56 := NB115_128.out; have hcz57_0 : w55.cell? ⟨gb128, 0, none⟩ = some (.int .i64 0) := (blk_cell BK128.out 0).trans rfl; have hcz57_1 : w55.cell? ⟨gb128, 1, none⟩ = some (.string (⟨#[]⟩ : ByteArray)) := (blk_cell BK128.out 1).trans rfl; have hcz57_2 : w55.cell? ⟨gb128, 2, none⟩ = some (.slice none 0 0) := (blk_cell BK128.out 2).trans rfl; have hcz57_3 : w55.cell? ⟨gb128, 3, none⟩ = some (.string (⟨#[]⟩ : ByteArray)) := (blk_cell BK128.out 3).trans rfl; have hcz57_4 : w55.cell? ⟨gb128, 4, none⟩ = some (.int .i64 0) := (blk_cell BK128.out 4).trans rfl; have hcz57_5 : w55.cell? ⟨gb128, 5, none⟩ = some (.slice none 0 0) := (blk_cell BK128.out 5).trans rfl; have hfz57_0 := blk_frozen BK128.out 0; have hfz57_1 := blk_frozen BK128.out 1; have hfz57_2 := blk_frozen BK128.out 2; have hfz57_3 := blk_frozen BK128.out 3; have hfz57_4 := blk_frozen BK128.out 4; have hfz57_5 := blk_frozen BK128.out 5))
                        go_roundg k2
                        case measure => have := HK1.out; have := HK2.out; omega
                        case rel => exact ⟨(wrap64 (x74_2 + 1)), (by first | rfl | (simp; done) | (simp [*]; done)), H', ⟨by have := HK1.out; have := HK2.out; omega⟩, ⟨by (with_reducible repeat (first | apply Kd.R_alloc | apply Kd.R_drewN | apply Kd.R_drew)); exact Kd.R_mono (Kd.R_far (p := ⟨gb128, 5, none⟩) (Kd.R_far (p := ⟨gb128, 4, none⟩) (Kd.R_far (p := ⟨gb128, 3, none⟩) (Kd.R_far (p := ⟨gb128, 2, none⟩) (Kd.R_far (p := ⟨gb128, 1, none⟩) (Kd.R_far (p := ⟨gb128, 0, none⟩) (Kd.R_types HO_3.out BK128.out (by decide)) (fun _ hk => hk.2) (.int .i64 ((rd_T41 l0_0 x74_2).f0))) (fun _ hk => hk.2) (.string ((rd_T41 l0_0 x74_2).f1))) (fun _ hk => hk.2) (.slice A127_2 ((rd_T41 l0_0 x74_2).f2).length c127_2)) (fun _ hk => hk.2) (.string ((rd_T41 l0_0 x74_2).f3))) (fun _ hk => hk.2) (.int .i64 ((rd_T41 l0_0 x74_2).f4))) (fun _ hk => hk.2) (.slice A127_5 ((rd_T41 l0_0 x74_2).f5).length c127_5)) (fun _ hk => trivial)⟩, ⟨by (with_reducible repeat (first | refine blk_drewN ?_ _ | refine blk_drew ?_ | refine blk_alloc ?_ _)); refine blk_far ?_ NB115_128.out _; (with_reducible repeat (first | refine blk_drewN ?_ _ | refine blk_drew ?_ | refine blk_alloc ?_ _)); refine blk_far ?_ NB115_128.out _; (with_reducible repeat (first | refine blk_drewN ?_ _ | refine blk_drew ?_ | refine blk_alloc ?_ _)); refine blk_far ?_ NB115_128.out _; (with_reducible repeat (first | refine blk_drewN ?_ _ | refine blk_drew ?_ | refine blk_alloc ?_ _)); refine blk_far ?_ NB115_128.out _; (with_reducible repeat (first | refine blk_drewN ?_ _ | refine blk_drew ?_ | refine blk_alloc ?_ _)); refine blk_far ?_ NB115_128.out _; (with_reducible repeat (first | refine blk_drewN ?_ _ | refine blk_drew ?_ | refine blk_alloc ?_ _)); refine blk_far ?_ NB115_128.out _; (with_reducible repeat (first | refine blk_drewN ?_ _ | refine blk_drew ?_ | refine blk_alloc ?_ _)); exact BK115.out⟩, ⟨by repeat (first | (with_reducible first | exact HB.out | apply below_alloc | apply pw_below_drewN | apply below_drew1 | refine below_set ?_ GE115.out | refine below_set ?_ GE128.out) | exact HB.out)⟩⟩
                      · rw [if_neg c54] at H
                        have c54b0 : (((rd_T41 l0_0 x74_2).f4) == (-1)) = false := beq_eq_false_iff_ne.mpr c54
                        have c54b1 : (((rd_T41 l0_0 x74_2).f4) != (-1)) = true := bne_iff_ne.mpr c54
                        by_cases c58 : x74_2 < (x3_1.length : Int)
                        · rw [if_pos c58] at H
                          have c58b0 : decide (x74_2 < (x3_1.length : Int)) = true := decide_eq_true c58
                          clear c58
                          obtain ⟨bq59, hbq59⟩ : ∃ b_ : Bool, b_ = (rdOf false x3_1 x74_2) := ⟨_, rfl⟩
                          replace H : (if bq59 = true then (dom_kids.l2 k2 x3_1 l0_0 (l0_0.length : Int) (wrap64 (x74_2 + 1)) l0_0 a0_1) else (some 3)) = some r := by rw [← hbq59] at H; exact H
                          have Nbq59 := Aside0.mk hbq59
                          clear hbq59
                          by_cases c60 : bq59 = true
                          · subst c60
                            have H1 : (dom_kids.l2 k2 x3_1 l0_0 (l0_0.length : Int) (wrap64 (x74_2 + 1)) l0_0 a0_1) = some r := by rw [if_pos rfl] at H; exact H
                            clear H
                            have H := H1
                            clear H1
                            have H' := Aside0.mk H
                            clear H
                            have p127 : 0 ≤ (x74_2 : Int) := of_decide_eq_true (by first | (with_reducible assumption) | assumption)
                            have q127 : x74_2 < (l0_0.length : Int) := of_decide_eq_true (by first | (with_reducible assumption) | assumption)
                            obtain ⟨ad127, A127_2, c127_2, A127_5, c127_5, e127, hx127_0, hx127_1, hx127_2, hx127_3, hx127_4, hx127_5, hl127_2, hi127_2, hl127_5, hi127_5⟩ := at_T41 HR0_0.out x74_2 p127 q127
                            cases e127
                            replace hx127_0 := (HB.out.cell (World.block_lt_of_cell? w _ hx127_0)).trans hx127_0
                            replace hx127_1 := (HB.out.cell (World.block_lt_of_cell? w _ hx127_1)).trans hx127_1
                            replace hx127_2 := (HB.out.cell (World.block_lt_of_cell? w _ hx127_2)).trans hx127_2
                            replace hx127_3 := (HB.out.cell (World.block_lt_of_cell? w _ hx127_3)).trans hx127_3
                            replace hx127_4 := (HB.out.cell (World.block_lt_of_cell? w _ hx127_4)).trans hx127_4
                            replace hx127_5 := (HB.out.cell (World.block_lt_of_cell? w _ hx127_5)).trans hx127_5
                            have HR127_2 := Aside0.mk hi127_2
                            have HC127_2 := Aside0.mk hl127_2
                            clear hi127_2 hl127_2
                            have HR127_5 := Aside0.mk hi127_5
                            have HC127_5 := Aside0.mk hl127_5
                            clear hi127_5 hl127_5
                            replace p127 := eq_true p127
                            replace q127 := eq_true q127
                            go_wp2_with (first | ((with_reducible refine gate_dst (N := 9) rfl ?_); (try (refine gate_guard (by rfl) ?_; dsimp only)); refine box_event ?hg (N := 9) ?hd (cs := #[.int .i64 0, .string (⟨#[]⟩ : ByteArray), .slice none 0 0, .string (⟨#[]⟩ : ByteArray), .int .i64 0, .slice none 0 0]) (t := 41) ?hr ?_; (case hd => rfl); (case hg => rfl); (case hr => first | (go_simp; done) | (go_simp; rfl)); intro gb128 hg w61 hbox hb; have n0_ := Aside0.mk (Kd.R_below (by (with_reducible repeat (first | apply Kd.R_alloc | apply Kd.R_drewN | apply Kd.R_drew)); exact HO_3.out) hb); have n1_ := Aside0.mk (blk_below (g := gb115) (o := .cells #[.slice (some ad127) l0_0.length c0_0, .bool a0_1] 24 (0, 0)) (by (with_reducible repeat (first | refine blk_drewN ?_ _ | refine blk_drew ?_ | refine blk_alloc ?_ _)); exact BK115.out) hb); have n2_ := Aside0.mk (below_step (by repeat (first | (with_reducible first | exact HB.out | apply below_alloc | apply pw_below_drewN | apply below_drew1 | refine below_set ?_ GE115.out) | exact HB.out)) hb); have n3_ := Aside0.mk (hbox); have n4_ := Aside0.mk ((by rw [hg]; exact (below_size (by repeat (first | (with_reducible first | exact HB.out | apply below_alloc | apply pw_below_drewN | apply below_drew1 | refine below_set ?_ GE115.out) | exact HB.out))) : w.heap.size ≤ gb128)); have n5_ := Aside0.mk ((by rw [hg]; exact (below_size (by repeat (first | (with_reducible first | exact HB.out | apply below_alloc | apply pw_below_drewN | apply below_drew1 | refine below_set ?_ GE115.out) | exact HB.out))) : w.heap.size ≤ gb128)); have n6_ := Aside0.mk ((by rw [hg]; exact Nat.ne_of_lt (blk_lt (g := gb115) (o := .cells #[.slice (some ad127) l0_0.length c0_0, .bool a0_1] 24 (0, 0)) (by (with_reducible repeat (first | refine blk_drewN ?_ _ | refine blk_drew ?_ | refine blk_alloc ?_ _)); exact BK115.out)) : gb115 ≠ gb128)); have n7_ := Aside0.mk ((by rw [hg]; exact Nat.ne_of_gt (blk_lt (g := gb115) (o := .cells #[.slice (some ad127) l0_0.length c0_0, .bool a0_1] 24 (0, 0)) (by (with_reducible repeat (first | refine blk_drewN ?_ _ | refine blk_drew ?_ | refine blk_alloc ?_ _)); exact BK115.out)) : gb128 ≠ gb115)); clear HO_3; clear BK115; clear HB; have HO_3 := n0_; have BK115 := n1_; have HB := n2_; have BK128 := n3_; have GW128 := n4_; have GE128 := n5_; have NB115_128 := n6_; have NB128_115 := n7_; clear n0_ n1_ n2_ n3_ n4_ n5_ n6_ n7_; clear hb hbox hg; have hnb62 := NB128_115.out; have hnc62 := NB115_128.out; have hcz63_0 : w61.cell? ⟨gb128, 0, none⟩ = some (.int .i64 0) := (blk_cell BK128.out 0).trans rfl; have hcz63_1 : w61.cell? ⟨gb128, 1, none⟩ = some (.string (⟨#[]⟩ : ByteArray)) := (blk_cell BK128.out 1).trans rfl; have hcz63_2 : w61.cell? ⟨gb128, 2, none⟩ = some (.slice none 0 0) := (blk_cell BK128.out 2).trans rfl; have hcz63_3 : w61.cell? ⟨gb128, 3, none⟩ = some (.string (⟨#[]⟩ : ByteArray)) := (blk_cell BK128.out 3).trans rfl; have hcz63_4 : w61.cell? ⟨gb128, 4, none⟩ = some (.int .i64 0) := (blk_cell BK128.out 4).trans rfl; have hcz63_5 : w61.cell? ⟨gb128, 5, none⟩ = some (.slice none 0 0) := (blk_cell BK128.out 5).trans rfl; have hfz63_0 := blk_frozen BK128.out 0; have hfz63_1 := blk_frozen BK128.out 1; have hfz63_2 := blk_frozen BK128.out 2; have hfz63_3 := blk_frozen BK128.out 3; have hfz63_4 := blk_frozen BK128.out 4; have hfz63_5 := blk_frozen BK128.out 5; obtain ⟨Ao64, co64, eo64⟩ := Kd.R_slice HO_3.out; subst eo64; have p129 : 0 ≤ (x74_2 : Int) := of_decide_eq_true (by first | (with_reducible assumption) | assumption); have q129 : x74_2 < (x3_1.length : Int) := of_decide_eq_true (by first | (with_reducible assumption) | assumption); obtain ⟨ad129, e129, hx129_0⟩ := Kd.at_bool (Kd.R_reads' HO_3.out).2.2 x74_2 p129 q129; (try rw [← Nbq59.out] at hx129_0); cases e129; have hn129_0 : ad129.block ≠ gb128 := Kd.own_blk (Kd.R_ne HO_3.out BK128.out (by decide)); have hn129_1 : ad129.block ≠ gb128 := Kd.own_blk (Kd.R_ne HO_3.out BK128.out (by decide)); have hn129_2 : ad129.block ≠ gb128 := Kd.own_blk (Kd.R_ne HO_3.out BK128.out (by decide)); have hn129_3 : ad129.block ≠ gb128 := Kd.own_blk (Kd.R_ne HO_3.out BK128.out (by decide)); have hn129_4 : ad129.block ≠ gb128 := Kd.own_blk (Kd.R_ne HO_3.out BK128.out (by decide)); have hn129_5 : ad129.block ≠ gb128 := Kd.own_blk (Kd.R_ne HO_3.out BK128.out (by decide)); replace hx129_0 := (cell_far (p := ⟨gb128, 0, none⟩) (by first | (rw [add_block]; exact hn129_0) | (show (Addr.add _ _).block ≠ _; rw [add_block]; exact hn129_0) | exact hn129_0) (.int .i64 ((rd_T41 l0_0 x74_2).f0))).trans hx129_0; replace hx129_0 := (cell_far (p := ⟨gb128, 1, none⟩) (by first | (rw [add_block]; exact hn129_1) | (show (Addr.add _ _).block ≠ _; rw [add_block]; exact hn129_1) | exact hn129_1) (.string ((rd_T41 l0_0 x74_2).f1))).trans hx129_0; replace hx129_0 := (cell_far (p := ⟨gb128, 2, none⟩) (by first | (rw [add_block]; exact hn129_2) | (show (Addr.add _ _).block ≠ _; rw [add_block]; exact hn129_2) | exact hn129_2) (.slice A127_2 ((rd_T41 l0_0 x74_2).f2).length c127_2)).trans hx129_0; replace hx129_0 := (cell_far (p := ⟨gb128, 3, none⟩) (by first | (rw [add_block]; exact hn129_3) | (show (Addr.add _ _).block ≠ _; rw [add_block]; exact hn129_3) | exact hn129_3) (.string ((rd_T41 l0_0 x74_2).f3))).trans hx129_0; replace hx129_0 := (cell_far (p := ⟨gb128, 4, none⟩) (by first | (rw [add_block]; exact hn129_4) | (show (Addr.add _ _).block ≠ _; rw [add_block]; exact hn129_4) | exact hn129_4) (.int .i64 ((rd_T41 l0_0 x74_2).f4))).trans hx129_0; replace hx129_0 := (cell_far (p := ⟨gb128, 5, none⟩) (by first | (rw [add_block]; exact hn129_5) | (show (Addr.add _ _).block ≠ _; rw [add_block]; exact hn129_5) | exact hn129_5) (.slice A127_5 ((rd_T41 l0_0 x74_2).f5).length c127_5)).trans hx129_0; clear hn129_0; clear hn129_1; clear hn129_2; clear hn129_3; clear hn129_4; clear hn129_5; replace p129 := eq_true p129; replace q129 := eq_true q129))
                            go_roundg k2
                            case measure => have := HK1.out; have := HK2.out; omega
                            case rel => exact ⟨(wrap64 (x74_2 + 1)), (by first | rfl | (simp; done) | (simp [*]; done)), H', ⟨by have := HK1.out; have := HK2.out; omega⟩, ⟨by (with_reducible repeat (first | apply Kd.R_alloc | apply Kd.R_drewN | apply Kd.R_drew)); exact Kd.R_mono (Kd.R_far (p := ⟨gb128, 5, none⟩) (Kd.R_far (p := ⟨gb128, 4, none⟩) (Kd.R_far (p := ⟨gb128, 3, none⟩) (Kd.R_far (p := ⟨gb128, 2, none⟩) (Kd.R_far (p := ⟨gb128, 1, none⟩) (Kd.R_far (p := ⟨gb128, 0, none⟩) (Kd.R_types HO_3.out BK128.out (by decide)) (fun _ hk => hk.2) (.int .i64 ((rd_T41 l0_0 x74_2).f0))) (fun _ hk => hk.2) (.string ((rd_T41 l0_0 x74_2).f1))) (fun _ hk => hk.2) (.slice A127_2 ((rd_T41 l0_0 x74_2).f2).length c127_2)) (fun _ hk => hk.2) (.string ((rd_T41 l0_0 x74_2).f3))) (fun _ hk => hk.2) (.int .i64 ((rd_T41 l0_0 x74_2).f4))) (fun _ hk => hk.2) (.slice A127_5 ((rd_T41 l0_0 x74_2).f5).length c127_5)) (fun _ hk => trivial)⟩, ⟨by (with_reducible repeat (first | refine blk_drewN ?_ _ | refine blk_drew ?_ | refine blk_alloc ?_ _)); refine blk_far ?_ NB115_128.out _; (with_reducible repeat (first | refine blk_drewN ?_ _ | refine blk_drew ?_ | refine blk_alloc ?_ _)); refine blk_far ?_ NB115_128.out _; (with_reducible repeat (first | refine blk_drewN ?_ _ | refine blk_drew ?_ | refine blk_alloc ?_ _)); refine blk_far ?_ NB115_128.out _; (with_reducible repeat (first | refine blk_drewN ?_ _ | refine blk_drew ?_ | refine blk_alloc ?_ _)); refine blk_far ?_ NB115_128.out _; (with_reducible repeat (first | refine blk_drewN ?_ _ | refine blk_drew ?_ | refine blk_alloc ?_ _)); refine blk_far ?_ NB115_128.out _; (with_reducible repeat (first | refine blk_drewN ?_ _ | refine blk_drew ?_ | refine blk_alloc ?_ _)); refine blk_far ?_ NB115_128.out _; (with_reducible repeat (first | refine blk_drewN ?_ _ | refine blk_drew ?_ | refine blk_alloc ?_ _)); exact BK115.out⟩, ⟨by repeat (first | (with_reducible first | exact HB.out | apply below_alloc | apply pw_below_drewN | apply below_drew1 | refine below_set ?_ GE115.out | refine below_set ?_ GE128.out) | exact HB.out)⟩⟩
                          · replace c60 := Bool.eq_false_iff.mpr c60
                            subst c60
                            have H1 : (some 3) = some r := by rw [if_neg (show ¬ (false = true) by decide)] at H; exact H
                            clear H
                            have H := H1
                            clear H1
                            obtain rfl := Option.some.inj H
                            have p127 : 0 ≤ (x74_2 : Int) := of_decide_eq_true (by first | (with_reducible assumption) | assumption)
                            have q127 : x74_2 < (l0_0.length : Int) := of_decide_eq_true (by first | (with_reducible assumption) | assumption)
                            obtain ⟨ad127, A127_2, c127_2, A127_5, c127_5, e127, hx127_0, hx127_1, hx127_2, hx127_3, hx127_4, hx127_5, hl127_2, hi127_2, hl127_5, hi127_5⟩ := at_T41 HR0_0.out x74_2 p127 q127
                            cases e127
                            replace hx127_0 := (HB.out.cell (World.block_lt_of_cell? w _ hx127_0)).trans hx127_0
                            replace hx127_1 := (HB.out.cell (World.block_lt_of_cell? w _ hx127_1)).trans hx127_1
                            replace hx127_2 := (HB.out.cell (World.block_lt_of_cell? w _ hx127_2)).trans hx127_2
                            replace hx127_3 := (HB.out.cell (World.block_lt_of_cell? w _ hx127_3)).trans hx127_3
                            replace hx127_4 := (HB.out.cell (World.block_lt_of_cell? w _ hx127_4)).trans hx127_4
                            replace hx127_5 := (HB.out.cell (World.block_lt_of_cell? w _ hx127_5)).trans hx127_5
                            have HR127_2 := Aside0.mk hi127_2
                            have HC127_2 := Aside0.mk hl127_2
                            clear hi127_2 hl127_2
                            have HR127_5 := Aside0.mk hi127_5
                            have HC127_5 := Aside0.mk hl127_5
                            clear hi127_5 hl127_5
                            replace p127 := eq_true p127
                            replace q127 := eq_true q127
                            go_wp2_with (first | ((with_reducible refine gate_dst (N := 9) rfl ?_); (try (refine gate_guard (by rfl) ?_; dsimp only)); refine box_event ?hg (N := 9) ?hd (cs := #[.int .i64 0, .string (⟨#[]⟩ : ByteArray), .slice none 0 0, .string (⟨#[]⟩ : ByteArray), .int .i64 0, .slice none 0 0]) (t := 41) ?hr ?_; (case hd => rfl); (case hg => rfl); (case hr => first | (go_simp; done) | (go_simp; rfl)); intro gb128 hg w65 hbox hb; have n0_ := Aside0.mk (Kd.R_below (by (with_reducible repeat (first | apply Kd.R_alloc | apply Kd.R_drewN | apply Kd.R_drew)); exact HO_3.out) hb); have n1_ := Aside0.mk (blk_below (g := gb115) (o := .cells #[.slice (some ad127) l0_0.length c0_0, .bool a0_1] 24 (0, 0)) (by (with_reducible repeat (first | refine blk_drewN ?_ _ | refine blk_drew ?_ | refine blk_alloc ?_ _)); exact BK115.out) hb); have n2_ := Aside0.mk (below_step (by repeat (first | (with_reducible first | exact HB.out | apply below_alloc | apply pw_below_drewN | apply below_drew1 | refine below_set ?_ GE115.out) | exact HB.out)) hb); have n3_ := Aside0.mk (hbox); have n4_ := Aside0.mk ((by rw [hg]; exact (below_size (by repeat (first | (with_reducible first | exact HB.out | apply below_alloc | apply pw_below_drewN | apply below_drew1 | refine below_set ?_ GE115.out) | exact HB.out))) : w.heap.size ≤ gb128)); have n5_ := Aside0.mk ((by rw [hg]; exact (below_size (by repeat (first | (with_reducible first | exact HB.out | apply below_alloc | apply pw_below_drewN | apply below_drew1 | refine below_set ?_ GE115.out) | exact HB.out))) : w.heap.size ≤ gb128)); have n6_ := Aside0.mk ((by rw [hg]; exact Nat.ne_of_lt (blk_lt (g := gb115) (o := .cells #[.slice (some ad127) l0_0.length c0_0, .bool a0_1] 24 (0, 0)) (by (with_reducible repeat (first | refine blk_drewN ?_ _ | refine blk_drew ?_ | refine blk_alloc ?_ _)); exact BK115.out)) : gb115 ≠ gb128)); have n7_ := Aside0.mk ((by rw [hg]; exact Nat.ne_of_gt (blk_lt (g := gb115) (o := .cells #[.slice (some ad127) l0_0.length c0_0, .bool a0_1] 24 (0, 0)) (by (with_reducible repeat (first | refine blk_drewN ?_ _ | refine blk_drew ?_ | refine blk_alloc ?_ _)); exact BK115.out)) : gb128 ≠ gb115)); clear HO_3; clear BK115; clear HB; have HO_3 := n0_; have BK115 := n1_; have HB := n2_; have BK128 := n3_; have GW128 := n4_; have GE128 := n5_; have NB115_128 := n6_; have NB128_115 := n7_; clear n0_ n1_ n2_ n3_ n4_ n5_ n6_ n7_; clear hb hbox hg; have hnb66 := NB128_115.out; have hnc66 := NB115_128.out; have hcz67_0 : w65.cell? ⟨gb128, 0, none⟩ = some (.int .i64 0) := (blk_cell BK128.out 0).trans rfl; have hcz67_1 : w65.cell? ⟨gb128, 1, none⟩ = some (.string (⟨#[]⟩ : ByteArray)) := (blk_cell BK128.out 1).trans rfl; have hcz67_2 : w65.cell? ⟨gb128, 2, none⟩ = some (.slice none 0 0) := (blk_cell BK128.out 2).trans rfl; have hcz67_3 : w65.cell? ⟨gb128, 3, none⟩ = some (.string (⟨#[]⟩ : ByteArray)) := (blk_cell BK128.out 3).trans rfl; have hcz67_4 : w65.cell? ⟨gb128, 4, none⟩ = some (.int .i64 0) := (blk_cell BK128.out 4).trans rfl; have hcz67_5 : w65.cell? ⟨gb128, 5, none⟩ = some (.slice none 0 0) := (blk_cell BK128.out 5).trans rfl; have hfz67_0 := blk_frozen BK128.out 0; have hfz67_1 := blk_frozen BK128.out 1; have hfz67_2 := blk_frozen BK128.out 2; have hfz67_3 := blk_frozen BK128.out 3; have hfz67_4 := blk_frozen BK128.out 4; have hfz67_5 := blk_frozen BK128.out 5; obtain ⟨Ao68, co68, eo68⟩ := Kd.R_slice HO_3.out; subst eo68; have p129 : 0 ≤ (x74_2 : Int) := of_decide_eq_true (by first | (with_reducible assumption) | assumption); have q129 : x74_2 < (x3_1.length : Int) := of_decide_eq_true (by first | (with_reducible assumption) | assumption); obtain ⟨ad129, e129, hx129_0⟩ := Kd.at_bool (Kd.R_reads' HO_3.out).2.2 x74_2 p129 q129; (try rw [← Nbq59.out] at hx129_0); cases e129; have hn129_0 : ad129.block ≠ gb128 := Kd.own_blk (Kd.R_ne HO_3.out BK128.out (by decide)); have hn129_1 : ad129.block ≠ gb128 := Kd.own_blk (Kd.R_ne HO_3.out BK128.out (by decide)); have hn129_2 : ad129.block ≠ gb128 := Kd.own_blk (Kd.R_ne HO_3.out BK128.out (by decide)); have hn129_3 : ad129.block ≠ gb128 := Kd.own_blk (Kd.R_ne HO_3.out BK128.out (by decide)); have hn129_4 : ad129.block ≠ gb128 := Kd.own_blk (Kd.R_ne HO_3.out BK128.out (by decide)); have hn129_5 : ad129.block ≠ gb128 := Kd.own_blk (Kd.R_ne HO_3.out BK128.out (by decide)); replace hx129_0 := (cell_far (p := ⟨gb128, 0, none⟩) (by first | (rw [add_block]; exact hn129_0) | (show (Addr.add _ _).block ≠ _; rw [add_block]; exact hn129_0) | exact hn129_0) (.int .i64 ((rd_T41 l0_0 x74_2).f0))).trans hx129_0; replace hx129_0 := (cell_far (p := ⟨gb128, 1, none⟩) (by first | (rw [add_block]; exact hn129_1) | (show (Addr.add _ _).block ≠ _; rw [add_block]; exact hn129_1) | exact hn129_1) (.string ((rd_T41 l0_0 x74_2).f1))).trans hx129_0; replace hx129_0 := (cell_far (p := ⟨gb128, 2, none⟩) (by first | (rw [add_block]; exact hn129_2) | (show (Addr.add _ _).block ≠ _; rw [add_block]; exact hn129_2) | exact hn129_2) (.slice A127_2 ((rd_T41 l0_0 x74_2).f2).length c127_2)).trans hx129_0; replace hx129_0 := (cell_far (p := ⟨gb128, 3, none⟩) (by first | (rw [add_block]; exact hn129_3) | (show (Addr.add _ _).block ≠ _; rw [add_block]; exact hn129_3) | exact hn129_3) (.string ((rd_T41 l0_0 x74_2).f3))).trans hx129_0; replace hx129_0 := (cell_far (p := ⟨gb128, 4, none⟩) (by first | (rw [add_block]; exact hn129_4) | (show (Addr.add _ _).block ≠ _; rw [add_block]; exact hn129_4) | exact hn129_4) (.int .i64 ((rd_T41 l0_0 x74_2).f4))).trans hx129_0; replace hx129_0 := (cell_far (p := ⟨gb128, 5, none⟩) (by first | (rw [add_block]; exact hn129_5) | (show (Addr.add _ _).block ≠ _; rw [add_block]; exact hn129_5) | exact hn129_5) (.slice A127_5 ((rd_T41 l0_0 x74_2).f5).length c127_5)).trans hx129_0; clear hn129_0; clear hn129_1; clear hn129_2; clear hn129_3; clear hn129_4; clear hn129_5; replace p129 := eq_true p129; replace q129 := eq_true q129))
                            go_ret
                            exact ⟨by first | rfl | (simp [errW_none, errW_some] <;> rfl) | (simp [*, errW_none, errW_some] <;> rfl), by repeat (first | (with_reducible first | exact HB.out | apply below_alloc | apply pw_below_drewN | apply below_drew1 | refine below_set ?_ GE115.out | refine below_set ?_ GE128.out) | exact HB.out)⟩
                        · rw [if_neg c58] at H
                          exact absurd H (by simp)
                    · rw [if_neg c53] at H
                      exact absurd H (by simp)
                  · rw [if_neg c52] at H
                    exact absurd H (by simp)
                · rw [if_neg c51] at H
                  have c51b0 : decide (x74_2 < (l0_0.length : Int)) = false := decide_eq_false c51
                  clear c51
                  by_cases c69 : 0 < (l0_0.length : Int)
                  · rw [if_pos c69] at H
                    have c69b0 : decide (0 < (l0_0.length : Int)) = true := decide_eq_true c69
                    have c69b1 : decide (0 < l0_0.length) = true := decide_eq_true (by omega)
                    clear c69
                    by_cases c70 : ((rd_T41 l0_0 0).f4) = (-1)
                    · rw [if_pos c70] at H
                      have c70b0 : (((rd_T41 l0_0 0).f4) == (-1)) = true := beq_iff_eq.mpr c70
                      have c70b1 : (((rd_T41 l0_0 0).f4) != (-1)) = false := bne_eq_false_iff_eq.mpr c70
                      clear c70
                      obtain rfl := Option.some.inj H
                      have hcz71_0 : wr.cell? ⟨gb115, 0, none⟩ = some (.slice A0_0 l0_0.length c0_0) := (blk_cell BK115.out 0).trans rfl
                      have hcz71_1 : wr.cell? ⟨gb115, 1, none⟩ = some (.bool a0_1) := (blk_cell BK115.out 1).trans rfl
                      have hfz71_0 := blk_frozen BK115.out 0
                      have hfz71_1 := blk_frozen BK115.out 1
                      have p130 : 0 ≤ (0 : Int) := (by omega)
                      have q130 : 0 < (l0_0.length : Int) := of_decide_eq_true (by first | (with_reducible assumption) | assumption)
                      obtain ⟨ad130, A130_2, c130_2, A130_5, c130_5, e130, hx130_0, hx130_1, hx130_2, hx130_3, hx130_4, hx130_5, hl130_2, hi130_2, hl130_5, hi130_5⟩ := at_T41 HR0_0.out 0 p130 q130
                      cases e130
                      have qi130 : (0 < l0_0.length) = True := eq_true (by omega)
                      (try rw [show ((0 : Int)).toNat = 0 from rfl] at hx130_0)
                      (try rw [show 0 * 6 = 0 from rfl] at hx130_0)
                      (try rw [Addr.add_zero'] at hx130_0)
                      (try rw [show ((0 : Int)).toNat = 0 from rfl] at hx130_1)
                      (try rw [show 0 * 6 = 0 from rfl] at hx130_1)
                      (try rw [Addr.add_zero'] at hx130_1)
                      (try rw [show ((0 : Int)).toNat = 0 from rfl] at hx130_2)
                      (try rw [show 0 * 6 = 0 from rfl] at hx130_2)
                      (try rw [Addr.add_zero'] at hx130_2)
                      (try rw [show ((0 : Int)).toNat = 0 from rfl] at hx130_3)
                      (try rw [show 0 * 6 = 0 from rfl] at hx130_3)
                      (try rw [Addr.add_zero'] at hx130_3)
                      (try rw [show ((0 : Int)).toNat = 0 from rfl] at hx130_4)
                      (try rw [show 0 * 6 = 0 from rfl] at hx130_4)
                      (try rw [Addr.add_zero'] at hx130_4)
                      (try rw [show ((0 : Int)).toNat = 0 from rfl] at hx130_5)
                      (try rw [show 0 * 6 = 0 from rfl] at hx130_5)
                      (try rw [Addr.add_zero'] at hx130_5)
                      replace hx130_0 := (HB.out.cell (World.block_lt_of_cell? w _ hx130_0)).trans hx130_0
                      replace hx130_1 := (HB.out.cell (World.block_lt_of_cell? w _ hx130_1)).trans hx130_1
                      replace hx130_2 := (HB.out.cell (World.block_lt_of_cell? w _ hx130_2)).trans hx130_2
                      replace hx130_3 := (HB.out.cell (World.block_lt_of_cell? w _ hx130_3)).trans hx130_3
                      replace hx130_4 := (HB.out.cell (World.block_lt_of_cell? w _ hx130_4)).trans hx130_4
                      replace hx130_5 := (HB.out.cell (World.block_lt_of_cell? w _ hx130_5)).trans hx130_5
                      have HR130_2 := Aside0.mk hi130_2
                      have HC130_2 := Aside0.mk hl130_2
                      clear hi130_2 hl130_2
                      have HR130_5 := Aside0.mk hi130_5
                      have HC130_5 := Aside0.mk hl130_5
                      clear hi130_5 hl130_5
                      replace p130 := eq_true p130
                      replace q130 := eq_true q130
                      go_wp2
                      go_ret
                      exact ⟨by first | rfl | (simp [errW_none, errW_some] <;> rfl) | (simp [*, errW_none, errW_some] <;> rfl), by repeat (first | (with_reducible first | exact HB.out | apply below_alloc | apply pw_below_drewN | apply below_drew1 | refine below_set ?_ GE115.out) | exact HB.out)⟩
                    · rw [if_neg c70] at H
                      have c70b0 : (((rd_T41 l0_0 0).f4) == (-1)) = false := beq_eq_false_iff_ne.mpr c70
                      have c70b1 : (((rd_T41 l0_0 0).f4) != (-1)) = true := bne_iff_ne.mpr c70
                      obtain rfl := Option.some.inj H
                      have hcz72_0 : wr.cell? ⟨gb115, 0, none⟩ = some (.slice A0_0 l0_0.length c0_0) := (blk_cell BK115.out 0).trans rfl
                      have hcz72_1 : wr.cell? ⟨gb115, 1, none⟩ = some (.bool a0_1) := (blk_cell BK115.out 1).trans rfl
                      have hfz72_0 := blk_frozen BK115.out 0
                      have hfz72_1 := blk_frozen BK115.out 1
                      have p130 : 0 ≤ (0 : Int) := (by omega)
                      have q130 : 0 < (l0_0.length : Int) := of_decide_eq_true (by first | (with_reducible assumption) | assumption)
                      obtain ⟨ad130, A130_2, c130_2, A130_5, c130_5, e130, hx130_0, hx130_1, hx130_2, hx130_3, hx130_4, hx130_5, hl130_2, hi130_2, hl130_5, hi130_5⟩ := at_T41 HR0_0.out 0 p130 q130
                      cases e130
                      have qi130 : (0 < l0_0.length) = True := eq_true (by omega)
                      (try rw [show ((0 : Int)).toNat = 0 from rfl] at hx130_0)
                      (try rw [show 0 * 6 = 0 from rfl] at hx130_0)
                      (try rw [Addr.add_zero'] at hx130_0)
                      (try rw [show ((0 : Int)).toNat = 0 from rfl] at hx130_1)
                      (try rw [show 0 * 6 = 0 from rfl] at hx130_1)
                      (try rw [Addr.add_zero'] at hx130_1)
                      (try rw [show ((0 : Int)).toNat = 0 from rfl] at hx130_2)
                      (try rw [show 0 * 6 = 0 from rfl] at hx130_2)
                      (try rw [Addr.add_zero'] at hx130_2)
                      (try rw [show ((0 : Int)).toNat = 0 from rfl] at hx130_3)
                      (try rw [show 0 * 6 = 0 from rfl] at hx130_3)
                      (try rw [Addr.add_zero'] at hx130_3)
                      (try rw [show ((0 : Int)).toNat = 0 from rfl] at hx130_4)
                      (try rw [show 0 * 6 = 0 from rfl] at hx130_4)
                      (try rw [Addr.add_zero'] at hx130_4)
                      (try rw [show ((0 : Int)).toNat = 0 from rfl] at hx130_5)
                      (try rw [show 0 * 6 = 0 from rfl] at hx130_5)
                      (try rw [Addr.add_zero'] at hx130_5)
                      replace hx130_0 := (HB.out.cell (World.block_lt_of_cell? w _ hx130_0)).trans hx130_0
                      replace hx130_1 := (HB.out.cell (World.block_lt_of_cell? w _ hx130_1)).trans hx130_1
                      replace hx130_2 := (HB.out.cell (World.block_lt_of_cell? w _ hx130_2)).trans hx130_2
                      replace hx130_3 := (HB.out.cell (World.block_lt_of_cell? w _ hx130_3)).trans hx130_3
                      replace hx130_4 := (HB.out.cell (World.block_lt_of_cell? w _ hx130_4)).trans hx130_4
                      replace hx130_5 := (HB.out.cell (World.block_lt_of_cell? w _ hx130_5)).trans hx130_5
                      have HR130_2 := Aside0.mk hi130_2
                      have HC130_2 := Aside0.mk hl130_2
                      clear hi130_2 hl130_2
                      have HR130_5 := Aside0.mk hi130_5
                      have HC130_5 := Aside0.mk hl130_5
                      clear hi130_5 hl130_5
                      replace p130 := eq_true p130
                      replace q130 := eq_true q130
                      go_wp2
                      go_ret
                      exact ⟨by first | rfl | (simp [errW_none, errW_some] <;> rfl) | (simp [*, errW_none, errW_some] <;> rfl), by repeat (first | (with_reducible first | exact HB.out | apply below_alloc | apply pw_below_drewN | apply below_drew1 | refine below_set ?_ GE115.out) | exact HB.out)⟩
                  · rw [if_neg c69] at H
                    exact absurd H (by simp)
    · rw [if_neg c3] at H
      exact absurd H (by simp)
  · rw [if_neg c2] at H
    exact absurd H (by simp)

end Go.Proofs.YtdakcfacckmjcaaDoor.PDB
