-- printed by wip/tools/pr.py (own) through the kit's printer; texts GIVEN by hand stand among them
import Derived.Test.YthggdgnpphjpkaaDoorPSPx0
import Derived.Test.YthggdgnpphjpkaaDoorPSPx8
import Derived.Test.YthggdgnpphjpkaaDoorPSPx11
namespace Go.Proofs.YthggdgnpphjpkaaDoor.PSP
open Go.RowKit Go.Proofs.YthggdgnpphjpkaaDoorW.PrintWords Go.Proofs.YthggdgnpphjpkaaDoorW.PrintLast Go.Proofs.YthggdgnpphjpkaaDoorW.PrintMore
attribute [local go_sem] max2_int min2_int max_two min_two max_three min_three max_four min_four   -- for this text's walks alone
set_option linter.unusedVariables false
set_option linter.unusedSimpArgs false

/-! ### dom_TextOf: function 7 -/
def dom_TextOf.l0 : Nat → ByteArray → List Int → Int → Int → List (S37) → Bool → Option (ByteArray × Int)
  | 0, _, _, _, _, _, _ => none
  | k + 1, x7, x31, x32, x33, x304000, x304001 => if x33 < x32 then (if 0 ≤ x33 then (if x33 < (x31.length : Int) then (if 0 ≤ (rd x31 x33) then (if (rd x31 x33) < (x304000.length : Int) then (if ((rd_T37 x304000 (rd x31 x33)).f0) = 3 then (if x7.size + ((rd_T37 x304000 (rd x31 x33)).f3).size ≤ 9223372036854775807 then (dom_TextOf.l0 k (x7 ++ ((rd_T37 x304000 (rd x31 x33)).f3)) x31 x32 (wrap64 (x33 + 1)) x304000 x304001) else (none)) else (dom_TextOf.l0 k x7 x31 x32 (wrap64 (x33 + 1)) x304000 x304001)) else (none)) else (none)) else (none)) else (none)) else (some (x7, 0))
def dom_TextOf.f (k : Nat) (l0_0 : List (S37)) (a0_1 : Bool) (a1 : Int) : Option (ByteArray × Int) := (dom_ask.f k l0_0 a0_1 a1).bind fun t304 => (if t304 = 0 then (if 0 ≤ a1 then (if a1 < (l0_0.length : Int) then (if ((rd_T37 l0_0 a1).f0) = 4 then (some ((rd_T37 l0_0 a1).f3, 0)) else ((dom_walk.f k l0_0 a0_1 a1 ([] : List Int)).bind fun t307 => (dom_TextOf.l0 k (⟨#[]⟩ : ByteArray) t307 (t307.length : Int) 0 l0_0 a0_1))) else (none)) else (none)) else (some ((⟨#[]⟩ : ByteArray), t304)))
theorem dom_TextOf.mono_l : ∀ k, (∀ y0 y1 y2 y3 y4 y5, LeO (dom_TextOf.l0 k y0 y1 y2 y3 y4 y5) (dom_TextOf.l0 (k + 1) y0 y1 y2 y3 y4 y5))
  | 0 => fun _ _ _ _ _ _ r h => by simp [dom_TextOf.l0] at h
  | k + 1 => by
    have ih0 := dom_TextOf.mono_l k
    · intro y0 y1 y2 y3 y4 y5
      unfold dom_TextOf.l0
      repeat' first
      | (with_reducible exact ih0 _ _ _ _ _ _)
      | (with_reducible exact dom_ask.mono _ _ _ _)
      | (with_reducible exact dom_walk.mono _ _ _ _ _)
      | (with_reducible exact LeO.refl _)
      | (with_reducible exact LeO.none _)
      | (with_reducible refine LeO.ite ?_ ?_)
      | (with_reducible refine LeO.bind ?_ (fun _ => ?_))
      | exact ih0 _ _ _ _ _ _
      | exact dom_ask.mono _ _ _ _
      | exact dom_walk.mono _ _ _ _ _
      | exact LeO.none _
      | refine LeO.ite ?_ ?_
      | refine LeO.bind ?_ (fun _ => ?_)
theorem dom_TextOf.mono : ∀ a0 a1 a2 k, LeO (dom_TextOf.f k a0 a1 a2) (dom_TextOf.f (k + 1) a0 a1 a2) := by
  intro a0 a1 a2 k
  have ih0 := dom_TextOf.mono_l k
  unfold dom_TextOf.f
  repeat' first
      | (with_reducible exact ih0 _ _ _ _ _ _)
      | (with_reducible exact dom_ask.mono _ _ _ _)
      | (with_reducible exact dom_walk.mono _ _ _ _ _)
      | (with_reducible exact LeO.refl _)
      | (with_reducible exact LeO.none _)
      | (with_reducible refine LeO.ite ?_ ?_)
      | (with_reducible refine LeO.bind ?_ (fun _ => ?_))
      | exact ih0 _ _ _ _ _ _
      | exact dom_ask.mono _ _ _ _
      | exact dom_walk.mono _ _ _ _ _
      | exact LeO.none _
      | refine LeO.ite ?_ ?_
      | refine LeO.bind ?_ (fun _ => ?_)
set_option maxHeartbeats 8000000 in
set_option maxRecDepth 100000 in
theorem dom_TextOf.calls (k : Nat) (A0_0 : Option Addr) (c0_0 : Nat) (l0_0 : List (S37)) (a0_1 : Bool) (a1 : Int) (r1 : ByteArray) (r2 : Int) (w : World) (hr0_0 : Kd.C k37 w A0_0 l0_0.length l0_0) (hc0_0 : l0_0.length ≤ c0_0) (h : dom_TextOf.f k l0_0 a0_1 a1 = some (r1, r2)) :
    Calls Tryd.prog 7 #[.agg #[.slice A0_0 l0_0.length c0_0, .bool a0_1], .int .i64 a1] w fun e w' => e = .returned (.tuple #[.string r1, .int .i64 r2]) ∧ Below w.heap.size w w' := by
  have hu24 := Tryd.underlying24
  have HR0_0 := Aside0.mk hr0_0
  have HC0_0 := Aside0.mk hc0_0
  clear hr0_0 hc0_0
  have HB := Aside0.mk (Below.refl w.heap.size w)
  have H : ((dom_ask.f k l0_0 a0_1 a1).bind fun t304 => (if t304 = 0 then (if 0 ≤ a1 then (if a1 < (l0_0.length : Int) then (if ((rd_T37 l0_0 a1).f0) = 4 then (some ((rd_T37 l0_0 a1).f3, 0)) else ((dom_walk.f k l0_0 a0_1 a1 ([] : List Int)).bind fun t307 => (dom_TextOf.l0 k (⟨#[]⟩ : ByteArray) t307 (t307.length : Int) 0 l0_0 a0_1))) else (none)) else (none)) else (some ((⟨#[]⟩ : ByteArray), t304)))) = some (r1, r2) := h
  clear h
  replace H := Option.bind_eq_some_iff.mp H
  obtain ⟨t304, A30, H⟩ := H
  replace H : (if t304 = 0 then (if 0 ≤ a1 then (if a1 < (l0_0.length : Int) then (if ((rd_T37 l0_0 a1).f0) = 4 then (some ((rd_T37 l0_0 a1).f3, 0)) else ((dom_walk.f k l0_0 a0_1 a1 ([] : List Int)).bind fun t307 => (dom_TextOf.l0 k (⟨#[]⟩ : ByteArray) t307 (t307.length : Int) 0 l0_0 a0_1))) else (none)) else (none)) else (some ((⟨#[]⟩ : ByteArray), t304))) = some (r1, r2) := H
  have A3 := Aside0.mk A30
  clear A30
  by_cases c4 : t304 = 0
  · rw [if_pos c4] at H
    have c4b0 : (t304 == 0) = true := beq_iff_eq.mpr c4
    have c4b1 : (t304 != 0) = false := bne_eq_false_iff_eq.mpr c4
    clear c4
    by_cases c5 : 0 ≤ a1
    · rw [if_pos c5] at H
      have c5b0 : decide (0 ≤ a1) = true := decide_eq_true c5
      clear c5
      by_cases c6 : a1 < (l0_0.length : Int)
      · rw [if_pos c6] at H
        have c6b0 : decide (a1 < (l0_0.length : Int)) = true := decide_eq_true c6
        clear c6
        by_cases c7 : ((rd_T37 l0_0 a1).f0) = 4
        · rw [if_pos c7] at H
          have c7b0 : (((rd_T37 l0_0 a1).f0) == 4) = true := beq_iff_eq.mpr c7
          have c7b1 : (((rd_T37 l0_0 a1).f0) != 4) = false := bne_eq_false_iff_eq.mpr c7
          clear c7
          simp only [Option.some.injEq, Prod.mk.injEq] at H
          obtain ⟨rfl, rfl⟩ := H
          go_enter Tryd.func7, Tryd.ntmps7
          go_wp2_with (first | ((with_reducible refine gate_dst (N := 2) rfl ?_); refine box_event ?hg (N := 2) ?hd (cs := #[.slice A0_0 l0_0.length c0_0, .bool a0_1]) (t := 24) ?hr ?_; (case hd => rfl); (case hg => rfl); (case hr => first | (go_simp; done) | (go_simp; rfl)); intro gb303 hg w8 hbox hb; have n0_ := Aside0.mk (below_step bl0_ hb); have n1_ := Aside0.mk (hbox); have n2_ := Aside0.mk (gle_ (w := w) hg bl0_); have n3_ := n2_; clear HB; have HB := n0_; have BK303 := n1_; have GW303 := n2_; have GE303 := n3_; clear n0_ n1_ n2_ n3_; clear hb hbox hg; have hcz9_0 : w8.cell? ⟨gb303, 0, none⟩ = some (.slice A0_0 l0_0.length c0_0) := (blk_cell BK303.out 0).trans rfl; have hcz9_1 : w8.cell? ⟨gb303, 1, none⟩ = some (.bool a0_1) := (blk_cell BK303.out 1).trans rfl; have hfz9_0 := blk_frozen BK303.out 0; have hfz9_1 := blk_frozen BK303.out 1) | ((with_reducible refine gate_callee (f := 15) rfl ?_); refine goesL_ (some 12) rfl rfl Tryd.func15 (by kernel_rfl) rfl #[.agg #[.slice A0_0 l0_0.length c0_0, .bool a0_1], .int .i64 a1] rfl mp_ ?_; (with_reducible refine (dom_ask.calls k _ _ l0_0 a0_1 a1 t304 _ ?side1 ?side2 A3.out).mono ?_); (case side1 => repeat (first | exact (Kd.C_below HR0_0.out HB.out) | (with_reducible refine Kd.C_alloc ?_ _) | (with_reducible refine Kd.C_drewN ?_ _) | (with_reducible refine Kd.C_drew ?_))); (case side2 => exact HC0_0.out); rintro e w10 ⟨rfl, hb⟩; refine ⟨_, rfl, ?_⟩; have n0_ := Aside0.mk (blk_below (bq_ BK303.out) hb); have n1_ := Aside0.mk (below_step bl0_ hb); clear BK303; clear HB; have BK303 := n0_; have HB := n1_; clear n0_ n1_; (try clear hb); (try clear hb2); (try clear hk); (try clear hi); have hcz11_0 : w10.cell? ⟨gb303, 0, none⟩ = some (.slice A0_0 l0_0.length c0_0) := (blk_cell BK303.out 0).trans rfl; have hcz11_1 : w10.cell? ⟨gb303, 1, none⟩ = some (.bool a0_1) := (blk_cell BK303.out 1).trans rfl; have hfz11_0 := blk_frozen BK303.out 0; have hfz11_1 := blk_frozen BK303.out 1; have p305 : 0 ≤ (a1 : Int) := of_decide_eq_true as_; have q305 : a1 < (l0_0.length : Int) := of_decide_eq_true as_; obtain ⟨ad305, A305_2, c305_2, A305_5, c305_5, e305, hx305_0, hx305_1, hx305_2, hx305_3, hx305_4, hx305_5, hl305_2, hi305_2, hl305_5, hi305_5⟩ := at_T37 HR0_0.out a1 p305 q305; cases e305; replace hx305_0 := pw_cell_below HB.out hx305_0; replace hx305_1 := pw_cell_below HB.out hx305_1; replace hx305_2 := pw_cell_below HB.out hx305_2; replace hx305_3 := pw_cell_below HB.out hx305_3; replace hx305_4 := pw_cell_below HB.out hx305_4; replace hx305_5 := pw_cell_below HB.out hx305_5; have HR305_2 := Aside0.mk hi305_2; have HC305_2 := Aside0.mk hl305_2; clear hi305_2 hl305_2; have HR305_5 := Aside0.mk hi305_5; have HC305_5 := Aside0.mk hl305_5; clear hi305_5 hl305_5; replace p305 := eq_true p305; replace q305 := eq_true q305; have p306 : 0 ≤ (a1 : Int) := of_decide_eq_true as_; have q306 : a1 < (l0_0.length : Int) := of_decide_eq_true as_; obtain ⟨ad306, A306_2, c306_2, A306_5, c306_5, e306, hx306_0, hx306_1, hx306_2, hx306_3, hx306_4, hx306_5, hl306_2, hi306_2, hl306_5, hi306_5⟩ := at_T37 HR0_0.out a1 p306 q306; obtain rfl : ad305 = ad306 := (by injection e306); replace hx306_0 := pw_cell_below HB.out hx306_0; replace hx306_1 := pw_cell_below HB.out hx306_1; replace hx306_2 := pw_cell_below HB.out hx306_2; replace hx306_3 := pw_cell_below HB.out hx306_3; replace hx306_4 := pw_cell_below HB.out hx306_4; replace hx306_5 := pw_cell_below HB.out hx306_5; have HR306_2 := Aside0.mk hi306_2; have HC306_2 := Aside0.mk hl306_2; clear hi306_2 hl306_2; have HR306_5 := Aside0.mk hi306_5; have HC306_5 := Aside0.mk hl306_5; clear hi306_5 hl306_5; replace p306 := eq_true p306; replace q306 := eq_true q306; have ea_ := Option.some.inj (hx305_2.symm.trans hx306_2); injection ea_ with ea_ en_ ec_; subst ea_; subst ec_; clear en_; have ea_ := Option.some.inj (hx305_5.symm.trans hx306_5); injection ea_ with ea_ en_ ec_; subst ea_; subst ec_; clear en_))
          go_ret2
          exact ⟨er_, bl0_⟩
        · rw [if_neg c7] at H
          have c7b0 : (((rd_T37 l0_0 a1).f0) == 4) = false := beq_eq_false_iff_ne.mpr c7
          have c7b1 : (((rd_T37 l0_0 a1).f0) != 4) = true := bne_iff_ne.mpr c7
          replace H := Option.bind_eq_some_iff.mp H
          obtain ⟨t307, A120, H⟩ := H
          replace H : (dom_TextOf.l0 k (⟨#[]⟩ : ByteArray) t307 (t307.length : Int) 0 l0_0 a0_1) = some (r1, r2) := H
          have A12 := Aside0.mk A120
          clear A120
          have H' := Aside0.mk H
          clear H
          go_enter Tryd.func7, Tryd.ntmps7
          go_wp2_with (first | ((with_reducible refine gate_dst (N := 2) rfl ?_); refine box_event ?hg (N := 2) ?hd (cs := #[.slice A0_0 l0_0.length c0_0, .bool a0_1]) (t := 24) ?hr ?_; (case hd => rfl); (case hg => rfl); (case hr => first | (go_simp; done) | (go_simp; rfl)); intro gb303 hg w13 hbox hb; have n0_ := Aside0.mk (below_step bl0_ hb); have n1_ := Aside0.mk (hbox); have n2_ := Aside0.mk (gle_ (w := w) hg bl0_); have n3_ := n2_; clear HB; have HB := n0_; have BK303 := n1_; have GW303 := n2_; have GE303 := n3_; clear n0_ n1_ n2_ n3_; clear hb hbox hg; have hcz14_0 : w13.cell? ⟨gb303, 0, none⟩ = some (.slice A0_0 l0_0.length c0_0) := (blk_cell BK303.out 0).trans rfl; have hcz14_1 : w13.cell? ⟨gb303, 1, none⟩ = some (.bool a0_1) := (blk_cell BK303.out 1).trans rfl; have hfz14_0 := blk_frozen BK303.out 0; have hfz14_1 := blk_frozen BK303.out 1) | ((with_reducible refine gate_callee (f := 15) rfl ?_); refine goesL_ (some 12) rfl rfl Tryd.func15 (by kernel_rfl) rfl #[.agg #[.slice A0_0 l0_0.length c0_0, .bool a0_1], .int .i64 a1] rfl mp_ ?_; (with_reducible refine (dom_ask.calls k _ _ l0_0 a0_1 a1 t304 _ ?side1 ?side2 A3.out).mono ?_); (case side1 => repeat (first | exact (Kd.C_below HR0_0.out HB.out) | (with_reducible refine Kd.C_alloc ?_ _) | (with_reducible refine Kd.C_drewN ?_ _) | (with_reducible refine Kd.C_drew ?_))); (case side2 => exact HC0_0.out); rintro e w15 ⟨rfl, hb⟩; refine ⟨_, rfl, ?_⟩; have n0_ := Aside0.mk (blk_below (bq_ BK303.out) hb); have n1_ := Aside0.mk (below_step bl0_ hb); clear BK303; clear HB; have BK303 := n0_; have HB := n1_; clear n0_ n1_; (try clear hb); (try clear hb2); (try clear hk); (try clear hi); have hcz16_0 : w15.cell? ⟨gb303, 0, none⟩ = some (.slice A0_0 l0_0.length c0_0) := (blk_cell BK303.out 0).trans rfl; have hcz16_1 : w15.cell? ⟨gb303, 1, none⟩ = some (.bool a0_1) := (blk_cell BK303.out 1).trans rfl; have hfz16_0 := blk_frozen BK303.out 0; have hfz16_1 := blk_frozen BK303.out 1; have p305 : 0 ≤ (a1 : Int) := of_decide_eq_true as_; have q305 : a1 < (l0_0.length : Int) := of_decide_eq_true as_; obtain ⟨ad305, A305_2, c305_2, A305_5, c305_5, e305, hx305_0, hx305_1, hx305_2, hx305_3, hx305_4, hx305_5, hl305_2, hi305_2, hl305_5, hi305_5⟩ := at_T37 HR0_0.out a1 p305 q305; cases e305; replace hx305_0 := pw_cell_below HB.out hx305_0; replace hx305_1 := pw_cell_below HB.out hx305_1; replace hx305_2 := pw_cell_below HB.out hx305_2; replace hx305_3 := pw_cell_below HB.out hx305_3; replace hx305_4 := pw_cell_below HB.out hx305_4; replace hx305_5 := pw_cell_below HB.out hx305_5; have HR305_2 := Aside0.mk hi305_2; have HC305_2 := Aside0.mk hl305_2; clear hi305_2 hl305_2; have HR305_5 := Aside0.mk hi305_5; have HC305_5 := Aside0.mk hl305_5; clear hi305_5 hl305_5; replace p305 := eq_true p305; replace q305 := eq_true q305) | ((with_reducible refine gate_callee (f := 16) rfl ?_); refine goesL_ (some 31) rfl rfl Tryd.func16 (by kernel_rfl) rfl #[.agg #[.slice (some ad305) l0_0.length c0_0, .bool a0_1], .int .i64 a1, .slice none 0 0] rfl mp_ ?_; (refine (dom_walk.calls k _ _ l0_0 a0_1 a1 (fun k_ => some k_ = (.slice none 0 0 : Value).ownBlock) (.slice none 0 0) ([] : List Int) t307 w _ ?side1 ?side2 ?side3 ?side4 A12.out).mono ?_); (case side1 => repeat (first | (with_reducible first | exact HB.out | apply below_alloc | apply pw_below_drewN | apply below_drew1 | refine below_set ?_ GE303.out) | exact HB.out)); (case side2 => exact Kd.C_kept_came k37_heap HR0_0.out bl0_ (fun k_ hs_ => (fun e_ => by simp [Value.ownBlock] at e_) hs_)); (case side3 => exact HC0_0.out); (case side4 => exact Kd.R_nil _ _ _ _ _); rintro e w17 ⟨v308, rfl, ho0, hb, hkp⟩; refine ⟨_, rfl, ?_⟩; have n0_ := Aside0.mk (blk_kept (bq_ BK303.out) hkp (fun hs_ => (fun e_ => by simp [Value.ownBlock] at e_) hs_)); have n1_ := Aside0.mk (Kd.R_mono (ok' := fun k_ => True) ho0 (fun k_ hk_ => trivial)); have n2_ := Aside0.mk (hb); clear BK303; clear HB; have BK303 := n0_; have HO309 := n1_; have HB := n2_; clear n0_ n1_ n2_; (try clear hb); (try clear hkp); (try clear ho0); obtain ⟨Ao18, co18, eo18⟩ := Kd.R_slice HO309.out; subst eo18))
          go_loopg [7, 33] k (fun kq v7 v33 w' => ∃ (x7_1 : ByteArray) (x33_1 : Int), v7 = .string x7_1 ∧ v33 = .int .i64 x33_1 ∧ Aside0 (dom_TextOf.l0 kq x7_1 t307 (t307.length : Int) x33_1 l0_0 a0_1 = some (r1, r2)) ∧ Aside0 (kq ≤ k) ∧ Aside0 (Kd.R (Kd.int .i64) 3 w' w.heap.size (fun _ => True) (.slice Ao18 t307.length co18) t307) ∧ Aside0 (w'.heap[gb303]? = some (.cells #[(.slice (some ad305) l0_0.length c0_0), .bool a0_1] 24 (0, 0))) ∧ Aside0 (Below w.heap.size w w'))
          case atStart => exact ⟨((⟨#[]⟩ : ByteArray)), (0), rs_, rs_, H', ⟨Nat.le_refl _⟩, ⟨by (with_reducible repeat (first | apply Kd.R_alloc | apply Kd.R_drewN | apply Kd.R_drew)); exact HO309.out⟩, ⟨by (with_reducible repeat (first | refine blk_drewN ?_ _ | refine blk_drew ?_ | refine blk_alloc ?_ _)); exact BK303.out⟩, ⟨bl0_⟩⟩
          case round =>
            clear H'
            try clear c1
            try clear p2
            try clear c3
            try clear p3
            try clear q3
            try clear hx3
            try clear c4
            try clear c4b0
            try clear c4b1
            try clear c5
            try clear c5b0
            try clear c6
            try clear c6b0
            try clear c7
            try clear c7b0
            try clear c7b1
            try clear c15
            try clear c16
            try clear hcz11_0
            try clear hcz11_1
            try clear hcz14_0
            try clear hcz14_1
            try clear hcz16_0
            try clear hcz16_1
            try clear hcz9_0
            try clear hcz9_1
            try clear hfz11_0
            try clear hfz11_1
            try clear hfz14_0
            try clear hfz14_1
            try clear hfz16_0
            try clear hfz16_1
            try clear hfz9_0
            try clear hfz9_1
            try clear hx305_0
            try clear hx305_1
            try clear hx305_2
            try clear hx305_3
            try clear hx305_4
            try clear hx305_5
            try clear hx306_0
            try clear hx306_1
            try clear hx306_2
            try clear hx306_3
            try clear hx306_4
            try clear hx306_5
            try clear p305
            try clear p306
            try clear q305
            try clear q306
            obtain ⟨x7_1, x33_1, rfl, rfl, HA, HK1, HO_31, BK303, HB⟩ := hrel
            cases gk with
            | zero => exact absurd HA.out (by simp [dom_TextOf.l0])
            | succ k1 =>
              have H := HA.out
              clear HA
              simp only [dom_TextOf.l0] at H
              by_cases c19 : x33_1 < (t307.length : Int)
              · rw [if_pos c19] at H
                have c19b0 : decide (x33_1 < (t307.length : Int)) = true := decide_eq_true c19
                clear c19
                by_cases c20 : 0 ≤ x33_1
                · rw [if_pos c20] at H
                  have c20b0 : decide (0 ≤ x33_1) = true := decide_eq_true c20
                  clear c20
                  by_cases c21 : x33_1 < (t307.length : Int)
                  · rw [if_pos c21] at H
                    have c21b0 : decide (x33_1 < (t307.length : Int)) = true := decide_eq_true c21
                    clear c21
                    by_cases c22 : 0 ≤ (rd t307 x33_1)
                    · rw [if_pos c22] at H
                      have c22b0 : decide (0 ≤ (rd t307 x33_1)) = true := decide_eq_true c22
                      clear c22
                      by_cases c23 : (rd t307 x33_1) < (l0_0.length : Int)
                      · rw [if_pos c23] at H
                        have c23b0 : decide ((rd t307 x33_1) < (l0_0.length : Int)) = true := decide_eq_true c23
                        clear c23
                        by_cases c24 : ((rd_T37 l0_0 (rd t307 x33_1)).f0) = 3
                        · rw [if_pos c24] at H
                          have c24b0 : (((rd_T37 l0_0 (rd t307 x33_1)).f0) == 3) = true := beq_iff_eq.mpr c24
                          have c24b1 : (((rd_T37 l0_0 (rd t307 x33_1)).f0) != 3) = false := bne_eq_false_iff_eq.mpr c24
                          clear c24
                          by_cases c25 : x7_1.size + ((rd_T37 l0_0 (rd t307 x33_1)).f3).size ≤ 9223372036854775807
                          · rw [if_pos c25] at H
                            have c25b0 := eq_true c25
                            have c25b1 : decide (x7_1.size + ((rd_T37 l0_0 (rd t307 x33_1)).f3).size ≤ 9223372036854775807) = true := decide_eq_true c25
                            try have c25b2 : (9223372036854775807 < x7_1.size + ((rd_T37 l0_0 (rd t307 x33_1)).f3).size) = False := eq_false (Nat.not_lt.2 c25)
                            have H' := Aside0.mk H
                            clear H
                            have p310 : 0 ≤ (x33_1 : Int) := of_decide_eq_true as_
                            have q310 : x33_1 < (t307.length : Int) := of_decide_eq_true as_
                            obtain ⟨ad310, e310, hx310_0⟩ := Kd.at_int (Kd.R_reads' HO_31.out).2.2 x33_1 p310 q310
                            cases e310
                            replace p310 := eq_true p310
                            replace q310 := eq_true q310
                            have hcz26_0 : wr.cell? ⟨gb303, 0, none⟩ = some (.slice (some ad305) l0_0.length c0_0) := (blk_cell BK303.out 0).trans rfl
                            have hcz26_1 : wr.cell? ⟨gb303, 1, none⟩ = some (.bool a0_1) := (blk_cell BK303.out 1).trans rfl
                            have hfz26_0 := blk_frozen BK303.out 0
                            have hfz26_1 := blk_frozen BK303.out 1
                            have p311 : 0 ≤ ((rd t307 x33_1) : Int) := of_decide_eq_true as_
                            have q311 : (rd t307 x33_1) < (l0_0.length : Int) := of_decide_eq_true as_
                            obtain ⟨ad311, A311_2, c311_2, A311_5, c311_5, e311, hx311_0, hx311_1, hx311_2, hx311_3, hx311_4, hx311_5, hl311_2, hi311_2, hl311_5, hi311_5⟩ := at_T37 HR0_0.out (rd t307 x33_1) p311 q311
                            obtain rfl : ad305 = ad311 := (by injection e311)
                            replace hx311_0 := pw_cell_below HB.out hx311_0
                            replace hx311_1 := pw_cell_below HB.out hx311_1
                            replace hx311_2 := pw_cell_below HB.out hx311_2
                            replace hx311_3 := pw_cell_below HB.out hx311_3
                            replace hx311_4 := pw_cell_below HB.out hx311_4
                            replace hx311_5 := pw_cell_below HB.out hx311_5
                            have HR311_2 := Aside0.mk hi311_2
                            have HC311_2 := Aside0.mk hl311_2
                            clear hi311_2 hl311_2
                            have HR311_5 := Aside0.mk hi311_5
                            have HC311_5 := Aside0.mk hl311_5
                            clear hi311_5 hl311_5
                            replace p311 := eq_true p311
                            replace q311 := eq_true q311
                            have p312 : 0 ≤ ((rd t307 x33_1) : Int) := of_decide_eq_true as_
                            have q312 : (rd t307 x33_1) < (l0_0.length : Int) := of_decide_eq_true as_
                            obtain ⟨ad312, A312_2, c312_2, A312_5, c312_5, e312, hx312_0, hx312_1, hx312_2, hx312_3, hx312_4, hx312_5, hl312_2, hi312_2, hl312_5, hi312_5⟩ := at_T37 HR0_0.out (rd t307 x33_1) p312 q312
                            obtain rfl : ad305 = ad312 := (by injection e312)
                            replace hx312_0 := pw_cell_below HB.out hx312_0
                            replace hx312_1 := pw_cell_below HB.out hx312_1
                            replace hx312_2 := pw_cell_below HB.out hx312_2
                            replace hx312_3 := pw_cell_below HB.out hx312_3
                            replace hx312_4 := pw_cell_below HB.out hx312_4
                            replace hx312_5 := pw_cell_below HB.out hx312_5
                            have HR312_2 := Aside0.mk hi312_2
                            have HC312_2 := Aside0.mk hl312_2
                            clear hi312_2 hl312_2
                            have HR312_5 := Aside0.mk hi312_5
                            have HC312_5 := Aside0.mk hl312_5
                            clear hi312_5 hl312_5
                            replace p312 := eq_true p312
                            replace q312 := eq_true q312
                            have ea_ := Option.some.inj (hx311_2.symm.trans hx312_2)
                            injection ea_ with ea_ en_ ec_
                            subst ea_
                            subst ec_
                            clear en_
                            have ea_ := Option.some.inj (hx311_5.symm.trans hx312_5)
                            injection ea_ with ea_ en_ ec_
                            subst ea_
                            subst ec_
                            clear en_
                            go_wp2
                            go_roundg k1
                            case measure => have := HK1.out; omega
                            case rel => exact ⟨(x7_1 ++ ((rd_T37 l0_0 (rd t307 x33_1)).f3)), (wrap64 (x33_1 + 1)), rs_, rs_, H', ⟨by have := HK1.out; omega⟩, ⟨by (with_reducible repeat (first | apply Kd.R_alloc | apply Kd.R_drewN | apply Kd.R_drew)); exact HO_31.out⟩, ⟨by (with_reducible repeat (first | refine blk_drewN ?_ _ | refine blk_drew ?_ | refine blk_alloc ?_ _)); exact BK303.out⟩, ⟨bl0_⟩⟩
                          · rw [if_neg c25] at H
                            exact absurd H (by simp)
                        · rw [if_neg c24] at H
                          have c24b0 : (((rd_T37 l0_0 (rd t307 x33_1)).f0) == 3) = false := beq_eq_false_iff_ne.mpr c24
                          have c24b1 : (((rd_T37 l0_0 (rd t307 x33_1)).f0) != 3) = true := bne_iff_ne.mpr c24
                          have H' := Aside0.mk H
                          clear H
                          have p310 : 0 ≤ (x33_1 : Int) := of_decide_eq_true as_
                          have q310 : x33_1 < (t307.length : Int) := of_decide_eq_true as_
                          obtain ⟨ad310, e310, hx310_0⟩ := Kd.at_int (Kd.R_reads' HO_31.out).2.2 x33_1 p310 q310
                          cases e310
                          replace p310 := eq_true p310
                          replace q310 := eq_true q310
                          have hcz27_0 : wr.cell? ⟨gb303, 0, none⟩ = some (.slice (some ad305) l0_0.length c0_0) := (blk_cell BK303.out 0).trans rfl
                          have hcz27_1 : wr.cell? ⟨gb303, 1, none⟩ = some (.bool a0_1) := (blk_cell BK303.out 1).trans rfl
                          have hfz27_0 := blk_frozen BK303.out 0
                          have hfz27_1 := blk_frozen BK303.out 1
                          have p311 : 0 ≤ ((rd t307 x33_1) : Int) := of_decide_eq_true as_
                          have q311 : (rd t307 x33_1) < (l0_0.length : Int) := of_decide_eq_true as_
                          obtain ⟨ad311, A311_2, c311_2, A311_5, c311_5, e311, hx311_0, hx311_1, hx311_2, hx311_3, hx311_4, hx311_5, hl311_2, hi311_2, hl311_5, hi311_5⟩ := at_T37 HR0_0.out (rd t307 x33_1) p311 q311
                          obtain rfl : ad305 = ad311 := (by injection e311)
                          replace hx311_0 := pw_cell_below HB.out hx311_0
                          replace hx311_1 := pw_cell_below HB.out hx311_1
                          replace hx311_2 := pw_cell_below HB.out hx311_2
                          replace hx311_3 := pw_cell_below HB.out hx311_3
                          replace hx311_4 := pw_cell_below HB.out hx311_4
                          replace hx311_5 := pw_cell_below HB.out hx311_5
                          have HR311_2 := Aside0.mk hi311_2
                          have HC311_2 := Aside0.mk hl311_2
                          clear hi311_2 hl311_2
                          have HR311_5 := Aside0.mk hi311_5
                          have HC311_5 := Aside0.mk hl311_5
                          clear hi311_5 hl311_5
                          replace p311 := eq_true p311
                          replace q311 := eq_true q311
                          go_wp2
                          go_roundg k1
                          case measure => have := HK1.out; omega
                          case rel => exact ⟨(x7_1), (wrap64 (x33_1 + 1)), rs_, rs_, H', ⟨by have := HK1.out; omega⟩, ⟨by (with_reducible repeat (first | apply Kd.R_alloc | apply Kd.R_drewN | apply Kd.R_drew)); exact HO_31.out⟩, ⟨by (with_reducible repeat (first | refine blk_drewN ?_ _ | refine blk_drew ?_ | refine blk_alloc ?_ _)); exact BK303.out⟩, ⟨bl0_⟩⟩
                      · rw [if_neg c23] at H
                        exact absurd H (by simp)
                    · rw [if_neg c22] at H
                      exact absurd H (by simp)
                  · rw [if_neg c21] at H
                    exact absurd H (by simp)
                · rw [if_neg c20] at H
                  exact absurd H (by simp)
              · rw [if_neg c19] at H
                have c19b0 : decide (x33_1 < (t307.length : Int)) = false := decide_eq_false c19
                clear c19
                simp only [Option.some.injEq, Prod.mk.injEq] at H
                obtain ⟨rfl, rfl⟩ := H
                go_wp2
                go_ret2
                exact ⟨er_, bl0_⟩
      · rw [if_neg c6] at H
        exact absurd H (by simp)
    · rw [if_neg c5] at H
      exact absurd H (by simp)
  · rw [if_neg c4] at H
    have c4b0 : (t304 == 0) = false := beq_eq_false_iff_ne.mpr c4
    have c4b1 : (t304 != 0) = true := bne_iff_ne.mpr c4
    simp only [Option.some.injEq, Prod.mk.injEq] at H
    obtain ⟨rfl, rfl⟩ := H
    go_enter Tryd.func7, Tryd.ntmps7
    go_wp2_with (first | ((with_reducible refine gate_dst (N := 2) rfl ?_); refine box_event ?hg (N := 2) ?hd (cs := #[.slice A0_0 l0_0.length c0_0, .bool a0_1]) (t := 24) ?hr ?_; (case hd => rfl); (case hg => rfl); (case hr => first | (go_simp; done) | (go_simp; rfl)); intro gb303 hg w28 hbox hb; have n0_ := Aside0.mk (below_step bl0_ hb); have n1_ := Aside0.mk (hbox); have n2_ := Aside0.mk (gle_ (w := w) hg bl0_); have n3_ := n2_; clear HB; have HB := n0_; have BK303 := n1_; have GW303 := n2_; have GE303 := n3_; clear n0_ n1_ n2_ n3_; clear hb hbox hg; have hcz29_0 : w28.cell? ⟨gb303, 0, none⟩ = some (.slice A0_0 l0_0.length c0_0) := (blk_cell BK303.out 0).trans rfl; have hcz29_1 : w28.cell? ⟨gb303, 1, none⟩ = some (.bool a0_1) := (blk_cell BK303.out 1).trans rfl; have hfz29_0 := blk_frozen BK303.out 0; have hfz29_1 := blk_frozen BK303.out 1) | ((with_reducible refine gate_callee (f := 15) rfl ?_); refine goesL_ (some 12) rfl rfl Tryd.func15 (by kernel_rfl) rfl #[.agg #[.slice A0_0 l0_0.length c0_0, .bool a0_1], .int .i64 a1] rfl mp_ ?_; (with_reducible refine (dom_ask.calls k _ _ l0_0 a0_1 a1 t304 _ ?side1 ?side2 A3.out).mono ?_); (case side1 => repeat (first | exact (Kd.C_below HR0_0.out HB.out) | (with_reducible refine Kd.C_alloc ?_ _) | (with_reducible refine Kd.C_drewN ?_ _) | (with_reducible refine Kd.C_drew ?_))); (case side2 => exact HC0_0.out); rintro e w30 ⟨rfl, hb⟩; refine ⟨_, rfl, ?_⟩; have n0_ := Aside0.mk (blk_below (bq_ BK303.out) hb); have n1_ := Aside0.mk (below_step bl0_ hb); clear BK303; clear HB; have BK303 := n0_; have HB := n1_; clear n0_ n1_; (try clear hb); (try clear hb2); (try clear hk); (try clear hi)))
    go_ret2
    exact ⟨er_, bl0_⟩

end Go.Proofs.YthggdgnpphjpkaaDoor.PSP
