-- printed by wip/tools/pr.py (own) through the kit's printer; texts GIVEN by hand stand among them
import Derived.Test.YthggdgnpphjpkaaDoorPSPx0
import Derived.Test.YthggdgnpphjpkaaDoorPSPx6
import Derived.Test.YthggdgnpphjpkaaDoorPSPx7
import Derived.Test.YthggdgnpphjpkaaDoorPSPx8
namespace Go.Proofs.YthggdgnpphjpkaaDoor.PSP
open Go.RowKit Go.Proofs.YthggdgnpphjpkaaDoorW.PrintWords Go.Proofs.YthggdgnpphjpkaaDoorW.PrintLast Go.Proofs.YthggdgnpphjpkaaDoorW.PrintMore
attribute [local go_sem] max2_int min2_int max_two min_two max_three min_three max_four min_four   -- for this text's walks alone
set_option linter.unusedVariables false
set_option linter.unusedSimpArgs false

/-! ### span_ranger_part: function 12 -/
def span_ranger_part.j0 : Nat → Int → ByteArray → Int → Int → List (S37) → Bool → Int → Int → Int → Int → Option (ByteArray)
  | 0, _, _, _, _, _, _, _, _, _, _ => none
  | k + 1, x1, x7, x8, x9, x234000, x234001, x235000, x235001, x235002, x235003 => if x235002 = x1 then (if 0 ≤ x8 then (if x8 ≤ x235003 then (if x235003 ≤ (x7.size : Int) then (some (x7.extract (x8 : Int).toNat (x235003 : Int).toNat)) else (none)) else (none)) else (none)) else ((span_ranger_order.f k x234000 x234001 x1 0 x235002 x235003).bind fun t237 => (if t237 > 0 then (some (⟨#[]⟩ : ByteArray)) else (if 0 ≤ x8 then (if x8 ≤ x9 then (if x9 ≤ (x7.size : Int) then (some (x7.extract (x8 : Int).toNat (x9 : Int).toNat)) else (none)) else (none)) else (none))))
def span_ranger_part.f (k : Nat) (l0_0 : List (S37)) (a0_1 : Bool) (a1 : Int) (a2_0 : Int) (a2_1 : Int) (a2_2 : Int) (a2_3 : Int) : Option (ByteArray) := if 0 ≤ a1 then (if a1 < (l0_0.length : Int) then (if a2_0 = a1 then (span_ranger_part.j0 k a1 ((rd_T37 l0_0 a1).f3) a2_1 (((rd_T37 l0_0 a1).f3).size : Int) l0_0 a0_1 a2_0 a2_1 a2_2 a2_3) else ((span_ranger_order.f k l0_0 a0_1 a1 0 a2_0 a2_1).bind fun t236 => (if t236 < 0 then (some (⟨#[]⟩ : ByteArray)) else (span_ranger_part.j0 k a1 ((rd_T37 l0_0 a1).f3) 0 (((rd_T37 l0_0 a1).f3).size : Int) l0_0 a0_1 a2_0 a2_1 a2_2 a2_3)))) else (none)) else (none)
theorem span_ranger_part.mono_l : ∀ k, (∀ y0 y1 y2 y3 y4 y5 y6 y7 y8 y9, LeO (span_ranger_part.j0 k y0 y1 y2 y3 y4 y5 y6 y7 y8 y9) (span_ranger_part.j0 (k + 1) y0 y1 y2 y3 y4 y5 y6 y7 y8 y9))
  | 0 => fun _ _ _ _ _ _ _ _ _ _ r h => by simp [span_ranger_part.j0] at h
  | k + 1 => by
    have ih0 := span_ranger_part.mono_l k
    · intro y0 y1 y2 y3 y4 y5 y6 y7 y8 y9
      unfold span_ranger_part.j0
      repeat' first
      | (with_reducible exact ih0 _ _ _ _ _ _ _ _ _ _)
      | (with_reducible exact span_ranger_order.mono _ _ _ _ _ _ _)
      | (with_reducible exact LeO.refl _)
      | (with_reducible exact LeO.none _)
      | (with_reducible refine LeO.ite ?_ ?_)
      | (with_reducible refine LeO.bind ?_ (fun _ => ?_))
      | exact ih0 _ _ _ _ _ _ _ _ _ _
      | exact span_ranger_order.mono _ _ _ _ _ _ _
      | exact LeO.none _
      | refine LeO.ite ?_ ?_
      | refine LeO.bind ?_ (fun _ => ?_)
theorem span_ranger_part.mono : ∀ a0 a1 a2 a3 a4 a5 a6 k, LeO (span_ranger_part.f k a0 a1 a2 a3 a4 a5 a6) (span_ranger_part.f (k + 1) a0 a1 a2 a3 a4 a5 a6) := by
  intro a0 a1 a2 a3 a4 a5 a6 k
  have ih0 := span_ranger_part.mono_l k
  unfold span_ranger_part.f
  repeat' first
      | (with_reducible exact ih0 _ _ _ _ _ _ _ _ _ _)
      | (with_reducible exact span_ranger_order.mono _ _ _ _ _ _ _)
      | (with_reducible exact LeO.refl _)
      | (with_reducible exact LeO.none _)
      | (with_reducible refine LeO.ite ?_ ?_)
      | (with_reducible refine LeO.bind ?_ (fun _ => ?_))
      | exact ih0 _ _ _ _ _ _ _ _ _ _
      | exact span_ranger_order.mono _ _ _ _ _ _ _
      | exact LeO.none _
      | refine LeO.ite ?_ ?_
      | refine LeO.bind ?_ (fun _ => ?_)
set_option maxHeartbeats 8000000 in
set_option maxRecDepth 100000 in
theorem span_ranger_part.calls (k : Nat) (A0_0 : Option Addr) (c0_0 : Nat) (l0_0 : List (S37)) (a0_1 : Bool) (a1 : Int) (a2_0 : Int) (a2_1 : Int) (a2_2 : Int) (a2_3 : Int) (r : ByteArray) (w : World) (hr0_0 : Kd.C k37 w A0_0 l0_0.length l0_0) (hc0_0 : l0_0.length ≤ c0_0) (h : span_ranger_part.f k l0_0 a0_1 a1 a2_0 a2_1 a2_2 a2_3 = some r) :
    Calls Tryd.prog 12 #[.agg #[.slice A0_0 l0_0.length c0_0, .bool a0_1], .int .i64 a1, .agg #[.int .i64 a2_0, .int .i64 a2_1, .int .i64 a2_2, .int .i64 a2_3]] w fun e w' => e = .returned (.string r) ∧ Below w.heap.size w w' := by
  have hu43 := Tryd.underlying43
  have hu28 := Tryd.underlying28
  have hu26 := Tryd.underlying26
  have HR0_0 := Aside0.mk hr0_0
  have HC0_0 := Aside0.mk hc0_0
  clear hr0_0 hc0_0
  have HB := Aside0.mk (Below.refl w.heap.size w)
  have H : (if 0 ≤ a1 then (if a1 < (l0_0.length : Int) then (if a2_0 = a1 then (span_ranger_part.j0 k a1 ((rd_T37 l0_0 a1).f3) a2_1 (((rd_T37 l0_0 a1).f3).size : Int) l0_0 a0_1 a2_0 a2_1 a2_2 a2_3) else ((span_ranger_order.f k l0_0 a0_1 a1 0 a2_0 a2_1).bind fun t236 => (if t236 < 0 then (some (⟨#[]⟩ : ByteArray)) else (span_ranger_part.j0 k a1 ((rd_T37 l0_0 a1).f3) 0 (((rd_T37 l0_0 a1).f3).size : Int) l0_0 a0_1 a2_0 a2_1 a2_2 a2_3)))) else (none)) else (none)) = some r := h
  clear h
  by_cases c4 : 0 ≤ a1
  · rw [if_pos c4] at H
    have c4b0 : decide (0 ≤ a1) = true := decide_eq_true c4
    clear c4
    by_cases c5 : a1 < (l0_0.length : Int)
    · rw [if_pos c5] at H
      have c5b0 : decide (a1 < (l0_0.length : Int)) = true := decide_eq_true c5
      clear c5
      have HC6 := Aside0.mk H
      clear H
      go_enter Tryd.func12, Tryd.ntmps12
      go_upto_block 0 with (first | ((with_reducible refine gate_dst (N := 3) rfl ?_); refine box_event ?hg (N := 3) ?hd (cs := #[.slice A0_0 l0_0.length c0_0, .bool a0_1]) (t := 43) ?hr ?_; (case hd => rfl); (case hg => rfl); (case hr => first | (go_simp; done) | (go_simp; rfl)); intro gb233 hg w7 hbox hb; have n0_ := Aside0.mk (below_step bl0_ hb); have n1_ := Aside0.mk (hbox); have n2_ := Aside0.mk (gle_ (w := w) hg bl0_); have n3_ := n2_; clear HB; have HB := n0_; have BK233 := n1_; have GW233 := n2_; have GE233 := n3_; clear n0_ n1_ n2_ n3_; clear hb hbox hg) | ((with_reducible refine gate_dst (N := 5) rfl ?_); refine box_event ?hg (N := 5) ?hd (cs := #[.int .i64 a2_0, .int .i64 a2_1, .int .i64 a2_2, .int .i64 a2_3]) (t := 28) ?hr ?_; (case hd => rfl); (case hg => rfl); (case hr => first | (go_simp; done) | (go_simp; rfl)); intro gb234 hg w8 hbox hb; have n0_ := Aside0.mk (blk_below (bq_ BK233.out) hb); have n1_ := Aside0.mk (below_step bl0_ hb); have n2_ := Aside0.mk (hbox); have n3_ := Aside0.mk (gle_ (w := w) hg bl0_); have n4_ := n3_; have n5_ := Aside0.mk ((nlt_ hg (bq_ BK233.out))); have n6_ := Aside0.mk ((ngt_ hg (bq_ BK233.out))); clear BK233; clear HB; have BK233 := n0_; have HB := n1_; have BK234 := n2_; have GW234 := n3_; have GE234 := n4_; have NB233_234 := n5_; have NB234_233 := n6_; clear n0_ n1_ n2_ n3_ n4_ n5_ n6_; clear hb hbox hg; have hnb9 := NB233_234.out; have hnc9 := NB234_233.out; have hcz10_0 : w8.cell? ⟨gb233, 0, none⟩ = some (.slice A0_0 l0_0.length c0_0) := (blk_cell BK233.out 0).trans rfl; have hcz10_1 : w8.cell? ⟨gb233, 1, none⟩ = some (.bool a0_1) := (blk_cell BK233.out 1).trans rfl; have hfz10_0 := blk_frozen BK233.out 0; have hfz10_1 := blk_frozen BK233.out 1; have p235 : 0 ≤ (a1 : Int) := of_decide_eq_true as_; have q235 : a1 < (l0_0.length : Int) := of_decide_eq_true as_; obtain ⟨ad235, A235_2, c235_2, A235_5, c235_5, e235, hx235_0, hx235_1, hx235_2, hx235_3, hx235_4, hx235_5, hl235_2, hi235_2, hl235_5, hi235_5⟩ := at_T37 HR0_0.out a1 p235 q235; cases e235; replace hx235_0 := pw_cell_below HB.out hx235_0; replace hx235_1 := pw_cell_below HB.out hx235_1; replace hx235_2 := pw_cell_below HB.out hx235_2; replace hx235_3 := pw_cell_below HB.out hx235_3; replace hx235_4 := pw_cell_below HB.out hx235_4; replace hx235_5 := pw_cell_below HB.out hx235_5; have HR235_2 := Aside0.mk hi235_2; have HC235_2 := Aside0.mk hl235_2; clear hi235_2 hl235_2; have HR235_5 := Aside0.mk hi235_5; have HC235_5 := Aside0.mk hl235_5; clear hi235_5 hl235_5; replace p235 := eq_true p235; replace q235 := eq_true q235))
      (try simp only [Act.put, List.setIfInBounds_toArray, List.set_cons_zero, List.set_cons_succ])
      go_cut [8] (fun v8 wc => ∃ (kq : Nat) (x8_5 : Int), v8 = .int .i64 x8_5 ∧ Aside0 (span_ranger_part.j0 kq a1 ((rd_T37 l0_0 a1).f3) x8_5 (((rd_T37 l0_0 a1).f3).size : Int) l0_0 a0_1 a2_0 a2_1 a2_2 a2_3 = some r) ∧ Aside0 (kq ≤ k) ∧ Aside0 (wc.heap[gb233]? = some (.cells #[(.slice (some ad235) l0_0.length c0_0), .bool a0_1] 43 (0, 0))) ∧ Aside0 (wc.heap[gb234]? = some (.cells #[.int .i64 a2_0, .int .i64 a2_1, .int .i64 a2_2, .int .i64 a2_3] 28 (0, 0))) ∧ Aside0 (Below w.heap.size w wc))
      case first =>
        have H := HC6.out
        clear HC6
        by_cases c11 : a2_0 = a1
        · rw [if_pos c11] at H
          have c11b0 : (a2_0 == a1) = true := beq_iff_eq.mpr c11
          have c11b1 : (a2_0 != a1) = false := bne_eq_false_iff_eq.mpr c11
          clear c11
          (first | rw [c11b0] | (simp only [i64_w, i32_w]; rw [c11b0]) | skip)
          have H' := Aside0.mk H
          clear H
          have hnb12 := NB234_233.out
          have hnc12 := NB233_234.out
          have hcz13_0 : w8.cell? ⟨gb234, 0, none⟩ = some (.int .i64 a2_0) := (blk_cell BK234.out 0).trans rfl
          have hcz13_1 : w8.cell? ⟨gb234, 1, none⟩ = some (.int .i64 a2_1) := (blk_cell BK234.out 1).trans rfl
          have hcz13_2 : w8.cell? ⟨gb234, 2, none⟩ = some (.int .i64 a2_2) := (blk_cell BK234.out 2).trans rfl
          have hcz13_3 : w8.cell? ⟨gb234, 3, none⟩ = some (.int .i64 a2_3) := (blk_cell BK234.out 3).trans rfl
          have hfz13_0 := blk_frozen BK234.out 0
          have hfz13_1 := blk_frozen BK234.out 1
          have hfz13_2 := blk_frozen BK234.out 2
          have hfz13_3 := blk_frozen BK234.out 3
          go_wp2
          go_meet
          case rel => exact ⟨_, (a2_1), rs_, H', ⟨by first | omega | exact Nat.le_refl _⟩, ⟨by (with_reducible repeat (first | refine blk_drewN ?_ _ | refine blk_drew ?_ | refine blk_alloc ?_ _)); exact BK233.out⟩, ⟨by (with_reducible repeat (first | refine blk_drewN ?_ _ | refine blk_drew ?_ | refine blk_alloc ?_ _)); exact BK234.out⟩, ⟨bl0_⟩⟩
        · rw [if_neg c11] at H
          have c11b0 : (a2_0 == a1) = false := beq_eq_false_iff_ne.mpr c11
          have c11b1 : (a2_0 != a1) = true := bne_iff_ne.mpr c11
          (first | rw [c11b0] | (simp only [i64_w, i32_w]; rw [c11b0]) | skip)
          replace H := Option.bind_eq_some_iff.mp H
          obtain ⟨t236, A140, H⟩ := H
          replace H : (if t236 < 0 then (some (⟨#[]⟩ : ByteArray)) else (span_ranger_part.j0 k a1 ((rd_T37 l0_0 a1).f3) 0 (((rd_T37 l0_0 a1).f3).size : Int) l0_0 a0_1 a2_0 a2_1 a2_2 a2_3)) = some r := H
          have A14 := Aside0.mk A140
          clear A140
          by_cases c15 : t236 < 0
          · rw [if_pos c15] at H
            have c15b0 : decide (t236 < 0) = true := decide_eq_true c15
            clear c15
            obtain rfl := Option.some.inj H
            have hnb16 := NB234_233.out
            have hnc16 := NB233_234.out
            have hcz17_0 : w8.cell? ⟨gb234, 0, none⟩ = some (.int .i64 a2_0) := (blk_cell BK234.out 0).trans rfl
            have hcz17_1 : w8.cell? ⟨gb234, 1, none⟩ = some (.int .i64 a2_1) := (blk_cell BK234.out 1).trans rfl
            have hcz17_2 : w8.cell? ⟨gb234, 2, none⟩ = some (.int .i64 a2_2) := (blk_cell BK234.out 2).trans rfl
            have hcz17_3 : w8.cell? ⟨gb234, 3, none⟩ = some (.int .i64 a2_3) := (blk_cell BK234.out 3).trans rfl
            have hfz17_0 := blk_frozen BK234.out 0
            have hfz17_1 := blk_frozen BK234.out 1
            have hfz17_2 := blk_frozen BK234.out 2
            have hfz17_3 := blk_frozen BK234.out 3
            have hcz18_0 : w8.cell? ⟨gb233, 0, none⟩ = some (.slice (some ad235) l0_0.length c0_0) := (blk_cell BK233.out 0).trans rfl
            have hcz18_1 : w8.cell? ⟨gb233, 1, none⟩ = some (.bool a0_1) := (blk_cell BK233.out 1).trans rfl
            have hfz18_0 := blk_frozen BK233.out 0
            have hfz18_1 := blk_frozen BK233.out 1
            go_wp2_with (first | ((with_reducible refine gate_callee (f := 18) rfl ?_); refine goesL_ (some 34) rfl rfl Tryd.func18 (by kernel_rfl) rfl #[.agg #[.slice (some ad235) l0_0.length c0_0, .bool a0_1], .agg #[.int .i64 a1, .int .i64 0], .agg #[.int .i64 a2_0, .int .i64 a2_1]] rfl mp_ ?_; (with_reducible refine (span_ranger_order.calls k _ _ l0_0 a0_1 a1 0 a2_0 a2_1 t236 _ ?side1 ?side2 A14.out).mono ?_); (case side1 => repeat (first | exact (Kd.C_below HR0_0.out HB.out) | (with_reducible refine Kd.C_alloc ?_ _) | (with_reducible refine Kd.C_drewN ?_ _) | (with_reducible refine Kd.C_drew ?_))); (case side2 => exact HC0_0.out); rintro e w19 ⟨rfl, hb⟩; refine ⟨_, rfl, ?_⟩; have n0_ := Aside0.mk (blk_below (bq_ BK233.out) hb); have n1_ := Aside0.mk (blk_below (bq_ BK234.out) hb); have n2_ := Aside0.mk (below_step bl0_ hb); clear BK233; clear BK234; clear HB; have BK233 := n0_; have BK234 := n1_; have HB := n2_; clear n0_ n1_ n2_; (try clear hb); (try clear hb2); (try clear hk); (try clear hi)))
            go_ret
            exact ⟨er_, bl0_⟩
          · rw [if_neg c15] at H
            have c15b0 : decide (t236 < 0) = false := decide_eq_false c15
            clear c15
            have H' := Aside0.mk H
            clear H
            have hnb20 := NB234_233.out
            have hnc20 := NB233_234.out
            have hcz21_0 : w8.cell? ⟨gb234, 0, none⟩ = some (.int .i64 a2_0) := (blk_cell BK234.out 0).trans rfl
            have hcz21_1 : w8.cell? ⟨gb234, 1, none⟩ = some (.int .i64 a2_1) := (blk_cell BK234.out 1).trans rfl
            have hcz21_2 : w8.cell? ⟨gb234, 2, none⟩ = some (.int .i64 a2_2) := (blk_cell BK234.out 2).trans rfl
            have hcz21_3 : w8.cell? ⟨gb234, 3, none⟩ = some (.int .i64 a2_3) := (blk_cell BK234.out 3).trans rfl
            have hfz21_0 := blk_frozen BK234.out 0
            have hfz21_1 := blk_frozen BK234.out 1
            have hfz21_2 := blk_frozen BK234.out 2
            have hfz21_3 := blk_frozen BK234.out 3
            have hcz22_0 : w8.cell? ⟨gb233, 0, none⟩ = some (.slice (some ad235) l0_0.length c0_0) := (blk_cell BK233.out 0).trans rfl
            have hcz22_1 : w8.cell? ⟨gb233, 1, none⟩ = some (.bool a0_1) := (blk_cell BK233.out 1).trans rfl
            have hfz22_0 := blk_frozen BK233.out 0
            have hfz22_1 := blk_frozen BK233.out 1
            go_wp2_with (first | ((with_reducible refine gate_callee (f := 18) rfl ?_); refine goesL_ (some 34) rfl rfl Tryd.func18 (by kernel_rfl) rfl #[.agg #[.slice (some ad235) l0_0.length c0_0, .bool a0_1], .agg #[.int .i64 a1, .int .i64 0], .agg #[.int .i64 a2_0, .int .i64 a2_1]] rfl mp_ ?_; (with_reducible refine (span_ranger_order.calls k _ _ l0_0 a0_1 a1 0 a2_0 a2_1 t236 _ ?side1 ?side2 A14.out).mono ?_); (case side1 => repeat (first | exact (Kd.C_below HR0_0.out HB.out) | (with_reducible refine Kd.C_alloc ?_ _) | (with_reducible refine Kd.C_drewN ?_ _) | (with_reducible refine Kd.C_drew ?_))); (case side2 => exact HC0_0.out); rintro e w23 ⟨rfl, hb⟩; refine ⟨_, rfl, ?_⟩; have n0_ := Aside0.mk (blk_below (bq_ BK233.out) hb); have n1_ := Aside0.mk (blk_below (bq_ BK234.out) hb); have n2_ := Aside0.mk (below_step bl0_ hb); clear BK233; clear BK234; clear HB; have BK233 := n0_; have BK234 := n1_; have HB := n2_; clear n0_ n1_ n2_; (try clear hb); (try clear hb2); (try clear hk); (try clear hi)))
            go_meet
            case rel => exact ⟨_, (0), rs_, H', ⟨by first | omega | exact Nat.le_refl _⟩, ⟨by (with_reducible repeat (first | refine blk_drewN ?_ _ | refine blk_drew ?_ | refine blk_alloc ?_ _)); exact BK233.out⟩, ⟨by (with_reducible repeat (first | refine blk_drewN ?_ _ | refine blk_drew ?_ | refine blk_alloc ?_ _)); exact BK234.out⟩, ⟨bl0_⟩⟩
      case rest =>
        clear HC6
        try clear c1
        try clear c2
        try clear p2
        try clear q2
        try clear hx2
        try clear c4
        try clear c4b0
        try clear c5
        try clear c5b0
        try clear c9
        try clear c11
        try clear c11b0
        try clear c11b1
        try clear c12
        try clear c15
        try clear c15b0
        try clear c16
        try clear c18
        try clear c20
        try clear c23
        try clear p23
        try clear q23
        try clear hx23
        try clear hcz10_0
        try clear hcz10_1
        try clear hcz13_0
        try clear hcz13_1
        try clear hcz13_2
        try clear hcz13_3
        try clear hcz17_0
        try clear hcz17_1
        try clear hcz17_2
        try clear hcz17_3
        try clear hcz18_0
        try clear hcz18_1
        try clear hcz21_0
        try clear hcz21_1
        try clear hcz21_2
        try clear hcz21_3
        try clear hcz22_0
        try clear hcz22_1
        try clear hfz10_0
        try clear hfz10_1
        try clear hfz13_0
        try clear hfz13_1
        try clear hfz13_2
        try clear hfz13_3
        try clear hfz17_0
        try clear hfz17_1
        try clear hfz17_2
        try clear hfz17_3
        try clear hfz18_0
        try clear hfz18_1
        try clear hfz21_0
        try clear hfz21_1
        try clear hfz21_2
        try clear hfz21_3
        try clear hfz22_0
        try clear hfz22_1
        try clear hx235_0
        try clear hx235_1
        try clear hx235_2
        try clear hx235_3
        try clear hx235_4
        try clear hx235_5
        try clear p235
        try clear q235
        obtain ⟨kq, x8_5, rfl, HA, HJ5, BK233, BK234, HB⟩ := hcut
        cases kq with
        | zero => exact absurd HA.out (by simp [span_ranger_part.j0])
        | succ kj5 =>
          have H := HA.out
          clear HA
          simp only [span_ranger_part.j0] at H
          by_cases c24 : a2_2 = a1
          · rw [if_pos c24] at H
            have c24b0 : (a2_2 == a1) = true := beq_iff_eq.mpr c24
            have c24b1 : (a2_2 != a1) = false := bne_eq_false_iff_eq.mpr c24
            clear c24
            by_cases c25 : 0 ≤ x8_5
            · rw [if_pos c25] at H
              have c25b0 := eq_true c25
              have c25b1 : decide (0 ≤ x8_5) = true := decide_eq_true c25
              clear c25
              by_cases c26 : x8_5 ≤ a2_3
              · rw [if_pos c26] at H
                have c26b0 := eq_true c26
                have c26b1 : decide (x8_5 ≤ a2_3) = true := decide_eq_true c26
                clear c26
                by_cases c27 : a2_3 ≤ (((rd_T37 l0_0 a1).f3).size : Int)
                · rw [if_pos c27] at H
                  have c27b0 := eq_true c27
                  have c27b1 : decide (a2_3 ≤ (((rd_T37 l0_0 a1).f3).size : Int)) = true := decide_eq_true c27
                  clear c27
                  obtain rfl := Option.some.inj H
                  have hnb28 := NB234_233.out
                  have hnc28 := NB233_234.out
                  have hcz29_0 : wc.cell? ⟨gb234, 0, none⟩ = some (.int .i64 a2_0) := (blk_cell BK234.out 0).trans rfl
                  have hcz29_1 : wc.cell? ⟨gb234, 1, none⟩ = some (.int .i64 a2_1) := (blk_cell BK234.out 1).trans rfl
                  have hcz29_2 : wc.cell? ⟨gb234, 2, none⟩ = some (.int .i64 a2_2) := (blk_cell BK234.out 2).trans rfl
                  have hcz29_3 : wc.cell? ⟨gb234, 3, none⟩ = some (.int .i64 a2_3) := (blk_cell BK234.out 3).trans rfl
                  have hfz29_0 := blk_frozen BK234.out 0
                  have hfz29_1 := blk_frozen BK234.out 1
                  have hfz29_2 := blk_frozen BK234.out 2
                  have hfz29_3 := blk_frozen BK234.out 3
                  go_wp2
                  go_ret
                  exact ⟨er_, bl0_⟩
                · rw [if_neg c27] at H
                  exact absurd H (by simp)
              · rw [if_neg c26] at H
                exact absurd H (by simp)
            · rw [if_neg c25] at H
              exact absurd H (by simp)
          · rw [if_neg c24] at H
            have c24b0 : (a2_2 == a1) = false := beq_eq_false_iff_ne.mpr c24
            have c24b1 : (a2_2 != a1) = true := bne_iff_ne.mpr c24
            replace H := Option.bind_eq_some_iff.mp H
            obtain ⟨t237, A300, H⟩ := H
            replace H : (if t237 > 0 then (some (⟨#[]⟩ : ByteArray)) else (if 0 ≤ x8_5 then (if x8_5 ≤ (((rd_T37 l0_0 a1).f3).size : Int) then (if (((rd_T37 l0_0 a1).f3).size : Int) ≤ (((rd_T37 l0_0 a1).f3).size : Int) then (some (((rd_T37 l0_0 a1).f3).extract (x8_5 : Int).toNat ((((rd_T37 l0_0 a1).f3).size : Int) : Int).toNat)) else (none)) else (none)) else (none))) = some r := H
            have A30 := Aside0.mk A300
            clear A300
            by_cases c31 : t237 > 0
            · rw [if_pos c31] at H
              have c31b0 : decide (0 < t237) = true := decide_eq_true c31
              clear c31
              obtain rfl := Option.some.inj H
              have hnb32 := NB234_233.out
              have hnc32 := NB233_234.out
              have hcz33_0 : wc.cell? ⟨gb234, 0, none⟩ = some (.int .i64 a2_0) := (blk_cell BK234.out 0).trans rfl
              have hcz33_1 : wc.cell? ⟨gb234, 1, none⟩ = some (.int .i64 a2_1) := (blk_cell BK234.out 1).trans rfl
              have hcz33_2 : wc.cell? ⟨gb234, 2, none⟩ = some (.int .i64 a2_2) := (blk_cell BK234.out 2).trans rfl
              have hcz33_3 : wc.cell? ⟨gb234, 3, none⟩ = some (.int .i64 a2_3) := (blk_cell BK234.out 3).trans rfl
              have hfz33_0 := blk_frozen BK234.out 0
              have hfz33_1 := blk_frozen BK234.out 1
              have hfz33_2 := blk_frozen BK234.out 2
              have hfz33_3 := blk_frozen BK234.out 3
              have hcz34_0 : wc.cell? ⟨gb233, 0, none⟩ = some (.slice (some ad235) l0_0.length c0_0) := (blk_cell BK233.out 0).trans rfl
              have hcz34_1 : wc.cell? ⟨gb233, 1, none⟩ = some (.bool a0_1) := (blk_cell BK233.out 1).trans rfl
              have hfz34_0 := blk_frozen BK233.out 0
              have hfz34_1 := blk_frozen BK233.out 1
              go_wp2_with (first | ((with_reducible refine gate_callee (f := 18) rfl ?_); refine goesL_ (some 51) rfl rfl Tryd.func18 (by kernel_rfl) rfl #[.agg #[.slice (some ad235) l0_0.length c0_0, .bool a0_1], .agg #[.int .i64 a1, .int .i64 0], .agg #[.int .i64 a2_2, .int .i64 a2_3]] rfl mp_ ?_; (with_reducible refine (span_ranger_order.calls kj5 _ _ l0_0 a0_1 a1 0 a2_2 a2_3 t237 _ ?side1 ?side2 A30.out).mono ?_); (case side1 => repeat (first | exact (Kd.C_below HR0_0.out HB.out) | (with_reducible refine Kd.C_alloc ?_ _) | (with_reducible refine Kd.C_drewN ?_ _) | (with_reducible refine Kd.C_drew ?_))); (case side2 => exact HC0_0.out); rintro e w35 ⟨rfl, hb⟩; refine ⟨_, rfl, ?_⟩; have n0_ := Aside0.mk (blk_below (bq_ BK233.out) hb); have n1_ := Aside0.mk (blk_below (bq_ BK234.out) hb); have n2_ := Aside0.mk (below_step bl0_ hb); clear BK233; clear BK234; clear HB; have BK233 := n0_; have BK234 := n1_; have HB := n2_; clear n0_ n1_ n2_; (try clear hb); (try clear hb2); (try clear hk); (try clear hi)))
              go_ret
              exact ⟨er_, bl0_⟩
            · rw [if_neg c31] at H
              have c31b0 : decide (0 < t237) = false := decide_eq_false c31
              clear c31
              by_cases c36 : 0 ≤ x8_5
              · rw [if_pos c36] at H
                have c36b0 := eq_true c36
                have c36b1 : decide (0 ≤ x8_5) = true := decide_eq_true c36
                clear c36
                by_cases c37 : x8_5 ≤ (((rd_T37 l0_0 a1).f3).size : Int)
                · rw [if_pos c37] at H
                  have c37b0 := eq_true c37
                  have c37b1 : decide (x8_5 ≤ (((rd_T37 l0_0 a1).f3).size : Int)) = true := decide_eq_true c37
                  clear c37
                  by_cases c38 : (((rd_T37 l0_0 a1).f3).size : Int) ≤ (((rd_T37 l0_0 a1).f3).size : Int)
                  · rw [if_pos c38] at H
                    have c38b0 := eq_true c38
                    have c38b1 : decide ((((rd_T37 l0_0 a1).f3).size : Int) ≤ (((rd_T37 l0_0 a1).f3).size : Int)) = true := decide_eq_true c38
                    clear c38
                    obtain rfl := Option.some.inj H
                    have hnb39 := NB234_233.out
                    have hnc39 := NB233_234.out
                    have hcz40_0 : wc.cell? ⟨gb234, 0, none⟩ = some (.int .i64 a2_0) := (blk_cell BK234.out 0).trans rfl
                    have hcz40_1 : wc.cell? ⟨gb234, 1, none⟩ = some (.int .i64 a2_1) := (blk_cell BK234.out 1).trans rfl
                    have hcz40_2 : wc.cell? ⟨gb234, 2, none⟩ = some (.int .i64 a2_2) := (blk_cell BK234.out 2).trans rfl
                    have hcz40_3 : wc.cell? ⟨gb234, 3, none⟩ = some (.int .i64 a2_3) := (blk_cell BK234.out 3).trans rfl
                    have hfz40_0 := blk_frozen BK234.out 0
                    have hfz40_1 := blk_frozen BK234.out 1
                    have hfz40_2 := blk_frozen BK234.out 2
                    have hfz40_3 := blk_frozen BK234.out 3
                    have hcz41_0 : wc.cell? ⟨gb233, 0, none⟩ = some (.slice (some ad235) l0_0.length c0_0) := (blk_cell BK233.out 0).trans rfl
                    have hcz41_1 : wc.cell? ⟨gb233, 1, none⟩ = some (.bool a0_1) := (blk_cell BK233.out 1).trans rfl
                    have hfz41_0 := blk_frozen BK233.out 0
                    have hfz41_1 := blk_frozen BK233.out 1
                    go_wp2_with (first | ((with_reducible refine gate_callee (f := 18) rfl ?_); refine goesL_ (some 51) rfl rfl Tryd.func18 (by kernel_rfl) rfl #[.agg #[.slice (some ad235) l0_0.length c0_0, .bool a0_1], .agg #[.int .i64 a1, .int .i64 0], .agg #[.int .i64 a2_2, .int .i64 a2_3]] rfl mp_ ?_; (with_reducible refine (span_ranger_order.calls kj5 _ _ l0_0 a0_1 a1 0 a2_2 a2_3 t237 _ ?side1 ?side2 A30.out).mono ?_); (case side1 => repeat (first | exact (Kd.C_below HR0_0.out HB.out) | (with_reducible refine Kd.C_alloc ?_ _) | (with_reducible refine Kd.C_drewN ?_ _) | (with_reducible refine Kd.C_drew ?_))); (case side2 => exact HC0_0.out); rintro e w42 ⟨rfl, hb⟩; refine ⟨_, rfl, ?_⟩; have n0_ := Aside0.mk (blk_below (bq_ BK233.out) hb); have n1_ := Aside0.mk (blk_below (bq_ BK234.out) hb); have n2_ := Aside0.mk (below_step bl0_ hb); clear BK233; clear BK234; clear HB; have BK233 := n0_; have BK234 := n1_; have HB := n2_; clear n0_ n1_ n2_; (try clear hb); (try clear hb2); (try clear hk); (try clear hi)))
                    go_ret
                    exact ⟨er_, bl0_⟩
                  · rw [if_neg c38] at H
                    exact absurd H (by simp)
                · rw [if_neg c37] at H
                  exact absurd H (by simp)
              · rw [if_neg c36] at H
                exact absurd H (by simp)
    · rw [if_neg c5] at H
      exact absurd H (by simp)
  · rw [if_neg c4] at H
    exact absurd H (by simp)

/-! ### span_Text: function 5 -/
def span_Text.l0 : Nat → ByteArray → List Int → Int → Int → List (S37) → Bool → Int → Int → Int → Int → List (S37) → Bool → Option (ByteArray × Int)
  | 0, _, _, _, _, _, _, _, _, _, _, _, _ => none
  | k + 1, x10, x27, x28, x29, x239000, x239001, x240000, x240001, x240002, x240003, x246000, x246001 => if x29 < x28 then (if 0 ≤ x29 then (if x29 < (x27.length : Int) then (if 0 ≤ (rd x27 x29) then (if (rd x27 x29) < (x239000.length : Int) then (if ((rd_T37 x239000 (rd x27 x29)).f0) = 3 then ((span_ranger_part.f k x246000 x246001 (rd x27 x29) x240000 x240001 x240002 x240003).bind fun t252 => (if x10.size + t252.size ≤ 9223372036854775807 then (span_Text.l0 k (x10 ++ t252) x27 x28 (wrap64 (x29 + 1)) x239000 x239001 x240000 x240001 x240002 x240003 x246000 x246001) else (none))) else (span_Text.l0 k x10 x27 x28 (wrap64 (x29 + 1)) x239000 x239001 x240000 x240001 x240002 x240003 x246000 x246001)) else (none)) else (none)) else (none)) else (none)) else (some (x10, 0))
def span_Text.f (k : Nat) (l0_0 : List (S37)) (a0_1 : Bool) (a1_0 : Int) (a1_1 : Int) (a1_2 : Int) (a1_3 : Int) : Option (ByteArray × Int) := (span_span.f k l0_0 a0_1 a1_0 a1_1 a1_2 a1_3).bind fun bt240 => (if bt240.2.2 = 0 then ((dom_Order.f k l0_0 a0_1).bind fun bt246 => (span_Text.l0 k (⟨#[]⟩ : ByteArray) bt246.1 (bt246.1.length : Int) 0 l0_0 a0_1 a1_0 a1_1 a1_2 a1_3 bt240.1 bt240.2.1)) else (some ((⟨#[]⟩ : ByteArray), bt240.2.2)))
theorem span_Text.mono_l : ∀ k, (∀ y0 y1 y2 y3 y4 y5 y6 y7 y8 y9 y10 y11, LeO (span_Text.l0 k y0 y1 y2 y3 y4 y5 y6 y7 y8 y9 y10 y11) (span_Text.l0 (k + 1) y0 y1 y2 y3 y4 y5 y6 y7 y8 y9 y10 y11))
  | 0 => fun _ _ _ _ _ _ _ _ _ _ _ _ r h => by simp [span_Text.l0] at h
  | k + 1 => by
    have ih0 := span_Text.mono_l k
    · intro y0 y1 y2 y3 y4 y5 y6 y7 y8 y9 y10 y11
      unfold span_Text.l0
      repeat' first
      | (with_reducible exact ih0 _ _ _ _ _ _ _ _ _ _ _ _)
      | (with_reducible exact dom_Order.mono _ _ _)
      | (with_reducible exact span_ranger_part.mono _ _ _ _ _ _ _ _)
      | (with_reducible exact span_span.mono _ _ _ _ _ _ _)
      | (with_reducible exact LeO.refl _)
      | (with_reducible exact LeO.none _)
      | (with_reducible refine LeO.ite ?_ ?_)
      | (with_reducible refine LeO.bind ?_ (fun _ => ?_))
      | exact ih0 _ _ _ _ _ _ _ _ _ _ _ _
      | exact dom_Order.mono _ _ _
      | exact span_ranger_part.mono _ _ _ _ _ _ _ _
      | exact span_span.mono _ _ _ _ _ _ _
      | exact LeO.none _
      | refine LeO.ite ?_ ?_
      | refine LeO.bind ?_ (fun _ => ?_)
theorem span_Text.mono : ∀ a0 a1 a2 a3 a4 a5 k, LeO (span_Text.f k a0 a1 a2 a3 a4 a5) (span_Text.f (k + 1) a0 a1 a2 a3 a4 a5) := by
  intro a0 a1 a2 a3 a4 a5 k
  have ih0 := span_Text.mono_l k
  unfold span_Text.f
  repeat' first
      | (with_reducible exact ih0 _ _ _ _ _ _ _ _ _ _ _ _)
      | (with_reducible exact dom_Order.mono _ _ _)
      | (with_reducible exact span_ranger_part.mono _ _ _ _ _ _ _ _)
      | (with_reducible exact span_span.mono _ _ _ _ _ _ _)
      | (with_reducible exact LeO.refl _)
      | (with_reducible exact LeO.none _)
      | (with_reducible refine LeO.ite ?_ ?_)
      | (with_reducible refine LeO.bind ?_ (fun _ => ?_))
      | exact ih0 _ _ _ _ _ _ _ _ _ _ _ _
      | exact dom_Order.mono _ _ _
      | exact span_ranger_part.mono _ _ _ _ _ _ _ _
      | exact span_span.mono _ _ _ _ _ _ _
      | exact LeO.none _
      | refine LeO.ite ?_ ?_
      | refine LeO.bind ?_ (fun _ => ?_)
set_option maxHeartbeats 8000000 in
set_option maxRecDepth 100000 in
theorem span_Text.calls (k : Nat) (A0_0 : Option Addr) (c0_0 : Nat) (l0_0 : List (S37)) (a0_1 : Bool) (a1_0 : Int) (a1_1 : Int) (a1_2 : Int) (a1_3 : Int) (r1 : ByteArray) (r2 : Int) (w : World) (hr0_0 : Kd.C k37 w A0_0 l0_0.length l0_0) (hc0_0 : l0_0.length ≤ c0_0) (h : span_Text.f k l0_0 a0_1 a1_0 a1_1 a1_2 a1_3 = some (r1, r2)) :
    Calls Tryd.prog 5 #[.agg #[.slice A0_0 l0_0.length c0_0, .bool a0_1], .agg #[.int .i64 a1_0, .int .i64 a1_1, .int .i64 a1_2, .int .i64 a1_3]] w fun e w' => e = .returned (.tuple #[.string r1, .int .i64 r2]) ∧ Below w.heap.size w w' := by
  have hu24 := Tryd.underlying24
  have hu28 := Tryd.underlying28
  have hu43 := Tryd.underlying43
  have HR0_0 := Aside0.mk hr0_0
  have HC0_0 := Aside0.mk hc0_0
  clear hr0_0 hc0_0
  have HB := Aside0.mk (Below.refl w.heap.size w)
  have H : ((span_span.f k l0_0 a0_1 a1_0 a1_1 a1_2 a1_3).bind fun bt240 => (if bt240.2.2 = 0 then ((dom_Order.f k l0_0 a0_1).bind fun bt246 => (span_Text.l0 k (⟨#[]⟩ : ByteArray) bt246.1 (bt246.1.length : Int) 0 l0_0 a0_1 a1_0 a1_1 a1_2 a1_3 bt240.1 bt240.2.1)) else (some ((⟨#[]⟩ : ByteArray), bt240.2.2)))) = some (r1, r2) := h
  clear h
  replace H := Option.bind_eq_some_iff.mp H
  obtain ⟨⟨t240, t243, t244⟩, A30, H⟩ := H
  replace H : (if t244 = 0 then ((dom_Order.f k l0_0 a0_1).bind fun bt246 => (span_Text.l0 k (⟨#[]⟩ : ByteArray) bt246.1 (bt246.1.length : Int) 0 l0_0 a0_1 a1_0 a1_1 a1_2 a1_3 t240 t243)) else (some ((⟨#[]⟩ : ByteArray), t244))) = some (r1, r2) := H
  have A3 := Aside0.mk A30
  clear A30
  by_cases c4 : t244 = 0
  · rw [if_pos c4] at H
    have c4b0 : (t244 == 0) = true := beq_iff_eq.mpr c4
    have c4b1 : (t244 != 0) = false := bne_eq_false_iff_eq.mpr c4
    clear c4
    replace H := Option.bind_eq_some_iff.mp H
    obtain ⟨⟨t246, t249⟩, A50, H⟩ := H
    replace H : (span_Text.l0 k (⟨#[]⟩ : ByteArray) t246 (t246.length : Int) 0 l0_0 a0_1 a1_0 a1_1 a1_2 a1_3 t240 t243) = some (r1, r2) := H
    have A5 := Aside0.mk A50
    clear A50
    have H' := Aside0.mk H
    clear H
    go_enter Tryd.func5, Tryd.ntmps5
    go_wp2_with (first | ((with_reducible refine gate_dst (N := 2) rfl ?_); refine box_event ?hg (N := 2) ?hd (cs := #[.slice A0_0 l0_0.length c0_0, .bool a0_1]) (t := 24) ?hr ?_; (case hd => rfl); (case hg => rfl); (case hr => first | (go_simp; done) | (go_simp; rfl)); intro gb238 hg w6 hbox hb; have n0_ := Aside0.mk (below_step bl0_ hb); have n1_ := Aside0.mk (hbox); have n2_ := Aside0.mk (gle_ (w := w) hg bl0_); have n3_ := n2_; clear HB; have HB := n0_; have BK238 := n1_; have GW238 := n2_; have GE238 := n3_; clear n0_ n1_ n2_ n3_; clear hb hbox hg) | ((with_reducible refine gate_dst (N := 3) rfl ?_); refine box_event ?hg (N := 3) ?hd (cs := #[.int .i64 a1_0, .int .i64 a1_1, .int .i64 a1_2, .int .i64 a1_3]) (t := 28) ?hr ?_; (case hd => rfl); (case hg => rfl); (case hr => first | (go_simp; done) | (go_simp; rfl)); intro gb239 hg w7 hbox hb; have n0_ := Aside0.mk (blk_below (bq_ BK238.out) hb); have n1_ := Aside0.mk (below_step bl0_ hb); have n2_ := Aside0.mk (hbox); have n3_ := Aside0.mk (gle_ (w := w) hg bl0_); have n4_ := n3_; have n5_ := Aside0.mk ((nlt_ hg (bq_ BK238.out))); have n6_ := Aside0.mk ((ngt_ hg (bq_ BK238.out))); clear BK238; clear HB; have BK238 := n0_; have HB := n1_; have BK239 := n2_; have GW239 := n3_; have GE239 := n4_; have NB238_239 := n5_; have NB239_238 := n6_; clear n0_ n1_ n2_ n3_ n4_ n5_ n6_; clear hb hbox hg; have hnb8 := NB238_239.out; have hnc8 := NB239_238.out; have hcz9_0 : w7.cell? ⟨gb238, 0, none⟩ = some (.slice A0_0 l0_0.length c0_0) := (blk_cell BK238.out 0).trans rfl; have hcz9_1 : w7.cell? ⟨gb238, 1, none⟩ = some (.bool a0_1) := (blk_cell BK238.out 1).trans rfl; have hfz9_0 := blk_frozen BK238.out 0; have hfz9_1 := blk_frozen BK238.out 1; have hcz10_0 : w7.cell? ⟨gb239, 0, none⟩ = some (.int .i64 a1_0) := (blk_cell BK239.out 0).trans rfl; have hcz10_1 : w7.cell? ⟨gb239, 1, none⟩ = some (.int .i64 a1_1) := (blk_cell BK239.out 1).trans rfl; have hcz10_2 : w7.cell? ⟨gb239, 2, none⟩ = some (.int .i64 a1_2) := (blk_cell BK239.out 2).trans rfl; have hcz10_3 : w7.cell? ⟨gb239, 3, none⟩ = some (.int .i64 a1_3) := (blk_cell BK239.out 3).trans rfl; have hfz10_0 := blk_frozen BK239.out 0; have hfz10_1 := blk_frozen BK239.out 1; have hfz10_2 := blk_frozen BK239.out 2; have hfz10_3 := blk_frozen BK239.out 3) | ((with_reducible refine gate_callee (f := 10) rfl ?_); refine goesL_ (some 16) rfl rfl Tryd.func10 (by kernel_rfl) rfl #[.agg #[.slice A0_0 l0_0.length c0_0, .bool a0_1], .agg #[.int .i64 a1_0, .int .i64 a1_1, .int .i64 a1_2, .int .i64 a1_3]] rfl mp_ ?_; (with_reducible refine (span_span.calls k (fun k_ => k_ < w.heap.size) _ _ l0_0 a0_1 a1_0 a1_1 a1_2 a1_3 t240 t243 t244 _ ?side1 A3.out).mono ?_); (case side1 => exact Kd.V_mk HC0_0.out (Kd.F_below (Kd.C_F k37_heap HR0_0.out) bl0_)); rintro e w11 ⟨v241, rfl, ho0, hb⟩; refine ⟨_, rfl, ?_⟩; have n0_ := Aside0.mk (Kd.V_lower (Kd.V_mono (ok' := fun k_ => k_ ≠ gb238 ∧ k_ ≠ gb239) ho0 (fun k_ hk_ => ⟨Or.elim hk_ (fun hs_ => fun e_ => Nat.not_le.2 hs_ (by rw [e_]; exact GW238.out)) (fun hn_ => (Kd.freshB (g := gb238) (o := .cells #[.slice A0_0 l0_0.length c0_0, .bool a0_1] 24 (0, 0)) (bq_ BK238.out) k_ hn_)), Or.elim hk_ (fun hs_ => fun e_ => Nat.not_le.2 hs_ (by rw [e_]; exact GW239.out)) (fun hn_ => (Kd.freshB (g := gb239) (o := .cells #[.int .i64 a1_0, .int .i64 a1_1, .int .i64 a1_2, .int .i64 a1_3] 28 (0, 0)) (bq_ BK239.out) k_ hn_))⟩)) (below_size bl0_)); have n1_ := Aside0.mk (blk_below (bq_ BK238.out) hb); have n2_ := Aside0.mk (blk_below (bq_ BK239.out) hb); have n3_ := Aside0.mk (below_step bl0_ hb); clear BK238; clear BK239; clear HB; have HO242 := n0_; have BK238 := n1_; have BK239 := n2_; have HB := n3_; clear n0_ n1_ n2_ n3_; (try clear hb); (try clear hb2); (try clear hk); (try clear hi); (try clear ho0)) | ((with_reducible refine gate_dst (N := 6) rfl ?_); refine box_event ?hg (N := 6) ?hd (cs := #[.slice none 0 0, .bool false]) (t := 43) ?hr ?_; (case hd => rfl); (case hg => rfl); (case hr => first | (go_simp; done) | (go_simp; rfl)); intro gb245 hg w12 hbox hb; have n0_ := Aside0.mk (Kd.V_below (Kd.V_elderB (Kd.V_below HO242.out bu_) gb245 (Nat.le_of_eq hg.symm)) hb); have n1_ := Aside0.mk (blk_below (bq_ BK238.out) hb); have n2_ := Aside0.mk (blk_below (bq_ BK239.out) hb); have n3_ := Aside0.mk (below_step bl0_ hb); have n4_ := Aside0.mk (hbox); have n5_ := Aside0.mk (gle_ (w := w) hg bl0_); have n6_ := n5_; have n7_ := Aside0.mk ((nlt_ hg (bq_ BK238.out))); have n8_ := Aside0.mk ((ngt_ hg (bq_ BK238.out))); have n9_ := Aside0.mk ((nlt_ hg (bq_ BK239.out))); have n10_ := Aside0.mk ((ngt_ hg (bq_ BK239.out))); clear HO242; clear BK238; clear BK239; clear HB; have HO242 := n0_; have BK238 := n1_; have BK239 := n2_; have HB := n3_; have BK245 := n4_; have GW245 := n5_; have GE245 := n6_; have NB238_245 := n7_; have NB245_238 := n8_; have NB239_245 := n9_; have NB245_239 := n10_; clear n0_ n1_ n2_ n3_ n4_ n5_ n6_ n7_ n8_ n9_ n10_; clear hb hbox hg; obtain ⟨Ao13, co13, eo13⟩ := Kd.V_slice HO242.out; subst eo13; have hnb14 := NB245_238.out; have hnc14 := NB238_245.out; have hnb15 := NB245_239.out; have hnc15 := NB239_245.out; have hcz16_0 : w12.cell? ⟨gb245, 0, none⟩ = some (.slice none 0 0) := (blk_cell BK245.out 0).trans rfl; have hcz16_1 : w12.cell? ⟨gb245, 1, none⟩ = some (.bool false) := (blk_cell BK245.out 1).trans rfl; have hfz16_0 := blk_frozen BK245.out 0; have hfz16_1 := blk_frozen BK245.out 1; have hcz17_0 : w12.cell? ⟨gb238, 0, none⟩ = some (.slice A0_0 l0_0.length c0_0) := (blk_cell BK238.out 0).trans rfl; have hcz17_1 : w12.cell? ⟨gb238, 1, none⟩ = some (.bool a0_1) := (blk_cell BK238.out 1).trans rfl; have hfz17_0 := blk_frozen BK238.out 0; have hfz17_1 := blk_frozen BK238.out 1) | ((with_reducible refine gate_callee (f := 11) rfl ?_); refine goesL_ (some 24) rfl rfl Tryd.func11 (by kernel_rfl) rfl #[.agg #[.slice A0_0 l0_0.length c0_0, .bool a0_1]] rfl mp_ ?_; (with_reducible refine (dom_Order.calls k _ _ l0_0 a0_1 t246 t249 _ ?side1 ?side2 A5.out).mono ?_); (case side1 => exact Kd.C_below HR0_0.out bl0_); (case side2 => exact HC0_0.out); rintro e w18 ⟨v247, rfl, ho0, hb⟩; refine ⟨_, rfl, ?_⟩; have n0_ := Aside0.mk (Kd.V_elder' (by (with_reducible repeat (first | apply Kd.V_alloc | apply Kd.V_drewN | apply Kd.V_drew)); exact (Kd.V_mono (Kd.V_far (p := ⟨gb245, 1, none⟩) (Kd.V_far (p := ⟨gb245, 0, none⟩) (Kd.V_mono HO242.out (fun k_ hk => (⟨hk, hk.2⟩ : _ ∧ k_ ≠ gb245))) (fun _ hk => hk.2) (.slice Ao13 t240.length co13)) (fun _ hk => hk.2) (.bool t243)) (fun _ h_ => h_.1))) (Kd.R_base ho0) hb); have n1_ := Aside0.mk (Kd.R_lower ho0 (below_size bl0_)); have n2_ := Aside0.mk (blk_below (g := gb238) (o := .cells #[.slice A0_0 l0_0.length c0_0, .bool a0_1] 24 (0, 0)) (by (with_reducible repeat (first | refine blk_drewN ?_ _ | refine blk_drew ?_ | refine blk_alloc ?_ _)); refine blk_far ?_ NB238_245.out _; (with_reducible repeat (first | refine blk_drewN ?_ _ | refine blk_drew ?_ | refine blk_alloc ?_ _)); refine blk_far ?_ NB238_245.out _; (with_reducible repeat (first | refine blk_drewN ?_ _ | refine blk_drew ?_ | refine blk_alloc ?_ _)); exact BK238.out) hb); have n3_ := Aside0.mk (blk_below (g := gb239) (o := .cells #[.int .i64 a1_0, .int .i64 a1_1, .int .i64 a1_2, .int .i64 a1_3] 28 (0, 0)) (by (with_reducible repeat (first | refine blk_drewN ?_ _ | refine blk_drew ?_ | refine blk_alloc ?_ _)); refine blk_far ?_ NB239_245.out _; (with_reducible repeat (first | refine blk_drewN ?_ _ | refine blk_drew ?_ | refine blk_alloc ?_ _)); refine blk_far ?_ NB239_245.out _; (with_reducible repeat (first | refine blk_drewN ?_ _ | refine blk_drew ?_ | refine blk_alloc ?_ _)); exact BK239.out) hb); have n4_ := Aside0.mk (blk_below (g := gb245) (o := .cells #[.slice Ao13 t240.length co13, .bool t243] 43 (0, 0)) (by (with_reducible repeat (first | refine blk_drewN ?_ _ | refine blk_drew ?_ | refine blk_alloc ?_ _)); refine blk_put (cs := #[.slice Ao13 t240.length co13, .bool false]) ?_ 1 _ rfl; (with_reducible repeat (first | refine blk_drewN ?_ _ | refine blk_drew ?_ | refine blk_alloc ?_ _)); refine blk_put (cs := #[.slice none 0 0, .bool false]) ?_ 0 _ rfl; (with_reducible repeat (first | refine blk_drewN ?_ _ | refine blk_drew ?_ | refine blk_alloc ?_ _)); exact BK245.out) hb); have n5_ := Aside0.mk (below_step bl0_ hb); clear HO242; clear BK238; clear BK239; clear BK245; clear HB; have HO242 := n0_; have HO248 := n1_; have BK238 := n2_; have BK239 := n3_; have BK245 := n4_; have HB := n5_; clear n0_ n1_ n2_ n3_ n4_ n5_; (try clear hb); (try clear hb2); (try clear hk); (try clear hi); (try clear ho0); obtain ⟨Ao19, co19, eo19⟩ := Kd.R_slice HO248.out; subst eo19))
    go_loopg [10, 29] k (fun kq v10 v29 w' => ∃ (x10_1 : ByteArray) (x29_1 : Int), v10 = .string x10_1 ∧ v29 = .int .i64 x29_1 ∧ Aside0 (span_Text.l0 kq x10_1 t246 (t246.length : Int) x29_1 l0_0 a0_1 a1_0 a1_1 a1_2 a1_3 t240 t243 = some (r1, r2)) ∧ Aside0 (kq ≤ k) ∧ Aside0 (Kd.R (Kd.int .i64) 3 w' w.heap.size (fun _ => True) (.slice Ao19 t246.length co19) t246) ∧ Aside0 (Kd.V k37 37 w' w.heap.size (fun k_ => some k_ ≠ ((.slice Ao19 t246.length co19) : Value).ownBlock ∧ k_ ≠ gb238 ∧ k_ ≠ gb239 ∧ k_ ≠ gb245) (.slice Ao13 t240.length co13) t240) ∧ Aside0 (w'.heap[gb238]? = some (.cells #[(.slice A0_0 l0_0.length c0_0), .bool a0_1] 24 (0, 0))) ∧ Aside0 (w'.heap[gb239]? = some (.cells #[.int .i64 a1_0, .int .i64 a1_1, .int .i64 a1_2, .int .i64 a1_3] 28 (0, 0))) ∧ Aside0 (w'.heap[gb245]? = some (.cells #[(.slice Ao13 t240.length co13), .bool t243] 43 (0, 0))) ∧ Aside0 (Below w.heap.size w w'))
    case atStart => exact ⟨((⟨#[]⟩ : ByteArray)), (0), rs_, rs_, H', ⟨Nat.le_refl _⟩, ⟨by (with_reducible repeat (first | apply Kd.R_alloc | apply Kd.R_drewN | apply Kd.R_drew)); exact HO248.out⟩, ⟨by (with_reducible repeat (first | apply Kd.V_alloc | apply Kd.V_drewN | apply Kd.V_drew)); exact Kd.V_mono HO242.out (fun _ hk => ⟨hk.2, ⟨hk.1.1.1, ⟨hk.1.1.2, hk.1.2⟩⟩⟩)⟩, ⟨by (with_reducible repeat (first | refine blk_drewN ?_ _ | refine blk_drew ?_ | refine blk_alloc ?_ _)); exact BK238.out⟩, ⟨by (with_reducible repeat (first | refine blk_drewN ?_ _ | refine blk_drew ?_ | refine blk_alloc ?_ _)); exact BK239.out⟩, ⟨by (with_reducible repeat (first | refine blk_drewN ?_ _ | refine blk_drew ?_ | refine blk_alloc ?_ _)); exact BK245.out⟩, ⟨bl0_⟩⟩
    case round =>
      clear H'
      try clear c1
      try clear p2
      try clear c4
      try clear c4b0
      try clear c4b1
      try clear c5
      try clear c8
      try clear c10
      try clear c11
      try clear c14
      try clear c15
      try clear hcz10_0
      try clear hcz10_1
      try clear hcz10_2
      try clear hcz10_3
      try clear hcz16_0
      try clear hcz16_1
      try clear hcz17_0
      try clear hcz17_1
      try clear hcz9_0
      try clear hcz9_1
      try clear hfz10_0
      try clear hfz10_1
      try clear hfz10_2
      try clear hfz10_3
      try clear hfz16_0
      try clear hfz16_1
      try clear hfz17_0
      try clear hfz17_1
      try clear hfz9_0
      try clear hfz9_1
      obtain ⟨x10_1, x29_1, rfl, rfl, HA, HK1, HO_27, HO_246000, BK238, BK239, BK245, HB⟩ := hrel
      cases gk with
      | zero => exact absurd HA.out (by simp [span_Text.l0])
      | succ k1 =>
        have H := HA.out
        clear HA
        simp only [span_Text.l0] at H
        by_cases c20 : x29_1 < (t246.length : Int)
        · rw [if_pos c20] at H
          have c20b0 : decide (x29_1 < (t246.length : Int)) = true := decide_eq_true c20
          clear c20
          by_cases c21 : 0 ≤ x29_1
          · rw [if_pos c21] at H
            have c21b0 : decide (0 ≤ x29_1) = true := decide_eq_true c21
            clear c21
            by_cases c22 : x29_1 < (t246.length : Int)
            · rw [if_pos c22] at H
              have c22b0 : decide (x29_1 < (t246.length : Int)) = true := decide_eq_true c22
              clear c22
              by_cases c23 : 0 ≤ (rd t246 x29_1)
              · rw [if_pos c23] at H
                have c23b0 : decide (0 ≤ (rd t246 x29_1)) = true := decide_eq_true c23
                clear c23
                by_cases c24 : (rd t246 x29_1) < (l0_0.length : Int)
                · rw [if_pos c24] at H
                  have c24b0 : decide ((rd t246 x29_1) < (l0_0.length : Int)) = true := decide_eq_true c24
                  clear c24
                  by_cases c25 : ((rd_T37 l0_0 (rd t246 x29_1)).f0) = 3
                  · rw [if_pos c25] at H
                    have c25b0 : (((rd_T37 l0_0 (rd t246 x29_1)).f0) == 3) = true := beq_iff_eq.mpr c25
                    have c25b1 : (((rd_T37 l0_0 (rd t246 x29_1)).f0) != 3) = false := bne_eq_false_iff_eq.mpr c25
                    clear c25
                    replace H := Option.bind_eq_some_iff.mp H
                    obtain ⟨t252, A260, H⟩ := H
                    replace H : (if x10_1.size + t252.size ≤ 9223372036854775807 then (span_Text.l0 k1 (x10_1 ++ t252) t246 (t246.length : Int) (wrap64 (x29_1 + 1)) l0_0 a0_1 a1_0 a1_1 a1_2 a1_3 t240 t243) else (none)) = some (r1, r2) := H
                    have A26 := Aside0.mk A260
                    clear A260
                    by_cases c27 : x10_1.size + t252.size ≤ 9223372036854775807
                    · rw [if_pos c27] at H
                      have c27b0 := eq_true c27
                      have c27b1 : decide (x10_1.size + t252.size ≤ 9223372036854775807) = true := decide_eq_true c27
                      try have c27b2 : (9223372036854775807 < x10_1.size + t252.size) = False := eq_false (Nat.not_lt.2 c27)
                      have H' := Aside0.mk H
                      clear H
                      have p250 : 0 ≤ (x29_1 : Int) := of_decide_eq_true as_
                      have q250 : x29_1 < (t246.length : Int) := of_decide_eq_true as_
                      obtain ⟨ad250, e250, hx250_0⟩ := Kd.at_int (Kd.R_reads' HO_27.out).2.2 x29_1 p250 q250
                      cases e250
                      replace p250 := eq_true p250
                      replace q250 := eq_true q250
                      have hnb28 := NB238_239.out
                      have hnc28 := NB239_238.out
                      have hnb29 := NB238_245.out
                      have hnc29 := NB245_238.out
                      have hcz30_0 : wr.cell? ⟨gb238, 0, none⟩ = some (.slice A0_0 l0_0.length c0_0) := (blk_cell BK238.out 0).trans rfl
                      have hcz30_1 : wr.cell? ⟨gb238, 1, none⟩ = some (.bool a0_1) := (blk_cell BK238.out 1).trans rfl
                      have hfz30_0 := blk_frozen BK238.out 0
                      have hfz30_1 := blk_frozen BK238.out 1
                      have p251 : 0 ≤ ((rd t246 x29_1) : Int) := of_decide_eq_true as_
                      have q251 : (rd t246 x29_1) < (l0_0.length : Int) := of_decide_eq_true as_
                      obtain ⟨ad251, A251_2, c251_2, A251_5, c251_5, e251, hx251_0, hx251_1, hx251_2, hx251_3, hx251_4, hx251_5, hl251_2, hi251_2, hl251_5, hi251_5⟩ := at_T37 HR0_0.out (rd t246 x29_1) p251 q251
                      cases e251
                      replace hx251_0 := pw_cell_below HB.out hx251_0
                      replace hx251_1 := pw_cell_below HB.out hx251_1
                      replace hx251_2 := pw_cell_below HB.out hx251_2
                      replace hx251_3 := pw_cell_below HB.out hx251_3
                      replace hx251_4 := pw_cell_below HB.out hx251_4
                      replace hx251_5 := pw_cell_below HB.out hx251_5
                      have HR251_2 := Aside0.mk hi251_2
                      have HC251_2 := Aside0.mk hl251_2
                      clear hi251_2 hl251_2
                      have HR251_5 := Aside0.mk hi251_5
                      have HC251_5 := Aside0.mk hl251_5
                      clear hi251_5 hl251_5
                      replace p251 := eq_true p251
                      replace q251 := eq_true q251
                      have hnb31 := NB245_239.out
                      have hnc31 := NB239_245.out
                      have hcz32_0 : wr.cell? ⟨gb245, 0, none⟩ = some (.slice Ao13 t240.length co13) := (blk_cell BK245.out 0).trans rfl
                      have hcz32_1 : wr.cell? ⟨gb245, 1, none⟩ = some (.bool t243) := (blk_cell BK245.out 1).trans rfl
                      have hfz32_0 := blk_frozen BK245.out 0
                      have hfz32_1 := blk_frozen BK245.out 1
                      have hcz33_0 : wr.cell? ⟨gb239, 0, none⟩ = some (.int .i64 a1_0) := (blk_cell BK239.out 0).trans rfl
                      have hcz33_1 : wr.cell? ⟨gb239, 1, none⟩ = some (.int .i64 a1_1) := (blk_cell BK239.out 1).trans rfl
                      have hcz33_2 : wr.cell? ⟨gb239, 2, none⟩ = some (.int .i64 a1_2) := (blk_cell BK239.out 2).trans rfl
                      have hcz33_3 : wr.cell? ⟨gb239, 3, none⟩ = some (.int .i64 a1_3) := (blk_cell BK239.out 3).trans rfl
                      have hfz33_0 := blk_frozen BK239.out 0
                      have hfz33_1 := blk_frozen BK239.out 1
                      have hfz33_2 := blk_frozen BK239.out 2
                      have hfz33_3 := blk_frozen BK239.out 3
                      go_wp2_with (first | ((with_reducible refine gate_callee (f := 12) rfl ?_); refine goesL_ (some 44) rfl rfl Tryd.func12 (by kernel_rfl) rfl #[.agg #[.slice Ao13 t240.length co13, .bool t243], .int .i64 (rd t246 x29_1), .agg #[.int .i64 a1_0, .int .i64 a1_1, .int .i64 a1_2, .int .i64 a1_3]] rfl mp_ ?_; (with_reducible refine (span_ranger_part.calls k1 _ _ t240 t243 (rd t246 x29_1) a1_0 a1_1 a1_2 a1_3 t252 _ ?side1 ?side2 A26.out).mono ?_); (case side1 => repeat (first | exact (Kd.V_reads' HO_246000.out).2.2 | (with_reducible refine Kd.C_alloc ?_ _) | (with_reducible refine Kd.C_drewN ?_ _) | (with_reducible refine Kd.C_drew ?_))); (case side2 => exact (Kd.V_reads' HO_246000.out).2.1); rintro e w34 ⟨rfl, hb⟩; refine ⟨_, rfl, ?_⟩; have n0_ := Aside0.mk (Kd.R_below (Kd.R_below HO_27.out bu_) hb); have n1_ := Aside0.mk (Kd.V_below (Kd.V_below HO_246000.out bu_) hb); have n2_ := Aside0.mk (blk_below (bq_ BK238.out) hb); have n3_ := Aside0.mk (blk_below (bq_ BK239.out) hb); have n4_ := Aside0.mk (blk_below (bq_ BK245.out) hb); have n5_ := Aside0.mk (below_step bl0_ hb); clear HO_27; clear HO_246000; clear BK238; clear BK239; clear BK245; clear HB; have HO_27 := n0_; have HO_246000 := n1_; have BK238 := n2_; have BK239 := n3_; have BK245 := n4_; have HB := n5_; clear n0_ n1_ n2_ n3_ n4_ n5_; (try clear hb); (try clear hb2); (try clear hk); (try clear hi)))
                      go_roundg k1
                      case measure => have := HK1.out; omega
                      case rel => exact ⟨(x10_1 ++ t252), (wrap64 (x29_1 + 1)), rs_, rs_, H', ⟨by have := HK1.out; omega⟩, ⟨by (with_reducible repeat (first | apply Kd.R_alloc | apply Kd.R_drewN | apply Kd.R_drew)); exact HO_27.out⟩, ⟨by (with_reducible repeat (first | apply Kd.V_alloc | apply Kd.V_drewN | apply Kd.V_drew)); exact HO_246000.out⟩, ⟨by (with_reducible repeat (first | refine blk_drewN ?_ _ | refine blk_drew ?_ | refine blk_alloc ?_ _)); exact BK238.out⟩, ⟨by (with_reducible repeat (first | refine blk_drewN ?_ _ | refine blk_drew ?_ | refine blk_alloc ?_ _)); exact BK239.out⟩, ⟨by (with_reducible repeat (first | refine blk_drewN ?_ _ | refine blk_drew ?_ | refine blk_alloc ?_ _)); exact BK245.out⟩, ⟨bl0_⟩⟩
                    · rw [if_neg c27] at H
                      exact absurd H (by simp)
                  · rw [if_neg c25] at H
                    have c25b0 : (((rd_T37 l0_0 (rd t246 x29_1)).f0) == 3) = false := beq_eq_false_iff_ne.mpr c25
                    have c25b1 : (((rd_T37 l0_0 (rd t246 x29_1)).f0) != 3) = true := bne_iff_ne.mpr c25
                    have H' := Aside0.mk H
                    clear H
                    have p250 : 0 ≤ (x29_1 : Int) := of_decide_eq_true as_
                    have q250 : x29_1 < (t246.length : Int) := of_decide_eq_true as_
                    obtain ⟨ad250, e250, hx250_0⟩ := Kd.at_int (Kd.R_reads' HO_27.out).2.2 x29_1 p250 q250
                    cases e250
                    replace p250 := eq_true p250
                    replace q250 := eq_true q250
                    have hnb35 := NB238_239.out
                    have hnc35 := NB239_238.out
                    have hnb36 := NB238_245.out
                    have hnc36 := NB245_238.out
                    have hcz37_0 : wr.cell? ⟨gb238, 0, none⟩ = some (.slice A0_0 l0_0.length c0_0) := (blk_cell BK238.out 0).trans rfl
                    have hcz37_1 : wr.cell? ⟨gb238, 1, none⟩ = some (.bool a0_1) := (blk_cell BK238.out 1).trans rfl
                    have hfz37_0 := blk_frozen BK238.out 0
                    have hfz37_1 := blk_frozen BK238.out 1
                    have p251 : 0 ≤ ((rd t246 x29_1) : Int) := of_decide_eq_true as_
                    have q251 : (rd t246 x29_1) < (l0_0.length : Int) := of_decide_eq_true as_
                    obtain ⟨ad251, A251_2, c251_2, A251_5, c251_5, e251, hx251_0, hx251_1, hx251_2, hx251_3, hx251_4, hx251_5, hl251_2, hi251_2, hl251_5, hi251_5⟩ := at_T37 HR0_0.out (rd t246 x29_1) p251 q251
                    cases e251
                    replace hx251_0 := pw_cell_below HB.out hx251_0
                    replace hx251_1 := pw_cell_below HB.out hx251_1
                    replace hx251_2 := pw_cell_below HB.out hx251_2
                    replace hx251_3 := pw_cell_below HB.out hx251_3
                    replace hx251_4 := pw_cell_below HB.out hx251_4
                    replace hx251_5 := pw_cell_below HB.out hx251_5
                    have HR251_2 := Aside0.mk hi251_2
                    have HC251_2 := Aside0.mk hl251_2
                    clear hi251_2 hl251_2
                    have HR251_5 := Aside0.mk hi251_5
                    have HC251_5 := Aside0.mk hl251_5
                    clear hi251_5 hl251_5
                    replace p251 := eq_true p251
                    replace q251 := eq_true q251
                    go_wp2
                    go_roundg k1
                    case measure => have := HK1.out; omega
                    case rel => exact ⟨(x10_1), (wrap64 (x29_1 + 1)), rs_, rs_, H', ⟨by have := HK1.out; omega⟩, ⟨by (with_reducible repeat (first | apply Kd.R_alloc | apply Kd.R_drewN | apply Kd.R_drew)); exact HO_27.out⟩, ⟨by (with_reducible repeat (first | apply Kd.V_alloc | apply Kd.V_drewN | apply Kd.V_drew)); exact HO_246000.out⟩, ⟨by (with_reducible repeat (first | refine blk_drewN ?_ _ | refine blk_drew ?_ | refine blk_alloc ?_ _)); exact BK238.out⟩, ⟨by (with_reducible repeat (first | refine blk_drewN ?_ _ | refine blk_drew ?_ | refine blk_alloc ?_ _)); exact BK239.out⟩, ⟨by (with_reducible repeat (first | refine blk_drewN ?_ _ | refine blk_drew ?_ | refine blk_alloc ?_ _)); exact BK245.out⟩, ⟨bl0_⟩⟩
                · rw [if_neg c24] at H
                  exact absurd H (by simp)
              · rw [if_neg c23] at H
                exact absurd H (by simp)
            · rw [if_neg c22] at H
              exact absurd H (by simp)
          · rw [if_neg c21] at H
            exact absurd H (by simp)
        · rw [if_neg c20] at H
          have c20b0 : decide (x29_1 < (t246.length : Int)) = false := decide_eq_false c20
          clear c20
          simp only [Option.some.injEq, Prod.mk.injEq] at H
          obtain ⟨rfl, rfl⟩ := H
          go_wp2
          go_ret2
          exact ⟨er_, bl0_⟩
  · rw [if_neg c4] at H
    have c4b0 : (t244 == 0) = false := beq_eq_false_iff_ne.mpr c4
    have c4b1 : (t244 != 0) = true := bne_iff_ne.mpr c4
    simp only [Option.some.injEq, Prod.mk.injEq] at H
    obtain ⟨rfl, rfl⟩ := H
    go_enter Tryd.func5, Tryd.ntmps5
    go_wp2_with (first | ((with_reducible refine gate_dst (N := 2) rfl ?_); refine box_event ?hg (N := 2) ?hd (cs := #[.slice A0_0 l0_0.length c0_0, .bool a0_1]) (t := 24) ?hr ?_; (case hd => rfl); (case hg => rfl); (case hr => first | (go_simp; done) | (go_simp; rfl)); intro gb238 hg w38 hbox hb; have n0_ := Aside0.mk (below_step bl0_ hb); have n1_ := Aside0.mk (hbox); have n2_ := Aside0.mk (gle_ (w := w) hg bl0_); have n3_ := n2_; clear HB; have HB := n0_; have BK238 := n1_; have GW238 := n2_; have GE238 := n3_; clear n0_ n1_ n2_ n3_; clear hb hbox hg) | ((with_reducible refine gate_dst (N := 3) rfl ?_); refine box_event ?hg (N := 3) ?hd (cs := #[.int .i64 a1_0, .int .i64 a1_1, .int .i64 a1_2, .int .i64 a1_3]) (t := 28) ?hr ?_; (case hd => rfl); (case hg => rfl); (case hr => first | (go_simp; done) | (go_simp; rfl)); intro gb239 hg w39 hbox hb; have n0_ := Aside0.mk (blk_below (bq_ BK238.out) hb); have n1_ := Aside0.mk (below_step bl0_ hb); have n2_ := Aside0.mk (hbox); have n3_ := Aside0.mk (gle_ (w := w) hg bl0_); have n4_ := n3_; have n5_ := Aside0.mk ((nlt_ hg (bq_ BK238.out))); have n6_ := Aside0.mk ((ngt_ hg (bq_ BK238.out))); clear BK238; clear HB; have BK238 := n0_; have HB := n1_; have BK239 := n2_; have GW239 := n3_; have GE239 := n4_; have NB238_239 := n5_; have NB239_238 := n6_; clear n0_ n1_ n2_ n3_ n4_ n5_ n6_; clear hb hbox hg; have hnb40 := NB238_239.out; have hnc40 := NB239_238.out; have hcz41_0 : w39.cell? ⟨gb238, 0, none⟩ = some (.slice A0_0 l0_0.length c0_0) := (blk_cell BK238.out 0).trans rfl; have hcz41_1 : w39.cell? ⟨gb238, 1, none⟩ = some (.bool a0_1) := (blk_cell BK238.out 1).trans rfl; have hfz41_0 := blk_frozen BK238.out 0; have hfz41_1 := blk_frozen BK238.out 1; have hcz42_0 : w39.cell? ⟨gb239, 0, none⟩ = some (.int .i64 a1_0) := (blk_cell BK239.out 0).trans rfl; have hcz42_1 : w39.cell? ⟨gb239, 1, none⟩ = some (.int .i64 a1_1) := (blk_cell BK239.out 1).trans rfl; have hcz42_2 : w39.cell? ⟨gb239, 2, none⟩ = some (.int .i64 a1_2) := (blk_cell BK239.out 2).trans rfl; have hcz42_3 : w39.cell? ⟨gb239, 3, none⟩ = some (.int .i64 a1_3) := (blk_cell BK239.out 3).trans rfl; have hfz42_0 := blk_frozen BK239.out 0; have hfz42_1 := blk_frozen BK239.out 1; have hfz42_2 := blk_frozen BK239.out 2; have hfz42_3 := blk_frozen BK239.out 3) | ((with_reducible refine gate_callee (f := 10) rfl ?_); refine goesL_ (some 16) rfl rfl Tryd.func10 (by kernel_rfl) rfl #[.agg #[.slice A0_0 l0_0.length c0_0, .bool a0_1], .agg #[.int .i64 a1_0, .int .i64 a1_1, .int .i64 a1_2, .int .i64 a1_3]] rfl mp_ ?_; (with_reducible refine (span_span.calls k (fun k_ => k_ < w.heap.size) _ _ l0_0 a0_1 a1_0 a1_1 a1_2 a1_3 t240 t243 t244 _ ?side1 A3.out).mono ?_); (case side1 => exact Kd.V_mk HC0_0.out (Kd.F_below (Kd.C_F k37_heap HR0_0.out) bl0_)); rintro e w43 ⟨v241, rfl, ho0, hb⟩; refine ⟨_, rfl, ?_⟩; have n0_ := Aside0.mk (Kd.V_lower (Kd.V_mono (ok' := fun k_ => k_ ≠ gb238 ∧ k_ ≠ gb239) ho0 (fun k_ hk_ => ⟨Or.elim hk_ (fun hs_ => fun e_ => Nat.not_le.2 hs_ (by rw [e_]; exact GW238.out)) (fun hn_ => (Kd.freshB (g := gb238) (o := .cells #[.slice A0_0 l0_0.length c0_0, .bool a0_1] 24 (0, 0)) (bq_ BK238.out) k_ hn_)), Or.elim hk_ (fun hs_ => fun e_ => Nat.not_le.2 hs_ (by rw [e_]; exact GW239.out)) (fun hn_ => (Kd.freshB (g := gb239) (o := .cells #[.int .i64 a1_0, .int .i64 a1_1, .int .i64 a1_2, .int .i64 a1_3] 28 (0, 0)) (bq_ BK239.out) k_ hn_))⟩)) (below_size bl0_)); have n1_ := Aside0.mk (blk_below (bq_ BK238.out) hb); have n2_ := Aside0.mk (blk_below (bq_ BK239.out) hb); have n3_ := Aside0.mk (below_step bl0_ hb); clear BK238; clear BK239; clear HB; have HO242 := n0_; have BK238 := n1_; have BK239 := n2_; have HB := n3_; clear n0_ n1_ n2_ n3_; (try clear hb); (try clear hb2); (try clear hk); (try clear hi); (try clear ho0)) | ((with_reducible refine gate_dst (N := 6) rfl ?_); refine box_event ?hg (N := 6) ?hd (cs := #[.slice none 0 0, .bool false]) (t := 43) ?hr ?_; (case hd => rfl); (case hg => rfl); (case hr => first | (go_simp; done) | (go_simp; rfl)); intro gb245 hg w44 hbox hb; have n0_ := Aside0.mk (Kd.V_below (Kd.V_elderB (Kd.V_below HO242.out bu_) gb245 (Nat.le_of_eq hg.symm)) hb); have n1_ := Aside0.mk (blk_below (bq_ BK238.out) hb); have n2_ := Aside0.mk (blk_below (bq_ BK239.out) hb); have n3_ := Aside0.mk (below_step bl0_ hb); have n4_ := Aside0.mk (hbox); have n5_ := Aside0.mk (gle_ (w := w) hg bl0_); have n6_ := n5_; have n7_ := Aside0.mk ((nlt_ hg (bq_ BK238.out))); have n8_ := Aside0.mk ((ngt_ hg (bq_ BK238.out))); have n9_ := Aside0.mk ((nlt_ hg (bq_ BK239.out))); have n10_ := Aside0.mk ((ngt_ hg (bq_ BK239.out))); clear HO242; clear BK238; clear BK239; clear HB; have HO242 := n0_; have BK238 := n1_; have BK239 := n2_; have HB := n3_; have BK245 := n4_; have GW245 := n5_; have GE245 := n6_; have NB238_245 := n7_; have NB245_238 := n8_; have NB239_245 := n9_; have NB245_239 := n10_; clear n0_ n1_ n2_ n3_ n4_ n5_ n6_ n7_ n8_ n9_ n10_; clear hb hbox hg; obtain ⟨Ao45, co45, eo45⟩ := Kd.V_slice HO242.out; subst eo45; have hnb46 := NB245_238.out; have hnc46 := NB238_245.out; have hnb47 := NB245_239.out; have hnc47 := NB239_245.out; have hcz48_0 : w44.cell? ⟨gb245, 0, none⟩ = some (.slice none 0 0) := (blk_cell BK245.out 0).trans rfl; have hcz48_1 : w44.cell? ⟨gb245, 1, none⟩ = some (.bool false) := (blk_cell BK245.out 1).trans rfl; have hfz48_0 := blk_frozen BK245.out 0; have hfz48_1 := blk_frozen BK245.out 1))
    go_ret2
    exact ⟨er_, bl0_⟩

/-! ### span_Less: function 13 -/
def span_Less.f (k : Nat) (l0_0 : List (S37)) (a0_1 : Bool) (a1_0 : Int) (a1_1 : Int) (a2_0 : Int) (a2_1 : Int) : Option (Bool × Int) := (span_points.f k l0_0 a0_1 (([(⟨a1_0, a1_1⟩ : S26), (⟨a2_0, a2_1⟩ : S26)] : List (S26)))).bind fun bt259 => (if bt259.2.2 = 0 then ((span_ranger_order.f k bt259.1 bt259.2.1 a1_0 a1_1 a2_0 a2_1).bind fun t265 => (some (decide (t265 < 0), 0))) else (some (false, bt259.2.2)))
theorem span_Less.mono : ∀ a0 a1 a2 a3 a4 a5 k, LeO (span_Less.f k a0 a1 a2 a3 a4 a5) (span_Less.f (k + 1) a0 a1 a2 a3 a4 a5) := by
  intro a0 a1 a2 a3 a4 a5 k
  unfold span_Less.f
  repeat' first
      | (with_reducible exact span_points.mono _ _ _ _)
      | (with_reducible exact span_ranger_order.mono _ _ _ _ _ _ _)
      | (with_reducible exact LeO.refl _)
      | (with_reducible exact LeO.none _)
      | (with_reducible refine LeO.ite ?_ ?_)
      | (with_reducible refine LeO.bind ?_ (fun _ => ?_))
      | exact span_points.mono _ _ _ _
      | exact span_ranger_order.mono _ _ _ _ _ _ _
      | exact LeO.none _
      | refine LeO.ite ?_ ?_
      | refine LeO.bind ?_ (fun _ => ?_)
set_option maxHeartbeats 8000000 in
set_option maxRecDepth 100000 in
theorem span_Less.calls (k : Nat) (A0_0 : Option Addr) (c0_0 : Nat) (l0_0 : List (S37)) (a0_1 : Bool) (a1_0 : Int) (a1_1 : Int) (a2_0 : Int) (a2_1 : Int) (r1 : Bool) (r2 : Int) (w : World) (hr0_0 : Kd.C k37 w A0_0 l0_0.length l0_0) (hc0_0 : l0_0.length ≤ c0_0) (h : span_Less.f k l0_0 a0_1 a1_0 a1_1 a2_0 a2_1 = some (r1, r2)) :
    Calls Tryd.prog 13 #[.agg #[.slice A0_0 l0_0.length c0_0, .bool a0_1], .agg #[.int .i64 a1_0, .int .i64 a1_1], .agg #[.int .i64 a2_0, .int .i64 a2_1]] w fun e w' => e = .returned (.tuple #[.bool r1, .int .i64 r2]) ∧ Below w.heap.size w w' := by
  have hu24 := Tryd.underlying24
  have hu26 := Tryd.underlying26
  have hu43 := Tryd.underlying43
  have HR0_0 := Aside0.mk hr0_0
  have HC0_0 := Aside0.mk hc0_0
  clear hr0_0 hc0_0
  have HB := Aside0.mk (Below.refl w.heap.size w)
  have H : ((span_points.f k l0_0 a0_1 (([(⟨a1_0, a1_1⟩ : S26), (⟨a2_0, a2_1⟩ : S26)] : List (S26)))).bind fun bt259 => (if bt259.2.2 = 0 then ((span_ranger_order.f k bt259.1 bt259.2.1 a1_0 a1_1 a2_0 a2_1).bind fun t265 => (some (decide (t265 < 0), 0))) else (some (false, bt259.2.2)))) = some (r1, r2) := h
  clear h
  obtain ⟨y256, hy256⟩ : ∃ y_ : List (S26), y_ = (([(⟨a1_0, a1_1⟩ : S26), (⟨a2_0, a2_1⟩ : S26)] : List (S26))) := ⟨_, rfl⟩
  replace H : ((span_points.f k l0_0 a0_1 y256).bind fun bt259 => (if bt259.2.2 = 0 then ((span_ranger_order.f k bt259.1 bt259.2.1 a1_0 a1_1 a2_0 a2_1).bind fun t265 => (some (decide (t265 < 0), 0))) else (some (false, bt259.2.2)))) = some (r1, r2) := by first | (rw [hy256]; with_reducible exact H) | (have H2_ := (Option.bind_some _ _).symm.trans H; rw [hy256]; with_reducible exact H2_) | (have H2_ := (Option.bind_some _ _).symm.trans H; with_reducible exact H2_) | with_reducible exact H | (rw [hy256]; exact H) | exact H
  have Ny256 := Aside0.mk hy256
  clear hy256
  replace H := Option.bind_eq_some_iff.mp H
  obtain ⟨⟨t259, t262, t263⟩, A40, H⟩ := H
  replace H : (if t263 = 0 then ((span_ranger_order.f k t259 t262 a1_0 a1_1 a2_0 a2_1).bind fun t265 => (some (decide (t265 < 0), 0))) else (some (false, t263))) = some (r1, r2) := H
  have A4 := Aside0.mk A40
  clear A40
  by_cases c5 : t263 = 0
  · rw [if_pos c5] at H
    have c5b0 : (t263 == 0) = true := beq_iff_eq.mpr c5
    have c5b1 : (t263 != 0) = false := bne_eq_false_iff_eq.mpr c5
    clear c5
    replace H := Option.bind_eq_some_iff.mp H
    obtain ⟨t265, A60, H⟩ := H
    replace H : (some (decide (t265 < 0), 0)) = some (r1, r2) := H
    have A6 := Aside0.mk A60
    clear A60
    simp only [Option.some.injEq, Prod.mk.injEq] at H
    obtain ⟨rfl, rfl⟩ := H
    go_enter Tryd.func13, Tryd.ntmps13
    go_wp2_with (first | ((with_reducible refine gate_dst (N := 3) rfl ?_); refine box_event ?hg (N := 3) ?hd (cs := #[.slice A0_0 l0_0.length c0_0, .bool a0_1]) (t := 24) ?hr ?_; (case hd => rfl); (case hg => rfl); (case hr => first | (go_simp; done) | (go_simp; rfl)); intro gb253 hg w7 hbox hb; have n0_ := Aside0.mk (below_step bl0_ hb); have n1_ := Aside0.mk (hbox); have n2_ := Aside0.mk (gle_ (w := w) hg bl0_); have n3_ := n2_; clear HB; have HB := n0_; have BK253 := n1_; have GW253 := n2_; have GE253 := n3_; clear n0_ n1_ n2_ n3_; clear hb hbox hg) | ((with_reducible refine gate_dst (N := 4) rfl ?_); refine box_event ?hg (N := 4) ?hd (cs := #[.int .i64 a1_0, .int .i64 a1_1]) (t := 26) ?hr ?_; (case hd => rfl); (case hg => rfl); (case hr => first | (go_simp; done) | (go_simp; rfl)); intro gb254 hg w8 hbox hb; have n0_ := Aside0.mk (blk_below (bq_ BK253.out) hb); have n1_ := Aside0.mk (below_step bl0_ hb); have n2_ := Aside0.mk (hbox); have n3_ := Aside0.mk (gle_ (w := w) hg bl0_); have n4_ := n3_; have n5_ := Aside0.mk ((nlt_ hg (bq_ BK253.out))); have n6_ := Aside0.mk ((ngt_ hg (bq_ BK253.out))); clear BK253; clear HB; have BK253 := n0_; have HB := n1_; have BK254 := n2_; have GW254 := n3_; have GE254 := n4_; have NB253_254 := n5_; have NB254_253 := n6_; clear n0_ n1_ n2_ n3_ n4_ n5_ n6_; clear hb hbox hg) | ((with_reducible refine gate_dst (N := 5) rfl ?_); refine box_event ?hg (N := 5) ?hd (cs := #[.int .i64 a2_0, .int .i64 a2_1]) (t := 26) ?hr ?_; (case hd => rfl); (case hg => rfl); (case hr => first | (go_simp; done) | (go_simp; rfl)); intro gb255 hg w9 hbox hb; have n0_ := Aside0.mk (blk_below (bq_ BK253.out) hb); have n1_ := Aside0.mk (blk_below (bq_ BK254.out) hb); have n2_ := Aside0.mk (below_step bl0_ hb); have n3_ := Aside0.mk (hbox); have n4_ := Aside0.mk (gle_ (w := w) hg bl0_); have n5_ := n4_; have n6_ := Aside0.mk ((nlt_ hg (bq_ BK253.out))); have n7_ := Aside0.mk ((ngt_ hg (bq_ BK253.out))); have n8_ := Aside0.mk ((nlt_ hg (bq_ BK254.out))); have n9_ := Aside0.mk ((ngt_ hg (bq_ BK254.out))); clear BK253; clear BK254; clear HB; have BK253 := n0_; have BK254 := n1_; have HB := n2_; have BK255 := n3_; have GW255 := n4_; have GE255 := n5_; have NB253_255 := n6_; have NB255_253 := n7_; have NB254_255 := n8_; have NB255_254 := n9_; clear n0_ n1_ n2_ n3_ n4_ n5_ n6_ n7_ n8_ n9_; clear hb hbox hg; have hnb10 := NB253_254.out; have hnc10 := NB254_253.out; have hnb11 := NB253_255.out; have hnc11 := NB255_253.out; have hcz12_0 : w9.cell? ⟨gb253, 0, none⟩ = some (.slice A0_0 l0_0.length c0_0) := (blk_cell BK253.out 0).trans rfl; have hcz12_1 : w9.cell? ⟨gb253, 1, none⟩ = some (.bool a0_1) := (blk_cell BK253.out 1).trans rfl; have hfz12_0 := blk_frozen BK253.out 0; have hfz12_1 := blk_frozen BK253.out 1; have hnb13 := NB254_255.out; have hnc13 := NB255_254.out; have hcz14_0 : w9.cell? ⟨gb254, 0, none⟩ = some (.int .i64 a1_0) := (blk_cell BK254.out 0).trans rfl; have hcz14_1 : w9.cell? ⟨gb254, 1, none⟩ = some (.int .i64 a1_1) := (blk_cell BK254.out 1).trans rfl; have hfz14_0 := blk_frozen BK254.out 0; have hfz14_1 := blk_frozen BK254.out 1; have hcz15_0 : w9.cell? ⟨gb255, 0, none⟩ = some (.int .i64 a2_0) := (blk_cell BK255.out 0).trans rfl; have hcz15_1 : w9.cell? ⟨gb255, 1, none⟩ = some (.int .i64 a2_1) := (blk_cell BK255.out 1).trans rfl; have hfz15_0 := blk_frozen BK255.out 0; have hfz15_1 := blk_frozen BK255.out 1) | ((with_reducible refine gate_dst (N := 14) rfl ?_); refine Kd.R_lit k26 _ 26 ?hg (N := 14) ?hd (xs := ([(⟨a1_0, a1_1⟩ : S26), (⟨a2_0, a2_1⟩ : S26)] : List (S26))) (inner := [.int .i64 a1_0, .int .i64 a1_1, .int .i64 a2_0, .int .i64 a2_1]) (ok := fun _ => True) (okp := fun _ => True) ?hr ?hp (fun _ hk => hk) trivial (Below.refl _ _) (Nat.le_refl _) (by simp) ?_; (case hd => rfl); (case hg => rfl); (case hr => first | (go_simp; done) | (go_simp; rfl)); (case hp => exact (Reps.c2 (show Kd.M k26 _ _ _ (⟨a1_0, a1_1⟩ : S26) [.int .i64 a1_0, .int .i64 a1_1] from (k26_mkM _ _ _ (⟨a1_0, a1_1⟩ : S26) )) (Reps.c2 (show Kd.M k26 _ _ _ (⟨a2_0, a2_1⟩ : S26) [.int .i64 a2_0, .int .i64 a2_1] from (k26_mkM _ _ _ (⟨a2_0, a2_1⟩ : S26) )) (Reps.none _ _)))); intro v257 w16 ho17 hb hg_ hnew_; clear hg_ hnew_; (first | rw [← Ny256.out] at ho17 | (simp only [Int.reduceToNat] at ho17; rw [← Ny256.out] at ho17)); have n0_ := Aside0.mk (Kd.R_lower (Kd.R_newB (Kd.R_newB ho17 (g := gb254) (o := .cells #[.int .i64 a1_0, .int .i64 a1_1] 26 (0, 0)) (bq_ BK254.out)) (g := gb255) (o := .cells #[.int .i64 a2_0, .int .i64 a2_1] 26 (0, 0)) (bq_ BK255.out)) (below_size bl0_)); have n1_ := Aside0.mk (blk_below (bq_ BK253.out) hb); have n2_ := Aside0.mk (blk_below (bq_ BK254.out) hb); have n3_ := Aside0.mk (blk_below (bq_ BK255.out) hb); have n4_ := Aside0.mk (below_step bl0_ hb); clear BK253; clear BK254; clear BK255; clear HB; have HO258 := n0_; have BK253 := n1_; have BK254 := n2_; have BK255 := n3_; have HB := n4_; clear n0_ n1_ n2_ n3_ n4_; clear hb ho17; obtain ⟨Ao18, co18, eo18⟩ := Kd.R_slice HO258.out; subst eo18) | ((with_reducible refine gate_callee (f := 17) rfl ?_); refine goesL_ (some 15) rfl rfl Tryd.func17 (by kernel_rfl) rfl #[.agg #[.slice A0_0 l0_0.length c0_0, .bool a0_1], .slice Ao18 y256.length co18] rfl mp_ ?_; (with_reducible refine (span_points.calls k (fun k_ => k_ < w.heap.size) _ _ l0_0 a0_1 _ _ y256 t259 t262 t263 _ ?side1 ?side2 ?side3 A4.out).mono ?_); (case side1 => exact Kd.V_mk HC0_0.out (Kd.F_below (Kd.C_F k37_heap HR0_0.out) bl0_)); (case side2 => repeat (first | exact (Kd.R_reads' HO258.out).2.2 | (with_reducible refine Kd.C_alloc ?_ _) | (with_reducible refine Kd.C_drewN ?_ _) | (with_reducible refine Kd.C_drew ?_))); (case side3 => exact (Kd.R_reads' HO258.out).2.1); rintro e w19 ⟨v260, rfl, ho0, hb⟩; refine ⟨_, rfl, ?_⟩; have n0_ := Aside0.mk (Kd.R_below (Kd.R_below HO258.out bu_) hb); have n1_ := Aside0.mk (Kd.V_lower (Kd.V_mono (ok' := fun k_ => some k_ ≠ (.slice Ao18 y256.length co18 : Value).ownBlock ∧ k_ ≠ gb253 ∧ k_ ≠ gb254 ∧ k_ ≠ gb255) ho0 (fun k_ hk_ => ⟨Or.elim hk_ (fun hs_ => fun e_ => Nat.not_le.2 hs_ (Kd.R_base HO258.out k_ e_.symm)) (fun hn_ => (Kd.fresh' (Kd.R_lt (Kd.R_below HO258.out bu_)) k_ hn_)), Or.elim hk_ (fun hs_ => fun e_ => Nat.not_le.2 hs_ (by rw [e_]; exact GW253.out)) (fun hn_ => (Kd.freshB (g := gb253) (o := .cells #[.slice A0_0 l0_0.length c0_0, .bool a0_1] 24 (0, 0)) (bq_ BK253.out) k_ hn_)), Or.elim hk_ (fun hs_ => fun e_ => Nat.not_le.2 hs_ (by rw [e_]; exact GW254.out)) (fun hn_ => (Kd.freshB (g := gb254) (o := .cells #[.int .i64 a1_0, .int .i64 a1_1] 26 (0, 0)) (bq_ BK254.out) k_ hn_)), Or.elim hk_ (fun hs_ => fun e_ => Nat.not_le.2 hs_ (by rw [e_]; exact GW255.out)) (fun hn_ => (Kd.freshB (g := gb255) (o := .cells #[.int .i64 a2_0, .int .i64 a2_1] 26 (0, 0)) (bq_ BK255.out) k_ hn_))⟩)) (below_size bl0_)); have n2_ := Aside0.mk (blk_below (bq_ BK253.out) hb); have n3_ := Aside0.mk (blk_below (bq_ BK254.out) hb); have n4_ := Aside0.mk (blk_below (bq_ BK255.out) hb); have n5_ := Aside0.mk (below_step bl0_ hb); clear HO258; clear BK253; clear BK254; clear BK255; clear HB; have HO258 := n0_; have HO261 := n1_; have BK253 := n2_; have BK254 := n3_; have BK255 := n4_; have HB := n5_; clear n0_ n1_ n2_ n3_ n4_ n5_; (try clear hb); (try clear hb2); (try clear hk); (try clear hi); (try clear ho0)) | ((with_reducible refine gate_dst (N := 8) rfl ?_); refine box_event ?hg (N := 8) ?hd (cs := #[.slice none 0 0, .bool false]) (t := 43) ?hr ?_; (case hd => rfl); (case hg => rfl); (case hr => first | (go_simp; done) | (go_simp; rfl)); intro gb264 hg w20 hbox hb; have n0_ := Aside0.mk (Kd.R_below (Kd.R_below HO258.out bu_) hb); have n1_ := Aside0.mk (Kd.V_below (Kd.V_elderB (Kd.V_below HO261.out bu_) gb264 (Nat.le_of_eq hg.symm)) hb); have n2_ := Aside0.mk (blk_below (bq_ BK253.out) hb); have n3_ := Aside0.mk (blk_below (bq_ BK254.out) hb); have n4_ := Aside0.mk (blk_below (bq_ BK255.out) hb); have n5_ := Aside0.mk (below_step bl0_ hb); have n6_ := Aside0.mk (hbox); have n7_ := Aside0.mk (gle_ (w := w) hg bl0_); have n8_ := n7_; have n9_ := Aside0.mk ((nlt_ hg (bq_ BK253.out))); have n10_ := Aside0.mk ((ngt_ hg (bq_ BK253.out))); have n11_ := Aside0.mk ((nlt_ hg (bq_ BK254.out))); have n12_ := Aside0.mk ((ngt_ hg (bq_ BK254.out))); have n13_ := Aside0.mk ((nlt_ hg (bq_ BK255.out))); have n14_ := Aside0.mk ((ngt_ hg (bq_ BK255.out))); clear HO258; clear HO261; clear BK253; clear BK254; clear BK255; clear HB; have HO258 := n0_; have HO261 := n1_; have BK253 := n2_; have BK254 := n3_; have BK255 := n4_; have HB := n5_; have BK264 := n6_; have GW264 := n7_; have GE264 := n8_; have NB253_264 := n9_; have NB264_253 := n10_; have NB254_264 := n11_; have NB264_254 := n12_; have NB255_264 := n13_; have NB264_255 := n14_; clear n0_ n1_ n2_ n3_ n4_ n5_ n6_ n7_ n8_ n9_ n10_ n11_ n12_ n13_ n14_; clear hb hbox hg; obtain ⟨Ao21, co21, eo21⟩ := Kd.V_slice HO261.out; subst eo21; have hnb22 := NB264_253.out; have hnc22 := NB253_264.out; have hnb23 := NB264_254.out; have hnc23 := NB254_264.out; have hnb24 := NB264_255.out; have hnc24 := NB255_264.out; have hcz25_0 : w20.cell? ⟨gb264, 0, none⟩ = some (.slice none 0 0) := (blk_cell BK264.out 0).trans rfl; have hcz25_1 : w20.cell? ⟨gb264, 1, none⟩ = some (.bool false) := (blk_cell BK264.out 1).trans rfl; have hfz25_0 := blk_frozen BK264.out 0; have hfz25_1 := blk_frozen BK264.out 1; have hcz26_0 : w20.cell? ⟨gb254, 0, none⟩ = some (.int .i64 a1_0) := (blk_cell BK254.out 0).trans rfl; have hcz26_1 : w20.cell? ⟨gb254, 1, none⟩ = some (.int .i64 a1_1) := (blk_cell BK254.out 1).trans rfl; have hfz26_0 := blk_frozen BK254.out 0; have hfz26_1 := blk_frozen BK254.out 1; have hcz27_0 : w20.cell? ⟨gb255, 0, none⟩ = some (.int .i64 a2_0) := (blk_cell BK255.out 0).trans rfl; have hcz27_1 : w20.cell? ⟨gb255, 1, none⟩ = some (.int .i64 a2_1) := (blk_cell BK255.out 1).trans rfl; have hfz27_0 := blk_frozen BK255.out 0; have hfz27_1 := blk_frozen BK255.out 1) | ((with_reducible refine gate_callee (f := 18) rfl ?_); refine goesL_ (some 24) rfl rfl Tryd.func18 (by kernel_rfl) rfl #[.agg #[.slice Ao21 t259.length co21, .bool t262], .agg #[.int .i64 a1_0, .int .i64 a1_1], .agg #[.int .i64 a2_0, .int .i64 a2_1]] rfl mp_ ?_; (with_reducible refine (span_ranger_order.calls k _ _ t259 t262 a1_0 a1_1 a2_0 a2_1 t265 _ ?side1 ?side2 A6.out).mono ?_); (case side1 => refine (Kd.V_reads' (e := 37) (base := w.heap.size) (ok := fun k_ => ((some k_ ≠ (.slice Ao18 y256.length co18 : Value).ownBlock ∧ (k_ ≠ gb253 ∧ (k_ ≠ gb254 ∧ k_ ≠ gb255))) ∧ k_ ≠ gb264)) (n := t259.length) (c := co21) ?_).2.2; exact (by (with_reducible repeat (first | apply Kd.V_alloc | apply Kd.V_drewN | apply Kd.V_drew)); exact (Kd.V_mono (Kd.V_far (p := ⟨gb264, 1, none⟩) (Kd.V_far (p := ⟨gb264, 0, none⟩) (Kd.V_mono HO261.out (fun k_ hk => (⟨hk, hk.2⟩ : _ ∧ k_ ≠ gb264))) (fun _ hk => hk.2) (.slice Ao21 t259.length co21)) (fun _ hk => hk.2) (.bool t262)) (fun _ h_ => h_.1)))); (case side2 => exact (Kd.V_reads' HO261.out).2.1); rintro e w28 ⟨rfl, hb⟩; refine ⟨_, rfl, ?_⟩; have n0_ := Aside0.mk (Kd.R_below (by (with_reducible repeat (first | apply Kd.R_alloc | apply Kd.R_drewN | apply Kd.R_drew)); exact (Kd.R_mono (Kd.R_far (p := ⟨gb264, 1, none⟩) (Kd.R_far (p := ⟨gb264, 0, none⟩) (Kd.R_types HO258.out BK264.out (by decide)) (fun _ hk => hk.2) (.slice Ao21 t259.length co21)) (fun _ hk => hk.2) (.bool t262)) (fun _ h_ => h_.1))) hb); have n1_ := Aside0.mk (Kd.V_below (by (with_reducible repeat (first | apply Kd.V_alloc | apply Kd.V_drewN | apply Kd.V_drew)); exact (Kd.V_mono (Kd.V_far (p := ⟨gb264, 1, none⟩) (Kd.V_far (p := ⟨gb264, 0, none⟩) (Kd.V_mono HO261.out (fun k_ hk => (⟨hk, hk.2⟩ : _ ∧ k_ ≠ gb264))) (fun _ hk => hk.2) (.slice Ao21 t259.length co21)) (fun _ hk => hk.2) (.bool t262)) (fun _ h_ => h_.1))) hb); have n2_ := Aside0.mk (blk_below (g := gb253) (o := .cells #[.slice A0_0 l0_0.length c0_0, .bool a0_1] 24 (0, 0)) (by (with_reducible repeat (first | refine blk_drewN ?_ _ | refine blk_drew ?_ | refine blk_alloc ?_ _)); refine blk_far ?_ NB253_264.out _; (with_reducible repeat (first | refine blk_drewN ?_ _ | refine blk_drew ?_ | refine blk_alloc ?_ _)); refine blk_far ?_ NB253_264.out _; (with_reducible repeat (first | refine blk_drewN ?_ _ | refine blk_drew ?_ | refine blk_alloc ?_ _)); exact BK253.out) hb); have n3_ := Aside0.mk (blk_below (g := gb254) (o := .cells #[.int .i64 a1_0, .int .i64 a1_1] 26 (0, 0)) (by (with_reducible repeat (first | refine blk_drewN ?_ _ | refine blk_drew ?_ | refine blk_alloc ?_ _)); refine blk_far ?_ NB254_264.out _; (with_reducible repeat (first | refine blk_drewN ?_ _ | refine blk_drew ?_ | refine blk_alloc ?_ _)); refine blk_far ?_ NB254_264.out _; (with_reducible repeat (first | refine blk_drewN ?_ _ | refine blk_drew ?_ | refine blk_alloc ?_ _)); exact BK254.out) hb); have n4_ := Aside0.mk (blk_below (g := gb255) (o := .cells #[.int .i64 a2_0, .int .i64 a2_1] 26 (0, 0)) (by (with_reducible repeat (first | refine blk_drewN ?_ _ | refine blk_drew ?_ | refine blk_alloc ?_ _)); refine blk_far ?_ NB255_264.out _; (with_reducible repeat (first | refine blk_drewN ?_ _ | refine blk_drew ?_ | refine blk_alloc ?_ _)); refine blk_far ?_ NB255_264.out _; (with_reducible repeat (first | refine blk_drewN ?_ _ | refine blk_drew ?_ | refine blk_alloc ?_ _)); exact BK255.out) hb); have n5_ := Aside0.mk (blk_below (g := gb264) (o := .cells #[.slice Ao21 t259.length co21, .bool t262] 43 (0, 0)) (by (with_reducible repeat (first | refine blk_drewN ?_ _ | refine blk_drew ?_ | refine blk_alloc ?_ _)); refine blk_put (cs := #[.slice Ao21 t259.length co21, .bool false]) ?_ 1 _ rfl; (with_reducible repeat (first | refine blk_drewN ?_ _ | refine blk_drew ?_ | refine blk_alloc ?_ _)); refine blk_put (cs := #[.slice none 0 0, .bool false]) ?_ 0 _ rfl; (with_reducible repeat (first | refine blk_drewN ?_ _ | refine blk_drew ?_ | refine blk_alloc ?_ _)); exact BK264.out) hb); have n6_ := Aside0.mk (below_step bl0_ hb); clear HO258; clear HO261; clear BK253; clear BK254; clear BK255; clear BK264; clear HB; have HO258 := n0_; have HO261 := n1_; have BK253 := n2_; have BK254 := n3_; have BK255 := n4_; have BK264 := n5_; have HB := n6_; clear n0_ n1_ n2_ n3_ n4_ n5_ n6_; (try clear hb); (try clear hb2); (try clear hk); (try clear hi)))
    go_ret2
    exact ⟨er_, bl0_⟩
  · rw [if_neg c5] at H
    have c5b0 : (t263 == 0) = false := beq_eq_false_iff_ne.mpr c5
    have c5b1 : (t263 != 0) = true := bne_iff_ne.mpr c5
    simp only [Option.some.injEq, Prod.mk.injEq] at H
    obtain ⟨rfl, rfl⟩ := H
    go_enter Tryd.func13, Tryd.ntmps13
    go_wp2_with (first | ((with_reducible refine gate_dst (N := 3) rfl ?_); refine box_event ?hg (N := 3) ?hd (cs := #[.slice A0_0 l0_0.length c0_0, .bool a0_1]) (t := 24) ?hr ?_; (case hd => rfl); (case hg => rfl); (case hr => first | (go_simp; done) | (go_simp; rfl)); intro gb253 hg w29 hbox hb; have n0_ := Aside0.mk (below_step bl0_ hb); have n1_ := Aside0.mk (hbox); have n2_ := Aside0.mk (gle_ (w := w) hg bl0_); have n3_ := n2_; clear HB; have HB := n0_; have BK253 := n1_; have GW253 := n2_; have GE253 := n3_; clear n0_ n1_ n2_ n3_; clear hb hbox hg) | ((with_reducible refine gate_dst (N := 4) rfl ?_); refine box_event ?hg (N := 4) ?hd (cs := #[.int .i64 a1_0, .int .i64 a1_1]) (t := 26) ?hr ?_; (case hd => rfl); (case hg => rfl); (case hr => first | (go_simp; done) | (go_simp; rfl)); intro gb254 hg w30 hbox hb; have n0_ := Aside0.mk (blk_below (bq_ BK253.out) hb); have n1_ := Aside0.mk (below_step bl0_ hb); have n2_ := Aside0.mk (hbox); have n3_ := Aside0.mk (gle_ (w := w) hg bl0_); have n4_ := n3_; have n5_ := Aside0.mk ((nlt_ hg (bq_ BK253.out))); have n6_ := Aside0.mk ((ngt_ hg (bq_ BK253.out))); clear BK253; clear HB; have BK253 := n0_; have HB := n1_; have BK254 := n2_; have GW254 := n3_; have GE254 := n4_; have NB253_254 := n5_; have NB254_253 := n6_; clear n0_ n1_ n2_ n3_ n4_ n5_ n6_; clear hb hbox hg) | ((with_reducible refine gate_dst (N := 5) rfl ?_); refine box_event ?hg (N := 5) ?hd (cs := #[.int .i64 a2_0, .int .i64 a2_1]) (t := 26) ?hr ?_; (case hd => rfl); (case hg => rfl); (case hr => first | (go_simp; done) | (go_simp; rfl)); intro gb255 hg w31 hbox hb; have n0_ := Aside0.mk (blk_below (bq_ BK253.out) hb); have n1_ := Aside0.mk (blk_below (bq_ BK254.out) hb); have n2_ := Aside0.mk (below_step bl0_ hb); have n3_ := Aside0.mk (hbox); have n4_ := Aside0.mk (gle_ (w := w) hg bl0_); have n5_ := n4_; have n6_ := Aside0.mk ((nlt_ hg (bq_ BK253.out))); have n7_ := Aside0.mk ((ngt_ hg (bq_ BK253.out))); have n8_ := Aside0.mk ((nlt_ hg (bq_ BK254.out))); have n9_ := Aside0.mk ((ngt_ hg (bq_ BK254.out))); clear BK253; clear BK254; clear HB; have BK253 := n0_; have BK254 := n1_; have HB := n2_; have BK255 := n3_; have GW255 := n4_; have GE255 := n5_; have NB253_255 := n6_; have NB255_253 := n7_; have NB254_255 := n8_; have NB255_254 := n9_; clear n0_ n1_ n2_ n3_ n4_ n5_ n6_ n7_ n8_ n9_; clear hb hbox hg; have hnb32 := NB253_254.out; have hnc32 := NB254_253.out; have hnb33 := NB253_255.out; have hnc33 := NB255_253.out; have hcz34_0 : w31.cell? ⟨gb253, 0, none⟩ = some (.slice A0_0 l0_0.length c0_0) := (blk_cell BK253.out 0).trans rfl; have hcz34_1 : w31.cell? ⟨gb253, 1, none⟩ = some (.bool a0_1) := (blk_cell BK253.out 1).trans rfl; have hfz34_0 := blk_frozen BK253.out 0; have hfz34_1 := blk_frozen BK253.out 1; have hnb35 := NB254_255.out; have hnc35 := NB255_254.out; have hcz36_0 : w31.cell? ⟨gb254, 0, none⟩ = some (.int .i64 a1_0) := (blk_cell BK254.out 0).trans rfl; have hcz36_1 : w31.cell? ⟨gb254, 1, none⟩ = some (.int .i64 a1_1) := (blk_cell BK254.out 1).trans rfl; have hfz36_0 := blk_frozen BK254.out 0; have hfz36_1 := blk_frozen BK254.out 1; have hcz37_0 : w31.cell? ⟨gb255, 0, none⟩ = some (.int .i64 a2_0) := (blk_cell BK255.out 0).trans rfl; have hcz37_1 : w31.cell? ⟨gb255, 1, none⟩ = some (.int .i64 a2_1) := (blk_cell BK255.out 1).trans rfl; have hfz37_0 := blk_frozen BK255.out 0; have hfz37_1 := blk_frozen BK255.out 1) | ((with_reducible refine gate_dst (N := 14) rfl ?_); refine Kd.R_lit k26 _ 26 ?hg (N := 14) ?hd (xs := ([(⟨a1_0, a1_1⟩ : S26), (⟨a2_0, a2_1⟩ : S26)] : List (S26))) (inner := [.int .i64 a1_0, .int .i64 a1_1, .int .i64 a2_0, .int .i64 a2_1]) (ok := fun _ => True) (okp := fun _ => True) ?hr ?hp (fun _ hk => hk) trivial (Below.refl _ _) (Nat.le_refl _) (by simp) ?_; (case hd => rfl); (case hg => rfl); (case hr => first | (go_simp; done) | (go_simp; rfl)); (case hp => exact (Reps.c2 (show Kd.M k26 _ _ _ (⟨a1_0, a1_1⟩ : S26) [.int .i64 a1_0, .int .i64 a1_1] from (k26_mkM _ _ _ (⟨a1_0, a1_1⟩ : S26) )) (Reps.c2 (show Kd.M k26 _ _ _ (⟨a2_0, a2_1⟩ : S26) [.int .i64 a2_0, .int .i64 a2_1] from (k26_mkM _ _ _ (⟨a2_0, a2_1⟩ : S26) )) (Reps.none _ _)))); intro v257 w38 ho39 hb hg_ hnew_; clear hg_ hnew_; (first | rw [← Ny256.out] at ho39 | (simp only [Int.reduceToNat] at ho39; rw [← Ny256.out] at ho39)); have n0_ := Aside0.mk (Kd.R_lower (Kd.R_newB (Kd.R_newB ho39 (g := gb254) (o := .cells #[.int .i64 a1_0, .int .i64 a1_1] 26 (0, 0)) (bq_ BK254.out)) (g := gb255) (o := .cells #[.int .i64 a2_0, .int .i64 a2_1] 26 (0, 0)) (bq_ BK255.out)) (below_size bl0_)); have n1_ := Aside0.mk (blk_below (bq_ BK253.out) hb); have n2_ := Aside0.mk (blk_below (bq_ BK254.out) hb); have n3_ := Aside0.mk (blk_below (bq_ BK255.out) hb); have n4_ := Aside0.mk (below_step bl0_ hb); clear BK253; clear BK254; clear BK255; clear HB; have HO258 := n0_; have BK253 := n1_; have BK254 := n2_; have BK255 := n3_; have HB := n4_; clear n0_ n1_ n2_ n3_ n4_; clear hb ho39; obtain ⟨Ao40, co40, eo40⟩ := Kd.R_slice HO258.out; subst eo40) | ((with_reducible refine gate_callee (f := 17) rfl ?_); refine goesL_ (some 15) rfl rfl Tryd.func17 (by kernel_rfl) rfl #[.agg #[.slice A0_0 l0_0.length c0_0, .bool a0_1], .slice Ao40 y256.length co40] rfl mp_ ?_; (with_reducible refine (span_points.calls k (fun k_ => k_ < w.heap.size) _ _ l0_0 a0_1 _ _ y256 t259 t262 t263 _ ?side1 ?side2 ?side3 A4.out).mono ?_); (case side1 => exact Kd.V_mk HC0_0.out (Kd.F_below (Kd.C_F k37_heap HR0_0.out) bl0_)); (case side2 => repeat (first | exact (Kd.R_reads' HO258.out).2.2 | (with_reducible refine Kd.C_alloc ?_ _) | (with_reducible refine Kd.C_drewN ?_ _) | (with_reducible refine Kd.C_drew ?_))); (case side3 => exact (Kd.R_reads' HO258.out).2.1); rintro e w41 ⟨v260, rfl, ho0, hb⟩; refine ⟨_, rfl, ?_⟩; have n0_ := Aside0.mk (Kd.R_below (Kd.R_below HO258.out bu_) hb); have n1_ := Aside0.mk (Kd.V_lower (Kd.V_mono (ok' := fun k_ => some k_ ≠ (.slice Ao40 y256.length co40 : Value).ownBlock ∧ k_ ≠ gb253 ∧ k_ ≠ gb254 ∧ k_ ≠ gb255) ho0 (fun k_ hk_ => ⟨Or.elim hk_ (fun hs_ => fun e_ => Nat.not_le.2 hs_ (Kd.R_base HO258.out k_ e_.symm)) (fun hn_ => (Kd.fresh' (Kd.R_lt (Kd.R_below HO258.out bu_)) k_ hn_)), Or.elim hk_ (fun hs_ => fun e_ => Nat.not_le.2 hs_ (by rw [e_]; exact GW253.out)) (fun hn_ => (Kd.freshB (g := gb253) (o := .cells #[.slice A0_0 l0_0.length c0_0, .bool a0_1] 24 (0, 0)) (bq_ BK253.out) k_ hn_)), Or.elim hk_ (fun hs_ => fun e_ => Nat.not_le.2 hs_ (by rw [e_]; exact GW254.out)) (fun hn_ => (Kd.freshB (g := gb254) (o := .cells #[.int .i64 a1_0, .int .i64 a1_1] 26 (0, 0)) (bq_ BK254.out) k_ hn_)), Or.elim hk_ (fun hs_ => fun e_ => Nat.not_le.2 hs_ (by rw [e_]; exact GW255.out)) (fun hn_ => (Kd.freshB (g := gb255) (o := .cells #[.int .i64 a2_0, .int .i64 a2_1] 26 (0, 0)) (bq_ BK255.out) k_ hn_))⟩)) (below_size bl0_)); have n2_ := Aside0.mk (blk_below (bq_ BK253.out) hb); have n3_ := Aside0.mk (blk_below (bq_ BK254.out) hb); have n4_ := Aside0.mk (blk_below (bq_ BK255.out) hb); have n5_ := Aside0.mk (below_step bl0_ hb); clear HO258; clear BK253; clear BK254; clear BK255; clear HB; have HO258 := n0_; have HO261 := n1_; have BK253 := n2_; have BK254 := n3_; have BK255 := n4_; have HB := n5_; clear n0_ n1_ n2_ n3_ n4_ n5_; (try clear hb); (try clear hb2); (try clear hk); (try clear hi); (try clear ho0)) | ((with_reducible refine gate_dst (N := 8) rfl ?_); refine box_event ?hg (N := 8) ?hd (cs := #[.slice none 0 0, .bool false]) (t := 43) ?hr ?_; (case hd => rfl); (case hg => rfl); (case hr => first | (go_simp; done) | (go_simp; rfl)); intro gb264 hg w42 hbox hb; have n0_ := Aside0.mk (Kd.R_below (Kd.R_below HO258.out bu_) hb); have n1_ := Aside0.mk (Kd.V_below (Kd.V_elderB (Kd.V_below HO261.out bu_) gb264 (Nat.le_of_eq hg.symm)) hb); have n2_ := Aside0.mk (blk_below (bq_ BK253.out) hb); have n3_ := Aside0.mk (blk_below (bq_ BK254.out) hb); have n4_ := Aside0.mk (blk_below (bq_ BK255.out) hb); have n5_ := Aside0.mk (below_step bl0_ hb); have n6_ := Aside0.mk (hbox); have n7_ := Aside0.mk (gle_ (w := w) hg bl0_); have n8_ := n7_; have n9_ := Aside0.mk ((nlt_ hg (bq_ BK253.out))); have n10_ := Aside0.mk ((ngt_ hg (bq_ BK253.out))); have n11_ := Aside0.mk ((nlt_ hg (bq_ BK254.out))); have n12_ := Aside0.mk ((ngt_ hg (bq_ BK254.out))); have n13_ := Aside0.mk ((nlt_ hg (bq_ BK255.out))); have n14_ := Aside0.mk ((ngt_ hg (bq_ BK255.out))); clear HO258; clear HO261; clear BK253; clear BK254; clear BK255; clear HB; have HO258 := n0_; have HO261 := n1_; have BK253 := n2_; have BK254 := n3_; have BK255 := n4_; have HB := n5_; have BK264 := n6_; have GW264 := n7_; have GE264 := n8_; have NB253_264 := n9_; have NB264_253 := n10_; have NB254_264 := n11_; have NB264_254 := n12_; have NB255_264 := n13_; have NB264_255 := n14_; clear n0_ n1_ n2_ n3_ n4_ n5_ n6_ n7_ n8_ n9_ n10_ n11_ n12_ n13_ n14_; clear hb hbox hg; obtain ⟨Ao43, co43, eo43⟩ := Kd.V_slice HO261.out; subst eo43; have hnb44 := NB264_253.out; have hnc44 := NB253_264.out; have hnb45 := NB264_254.out; have hnc45 := NB254_264.out; have hnb46 := NB264_255.out; have hnc46 := NB255_264.out; have hcz47_0 : w42.cell? ⟨gb264, 0, none⟩ = some (.slice none 0 0) := (blk_cell BK264.out 0).trans rfl; have hcz47_1 : w42.cell? ⟨gb264, 1, none⟩ = some (.bool false) := (blk_cell BK264.out 1).trans rfl; have hfz47_0 := blk_frozen BK264.out 0; have hfz47_1 := blk_frozen BK264.out 1))
    go_ret2
    exact ⟨er_, bl0_⟩

/-! ### api_Node: function 38 -/
theorem api_Node.info : (Tryd.prog.info? 37).map (fun i => (i.zero, i.size, i.bytes)) = some (some (.agg #[.int .i64 0, .string ⟨#[]⟩, .slice none 0 0, .string ⟨#[]⟩, .int .i64 0, .slice none 0 0]), 6, 96) := by kernel_rfl

def api_Node.f (l0 : List (S37)) : Option (List (S37)) := some l0
set_option maxRecDepth 100000 in
set_option maxHeartbeats 2000000 in
/-- Clone: a row of one's own with the same cells. -/
theorem api_Node.row (A : Option Addr) (c : Nat) (xs : List (S37)) (w0 w : World) (hb0 : Below w0.heap.size w0 w) (hr : Kd.C k37 w0 A xs.length xs) (hn : xs.length ≤ 1000000) :
    Calls Tryd.prog 38 #[.slice A xs.length c] w fun e w' => ∃ v inner, e = .returned v ∧ w'.ownsRow w.heap.size 37 6 v xs.length inner ∧ Reps (Kd.K k37 w0) 6 xs inner ∧ Below w.heap.size w w' := by
  obtain ⟨i0, hi, hz0, hz1, hz2⟩ := info_parts api_Node.info
  obtain ⟨n, hnn⟩ : ∃ n, n = xs.length := ⟨_, rfl⟩
  have heq := fun W : World => Lib.run_eql_slice_nil (P := Tryd.prog) W 22 37 A n c 0 0 Tryd.underlying22
  cases A with
  | none =>
    have h0 : xs = [] := by
      rcases Nat.eq_zero_or_pos xs.length with h | h
      · exact List.eq_nil_of_length_eq_zero h
      · obtain ⟨ad, h, _⟩ := hr.2.2 h; cases h
    subst h0
    clear hr hb0
    rw [← hnn]
    have HN := Lib.hid hnn
    clear hnn
    go_enter Tryd.func38, Tryd.ntmps38
    go_wp2_with fail
    go_ret
    exact ⟨_, [], rfl, by rw [HN.out]; exact own_nil _ _ _ _, Reps.none _ _, Below.refl _ _⟩
  | some ad =>
    obtain ⟨inner, hil, hrep, hone, hcell⟩ := C_inner hr
    have hsz : inner.length = n * 6 := by rw [hil, hnn]; rfl
    have HR := Lib.hid hrep
    have HN := Lib.hid hnn
    rw [← hnn] at hn ⊢
    have HC : Hid (∀ j u, inner[j]? = some u → (w.alloc (.cells #[] 37)).cell? (ad.add j) = some u) := Lib.hid (fun j u hu => pw_cell_below ((Below.refl _ w).alloc (Nat.le_refl _) _) (pw_cell_below hb0 (hcell j u hu)))
    clear hr hrep hcell hil hnn hb0
    go_enter Tryd.func38, Tryd.ntmps38
    have hown : (w.alloc (.cells #[] 37)).ownsRow w.heap.size 37 6 (.slice (some ⟨w.heap.size, 0, none⟩) 0 0) 0 [] := World.ownsRow_lit w #[] 0 (Nat.le_refl _) (by decide) (by simp)
    go_wp2_with ((at_builtin; refine wpList_append_own_at _ rfl _ _ 22 rfl w.heap.size 37 i0 (.agg #[.int .i64 0, .string ⟨#[]⟩, .slice none 0 0, .string ⟨#[]⟩, .int .i64 0, .slice none 0 0]) 6 96 Tryd.underlying22 hi hz0 hz1 hz2 rfl (by decide) _ 0 [] rfl hown ad n c inner rfl hsz HC.out hone (by unfold maxLen; omega) (by omega) (by simp) ?c1))
    case c1 =>
      intro v1 w1 hown1 hg _ _
      have HO : Hid (w1.ownsRow w.heap.size 37 6 v1 n inner) := Lib.hid (by simpa using hown1)
      have HB : Hid (Below w.heap.size w w1) := Lib.hid (((Below.refl _ w).alloc (Nat.le_refl _) _).grown hg (by simp) (own_base hown))
      clear hown1 hg hown
      go_wp2_with fail
      go_ret
      exact ⟨_, _, rfl, HO.out, HR.out, HB.out⟩


/-! ### api_Attr: function 39 -/
theorem api_Attr.info : (Tryd.prog.info? 86).map (fun i => (i.zero, i.size, i.bytes)) = some (some (.agg #[.string ⟨#[]⟩, .string ⟨#[]⟩]), 2, 32) := by kernel_rfl

def api_Attr.f (l0 : List (S86)) : Option (List (S86)) := some l0
set_option maxRecDepth 100000 in
set_option maxHeartbeats 2000000 in
/-- Clone: a row of one's own with the same cells. -/
theorem api_Attr.row (A : Option Addr) (c : Nat) (xs : List (S86)) (w : World) (hr : Kd.C k86 w A xs.length xs) (hn : xs.length ≤ 1000000) :
    Calls Tryd.prog 39 #[.slice A xs.length c] w fun e w' => ∃ v inner, e = .returned v ∧ w'.ownsRow w.heap.size 86 2 v xs.length inner ∧ Reps (Kd.K k86 w) 2 xs inner ∧ Below w.heap.size w w' := by
  obtain ⟨i0, hi, hz0, hz1, hz2⟩ := info_parts api_Attr.info
  obtain ⟨n, hnn⟩ : ∃ n, n = xs.length := ⟨_, rfl⟩
  have heq := fun W : World => Lib.run_eql_slice_nil (P := Tryd.prog) W 34 86 A n c 0 0 Tryd.underlying34
  cases A with
  | none =>
    have h0 : xs = [] := by
      rcases Nat.eq_zero_or_pos xs.length with h | h
      · exact List.eq_nil_of_length_eq_zero h
      · obtain ⟨ad, h, _⟩ := hr.2.2 h; cases h
    subst h0
    clear hr
    rw [← hnn]
    have HN := Lib.hid hnn
    clear hnn
    go_enter Tryd.func39, Tryd.ntmps39
    go_wp2_with fail
    go_ret
    exact ⟨_, [], rfl, by rw [HN.out]; exact own_nil _ _ _ _, Reps.none _ _, Below.refl _ _⟩
  | some ad =>
    obtain ⟨inner, hil, hrep, hone, hcell⟩ := C_inner hr
    have hsz : inner.length = n * 2 := by rw [hil, hnn]; rfl
    have HR := Lib.hid hrep
    have HN := Lib.hid hnn
    rw [← hnn] at hn ⊢
    have HC : Hid (∀ j u, inner[j]? = some u → (w.alloc (.cells #[] 86)).cell? (ad.add j) = some u) := Lib.hid (fun j u hu => pw_cell_below ((Below.refl _ w).alloc (Nat.le_refl _) _) (hcell j u hu))
    clear hr hrep hcell hil hnn
    go_enter Tryd.func39, Tryd.ntmps39
    have hown : (w.alloc (.cells #[] 86)).ownsRow w.heap.size 86 2 (.slice (some ⟨w.heap.size, 0, none⟩) 0 0) 0 [] := World.ownsRow_lit w #[] 0 (Nat.le_refl _) (by decide) (by simp)
    go_wp2_with ((at_builtin; refine wpList_append_own_at _ rfl _ _ 34 rfl w.heap.size 86 i0 (.agg #[.string ⟨#[]⟩, .string ⟨#[]⟩]) 2 32 Tryd.underlying34 hi hz0 hz1 hz2 rfl (by decide) _ 0 [] rfl hown ad n c inner rfl hsz HC.out hone (by unfold maxLen; omega) (by omega) (by simp) ?c1))
    case c1 =>
      intro v1 w1 hown1 hg _ _
      have HO : Hid (w1.ownsRow w.heap.size 86 2 v1 n inner) := Lib.hid (by simpa using hown1)
      have HB : Hid (Below w.heap.size w w1) := Lib.hid (((Below.refl _ w).alloc (Nat.le_refl _) _).grown hg (by simp) (own_base hown))
      clear hown1 hg hown
      go_wp2_with fail
      go_ret
      exact ⟨_, _, rfl, HO.out, HR.out, HB.out⟩

theorem api_Attr.calls (A0 : Option Addr) (c0 : Nat) (l0 : List (S86)) (w : World) (hr0 : Kd.C k86 w A0 l0.length l0) (hn : l0.length ≤ 1000000) :
    Calls Tryd.prog 39 #[.slice A0 l0.length c0] w fun e w' => ∃ v0_ : Value, e = .returned v0_ ∧ Kd.R k86 86 w' w.heap.size (fun _ => True) v0_ l0 ∧ Below w.heap.size w w' :=
  (api_Attr.row A0 c0 l0 w hr0 hn).mono fun e w' ⟨v, inner, he, ho, hr, hb⟩ => ⟨v, he, ⟨fun _ _ => trivial, inner, ho, hr.imp_ (fun _ _ hp => hp)⟩, hb⟩


end Go.Proofs.YthggdgnpphjpkaaDoor.PSP
