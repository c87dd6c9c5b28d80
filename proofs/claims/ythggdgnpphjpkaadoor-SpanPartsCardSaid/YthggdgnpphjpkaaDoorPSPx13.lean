-- printed by wip/tools/pr.py (own) through the kit's printer; texts GIVEN by hand stand among them
import Derived.Test.YthggdgnpphjpkaaDoorPSPx0
import Derived.Test.YthggdgnpphjpkaaDoorPSPx1
import Derived.Test.YthggdgnpphjpkaaDoorPSPx9
import Derived.Test.YthggdgnpphjpkaaDoorPSPx11
import Derived.Test.YthggdgnpphjpkaaDoorPSPx12
namespace Go.Proofs.YthggdgnpphjpkaaDoor.PSP
open Go.RowKit Go.Proofs.YthggdgnpphjpkaaDoorW.PrintWords Go.Proofs.YthggdgnpphjpkaaDoorW.PrintLast Go.Proofs.YthggdgnpphjpkaaDoorW.PrintMore
attribute [local go_sem] max2_int min2_int max_two min_two max_three min_three max_four min_four   -- for this text's walks alone
set_option linter.unusedVariables false
set_option linter.unusedSimpArgs false

/-! ### clerestorykeep1_SpanParts: function 3 -/
def clerestorykeep1_SpanParts.j0 : Nat → ByteArray → ByteArray → Bool → List (S37) → Bool → Int → Int → Int → Int → Option (Bool)
  | 0, _, _, _, _, _, _, _, _, _ => none
  | k + 1, x7, x9, x42, x314000, x314001, x315000, x315001, x315002, x315003 => if x42 = true then ((clerestorykeep1_spanBegun.f k).bind fun t324 => (some t324)) else (if (x314000.length : Int) = 0 then (some false) else ((span_Text.f k x314000 x314001 x315000 x315001 x315002 x315003).bind fun bt325 => (if 0 < (x314000.length : Int) then ((span_Text.f k x314000 x314001 0 0 0 (((rd_T37 x314000 0).f5).length : Int)).bind fun bt328 => ((dom_TextOf.f k x314000 x314001 0).bind fun bt330 => ((clerestorykeep1_spanBegun.f k).bind fun t332 => (if t332 = true then (if bt325.2 = 0 then (if x7.size + x9.size ≤ 9223372036854775807 then (if bt325.1.toList = (x7 ++ x9).toList then (if bt328.2 = 0 then (if bt330.2 = 0 then (some (bt328.1.toList == bt330.1.toList)) else (some false)) else (some false)) else (some false)) else (none)) else (some false)) else (some false))))) else (none))))
def clerestorykeep1_SpanParts.f (k : Nat) (l0_0 : List (S37)) (a0_1 : Bool) (a1_0 : Int) (a1_1 : Int) (a1_2 : Int) (a1_3 : Int) (a2_0 : Int) (a2_1 : Int) : Option (Bool) := (clerestorykeep1_brief.f k l0_0 a0_1).bind fun bt316 => ((span_Text.f k bt316.1 bt316.2 a1_0 a1_1 a2_0 a2_1).bind fun bt320 => ((span_Text.f k bt316.1 bt316.2 a2_0 a2_1 a1_2 a1_3).bind fun bt322 => (if bt320.2 = 0 then (clerestorykeep1_SpanParts.j0 k bt320.1 bt322.1 (bt322.2 != 0) bt316.1 bt316.2 a1_0 a1_1 a1_2 a1_3) else (clerestorykeep1_SpanParts.j0 k bt320.1 bt322.1 true bt316.1 bt316.2 a1_0 a1_1 a1_2 a1_3))))
theorem clerestorykeep1_SpanParts.mono_l : ∀ k, (∀ y0 y1 y2 y3 y4 y5 y6 y7 y8, LeO (clerestorykeep1_SpanParts.j0 k y0 y1 y2 y3 y4 y5 y6 y7 y8) (clerestorykeep1_SpanParts.j0 (k + 1) y0 y1 y2 y3 y4 y5 y6 y7 y8))
  | 0 => fun _ _ _ _ _ _ _ _ _ r h => by simp [clerestorykeep1_SpanParts.j0] at h
  | k + 1 => by
    have ih0 := clerestorykeep1_SpanParts.mono_l k
    · intro y0 y1 y2 y3 y4 y5 y6 y7 y8
      unfold clerestorykeep1_SpanParts.j0
      repeat' first
      | (with_reducible exact ih0 _ _ _ _ _ _ _ _ _)
      | (with_reducible exact clerestorykeep1_brief.mono _ _ _)
      | (with_reducible exact clerestorykeep1_spanBegun.mono _)
      | (with_reducible exact dom_TextOf.mono _ _ _ _)
      | (with_reducible exact span_Text.mono _ _ _ _ _ _ _)
      | (with_reducible exact LeO.refl _)
      | (with_reducible exact LeO.none _)
      | (with_reducible refine LeO.ite ?_ ?_)
      | (with_reducible refine LeO.bind ?_ (fun _ => ?_))
      | exact ih0 _ _ _ _ _ _ _ _ _
      | exact clerestorykeep1_brief.mono _ _ _
      | exact clerestorykeep1_spanBegun.mono _
      | exact dom_TextOf.mono _ _ _ _
      | exact span_Text.mono _ _ _ _ _ _ _
      | exact LeO.none _
      | refine LeO.ite ?_ ?_
      | refine LeO.bind ?_ (fun _ => ?_)
theorem clerestorykeep1_SpanParts.mono : ∀ a0 a1 a2 a3 a4 a5 a6 a7 k, LeO (clerestorykeep1_SpanParts.f k a0 a1 a2 a3 a4 a5 a6 a7) (clerestorykeep1_SpanParts.f (k + 1) a0 a1 a2 a3 a4 a5 a6 a7) := by
  intro a0 a1 a2 a3 a4 a5 a6 a7 k
  have ih0 := clerestorykeep1_SpanParts.mono_l k
  unfold clerestorykeep1_SpanParts.f
  repeat' first
      | (with_reducible exact ih0 _ _ _ _ _ _ _ _ _)
      | (with_reducible exact clerestorykeep1_brief.mono _ _ _)
      | (with_reducible exact clerestorykeep1_spanBegun.mono _)
      | (with_reducible exact dom_TextOf.mono _ _ _ _)
      | (with_reducible exact span_Text.mono _ _ _ _ _ _ _)
      | (with_reducible exact LeO.refl _)
      | (with_reducible exact LeO.none _)
      | (with_reducible refine LeO.ite ?_ ?_)
      | (with_reducible refine LeO.bind ?_ (fun _ => ?_))
      | exact ih0 _ _ _ _ _ _ _ _ _
      | exact clerestorykeep1_brief.mono _ _ _
      | exact clerestorykeep1_spanBegun.mono _
      | exact dom_TextOf.mono _ _ _ _
      | exact span_Text.mono _ _ _ _ _ _ _
      | exact LeO.none _
      | refine LeO.ite ?_ ?_
      | refine LeO.bind ?_ (fun _ => ?_)
def clerestorykeep1_SpanParts.T9 : Bool × List (List Nat × List Nat) := (true, [([], []), ([], []), ([1], [1]), ([2], [2]), ([3], [3]), ([4], [4]), ([5], [5]), ([6], [6]), ([7], [7]), ([0, 8], [0, 8]), ([9], [9]), ([10], [10]), ([10], [10]), ([11, 9, 0, 1, 2, 3, 4, 5, 6, 7, 8, 9, 10, 11], [11]), ([12, 13, 0, 1, 2, 3, 4, 5, 6, 7, 8, 9, 10, 11, 12, 13], [12])])
def clerestorykeep1_SpanParts.B9 : List Nat := [0, 0, 2, 6, 14, 30, 62, 126, 254, 511, 1023, 2047, 2047, 4095, 16383]
theorem clerestorykeep1_SpanParts.tab9 : rtab .any (opsOf Tryd.f3 9) = clerestorykeep1_SpanParts.T9 := by kernel_rfl
theorem clerestorykeep1_SpanParts.bits9 : waitsOk clerestorykeep1_SpanParts.T9.2 clerestorykeep1_SpanParts.B9 = true := by kernel_rfl
set_option maxHeartbeats 8000000 in
set_option maxRecDepth 100000 in
theorem clerestorykeep1_SpanParts.calls (k : Nat) (A0_0 : Option Addr) (c0_0 : Nat) (l0_0 : List (S37)) (a0_1 : Bool) (a1_0 : Int) (a1_1 : Int) (a1_2 : Int) (a1_3 : Int) (a2_0 : Int) (a2_1 : Int) (r : Bool) (w : World) (hr0_0 : Kd.C k37 w A0_0 l0_0.length l0_0) (hc0_0 : l0_0.length ≤ c0_0) (h : clerestorykeep1_SpanParts.f k l0_0 a0_1 a1_0 a1_1 a1_2 a1_3 a2_0 a2_1 = some r) :
    Calls Tryd.prog 3 #[.agg #[.slice A0_0 l0_0.length c0_0, .bool a0_1], .agg #[.int .i64 a1_0, .int .i64 a1_1, .int .i64 a1_2, .int .i64 a1_3], .agg #[.int .i64 a2_0, .int .i64 a2_1]] w fun e w' => e = .returned (.bool r) ∧ Below w.heap.size w w' := by
  have hu24 := Tryd.underlying24
  have hu28 := Tryd.underlying28
  have hu26 := Tryd.underlying26
  have HR0_0 := Aside0.mk hr0_0
  have HC0_0 := Aside0.mk hc0_0
  clear hr0_0 hc0_0
  have HB := Aside0.mk (Below.refl w.heap.size w)
  have H : ((clerestorykeep1_brief.f k l0_0 a0_1).bind fun bt316 => ((span_Text.f k bt316.1 bt316.2 a1_0 a1_1 a2_0 a2_1).bind fun bt320 => ((span_Text.f k bt316.1 bt316.2 a2_0 a2_1 a1_2 a1_3).bind fun bt322 => (if bt320.2 = 0 then (clerestorykeep1_SpanParts.j0 k bt320.1 bt322.1 (bt322.2 != 0) bt316.1 bt316.2 a1_0 a1_1 a1_2 a1_3) else (clerestorykeep1_SpanParts.j0 k bt320.1 bt322.1 true bt316.1 bt316.2 a1_0 a1_1 a1_2 a1_3))))) = some r := h
  clear h
  replace H := Option.bind_eq_some_iff.mp H
  obtain ⟨⟨t316, t319⟩, A40, H⟩ := H
  replace H : ((span_Text.f k t316 t319 a1_0 a1_1 a2_0 a2_1).bind fun bt320 => ((span_Text.f k t316 t319 a2_0 a2_1 a1_2 a1_3).bind fun bt322 => (if bt320.2 = 0 then (clerestorykeep1_SpanParts.j0 k bt320.1 bt322.1 (bt322.2 != 0) t316 t319 a1_0 a1_1 a1_2 a1_3) else (clerestorykeep1_SpanParts.j0 k bt320.1 bt322.1 true t316 t319 a1_0 a1_1 a1_2 a1_3)))) = some r := H
  have A4 := Aside0.mk A40
  clear A40
  replace H := Option.bind_eq_some_iff.mp H
  obtain ⟨⟨t320, t321⟩, A50, H⟩ := H
  replace H : ((span_Text.f k t316 t319 a2_0 a2_1 a1_2 a1_3).bind fun bt322 => (if t321 = 0 then (clerestorykeep1_SpanParts.j0 k t320 bt322.1 (bt322.2 != 0) t316 t319 a1_0 a1_1 a1_2 a1_3) else (clerestorykeep1_SpanParts.j0 k t320 bt322.1 true t316 t319 a1_0 a1_1 a1_2 a1_3))) = some r := H
  have A5 := Aside0.mk A50
  clear A50
  replace H := Option.bind_eq_some_iff.mp H
  obtain ⟨⟨t322, t323⟩, A60, H⟩ := H
  replace H : (if t321 = 0 then (clerestorykeep1_SpanParts.j0 k t320 t322 (t323 != 0) t316 t319 a1_0 a1_1 a1_2 a1_3) else (clerestorykeep1_SpanParts.j0 k t320 t322 true t316 t319 a1_0 a1_1 a1_2 a1_3)) = some r := H
  have A6 := Aside0.mk A60
  clear A60
  have HC7 := Aside0.mk H
  clear H
  go_enter Tryd.func3, Tryd.ntmps3
  go_upto_region 4 with (first | ((with_reducible refine gate_dst (N := 3) rfl ?_); refine box_event ?hg (N := 3) ?hd (cs := #[.slice A0_0 l0_0.length c0_0, .bool a0_1]) (t := 24) ?hr ?_; (case hd => rfl); (case hg => rfl); (case hr => first | (go_simp; done) | (go_simp; rfl)); intro gb313 hg w8 hbox hb; have n0_ := Aside0.mk (below_step bl0_ hb); have n1_ := Aside0.mk (hbox); have n2_ := Aside0.mk (gle_ (w := w) hg bl0_); have n3_ := n2_; clear HB; have HB := n0_; have BK313 := n1_; have GW313 := n2_; have GE313 := n3_; clear n0_ n1_ n2_ n3_; clear hb hbox hg) | ((with_reducible refine gate_dst (N := 4) rfl ?_); refine box_event ?hg (N := 4) ?hd (cs := #[.int .i64 a1_0, .int .i64 a1_1, .int .i64 a1_2, .int .i64 a1_3]) (t := 28) ?hr ?_; (case hd => rfl); (case hg => rfl); (case hr => first | (go_simp; done) | (go_simp; rfl)); intro gb314 hg w9 hbox hb; have n0_ := Aside0.mk (blk_below (bq_ BK313.out) hb); have n1_ := Aside0.mk (below_step bl0_ hb); have n2_ := Aside0.mk (hbox); have n3_ := Aside0.mk (gle_ (w := w) hg bl0_); have n4_ := n3_; have n5_ := Aside0.mk ((nlt_ hg (bq_ BK313.out))); have n6_ := Aside0.mk ((ngt_ hg (bq_ BK313.out))); clear BK313; clear HB; have BK313 := n0_; have HB := n1_; have BK314 := n2_; have GW314 := n3_; have GE314 := n4_; have NB313_314 := n5_; have NB314_313 := n6_; clear n0_ n1_ n2_ n3_ n4_ n5_ n6_; clear hb hbox hg) | ((with_reducible refine gate_dst (N := 5) rfl ?_); refine box_event ?hg (N := 5) ?hd (cs := #[.int .i64 a2_0, .int .i64 a2_1]) (t := 26) ?hr ?_; (case hd => rfl); (case hg => rfl); (case hr => first | (go_simp; done) | (go_simp; rfl)); intro gb315 hg w10 hbox hb; have n0_ := Aside0.mk (blk_below (bq_ BK313.out) hb); have n1_ := Aside0.mk (blk_below (bq_ BK314.out) hb); have n2_ := Aside0.mk (below_step bl0_ hb); have n3_ := Aside0.mk (hbox); have n4_ := Aside0.mk (gle_ (w := w) hg bl0_); have n5_ := n4_; have n6_ := Aside0.mk ((nlt_ hg (bq_ BK313.out))); have n7_ := Aside0.mk ((ngt_ hg (bq_ BK313.out))); have n8_ := Aside0.mk ((nlt_ hg (bq_ BK314.out))); have n9_ := Aside0.mk ((ngt_ hg (bq_ BK314.out))); clear BK313; clear BK314; clear HB; have BK313 := n0_; have BK314 := n1_; have HB := n2_; have BK315 := n3_; have GW315 := n4_; have GE315 := n5_; have NB313_315 := n6_; have NB315_313 := n7_; have NB314_315 := n8_; have NB315_314 := n9_; clear n0_ n1_ n2_ n3_ n4_ n5_ n6_ n7_ n8_ n9_; clear hb hbox hg; have hnb11 := NB313_314.out; have hnc11 := NB314_313.out; have hnb12 := NB313_315.out; have hnc12 := NB315_313.out; have hcz13_0 : w10.cell? ⟨gb313, 0, none⟩ = some (.slice A0_0 l0_0.length c0_0) := (blk_cell BK313.out 0).trans rfl; have hcz13_1 : w10.cell? ⟨gb313, 1, none⟩ = some (.bool a0_1) := (blk_cell BK313.out 1).trans rfl; have hfz13_0 := blk_frozen BK313.out 0; have hfz13_1 := blk_frozen BK313.out 1) | ((with_reducible refine gate_callee (f := 4) rfl ?_); refine goesL_ (some 18) rfl rfl Tryd.func4 (by kernel_rfl) rfl #[.agg #[.slice A0_0 l0_0.length c0_0, .bool a0_1]] rfl mp_ ?_; (with_reducible refine (clerestorykeep1_brief.calls k (fun k_ => k_ < w.heap.size) _ _ l0_0 a0_1 t316 t319 _ ?side1 A4.out).mono ?_); (case side1 => exact Kd.V_mk HC0_0.out (Kd.F_below (Kd.C_F k37_heap HR0_0.out) bl0_)); rintro e w14 ⟨v317, rfl, ho0, hb⟩; refine ⟨_, rfl, ?_⟩; have n0_ := Aside0.mk (Kd.N_lower (Kd.N_mono (ok' := fun k_ => k_ ≠ gb313 ∧ k_ ≠ gb314 ∧ k_ ≠ gb315) ho0 (fun k_ hk_ => ⟨Or.elim hk_ (fun hs_ => fun e_ => Nat.not_le.2 hs_ (by rw [e_]; exact GW313.out)) (fun hn_ => (Kd.freshB (g := gb313) (o := .cells #[.slice A0_0 l0_0.length c0_0, .bool a0_1] 24 (0, 0)) (bq_ BK313.out) k_ hn_)), Or.elim hk_ (fun hs_ => fun e_ => Nat.not_le.2 hs_ (by rw [e_]; exact GW314.out)) (fun hn_ => (Kd.freshB (g := gb314) (o := .cells #[.int .i64 a1_0, .int .i64 a1_1, .int .i64 a1_2, .int .i64 a1_3] 28 (0, 0)) (bq_ BK314.out) k_ hn_)), Or.elim hk_ (fun hs_ => fun e_ => Nat.not_le.2 hs_ (by rw [e_]; exact GW315.out)) (fun hn_ => (Kd.freshB (g := gb315) (o := .cells #[.int .i64 a2_0, .int .i64 a2_1] 26 (0, 0)) (bq_ BK315.out) k_ hn_))⟩)) (below_size bl0_)); have n1_ := Aside0.mk (blk_below (bq_ BK313.out) hb); have n2_ := Aside0.mk (blk_below (bq_ BK314.out) hb); have n3_ := Aside0.mk (blk_below (bq_ BK315.out) hb); have n4_ := Aside0.mk (below_step bl0_ hb); clear BK313; clear BK314; clear BK315; clear HB; have HO318 := n0_; have BK313 := n1_; have BK314 := n2_; have BK315 := n3_; have HB := n4_; clear n0_ n1_ n2_ n3_ n4_; (try clear hb); (try clear hb2); (try clear hk); (try clear hi); (try clear ho0); obtain ⟨Ao15, co15, eo15⟩ := Kd.N_slice HO318.out; subst eo15; have hcz16_0 : w14.cell? ⟨gb313, 0, none⟩ = some (.slice A0_0 l0_0.length c0_0) := (blk_cell BK313.out 0).trans rfl; have hcz16_1 : w14.cell? ⟨gb313, 1, none⟩ = some (.bool a0_1) := (blk_cell BK313.out 1).trans rfl; have hfz16_0 := blk_frozen BK313.out 0; have hfz16_1 := blk_frozen BK313.out 1; have hnb17 := NB314_315.out; have hnc17 := NB315_314.out; have hcz18_0 : w14.cell? ⟨gb314, 0, none⟩ = some (.int .i64 a1_0) := (blk_cell BK314.out 0).trans rfl; have hcz18_1 : w14.cell? ⟨gb314, 1, none⟩ = some (.int .i64 a1_1) := (blk_cell BK314.out 1).trans rfl; have hcz18_2 : w14.cell? ⟨gb314, 2, none⟩ = some (.int .i64 a1_2) := (blk_cell BK314.out 2).trans rfl; have hcz18_3 : w14.cell? ⟨gb314, 3, none⟩ = some (.int .i64 a1_3) := (blk_cell BK314.out 3).trans rfl; have hfz18_0 := blk_frozen BK314.out 0; have hfz18_1 := blk_frozen BK314.out 1; have hfz18_2 := blk_frozen BK314.out 2; have hfz18_3 := blk_frozen BK314.out 3; have hcz19_0 : w14.cell? ⟨gb315, 0, none⟩ = some (.int .i64 a2_0) := (blk_cell BK315.out 0).trans rfl; have hcz19_1 : w14.cell? ⟨gb315, 1, none⟩ = some (.int .i64 a2_1) := (blk_cell BK315.out 1).trans rfl; have hfz19_0 := blk_frozen BK315.out 0; have hfz19_1 := blk_frozen BK315.out 1) | ((with_reducible refine gate_callee (f := 5) rfl ?_); refine goesL_ (some 25) rfl rfl Tryd.func5 (by kernel_rfl) rfl #[.agg #[.slice Ao15 t316.length co15, .bool t319], .agg #[.int .i64 a1_0, .int .i64 a1_1, .int .i64 a2_0, .int .i64 a2_1]] rfl mp_ ?_; (with_reducible refine (span_Text.calls k _ _ t316 t319 a1_0 a1_1 a2_0 a2_1 t320 t321 _ ?side1 ?side2 A5.out).mono ?_); (case side1 => refine (Kd.N_reads' (e := 37) (base := w.heap.size) (ok := fun k_ => (k_ ≠ gb313 ∧ (k_ ≠ gb314 ∧ k_ ≠ gb315))) (n := t316.length) (c := co15) ?_).2.2; exact (by (with_reducible repeat (first | apply Kd.N_alloc | apply Kd.N_drewN | apply Kd.N_drew)); exact (Kd.N_mono (Kd.N_far (p := ⟨gb313, 1, none⟩) (Kd.N_far (p := ⟨gb313, 0, none⟩) (Kd.N_mono HO318.out (fun k_ hk => (⟨hk, hk.1⟩ : _ ∧ k_ ≠ gb313))) (fun _ hk => hk.2) (.slice Ao15 t316.length co15)) (fun _ hk => hk.2) (.bool t319)) (fun _ h_ => h_.1)))); (case side2 => exact (Kd.N_reads' HO318.out).2.1); rintro e w20 ⟨rfl, hb⟩; refine ⟨_, rfl, ?_⟩; have n0_ := Aside0.mk (Kd.N_below (by (with_reducible repeat (first | apply Kd.N_alloc | apply Kd.N_drewN | apply Kd.N_drew)); exact (Kd.N_mono (Kd.N_far (p := ⟨gb313, 1, none⟩) (Kd.N_far (p := ⟨gb313, 0, none⟩) (Kd.N_mono HO318.out (fun k_ hk => (⟨hk, hk.1⟩ : _ ∧ k_ ≠ gb313))) (fun _ hk => hk.2) (.slice Ao15 t316.length co15)) (fun _ hk => hk.2) (.bool t319)) (fun _ h_ => h_.1))) hb); have n1_ := Aside0.mk (blk_below (g := gb313) (o := .cells #[.slice Ao15 t316.length co15, .bool t319] 24 (0, 0)) (by (with_reducible repeat (first | refine blk_drewN ?_ _ | refine blk_drew ?_ | refine blk_alloc ?_ _)); refine blk_put (cs := #[.slice Ao15 t316.length co15, .bool a0_1]) ?_ 1 _ rfl; (with_reducible repeat (first | refine blk_drewN ?_ _ | refine blk_drew ?_ | refine blk_alloc ?_ _)); refine blk_put (cs := #[.slice A0_0 l0_0.length c0_0, .bool a0_1]) ?_ 0 _ rfl; (with_reducible repeat (first | refine blk_drewN ?_ _ | refine blk_drew ?_ | refine blk_alloc ?_ _)); exact BK313.out) hb); have n2_ := Aside0.mk (blk_below (g := gb314) (o := .cells #[.int .i64 a1_0, .int .i64 a1_1, .int .i64 a1_2, .int .i64 a1_3] 28 (0, 0)) (by (with_reducible repeat (first | refine blk_drewN ?_ _ | refine blk_drew ?_ | refine blk_alloc ?_ _)); refine blk_far ?_ NB314_313.out _; (with_reducible repeat (first | refine blk_drewN ?_ _ | refine blk_drew ?_ | refine blk_alloc ?_ _)); refine blk_far ?_ NB314_313.out _; (with_reducible repeat (first | refine blk_drewN ?_ _ | refine blk_drew ?_ | refine blk_alloc ?_ _)); exact BK314.out) hb); have n3_ := Aside0.mk (blk_below (g := gb315) (o := .cells #[.int .i64 a2_0, .int .i64 a2_1] 26 (0, 0)) (by (with_reducible repeat (first | refine blk_drewN ?_ _ | refine blk_drew ?_ | refine blk_alloc ?_ _)); refine blk_far ?_ NB315_313.out _; (with_reducible repeat (first | refine blk_drewN ?_ _ | refine blk_drew ?_ | refine blk_alloc ?_ _)); refine blk_far ?_ NB315_313.out _; (with_reducible repeat (first | refine blk_drewN ?_ _ | refine blk_drew ?_ | refine blk_alloc ?_ _)); exact BK315.out) hb); have n4_ := Aside0.mk (below_step bl0_ hb); clear HO318; clear BK313; clear BK314; clear BK315; clear HB; have HO318 := n0_; have BK313 := n1_; have BK314 := n2_; have BK315 := n3_; have HB := n4_; clear n0_ n1_ n2_ n3_ n4_; (try clear hb); (try clear hb2); (try clear hk); (try clear hi); have hcz21_0 : w20.cell? ⟨gb313, 0, none⟩ = some (.slice Ao15 t316.length co15) := (blk_cell BK313.out 0).trans rfl; have hcz21_1 : w20.cell? ⟨gb313, 1, none⟩ = some (.bool t319) := (blk_cell BK313.out 1).trans rfl; have hfz21_0 := blk_frozen BK313.out 0; have hfz21_1 := blk_frozen BK313.out 1; have hcz22_0 : w20.cell? ⟨gb315, 0, none⟩ = some (.int .i64 a2_0) := (blk_cell BK315.out 0).trans rfl; have hcz22_1 : w20.cell? ⟨gb315, 1, none⟩ = some (.int .i64 a2_1) := (blk_cell BK315.out 1).trans rfl; have hfz22_0 := blk_frozen BK315.out 0; have hfz22_1 := blk_frozen BK315.out 1; have hcz23_0 : w20.cell? ⟨gb314, 0, none⟩ = some (.int .i64 a1_0) := (blk_cell BK314.out 0).trans rfl; have hcz23_1 : w20.cell? ⟨gb314, 1, none⟩ = some (.int .i64 a1_1) := (blk_cell BK314.out 1).trans rfl; have hcz23_2 : w20.cell? ⟨gb314, 2, none⟩ = some (.int .i64 a1_2) := (blk_cell BK314.out 2).trans rfl; have hcz23_3 : w20.cell? ⟨gb314, 3, none⟩ = some (.int .i64 a1_3) := (blk_cell BK314.out 3).trans rfl; have hfz23_0 := blk_frozen BK314.out 0; have hfz23_1 := blk_frozen BK314.out 1; have hfz23_2 := blk_frozen BK314.out 2; have hfz23_3 := blk_frozen BK314.out 3) | ((with_reducible refine gate_callee (f := 5) rfl ?_); refine goesL_ (some 34) rfl rfl Tryd.func5 (by kernel_rfl) rfl #[.agg #[.slice Ao15 t316.length co15, .bool t319], .agg #[.int .i64 a2_0, .int .i64 a2_1, .int .i64 a1_2, .int .i64 a1_3]] rfl mp_ ?_; (with_reducible refine (span_Text.calls k _ _ t316 t319 a2_0 a2_1 a1_2 a1_3 t322 t323 _ ?side1 ?side2 A6.out).mono ?_); (case side1 => repeat (first | exact (Kd.N_reads' HO318.out).2.2 | (with_reducible refine Kd.C_alloc ?_ _) | (with_reducible refine Kd.C_drewN ?_ _) | (with_reducible refine Kd.C_drew ?_))); (case side2 => exact (Kd.N_reads' HO318.out).2.1); rintro e w24 ⟨rfl, hb⟩; refine ⟨_, rfl, ?_⟩; have n0_ := Aside0.mk (Kd.N_below (Kd.N_below HO318.out bu_) hb); have n1_ := Aside0.mk (blk_below (bq_ BK313.out) hb); have n2_ := Aside0.mk (blk_below (bq_ BK314.out) hb); have n3_ := Aside0.mk (blk_below (bq_ BK315.out) hb); have n4_ := Aside0.mk (below_step bl0_ hb); clear HO318; clear BK313; clear BK314; clear BK315; clear HB; have HO318 := n0_; have BK313 := n1_; have BK314 := n2_; have BK315 := n3_; have HB := n4_; clear n0_ n1_ n2_ n3_ n4_; (try clear hb); (try clear hb2); (try clear hk); (try clear hi)))
  (try simp only [Act.put, List.setIfInBounds_toArray, List.set_cons_zero, List.set_cons_succ])
  go_cut [42] (fun v42 wc => ∃ (kq : Nat) (x42_6 : Bool), v42 = .bool x42_6 ∧ Aside0 (clerestorykeep1_SpanParts.j0 kq t320 t322 x42_6 t316 t319 a1_0 a1_1 a1_2 a1_3 = some r) ∧ Aside0 (kq ≤ k) ∧ Aside0 (Kd.N k37 37 wc w.heap.size (fun k_ => k_ ≠ gb313 ∧ k_ ≠ gb314 ∧ k_ ≠ gb315) (.slice Ao15 t316.length co15) t316) ∧ Aside0 (wc.heap[gb313]? = some (.cells #[(.slice Ao15 t316.length co15), .bool t319] 24 (0, 0))) ∧ Aside0 (wc.heap[gb314]? = some (.cells #[.int .i64 a1_0, .int .i64 a1_1, .int .i64 a1_2, .int .i64 a1_3] 28 (0, 0))) ∧ Aside0 (wc.heap[gb315]? = some (.cells #[.int .i64 a2_0, .int .i64 a2_1] 26 (0, 0))) ∧ Aside0 (Below w.heap.size w wc))
  case first =>
    have H := HC7.out
    clear HC7
    by_cases c25 : t321 = 0
    · rw [if_pos c25] at H
      have c25b0 : (t321 == 0) = true := beq_iff_eq.mpr c25
      have c25b1 : (t321 != 0) = false := bne_eq_false_iff_eq.mpr c25
      clear c25
      (first | rw [c25b0] | (simp only [i64_w, i32_w]; rw [c25b0]) | skip)
      have H' := Aside0.mk H
      clear H
      go_wp2
      go_meet
      case rel => exact ⟨_, ((t323 != 0)), rs_, H', ⟨by first | omega | exact Nat.le_refl _⟩, ⟨by (with_reducible repeat (first | apply Kd.N_alloc | apply Kd.N_drewN | apply Kd.N_drew)); exact HO318.out⟩, ⟨by (with_reducible repeat (first | refine blk_drewN ?_ _ | refine blk_drew ?_ | refine blk_alloc ?_ _)); exact BK313.out⟩, ⟨by (with_reducible repeat (first | refine blk_drewN ?_ _ | refine blk_drew ?_ | refine blk_alloc ?_ _)); exact BK314.out⟩, ⟨by (with_reducible repeat (first | refine blk_drewN ?_ _ | refine blk_drew ?_ | refine blk_alloc ?_ _)); exact BK315.out⟩, ⟨bl0_⟩⟩
    · rw [if_neg c25] at H
      have c25b0 : (t321 == 0) = false := beq_eq_false_iff_ne.mpr c25
      have c25b1 : (t321 != 0) = true := bne_iff_ne.mpr c25
      (first | rw [c25b0] | (simp only [i64_w, i32_w]; rw [c25b0]) | skip)
      have H' := Aside0.mk H
      clear H
      go_wp2
      go_meet
      case rel => exact ⟨_, (true), rs_, H', ⟨by first | omega | exact Nat.le_refl _⟩, ⟨by (with_reducible repeat (first | apply Kd.N_alloc | apply Kd.N_drewN | apply Kd.N_drew)); exact HO318.out⟩, ⟨by (with_reducible repeat (first | refine blk_drewN ?_ _ | refine blk_drew ?_ | refine blk_alloc ?_ _)); exact BK313.out⟩, ⟨by (with_reducible repeat (first | refine blk_drewN ?_ _ | refine blk_drew ?_ | refine blk_alloc ?_ _)); exact BK314.out⟩, ⟨by (with_reducible repeat (first | refine blk_drewN ?_ _ | refine blk_drew ?_ | refine blk_alloc ?_ _)); exact BK315.out⟩, ⟨bl0_⟩⟩
  case rest =>
    clear HC7
    try clear c1
    try clear p1
    try clear c2
    try clear p2
    try clear c3
    try clear c4
    try clear c5
    try clear c11
    try clear c12
    try clear c17
    try clear c25
    try clear c25b0
    try clear c25b1
    try clear hcz13_0
    try clear hcz13_1
    try clear hcz16_0
    try clear hcz16_1
    try clear hcz18_0
    try clear hcz18_1
    try clear hcz18_2
    try clear hcz18_3
    try clear hcz19_0
    try clear hcz19_1
    try clear hcz21_0
    try clear hcz21_1
    try clear hcz22_0
    try clear hcz22_1
    try clear hcz23_0
    try clear hcz23_1
    try clear hcz23_2
    try clear hcz23_3
    try clear hfz13_0
    try clear hfz13_1
    try clear hfz16_0
    try clear hfz16_1
    try clear hfz18_0
    try clear hfz18_1
    try clear hfz18_2
    try clear hfz18_3
    try clear hfz19_0
    try clear hfz19_1
    try clear hfz21_0
    try clear hfz21_1
    try clear hfz22_0
    try clear hfz22_1
    try clear hfz23_0
    try clear hfz23_1
    try clear hfz23_2
    try clear hfz23_3
    obtain ⟨kq, x42_6, rfl, HA, HJ6, HO_314000, BK313, BK314, BK315, HB⟩ := hcut
    cases kq with
    | zero => exact absurd HA.out (by simp [clerestorykeep1_SpanParts.j0])
    | succ kj6 =>
      have H := HA.out
      clear HA
      simp only [clerestorykeep1_SpanParts.j0] at H
      by_cases c26 : x42_6 = true
      · subst c26
        have H1 : ((clerestorykeep1_spanBegun.f kj6).bind fun t324 => (some t324)) = some r := by rw [if_pos rfl] at H; exact H
        clear H
        have H := H1
        clear H1
        replace H := Option.bind_eq_some_iff.mp H
        obtain ⟨t324, A270, H⟩ := H
        replace H : (some t324) = some r := H
        have A27 := Aside0.mk A270
        clear A270
        obtain rfl := Option.some.inj H
        go_wp2_with (first | ((with_reducible refine gate_callee (f := 6) rfl ?_); refine goesL_ (some 43) rfl rfl Tryd.func6 (by kernel_rfl) rfl #[] rfl mp_ ?_; (with_reducible refine (clerestorykeep1_spanBegun.calls kj6  t324 _ A27.out).mono ?_); rintro e w28 ⟨rfl, hb⟩; refine ⟨_, rfl, ?_⟩; have n0_ := Aside0.mk (Kd.N_below (Kd.N_below HO_314000.out bu_) hb); have n1_ := Aside0.mk (blk_below (bq_ BK313.out) hb); have n2_ := Aside0.mk (blk_below (bq_ BK314.out) hb); have n3_ := Aside0.mk (blk_below (bq_ BK315.out) hb); have n4_ := Aside0.mk (below_step bl0_ hb); clear HO_314000; clear BK313; clear BK314; clear BK315; clear HB; have HO_314000 := n0_; have BK313 := n1_; have BK314 := n2_; have BK315 := n3_; have HB := n4_; clear n0_ n1_ n2_ n3_ n4_; (try clear hb); (try clear hb2); (try clear hk); (try clear hi)))
        go_ret
        exact ⟨er_, bl0_⟩
      · replace c26 := Bool.eq_false_iff.mpr c26
        subst c26
        have H1 : (if (t316.length : Int) = 0 then (some false) else ((span_Text.f kj6 t316 t319 a1_0 a1_1 a1_2 a1_3).bind fun bt325 => (if 0 < (t316.length : Int) then ((span_Text.f kj6 t316 t319 0 0 0 (((rd_T37 t316 0).f5).length : Int)).bind fun bt328 => ((dom_TextOf.f kj6 t316 t319 0).bind fun bt330 => ((clerestorykeep1_spanBegun.f kj6).bind fun t332 => (if t332 = true then (if bt325.2 = 0 then (if t320.size + t322.size ≤ 9223372036854775807 then (if bt325.1.toList = (t320 ++ t322).toList then (if bt328.2 = 0 then (if bt330.2 = 0 then (some (bt328.1.toList == bt330.1.toList)) else (some false)) else (some false)) else (some false)) else (none)) else (some false)) else (some false))))) else (none)))) = some r := by rw [if_neg (show ¬ (false = true) by decide)] at H; exact H
        clear H
        have H := H1
        clear H1
        by_cases c29 : (t316.length : Int) = 0
        · rw [if_pos c29] at H
          have c29b0 : ((t316.length : Int) == 0) = true := beq_iff_eq.mpr c29
          have c29b1 : ((t316.length : Int) != 0) = false := bne_eq_false_iff_eq.mpr c29
          clear c29
          obtain rfl := Option.some.inj H
          have hnb30 := NB313_314.out
          have hnc30 := NB314_313.out
          have hnb31 := NB313_315.out
          have hnc31 := NB315_313.out
          have hcz32_0 : wc.cell? ⟨gb313, 0, none⟩ = some (.slice Ao15 t316.length co15) := (blk_cell BK313.out 0).trans rfl
          have hcz32_1 : wc.cell? ⟨gb313, 1, none⟩ = some (.bool t319) := (blk_cell BK313.out 1).trans rfl
          have hfz32_0 := blk_frozen BK313.out 0
          have hfz32_1 := blk_frozen BK313.out 1
          go_wp2
          go_ret
          exact ⟨er_, bl0_⟩
        · rw [if_neg c29] at H
          have c29b0 : ((t316.length : Int) == 0) = false := beq_eq_false_iff_ne.mpr c29
          have c29b1 : ((t316.length : Int) != 0) = true := bne_iff_ne.mpr c29
          have c29b2 : ¬ (t316 = []) := fun h_ => c29 (by rw [h_]; rfl)
          replace H := Option.bind_eq_some_iff.mp H
          obtain ⟨⟨t325, t326⟩, A330, H⟩ := H
          replace H : (if 0 < (t316.length : Int) then ((span_Text.f kj6 t316 t319 0 0 0 (((rd_T37 t316 0).f5).length : Int)).bind fun bt328 => ((dom_TextOf.f kj6 t316 t319 0).bind fun bt330 => ((clerestorykeep1_spanBegun.f kj6).bind fun t332 => (if t332 = true then (if t326 = 0 then (if t320.size + t322.size ≤ 9223372036854775807 then (if t325.toList = (t320 ++ t322).toList then (if bt328.2 = 0 then (if bt330.2 = 0 then (some (bt328.1.toList == bt330.1.toList)) else (some false)) else (some false)) else (some false)) else (none)) else (some false)) else (some false))))) else (none)) = some r := H
          have A33 := Aside0.mk A330
          clear A330
          by_cases c34 : 0 < (t316.length : Int)
          · rw [if_pos c34] at H
            have c34b0 : decide (0 < (t316.length : Int)) = true := decide_eq_true c34
            have c34b1 : decide (0 < t316.length) = true := decide_eq_true (by omega)
            clear c34
            replace H := Option.bind_eq_some_iff.mp H
            obtain ⟨⟨t328, t329⟩, A350, H⟩ := H
            replace H : ((dom_TextOf.f kj6 t316 t319 0).bind fun bt330 => ((clerestorykeep1_spanBegun.f kj6).bind fun t332 => (if t332 = true then (if t326 = 0 then (if t320.size + t322.size ≤ 9223372036854775807 then (if t325.toList = (t320 ++ t322).toList then (if t329 = 0 then (if bt330.2 = 0 then (some (t328.toList == bt330.1.toList)) else (some false)) else (some false)) else (some false)) else (none)) else (some false)) else (some false)))) = some r := H
            have A35 := Aside0.mk A350
            clear A350
            replace H := Option.bind_eq_some_iff.mp H
            obtain ⟨⟨t330, t331⟩, A360, H⟩ := H
            replace H : ((clerestorykeep1_spanBegun.f kj6).bind fun t332 => (if t332 = true then (if t326 = 0 then (if t320.size + t322.size ≤ 9223372036854775807 then (if t325.toList = (t320 ++ t322).toList then (if t329 = 0 then (if t331 = 0 then (some (t328.toList == t330.toList)) else (some false)) else (some false)) else (some false)) else (none)) else (some false)) else (some false))) = some r := H
            have A36 := Aside0.mk A360
            clear A360
            replace H := Option.bind_eq_some_iff.mp H
            obtain ⟨t332, A370, H⟩ := H
            replace H : (if t332 = true then (if t326 = 0 then (if t320.size + t322.size ≤ 9223372036854775807 then (if t325.toList = (t320 ++ t322).toList then (if t329 = 0 then (if t331 = 0 then (some (t328.toList == t330.toList)) else (some false)) else (some false)) else (some false)) else (none)) else (some false)) else (some false)) = some r := H
            have A37 := Aside0.mk A370
            clear A370
            by_cases c38 : t332 = true
            · subst c38
              have H1 : (if t326 = 0 then (if t320.size + t322.size ≤ 9223372036854775807 then (if t325.toList = (t320 ++ t322).toList then (if t329 = 0 then (if t331 = 0 then (some (t328.toList == t330.toList)) else (some false)) else (some false)) else (some false)) else (none)) else (some false)) = some r := by rw [if_pos rfl] at H; exact H
              clear H
              have H := H1
              clear H1
              by_cases c39 : t326 = 0
              · rw [if_pos c39] at H
                have c39b0 : (t326 == 0) = true := beq_iff_eq.mpr c39
                have c39b1 : (t326 != 0) = false := bne_eq_false_iff_eq.mpr c39
                clear c39
                by_cases c40 : t320.size + t322.size ≤ 9223372036854775807
                · rw [if_pos c40] at H
                  have c40b0 := eq_true c40
                  have c40b1 : decide (t320.size + t322.size ≤ 9223372036854775807) = true := decide_eq_true c40
                  try have c40b2 : (9223372036854775807 < t320.size + t322.size) = False := eq_false (Nat.not_lt.2 c40)
                  by_cases c41 : t325.toList = (t320 ++ t322).toList
                  · rw [if_pos c41] at H
                    have c41b0 : (t325.toList == (t320 ++ t322).toList) = true := beq_iff_eq.mpr c41
                    have c41b1 : (t325.toList != (t320 ++ t322).toList) = false := bne_eq_false_iff_eq.mpr c41
                    clear c41
                    by_cases c42 : t329 = 0
                    · rw [if_pos c42] at H
                      have c42b0 : (t329 == 0) = true := beq_iff_eq.mpr c42
                      have c42b1 : (t329 != 0) = false := bne_eq_false_iff_eq.mpr c42
                      clear c42
                      by_cases c43 : t331 = 0
                      · rw [if_pos c43] at H
                        have c43b0 : (t331 == 0) = true := beq_iff_eq.mpr c43
                        have c43b1 : (t331 != 0) = false := bne_eq_false_iff_eq.mpr c43
                        clear c43
                        obtain rfl := Option.some.inj H
                        have hnb44 := NB313_314.out
                        have hnc44 := NB314_313.out
                        have hnb45 := NB313_315.out
                        have hnc45 := NB315_313.out
                        have hcz46_0 : wc.cell? ⟨gb313, 0, none⟩ = some (.slice Ao15 t316.length co15) := (blk_cell BK313.out 0).trans rfl
                        have hcz46_1 : wc.cell? ⟨gb313, 1, none⟩ = some (.bool t319) := (blk_cell BK313.out 1).trans rfl
                        have hfz46_0 := blk_frozen BK313.out 0
                        have hfz46_1 := blk_frozen BK313.out 1
                        have hnb47 := NB314_315.out
                        have hnc47 := NB315_314.out
                        have hcz48_0 : wc.cell? ⟨gb314, 0, none⟩ = some (.int .i64 a1_0) := (blk_cell BK314.out 0).trans rfl
                        have hcz48_1 : wc.cell? ⟨gb314, 1, none⟩ = some (.int .i64 a1_1) := (blk_cell BK314.out 1).trans rfl
                        have hcz48_2 : wc.cell? ⟨gb314, 2, none⟩ = some (.int .i64 a1_2) := (blk_cell BK314.out 2).trans rfl
                        have hcz48_3 : wc.cell? ⟨gb314, 3, none⟩ = some (.int .i64 a1_3) := (blk_cell BK314.out 3).trans rfl
                        have hfz48_0 := blk_frozen BK314.out 0
                        have hfz48_1 := blk_frozen BK314.out 1
                        have hfz48_2 := blk_frozen BK314.out 2
                        have hfz48_3 := blk_frozen BK314.out 3
                        try go_wp2_with (first | ((with_reducible refine gate_callee (f := 5) rfl ?_); refine goesL_ (some 51) rfl rfl Tryd.func5 (by kernel_rfl) rfl #[.agg #[.slice Ao15 t316.length co15, .bool t319], .agg #[.int .i64 a1_0, .int .i64 a1_1, .int .i64 a1_2, .int .i64 a1_3]] rfl mp_ ?_; (with_reducible refine (span_Text.calls kj6 _ _ t316 t319 a1_0 a1_1 a1_2 a1_3 t325 t326 _ ?side1 ?side2 A33.out).mono ?_); (case side1 => repeat (first | exact (Kd.N_reads' HO_314000.out).2.2 | (with_reducible refine Kd.C_alloc ?_ _) | (with_reducible refine Kd.C_drewN ?_ _) | (with_reducible refine Kd.C_drew ?_))); (case side2 => exact (Kd.N_reads' HO_314000.out).2.1); rintro e w49 ⟨rfl, hb⟩; refine ⟨_, rfl, ?_⟩; have n0_ := Aside0.mk (Kd.N_below (Kd.N_below HO_314000.out bu_) hb); have n1_ := Aside0.mk (blk_below (bq_ BK313.out) hb); have n2_ := Aside0.mk (blk_below (bq_ BK314.out) hb); have n3_ := Aside0.mk (blk_below (bq_ BK315.out) hb); have n4_ := Aside0.mk (below_step bl0_ hb); clear HO_314000; clear BK313; clear BK314; clear BK315; clear HB; have HO_314000 := n0_; have BK313 := n1_; have BK314 := n2_; have BK315 := n3_; have HB := n4_; clear n0_ n1_ n2_ n3_ n4_; (try clear hb); (try clear hb2); (try clear hk); (try clear hi)))
                        have n0_ := Aside0.mk (Kd.N_drew HO_314000.out)
                        have n1_ := Aside0.mk (blk_drew BK313.out)
                        have n2_ := Aside0.mk (blk_drew BK314.out)
                        have n3_ := Aside0.mk (blk_drew BK315.out)
                        have n4_ := Aside0.mk (below_drew1 HB.out)
                        clear HO_314000
                        clear BK313
                        clear BK314
                        clear BK315
                        clear HB
                        have HO_314000 := n0_
                        have BK313 := n1_
                        have BK314 := n2_
                        have BK315 := n3_
                        have HB := n4_
                        clear n0_ n1_ n2_ n3_ n4_
                        have p327 : 0 ≤ (0 : Int) := (by omega)
                        have q327 : 0 < (t316.length : Int) := of_decide_eq_true as_
                        obtain ⟨ad327, A327_2, c327_2, A327_5, c327_5, e327, hx327_0, hx327_1, hx327_2, hx327_3, hx327_4, hx327_5, hl327_2, hi327_2, hl327_5, hi327_5⟩ := at_T37 (Kd.N_reads' HO_314000.out).2.2 0 p327 q327
                        cases e327
                        obtain ⟨ce327, hce327, hMe327, hcc327⟩ := Kd.N_get HO_314000.out z37 0 p327 (by first | exact q327 | exact of_decide_eq_true as_ | (have e_ := (Kd.N_reads' HO_314000.out).1; omega))
                        obtain ⟨ua327_2, uc327_2, ua327_5, uc327_5, rfl, ul327_2, ge327_2, ul327_5, ge327_5⟩ := k37_openF hMe327
                        have hv327_2 := hcc327 2 _ rfl
                        rw [add_field _ _ 2 (by omega)] at hv327_2
                        replace hv327_2 := Option.some.inj (hv327_2.symm.trans hx327_2)
                        injection hv327_2 with hva_ hvn_ hvc_
                        rw [hva_] at ge327_2
                        rw [hvc_] at ul327_2
                        have HL327_2 := Aside0.mk (show Kd.V k86 86 _ w.heap.size _ _ ((rd_T37 t316 0).f2) from Kd.V_mk ul327_2 ge327_2)
                        clear hva_ hvn_ hvc_ ge327_2 ul327_2
                        have hv327_5 := hcc327 5 _ rfl
                        rw [add_field _ _ 5 (by omega)] at hv327_5
                        replace hv327_5 := Option.some.inj (hv327_5.symm.trans hx327_5)
                        injection hv327_5 with hva_ hvn_ hvc_
                        rw [hva_] at ge327_5
                        rw [hvc_] at ul327_5
                        have HL327_5 := Aside0.mk (show Kd.V (Kd.int .i64) 3 _ w.heap.size _ _ ((rd_T37 t316 0).f5) from Kd.V_mk ul327_5 ge327_5)
                        clear hva_ hvn_ hvc_ ge327_5 ul327_5
                        clear hcc327 hce327
                        have qi327 : (0 < t316.length) = True := eq_true (by omega)
                        (try rw [show ((0 : Int)).toNat = 0 from rfl] at hx327_0)
                        (try rw [show 0 * 6 = 0 from rfl] at hx327_0)
                        (try rw [Addr.add_zero'] at hx327_0)
                        (try rw [show ((0 : Int)).toNat = 0 from rfl] at hx327_1)
                        (try rw [show 0 * 6 = 0 from rfl] at hx327_1)
                        (try rw [Addr.add_zero'] at hx327_1)
                        (try rw [show ((0 : Int)).toNat = 0 from rfl] at hx327_2)
                        (try rw [show 0 * 6 = 0 from rfl] at hx327_2)
                        (try rw [Addr.add_zero'] at hx327_2)
                        (try rw [show ((0 : Int)).toNat = 0 from rfl] at hx327_3)
                        (try rw [show 0 * 6 = 0 from rfl] at hx327_3)
                        (try rw [Addr.add_zero'] at hx327_3)
                        (try rw [show ((0 : Int)).toNat = 0 from rfl] at hx327_4)
                        (try rw [show 0 * 6 = 0 from rfl] at hx327_4)
                        (try rw [Addr.add_zero'] at hx327_4)
                        (try rw [show ((0 : Int)).toNat = 0 from rfl] at hx327_5)
                        (try rw [show 0 * 6 = 0 from rfl] at hx327_5)
                        (try rw [Addr.add_zero'] at hx327_5)
                        have HR327_2 := Aside0.mk hi327_2
                        have HC327_2 := Aside0.mk hl327_2
                        clear hi327_2 hl327_2
                        have HR327_5 := Aside0.mk hi327_5
                        have HC327_5 := Aside0.mk hl327_5
                        clear hi327_5 hl327_5
                        replace p327 := eq_true p327
                        replace q327 := eq_true q327
                        refine start_ (n := 15) (S := fun w' => w'.cell? ⟨gb313, 0, none⟩ = some (.slice (some ad327) t316.length co15) ∧ w'.cell? ⟨gb313, 1, none⟩ = some (.bool t319) ∧ w'.cell? ad327 = some (.int .i64 ((rd_T37 t316 0).f0)) ∧ w'.cell? ⟨ad327.block, ad327.off + 1, none⟩ = some (.string ((rd_T37 t316 0).f1)) ∧ w'.cell? ⟨ad327.block, ad327.off + 2, none⟩ = some (.slice A327_2 ((rd_T37 t316 0).f2).length c327_2) ∧ w'.cell? ⟨ad327.block, ad327.off + 3, none⟩ = some (.string ((rd_T37 t316 0).f3)) ∧ w'.cell? ⟨ad327.block, ad327.off + 4, none⟩ = some (.int .i64 ((rd_T37 t316 0).f4)) ∧ w'.cell? ⟨ad327.block, ad327.off + 5, none⟩ = some (.slice A327_5 ((rd_T37 t316 0).f5).length c327_5)) (ds := []) #[false, false, false, false, false, false, false, false, false, false, false, false, false, false, false] (by kernel_rfl) rfl rfl ⟨(blk_cell BK313.out 0).trans rfl, (blk_cell BK313.out 1).trans rfl, hx327_0, hx327_1, hx327_2, hx327_3, hx327_4, hx327_5⟩ (fun hHeld => ?_); refine with_tabW clerestorykeep1_SpanParts.tab9 clerestorykeep1_SpanParts.bits9 (fun HT_ HW_ => ?_)
                        generalize w49.drew = w50 at HO_314000 BK313 BK314 BK315 HB HL327_2 HL327_5 HR327_2 HR327_5 hx327_0 hx327_1 hx327_2 hx327_3 hx327_4 hx327_5 hHeld ⊢
                        refine pure_ (i := 1) (N := some 56) (v := ?_) (a' := ?_) #[false, true, false, false, false, false, false, false, false, false, false, false, false, false, false] rfl rfl (any_of HT_.out (by kernel_rfl)) (fun _ _ _ h => h) (Or.inl ⟨by rfl, ?_⟩) ?_ ?_
                        rotate_left
                        · intro w'
                          go_simp
                          with_reducible rfl
                        rotate_left
                        · simp only [Act.put, List.setIfInBounds_toArray, List.set_cons_zero, List.set_cons_succ, i64_w, i32_w]
                          rfl
                        refine take_ (i := 0) (N := some 55) (v := ?_) (a' := ?_) #[true, true, false, false, false, false, false, false, false, false, false, false, false, false, false] rfl rfl (take_ofW HT_.out HW_.out (by kernel_rfl)) (fun _ _ _ h => h) (Or.inl ⟨by rfl, ?_⟩) hHeld ?_ ?_
                        rotate_left
                        · rintro w' ⟨s0, s1, s2, s3, s4, s5, s6, s7⟩
                          go_simp
                          with_reducible rfl
                        rotate_left
                        · simp only [Act.put, List.setIfInBounds_toArray, List.set_cons_zero, List.set_cons_succ, i64_w, i32_w]
                          rfl
                        refine take_ (i := 2) (N := some 57) (v := ?_) (a' := ?_) #[true, true, true, false, false, false, false, false, false, false, false, false, false, false, false] rfl rfl (take_ofW HT_.out HW_.out (by kernel_rfl)) (fun _ _ _ h => h) (Or.inl ⟨by rfl, ?_⟩) hHeld ?_ ?_
                        rotate_left
                        · rintro w' ⟨s0, s1, s2, s3, s4, s5, s6, s7⟩
                          go_simp
                          with_reducible rfl
                        rotate_left
                        · simp only [Act.put, List.setIfInBounds_toArray, List.set_cons_zero, List.set_cons_succ, i64_w, i32_w]
                          rfl
                        refine pure_ (i := 3) (N := some 58) (v := ?_) (a' := ?_) #[true, true, true, true, false, false, false, false, false, false, false, false, false, false, false] rfl rfl (any_of HT_.out (by kernel_rfl)) (fun _ _ _ h => h) (Or.inl ⟨by rfl, ?_⟩) ?_ ?_
                        rotate_left
                        · intro w'
                          go_simp
                          with_reducible rfl
                        rotate_left
                        · simp only [Act.put, List.setIfInBounds_toArray, List.set_cons_zero, List.set_cons_succ, i64_w, i32_w]
                          rfl
                        refine pure_ (i := 4) (N := some 59) (v := ?_) (a' := ?_) #[true, true, true, true, true, false, false, false, false, false, false, false, false, false, false] rfl rfl (any_of HT_.out (by kernel_rfl)) (fun _ _ _ h => h) (Or.inl ⟨by rfl, ?_⟩) ?_ ?_
                        rotate_left
                        · intro w'
                          go_simp
                          with_reducible rfl
                        rotate_left
                        · simp only [Act.put, List.setIfInBounds_toArray, List.set_cons_zero, List.set_cons_succ, i64_w, i32_w]
                          rfl
                        refine take_ (i := 5) (N := some 60) (v := ?_) (a' := ?_) #[true, true, true, true, true, true, false, false, false, false, false, false, false, false, false] rfl rfl (take_ofW HT_.out HW_.out (by kernel_rfl)) (fun _ _ _ h => h) (Or.inl ⟨by rfl, ?_⟩) hHeld ?_ ?_
                        rotate_left
                        · rintro w' ⟨s0, s1, s2, s3, s4, s5, s6, s7⟩
                          go_simp
                          with_reducible rfl
                        rotate_left
                        · simp only [Act.put, List.setIfInBounds_toArray, List.set_cons_zero, List.set_cons_succ, i64_w, i32_w]
                          rfl
                        refine pure_ (i := 6) (N := some 61) (v := ?_) (a' := ?_) #[true, true, true, true, true, true, true, false, false, false, false, false, false, false, false] rfl rfl (any_of HT_.out (by kernel_rfl)) (fun _ _ _ h => h) (Or.inl ⟨by rfl, ?_⟩) ?_ ?_
                        rotate_left
                        · intro w'
                          go_simp
                          with_reducible rfl
                        rotate_left
                        · simp only [Act.put, List.setIfInBounds_toArray, List.set_cons_zero, List.set_cons_succ, i64_w, i32_w]
                          rfl
                        refine pure_ (i := 7) (N := some 62) (v := ?_) (a' := ?_) #[true, true, true, true, true, true, true, true, false, false, false, false, false, false, false] rfl rfl (any_of HT_.out (by kernel_rfl)) (fun _ _ _ h => h) (Or.inl ⟨by rfl, ?_⟩) ?_ ?_
                        rotate_left
                        · intro w'
                          go_simp
                          with_reducible rfl
                        rotate_left
                        · simp only [Act.put, List.setIfInBounds_toArray, List.set_cons_zero, List.set_cons_succ, i64_w, i32_w]
                          rfl
                        refine pure_ (i := 8) (N := some 63) (v := ?_) (a' := ?_) #[true, true, true, true, true, true, true, true, true, false, false, false, false, false, false] rfl rfl (any_of HT_.out (by kernel_rfl)) (fun _ _ _ h => h) (Or.inl ⟨by rfl, ?_⟩) ?_ ?_
                        rotate_left
                        · intro w'
                          go_simp
                          with_reducible rfl
                        rotate_left
                        · simp only [Act.put, List.setIfInBounds_toArray, List.set_cons_zero, List.set_cons_succ, i64_w, i32_w]
                          rfl
                        refine one_ (i := 9) (N := some 64) #[true, true, true, true, true, true, true, true, true, true, false, false, false, false, false] rfl rfl (one_of HT_.out (by kernel_rfl)) (by decide) (fun K hK => ?_)
                        refine goes_ Tryd.func5 (by kernel_rfl) rfl #[.agg #[.slice (some ad327) t316.length co15, .bool t319], .agg #[.int .i64 0, .int .i64 0, .int .i64 0, .int .i64 (((rd_T37 t316 0).f5).length : Int)]] (by rfl) rfl rfl mp_ ?_
                        with_reducible refine (span_Text.calls kj6 _ _ t316 t319 0 0 0 (((rd_T37 t316 0).f5).length : Int) t328 t329 _ ?side1 ?side2 A35.out).mono ?_
                        (case side1 => repeat (first | exact (Kd.N_reads' HO_314000.out).2.2 | (with_reducible refine Kd.C_alloc ?_ _) | (with_reducible refine Kd.C_drewN ?_ _) | (with_reducible refine Kd.C_drew ?_)))
                        (case side2 => exact (Kd.N_reads' HO_314000.out).2.1)
                        rintro e w51 ⟨rfl, hb⟩
                        have HS2_ := (hb.cell (World.block_lt_of_cell? _ _ (hHeld.2.2.1))).trans (hHeld.2.2.1)
                        have HS3_ := (hb.cell (World.block_lt_of_cell? _ _ (hHeld.2.2.2.1))).trans (hHeld.2.2.2.1)
                        have HS4_ := (hb.cell (World.block_lt_of_cell? _ _ (hHeld.2.2.2.2.1))).trans (hHeld.2.2.2.2.1)
                        have HS5_ := (hb.cell (World.block_lt_of_cell? _ _ (hHeld.2.2.2.2.2.1))).trans (hHeld.2.2.2.2.2.1)
                        have HS6_ := (hb.cell (World.block_lt_of_cell? _ _ (hHeld.2.2.2.2.2.2.1))).trans (hHeld.2.2.2.2.2.2.1)
                        have HS7_ := (hb.cell (World.block_lt_of_cell? _ _ (hHeld.2.2.2.2.2.2.2))).trans (hHeld.2.2.2.2.2.2.2)
                        refine ⟨_, rfl, ?_⟩
                        have n0_ := Aside0.mk (Kd.N_below (Kd.N_below HO_314000.out bu_) hb)
                        have n1_ := Aside0.mk (Kd.V_below (Kd.V_below HL327_2.out bu_) hb)
                        have n2_ := Aside0.mk (Kd.V_below (Kd.V_below HL327_5.out bu_) hb)
                        have n3_ := Aside0.mk (blk_below (bq_ BK313.out) hb)
                        have n4_ := Aside0.mk (blk_below (bq_ BK314.out) hb)
                        have n5_ := Aside0.mk (blk_below (bq_ BK315.out) hb)
                        have n6_ := Aside0.mk (Kd.C_below (Kd.C_below HR327_2.out bu_) hb)
                        have n7_ := Aside0.mk (Kd.C_below (Kd.C_below HR327_5.out bu_) hb)
                        have n8_ := Aside0.mk (below_step bl0_ hb)
                        clear HO_314000
                        clear HL327_2
                        clear HL327_5
                        clear BK313
                        clear BK314
                        clear BK315
                        clear HR327_2
                        clear HR327_5
                        clear HB
                        have HO_314000 := n0_
                        have HL327_2 := n1_
                        have HL327_5 := n2_
                        have BK313 := n3_
                        have BK314 := n4_
                        have BK315 := n5_
                        have HR327_2 := n6_
                        have HR327_5 := n7_
                        have HB := n8_
                        clear n0_ n1_ n2_ n3_ n4_ n5_ n6_ n7_ n8_
                        (try clear hb)
                        (try clear hb2)
                        (try clear hk)
                        (try clear hi)
                        refine hK.out _ _ ⟨(blk_cell BK313.out 0).trans rfl, (blk_cell BK313.out 1).trans rfl, HS2_, HS3_, HS4_, HS5_, HS6_, HS7_⟩ (fun hHeld => ?_)
                        clear hK K
                        refine norm_ (a' := ?_) ?_ ?_
                        rotate_left
                        · show Act.put _ (some 64) _ = _
                          simp only [Act.put, List.setIfInBounds_toArray, List.set_cons_zero, List.set_cons_succ, i64_w, i32_w]
                          rfl
                        refine pure_ (i := 10) (N := some 54) (v := ?_) (a' := ?_) #[true, true, true, true, true, true, true, true, true, true, true, false, false, false, false] rfl rfl (any_of HT_.out (by kernel_rfl)) (fun _ _ _ h => h) (Or.inl ⟨by rfl, ?_⟩) ?_ ?_
                        rotate_left
                        · intro w'
                          go_simp
                          with_reducible rfl
                        rotate_left
                        · simp only [Act.put, List.setIfInBounds_toArray, List.set_cons_zero, List.set_cons_succ, i64_w, i32_w]
                          rfl
                        refine pure_ (i := 11) (N := some 65) (v := ?_) (a' := ?_) #[true, true, true, true, true, true, true, true, true, true, true, true, false, false, false] rfl rfl (any_of HT_.out (by kernel_rfl)) (fun _ _ _ h => h) (Or.inl ⟨by rfl, ?_⟩) ?_ ?_
                        rotate_left
                        · intro w'
                          go_simp
                          with_reducible rfl
                        rotate_left
                        · simp only [Act.put, List.setIfInBounds_toArray, List.set_cons_zero, List.set_cons_succ, i64_w, i32_w]
                          rfl
                        refine pure_ (i := 12) (N := some 66) (v := ?_) (a' := ?_) #[true, true, true, true, true, true, true, true, true, true, true, true, true, false, false] rfl rfl (any_of HT_.out (by kernel_rfl)) (fun _ _ _ h => h) (Or.inl ⟨by rfl, ?_⟩) ?_ ?_
                        rotate_left
                        · intro w'
                          go_simp
                          with_reducible rfl
                        rotate_left
                        · simp only [Act.put, List.setIfInBounds_toArray, List.set_cons_zero, List.set_cons_succ, i64_w, i32_w]
                          rfl
                        refine pure_ (i := 13) (N := some 13) (v := ?_) (a' := ?_) #[true, true, true, true, true, true, true, true, true, true, true, true, true, true, false] rfl rfl (any_of HT_.out (by kernel_rfl)) (fun _ _ _ h => h) (Or.inl ⟨by rfl, ?_⟩) ?_ ?_
                        rotate_left
                        · intro w'
                          go_simp
                          with_reducible rfl
                        rotate_left
                        · simp only [Act.put, List.setIfInBounds_toArray, List.set_cons_zero, List.set_cons_succ, i64_w, i32_w]
                          rfl
                        refine pure_ (i := 14) (N := some 14) (v := ?_) (a' := ?_) #[true, true, true, true, true, true, true, true, true, true, true, true, true, true, true] rfl rfl (any_of HT_.out (by kernel_rfl)) (fun _ _ _ h => h) (Or.inl ⟨by rfl, ?_⟩) ?_ ?_
                        rotate_left
                        · intro w'
                          go_simp
                          with_reducible rfl
                        rotate_left
                        · simp only [Act.put, List.setIfInBounds_toArray, List.set_cons_zero, List.set_cons_succ, i64_w, i32_w]
                          rfl
                        refine done_ (done_of HT_.out (by kernel_rfl)) ?_
                        have hcz52_0 : w51.cell? ⟨gb313, 0, none⟩ = some (.slice (some ad327) t316.length co15) := (blk_cell BK313.out 0).trans rfl
                        have hcz52_1 : w51.cell? ⟨gb313, 1, none⟩ = some (.bool t319) := (blk_cell BK313.out 1).trans rfl
                        have hfz52_0 := blk_frozen BK313.out 0
                        have hfz52_1 := blk_frozen BK313.out 1
                        try go_wp2_with (first | ((with_reducible refine gate_callee (f := 7) rfl ?_); refine goesL_ (some 69) rfl rfl Tryd.func7 (by kernel_rfl) rfl #[.agg #[.slice (some ad327) t316.length co15, .bool t319], .int .i64 0] rfl mp_ ?_; (with_reducible refine (dom_TextOf.calls kj6 _ _ t316 t319 0 t330 t331 _ ?side1 ?side2 A36.out).mono ?_); (case side1 => repeat (first | exact (Kd.N_reads' HO_314000.out).2.2 | (with_reducible refine Kd.C_alloc ?_ _) | (with_reducible refine Kd.C_drewN ?_ _) | (with_reducible refine Kd.C_drew ?_))); (case side2 => exact (Kd.N_reads' HO_314000.out).2.1); rintro e w53 ⟨rfl, hb⟩; refine ⟨_, rfl, ?_⟩; have n0_ := Aside0.mk (Kd.N_below (Kd.N_below HO_314000.out bu_) hb); have n1_ := Aside0.mk (Kd.V_below (Kd.V_below HL327_2.out bu_) hb); have n2_ := Aside0.mk (Kd.V_below (Kd.V_below HL327_5.out bu_) hb); have n3_ := Aside0.mk (blk_below (bq_ BK313.out) hb); have n4_ := Aside0.mk (blk_below (bq_ BK314.out) hb); have n5_ := Aside0.mk (blk_below (bq_ BK315.out) hb); have n6_ := Aside0.mk (Kd.C_below (Kd.C_below HR327_2.out bu_) hb); have n7_ := Aside0.mk (Kd.C_below (Kd.C_below HR327_5.out bu_) hb); have n8_ := Aside0.mk (below_step bl0_ hb); clear HO_314000; clear HL327_2; clear HL327_5; clear BK313; clear BK314; clear BK315; clear HR327_2; clear HR327_5; clear HB; have HO_314000 := n0_; have HL327_2 := n1_; have HL327_5 := n2_; have BK313 := n3_; have BK314 := n4_; have BK315 := n5_; have HR327_2 := n6_; have HR327_5 := n7_; have HB := n8_; clear n0_ n1_ n2_ n3_ n4_ n5_ n6_ n7_ n8_; (try clear hb); (try clear hb2); (try clear hk); (try clear hi)) | ((with_reducible refine gate_callee (f := 6) rfl ?_); refine goesL_ (some 72) rfl rfl Tryd.func6 (by kernel_rfl) rfl #[] rfl mp_ ?_; (with_reducible refine (clerestorykeep1_spanBegun.calls kj6  true _ A37.out).mono ?_); rintro e w54 ⟨rfl, hb⟩; refine ⟨_, rfl, ?_⟩; have n0_ := Aside0.mk (Kd.N_below (Kd.N_below HO_314000.out bu_) hb); have n1_ := Aside0.mk (Kd.V_below (Kd.V_below HL327_2.out bu_) hb); have n2_ := Aside0.mk (Kd.V_below (Kd.V_below HL327_5.out bu_) hb); have n3_ := Aside0.mk (blk_below (bq_ BK313.out) hb); have n4_ := Aside0.mk (blk_below (bq_ BK314.out) hb); have n5_ := Aside0.mk (blk_below (bq_ BK315.out) hb); have n6_ := Aside0.mk (Kd.C_below (Kd.C_below HR327_2.out bu_) hb); have n7_ := Aside0.mk (Kd.C_below (Kd.C_below HR327_5.out bu_) hb); have n8_ := Aside0.mk (below_step bl0_ hb); clear HO_314000; clear HL327_2; clear HL327_5; clear BK313; clear BK314; clear BK315; clear HR327_2; clear HR327_5; clear HB; have HO_314000 := n0_; have HL327_2 := n1_; have HL327_5 := n2_; have BK313 := n3_; have BK314 := n4_; have BK315 := n5_; have HR327_2 := n6_; have HR327_5 := n7_; have HB := n8_; clear n0_ n1_ n2_ n3_ n4_ n5_ n6_ n7_ n8_; (try clear hb); (try clear hb2); (try clear hk); (try clear hi)))
                        go_ret
                        exact ⟨er_, bl0_⟩
                      · rw [if_neg c43] at H
                        have c43b0 : (t331 == 0) = false := beq_eq_false_iff_ne.mpr c43
                        have c43b1 : (t331 != 0) = true := bne_iff_ne.mpr c43
                        obtain rfl := Option.some.inj H
                        have hnb55 := NB313_314.out
                        have hnc55 := NB314_313.out
                        have hnb56 := NB313_315.out
                        have hnc56 := NB315_313.out
                        have hcz57_0 : wc.cell? ⟨gb313, 0, none⟩ = some (.slice Ao15 t316.length co15) := (blk_cell BK313.out 0).trans rfl
                        have hcz57_1 : wc.cell? ⟨gb313, 1, none⟩ = some (.bool t319) := (blk_cell BK313.out 1).trans rfl
                        have hfz57_0 := blk_frozen BK313.out 0
                        have hfz57_1 := blk_frozen BK313.out 1
                        have hnb58 := NB314_315.out
                        have hnc58 := NB315_314.out
                        have hcz59_0 : wc.cell? ⟨gb314, 0, none⟩ = some (.int .i64 a1_0) := (blk_cell BK314.out 0).trans rfl
                        have hcz59_1 : wc.cell? ⟨gb314, 1, none⟩ = some (.int .i64 a1_1) := (blk_cell BK314.out 1).trans rfl
                        have hcz59_2 : wc.cell? ⟨gb314, 2, none⟩ = some (.int .i64 a1_2) := (blk_cell BK314.out 2).trans rfl
                        have hcz59_3 : wc.cell? ⟨gb314, 3, none⟩ = some (.int .i64 a1_3) := (blk_cell BK314.out 3).trans rfl
                        have hfz59_0 := blk_frozen BK314.out 0
                        have hfz59_1 := blk_frozen BK314.out 1
                        have hfz59_2 := blk_frozen BK314.out 2
                        have hfz59_3 := blk_frozen BK314.out 3
                        try go_wp2_with (first | ((with_reducible refine gate_callee (f := 5) rfl ?_); refine goesL_ (some 51) rfl rfl Tryd.func5 (by kernel_rfl) rfl #[.agg #[.slice Ao15 t316.length co15, .bool t319], .agg #[.int .i64 a1_0, .int .i64 a1_1, .int .i64 a1_2, .int .i64 a1_3]] rfl mp_ ?_; (with_reducible refine (span_Text.calls kj6 _ _ t316 t319 a1_0 a1_1 a1_2 a1_3 t325 t326 _ ?side1 ?side2 A33.out).mono ?_); (case side1 => repeat (first | exact (Kd.N_reads' HO_314000.out).2.2 | (with_reducible refine Kd.C_alloc ?_ _) | (with_reducible refine Kd.C_drewN ?_ _) | (with_reducible refine Kd.C_drew ?_))); (case side2 => exact (Kd.N_reads' HO_314000.out).2.1); rintro e w60 ⟨rfl, hb⟩; refine ⟨_, rfl, ?_⟩; have n0_ := Aside0.mk (Kd.N_below (Kd.N_below HO_314000.out bu_) hb); have n1_ := Aside0.mk (blk_below (bq_ BK313.out) hb); have n2_ := Aside0.mk (blk_below (bq_ BK314.out) hb); have n3_ := Aside0.mk (blk_below (bq_ BK315.out) hb); have n4_ := Aside0.mk (below_step bl0_ hb); clear HO_314000; clear BK313; clear BK314; clear BK315; clear HB; have HO_314000 := n0_; have BK313 := n1_; have BK314 := n2_; have BK315 := n3_; have HB := n4_; clear n0_ n1_ n2_ n3_ n4_; (try clear hb); (try clear hb2); (try clear hk); (try clear hi)))
                        have n0_ := Aside0.mk (Kd.N_drew HO_314000.out)
                        have n1_ := Aside0.mk (blk_drew BK313.out)
                        have n2_ := Aside0.mk (blk_drew BK314.out)
                        have n3_ := Aside0.mk (blk_drew BK315.out)
                        have n4_ := Aside0.mk (below_drew1 HB.out)
                        clear HO_314000
                        clear BK313
                        clear BK314
                        clear BK315
                        clear HB
                        have HO_314000 := n0_
                        have BK313 := n1_
                        have BK314 := n2_
                        have BK315 := n3_
                        have HB := n4_
                        clear n0_ n1_ n2_ n3_ n4_
                        have p327 : 0 ≤ (0 : Int) := (by omega)
                        have q327 : 0 < (t316.length : Int) := of_decide_eq_true as_
                        obtain ⟨ad327, A327_2, c327_2, A327_5, c327_5, e327, hx327_0, hx327_1, hx327_2, hx327_3, hx327_4, hx327_5, hl327_2, hi327_2, hl327_5, hi327_5⟩ := at_T37 (Kd.N_reads' HO_314000.out).2.2 0 p327 q327
                        cases e327
                        obtain ⟨ce327, hce327, hMe327, hcc327⟩ := Kd.N_get HO_314000.out z37 0 p327 (by first | exact q327 | exact of_decide_eq_true as_ | (have e_ := (Kd.N_reads' HO_314000.out).1; omega))
                        obtain ⟨ua327_2, uc327_2, ua327_5, uc327_5, rfl, ul327_2, ge327_2, ul327_5, ge327_5⟩ := k37_openF hMe327
                        have hv327_2 := hcc327 2 _ rfl
                        rw [add_field _ _ 2 (by omega)] at hv327_2
                        replace hv327_2 := Option.some.inj (hv327_2.symm.trans hx327_2)
                        injection hv327_2 with hva_ hvn_ hvc_
                        rw [hva_] at ge327_2
                        rw [hvc_] at ul327_2
                        have HL327_2 := Aside0.mk (show Kd.V k86 86 _ w.heap.size _ _ ((rd_T37 t316 0).f2) from Kd.V_mk ul327_2 ge327_2)
                        clear hva_ hvn_ hvc_ ge327_2 ul327_2
                        have hv327_5 := hcc327 5 _ rfl
                        rw [add_field _ _ 5 (by omega)] at hv327_5
                        replace hv327_5 := Option.some.inj (hv327_5.symm.trans hx327_5)
                        injection hv327_5 with hva_ hvn_ hvc_
                        rw [hva_] at ge327_5
                        rw [hvc_] at ul327_5
                        have HL327_5 := Aside0.mk (show Kd.V (Kd.int .i64) 3 _ w.heap.size _ _ ((rd_T37 t316 0).f5) from Kd.V_mk ul327_5 ge327_5)
                        clear hva_ hvn_ hvc_ ge327_5 ul327_5
                        clear hcc327 hce327
                        have qi327 : (0 < t316.length) = True := eq_true (by omega)
                        (try rw [show ((0 : Int)).toNat = 0 from rfl] at hx327_0)
                        (try rw [show 0 * 6 = 0 from rfl] at hx327_0)
                        (try rw [Addr.add_zero'] at hx327_0)
                        (try rw [show ((0 : Int)).toNat = 0 from rfl] at hx327_1)
                        (try rw [show 0 * 6 = 0 from rfl] at hx327_1)
                        (try rw [Addr.add_zero'] at hx327_1)
                        (try rw [show ((0 : Int)).toNat = 0 from rfl] at hx327_2)
                        (try rw [show 0 * 6 = 0 from rfl] at hx327_2)
                        (try rw [Addr.add_zero'] at hx327_2)
                        (try rw [show ((0 : Int)).toNat = 0 from rfl] at hx327_3)
                        (try rw [show 0 * 6 = 0 from rfl] at hx327_3)
                        (try rw [Addr.add_zero'] at hx327_3)
                        (try rw [show ((0 : Int)).toNat = 0 from rfl] at hx327_4)
                        (try rw [show 0 * 6 = 0 from rfl] at hx327_4)
                        (try rw [Addr.add_zero'] at hx327_4)
                        (try rw [show ((0 : Int)).toNat = 0 from rfl] at hx327_5)
                        (try rw [show 0 * 6 = 0 from rfl] at hx327_5)
                        (try rw [Addr.add_zero'] at hx327_5)
                        have HR327_2 := Aside0.mk hi327_2
                        have HC327_2 := Aside0.mk hl327_2
                        clear hi327_2 hl327_2
                        have HR327_5 := Aside0.mk hi327_5
                        have HC327_5 := Aside0.mk hl327_5
                        clear hi327_5 hl327_5
                        replace p327 := eq_true p327
                        replace q327 := eq_true q327
                        refine start_ (n := 15) (S := fun w' => w'.cell? ⟨gb313, 0, none⟩ = some (.slice (some ad327) t316.length co15) ∧ w'.cell? ⟨gb313, 1, none⟩ = some (.bool t319) ∧ w'.cell? ad327 = some (.int .i64 ((rd_T37 t316 0).f0)) ∧ w'.cell? ⟨ad327.block, ad327.off + 1, none⟩ = some (.string ((rd_T37 t316 0).f1)) ∧ w'.cell? ⟨ad327.block, ad327.off + 2, none⟩ = some (.slice A327_2 ((rd_T37 t316 0).f2).length c327_2) ∧ w'.cell? ⟨ad327.block, ad327.off + 3, none⟩ = some (.string ((rd_T37 t316 0).f3)) ∧ w'.cell? ⟨ad327.block, ad327.off + 4, none⟩ = some (.int .i64 ((rd_T37 t316 0).f4)) ∧ w'.cell? ⟨ad327.block, ad327.off + 5, none⟩ = some (.slice A327_5 ((rd_T37 t316 0).f5).length c327_5)) (ds := []) #[false, false, false, false, false, false, false, false, false, false, false, false, false, false, false] (by kernel_rfl) rfl rfl ⟨(blk_cell BK313.out 0).trans rfl, (blk_cell BK313.out 1).trans rfl, hx327_0, hx327_1, hx327_2, hx327_3, hx327_4, hx327_5⟩ (fun hHeld => ?_); refine with_tabW clerestorykeep1_SpanParts.tab9 clerestorykeep1_SpanParts.bits9 (fun HT_ HW_ => ?_)
                        generalize w60.drew = w61 at HO_314000 BK313 BK314 BK315 HB HL327_2 HL327_5 HR327_2 HR327_5 hx327_0 hx327_1 hx327_2 hx327_3 hx327_4 hx327_5 hHeld ⊢
                        refine pure_ (i := 1) (N := some 56) (v := ?_) (a' := ?_) #[false, true, false, false, false, false, false, false, false, false, false, false, false, false, false] rfl rfl (any_of HT_.out (by kernel_rfl)) (fun _ _ _ h => h) (Or.inl ⟨by rfl, ?_⟩) ?_ ?_
                        rotate_left
                        · intro w'
                          go_simp
                          with_reducible rfl
                        rotate_left
                        · simp only [Act.put, List.setIfInBounds_toArray, List.set_cons_zero, List.set_cons_succ, i64_w, i32_w]
                          rfl
                        refine take_ (i := 0) (N := some 55) (v := ?_) (a' := ?_) #[true, true, false, false, false, false, false, false, false, false, false, false, false, false, false] rfl rfl (take_ofW HT_.out HW_.out (by kernel_rfl)) (fun _ _ _ h => h) (Or.inl ⟨by rfl, ?_⟩) hHeld ?_ ?_
                        rotate_left
                        · rintro w' ⟨s0, s1, s2, s3, s4, s5, s6, s7⟩
                          go_simp
                          with_reducible rfl
                        rotate_left
                        · simp only [Act.put, List.setIfInBounds_toArray, List.set_cons_zero, List.set_cons_succ, i64_w, i32_w]
                          rfl
                        refine take_ (i := 2) (N := some 57) (v := ?_) (a' := ?_) #[true, true, true, false, false, false, false, false, false, false, false, false, false, false, false] rfl rfl (take_ofW HT_.out HW_.out (by kernel_rfl)) (fun _ _ _ h => h) (Or.inl ⟨by rfl, ?_⟩) hHeld ?_ ?_
                        rotate_left
                        · rintro w' ⟨s0, s1, s2, s3, s4, s5, s6, s7⟩
                          go_simp
                          with_reducible rfl
                        rotate_left
                        · simp only [Act.put, List.setIfInBounds_toArray, List.set_cons_zero, List.set_cons_succ, i64_w, i32_w]
                          rfl
                        refine pure_ (i := 3) (N := some 58) (v := ?_) (a' := ?_) #[true, true, true, true, false, false, false, false, false, false, false, false, false, false, false] rfl rfl (any_of HT_.out (by kernel_rfl)) (fun _ _ _ h => h) (Or.inl ⟨by rfl, ?_⟩) ?_ ?_
                        rotate_left
                        · intro w'
                          go_simp
                          with_reducible rfl
                        rotate_left
                        · simp only [Act.put, List.setIfInBounds_toArray, List.set_cons_zero, List.set_cons_succ, i64_w, i32_w]
                          rfl
                        refine pure_ (i := 4) (N := some 59) (v := ?_) (a' := ?_) #[true, true, true, true, true, false, false, false, false, false, false, false, false, false, false] rfl rfl (any_of HT_.out (by kernel_rfl)) (fun _ _ _ h => h) (Or.inl ⟨by rfl, ?_⟩) ?_ ?_
                        rotate_left
                        · intro w'
                          go_simp
                          with_reducible rfl
                        rotate_left
                        · simp only [Act.put, List.setIfInBounds_toArray, List.set_cons_zero, List.set_cons_succ, i64_w, i32_w]
                          rfl
                        refine take_ (i := 5) (N := some 60) (v := ?_) (a' := ?_) #[true, true, true, true, true, true, false, false, false, false, false, false, false, false, false] rfl rfl (take_ofW HT_.out HW_.out (by kernel_rfl)) (fun _ _ _ h => h) (Or.inl ⟨by rfl, ?_⟩) hHeld ?_ ?_
                        rotate_left
                        · rintro w' ⟨s0, s1, s2, s3, s4, s5, s6, s7⟩
                          go_simp
                          with_reducible rfl
                        rotate_left
                        · simp only [Act.put, List.setIfInBounds_toArray, List.set_cons_zero, List.set_cons_succ, i64_w, i32_w]
                          rfl
                        refine pure_ (i := 6) (N := some 61) (v := ?_) (a' := ?_) #[true, true, true, true, true, true, true, false, false, false, false, false, false, false, false] rfl rfl (any_of HT_.out (by kernel_rfl)) (fun _ _ _ h => h) (Or.inl ⟨by rfl, ?_⟩) ?_ ?_
                        rotate_left
                        · intro w'
                          go_simp
                          with_reducible rfl
                        rotate_left
                        · simp only [Act.put, List.setIfInBounds_toArray, List.set_cons_zero, List.set_cons_succ, i64_w, i32_w]
                          rfl
                        refine pure_ (i := 7) (N := some 62) (v := ?_) (a' := ?_) #[true, true, true, true, true, true, true, true, false, false, false, false, false, false, false] rfl rfl (any_of HT_.out (by kernel_rfl)) (fun _ _ _ h => h) (Or.inl ⟨by rfl, ?_⟩) ?_ ?_
                        rotate_left
                        · intro w'
                          go_simp
                          with_reducible rfl
                        rotate_left
                        · simp only [Act.put, List.setIfInBounds_toArray, List.set_cons_zero, List.set_cons_succ, i64_w, i32_w]
                          rfl
                        refine pure_ (i := 8) (N := some 63) (v := ?_) (a' := ?_) #[true, true, true, true, true, true, true, true, true, false, false, false, false, false, false] rfl rfl (any_of HT_.out (by kernel_rfl)) (fun _ _ _ h => h) (Or.inl ⟨by rfl, ?_⟩) ?_ ?_
                        rotate_left
                        · intro w'
                          go_simp
                          with_reducible rfl
                        rotate_left
                        · simp only [Act.put, List.setIfInBounds_toArray, List.set_cons_zero, List.set_cons_succ, i64_w, i32_w]
                          rfl
                        refine one_ (i := 9) (N := some 64) #[true, true, true, true, true, true, true, true, true, true, false, false, false, false, false] rfl rfl (one_of HT_.out (by kernel_rfl)) (by decide) (fun K hK => ?_)
                        refine goes_ Tryd.func5 (by kernel_rfl) rfl #[.agg #[.slice (some ad327) t316.length co15, .bool t319], .agg #[.int .i64 0, .int .i64 0, .int .i64 0, .int .i64 (((rd_T37 t316 0).f5).length : Int)]] (by rfl) rfl rfl mp_ ?_
                        with_reducible refine (span_Text.calls kj6 _ _ t316 t319 0 0 0 (((rd_T37 t316 0).f5).length : Int) t328 t329 _ ?side1 ?side2 A35.out).mono ?_
                        (case side1 => repeat (first | exact (Kd.N_reads' HO_314000.out).2.2 | (with_reducible refine Kd.C_alloc ?_ _) | (with_reducible refine Kd.C_drewN ?_ _) | (with_reducible refine Kd.C_drew ?_)))
                        (case side2 => exact (Kd.N_reads' HO_314000.out).2.1)
                        rintro e w62 ⟨rfl, hb⟩
                        have HS2_ := (hb.cell (World.block_lt_of_cell? _ _ (hHeld.2.2.1))).trans (hHeld.2.2.1)
                        have HS3_ := (hb.cell (World.block_lt_of_cell? _ _ (hHeld.2.2.2.1))).trans (hHeld.2.2.2.1)
                        have HS4_ := (hb.cell (World.block_lt_of_cell? _ _ (hHeld.2.2.2.2.1))).trans (hHeld.2.2.2.2.1)
                        have HS5_ := (hb.cell (World.block_lt_of_cell? _ _ (hHeld.2.2.2.2.2.1))).trans (hHeld.2.2.2.2.2.1)
                        have HS6_ := (hb.cell (World.block_lt_of_cell? _ _ (hHeld.2.2.2.2.2.2.1))).trans (hHeld.2.2.2.2.2.2.1)
                        have HS7_ := (hb.cell (World.block_lt_of_cell? _ _ (hHeld.2.2.2.2.2.2.2))).trans (hHeld.2.2.2.2.2.2.2)
                        refine ⟨_, rfl, ?_⟩
                        have n0_ := Aside0.mk (Kd.N_below (Kd.N_below HO_314000.out bu_) hb)
                        have n1_ := Aside0.mk (Kd.V_below (Kd.V_below HL327_2.out bu_) hb)
                        have n2_ := Aside0.mk (Kd.V_below (Kd.V_below HL327_5.out bu_) hb)
                        have n3_ := Aside0.mk (blk_below (bq_ BK313.out) hb)
                        have n4_ := Aside0.mk (blk_below (bq_ BK314.out) hb)
                        have n5_ := Aside0.mk (blk_below (bq_ BK315.out) hb)
                        have n6_ := Aside0.mk (Kd.C_below (Kd.C_below HR327_2.out bu_) hb)
                        have n7_ := Aside0.mk (Kd.C_below (Kd.C_below HR327_5.out bu_) hb)
                        have n8_ := Aside0.mk (below_step bl0_ hb)
                        clear HO_314000
                        clear HL327_2
                        clear HL327_5
                        clear BK313
                        clear BK314
                        clear BK315
                        clear HR327_2
                        clear HR327_5
                        clear HB
                        have HO_314000 := n0_
                        have HL327_2 := n1_
                        have HL327_5 := n2_
                        have BK313 := n3_
                        have BK314 := n4_
                        have BK315 := n5_
                        have HR327_2 := n6_
                        have HR327_5 := n7_
                        have HB := n8_
                        clear n0_ n1_ n2_ n3_ n4_ n5_ n6_ n7_ n8_
                        (try clear hb)
                        (try clear hb2)
                        (try clear hk)
                        (try clear hi)
                        refine hK.out _ _ ⟨(blk_cell BK313.out 0).trans rfl, (blk_cell BK313.out 1).trans rfl, HS2_, HS3_, HS4_, HS5_, HS6_, HS7_⟩ (fun hHeld => ?_)
                        clear hK K
                        refine norm_ (a' := ?_) ?_ ?_
                        rotate_left
                        · show Act.put _ (some 64) _ = _
                          simp only [Act.put, List.setIfInBounds_toArray, List.set_cons_zero, List.set_cons_succ, i64_w, i32_w]
                          rfl
                        refine pure_ (i := 10) (N := some 54) (v := ?_) (a' := ?_) #[true, true, true, true, true, true, true, true, true, true, true, false, false, false, false] rfl rfl (any_of HT_.out (by kernel_rfl)) (fun _ _ _ h => h) (Or.inl ⟨by rfl, ?_⟩) ?_ ?_
                        rotate_left
                        · intro w'
                          go_simp
                          with_reducible rfl
                        rotate_left
                        · simp only [Act.put, List.setIfInBounds_toArray, List.set_cons_zero, List.set_cons_succ, i64_w, i32_w]
                          rfl
                        refine pure_ (i := 11) (N := some 65) (v := ?_) (a' := ?_) #[true, true, true, true, true, true, true, true, true, true, true, true, false, false, false] rfl rfl (any_of HT_.out (by kernel_rfl)) (fun _ _ _ h => h) (Or.inl ⟨by rfl, ?_⟩) ?_ ?_
                        rotate_left
                        · intro w'
                          go_simp
                          with_reducible rfl
                        rotate_left
                        · simp only [Act.put, List.setIfInBounds_toArray, List.set_cons_zero, List.set_cons_succ, i64_w, i32_w]
                          rfl
                        refine pure_ (i := 12) (N := some 66) (v := ?_) (a' := ?_) #[true, true, true, true, true, true, true, true, true, true, true, true, true, false, false] rfl rfl (any_of HT_.out (by kernel_rfl)) (fun _ _ _ h => h) (Or.inl ⟨by rfl, ?_⟩) ?_ ?_
                        rotate_left
                        · intro w'
                          go_simp
                          with_reducible rfl
                        rotate_left
                        · simp only [Act.put, List.setIfInBounds_toArray, List.set_cons_zero, List.set_cons_succ, i64_w, i32_w]
                          rfl
                        refine pure_ (i := 13) (N := some 13) (v := ?_) (a' := ?_) #[true, true, true, true, true, true, true, true, true, true, true, true, true, true, false] rfl rfl (any_of HT_.out (by kernel_rfl)) (fun _ _ _ h => h) (Or.inl ⟨by rfl, ?_⟩) ?_ ?_
                        rotate_left
                        · intro w'
                          go_simp
                          with_reducible rfl
                        rotate_left
                        · simp only [Act.put, List.setIfInBounds_toArray, List.set_cons_zero, List.set_cons_succ, i64_w, i32_w]
                          rfl
                        refine pure_ (i := 14) (N := some 14) (v := ?_) (a' := ?_) #[true, true, true, true, true, true, true, true, true, true, true, true, true, true, true] rfl rfl (any_of HT_.out (by kernel_rfl)) (fun _ _ _ h => h) (Or.inl ⟨by rfl, ?_⟩) ?_ ?_
                        rotate_left
                        · intro w'
                          go_simp
                          with_reducible rfl
                        rotate_left
                        · simp only [Act.put, List.setIfInBounds_toArray, List.set_cons_zero, List.set_cons_succ, i64_w, i32_w]
                          rfl
                        refine done_ (done_of HT_.out (by kernel_rfl)) ?_
                        have hcz63_0 : w62.cell? ⟨gb313, 0, none⟩ = some (.slice (some ad327) t316.length co15) := (blk_cell BK313.out 0).trans rfl
                        have hcz63_1 : w62.cell? ⟨gb313, 1, none⟩ = some (.bool t319) := (blk_cell BK313.out 1).trans rfl
                        have hfz63_0 := blk_frozen BK313.out 0
                        have hfz63_1 := blk_frozen BK313.out 1
                        try go_wp2_with (first | ((with_reducible refine gate_callee (f := 7) rfl ?_); refine goesL_ (some 69) rfl rfl Tryd.func7 (by kernel_rfl) rfl #[.agg #[.slice (some ad327) t316.length co15, .bool t319], .int .i64 0] rfl mp_ ?_; (with_reducible refine (dom_TextOf.calls kj6 _ _ t316 t319 0 t330 t331 _ ?side1 ?side2 A36.out).mono ?_); (case side1 => repeat (first | exact (Kd.N_reads' HO_314000.out).2.2 | (with_reducible refine Kd.C_alloc ?_ _) | (with_reducible refine Kd.C_drewN ?_ _) | (with_reducible refine Kd.C_drew ?_))); (case side2 => exact (Kd.N_reads' HO_314000.out).2.1); rintro e w64 ⟨rfl, hb⟩; refine ⟨_, rfl, ?_⟩; have n0_ := Aside0.mk (Kd.N_below (Kd.N_below HO_314000.out bu_) hb); have n1_ := Aside0.mk (Kd.V_below (Kd.V_below HL327_2.out bu_) hb); have n2_ := Aside0.mk (Kd.V_below (Kd.V_below HL327_5.out bu_) hb); have n3_ := Aside0.mk (blk_below (bq_ BK313.out) hb); have n4_ := Aside0.mk (blk_below (bq_ BK314.out) hb); have n5_ := Aside0.mk (blk_below (bq_ BK315.out) hb); have n6_ := Aside0.mk (Kd.C_below (Kd.C_below HR327_2.out bu_) hb); have n7_ := Aside0.mk (Kd.C_below (Kd.C_below HR327_5.out bu_) hb); have n8_ := Aside0.mk (below_step bl0_ hb); clear HO_314000; clear HL327_2; clear HL327_5; clear BK313; clear BK314; clear BK315; clear HR327_2; clear HR327_5; clear HB; have HO_314000 := n0_; have HL327_2 := n1_; have HL327_5 := n2_; have BK313 := n3_; have BK314 := n4_; have BK315 := n5_; have HR327_2 := n6_; have HR327_5 := n7_; have HB := n8_; clear n0_ n1_ n2_ n3_ n4_ n5_ n6_ n7_ n8_; (try clear hb); (try clear hb2); (try clear hk); (try clear hi)) | ((with_reducible refine gate_callee (f := 6) rfl ?_); refine goesL_ (some 72) rfl rfl Tryd.func6 (by kernel_rfl) rfl #[] rfl mp_ ?_; (with_reducible refine (clerestorykeep1_spanBegun.calls kj6  true _ A37.out).mono ?_); rintro e w65 ⟨rfl, hb⟩; refine ⟨_, rfl, ?_⟩; have n0_ := Aside0.mk (Kd.N_below (Kd.N_below HO_314000.out bu_) hb); have n1_ := Aside0.mk (Kd.V_below (Kd.V_below HL327_2.out bu_) hb); have n2_ := Aside0.mk (Kd.V_below (Kd.V_below HL327_5.out bu_) hb); have n3_ := Aside0.mk (blk_below (bq_ BK313.out) hb); have n4_ := Aside0.mk (blk_below (bq_ BK314.out) hb); have n5_ := Aside0.mk (blk_below (bq_ BK315.out) hb); have n6_ := Aside0.mk (Kd.C_below (Kd.C_below HR327_2.out bu_) hb); have n7_ := Aside0.mk (Kd.C_below (Kd.C_below HR327_5.out bu_) hb); have n8_ := Aside0.mk (below_step bl0_ hb); clear HO_314000; clear HL327_2; clear HL327_5; clear BK313; clear BK314; clear BK315; clear HR327_2; clear HR327_5; clear HB; have HO_314000 := n0_; have HL327_2 := n1_; have HL327_5 := n2_; have BK313 := n3_; have BK314 := n4_; have BK315 := n5_; have HR327_2 := n6_; have HR327_5 := n7_; have HB := n8_; clear n0_ n1_ n2_ n3_ n4_ n5_ n6_ n7_ n8_; (try clear hb); (try clear hb2); (try clear hk); (try clear hi)))
                        go_ret
                        exact ⟨er_, bl0_⟩
                    · rw [if_neg c42] at H
                      have c42b0 : (t329 == 0) = false := beq_eq_false_iff_ne.mpr c42
                      have c42b1 : (t329 != 0) = true := bne_iff_ne.mpr c42
                      obtain rfl := Option.some.inj H
                      have hnb66 := NB313_314.out
                      have hnc66 := NB314_313.out
                      have hnb67 := NB313_315.out
                      have hnc67 := NB315_313.out
                      have hcz68_0 : wc.cell? ⟨gb313, 0, none⟩ = some (.slice Ao15 t316.length co15) := (blk_cell BK313.out 0).trans rfl
                      have hcz68_1 : wc.cell? ⟨gb313, 1, none⟩ = some (.bool t319) := (blk_cell BK313.out 1).trans rfl
                      have hfz68_0 := blk_frozen BK313.out 0
                      have hfz68_1 := blk_frozen BK313.out 1
                      have hnb69 := NB314_315.out
                      have hnc69 := NB315_314.out
                      have hcz70_0 : wc.cell? ⟨gb314, 0, none⟩ = some (.int .i64 a1_0) := (blk_cell BK314.out 0).trans rfl
                      have hcz70_1 : wc.cell? ⟨gb314, 1, none⟩ = some (.int .i64 a1_1) := (blk_cell BK314.out 1).trans rfl
                      have hcz70_2 : wc.cell? ⟨gb314, 2, none⟩ = some (.int .i64 a1_2) := (blk_cell BK314.out 2).trans rfl
                      have hcz70_3 : wc.cell? ⟨gb314, 3, none⟩ = some (.int .i64 a1_3) := (blk_cell BK314.out 3).trans rfl
                      have hfz70_0 := blk_frozen BK314.out 0
                      have hfz70_1 := blk_frozen BK314.out 1
                      have hfz70_2 := blk_frozen BK314.out 2
                      have hfz70_3 := blk_frozen BK314.out 3
                      try go_wp2_with (first | ((with_reducible refine gate_callee (f := 5) rfl ?_); refine goesL_ (some 51) rfl rfl Tryd.func5 (by kernel_rfl) rfl #[.agg #[.slice Ao15 t316.length co15, .bool t319], .agg #[.int .i64 a1_0, .int .i64 a1_1, .int .i64 a1_2, .int .i64 a1_3]] rfl mp_ ?_; (with_reducible refine (span_Text.calls kj6 _ _ t316 t319 a1_0 a1_1 a1_2 a1_3 t325 t326 _ ?side1 ?side2 A33.out).mono ?_); (case side1 => repeat (first | exact (Kd.N_reads' HO_314000.out).2.2 | (with_reducible refine Kd.C_alloc ?_ _) | (with_reducible refine Kd.C_drewN ?_ _) | (with_reducible refine Kd.C_drew ?_))); (case side2 => exact (Kd.N_reads' HO_314000.out).2.1); rintro e w71 ⟨rfl, hb⟩; refine ⟨_, rfl, ?_⟩; have n0_ := Aside0.mk (Kd.N_below (Kd.N_below HO_314000.out bu_) hb); have n1_ := Aside0.mk (blk_below (bq_ BK313.out) hb); have n2_ := Aside0.mk (blk_below (bq_ BK314.out) hb); have n3_ := Aside0.mk (blk_below (bq_ BK315.out) hb); have n4_ := Aside0.mk (below_step bl0_ hb); clear HO_314000; clear BK313; clear BK314; clear BK315; clear HB; have HO_314000 := n0_; have BK313 := n1_; have BK314 := n2_; have BK315 := n3_; have HB := n4_; clear n0_ n1_ n2_ n3_ n4_; (try clear hb); (try clear hb2); (try clear hk); (try clear hi)))
                      have n0_ := Aside0.mk (Kd.N_drew HO_314000.out)
                      have n1_ := Aside0.mk (blk_drew BK313.out)
                      have n2_ := Aside0.mk (blk_drew BK314.out)
                      have n3_ := Aside0.mk (blk_drew BK315.out)
                      have n4_ := Aside0.mk (below_drew1 HB.out)
                      clear HO_314000
                      clear BK313
                      clear BK314
                      clear BK315
                      clear HB
                      have HO_314000 := n0_
                      have BK313 := n1_
                      have BK314 := n2_
                      have BK315 := n3_
                      have HB := n4_
                      clear n0_ n1_ n2_ n3_ n4_
                      have p327 : 0 ≤ (0 : Int) := (by omega)
                      have q327 : 0 < (t316.length : Int) := of_decide_eq_true as_
                      obtain ⟨ad327, A327_2, c327_2, A327_5, c327_5, e327, hx327_0, hx327_1, hx327_2, hx327_3, hx327_4, hx327_5, hl327_2, hi327_2, hl327_5, hi327_5⟩ := at_T37 (Kd.N_reads' HO_314000.out).2.2 0 p327 q327
                      cases e327
                      obtain ⟨ce327, hce327, hMe327, hcc327⟩ := Kd.N_get HO_314000.out z37 0 p327 (by first | exact q327 | exact of_decide_eq_true as_ | (have e_ := (Kd.N_reads' HO_314000.out).1; omega))
                      obtain ⟨ua327_2, uc327_2, ua327_5, uc327_5, rfl, ul327_2, ge327_2, ul327_5, ge327_5⟩ := k37_openF hMe327
                      have hv327_2 := hcc327 2 _ rfl
                      rw [add_field _ _ 2 (by omega)] at hv327_2
                      replace hv327_2 := Option.some.inj (hv327_2.symm.trans hx327_2)
                      injection hv327_2 with hva_ hvn_ hvc_
                      rw [hva_] at ge327_2
                      rw [hvc_] at ul327_2
                      have HL327_2 := Aside0.mk (show Kd.V k86 86 _ w.heap.size _ _ ((rd_T37 t316 0).f2) from Kd.V_mk ul327_2 ge327_2)
                      clear hva_ hvn_ hvc_ ge327_2 ul327_2
                      have hv327_5 := hcc327 5 _ rfl
                      rw [add_field _ _ 5 (by omega)] at hv327_5
                      replace hv327_5 := Option.some.inj (hv327_5.symm.trans hx327_5)
                      injection hv327_5 with hva_ hvn_ hvc_
                      rw [hva_] at ge327_5
                      rw [hvc_] at ul327_5
                      have HL327_5 := Aside0.mk (show Kd.V (Kd.int .i64) 3 _ w.heap.size _ _ ((rd_T37 t316 0).f5) from Kd.V_mk ul327_5 ge327_5)
                      clear hva_ hvn_ hvc_ ge327_5 ul327_5
                      clear hcc327 hce327
                      have qi327 : (0 < t316.length) = True := eq_true (by omega)
                      (try rw [show ((0 : Int)).toNat = 0 from rfl] at hx327_0)
                      (try rw [show 0 * 6 = 0 from rfl] at hx327_0)
                      (try rw [Addr.add_zero'] at hx327_0)
                      (try rw [show ((0 : Int)).toNat = 0 from rfl] at hx327_1)
                      (try rw [show 0 * 6 = 0 from rfl] at hx327_1)
                      (try rw [Addr.add_zero'] at hx327_1)
                      (try rw [show ((0 : Int)).toNat = 0 from rfl] at hx327_2)
                      (try rw [show 0 * 6 = 0 from rfl] at hx327_2)
                      (try rw [Addr.add_zero'] at hx327_2)
                      (try rw [show ((0 : Int)).toNat = 0 from rfl] at hx327_3)
                      (try rw [show 0 * 6 = 0 from rfl] at hx327_3)
                      (try rw [Addr.add_zero'] at hx327_3)
                      (try rw [show ((0 : Int)).toNat = 0 from rfl] at hx327_4)
                      (try rw [show 0 * 6 = 0 from rfl] at hx327_4)
                      (try rw [Addr.add_zero'] at hx327_4)
                      (try rw [show ((0 : Int)).toNat = 0 from rfl] at hx327_5)
                      (try rw [show 0 * 6 = 0 from rfl] at hx327_5)
                      (try rw [Addr.add_zero'] at hx327_5)
                      have HR327_2 := Aside0.mk hi327_2
                      have HC327_2 := Aside0.mk hl327_2
                      clear hi327_2 hl327_2
                      have HR327_5 := Aside0.mk hi327_5
                      have HC327_5 := Aside0.mk hl327_5
                      clear hi327_5 hl327_5
                      replace p327 := eq_true p327
                      replace q327 := eq_true q327
                      refine start_ (n := 15) (S := fun w' => w'.cell? ⟨gb313, 0, none⟩ = some (.slice (some ad327) t316.length co15) ∧ w'.cell? ⟨gb313, 1, none⟩ = some (.bool t319) ∧ w'.cell? ad327 = some (.int .i64 ((rd_T37 t316 0).f0)) ∧ w'.cell? ⟨ad327.block, ad327.off + 1, none⟩ = some (.string ((rd_T37 t316 0).f1)) ∧ w'.cell? ⟨ad327.block, ad327.off + 2, none⟩ = some (.slice A327_2 ((rd_T37 t316 0).f2).length c327_2) ∧ w'.cell? ⟨ad327.block, ad327.off + 3, none⟩ = some (.string ((rd_T37 t316 0).f3)) ∧ w'.cell? ⟨ad327.block, ad327.off + 4, none⟩ = some (.int .i64 ((rd_T37 t316 0).f4)) ∧ w'.cell? ⟨ad327.block, ad327.off + 5, none⟩ = some (.slice A327_5 ((rd_T37 t316 0).f5).length c327_5)) (ds := []) #[false, false, false, false, false, false, false, false, false, false, false, false, false, false, false] (by kernel_rfl) rfl rfl ⟨(blk_cell BK313.out 0).trans rfl, (blk_cell BK313.out 1).trans rfl, hx327_0, hx327_1, hx327_2, hx327_3, hx327_4, hx327_5⟩ (fun hHeld => ?_); refine with_tabW clerestorykeep1_SpanParts.tab9 clerestorykeep1_SpanParts.bits9 (fun HT_ HW_ => ?_)
                      generalize w71.drew = w72 at HO_314000 BK313 BK314 BK315 HB HL327_2 HL327_5 HR327_2 HR327_5 hx327_0 hx327_1 hx327_2 hx327_3 hx327_4 hx327_5 hHeld ⊢
                      refine pure_ (i := 1) (N := some 56) (v := ?_) (a' := ?_) #[false, true, false, false, false, false, false, false, false, false, false, false, false, false, false] rfl rfl (any_of HT_.out (by kernel_rfl)) (fun _ _ _ h => h) (Or.inl ⟨by rfl, ?_⟩) ?_ ?_
                      rotate_left
                      · intro w'
                        go_simp
                        with_reducible rfl
                      rotate_left
                      · simp only [Act.put, List.setIfInBounds_toArray, List.set_cons_zero, List.set_cons_succ, i64_w, i32_w]
                        rfl
                      refine take_ (i := 0) (N := some 55) (v := ?_) (a' := ?_) #[true, true, false, false, false, false, false, false, false, false, false, false, false, false, false] rfl rfl (take_ofW HT_.out HW_.out (by kernel_rfl)) (fun _ _ _ h => h) (Or.inl ⟨by rfl, ?_⟩) hHeld ?_ ?_
                      rotate_left
                      · rintro w' ⟨s0, s1, s2, s3, s4, s5, s6, s7⟩
                        go_simp
                        with_reducible rfl
                      rotate_left
                      · simp only [Act.put, List.setIfInBounds_toArray, List.set_cons_zero, List.set_cons_succ, i64_w, i32_w]
                        rfl
                      refine take_ (i := 2) (N := some 57) (v := ?_) (a' := ?_) #[true, true, true, false, false, false, false, false, false, false, false, false, false, false, false] rfl rfl (take_ofW HT_.out HW_.out (by kernel_rfl)) (fun _ _ _ h => h) (Or.inl ⟨by rfl, ?_⟩) hHeld ?_ ?_
                      rotate_left
                      · rintro w' ⟨s0, s1, s2, s3, s4, s5, s6, s7⟩
                        go_simp
                        with_reducible rfl
                      rotate_left
                      · simp only [Act.put, List.setIfInBounds_toArray, List.set_cons_zero, List.set_cons_succ, i64_w, i32_w]
                        rfl
                      refine pure_ (i := 3) (N := some 58) (v := ?_) (a' := ?_) #[true, true, true, true, false, false, false, false, false, false, false, false, false, false, false] rfl rfl (any_of HT_.out (by kernel_rfl)) (fun _ _ _ h => h) (Or.inl ⟨by rfl, ?_⟩) ?_ ?_
                      rotate_left
                      · intro w'
                        go_simp
                        with_reducible rfl
                      rotate_left
                      · simp only [Act.put, List.setIfInBounds_toArray, List.set_cons_zero, List.set_cons_succ, i64_w, i32_w]
                        rfl
                      refine pure_ (i := 4) (N := some 59) (v := ?_) (a' := ?_) #[true, true, true, true, true, false, false, false, false, false, false, false, false, false, false] rfl rfl (any_of HT_.out (by kernel_rfl)) (fun _ _ _ h => h) (Or.inl ⟨by rfl, ?_⟩) ?_ ?_
                      rotate_left
                      · intro w'
                        go_simp
                        with_reducible rfl
                      rotate_left
                      · simp only [Act.put, List.setIfInBounds_toArray, List.set_cons_zero, List.set_cons_succ, i64_w, i32_w]
                        rfl
                      refine take_ (i := 5) (N := some 60) (v := ?_) (a' := ?_) #[true, true, true, true, true, true, false, false, false, false, false, false, false, false, false] rfl rfl (take_ofW HT_.out HW_.out (by kernel_rfl)) (fun _ _ _ h => h) (Or.inl ⟨by rfl, ?_⟩) hHeld ?_ ?_
                      rotate_left
                      · rintro w' ⟨s0, s1, s2, s3, s4, s5, s6, s7⟩
                        go_simp
                        with_reducible rfl
                      rotate_left
                      · simp only [Act.put, List.setIfInBounds_toArray, List.set_cons_zero, List.set_cons_succ, i64_w, i32_w]
                        rfl
                      refine pure_ (i := 6) (N := some 61) (v := ?_) (a' := ?_) #[true, true, true, true, true, true, true, false, false, false, false, false, false, false, false] rfl rfl (any_of HT_.out (by kernel_rfl)) (fun _ _ _ h => h) (Or.inl ⟨by rfl, ?_⟩) ?_ ?_
                      rotate_left
                      · intro w'
                        go_simp
                        with_reducible rfl
                      rotate_left
                      · simp only [Act.put, List.setIfInBounds_toArray, List.set_cons_zero, List.set_cons_succ, i64_w, i32_w]
                        rfl
                      refine pure_ (i := 7) (N := some 62) (v := ?_) (a' := ?_) #[true, true, true, true, true, true, true, true, false, false, false, false, false, false, false] rfl rfl (any_of HT_.out (by kernel_rfl)) (fun _ _ _ h => h) (Or.inl ⟨by rfl, ?_⟩) ?_ ?_
                      rotate_left
                      · intro w'
                        go_simp
                        with_reducible rfl
                      rotate_left
                      · simp only [Act.put, List.setIfInBounds_toArray, List.set_cons_zero, List.set_cons_succ, i64_w, i32_w]
                        rfl
                      refine pure_ (i := 8) (N := some 63) (v := ?_) (a' := ?_) #[true, true, true, true, true, true, true, true, true, false, false, false, false, false, false] rfl rfl (any_of HT_.out (by kernel_rfl)) (fun _ _ _ h => h) (Or.inl ⟨by rfl, ?_⟩) ?_ ?_
                      rotate_left
                      · intro w'
                        go_simp
                        with_reducible rfl
                      rotate_left
                      · simp only [Act.put, List.setIfInBounds_toArray, List.set_cons_zero, List.set_cons_succ, i64_w, i32_w]
                        rfl
                      refine one_ (i := 9) (N := some 64) #[true, true, true, true, true, true, true, true, true, true, false, false, false, false, false] rfl rfl (one_of HT_.out (by kernel_rfl)) (by decide) (fun K hK => ?_)
                      refine goes_ Tryd.func5 (by kernel_rfl) rfl #[.agg #[.slice (some ad327) t316.length co15, .bool t319], .agg #[.int .i64 0, .int .i64 0, .int .i64 0, .int .i64 (((rd_T37 t316 0).f5).length : Int)]] (by rfl) rfl rfl mp_ ?_
                      with_reducible refine (span_Text.calls kj6 _ _ t316 t319 0 0 0 (((rd_T37 t316 0).f5).length : Int) t328 t329 _ ?side1 ?side2 A35.out).mono ?_
                      (case side1 => repeat (first | exact (Kd.N_reads' HO_314000.out).2.2 | (with_reducible refine Kd.C_alloc ?_ _) | (with_reducible refine Kd.C_drewN ?_ _) | (with_reducible refine Kd.C_drew ?_)))
                      (case side2 => exact (Kd.N_reads' HO_314000.out).2.1)
                      rintro e w73 ⟨rfl, hb⟩
                      have HS2_ := (hb.cell (World.block_lt_of_cell? _ _ (hHeld.2.2.1))).trans (hHeld.2.2.1)
                      have HS3_ := (hb.cell (World.block_lt_of_cell? _ _ (hHeld.2.2.2.1))).trans (hHeld.2.2.2.1)
                      have HS4_ := (hb.cell (World.block_lt_of_cell? _ _ (hHeld.2.2.2.2.1))).trans (hHeld.2.2.2.2.1)
                      have HS5_ := (hb.cell (World.block_lt_of_cell? _ _ (hHeld.2.2.2.2.2.1))).trans (hHeld.2.2.2.2.2.1)
                      have HS6_ := (hb.cell (World.block_lt_of_cell? _ _ (hHeld.2.2.2.2.2.2.1))).trans (hHeld.2.2.2.2.2.2.1)
                      have HS7_ := (hb.cell (World.block_lt_of_cell? _ _ (hHeld.2.2.2.2.2.2.2))).trans (hHeld.2.2.2.2.2.2.2)
                      refine ⟨_, rfl, ?_⟩
                      have n0_ := Aside0.mk (Kd.N_below (Kd.N_below HO_314000.out bu_) hb)
                      have n1_ := Aside0.mk (Kd.V_below (Kd.V_below HL327_2.out bu_) hb)
                      have n2_ := Aside0.mk (Kd.V_below (Kd.V_below HL327_5.out bu_) hb)
                      have n3_ := Aside0.mk (blk_below (bq_ BK313.out) hb)
                      have n4_ := Aside0.mk (blk_below (bq_ BK314.out) hb)
                      have n5_ := Aside0.mk (blk_below (bq_ BK315.out) hb)
                      have n6_ := Aside0.mk (Kd.C_below (Kd.C_below HR327_2.out bu_) hb)
                      have n7_ := Aside0.mk (Kd.C_below (Kd.C_below HR327_5.out bu_) hb)
                      have n8_ := Aside0.mk (below_step bl0_ hb)
                      clear HO_314000
                      clear HL327_2
                      clear HL327_5
                      clear BK313
                      clear BK314
                      clear BK315
                      clear HR327_2
                      clear HR327_5
                      clear HB
                      have HO_314000 := n0_
                      have HL327_2 := n1_
                      have HL327_5 := n2_
                      have BK313 := n3_
                      have BK314 := n4_
                      have BK315 := n5_
                      have HR327_2 := n6_
                      have HR327_5 := n7_
                      have HB := n8_
                      clear n0_ n1_ n2_ n3_ n4_ n5_ n6_ n7_ n8_
                      (try clear hb)
                      (try clear hb2)
                      (try clear hk)
                      (try clear hi)
                      refine hK.out _ _ ⟨(blk_cell BK313.out 0).trans rfl, (blk_cell BK313.out 1).trans rfl, HS2_, HS3_, HS4_, HS5_, HS6_, HS7_⟩ (fun hHeld => ?_)
                      clear hK K
                      refine norm_ (a' := ?_) ?_ ?_
                      rotate_left
                      · show Act.put _ (some 64) _ = _
                        simp only [Act.put, List.setIfInBounds_toArray, List.set_cons_zero, List.set_cons_succ, i64_w, i32_w]
                        rfl
                      refine pure_ (i := 10) (N := some 54) (v := ?_) (a' := ?_) #[true, true, true, true, true, true, true, true, true, true, true, false, false, false, false] rfl rfl (any_of HT_.out (by kernel_rfl)) (fun _ _ _ h => h) (Or.inl ⟨by rfl, ?_⟩) ?_ ?_
                      rotate_left
                      · intro w'
                        go_simp
                        with_reducible rfl
                      rotate_left
                      · simp only [Act.put, List.setIfInBounds_toArray, List.set_cons_zero, List.set_cons_succ, i64_w, i32_w]
                        rfl
                      refine pure_ (i := 11) (N := some 65) (v := ?_) (a' := ?_) #[true, true, true, true, true, true, true, true, true, true, true, true, false, false, false] rfl rfl (any_of HT_.out (by kernel_rfl)) (fun _ _ _ h => h) (Or.inl ⟨by rfl, ?_⟩) ?_ ?_
                      rotate_left
                      · intro w'
                        go_simp
                        with_reducible rfl
                      rotate_left
                      · simp only [Act.put, List.setIfInBounds_toArray, List.set_cons_zero, List.set_cons_succ, i64_w, i32_w]
                        rfl
                      refine pure_ (i := 12) (N := some 66) (v := ?_) (a' := ?_) #[true, true, true, true, true, true, true, true, true, true, true, true, true, false, false] rfl rfl (any_of HT_.out (by kernel_rfl)) (fun _ _ _ h => h) (Or.inl ⟨by rfl, ?_⟩) ?_ ?_
                      rotate_left
                      · intro w'
                        go_simp
                        with_reducible rfl
                      rotate_left
                      · simp only [Act.put, List.setIfInBounds_toArray, List.set_cons_zero, List.set_cons_succ, i64_w, i32_w]
                        rfl
                      refine pure_ (i := 13) (N := some 13) (v := ?_) (a' := ?_) #[true, true, true, true, true, true, true, true, true, true, true, true, true, true, false] rfl rfl (any_of HT_.out (by kernel_rfl)) (fun _ _ _ h => h) (Or.inl ⟨by rfl, ?_⟩) ?_ ?_
                      rotate_left
                      · intro w'
                        go_simp
                        with_reducible rfl
                      rotate_left
                      · simp only [Act.put, List.setIfInBounds_toArray, List.set_cons_zero, List.set_cons_succ, i64_w, i32_w]
                        rfl
                      refine pure_ (i := 14) (N := some 14) (v := ?_) (a' := ?_) #[true, true, true, true, true, true, true, true, true, true, true, true, true, true, true] rfl rfl (any_of HT_.out (by kernel_rfl)) (fun _ _ _ h => h) (Or.inl ⟨by rfl, ?_⟩) ?_ ?_
                      rotate_left
                      · intro w'
                        go_simp
                        with_reducible rfl
                      rotate_left
                      · simp only [Act.put, List.setIfInBounds_toArray, List.set_cons_zero, List.set_cons_succ, i64_w, i32_w]
                        rfl
                      refine done_ (done_of HT_.out (by kernel_rfl)) ?_
                      have hcz74_0 : w73.cell? ⟨gb313, 0, none⟩ = some (.slice (some ad327) t316.length co15) := (blk_cell BK313.out 0).trans rfl
                      have hcz74_1 : w73.cell? ⟨gb313, 1, none⟩ = some (.bool t319) := (blk_cell BK313.out 1).trans rfl
                      have hfz74_0 := blk_frozen BK313.out 0
                      have hfz74_1 := blk_frozen BK313.out 1
                      try go_wp2_with (first | ((with_reducible refine gate_callee (f := 7) rfl ?_); refine goesL_ (some 69) rfl rfl Tryd.func7 (by kernel_rfl) rfl #[.agg #[.slice (some ad327) t316.length co15, .bool t319], .int .i64 0] rfl mp_ ?_; (with_reducible refine (dom_TextOf.calls kj6 _ _ t316 t319 0 t330 t331 _ ?side1 ?side2 A36.out).mono ?_); (case side1 => repeat (first | exact (Kd.N_reads' HO_314000.out).2.2 | (with_reducible refine Kd.C_alloc ?_ _) | (with_reducible refine Kd.C_drewN ?_ _) | (with_reducible refine Kd.C_drew ?_))); (case side2 => exact (Kd.N_reads' HO_314000.out).2.1); rintro e w75 ⟨rfl, hb⟩; refine ⟨_, rfl, ?_⟩; have n0_ := Aside0.mk (Kd.N_below (Kd.N_below HO_314000.out bu_) hb); have n1_ := Aside0.mk (Kd.V_below (Kd.V_below HL327_2.out bu_) hb); have n2_ := Aside0.mk (Kd.V_below (Kd.V_below HL327_5.out bu_) hb); have n3_ := Aside0.mk (blk_below (bq_ BK313.out) hb); have n4_ := Aside0.mk (blk_below (bq_ BK314.out) hb); have n5_ := Aside0.mk (blk_below (bq_ BK315.out) hb); have n6_ := Aside0.mk (Kd.C_below (Kd.C_below HR327_2.out bu_) hb); have n7_ := Aside0.mk (Kd.C_below (Kd.C_below HR327_5.out bu_) hb); have n8_ := Aside0.mk (below_step bl0_ hb); clear HO_314000; clear HL327_2; clear HL327_5; clear BK313; clear BK314; clear BK315; clear HR327_2; clear HR327_5; clear HB; have HO_314000 := n0_; have HL327_2 := n1_; have HL327_5 := n2_; have BK313 := n3_; have BK314 := n4_; have BK315 := n5_; have HR327_2 := n6_; have HR327_5 := n7_; have HB := n8_; clear n0_ n1_ n2_ n3_ n4_ n5_ n6_ n7_ n8_; (try clear hb); (try clear hb2); (try clear hk); (try clear hi)) | ((with_reducible refine gate_callee (f := 6) rfl ?_); refine goesL_ (some 72) rfl rfl Tryd.func6 (by kernel_rfl) rfl #[] rfl mp_ ?_; (with_reducible refine (clerestorykeep1_spanBegun.calls kj6  true _ A37.out).mono ?_); rintro e w76 ⟨rfl, hb⟩; refine ⟨_, rfl, ?_⟩; have n0_ := Aside0.mk (Kd.N_below (Kd.N_below HO_314000.out bu_) hb); have n1_ := Aside0.mk (Kd.V_below (Kd.V_below HL327_2.out bu_) hb); have n2_ := Aside0.mk (Kd.V_below (Kd.V_below HL327_5.out bu_) hb); have n3_ := Aside0.mk (blk_below (bq_ BK313.out) hb); have n4_ := Aside0.mk (blk_below (bq_ BK314.out) hb); have n5_ := Aside0.mk (blk_below (bq_ BK315.out) hb); have n6_ := Aside0.mk (Kd.C_below (Kd.C_below HR327_2.out bu_) hb); have n7_ := Aside0.mk (Kd.C_below (Kd.C_below HR327_5.out bu_) hb); have n8_ := Aside0.mk (below_step bl0_ hb); clear HO_314000; clear HL327_2; clear HL327_5; clear BK313; clear BK314; clear BK315; clear HR327_2; clear HR327_5; clear HB; have HO_314000 := n0_; have HL327_2 := n1_; have HL327_5 := n2_; have BK313 := n3_; have BK314 := n4_; have BK315 := n5_; have HR327_2 := n6_; have HR327_5 := n7_; have HB := n8_; clear n0_ n1_ n2_ n3_ n4_ n5_ n6_ n7_ n8_; (try clear hb); (try clear hb2); (try clear hk); (try clear hi)))
                      go_ret
                      exact ⟨er_, bl0_⟩
                  · rw [if_neg c41] at H
                    have c41b0 : (t325.toList == (t320 ++ t322).toList) = false := beq_eq_false_iff_ne.mpr c41
                    have c41b1 : (t325.toList != (t320 ++ t322).toList) = true := bne_iff_ne.mpr c41
                    obtain rfl := Option.some.inj H
                    have hnb77 := NB313_314.out
                    have hnc77 := NB314_313.out
                    have hnb78 := NB313_315.out
                    have hnc78 := NB315_313.out
                    have hcz79_0 : wc.cell? ⟨gb313, 0, none⟩ = some (.slice Ao15 t316.length co15) := (blk_cell BK313.out 0).trans rfl
                    have hcz79_1 : wc.cell? ⟨gb313, 1, none⟩ = some (.bool t319) := (blk_cell BK313.out 1).trans rfl
                    have hfz79_0 := blk_frozen BK313.out 0
                    have hfz79_1 := blk_frozen BK313.out 1
                    have hnb80 := NB314_315.out
                    have hnc80 := NB315_314.out
                    have hcz81_0 : wc.cell? ⟨gb314, 0, none⟩ = some (.int .i64 a1_0) := (blk_cell BK314.out 0).trans rfl
                    have hcz81_1 : wc.cell? ⟨gb314, 1, none⟩ = some (.int .i64 a1_1) := (blk_cell BK314.out 1).trans rfl
                    have hcz81_2 : wc.cell? ⟨gb314, 2, none⟩ = some (.int .i64 a1_2) := (blk_cell BK314.out 2).trans rfl
                    have hcz81_3 : wc.cell? ⟨gb314, 3, none⟩ = some (.int .i64 a1_3) := (blk_cell BK314.out 3).trans rfl
                    have hfz81_0 := blk_frozen BK314.out 0
                    have hfz81_1 := blk_frozen BK314.out 1
                    have hfz81_2 := blk_frozen BK314.out 2
                    have hfz81_3 := blk_frozen BK314.out 3
                    try go_wp2_with (first | ((with_reducible refine gate_callee (f := 5) rfl ?_); refine goesL_ (some 51) rfl rfl Tryd.func5 (by kernel_rfl) rfl #[.agg #[.slice Ao15 t316.length co15, .bool t319], .agg #[.int .i64 a1_0, .int .i64 a1_1, .int .i64 a1_2, .int .i64 a1_3]] rfl mp_ ?_; (with_reducible refine (span_Text.calls kj6 _ _ t316 t319 a1_0 a1_1 a1_2 a1_3 t325 t326 _ ?side1 ?side2 A33.out).mono ?_); (case side1 => repeat (first | exact (Kd.N_reads' HO_314000.out).2.2 | (with_reducible refine Kd.C_alloc ?_ _) | (with_reducible refine Kd.C_drewN ?_ _) | (with_reducible refine Kd.C_drew ?_))); (case side2 => exact (Kd.N_reads' HO_314000.out).2.1); rintro e w82 ⟨rfl, hb⟩; refine ⟨_, rfl, ?_⟩; have n0_ := Aside0.mk (Kd.N_below (Kd.N_below HO_314000.out bu_) hb); have n1_ := Aside0.mk (blk_below (bq_ BK313.out) hb); have n2_ := Aside0.mk (blk_below (bq_ BK314.out) hb); have n3_ := Aside0.mk (blk_below (bq_ BK315.out) hb); have n4_ := Aside0.mk (below_step bl0_ hb); clear HO_314000; clear BK313; clear BK314; clear BK315; clear HB; have HO_314000 := n0_; have BK313 := n1_; have BK314 := n2_; have BK315 := n3_; have HB := n4_; clear n0_ n1_ n2_ n3_ n4_; (try clear hb); (try clear hb2); (try clear hk); (try clear hi)))
                    have n0_ := Aside0.mk (Kd.N_drew HO_314000.out)
                    have n1_ := Aside0.mk (blk_drew BK313.out)
                    have n2_ := Aside0.mk (blk_drew BK314.out)
                    have n3_ := Aside0.mk (blk_drew BK315.out)
                    have n4_ := Aside0.mk (below_drew1 HB.out)
                    clear HO_314000
                    clear BK313
                    clear BK314
                    clear BK315
                    clear HB
                    have HO_314000 := n0_
                    have BK313 := n1_
                    have BK314 := n2_
                    have BK315 := n3_
                    have HB := n4_
                    clear n0_ n1_ n2_ n3_ n4_
                    have p327 : 0 ≤ (0 : Int) := (by omega)
                    have q327 : 0 < (t316.length : Int) := of_decide_eq_true as_
                    obtain ⟨ad327, A327_2, c327_2, A327_5, c327_5, e327, hx327_0, hx327_1, hx327_2, hx327_3, hx327_4, hx327_5, hl327_2, hi327_2, hl327_5, hi327_5⟩ := at_T37 (Kd.N_reads' HO_314000.out).2.2 0 p327 q327
                    cases e327
                    obtain ⟨ce327, hce327, hMe327, hcc327⟩ := Kd.N_get HO_314000.out z37 0 p327 (by first | exact q327 | exact of_decide_eq_true as_ | (have e_ := (Kd.N_reads' HO_314000.out).1; omega))
                    obtain ⟨ua327_2, uc327_2, ua327_5, uc327_5, rfl, ul327_2, ge327_2, ul327_5, ge327_5⟩ := k37_openF hMe327
                    have hv327_2 := hcc327 2 _ rfl
                    rw [add_field _ _ 2 (by omega)] at hv327_2
                    replace hv327_2 := Option.some.inj (hv327_2.symm.trans hx327_2)
                    injection hv327_2 with hva_ hvn_ hvc_
                    rw [hva_] at ge327_2
                    rw [hvc_] at ul327_2
                    have HL327_2 := Aside0.mk (show Kd.V k86 86 _ w.heap.size _ _ ((rd_T37 t316 0).f2) from Kd.V_mk ul327_2 ge327_2)
                    clear hva_ hvn_ hvc_ ge327_2 ul327_2
                    have hv327_5 := hcc327 5 _ rfl
                    rw [add_field _ _ 5 (by omega)] at hv327_5
                    replace hv327_5 := Option.some.inj (hv327_5.symm.trans hx327_5)
                    injection hv327_5 with hva_ hvn_ hvc_
                    rw [hva_] at ge327_5
                    rw [hvc_] at ul327_5
                    have HL327_5 := Aside0.mk (show Kd.V (Kd.int .i64) 3 _ w.heap.size _ _ ((rd_T37 t316 0).f5) from Kd.V_mk ul327_5 ge327_5)
                    clear hva_ hvn_ hvc_ ge327_5 ul327_5
                    clear hcc327 hce327
                    have qi327 : (0 < t316.length) = True := eq_true (by omega)
                    (try rw [show ((0 : Int)).toNat = 0 from rfl] at hx327_0)
                    (try rw [show 0 * 6 = 0 from rfl] at hx327_0)
                    (try rw [Addr.add_zero'] at hx327_0)
                    (try rw [show ((0 : Int)).toNat = 0 from rfl] at hx327_1)
                    (try rw [show 0 * 6 = 0 from rfl] at hx327_1)
                    (try rw [Addr.add_zero'] at hx327_1)
                    (try rw [show ((0 : Int)).toNat = 0 from rfl] at hx327_2)
                    (try rw [show 0 * 6 = 0 from rfl] at hx327_2)
                    (try rw [Addr.add_zero'] at hx327_2)
                    (try rw [show ((0 : Int)).toNat = 0 from rfl] at hx327_3)
                    (try rw [show 0 * 6 = 0 from rfl] at hx327_3)
                    (try rw [Addr.add_zero'] at hx327_3)
                    (try rw [show ((0 : Int)).toNat = 0 from rfl] at hx327_4)
                    (try rw [show 0 * 6 = 0 from rfl] at hx327_4)
                    (try rw [Addr.add_zero'] at hx327_4)
                    (try rw [show ((0 : Int)).toNat = 0 from rfl] at hx327_5)
                    (try rw [show 0 * 6 = 0 from rfl] at hx327_5)
                    (try rw [Addr.add_zero'] at hx327_5)
                    have HR327_2 := Aside0.mk hi327_2
                    have HC327_2 := Aside0.mk hl327_2
                    clear hi327_2 hl327_2
                    have HR327_5 := Aside0.mk hi327_5
                    have HC327_5 := Aside0.mk hl327_5
                    clear hi327_5 hl327_5
                    replace p327 := eq_true p327
                    replace q327 := eq_true q327
                    refine start_ (n := 15) (S := fun w' => w'.cell? ⟨gb313, 0, none⟩ = some (.slice (some ad327) t316.length co15) ∧ w'.cell? ⟨gb313, 1, none⟩ = some (.bool t319) ∧ w'.cell? ad327 = some (.int .i64 ((rd_T37 t316 0).f0)) ∧ w'.cell? ⟨ad327.block, ad327.off + 1, none⟩ = some (.string ((rd_T37 t316 0).f1)) ∧ w'.cell? ⟨ad327.block, ad327.off + 2, none⟩ = some (.slice A327_2 ((rd_T37 t316 0).f2).length c327_2) ∧ w'.cell? ⟨ad327.block, ad327.off + 3, none⟩ = some (.string ((rd_T37 t316 0).f3)) ∧ w'.cell? ⟨ad327.block, ad327.off + 4, none⟩ = some (.int .i64 ((rd_T37 t316 0).f4)) ∧ w'.cell? ⟨ad327.block, ad327.off + 5, none⟩ = some (.slice A327_5 ((rd_T37 t316 0).f5).length c327_5)) (ds := []) #[false, false, false, false, false, false, false, false, false, false, false, false, false, false, false] (by kernel_rfl) rfl rfl ⟨(blk_cell BK313.out 0).trans rfl, (blk_cell BK313.out 1).trans rfl, hx327_0, hx327_1, hx327_2, hx327_3, hx327_4, hx327_5⟩ (fun hHeld => ?_); refine with_tabW clerestorykeep1_SpanParts.tab9 clerestorykeep1_SpanParts.bits9 (fun HT_ HW_ => ?_)
                    generalize w82.drew = w83 at HO_314000 BK313 BK314 BK315 HB HL327_2 HL327_5 HR327_2 HR327_5 hx327_0 hx327_1 hx327_2 hx327_3 hx327_4 hx327_5 hHeld ⊢
                    refine pure_ (i := 1) (N := some 56) (v := ?_) (a' := ?_) #[false, true, false, false, false, false, false, false, false, false, false, false, false, false, false] rfl rfl (any_of HT_.out (by kernel_rfl)) (fun _ _ _ h => h) (Or.inl ⟨by rfl, ?_⟩) ?_ ?_
                    rotate_left
                    · intro w'
                      go_simp
                      with_reducible rfl
                    rotate_left
                    · simp only [Act.put, List.setIfInBounds_toArray, List.set_cons_zero, List.set_cons_succ, i64_w, i32_w]
                      rfl
                    refine take_ (i := 0) (N := some 55) (v := ?_) (a' := ?_) #[true, true, false, false, false, false, false, false, false, false, false, false, false, false, false] rfl rfl (take_ofW HT_.out HW_.out (by kernel_rfl)) (fun _ _ _ h => h) (Or.inl ⟨by rfl, ?_⟩) hHeld ?_ ?_
                    rotate_left
                    · rintro w' ⟨s0, s1, s2, s3, s4, s5, s6, s7⟩
                      go_simp
                      with_reducible rfl
                    rotate_left
                    · simp only [Act.put, List.setIfInBounds_toArray, List.set_cons_zero, List.set_cons_succ, i64_w, i32_w]
                      rfl
                    refine take_ (i := 2) (N := some 57) (v := ?_) (a' := ?_) #[true, true, true, false, false, false, false, false, false, false, false, false, false, false, false] rfl rfl (take_ofW HT_.out HW_.out (by kernel_rfl)) (fun _ _ _ h => h) (Or.inl ⟨by rfl, ?_⟩) hHeld ?_ ?_
                    rotate_left
                    · rintro w' ⟨s0, s1, s2, s3, s4, s5, s6, s7⟩
                      go_simp
                      with_reducible rfl
                    rotate_left
                    · simp only [Act.put, List.setIfInBounds_toArray, List.set_cons_zero, List.set_cons_succ, i64_w, i32_w]
                      rfl
                    refine pure_ (i := 3) (N := some 58) (v := ?_) (a' := ?_) #[true, true, true, true, false, false, false, false, false, false, false, false, false, false, false] rfl rfl (any_of HT_.out (by kernel_rfl)) (fun _ _ _ h => h) (Or.inl ⟨by rfl, ?_⟩) ?_ ?_
                    rotate_left
                    · intro w'
                      go_simp
                      with_reducible rfl
                    rotate_left
                    · simp only [Act.put, List.setIfInBounds_toArray, List.set_cons_zero, List.set_cons_succ, i64_w, i32_w]
                      rfl
                    refine pure_ (i := 4) (N := some 59) (v := ?_) (a' := ?_) #[true, true, true, true, true, false, false, false, false, false, false, false, false, false, false] rfl rfl (any_of HT_.out (by kernel_rfl)) (fun _ _ _ h => h) (Or.inl ⟨by rfl, ?_⟩) ?_ ?_
                    rotate_left
                    · intro w'
                      go_simp
                      with_reducible rfl
                    rotate_left
                    · simp only [Act.put, List.setIfInBounds_toArray, List.set_cons_zero, List.set_cons_succ, i64_w, i32_w]
                      rfl
                    refine take_ (i := 5) (N := some 60) (v := ?_) (a' := ?_) #[true, true, true, true, true, true, false, false, false, false, false, false, false, false, false] rfl rfl (take_ofW HT_.out HW_.out (by kernel_rfl)) (fun _ _ _ h => h) (Or.inl ⟨by rfl, ?_⟩) hHeld ?_ ?_
                    rotate_left
                    · rintro w' ⟨s0, s1, s2, s3, s4, s5, s6, s7⟩
                      go_simp
                      with_reducible rfl
                    rotate_left
                    · simp only [Act.put, List.setIfInBounds_toArray, List.set_cons_zero, List.set_cons_succ, i64_w, i32_w]
                      rfl
                    refine pure_ (i := 6) (N := some 61) (v := ?_) (a' := ?_) #[true, true, true, true, true, true, true, false, false, false, false, false, false, false, false] rfl rfl (any_of HT_.out (by kernel_rfl)) (fun _ _ _ h => h) (Or.inl ⟨by rfl, ?_⟩) ?_ ?_
                    rotate_left
                    · intro w'
                      go_simp
                      with_reducible rfl
                    rotate_left
                    · simp only [Act.put, List.setIfInBounds_toArray, List.set_cons_zero, List.set_cons_succ, i64_w, i32_w]
                      rfl
                    refine pure_ (i := 7) (N := some 62) (v := ?_) (a' := ?_) #[true, true, true, true, true, true, true, true, false, false, false, false, false, false, false] rfl rfl (any_of HT_.out (by kernel_rfl)) (fun _ _ _ h => h) (Or.inl ⟨by rfl, ?_⟩) ?_ ?_
                    rotate_left
                    · intro w'
                      go_simp
                      with_reducible rfl
                    rotate_left
                    · simp only [Act.put, List.setIfInBounds_toArray, List.set_cons_zero, List.set_cons_succ, i64_w, i32_w]
                      rfl
                    refine pure_ (i := 8) (N := some 63) (v := ?_) (a' := ?_) #[true, true, true, true, true, true, true, true, true, false, false, false, false, false, false] rfl rfl (any_of HT_.out (by kernel_rfl)) (fun _ _ _ h => h) (Or.inl ⟨by rfl, ?_⟩) ?_ ?_
                    rotate_left
                    · intro w'
                      go_simp
                      with_reducible rfl
                    rotate_left
                    · simp only [Act.put, List.setIfInBounds_toArray, List.set_cons_zero, List.set_cons_succ, i64_w, i32_w]
                      rfl
                    refine one_ (i := 9) (N := some 64) #[true, true, true, true, true, true, true, true, true, true, false, false, false, false, false] rfl rfl (one_of HT_.out (by kernel_rfl)) (by decide) (fun K hK => ?_)
                    refine goes_ Tryd.func5 (by kernel_rfl) rfl #[.agg #[.slice (some ad327) t316.length co15, .bool t319], .agg #[.int .i64 0, .int .i64 0, .int .i64 0, .int .i64 (((rd_T37 t316 0).f5).length : Int)]] (by rfl) rfl rfl mp_ ?_
                    with_reducible refine (span_Text.calls kj6 _ _ t316 t319 0 0 0 (((rd_T37 t316 0).f5).length : Int) t328 t329 _ ?side1 ?side2 A35.out).mono ?_
                    (case side1 => repeat (first | exact (Kd.N_reads' HO_314000.out).2.2 | (with_reducible refine Kd.C_alloc ?_ _) | (with_reducible refine Kd.C_drewN ?_ _) | (with_reducible refine Kd.C_drew ?_)))
                    (case side2 => exact (Kd.N_reads' HO_314000.out).2.1)
                    rintro e w84 ⟨rfl, hb⟩
                    have HS2_ := (hb.cell (World.block_lt_of_cell? _ _ (hHeld.2.2.1))).trans (hHeld.2.2.1)
                    have HS3_ := (hb.cell (World.block_lt_of_cell? _ _ (hHeld.2.2.2.1))).trans (hHeld.2.2.2.1)
                    have HS4_ := (hb.cell (World.block_lt_of_cell? _ _ (hHeld.2.2.2.2.1))).trans (hHeld.2.2.2.2.1)
                    have HS5_ := (hb.cell (World.block_lt_of_cell? _ _ (hHeld.2.2.2.2.2.1))).trans (hHeld.2.2.2.2.2.1)
                    have HS6_ := (hb.cell (World.block_lt_of_cell? _ _ (hHeld.2.2.2.2.2.2.1))).trans (hHeld.2.2.2.2.2.2.1)
                    have HS7_ := (hb.cell (World.block_lt_of_cell? _ _ (hHeld.2.2.2.2.2.2.2))).trans (hHeld.2.2.2.2.2.2.2)
                    refine ⟨_, rfl, ?_⟩
                    have n0_ := Aside0.mk (Kd.N_below (Kd.N_below HO_314000.out bu_) hb)
                    have n1_ := Aside0.mk (Kd.V_below (Kd.V_below HL327_2.out bu_) hb)
                    have n2_ := Aside0.mk (Kd.V_below (Kd.V_below HL327_5.out bu_) hb)
                    have n3_ := Aside0.mk (blk_below (bq_ BK313.out) hb)
                    have n4_ := Aside0.mk (blk_below (bq_ BK314.out) hb)
                    have n5_ := Aside0.mk (blk_below (bq_ BK315.out) hb)
                    have n6_ := Aside0.mk (Kd.C_below (Kd.C_below HR327_2.out bu_) hb)
                    have n7_ := Aside0.mk (Kd.C_below (Kd.C_below HR327_5.out bu_) hb)
                    have n8_ := Aside0.mk (below_step bl0_ hb)
                    clear HO_314000
                    clear HL327_2
                    clear HL327_5
                    clear BK313
                    clear BK314
                    clear BK315
                    clear HR327_2
                    clear HR327_5
                    clear HB
                    have HO_314000 := n0_
                    have HL327_2 := n1_
                    have HL327_5 := n2_
                    have BK313 := n3_
                    have BK314 := n4_
                    have BK315 := n5_
                    have HR327_2 := n6_
                    have HR327_5 := n7_
                    have HB := n8_
                    clear n0_ n1_ n2_ n3_ n4_ n5_ n6_ n7_ n8_
                    (try clear hb)
                    (try clear hb2)
                    (try clear hk)
                    (try clear hi)
                    refine hK.out _ _ ⟨(blk_cell BK313.out 0).trans rfl, (blk_cell BK313.out 1).trans rfl, HS2_, HS3_, HS4_, HS5_, HS6_, HS7_⟩ (fun hHeld => ?_)
                    clear hK K
                    refine norm_ (a' := ?_) ?_ ?_
                    rotate_left
                    · show Act.put _ (some 64) _ = _
                      simp only [Act.put, List.setIfInBounds_toArray, List.set_cons_zero, List.set_cons_succ, i64_w, i32_w]
                      rfl
                    refine pure_ (i := 10) (N := some 54) (v := ?_) (a' := ?_) #[true, true, true, true, true, true, true, true, true, true, true, false, false, false, false] rfl rfl (any_of HT_.out (by kernel_rfl)) (fun _ _ _ h => h) (Or.inl ⟨by rfl, ?_⟩) ?_ ?_
                    rotate_left
                    · intro w'
                      go_simp
                      with_reducible rfl
                    rotate_left
                    · simp only [Act.put, List.setIfInBounds_toArray, List.set_cons_zero, List.set_cons_succ, i64_w, i32_w]
                      rfl
                    refine pure_ (i := 11) (N := some 65) (v := ?_) (a' := ?_) #[true, true, true, true, true, true, true, true, true, true, true, true, false, false, false] rfl rfl (any_of HT_.out (by kernel_rfl)) (fun _ _ _ h => h) (Or.inl ⟨by rfl, ?_⟩) ?_ ?_
                    rotate_left
                    · intro w'
                      go_simp
                      with_reducible rfl
                    rotate_left
                    · simp only [Act.put, List.setIfInBounds_toArray, List.set_cons_zero, List.set_cons_succ, i64_w, i32_w]
                      rfl
                    refine pure_ (i := 12) (N := some 66) (v := ?_) (a' := ?_) #[true, true, true, true, true, true, true, true, true, true, true, true, true, false, false] rfl rfl (any_of HT_.out (by kernel_rfl)) (fun _ _ _ h => h) (Or.inl ⟨by rfl, ?_⟩) ?_ ?_
                    rotate_left
                    · intro w'
                      go_simp
                      with_reducible rfl
                    rotate_left
                    · simp only [Act.put, List.setIfInBounds_toArray, List.set_cons_zero, List.set_cons_succ, i64_w, i32_w]
                      rfl
                    refine pure_ (i := 13) (N := some 13) (v := ?_) (a' := ?_) #[true, true, true, true, true, true, true, true, true, true, true, true, true, true, false] rfl rfl (any_of HT_.out (by kernel_rfl)) (fun _ _ _ h => h) (Or.inl ⟨by rfl, ?_⟩) ?_ ?_
                    rotate_left
                    · intro w'
                      go_simp
                      with_reducible rfl
                    rotate_left
                    · simp only [Act.put, List.setIfInBounds_toArray, List.set_cons_zero, List.set_cons_succ, i64_w, i32_w]
                      rfl
                    refine pure_ (i := 14) (N := some 14) (v := ?_) (a' := ?_) #[true, true, true, true, true, true, true, true, true, true, true, true, true, true, true] rfl rfl (any_of HT_.out (by kernel_rfl)) (fun _ _ _ h => h) (Or.inl ⟨by rfl, ?_⟩) ?_ ?_
                    rotate_left
                    · intro w'
                      go_simp
                      with_reducible rfl
                    rotate_left
                    · simp only [Act.put, List.setIfInBounds_toArray, List.set_cons_zero, List.set_cons_succ, i64_w, i32_w]
                      rfl
                    refine done_ (done_of HT_.out (by kernel_rfl)) ?_
                    have hcz85_0 : w84.cell? ⟨gb313, 0, none⟩ = some (.slice (some ad327) t316.length co15) := (blk_cell BK313.out 0).trans rfl
                    have hcz85_1 : w84.cell? ⟨gb313, 1, none⟩ = some (.bool t319) := (blk_cell BK313.out 1).trans rfl
                    have hfz85_0 := blk_frozen BK313.out 0
                    have hfz85_1 := blk_frozen BK313.out 1
                    try go_wp2_with (first | ((with_reducible refine gate_callee (f := 7) rfl ?_); refine goesL_ (some 69) rfl rfl Tryd.func7 (by kernel_rfl) rfl #[.agg #[.slice (some ad327) t316.length co15, .bool t319], .int .i64 0] rfl mp_ ?_; (with_reducible refine (dom_TextOf.calls kj6 _ _ t316 t319 0 t330 t331 _ ?side1 ?side2 A36.out).mono ?_); (case side1 => repeat (first | exact (Kd.N_reads' HO_314000.out).2.2 | (with_reducible refine Kd.C_alloc ?_ _) | (with_reducible refine Kd.C_drewN ?_ _) | (with_reducible refine Kd.C_drew ?_))); (case side2 => exact (Kd.N_reads' HO_314000.out).2.1); rintro e w86 ⟨rfl, hb⟩; refine ⟨_, rfl, ?_⟩; have n0_ := Aside0.mk (Kd.N_below (Kd.N_below HO_314000.out bu_) hb); have n1_ := Aside0.mk (Kd.V_below (Kd.V_below HL327_2.out bu_) hb); have n2_ := Aside0.mk (Kd.V_below (Kd.V_below HL327_5.out bu_) hb); have n3_ := Aside0.mk (blk_below (bq_ BK313.out) hb); have n4_ := Aside0.mk (blk_below (bq_ BK314.out) hb); have n5_ := Aside0.mk (blk_below (bq_ BK315.out) hb); have n6_ := Aside0.mk (Kd.C_below (Kd.C_below HR327_2.out bu_) hb); have n7_ := Aside0.mk (Kd.C_below (Kd.C_below HR327_5.out bu_) hb); have n8_ := Aside0.mk (below_step bl0_ hb); clear HO_314000; clear HL327_2; clear HL327_5; clear BK313; clear BK314; clear BK315; clear HR327_2; clear HR327_5; clear HB; have HO_314000 := n0_; have HL327_2 := n1_; have HL327_5 := n2_; have BK313 := n3_; have BK314 := n4_; have BK315 := n5_; have HR327_2 := n6_; have HR327_5 := n7_; have HB := n8_; clear n0_ n1_ n2_ n3_ n4_ n5_ n6_ n7_ n8_; (try clear hb); (try clear hb2); (try clear hk); (try clear hi)) | ((with_reducible refine gate_callee (f := 6) rfl ?_); refine goesL_ (some 72) rfl rfl Tryd.func6 (by kernel_rfl) rfl #[] rfl mp_ ?_; (with_reducible refine (clerestorykeep1_spanBegun.calls kj6  true _ A37.out).mono ?_); rintro e w87 ⟨rfl, hb⟩; refine ⟨_, rfl, ?_⟩; have n0_ := Aside0.mk (Kd.N_below (Kd.N_below HO_314000.out bu_) hb); have n1_ := Aside0.mk (Kd.V_below (Kd.V_below HL327_2.out bu_) hb); have n2_ := Aside0.mk (Kd.V_below (Kd.V_below HL327_5.out bu_) hb); have n3_ := Aside0.mk (blk_below (bq_ BK313.out) hb); have n4_ := Aside0.mk (blk_below (bq_ BK314.out) hb); have n5_ := Aside0.mk (blk_below (bq_ BK315.out) hb); have n6_ := Aside0.mk (Kd.C_below (Kd.C_below HR327_2.out bu_) hb); have n7_ := Aside0.mk (Kd.C_below (Kd.C_below HR327_5.out bu_) hb); have n8_ := Aside0.mk (below_step bl0_ hb); clear HO_314000; clear HL327_2; clear HL327_5; clear BK313; clear BK314; clear BK315; clear HR327_2; clear HR327_5; clear HB; have HO_314000 := n0_; have HL327_2 := n1_; have HL327_5 := n2_; have BK313 := n3_; have BK314 := n4_; have BK315 := n5_; have HR327_2 := n6_; have HR327_5 := n7_; have HB := n8_; clear n0_ n1_ n2_ n3_ n4_ n5_ n6_ n7_ n8_; (try clear hb); (try clear hb2); (try clear hk); (try clear hi)))
                    go_ret
                    exact ⟨er_, bl0_⟩
                · rw [if_neg c40] at H
                  exact absurd H (by simp)
              · rw [if_neg c39] at H
                have c39b0 : (t326 == 0) = false := beq_eq_false_iff_ne.mpr c39
                have c39b1 : (t326 != 0) = true := bne_iff_ne.mpr c39
                obtain rfl := Option.some.inj H
                have hnb88 := NB313_314.out
                have hnc88 := NB314_313.out
                have hnb89 := NB313_315.out
                have hnc89 := NB315_313.out
                have hcz90_0 : wc.cell? ⟨gb313, 0, none⟩ = some (.slice Ao15 t316.length co15) := (blk_cell BK313.out 0).trans rfl
                have hcz90_1 : wc.cell? ⟨gb313, 1, none⟩ = some (.bool t319) := (blk_cell BK313.out 1).trans rfl
                have hfz90_0 := blk_frozen BK313.out 0
                have hfz90_1 := blk_frozen BK313.out 1
                have hnb91 := NB314_315.out
                have hnc91 := NB315_314.out
                have hcz92_0 : wc.cell? ⟨gb314, 0, none⟩ = some (.int .i64 a1_0) := (blk_cell BK314.out 0).trans rfl
                have hcz92_1 : wc.cell? ⟨gb314, 1, none⟩ = some (.int .i64 a1_1) := (blk_cell BK314.out 1).trans rfl
                have hcz92_2 : wc.cell? ⟨gb314, 2, none⟩ = some (.int .i64 a1_2) := (blk_cell BK314.out 2).trans rfl
                have hcz92_3 : wc.cell? ⟨gb314, 3, none⟩ = some (.int .i64 a1_3) := (blk_cell BK314.out 3).trans rfl
                have hfz92_0 := blk_frozen BK314.out 0
                have hfz92_1 := blk_frozen BK314.out 1
                have hfz92_2 := blk_frozen BK314.out 2
                have hfz92_3 := blk_frozen BK314.out 3
                try go_wp2_with (first | ((with_reducible refine gate_callee (f := 5) rfl ?_); refine goesL_ (some 51) rfl rfl Tryd.func5 (by kernel_rfl) rfl #[.agg #[.slice Ao15 t316.length co15, .bool t319], .agg #[.int .i64 a1_0, .int .i64 a1_1, .int .i64 a1_2, .int .i64 a1_3]] rfl mp_ ?_; (with_reducible refine (span_Text.calls kj6 _ _ t316 t319 a1_0 a1_1 a1_2 a1_3 t325 t326 _ ?side1 ?side2 A33.out).mono ?_); (case side1 => repeat (first | exact (Kd.N_reads' HO_314000.out).2.2 | (with_reducible refine Kd.C_alloc ?_ _) | (with_reducible refine Kd.C_drewN ?_ _) | (with_reducible refine Kd.C_drew ?_))); (case side2 => exact (Kd.N_reads' HO_314000.out).2.1); rintro e w93 ⟨rfl, hb⟩; refine ⟨_, rfl, ?_⟩; have n0_ := Aside0.mk (Kd.N_below (Kd.N_below HO_314000.out bu_) hb); have n1_ := Aside0.mk (blk_below (bq_ BK313.out) hb); have n2_ := Aside0.mk (blk_below (bq_ BK314.out) hb); have n3_ := Aside0.mk (blk_below (bq_ BK315.out) hb); have n4_ := Aside0.mk (below_step bl0_ hb); clear HO_314000; clear BK313; clear BK314; clear BK315; clear HB; have HO_314000 := n0_; have BK313 := n1_; have BK314 := n2_; have BK315 := n3_; have HB := n4_; clear n0_ n1_ n2_ n3_ n4_; (try clear hb); (try clear hb2); (try clear hk); (try clear hi)))
                have n0_ := Aside0.mk (Kd.N_drew HO_314000.out)
                have n1_ := Aside0.mk (blk_drew BK313.out)
                have n2_ := Aside0.mk (blk_drew BK314.out)
                have n3_ := Aside0.mk (blk_drew BK315.out)
                have n4_ := Aside0.mk (below_drew1 HB.out)
                clear HO_314000
                clear BK313
                clear BK314
                clear BK315
                clear HB
                have HO_314000 := n0_
                have BK313 := n1_
                have BK314 := n2_
                have BK315 := n3_
                have HB := n4_
                clear n0_ n1_ n2_ n3_ n4_
                have p327 : 0 ≤ (0 : Int) := (by omega)
                have q327 : 0 < (t316.length : Int) := of_decide_eq_true as_
                obtain ⟨ad327, A327_2, c327_2, A327_5, c327_5, e327, hx327_0, hx327_1, hx327_2, hx327_3, hx327_4, hx327_5, hl327_2, hi327_2, hl327_5, hi327_5⟩ := at_T37 (Kd.N_reads' HO_314000.out).2.2 0 p327 q327
                cases e327
                obtain ⟨ce327, hce327, hMe327, hcc327⟩ := Kd.N_get HO_314000.out z37 0 p327 (by first | exact q327 | exact of_decide_eq_true as_ | (have e_ := (Kd.N_reads' HO_314000.out).1; omega))
                obtain ⟨ua327_2, uc327_2, ua327_5, uc327_5, rfl, ul327_2, ge327_2, ul327_5, ge327_5⟩ := k37_openF hMe327
                have hv327_2 := hcc327 2 _ rfl
                rw [add_field _ _ 2 (by omega)] at hv327_2
                replace hv327_2 := Option.some.inj (hv327_2.symm.trans hx327_2)
                injection hv327_2 with hva_ hvn_ hvc_
                rw [hva_] at ge327_2
                rw [hvc_] at ul327_2
                have HL327_2 := Aside0.mk (show Kd.V k86 86 _ w.heap.size _ _ ((rd_T37 t316 0).f2) from Kd.V_mk ul327_2 ge327_2)
                clear hva_ hvn_ hvc_ ge327_2 ul327_2
                have hv327_5 := hcc327 5 _ rfl
                rw [add_field _ _ 5 (by omega)] at hv327_5
                replace hv327_5 := Option.some.inj (hv327_5.symm.trans hx327_5)
                injection hv327_5 with hva_ hvn_ hvc_
                rw [hva_] at ge327_5
                rw [hvc_] at ul327_5
                have HL327_5 := Aside0.mk (show Kd.V (Kd.int .i64) 3 _ w.heap.size _ _ ((rd_T37 t316 0).f5) from Kd.V_mk ul327_5 ge327_5)
                clear hva_ hvn_ hvc_ ge327_5 ul327_5
                clear hcc327 hce327
                have qi327 : (0 < t316.length) = True := eq_true (by omega)
                (try rw [show ((0 : Int)).toNat = 0 from rfl] at hx327_0)
                (try rw [show 0 * 6 = 0 from rfl] at hx327_0)
                (try rw [Addr.add_zero'] at hx327_0)
                (try rw [show ((0 : Int)).toNat = 0 from rfl] at hx327_1)
                (try rw [show 0 * 6 = 0 from rfl] at hx327_1)
                (try rw [Addr.add_zero'] at hx327_1)
                (try rw [show ((0 : Int)).toNat = 0 from rfl] at hx327_2)
                (try rw [show 0 * 6 = 0 from rfl] at hx327_2)
                (try rw [Addr.add_zero'] at hx327_2)
                (try rw [show ((0 : Int)).toNat = 0 from rfl] at hx327_3)
                (try rw [show 0 * 6 = 0 from rfl] at hx327_3)
                (try rw [Addr.add_zero'] at hx327_3)
                (try rw [show ((0 : Int)).toNat = 0 from rfl] at hx327_4)
                (try rw [show 0 * 6 = 0 from rfl] at hx327_4)
                (try rw [Addr.add_zero'] at hx327_4)
                (try rw [show ((0 : Int)).toNat = 0 from rfl] at hx327_5)
                (try rw [show 0 * 6 = 0 from rfl] at hx327_5)
                (try rw [Addr.add_zero'] at hx327_5)
                have HR327_2 := Aside0.mk hi327_2
                have HC327_2 := Aside0.mk hl327_2
                clear hi327_2 hl327_2
                have HR327_5 := Aside0.mk hi327_5
                have HC327_5 := Aside0.mk hl327_5
                clear hi327_5 hl327_5
                replace p327 := eq_true p327
                replace q327 := eq_true q327
                refine start_ (n := 15) (S := fun w' => w'.cell? ⟨gb313, 0, none⟩ = some (.slice (some ad327) t316.length co15) ∧ w'.cell? ⟨gb313, 1, none⟩ = some (.bool t319) ∧ w'.cell? ad327 = some (.int .i64 ((rd_T37 t316 0).f0)) ∧ w'.cell? ⟨ad327.block, ad327.off + 1, none⟩ = some (.string ((rd_T37 t316 0).f1)) ∧ w'.cell? ⟨ad327.block, ad327.off + 2, none⟩ = some (.slice A327_2 ((rd_T37 t316 0).f2).length c327_2) ∧ w'.cell? ⟨ad327.block, ad327.off + 3, none⟩ = some (.string ((rd_T37 t316 0).f3)) ∧ w'.cell? ⟨ad327.block, ad327.off + 4, none⟩ = some (.int .i64 ((rd_T37 t316 0).f4)) ∧ w'.cell? ⟨ad327.block, ad327.off + 5, none⟩ = some (.slice A327_5 ((rd_T37 t316 0).f5).length c327_5)) (ds := []) #[false, false, false, false, false, false, false, false, false, false, false, false, false, false, false] (by kernel_rfl) rfl rfl ⟨(blk_cell BK313.out 0).trans rfl, (blk_cell BK313.out 1).trans rfl, hx327_0, hx327_1, hx327_2, hx327_3, hx327_4, hx327_5⟩ (fun hHeld => ?_); refine with_tabW clerestorykeep1_SpanParts.tab9 clerestorykeep1_SpanParts.bits9 (fun HT_ HW_ => ?_)
                generalize w93.drew = w94 at HO_314000 BK313 BK314 BK315 HB HL327_2 HL327_5 HR327_2 HR327_5 hx327_0 hx327_1 hx327_2 hx327_3 hx327_4 hx327_5 hHeld ⊢
                refine pure_ (i := 1) (N := some 56) (v := ?_) (a' := ?_) #[false, true, false, false, false, false, false, false, false, false, false, false, false, false, false] rfl rfl (any_of HT_.out (by kernel_rfl)) (fun _ _ _ h => h) (Or.inl ⟨by rfl, ?_⟩) ?_ ?_
                rotate_left
                · intro w'
                  go_simp
                  with_reducible rfl
                rotate_left
                · simp only [Act.put, List.setIfInBounds_toArray, List.set_cons_zero, List.set_cons_succ, i64_w, i32_w]
                  rfl
                refine take_ (i := 0) (N := some 55) (v := ?_) (a' := ?_) #[true, true, false, false, false, false, false, false, false, false, false, false, false, false, false] rfl rfl (take_ofW HT_.out HW_.out (by kernel_rfl)) (fun _ _ _ h => h) (Or.inl ⟨by rfl, ?_⟩) hHeld ?_ ?_
                rotate_left
                · rintro w' ⟨s0, s1, s2, s3, s4, s5, s6, s7⟩
                  go_simp
                  with_reducible rfl
                rotate_left
                · simp only [Act.put, List.setIfInBounds_toArray, List.set_cons_zero, List.set_cons_succ, i64_w, i32_w]
                  rfl
                refine take_ (i := 2) (N := some 57) (v := ?_) (a' := ?_) #[true, true, true, false, false, false, false, false, false, false, false, false, false, false, false] rfl rfl (take_ofW HT_.out HW_.out (by kernel_rfl)) (fun _ _ _ h => h) (Or.inl ⟨by rfl, ?_⟩) hHeld ?_ ?_
                rotate_left
                · rintro w' ⟨s0, s1, s2, s3, s4, s5, s6, s7⟩
                  go_simp
                  with_reducible rfl
                rotate_left
                · simp only [Act.put, List.setIfInBounds_toArray, List.set_cons_zero, List.set_cons_succ, i64_w, i32_w]
                  rfl
                refine pure_ (i := 3) (N := some 58) (v := ?_) (a' := ?_) #[true, true, true, true, false, false, false, false, false, false, false, false, false, false, false] rfl rfl (any_of HT_.out (by kernel_rfl)) (fun _ _ _ h => h) (Or.inl ⟨by rfl, ?_⟩) ?_ ?_
                rotate_left
                · intro w'
                  go_simp
                  with_reducible rfl
                rotate_left
                · simp only [Act.put, List.setIfInBounds_toArray, List.set_cons_zero, List.set_cons_succ, i64_w, i32_w]
                  rfl
                refine pure_ (i := 4) (N := some 59) (v := ?_) (a' := ?_) #[true, true, true, true, true, false, false, false, false, false, false, false, false, false, false] rfl rfl (any_of HT_.out (by kernel_rfl)) (fun _ _ _ h => h) (Or.inl ⟨by rfl, ?_⟩) ?_ ?_
                rotate_left
                · intro w'
                  go_simp
                  with_reducible rfl
                rotate_left
                · simp only [Act.put, List.setIfInBounds_toArray, List.set_cons_zero, List.set_cons_succ, i64_w, i32_w]
                  rfl
                refine take_ (i := 5) (N := some 60) (v := ?_) (a' := ?_) #[true, true, true, true, true, true, false, false, false, false, false, false, false, false, false] rfl rfl (take_ofW HT_.out HW_.out (by kernel_rfl)) (fun _ _ _ h => h) (Or.inl ⟨by rfl, ?_⟩) hHeld ?_ ?_
                rotate_left
                · rintro w' ⟨s0, s1, s2, s3, s4, s5, s6, s7⟩
                  go_simp
                  with_reducible rfl
                rotate_left
                · simp only [Act.put, List.setIfInBounds_toArray, List.set_cons_zero, List.set_cons_succ, i64_w, i32_w]
                  rfl
                refine pure_ (i := 6) (N := some 61) (v := ?_) (a' := ?_) #[true, true, true, true, true, true, true, false, false, false, false, false, false, false, false] rfl rfl (any_of HT_.out (by kernel_rfl)) (fun _ _ _ h => h) (Or.inl ⟨by rfl, ?_⟩) ?_ ?_
                rotate_left
                · intro w'
                  go_simp
                  with_reducible rfl
                rotate_left
                · simp only [Act.put, List.setIfInBounds_toArray, List.set_cons_zero, List.set_cons_succ, i64_w, i32_w]
                  rfl
                refine pure_ (i := 7) (N := some 62) (v := ?_) (a' := ?_) #[true, true, true, true, true, true, true, true, false, false, false, false, false, false, false] rfl rfl (any_of HT_.out (by kernel_rfl)) (fun _ _ _ h => h) (Or.inl ⟨by rfl, ?_⟩) ?_ ?_
                rotate_left
                · intro w'
                  go_simp
                  with_reducible rfl
                rotate_left
                · simp only [Act.put, List.setIfInBounds_toArray, List.set_cons_zero, List.set_cons_succ, i64_w, i32_w]
                  rfl
                refine pure_ (i := 8) (N := some 63) (v := ?_) (a' := ?_) #[true, true, true, true, true, true, true, true, true, false, false, false, false, false, false] rfl rfl (any_of HT_.out (by kernel_rfl)) (fun _ _ _ h => h) (Or.inl ⟨by rfl, ?_⟩) ?_ ?_
                rotate_left
                · intro w'
                  go_simp
                  with_reducible rfl
                rotate_left
                · simp only [Act.put, List.setIfInBounds_toArray, List.set_cons_zero, List.set_cons_succ, i64_w, i32_w]
                  rfl
                refine one_ (i := 9) (N := some 64) #[true, true, true, true, true, true, true, true, true, true, false, false, false, false, false] rfl rfl (one_of HT_.out (by kernel_rfl)) (by decide) (fun K hK => ?_)
                refine goes_ Tryd.func5 (by kernel_rfl) rfl #[.agg #[.slice (some ad327) t316.length co15, .bool t319], .agg #[.int .i64 0, .int .i64 0, .int .i64 0, .int .i64 (((rd_T37 t316 0).f5).length : Int)]] (by rfl) rfl rfl mp_ ?_
                with_reducible refine (span_Text.calls kj6 _ _ t316 t319 0 0 0 (((rd_T37 t316 0).f5).length : Int) t328 t329 _ ?side1 ?side2 A35.out).mono ?_
                (case side1 => repeat (first | exact (Kd.N_reads' HO_314000.out).2.2 | (with_reducible refine Kd.C_alloc ?_ _) | (with_reducible refine Kd.C_drewN ?_ _) | (with_reducible refine Kd.C_drew ?_)))
                (case side2 => exact (Kd.N_reads' HO_314000.out).2.1)
                rintro e w95 ⟨rfl, hb⟩
                have HS2_ := (hb.cell (World.block_lt_of_cell? _ _ (hHeld.2.2.1))).trans (hHeld.2.2.1)
                have HS3_ := (hb.cell (World.block_lt_of_cell? _ _ (hHeld.2.2.2.1))).trans (hHeld.2.2.2.1)
                have HS4_ := (hb.cell (World.block_lt_of_cell? _ _ (hHeld.2.2.2.2.1))).trans (hHeld.2.2.2.2.1)
                have HS5_ := (hb.cell (World.block_lt_of_cell? _ _ (hHeld.2.2.2.2.2.1))).trans (hHeld.2.2.2.2.2.1)
                have HS6_ := (hb.cell (World.block_lt_of_cell? _ _ (hHeld.2.2.2.2.2.2.1))).trans (hHeld.2.2.2.2.2.2.1)
                have HS7_ := (hb.cell (World.block_lt_of_cell? _ _ (hHeld.2.2.2.2.2.2.2))).trans (hHeld.2.2.2.2.2.2.2)
                refine ⟨_, rfl, ?_⟩
                have n0_ := Aside0.mk (Kd.N_below (Kd.N_below HO_314000.out bu_) hb)
                have n1_ := Aside0.mk (Kd.V_below (Kd.V_below HL327_2.out bu_) hb)
                have n2_ := Aside0.mk (Kd.V_below (Kd.V_below HL327_5.out bu_) hb)
                have n3_ := Aside0.mk (blk_below (bq_ BK313.out) hb)
                have n4_ := Aside0.mk (blk_below (bq_ BK314.out) hb)
                have n5_ := Aside0.mk (blk_below (bq_ BK315.out) hb)
                have n6_ := Aside0.mk (Kd.C_below (Kd.C_below HR327_2.out bu_) hb)
                have n7_ := Aside0.mk (Kd.C_below (Kd.C_below HR327_5.out bu_) hb)
                have n8_ := Aside0.mk (below_step bl0_ hb)
                clear HO_314000
                clear HL327_2
                clear HL327_5
                clear BK313
                clear BK314
                clear BK315
                clear HR327_2
                clear HR327_5
                clear HB
                have HO_314000 := n0_
                have HL327_2 := n1_
                have HL327_5 := n2_
                have BK313 := n3_
                have BK314 := n4_
                have BK315 := n5_
                have HR327_2 := n6_
                have HR327_5 := n7_
                have HB := n8_
                clear n0_ n1_ n2_ n3_ n4_ n5_ n6_ n7_ n8_
                (try clear hb)
                (try clear hb2)
                (try clear hk)
                (try clear hi)
                refine hK.out _ _ ⟨(blk_cell BK313.out 0).trans rfl, (blk_cell BK313.out 1).trans rfl, HS2_, HS3_, HS4_, HS5_, HS6_, HS7_⟩ (fun hHeld => ?_)
                clear hK K
                refine norm_ (a' := ?_) ?_ ?_
                rotate_left
                · show Act.put _ (some 64) _ = _
                  simp only [Act.put, List.setIfInBounds_toArray, List.set_cons_zero, List.set_cons_succ, i64_w, i32_w]
                  rfl
                refine pure_ (i := 10) (N := some 54) (v := ?_) (a' := ?_) #[true, true, true, true, true, true, true, true, true, true, true, false, false, false, false] rfl rfl (any_of HT_.out (by kernel_rfl)) (fun _ _ _ h => h) (Or.inl ⟨by rfl, ?_⟩) ?_ ?_
                rotate_left
                · intro w'
                  go_simp
                  with_reducible rfl
                rotate_left
                · simp only [Act.put, List.setIfInBounds_toArray, List.set_cons_zero, List.set_cons_succ, i64_w, i32_w]
                  rfl
                refine pure_ (i := 11) (N := some 65) (v := ?_) (a' := ?_) #[true, true, true, true, true, true, true, true, true, true, true, true, false, false, false] rfl rfl (any_of HT_.out (by kernel_rfl)) (fun _ _ _ h => h) (Or.inl ⟨by rfl, ?_⟩) ?_ ?_
                rotate_left
                · intro w'
                  go_simp
                  with_reducible rfl
                rotate_left
                · simp only [Act.put, List.setIfInBounds_toArray, List.set_cons_zero, List.set_cons_succ, i64_w, i32_w]
                  rfl
                refine pure_ (i := 12) (N := some 66) (v := ?_) (a' := ?_) #[true, true, true, true, true, true, true, true, true, true, true, true, true, false, false] rfl rfl (any_of HT_.out (by kernel_rfl)) (fun _ _ _ h => h) (Or.inl ⟨by rfl, ?_⟩) ?_ ?_
                rotate_left
                · intro w'
                  go_simp
                  with_reducible rfl
                rotate_left
                · simp only [Act.put, List.setIfInBounds_toArray, List.set_cons_zero, List.set_cons_succ, i64_w, i32_w]
                  rfl
                refine pure_ (i := 13) (N := some 13) (v := ?_) (a' := ?_) #[true, true, true, true, true, true, true, true, true, true, true, true, true, true, false] rfl rfl (any_of HT_.out (by kernel_rfl)) (fun _ _ _ h => h) (Or.inl ⟨by rfl, ?_⟩) ?_ ?_
                rotate_left
                · intro w'
                  go_simp
                  with_reducible rfl
                rotate_left
                · simp only [Act.put, List.setIfInBounds_toArray, List.set_cons_zero, List.set_cons_succ, i64_w, i32_w]
                  rfl
                refine pure_ (i := 14) (N := some 14) (v := ?_) (a' := ?_) #[true, true, true, true, true, true, true, true, true, true, true, true, true, true, true] rfl rfl (any_of HT_.out (by kernel_rfl)) (fun _ _ _ h => h) (Or.inl ⟨by rfl, ?_⟩) ?_ ?_
                rotate_left
                · intro w'
                  go_simp
                  with_reducible rfl
                rotate_left
                · simp only [Act.put, List.setIfInBounds_toArray, List.set_cons_zero, List.set_cons_succ, i64_w, i32_w]
                  rfl
                refine done_ (done_of HT_.out (by kernel_rfl)) ?_
                have hcz96_0 : w95.cell? ⟨gb313, 0, none⟩ = some (.slice (some ad327) t316.length co15) := (blk_cell BK313.out 0).trans rfl
                have hcz96_1 : w95.cell? ⟨gb313, 1, none⟩ = some (.bool t319) := (blk_cell BK313.out 1).trans rfl
                have hfz96_0 := blk_frozen BK313.out 0
                have hfz96_1 := blk_frozen BK313.out 1
                try go_wp2_with (first | ((with_reducible refine gate_callee (f := 7) rfl ?_); refine goesL_ (some 69) rfl rfl Tryd.func7 (by kernel_rfl) rfl #[.agg #[.slice (some ad327) t316.length co15, .bool t319], .int .i64 0] rfl mp_ ?_; (with_reducible refine (dom_TextOf.calls kj6 _ _ t316 t319 0 t330 t331 _ ?side1 ?side2 A36.out).mono ?_); (case side1 => repeat (first | exact (Kd.N_reads' HO_314000.out).2.2 | (with_reducible refine Kd.C_alloc ?_ _) | (with_reducible refine Kd.C_drewN ?_ _) | (with_reducible refine Kd.C_drew ?_))); (case side2 => exact (Kd.N_reads' HO_314000.out).2.1); rintro e w97 ⟨rfl, hb⟩; refine ⟨_, rfl, ?_⟩; have n0_ := Aside0.mk (Kd.N_below (Kd.N_below HO_314000.out bu_) hb); have n1_ := Aside0.mk (Kd.V_below (Kd.V_below HL327_2.out bu_) hb); have n2_ := Aside0.mk (Kd.V_below (Kd.V_below HL327_5.out bu_) hb); have n3_ := Aside0.mk (blk_below (bq_ BK313.out) hb); have n4_ := Aside0.mk (blk_below (bq_ BK314.out) hb); have n5_ := Aside0.mk (blk_below (bq_ BK315.out) hb); have n6_ := Aside0.mk (Kd.C_below (Kd.C_below HR327_2.out bu_) hb); have n7_ := Aside0.mk (Kd.C_below (Kd.C_below HR327_5.out bu_) hb); have n8_ := Aside0.mk (below_step bl0_ hb); clear HO_314000; clear HL327_2; clear HL327_5; clear BK313; clear BK314; clear BK315; clear HR327_2; clear HR327_5; clear HB; have HO_314000 := n0_; have HL327_2 := n1_; have HL327_5 := n2_; have BK313 := n3_; have BK314 := n4_; have BK315 := n5_; have HR327_2 := n6_; have HR327_5 := n7_; have HB := n8_; clear n0_ n1_ n2_ n3_ n4_ n5_ n6_ n7_ n8_; (try clear hb); (try clear hb2); (try clear hk); (try clear hi)) | ((with_reducible refine gate_callee (f := 6) rfl ?_); refine goesL_ (some 72) rfl rfl Tryd.func6 (by kernel_rfl) rfl #[] rfl mp_ ?_; (with_reducible refine (clerestorykeep1_spanBegun.calls kj6  true _ A37.out).mono ?_); rintro e w98 ⟨rfl, hb⟩; refine ⟨_, rfl, ?_⟩; have n0_ := Aside0.mk (Kd.N_below (Kd.N_below HO_314000.out bu_) hb); have n1_ := Aside0.mk (Kd.V_below (Kd.V_below HL327_2.out bu_) hb); have n2_ := Aside0.mk (Kd.V_below (Kd.V_below HL327_5.out bu_) hb); have n3_ := Aside0.mk (blk_below (bq_ BK313.out) hb); have n4_ := Aside0.mk (blk_below (bq_ BK314.out) hb); have n5_ := Aside0.mk (blk_below (bq_ BK315.out) hb); have n6_ := Aside0.mk (Kd.C_below (Kd.C_below HR327_2.out bu_) hb); have n7_ := Aside0.mk (Kd.C_below (Kd.C_below HR327_5.out bu_) hb); have n8_ := Aside0.mk (below_step bl0_ hb); clear HO_314000; clear HL327_2; clear HL327_5; clear BK313; clear BK314; clear BK315; clear HR327_2; clear HR327_5; clear HB; have HO_314000 := n0_; have HL327_2 := n1_; have HL327_5 := n2_; have BK313 := n3_; have BK314 := n4_; have BK315 := n5_; have HR327_2 := n6_; have HR327_5 := n7_; have HB := n8_; clear n0_ n1_ n2_ n3_ n4_ n5_ n6_ n7_ n8_; (try clear hb); (try clear hb2); (try clear hk); (try clear hi)))
                go_ret
                exact ⟨er_, bl0_⟩
            · replace c38 := Bool.eq_false_iff.mpr c38
              subst c38
              have H1 : (some false) = some r := by rw [if_neg (show ¬ (false = true) by decide)] at H; exact H
              clear H
              have H := H1
              clear H1
              obtain rfl := Option.some.inj H
              have hnb99 := NB313_314.out
              have hnc99 := NB314_313.out
              have hnb100 := NB313_315.out
              have hnc100 := NB315_313.out
              have hcz101_0 : wc.cell? ⟨gb313, 0, none⟩ = some (.slice Ao15 t316.length co15) := (blk_cell BK313.out 0).trans rfl
              have hcz101_1 : wc.cell? ⟨gb313, 1, none⟩ = some (.bool t319) := (blk_cell BK313.out 1).trans rfl
              have hfz101_0 := blk_frozen BK313.out 0
              have hfz101_1 := blk_frozen BK313.out 1
              have hnb102 := NB314_315.out
              have hnc102 := NB315_314.out
              have hcz103_0 : wc.cell? ⟨gb314, 0, none⟩ = some (.int .i64 a1_0) := (blk_cell BK314.out 0).trans rfl
              have hcz103_1 : wc.cell? ⟨gb314, 1, none⟩ = some (.int .i64 a1_1) := (blk_cell BK314.out 1).trans rfl
              have hcz103_2 : wc.cell? ⟨gb314, 2, none⟩ = some (.int .i64 a1_2) := (blk_cell BK314.out 2).trans rfl
              have hcz103_3 : wc.cell? ⟨gb314, 3, none⟩ = some (.int .i64 a1_3) := (blk_cell BK314.out 3).trans rfl
              have hfz103_0 := blk_frozen BK314.out 0
              have hfz103_1 := blk_frozen BK314.out 1
              have hfz103_2 := blk_frozen BK314.out 2
              have hfz103_3 := blk_frozen BK314.out 3
              try go_wp2_with (first | ((with_reducible refine gate_callee (f := 5) rfl ?_); refine goesL_ (some 51) rfl rfl Tryd.func5 (by kernel_rfl) rfl #[.agg #[.slice Ao15 t316.length co15, .bool t319], .agg #[.int .i64 a1_0, .int .i64 a1_1, .int .i64 a1_2, .int .i64 a1_3]] rfl mp_ ?_; (with_reducible refine (span_Text.calls kj6 _ _ t316 t319 a1_0 a1_1 a1_2 a1_3 t325 t326 _ ?side1 ?side2 A33.out).mono ?_); (case side1 => repeat (first | exact (Kd.N_reads' HO_314000.out).2.2 | (with_reducible refine Kd.C_alloc ?_ _) | (with_reducible refine Kd.C_drewN ?_ _) | (with_reducible refine Kd.C_drew ?_))); (case side2 => exact (Kd.N_reads' HO_314000.out).2.1); rintro e w104 ⟨rfl, hb⟩; refine ⟨_, rfl, ?_⟩; have n0_ := Aside0.mk (Kd.N_below (Kd.N_below HO_314000.out bu_) hb); have n1_ := Aside0.mk (blk_below (bq_ BK313.out) hb); have n2_ := Aside0.mk (blk_below (bq_ BK314.out) hb); have n3_ := Aside0.mk (blk_below (bq_ BK315.out) hb); have n4_ := Aside0.mk (below_step bl0_ hb); clear HO_314000; clear BK313; clear BK314; clear BK315; clear HB; have HO_314000 := n0_; have BK313 := n1_; have BK314 := n2_; have BK315 := n3_; have HB := n4_; clear n0_ n1_ n2_ n3_ n4_; (try clear hb); (try clear hb2); (try clear hk); (try clear hi)))
              have n0_ := Aside0.mk (Kd.N_drew HO_314000.out)
              have n1_ := Aside0.mk (blk_drew BK313.out)
              have n2_ := Aside0.mk (blk_drew BK314.out)
              have n3_ := Aside0.mk (blk_drew BK315.out)
              have n4_ := Aside0.mk (below_drew1 HB.out)
              clear HO_314000
              clear BK313
              clear BK314
              clear BK315
              clear HB
              have HO_314000 := n0_
              have BK313 := n1_
              have BK314 := n2_
              have BK315 := n3_
              have HB := n4_
              clear n0_ n1_ n2_ n3_ n4_
              have p327 : 0 ≤ (0 : Int) := (by omega)
              have q327 : 0 < (t316.length : Int) := of_decide_eq_true as_
              obtain ⟨ad327, A327_2, c327_2, A327_5, c327_5, e327, hx327_0, hx327_1, hx327_2, hx327_3, hx327_4, hx327_5, hl327_2, hi327_2, hl327_5, hi327_5⟩ := at_T37 (Kd.N_reads' HO_314000.out).2.2 0 p327 q327
              cases e327
              obtain ⟨ce327, hce327, hMe327, hcc327⟩ := Kd.N_get HO_314000.out z37 0 p327 (by first | exact q327 | exact of_decide_eq_true as_ | (have e_ := (Kd.N_reads' HO_314000.out).1; omega))
              obtain ⟨ua327_2, uc327_2, ua327_5, uc327_5, rfl, ul327_2, ge327_2, ul327_5, ge327_5⟩ := k37_openF hMe327
              have hv327_2 := hcc327 2 _ rfl
              rw [add_field _ _ 2 (by omega)] at hv327_2
              replace hv327_2 := Option.some.inj (hv327_2.symm.trans hx327_2)
              injection hv327_2 with hva_ hvn_ hvc_
              rw [hva_] at ge327_2
              rw [hvc_] at ul327_2
              have HL327_2 := Aside0.mk (show Kd.V k86 86 _ w.heap.size _ _ ((rd_T37 t316 0).f2) from Kd.V_mk ul327_2 ge327_2)
              clear hva_ hvn_ hvc_ ge327_2 ul327_2
              have hv327_5 := hcc327 5 _ rfl
              rw [add_field _ _ 5 (by omega)] at hv327_5
              replace hv327_5 := Option.some.inj (hv327_5.symm.trans hx327_5)
              injection hv327_5 with hva_ hvn_ hvc_
              rw [hva_] at ge327_5
              rw [hvc_] at ul327_5
              have HL327_5 := Aside0.mk (show Kd.V (Kd.int .i64) 3 _ w.heap.size _ _ ((rd_T37 t316 0).f5) from Kd.V_mk ul327_5 ge327_5)
              clear hva_ hvn_ hvc_ ge327_5 ul327_5
              clear hcc327 hce327
              have qi327 : (0 < t316.length) = True := eq_true (by omega)
              (try rw [show ((0 : Int)).toNat = 0 from rfl] at hx327_0)
              (try rw [show 0 * 6 = 0 from rfl] at hx327_0)
              (try rw [Addr.add_zero'] at hx327_0)
              (try rw [show ((0 : Int)).toNat = 0 from rfl] at hx327_1)
              (try rw [show 0 * 6 = 0 from rfl] at hx327_1)
              (try rw [Addr.add_zero'] at hx327_1)
              (try rw [show ((0 : Int)).toNat = 0 from rfl] at hx327_2)
              (try rw [show 0 * 6 = 0 from rfl] at hx327_2)
              (try rw [Addr.add_zero'] at hx327_2)
              (try rw [show ((0 : Int)).toNat = 0 from rfl] at hx327_3)
              (try rw [show 0 * 6 = 0 from rfl] at hx327_3)
              (try rw [Addr.add_zero'] at hx327_3)
              (try rw [show ((0 : Int)).toNat = 0 from rfl] at hx327_4)
              (try rw [show 0 * 6 = 0 from rfl] at hx327_4)
              (try rw [Addr.add_zero'] at hx327_4)
              (try rw [show ((0 : Int)).toNat = 0 from rfl] at hx327_5)
              (try rw [show 0 * 6 = 0 from rfl] at hx327_5)
              (try rw [Addr.add_zero'] at hx327_5)
              have HR327_2 := Aside0.mk hi327_2
              have HC327_2 := Aside0.mk hl327_2
              clear hi327_2 hl327_2
              have HR327_5 := Aside0.mk hi327_5
              have HC327_5 := Aside0.mk hl327_5
              clear hi327_5 hl327_5
              replace p327 := eq_true p327
              replace q327 := eq_true q327
              refine start_ (n := 15) (S := fun w' => w'.cell? ⟨gb313, 0, none⟩ = some (.slice (some ad327) t316.length co15) ∧ w'.cell? ⟨gb313, 1, none⟩ = some (.bool t319) ∧ w'.cell? ad327 = some (.int .i64 ((rd_T37 t316 0).f0)) ∧ w'.cell? ⟨ad327.block, ad327.off + 1, none⟩ = some (.string ((rd_T37 t316 0).f1)) ∧ w'.cell? ⟨ad327.block, ad327.off + 2, none⟩ = some (.slice A327_2 ((rd_T37 t316 0).f2).length c327_2) ∧ w'.cell? ⟨ad327.block, ad327.off + 3, none⟩ = some (.string ((rd_T37 t316 0).f3)) ∧ w'.cell? ⟨ad327.block, ad327.off + 4, none⟩ = some (.int .i64 ((rd_T37 t316 0).f4)) ∧ w'.cell? ⟨ad327.block, ad327.off + 5, none⟩ = some (.slice A327_5 ((rd_T37 t316 0).f5).length c327_5)) (ds := []) #[false, false, false, false, false, false, false, false, false, false, false, false, false, false, false] (by kernel_rfl) rfl rfl ⟨(blk_cell BK313.out 0).trans rfl, (blk_cell BK313.out 1).trans rfl, hx327_0, hx327_1, hx327_2, hx327_3, hx327_4, hx327_5⟩ (fun hHeld => ?_); refine with_tabW clerestorykeep1_SpanParts.tab9 clerestorykeep1_SpanParts.bits9 (fun HT_ HW_ => ?_)
              generalize w104.drew = w105 at HO_314000 BK313 BK314 BK315 HB HL327_2 HL327_5 HR327_2 HR327_5 hx327_0 hx327_1 hx327_2 hx327_3 hx327_4 hx327_5 hHeld ⊢
              refine pure_ (i := 1) (N := some 56) (v := ?_) (a' := ?_) #[false, true, false, false, false, false, false, false, false, false, false, false, false, false, false] rfl rfl (any_of HT_.out (by kernel_rfl)) (fun _ _ _ h => h) (Or.inl ⟨by rfl, ?_⟩) ?_ ?_
              rotate_left
              · intro w'
                go_simp
                with_reducible rfl
              rotate_left
              · simp only [Act.put, List.setIfInBounds_toArray, List.set_cons_zero, List.set_cons_succ, i64_w, i32_w]
                rfl
              refine take_ (i := 0) (N := some 55) (v := ?_) (a' := ?_) #[true, true, false, false, false, false, false, false, false, false, false, false, false, false, false] rfl rfl (take_ofW HT_.out HW_.out (by kernel_rfl)) (fun _ _ _ h => h) (Or.inl ⟨by rfl, ?_⟩) hHeld ?_ ?_
              rotate_left
              · rintro w' ⟨s0, s1, s2, s3, s4, s5, s6, s7⟩
                go_simp
                with_reducible rfl
              rotate_left
              · simp only [Act.put, List.setIfInBounds_toArray, List.set_cons_zero, List.set_cons_succ, i64_w, i32_w]
                rfl
              refine take_ (i := 2) (N := some 57) (v := ?_) (a' := ?_) #[true, true, true, false, false, false, false, false, false, false, false, false, false, false, false] rfl rfl (take_ofW HT_.out HW_.out (by kernel_rfl)) (fun _ _ _ h => h) (Or.inl ⟨by rfl, ?_⟩) hHeld ?_ ?_
              rotate_left
              · rintro w' ⟨s0, s1, s2, s3, s4, s5, s6, s7⟩
                go_simp
                with_reducible rfl
              rotate_left
              · simp only [Act.put, List.setIfInBounds_toArray, List.set_cons_zero, List.set_cons_succ, i64_w, i32_w]
                rfl
              refine pure_ (i := 3) (N := some 58) (v := ?_) (a' := ?_) #[true, true, true, true, false, false, false, false, false, false, false, false, false, false, false] rfl rfl (any_of HT_.out (by kernel_rfl)) (fun _ _ _ h => h) (Or.inl ⟨by rfl, ?_⟩) ?_ ?_
              rotate_left
              · intro w'
                go_simp
                with_reducible rfl
              rotate_left
              · simp only [Act.put, List.setIfInBounds_toArray, List.set_cons_zero, List.set_cons_succ, i64_w, i32_w]
                rfl
              refine pure_ (i := 4) (N := some 59) (v := ?_) (a' := ?_) #[true, true, true, true, true, false, false, false, false, false, false, false, false, false, false] rfl rfl (any_of HT_.out (by kernel_rfl)) (fun _ _ _ h => h) (Or.inl ⟨by rfl, ?_⟩) ?_ ?_
              rotate_left
              · intro w'
                go_simp
                with_reducible rfl
              rotate_left
              · simp only [Act.put, List.setIfInBounds_toArray, List.set_cons_zero, List.set_cons_succ, i64_w, i32_w]
                rfl
              refine take_ (i := 5) (N := some 60) (v := ?_) (a' := ?_) #[true, true, true, true, true, true, false, false, false, false, false, false, false, false, false] rfl rfl (take_ofW HT_.out HW_.out (by kernel_rfl)) (fun _ _ _ h => h) (Or.inl ⟨by rfl, ?_⟩) hHeld ?_ ?_
              rotate_left
              · rintro w' ⟨s0, s1, s2, s3, s4, s5, s6, s7⟩
                go_simp
                with_reducible rfl
              rotate_left
              · simp only [Act.put, List.setIfInBounds_toArray, List.set_cons_zero, List.set_cons_succ, i64_w, i32_w]
                rfl
              refine pure_ (i := 6) (N := some 61) (v := ?_) (a' := ?_) #[true, true, true, true, true, true, true, false, false, false, false, false, false, false, false] rfl rfl (any_of HT_.out (by kernel_rfl)) (fun _ _ _ h => h) (Or.inl ⟨by rfl, ?_⟩) ?_ ?_
              rotate_left
              · intro w'
                go_simp
                with_reducible rfl
              rotate_left
              · simp only [Act.put, List.setIfInBounds_toArray, List.set_cons_zero, List.set_cons_succ, i64_w, i32_w]
                rfl
              refine pure_ (i := 7) (N := some 62) (v := ?_) (a' := ?_) #[true, true, true, true, true, true, true, true, false, false, false, false, false, false, false] rfl rfl (any_of HT_.out (by kernel_rfl)) (fun _ _ _ h => h) (Or.inl ⟨by rfl, ?_⟩) ?_ ?_
              rotate_left
              · intro w'
                go_simp
                with_reducible rfl
              rotate_left
              · simp only [Act.put, List.setIfInBounds_toArray, List.set_cons_zero, List.set_cons_succ, i64_w, i32_w]
                rfl
              refine pure_ (i := 8) (N := some 63) (v := ?_) (a' := ?_) #[true, true, true, true, true, true, true, true, true, false, false, false, false, false, false] rfl rfl (any_of HT_.out (by kernel_rfl)) (fun _ _ _ h => h) (Or.inl ⟨by rfl, ?_⟩) ?_ ?_
              rotate_left
              · intro w'
                go_simp
                with_reducible rfl
              rotate_left
              · simp only [Act.put, List.setIfInBounds_toArray, List.set_cons_zero, List.set_cons_succ, i64_w, i32_w]
                rfl
              refine one_ (i := 9) (N := some 64) #[true, true, true, true, true, true, true, true, true, true, false, false, false, false, false] rfl rfl (one_of HT_.out (by kernel_rfl)) (by decide) (fun K hK => ?_)
              refine goes_ Tryd.func5 (by kernel_rfl) rfl #[.agg #[.slice (some ad327) t316.length co15, .bool t319], .agg #[.int .i64 0, .int .i64 0, .int .i64 0, .int .i64 (((rd_T37 t316 0).f5).length : Int)]] (by rfl) rfl rfl mp_ ?_
              with_reducible refine (span_Text.calls kj6 _ _ t316 t319 0 0 0 (((rd_T37 t316 0).f5).length : Int) t328 t329 _ ?side1 ?side2 A35.out).mono ?_
              (case side1 => repeat (first | exact (Kd.N_reads' HO_314000.out).2.2 | (with_reducible refine Kd.C_alloc ?_ _) | (with_reducible refine Kd.C_drewN ?_ _) | (with_reducible refine Kd.C_drew ?_)))
              (case side2 => exact (Kd.N_reads' HO_314000.out).2.1)
              rintro e w106 ⟨rfl, hb⟩
              have HS2_ := (hb.cell (World.block_lt_of_cell? _ _ (hHeld.2.2.1))).trans (hHeld.2.2.1)
              have HS3_ := (hb.cell (World.block_lt_of_cell? _ _ (hHeld.2.2.2.1))).trans (hHeld.2.2.2.1)
              have HS4_ := (hb.cell (World.block_lt_of_cell? _ _ (hHeld.2.2.2.2.1))).trans (hHeld.2.2.2.2.1)
              have HS5_ := (hb.cell (World.block_lt_of_cell? _ _ (hHeld.2.2.2.2.2.1))).trans (hHeld.2.2.2.2.2.1)
              have HS6_ := (hb.cell (World.block_lt_of_cell? _ _ (hHeld.2.2.2.2.2.2.1))).trans (hHeld.2.2.2.2.2.2.1)
              have HS7_ := (hb.cell (World.block_lt_of_cell? _ _ (hHeld.2.2.2.2.2.2.2))).trans (hHeld.2.2.2.2.2.2.2)
              refine ⟨_, rfl, ?_⟩
              have n0_ := Aside0.mk (Kd.N_below (Kd.N_below HO_314000.out bu_) hb)
              have n1_ := Aside0.mk (Kd.V_below (Kd.V_below HL327_2.out bu_) hb)
              have n2_ := Aside0.mk (Kd.V_below (Kd.V_below HL327_5.out bu_) hb)
              have n3_ := Aside0.mk (blk_below (bq_ BK313.out) hb)
              have n4_ := Aside0.mk (blk_below (bq_ BK314.out) hb)
              have n5_ := Aside0.mk (blk_below (bq_ BK315.out) hb)
              have n6_ := Aside0.mk (Kd.C_below (Kd.C_below HR327_2.out bu_) hb)
              have n7_ := Aside0.mk (Kd.C_below (Kd.C_below HR327_5.out bu_) hb)
              have n8_ := Aside0.mk (below_step bl0_ hb)
              clear HO_314000
              clear HL327_2
              clear HL327_5
              clear BK313
              clear BK314
              clear BK315
              clear HR327_2
              clear HR327_5
              clear HB
              have HO_314000 := n0_
              have HL327_2 := n1_
              have HL327_5 := n2_
              have BK313 := n3_
              have BK314 := n4_
              have BK315 := n5_
              have HR327_2 := n6_
              have HR327_5 := n7_
              have HB := n8_
              clear n0_ n1_ n2_ n3_ n4_ n5_ n6_ n7_ n8_
              (try clear hb)
              (try clear hb2)
              (try clear hk)
              (try clear hi)
              refine hK.out _ _ ⟨(blk_cell BK313.out 0).trans rfl, (blk_cell BK313.out 1).trans rfl, HS2_, HS3_, HS4_, HS5_, HS6_, HS7_⟩ (fun hHeld => ?_)
              clear hK K
              refine norm_ (a' := ?_) ?_ ?_
              rotate_left
              · show Act.put _ (some 64) _ = _
                simp only [Act.put, List.setIfInBounds_toArray, List.set_cons_zero, List.set_cons_succ, i64_w, i32_w]
                rfl
              refine pure_ (i := 10) (N := some 54) (v := ?_) (a' := ?_) #[true, true, true, true, true, true, true, true, true, true, true, false, false, false, false] rfl rfl (any_of HT_.out (by kernel_rfl)) (fun _ _ _ h => h) (Or.inl ⟨by rfl, ?_⟩) ?_ ?_
              rotate_left
              · intro w'
                go_simp
                with_reducible rfl
              rotate_left
              · simp only [Act.put, List.setIfInBounds_toArray, List.set_cons_zero, List.set_cons_succ, i64_w, i32_w]
                rfl
              refine pure_ (i := 11) (N := some 65) (v := ?_) (a' := ?_) #[true, true, true, true, true, true, true, true, true, true, true, true, false, false, false] rfl rfl (any_of HT_.out (by kernel_rfl)) (fun _ _ _ h => h) (Or.inl ⟨by rfl, ?_⟩) ?_ ?_
              rotate_left
              · intro w'
                go_simp
                with_reducible rfl
              rotate_left
              · simp only [Act.put, List.setIfInBounds_toArray, List.set_cons_zero, List.set_cons_succ, i64_w, i32_w]
                rfl
              refine pure_ (i := 12) (N := some 66) (v := ?_) (a' := ?_) #[true, true, true, true, true, true, true, true, true, true, true, true, true, false, false] rfl rfl (any_of HT_.out (by kernel_rfl)) (fun _ _ _ h => h) (Or.inl ⟨by rfl, ?_⟩) ?_ ?_
              rotate_left
              · intro w'
                go_simp
                with_reducible rfl
              rotate_left
              · simp only [Act.put, List.setIfInBounds_toArray, List.set_cons_zero, List.set_cons_succ, i64_w, i32_w]
                rfl
              refine pure_ (i := 13) (N := some 13) (v := ?_) (a' := ?_) #[true, true, true, true, true, true, true, true, true, true, true, true, true, true, false] rfl rfl (any_of HT_.out (by kernel_rfl)) (fun _ _ _ h => h) (Or.inl ⟨by rfl, ?_⟩) ?_ ?_
              rotate_left
              · intro w'
                go_simp
                with_reducible rfl
              rotate_left
              · simp only [Act.put, List.setIfInBounds_toArray, List.set_cons_zero, List.set_cons_succ, i64_w, i32_w]
                rfl
              refine pure_ (i := 14) (N := some 14) (v := ?_) (a' := ?_) #[true, true, true, true, true, true, true, true, true, true, true, true, true, true, true] rfl rfl (any_of HT_.out (by kernel_rfl)) (fun _ _ _ h => h) (Or.inl ⟨by rfl, ?_⟩) ?_ ?_
              rotate_left
              · intro w'
                go_simp
                with_reducible rfl
              rotate_left
              · simp only [Act.put, List.setIfInBounds_toArray, List.set_cons_zero, List.set_cons_succ, i64_w, i32_w]
                rfl
              refine done_ (done_of HT_.out (by kernel_rfl)) ?_
              have hcz107_0 : w106.cell? ⟨gb313, 0, none⟩ = some (.slice (some ad327) t316.length co15) := (blk_cell BK313.out 0).trans rfl
              have hcz107_1 : w106.cell? ⟨gb313, 1, none⟩ = some (.bool t319) := (blk_cell BK313.out 1).trans rfl
              have hfz107_0 := blk_frozen BK313.out 0
              have hfz107_1 := blk_frozen BK313.out 1
              try go_wp2_with (first | ((with_reducible refine gate_callee (f := 7) rfl ?_); refine goesL_ (some 69) rfl rfl Tryd.func7 (by kernel_rfl) rfl #[.agg #[.slice (some ad327) t316.length co15, .bool t319], .int .i64 0] rfl mp_ ?_; (with_reducible refine (dom_TextOf.calls kj6 _ _ t316 t319 0 t330 t331 _ ?side1 ?side2 A36.out).mono ?_); (case side1 => repeat (first | exact (Kd.N_reads' HO_314000.out).2.2 | (with_reducible refine Kd.C_alloc ?_ _) | (with_reducible refine Kd.C_drewN ?_ _) | (with_reducible refine Kd.C_drew ?_))); (case side2 => exact (Kd.N_reads' HO_314000.out).2.1); rintro e w108 ⟨rfl, hb⟩; refine ⟨_, rfl, ?_⟩; have n0_ := Aside0.mk (Kd.N_below (Kd.N_below HO_314000.out bu_) hb); have n1_ := Aside0.mk (Kd.V_below (Kd.V_below HL327_2.out bu_) hb); have n2_ := Aside0.mk (Kd.V_below (Kd.V_below HL327_5.out bu_) hb); have n3_ := Aside0.mk (blk_below (bq_ BK313.out) hb); have n4_ := Aside0.mk (blk_below (bq_ BK314.out) hb); have n5_ := Aside0.mk (blk_below (bq_ BK315.out) hb); have n6_ := Aside0.mk (Kd.C_below (Kd.C_below HR327_2.out bu_) hb); have n7_ := Aside0.mk (Kd.C_below (Kd.C_below HR327_5.out bu_) hb); have n8_ := Aside0.mk (below_step bl0_ hb); clear HO_314000; clear HL327_2; clear HL327_5; clear BK313; clear BK314; clear BK315; clear HR327_2; clear HR327_5; clear HB; have HO_314000 := n0_; have HL327_2 := n1_; have HL327_5 := n2_; have BK313 := n3_; have BK314 := n4_; have BK315 := n5_; have HR327_2 := n6_; have HR327_5 := n7_; have HB := n8_; clear n0_ n1_ n2_ n3_ n4_ n5_ n6_ n7_ n8_; (try clear hb); (try clear hb2); (try clear hk); (try clear hi)) | ((with_reducible refine gate_callee (f := 6) rfl ?_); refine goesL_ (some 72) rfl rfl Tryd.func6 (by kernel_rfl) rfl #[] rfl mp_ ?_; (with_reducible refine (clerestorykeep1_spanBegun.calls kj6  false _ A37.out).mono ?_); rintro e w109 ⟨rfl, hb⟩; refine ⟨_, rfl, ?_⟩; have n0_ := Aside0.mk (Kd.N_below (Kd.N_below HO_314000.out bu_) hb); have n1_ := Aside0.mk (Kd.V_below (Kd.V_below HL327_2.out bu_) hb); have n2_ := Aside0.mk (Kd.V_below (Kd.V_below HL327_5.out bu_) hb); have n3_ := Aside0.mk (blk_below (bq_ BK313.out) hb); have n4_ := Aside0.mk (blk_below (bq_ BK314.out) hb); have n5_ := Aside0.mk (blk_below (bq_ BK315.out) hb); have n6_ := Aside0.mk (Kd.C_below (Kd.C_below HR327_2.out bu_) hb); have n7_ := Aside0.mk (Kd.C_below (Kd.C_below HR327_5.out bu_) hb); have n8_ := Aside0.mk (below_step bl0_ hb); clear HO_314000; clear HL327_2; clear HL327_5; clear BK313; clear BK314; clear BK315; clear HR327_2; clear HR327_5; clear HB; have HO_314000 := n0_; have HL327_2 := n1_; have HL327_5 := n2_; have BK313 := n3_; have BK314 := n4_; have BK315 := n5_; have HR327_2 := n6_; have HR327_5 := n7_; have HB := n8_; clear n0_ n1_ n2_ n3_ n4_ n5_ n6_ n7_ n8_; (try clear hb); (try clear hb2); (try clear hk); (try clear hi)))
              go_ret
              exact ⟨er_, bl0_⟩
          · rw [if_neg c34] at H
            exact absurd H (by simp)

end Go.Proofs.YthggdgnpphjpkaaDoor.PSP
