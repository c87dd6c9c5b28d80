-- printed by wip/tools/pr.py (own) through the kit's printer; texts GIVEN by hand stand among them
import Derived.Test.YthggdgnpphjpkaaDoorPSPx0
import Derived.Test.YthggdgnpphjpkaaDoorPSPx5
import Derived.Test.YthggdgnpphjpkaaDoorPSPx8
import Derived.Test.YthggdgnpphjpkaaDoorPSPx9
import Derived.Test.YthggdgnpphjpkaaDoorPSPx10
namespace Go.Proofs.YthggdgnpphjpkaaDoor.PSP
open Go.RowKit Go.Proofs.YthggdgnpphjpkaaDoorW.PrintWords Go.Proofs.YthggdgnpphjpkaaDoorW.PrintLast Go.Proofs.YthggdgnpphjpkaaDoorW.PrintMore
attribute [local go_sem] max2_int min2_int max_two min_two max_three min_three max_four min_four   -- for this text's walks alone
set_option linter.unusedVariables false
set_option linter.unusedSimpArgs false

/-! ### span_After: function 14 -/
def span_After.j0 : Nat → Int → Int → Int → Int → Int → ByteArray → ByteArray → Int → ByteArray → List (S86) → ByteArray → Int → List Int → Int → Int → Int → Int → List (S37) → Bool → Option (Int × Int × Int × Int × Int)
  | 0, _, _, _, _, _, _, _, _, _, _, _, _, _, _, _, _, _, _, _ => none
  | k + 1, x9, x268000, x268001, x268002, x268003, x268004, x268005, x268006, x268007, x268008, x268009, x268010, x268011, x269000, x269001, x269002, x269003, x276000, x276001 => if x9 = 0 then ((span_ranger_moved.f x276000 x276001 x269000 x269001 x268000 x268001 x268002 x268003 x268004 x268005 x268006 x268007 x268008 x268009 x268010 x268011).bind fun bt282 => ((span_ranger_moved.f x276000 x276001 x269002 x269003 x268000 x268001 x268002 x268003 x268004 x268005 x268006 x268007 x268008 x268009 x268010 x268011).bind fun bt284 => (some (bt282.1, bt282.2, bt284.1, bt284.2, 0)))) else (some (0, 0, 0, 0, x9))
def span_After.f (k : Nat) (l0_0 : List (S37)) (a0_1 : Bool) (a1_0 : Int) (a1_1 : Int) (a1_2 : Int) (a1_3 : Int) (a1_4 : ByteArray) (a1_5 : ByteArray) (a1_6 : Int) (a1_7 : ByteArray) (l1_8 : List (S86)) (a1_9 : ByteArray) (a1_10 : Int) (l1_11 : List Int) (a2_0 : Int) (a2_1 : Int) (a2_2 : Int) (a2_3 : Int) : Option (Int × Int × Int × Int × Int) := (span_span.f k l0_0 a0_1 a2_0 a2_1 a2_2 a2_3).bind fun bt270 => (if bt270.2.2 = 0 then ((dom_Apply.f k l0_0 a0_1 a1_0 a1_1 a1_2 a1_3 a1_4 a1_5 a1_6 a1_7 l1_8 a1_9 a1_10 l1_11).bind fun bt276 => (span_After.j0 k bt276.2.2.2 a1_0 a1_1 a1_2 a1_3 a1_4 a1_5 a1_6 a1_7 l1_8 a1_9 a1_10 l1_11 a2_0 a2_1 a2_2 a2_3 bt270.1 bt270.2.1)) else (span_After.j0 k bt270.2.2 a1_0 a1_1 a1_2 a1_3 a1_4 a1_5 a1_6 a1_7 l1_8 a1_9 a1_10 l1_11 a2_0 a2_1 a2_2 a2_3 bt270.1 bt270.2.1))
theorem span_After.mono_l : ∀ k, (∀ y0 y1 y2 y3 y4 y5 y6 y7 y8 y9 y10 y11 y12 y13 y14 y15 y16 y17 y18, LeO (span_After.j0 k y0 y1 y2 y3 y4 y5 y6 y7 y8 y9 y10 y11 y12 y13 y14 y15 y16 y17 y18) (span_After.j0 (k + 1) y0 y1 y2 y3 y4 y5 y6 y7 y8 y9 y10 y11 y12 y13 y14 y15 y16 y17 y18))
  | 0 => fun _ _ _ _ _ _ _ _ _ _ _ _ _ _ _ _ _ _ _ r h => by simp [span_After.j0] at h
  | k + 1 => by
    have ih0 := span_After.mono_l k
    · intro y0 y1 y2 y3 y4 y5 y6 y7 y8 y9 y10 y11 y12 y13 y14 y15 y16 y17 y18
      unfold span_After.j0
      repeat' first
      | (with_reducible exact ih0 _ _ _ _ _ _ _ _ _ _ _ _ _ _ _ _ _ _ _)
      | (with_reducible exact dom_Apply.mono _ _ _ _ _ _ _ _ _ _ _ _ _ _ _)
      | (with_reducible exact span_span.mono _ _ _ _ _ _ _)
      | (with_reducible exact LeO.refl _)
      | (with_reducible exact LeO.none _)
      | (with_reducible refine LeO.ite ?_ ?_)
      | (with_reducible refine LeO.bind ?_ (fun _ => ?_))
      | exact ih0 _ _ _ _ _ _ _ _ _ _ _ _ _ _ _ _ _ _ _
      | exact dom_Apply.mono _ _ _ _ _ _ _ _ _ _ _ _ _ _ _
      | exact span_span.mono _ _ _ _ _ _ _
      | exact LeO.none _
      | refine LeO.ite ?_ ?_
      | refine LeO.bind ?_ (fun _ => ?_)
theorem span_After.mono : ∀ a0 a1 a2 a3 a4 a5 a6 a7 a8 a9 a10 a11 a12 a13 a14 a15 a16 a17 k, LeO (span_After.f k a0 a1 a2 a3 a4 a5 a6 a7 a8 a9 a10 a11 a12 a13 a14 a15 a16 a17) (span_After.f (k + 1) a0 a1 a2 a3 a4 a5 a6 a7 a8 a9 a10 a11 a12 a13 a14 a15 a16 a17) := by
  intro a0 a1 a2 a3 a4 a5 a6 a7 a8 a9 a10 a11 a12 a13 a14 a15 a16 a17 k
  have ih0 := span_After.mono_l k
  unfold span_After.f
  repeat' first
      | (with_reducible exact ih0 _ _ _ _ _ _ _ _ _ _ _ _ _ _ _ _ _ _ _)
      | (with_reducible exact dom_Apply.mono _ _ _ _ _ _ _ _ _ _ _ _ _ _ _)
      | (with_reducible exact span_span.mono _ _ _ _ _ _ _)
      | (with_reducible exact LeO.refl _)
      | (with_reducible exact LeO.none _)
      | (with_reducible refine LeO.ite ?_ ?_)
      | (with_reducible refine LeO.bind ?_ (fun _ => ?_))
      | exact ih0 _ _ _ _ _ _ _ _ _ _ _ _ _ _ _ _ _ _ _
      | exact dom_Apply.mono _ _ _ _ _ _ _ _ _ _ _ _ _ _ _
      | exact span_span.mono _ _ _ _ _ _ _
      | exact LeO.none _
      | refine LeO.ite ?_ ?_
      | refine LeO.bind ?_ (fun _ => ?_)
def span_After.T6 : Bool × List (List Nat × List Nat) := (true, [([], []), ([], []), ([1], [1]), ([], []), ([0, 2, 3], [0, 2, 3]), ([], []), ([], []), ([6], [6]), ([], []), ([5, 7, 8, 4], [5, 7, 8]), ([4, 9], [4, 9]), ([10, 9, 0, 1, 2, 3, 4, 5, 6, 7, 8, 9, 10], [10]), ([11, 0, 1, 2, 3, 4, 5, 6, 7, 8, 9, 10, 11], [])])
def span_After.B6 : List Nat := [0, 0, 2, 0, 15, 0, 0, 64, 0, 511, 1023, 2047, 4095]
theorem span_After.tab6 : rtab .any (opsOf Tryd.f14 6) = span_After.T6 := by kernel_rfl
theorem span_After.bits6 : waitsOk span_After.T6.2 span_After.B6 = true := by kernel_rfl
set_option maxHeartbeats 8000000 in
set_option maxRecDepth 100000 in
theorem span_After.calls (k : Nat) (A0_0 : Option Addr) (c0_0 : Nat) (l0_0 : List (S37)) (a0_1 : Bool) (a1_0 : Int) (a1_1 : Int) (a1_2 : Int) (a1_3 : Int) (a1_4 : ByteArray) (a1_5 : ByteArray) (a1_6 : Int) (a1_7 : ByteArray) (A1_8 : Option Addr) (c1_8 : Nat) (l1_8 : List (S86)) (a1_9 : ByteArray) (a1_10 : Int) (A1_11 : Option Addr) (c1_11 : Nat) (l1_11 : List Int) (a2_0 : Int) (a2_1 : Int) (a2_2 : Int) (a2_3 : Int) (r1 : Int) (r2 : Int) (r3 : Int) (r4 : Int) (r5 : Int) (w : World) (hr0_0 : Kd.C k37 w A0_0 l0_0.length l0_0) (hc0_0 : l0_0.length ≤ c0_0) (hr1_8 : Kd.C k86 w A1_8 l1_8.length l1_8) (hc1_8 : l1_8.length ≤ c1_8) (hr1_11 : Kd.C (Kd.int .i64) w A1_11 l1_11.length l1_11) (hc1_11 : l1_11.length ≤ c1_11) (h : span_After.f k l0_0 a0_1 a1_0 a1_1 a1_2 a1_3 a1_4 a1_5 a1_6 a1_7 l1_8 a1_9 a1_10 l1_11 a2_0 a2_1 a2_2 a2_3 = some (r1, r2, r3, r4, r5)) :
    Calls Tryd.prog 14 #[.agg #[.slice A0_0 l0_0.length c0_0, .bool a0_1], .agg #[.int .i64 a1_0, .int .i64 a1_1, .int .i64 a1_2, .int .i64 a1_3, .string a1_4, .string a1_5, .int .i64 a1_6, .string a1_7, .slice A1_8 l1_8.length c1_8, .string a1_9, .int .i64 a1_10, .slice A1_11 l1_11.length c1_11], .agg #[.int .i64 a2_0, .int .i64 a2_1, .int .i64 a2_2, .int .i64 a2_3]] w fun e w' => e = .returned (.tuple #[.agg #[.int .i64 r1, .int .i64 r2, .int .i64 r3, .int .i64 r4], .int .i64 r5]) ∧ Below w.heap.size w w' := by
  have hu24 := Tryd.underlying24
  have hu54 := Tryd.underlying54
  have hu28 := Tryd.underlying28
  have hu43 := Tryd.underlying43
  have hu26 := Tryd.underlying26
  have HR0_0 := Aside0.mk hr0_0
  have HC0_0 := Aside0.mk hc0_0
  clear hr0_0 hc0_0
  have HR1_8 := Aside0.mk hr1_8
  have HC1_8 := Aside0.mk hc1_8
  clear hr1_8 hc1_8
  have HR1_11 := Aside0.mk hr1_11
  have HC1_11 := Aside0.mk hc1_11
  clear hr1_11 hc1_11
  have HB := Aside0.mk (Below.refl w.heap.size w)
  have H : ((span_span.f k l0_0 a0_1 a2_0 a2_1 a2_2 a2_3).bind fun bt270 => (if bt270.2.2 = 0 then ((dom_Apply.f k l0_0 a0_1 a1_0 a1_1 a1_2 a1_3 a1_4 a1_5 a1_6 a1_7 l1_8 a1_9 a1_10 l1_11).bind fun bt276 => (span_After.j0 k bt276.2.2.2 a1_0 a1_1 a1_2 a1_3 a1_4 a1_5 a1_6 a1_7 l1_8 a1_9 a1_10 l1_11 a2_0 a2_1 a2_2 a2_3 bt270.1 bt270.2.1)) else (span_After.j0 k bt270.2.2 a1_0 a1_1 a1_2 a1_3 a1_4 a1_5 a1_6 a1_7 l1_8 a1_9 a1_10 l1_11 a2_0 a2_1 a2_2 a2_3 bt270.1 bt270.2.1))) = some (r1, r2, r3, r4, r5) := h
  clear h
  replace H := Option.bind_eq_some_iff.mp H
  obtain ⟨⟨t270, t273, t274⟩, A40, H⟩ := H
  replace H : (if t274 = 0 then ((dom_Apply.f k l0_0 a0_1 a1_0 a1_1 a1_2 a1_3 a1_4 a1_5 a1_6 a1_7 l1_8 a1_9 a1_10 l1_11).bind fun bt276 => (span_After.j0 k bt276.2.2.2 a1_0 a1_1 a1_2 a1_3 a1_4 a1_5 a1_6 a1_7 l1_8 a1_9 a1_10 l1_11 a2_0 a2_1 a2_2 a2_3 t270 t273)) else (span_After.j0 k t274 a1_0 a1_1 a1_2 a1_3 a1_4 a1_5 a1_6 a1_7 l1_8 a1_9 a1_10 l1_11 a2_0 a2_1 a2_2 a2_3 t270 t273)) = some (r1, r2, r3, r4, r5) := H
  have A4 := Aside0.mk A40
  clear A40
  have HC5 := Aside0.mk H
  clear H
  go_enter Tryd.func14, Tryd.ntmps14
  go_upto_if 17 with (first | ((with_reducible refine gate_dst (N := 3) rfl ?_); refine box_event ?hg (N := 3) ?hd (cs := #[.slice A0_0 l0_0.length c0_0, .bool a0_1]) (t := 24) ?hr ?_; (case hd => rfl); (case hg => rfl); (case hr => first | (go_simp; done) | (go_simp; rfl)); intro gb266 hg w6 hbox hb; have n0_ := Aside0.mk (below_step bl0_ hb); have n1_ := Aside0.mk (hbox); have n2_ := Aside0.mk (gle_ (w := w) hg bl0_); have n3_ := n2_; clear HB; have HB := n0_; have BK266 := n1_; have GW266 := n2_; have GE266 := n3_; clear n0_ n1_ n2_ n3_; clear hb hbox hg) | ((with_reducible refine gate_dst (N := 4) rfl ?_); refine box_event ?hg (N := 4) ?hd (cs := #[.int .i64 a1_0, .int .i64 a1_1, .int .i64 a1_2, .int .i64 a1_3, .string a1_4, .string a1_5, .int .i64 a1_6, .string a1_7, .slice A1_8 l1_8.length c1_8, .string a1_9, .int .i64 a1_10, .slice A1_11 l1_11.length c1_11]) (t := 54) ?hr ?_; (case hd => rfl); (case hg => rfl); (case hr => first | (go_simp; done) | (go_simp; rfl)); intro gb267 hg w7 hbox hb; have n0_ := Aside0.mk (blk_below (bq_ BK266.out) hb); have n1_ := Aside0.mk (below_step bl0_ hb); have n2_ := Aside0.mk (hbox); have n3_ := Aside0.mk (gle_ (w := w) hg bl0_); have n4_ := n3_; have n5_ := Aside0.mk ((nlt_ hg (bq_ BK266.out))); have n6_ := Aside0.mk ((ngt_ hg (bq_ BK266.out))); clear BK266; clear HB; have BK266 := n0_; have HB := n1_; have BK267 := n2_; have GW267 := n3_; have GE267 := n4_; have NB266_267 := n5_; have NB267_266 := n6_; clear n0_ n1_ n2_ n3_ n4_ n5_ n6_; clear hb hbox hg) | ((with_reducible refine gate_dst (N := 5) rfl ?_); refine box_event ?hg (N := 5) ?hd (cs := #[.int .i64 a2_0, .int .i64 a2_1, .int .i64 a2_2, .int .i64 a2_3]) (t := 28) ?hr ?_; (case hd => rfl); (case hg => rfl); (case hr => first | (go_simp; done) | (go_simp; rfl)); intro gb268 hg w8 hbox hb; have n0_ := Aside0.mk (blk_below (bq_ BK266.out) hb); have n1_ := Aside0.mk (blk_below (bq_ BK267.out) hb); have n2_ := Aside0.mk (below_step bl0_ hb); have n3_ := Aside0.mk (hbox); have n4_ := Aside0.mk (gle_ (w := w) hg bl0_); have n5_ := n4_; have n6_ := Aside0.mk ((nlt_ hg (bq_ BK266.out))); have n7_ := Aside0.mk ((ngt_ hg (bq_ BK266.out))); have n8_ := Aside0.mk ((nlt_ hg (bq_ BK267.out))); have n9_ := Aside0.mk ((ngt_ hg (bq_ BK267.out))); clear BK266; clear BK267; clear HB; have BK266 := n0_; have BK267 := n1_; have HB := n2_; have BK268 := n3_; have GW268 := n4_; have GE268 := n5_; have NB266_268 := n6_; have NB268_266 := n7_; have NB267_268 := n8_; have NB268_267 := n9_; clear n0_ n1_ n2_ n3_ n4_ n5_ n6_ n7_ n8_ n9_; clear hb hbox hg) | ((with_reducible refine gate_dst (N := 6) rfl ?_); refine box_event ?hg (N := 6) ?hd (cs := #[.int .i64 0, .int .i64 0, .int .i64 0, .int .i64 0]) (t := 28) ?hr ?_; (case hd => rfl); (case hg => rfl); (case hr => first | (go_simp; done) | (go_simp; rfl)); intro gb269 hg w9 hbox hb; have n0_ := Aside0.mk (blk_below (bq_ BK266.out) hb); have n1_ := Aside0.mk (blk_below (bq_ BK267.out) hb); have n2_ := Aside0.mk (blk_below (bq_ BK268.out) hb); have n3_ := Aside0.mk (below_step bl0_ hb); have n4_ := Aside0.mk (hbox); have n5_ := Aside0.mk (gle_ (w := w) hg bl0_); have n6_ := n5_; have n7_ := Aside0.mk ((nlt_ hg (bq_ BK266.out))); have n8_ := Aside0.mk ((ngt_ hg (bq_ BK266.out))); have n9_ := Aside0.mk ((nlt_ hg (bq_ BK267.out))); have n10_ := Aside0.mk ((ngt_ hg (bq_ BK267.out))); have n11_ := Aside0.mk ((nlt_ hg (bq_ BK268.out))); have n12_ := Aside0.mk ((ngt_ hg (bq_ BK268.out))); clear BK266; clear BK267; clear BK268; clear HB; have BK266 := n0_; have BK267 := n1_; have BK268 := n2_; have HB := n3_; have BK269 := n4_; have GW269 := n5_; have GE269 := n6_; have NB266_269 := n7_; have NB269_266 := n8_; have NB267_269 := n9_; have NB269_267 := n10_; have NB268_269 := n11_; have NB269_268 := n12_; clear n0_ n1_ n2_ n3_ n4_ n5_ n6_ n7_ n8_ n9_ n10_ n11_ n12_; clear hb hbox hg; have hnb10 := NB266_267.out; have hnc10 := NB267_266.out; have hnb11 := NB266_268.out; have hnc11 := NB268_266.out; have hnb12 := NB266_269.out; have hnc12 := NB269_266.out; have hcz13_0 : w9.cell? ⟨gb266, 0, none⟩ = some (.slice A0_0 l0_0.length c0_0) := (blk_cell BK266.out 0).trans rfl; have hcz13_1 : w9.cell? ⟨gb266, 1, none⟩ = some (.bool a0_1) := (blk_cell BK266.out 1).trans rfl; have hfz13_0 := blk_frozen BK266.out 0; have hfz13_1 := blk_frozen BK266.out 1; have hnb14 := NB268_267.out; have hnc14 := NB267_268.out; have hnb15 := NB268_269.out; have hnc15 := NB269_268.out; have hcz16_0 : w9.cell? ⟨gb268, 0, none⟩ = some (.int .i64 a2_0) := (blk_cell BK268.out 0).trans rfl; have hcz16_1 : w9.cell? ⟨gb268, 1, none⟩ = some (.int .i64 a2_1) := (blk_cell BK268.out 1).trans rfl; have hcz16_2 : w9.cell? ⟨gb268, 2, none⟩ = some (.int .i64 a2_2) := (blk_cell BK268.out 2).trans rfl; have hcz16_3 : w9.cell? ⟨gb268, 3, none⟩ = some (.int .i64 a2_3) := (blk_cell BK268.out 3).trans rfl; have hfz16_0 := blk_frozen BK268.out 0; have hfz16_1 := blk_frozen BK268.out 1; have hfz16_2 := blk_frozen BK268.out 2; have hfz16_3 := blk_frozen BK268.out 3) | ((with_reducible refine gate_callee (f := 10) rfl ?_); refine goesL_ (some 13) rfl rfl Tryd.func10 (by kernel_rfl) rfl #[.agg #[.slice A0_0 l0_0.length c0_0, .bool a0_1], .agg #[.int .i64 a2_0, .int .i64 a2_1, .int .i64 a2_2, .int .i64 a2_3]] rfl mp_ ?_; (with_reducible refine (span_span.calls k (fun k_ => k_ < w.heap.size) _ _ l0_0 a0_1 a2_0 a2_1 a2_2 a2_3 t270 t273 t274 _ ?side1 A4.out).mono ?_); (case side1 => exact Kd.V_mk HC0_0.out (Kd.F_below (Kd.C_F k37_heap HR0_0.out) bl0_)); rintro e w17 ⟨v271, rfl, ho0, hb⟩; refine ⟨_, rfl, ?_⟩; have n0_ := Aside0.mk (Kd.V_lower (Kd.V_mono (ok' := fun k_ => k_ ≠ gb266 ∧ k_ ≠ gb267 ∧ k_ ≠ gb268 ∧ k_ ≠ gb269) ho0 (fun k_ hk_ => ⟨Or.elim hk_ (fun hs_ => fun e_ => Nat.not_le.2 hs_ (by rw [e_]; exact GW266.out)) (fun hn_ => (Kd.freshB (g := gb266) (o := .cells #[.slice A0_0 l0_0.length c0_0, .bool a0_1] 24 (0, 0)) (bq_ BK266.out) k_ hn_)), Or.elim hk_ (fun hs_ => fun e_ => Nat.not_le.2 hs_ (by rw [e_]; exact GW267.out)) (fun hn_ => (Kd.freshB (g := gb267) (o := .cells #[.int .i64 a1_0, .int .i64 a1_1, .int .i64 a1_2, .int .i64 a1_3, .string a1_4, .string a1_5, .int .i64 a1_6, .string a1_7, .slice A1_8 l1_8.length c1_8, .string a1_9, .int .i64 a1_10, .slice A1_11 l1_11.length c1_11] 54 (0, 0)) (bq_ BK267.out) k_ hn_)), Or.elim hk_ (fun hs_ => fun e_ => Nat.not_le.2 hs_ (by rw [e_]; exact GW268.out)) (fun hn_ => (Kd.freshB (g := gb268) (o := .cells #[.int .i64 a2_0, .int .i64 a2_1, .int .i64 a2_2, .int .i64 a2_3] 28 (0, 0)) (bq_ BK268.out) k_ hn_)), Or.elim hk_ (fun hs_ => fun e_ => Nat.not_le.2 hs_ (by rw [e_]; exact GW269.out)) (fun hn_ => (Kd.freshB (g := gb269) (o := .cells #[.int .i64 0, .int .i64 0, .int .i64 0, .int .i64 0] 28 (0, 0)) (bq_ BK269.out) k_ hn_))⟩)) (below_size bl0_)); have n1_ := Aside0.mk (blk_below (bq_ BK266.out) hb); have n2_ := Aside0.mk (blk_below (bq_ BK267.out) hb); have n3_ := Aside0.mk (blk_below (bq_ BK268.out) hb); have n4_ := Aside0.mk (blk_below (bq_ BK269.out) hb); have n5_ := Aside0.mk (below_step bl0_ hb); clear BK266; clear BK267; clear BK268; clear BK269; clear HB; have HO272 := n0_; have BK266 := n1_; have BK267 := n2_; have BK268 := n3_; have BK269 := n4_; have HB := n5_; clear n0_ n1_ n2_ n3_ n4_ n5_; (try clear hb); (try clear hb2); (try clear hk); (try clear hi); (try clear ho0)) | ((with_reducible refine gate_dst (N := 8) rfl ?_); refine box_event ?hg (N := 8) ?hd (cs := #[.slice none 0 0, .bool false]) (t := 43) ?hr ?_; (case hd => rfl); (case hg => rfl); (case hr => first | (go_simp; done) | (go_simp; rfl)); intro gb275 hg w18 hbox hb; have n0_ := Aside0.mk (Kd.V_below (Kd.V_elderB (Kd.V_below HO272.out bu_) gb275 (Nat.le_of_eq hg.symm)) hb); have n1_ := Aside0.mk (blk_below (bq_ BK266.out) hb); have n2_ := Aside0.mk (blk_below (bq_ BK267.out) hb); have n3_ := Aside0.mk (blk_below (bq_ BK268.out) hb); have n4_ := Aside0.mk (blk_below (bq_ BK269.out) hb); have n5_ := Aside0.mk (below_step bl0_ hb); have n6_ := Aside0.mk (hbox); have n7_ := Aside0.mk (gle_ (w := w) hg bl0_); have n8_ := n7_; have n9_ := Aside0.mk ((nlt_ hg (bq_ BK266.out))); have n10_ := Aside0.mk ((ngt_ hg (bq_ BK266.out))); have n11_ := Aside0.mk ((nlt_ hg (bq_ BK267.out))); have n12_ := Aside0.mk ((ngt_ hg (bq_ BK267.out))); have n13_ := Aside0.mk ((nlt_ hg (bq_ BK268.out))); have n14_ := Aside0.mk ((ngt_ hg (bq_ BK268.out))); have n15_ := Aside0.mk ((nlt_ hg (bq_ BK269.out))); have n16_ := Aside0.mk ((ngt_ hg (bq_ BK269.out))); clear HO272; clear BK266; clear BK267; clear BK268; clear BK269; clear HB; have HO272 := n0_; have BK266 := n1_; have BK267 := n2_; have BK268 := n3_; have BK269 := n4_; have HB := n5_; have BK275 := n6_; have GW275 := n7_; have GE275 := n8_; have NB266_275 := n9_; have NB275_266 := n10_; have NB267_275 := n11_; have NB275_267 := n12_; have NB268_275 := n13_; have NB275_268 := n14_; have NB269_275 := n15_; have NB275_269 := n16_; clear n0_ n1_ n2_ n3_ n4_ n5_ n6_ n7_ n8_ n9_ n10_ n11_ n12_ n13_ n14_ n15_ n16_; clear hb hbox hg; obtain ⟨Ao19, co19, eo19⟩ := Kd.V_slice HO272.out; subst eo19; have hnb20 := NB275_266.out; have hnc20 := NB266_275.out; have hnb21 := NB275_267.out; have hnc21 := NB267_275.out; have hnb22 := NB275_268.out; have hnc22 := NB268_275.out; have hnb23 := NB275_269.out; have hnc23 := NB269_275.out; have hcz24_0 : w18.cell? ⟨gb275, 0, none⟩ = some (.slice none 0 0) := (blk_cell BK275.out 0).trans rfl; have hcz24_1 : w18.cell? ⟨gb275, 1, none⟩ = some (.bool false) := (blk_cell BK275.out 1).trans rfl; have hfz24_0 := blk_frozen BK275.out 0; have hfz24_1 := blk_frozen BK275.out 1))
  (try simp only [Act.put, List.setIfInBounds_toArray, List.set_cons_zero, List.set_cons_succ])
  go_cut [9] (fun v9 wc => ∃ (kq : Nat) (x9_4 : Int), v9 = .int .i64 x9_4 ∧ Aside0 (span_After.j0 kq x9_4 a1_0 a1_1 a1_2 a1_3 a1_4 a1_5 a1_6 a1_7 l1_8 a1_9 a1_10 l1_11 a2_0 a2_1 a2_2 a2_3 t270 t273 = some (r1, r2, r3, r4, r5)) ∧ Aside0 (kq ≤ k) ∧ Aside0 (Kd.V k37 37 wc w.heap.size (fun k_ => k_ ≠ gb266 ∧ k_ ≠ gb267 ∧ k_ ≠ gb268 ∧ k_ ≠ gb269 ∧ k_ ≠ gb275) (.slice Ao19 t270.length co19) t270) ∧ Aside0 (wc.heap[gb266]? = some (.cells #[(.slice A0_0 l0_0.length c0_0), .bool a0_1] 24 (0, 0))) ∧ Aside0 (wc.heap[gb267]? = some (.cells #[.int .i64 a1_0, .int .i64 a1_1, .int .i64 a1_2, .int .i64 a1_3, .string a1_4, .string a1_5, .int .i64 a1_6, .string a1_7, (.slice A1_8 l1_8.length c1_8), .string a1_9, .int .i64 a1_10, (.slice A1_11 l1_11.length c1_11)] 54 (0, 0))) ∧ Aside0 (wc.heap[gb268]? = some (.cells #[.int .i64 a2_0, .int .i64 a2_1, .int .i64 a2_2, .int .i64 a2_3] 28 (0, 0))) ∧ Aside0 (wc.heap[gb269]? = some (.cells #[.int .i64 0, .int .i64 0, .int .i64 0, .int .i64 0] 28 (0, 0))) ∧ Aside0 (wc.heap[gb275]? = some (.cells #[(.slice Ao19 t270.length co19), .bool t273] 43 (0, 0))) ∧ Aside0 (Below w.heap.size w wc))
  case first =>
    have H := HC5.out
    clear HC5
    by_cases c25 : t274 = 0
    · rw [if_pos c25] at H
      have c25b0 : (t274 == 0) = true := beq_iff_eq.mpr c25
      have c25b1 : (t274 != 0) = false := bne_eq_false_iff_eq.mpr c25
      clear c25
      (first | rw [c25b0] | (simp only [i64_w, i32_w]; rw [c25b0]) | skip)
      replace H := Option.bind_eq_some_iff.mp H
      obtain ⟨⟨t276, t279, t280, t281⟩, A260, H⟩ := H
      replace H : (span_After.j0 k t281 a1_0 a1_1 a1_2 a1_3 a1_4 a1_5 a1_6 a1_7 l1_8 a1_9 a1_10 l1_11 a2_0 a2_1 a2_2 a2_3 t270 t273) = some (r1, r2, r3, r4, r5) := H
      have A26 := Aside0.mk A260
      clear A260
      have H' := Aside0.mk H
      clear H
      have hnb27 := NB266_267.out
      have hnc27 := NB267_266.out
      have hnb28 := NB266_268.out
      have hnc28 := NB268_266.out
      have hnb29 := NB266_269.out
      have hnc29 := NB269_266.out
      have hnb30 := NB266_275.out
      have hnc30 := NB275_266.out
      have hcz31_0 : w18.cell? ⟨gb266, 0, none⟩ = some (.slice A0_0 l0_0.length c0_0) := (blk_cell BK266.out 0).trans rfl
      have hcz31_1 : w18.cell? ⟨gb266, 1, none⟩ = some (.bool a0_1) := (blk_cell BK266.out 1).trans rfl
      have hfz31_0 := blk_frozen BK266.out 0
      have hfz31_1 := blk_frozen BK266.out 1
      have hnb32 := NB267_268.out
      have hnc32 := NB268_267.out
      have hnb33 := NB267_269.out
      have hnc33 := NB269_267.out
      have hnb34 := NB267_275.out
      have hnc34 := NB275_267.out
      have hcz35_0 : w18.cell? ⟨gb267, 0, none⟩ = some (.int .i64 a1_0) := (blk_cell BK267.out 0).trans rfl
      have hcz35_1 : w18.cell? ⟨gb267, 1, none⟩ = some (.int .i64 a1_1) := (blk_cell BK267.out 1).trans rfl
      have hcz35_2 : w18.cell? ⟨gb267, 2, none⟩ = some (.int .i64 a1_2) := (blk_cell BK267.out 2).trans rfl
      have hcz35_3 : w18.cell? ⟨gb267, 3, none⟩ = some (.int .i64 a1_3) := (blk_cell BK267.out 3).trans rfl
      have hcz35_4 : w18.cell? ⟨gb267, 4, none⟩ = some (.string a1_4) := (blk_cell BK267.out 4).trans rfl
      have hcz35_5 : w18.cell? ⟨gb267, 5, none⟩ = some (.string a1_5) := (blk_cell BK267.out 5).trans rfl
      have hcz35_6 : w18.cell? ⟨gb267, 6, none⟩ = some (.int .i64 a1_6) := (blk_cell BK267.out 6).trans rfl
      have hcz35_7 : w18.cell? ⟨gb267, 7, none⟩ = some (.string a1_7) := (blk_cell BK267.out 7).trans rfl
      have hcz35_8 : w18.cell? ⟨gb267, 8, none⟩ = some (.slice A1_8 l1_8.length c1_8) := (blk_cell BK267.out 8).trans rfl
      have hcz35_9 : w18.cell? ⟨gb267, 9, none⟩ = some (.string a1_9) := (blk_cell BK267.out 9).trans rfl
      have hcz35_10 : w18.cell? ⟨gb267, 10, none⟩ = some (.int .i64 a1_10) := (blk_cell BK267.out 10).trans rfl
      have hcz35_11 : w18.cell? ⟨gb267, 11, none⟩ = some (.slice A1_11 l1_11.length c1_11) := (blk_cell BK267.out 11).trans rfl
      have hfz35_0 := blk_frozen BK267.out 0
      have hfz35_1 := blk_frozen BK267.out 1
      have hfz35_2 := blk_frozen BK267.out 2
      have hfz35_3 := blk_frozen BK267.out 3
      have hfz35_4 := blk_frozen BK267.out 4
      have hfz35_5 := blk_frozen BK267.out 5
      have hfz35_6 := blk_frozen BK267.out 6
      have hfz35_7 := blk_frozen BK267.out 7
      have hfz35_8 := blk_frozen BK267.out 8
      have hfz35_9 := blk_frozen BK267.out 9
      have hfz35_10 := blk_frozen BK267.out 10
      have hfz35_11 := blk_frozen BK267.out 11
      go_wp2_with (first | ((with_reducible refine gate_callee (f := 20) rfl ?_); refine goesL_ (some 21) rfl rfl Tryd.func20 (by kernel_rfl) rfl #[.agg #[.slice A0_0 l0_0.length c0_0, .bool a0_1], .agg #[.int .i64 a1_0, .int .i64 a1_1, .int .i64 a1_2, .int .i64 a1_3, .string a1_4, .string a1_5, .int .i64 a1_6, .string a1_7, .slice A1_8 l1_8.length c1_8, .string a1_9, .int .i64 a1_10, .slice A1_11 l1_11.length c1_11]] rfl mp_ ?_; (with_reducible refine (dom_Apply.calls k _ _ l0_0 a0_1 a1_0 a1_1 a1_2 a1_3 a1_4 a1_5 a1_6 a1_7 _ _ l1_8 a1_9 a1_10 _ _ l1_11 t276 t279 t280 t281 _ ?side1 ?side2 ?side3 ?side4 ?side5 ?side6 A26.out).mono ?_); (case side1 => exact Kd.C_below HR0_0.out bl0_); (case side2 => exact HC0_0.out); (case side3 => exact Kd.C_below HR1_8.out bl0_); (case side4 => exact HC1_8.out); (case side5 => exact Kd.C_below HR1_11.out bl0_); (case side6 => exact HC1_11.out); rintro e w36 ⟨v277, rfl, ho0, hb⟩; refine ⟨_, rfl, ?_⟩; have n0_ := Aside0.mk (Kd.V_elder' (by (with_reducible repeat (first | apply Kd.V_alloc | apply Kd.V_drewN | apply Kd.V_drew)); exact (Kd.V_mono (Kd.V_far (p := ⟨gb275, 1, none⟩) (Kd.V_far (p := ⟨gb275, 0, none⟩) (Kd.V_mono HO272.out (fun k_ hk => (⟨hk, hk.2⟩ : _ ∧ k_ ≠ gb275))) (fun _ hk => hk.2) (.slice Ao19 t270.length co19)) (fun _ hk => hk.2) (.bool t273)) (fun _ h_ => h_.1))) (Kd.S_base ho0) hb); have n1_ := Aside0.mk (Kd.S_lower ho0 (below_size bl0_)); have n2_ := Aside0.mk (blk_below (g := gb266) (o := .cells #[.slice A0_0 l0_0.length c0_0, .bool a0_1] 24 (0, 0)) (by (with_reducible repeat (first | refine blk_drewN ?_ _ | refine blk_drew ?_ | refine blk_alloc ?_ _)); refine blk_far ?_ NB266_275.out _; (with_reducible repeat (first | refine blk_drewN ?_ _ | refine blk_drew ?_ | refine blk_alloc ?_ _)); refine blk_far ?_ NB266_275.out _; (with_reducible repeat (first | refine blk_drewN ?_ _ | refine blk_drew ?_ | refine blk_alloc ?_ _)); exact BK266.out) hb); have n3_ := Aside0.mk (blk_below (g := gb267) (o := .cells #[.int .i64 a1_0, .int .i64 a1_1, .int .i64 a1_2, .int .i64 a1_3, .string a1_4, .string a1_5, .int .i64 a1_6, .string a1_7, .slice A1_8 l1_8.length c1_8, .string a1_9, .int .i64 a1_10, .slice A1_11 l1_11.length c1_11] 54 (0, 0)) (by (with_reducible repeat (first | refine blk_drewN ?_ _ | refine blk_drew ?_ | refine blk_alloc ?_ _)); refine blk_far ?_ NB267_275.out _; (with_reducible repeat (first | refine blk_drewN ?_ _ | refine blk_drew ?_ | refine blk_alloc ?_ _)); refine blk_far ?_ NB267_275.out _; (with_reducible repeat (first | refine blk_drewN ?_ _ | refine blk_drew ?_ | refine blk_alloc ?_ _)); exact BK267.out) hb); have n4_ := Aside0.mk (blk_below (g := gb268) (o := .cells #[.int .i64 a2_0, .int .i64 a2_1, .int .i64 a2_2, .int .i64 a2_3] 28 (0, 0)) (by (with_reducible repeat (first | refine blk_drewN ?_ _ | refine blk_drew ?_ | refine blk_alloc ?_ _)); refine blk_far ?_ NB268_275.out _; (with_reducible repeat (first | refine blk_drewN ?_ _ | refine blk_drew ?_ | refine blk_alloc ?_ _)); refine blk_far ?_ NB268_275.out _; (with_reducible repeat (first | refine blk_drewN ?_ _ | refine blk_drew ?_ | refine blk_alloc ?_ _)); exact BK268.out) hb); have n5_ := Aside0.mk (blk_below (g := gb269) (o := .cells #[.int .i64 0, .int .i64 0, .int .i64 0, .int .i64 0] 28 (0, 0)) (by (with_reducible repeat (first | refine blk_drewN ?_ _ | refine blk_drew ?_ | refine blk_alloc ?_ _)); refine blk_far ?_ NB269_275.out _; (with_reducible repeat (first | refine blk_drewN ?_ _ | refine blk_drew ?_ | refine blk_alloc ?_ _)); refine blk_far ?_ NB269_275.out _; (with_reducible repeat (first | refine blk_drewN ?_ _ | refine blk_drew ?_ | refine blk_alloc ?_ _)); exact BK269.out) hb); have n6_ := Aside0.mk (blk_below (g := gb275) (o := .cells #[.slice Ao19 t270.length co19, .bool t273] 43 (0, 0)) (by (with_reducible repeat (first | refine blk_drewN ?_ _ | refine blk_drew ?_ | refine blk_alloc ?_ _)); refine blk_put (cs := #[.slice Ao19 t270.length co19, .bool false]) ?_ 1 _ rfl; (with_reducible repeat (first | refine blk_drewN ?_ _ | refine blk_drew ?_ | refine blk_alloc ?_ _)); refine blk_put (cs := #[.slice none 0 0, .bool false]) ?_ 0 _ rfl; (with_reducible repeat (first | refine blk_drewN ?_ _ | refine blk_drew ?_ | refine blk_alloc ?_ _)); exact BK275.out) hb); have n7_ := Aside0.mk (below_step bl0_ hb); clear HO272; clear BK266; clear BK267; clear BK268; clear BK269; clear BK275; clear HB; have HO272 := n0_; have HO278 := n1_; have BK266 := n2_; have BK267 := n3_; have BK268 := n4_; have BK269 := n5_; have BK275 := n6_; have HB := n7_; clear n0_ n1_ n2_ n3_ n4_ n5_ n6_ n7_; (try clear hb); (try clear hb2); (try clear hk); (try clear hi); (try clear ho0)))
      go_meet
      case rel => exact ⟨_, (t281), rs_, H', ⟨by first | omega | exact Nat.le_refl _⟩, ⟨by (with_reducible repeat (first | apply Kd.V_alloc | apply Kd.V_drewN | apply Kd.V_drew)); exact Kd.V_mono HO272.out (fun _ hk => ⟨hk.1.1.1, ⟨hk.1.1.2.1, ⟨hk.1.1.2.2.1, ⟨hk.1.1.2.2.2, hk.1.2⟩⟩⟩⟩)⟩, ⟨by (with_reducible repeat (first | refine blk_drewN ?_ _ | refine blk_drew ?_ | refine blk_alloc ?_ _)); exact BK266.out⟩, ⟨by (with_reducible repeat (first | refine blk_drewN ?_ _ | refine blk_drew ?_ | refine blk_alloc ?_ _)); exact BK267.out⟩, ⟨by (with_reducible repeat (first | refine blk_drewN ?_ _ | refine blk_drew ?_ | refine blk_alloc ?_ _)); exact BK268.out⟩, ⟨by (with_reducible repeat (first | refine blk_drewN ?_ _ | refine blk_drew ?_ | refine blk_alloc ?_ _)); exact BK269.out⟩, ⟨by (with_reducible repeat (first | refine blk_drewN ?_ _ | refine blk_drew ?_ | refine blk_alloc ?_ _)); exact BK275.out⟩, ⟨bl0_⟩⟩
    · rw [if_neg c25] at H
      have c25b0 : (t274 == 0) = false := beq_eq_false_iff_ne.mpr c25
      have c25b1 : (t274 != 0) = true := bne_iff_ne.mpr c25
      (first | rw [c25b0] | (simp only [i64_w, i32_w]; rw [c25b0]) | skip)
      have H' := Aside0.mk H
      clear H
      go_wp2
      go_meet
      case rel => exact ⟨_, (t274), rs_, H', ⟨by first | omega | exact Nat.le_refl _⟩, ⟨by (with_reducible repeat (first | apply Kd.V_alloc | apply Kd.V_drewN | apply Kd.V_drew)); exact Kd.V_mono (Kd.V_far (p := ⟨gb275, 1, none⟩) (Kd.V_far (p := ⟨gb275, 0, none⟩) (Kd.V_mono HO272.out (fun k_ hk => (⟨hk, hk.2⟩ : _ ∧ k_ ≠ gb275))) (fun _ hk => hk.2) (.slice Ao19 t270.length co19)) (fun _ hk => hk.2) (.bool t273)) (fun _ hk => ⟨hk.1.1.1, ⟨hk.1.1.2.1, ⟨hk.1.1.2.2.1, ⟨hk.1.1.2.2.2, hk.1.2⟩⟩⟩⟩)⟩, ⟨by (with_reducible repeat (first | refine blk_drewN ?_ _ | refine blk_drew ?_ | refine blk_alloc ?_ _)); refine blk_far ?_ NB266_275.out _; (with_reducible repeat (first | refine blk_drewN ?_ _ | refine blk_drew ?_ | refine blk_alloc ?_ _)); refine blk_far ?_ NB266_275.out _; (with_reducible repeat (first | refine blk_drewN ?_ _ | refine blk_drew ?_ | refine blk_alloc ?_ _)); exact BK266.out⟩, ⟨by (with_reducible repeat (first | refine blk_drewN ?_ _ | refine blk_drew ?_ | refine blk_alloc ?_ _)); refine blk_far ?_ NB267_275.out _; (with_reducible repeat (first | refine blk_drewN ?_ _ | refine blk_drew ?_ | refine blk_alloc ?_ _)); refine blk_far ?_ NB267_275.out _; (with_reducible repeat (first | refine blk_drewN ?_ _ | refine blk_drew ?_ | refine blk_alloc ?_ _)); exact BK267.out⟩, ⟨by (with_reducible repeat (first | refine blk_drewN ?_ _ | refine blk_drew ?_ | refine blk_alloc ?_ _)); refine blk_far ?_ NB268_275.out _; (with_reducible repeat (first | refine blk_drewN ?_ _ | refine blk_drew ?_ | refine blk_alloc ?_ _)); refine blk_far ?_ NB268_275.out _; (with_reducible repeat (first | refine blk_drewN ?_ _ | refine blk_drew ?_ | refine blk_alloc ?_ _)); exact BK268.out⟩, ⟨by (with_reducible repeat (first | refine blk_drewN ?_ _ | refine blk_drew ?_ | refine blk_alloc ?_ _)); refine blk_far ?_ NB269_275.out _; (with_reducible repeat (first | refine blk_drewN ?_ _ | refine blk_drew ?_ | refine blk_alloc ?_ _)); refine blk_far ?_ NB269_275.out _; (with_reducible repeat (first | refine blk_drewN ?_ _ | refine blk_drew ?_ | refine blk_alloc ?_ _)); exact BK269.out⟩, ⟨by (with_reducible repeat (first | refine blk_drewN ?_ _ | refine blk_drew ?_ | refine blk_alloc ?_ _)); refine blk_put (cs := #[.slice Ao19 t270.length co19, .bool false]) ?_ 1 _ rfl; (with_reducible repeat (first | refine blk_drewN ?_ _ | refine blk_drew ?_ | refine blk_alloc ?_ _)); refine blk_put (cs := #[.slice none 0 0, .bool false]) ?_ 0 _ rfl; (with_reducible repeat (first | refine blk_drewN ?_ _ | refine blk_drew ?_ | refine blk_alloc ?_ _)); exact BK275.out⟩, ⟨bl0_⟩⟩
  case rest =>
    clear HC5
    try clear c1
    try clear c2
    try clear p2
    try clear c3
    try clear c10
    try clear c11
    try clear c12
    try clear c14
    try clear c15
    try clear c20
    try clear c21
    try clear c22
    try clear c23
    try clear c25
    try clear c25b0
    try clear c25b1
    try clear c27
    try clear c28
    try clear c29
    try clear c30
    try clear c32
    try clear c33
    try clear c34
    try clear hcz13_0
    try clear hcz13_1
    try clear hcz16_0
    try clear hcz16_1
    try clear hcz16_2
    try clear hcz16_3
    try clear hcz24_0
    try clear hcz24_1
    try clear hcz31_0
    try clear hcz31_1
    try clear hcz35_0
    try clear hcz35_1
    try clear hcz35_10
    try clear hcz35_11
    try clear hcz35_2
    try clear hcz35_3
    try clear hcz35_4
    try clear hcz35_5
    try clear hcz35_6
    try clear hcz35_7
    try clear hcz35_8
    try clear hcz35_9
    try clear hfz13_0
    try clear hfz13_1
    try clear hfz16_0
    try clear hfz16_1
    try clear hfz16_2
    try clear hfz16_3
    try clear hfz24_0
    try clear hfz24_1
    try clear hfz31_0
    try clear hfz31_1
    try clear hfz35_0
    try clear hfz35_1
    try clear hfz35_10
    try clear hfz35_11
    try clear hfz35_2
    try clear hfz35_3
    try clear hfz35_4
    try clear hfz35_5
    try clear hfz35_6
    try clear hfz35_7
    try clear hfz35_8
    try clear hfz35_9
    obtain ⟨kq, x9_4, rfl, HA, HJ4, HO_276000, BK266, BK267, BK268, BK269, BK275, HB⟩ := hcut
    cases kq with
    | zero => exact absurd HA.out (by simp [span_After.j0])
    | succ kj4 =>
      have H := HA.out
      clear HA
      simp only [span_After.j0] at H
      by_cases c37 : x9_4 = 0
      · rw [if_pos c37] at H
        have c37b0 : (x9_4 == 0) = true := beq_iff_eq.mpr c37
        have c37b1 : (x9_4 != 0) = false := bne_eq_false_iff_eq.mpr c37
        clear c37
        replace H := Option.bind_eq_some_iff.mp H
        obtain ⟨⟨t282, t283⟩, A380, H⟩ := H
        replace H : ((span_ranger_moved.f t270 t273 a2_2 a2_3 a1_0 a1_1 a1_2 a1_3 a1_4 a1_5 a1_6 a1_7 l1_8 a1_9 a1_10 l1_11).bind fun bt284 => (some (t282, t283, bt284.1, bt284.2, 0))) = some (r1, r2, r3, r4, r5) := H
        have A38 := Aside0.mk A380
        clear A380
        replace H := Option.bind_eq_some_iff.mp H
        obtain ⟨⟨t284, t285⟩, A390, H⟩ := H
        replace H : (some (t282, t283, t284, t285, 0)) = some (r1, r2, r3, r4, r5) := H
        have A39 := Aside0.mk A390
        clear A390
        simp only [Option.some.injEq, Prod.mk.injEq] at H
        obtain ⟨rfl, rfl, rfl, rfl, rfl⟩ := H
        try go_wp2
        have n0_ := Aside0.mk (Kd.V_drew HO_276000.out)
        have n1_ := Aside0.mk (blk_drew BK266.out)
        have n2_ := Aside0.mk (blk_drew BK267.out)
        have n3_ := Aside0.mk (blk_drew BK268.out)
        have n4_ := Aside0.mk (blk_drew BK269.out)
        have n5_ := Aside0.mk (blk_drew BK275.out)
        have n6_ := Aside0.mk (below_drew1 HB.out)
        clear HO_276000
        clear BK266
        clear BK267
        clear BK268
        clear BK269
        clear BK275
        clear HB
        have HO_276000 := n0_
        have BK266 := n1_
        have BK267 := n2_
        have BK268 := n3_
        have BK269 := n4_
        have BK275 := n5_
        have HB := n6_
        clear n0_ n1_ n2_ n3_ n4_ n5_ n6_
        refine start_ (n := 13) (S := fun w' => w'.cell? ⟨gb275, 0, none⟩ = some (.slice Ao19 t270.length co19) ∧ w'.cell? ⟨gb275, 1, none⟩ = some (.bool t273) ∧ w'.cell? ⟨gb268, 0, none⟩ = some (.int .i64 a2_0) ∧ w'.cell? ⟨gb268, 1, none⟩ = some (.int .i64 a2_1) ∧ w'.cell? ⟨gb268, 2, none⟩ = some (.int .i64 a2_2) ∧ w'.cell? ⟨gb268, 3, none⟩ = some (.int .i64 a2_3) ∧ w'.cell? ⟨gb267, 0, none⟩ = some (.int .i64 a1_0) ∧ w'.cell? ⟨gb267, 1, none⟩ = some (.int .i64 a1_1) ∧ w'.cell? ⟨gb267, 2, none⟩ = some (.int .i64 a1_2) ∧ w'.cell? ⟨gb267, 3, none⟩ = some (.int .i64 a1_3) ∧ w'.cell? ⟨gb267, 4, none⟩ = some (.string a1_4) ∧ w'.cell? ⟨gb267, 5, none⟩ = some (.string a1_5) ∧ w'.cell? ⟨gb267, 6, none⟩ = some (.int .i64 a1_6) ∧ w'.cell? ⟨gb267, 7, none⟩ = some (.string a1_7) ∧ w'.cell? ⟨gb267, 8, none⟩ = some (.slice A1_8 l1_8.length c1_8) ∧ w'.cell? ⟨gb267, 9, none⟩ = some (.string a1_9) ∧ w'.cell? ⟨gb267, 10, none⟩ = some (.int .i64 a1_10) ∧ w'.cell? ⟨gb267, 11, none⟩ = some (.slice A1_11 l1_11.length c1_11)) (ds := []) #[false, false, false, false, false, false, false, false, false, false, false, false, false] (by kernel_rfl) rfl rfl ⟨(blk_cell BK275.out 0).trans rfl, (blk_cell BK275.out 1).trans rfl, (blk_cell BK268.out 0).trans rfl, (blk_cell BK268.out 1).trans rfl, (blk_cell BK268.out 2).trans rfl, (blk_cell BK268.out 3).trans rfl, (blk_cell BK267.out 0).trans rfl, (blk_cell BK267.out 1).trans rfl, (blk_cell BK267.out 2).trans rfl, (blk_cell BK267.out 3).trans rfl, (blk_cell BK267.out 4).trans rfl, (blk_cell BK267.out 5).trans rfl, (blk_cell BK267.out 6).trans rfl, (blk_cell BK267.out 7).trans rfl, (blk_cell BK267.out 8).trans rfl, (blk_cell BK267.out 9).trans rfl, (blk_cell BK267.out 10).trans rfl, (blk_cell BK267.out 11).trans rfl⟩ (fun hHeld => ?_); refine with_tabW span_After.tab6 span_After.bits6 (fun HT_ HW_ => ?_)
        generalize wc.drew = w40 at HO_276000 BK266 BK267 BK268 BK269 BK275 HB hHeld ⊢
        refine pure_ (i := 1) (N := some 30) (v := ?_) (a' := ?_) #[false, true, false, false, false, false, false, false, false, false, false, false, false] rfl rfl (any_of HT_.out (by kernel_rfl)) (fun _ _ _ h => h) (Or.inl ⟨by rfl, ?_⟩) ?_ ?_
        rotate_left
        · intro w'
          go_simp
          with_reducible rfl
        rotate_left
        · simp only [Act.put, List.setIfInBounds_toArray, List.set_cons_zero, List.set_cons_succ, i64_w, i32_w]
          rfl
        refine pure_ (i := 6) (N := some 35) (v := ?_) (a' := ?_) #[false, true, false, false, false, false, true, false, false, false, false, false, false] rfl rfl (any_of HT_.out (by kernel_rfl)) (fun _ _ _ h => h) (Or.inl ⟨by rfl, ?_⟩) ?_ ?_
        rotate_left
        · intro w'
          go_simp
          with_reducible rfl
        rotate_left
        · simp only [Act.put, List.setIfInBounds_toArray, List.set_cons_zero, List.set_cons_succ, i64_w, i32_w]
          rfl
        refine take_ (i := 0) (N := some 29) (v := ?_) (a' := ?_) #[true, true, false, false, false, false, true, false, false, false, false, false, false] rfl rfl (take_ofW HT_.out HW_.out (by kernel_rfl)) (fun _ _ _ h => h) (Or.inl ⟨by rfl, ?_⟩) hHeld ?_ ?_
        rotate_left
        · rintro w' ⟨s0, s1, s2, s3, s4, s5, s6, s7, s8, s9, s10, s11, s12, s13, s14, s15, s16, s17⟩
          go_simp
          with_reducible rfl
        rotate_left
        · simp only [Act.put, List.setIfInBounds_toArray, List.set_cons_zero, List.set_cons_succ, i64_w, i32_w]
          rfl
        refine take_ (i := 2) (N := some 31) (v := ?_) (a' := ?_) #[true, true, true, false, false, false, true, false, false, false, false, false, false] rfl rfl (take_ofW HT_.out HW_.out (by kernel_rfl)) (fun _ _ _ h => h) (Or.inl ⟨by rfl, ?_⟩) hHeld ?_ ?_
        rotate_left
        · rintro w' ⟨s0, s1, s2, s3, s4, s5, s6, s7, s8, s9, s10, s11, s12, s13, s14, s15, s16, s17⟩
          go_simp
          with_reducible rfl
        rotate_left
        · simp only [Act.put, List.setIfInBounds_toArray, List.set_cons_zero, List.set_cons_succ, i64_w, i32_w]
          rfl
        refine take_ (i := 3) (N := some 32) (v := ?_) (a' := ?_) #[true, true, true, true, false, false, true, false, false, false, false, false, false] rfl rfl (take_ofW HT_.out HW_.out (by kernel_rfl)) (fun _ _ _ h => h) (Or.inl ⟨by rfl, ?_⟩) hHeld ?_ ?_
        rotate_left
        · rintro w' ⟨s0, s1, s2, s3, s4, s5, s6, s7, s8, s9, s10, s11, s12, s13, s14, s15, s16, s17⟩
          go_simp
          with_reducible rfl
        rotate_left
        · simp only [Act.put, List.setIfInBounds_toArray, List.set_cons_zero, List.set_cons_succ, i64_w, i32_w]
          rfl
        refine take_ (i := 5) (N := some 34) (v := ?_) (a' := ?_) #[true, true, true, true, false, true, true, false, false, false, false, false, false] rfl rfl (take_ofW HT_.out HW_.out (by kernel_rfl)) (fun _ _ _ h => h) (Or.inl ⟨by rfl, ?_⟩) hHeld ?_ ?_
        rotate_left
        · rintro w' ⟨s0, s1, s2, s3, s4, s5, s6, s7, s8, s9, s10, s11, s12, s13, s14, s15, s16, s17⟩
          go_simp
          with_reducible rfl
        rotate_left
        · simp only [Act.put, List.setIfInBounds_toArray, List.set_cons_zero, List.set_cons_succ, i64_w, i32_w]
          rfl
        refine take_ (i := 7) (N := some 36) (v := ?_) (a' := ?_) #[true, true, true, true, false, true, true, true, false, false, false, false, false] rfl rfl (take_ofW HT_.out HW_.out (by kernel_rfl)) (fun _ _ _ h => h) (Or.inl ⟨by rfl, ?_⟩) hHeld ?_ ?_
        rotate_left
        · rintro w' ⟨s0, s1, s2, s3, s4, s5, s6, s7, s8, s9, s10, s11, s12, s13, s14, s15, s16, s17⟩
          go_simp
          with_reducible rfl
        rotate_left
        · simp only [Act.put, List.setIfInBounds_toArray, List.set_cons_zero, List.set_cons_succ, i64_w, i32_w]
          rfl
        refine take_ (i := 8) (N := some 37) (v := ?_) (a' := ?_) #[true, true, true, true, false, true, true, true, true, false, false, false, false] rfl rfl (take_ofW HT_.out HW_.out (by kernel_rfl)) (fun _ _ _ h => h) (Or.inl ⟨by rfl, ?_⟩) hHeld ?_ ?_
        rotate_left
        · rintro w' ⟨s0, s1, s2, s3, s4, s5, s6, s7, s8, s9, s10, s11, s12, s13, s14, s15, s16, s17⟩
          go_simp
          with_reducible rfl
        rotate_left
        · simp only [Act.put, List.setIfInBounds_toArray, List.set_cons_zero, List.set_cons_succ, i64_w, i32_w]
          rfl
        refine one_ (i := 4) (N := some 33) #[true, true, true, true, true, true, true, true, true, false, false, false, false] rfl rfl (one_of HT_.out (by kernel_rfl)) (by decide) (fun K hK => ?_)
        refine goes_ Tryd.func21 (by kernel_rfl) rfl #[.agg #[.slice Ao19 t270.length co19, .bool t273], .agg #[.int .i64 a2_0, .int .i64 a2_1], .agg #[.int .i64 a1_0, .int .i64 a1_1, .int .i64 a1_2, .int .i64 a1_3, .string a1_4, .string a1_5, .int .i64 a1_6, .string a1_7, .slice A1_8 l1_8.length c1_8, .string a1_9, .int .i64 a1_10, .slice A1_11 l1_11.length c1_11]] (by rfl) rfl rfl mp_ ?_
        with_reducible refine (span_ranger_moved.calls _ _ t270 t273 a2_0 a2_1 a1_0 a1_1 a1_2 a1_3 a1_4 a1_5 a1_6 a1_7 _ _ l1_8 a1_9 a1_10 _ _ l1_11 t282 t283 _ ?side1 ?side2 ?side3 ?side4 ?side5 ?side6 A38.out).mono ?_
        (case side1 => repeat (first | exact (Kd.V_reads' HO_276000.out).2.2 | (with_reducible refine Kd.C_alloc ?_ _) | (with_reducible refine Kd.C_drewN ?_ _) | (with_reducible refine Kd.C_drew ?_)))
        (case side2 => exact (Kd.V_reads' HO_276000.out).2.1)
        (case side3 => repeat (first | exact (Kd.C_below HR1_8.out HB.out) | (with_reducible refine Kd.C_alloc ?_ _) | (with_reducible refine Kd.C_drewN ?_ _) | (with_reducible refine Kd.C_drew ?_)))
        (case side4 => exact HC1_8.out)
        (case side5 => repeat (first | exact (Kd.C_below HR1_11.out HB.out) | (with_reducible refine Kd.C_alloc ?_ _) | (with_reducible refine Kd.C_drewN ?_ _) | (with_reducible refine Kd.C_drew ?_)))
        (case side6 => exact HC1_11.out)
        rintro e w41 ⟨rfl, hb⟩
        refine ⟨_, rfl, ?_⟩
        have n0_ := Aside0.mk (Kd.V_below (Kd.V_below HO_276000.out bu_) hb)
        have n1_ := Aside0.mk (blk_below (bq_ BK266.out) hb)
        have n2_ := Aside0.mk (blk_below (bq_ BK267.out) hb)
        have n3_ := Aside0.mk (blk_below (bq_ BK268.out) hb)
        have n4_ := Aside0.mk (blk_below (bq_ BK269.out) hb)
        have n5_ := Aside0.mk (blk_below (bq_ BK275.out) hb)
        have n6_ := Aside0.mk (below_step bl0_ hb)
        clear HO_276000
        clear BK266
        clear BK267
        clear BK268
        clear BK269
        clear BK275
        clear HB
        have HO_276000 := n0_
        have BK266 := n1_
        have BK267 := n2_
        have BK268 := n3_
        have BK269 := n4_
        have BK275 := n5_
        have HB := n6_
        clear n0_ n1_ n2_ n3_ n4_ n5_ n6_
        (try clear hb)
        (try clear hb2)
        (try clear hk)
        (try clear hi)
        refine hK.out _ _ ⟨(blk_cell BK275.out 0).trans rfl, (blk_cell BK275.out 1).trans rfl, (blk_cell BK268.out 0).trans rfl, (blk_cell BK268.out 1).trans rfl, (blk_cell BK268.out 2).trans rfl, (blk_cell BK268.out 3).trans rfl, (blk_cell BK267.out 0).trans rfl, (blk_cell BK267.out 1).trans rfl, (blk_cell BK267.out 2).trans rfl, (blk_cell BK267.out 3).trans rfl, (blk_cell BK267.out 4).trans rfl, (blk_cell BK267.out 5).trans rfl, (blk_cell BK267.out 6).trans rfl, (blk_cell BK267.out 7).trans rfl, (blk_cell BK267.out 8).trans rfl, (blk_cell BK267.out 9).trans rfl, (blk_cell BK267.out 10).trans rfl, (blk_cell BK267.out 11).trans rfl⟩ (fun hHeld => ?_)
        clear hK K
        refine norm_ (a' := ?_) ?_ ?_
        rotate_left
        · show Act.put _ (some 33) _ = _
          simp only [Act.put, List.setIfInBounds_toArray, List.set_cons_zero, List.set_cons_succ, i64_w, i32_w]
          rfl
        refine one_ (i := 9) (N := some 38) #[true, true, true, true, true, true, true, true, true, true, false, false, false] rfl rfl (one_of HT_.out (by kernel_rfl)) (by decide) (fun K hK => ?_)
        refine goes_ Tryd.func21 (by kernel_rfl) rfl #[.agg #[.slice Ao19 t270.length co19, .bool t273], .agg #[.int .i64 a2_2, .int .i64 a2_3], .agg #[.int .i64 a1_0, .int .i64 a1_1, .int .i64 a1_2, .int .i64 a1_3, .string a1_4, .string a1_5, .int .i64 a1_6, .string a1_7, .slice A1_8 l1_8.length c1_8, .string a1_9, .int .i64 a1_10, .slice A1_11 l1_11.length c1_11]] (by rfl) rfl rfl mp_ ?_
        with_reducible refine (span_ranger_moved.calls _ _ t270 t273 a2_2 a2_3 a1_0 a1_1 a1_2 a1_3 a1_4 a1_5 a1_6 a1_7 _ _ l1_8 a1_9 a1_10 _ _ l1_11 t284 t285 _ ?side1 ?side2 ?side3 ?side4 ?side5 ?side6 A39.out).mono ?_
        (case side1 => repeat (first | exact (Kd.V_reads' HO_276000.out).2.2 | (with_reducible refine Kd.C_alloc ?_ _) | (with_reducible refine Kd.C_drewN ?_ _) | (with_reducible refine Kd.C_drew ?_)))
        (case side2 => exact (Kd.V_reads' HO_276000.out).2.1)
        (case side3 => repeat (first | exact (Kd.C_below HR1_8.out HB.out) | (with_reducible refine Kd.C_alloc ?_ _) | (with_reducible refine Kd.C_drewN ?_ _) | (with_reducible refine Kd.C_drew ?_)))
        (case side4 => exact HC1_8.out)
        (case side5 => repeat (first | exact (Kd.C_below HR1_11.out HB.out) | (with_reducible refine Kd.C_alloc ?_ _) | (with_reducible refine Kd.C_drewN ?_ _) | (with_reducible refine Kd.C_drew ?_)))
        (case side6 => exact HC1_11.out)
        rintro e w42 ⟨rfl, hb⟩
        refine ⟨_, rfl, ?_⟩
        have n0_ := Aside0.mk (Kd.V_below (Kd.V_below HO_276000.out bu_) hb)
        have n1_ := Aside0.mk (blk_below (bq_ BK266.out) hb)
        have n2_ := Aside0.mk (blk_below (bq_ BK267.out) hb)
        have n3_ := Aside0.mk (blk_below (bq_ BK268.out) hb)
        have n4_ := Aside0.mk (blk_below (bq_ BK269.out) hb)
        have n5_ := Aside0.mk (blk_below (bq_ BK275.out) hb)
        have n6_ := Aside0.mk (below_step bl0_ hb)
        clear HO_276000
        clear BK266
        clear BK267
        clear BK268
        clear BK269
        clear BK275
        clear HB
        have HO_276000 := n0_
        have BK266 := n1_
        have BK267 := n2_
        have BK268 := n3_
        have BK269 := n4_
        have BK275 := n5_
        have HB := n6_
        clear n0_ n1_ n2_ n3_ n4_ n5_ n6_
        (try clear hb)
        (try clear hb2)
        (try clear hk)
        (try clear hi)
        refine hK.out _ _ ⟨(blk_cell BK275.out 0).trans rfl, (blk_cell BK275.out 1).trans rfl, (blk_cell BK268.out 0).trans rfl, (blk_cell BK268.out 1).trans rfl, (blk_cell BK268.out 2).trans rfl, (blk_cell BK268.out 3).trans rfl, (blk_cell BK267.out 0).trans rfl, (blk_cell BK267.out 1).trans rfl, (blk_cell BK267.out 2).trans rfl, (blk_cell BK267.out 3).trans rfl, (blk_cell BK267.out 4).trans rfl, (blk_cell BK267.out 5).trans rfl, (blk_cell BK267.out 6).trans rfl, (blk_cell BK267.out 7).trans rfl, (blk_cell BK267.out 8).trans rfl, (blk_cell BK267.out 9).trans rfl, (blk_cell BK267.out 10).trans rfl, (blk_cell BK267.out 11).trans rfl⟩ (fun hHeld => ?_)
        clear hK K
        refine norm_ (a' := ?_) ?_ ?_
        rotate_left
        · show Act.put _ (some 38) _ = _
          simp only [Act.put, List.setIfInBounds_toArray, List.set_cons_zero, List.set_cons_succ, i64_w, i32_w]
          rfl
        refine pure_ (i := 10) (N := some 39) (v := ?_) (a' := ?_) #[true, true, true, true, true, true, true, true, true, true, true, false, false] rfl rfl (any_of HT_.out (by kernel_rfl)) (fun _ _ _ h => h) (Or.inl ⟨by rfl, ?_⟩) ?_ ?_
        rotate_left
        · intro w'
          go_simp
          with_reducible rfl
        rotate_left
        · simp only [Act.put, List.setIfInBounds_toArray, List.set_cons_zero, List.set_cons_succ, i64_w, i32_w]
          rfl
        refine one_ (i := 11) (N := none) #[true, true, true, true, true, true, true, true, true, true, true, true, false] rfl rfl (one_of HT_.out (by kernel_rfl)) (by decide) (fun K hK => ?_)
        have hs43 : w42.cell? ⟨gb269, 0, none⟩ = some (.int .i64 0) := (blk_cell BK269.out 0).trans rfl
        have hfs43 := blk_frozen BK269.out 0
        have hns43_0 := NB266_269.out
        have hns43_1 := NB267_269.out
        have hns43_2 := NB268_269.out
        have hns43_4 := NB275_269.out
        have hms43_0 := NB269_266.out
        have hms43_1 := NB269_267.out
        have hms43_2 := NB269_268.out
        have hms43_4 := NB269_275.out
        have hs44 : w42.cell? ⟨gb269, 1, none⟩ = some (.int .i64 0) := (blk_cell BK269.out 1).trans rfl
        have hfs44 := blk_frozen BK269.out 1
        have hns44_0 := NB266_269.out
        have hns44_1 := NB267_269.out
        have hns44_2 := NB268_269.out
        have hns44_4 := NB275_269.out
        have hms44_0 := NB269_266.out
        have hms44_1 := NB269_267.out
        have hms44_2 := NB269_268.out
        have hms44_4 := NB269_275.out
        have hs45 : w42.cell? ⟨gb269, 2, none⟩ = some (.int .i64 0) := (blk_cell BK269.out 2).trans rfl
        have hfs45 := blk_frozen BK269.out 2
        have hns45_0 := NB266_269.out
        have hns45_1 := NB267_269.out
        have hns45_2 := NB268_269.out
        have hns45_4 := NB275_269.out
        have hms45_0 := NB269_266.out
        have hms45_1 := NB269_267.out
        have hms45_2 := NB269_268.out
        have hms45_4 := NB269_275.out
        have hs46 : w42.cell? ⟨gb269, 3, none⟩ = some (.int .i64 0) := (blk_cell BK269.out 3).trans rfl
        have hfs46 := blk_frozen BK269.out 3
        have hns46_0 := NB266_269.out
        have hns46_1 := NB267_269.out
        have hns46_2 := NB268_269.out
        have hns46_4 := NB275_269.out
        have hms46_0 := NB269_266.out
        have hms46_1 := NB269_267.out
        have hms46_2 := NB269_268.out
        have hms46_4 := NB269_275.out
        refine skip_ (w1 := ?_) (by rfl) rfl ?_ ?_
        rotate_left
        · go_simp
          rfl
        refine hK.out _ _ ⟨((cell_far (p := ⟨gb269, _, none⟩) NB275_269.out _).trans (((cell_far (p := ⟨gb269, _, none⟩) NB275_269.out _).trans (((cell_far (p := ⟨gb269, _, none⟩) NB275_269.out _).trans (((cell_far (p := ⟨gb269, _, none⟩) NB275_269.out _).trans (hHeld.1)))))))), ((cell_far (p := ⟨gb269, _, none⟩) NB275_269.out _).trans (((cell_far (p := ⟨gb269, _, none⟩) NB275_269.out _).trans (((cell_far (p := ⟨gb269, _, none⟩) NB275_269.out _).trans (((cell_far (p := ⟨gb269, _, none⟩) NB275_269.out _).trans (hHeld.2.1)))))))), ((cell_far (p := ⟨gb269, _, none⟩) NB268_269.out _).trans (((cell_far (p := ⟨gb269, _, none⟩) NB268_269.out _).trans (((cell_far (p := ⟨gb269, _, none⟩) NB268_269.out _).trans (((cell_far (p := ⟨gb269, _, none⟩) NB268_269.out _).trans (hHeld.2.2.1)))))))), ((cell_far (p := ⟨gb269, _, none⟩) NB268_269.out _).trans (((cell_far (p := ⟨gb269, _, none⟩) NB268_269.out _).trans (((cell_far (p := ⟨gb269, _, none⟩) NB268_269.out _).trans (((cell_far (p := ⟨gb269, _, none⟩) NB268_269.out _).trans (hHeld.2.2.2.1)))))))), ((cell_far (p := ⟨gb269, _, none⟩) NB268_269.out _).trans (((cell_far (p := ⟨gb269, _, none⟩) NB268_269.out _).trans (((cell_far (p := ⟨gb269, _, none⟩) NB268_269.out _).trans (((cell_far (p := ⟨gb269, _, none⟩) NB268_269.out _).trans (hHeld.2.2.2.2.1)))))))), ((cell_far (p := ⟨gb269, _, none⟩) NB268_269.out _).trans (((cell_far (p := ⟨gb269, _, none⟩) NB268_269.out _).trans (((cell_far (p := ⟨gb269, _, none⟩) NB268_269.out _).trans (((cell_far (p := ⟨gb269, _, none⟩) NB268_269.out _).trans (hHeld.2.2.2.2.2.1)))))))), ((cell_far (p := ⟨gb269, _, none⟩) NB267_269.out _).trans (((cell_far (p := ⟨gb269, _, none⟩) NB267_269.out _).trans (((cell_far (p := ⟨gb269, _, none⟩) NB267_269.out _).trans (((cell_far (p := ⟨gb269, _, none⟩) NB267_269.out _).trans (hHeld.2.2.2.2.2.2.1)))))))), ((cell_far (p := ⟨gb269, _, none⟩) NB267_269.out _).trans (((cell_far (p := ⟨gb269, _, none⟩) NB267_269.out _).trans (((cell_far (p := ⟨gb269, _, none⟩) NB267_269.out _).trans (((cell_far (p := ⟨gb269, _, none⟩) NB267_269.out _).trans (hHeld.2.2.2.2.2.2.2.1)))))))), ((cell_far (p := ⟨gb269, _, none⟩) NB267_269.out _).trans (((cell_far (p := ⟨gb269, _, none⟩) NB267_269.out _).trans (((cell_far (p := ⟨gb269, _, none⟩) NB267_269.out _).trans (((cell_far (p := ⟨gb269, _, none⟩) NB267_269.out _).trans (hHeld.2.2.2.2.2.2.2.2.1)))))))), ((cell_far (p := ⟨gb269, _, none⟩) NB267_269.out _).trans (((cell_far (p := ⟨gb269, _, none⟩) NB267_269.out _).trans (((cell_far (p := ⟨gb269, _, none⟩) NB267_269.out _).trans (((cell_far (p := ⟨gb269, _, none⟩) NB267_269.out _).trans (hHeld.2.2.2.2.2.2.2.2.2.1)))))))), ((cell_far (p := ⟨gb269, _, none⟩) NB267_269.out _).trans (((cell_far (p := ⟨gb269, _, none⟩) NB267_269.out _).trans (((cell_far (p := ⟨gb269, _, none⟩) NB267_269.out _).trans (((cell_far (p := ⟨gb269, _, none⟩) NB267_269.out _).trans (hHeld.2.2.2.2.2.2.2.2.2.2.1)))))))), ((cell_far (p := ⟨gb269, _, none⟩) NB267_269.out _).trans (((cell_far (p := ⟨gb269, _, none⟩) NB267_269.out _).trans (((cell_far (p := ⟨gb269, _, none⟩) NB267_269.out _).trans (((cell_far (p := ⟨gb269, _, none⟩) NB267_269.out _).trans (hHeld.2.2.2.2.2.2.2.2.2.2.2.1)))))))), ((cell_far (p := ⟨gb269, _, none⟩) NB267_269.out _).trans (((cell_far (p := ⟨gb269, _, none⟩) NB267_269.out _).trans (((cell_far (p := ⟨gb269, _, none⟩) NB267_269.out _).trans (((cell_far (p := ⟨gb269, _, none⟩) NB267_269.out _).trans (hHeld.2.2.2.2.2.2.2.2.2.2.2.2.1)))))))), ((cell_far (p := ⟨gb269, _, none⟩) NB267_269.out _).trans (((cell_far (p := ⟨gb269, _, none⟩) NB267_269.out _).trans (((cell_far (p := ⟨gb269, _, none⟩) NB267_269.out _).trans (((cell_far (p := ⟨gb269, _, none⟩) NB267_269.out _).trans (hHeld.2.2.2.2.2.2.2.2.2.2.2.2.2.1)))))))), ((cell_far (p := ⟨gb269, _, none⟩) NB267_269.out _).trans (((cell_far (p := ⟨gb269, _, none⟩) NB267_269.out _).trans (((cell_far (p := ⟨gb269, _, none⟩) NB267_269.out _).trans (((cell_far (p := ⟨gb269, _, none⟩) NB267_269.out _).trans (hHeld.2.2.2.2.2.2.2.2.2.2.2.2.2.2.1)))))))), ((cell_far (p := ⟨gb269, _, none⟩) NB267_269.out _).trans (((cell_far (p := ⟨gb269, _, none⟩) NB267_269.out _).trans (((cell_far (p := ⟨gb269, _, none⟩) NB267_269.out _).trans (((cell_far (p := ⟨gb269, _, none⟩) NB267_269.out _).trans (hHeld.2.2.2.2.2.2.2.2.2.2.2.2.2.2.2.1)))))))), ((cell_far (p := ⟨gb269, _, none⟩) NB267_269.out _).trans (((cell_far (p := ⟨gb269, _, none⟩) NB267_269.out _).trans (((cell_far (p := ⟨gb269, _, none⟩) NB267_269.out _).trans (((cell_far (p := ⟨gb269, _, none⟩) NB267_269.out _).trans (hHeld.2.2.2.2.2.2.2.2.2.2.2.2.2.2.2.2.1)))))))), ((cell_far (p := ⟨gb269, _, none⟩) NB267_269.out _).trans (((cell_far (p := ⟨gb269, _, none⟩) NB267_269.out _).trans (((cell_far (p := ⟨gb269, _, none⟩) NB267_269.out _).trans (((cell_far (p := ⟨gb269, _, none⟩) NB267_269.out _).trans (hHeld.2.2.2.2.2.2.2.2.2.2.2.2.2.2.2.2.2))))))))⟩ (fun hHeld => ?_)
        clear hK K
        refine pure_ (i := 12) (N := some 7) (v := ?_) (a' := ?_) #[true, true, true, true, true, true, true, true, true, true, true, true, true] rfl rfl (any_of HT_.out (by kernel_rfl)) (fun _ _ _ h => h) (Or.inl ⟨by rfl, ?_⟩) ?_ ?_
        rotate_left
        · intro w'
          go_simp
          with_reducible rfl
        rotate_left
        · simp only [Act.put, List.setIfInBounds_toArray, List.set_cons_zero, List.set_cons_succ, i64_w, i32_w]
          rfl
        refine done_ (done_of HT_.out (by kernel_rfl)) ?_
        try go_wp2
        refine bodyPost_ret (results_ct rfl _ _ gb269 28 #[.int .i64 t282, .int .i64 t283, .int .i64 t284, .int .i64 t285] (0, 0) _ rfl (by (with_reducible repeat (first | refine blk_drewN ?_ _ | refine blk_drew ?_ | refine blk_alloc ?_ _)); refine blk_put (cs := #[.int .i64 t282, .int .i64 t283, .int .i64 t284, .int .i64 0]) ?_ 3 _ rfl; (with_reducible repeat (first | refine blk_drewN ?_ _ | refine blk_drew ?_ | refine blk_alloc ?_ _)); refine blk_put (cs := #[.int .i64 t282, .int .i64 t283, .int .i64 0, .int .i64 0]) ?_ 2 _ rfl; (with_reducible repeat (first | refine blk_drewN ?_ _ | refine blk_drew ?_ | refine blk_alloc ?_ _)); refine blk_put (cs := #[.int .i64 t282, .int .i64 0, .int .i64 0, .int .i64 0]) ?_ 1 _ rfl; (with_reducible repeat (first | refine blk_drewN ?_ _ | refine blk_drew ?_ | refine blk_alloc ?_ _)); refine blk_put (cs := #[.int .i64 0, .int .i64 0, .int .i64 0, .int .i64 0]) ?_ 0 _ rfl; (with_reducible repeat (first | refine blk_drewN ?_ _ | refine blk_drew ?_ | refine blk_alloc ?_ _)); exact BK269.out) Tryd.underlying28 rfl (by kernel_rfl)) rfl ?_
        exact ⟨er_, bl0_⟩
      · rw [if_neg c37] at H
        have c37b0 : (x9_4 == 0) = false := beq_eq_false_iff_ne.mpr c37
        have c37b1 : (x9_4 != 0) = true := bne_iff_ne.mpr c37
        simp only [Option.some.injEq, Prod.mk.injEq] at H
        obtain ⟨rfl, rfl, rfl, rfl, rfl⟩ := H
        have hnb47 := NB269_266.out
        have hnc47 := NB266_269.out
        have hnb48 := NB269_267.out
        have hnc48 := NB267_269.out
        have hnb49 := NB269_268.out
        have hnc49 := NB268_269.out
        have hnb50 := NB269_275.out
        have hnc50 := NB275_269.out
        have hcz51_0 : wc.cell? ⟨gb269, 0, none⟩ = some (.int .i64 0) := (blk_cell BK269.out 0).trans rfl
        have hcz51_1 : wc.cell? ⟨gb269, 1, none⟩ = some (.int .i64 0) := (blk_cell BK269.out 1).trans rfl
        have hcz51_2 : wc.cell? ⟨gb269, 2, none⟩ = some (.int .i64 0) := (blk_cell BK269.out 2).trans rfl
        have hcz51_3 : wc.cell? ⟨gb269, 3, none⟩ = some (.int .i64 0) := (blk_cell BK269.out 3).trans rfl
        have hfz51_0 := blk_frozen BK269.out 0
        have hfz51_1 := blk_frozen BK269.out 1
        have hfz51_2 := blk_frozen BK269.out 2
        have hfz51_3 := blk_frozen BK269.out 3
        go_wp2
        refine bodyPost_ret (results_ct rfl _ _ gb269 28 #[.int .i64 0, .int .i64 0, .int .i64 0, .int .i64 0] (0, 0) _ rfl (by (with_reducible repeat (first | refine blk_drewN ?_ _ | refine blk_drew ?_ | refine blk_alloc ?_ _)); refine blk_put (cs := #[.int .i64 0, .int .i64 0, .int .i64 0, .int .i64 0]) ?_ 3 _ rfl; (with_reducible repeat (first | refine blk_drewN ?_ _ | refine blk_drew ?_ | refine blk_alloc ?_ _)); refine blk_put (cs := #[.int .i64 0, .int .i64 0, .int .i64 0, .int .i64 0]) ?_ 2 _ rfl; (with_reducible repeat (first | refine blk_drewN ?_ _ | refine blk_drew ?_ | refine blk_alloc ?_ _)); refine blk_put (cs := #[.int .i64 0, .int .i64 0, .int .i64 0, .int .i64 0]) ?_ 1 _ rfl; (with_reducible repeat (first | refine blk_drewN ?_ _ | refine blk_drew ?_ | refine blk_alloc ?_ _)); refine blk_put (cs := #[.int .i64 0, .int .i64 0, .int .i64 0, .int .i64 0]) ?_ 0 _ rfl; (with_reducible repeat (first | refine blk_drewN ?_ _ | refine blk_drew ?_ | refine blk_alloc ?_ _)); exact BK269.out) Tryd.underlying28 rfl (by kernel_rfl)) rfl ?_
        exact ⟨er_, bl0_⟩

/-! ### clerestorykeep1_spanBegun: function 6 -/
def clerestorykeep1_spanBegun.f (k : Nat)  : Option (Bool) := (some (([(⟨1, (⟨#[]⟩ : ByteArray), ([] : List (S86)), (⟨#[]⟩ : ByteArray), (-1), (([1] : List Int))⟩ : S37), (⟨4, (⟨#[]⟩ : ByteArray), ([] : List (S86)), (⟨#[97, 98, 99]⟩ : ByteArray), 0, ([] : List Int)⟩ : S37)] : List (S37)) : List (S37))).bind fun y289 => ((span_Less.f k y289 false 0 0 1 2).bind fun bt293 => ((span_After.f k y289 false 3 1 0 0 (⟨#[]⟩ : ByteArray) (⟨#[97]⟩ : ByteArray) 0 (⟨#[]⟩ : ByteArray) ([] : List (S86)) (⟨#[]⟩ : ByteArray) 0 ([] : List Int) 1 0 1 3).bind fun bt295 => (if bt293.1 = true then (if bt293.2 = 0 then (if bt295.2.2.2.1 = 1 then (some (bt295.2.2.2.2 == 0)) else (some false)) else (some false)) else (some false))))
theorem clerestorykeep1_spanBegun.mono : ∀ k, LeO (clerestorykeep1_spanBegun.f k ) (clerestorykeep1_spanBegun.f (k + 1) ) := by
  intro  k
  unfold clerestorykeep1_spanBegun.f
  repeat' first
      | (with_reducible exact span_After.mono _ _ _ _ _ _ _ _ _ _ _ _ _ _ _ _ _ _ _)
      | (with_reducible exact span_Less.mono _ _ _ _ _ _ _)
      | (with_reducible exact LeO.refl _)
      | (with_reducible exact LeO.none _)
      | (with_reducible refine LeO.ite ?_ ?_)
      | (with_reducible refine LeO.bind ?_ (fun _ => ?_))
      | exact span_After.mono _ _ _ _ _ _ _ _ _ _ _ _ _ _ _ _ _ _ _
      | exact span_Less.mono _ _ _ _ _ _ _
      | exact LeO.none _
      | refine LeO.ite ?_ ?_
      | refine LeO.bind ?_ (fun _ => ?_)
set_option maxHeartbeats 8000000 in
set_option maxRecDepth 100000 in
theorem clerestorykeep1_spanBegun.calls (k : Nat)  (r : Bool) (w : World) (h : clerestorykeep1_spanBegun.f k  = some r) :
    Calls Tryd.prog 6 #[] w fun e w' => e = .returned (.bool r) ∧ Below w.heap.size w w' := by
  have hu37 := Tryd.underlying37
  have hu24 := Tryd.underlying24
  have hu26 := Tryd.underlying26
  have hu54 := Tryd.underlying54
  have hu28 := Tryd.underlying28
  have HB := Aside0.mk (Below.refl w.heap.size w)
  have H : ((some (([(⟨1, (⟨#[]⟩ : ByteArray), ([] : List (S86)), (⟨#[]⟩ : ByteArray), (-1), (([1] : List Int))⟩ : S37), (⟨4, (⟨#[]⟩ : ByteArray), ([] : List (S86)), (⟨#[97, 98, 99]⟩ : ByteArray), 0, ([] : List Int)⟩ : S37)] : List (S37)) : List (S37))).bind fun y289 => ((span_Less.f k y289 false 0 0 1 2).bind fun bt293 => ((span_After.f k y289 false 3 1 0 0 (⟨#[]⟩ : ByteArray) (⟨#[97]⟩ : ByteArray) 0 (⟨#[]⟩ : ByteArray) ([] : List (S86)) (⟨#[]⟩ : ByteArray) 0 ([] : List Int) 1 0 1 3).bind fun bt295 => (if bt293.1 = true then (if bt293.2 = 0 then (if bt295.2.2.2.1 = 1 then (some (bt295.2.2.2.2 == 0)) else (some false)) else (some false)) else (some false))))) = some r := h
  clear h
  obtain ⟨y286, hy286⟩ : ∃ y_ : List Int, y_ = (([1] : List Int)) := ⟨_, rfl⟩
  replace H : ((some (([(⟨1, (⟨#[]⟩ : ByteArray), ([] : List (S86)), (⟨#[]⟩ : ByteArray), (-1), y286⟩ : S37), (⟨4, (⟨#[]⟩ : ByteArray), ([] : List (S86)), (⟨#[97, 98, 99]⟩ : ByteArray), 0, ([] : List Int)⟩ : S37)] : List (S37)) : List (S37))).bind fun y289 => ((span_Less.f k y289 false 0 0 1 2).bind fun bt293 => ((span_After.f k y289 false 3 1 0 0 (⟨#[]⟩ : ByteArray) (⟨#[97]⟩ : ByteArray) 0 (⟨#[]⟩ : ByteArray) ([] : List (S86)) (⟨#[]⟩ : ByteArray) 0 ([] : List Int) 1 0 1 3).bind fun bt295 => (if bt293.1 = true then (if bt293.2 = 0 then (if bt295.2.2.2.1 = 1 then (some (bt295.2.2.2.2 == 0)) else (some false)) else (some false)) else (some false))))) = some r := by first | (rw [hy286]; with_reducible exact H) | (have H2_ := (Option.bind_some _ _).symm.trans H; rw [hy286]; with_reducible exact H2_) | (have H2_ := (Option.bind_some _ _).symm.trans H; with_reducible exact H2_) | with_reducible exact H | (rw [hy286]; exact H) | exact H
  have Ny286 := Aside0.mk hy286
  clear hy286
  obtain ⟨y289, hy289⟩ : ∃ y_ : List (S37), y_ = (([(⟨1, (⟨#[]⟩ : ByteArray), ([] : List (S86)), (⟨#[]⟩ : ByteArray), (-1), y286⟩ : S37), (⟨4, (⟨#[]⟩ : ByteArray), ([] : List (S86)), (⟨#[97, 98, 99]⟩ : ByteArray), 0, ([] : List Int)⟩ : S37)] : List (S37))) := ⟨_, rfl⟩
  replace H : ((span_Less.f k y289 false 0 0 1 2).bind fun bt293 => ((span_After.f k y289 false 3 1 0 0 (⟨#[]⟩ : ByteArray) (⟨#[97]⟩ : ByteArray) 0 (⟨#[]⟩ : ByteArray) ([] : List (S86)) (⟨#[]⟩ : ByteArray) 0 ([] : List Int) 1 0 1 3).bind fun bt295 => (if bt293.1 = true then (if bt293.2 = 0 then (if bt295.2.2.2.1 = 1 then (some (bt295.2.2.2.2 == 0)) else (some false)) else (some false)) else (some false)))) = some r := by first | (rw [hy289]; with_reducible exact H) | (have H2_ := (Option.bind_some _ _).symm.trans H; rw [hy289]; with_reducible exact H2_) | (have H2_ := (Option.bind_some _ _).symm.trans H; with_reducible exact H2_) | with_reducible exact H | (rw [hy289]; exact H) | exact H
  have Ny289 := Aside0.mk hy289
  clear hy289
  replace H := Option.bind_eq_some_iff.mp H
  obtain ⟨⟨t293, t294⟩, A10, H⟩ := H
  replace H : ((span_After.f k y289 false 3 1 0 0 (⟨#[]⟩ : ByteArray) (⟨#[97]⟩ : ByteArray) 0 (⟨#[]⟩ : ByteArray) ([] : List (S86)) (⟨#[]⟩ : ByteArray) 0 ([] : List Int) 1 0 1 3).bind fun bt295 => (if t293 = true then (if t294 = 0 then (if bt295.2.2.2.1 = 1 then (some (bt295.2.2.2.2 == 0)) else (some false)) else (some false)) else (some false))) = some r := H
  have A1 := Aside0.mk A10
  clear A10
  replace H := Option.bind_eq_some_iff.mp H
  obtain ⟨⟨t295, t296, t297, t298, t299⟩, A20, H⟩ := H
  replace H : (if t293 = true then (if t294 = 0 then (if t298 = 1 then (some (t299 == 0)) else (some false)) else (some false)) else (some false)) = some r := H
  have A2 := Aside0.mk A20
  clear A20
  by_cases c3 : t293 = true
  · subst c3
    have H1 : (if t294 = 0 then (if t298 = 1 then (some (t299 == 0)) else (some false)) else (some false)) = some r := by rw [if_pos rfl] at H; exact H
    clear H
    have H := H1
    clear H1
    by_cases c4 : t294 = 0
    · rw [if_pos c4] at H
      have c4b0 : (t294 == 0) = true := beq_iff_eq.mpr c4
      have c4b1 : (t294 != 0) = false := bne_eq_false_iff_eq.mpr c4
      clear c4
      by_cases c5 : t298 = 1
      · rw [if_pos c5] at H
        have c5b0 : (t298 == 1) = true := beq_iff_eq.mpr c5
        have c5b1 : (t298 != 1) = false := bne_eq_false_iff_eq.mpr c5
        clear c5
        obtain rfl := Option.some.inj H
        go_enter Tryd.func6, Tryd.ntmps6
        go_wp2_with (first | ((with_reducible refine gate_dst (N := 6) rfl ?_); refine Kd.R_lit (Kd.int .i64) _ 3 ?hg (N := 6) ?hd (xs := ([1] : List Int)) (inner := [.int .i64 1]) (ok := fun _ => True) (okp := fun _ => True) ?hr ?hp (fun _ hk => hk) trivial (Below.refl _ _) (Nat.le_refl _) (by simp) ?_; (case hd => rfl); (case hg => rfl); (case hr => first | (go_simp; done) | (go_simp; rfl)); (case hp => exact (Reps.one (show Kd.M (Kd.int .i64) _ _ _ 1 [.int .i64 1] from rfl) (Reps.none _ _))); intro v287 w6 ho7 hb hg_ hnew_; clear hg_ hnew_; (first | rw [← Ny286.out] at ho7 | (simp only [Int.reduceToNat] at ho7; rw [← Ny286.out] at ho7)); have n0_ := Aside0.mk (Kd.R_lower ho7 (below_size bl0_)); have n1_ := Aside0.mk (below_step bl0_ hb); clear HB; have HO288 := n0_; have HB := n1_; clear n0_ n1_; clear hb ho7; obtain ⟨Ao8, co8, eo8⟩ := Kd.R_slice HO288.out; subst eo8) | ((with_reducible refine gate_dst (N := 9) rfl ?_); refine Kd.N_lit k37 _ 37 ?hg (N' := 9) ?hd (xs := ([(⟨1, (⟨#[]⟩ : ByteArray), ([] : List (S86)), (⟨#[]⟩ : ByteArray), (-1), y286⟩ : S37), (⟨4, (⟨#[]⟩ : ByteArray), ([] : List (S86)), (⟨#[97, 98, 99]⟩ : ByteArray), 0, ([] : List Int)⟩ : S37)] : List (S37))) (inner := [.int .i64 1, .string (⟨#[]⟩ : ByteArray), .slice none 0 0, .string (⟨#[]⟩ : ByteArray), .int .i64 (-1), .slice Ao8 y286.length co8, .int .i64 4, .string (⟨#[]⟩ : ByteArray), .slice none 0 0, .string (⟨#[97, 98, 99]⟩ : ByteArray), .int .i64 0, .slice none 0 0]) (ok := (fun _ => True)) (okp := (fun _ => True)) ?hr ?hp (fun _ hk => hk) ((show ∀ k_, w6.heap.size ≤ k_ → (fun _ => True) k_ from fun k_ hk => trivial) _ (Nat.le_refl _)) (Below.refl _ _) (Nat.le_refl _) (by simp) ?_; (case hd => rfl); (case hg => rfl); (case hr => first | (go_simp; done) | (go_simp; rfl)); (case hp => exact (Reps.c6 (show Kd.FK k37 _ _ (⟨1, (⟨#[]⟩ : ByteArray), ([] : List (S86)), (⟨#[]⟩ : ByteArray), (-1), y286⟩ : S37) [.int .i64 1, .string (⟨#[]⟩ : ByteArray), .slice none 0 0, .string (⟨#[]⟩ : ByteArray), .int .i64 (-1), .slice Ao8 y286.length co8] from (k37_mkF _ _ (⟨1, (⟨#[]⟩ : ByteArray), ([] : List (S86)), (⟨#[]⟩ : ByteArray), (-1), y286⟩ : S37) (Nat.le_refl _) (Kd.F_nil _ _ _) (Kd.R_reads' (Kd.R_mono (ok' := (fun _ => True)) (HO288.out) (fun k_ hk => trivial))).2.1 (Kd.R_F (Kd.R_mono (ok' := (fun _ => True)) (HO288.out) (fun k_ hk => trivial))))) (Reps.c6 (show Kd.FK k37 _ _ (⟨4, (⟨#[]⟩ : ByteArray), ([] : List (S86)), (⟨#[97, 98, 99]⟩ : ByteArray), 0, ([] : List Int)⟩ : S37) [.int .i64 4, .string (⟨#[]⟩ : ByteArray), .slice none 0 0, .string (⟨#[97, 98, 99]⟩ : ByteArray), .int .i64 0, .slice none 0 0] from (k37_mkF _ _ (⟨4, (⟨#[]⟩ : ByteArray), ([] : List (S86)), (⟨#[97, 98, 99]⟩ : ByteArray), 0, ([] : List Int)⟩ : S37) (Nat.le_refl _) (Kd.F_nil _ _ _) (Nat.le_refl _) (Kd.F_nil _ _ _))) (Reps.none _ _)))); intro v290 w9 ho10 hb hg_ hnew_; clear hg_ hnew_; (first | rw [← Ny289.out] at ho10 | (simp only [Int.reduceToNat] at ho10; rw [← Ny289.out] at ho10)); have n0_ := Aside0.mk (Kd.N_lower ho10 (below_size bl0_)); have n1_ := Aside0.mk (below_step bl0_ hb); clear HB; clear HO288; have HO291 := n0_; have HB := n1_; clear n0_ n1_; clear hb ho10; obtain ⟨Ao11, co11, eo11⟩ := Kd.N_slice HO291.out; subst eo11) | ((with_reducible refine gate_dst (N := 1) rfl ?_); refine box_event ?hg (N := 1) ?hd (cs := #[.slice none 0 0, .bool false]) (t := 24) ?hr ?_; (case hd => rfl); (case hg => rfl); (case hr => first | (go_simp; done) | (go_simp; rfl)); intro gb292 hg w12 hbox hb; have n0_ := Aside0.mk (Kd.N_below (Kd.N_elderB (Kd.N_below HO291.out bu_) gb292 (Nat.le_of_eq hg.symm)) hb); have n1_ := Aside0.mk (below_step bl0_ hb); have n2_ := Aside0.mk (hbox); have n3_ := Aside0.mk (gle_ (w := w) hg bl0_); have n4_ := n3_; clear HO291; clear HB; have HO291 := n0_; have HB := n1_; have BK292 := n2_; have GW292 := n3_; have GE292 := n4_; clear n0_ n1_ n2_ n3_ n4_; clear hb hbox hg; have hcz13_0 : w12.cell? ⟨gb292, 0, none⟩ = some (.slice none 0 0) := (blk_cell BK292.out 0).trans rfl; have hcz13_1 : w12.cell? ⟨gb292, 1, none⟩ = some (.bool false) := (blk_cell BK292.out 1).trans rfl; have hfz13_0 := blk_frozen BK292.out 0; have hfz13_1 := blk_frozen BK292.out 1) | ((with_reducible refine gate_callee (f := 13) rfl ?_); refine goesL_ (some 15) rfl rfl Tryd.func13 (by kernel_rfl) rfl #[.agg #[.slice Ao11 y289.length co11, .bool false], .agg #[.int .i64 0, .int .i64 0], .agg #[.int .i64 1, .int .i64 2]] rfl mp_ ?_; (with_reducible refine (span_Less.calls k _ _ y289 false 0 0 1 2 true t294 _ ?side1 ?side2 A1.out).mono ?_); (case side1 => refine (Kd.N_reads' (e := 37) (base := w.heap.size) (ok := fun k_ => (True ∧ k_ ≠ gb292)) (n := y289.length) (c := co11) ?_).2.2; exact (by (with_reducible repeat (first | apply Kd.N_alloc | apply Kd.N_drewN | apply Kd.N_drew)); exact (Kd.N_mono (Kd.N_far (p := ⟨gb292, 1, none⟩) (Kd.N_far (p := ⟨gb292, 0, none⟩) (Kd.N_mono HO291.out (fun k_ hk => (⟨hk, hk.2⟩ : _ ∧ k_ ≠ gb292))) (fun _ hk => hk.2) (.slice Ao11 y289.length co11)) (fun _ hk => hk.2) (.bool false)) (fun _ h_ => h_.1)))); (case side2 => exact (Kd.N_reads' HO291.out).2.1); rintro e w14 ⟨rfl, hb⟩; refine ⟨_, rfl, ?_⟩; have n0_ := Aside0.mk (Kd.N_below (by (with_reducible repeat (first | apply Kd.N_alloc | apply Kd.N_drewN | apply Kd.N_drew)); exact (Kd.N_mono (Kd.N_far (p := ⟨gb292, 1, none⟩) (Kd.N_far (p := ⟨gb292, 0, none⟩) (Kd.N_mono HO291.out (fun k_ hk => (⟨hk, hk.2⟩ : _ ∧ k_ ≠ gb292))) (fun _ hk => hk.2) (.slice Ao11 y289.length co11)) (fun _ hk => hk.2) (.bool false)) (fun _ h_ => h_.1))) hb); have n1_ := Aside0.mk (blk_below (g := gb292) (o := .cells #[.slice Ao11 y289.length co11, .bool false] 24 (0, 0)) (by (with_reducible repeat (first | refine blk_drewN ?_ _ | refine blk_drew ?_ | refine blk_alloc ?_ _)); refine blk_put (cs := #[.slice Ao11 y289.length co11, .bool false]) ?_ 1 _ rfl; (with_reducible repeat (first | refine blk_drewN ?_ _ | refine blk_drew ?_ | refine blk_alloc ?_ _)); refine blk_put (cs := #[.slice none 0 0, .bool false]) ?_ 0 _ rfl; (with_reducible repeat (first | refine blk_drewN ?_ _ | refine blk_drew ?_ | refine blk_alloc ?_ _)); exact BK292.out) hb); have n2_ := Aside0.mk (below_step bl0_ hb); clear HO291; clear BK292; clear HB; have HO291 := n0_; have BK292 := n1_; have HB := n2_; clear n0_ n1_ n2_; (try clear hb); (try clear hb2); (try clear hk); (try clear hi); have hcz15_0 : w14.cell? ⟨gb292, 0, none⟩ = some (.slice Ao11 y289.length co11) := (blk_cell BK292.out 0).trans rfl; have hcz15_1 : w14.cell? ⟨gb292, 1, none⟩ = some (.bool false) := (blk_cell BK292.out 1).trans rfl; have hfz15_0 := blk_frozen BK292.out 0; have hfz15_1 := blk_frozen BK292.out 1) | ((with_reducible refine gate_callee (f := 14) rfl ?_); refine goesL_ (some 24) rfl rfl Tryd.func14 (by kernel_rfl) rfl #[.agg #[.slice Ao11 y289.length co11, .bool false], .agg #[.int .i64 3, .int .i64 1, .int .i64 0, .int .i64 0, .string (⟨#[]⟩ : ByteArray), .string (⟨#[97]⟩ : ByteArray), .int .i64 0, .string (⟨#[]⟩ : ByteArray), .slice none 0 0, .string (⟨#[]⟩ : ByteArray), .int .i64 0, .slice none 0 0], .agg #[.int .i64 1, .int .i64 0, .int .i64 1, .int .i64 3]] rfl mp_ ?_; (refine (span_After.calls k _ _ y289 false 3 1 0 0 (⟨#[]⟩ : ByteArray) (⟨#[97]⟩ : ByteArray) 0 (⟨#[]⟩ : ByteArray) _ _ ([] : List (S86)) (⟨#[]⟩ : ByteArray) 0 _ _ ([] : List Int) 1 0 1 3 t295 t296 t297 t298 t299 _ ?side1 ?side2 ?side3 ?side4 ?side5 ?side6 A2.out).mono ?_); (case side1 => repeat (first | exact (Kd.N_reads' HO291.out).2.2 | (with_reducible refine Kd.C_alloc ?_ _) | (with_reducible refine Kd.C_drewN ?_ _) | (with_reducible refine Kd.C_drew ?_))); (case side2 => exact (Kd.N_reads' HO291.out).2.1); (case side3 => exact Kd.C_nil _ _); (case side4 => exact Nat.le_refl _); (case side5 => exact Kd.C_nil _ _); (case side6 => exact Nat.le_refl _); rintro e w16 ⟨rfl, hb⟩; refine ⟨_, rfl, ?_⟩; have n0_ := Aside0.mk (Kd.N_below (Kd.N_below HO291.out bu_) hb); have n1_ := Aside0.mk (blk_below (bq_ BK292.out) hb); have n2_ := Aside0.mk (below_step bl0_ hb); clear HO291; clear BK292; clear HB; have HO291 := n0_; have BK292 := n1_; have HB := n2_; clear n0_ n1_ n2_; (try clear hb); (try clear hb2); (try clear hk); (try clear hi)) | ((with_reducible refine gate_dst (N := 4) rfl ?_); refine box_event ?hg (N := 4) ?hd (cs := #[.int .i64 0, .int .i64 0, .int .i64 0, .int .i64 0]) (t := 28) ?hr ?_; (case hd => rfl); (case hg => rfl); (case hr => first | (go_simp; done) | (go_simp; rfl)); intro gb300 hg w17 hbox hb; have n0_ := Aside0.mk (Kd.N_below (Kd.N_elderB (Kd.N_below HO291.out bu_) gb300 (Nat.le_of_eq hg.symm)) hb); have n1_ := Aside0.mk (blk_below (bq_ BK292.out) hb); have n2_ := Aside0.mk (below_step bl0_ hb); have n3_ := Aside0.mk (hbox); have n4_ := Aside0.mk (gle_ (w := w) hg bl0_); have n5_ := n4_; have n6_ := Aside0.mk ((nlt_ hg (bq_ BK292.out))); have n7_ := Aside0.mk ((ngt_ hg (bq_ BK292.out))); clear HO291; clear BK292; clear HB; have HO291 := n0_; have BK292 := n1_; have HB := n2_; have BK300 := n3_; have GW300 := n4_; have GE300 := n5_; have NB292_300 := n6_; have NB300_292 := n7_; clear n0_ n1_ n2_ n3_ n4_ n5_ n6_ n7_; clear hb hbox hg; have hnb18 := NB300_292.out; have hnc18 := NB292_300.out; have hcz19_0 : w17.cell? ⟨gb300, 0, none⟩ = some (.int .i64 0) := (blk_cell BK300.out 0).trans rfl; have hcz19_1 : w17.cell? ⟨gb300, 1, none⟩ = some (.int .i64 0) := (blk_cell BK300.out 1).trans rfl; have hcz19_2 : w17.cell? ⟨gb300, 2, none⟩ = some (.int .i64 0) := (blk_cell BK300.out 2).trans rfl; have hcz19_3 : w17.cell? ⟨gb300, 3, none⟩ = some (.int .i64 0) := (blk_cell BK300.out 3).trans rfl; have hfz19_0 := blk_frozen BK300.out 0; have hfz19_1 := blk_frozen BK300.out 1; have hfz19_2 := blk_frozen BK300.out 2; have hfz19_3 := blk_frozen BK300.out 3))
        go_ret
        exact ⟨er_, bl0_⟩
      · rw [if_neg c5] at H
        have c5b0 : (t298 == 1) = false := beq_eq_false_iff_ne.mpr c5
        have c5b1 : (t298 != 1) = true := bne_iff_ne.mpr c5
        obtain rfl := Option.some.inj H
        go_enter Tryd.func6, Tryd.ntmps6
        go_wp2_with (first | ((with_reducible refine gate_dst (N := 6) rfl ?_); refine Kd.R_lit (Kd.int .i64) _ 3 ?hg (N := 6) ?hd (xs := ([1] : List Int)) (inner := [.int .i64 1]) (ok := fun _ => True) (okp := fun _ => True) ?hr ?hp (fun _ hk => hk) trivial (Below.refl _ _) (Nat.le_refl _) (by simp) ?_; (case hd => rfl); (case hg => rfl); (case hr => first | (go_simp; done) | (go_simp; rfl)); (case hp => exact (Reps.one (show Kd.M (Kd.int .i64) _ _ _ 1 [.int .i64 1] from rfl) (Reps.none _ _))); intro v287 w20 ho21 hb hg_ hnew_; clear hg_ hnew_; (first | rw [← Ny286.out] at ho21 | (simp only [Int.reduceToNat] at ho21; rw [← Ny286.out] at ho21)); have n0_ := Aside0.mk (Kd.R_lower ho21 (below_size bl0_)); have n1_ := Aside0.mk (below_step bl0_ hb); clear HB; have HO288 := n0_; have HB := n1_; clear n0_ n1_; clear hb ho21; obtain ⟨Ao22, co22, eo22⟩ := Kd.R_slice HO288.out; subst eo22) | ((with_reducible refine gate_dst (N := 9) rfl ?_); refine Kd.N_lit k37 _ 37 ?hg (N' := 9) ?hd (xs := ([(⟨1, (⟨#[]⟩ : ByteArray), ([] : List (S86)), (⟨#[]⟩ : ByteArray), (-1), y286⟩ : S37), (⟨4, (⟨#[]⟩ : ByteArray), ([] : List (S86)), (⟨#[97, 98, 99]⟩ : ByteArray), 0, ([] : List Int)⟩ : S37)] : List (S37))) (inner := [.int .i64 1, .string (⟨#[]⟩ : ByteArray), .slice none 0 0, .string (⟨#[]⟩ : ByteArray), .int .i64 (-1), .slice Ao22 y286.length co22, .int .i64 4, .string (⟨#[]⟩ : ByteArray), .slice none 0 0, .string (⟨#[97, 98, 99]⟩ : ByteArray), .int .i64 0, .slice none 0 0]) (ok := (fun _ => True)) (okp := (fun _ => True)) ?hr ?hp (fun _ hk => hk) ((show ∀ k_, w20.heap.size ≤ k_ → (fun _ => True) k_ from fun k_ hk => trivial) _ (Nat.le_refl _)) (Below.refl _ _) (Nat.le_refl _) (by simp) ?_; (case hd => rfl); (case hg => rfl); (case hr => first | (go_simp; done) | (go_simp; rfl)); (case hp => exact (Reps.c6 (show Kd.FK k37 _ _ (⟨1, (⟨#[]⟩ : ByteArray), ([] : List (S86)), (⟨#[]⟩ : ByteArray), (-1), y286⟩ : S37) [.int .i64 1, .string (⟨#[]⟩ : ByteArray), .slice none 0 0, .string (⟨#[]⟩ : ByteArray), .int .i64 (-1), .slice Ao22 y286.length co22] from (k37_mkF _ _ (⟨1, (⟨#[]⟩ : ByteArray), ([] : List (S86)), (⟨#[]⟩ : ByteArray), (-1), y286⟩ : S37) (Nat.le_refl _) (Kd.F_nil _ _ _) (Kd.R_reads' (Kd.R_mono (ok' := (fun _ => True)) (HO288.out) (fun k_ hk => trivial))).2.1 (Kd.R_F (Kd.R_mono (ok' := (fun _ => True)) (HO288.out) (fun k_ hk => trivial))))) (Reps.c6 (show Kd.FK k37 _ _ (⟨4, (⟨#[]⟩ : ByteArray), ([] : List (S86)), (⟨#[97, 98, 99]⟩ : ByteArray), 0, ([] : List Int)⟩ : S37) [.int .i64 4, .string (⟨#[]⟩ : ByteArray), .slice none 0 0, .string (⟨#[97, 98, 99]⟩ : ByteArray), .int .i64 0, .slice none 0 0] from (k37_mkF _ _ (⟨4, (⟨#[]⟩ : ByteArray), ([] : List (S86)), (⟨#[97, 98, 99]⟩ : ByteArray), 0, ([] : List Int)⟩ : S37) (Nat.le_refl _) (Kd.F_nil _ _ _) (Nat.le_refl _) (Kd.F_nil _ _ _))) (Reps.none _ _)))); intro v290 w23 ho24 hb hg_ hnew_; clear hg_ hnew_; (first | rw [← Ny289.out] at ho24 | (simp only [Int.reduceToNat] at ho24; rw [← Ny289.out] at ho24)); have n0_ := Aside0.mk (Kd.N_lower ho24 (below_size bl0_)); have n1_ := Aside0.mk (below_step bl0_ hb); clear HB; clear HO288; have HO291 := n0_; have HB := n1_; clear n0_ n1_; clear hb ho24; obtain ⟨Ao25, co25, eo25⟩ := Kd.N_slice HO291.out; subst eo25) | ((with_reducible refine gate_dst (N := 1) rfl ?_); refine box_event ?hg (N := 1) ?hd (cs := #[.slice none 0 0, .bool false]) (t := 24) ?hr ?_; (case hd => rfl); (case hg => rfl); (case hr => first | (go_simp; done) | (go_simp; rfl)); intro gb292 hg w26 hbox hb; have n0_ := Aside0.mk (Kd.N_below (Kd.N_elderB (Kd.N_below HO291.out bu_) gb292 (Nat.le_of_eq hg.symm)) hb); have n1_ := Aside0.mk (below_step bl0_ hb); have n2_ := Aside0.mk (hbox); have n3_ := Aside0.mk (gle_ (w := w) hg bl0_); have n4_ := n3_; clear HO291; clear HB; have HO291 := n0_; have HB := n1_; have BK292 := n2_; have GW292 := n3_; have GE292 := n4_; clear n0_ n1_ n2_ n3_ n4_; clear hb hbox hg; have hcz27_0 : w26.cell? ⟨gb292, 0, none⟩ = some (.slice none 0 0) := (blk_cell BK292.out 0).trans rfl; have hcz27_1 : w26.cell? ⟨gb292, 1, none⟩ = some (.bool false) := (blk_cell BK292.out 1).trans rfl; have hfz27_0 := blk_frozen BK292.out 0; have hfz27_1 := blk_frozen BK292.out 1) | ((with_reducible refine gate_callee (f := 13) rfl ?_); refine goesL_ (some 15) rfl rfl Tryd.func13 (by kernel_rfl) rfl #[.agg #[.slice Ao25 y289.length co25, .bool false], .agg #[.int .i64 0, .int .i64 0], .agg #[.int .i64 1, .int .i64 2]] rfl mp_ ?_; (with_reducible refine (span_Less.calls k _ _ y289 false 0 0 1 2 true t294 _ ?side1 ?side2 A1.out).mono ?_); (case side1 => refine (Kd.N_reads' (e := 37) (base := w.heap.size) (ok := fun k_ => (True ∧ k_ ≠ gb292)) (n := y289.length) (c := co25) ?_).2.2; exact (by (with_reducible repeat (first | apply Kd.N_alloc | apply Kd.N_drewN | apply Kd.N_drew)); exact (Kd.N_mono (Kd.N_far (p := ⟨gb292, 1, none⟩) (Kd.N_far (p := ⟨gb292, 0, none⟩) (Kd.N_mono HO291.out (fun k_ hk => (⟨hk, hk.2⟩ : _ ∧ k_ ≠ gb292))) (fun _ hk => hk.2) (.slice Ao25 y289.length co25)) (fun _ hk => hk.2) (.bool false)) (fun _ h_ => h_.1)))); (case side2 => exact (Kd.N_reads' HO291.out).2.1); rintro e w28 ⟨rfl, hb⟩; refine ⟨_, rfl, ?_⟩; have n0_ := Aside0.mk (Kd.N_below (by (with_reducible repeat (first | apply Kd.N_alloc | apply Kd.N_drewN | apply Kd.N_drew)); exact (Kd.N_mono (Kd.N_far (p := ⟨gb292, 1, none⟩) (Kd.N_far (p := ⟨gb292, 0, none⟩) (Kd.N_mono HO291.out (fun k_ hk => (⟨hk, hk.2⟩ : _ ∧ k_ ≠ gb292))) (fun _ hk => hk.2) (.slice Ao25 y289.length co25)) (fun _ hk => hk.2) (.bool false)) (fun _ h_ => h_.1))) hb); have n1_ := Aside0.mk (blk_below (g := gb292) (o := .cells #[.slice Ao25 y289.length co25, .bool false] 24 (0, 0)) (by (with_reducible repeat (first | refine blk_drewN ?_ _ | refine blk_drew ?_ | refine blk_alloc ?_ _)); refine blk_put (cs := #[.slice Ao25 y289.length co25, .bool false]) ?_ 1 _ rfl; (with_reducible repeat (first | refine blk_drewN ?_ _ | refine blk_drew ?_ | refine blk_alloc ?_ _)); refine blk_put (cs := #[.slice none 0 0, .bool false]) ?_ 0 _ rfl; (with_reducible repeat (first | refine blk_drewN ?_ _ | refine blk_drew ?_ | refine blk_alloc ?_ _)); exact BK292.out) hb); have n2_ := Aside0.mk (below_step bl0_ hb); clear HO291; clear BK292; clear HB; have HO291 := n0_; have BK292 := n1_; have HB := n2_; clear n0_ n1_ n2_; (try clear hb); (try clear hb2); (try clear hk); (try clear hi); have hcz29_0 : w28.cell? ⟨gb292, 0, none⟩ = some (.slice Ao25 y289.length co25) := (blk_cell BK292.out 0).trans rfl; have hcz29_1 : w28.cell? ⟨gb292, 1, none⟩ = some (.bool false) := (blk_cell BK292.out 1).trans rfl; have hfz29_0 := blk_frozen BK292.out 0; have hfz29_1 := blk_frozen BK292.out 1) | ((with_reducible refine gate_callee (f := 14) rfl ?_); refine goesL_ (some 24) rfl rfl Tryd.func14 (by kernel_rfl) rfl #[.agg #[.slice Ao25 y289.length co25, .bool false], .agg #[.int .i64 3, .int .i64 1, .int .i64 0, .int .i64 0, .string (⟨#[]⟩ : ByteArray), .string (⟨#[97]⟩ : ByteArray), .int .i64 0, .string (⟨#[]⟩ : ByteArray), .slice none 0 0, .string (⟨#[]⟩ : ByteArray), .int .i64 0, .slice none 0 0], .agg #[.int .i64 1, .int .i64 0, .int .i64 1, .int .i64 3]] rfl mp_ ?_; (refine (span_After.calls k _ _ y289 false 3 1 0 0 (⟨#[]⟩ : ByteArray) (⟨#[97]⟩ : ByteArray) 0 (⟨#[]⟩ : ByteArray) _ _ ([] : List (S86)) (⟨#[]⟩ : ByteArray) 0 _ _ ([] : List Int) 1 0 1 3 t295 t296 t297 t298 t299 _ ?side1 ?side2 ?side3 ?side4 ?side5 ?side6 A2.out).mono ?_); (case side1 => repeat (first | exact (Kd.N_reads' HO291.out).2.2 | (with_reducible refine Kd.C_alloc ?_ _) | (with_reducible refine Kd.C_drewN ?_ _) | (with_reducible refine Kd.C_drew ?_))); (case side2 => exact (Kd.N_reads' HO291.out).2.1); (case side3 => exact Kd.C_nil _ _); (case side4 => exact Nat.le_refl _); (case side5 => exact Kd.C_nil _ _); (case side6 => exact Nat.le_refl _); rintro e w30 ⟨rfl, hb⟩; refine ⟨_, rfl, ?_⟩; have n0_ := Aside0.mk (Kd.N_below (Kd.N_below HO291.out bu_) hb); have n1_ := Aside0.mk (blk_below (bq_ BK292.out) hb); have n2_ := Aside0.mk (below_step bl0_ hb); clear HO291; clear BK292; clear HB; have HO291 := n0_; have BK292 := n1_; have HB := n2_; clear n0_ n1_ n2_; (try clear hb); (try clear hb2); (try clear hk); (try clear hi)) | ((with_reducible refine gate_dst (N := 4) rfl ?_); refine box_event ?hg (N := 4) ?hd (cs := #[.int .i64 0, .int .i64 0, .int .i64 0, .int .i64 0]) (t := 28) ?hr ?_; (case hd => rfl); (case hg => rfl); (case hr => first | (go_simp; done) | (go_simp; rfl)); intro gb300 hg w31 hbox hb; have n0_ := Aside0.mk (Kd.N_below (Kd.N_elderB (Kd.N_below HO291.out bu_) gb300 (Nat.le_of_eq hg.symm)) hb); have n1_ := Aside0.mk (blk_below (bq_ BK292.out) hb); have n2_ := Aside0.mk (below_step bl0_ hb); have n3_ := Aside0.mk (hbox); have n4_ := Aside0.mk (gle_ (w := w) hg bl0_); have n5_ := n4_; have n6_ := Aside0.mk ((nlt_ hg (bq_ BK292.out))); have n7_ := Aside0.mk ((ngt_ hg (bq_ BK292.out))); clear HO291; clear BK292; clear HB; have HO291 := n0_; have BK292 := n1_; have HB := n2_; have BK300 := n3_; have GW300 := n4_; have GE300 := n5_; have NB292_300 := n6_; have NB300_292 := n7_; clear n0_ n1_ n2_ n3_ n4_ n5_ n6_ n7_; clear hb hbox hg; have hnb32 := NB300_292.out; have hnc32 := NB292_300.out; have hcz33_0 : w31.cell? ⟨gb300, 0, none⟩ = some (.int .i64 0) := (blk_cell BK300.out 0).trans rfl; have hcz33_1 : w31.cell? ⟨gb300, 1, none⟩ = some (.int .i64 0) := (blk_cell BK300.out 1).trans rfl; have hcz33_2 : w31.cell? ⟨gb300, 2, none⟩ = some (.int .i64 0) := (blk_cell BK300.out 2).trans rfl; have hcz33_3 : w31.cell? ⟨gb300, 3, none⟩ = some (.int .i64 0) := (blk_cell BK300.out 3).trans rfl; have hfz33_0 := blk_frozen BK300.out 0; have hfz33_1 := blk_frozen BK300.out 1; have hfz33_2 := blk_frozen BK300.out 2; have hfz33_3 := blk_frozen BK300.out 3))
        go_ret
        exact ⟨er_, bl0_⟩
    · rw [if_neg c4] at H
      have c4b0 : (t294 == 0) = false := beq_eq_false_iff_ne.mpr c4
      have c4b1 : (t294 != 0) = true := bne_iff_ne.mpr c4
      obtain rfl := Option.some.inj H
      go_enter Tryd.func6, Tryd.ntmps6
      go_wp2_with (first | ((with_reducible refine gate_dst (N := 6) rfl ?_); refine Kd.R_lit (Kd.int .i64) _ 3 ?hg (N := 6) ?hd (xs := ([1] : List Int)) (inner := [.int .i64 1]) (ok := fun _ => True) (okp := fun _ => True) ?hr ?hp (fun _ hk => hk) trivial (Below.refl _ _) (Nat.le_refl _) (by simp) ?_; (case hd => rfl); (case hg => rfl); (case hr => first | (go_simp; done) | (go_simp; rfl)); (case hp => exact (Reps.one (show Kd.M (Kd.int .i64) _ _ _ 1 [.int .i64 1] from rfl) (Reps.none _ _))); intro v287 w34 ho35 hb hg_ hnew_; clear hg_ hnew_; (first | rw [← Ny286.out] at ho35 | (simp only [Int.reduceToNat] at ho35; rw [← Ny286.out] at ho35)); have n0_ := Aside0.mk (Kd.R_lower ho35 (below_size bl0_)); have n1_ := Aside0.mk (below_step bl0_ hb); clear HB; have HO288 := n0_; have HB := n1_; clear n0_ n1_; clear hb ho35; obtain ⟨Ao36, co36, eo36⟩ := Kd.R_slice HO288.out; subst eo36) | ((with_reducible refine gate_dst (N := 9) rfl ?_); refine Kd.N_lit k37 _ 37 ?hg (N' := 9) ?hd (xs := ([(⟨1, (⟨#[]⟩ : ByteArray), ([] : List (S86)), (⟨#[]⟩ : ByteArray), (-1), y286⟩ : S37), (⟨4, (⟨#[]⟩ : ByteArray), ([] : List (S86)), (⟨#[97, 98, 99]⟩ : ByteArray), 0, ([] : List Int)⟩ : S37)] : List (S37))) (inner := [.int .i64 1, .string (⟨#[]⟩ : ByteArray), .slice none 0 0, .string (⟨#[]⟩ : ByteArray), .int .i64 (-1), .slice Ao36 y286.length co36, .int .i64 4, .string (⟨#[]⟩ : ByteArray), .slice none 0 0, .string (⟨#[97, 98, 99]⟩ : ByteArray), .int .i64 0, .slice none 0 0]) (ok := (fun _ => True)) (okp := (fun _ => True)) ?hr ?hp (fun _ hk => hk) ((show ∀ k_, w34.heap.size ≤ k_ → (fun _ => True) k_ from fun k_ hk => trivial) _ (Nat.le_refl _)) (Below.refl _ _) (Nat.le_refl _) (by simp) ?_; (case hd => rfl); (case hg => rfl); (case hr => first | (go_simp; done) | (go_simp; rfl)); (case hp => exact (Reps.c6 (show Kd.FK k37 _ _ (⟨1, (⟨#[]⟩ : ByteArray), ([] : List (S86)), (⟨#[]⟩ : ByteArray), (-1), y286⟩ : S37) [.int .i64 1, .string (⟨#[]⟩ : ByteArray), .slice none 0 0, .string (⟨#[]⟩ : ByteArray), .int .i64 (-1), .slice Ao36 y286.length co36] from (k37_mkF _ _ (⟨1, (⟨#[]⟩ : ByteArray), ([] : List (S86)), (⟨#[]⟩ : ByteArray), (-1), y286⟩ : S37) (Nat.le_refl _) (Kd.F_nil _ _ _) (Kd.R_reads' (Kd.R_mono (ok' := (fun _ => True)) (HO288.out) (fun k_ hk => trivial))).2.1 (Kd.R_F (Kd.R_mono (ok' := (fun _ => True)) (HO288.out) (fun k_ hk => trivial))))) (Reps.c6 (show Kd.FK k37 _ _ (⟨4, (⟨#[]⟩ : ByteArray), ([] : List (S86)), (⟨#[97, 98, 99]⟩ : ByteArray), 0, ([] : List Int)⟩ : S37) [.int .i64 4, .string (⟨#[]⟩ : ByteArray), .slice none 0 0, .string (⟨#[97, 98, 99]⟩ : ByteArray), .int .i64 0, .slice none 0 0] from (k37_mkF _ _ (⟨4, (⟨#[]⟩ : ByteArray), ([] : List (S86)), (⟨#[97, 98, 99]⟩ : ByteArray), 0, ([] : List Int)⟩ : S37) (Nat.le_refl _) (Kd.F_nil _ _ _) (Nat.le_refl _) (Kd.F_nil _ _ _))) (Reps.none _ _)))); intro v290 w37 ho38 hb hg_ hnew_; clear hg_ hnew_; (first | rw [← Ny289.out] at ho38 | (simp only [Int.reduceToNat] at ho38; rw [← Ny289.out] at ho38)); have n0_ := Aside0.mk (Kd.N_lower ho38 (below_size bl0_)); have n1_ := Aside0.mk (below_step bl0_ hb); clear HB; clear HO288; have HO291 := n0_; have HB := n1_; clear n0_ n1_; clear hb ho38; obtain ⟨Ao39, co39, eo39⟩ := Kd.N_slice HO291.out; subst eo39) | ((with_reducible refine gate_dst (N := 1) rfl ?_); refine box_event ?hg (N := 1) ?hd (cs := #[.slice none 0 0, .bool false]) (t := 24) ?hr ?_; (case hd => rfl); (case hg => rfl); (case hr => first | (go_simp; done) | (go_simp; rfl)); intro gb292 hg w40 hbox hb; have n0_ := Aside0.mk (Kd.N_below (Kd.N_elderB (Kd.N_below HO291.out bu_) gb292 (Nat.le_of_eq hg.symm)) hb); have n1_ := Aside0.mk (below_step bl0_ hb); have n2_ := Aside0.mk (hbox); have n3_ := Aside0.mk (gle_ (w := w) hg bl0_); have n4_ := n3_; clear HO291; clear HB; have HO291 := n0_; have HB := n1_; have BK292 := n2_; have GW292 := n3_; have GE292 := n4_; clear n0_ n1_ n2_ n3_ n4_; clear hb hbox hg; have hcz41_0 : w40.cell? ⟨gb292, 0, none⟩ = some (.slice none 0 0) := (blk_cell BK292.out 0).trans rfl; have hcz41_1 : w40.cell? ⟨gb292, 1, none⟩ = some (.bool false) := (blk_cell BK292.out 1).trans rfl; have hfz41_0 := blk_frozen BK292.out 0; have hfz41_1 := blk_frozen BK292.out 1) | ((with_reducible refine gate_callee (f := 13) rfl ?_); refine goesL_ (some 15) rfl rfl Tryd.func13 (by kernel_rfl) rfl #[.agg #[.slice Ao39 y289.length co39, .bool false], .agg #[.int .i64 0, .int .i64 0], .agg #[.int .i64 1, .int .i64 2]] rfl mp_ ?_; (with_reducible refine (span_Less.calls k _ _ y289 false 0 0 1 2 true t294 _ ?side1 ?side2 A1.out).mono ?_); (case side1 => refine (Kd.N_reads' (e := 37) (base := w.heap.size) (ok := fun k_ => (True ∧ k_ ≠ gb292)) (n := y289.length) (c := co39) ?_).2.2; exact (by (with_reducible repeat (first | apply Kd.N_alloc | apply Kd.N_drewN | apply Kd.N_drew)); exact (Kd.N_mono (Kd.N_far (p := ⟨gb292, 1, none⟩) (Kd.N_far (p := ⟨gb292, 0, none⟩) (Kd.N_mono HO291.out (fun k_ hk => (⟨hk, hk.2⟩ : _ ∧ k_ ≠ gb292))) (fun _ hk => hk.2) (.slice Ao39 y289.length co39)) (fun _ hk => hk.2) (.bool false)) (fun _ h_ => h_.1)))); (case side2 => exact (Kd.N_reads' HO291.out).2.1); rintro e w42 ⟨rfl, hb⟩; refine ⟨_, rfl, ?_⟩; have n0_ := Aside0.mk (Kd.N_below (by (with_reducible repeat (first | apply Kd.N_alloc | apply Kd.N_drewN | apply Kd.N_drew)); exact (Kd.N_mono (Kd.N_far (p := ⟨gb292, 1, none⟩) (Kd.N_far (p := ⟨gb292, 0, none⟩) (Kd.N_mono HO291.out (fun k_ hk => (⟨hk, hk.2⟩ : _ ∧ k_ ≠ gb292))) (fun _ hk => hk.2) (.slice Ao39 y289.length co39)) (fun _ hk => hk.2) (.bool false)) (fun _ h_ => h_.1))) hb); have n1_ := Aside0.mk (blk_below (g := gb292) (o := .cells #[.slice Ao39 y289.length co39, .bool false] 24 (0, 0)) (by (with_reducible repeat (first | refine blk_drewN ?_ _ | refine blk_drew ?_ | refine blk_alloc ?_ _)); refine blk_put (cs := #[.slice Ao39 y289.length co39, .bool false]) ?_ 1 _ rfl; (with_reducible repeat (first | refine blk_drewN ?_ _ | refine blk_drew ?_ | refine blk_alloc ?_ _)); refine blk_put (cs := #[.slice none 0 0, .bool false]) ?_ 0 _ rfl; (with_reducible repeat (first | refine blk_drewN ?_ _ | refine blk_drew ?_ | refine blk_alloc ?_ _)); exact BK292.out) hb); have n2_ := Aside0.mk (below_step bl0_ hb); clear HO291; clear BK292; clear HB; have HO291 := n0_; have BK292 := n1_; have HB := n2_; clear n0_ n1_ n2_; (try clear hb); (try clear hb2); (try clear hk); (try clear hi); have hcz43_0 : w42.cell? ⟨gb292, 0, none⟩ = some (.slice Ao39 y289.length co39) := (blk_cell BK292.out 0).trans rfl; have hcz43_1 : w42.cell? ⟨gb292, 1, none⟩ = some (.bool false) := (blk_cell BK292.out 1).trans rfl; have hfz43_0 := blk_frozen BK292.out 0; have hfz43_1 := blk_frozen BK292.out 1) | ((with_reducible refine gate_callee (f := 14) rfl ?_); refine goesL_ (some 24) rfl rfl Tryd.func14 (by kernel_rfl) rfl #[.agg #[.slice Ao39 y289.length co39, .bool false], .agg #[.int .i64 3, .int .i64 1, .int .i64 0, .int .i64 0, .string (⟨#[]⟩ : ByteArray), .string (⟨#[97]⟩ : ByteArray), .int .i64 0, .string (⟨#[]⟩ : ByteArray), .slice none 0 0, .string (⟨#[]⟩ : ByteArray), .int .i64 0, .slice none 0 0], .agg #[.int .i64 1, .int .i64 0, .int .i64 1, .int .i64 3]] rfl mp_ ?_; (refine (span_After.calls k _ _ y289 false 3 1 0 0 (⟨#[]⟩ : ByteArray) (⟨#[97]⟩ : ByteArray) 0 (⟨#[]⟩ : ByteArray) _ _ ([] : List (S86)) (⟨#[]⟩ : ByteArray) 0 _ _ ([] : List Int) 1 0 1 3 t295 t296 t297 t298 t299 _ ?side1 ?side2 ?side3 ?side4 ?side5 ?side6 A2.out).mono ?_); (case side1 => repeat (first | exact (Kd.N_reads' HO291.out).2.2 | (with_reducible refine Kd.C_alloc ?_ _) | (with_reducible refine Kd.C_drewN ?_ _) | (with_reducible refine Kd.C_drew ?_))); (case side2 => exact (Kd.N_reads' HO291.out).2.1); (case side3 => exact Kd.C_nil _ _); (case side4 => exact Nat.le_refl _); (case side5 => exact Kd.C_nil _ _); (case side6 => exact Nat.le_refl _); rintro e w44 ⟨rfl, hb⟩; refine ⟨_, rfl, ?_⟩; have n0_ := Aside0.mk (Kd.N_below (Kd.N_below HO291.out bu_) hb); have n1_ := Aside0.mk (blk_below (bq_ BK292.out) hb); have n2_ := Aside0.mk (below_step bl0_ hb); clear HO291; clear BK292; clear HB; have HO291 := n0_; have BK292 := n1_; have HB := n2_; clear n0_ n1_ n2_; (try clear hb); (try clear hb2); (try clear hk); (try clear hi)) | ((with_reducible refine gate_dst (N := 4) rfl ?_); refine box_event ?hg (N := 4) ?hd (cs := #[.int .i64 0, .int .i64 0, .int .i64 0, .int .i64 0]) (t := 28) ?hr ?_; (case hd => rfl); (case hg => rfl); (case hr => first | (go_simp; done) | (go_simp; rfl)); intro gb300 hg w45 hbox hb; have n0_ := Aside0.mk (Kd.N_below (Kd.N_elderB (Kd.N_below HO291.out bu_) gb300 (Nat.le_of_eq hg.symm)) hb); have n1_ := Aside0.mk (blk_below (bq_ BK292.out) hb); have n2_ := Aside0.mk (below_step bl0_ hb); have n3_ := Aside0.mk (hbox); have n4_ := Aside0.mk (gle_ (w := w) hg bl0_); have n5_ := n4_; have n6_ := Aside0.mk ((nlt_ hg (bq_ BK292.out))); have n7_ := Aside0.mk ((ngt_ hg (bq_ BK292.out))); clear HO291; clear BK292; clear HB; have HO291 := n0_; have BK292 := n1_; have HB := n2_; have BK300 := n3_; have GW300 := n4_; have GE300 := n5_; have NB292_300 := n6_; have NB300_292 := n7_; clear n0_ n1_ n2_ n3_ n4_ n5_ n6_ n7_; clear hb hbox hg; have hnb46 := NB300_292.out; have hnc46 := NB292_300.out; have hcz47_0 : w45.cell? ⟨gb300, 0, none⟩ = some (.int .i64 0) := (blk_cell BK300.out 0).trans rfl; have hcz47_1 : w45.cell? ⟨gb300, 1, none⟩ = some (.int .i64 0) := (blk_cell BK300.out 1).trans rfl; have hcz47_2 : w45.cell? ⟨gb300, 2, none⟩ = some (.int .i64 0) := (blk_cell BK300.out 2).trans rfl; have hcz47_3 : w45.cell? ⟨gb300, 3, none⟩ = some (.int .i64 0) := (blk_cell BK300.out 3).trans rfl; have hfz47_0 := blk_frozen BK300.out 0; have hfz47_1 := blk_frozen BK300.out 1; have hfz47_2 := blk_frozen BK300.out 2; have hfz47_3 := blk_frozen BK300.out 3))
      go_ret
      exact ⟨er_, bl0_⟩
  · replace c3 := Bool.eq_false_iff.mpr c3
    subst c3
    have H1 : (some false) = some r := by rw [if_neg (show ¬ (false = true) by decide)] at H; exact H
    clear H
    have H := H1
    clear H1
    obtain rfl := Option.some.inj H
    go_enter Tryd.func6, Tryd.ntmps6
    go_wp2_with (first | ((with_reducible refine gate_dst (N := 6) rfl ?_); refine Kd.R_lit (Kd.int .i64) _ 3 ?hg (N := 6) ?hd (xs := ([1] : List Int)) (inner := [.int .i64 1]) (ok := fun _ => True) (okp := fun _ => True) ?hr ?hp (fun _ hk => hk) trivial (Below.refl _ _) (Nat.le_refl _) (by simp) ?_; (case hd => rfl); (case hg => rfl); (case hr => first | (go_simp; done) | (go_simp; rfl)); (case hp => exact (Reps.one (show Kd.M (Kd.int .i64) _ _ _ 1 [.int .i64 1] from rfl) (Reps.none _ _))); intro v287 w48 ho49 hb hg_ hnew_; clear hg_ hnew_; (first | rw [← Ny286.out] at ho49 | (simp only [Int.reduceToNat] at ho49; rw [← Ny286.out] at ho49)); have n0_ := Aside0.mk (Kd.R_lower ho49 (below_size bl0_)); have n1_ := Aside0.mk (below_step bl0_ hb); clear HB; have HO288 := n0_; have HB := n1_; clear n0_ n1_; clear hb ho49; obtain ⟨Ao50, co50, eo50⟩ := Kd.R_slice HO288.out; subst eo50) | ((with_reducible refine gate_dst (N := 9) rfl ?_); refine Kd.N_lit k37 _ 37 ?hg (N' := 9) ?hd (xs := ([(⟨1, (⟨#[]⟩ : ByteArray), ([] : List (S86)), (⟨#[]⟩ : ByteArray), (-1), y286⟩ : S37), (⟨4, (⟨#[]⟩ : ByteArray), ([] : List (S86)), (⟨#[97, 98, 99]⟩ : ByteArray), 0, ([] : List Int)⟩ : S37)] : List (S37))) (inner := [.int .i64 1, .string (⟨#[]⟩ : ByteArray), .slice none 0 0, .string (⟨#[]⟩ : ByteArray), .int .i64 (-1), .slice Ao50 y286.length co50, .int .i64 4, .string (⟨#[]⟩ : ByteArray), .slice none 0 0, .string (⟨#[97, 98, 99]⟩ : ByteArray), .int .i64 0, .slice none 0 0]) (ok := (fun _ => True)) (okp := (fun _ => True)) ?hr ?hp (fun _ hk => hk) ((show ∀ k_, w48.heap.size ≤ k_ → (fun _ => True) k_ from fun k_ hk => trivial) _ (Nat.le_refl _)) (Below.refl _ _) (Nat.le_refl _) (by simp) ?_; (case hd => rfl); (case hg => rfl); (case hr => first | (go_simp; done) | (go_simp; rfl)); (case hp => exact (Reps.c6 (show Kd.FK k37 _ _ (⟨1, (⟨#[]⟩ : ByteArray), ([] : List (S86)), (⟨#[]⟩ : ByteArray), (-1), y286⟩ : S37) [.int .i64 1, .string (⟨#[]⟩ : ByteArray), .slice none 0 0, .string (⟨#[]⟩ : ByteArray), .int .i64 (-1), .slice Ao50 y286.length co50] from (k37_mkF _ _ (⟨1, (⟨#[]⟩ : ByteArray), ([] : List (S86)), (⟨#[]⟩ : ByteArray), (-1), y286⟩ : S37) (Nat.le_refl _) (Kd.F_nil _ _ _) (Kd.R_reads' (Kd.R_mono (ok' := (fun _ => True)) (HO288.out) (fun k_ hk => trivial))).2.1 (Kd.R_F (Kd.R_mono (ok' := (fun _ => True)) (HO288.out) (fun k_ hk => trivial))))) (Reps.c6 (show Kd.FK k37 _ _ (⟨4, (⟨#[]⟩ : ByteArray), ([] : List (S86)), (⟨#[97, 98, 99]⟩ : ByteArray), 0, ([] : List Int)⟩ : S37) [.int .i64 4, .string (⟨#[]⟩ : ByteArray), .slice none 0 0, .string (⟨#[97, 98, 99]⟩ : ByteArray), .int .i64 0, .slice none 0 0] from (k37_mkF _ _ (⟨4, (⟨#[]⟩ : ByteArray), ([] : List (S86)), (⟨#[97, 98, 99]⟩ : ByteArray), 0, ([] : List Int)⟩ : S37) (Nat.le_refl _) (Kd.F_nil _ _ _) (Nat.le_refl _) (Kd.F_nil _ _ _))) (Reps.none _ _)))); intro v290 w51 ho52 hb hg_ hnew_; clear hg_ hnew_; (first | rw [← Ny289.out] at ho52 | (simp only [Int.reduceToNat] at ho52; rw [← Ny289.out] at ho52)); have n0_ := Aside0.mk (Kd.N_lower ho52 (below_size bl0_)); have n1_ := Aside0.mk (below_step bl0_ hb); clear HB; clear HO288; have HO291 := n0_; have HB := n1_; clear n0_ n1_; clear hb ho52; obtain ⟨Ao53, co53, eo53⟩ := Kd.N_slice HO291.out; subst eo53) | ((with_reducible refine gate_dst (N := 1) rfl ?_); refine box_event ?hg (N := 1) ?hd (cs := #[.slice none 0 0, .bool false]) (t := 24) ?hr ?_; (case hd => rfl); (case hg => rfl); (case hr => first | (go_simp; done) | (go_simp; rfl)); intro gb292 hg w54 hbox hb; have n0_ := Aside0.mk (Kd.N_below (Kd.N_elderB (Kd.N_below HO291.out bu_) gb292 (Nat.le_of_eq hg.symm)) hb); have n1_ := Aside0.mk (below_step bl0_ hb); have n2_ := Aside0.mk (hbox); have n3_ := Aside0.mk (gle_ (w := w) hg bl0_); have n4_ := n3_; clear HO291; clear HB; have HO291 := n0_; have HB := n1_; have BK292 := n2_; have GW292 := n3_; have GE292 := n4_; clear n0_ n1_ n2_ n3_ n4_; clear hb hbox hg; have hcz55_0 : w54.cell? ⟨gb292, 0, none⟩ = some (.slice none 0 0) := (blk_cell BK292.out 0).trans rfl; have hcz55_1 : w54.cell? ⟨gb292, 1, none⟩ = some (.bool false) := (blk_cell BK292.out 1).trans rfl; have hfz55_0 := blk_frozen BK292.out 0; have hfz55_1 := blk_frozen BK292.out 1) | ((with_reducible refine gate_callee (f := 13) rfl ?_); refine goesL_ (some 15) rfl rfl Tryd.func13 (by kernel_rfl) rfl #[.agg #[.slice Ao53 y289.length co53, .bool false], .agg #[.int .i64 0, .int .i64 0], .agg #[.int .i64 1, .int .i64 2]] rfl mp_ ?_; (with_reducible refine (span_Less.calls k _ _ y289 false 0 0 1 2 false t294 _ ?side1 ?side2 A1.out).mono ?_); (case side1 => refine (Kd.N_reads' (e := 37) (base := w.heap.size) (ok := fun k_ => (True ∧ k_ ≠ gb292)) (n := y289.length) (c := co53) ?_).2.2; exact (by (with_reducible repeat (first | apply Kd.N_alloc | apply Kd.N_drewN | apply Kd.N_drew)); exact (Kd.N_mono (Kd.N_far (p := ⟨gb292, 1, none⟩) (Kd.N_far (p := ⟨gb292, 0, none⟩) (Kd.N_mono HO291.out (fun k_ hk => (⟨hk, hk.2⟩ : _ ∧ k_ ≠ gb292))) (fun _ hk => hk.2) (.slice Ao53 y289.length co53)) (fun _ hk => hk.2) (.bool false)) (fun _ h_ => h_.1)))); (case side2 => exact (Kd.N_reads' HO291.out).2.1); rintro e w56 ⟨rfl, hb⟩; refine ⟨_, rfl, ?_⟩; have n0_ := Aside0.mk (Kd.N_below (by (with_reducible repeat (first | apply Kd.N_alloc | apply Kd.N_drewN | apply Kd.N_drew)); exact (Kd.N_mono (Kd.N_far (p := ⟨gb292, 1, none⟩) (Kd.N_far (p := ⟨gb292, 0, none⟩) (Kd.N_mono HO291.out (fun k_ hk => (⟨hk, hk.2⟩ : _ ∧ k_ ≠ gb292))) (fun _ hk => hk.2) (.slice Ao53 y289.length co53)) (fun _ hk => hk.2) (.bool false)) (fun _ h_ => h_.1))) hb); have n1_ := Aside0.mk (blk_below (g := gb292) (o := .cells #[.slice Ao53 y289.length co53, .bool false] 24 (0, 0)) (by (with_reducible repeat (first | refine blk_drewN ?_ _ | refine blk_drew ?_ | refine blk_alloc ?_ _)); refine blk_put (cs := #[.slice Ao53 y289.length co53, .bool false]) ?_ 1 _ rfl; (with_reducible repeat (first | refine blk_drewN ?_ _ | refine blk_drew ?_ | refine blk_alloc ?_ _)); refine blk_put (cs := #[.slice none 0 0, .bool false]) ?_ 0 _ rfl; (with_reducible repeat (first | refine blk_drewN ?_ _ | refine blk_drew ?_ | refine blk_alloc ?_ _)); exact BK292.out) hb); have n2_ := Aside0.mk (below_step bl0_ hb); clear HO291; clear BK292; clear HB; have HO291 := n0_; have BK292 := n1_; have HB := n2_; clear n0_ n1_ n2_; (try clear hb); (try clear hb2); (try clear hk); (try clear hi); have hcz57_0 : w56.cell? ⟨gb292, 0, none⟩ = some (.slice Ao53 y289.length co53) := (blk_cell BK292.out 0).trans rfl; have hcz57_1 : w56.cell? ⟨gb292, 1, none⟩ = some (.bool false) := (blk_cell BK292.out 1).trans rfl; have hfz57_0 := blk_frozen BK292.out 0; have hfz57_1 := blk_frozen BK292.out 1) | ((with_reducible refine gate_callee (f := 14) rfl ?_); refine goesL_ (some 24) rfl rfl Tryd.func14 (by kernel_rfl) rfl #[.agg #[.slice Ao53 y289.length co53, .bool false], .agg #[.int .i64 3, .int .i64 1, .int .i64 0, .int .i64 0, .string (⟨#[]⟩ : ByteArray), .string (⟨#[97]⟩ : ByteArray), .int .i64 0, .string (⟨#[]⟩ : ByteArray), .slice none 0 0, .string (⟨#[]⟩ : ByteArray), .int .i64 0, .slice none 0 0], .agg #[.int .i64 1, .int .i64 0, .int .i64 1, .int .i64 3]] rfl mp_ ?_; (refine (span_After.calls k _ _ y289 false 3 1 0 0 (⟨#[]⟩ : ByteArray) (⟨#[97]⟩ : ByteArray) 0 (⟨#[]⟩ : ByteArray) _ _ ([] : List (S86)) (⟨#[]⟩ : ByteArray) 0 _ _ ([] : List Int) 1 0 1 3 t295 t296 t297 t298 t299 _ ?side1 ?side2 ?side3 ?side4 ?side5 ?side6 A2.out).mono ?_); (case side1 => repeat (first | exact (Kd.N_reads' HO291.out).2.2 | (with_reducible refine Kd.C_alloc ?_ _) | (with_reducible refine Kd.C_drewN ?_ _) | (with_reducible refine Kd.C_drew ?_))); (case side2 => exact (Kd.N_reads' HO291.out).2.1); (case side3 => exact Kd.C_nil _ _); (case side4 => exact Nat.le_refl _); (case side5 => exact Kd.C_nil _ _); (case side6 => exact Nat.le_refl _); rintro e w58 ⟨rfl, hb⟩; refine ⟨_, rfl, ?_⟩; have n0_ := Aside0.mk (Kd.N_below (Kd.N_below HO291.out bu_) hb); have n1_ := Aside0.mk (blk_below (bq_ BK292.out) hb); have n2_ := Aside0.mk (below_step bl0_ hb); clear HO291; clear BK292; clear HB; have HO291 := n0_; have BK292 := n1_; have HB := n2_; clear n0_ n1_ n2_; (try clear hb); (try clear hb2); (try clear hk); (try clear hi)) | ((with_reducible refine gate_dst (N := 4) rfl ?_); refine box_event ?hg (N := 4) ?hd (cs := #[.int .i64 0, .int .i64 0, .int .i64 0, .int .i64 0]) (t := 28) ?hr ?_; (case hd => rfl); (case hg => rfl); (case hr => first | (go_simp; done) | (go_simp; rfl)); intro gb300 hg w59 hbox hb; have n0_ := Aside0.mk (Kd.N_below (Kd.N_elderB (Kd.N_below HO291.out bu_) gb300 (Nat.le_of_eq hg.symm)) hb); have n1_ := Aside0.mk (blk_below (bq_ BK292.out) hb); have n2_ := Aside0.mk (below_step bl0_ hb); have n3_ := Aside0.mk (hbox); have n4_ := Aside0.mk (gle_ (w := w) hg bl0_); have n5_ := n4_; have n6_ := Aside0.mk ((nlt_ hg (bq_ BK292.out))); have n7_ := Aside0.mk ((ngt_ hg (bq_ BK292.out))); clear HO291; clear BK292; clear HB; have HO291 := n0_; have BK292 := n1_; have HB := n2_; have BK300 := n3_; have GW300 := n4_; have GE300 := n5_; have NB292_300 := n6_; have NB300_292 := n7_; clear n0_ n1_ n2_ n3_ n4_ n5_ n6_ n7_; clear hb hbox hg; have hnb60 := NB300_292.out; have hnc60 := NB292_300.out; have hcz61_0 : w59.cell? ⟨gb300, 0, none⟩ = some (.int .i64 0) := (blk_cell BK300.out 0).trans rfl; have hcz61_1 : w59.cell? ⟨gb300, 1, none⟩ = some (.int .i64 0) := (blk_cell BK300.out 1).trans rfl; have hcz61_2 : w59.cell? ⟨gb300, 2, none⟩ = some (.int .i64 0) := (blk_cell BK300.out 2).trans rfl; have hcz61_3 : w59.cell? ⟨gb300, 3, none⟩ = some (.int .i64 0) := (blk_cell BK300.out 3).trans rfl; have hfz61_0 := blk_frozen BK300.out 0; have hfz61_1 := blk_frozen BK300.out 1; have hfz61_2 := blk_frozen BK300.out 2; have hfz61_3 := blk_frozen BK300.out 3))
    go_ret
    exact ⟨er_, bl0_⟩

/-! ### dom_ask: function 15 -/
def dom_ask.f (k : Nat) (l0_0 : List (S37)) (a0_1 : Bool) (a1 : Int) : Option (Int) := (dom_Check.f k l0_0 a0_1).bind fun t302 => (if t302 = 0 then (if a1 < 0 then (some 1) else (if a1 ≥ (l0_0.length : Int) then (some 1) else (some t302))) else (some t302))
theorem dom_ask.mono : ∀ a0 a1 a2 k, LeO (dom_ask.f k a0 a1 a2) (dom_ask.f (k + 1) a0 a1 a2) := by
  intro a0 a1 a2 k
  unfold dom_ask.f
  repeat' first
      | (with_reducible exact dom_Check.mono _ _ _)
      | (with_reducible exact LeO.refl _)
      | (with_reducible exact LeO.none _)
      | (with_reducible refine LeO.ite ?_ ?_)
      | (with_reducible refine LeO.bind ?_ (fun _ => ?_))
      | exact dom_Check.mono _ _ _
      | exact LeO.none _
      | refine LeO.ite ?_ ?_
      | refine LeO.bind ?_ (fun _ => ?_)
set_option maxHeartbeats 8000000 in
set_option maxRecDepth 100000 in
theorem dom_ask.calls (k : Nat) (A0_0 : Option Addr) (c0_0 : Nat) (l0_0 : List (S37)) (a0_1 : Bool) (a1 : Int) (r : Int) (w : World) (hr0_0 : Kd.C k37 w A0_0 l0_0.length l0_0) (hc0_0 : l0_0.length ≤ c0_0) (h : dom_ask.f k l0_0 a0_1 a1 = some r) :
    Calls Tryd.prog 15 #[.agg #[.slice A0_0 l0_0.length c0_0, .bool a0_1], .int .i64 a1] w fun e w' => e = .returned (.int .i64 r) ∧ Below w.heap.size w w' := by
  have hu24 := Tryd.underlying24
  have HR0_0 := Aside0.mk hr0_0
  have HC0_0 := Aside0.mk hc0_0
  clear hr0_0 hc0_0
  have HB := Aside0.mk (Below.refl w.heap.size w)
  have H : ((dom_Check.f k l0_0 a0_1).bind fun t302 => (if t302 = 0 then (if a1 < 0 then (some 1) else (if a1 ≥ (l0_0.length : Int) then (some 1) else (some t302))) else (some t302))) = some r := h
  clear h
  replace H := Option.bind_eq_some_iff.mp H
  obtain ⟨t302, A30, H⟩ := H
  replace H : (if t302 = 0 then (if a1 < 0 then (some 1) else (if a1 ≥ (l0_0.length : Int) then (some 1) else (some t302))) else (some t302)) = some r := H
  have A3 := Aside0.mk A30
  clear A30
  by_cases c4 : t302 = 0
  · rw [if_pos c4] at H
    have c4b0 : (t302 == 0) = true := beq_iff_eq.mpr c4
    have c4b1 : (t302 != 0) = false := bne_eq_false_iff_eq.mpr c4
    clear c4
    by_cases c5 : a1 < 0
    · rw [if_pos c5] at H
      have c5b0 : decide (a1 < 0) = true := decide_eq_true c5
      clear c5
      obtain rfl := Option.some.inj H
      go_enter Tryd.func15, Tryd.ntmps15
      go_wp2_with (first | ((with_reducible refine gate_dst (N := 2) rfl ?_); (try (refine gate_guard (by rfl) ?_; dsimp only)); refine box_event ?hg (N := 2) ?hd (cs := #[.slice A0_0 l0_0.length c0_0, .bool a0_1]) (t := 24) ?hr ?_; (case hd => rfl); (case hg => rfl); (case hr => first | (go_simp; done) | (go_simp; rfl)); intro gb301 hg w6 hbox hb; have n0_ := Aside0.mk (below_step bl0_ hb); have n1_ := Aside0.mk (hbox); have n2_ := Aside0.mk (gle_ (w := w) hg bl0_); have n3_ := n2_; clear HB; have HB := n0_; have BK301 := n1_; have GW301 := n2_; have GE301 := n3_; clear n0_ n1_ n2_ n3_; clear hb hbox hg; have hcz7_0 : w6.cell? ⟨gb301, 0, none⟩ = some (.slice A0_0 l0_0.length c0_0) := (blk_cell BK301.out 0).trans rfl; have hcz7_1 : w6.cell? ⟨gb301, 1, none⟩ = some (.bool a0_1) := (blk_cell BK301.out 1).trans rfl; have hfz7_0 := blk_frozen BK301.out 0; have hfz7_1 := blk_frozen BK301.out 1) | ((with_reducible refine gate_callee (f := 19) rfl ?_); refine goesL_ (some 7) rfl rfl Tryd.func19 (by kernel_rfl) rfl #[.agg #[.slice A0_0 l0_0.length c0_0, .bool a0_1]] rfl mp_ ?_; (with_reducible refine (dom_Check.calls k _ _ l0_0 a0_1 t302 _ ?side1 ?side2 A3.out).mono ?_); (case side1 => repeat (first | exact (Kd.C_below HR0_0.out HB.out) | (with_reducible refine Kd.C_alloc ?_ _) | (with_reducible refine Kd.C_drewN ?_ _) | (with_reducible refine Kd.C_drew ?_))); (case side2 => exact HC0_0.out); rintro e w8 ⟨rfl, hb⟩; refine ⟨_, rfl, ?_⟩; have n0_ := Aside0.mk (blk_below (bq_ BK301.out) hb); have n1_ := Aside0.mk (below_step bl0_ hb); clear BK301; clear HB; have BK301 := n0_; have HB := n1_; clear n0_ n1_; (try clear hb); (try clear hb2); (try clear hk); (try clear hi)))
      go_ret
      exact ⟨er_, bl0_⟩
    · rw [if_neg c5] at H
      have c5b0 : decide (a1 < 0) = false := decide_eq_false c5
      clear c5
      by_cases c9 : a1 ≥ (l0_0.length : Int)
      · rw [if_pos c9] at H
        have c9b0 : decide ((l0_0.length : Int) ≤ a1) = true := decide_eq_true c9
        clear c9
        obtain rfl := Option.some.inj H
        go_enter Tryd.func15, Tryd.ntmps15
        go_wp2_with (first | ((with_reducible refine gate_dst (N := 2) rfl ?_); (try (refine gate_guard (by rfl) ?_; dsimp only)); refine box_event ?hg (N := 2) ?hd (cs := #[.slice A0_0 l0_0.length c0_0, .bool a0_1]) (t := 24) ?hr ?_; (case hd => rfl); (case hg => rfl); (case hr => first | (go_simp; done) | (go_simp; rfl)); intro gb301 hg w10 hbox hb; have n0_ := Aside0.mk (below_step bl0_ hb); have n1_ := Aside0.mk (hbox); have n2_ := Aside0.mk (gle_ (w := w) hg bl0_); have n3_ := n2_; clear HB; have HB := n0_; have BK301 := n1_; have GW301 := n2_; have GE301 := n3_; clear n0_ n1_ n2_ n3_; clear hb hbox hg; have hcz11_0 : w10.cell? ⟨gb301, 0, none⟩ = some (.slice A0_0 l0_0.length c0_0) := (blk_cell BK301.out 0).trans rfl; have hcz11_1 : w10.cell? ⟨gb301, 1, none⟩ = some (.bool a0_1) := (blk_cell BK301.out 1).trans rfl; have hfz11_0 := blk_frozen BK301.out 0; have hfz11_1 := blk_frozen BK301.out 1) | ((with_reducible refine gate_callee (f := 19) rfl ?_); refine goesL_ (some 7) rfl rfl Tryd.func19 (by kernel_rfl) rfl #[.agg #[.slice A0_0 l0_0.length c0_0, .bool a0_1]] rfl mp_ ?_; (with_reducible refine (dom_Check.calls k _ _ l0_0 a0_1 t302 _ ?side1 ?side2 A3.out).mono ?_); (case side1 => repeat (first | exact (Kd.C_below HR0_0.out HB.out) | (with_reducible refine Kd.C_alloc ?_ _) | (with_reducible refine Kd.C_drewN ?_ _) | (with_reducible refine Kd.C_drew ?_))); (case side2 => exact HC0_0.out); rintro e w12 ⟨rfl, hb⟩; refine ⟨_, rfl, ?_⟩; have n0_ := Aside0.mk (blk_below (bq_ BK301.out) hb); have n1_ := Aside0.mk (below_step bl0_ hb); clear BK301; clear HB; have BK301 := n0_; have HB := n1_; clear n0_ n1_; (try clear hb); (try clear hb2); (try clear hk); (try clear hi); have hcz13_0 : w12.cell? ⟨gb301, 0, none⟩ = some (.slice A0_0 l0_0.length c0_0) := (blk_cell BK301.out 0).trans rfl; have hcz13_1 : w12.cell? ⟨gb301, 1, none⟩ = some (.bool a0_1) := (blk_cell BK301.out 1).trans rfl; have hfz13_0 := blk_frozen BK301.out 0; have hfz13_1 := blk_frozen BK301.out 1))
        go_ret
        exact ⟨er_, bl0_⟩
      · rw [if_neg c9] at H
        have c9b0 : decide ((l0_0.length : Int) ≤ a1) = false := decide_eq_false c9
        clear c9
        obtain rfl := Option.some.inj H
        go_enter Tryd.func15, Tryd.ntmps15
        go_wp2_with (first | ((with_reducible refine gate_dst (N := 2) rfl ?_); (try (refine gate_guard (by rfl) ?_; dsimp only)); refine box_event ?hg (N := 2) ?hd (cs := #[.slice A0_0 l0_0.length c0_0, .bool a0_1]) (t := 24) ?hr ?_; (case hd => rfl); (case hg => rfl); (case hr => first | (go_simp; done) | (go_simp; rfl)); intro gb301 hg w14 hbox hb; have n0_ := Aside0.mk (below_step bl0_ hb); have n1_ := Aside0.mk (hbox); have n2_ := Aside0.mk (gle_ (w := w) hg bl0_); have n3_ := n2_; clear HB; have HB := n0_; have BK301 := n1_; have GW301 := n2_; have GE301 := n3_; clear n0_ n1_ n2_ n3_; clear hb hbox hg; have hcz15_0 : w14.cell? ⟨gb301, 0, none⟩ = some (.slice A0_0 l0_0.length c0_0) := (blk_cell BK301.out 0).trans rfl; have hcz15_1 : w14.cell? ⟨gb301, 1, none⟩ = some (.bool a0_1) := (blk_cell BK301.out 1).trans rfl; have hfz15_0 := blk_frozen BK301.out 0; have hfz15_1 := blk_frozen BK301.out 1) | ((with_reducible refine gate_callee (f := 19) rfl ?_); refine goesL_ (some 7) rfl rfl Tryd.func19 (by kernel_rfl) rfl #[.agg #[.slice A0_0 l0_0.length c0_0, .bool a0_1]] rfl mp_ ?_; (with_reducible refine (dom_Check.calls k _ _ l0_0 a0_1 t302 _ ?side1 ?side2 A3.out).mono ?_); (case side1 => repeat (first | exact (Kd.C_below HR0_0.out HB.out) | (with_reducible refine Kd.C_alloc ?_ _) | (with_reducible refine Kd.C_drewN ?_ _) | (with_reducible refine Kd.C_drew ?_))); (case side2 => exact HC0_0.out); rintro e w16 ⟨rfl, hb⟩; refine ⟨_, rfl, ?_⟩; have n0_ := Aside0.mk (blk_below (bq_ BK301.out) hb); have n1_ := Aside0.mk (below_step bl0_ hb); clear BK301; clear HB; have BK301 := n0_; have HB := n1_; clear n0_ n1_; (try clear hb); (try clear hb2); (try clear hk); (try clear hi); have hcz17_0 : w16.cell? ⟨gb301, 0, none⟩ = some (.slice A0_0 l0_0.length c0_0) := (blk_cell BK301.out 0).trans rfl; have hcz17_1 : w16.cell? ⟨gb301, 1, none⟩ = some (.bool a0_1) := (blk_cell BK301.out 1).trans rfl; have hfz17_0 := blk_frozen BK301.out 0; have hfz17_1 := blk_frozen BK301.out 1))
        go_ret
        exact ⟨er_, bl0_⟩
  · rw [if_neg c4] at H
    have c4b0 : (t302 == 0) = false := beq_eq_false_iff_ne.mpr c4
    have c4b1 : (t302 != 0) = true := bne_iff_ne.mpr c4
    obtain rfl := Option.some.inj H
    go_enter Tryd.func15, Tryd.ntmps15
    go_wp2_with (first | ((with_reducible refine gate_dst (N := 2) rfl ?_); (try (refine gate_guard (by rfl) ?_; dsimp only)); refine box_event ?hg (N := 2) ?hd (cs := #[.slice A0_0 l0_0.length c0_0, .bool a0_1]) (t := 24) ?hr ?_; (case hd => rfl); (case hg => rfl); (case hr => first | (go_simp; done) | (go_simp; rfl)); intro gb301 hg w18 hbox hb; have n0_ := Aside0.mk (below_step bl0_ hb); have n1_ := Aside0.mk (hbox); have n2_ := Aside0.mk (gle_ (w := w) hg bl0_); have n3_ := n2_; clear HB; have HB := n0_; have BK301 := n1_; have GW301 := n2_; have GE301 := n3_; clear n0_ n1_ n2_ n3_; clear hb hbox hg; have hcz19_0 : w18.cell? ⟨gb301, 0, none⟩ = some (.slice A0_0 l0_0.length c0_0) := (blk_cell BK301.out 0).trans rfl; have hcz19_1 : w18.cell? ⟨gb301, 1, none⟩ = some (.bool a0_1) := (blk_cell BK301.out 1).trans rfl; have hfz19_0 := blk_frozen BK301.out 0; have hfz19_1 := blk_frozen BK301.out 1) | ((with_reducible refine gate_callee (f := 19) rfl ?_); refine goesL_ (some 7) rfl rfl Tryd.func19 (by kernel_rfl) rfl #[.agg #[.slice A0_0 l0_0.length c0_0, .bool a0_1]] rfl mp_ ?_; (with_reducible refine (dom_Check.calls k _ _ l0_0 a0_1 t302 _ ?side1 ?side2 A3.out).mono ?_); (case side1 => repeat (first | exact (Kd.C_below HR0_0.out HB.out) | (with_reducible refine Kd.C_alloc ?_ _) | (with_reducible refine Kd.C_drewN ?_ _) | (with_reducible refine Kd.C_drew ?_))); (case side2 => exact HC0_0.out); rintro e w20 ⟨rfl, hb⟩; refine ⟨_, rfl, ?_⟩; have n0_ := Aside0.mk (blk_below (bq_ BK301.out) hb); have n1_ := Aside0.mk (below_step bl0_ hb); clear BK301; clear HB; have BK301 := n0_; have HB := n1_; clear n0_ n1_; (try clear hb); (try clear hb2); (try clear hk); (try clear hi)))
    go_ret
    exact ⟨er_, bl0_⟩

end Go.Proofs.YthggdgnpphjpkaaDoor.PSP
