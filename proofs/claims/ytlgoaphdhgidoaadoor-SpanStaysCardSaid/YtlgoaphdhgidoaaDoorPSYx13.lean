-- printed by wip/tools/pr.py (own) through the kit's printer; texts GIVEN by hand stand among them
import Derived.Test.YtlgoaphdhgidoaaDoorPSYx0
import Derived.Test.YtlgoaphdhgidoaaDoorPSYx6
import Derived.Test.YtlgoaphdhgidoaaDoorPSYx11
import Derived.Test.YtlgoaphdhgidoaaDoorPSYx12
namespace Go.Proofs.YtlgoaphdhgidoaaDoor.PSY
open Go.RowKit Go.Proofs.YtlgoaphdhgidoaaDoorW.PrintWords Go.Proofs.YtlgoaphdhgidoaaDoorW.PrintLast Go.Proofs.YtlgoaphdhgidoaaDoorW.PrintMore
attribute [local go_sem] max2_int min2_int max_two min_two max_three min_three max_four min_four   -- for this text's walks alone
set_option linter.unusedVariables false
set_option linter.unusedSimpArgs false

/-! ### span_ranger_order: function 25 -/
def span_ranger_order.f (k : Nat) (l0_0 : List (S37)) (a0_1 : Bool) (a1_0 : Int) (a1_1 : Int) (a2_0 : Int) (a2_1 : Int) : Option (Int) := if a1_0 = a2_0 then ((cmp_Compare_int.f a1_1 a2_1).bind fun t198 => (some t198)) else ((span_ranger_path.f k l0_0 a0_1 a1_0 a1_1).bind fun t199 => ((span_ranger_path.f k l0_0 a0_1 a2_0 a2_1).bind fun t202 => ((slices_Compare_int_int.f k t199 t202).bind fun t205 => (some t205))))
theorem span_ranger_order.mono : ∀ a0 a1 a2 a3 a4 a5 k, LeO (span_ranger_order.f k a0 a1 a2 a3 a4 a5) (span_ranger_order.f (k + 1) a0 a1 a2 a3 a4 a5) := by
  intro a0 a1 a2 a3 a4 a5 k
  unfold span_ranger_order.f
  repeat' first
      | (with_reducible exact slices_Compare_int_int.mono _ _ _)
      | (with_reducible exact span_ranger_path.mono _ _ _ _ _)
      | (with_reducible exact LeO.refl _)
      | (with_reducible exact LeO.none _)
      | (with_reducible refine LeO.ite ?_ ?_)
      | (with_reducible refine LeO.bind ?_ (fun _ => ?_))
      | exact slices_Compare_int_int.mono _ _ _
      | exact span_ranger_path.mono _ _ _ _ _
      | exact LeO.none _
      | refine LeO.ite ?_ ?_
      | refine LeO.bind ?_ (fun _ => ?_)
def span_ranger_order.T3 : Bool × List (List Nat × List Nat) := (true, [([], []), ([], []), ([0, 1], [0, 1]), ([], []), ([], []), ([3, 4, 2], [3, 4]), ([2, 5, 5], [2, 5]), ([6, 6, 0, 1, 2, 3, 4, 5, 6], [6])])
def span_ranger_order.B3 : List Nat := [0, 0, 3, 0, 0, 31, 63, 127]
theorem span_ranger_order.tab3 : rtab .any (opsOf Tryd.f25 3) = span_ranger_order.T3 := by kernel_rfl
theorem span_ranger_order.bits3 : waitsOk span_ranger_order.T3.2 span_ranger_order.B3 = true := by kernel_rfl
set_option maxHeartbeats 8000000 in
set_option maxRecDepth 100000 in
theorem span_ranger_order.calls (k : Nat) (A0_0 : Option Addr) (c0_0 : Nat) (l0_0 : List (S37)) (a0_1 : Bool) (a1_0 : Int) (a1_1 : Int) (a2_0 : Int) (a2_1 : Int) (r : Int) (w : World) (hr0_0 : Kd.C k37 w A0_0 l0_0.length l0_0) (hc0_0 : l0_0.length ≤ c0_0) (h : span_ranger_order.f k l0_0 a0_1 a1_0 a1_1 a2_0 a2_1 = some r) :
    Calls Tryd.prog 25 #[.agg #[.slice A0_0 l0_0.length c0_0, .bool a0_1], .agg #[.int .i64 a1_0, .int .i64 a1_1], .agg #[.int .i64 a2_0, .int .i64 a2_1]] w fun e w' => e = .returned (.int .i64 r) ∧ Below w.heap.size w w' := by
  have hu53 := Tryd.underlying53
  have hu27 := Tryd.underlying27
  have HR0_0 := Aside0.mk hr0_0
  have HC0_0 := Aside0.mk hc0_0
  clear hr0_0 hc0_0
  have HB := Aside0.mk (Below.refl w.heap.size w)
  have H : (if a1_0 = a2_0 then ((cmp_Compare_int.f a1_1 a2_1).bind fun t198 => (some t198)) else ((span_ranger_path.f k l0_0 a0_1 a1_0 a1_1).bind fun t199 => ((span_ranger_path.f k l0_0 a0_1 a2_0 a2_1).bind fun t202 => ((slices_Compare_int_int.f k t199 t202).bind fun t205 => (some t205))))) = some r := h
  clear h
  by_cases c4 : a1_0 = a2_0
  · rw [if_pos c4] at H
    have c4b0 : (a1_0 == a2_0) = true := beq_iff_eq.mpr c4
    have c4b1 : (a1_0 != a2_0) = false := bne_eq_false_iff_eq.mpr c4
    clear c4
    replace H := Option.bind_eq_some_iff.mp H
    obtain ⟨t198, A50, H⟩ := H
    replace H : (some t198) = some r := H
    have A5 := Aside0.mk A50
    clear A50
    obtain rfl := Option.some.inj H
    go_enter Tryd.func25, Tryd.ntmps25
    go_wp2_with (first | ((with_reducible refine gate_dst (N := 3) rfl ?_); refine box_event rf_ (N := 3) rf_ (cs := #[.slice A0_0 l0_0.length c0_0, .bool a0_1]) (t := 53) gs_ ?_; intro gb195 hg w6 hbox hb; have BK195 := Aside0.mk hbox; have GW195 := Aside0.mk (gle_ (w := w) hg bl0_); replace HB := Aside0.mk (below_step bl0_ hb); have GE195 := GW195; clear hb hbox hg) | ((with_reducible refine gate_dst (N := 4) rfl ?_); refine box_event rf_ (N := 4) rf_ (cs := #[.int .i64 a1_0, .int .i64 a1_1]) (t := 27) gs_ ?_; intro gb196 hg w7 hbox hb; have n0_ := bb_ BK195 hb; have n1_ := Aside0.mk (below_step bl0_ hb); have n2_ := Aside0.mk hbox; have n3_ := Aside0.mk (gle_ (w := w) hg bl0_); have n4_ := n3_; have n5_ := nl_ hg BK195; have n6_ := ng_ hg BK195; clear BK195; clear HB; have BK195 := n0_; have HB := n1_; have BK196 := n2_; have GW196 := n3_; have GE196 := n4_; have NB195_196 := n5_; have NB196_195 := n6_; clear n0_ n1_ n2_ n3_ n4_ n5_ n6_; clear hb hbox hg) | ((with_reducible refine gate_dst (N := 5) rfl ?_); refine box_event rf_ (N := 5) rf_ (cs := #[.int .i64 a2_0, .int .i64 a2_1]) (t := 27) gs_ ?_; intro gb197 hg w8 hbox hb; have n0_ := bb_ BK195 hb; have n1_ := bb_ BK196 hb; have n2_ := Aside0.mk (below_step bl0_ hb); have n3_ := Aside0.mk hbox; have n4_ := Aside0.mk (gle_ (w := w) hg bl0_); have n5_ := n4_; have n6_ := nl_ hg BK195; have n7_ := ng_ hg BK195; have n8_ := nl_ hg BK196; have n9_ := ng_ hg BK196; clear BK195; clear BK196; clear HB; have BK195 := n0_; have BK196 := n1_; have HB := n2_; have BK197 := n3_; have GW197 := n4_; have GE197 := n5_; have NB195_197 := n6_; have NB197_195 := n7_; have NB196_197 := n8_; have NB197_196 := n9_; clear n0_ n1_ n2_ n3_ n4_ n5_ n6_ n7_ n8_ n9_; clear hb hbox hg; have hnb9 := NB196_195.out; have hnc9 := NB195_196.out; have hnb10 := NB196_197.out; have hnc10 := NB197_196.out; obtain ⟨hcz11_0, hcz11_1, hfz11_0, hfz11_1⟩ := cf2_ BK196; have hnb12 := NB197_195.out; have hnc12 := NB195_197.out; obtain ⟨hcz13_0, hcz13_1, hfz13_0, hfz13_1⟩ := cf2_ BK197) | ((with_reducible refine gate_callee (f := 38) rfl ?_); refine goesL_ (some 16) rfl rfl Tryd.func38 (by kernel_rfl) rfl #[.int .i64 a1_1, .int .i64 a2_1] rfl mp_ ?_; (with_reducible refine (cmp_Compare_int.calls a1_1 a2_1 t198 _ A5.out).mono ?_); rintro e w' ⟨rfl, ⟨nd, rfl⟩⟩; refine ⟨_, rfl, ?_⟩))
    go_ret
    exact ⟨er_, bl0_⟩
  · rw [if_neg c4] at H
    have c4b0 : (a1_0 == a2_0) = false := beq_eq_false_iff_ne.mpr c4
    have c4b1 : (a1_0 != a2_0) = true := bne_iff_ne.mpr c4
    replace H := Option.bind_eq_some_iff.mp H
    obtain ⟨t199, A140, H⟩ := H
    replace H : ((span_ranger_path.f k l0_0 a0_1 a2_0 a2_1).bind fun t202 => ((slices_Compare_int_int.f k t199 t202).bind fun t205 => (some t205))) = some r := H
    have A14 := Aside0.mk A140
    clear A140
    replace H := Option.bind_eq_some_iff.mp H
    obtain ⟨t202, A150, H⟩ := H
    replace H : ((slices_Compare_int_int.f k t199 t202).bind fun t205 => (some t205)) = some r := H
    have A15 := Aside0.mk A150
    clear A150
    replace H := Option.bind_eq_some_iff.mp H
    obtain ⟨t205, A160, H⟩ := H
    replace H : (some t205) = some r := H
    have A16 := Aside0.mk A160
    clear A160
    obtain rfl := Option.some.inj H
    go_enter Tryd.func25, Tryd.ntmps25
    try go_wp2_with (first | ((with_reducible refine gate_dst (N := 3) rfl ?_); refine box_event rf_ (N := 3) rf_ (cs := #[.slice A0_0 l0_0.length c0_0, .bool a0_1]) (t := 53) gs_ ?_; intro gb195 hg w17 hbox hb; have BK195 := Aside0.mk hbox; have GW195 := Aside0.mk (gle_ (w := w) hg bl0_); replace HB := Aside0.mk (below_step bl0_ hb); have GE195 := GW195; clear hb hbox hg) | ((with_reducible refine gate_dst (N := 4) rfl ?_); refine box_event rf_ (N := 4) rf_ (cs := #[.int .i64 a1_0, .int .i64 a1_1]) (t := 27) gs_ ?_; intro gb196 hg w18 hbox hb; have n0_ := bb_ BK195 hb; have n1_ := Aside0.mk (below_step bl0_ hb); have n2_ := Aside0.mk hbox; have n3_ := Aside0.mk (gle_ (w := w) hg bl0_); have n4_ := n3_; have n5_ := nl_ hg BK195; have n6_ := ng_ hg BK195; clear BK195; clear HB; have BK195 := n0_; have HB := n1_; have BK196 := n2_; have GW196 := n3_; have GE196 := n4_; have NB195_196 := n5_; have NB196_195 := n6_; clear n0_ n1_ n2_ n3_ n4_ n5_ n6_; clear hb hbox hg) | ((with_reducible refine gate_dst (N := 5) rfl ?_); refine box_event rf_ (N := 5) rf_ (cs := #[.int .i64 a2_0, .int .i64 a2_1]) (t := 27) gs_ ?_; intro gb197 hg w19 hbox hb; have n0_ := bb_ BK195 hb; have n1_ := bb_ BK196 hb; have n2_ := Aside0.mk (below_step bl0_ hb); have n3_ := Aside0.mk hbox; have n4_ := Aside0.mk (gle_ (w := w) hg bl0_); have n5_ := n4_; have n6_ := nl_ hg BK195; have n7_ := ng_ hg BK195; have n8_ := nl_ hg BK196; have n9_ := ng_ hg BK196; clear BK195; clear BK196; clear HB; have BK195 := n0_; have BK196 := n1_; have HB := n2_; have BK197 := n3_; have GW197 := n4_; have GE197 := n5_; have NB195_197 := n6_; have NB197_195 := n7_; have NB196_197 := n8_; have NB197_196 := n9_; clear n0_ n1_ n2_ n3_ n4_ n5_ n6_ n7_ n8_ n9_; clear hb hbox hg; have hnb20 := NB196_195.out; have hnc20 := NB195_196.out; have hnb21 := NB196_197.out; have hnc21 := NB197_196.out; obtain ⟨hcz22_0, hcz22_1, hfz22_0, hfz22_1⟩ := cf2_ BK196; have hnb23 := NB197_195.out; have hnc23 := NB195_197.out; obtain ⟨hcz24_0, hcz24_1, hfz24_0, hfz24_1⟩ := cf2_ BK197))
    have n0_ := Aside0.mk (blk_drew BK195.out)
    have n1_ := Aside0.mk (blk_drew BK196.out)
    have n2_ := Aside0.mk (blk_drew BK197.out)
    have n3_ := Aside0.mk (below_drew1 HB.out)
    clear BK195
    clear BK196
    clear BK197
    clear HB
    have BK195 := n0_
    have BK196 := n1_
    have BK197 := n2_
    have HB := n3_
    clear n0_ n1_ n2_ n3_
    refine start_ (n := 8) (S := fun w' => w'.cell? ⟨gb195, 0, none⟩ = some (.slice A0_0 l0_0.length c0_0) ∧ w'.cell? ⟨gb195, 1, none⟩ = some (.bool a0_1) ∧ w'.cell? ⟨gb196, 0, none⟩ = some (.int .i64 a1_0) ∧ w'.cell? ⟨gb196, 1, none⟩ = some (.int .i64 a1_1) ∧ w'.cell? ⟨gb197, 0, none⟩ = some (.int .i64 a2_0) ∧ w'.cell? ⟨gb197, 1, none⟩ = some (.int .i64 a2_1)) (ds := []) #[false, false, false, false, false, false, false, false] (by kernel_rfl) rfl rfl ⟨(blk_cell BK195.out 0).trans rfl, (blk_cell BK195.out 1).trans rfl, (blk_cell BK196.out 0).trans rfl, (blk_cell BK196.out 1).trans rfl, (blk_cell BK197.out 0).trans rfl, (blk_cell BK197.out 1).trans rfl⟩ (fun hHeld => ?_); refine with_tabW span_ranger_order.tab3 span_ranger_order.bits3 (fun HT_ HW_ => ?_)
    generalize w19.drew = w25 at BK195 BK196 BK197 HB hHeld ⊢
    refine take_ (i := 0) (N := some 17) (v := ?_) (a' := ?_) #[true, false, false, false, false, false, false, false] rfl rfl (take_ofW HT_.out HW_.out (by kernel_rfl)) (fun _ _ _ h => h) (Or.inl ⟨by rfl, ?_⟩) hHeld ?_ ?_
    rotate_left
    · rintro w' ⟨s0, s1, s2, s3, s4, s5⟩
      go_simp
      with_reducible rfl
    rotate_left
    · simp only [Act.put, List.setIfInBounds_toArray, List.set_cons_zero, List.set_cons_succ, i64_w, i32_w]
      rfl
    refine take_ (i := 1) (N := some 18) (v := ?_) (a' := ?_) #[true, true, false, false, false, false, false, false] rfl rfl (take_ofW HT_.out HW_.out (by kernel_rfl)) (fun _ _ _ h => h) (Or.inl ⟨by rfl, ?_⟩) hHeld ?_ ?_
    rotate_left
    · rintro w' ⟨s0, s1, s2, s3, s4, s5⟩
      go_simp
      with_reducible rfl
    rotate_left
    · simp only [Act.put, List.setIfInBounds_toArray, List.set_cons_zero, List.set_cons_succ, i64_w, i32_w]
      rfl
    refine take_ (i := 3) (N := some 20) (v := ?_) (a' := ?_) #[true, true, false, true, false, false, false, false] rfl rfl (take_ofW HT_.out HW_.out (by kernel_rfl)) (fun _ _ _ h => h) (Or.inl ⟨by rfl, ?_⟩) hHeld ?_ ?_
    rotate_left
    · rintro w' ⟨s0, s1, s2, s3, s4, s5⟩
      go_simp
      with_reducible rfl
    rotate_left
    · simp only [Act.put, List.setIfInBounds_toArray, List.set_cons_zero, List.set_cons_succ, i64_w, i32_w]
      rfl
    refine take_ (i := 4) (N := some 21) (v := ?_) (a' := ?_) #[true, true, false, true, true, false, false, false] rfl rfl (take_ofW HT_.out HW_.out (by kernel_rfl)) (fun _ _ _ h => h) (Or.inl ⟨by rfl, ?_⟩) hHeld ?_ ?_
    rotate_left
    · rintro w' ⟨s0, s1, s2, s3, s4, s5⟩
      go_simp
      with_reducible rfl
    rotate_left
    · simp only [Act.put, List.setIfInBounds_toArray, List.set_cons_zero, List.set_cons_succ, i64_w, i32_w]
      rfl
    refine one_ (i := 2) (N := some 19) #[true, true, true, true, true, false, false, false] rfl rfl (one_of HT_.out (by kernel_rfl)) (by decide) (fun K hK => ?_)
    refine goes_ Tryd.func40 (by kernel_rfl) rfl #[.agg #[.slice A0_0 l0_0.length c0_0, .bool a0_1], .agg #[.int .i64 a1_0, .int .i64 a1_1]] (by rfl) rfl rfl mp_ ?_
    with_reducible refine (span_ranger_path.calls k _ _ l0_0 a0_1 a1_0 a1_1 t199 _ ?side1 ?side2 A14.out).mono ?_
    (case side1 => repeat (first | exact (Kd.C_below HR0_0.out HB.out) | (with_reducible refine Kd.C_alloc ?_ _) | (with_reducible refine Kd.C_drewN ?_ _) | (with_reducible refine Kd.C_drew ?_)))
    (case side2 => exact HC0_0.out)
    rintro e w26 ⟨v200, rfl, ho0, hb⟩
    refine ⟨_, rfl, ?_⟩
    have n0_ := Aside0.mk (Kd.R_lower ho0 (below_size bl0_))
    have n1_ := bb_ BK195 hb
    have n2_ := bb_ BK196 hb
    have n3_ := bb_ BK197 hb
    have n4_ := Aside0.mk (below_step bl0_ hb)
    clear BK195
    clear BK196
    clear BK197
    clear HB
    have HO201 := n0_
    have BK195 := n1_
    have BK196 := n2_
    have BK197 := n3_
    have HB := n4_
    clear n0_ n1_ n2_ n3_ n4_
    (try clear hb)
    (try clear hb2)
    (try clear hk)
    (try clear hi)
    (try clear ho0)
    refine hK.out _ _ ⟨(blk_cell BK195.out 0).trans rfl, (blk_cell BK195.out 1).trans rfl, (blk_cell BK196.out 0).trans rfl, (blk_cell BK196.out 1).trans rfl, (blk_cell BK197.out 0).trans rfl, (blk_cell BK197.out 1).trans rfl⟩ (fun hHeld => ?_)
    clear hK K
    refine norm_ (a' := ?_) ?_ ?_
    rotate_left
    · show Act.put _ (some 19) _ = _
      simp only [Act.put, List.setIfInBounds_toArray, List.set_cons_zero, List.set_cons_succ, i64_w, i32_w]
      rfl
    refine one_ (i := 5) (N := some 22) #[true, true, true, true, true, true, false, false] rfl rfl (one_of HT_.out (by kernel_rfl)) (by decide) (fun K hK => ?_)
    refine goes_ Tryd.func40 (by kernel_rfl) rfl #[.agg #[.slice A0_0 l0_0.length c0_0, .bool a0_1], .agg #[.int .i64 a2_0, .int .i64 a2_1]] (by rfl) rfl rfl mp_ ?_
    with_reducible refine (span_ranger_path.calls k _ _ l0_0 a0_1 a2_0 a2_1 t202 _ ?side1 ?side2 A15.out).mono ?_
    (case side1 => repeat (first | exact (Kd.C_below HR0_0.out HB.out) | (with_reducible refine Kd.C_alloc ?_ _) | (with_reducible refine Kd.C_drewN ?_ _) | (with_reducible refine Kd.C_drew ?_)))
    (case side2 => exact HC0_0.out)
    rintro e w27 ⟨v203, rfl, ho0, hb⟩
    refine ⟨_, rfl, ?_⟩
    have n0_ := Aside0.mk (Kd.R_elder' (Kd.R_below HO201.out bu_) (Kd.R_base ho0) hb)
    have n1_ := Aside0.mk (Kd.R_lower (Kd.R_new' ho0 (Kd.R_lt (Kd.R_below HO201.out bu_))) (below_size bl0_))
    have n2_ := bb_ BK195 hb
    have n3_ := bb_ BK196 hb
    have n4_ := bb_ BK197 hb
    have n5_ := Aside0.mk (below_step bl0_ hb)
    clear HO201
    clear BK195
    clear BK196
    clear BK197
    clear HB
    have HO201 := n0_
    have HO204 := n1_
    have BK195 := n2_
    have BK196 := n3_
    have BK197 := n4_
    have HB := n5_
    clear n0_ n1_ n2_ n3_ n4_ n5_
    (try clear hb)
    (try clear hb2)
    (try clear hk)
    (try clear hi)
    (try clear ho0)
    obtain ⟨Ao28, co28, eo28⟩ := Kd.R_slice HO201.out
    (first | subst eo28 | (injection eo28 with f1_ f2_ f3_; have f4_ := f1_.symm; have f5_ := f3_.symm; clear f1_ f2_ f3_; subst f4_; subst f5_))
    obtain ⟨Ao29, co29, eo29⟩ := Kd.R_slice HO204.out
    (first | subst eo29 | (injection eo29 with f1_ f2_ f3_; have f4_ := f1_.symm; have f5_ := f3_.symm; clear f1_ f2_ f3_; subst f4_; subst f5_))
    refine hK.out _ _ ⟨(blk_cell BK195.out 0).trans rfl, (blk_cell BK195.out 1).trans rfl, (blk_cell BK196.out 0).trans rfl, (blk_cell BK196.out 1).trans rfl, (blk_cell BK197.out 0).trans rfl, (blk_cell BK197.out 1).trans rfl⟩ (fun hHeld => ?_)
    clear hK K
    refine norm_ (a' := ?_) ?_ ?_
    rotate_left
    · show Act.put _ (some 22) _ = _
      simp only [Act.put, List.setIfInBounds_toArray, List.set_cons_zero, List.set_cons_succ, i64_w, i32_w]
      rfl
    refine one_ (i := 6) (N := some 23) #[true, true, true, true, true, true, true, false] rfl rfl (one_of HT_.out (by kernel_rfl)) (by decide) (fun K hK => ?_)
    refine goes_ Tryd.func39 (by kernel_rfl) rfl #[.slice Ao28 t199.length co28, .slice Ao29 t202.length co29] (by rfl) rfl rfl mp_ ?_
    with_reducible refine (slices_Compare_int_int.calls k _ _ t199 _ _ t202 t205 _ ?side1 ?side2 ?side3 ?side4 A16.out).mono ?_
    (case side1 => repeat (first | exact (Kd.R_reads' HO201.out).2.2 | (with_reducible refine Kd.C_alloc ?_ _) | (with_reducible refine Kd.C_drewN ?_ _) | (with_reducible refine Kd.C_drew ?_)))
    (case side2 => exact (Kd.R_reads' HO201.out).2.1)
    (case side3 => repeat (first | exact (Kd.R_reads' HO204.out).2.2 | (with_reducible refine Kd.C_alloc ?_ _) | (with_reducible refine Kd.C_drewN ?_ _) | (with_reducible refine Kd.C_drew ?_)))
    (case side4 => exact (Kd.R_reads' HO204.out).2.1)
    rintro e w' ⟨rfl, ⟨nd, rfl⟩⟩
    refine ⟨_, rfl, ?_⟩
    refine hK.out _ _ ⟨(blk_cell BK195.out 0).trans rfl, (blk_cell BK195.out 1).trans rfl, (blk_cell BK196.out 0).trans rfl, (blk_cell BK196.out 1).trans rfl, (blk_cell BK197.out 0).trans rfl, (blk_cell BK197.out 1).trans rfl⟩ (fun hHeld => ?_)
    clear hK K
    refine norm_ (a' := ?_) ?_ ?_
    rotate_left
    · show Act.put _ (some 23) _ = _
      simp only [Act.put, List.setIfInBounds_toArray, List.set_cons_zero, List.set_cons_succ, i64_w, i32_w]
      rfl
    refine pure_ (i := 7) (N := some 6) (v := ?_) (a' := ?_) #[true, true, true, true, true, true, true, true] rfl rfl (any_of HT_.out (by kernel_rfl)) (fun _ _ _ h => h) (Or.inl ⟨by rfl, ?_⟩) ?_ ?_
    rotate_left
    · intro w'
      go_simp
      with_reducible rfl
    rotate_left
    · simp only [Act.put, List.setIfInBounds_toArray, List.set_cons_zero, List.set_cons_succ, i64_w, i32_w]
      rfl
    refine done_ (done_of HT_.out (by kernel_rfl)) ?_
    try go_wp2
    go_ret
    exact ⟨er_, bl0_⟩

/-! ### span_span: function 14 -/
def span_span.f (k : Nat) (l0_0 : List (S37)) (a0_1 : Bool) (a1_0 : Int) (a1_1 : Int) (a1_2 : Int) (a1_3 : Int) : Option ((List (S37)) × Bool × Int) := (span_points.f k l0_0 a0_1 (([(⟨a1_0, a1_1⟩ : S27), (⟨a1_2, a1_3⟩ : S27)] : List (S27)))).bind fun bt212 => (if bt212.2.2 = 0 then ((span_ranger_order.f k bt212.1 bt212.2.1 a1_0 a1_1 a1_2 a1_3).bind fun t218 => (if t218 > 0 then (some (bt212.1, bt212.2.1, 9)) else (some (bt212.1, bt212.2.1, bt212.2.2)))) else (some (bt212.1, bt212.2.1, bt212.2.2)))
theorem span_span.mono : ∀ a0 a1 a2 a3 a4 a5 k, LeO (span_span.f k a0 a1 a2 a3 a4 a5) (span_span.f (k + 1) a0 a1 a2 a3 a4 a5) := by
  intro a0 a1 a2 a3 a4 a5 k
  unfold span_span.f
  repeat' first
      | (with_reducible exact span_points.mono _ _ _ _)
      | (with_reducible exact span_ranger_order.mono _ _ _ _ _ _ _)
      | (with_reducible exact LeO.refl _)
      | (with_reducible exact LeO.none _)
      | (with_reducible refine LeO.ite ?_ ?_)
      | (with_reducible refine LeO.bind ?_ (fun _ => ?_))
      | exact span_points.mono _ _ _ _
      | exact span_ranger_order.mono _ _ _ _ _ _ _
      | exact LeO.none _
      | refine LeO.ite ?_ ?_
      | refine LeO.bind ?_ (fun _ => ?_)
set_option maxHeartbeats 8000000 in
set_option maxRecDepth 100000 in
theorem span_span.calls (k : Nat) (P0_0_ : Nat → Prop) (A0_0 : Option Addr) (c0_0 : Nat) (l0_0 : List (S37)) (a0_1 : Bool) (a1_0 : Int) (a1_1 : Int) (a1_2 : Int) (a1_3 : Int) (r1 : List (S37)) (r2 : Bool) (r3 : Int) (w : World) (hs0_0 : Kd.V k37 37 w w.heap.size (fun k_ => P0_0_ k_) (.slice A0_0 l0_0.length c0_0) l0_0) (h : span_span.f k l0_0 a0_1 a1_0 a1_1 a1_2 a1_3 = some (r1, r2, r3)) :
    Calls Tryd.prog 14 #[.agg #[.slice A0_0 l0_0.length c0_0, .bool a0_1], .agg #[.int .i64 a1_0, .int .i64 a1_1, .int .i64 a1_2, .int .i64 a1_3]] w fun e w' => ∃ v0_ : Value, e = .returned (.tuple #[.agg #[v0_, .bool r2], .int .i64 r3]) ∧ Kd.V k37 37 w' w.heap.size (fun k_ => (P0_0_ k_ ∨ w.heap.size ≤ k_)) v0_ r1 ∧ Below w.heap.size w w' := by
  have hu24 := Tryd.underlying24
  have hu29 := Tryd.underlying29
  have hu53 := Tryd.underlying53
  have hu27 := Tryd.underlying27
  have HO0_0 := Aside0.mk (show Kd.V k37 37 w w.heap.size (fun k_ => (P0_0_ k_ ∨ w.heap.size ≤ k_)) (.slice A0_0 l0_0.length c0_0) l0_0 from Kd.V_mono hs0_0 (fun k_ hk => .inl hk))
  have HB := Aside0.mk (Below.refl w.heap.size w)
  have H : ((span_points.f k l0_0 a0_1 (([(⟨a1_0, a1_1⟩ : S27), (⟨a1_2, a1_3⟩ : S27)] : List (S27)))).bind fun bt212 => (if bt212.2.2 = 0 then ((span_ranger_order.f k bt212.1 bt212.2.1 a1_0 a1_1 a1_2 a1_3).bind fun t218 => (if t218 > 0 then (some (bt212.1, bt212.2.1, 9)) else (some (bt212.1, bt212.2.1, bt212.2.2)))) else (some (bt212.1, bt212.2.1, bt212.2.2)))) = some (r1, r2, r3) := h
  clear h
  obtain ⟨y209, hy209⟩ : ∃ y_ : List (S27), y_ = (([(⟨a1_0, a1_1⟩ : S27), (⟨a1_2, a1_3⟩ : S27)] : List (S27))) := ⟨_, rfl⟩
  replace H : ((span_points.f k l0_0 a0_1 y209).bind fun bt212 => (if bt212.2.2 = 0 then ((span_ranger_order.f k bt212.1 bt212.2.1 a1_0 a1_1 a1_2 a1_3).bind fun t218 => (if t218 > 0 then (some (bt212.1, bt212.2.1, 9)) else (some (bt212.1, bt212.2.1, bt212.2.2)))) else (some (bt212.1, bt212.2.1, bt212.2.2)))) = some (r1, r2, r3) := by first | (rw [hy209]; with_reducible exact H) | (have H2_ := (Option.bind_some _ _).symm.trans H; rw [hy209]; with_reducible exact H2_) | (have H2_ := (Option.bind_some _ _).symm.trans H; with_reducible exact H2_) | with_reducible exact H | (rw [hy209]; exact H) | exact H
  have Ny209 := Aside0.mk hy209
  clear hy209
  replace H := Option.bind_eq_some_iff.mp H
  obtain ⟨⟨t212, t215, t216⟩, A30, H⟩ := H
  replace H : (if t216 = 0 then ((span_ranger_order.f k t212 t215 a1_0 a1_1 a1_2 a1_3).bind fun t218 => (if t218 > 0 then (some (t212, t215, 9)) else (some (t212, t215, t216)))) else (some (t212, t215, t216))) = some (r1, r2, r3) := H
  have A3 := Aside0.mk A30
  clear A30
  by_cases c4 : t216 = 0
  · rw [if_pos c4] at H
    have c4b0 : (t216 == 0) = true := beq_iff_eq.mpr c4
    have c4b1 : (t216 != 0) = false := bne_eq_false_iff_eq.mpr c4
    clear c4
    replace H := Option.bind_eq_some_iff.mp H
    obtain ⟨t218, A50, H⟩ := H
    replace H : (if t218 > 0 then (some (t212, t215, 9)) else (some (t212, t215, t216))) = some (r1, r2, r3) := H
    have A5 := Aside0.mk A50
    clear A50
    by_cases c6 : t218 > 0
    · rw [if_pos c6] at H
      have c6b0 : decide (0 < t218) = true := decide_eq_true c6
      clear c6
      simp only [Option.some.injEq, Prod.mk.injEq] at H
      obtain ⟨rfl, rfl, rfl⟩ := H
      go_enter Tryd.func14, Tryd.ntmps14
      go_wp2_with (first | ((with_reducible refine gate_dst (N := 2) rfl ?_); refine box_event rf_ (N := 2) rf_ (cs := #[.slice A0_0 l0_0.length c0_0, .bool a0_1]) (t := 24) gs_ ?_; intro gb206 hg w7 hbox hb; replace HO0_0 := Aside0.mk (Kd.V_below (Kd.V_elderB (Kd.V_below HO0_0.out bu_) gb206 (Nat.le_of_eq hg.symm)) hb); have BK206 := Aside0.mk hbox; have GW206 := Aside0.mk (gle_ (w := w) hg bl0_); replace HB := Aside0.mk (below_step bl0_ hb); have GE206 := GW206; clear hb hbox hg) | ((with_reducible refine gate_dst (N := 3) rfl ?_); refine box_event rf_ (N := 3) rf_ (cs := #[.int .i64 a1_0, .int .i64 a1_1, .int .i64 a1_2, .int .i64 a1_3]) (t := 29) gs_ ?_; intro gb207 hg w8 hbox hb; replace HO0_0 := Aside0.mk (Kd.V_below (Kd.V_elderB (Kd.V_below HO0_0.out bu_) gb207 (Nat.le_of_eq hg.symm)) hb); have BK207 := Aside0.mk hbox; have GW207 := Aside0.mk (gle_ (w := w) hg bl0_); replace HB := Aside0.mk (below_step bl0_ hb); have GE207 := GW207; have NB206_207 := nl_ hg BK206; have NB207_206 := ng_ hg BK206; replace BK206 := bb_ BK206 hb; clear hb hbox hg) | ((with_reducible refine gate_dst (N := 4) rfl ?_); refine box_event rf_ (N := 4) rf_ (cs := #[.slice none 0 0, .bool false]) (t := 53) gs_ ?_; intro gb208 hg w9 hbox hb; replace HO0_0 := Aside0.mk (Kd.V_below (Kd.V_elderB (Kd.V_below HO0_0.out bu_) gb208 (Nat.le_of_eq hg.symm)) hb); have BK208 := Aside0.mk hbox; have GW208 := Aside0.mk (gle_ (w := w) hg bl0_); replace HB := Aside0.mk (below_step bl0_ hb); have GE208 := GW208; have NB206_208 := nl_ hg BK206; have NB208_206 := ng_ hg BK206; replace BK206 := bb_ BK206 hb; have NB207_208 := nl_ hg BK207; have NB208_207 := ng_ hg BK207; replace BK207 := bb_ BK207 hb; clear hb hbox hg; have hnb10 := NB206_207.out; have hnc10 := NB207_206.out; have hnb11 := NB206_208.out; have hnc11 := NB208_206.out; obtain ⟨hcz12_0, hcz12_1, hfz12_0, hfz12_1⟩ := cf2_ BK206; have hnb13 := NB207_208.out; have hnc13 := NB208_207.out; obtain ⟨hcz14_0, hcz14_1, hcz14_2, hcz14_3, hfz14_0, hfz14_1, hfz14_2, hfz14_3⟩ := cf4_ BK207) | ((with_reducible refine gate_dst (N := 14) rfl ?_); refine Kd.R_lit k27 _ 27 rf_ (N := 14) rf_ (xs := ([(⟨a1_0, a1_1⟩ : S27), (⟨a1_2, a1_3⟩ : S27)] : List (S27))) (inner := [.int .i64 a1_0, .int .i64 a1_1, .int .i64 a1_2, .int .i64 a1_3]) (ok := fun _ => True) (okp := fun _ => True) gs_ ?hp (fun _ hk => hk) trivial (Below.refl _ _) (Nat.le_refl _) (by simp) ?_; (case hp => exact (Reps.c2 (show Kd.M k27 _ _ _ (⟨a1_0, a1_1⟩ : S27) [.int .i64 a1_0, .int .i64 a1_1] from (k27_mkM _ _ _ (⟨a1_0, a1_1⟩ : S27) )) (Reps.c2 (show Kd.M k27 _ _ _ (⟨a1_2, a1_3⟩ : S27) [.int .i64 a1_2, .int .i64 a1_3] from (k27_mkM _ _ _ (⟨a1_2, a1_3⟩ : S27) )) (Reps.none _ _)))); intro v210 w15 ho16 hb hg_ hnew_; clear hg_ hnew_; (first | rw [← Ny209.out] at ho16 | (simp only [Int.reduceToNat] at ho16; rw [← Ny209.out] at ho16)); replace HO0_0 := Aside0.mk (Kd.V_elder' (Kd.V_below HO0_0.out bu_) (Kd.R_base ho16) hb); have HO211 := Aside0.mk (Kd.R_lower (Kd.R_newM (M := fun k_ => (w.heap.size ≤ k_)) ho16 (below_size bl0_) (fun k_ h_ => h_)) (below_size bl0_)); replace BK206 := bb_ BK206 hb; replace BK207 := bb_ BK207 hb; replace BK208 := bb_ BK208 hb; replace HB := Aside0.mk (below_step bl0_ hb); clear hb ho16; obtain ⟨Ao17, co17, eo17⟩ := Kd.R_slice HO211.out; subst eo17) | ((with_reducible refine gate_callee (f := 24) rfl ?_); refine goesL_ (some 15) rfl rfl Tryd.func24 (by kernel_rfl) rfl #[.agg #[.slice A0_0 l0_0.length c0_0, .bool a0_1], .slice Ao17 y209.length co17] rfl mp_ ?_; (with_reducible refine (span_points.calls k (fun k_ => (((((P0_0_ k_ ∨ w.heap.size ≤ k_) ∧ k_ ≠ gb206) ∧ k_ ≠ gb207) ∧ k_ ≠ gb208) ∧ some k_ ≠ (.slice Ao17 y209.length co17 : Value).ownBlock)) _ _ l0_0 a0_1 _ _ y209 t212 t215 t216 _ ?side1 ?side2 ?side3 A3.out).mono ?_); (case side1 => exact HO0_0.out); (case side2 => repeat (first | exact (Kd.R_reads' HO211.out).2.2 | (with_reducible refine Kd.C_alloc ?_ _) | (with_reducible refine Kd.C_drewN ?_ _) | (with_reducible refine Kd.C_drew ?_))); (case side3 => exact (Kd.R_reads' HO211.out).2.1); rintro e w18 ⟨v213, rfl, ho0, hb⟩; refine ⟨_, rfl, ?_⟩; replace HO0_0 := Aside0.mk (Kd.V_below (Kd.V_below HO0_0.out bu_) hb); have HO214 := Aside0.mk (Kd.V_lower (Kd.V_mono (ok' := fun k_ => (P0_0_ k_ ∨ w.heap.size ≤ k_) ∧ some k_ ≠ (.slice Ao17 y209.length co17 : Value).ownBlock ∧ k_ ≠ gb206 ∧ k_ ≠ gb207 ∧ k_ ≠ gb208) ho0 (fun k_ hk_ => ⟨Or.elim hk_ (fun hs_ => hs_.1.1.1.1) (fun hn_ => (.inr (Nat.le_trans (below_size bl0_) hn_))), Or.elim hk_ (fun hs_ => hs_.2) (fun hn_ => (Kd.fresh' (Kd.R_lt (Kd.R_below HO211.out bu_)) k_ hn_)), Or.elim hk_ (fun hs_ => hs_.1.1.1.2) (fun hn_ => (Kd.freshB (g := gb206) (o := .cells #[.slice A0_0 l0_0.length c0_0, .bool a0_1] 24 (0, 0)) (bq_ BK206.out) k_ hn_)), Or.elim hk_ (fun hs_ => hs_.1.1.2) (fun hn_ => (Kd.freshB (g := gb207) (o := .cells #[.int .i64 a1_0, .int .i64 a1_1, .int .i64 a1_2, .int .i64 a1_3] 29 (0, 0)) (bq_ BK207.out) k_ hn_)), Or.elim hk_ (fun hs_ => hs_.1.2) (fun hn_ => (Kd.freshB (g := gb208) (o := .cells #[.slice none 0 0, .bool false] 53 (0, 0)) (bq_ BK208.out) k_ hn_))⟩)) (below_size bl0_)); replace HO211 := Aside0.mk (Kd.R_below (Kd.R_below HO211.out bu_) hb); replace BK206 := bb_ BK206 hb; replace BK207 := bb_ BK207 hb; replace BK208 := bb_ BK208 hb; replace HB := Aside0.mk (below_step bl0_ hb); (try clear hb); (try clear hb2); (try clear hk); (try clear hi); (try clear ho0)) | ((with_reducible refine gate_dst (N := 6) rfl ?_); refine box_event rf_ (N := 6) rf_ (cs := #[.slice none 0 0, .bool false]) (t := 53) gs_ ?_; intro gb217 hg w19 hbox hb; replace HO0_0 := Aside0.mk (Kd.V_below (Kd.V_elderB (Kd.V_below HO0_0.out bu_) gb217 (Nat.le_of_eq hg.symm)) hb); replace HO211 := Aside0.mk (Kd.R_below (Kd.R_below HO211.out bu_) hb); replace HO214 := Aside0.mk (Kd.V_below (Kd.V_elderB (Kd.V_below HO214.out bu_) gb217 (Nat.le_of_eq hg.symm)) hb); have BK217 := Aside0.mk hbox; have GW217 := Aside0.mk (gle_ (w := w) hg bl0_); replace HB := Aside0.mk (below_step bl0_ hb); have GE217 := GW217; have NB206_217 := nl_ hg BK206; have NB217_206 := ng_ hg BK206; replace BK206 := bb_ BK206 hb; have NB207_217 := nl_ hg BK207; have NB217_207 := ng_ hg BK207; replace BK207 := bb_ BK207 hb; have NB208_217 := nl_ hg BK208; have NB217_208 := ng_ hg BK208; replace BK208 := bb_ BK208 hb; clear hb hbox hg; obtain ⟨Ao20, co20, eo20⟩ := Kd.V_slice HO214.out; subst eo20; have hnb21 := NB217_206.out; have hnc21 := NB206_217.out; have hnb22 := NB217_207.out; have hnc22 := NB207_217.out; have hnb23 := NB217_208.out; have hnc23 := NB208_217.out; obtain ⟨hcz24_0, hcz24_1, hfz24_0, hfz24_1⟩ := cf2_ BK217; obtain ⟨hcz25_0, hcz25_1, hcz25_2, hcz25_3, hfz25_0, hfz25_1, hfz25_2, hfz25_3⟩ := cf4_ BK207) | (go_at_call 25; (with_reducible refine (span_ranger_order.calls k _ _ t212 t215 a1_0 a1_1 a1_2 a1_3 t218 _ ?side1 ?side2 A5.out).mono ?_); (case side1 => refine (Kd.V_reads' (e := 37) (base := w.heap.size) (ok := fun k_ => (((P0_0_ k_ ∨ w.heap.size ≤ k_) ∧ (some k_ ≠ (.slice Ao17 y209.length co17 : Value).ownBlock ∧ (k_ ≠ gb206 ∧ (k_ ≠ gb207 ∧ k_ ≠ gb208)))) ∧ k_ ≠ gb217)) (n := t212.length) (c := co20) ?_).2.2; exact (by (with_reducible repeat (first | apply Kd.V_alloc | apply Kd.V_drewN | apply Kd.V_drew)); exact (Kd.V_mono (Kd.V_far (p := ⟨gb217, 1, none⟩) (Kd.V_far (p := ⟨gb217, 0, none⟩) (Kd.V_mono HO214.out (fun k_ hk => (⟨hk, hk.2⟩ : _ ∧ k_ ≠ gb217))) (fun _ hk => hk.2) (.slice Ao20 t212.length co20)) (fun _ hk => hk.2) (.bool t215)) (fun _ h_ => h_.1)))); (case side2 => exact (Kd.V_reads' HO214.out).2.1); rintro e w26 ⟨rfl, hb⟩; replace HO0_0 := Aside0.mk (Kd.V_below (by (with_reducible repeat (first | apply Kd.V_alloc | apply Kd.V_drewN | apply Kd.V_drew)); exact (Kd.V_mono (Kd.V_far (p := ⟨gb217, 1, none⟩) (Kd.V_far (p := ⟨gb217, 0, none⟩) (Kd.V_mono HO0_0.out (fun k_ hk => (⟨hk, hk.2⟩ : _ ∧ k_ ≠ gb217))) (fun _ hk => hk.2) (.slice Ao20 t212.length co20)) (fun _ hk => hk.2) (.bool t215)) (fun _ h_ => h_.1))) hb); replace HO211 := Aside0.mk (Kd.R_below (by (with_reducible repeat (first | apply Kd.R_alloc | apply Kd.R_drewN | apply Kd.R_drew)); exact (Kd.R_mono (Kd.R_far (p := ⟨gb217, 1, none⟩) (Kd.R_far (p := ⟨gb217, 0, none⟩) (Kd.R_types HO211.out BK217.out (by decide)) (fun _ hk => hk.2) (.slice Ao20 t212.length co20)) (fun _ hk => hk.2) (.bool t215)) (fun _ h_ => h_.1))) hb); replace HO214 := Aside0.mk (Kd.V_below (by (with_reducible repeat (first | apply Kd.V_alloc | apply Kd.V_drewN | apply Kd.V_drew)); exact (Kd.V_mono (Kd.V_far (p := ⟨gb217, 1, none⟩) (Kd.V_far (p := ⟨gb217, 0, none⟩) (Kd.V_mono HO214.out (fun k_ hk => (⟨hk, hk.2⟩ : _ ∧ k_ ≠ gb217))) (fun _ hk => hk.2) (.slice Ao20 t212.length co20)) (fun _ hk => hk.2) (.bool t215)) (fun _ h_ => h_.1))) hb); replace BK206 := Aside0.mk (blk_below (g := gb206) (o := .cells #[.slice A0_0 l0_0.length c0_0, .bool a0_1] 24 (0, 0)) (bw_ BK206) hb); replace BK207 := Aside0.mk (blk_below (g := gb207) (o := .cells #[.int .i64 a1_0, .int .i64 a1_1, .int .i64 a1_2, .int .i64 a1_3] 29 (0, 0)) (bw_ BK207) hb); replace BK208 := Aside0.mk (blk_below (g := gb208) (o := .cells #[.slice none 0 0, .bool false] 53 (0, 0)) (bw_ BK208) hb); replace BK217 := Aside0.mk (blk_below (g := gb217) (o := .cells #[.slice Ao20 t212.length co20, .bool t215] 53 (0, 0)) (bw_ BK217) hb); replace HB := Aside0.mk (below_step bl0_ hb); (try clear hb); (try clear hb2); (try clear hk); (try clear hi); obtain ⟨hcz27_0, hcz27_1, hfz27_0, hfz27_1⟩ := cf2_ BK217; obtain ⟨hcz28_0, hcz28_1, hfz28_0, hfz28_1⟩ := cf2_ BK208))
      refine bodyPost_ret (results_ct rfl _ _ gb208 53 #[.slice Ao20 t212.length co20, .bool t215] (0, 0) _ rfl (bw_ BK208) Tryd.underlying53 rfl (by kernel_rfl)) rfl ?_
      exact ⟨_, er_, by (with_reducible repeat (first | apply Kd.V_alloc | apply Kd.V_drewN | apply Kd.V_drew)); exact Kd.V_mono (Kd.V_far (p := ⟨gb208, 1, none⟩) (Kd.V_far (p := ⟨gb208, 0, none⟩) (Kd.V_mono HO214.out (fun k_ hk => (⟨hk, hk.1.2.2.2.2⟩ : _ ∧ k_ ≠ gb208))) (fun _ hk => hk.2) (.slice Ao20 t212.length co20)) (fun _ hk => hk.2) (.bool t215)) (fun _ hk => hk.1.1.1), bl0_⟩
    · rw [if_neg c6] at H
      have c6b0 : decide (0 < t218) = false := decide_eq_false c6
      clear c6
      simp only [Option.some.injEq, Prod.mk.injEq] at H
      obtain ⟨rfl, rfl, rfl⟩ := H
      go_enter Tryd.func14, Tryd.ntmps14
      go_wp2_with (first | ((with_reducible refine gate_dst (N := 2) rfl ?_); refine box_event rf_ (N := 2) rf_ (cs := #[.slice A0_0 l0_0.length c0_0, .bool a0_1]) (t := 24) gs_ ?_; intro gb206 hg w29 hbox hb; replace HO0_0 := Aside0.mk (Kd.V_below (Kd.V_elderB (Kd.V_below HO0_0.out bu_) gb206 (Nat.le_of_eq hg.symm)) hb); have BK206 := Aside0.mk hbox; have GW206 := Aside0.mk (gle_ (w := w) hg bl0_); replace HB := Aside0.mk (below_step bl0_ hb); have GE206 := GW206; clear hb hbox hg) | ((with_reducible refine gate_dst (N := 3) rfl ?_); refine box_event rf_ (N := 3) rf_ (cs := #[.int .i64 a1_0, .int .i64 a1_1, .int .i64 a1_2, .int .i64 a1_3]) (t := 29) gs_ ?_; intro gb207 hg w30 hbox hb; replace HO0_0 := Aside0.mk (Kd.V_below (Kd.V_elderB (Kd.V_below HO0_0.out bu_) gb207 (Nat.le_of_eq hg.symm)) hb); have BK207 := Aside0.mk hbox; have GW207 := Aside0.mk (gle_ (w := w) hg bl0_); replace HB := Aside0.mk (below_step bl0_ hb); have GE207 := GW207; have NB206_207 := nl_ hg BK206; have NB207_206 := ng_ hg BK206; replace BK206 := bb_ BK206 hb; clear hb hbox hg) | ((with_reducible refine gate_dst (N := 4) rfl ?_); refine box_event rf_ (N := 4) rf_ (cs := #[.slice none 0 0, .bool false]) (t := 53) gs_ ?_; intro gb208 hg w31 hbox hb; replace HO0_0 := Aside0.mk (Kd.V_below (Kd.V_elderB (Kd.V_below HO0_0.out bu_) gb208 (Nat.le_of_eq hg.symm)) hb); have BK208 := Aside0.mk hbox; have GW208 := Aside0.mk (gle_ (w := w) hg bl0_); replace HB := Aside0.mk (below_step bl0_ hb); have GE208 := GW208; have NB206_208 := nl_ hg BK206; have NB208_206 := ng_ hg BK206; replace BK206 := bb_ BK206 hb; have NB207_208 := nl_ hg BK207; have NB208_207 := ng_ hg BK207; replace BK207 := bb_ BK207 hb; clear hb hbox hg; have hnb32 := NB206_207.out; have hnc32 := NB207_206.out; have hnb33 := NB206_208.out; have hnc33 := NB208_206.out; obtain ⟨hcz34_0, hcz34_1, hfz34_0, hfz34_1⟩ := cf2_ BK206; have hnb35 := NB207_208.out; have hnc35 := NB208_207.out; obtain ⟨hcz36_0, hcz36_1, hcz36_2, hcz36_3, hfz36_0, hfz36_1, hfz36_2, hfz36_3⟩ := cf4_ BK207) | ((with_reducible refine gate_dst (N := 14) rfl ?_); refine Kd.R_lit k27 _ 27 rf_ (N := 14) rf_ (xs := ([(⟨a1_0, a1_1⟩ : S27), (⟨a1_2, a1_3⟩ : S27)] : List (S27))) (inner := [.int .i64 a1_0, .int .i64 a1_1, .int .i64 a1_2, .int .i64 a1_3]) (ok := fun _ => True) (okp := fun _ => True) gs_ ?hp (fun _ hk => hk) trivial (Below.refl _ _) (Nat.le_refl _) (by simp) ?_; (case hp => exact (Reps.c2 (show Kd.M k27 _ _ _ (⟨a1_0, a1_1⟩ : S27) [.int .i64 a1_0, .int .i64 a1_1] from (k27_mkM _ _ _ (⟨a1_0, a1_1⟩ : S27) )) (Reps.c2 (show Kd.M k27 _ _ _ (⟨a1_2, a1_3⟩ : S27) [.int .i64 a1_2, .int .i64 a1_3] from (k27_mkM _ _ _ (⟨a1_2, a1_3⟩ : S27) )) (Reps.none _ _)))); intro v210 w37 ho38 hb hg_ hnew_; clear hg_ hnew_; (first | rw [← Ny209.out] at ho38 | (simp only [Int.reduceToNat] at ho38; rw [← Ny209.out] at ho38)); replace HO0_0 := Aside0.mk (Kd.V_elder' (Kd.V_below HO0_0.out bu_) (Kd.R_base ho38) hb); have HO211 := Aside0.mk (Kd.R_lower (Kd.R_newM (M := fun k_ => (w.heap.size ≤ k_)) ho38 (below_size bl0_) (fun k_ h_ => h_)) (below_size bl0_)); replace BK206 := bb_ BK206 hb; replace BK207 := bb_ BK207 hb; replace BK208 := bb_ BK208 hb; replace HB := Aside0.mk (below_step bl0_ hb); clear hb ho38; obtain ⟨Ao39, co39, eo39⟩ := Kd.R_slice HO211.out; subst eo39) | ((with_reducible refine gate_callee (f := 24) rfl ?_); refine goesL_ (some 15) rfl rfl Tryd.func24 (by kernel_rfl) rfl #[.agg #[.slice A0_0 l0_0.length c0_0, .bool a0_1], .slice Ao39 y209.length co39] rfl mp_ ?_; (with_reducible refine (span_points.calls k (fun k_ => (((((P0_0_ k_ ∨ w.heap.size ≤ k_) ∧ k_ ≠ gb206) ∧ k_ ≠ gb207) ∧ k_ ≠ gb208) ∧ some k_ ≠ (.slice Ao39 y209.length co39 : Value).ownBlock)) _ _ l0_0 a0_1 _ _ y209 t212 t215 t216 _ ?side1 ?side2 ?side3 A3.out).mono ?_); (case side1 => exact HO0_0.out); (case side2 => repeat (first | exact (Kd.R_reads' HO211.out).2.2 | (with_reducible refine Kd.C_alloc ?_ _) | (with_reducible refine Kd.C_drewN ?_ _) | (with_reducible refine Kd.C_drew ?_))); (case side3 => exact (Kd.R_reads' HO211.out).2.1); rintro e w40 ⟨v213, rfl, ho0, hb⟩; refine ⟨_, rfl, ?_⟩; replace HO0_0 := Aside0.mk (Kd.V_below (Kd.V_below HO0_0.out bu_) hb); have HO214 := Aside0.mk (Kd.V_lower (Kd.V_mono (ok' := fun k_ => (P0_0_ k_ ∨ w.heap.size ≤ k_) ∧ some k_ ≠ (.slice Ao39 y209.length co39 : Value).ownBlock ∧ k_ ≠ gb206 ∧ k_ ≠ gb207 ∧ k_ ≠ gb208) ho0 (fun k_ hk_ => ⟨Or.elim hk_ (fun hs_ => hs_.1.1.1.1) (fun hn_ => (.inr (Nat.le_trans (below_size bl0_) hn_))), Or.elim hk_ (fun hs_ => hs_.2) (fun hn_ => (Kd.fresh' (Kd.R_lt (Kd.R_below HO211.out bu_)) k_ hn_)), Or.elim hk_ (fun hs_ => hs_.1.1.1.2) (fun hn_ => (Kd.freshB (g := gb206) (o := .cells #[.slice A0_0 l0_0.length c0_0, .bool a0_1] 24 (0, 0)) (bq_ BK206.out) k_ hn_)), Or.elim hk_ (fun hs_ => hs_.1.1.2) (fun hn_ => (Kd.freshB (g := gb207) (o := .cells #[.int .i64 a1_0, .int .i64 a1_1, .int .i64 a1_2, .int .i64 a1_3] 29 (0, 0)) (bq_ BK207.out) k_ hn_)), Or.elim hk_ (fun hs_ => hs_.1.2) (fun hn_ => (Kd.freshB (g := gb208) (o := .cells #[.slice none 0 0, .bool false] 53 (0, 0)) (bq_ BK208.out) k_ hn_))⟩)) (below_size bl0_)); replace HO211 := Aside0.mk (Kd.R_below (Kd.R_below HO211.out bu_) hb); replace BK206 := bb_ BK206 hb; replace BK207 := bb_ BK207 hb; replace BK208 := bb_ BK208 hb; replace HB := Aside0.mk (below_step bl0_ hb); (try clear hb); (try clear hb2); (try clear hk); (try clear hi); (try clear ho0)) | ((with_reducible refine gate_dst (N := 6) rfl ?_); refine box_event rf_ (N := 6) rf_ (cs := #[.slice none 0 0, .bool false]) (t := 53) gs_ ?_; intro gb217 hg w41 hbox hb; replace HO0_0 := Aside0.mk (Kd.V_below (Kd.V_elderB (Kd.V_below HO0_0.out bu_) gb217 (Nat.le_of_eq hg.symm)) hb); replace HO211 := Aside0.mk (Kd.R_below (Kd.R_below HO211.out bu_) hb); replace HO214 := Aside0.mk (Kd.V_below (Kd.V_elderB (Kd.V_below HO214.out bu_) gb217 (Nat.le_of_eq hg.symm)) hb); have BK217 := Aside0.mk hbox; have GW217 := Aside0.mk (gle_ (w := w) hg bl0_); replace HB := Aside0.mk (below_step bl0_ hb); have GE217 := GW217; have NB206_217 := nl_ hg BK206; have NB217_206 := ng_ hg BK206; replace BK206 := bb_ BK206 hb; have NB207_217 := nl_ hg BK207; have NB217_207 := ng_ hg BK207; replace BK207 := bb_ BK207 hb; have NB208_217 := nl_ hg BK208; have NB217_208 := ng_ hg BK208; replace BK208 := bb_ BK208 hb; clear hb hbox hg; obtain ⟨Ao42, co42, eo42⟩ := Kd.V_slice HO214.out; subst eo42; have hnb43 := NB217_206.out; have hnc43 := NB206_217.out; have hnb44 := NB217_207.out; have hnc44 := NB207_217.out; have hnb45 := NB217_208.out; have hnc45 := NB208_217.out; obtain ⟨hcz46_0, hcz46_1, hfz46_0, hfz46_1⟩ := cf2_ BK217; obtain ⟨hcz47_0, hcz47_1, hcz47_2, hcz47_3, hfz47_0, hfz47_1, hfz47_2, hfz47_3⟩ := cf4_ BK207) | (go_at_call 25; (with_reducible refine (span_ranger_order.calls k _ _ t212 t215 a1_0 a1_1 a1_2 a1_3 t218 _ ?side1 ?side2 A5.out).mono ?_); (case side1 => refine (Kd.V_reads' (e := 37) (base := w.heap.size) (ok := fun k_ => (((P0_0_ k_ ∨ w.heap.size ≤ k_) ∧ (some k_ ≠ (.slice Ao39 y209.length co39 : Value).ownBlock ∧ (k_ ≠ gb206 ∧ (k_ ≠ gb207 ∧ k_ ≠ gb208)))) ∧ k_ ≠ gb217)) (n := t212.length) (c := co42) ?_).2.2; exact (by (with_reducible repeat (first | apply Kd.V_alloc | apply Kd.V_drewN | apply Kd.V_drew)); exact (Kd.V_mono (Kd.V_far (p := ⟨gb217, 1, none⟩) (Kd.V_far (p := ⟨gb217, 0, none⟩) (Kd.V_mono HO214.out (fun k_ hk => (⟨hk, hk.2⟩ : _ ∧ k_ ≠ gb217))) (fun _ hk => hk.2) (.slice Ao42 t212.length co42)) (fun _ hk => hk.2) (.bool t215)) (fun _ h_ => h_.1)))); (case side2 => exact (Kd.V_reads' HO214.out).2.1); rintro e w48 ⟨rfl, hb⟩; replace HO0_0 := Aside0.mk (Kd.V_below (by (with_reducible repeat (first | apply Kd.V_alloc | apply Kd.V_drewN | apply Kd.V_drew)); exact (Kd.V_mono (Kd.V_far (p := ⟨gb217, 1, none⟩) (Kd.V_far (p := ⟨gb217, 0, none⟩) (Kd.V_mono HO0_0.out (fun k_ hk => (⟨hk, hk.2⟩ : _ ∧ k_ ≠ gb217))) (fun _ hk => hk.2) (.slice Ao42 t212.length co42)) (fun _ hk => hk.2) (.bool t215)) (fun _ h_ => h_.1))) hb); replace HO211 := Aside0.mk (Kd.R_below (by (with_reducible repeat (first | apply Kd.R_alloc | apply Kd.R_drewN | apply Kd.R_drew)); exact (Kd.R_mono (Kd.R_far (p := ⟨gb217, 1, none⟩) (Kd.R_far (p := ⟨gb217, 0, none⟩) (Kd.R_types HO211.out BK217.out (by decide)) (fun _ hk => hk.2) (.slice Ao42 t212.length co42)) (fun _ hk => hk.2) (.bool t215)) (fun _ h_ => h_.1))) hb); replace HO214 := Aside0.mk (Kd.V_below (by (with_reducible repeat (first | apply Kd.V_alloc | apply Kd.V_drewN | apply Kd.V_drew)); exact (Kd.V_mono (Kd.V_far (p := ⟨gb217, 1, none⟩) (Kd.V_far (p := ⟨gb217, 0, none⟩) (Kd.V_mono HO214.out (fun k_ hk => (⟨hk, hk.2⟩ : _ ∧ k_ ≠ gb217))) (fun _ hk => hk.2) (.slice Ao42 t212.length co42)) (fun _ hk => hk.2) (.bool t215)) (fun _ h_ => h_.1))) hb); replace BK206 := Aside0.mk (blk_below (g := gb206) (o := .cells #[.slice A0_0 l0_0.length c0_0, .bool a0_1] 24 (0, 0)) (bw_ BK206) hb); replace BK207 := Aside0.mk (blk_below (g := gb207) (o := .cells #[.int .i64 a1_0, .int .i64 a1_1, .int .i64 a1_2, .int .i64 a1_3] 29 (0, 0)) (bw_ BK207) hb); replace BK208 := Aside0.mk (blk_below (g := gb208) (o := .cells #[.slice none 0 0, .bool false] 53 (0, 0)) (bw_ BK208) hb); replace BK217 := Aside0.mk (blk_below (g := gb217) (o := .cells #[.slice Ao42 t212.length co42, .bool t215] 53 (0, 0)) (bw_ BK217) hb); replace HB := Aside0.mk (below_step bl0_ hb); (try clear hb); (try clear hb2); (try clear hk); (try clear hi); obtain ⟨hcz49_0, hcz49_1, hfz49_0, hfz49_1⟩ := cf2_ BK217; obtain ⟨hcz50_0, hcz50_1, hfz50_0, hfz50_1⟩ := cf2_ BK208))
      refine bodyPost_ret (results_ct rfl _ _ gb208 53 #[.slice Ao42 t212.length co42, .bool t215] (0, 0) _ rfl (bw_ BK208) Tryd.underlying53 rfl (by kernel_rfl)) rfl ?_
      exact ⟨_, er_, by (with_reducible repeat (first | apply Kd.V_alloc | apply Kd.V_drewN | apply Kd.V_drew)); exact Kd.V_mono (Kd.V_far (p := ⟨gb208, 1, none⟩) (Kd.V_far (p := ⟨gb208, 0, none⟩) (Kd.V_mono HO214.out (fun k_ hk => (⟨hk, hk.1.2.2.2.2⟩ : _ ∧ k_ ≠ gb208))) (fun _ hk => hk.2) (.slice Ao42 t212.length co42)) (fun _ hk => hk.2) (.bool t215)) (fun _ hk => hk.1.1.1), bl0_⟩
  · rw [if_neg c4] at H
    have c4b0 : (t216 == 0) = false := beq_eq_false_iff_ne.mpr c4
    have c4b1 : (t216 != 0) = true := bne_iff_ne.mpr c4
    simp only [Option.some.injEq, Prod.mk.injEq] at H
    obtain ⟨rfl, rfl, rfl⟩ := H
    go_enter Tryd.func14, Tryd.ntmps14
    go_wp2_with (first | ((with_reducible refine gate_dst (N := 2) rfl ?_); refine box_event rf_ (N := 2) rf_ (cs := #[.slice A0_0 l0_0.length c0_0, .bool a0_1]) (t := 24) gs_ ?_; intro gb206 hg w51 hbox hb; replace HO0_0 := Aside0.mk (Kd.V_below (Kd.V_elderB (Kd.V_below HO0_0.out bu_) gb206 (Nat.le_of_eq hg.symm)) hb); have BK206 := Aside0.mk hbox; have GW206 := Aside0.mk (gle_ (w := w) hg bl0_); replace HB := Aside0.mk (below_step bl0_ hb); have GE206 := GW206; clear hb hbox hg) | ((with_reducible refine gate_dst (N := 3) rfl ?_); refine box_event rf_ (N := 3) rf_ (cs := #[.int .i64 a1_0, .int .i64 a1_1, .int .i64 a1_2, .int .i64 a1_3]) (t := 29) gs_ ?_; intro gb207 hg w52 hbox hb; replace HO0_0 := Aside0.mk (Kd.V_below (Kd.V_elderB (Kd.V_below HO0_0.out bu_) gb207 (Nat.le_of_eq hg.symm)) hb); have BK207 := Aside0.mk hbox; have GW207 := Aside0.mk (gle_ (w := w) hg bl0_); replace HB := Aside0.mk (below_step bl0_ hb); have GE207 := GW207; have NB206_207 := nl_ hg BK206; have NB207_206 := ng_ hg BK206; replace BK206 := bb_ BK206 hb; clear hb hbox hg) | ((with_reducible refine gate_dst (N := 4) rfl ?_); refine box_event rf_ (N := 4) rf_ (cs := #[.slice none 0 0, .bool false]) (t := 53) gs_ ?_; intro gb208 hg w53 hbox hb; replace HO0_0 := Aside0.mk (Kd.V_below (Kd.V_elderB (Kd.V_below HO0_0.out bu_) gb208 (Nat.le_of_eq hg.symm)) hb); have BK208 := Aside0.mk hbox; have GW208 := Aside0.mk (gle_ (w := w) hg bl0_); replace HB := Aside0.mk (below_step bl0_ hb); have GE208 := GW208; have NB206_208 := nl_ hg BK206; have NB208_206 := ng_ hg BK206; replace BK206 := bb_ BK206 hb; have NB207_208 := nl_ hg BK207; have NB208_207 := ng_ hg BK207; replace BK207 := bb_ BK207 hb; clear hb hbox hg; have hnb54 := NB206_207.out; have hnc54 := NB207_206.out; have hnb55 := NB206_208.out; have hnc55 := NB208_206.out; obtain ⟨hcz56_0, hcz56_1, hfz56_0, hfz56_1⟩ := cf2_ BK206; have hnb57 := NB207_208.out; have hnc57 := NB208_207.out; obtain ⟨hcz58_0, hcz58_1, hcz58_2, hcz58_3, hfz58_0, hfz58_1, hfz58_2, hfz58_3⟩ := cf4_ BK207) | ((with_reducible refine gate_dst (N := 14) rfl ?_); refine Kd.R_lit k27 _ 27 rf_ (N := 14) rf_ (xs := ([(⟨a1_0, a1_1⟩ : S27), (⟨a1_2, a1_3⟩ : S27)] : List (S27))) (inner := [.int .i64 a1_0, .int .i64 a1_1, .int .i64 a1_2, .int .i64 a1_3]) (ok := fun _ => True) (okp := fun _ => True) gs_ ?hp (fun _ hk => hk) trivial (Below.refl _ _) (Nat.le_refl _) (by simp) ?_; (case hp => exact (Reps.c2 (show Kd.M k27 _ _ _ (⟨a1_0, a1_1⟩ : S27) [.int .i64 a1_0, .int .i64 a1_1] from (k27_mkM _ _ _ (⟨a1_0, a1_1⟩ : S27) )) (Reps.c2 (show Kd.M k27 _ _ _ (⟨a1_2, a1_3⟩ : S27) [.int .i64 a1_2, .int .i64 a1_3] from (k27_mkM _ _ _ (⟨a1_2, a1_3⟩ : S27) )) (Reps.none _ _)))); intro v210 w59 ho60 hb hg_ hnew_; clear hg_ hnew_; (first | rw [← Ny209.out] at ho60 | (simp only [Int.reduceToNat] at ho60; rw [← Ny209.out] at ho60)); replace HO0_0 := Aside0.mk (Kd.V_elder' (Kd.V_below HO0_0.out bu_) (Kd.R_base ho60) hb); have HO211 := Aside0.mk (Kd.R_lower (Kd.R_newM (M := fun k_ => (w.heap.size ≤ k_)) ho60 (below_size bl0_) (fun k_ h_ => h_)) (below_size bl0_)); replace BK206 := bb_ BK206 hb; replace BK207 := bb_ BK207 hb; replace BK208 := bb_ BK208 hb; replace HB := Aside0.mk (below_step bl0_ hb); clear hb ho60; obtain ⟨Ao61, co61, eo61⟩ := Kd.R_slice HO211.out; subst eo61) | ((with_reducible refine gate_callee (f := 24) rfl ?_); refine goesL_ (some 15) rfl rfl Tryd.func24 (by kernel_rfl) rfl #[.agg #[.slice A0_0 l0_0.length c0_0, .bool a0_1], .slice Ao61 y209.length co61] rfl mp_ ?_; (with_reducible refine (span_points.calls k (fun k_ => (((((P0_0_ k_ ∨ w.heap.size ≤ k_) ∧ k_ ≠ gb206) ∧ k_ ≠ gb207) ∧ k_ ≠ gb208) ∧ some k_ ≠ (.slice Ao61 y209.length co61 : Value).ownBlock)) _ _ l0_0 a0_1 _ _ y209 t212 t215 t216 _ ?side1 ?side2 ?side3 A3.out).mono ?_); (case side1 => exact HO0_0.out); (case side2 => repeat (first | exact (Kd.R_reads' HO211.out).2.2 | (with_reducible refine Kd.C_alloc ?_ _) | (with_reducible refine Kd.C_drewN ?_ _) | (with_reducible refine Kd.C_drew ?_))); (case side3 => exact (Kd.R_reads' HO211.out).2.1); rintro e w62 ⟨v213, rfl, ho0, hb⟩; refine ⟨_, rfl, ?_⟩; replace HO0_0 := Aside0.mk (Kd.V_below (Kd.V_below HO0_0.out bu_) hb); have HO214 := Aside0.mk (Kd.V_lower (Kd.V_mono (ok' := fun k_ => (P0_0_ k_ ∨ w.heap.size ≤ k_) ∧ some k_ ≠ (.slice Ao61 y209.length co61 : Value).ownBlock ∧ k_ ≠ gb206 ∧ k_ ≠ gb207 ∧ k_ ≠ gb208) ho0 (fun k_ hk_ => ⟨Or.elim hk_ (fun hs_ => hs_.1.1.1.1) (fun hn_ => (.inr (Nat.le_trans (below_size bl0_) hn_))), Or.elim hk_ (fun hs_ => hs_.2) (fun hn_ => (Kd.fresh' (Kd.R_lt (Kd.R_below HO211.out bu_)) k_ hn_)), Or.elim hk_ (fun hs_ => hs_.1.1.1.2) (fun hn_ => (Kd.freshB (g := gb206) (o := .cells #[.slice A0_0 l0_0.length c0_0, .bool a0_1] 24 (0, 0)) (bq_ BK206.out) k_ hn_)), Or.elim hk_ (fun hs_ => hs_.1.1.2) (fun hn_ => (Kd.freshB (g := gb207) (o := .cells #[.int .i64 a1_0, .int .i64 a1_1, .int .i64 a1_2, .int .i64 a1_3] 29 (0, 0)) (bq_ BK207.out) k_ hn_)), Or.elim hk_ (fun hs_ => hs_.1.2) (fun hn_ => (Kd.freshB (g := gb208) (o := .cells #[.slice none 0 0, .bool false] 53 (0, 0)) (bq_ BK208.out) k_ hn_))⟩)) (below_size bl0_)); replace HO211 := Aside0.mk (Kd.R_below (Kd.R_below HO211.out bu_) hb); replace BK206 := bb_ BK206 hb; replace BK207 := bb_ BK207 hb; replace BK208 := bb_ BK208 hb; replace HB := Aside0.mk (below_step bl0_ hb); (try clear hb); (try clear hb2); (try clear hk); (try clear hi); (try clear ho0)) | ((with_reducible refine gate_dst (N := 6) rfl ?_); refine box_event rf_ (N := 6) rf_ (cs := #[.slice none 0 0, .bool false]) (t := 53) gs_ ?_; intro gb217 hg w63 hbox hb; replace HO0_0 := Aside0.mk (Kd.V_below (Kd.V_elderB (Kd.V_below HO0_0.out bu_) gb217 (Nat.le_of_eq hg.symm)) hb); replace HO211 := Aside0.mk (Kd.R_below (Kd.R_below HO211.out bu_) hb); replace HO214 := Aside0.mk (Kd.V_below (Kd.V_elderB (Kd.V_below HO214.out bu_) gb217 (Nat.le_of_eq hg.symm)) hb); have BK217 := Aside0.mk hbox; have GW217 := Aside0.mk (gle_ (w := w) hg bl0_); replace HB := Aside0.mk (below_step bl0_ hb); have GE217 := GW217; have NB206_217 := nl_ hg BK206; have NB217_206 := ng_ hg BK206; replace BK206 := bb_ BK206 hb; have NB207_217 := nl_ hg BK207; have NB217_207 := ng_ hg BK207; replace BK207 := bb_ BK207 hb; have NB208_217 := nl_ hg BK208; have NB217_208 := ng_ hg BK208; replace BK208 := bb_ BK208 hb; clear hb hbox hg; obtain ⟨Ao64, co64, eo64⟩ := Kd.V_slice HO214.out; subst eo64; have hnb65 := NB217_206.out; have hnc65 := NB206_217.out; have hnb66 := NB217_207.out; have hnc66 := NB207_217.out; have hnb67 := NB217_208.out; have hnc67 := NB208_217.out; obtain ⟨hcz68_0, hcz68_1, hfz68_0, hfz68_1⟩ := cf2_ BK217; obtain ⟨hcz69_0, hcz69_1, hfz69_0, hfz69_1⟩ := cf2_ BK208))
    refine bodyPost_ret (results_ct rfl _ _ gb208 53 #[.slice Ao64 t212.length co64, .bool t215] (0, 0) _ rfl (bw_ BK208) Tryd.underlying53 rfl (by kernel_rfl)) rfl ?_
    exact ⟨_, er_, by (with_reducible repeat (first | apply Kd.V_alloc | apply Kd.V_drewN | apply Kd.V_drew)); exact Kd.V_mono (Kd.V_far (p := ⟨gb208, 1, none⟩) (Kd.V_far (p := ⟨gb208, 0, none⟩) (Kd.V_far (p := ⟨gb217, 1, none⟩) (Kd.V_far (p := ⟨gb217, 0, none⟩) (Kd.V_mono (Kd.V_mono HO214.out (fun k_ hk => (⟨hk, hk.2⟩ : _ ∧ k_ ≠ gb217))) (fun k_ hk => (⟨hk, hk.1.1.2.2.2.2⟩ : _ ∧ k_ ≠ gb208))) (fun _ hk => hk.1.2) (.slice Ao64 t212.length co64)) (fun _ hk => hk.1.2) (.bool t215)) (fun _ hk => hk.2) (.slice Ao64 t212.length co64)) (fun _ hk => hk.2) (.bool t215)) (fun _ hk => hk.1.1.1.1), bl0_⟩

/-! ### span_ranger_moved: function 15 -/
/-- Up from a node: is it below the one that leaves? -/
def movedGo (l : List S37) (x up i a t : Int) : Nat → Int → Option (Int × Int)
  | 0, _ => none
  | k + 1, n => if 0 ≤ n then (if n = x then some (up, i) else if n < (l.length : Int) then movedGo l x up i a t k (rd_T37 l n).f4 else none) else some (a, t)
def span_ranger_moved.f (k : Nat) (l : List S37) (q : Bool) (a t e0 e1 e2 e3 : Int) (e4 e5 : ByteArray) (e6 : Int) (e7 : ByteArray) (l8 : List S65) (e9 : ByteArray) (e10 : Int) (l11 : List Int) : Option (Int × Int) :=
  if 0 ≤ t ∧ t ≤ 1000000 then
    if e0 = 5 then
      (span_ranger_room.f l q e1).bind fun rm => (if e3 ≥ 0 then slices_Index_int_int.f k (rd_T37 l e1).f5 e3 else some rm).bind fun i => some (a, if a = e1 ∧ t > i then t + 1 else t)
    else if e0 = 6 then
      if (0 ≤ e1 ∧ e1 < (l.length : Int)) ∧ 0 ≤ (rd_T37 l e1).f4 ∧ (rd_T37 l e1).f4 < (l.length : Int) then
        (slices_Index_int_int.f k (rd_T37 l (rd_T37 l e1).f4).f5 e1).bind fun i => movedGo l e1 (rd_T37 l e1).f4 i a (if a = (rd_T37 l e1).f4 ∧ t > i then t - 1 else t) k a
      else none
    else if e0 = 3 then some (a, if a = e1 then mn t (e5.size : Int) else t)
    else some (a, t)
  else none
theorem movedGo_mono (l : List S37) (x up i a t : Int) : ∀ k n, LeO (movedGo l x up i a t k n) (movedGo l x up i a t (k + 1) n)
  | 0, _ => fun r h => by simp [movedGo] at h
  | k + 1, n => by
    unfold movedGo
    exact LeO.ite (LeO.ite (LeO.refl _) (LeO.ite (movedGo_mono l x up i a t k _) (LeO.refl _))) (LeO.refl _)
theorem span_ranger_moved.mono : ∀ l q a t e0 e1 e2 e3 e4 e5 e6 e7 l8 e9 e10 l11 k, LeO (span_ranger_moved.f k l q a t e0 e1 e2 e3 e4 e5 e6 e7 l8 e9 e10 l11) (span_ranger_moved.f (k + 1) l q a t e0 e1 e2 e3 e4 e5 e6 e7 l8 e9 e10 l11) := by
  intro l q a t e0 e1 e2 e3 e4 e5 e6 e7 l8 e9 e10 l11 k
  unfold span_ranger_moved.f
  refine LeO.ite (LeO.ite (LeO.bind (LeO.refl _) fun _ => LeO.bind (LeO.ite (slices_Index_int_int.mono _ _ _) (LeO.refl _)) fun _ => LeO.refl _) (LeO.ite (LeO.ite (LeO.bind (slices_Index_int_int.mono _ _ _) fun _ => movedGo_mono _ _ _ _ _ _ _ _) (LeO.refl _)) (LeO.refl _))) (LeO.refl _)
/-- The four boxes. -/
structure MvI (w W : World) (A : Option Addr) (n c : Nat) (q : Bool) (a t : Int) (E : Array Value) : Prop where
  b3 : W.heap[w.heap.size]? = some (.cells #[.slice A n c, .bool q] 53 (0, 0))
  b4 : W.heap[w.heap.size + 1]? = some (.cells #[.int .i64 a, .int .i64 t] 27 (0, 0))
  b5 : W.heap[w.heap.size + 1 + 1]? = some (.cells E 39 (0, 0))
  b6 : W.heap[w.heap.size + 1 + 1 + 1]? = some (.cells #[.int .i64 0, .int .i64 0] 27 (0, 0))
  below : Below w.heap.size w W
theorem MvI.on {w W W' : World} {A : Option Addr} {n c : Nat} {q : Bool} {a t : Int} {E : Array Value} (h : MvI w W A n c q a t E) (hb : Below W.heap.size W W') : MvI w W' A n c q a t E :=
  ⟨blk_below h.b3 hb, blk_below h.b4 hb, blk_below h.b5 hb, blk_below h.b6 hb, h.below.trans (hb.mono h.below.size)⟩
theorem MvI.put {w W : World} {A : Option Addr} {n c : Nat} {q : Bool} {a t : Int} {E : Array Value} (h : MvI w W A n c q a t E) (t' : Int) : MvI w (W.setCell ⟨w.heap.size + 1, 1, none⟩ (.int .i64 t')) A n c q a t' E :=
  ⟨blk_far h.b3 (show w.heap.size ≠ w.heap.size + 1 by omega) _, blk_put (cs' := #[.int .i64 a, .int .i64 t']) h.b4 1 _ rfl, blk_far h.b5 (show w.heap.size + 1 + 1 ≠ w.heap.size + 1 by omega) _, blk_far h.b6 (show w.heap.size + 1 + 1 + 1 ≠ w.heap.size + 1 by omega) _, h.below.setCell (show w.heap.size ≤ w.heap.size + 1 by omega) _⟩
theorem mv_begin (w : World) (A : Option Addr) (n c : Nat) (q : Bool) (a t : Int) (E : Array Value) : MvI w ((((w.alloc (.cells #[.slice A n c, .bool q] 53)).alloc (.cells #[.int .i64 a, .int .i64 t] 27)).alloc (.cells E 39)).alloc (.cells #[.int .i64 0, .int .i64 0] 27)) A n c q a t E :=
  ⟨blk_below (blk_below (blk_below (blk_new w _) (below_alloc (Below.refl _ _) _)) (below_alloc (Below.refl _ _) _)) (below_alloc (Below.refl _ _) _),
   blk_below (blk_below (by simpa using blk_new (w.alloc (.cells #[.slice A n c, .bool q] 53)) (.cells #[.int .i64 a, .int .i64 t] 27)) (below_alloc (Below.refl _ _) _)) (below_alloc (Below.refl _ _) _),
   blk_below (by simpa using blk_new ((w.alloc (.cells #[.slice A n c, .bool q] 53)).alloc (.cells #[.int .i64 a, .int .i64 t] 27)) (.cells E 39)) (below_alloc (Below.refl _ _) _),
   by simpa using blk_new (((w.alloc (.cells #[.slice A n c, .bool q] 53)).alloc (.cells #[.int .i64 a, .int .i64 t] 27)).alloc (.cells E 39)) (.cells #[.int .i64 0, .int .i64 0] 27),
   below_alloc (below_alloc (below_alloc (below_alloc (Below.refl _ w) _) _) _) _⟩
/-- The end: the point is stored as the result. -/
theorem mv_done {w W : World} {A : Option Addr} {n c : Nat} {q : Bool} {a t : Int} {E : Array Value} (h : MvI w W A n c q a t E) (x y : Int) : ((W.setCell ⟨w.heap.size + 1 + 1 + 1, 0, none⟩ (.int .i64 x)).setCell ⟨w.heap.size + 1 + 1 + 1, 1, none⟩ (.int .i64 y)).heap[w.heap.size + 1 + 1 + 1]? = some (.cells #[.int .i64 x, .int .i64 y] 27 (0, 0)) ∧
    Below w.heap.size w ((W.setCell ⟨w.heap.size + 1 + 1 + 1, 0, none⟩ (.int .i64 x)).setCell ⟨w.heap.size + 1 + 1 + 1, 1, none⟩ (.int .i64 y)) :=
  ⟨blk_put (blk_put (cs' := #[.int .i64 x, .int .i64 0]) h.b6 0 _ rfl) 1 _ rfl, (h.below.setCell (show w.heap.size ≤ w.heap.size + 1 + 1 + 1 by omega) _).setCell (show w.heap.size ≤ w.heap.size + 1 + 1 + 1 by omega) _⟩
theorem room_in {l : List S37} {q : Bool} {a r : Int} (h : span_ranger_room.f l q a = some r) : 0 ≤ a ∧ a < (l.length : Int) := by
  unfold span_ranger_room.f at h
  by_cases h0 : 0 ≤ a
  · rw [if_pos h0] at h
    by_cases h1 : a < (l.length : Int)
    · exact ⟨h0, h1⟩
    · rw [if_neg h1] at h; cases h
  · rw [if_neg h0] at h; cases h
set_option maxRecDepth 100000 in
set_option maxHeartbeats 8000000 in
theorem span_ranger_moved.calls (k : Nat) (A0_0 : Option Addr) (c0_0 : Nat) (l0_0 : List S37) (a0_1 : Bool) (a1_0 a1_1 a2_0 a2_1 a2_2 a2_3 : Int) (a2_4 a2_5 : ByteArray) (a2_6 : Int) (a2_7 : ByteArray) (A2_8 : Option Addr) (c2_8 : Nat) (l2_8 : List S65) (a2_9 : ByteArray) (a2_10 : Int) (A2_11 : Option Addr) (c2_11 : Nat) (l2_11 : List Int) (r1 r2 : Int) (w : World) (hr0_0 : Kd.C k37 w A0_0 l0_0.length l0_0) (hc0_0 : l0_0.length ≤ c0_0) (hr2_8 : Kd.C k65 w A2_8 l2_8.length l2_8) (hc2_8 : l2_8.length ≤ c2_8) (hr2_11 : Kd.C (Kd.int .i64) w A2_11 l2_11.length l2_11) (hc2_11 : l2_11.length ≤ c2_11) (h : span_ranger_moved.f k l0_0 a0_1 a1_0 a1_1 a2_0 a2_1 a2_2 a2_3 a2_4 a2_5 a2_6 a2_7 l2_8 a2_9 a2_10 l2_11 = some (r1, r2)) :
    Calls Tryd.prog 15 #[.agg #[.slice A0_0 l0_0.length c0_0, .bool a0_1], .agg #[.int .i64 a1_0, .int .i64 a1_1], .agg #[.int .i64 a2_0, .int .i64 a2_1, .int .i64 a2_2, .int .i64 a2_3, .string a2_4, .string a2_5, .int .i64 a2_6, .string a2_7, .slice A2_8 l2_8.length c2_8, .string a2_9, .int .i64 a2_10, .slice A2_11 l2_11.length c2_11]] w fun e w' => e = .returned (.agg #[.int .i64 r1, .int .i64 r2]) ∧ Below w.heap.size w w' := by
  obtain ⟨n, hn⟩ : ∃ n, n = l0_0.length := ⟨_, rfl⟩
  obtain ⟨n8, hn8⟩ : ∃ n8, n8 = l2_8.length := ⟨_, rfl⟩
  obtain ⟨n11, hn11⟩ : ∃ n11, n11 = l2_11.length := ⟨_, rfl⟩
  have HR := Lib.hid hr0_0
  have HCap := Lib.hid hc0_0
  have HRm : Hid (∀ (r : Int) (W : World), span_ranger_room.f l0_0 a0_1 a2_1 = some r → Below w.heap.size w W → Calls Tryd.prog 26 #[.agg #[.slice A0_0 n c0_0, .bool a0_1], .int .i64 a2_1] W fun e w' => e = .returned (.int .i64 r) ∧ Below W.heap.size W w') :=
    Lib.hid (by rw [hn]; exact fun r W hf hb => span_ranger_room.calls A0_0 c0_0 l0_0 a0_1 a2_1 r W (Kd.C_below hr0_0 hb) hc0_0 hf)
  rw [← hn, ← hn8, ← hn11]
  have HN := Lib.hid hn
  have hI0 := Lib.hid (mv_begin w A0_0 n c0_0 a0_1 a1_0 a1_1 #[.int .i64 a2_0, .int .i64 a2_1, .int .i64 a2_2, .int .i64 a2_3, .string a2_4, .string a2_5, .int .i64 a2_6, .string a2_7, .slice A2_8 n8 c2_8, .string a2_9, .int .i64 a2_10, .slice A2_11 n11 c2_11])
  clear hr0_0 hc0_0 hr2_8 hc2_8 hr2_11 hc2_11 hn hn8 hn11
  unfold span_ranger_moved.f at h
  by_cases ht : 0 ≤ a1_1 ∧ a1_1 ≤ 1000000
  rotate_left
  · rw [if_neg ht] at h; cases h
  rw [if_pos ht] at h
  obtain ⟨ht0, ht1⟩ := ht
  have HE : Hid (∀ W (a t : Int), MvI w W A0_0 n c0_0 a0_1 a t #[.int .i64 a2_0, .int .i64 a2_1, .int .i64 a2_2, .int .i64 a2_3, .string a2_4, .string a2_5, .int .i64 a2_6, .string a2_7, .slice A2_8 n8 c2_8, .string a2_9, .int .i64 a2_10, .slice A2_11 n11 c2_11] →
      (W.cell? ⟨w.heap.size, 0, none⟩ = some (.slice A0_0 n c0_0) ∧ W.cell? ⟨w.heap.size, 1, none⟩ = some (.bool a0_1) ∧ W.cell? ⟨w.heap.size + 1, 0, none⟩ = some (.int .i64 a) ∧ W.cell? ⟨w.heap.size + 1, 1, none⟩ = some (.int .i64 t) ∧
       W.cell? ⟨w.heap.size + 1 + 1, 0, none⟩ = some (.int .i64 a2_0) ∧ W.cell? ⟨w.heap.size + 1 + 1, 1, none⟩ = some (.int .i64 a2_1) ∧ W.cell? ⟨w.heap.size + 1 + 1, 3, none⟩ = some (.int .i64 a2_3) ∧ W.cell? ⟨w.heap.size + 1 + 1, 5, none⟩ = some (.string a2_5)) ∧
      (W.frozen? ⟨w.heap.size + 1, 1, none⟩ = false ∧ W.frozen? ⟨w.heap.size + 1 + 1 + 1, 0, none⟩ = false ∧ W.frozen? ⟨w.heap.size + 1 + 1 + 1, 1, none⟩ = false ∧ W.cell? ⟨w.heap.size + 1 + 1 + 1, 0, none⟩ = some (.int .i64 0) ∧ W.cell? ⟨w.heap.size + 1 + 1 + 1, 1, none⟩ = some (.int .i64 0))) :=
    Lib.hid (fun W a t h => ⟨⟨(blk_cell h.b3 0).trans rfl, (blk_cell h.b3 1).trans rfl, (blk_cell h.b4 0).trans rfl, (blk_cell h.b4 1).trans rfl, (blk_cell h.b5 0).trans rfl, (blk_cell h.b5 1).trans rfl, (blk_cell h.b5 3).trans rfl, (blk_cell h.b5 5).trans rfl⟩, blk_frozen h.b4 1, blk_frozen h.b6 0, blk_frozen h.b6 1, (blk_cell h.b6 0).trans rfl, (blk_cell h.b6 1).trans rfl⟩)
  have H := Lib.hid h
  clear h
  go_enter Tryd.func15, Tryd.ntmps15
  go_upto_region 1 with fail
  generalize ((((w.alloc (.cells #[.slice A0_0 n c0_0, .bool a0_1] 53)).alloc (.cells #[.int .i64 a1_0, .int .i64 a1_1] 27)).alloc (.cells #[.int .i64 a2_0, .int .i64 a2_1, .int .i64 a2_2, .int .i64 a2_3, .string a2_4, .string a2_5, .int .i64 a2_6, .string a2_7, .slice A2_8 n8 c2_8, .string a2_9, .int .i64 a2_10, .slice A2_11 n11 c2_11] 39)).alloc (.cells #[.int .i64 0, .int .i64 0] 27)) = w1 at hI0 ⊢
  obtain ⟨⟨u0, u1, p0, p1, e0, e1, e3, e5⟩, f1, f2, f3, z0, z1⟩ := HE.out _ _ _ hI0.out
  by_cases h3 : a2_0 = 3
  · subst h3
    have h := H.out
    rw [if_neg (by decide), if_neg (by decide), if_pos rfl] at h
    injection h with h
    injection h with hx hy
    subst hx
    by_cases he : a1_0 = a2_1
    · rw [if_pos he] at hy
      have heb : (a1_0 == a2_1) = true := by simpa using he
      clear H
      clear he
      go_wp2_with fail
      · refine bodyPost_ret (results_cell_row rfl _ _ (w.heap.size + 1 + 1 + 1) 27 #[.int .i64 a1_0, .int .i64 (a2_5.size : Int)] (0, 0) _ rfl (mv_done (hI0.out.put (a2_5.size : Int)) _ _).1 Tryd.underlying27 rfl (by kernel_rfl)) rfl ?_
        exact ⟨by rw [← hy, show mn a1_1 (a2_5.size : Int) = (a2_5.size : Int) from by unfold mn; split <;> omega], (mv_done (hI0.out.put (a2_5.size : Int)) _ _).2⟩
      · refine bodyPost_ret (results_cell_row rfl _ _ (w.heap.size + 1 + 1 + 1) 27 #[.int .i64 a1_0, .int .i64 a1_1] (0, 0) _ rfl (mv_done (hI0.out.put a1_1) _ _).1 Tryd.underlying27 rfl (by kernel_rfl)) rfl ?_
        exact ⟨by rw [← hy, show mn a1_1 (a2_5.size : Int) = a1_1 from by unfold mn; split <;> omega], (mv_done (hI0.out.put a1_1) _ _).2⟩
    · rw [if_neg he] at hy
      subst hy
      have heb : (a1_0 == a2_1) = false := by simpa using he
      clear H he
      go_wp2_with fail
      refine bodyPost_ret (results_cell_row rfl _ _ (w.heap.size + 1 + 1 + 1) 27 #[.int .i64 a1_0, .int .i64 a1_1] (0, 0) _ rfl (mv_done hI0.out _ _).1 Tryd.underlying27 rfl (by kernel_rfl)) rfl ?_
      exact ⟨rfl, (mv_done hI0.out _ _).2⟩
  · have h3b : (a2_0 == 3) = false := by simpa using h3
    by_cases h5 : a2_0 = 5
    · subst h5
      have h := H.out
      rw [if_pos rfl] at h
      obtain ⟨rm, hrm, h⟩ := Option.bind_eq_some_iff.1 h
      obtain ⟨i, hi, h⟩ := Option.bind_eq_some_iff.1 h
      obtain ⟨hin0, hin1⟩ := room_in hrm
      injection h with h
      injection h with hx hy
      subst hx
      clear H
      have HHi := Lib.hid hi
      have HIn := Lib.hid (And.intro hin0 hin1)
      have HY := Lib.hid hy
      clear hi hin0 hin1 hy
      go_wp2_with fail
      refine (HRm.out rm w1 hrm hI0.out.below).mono ?_
      rintro u w2 ⟨rfl, hb2⟩
      have hI2 := Lib.hid (hI0.out.on hb2)
      clear u0 u1 p0 p1 e0 e1 e3 e5 f1 f2 f3 z0 z1 hI0 hb2 HRm
      obtain ⟨⟨u0, u1, p0, p1, e0, e1, e3, e5⟩, f1, f2, f3, z0, z1⟩ := HE.out _ _ _ hI2.out
      have hi := HHi.out
      by_cases hb : a2_3 ≥ 0
      · rw [if_pos hb] at hi
        have hbb : decide (0 ≤ a2_3) = true := decide_eq_true hb
        obtain ⟨ad, A2, c2, A5, c5, eA, d0, d1, d2, d3, d4, d5, d2l, d2r, d5l, d5r⟩ := at_T37 (Kd.C_below HR.out hI2.out.below) a2_1 HIn.out.1 (by have := HIn.out.2; have := HN.out; omega)
        obtain ⟨n5, hn5⟩ : ∃ n5, n5 = (rd_T37 l0_0 a2_1).f5.length := ⟨_, rfl⟩
        have HIx : Hid (∀ W : World, Below w2.heap.size w2 W → Calls Tryd.prog 27 #[.slice A5 n5 c5, .int .i64 a2_3] W fun u w' => u = .returned (.int .i64 i) ∧ Below w2.heap.size w2 w') :=
          Lib.hid (by
            rw [hn5]
            exact fun W hb => (slices_Index_int_int.calls k A5 c5 _ a2_3 i W (Kd.C_below d5r hb) d5l hi).mono fun u w' h => ⟨h.1, hb.trans (h.2.below.mono hb.size)⟩)
        rw [← hn5] at d5
        have HES : Hid (∀ W : World, Below w2.heap.size w2 W → W.cell? ⟨w.heap.size, 0, none⟩ = some (.slice A0_0 n c0_0) ∧ W.cell? ⟨w.heap.size, 1, none⟩ = some (.bool a0_1) ∧ W.cell? ⟨w.heap.size + 1 + 1, 1, none⟩ = some (.int .i64 a2_1) ∧ W.cell? ⟨w.heap.size + 1 + 1, 3, none⟩ = some (.int .i64 a2_3) ∧ W.cell? ⟨(ad.add (a2_1.toNat * 6)).block, (ad.add (a2_1.toNat * 6)).off + 5, none⟩ = some (.slice A5 n5 c5)) :=
          Lib.hid (fun W hb => ⟨pw_cell_below hb u0, pw_cell_below hb u1, pw_cell_below hb e1, pw_cell_below hb e3, pw_cell_below hb d5⟩)
        have hlt0 : 0 ≤ a2_1 := HIn.out.1
        have hlt1 : a2_1 < (n : Int) := by have := HIn.out.2; have := HN.out; omega
        subst eA
        clear d0 d1 d2 d3 d4 d5 d2l d2r d5l d5r hn5 hi
        go_upto_region 5 with fail
        clear u0 u1 p0 p1 e0 e1 e3 e5 f1 f2 f3 z0 z1
        go_cut [7] (fun s7 wx => s7 = .int .i64 i ∧ Hid (MvI w wx (some ad) n c0_0 a0_1 a1_0 a1_1 #[.int .i64 5, .int .i64 a2_1, .int .i64 a2_2, .int .i64 a2_3, .string a2_4, .string a2_5, .int .i64 a2_6, .string a2_7, .slice A2_8 n8 c2_8, .string a2_9, .int .i64 a2_10, .slice A2_11 n11 c2_11]))
        case first =>
          go_region_held3 (fun W => W.cell? ⟨w.heap.size, 0, none⟩ = some (.slice (some ad) n c0_0) ∧ W.cell? ⟨w.heap.size, 1, none⟩ = some (.bool a0_1) ∧ W.cell? ⟨w.heap.size + 1 + 1, 1, none⟩ = some (.int .i64 a2_1) ∧ W.cell? ⟨w.heap.size + 1 + 1, 3, none⟩ = some (.int .i64 a2_3) ∧ W.cell? ⟨(ad.add (a2_1.toNat * 6)).block, (ad.add (a2_1.toNat * 6)).off + 5, none⟩ = some (.slice A5 n5 c5)) (exact HES.out _ (by (repeat (first | refine below_drew ?_)); first | exact hb3 | exact Below.refl _ _)) (first | (with_reducible refine (HIx.out _ ?_).mono ?_; ((repeat (first | refine below_drew ?_)); exact Below.refl _ _); rintro u w3 ⟨rfl, hb3⟩))
          all_goals (go_wp2_with fail; go_meet; exact ⟨rfl, Lib.hid (hI2.out.on hb3)⟩)
        case rest =>
          obtain ⟨rfl, hI3⟩ := hcut
          rename World => w3
          clear hI2 HHi HES HIx
          obtain ⟨⟨u0, u1, p0, p1, e0, e1, e3, e5⟩, f1, f2, f3, z0, z1⟩ := HE.out _ _ _ hI3.out
          have hy := HY.out
          by_cases ha : a1_0 = a2_1
          · have hab : (a1_0 == a2_1) = true := by simpa using ha
            by_cases hgt : a1_1 > i
            · rw [if_pos ⟨ha, hgt⟩] at hy
              subst hy
              have hgb : decide (i < a1_1) = true := decide_eq_true hgt
              have hwr : IntKind.i64.wrap (a1_1 + 1) = a1_1 + 1 := by rw [IntKind.wrap_i64]; omega
              clear ha HY
              go_wp2_with fail
              refine bodyPost_ret (results_cell_row rfl _ _ (w.heap.size + 1 + 1 + 1) 27 #[.int .i64 a1_0, .int .i64 (a1_1 + 1)] (0, 0) _ rfl (mv_done (hI3.out.put (a1_1 + 1)) _ _).1 Tryd.underlying27 rfl (by kernel_rfl)) rfl ?_
              exact ⟨rfl, (mv_done (hI3.out.put (a1_1 + 1)) _ _).2⟩
            · rw [if_neg (fun h => hgt h.2)] at hy
              subst hy
              have hgb : decide (i < a1_1) = false := decide_eq_false hgt
              clear ha HY
              go_wp2_with fail
              refine bodyPost_ret (results_cell_row rfl _ _ (w.heap.size + 1 + 1 + 1) 27 #[.int .i64 a1_0, .int .i64 a1_1] (0, 0) _ rfl (mv_done hI3.out _ _).1 Tryd.underlying27 rfl (by kernel_rfl)) rfl ?_
              exact ⟨rfl, (mv_done hI3.out _ _).2⟩
          · rw [if_neg (fun h => ha h.1)] at hy
            subst hy
            have hab : (a1_0 == a2_1) = false := by simpa using ha
            clear ha HY
            go_wp2_with fail
            refine bodyPost_ret (results_cell_row rfl _ _ (w.heap.size + 1 + 1 + 1) 27 #[.int .i64 a1_0, .int .i64 a1_1] (0, 0) _ rfl (mv_done hI3.out _ _).1 Tryd.underlying27 rfl (by kernel_rfl)) rfl ?_
            exact ⟨rfl, (mv_done hI3.out _ _).2⟩
      · rw [if_neg hb] at hi
        have hbb : decide (0 ≤ a2_3) = false := decide_eq_false hb
        injection hi with hi
        subst hi
        clear u0 u1 p0 p1 e0 e1 e3 e5 f1 f2 f3 z0 z1
        obtain ⟨⟨u0, u1, p0, p1, e0, e1, e3, e5⟩, f1, f2, f3, z0, z1⟩ := HE.out _ _ _ hI2.out
        have hy := HY.out
        by_cases ha : a1_0 = a2_1
        · have hab : (a1_0 == a2_1) = true := by simpa using ha
          by_cases hgt : a1_1 > rm
          · rw [if_pos ⟨ha, hgt⟩] at hy
            subst hy
            have hgb : decide (rm < a1_1) = true := decide_eq_true hgt
            have hwr : IntKind.i64.wrap (a1_1 + 1) = a1_1 + 1 := by rw [IntKind.wrap_i64]; omega
            clear ha HY
            go_wp2_with fail
            refine bodyPost_ret (results_cell_row rfl _ _ (w.heap.size + 1 + 1 + 1) 27 #[.int .i64 a1_0, .int .i64 (a1_1 + 1)] (0, 0) _ rfl (mv_done (hI2.out.put (a1_1 + 1)) _ _).1 Tryd.underlying27 rfl (by kernel_rfl)) rfl ?_
            exact ⟨rfl, (mv_done (hI2.out.put (a1_1 + 1)) _ _).2⟩
          · rw [if_neg (fun h => hgt h.2)] at hy
            subst hy
            have hgb : decide (rm < a1_1) = false := decide_eq_false hgt
            clear ha HY
            go_wp2_with fail
            refine bodyPost_ret (results_cell_row rfl _ _ (w.heap.size + 1 + 1 + 1) 27 #[.int .i64 a1_0, .int .i64 a1_1] (0, 0) _ rfl (mv_done hI2.out _ _).1 Tryd.underlying27 rfl (by kernel_rfl)) rfl ?_
            exact ⟨rfl, (mv_done hI2.out _ _).2⟩
        · rw [if_neg (fun h => ha h.1)] at hy
          subst hy
          have hab : (a1_0 == a2_1) = false := by simpa using ha
          clear ha HY
          go_wp2_with fail
          refine bodyPost_ret (results_cell_row rfl _ _ (w.heap.size + 1 + 1 + 1) 27 #[.int .i64 a1_0, .int .i64 a1_1] (0, 0) _ rfl (mv_done hI2.out _ _).1 Tryd.underlying27 rfl (by kernel_rfl)) rfl ?_
          exact ⟨rfl, (mv_done hI2.out _ _).2⟩
    · have h5b : (a2_0 == 5) = false := by simpa using h5
      by_cases h6 : a2_0 = 6
      · subst h6
        have h := H.out
        rw [if_neg h5, if_pos rfl] at h
        by_cases hc : (0 ≤ a2_1 ∧ a2_1 < (l0_0.length : Int)) ∧ 0 ≤ (rd_T37 l0_0 a2_1).f4 ∧ (rd_T37 l0_0 a2_1).f4 < (l0_0.length : Int)
        rotate_left
        · rw [if_neg hc] at h; cases h
        rw [if_pos hc] at h
        obtain ⟨⟨hc0, hc1⟩, hc2, hc3⟩ := hc
        obtain ⟨i, hi, h⟩ := Option.bind_eq_some_iff.1 h
        obtain ⟨up, hup⟩ : ∃ up, up = (rd_T37 l0_0 a2_1).f4 := ⟨_, rfl⟩
        rw [← hup] at hc2 hc3 hi h
        obtain ⟨ad, A2, c2, A5, c5, eA, d0, d1, d2, d3, d4, d5, d2l, d2r, d5l, d5r⟩ := at_T37 (Kd.C_below HR.out hI0.out.below) a2_1 hc0 (by have := HN.out; omega)
        obtain ⟨ad2, B2, g2, B5, g5, eB, x0, x1, x2, x3, x4, x5, x2l, x2r, x5l, x5r⟩ := at_T37 (Kd.C_below HR.out hI0.out.below) up hc2 (by have := HN.out; omega)
        rw [← hup] at d4
        obtain ⟨n5, hn5⟩ : ∃ n5, n5 = (rd_T37 l0_0 up).f5.length := ⟨_, rfl⟩
        have HIx : Hid (∀ W : World, Below w1.heap.size w1 W → Calls Tryd.prog 27 #[.slice B5 n5 g5, .int .i64 a2_1] W fun u w' => u = .returned (.int .i64 i) ∧ Below w1.heap.size w1 w') :=
          Lib.hid (by
            rw [hn5]
            exact fun W hb => (slices_Index_int_int.calls k B5 g5 _ a2_1 i W (Kd.C_below x5r hb) x5l hi).mono fun u w' h => ⟨h.1, hb.trans (h.2.below.mono hb.size)⟩)
        rw [← hn5] at x5
        obtain ⟨t', ht'⟩ : ∃ t', t' = (if a1_0 = up ∧ a1_1 > i then a1_1 - 1 else a1_1) := ⟨_, rfl⟩
        rw [← ht'] at h
        have HGo := Lib.hid h
        have HT := Lib.hid ht'
        have hlt1 : a2_1 < (n : Int) := by have := HN.out; omega
        have hlt3 : up < (n : Int) := by have := HN.out; omega
        have eAB : ad2 = ad := by rw [eA] at eB; injection eB with e; exact e.symm
        subst eAB
        subst eA
        have HES : Hid (∀ W : World, Below w1.heap.size w1 W → W.cell? ⟨w.heap.size, 0, none⟩ = some (.slice (some ad2) n c0_0) ∧ W.cell? ⟨w.heap.size, 1, none⟩ = some (.bool a0_1) ∧ W.cell? ⟨w.heap.size + 1 + 1, 1, none⟩ = some (.int .i64 a2_1) ∧ W.cell? ⟨w.heap.size + 1 + 1, 3, none⟩ = some (.int .i64 a2_3) ∧ W.cell? ⟨(ad2.add (up.toNat * 6)).block, (ad2.add (up.toNat * 6)).off + 5, none⟩ = some (.slice B5 n5 g5)) :=
          Lib.hid (fun W hb => ⟨pw_cell_below hb u0, pw_cell_below hb u1, pw_cell_below hb e1, pw_cell_below hb e3, pw_cell_below hb x5⟩)
        clear H HRm h hi hup d0 d1 d2 d3 d5 d2l d2r d5l d5r x0 x1 x2 x3 x4 x5 x2l x2r x5l x5r hn5 ht' eB
        go_upto_region 10 with fail
        go_cut [9] (fun s9 wx => s9 = .int .i64 i ∧ Hid (MvI w wx (some ad2) n c0_0 a0_1 a1_0 a1_1 #[.int .i64 6, .int .i64 a2_1, .int .i64 a2_2, .int .i64 a2_3, .string a2_4, .string a2_5, .int .i64 a2_6, .string a2_7, .slice A2_8 n8 c2_8, .string a2_9, .int .i64 a2_10, .slice A2_11 n11 c2_11]))
        case first =>
          clear u0 u1 p0 p1 e0 e1 e3 e5 f1 f2 f3 z0 z1 d4
          go_region_held3 (fun W => W.cell? ⟨w.heap.size, 0, none⟩ = some (.slice (some ad2) n c0_0) ∧ W.cell? ⟨w.heap.size, 1, none⟩ = some (.bool a0_1) ∧ W.cell? ⟨w.heap.size + 1 + 1, 1, none⟩ = some (.int .i64 a2_1) ∧ W.cell? ⟨w.heap.size + 1 + 1, 3, none⟩ = some (.int .i64 a2_3) ∧ W.cell? ⟨(ad2.add (up.toNat * 6)).block, (ad2.add (up.toNat * 6)).off + 5, none⟩ = some (.slice B5 n5 g5)) (exact HES.out _ (by (repeat (first | refine below_drew ?_)); first | exact hb3 | exact Below.refl _ _)) (first | (with_reducible refine (HIx.out _ ?_).mono ?_; ((repeat (first | refine below_drew ?_)); exact Below.refl _ _); rintro u w3 ⟨rfl, hb3⟩))
          all_goals (go_wp2_with fail; go_meet; exact ⟨rfl, Lib.hid (hI0.out.on hb3)⟩)
        case rest =>
          obtain ⟨rfl, hI3⟩ := hcut
          rename World => w3
          clear u0 u1 p0 p1 e0 e1 e3 e5 f1 f2 f3 z0 z1 d4 hI0 HES HIx
          obtain ⟨⟨u0, u1, p0, p1, e0, e1, e3, e5⟩, f1, f2, f3, z0, z1⟩ := HE.out _ _ _ hI3.out
          have hT := HT.out
          by_cases ha : a1_0 = up
          · have hab : (a1_0 == up) = true := by simpa using ha
            by_cases hgt : a1_1 > i
            · rw [if_pos ⟨ha, hgt⟩] at hT
              subst hT
              have hgb : decide (i < a1_1) = true := decide_eq_true hgt
              have hwr : IntKind.i64.wrap (a1_1 - 1) = a1_1 - 1 := by rw [IntKind.wrap_i64]; omega
              have hI4 := Lib.hid (hI3.out.put (a1_1 - 1))
              clear ha hgt
              go_wp2_with fail
              obtain ⟨w4, hw4⟩ : ∃ w4, w4 = w3.setCell ⟨w.heap.size + 1, 1, none⟩ (.int .i64 (a1_1 - 1)) := ⟨_, rfl⟩
              rw [← hw4] at hI4 ⊢
              clear hw4 u0 u1 p0 p1 e0 e1 e3 e5 f1 f2 f3 z0 z1
              obtain ⟨⟨u0, u1, p0, p1, e0, e1, e3, e5⟩, f1, f2, f3, z0, z1⟩ := HE.out _ _ _ hI4.out
              go_loopg [10] k (fun kq v10 w' => ∃ x1 : Int, v10 = .int .i64 x1 ∧ Hid (movedGo l0_0 a2_1 up i a1_0 (a1_1 - 1) kq x1 = some (r1, r2)) ∧ w4 = w')
              case atStart => exact ⟨a1_0, rfl, HGo, rfl⟩
              case round =>
                obtain ⟨x1, rfl, HA, rfl⟩ := hrel
                clear HGo
                cases gk with
                | zero => exact absurd HA.out (by simp [movedGo])
                | succ k1 =>
                  have h := HA.out
                  clear HA
                  simp only [movedGo] at h
                  by_cases g0 : 0 ≤ x1
                  · rw [if_pos g0] at h
                    by_cases g1 : x1 = a2_1
                    · rw [if_pos g1] at h
                      injection h with h
                      injection h with hx hy
                      subst hx hy g1
                      go_wp2_with fail
                      refine bodyPost_ret (results_cell_row rfl _ _ (w.heap.size + 1 + 1 + 1) 27 #[.int .i64 up, .int .i64 i] (0, 0) _ rfl (mv_done hI4.out _ _).1 Tryd.underlying27 rfl (by kernel_rfl)) rfl ?_
                      exact ⟨rfl, (mv_done hI4.out _ _).2⟩
                    · rw [if_neg g1] at h
                      have g1c : (x1 == a2_1) = false := by simpa using g1
                      by_cases g2' : x1 < (l0_0.length : Int)
                      · rw [if_pos g2'] at h
                        obtain ⟨ad3, B2', q2, B5', q5, eC, x0, x1', x2, x3, x4, x5, _⟩ := at_T37 (Kd.C_below HR.out hI4.out.below) x1 g0 (by have := HN.out; omega)
                        injection eC with eC
                        subst eC
                        have q : x1 < (n : Int) := by have := HN.out; omega
                        have HH := Lib.hid h
                        clear h g1 g2' x0 x1' x2 x3 x5
                        go_wp2_with fail
                        go_roundg k1
                        case measure => omega
                        case rel => exact ⟨_, rfl, HH, rfl⟩
                      · rw [if_neg g2'] at h
                        exact absurd h (by simp)
                  · rw [if_neg g0] at h
                    injection h with h
                    injection h with hx hy
                    subst hx hy
                    have g0b : x1 < 0 := by omega
                    go_wp2_with fail
                    refine bodyPost_ret (results_cell_row rfl _ _ (w.heap.size + 1 + 1 + 1) 27 #[.int .i64 a1_0, .int .i64 (a1_1 - 1)] (0, 0) _ rfl (mv_done hI4.out _ _).1 Tryd.underlying27 rfl (by kernel_rfl)) rfl ?_
                    exact ⟨rfl, (mv_done hI4.out _ _).2⟩
            · rw [if_neg (fun h => hgt h.2)] at hT
              subst hT
              have hgb : decide (i < t') = false := decide_eq_false hgt
              clear ha hgt
              go_wp2_with fail
              go_loopg [10] k (fun kq v10 w' => ∃ x1 : Int, v10 = .int .i64 x1 ∧ Hid (movedGo l0_0 a2_1 up i a1_0 t' kq x1 = some (r1, r2)) ∧ w3 = w')
              case atStart => exact ⟨a1_0, rfl, HGo, rfl⟩
              case round =>
                obtain ⟨x1, rfl, HA, rfl⟩ := hrel
                clear HGo
                cases gk with
                | zero => exact absurd HA.out (by simp [movedGo])
                | succ k1 =>
                  have h := HA.out
                  clear HA
                  simp only [movedGo] at h
                  by_cases g0 : 0 ≤ x1
                  · rw [if_pos g0] at h
                    by_cases g1 : x1 = a2_1
                    · rw [if_pos g1] at h
                      injection h with h
                      injection h with hx hy
                      subst hx hy g1
                      go_wp2_with fail
                      refine bodyPost_ret (results_cell_row rfl _ _ (w.heap.size + 1 + 1 + 1) 27 #[.int .i64 up, .int .i64 i] (0, 0) _ rfl (mv_done hI3.out _ _).1 Tryd.underlying27 rfl (by kernel_rfl)) rfl ?_
                      exact ⟨rfl, (mv_done hI3.out _ _).2⟩
                    · rw [if_neg g1] at h
                      have g1c : (x1 == a2_1) = false := by simpa using g1
                      by_cases g2' : x1 < (l0_0.length : Int)
                      · rw [if_pos g2'] at h
                        obtain ⟨ad3, B2', q2, B5', q5, eC, x0, x1', x2, x3, x4, x5, _⟩ := at_T37 (Kd.C_below HR.out hI3.out.below) x1 g0 (by have := HN.out; omega)
                        injection eC with eC
                        subst eC
                        have q : x1 < (n : Int) := by have := HN.out; omega
                        have HH := Lib.hid h
                        clear h g1 g2' x0 x1' x2 x3 x5
                        go_wp2_with fail
                        go_roundg k1
                        case measure => omega
                        case rel => exact ⟨_, rfl, HH, rfl⟩
                      · rw [if_neg g2'] at h
                        exact absurd h (by simp)
                  · rw [if_neg g0] at h
                    injection h with h
                    injection h with hx hy
                    subst hx hy
                    have g0b : x1 < 0 := by omega
                    go_wp2_with fail
                    refine bodyPost_ret (results_cell_row rfl _ _ (w.heap.size + 1 + 1 + 1) 27 #[.int .i64 a1_0, .int .i64 t'] (0, 0) _ rfl (mv_done hI3.out _ _).1 Tryd.underlying27 rfl (by kernel_rfl)) rfl ?_
                    exact ⟨rfl, (mv_done hI3.out _ _).2⟩
          · rw [if_neg (fun h => ha h.1)] at hT
            subst hT
            have hab : (a1_0 == up) = false := by simpa using ha
            clear ha
            go_wp2_with fail
            go_loopg [10] k (fun kq v10 w' => ∃ x1 : Int, v10 = .int .i64 x1 ∧ Hid (movedGo l0_0 a2_1 up i a1_0 t' kq x1 = some (r1, r2)) ∧ w3 = w')
            case atStart => exact ⟨a1_0, rfl, HGo, rfl⟩
            case round =>
              obtain ⟨x1, rfl, HA, rfl⟩ := hrel
              clear HGo
              cases gk with
              | zero => exact absurd HA.out (by simp [movedGo])
              | succ k1 =>
                have h := HA.out
                clear HA
                simp only [movedGo] at h
                by_cases g0 : 0 ≤ x1
                · rw [if_pos g0] at h
                  by_cases g1 : x1 = a2_1
                  · rw [if_pos g1] at h
                    injection h with h
                    injection h with hx hy
                    subst hx hy g1
                    go_wp2_with fail
                    refine bodyPost_ret (results_cell_row rfl _ _ (w.heap.size + 1 + 1 + 1) 27 #[.int .i64 up, .int .i64 i] (0, 0) _ rfl (mv_done hI3.out _ _).1 Tryd.underlying27 rfl (by kernel_rfl)) rfl ?_
                    exact ⟨rfl, (mv_done hI3.out _ _).2⟩
                  · rw [if_neg g1] at h
                    have g1c : (x1 == a2_1) = false := by simpa using g1
                    by_cases g2' : x1 < (l0_0.length : Int)
                    · rw [if_pos g2'] at h
                      obtain ⟨ad3, B2', q2, B5', q5, eC, x0, x1', x2, x3, x4, x5, _⟩ := at_T37 (Kd.C_below HR.out hI3.out.below) x1 g0 (by have := HN.out; omega)
                      injection eC with eC
                      subst eC
                      have q : x1 < (n : Int) := by have := HN.out; omega
                      have HH := Lib.hid h
                      clear h g1 g2' x0 x1' x2 x3 x5
                      go_wp2_with fail
                      go_roundg k1
                      case measure => omega
                      case rel => exact ⟨_, rfl, HH, rfl⟩
                    · rw [if_neg g2'] at h
                      exact absurd h (by simp)
                · rw [if_neg g0] at h
                  injection h with h
                  injection h with hx hy
                  subst hx hy
                  have g0b : x1 < 0 := by omega
                  go_wp2_with fail
                  refine bodyPost_ret (results_cell_row rfl _ _ (w.heap.size + 1 + 1 + 1) 27 #[.int .i64 a1_0, .int .i64 t'] (0, 0) _ rfl (mv_done hI3.out _ _).1 Tryd.underlying27 rfl (by kernel_rfl)) rfl ?_
                  exact ⟨rfl, (mv_done hI3.out _ _).2⟩
      · have h6b : (a2_0 == 6) = false := by simpa using h6
        have h := H.out
        rw [if_neg h5, if_neg h6, if_neg h3] at h
        injection h with h
        injection h with hx hy
        subst hx hy
        clear H h3 h5 h6
        go_wp2_with fail
        refine bodyPost_ret (results_cell_row rfl _ _ (w.heap.size + 1 + 1 + 1) 27 #[.int .i64 a1_0, .int .i64 a1_1] (0, 0) _ rfl (mv_done hI0.out _ _).1 Tryd.underlying27 rfl (by kernel_rfl)) rfl ?_
        exact ⟨rfl, (mv_done hI0.out _ _).2⟩

end Go.Proofs.YtlgoaphdhgidoaaDoor.PSY
