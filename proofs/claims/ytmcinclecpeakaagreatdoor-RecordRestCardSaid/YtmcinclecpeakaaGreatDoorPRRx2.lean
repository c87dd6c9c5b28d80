-- printed by wip/tools/pr.py (own) through the kit's printer; texts GIVEN by hand stand among them
import Derived.Test.YtmcinclecpeakaaGreatDoorPRRx0
import Derived.Test.YtmcinclecpeakaaGreatDoorPRRx1
namespace Go.Proofs.YtmcinclecpeakaaGreatDoor.PRR
open Go.RowKit Go.Proofs.YtmcinclecpeakaaGreatDoorW.PrintWords Go.Proofs.YtmcinclecpeakaaGreatDoorW.PrintLast Go.Proofs.YtmcinclecpeakaaGreatDoorW.PrintMore
attribute [local go_sem] max2_int min2_int max_two min_two max_three min_three max_four min_four   -- for this text's walks alone
set_option linter.unusedVariables false
set_option linter.unusedSimpArgs false

/-! ### dom_attrs: function 54 -/
def dom_attrs.l0 : Nat → List (S66) → List (S66) → Int → Int → Option (Int)
 | 0, _, _, _, _ => none
 | k + 1, x0, x8, x9, x10 => if x10 < x9 then (if 0 ≤ x10 then (if x10 < (x8.length : Int) then ((dom_attrName.f ((rd_T66 x8 x10).f0)).bind fun t113 => (if t113 = true then (if (((rd_T66 x8 x10).f1).size : Int) > 400 then (some 2) else (if x10 ≤ (x0.length : Int) then ((dom_find.f (x0.take (x10 : Int).toNat) ((rd_T66 x8 x10).f0)).bind fun t118 => (if t118 ≥ 0 then (some 3) else (dom_attrs.l0 k x0 x8 x9 (wrap64 (x10 + 1))))) else (none))) else (some 3))) else (none)) else (none)) else (some 0)
def dom_attrs.f (k : Nat) (l0 : List (S66)) : Option (Int) := if (l0.length : Int) > 12 then (some 2) else (dom_attrs.l0 k l0 l0 (l0.length : Int) 0)
theorem dom_attrs.mono_l : ∀ k, (∀ y0 y1 y2 y3, LeO (dom_attrs.l0 k y0 y1 y2 y3) (dom_attrs.l0 (k + 1) y0 y1 y2 y3))
 | 0 => fun _ _ _ _ r h => by simp [dom_attrs.l0] at h
 | k + 1 => by
  have ih0 := dom_attrs.mono_l k
  ·intro y0 y1 y2 y3
   unfold dom_attrs.l0
   repeat' first
   | (with_reducible exact ih0 _ _ _ _)
   | (with_reducible exact LeO.refl _)
   | (with_reducible exact LeO.none _)
   | (with_reducible refine LeO.ite ?_ ?_)
   | (with_reducible refine LeO.bind ?_ (fun _ => ?_))
   | exact ih0 _ _ _ _
   | exact LeO.none _
   | refine LeO.ite ?_ ?_
   | refine LeO.bind ?_ (fun _ => ?_)
theorem dom_attrs.mono : ∀ a0 k, LeO (dom_attrs.f k a0) (dom_attrs.f (k + 1) a0) := by
 intro a0 k
 have ih0 := dom_attrs.mono_l k
 unfold dom_attrs.f
 repeat' first
   | (with_reducible exact ih0 _ _ _ _)
   | (with_reducible exact LeO.refl _)
   | (with_reducible exact LeO.none _)
   | (with_reducible refine LeO.ite ?_ ?_)
   | (with_reducible refine LeO.bind ?_ (fun _ => ?_))
   | exact ih0 _ _ _ _
   | exact LeO.none _
   | refine LeO.ite ?_ ?_
   | refine LeO.bind ?_ (fun _ => ?_)
def dom_attrs.T10 : Bool × List (List Nat × List Nat) := (true, [([], []), ([], []), ([0, 1], [0, 1]), ([], []), ([3], [3]), ([2, 4], [2, 4]), ([5], [5]), ([6, 5], [6])])
def dom_attrs.B10 : List Nat := [0, 0, 3, 0, 8, 31, 63, 127]
theorem dom_attrs.tab10 : rtab .any (opsOf Tryz.f54 10) = dom_attrs.T10 := by kernel_rfl
theorem dom_attrs.bits10 : waitsOk dom_attrs.T10.2 dom_attrs.B10 = true := by kernel_rfl
set_option maxHeartbeats 8000000 in
set_option maxRecDepth 100000 in
theorem dom_attrs.calls (k : Nat) (A0 : Option Addr) (c0 : Nat) (l0 : List (S66)) (r : Int) (w : World) (hr0 : Kd.C k66 w A0 l0.length l0) (hc0 : l0.length ≤ c0) (h : dom_attrs.f k l0 = some r) :
  Calls Tryz.prog 54 #[.slice A0 l0.length c0] w fun e w' => e = .returned (.int .i64 r) ∧ Below w.heap.size w w' := by
 have hu66 := Tryz.underlying66
 have HR0 := Aside0.mk hr0
 have HC0 := Aside0.mk hc0
 clear hr0 hc0
 have HB := Aside0.mk (Below.refl w.heap.size w)
 have H : (if (l0.length : Int) > 12 then (some 2) else (dom_attrs.l0 k l0 l0 (l0.length : Int) 0)) = some r := h
 clear h
 by_cases c2 : (l0.length : Int) > 12
 ·rw [if_pos c2] at H
  have c2b0 : decide (12 < (l0.length : Int)) = true := decide_eq_true c2
  have c2b1 : decide (12 < l0.length) = true := decide_eq_true (by omega)
  clear c2
  obtain rfl := Option.some.inj H
  go_enter Tryz.func54, Tryz.ntmps54
  go_wp2
  go_ret
  exact ⟨er_, bl0_⟩
 ·rw [if_neg c2] at H
  have c2b0 : decide (12 < (l0.length : Int)) = false := decide_eq_false c2
  have c2b1 : decide (12 < l0.length) = false := decide_eq_false (by omega)
  clear c2
  have H' := Aside0.mk H
  clear H
  go_enter Tryz.func54, Tryz.ntmps54
  go_wp2
  go_loopg [10] k (fun kq v10 w' => ∃ (x10_1 : Int), v10 = .int .i64 x10_1 ∧ Aside0 (dom_attrs.l0 kq l0 l0 (l0.length : Int) x10_1 = some r) ∧ Aside0 (kq ≤ k) ∧ Aside0 (Below w.heap.size w w'))
  case atStart => exact ⟨(0), rs_, H', ⟨Nat.le_refl _⟩, ⟨bl0_⟩⟩
  case round =>
   clear H'
   try clear c2b0; try clear c2b1
   obtain ⟨x10_1, rfl, HA, HK1, HB⟩ := hrel
   cases gk with
   | zero => exact absurd HA.out (by simp [dom_attrs.l0])
   | succ k1 =>
    have H := HA.out
    clear HA
    simp only [dom_attrs.l0] at H
    by_cases c3 : x10_1 < (l0.length : Int)
    ·rw [if_pos c3] at H
     have c3b0 : decide (x10_1 < (l0.length : Int)) = true := decide_eq_true c3
     clear c3
     by_cases c4 : 0 ≤ x10_1
     ·rw [if_pos c4] at H
      have c4b0 : decide (0 ≤ x10_1) = true := decide_eq_true c4
      clear c4
      by_cases c5 : x10_1 < (l0.length : Int)
      ·rw [if_pos c5] at H
       have c5b0 : decide (x10_1 < (l0.length : Int)) = true := decide_eq_true c5
       clear c5
       replace H := Option.bind_eq_some_iff.mp H
       obtain ⟨t113, A60, H⟩ := H
       replace H : (if t113 = true then (if (((rd_T66 l0 x10_1).f1).size : Int) > 400 then (some 2) else (if x10_1 ≤ (l0.length : Int) then ((dom_find.f (l0.take (x10_1 : Int).toNat) ((rd_T66 l0 x10_1).f0)).bind fun t118 => (if t118 ≥ 0 then (some 3) else (dom_attrs.l0 k1 l0 l0 (l0.length : Int) (wrap64 (x10_1 + 1))))) else (none))) else (some 3)) = some r := H
       have A6 := Aside0.mk A60
       clear A60
       by_cases c7 : t113 = true
       ·subst c7
        have H1 : (if (((rd_T66 l0 x10_1).f1).size : Int) > 400 then (some 2) else (if x10_1 ≤ (l0.length : Int) then ((dom_find.f (l0.take (x10_1 : Int).toNat) ((rd_T66 l0 x10_1).f0)).bind fun t118 => (if t118 ≥ 0 then (some 3) else (dom_attrs.l0 k1 l0 l0 (l0.length : Int) (wrap64 (x10_1 + 1))))) else (none))) = some r := by rw [if_pos rfl] at H; exact H
        clear H
        have H := H1
        clear H1
        by_cases c8 : (((rd_T66 l0 x10_1).f1).size : Int) > 400
        ·rw [if_pos c8] at H
         have c8b0 : decide (400 < (((rd_T66 l0 x10_1).f1).size : Int)) = true := decide_eq_true c8
         have c8b1 : decide (400 < ((rd_T66 l0 x10_1).f1).size) = true := decide_eq_true (by omega)
         clear c8
         obtain rfl := Option.some.inj H
         have p111 : 0 ≤ (x10_1 : Int) := of_decide_eq_true as_
         have q111 : x10_1 < (l0.length : Int) := of_decide_eq_true as_
         obtain ⟨ad111, e111, hx111_0, hx111_1⟩ := at_T66 HR0.out x10_1 p111 q111
         cases e111
         replace hx111_0 := pw_cell_below HB.out hx111_0
         replace hx111_1 := pw_cell_below HB.out hx111_1
         replace p111 := eq_true p111
         replace q111 := eq_true q111
         go_wp2_with (first | ((with_reducible refine gate_dst (N := 4) rfl ?_); refine box_event rf_ (N := 4) rf_ (cs := #[.string (⟨#[]⟩ : ByteArray), .string (⟨#[]⟩ : ByteArray)]) (t := 66) gs_ ?_; intro gb112 hg w9 hbox hb; have BK112 := Aside0.mk hbox; have GW112 := Aside0.mk (gle_ (w := w) hg bl0_); replace HB := Aside0.mk (below_step bl0_ hb); have GE112 := GW112; clear hb hbox hg; obtain ⟨hcz10_0, hcz10_1, hfz10_0, hfz10_1⟩ := cf2_ BK112) | ((with_reducible refine gate_callee (f := 80) rfl ?_); refine goesL_ (some 18) rfl rfl Tryz.func80 (by kernel_rfl) rfl #[.string ((rd_T66 l0 x10_1).f0)] rfl mp_ ?_; (with_reducible refine (dom_attrName.calls ((rd_T66 l0 x10_1).f0) true _ A6.out).mono ?_); rintro e w11 ⟨rfl, hb⟩; refine ⟨_, rfl, ?_⟩; replace BK112 := Aside0.mk (blk_below (g := gb112) (o := .cells #[.string ((rd_T66 l0 x10_1).f0), .string ((rd_T66 l0 x10_1).f1)] 66 (0, 0)) (bw_ BK112) hb); replace HB := Aside0.mk (below_step bl0_ hb); (try clear hb); (try clear hb2); (try clear hk); (try clear hi); obtain ⟨hcz12_0, hcz12_1, hfz12_0, hfz12_1⟩ := cf2_ BK112))
         go_ret
         exact ⟨er_, bl0_⟩
        ·rw [if_neg c8] at H
         have c8b0 : decide (400 < (((rd_T66 l0 x10_1).f1).size : Int)) = false := decide_eq_false c8
         have c8b1 : decide (400 < ((rd_T66 l0 x10_1).f1).size) = false := decide_eq_false (by omega)
         clear c8
         have c13b0 := eq_true (of_decide_eq_true as_ : 0 ≤ x10_1)
         by_cases c14 : x10_1 ≤ (l0.length : Int)
         ·rw [if_pos c14] at H
          have c14b0 := eq_true c14
          have c14b1 : decide (x10_1 ≤ (l0.length : Int)) = true := decide_eq_true c14
          clear c14
          obtain ⟨y114, hy114⟩ : ∃ y_ : List (S66), y_ = (l0.take (x10_1 : Int).toNat) := ⟨_, rfl⟩
          replace H : ((dom_find.f y114 ((rd_T66 l0 x10_1).f0)).bind fun t118 => (if t118 ≥ 0 then (some 3) else (dom_attrs.l0 k1 l0 l0 (l0.length : Int) (wrap64 (x10_1 + 1))))) = some r := by first | (rw [hy114]; with_reducible exact H) | (have H2_ := (Option.bind_some _ _).symm.trans H; rw [hy114]; with_reducible exact H2_) | (have H2_ := (Option.bind_some _ _).symm.trans H; with_reducible exact H2_) | with_reducible exact H | (rw [hy114]; exact H) | exact H
          have Ny114 := Aside0.mk hy114
          clear hy114
          replace H := Option.bind_eq_some_iff.mp H
          obtain ⟨t118, A150, H⟩ := H
          replace H : (if t118 ≥ 0 then (some 3) else (dom_attrs.l0 k1 l0 l0 (l0.length : Int) (wrap64 (x10_1 + 1)))) = some r := H
          have A15 := Aside0.mk A150
          clear A150
          by_cases c16 : t118 ≥ 0
          ·rw [if_pos c16] at H
           have c16b0 : decide (0 ≤ t118) = true := decide_eq_true c16
           clear c16
           obtain rfl := Option.some.inj H
           have p111 : 0 ≤ (x10_1 : Int) := of_decide_eq_true as_
           have q111 : x10_1 < (l0.length : Int) := of_decide_eq_true as_
           obtain ⟨ad111, e111, hx111_0, hx111_1⟩ := at_T66 HR0.out x10_1 p111 q111
           cases e111
           replace hx111_0 := pw_cell_below HB.out hx111_0
           replace hx111_1 := pw_cell_below HB.out hx111_1
           replace p111 := eq_true p111
           replace q111 := eq_true q111
           try go_wp2_with (first | ((with_reducible refine gate_dst (N := 4) rfl ?_); refine box_event rf_ (N := 4) rf_ (cs := #[.string (⟨#[]⟩ : ByteArray), .string (⟨#[]⟩ : ByteArray)]) (t := 66) gs_ ?_; intro gb112 hg w17 hbox hb; have BK112 := Aside0.mk hbox; have GW112 := Aside0.mk (gle_ (w := w) hg bl0_); replace HB := Aside0.mk (below_step bl0_ hb); have GE112 := GW112; clear hb hbox hg; obtain ⟨hcz18_0, hcz18_1, hfz18_0, hfz18_1⟩ := cf2_ BK112) | ((with_reducible refine gate_callee (f := 80) rfl ?_); refine goesL_ (some 18) rfl rfl Tryz.func80 (by kernel_rfl) rfl #[.string ((rd_T66 l0 x10_1).f0)] rfl mp_ ?_; (with_reducible refine (dom_attrName.calls ((rd_T66 l0 x10_1).f0) true _ A6.out).mono ?_); rintro e w19 ⟨rfl, hb⟩; refine ⟨_, rfl, ?_⟩; replace BK112 := Aside0.mk (blk_below (g := gb112) (o := .cells #[.string ((rd_T66 l0 x10_1).f0), .string ((rd_T66 l0 x10_1).f1)] 66 (0, 0)) (bw_ BK112) hb); replace HB := Aside0.mk (below_step bl0_ hb); (try clear hb); (try clear hb2); (try clear hk); (try clear hi); obtain ⟨hcz20_0, hcz20_1, hfz20_0, hfz20_1⟩ := cf2_ BK112))
           have n0_ := Aside0.mk (blk_drew BK112.out)
           have n1_ := Aside0.mk (below_drew1 HB.out)
           clear BK112
           clear HB
           have BK112 := n0_
           have HB := n1_
           clear n0_ n1_
           have q22 : (x10_1 : Int) ≤ ((l0.length : Int) : Int) := of_decide_eq_true as_
           obtain ⟨i022, hi022, _, hsz22, _⟩ := info_parts info66
           have hroom22 : l0.length ≤ c0 := HC0.out
           have hC22 : Kd.C k66 _ (some ad111) l0.length l0 := HR0.out
           have hcut22 := cut_to (P := Tryz.prog) 41 66 .i64 Tryz.underlying41 hi022 (some ad111) l0.length c0 x10_1 (of_decide_eq_true as_) q22 hroom22
           have hr22 := Kd.C_take (m := (x10_1 : Int).toNat) hC22 (by omega)
           have hy22 : y114.length = (x10_1 : Int).toNat := (by rw [Ny114.out, List.length_take]; omega)
           rw [← Ny114.out] at hr22
           rw [← hy22] at hcut22
           have HR117 := Aside0.mk hr22
           have HC117 := Aside0.mk (show y114.length ≤ c0 from by omega)
           clear hr22 hC22 hroom22 hi022 hsz22
           have KY22 := Aside0.mk hy22
           clear hy22
           replace q22 := eq_true q22
           refine start_ (n := 8) (S := fun w' => w'.cell? ⟨gb112, 0, none⟩ = some (.string ((rd_T66 l0 x10_1).f0)) ∧ w'.cell? ⟨gb112, 1, none⟩ = some (.string ((rd_T66 l0 x10_1).f1))) (ds := []) #[false, false, false, false, false, false, false, false] (by kernel_rfl) rfl rfl ⟨(blk_cell BK112.out 0).trans rfl, (blk_cell BK112.out 1).trans rfl⟩ (fun hHeld => ?_); refine with_tabW dom_attrs.tab10 dom_attrs.bits10 (fun HT_ HW_ => ?_)
           generalize w19.drew = w21 at BK112 HB HR117 hHeld ⊢
           refine pure_ (i := 0) (N := some 26) (v := ?_) (a' := ?_) #[true, false, false, false, false, false, false, false] rfl rfl (any_of HT_.out (by kernel_rfl)) (fun _ _ _ h => h) (Or.inl ⟨by rfl, ?_⟩) ?_ ?_
           rotate_left
           ·intro w'
            go_simp
            with_reducible rfl
           rotate_left
           ·simp only [Act.put, List.setIfInBounds_toArray, List.set_cons_zero, List.set_cons_succ, i64_w, i32_w]
            rfl
           refine pure_ (i := 1) (N := some 27) (v := ?_) (a' := ?_) #[true, true, false, false, false, false, false, false] rfl rfl (any_of HT_.out (by kernel_rfl)) (fun _ _ _ h => h) (Or.inl ⟨by rfl, ?_⟩) ?_ ?_
           rotate_left
           ·intro w'
            go_simp
            with_reducible rfl
           rotate_left
           ·simp only [Act.put, List.setIfInBounds_toArray, List.set_cons_zero, List.set_cons_succ, i64_w, i32_w]
            rfl
           refine pure_ (i := 2) (N := some 28) (v := ?_) (a' := ?_) #[true, true, true, false, false, false, false, false] rfl rfl (any_of HT_.out (by kernel_rfl)) (fun _ _ _ h => h) (Or.inl ⟨by rfl, ?_⟩) ?_ ?_
           rotate_left
           ·intro w'
            go_simp
            with_reducible rfl
           rotate_left
           ·simp only [Act.put, List.setIfInBounds_toArray, List.set_cons_zero, List.set_cons_succ, i64_w, i32_w]
            rfl
           refine pure_ (i := 3) (N := some 29) (v := ?_) (a' := ?_) #[true, true, true, true, false, false, false, false] rfl rfl (any_of HT_.out (by kernel_rfl)) (fun _ _ _ h => h) (Or.inl ⟨by rfl, ?_⟩) ?_ ?_
           rotate_left
           ·intro w'
            go_simp
            with_reducible rfl
           rotate_left
           ·simp only [Act.put, List.setIfInBounds_toArray, List.set_cons_zero, List.set_cons_succ, i64_w, i32_w]
            rfl
           refine take_ (i := 4) (N := some 30) (v := ?_) (a' := ?_) #[true, true, true, true, true, false, false, false] rfl rfl (take_ofW HT_.out HW_.out (by kernel_rfl)) (fun _ _ _ h => h) (Or.inl ⟨by rfl, ?_⟩) hHeld ?_ ?_
           rotate_left
           ·rintro w' ⟨s0, s1⟩
            go_simp
            with_reducible rfl
           rotate_left
           ·simp only [Act.put, List.setIfInBounds_toArray, List.set_cons_zero, List.set_cons_succ, i64_w, i32_w]
            rfl
           refine one_ (i := 5) (N := some 31) #[true, true, true, true, true, true, false, false] rfl rfl (one_of HT_.out (by kernel_rfl)) (by decide) (fun K hK => ?_)
           refine goes_ Tryz.func81 (by kernel_rfl) rfl #[.slice (some ad111) y114.length c0, .string ((rd_T66 l0 x10_1).f0)] (by rfl) rfl rfl mp_ ?_
           with_reducible refine (dom_find.calls _ _ y114 ((rd_T66 l0 x10_1).f0) t118 _ ?side1 ?side2 A15.out).mono ?_
           (case side1 => repeat (first | exact (Kd.C_below HR117.out HB.out) | (with_reducible refine Kd.C_alloc ?_ _) | (with_reducible refine Kd.C_drewN ?_ _) | (with_reducible refine Kd.C_drew ?_)))
           (case side2 => exact HC117.out)
           rintro e w23 ⟨rfl, hb⟩
           refine ⟨_, rfl, ?_⟩
           have n0_ := bb_ BK112 hb
           have n1_ := Aside0.mk (below_step bl0_ hb)
           clear BK112
           clear HB
           have BK112 := n0_
           have HB := n1_
           clear n0_ n1_
           (try clear hb)
           (try clear hb2)
           (try clear hk)
           (try clear hi)
           refine hK.out _ _ ⟨(blk_cell BK112.out 0).trans rfl, (blk_cell BK112.out 1).trans rfl⟩ (fun hHeld => ?_)
           clear hK K
           refine norm_ (a' := ?_) ?_ ?_
           rotate_left
           ·show Act.put _ (some 31) _ = _
            simp only [Act.put, List.setIfInBounds_toArray, List.set_cons_zero, List.set_cons_succ, i64_w, i32_w]
            rfl
           refine pure_ (i := 6) (N := some 32) (v := ?_) (a' := ?_) #[true, true, true, true, true, true, true, false] rfl rfl (any_of HT_.out (by kernel_rfl)) (fun _ _ _ h => h) (Or.inl ⟨by rfl, ?_⟩) ?_ ?_
           rotate_left
           ·intro w'
            go_simp
            with_reducible rfl
           rotate_left
           ·simp only [Act.put, List.setIfInBounds_toArray, List.set_cons_zero, List.set_cons_succ, i64_w, i32_w]
            rfl
           refine pure_ (i := 7) (N := some 25) (v := ?_) (a' := ?_) #[true, true, true, true, true, true, true, true] rfl rfl (any_of HT_.out (by kernel_rfl)) (fun _ _ _ h => h) (Or.inl ⟨by rfl, ?_⟩) ?_ ?_
           rotate_left
           ·intro w'
            go_simp
            with_reducible rfl
           rotate_left
           ·simp only [Act.put, List.setIfInBounds_toArray, List.set_cons_zero, List.set_cons_succ, i64_w, i32_w]
            rfl
           refine done_ (done_of HT_.out (by kernel_rfl)) ?_
           try go_wp2
           go_ret
           exact ⟨er_, bl0_⟩
          ·rw [if_neg c16] at H
           have c16b0 : decide (0 ≤ t118) = false := decide_eq_false c16
           clear c16
           have H' := Aside0.mk H
           clear H
           have p111 : 0 ≤ (x10_1 : Int) := of_decide_eq_true as_
           have q111 : x10_1 < (l0.length : Int) := of_decide_eq_true as_
           obtain ⟨ad111, e111, hx111_0, hx111_1⟩ := at_T66 HR0.out x10_1 p111 q111
           cases e111
           replace hx111_0 := pw_cell_below HB.out hx111_0
           replace hx111_1 := pw_cell_below HB.out hx111_1
           replace p111 := eq_true p111
           replace q111 := eq_true q111
           try go_wp2_with (first | ((with_reducible refine gate_dst (N := 4) rfl ?_); refine box_event rf_ (N := 4) rf_ (cs := #[.string (⟨#[]⟩ : ByteArray), .string (⟨#[]⟩ : ByteArray)]) (t := 66) gs_ ?_; intro gb112 hg w24 hbox hb; have BK112 := Aside0.mk hbox; have GW112 := Aside0.mk (gle_ (w := w) hg bl0_); replace HB := Aside0.mk (below_step bl0_ hb); have GE112 := GW112; clear hb hbox hg; obtain ⟨hcz25_0, hcz25_1, hfz25_0, hfz25_1⟩ := cf2_ BK112) | ((with_reducible refine gate_callee (f := 80) rfl ?_); refine goesL_ (some 18) rfl rfl Tryz.func80 (by kernel_rfl) rfl #[.string ((rd_T66 l0 x10_1).f0)] rfl mp_ ?_; (with_reducible refine (dom_attrName.calls ((rd_T66 l0 x10_1).f0) true _ A6.out).mono ?_); rintro e w26 ⟨rfl, hb⟩; refine ⟨_, rfl, ?_⟩; replace BK112 := Aside0.mk (blk_below (g := gb112) (o := .cells #[.string ((rd_T66 l0 x10_1).f0), .string ((rd_T66 l0 x10_1).f1)] 66 (0, 0)) (bw_ BK112) hb); replace HB := Aside0.mk (below_step bl0_ hb); (try clear hb); (try clear hb2); (try clear hk); (try clear hi); obtain ⟨hcz27_0, hcz27_1, hfz27_0, hfz27_1⟩ := cf2_ BK112))
           have n0_ := Aside0.mk (blk_drew BK112.out)
           have n1_ := Aside0.mk (below_drew1 HB.out)
           clear BK112
           clear HB
           have BK112 := n0_
           have HB := n1_
           clear n0_ n1_
           have q29 : (x10_1 : Int) ≤ ((l0.length : Int) : Int) := of_decide_eq_true as_
           obtain ⟨i029, hi029, _, hsz29, _⟩ := info_parts info66
           have hroom29 : l0.length ≤ c0 := HC0.out
           have hC29 : Kd.C k66 _ (some ad111) l0.length l0 := HR0.out
           have hcut29 := cut_to (P := Tryz.prog) 41 66 .i64 Tryz.underlying41 hi029 (some ad111) l0.length c0 x10_1 (of_decide_eq_true as_) q29 hroom29
           have hr29 := Kd.C_take (m := (x10_1 : Int).toNat) hC29 (by omega)
           have hy29 : y114.length = (x10_1 : Int).toNat := (by rw [Ny114.out, List.length_take]; omega)
           rw [← Ny114.out] at hr29
           rw [← hy29] at hcut29
           have HR117 := Aside0.mk hr29
           have HC117 := Aside0.mk (show y114.length ≤ c0 from by omega)
           clear hr29 hC29 hroom29 hi029 hsz29
           have KY29 := Aside0.mk hy29
           clear hy29
           replace q29 := eq_true q29
           refine start_ (n := 8) (S := fun w' => w'.cell? ⟨gb112, 0, none⟩ = some (.string ((rd_T66 l0 x10_1).f0)) ∧ w'.cell? ⟨gb112, 1, none⟩ = some (.string ((rd_T66 l0 x10_1).f1))) (ds := []) #[false, false, false, false, false, false, false, false] (by kernel_rfl) rfl rfl ⟨(blk_cell BK112.out 0).trans rfl, (blk_cell BK112.out 1).trans rfl⟩ (fun hHeld => ?_); refine with_tabW dom_attrs.tab10 dom_attrs.bits10 (fun HT_ HW_ => ?_)
           generalize w26.drew = w28 at BK112 HB HR117 hHeld ⊢
           refine pure_ (i := 0) (N := some 26) (v := ?_) (a' := ?_) #[true, false, false, false, false, false, false, false] rfl rfl (any_of HT_.out (by kernel_rfl)) (fun _ _ _ h => h) (Or.inl ⟨by rfl, ?_⟩) ?_ ?_
           rotate_left
           ·intro w'
            go_simp
            with_reducible rfl
           rotate_left
           ·simp only [Act.put, List.setIfInBounds_toArray, List.set_cons_zero, List.set_cons_succ, i64_w, i32_w]
            rfl
           refine pure_ (i := 1) (N := some 27) (v := ?_) (a' := ?_) #[true, true, false, false, false, false, false, false] rfl rfl (any_of HT_.out (by kernel_rfl)) (fun _ _ _ h => h) (Or.inl ⟨by rfl, ?_⟩) ?_ ?_
           rotate_left
           ·intro w'
            go_simp
            with_reducible rfl
           rotate_left
           ·simp only [Act.put, List.setIfInBounds_toArray, List.set_cons_zero, List.set_cons_succ, i64_w, i32_w]
            rfl
           refine pure_ (i := 2) (N := some 28) (v := ?_) (a' := ?_) #[true, true, true, false, false, false, false, false] rfl rfl (any_of HT_.out (by kernel_rfl)) (fun _ _ _ h => h) (Or.inl ⟨by rfl, ?_⟩) ?_ ?_
           rotate_left
           ·intro w'
            go_simp
            with_reducible rfl
           rotate_left
           ·simp only [Act.put, List.setIfInBounds_toArray, List.set_cons_zero, List.set_cons_succ, i64_w, i32_w]
            rfl
           refine pure_ (i := 3) (N := some 29) (v := ?_) (a' := ?_) #[true, true, true, true, false, false, false, false] rfl rfl (any_of HT_.out (by kernel_rfl)) (fun _ _ _ h => h) (Or.inl ⟨by rfl, ?_⟩) ?_ ?_
           rotate_left
           ·intro w'
            go_simp
            with_reducible rfl
           rotate_left
           ·simp only [Act.put, List.setIfInBounds_toArray, List.set_cons_zero, List.set_cons_succ, i64_w, i32_w]
            rfl
           refine take_ (i := 4) (N := some 30) (v := ?_) (a' := ?_) #[true, true, true, true, true, false, false, false] rfl rfl (take_ofW HT_.out HW_.out (by kernel_rfl)) (fun _ _ _ h => h) (Or.inl ⟨by rfl, ?_⟩) hHeld ?_ ?_
           rotate_left
           ·rintro w' ⟨s0, s1⟩
            go_simp
            with_reducible rfl
           rotate_left
           ·simp only [Act.put, List.setIfInBounds_toArray, List.set_cons_zero, List.set_cons_succ, i64_w, i32_w]
            rfl
           refine one_ (i := 5) (N := some 31) #[true, true, true, true, true, true, false, false] rfl rfl (one_of HT_.out (by kernel_rfl)) (by decide) (fun K hK => ?_)
           refine goes_ Tryz.func81 (by kernel_rfl) rfl #[.slice (some ad111) y114.length c0, .string ((rd_T66 l0 x10_1).f0)] (by rfl) rfl rfl mp_ ?_
           with_reducible refine (dom_find.calls _ _ y114 ((rd_T66 l0 x10_1).f0) t118 _ ?side1 ?side2 A15.out).mono ?_
           (case side1 => repeat (first | exact (Kd.C_below HR117.out HB.out) | (with_reducible refine Kd.C_alloc ?_ _) | (with_reducible refine Kd.C_drewN ?_ _) | (with_reducible refine Kd.C_drew ?_)))
           (case side2 => exact HC117.out)
           rintro e w30 ⟨rfl, hb⟩
           refine ⟨_, rfl, ?_⟩
           have n0_ := bb_ BK112 hb
           have n1_ := Aside0.mk (below_step bl0_ hb)
           clear BK112
           clear HB
           have BK112 := n0_
           have HB := n1_
           clear n0_ n1_
           (try clear hb)
           (try clear hb2)
           (try clear hk)
           (try clear hi)
           refine hK.out _ _ ⟨(blk_cell BK112.out 0).trans rfl, (blk_cell BK112.out 1).trans rfl⟩ (fun hHeld => ?_)
           clear hK K
           refine norm_ (a' := ?_) ?_ ?_
           rotate_left
           ·show Act.put _ (some 31) _ = _
            simp only [Act.put, List.setIfInBounds_toArray, List.set_cons_zero, List.set_cons_succ, i64_w, i32_w]
            rfl
           refine pure_ (i := 6) (N := some 32) (v := ?_) (a' := ?_) #[true, true, true, true, true, true, true, false] rfl rfl (any_of HT_.out (by kernel_rfl)) (fun _ _ _ h => h) (Or.inl ⟨by rfl, ?_⟩) ?_ ?_
           rotate_left
           ·intro w'
            go_simp
            with_reducible rfl
           rotate_left
           ·simp only [Act.put, List.setIfInBounds_toArray, List.set_cons_zero, List.set_cons_succ, i64_w, i32_w]
            rfl
           refine pure_ (i := 7) (N := some 25) (v := ?_) (a' := ?_) #[true, true, true, true, true, true, true, true] rfl rfl (any_of HT_.out (by kernel_rfl)) (fun _ _ _ h => h) (Or.inl ⟨by rfl, ?_⟩) ?_ ?_
           rotate_left
           ·intro w'
            go_simp
            with_reducible rfl
           rotate_left
           ·simp only [Act.put, List.setIfInBounds_toArray, List.set_cons_zero, List.set_cons_succ, i64_w, i32_w]
            rfl
           refine done_ (done_of HT_.out (by kernel_rfl)) ?_
           try go_wp2
           go_roundg k1
           case measure => have := HK1.out; omega
           case rel => exact ⟨(wrap64 (x10_1 + 1)), rs_, H', ⟨by have := HK1.out; omega⟩, ⟨bl0_⟩⟩
         ·rw [if_neg c14] at H
          exact absurd H (by simp)
       ·replace c7 := Bool.eq_false_iff.mpr c7
        subst c7
        have H1 : (some 3) = some r := by rw [if_neg (show ¬ (false = true) by decide)] at H; exact H
        clear H
        have H := H1
        clear H1
        obtain rfl := Option.some.inj H
        have p111 : 0 ≤ (x10_1 : Int) := of_decide_eq_true as_
        have q111 : x10_1 < (l0.length : Int) := of_decide_eq_true as_
        obtain ⟨ad111, e111, hx111_0, hx111_1⟩ := at_T66 HR0.out x10_1 p111 q111
        cases e111
        replace hx111_0 := pw_cell_below HB.out hx111_0
        replace hx111_1 := pw_cell_below HB.out hx111_1
        replace p111 := eq_true p111
        replace q111 := eq_true q111
        go_wp2_with (first | ((with_reducible refine gate_dst (N := 4) rfl ?_); refine box_event rf_ (N := 4) rf_ (cs := #[.string (⟨#[]⟩ : ByteArray), .string (⟨#[]⟩ : ByteArray)]) (t := 66) gs_ ?_; intro gb112 hg w31 hbox hb; have BK112 := Aside0.mk hbox; have GW112 := Aside0.mk (gle_ (w := w) hg bl0_); replace HB := Aside0.mk (below_step bl0_ hb); have GE112 := GW112; clear hb hbox hg; obtain ⟨hcz32_0, hcz32_1, hfz32_0, hfz32_1⟩ := cf2_ BK112) | ((with_reducible refine gate_callee (f := 80) rfl ?_); refine goesL_ (some 18) rfl rfl Tryz.func80 (by kernel_rfl) rfl #[.string ((rd_T66 l0 x10_1).f0)] rfl mp_ ?_; (with_reducible refine (dom_attrName.calls ((rd_T66 l0 x10_1).f0) false _ A6.out).mono ?_); rintro e w33 ⟨rfl, hb⟩; refine ⟨_, rfl, ?_⟩; replace BK112 := Aside0.mk (blk_below (g := gb112) (o := .cells #[.string ((rd_T66 l0 x10_1).f0), .string ((rd_T66 l0 x10_1).f1)] 66 (0, 0)) (bw_ BK112) hb); replace HB := Aside0.mk (below_step bl0_ hb); (try clear hb); (try clear hb2); (try clear hk); (try clear hi)))
        go_ret
        exact ⟨er_, bl0_⟩
      ·rw [if_neg c5] at H
       exact absurd H (by simp)
     ·rw [if_neg c4] at H
      exact absurd H (by simp)
    ·rw [if_neg c3] at H
     have c3b0 : decide (x10_1 < (l0.length : Int)) = false := decide_eq_false c3
     clear c3
     obtain rfl := Option.some.inj H
     go_wp2
     go_ret
     exact ⟨er_, bl0_⟩

end Go.Proofs.YtmcinclecpeakaaGreatDoor.PRR
