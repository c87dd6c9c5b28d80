-- printed by wip/tools/pr.py (own) through the kit's printer; texts GIVEN by hand stand among them
import Derived.Test.YtmcinclecpeakaaGreatDoorPRRx0
namespace Go.Proofs.YtmcinclecpeakaaGreatDoor.PRR
open Go.RowKit Go.Proofs.YtmcinclecpeakaaGreatDoorW.PrintWords Go.Proofs.YtmcinclecpeakaaGreatDoorW.PrintLast Go.Proofs.YtmcinclecpeakaaGreatDoorW.PrintMore
attribute [local go_sem] max2_int min2_int max_two min_two max_three min_three max_four min_four   -- for this text's walks alone
set_option linter.unusedVariables false
set_option linter.unusedSimpArgs false

/-! ### dom_kids: function 39 -/
mutual
def dom_kids.l0 : Nat → List Bool → List (S43) → Int → Int → List (S43) → Bool → Option (Int)
 | 0, _, _, _, _, _, _ => none
 | k + 1, x3, x15, x16, x17, x124000, x124001 => if x17 < x16 then (if 0 ≤ x17 then (if x17 < (x15.length : Int) then (dom_kids.l1 k x3 x17 x15 x16 x17 ((rd_T43 x15 x17).f5) (((rd_T43 x15 x17).f5).length : Int) 0 x124000 x124001) else (none)) else (none)) else (dom_kids.l2 k x3 x124000 (x124000.length : Int) 0 x124000 x124001)
def dom_kids.l1 : Nat → List Bool → Int → List (S43) → Int → Int → List Int → Int → Int → List (S43) → Bool → Option (Int)
 | 0, _, _, _, _, _, _, _, _, _, _ => none
 | k + 1, x3, x4, x15, x16, x17, x23, x24, x25, x124000, x124001 => if x25 < x24 then (if 0 ≤ x25 then (if x25 < (x23.length : Int) then (if (rd x23 x25) < 0 then (dom_kids.j2 k x3 x4 (rd x23 x25) x15 x16 x17 x23 x24 x25 true x124000 x124001) else (if (rd x23 x25) ≥ (x3.length : Int) then (dom_kids.j2 k x3 x4 (rd x23 x25) x15 x16 x17 x23 x24 x25 true x124000 x124001) else (if 0 ≤ (rd x23 x25) then (if (rd x23 x25) < (x124000.length : Int) then (if ((rd_T43 x124000 (rd x23 x25)).f4) = x4 then (if (rd x23 x25) < (x3.length : Int) then (dom_kids.j2 k x3 x4 (rd x23 x25) x15 x16 x17 x23 x24 x25 (rdOf false x3 (rd x23 x25)) x124000 x124001) else (none)) else (dom_kids.j2 k x3 x4 (rd x23 x25) x15 x16 x17 x23 x24 x25 true x124000 x124001)) else (none)) else (none)))) else (none)) else (none)) else (dom_kids.l0 k x3 x15 x16 (wrap64 (x17 + 1)) x124000 x124001)
def dom_kids.j2 : Nat → List Bool → Int → Int → List (S43) → Int → Int → List Int → Int → Int → Bool → List (S43) → Bool → Option (Int)
 | 0, _, _, _, _, _, _, _, _, _, _, _, _ => none
 | k + 1, x3, x4, x7, x15, x16, x17, x23, x24, x25, x29, x124000, x124001 => if x29 = true then (some 3) else (if x4 = 0 then (if 0 ≤ x7 then (if x7 < (x124000.length : Int) then (if ((rd_T43 x124000 x7).f0) = 3 then (some 7) else (if x7 < (x3.length : Int) then (dom_kids.l1 k (x3.set (x7 : Int).toNat true) x4 x15 x16 x17 x23 x24 (wrap64 (x25 + 1)) x124000 x124001) else (none))) else (none)) else (none)) else (if 0 ≤ x7 then (if x7 < (x3.length : Int) then (dom_kids.l1 k (x3.set (x7 : Int).toNat true) x4 x15 x16 x17 x23 x24 (wrap64 (x25 + 1)) x124000 x124001) else (none)) else (none)))
def dom_kids.l2 : Nat → List Bool → List (S43) → Int → Int → List (S43) → Bool → Option (Int)
 | 0, _, _, _, _, _, _ => none
 | k + 1, x3, x72, x73, x74, x124000, x124001 => if x74 < x73 then (if 0 ≤ x74 then (if x74 < (x72.length : Int) then (if ((rd_T43 x72 x74).f4) = (-1) then (dom_kids.l2 k x3 x72 x73 (wrap64 (x74 + 1)) x124000 x124001) else (if x74 < (x3.length : Int) then (if rdOf false x3 x74 = true then (dom_kids.l2 k x3 x72 x73 (wrap64 (x74 + 1)) x124000 x124001) else (some 3)) else (none))) else (none)) else (none)) else (if 0 < (x124000.length : Int) then (if ((rd_T43 x124000 0).f4) = (-1) then (some 0) else (some 3)) else (none))
end
def dom_kids.f (k : Nat) (l0_0 : List (S43)) (a0_1 : Bool) : Option (Int) := if 0 ≤ (l0_0.length : Int) then (if ((l0_0.length : Int) : Int).toNat ≤ 281474976710656 then (dom_kids.l0 k (List.replicate ((l0_0.length : Int) : Int).toNat false) l0_0 (l0_0.length : Int) 0 l0_0 a0_1) else (none)) else (none)
theorem dom_kids.mono_l : ∀ k, (∀ y0 y1 y2 y3 y4 y5, LeO (dom_kids.l0 k y0 y1 y2 y3 y4 y5) (dom_kids.l0 (k + 1) y0 y1 y2 y3 y4 y5)) ∧ (∀ y0 y1 y2 y3 y4 y5 y6 y7 y8 y9, LeO (dom_kids.l1 k y0 y1 y2 y3 y4 y5 y6 y7 y8 y9) (dom_kids.l1 (k + 1) y0 y1 y2 y3 y4 y5 y6 y7 y8 y9)) ∧ (∀ y0 y1 y2 y3 y4 y5 y6 y7 y8 y9 y10 y11, LeO (dom_kids.j2 k y0 y1 y2 y3 y4 y5 y6 y7 y8 y9 y10 y11) (dom_kids.j2 (k + 1) y0 y1 y2 y3 y4 y5 y6 y7 y8 y9 y10 y11)) ∧ (∀ y0 y1 y2 y3 y4 y5, LeO (dom_kids.l2 k y0 y1 y2 y3 y4 y5) (dom_kids.l2 (k + 1) y0 y1 y2 y3 y4 y5))
 | 0 => ⟨fun _ _ _ _ _ _ r h => by simp [dom_kids.l0] at h, fun _ _ _ _ _ _ _ _ _ _ r h => by simp [dom_kids.l1] at h, fun _ _ _ _ _ _ _ _ _ _ _ _ r h => by simp [dom_kids.j2] at h, fun _ _ _ _ _ _ r h => by simp [dom_kids.l2] at h⟩
 | k + 1 => by
  obtain ⟨ih0, ih1, ih2, ih3⟩ := dom_kids.mono_l k
  refine ⟨?_, ?_, ?_, ?_⟩
  ·intro y0 y1 y2 y3 y4 y5
   unfold dom_kids.l0
   repeat' first
   | (with_reducible exact ih0 _ _ _ _ _ _)
   | (with_reducible exact ih1 _ _ _ _ _ _ _ _ _ _)
   | (with_reducible exact ih2 _ _ _ _ _ _ _ _ _ _ _ _)
   | (with_reducible exact ih3 _ _ _ _ _ _)
   | (with_reducible exact LeO.refl _)
   | (with_reducible exact LeO.none _)
   | (with_reducible refine LeO.ite ?_ ?_)
   | (with_reducible refine LeO.bind ?_ (fun _ => ?_))
   | exact ih0 _ _ _ _ _ _
   | exact ih1 _ _ _ _ _ _ _ _ _ _
   | exact ih2 _ _ _ _ _ _ _ _ _ _ _ _
   | exact ih3 _ _ _ _ _ _
   | exact LeO.none _
   | refine LeO.ite ?_ ?_
   | refine LeO.bind ?_ (fun _ => ?_)
  ·intro y0 y1 y2 y3 y4 y5 y6 y7 y8 y9
   unfold dom_kids.l1
   repeat' first
   | (with_reducible exact ih0 _ _ _ _ _ _)
   | (with_reducible exact ih1 _ _ _ _ _ _ _ _ _ _)
   | (with_reducible exact ih2 _ _ _ _ _ _ _ _ _ _ _ _)
   | (with_reducible exact ih3 _ _ _ _ _ _)
   | (with_reducible exact LeO.refl _)
   | (with_reducible exact LeO.none _)
   | (with_reducible refine LeO.ite ?_ ?_)
   | (with_reducible refine LeO.bind ?_ (fun _ => ?_))
   | exact ih0 _ _ _ _ _ _
   | exact ih1 _ _ _ _ _ _ _ _ _ _
   | exact ih2 _ _ _ _ _ _ _ _ _ _ _ _
   | exact ih3 _ _ _ _ _ _
   | exact LeO.none _
   | refine LeO.ite ?_ ?_
   | refine LeO.bind ?_ (fun _ => ?_)
  ·intro y0 y1 y2 y3 y4 y5 y6 y7 y8 y9 y10 y11
   unfold dom_kids.j2
   repeat' first
   | (with_reducible exact ih0 _ _ _ _ _ _)
   | (with_reducible exact ih1 _ _ _ _ _ _ _ _ _ _)
   | (with_reducible exact ih2 _ _ _ _ _ _ _ _ _ _ _ _)
   | (with_reducible exact ih3 _ _ _ _ _ _)
   | (with_reducible exact LeO.refl _)
   | (with_reducible exact LeO.none _)
   | (with_reducible refine LeO.ite ?_ ?_)
   | (with_reducible refine LeO.bind ?_ (fun _ => ?_))
   | exact ih0 _ _ _ _ _ _
   | exact ih1 _ _ _ _ _ _ _ _ _ _
   | exact ih2 _ _ _ _ _ _ _ _ _ _ _ _
   | exact ih3 _ _ _ _ _ _
   | exact LeO.none _
   | refine LeO.ite ?_ ?_
   | refine LeO.bind ?_ (fun _ => ?_)
  ·intro y0 y1 y2 y3 y4 y5
   unfold dom_kids.l2
   repeat' first
   | (with_reducible exact ih0 _ _ _ _ _ _)
   | (with_reducible exact ih1 _ _ _ _ _ _ _ _ _ _)
   | (with_reducible exact ih2 _ _ _ _ _ _ _ _ _ _ _ _)
   | (with_reducible exact ih3 _ _ _ _ _ _)
   | (with_reducible exact LeO.refl _)
   | (with_reducible exact LeO.none _)
   | (with_reducible refine LeO.ite ?_ ?_)
   | (with_reducible refine LeO.bind ?_ (fun _ => ?_))
   | exact ih0 _ _ _ _ _ _
   | exact ih1 _ _ _ _ _ _ _ _ _ _
   | exact ih2 _ _ _ _ _ _ _ _ _ _ _ _
   | exact ih3 _ _ _ _ _ _
   | exact LeO.none _
   | refine LeO.ite ?_ ?_
   | refine LeO.bind ?_ (fun _ => ?_)
theorem dom_kids.mono : ∀ a0 a1 k, LeO (dom_kids.f k a0 a1) (dom_kids.f (k + 1) a0 a1) := by
 intro a0 a1 k
 obtain ⟨ih0, ih1, ih2, ih3⟩ := dom_kids.mono_l k
 unfold dom_kids.f
 repeat' first
   | (with_reducible exact ih0 _ _ _ _ _ _)
   | (with_reducible exact ih1 _ _ _ _ _ _ _ _ _ _)
   | (with_reducible exact ih2 _ _ _ _ _ _ _ _ _ _ _ _)
   | (with_reducible exact ih3 _ _ _ _ _ _)
   | (with_reducible exact LeO.refl _)
   | (with_reducible exact LeO.none _)
   | (with_reducible refine LeO.ite ?_ ?_)
   | (with_reducible refine LeO.bind ?_ (fun _ => ?_))
   | exact ih0 _ _ _ _ _ _
   | exact ih1 _ _ _ _ _ _ _ _ _ _
   | exact ih2 _ _ _ _ _ _ _ _ _ _ _ _
   | exact ih3 _ _ _ _ _ _
   | exact LeO.none _
   | refine LeO.ite ?_ ?_
   | refine LeO.bind ?_ (fun _ => ?_)
set_option maxHeartbeats 8000000 in
set_option maxRecDepth 100000 in
theorem dom_kids.calls (k : Nat) (A0_0 : Option Addr) (c0_0 : Nat) (l0_0 : List (S43)) (a0_1 : Bool) (r : Int) (w : World) (hr0_0 : Kd.C k43 w A0_0 l0_0.length l0_0) (hc0_0 : l0_0.length ≤ c0_0) (h : dom_kids.f k l0_0 a0_1 = some r) :
  Calls Tryz.prog 39 #[.agg #[.slice A0_0 l0_0.length c0_0, .bool a0_1]] w fun e w' => e = .returned (.int .i64 r) ∧ Below w.heap.size w w' := by
 have hu24 := Tryz.underlying24
 have hu43 := Tryz.underlying43
 have HR0_0 := Aside0.mk hr0_0
 have HC0_0 := Aside0.mk hc0_0
 clear hr0_0 hc0_0
 have HB := Aside0.mk (Below.refl w.heap.size w)
 have H : (if 0 ≤ (l0_0.length : Int) then (if ((l0_0.length : Int) : Int).toNat ≤ 281474976710656 then (dom_kids.l0 k (List.replicate ((l0_0.length : Int) : Int).toNat false) l0_0 (l0_0.length : Int) 0 l0_0 a0_1) else (none)) else (none)) = some r := h
 clear h
 by_cases c2 : 0 ≤ (l0_0.length : Int)
 ·rw [if_pos c2] at H
  have c2b0 := eq_true c2
  have c2b1 : decide (0 ≤ (l0_0.length : Int)) = true := decide_eq_true c2
  clear c2
  by_cases c3 : ((l0_0.length : Int) : Int).toNat ≤ 281474976710656
  ·rw [if_pos c3] at H
   have c3b0 := eq_true c3
   have c3b1 : decide (((l0_0.length : Int) : Int).toNat ≤ 281474976710656) = true := decide_eq_true c3
   clear c3
   obtain ⟨y124, hy124⟩ : ∃ y_ : List Bool, y_ = (List.replicate ((l0_0.length : Int) : Int).toNat false) := ⟨_, rfl⟩
   replace H : (dom_kids.l0 k y124 l0_0 (l0_0.length : Int) 0 l0_0 a0_1) = some r := by first | (rw [hy124]; with_reducible exact H) | (have H2_ := (Option.bind_some _ _).symm.trans H; rw [hy124]; with_reducible exact H2_) | (have H2_ := (Option.bind_some _ _).symm.trans H; with_reducible exact H2_) | with_reducible exact H | (rw [hy124]; exact H) | exact H
   have Ny124 := Aside0.mk hy124
   clear hy124
   have H' := Aside0.mk H
   clear H
   go_enter Tryz.func39, Tryz.ntmps39
   go_wp2_with (first | ((with_reducible refine gate_dst (N := 1) rfl ?_); (try (refine gate_guard (by rfl) ?_; dsimp only)); refine box_event rf_ (N := 1) rf_ (cs := #[.slice A0_0 l0_0.length c0_0, .bool a0_1]) (t := 24) gs_ ?_; intro gb123 hg w4 hbox hb; have BK123 := Aside0.mk hbox; have GW123 := Aside0.mk (gle_ (w := w) hg bl0_); replace HB := Aside0.mk (below_step bl0_ hb); have GE123 := GW123; clear hb hbox hg; obtain ⟨hcz5_0, hcz5_1, hfz5_0, hfz5_1⟩ := cf2_ BK123) | ((with_reducible refine gate_dst (N := 13) rfl ?_); (try (refine gate_guard (by rfl) ?_; dsimp only)); refine Kd.R_make Kd.bool _ 4 rfl (N := 13) rfl 95 _ _ rfl (l0_0.length : Int) rfl rfl Tryz.underlying95 (.bool false) 1 info4 rfl (by decide) (by omega) false (ok := fun _ => True) (okp := fun _ => True) rfl (fun _ hk => hk) trivial (of_decide_eq_true as_) (Nat.le_trans (Nat.mul_le_mul_right _ (of_decide_eq_true as_ : (l0_0.length : Int).toNat ≤ 281474976710656)) (by omega)) (Below.refl _ _) (Nat.le_refl _) ?_; intro v125 w6 ho7 hb hg_ hnew_; clear hg_ hnew_; (first | rw [← Ny124.out] at ho7 | (simp only [Int.reduceToNat] at ho7; rw [← Ny124.out] at ho7)); have HO126 := Aside0.mk (Kd.R_lower ho7 (below_size bl0_)); replace BK123 := bb_ BK123 hb; replace HB := Aside0.mk (below_step bl0_ hb); clear hb ho7; obtain ⟨hcz8_0, hcz8_1, hfz8_0, hfz8_1⟩ := cf2_ BK123))
   go_loopg [17] k (fun kq v17 w' => ∃ (x3_1 : List Bool) (x17_1 : Int), v17 = .int .i64 x17_1 ∧ Aside0 (dom_kids.l0 kq x3_1 l0_0 (l0_0.length : Int) x17_1 l0_0 a0_1 = some r) ∧ Aside0 (kq ≤ k) ∧ Aside0 (Kd.R Kd.bool 4 w' w.heap.size (fun _ => True) v125 x3_1) ∧ Aside0 (w'.heap[gb123]? = some (.cells #[(.slice A0_0 l0_0.length c0_0), .bool a0_1] 24 (0, 0))) ∧ Aside0 (Below w.heap.size w w'))
   case atStart => exact ⟨(y124), (0), rs_, H', ⟨Nat.le_refl _⟩, ⟨by (with_reducible repeat (first | apply Kd.R_alloc | apply Kd.R_drewN | apply Kd.R_drew)); exact HO126.out⟩, ⟨by (with_reducible repeat (first | refine blk_drewN ?_ _ | refine blk_drew ?_ | refine blk_alloc ?_ _)); exact BK123.out⟩, ⟨bl0_⟩⟩
   case round =>
    clear H'
    try clear c2b0; try clear c2b1; try clear c3b0; try clear c3b1; try clear hcz5_0; try clear hcz5_1; try clear hcz8_0; try clear hcz8_1; try clear hfz5_0; try clear hfz5_1; try clear hfz8_0; try clear hfz8_1
    obtain ⟨x3_1, x17_1, rfl, HA, HK1, HO_3, BK123, HB⟩ := hrel
    cases gk with
    | zero => exact absurd HA.out (by simp [dom_kids.l0])
    | succ k1 =>
     have H := HA.out
     clear HA
     simp only [dom_kids.l0] at H
     by_cases c9 : x17_1 < (l0_0.length : Int)
     ·rw [if_pos c9] at H
      have c9b0 : decide (x17_1 < (l0_0.length : Int)) = true := decide_eq_true c9
      clear c9
      by_cases c10 : 0 ≤ x17_1
      ·rw [if_pos c10] at H
       have c10b0 : decide (0 ≤ x17_1) = true := decide_eq_true c10
       clear c10
       by_cases c11 : x17_1 < (l0_0.length : Int)
       ·rw [if_pos c11] at H
        have c11b0 : decide (x17_1 < (l0_0.length : Int)) = true := decide_eq_true c11
        clear c11
        have H' := Aside0.mk H
        clear H
        have p127 : 0 ≤ (x17_1 : Int) := of_decide_eq_true as_
        have q127 : x17_1 < (l0_0.length : Int) := of_decide_eq_true as_
        obtain ⟨ad127, A127_2, c127_2, A127_5, c127_5, e127, hx127_0, hx127_1, hx127_2, hx127_3, hx127_4, hx127_5, hl127_2, hi127_2, hl127_5, hi127_5⟩ := at_T43 HR0_0.out x17_1 p127 q127
        cases e127
        replace hx127_0 := pw_cell_below HB.out hx127_0
        replace hx127_1 := pw_cell_below HB.out hx127_1
        replace hx127_2 := pw_cell_below HB.out hx127_2
        replace hx127_3 := pw_cell_below HB.out hx127_3
        replace hx127_4 := pw_cell_below HB.out hx127_4
        replace hx127_5 := pw_cell_below HB.out hx127_5
        have HR127_2 := Aside0.mk hi127_2
        have HC127_2 := Aside0.mk hl127_2
        clear hi127_2 hl127_2
        have HR127_5 := Aside0.mk hi127_5
        have HC127_5 := Aside0.mk hl127_5
        clear hi127_5 hl127_5
        replace p127 := eq_true p127
        replace q127 := eq_true q127
        go_wp2_with (first | ((with_reducible refine gate_dst (N := 5) rfl ?_); (try (refine gate_guard (by rfl) ?_; dsimp only)); refine box_event rf_ (N := 5) rf_ (cs := #[.int .i64 0, .string (⟨#[]⟩ : ByteArray), .slice none 0 0, .string (⟨#[]⟩ : ByteArray), .int .i64 0, .slice none 0 0]) (t := 43) gs_ ?_; intro gb128 hg w12 hbox hb; replace HO_3 := Aside0.mk (Kd.R_below (Kd.R_below HO_3.out bu_) hb); have BK128 := Aside0.mk hbox; have GW128 := Aside0.mk (gle_ (w := w) hg bl0_); replace HB := Aside0.mk (below_step bl0_ hb); have GE128 := GW128; have NB123_128 := nl_ hg BK123; have NB128_123 := ng_ hg BK123; replace BK123 := bb_ BK123 hb; clear hb hbox hg; have hnb13 := NB128_123.out; have hnc13 := NB123_128.out; obtain ⟨hcz14_0, hcz14_1, hcz14_2, hcz14_3, hcz14_4, hcz14_5, hfz14_0, hfz14_1, hfz14_2, hfz14_3, hfz14_4, hfz14_5⟩ := cf6_ BK128))
        go_loopg [25] k1 (fun kq v25 w' => ∃ (x3_2 : List Bool) (x25_2 : Int), v25 = .int .i64 x25_2 ∧ Aside0 (dom_kids.l1 kq x3_2 x17_1 l0_0 (l0_0.length : Int) x17_1 ((rd_T43 l0_0 x17_1).f5) (((rd_T43 l0_0 x17_1).f5).length : Int) x25_2 l0_0 a0_1 = some r) ∧ Aside0 (kq ≤ k1) ∧ Aside0 (Kd.R Kd.bool 4 w' w.heap.size (fun _ => True) v125 x3_2) ∧ Aside0 (w'.heap[gb123]? = some (.cells #[(.slice (some ad127) l0_0.length c0_0), .bool a0_1] 24 (0, 0))) ∧ Aside0 (w'.heap[gb128]? = some (.cells #[.int .i64 ((rd_T43 l0_0 x17_1).f0), .string ((rd_T43 l0_0 x17_1).f1), (.slice A127_2 ((rd_T43 l0_0 x17_1).f2).length c127_2), .string ((rd_T43 l0_0 x17_1).f3), .int .i64 ((rd_T43 l0_0 x17_1).f4), (.slice A127_5 ((rd_T43 l0_0 x17_1).f5).length c127_5)] 43 (0, 0))) ∧ Aside0 (Below w.heap.size w w'))
        case atStart => exact ⟨(x3_1), (0), rs_, H', ⟨Nat.le_refl _⟩, ⟨by (with_reducible repeat (first | apply Kd.R_alloc | apply Kd.R_drewN | apply Kd.R_drew)); exact Kd.R_mono (Kd.R_far (p := ⟨gb128, 5, none⟩) (Kd.R_far (p := ⟨gb128, 4, none⟩) (Kd.R_far (p := ⟨gb128, 3, none⟩) (Kd.R_far (p := ⟨gb128, 2, none⟩) (Kd.R_far (p := ⟨gb128, 1, none⟩) (Kd.R_far (p := ⟨gb128, 0, none⟩) (Kd.R_types HO_3.out BK128.out (by decide)) (fun _ hk => hk.2) (.int .i64 ((rd_T43 l0_0 x17_1).f0))) (fun _ hk => hk.2) (.string ((rd_T43 l0_0 x17_1).f1))) (fun _ hk => hk.2) (.slice A127_2 ((rd_T43 l0_0 x17_1).f2).length c127_2)) (fun _ hk => hk.2) (.string ((rd_T43 l0_0 x17_1).f3))) (fun _ hk => hk.2) (.int .i64 ((rd_T43 l0_0 x17_1).f4))) (fun _ hk => hk.2) (.slice A127_5 ((rd_T43 l0_0 x17_1).f5).length c127_5)) (fun _ hk => trivial)⟩, ⟨by (with_reducible repeat (first | refine blk_drewN ?_ _ | refine blk_drew ?_ | refine blk_alloc ?_ _)); refine blk_far ?_ NB123_128.out _; (with_reducible repeat (first | refine blk_drewN ?_ _ | refine blk_drew ?_ | refine blk_alloc ?_ _)); refine blk_far ?_ NB123_128.out _; (with_reducible repeat (first | refine blk_drewN ?_ _ | refine blk_drew ?_ | refine blk_alloc ?_ _)); refine blk_far ?_ NB123_128.out _; (with_reducible repeat (first | refine blk_drewN ?_ _ | refine blk_drew ?_ | refine blk_alloc ?_ _)); refine blk_far ?_ NB123_128.out _; (with_reducible repeat (first | refine blk_drewN ?_ _ | refine blk_drew ?_ | refine blk_alloc ?_ _)); refine blk_far ?_ NB123_128.out _; (with_reducible repeat (first | refine blk_drewN ?_ _ | refine blk_drew ?_ | refine blk_alloc ?_ _)); refine blk_far ?_ NB123_128.out _; (with_reducible repeat (first | refine blk_drewN ?_ _ | refine blk_drew ?_ | refine blk_alloc ?_ _)); exact BK123.out⟩, ⟨by (with_reducible repeat (first | refine blk_drewN ?_ _ | refine blk_drew ?_ | refine blk_alloc ?_ _)); refine blk_put (cs := #[.int .i64 ((rd_T43 l0_0 x17_1).f0), .string ((rd_T43 l0_0 x17_1).f1), .slice A127_2 ((rd_T43 l0_0 x17_1).f2).length c127_2, .string ((rd_T43 l0_0 x17_1).f3), .int .i64 ((rd_T43 l0_0 x17_1).f4), .slice none 0 0]) ?_ 5 _ rfl; (with_reducible repeat (first | refine blk_drewN ?_ _ | refine blk_drew ?_ | refine blk_alloc ?_ _)); refine blk_put (cs := #[.int .i64 ((rd_T43 l0_0 x17_1).f0), .string ((rd_T43 l0_0 x17_1).f1), .slice A127_2 ((rd_T43 l0_0 x17_1).f2).length c127_2, .string ((rd_T43 l0_0 x17_1).f3), .int .i64 0, .slice none 0 0]) ?_ 4 _ rfl; (with_reducible repeat (first | refine blk_drewN ?_ _ | refine blk_drew ?_ | refine blk_alloc ?_ _)); refine blk_put (cs := #[.int .i64 ((rd_T43 l0_0 x17_1).f0), .string ((rd_T43 l0_0 x17_1).f1), .slice A127_2 ((rd_T43 l0_0 x17_1).f2).length c127_2, .string (⟨#[]⟩ : ByteArray), .int .i64 0, .slice none 0 0]) ?_ 3 _ rfl; (with_reducible repeat (first | refine blk_drewN ?_ _ | refine blk_drew ?_ | refine blk_alloc ?_ _)); refine blk_put (cs := #[.int .i64 ((rd_T43 l0_0 x17_1).f0), .string ((rd_T43 l0_0 x17_1).f1), .slice none 0 0, .string (⟨#[]⟩ : ByteArray), .int .i64 0, .slice none 0 0]) ?_ 2 _ rfl; (with_reducible repeat (first | refine blk_drewN ?_ _ | refine blk_drew ?_ | refine blk_alloc ?_ _)); refine blk_put (cs := #[.int .i64 ((rd_T43 l0_0 x17_1).f0), .string (⟨#[]⟩ : ByteArray), .slice none 0 0, .string (⟨#[]⟩ : ByteArray), .int .i64 0, .slice none 0 0]) ?_ 1 _ rfl; (with_reducible repeat (first | refine blk_drewN ?_ _ | refine blk_drew ?_ | refine blk_alloc ?_ _)); refine blk_put (cs := #[.int .i64 0, .string (⟨#[]⟩ : ByteArray), .slice none 0 0, .string (⟨#[]⟩ : ByteArray), .int .i64 0, .slice none 0 0]) ?_ 0 _ rfl; (with_reducible repeat (first | refine blk_drewN ?_ _ | refine blk_drew ?_ | refine blk_alloc ?_ _)); exact BK128.out⟩, ⟨bl0_⟩⟩
        case round =>
         clear H'
         try clear c9b0; try clear c10b0; try clear c11b0; try clear hcz14_0; try clear hcz14_1; try clear hcz14_2; try clear hcz14_3; try clear hcz14_4; try clear hcz14_5; try clear hfz14_0; try clear hfz14_1; try clear hfz14_2; try clear hfz14_3; try clear hfz14_4; try clear hfz14_5; try clear hx127_0; try clear hx127_1; try clear hx127_2; try clear hx127_3; try clear hx127_4; try clear hx127_5; try clear p127; try clear q127
         obtain ⟨x3_2, x25_2, rfl, HA, HK2, HO_3, BK123, BK128, HB⟩ := hrel
         cases gk with
         | zero => exact absurd HA.out (by simp [dom_kids.l1])
         | succ k2 =>
          have H := HA.out
          clear HA
          simp only [dom_kids.l1] at H
          by_cases c15 : x25_2 < (((rd_T43 l0_0 x17_1).f5).length : Int)
          ·rw [if_pos c15] at H
           have c15b0 : decide (x25_2 < (((rd_T43 l0_0 x17_1).f5).length : Int)) = true := decide_eq_true c15
           clear c15
           by_cases c16 : 0 ≤ x25_2
           ·rw [if_pos c16] at H
            have c16b0 : decide (0 ≤ x25_2) = true := decide_eq_true c16
            clear c16
            by_cases c17 : x25_2 < (((rd_T43 l0_0 x17_1).f5).length : Int)
            ·rw [if_pos c17] at H
             have c17b0 : decide (x25_2 < (((rd_T43 l0_0 x17_1).f5).length : Int)) = true := decide_eq_true c17
             clear c17
             have HC18 := Aside0.mk H
             clear H
             have p129 : 0 ≤ (x25_2 : Int) := of_decide_eq_true as_
             have q129 : x25_2 < (((rd_T43 l0_0 x17_1).f5).length : Int) := of_decide_eq_true as_
             obtain ⟨ad129, e129, hx129_0⟩ := Kd.at_int HR127_5.out x25_2 p129 q129
             cases e129
             replace hx129_0 := pw_cell_below HB.out hx129_0
             replace p129 := eq_true p129
             replace q129 := eq_true q129
             go_upto_region 8 with (fail)
             go_cut [29] (fun v29 wc => ∃ (kq : Nat) (x29_17 : Bool), v29 = .bool x29_17 ∧ Aside0 (dom_kids.j2 kq x3_2 x17_1 (rd ((rd_T43 l0_0 x17_1).f5) x25_2) l0_0 (l0_0.length : Int) x17_1 ((rd_T43 l0_0 x17_1).f5) (((rd_T43 l0_0 x17_1).f5).length : Int) x25_2 x29_17 l0_0 a0_1 = some r) ∧ Aside0 (kq ≤ k2) ∧ Aside0 (Kd.R Kd.bool 4 wc w.heap.size (fun _ => True) v125 x3_2) ∧ Aside0 (wc.heap[gb123]? = some (.cells #[(.slice (some ad127) l0_0.length c0_0), .bool a0_1] 24 (0, 0))) ∧ Aside0 (wc.heap[gb128]? = some (.cells #[.int .i64 ((rd_T43 l0_0 x17_1).f0), .string ((rd_T43 l0_0 x17_1).f1), (.slice A127_2 ((rd_T43 l0_0 x17_1).f2).length c127_2), .string ((rd_T43 l0_0 x17_1).f3), .int .i64 ((rd_T43 l0_0 x17_1).f4), (.slice (some ad129) ((rd_T43 l0_0 x17_1).f5).length c127_5)] 43 (0, 0))) ∧ Aside0 (Below w.heap.size w wc))
             case first =>
              have H := HC18.out
              clear HC18
              by_cases c19 : (rd ((rd_T43 l0_0 x17_1).f5) x25_2) < 0
              ·rw [if_pos c19] at H
               have c19b0 : decide ((rd ((rd_T43 l0_0 x17_1).f5) x25_2) < 0) = true := decide_eq_true c19
               clear c19
               (first | rw [c19b0] | (simp only [i64_w, i32_w]; rw [c19b0]) | skip)
               have H' := Aside0.mk H
               clear H
               go_wp2
               go_meet
               case rel => exact ⟨_, (true), rs_, H', ⟨by have := HK1.out; have := HK2.out; first | omega | exact Nat.le_refl _⟩, ⟨by (with_reducible repeat (first | apply Kd.R_alloc | apply Kd.R_drewN | apply Kd.R_drew)); exact HO_3.out⟩, ⟨by (with_reducible repeat (first | refine blk_drewN ?_ _ | refine blk_drew ?_ | refine blk_alloc ?_ _)); exact BK123.out⟩, ⟨by (with_reducible repeat (first | refine blk_drewN ?_ _ | refine blk_drew ?_ | refine blk_alloc ?_ _)); exact BK128.out⟩, ⟨bl0_⟩⟩
              ·rw [if_neg c19] at H
               have c19b0 : decide ((rd ((rd_T43 l0_0 x17_1).f5) x25_2) < 0) = false := decide_eq_false c19
               clear c19
               (first | rw [c19b0] | (simp only [i64_w, i32_w]; rw [c19b0]) | skip)
               by_cases c20 : (rd ((rd_T43 l0_0 x17_1).f5) x25_2) ≥ (x3_2.length : Int)
               ·rw [if_pos c20] at H
                have c20b0 : decide ((x3_2.length : Int) ≤ (rd ((rd_T43 l0_0 x17_1).f5) x25_2)) = true := decide_eq_true c20
                clear c20
                have H' := Aside0.mk H
                clear H
                obtain ⟨Ao21, co21, eo21⟩ := Kd.R_slice HO_3.out
                subst eo21
                go_wp2
                go_meet
                case rel => exact ⟨_, (true), rs_, H', ⟨by have := HK1.out; have := HK2.out; first | omega | exact Nat.le_refl _⟩, ⟨by (with_reducible repeat (first | apply Kd.R_alloc | apply Kd.R_drewN | apply Kd.R_drew)); exact HO_3.out⟩, ⟨by (with_reducible repeat (first | refine blk_drewN ?_ _ | refine blk_drew ?_ | refine blk_alloc ?_ _)); exact BK123.out⟩, ⟨by (with_reducible repeat (first | refine blk_drewN ?_ _ | refine blk_drew ?_ | refine blk_alloc ?_ _)); exact BK128.out⟩, ⟨bl0_⟩⟩
               ·rw [if_neg c20] at H
                have c20b0 : decide ((x3_2.length : Int) ≤ (rd ((rd_T43 l0_0 x17_1).f5) x25_2)) = false := decide_eq_false c20
                clear c20
                by_cases c22 : 0 ≤ (rd ((rd_T43 l0_0 x17_1).f5) x25_2)
                ·rw [if_pos c22] at H
                 have c22b0 : decide (0 ≤ (rd ((rd_T43 l0_0 x17_1).f5) x25_2)) = true := decide_eq_true c22
                 clear c22
                 by_cases c23 : (rd ((rd_T43 l0_0 x17_1).f5) x25_2) < (l0_0.length : Int)
                 ·rw [if_pos c23] at H
                  have c23b0 : decide ((rd ((rd_T43 l0_0 x17_1).f5) x25_2) < (l0_0.length : Int)) = true := decide_eq_true c23
                  clear c23
                  by_cases c24 : ((rd_T43 l0_0 (rd ((rd_T43 l0_0 x17_1).f5) x25_2)).f4) = x17_1
                  ·rw [if_pos c24] at H
                   have c24b0 : (((rd_T43 l0_0 (rd ((rd_T43 l0_0 x17_1).f5) x25_2)).f4) == x17_1) = true := beq_iff_eq.mpr c24
                   have c24b1 : (((rd_T43 l0_0 (rd ((rd_T43 l0_0 x17_1).f5) x25_2)).f4) != x17_1) = false := bne_eq_false_iff_eq.mpr c24
                   clear c24
                   by_cases c25 : (rd ((rd_T43 l0_0 x17_1).f5) x25_2) < (x3_2.length : Int)
                   ·rw [if_pos c25] at H
                    have c25b0 : decide ((rd ((rd_T43 l0_0 x17_1).f5) x25_2) < (x3_2.length : Int)) = true := decide_eq_true c25
                    clear c25
                    have H' := Aside0.mk H
                    clear H
                    obtain ⟨Ao26, co26, eo26⟩ := Kd.R_slice HO_3.out
                    subst eo26
                    have hnb27 := NB123_128.out
                    have hnc27 := NB128_123.out
                    obtain ⟨hcz28_0, hcz28_1, hfz28_0, hfz28_1⟩ := cf2_ BK123
                    have p130 : 0 ≤ ((rd ((rd_T43 l0_0 x17_1).f5) x25_2) : Int) := of_decide_eq_true as_
                    have q130 : (rd ((rd_T43 l0_0 x17_1).f5) x25_2) < (l0_0.length : Int) := of_decide_eq_true as_
                    obtain ⟨ad130, A130_2, c130_2, A130_5, c130_5, e130, hx130_0, hx130_1, hx130_2, hx130_3, hx130_4, hx130_5, hl130_2, hi130_2, hl130_5, hi130_5⟩ := at_T43 HR0_0.out (rd ((rd_T43 l0_0 x17_1).f5) x25_2) p130 q130
                    obtain rfl : ad127 = ad130 := (by injection e130)
                    replace hx130_0 := pw_cell_below HB.out hx130_0
                    replace hx130_1 := pw_cell_below HB.out hx130_1
                    replace hx130_2 := pw_cell_below HB.out hx130_2
                    replace hx130_3 := pw_cell_below HB.out hx130_3
                    replace hx130_4 := pw_cell_below HB.out hx130_4
                    replace hx130_5 := pw_cell_below HB.out hx130_5
                    have HR130_2 := Aside0.mk hi130_2
                    have HC130_2 := Aside0.mk hl130_2
                    clear hi130_2 hl130_2
                    have HR130_5 := Aside0.mk hi130_5
                    have HC130_5 := Aside0.mk hl130_5
                    clear hi130_5 hl130_5
                    replace p130 := eq_true p130
                    replace q130 := eq_true q130
                    have p131 : 0 ≤ ((rd ((rd_T43 l0_0 x17_1).f5) x25_2) : Int) := of_decide_eq_true as_
                    have q131 : (rd ((rd_T43 l0_0 x17_1).f5) x25_2) < (x3_2.length : Int) := of_decide_eq_true as_
                    obtain ⟨ad131, e131, hx131_0⟩ := Kd.at_bool (Kd.R_reads' HO_3.out).2.2 (rd ((rd_T43 l0_0 x17_1).f5) x25_2) p131 q131
                    cases e131
                    replace p131 := eq_true p131
                    replace q131 := eq_true q131
                    go_wp2
                    go_meet
                    case rel => exact ⟨_, (rdOf false x3_2 (rd ((rd_T43 l0_0 x17_1).f5) x25_2)), rs_, H', ⟨by have := HK1.out; have := HK2.out; first | omega | exact Nat.le_refl _⟩, ⟨by (with_reducible repeat (first | apply Kd.R_alloc | apply Kd.R_drewN | apply Kd.R_drew)); exact HO_3.out⟩, ⟨by (with_reducible repeat (first | refine blk_drewN ?_ _ | refine blk_drew ?_ | refine blk_alloc ?_ _)); exact BK123.out⟩, ⟨by (with_reducible repeat (first | refine blk_drewN ?_ _ | refine blk_drew ?_ | refine blk_alloc ?_ _)); exact BK128.out⟩, ⟨bl0_⟩⟩
                   ·rw [if_neg c25] at H
                    exact absurd H (by simp)
                  ·rw [if_neg c24] at H
                   have c24b0 : (((rd_T43 l0_0 (rd ((rd_T43 l0_0 x17_1).f5) x25_2)).f4) == x17_1) = false := beq_eq_false_iff_ne.mpr c24
                   have c24b1 : (((rd_T43 l0_0 (rd ((rd_T43 l0_0 x17_1).f5) x25_2)).f4) != x17_1) = true := bne_iff_ne.mpr c24
                   have H' := Aside0.mk H
                   clear H
                   obtain ⟨Ao29, co29, eo29⟩ := Kd.R_slice HO_3.out
                   subst eo29
                   have hnb30 := NB123_128.out
                   have hnc30 := NB128_123.out
                   obtain ⟨hcz31_0, hcz31_1, hfz31_0, hfz31_1⟩ := cf2_ BK123
                   have p130 : 0 ≤ ((rd ((rd_T43 l0_0 x17_1).f5) x25_2) : Int) := of_decide_eq_true as_
                   have q130 : (rd ((rd_T43 l0_0 x17_1).f5) x25_2) < (l0_0.length : Int) := of_decide_eq_true as_
                   obtain ⟨ad130, A130_2, c130_2, A130_5, c130_5, e130, hx130_0, hx130_1, hx130_2, hx130_3, hx130_4, hx130_5, hl130_2, hi130_2, hl130_5, hi130_5⟩ := at_T43 HR0_0.out (rd ((rd_T43 l0_0 x17_1).f5) x25_2) p130 q130
                   obtain rfl : ad127 = ad130 := (by injection e130)
                   replace hx130_0 := pw_cell_below HB.out hx130_0
                   replace hx130_1 := pw_cell_below HB.out hx130_1
                   replace hx130_2 := pw_cell_below HB.out hx130_2
                   replace hx130_3 := pw_cell_below HB.out hx130_3
                   replace hx130_4 := pw_cell_below HB.out hx130_4
                   replace hx130_5 := pw_cell_below HB.out hx130_5
                   have HR130_2 := Aside0.mk hi130_2
                   have HC130_2 := Aside0.mk hl130_2
                   clear hi130_2 hl130_2
                   have HR130_5 := Aside0.mk hi130_5
                   have HC130_5 := Aside0.mk hl130_5
                   clear hi130_5 hl130_5
                   replace p130 := eq_true p130
                   replace q130 := eq_true q130
                   go_wp2
                   go_meet
                   case rel => exact ⟨_, (true), rs_, H', ⟨by have := HK1.out; have := HK2.out; first | omega | exact Nat.le_refl _⟩, ⟨by (with_reducible repeat (first | apply Kd.R_alloc | apply Kd.R_drewN | apply Kd.R_drew)); exact HO_3.out⟩, ⟨by (with_reducible repeat (first | refine blk_drewN ?_ _ | refine blk_drew ?_ | refine blk_alloc ?_ _)); exact BK123.out⟩, ⟨by (with_reducible repeat (first | refine blk_drewN ?_ _ | refine blk_drew ?_ | refine blk_alloc ?_ _)); exact BK128.out⟩, ⟨bl0_⟩⟩
                 ·rw [if_neg c23] at H
                  exact absurd H (by simp)
                ·rw [if_neg c22] at H
                 exact absurd H (by simp)
             case rest =>
              clear HC18
              try clear c15b0; try clear c16b0; try clear c17b0; try clear c19b0; try clear c20b0; try clear c22; try clear c22b0; try clear c23; try clear c23b0; try clear c24; try clear c24b0; try clear c24b1; try clear c25; try clear c25b0; try clear hcz28_0; try clear hcz28_1; try clear hcz31_0; try clear hcz31_1; try clear hfz28_0; try clear hfz28_1; try clear hfz31_0; try clear hfz31_1; try clear hx129_0; try clear hx130_0; try clear hx130_1; try clear hx130_2; try clear hx130_3; try clear hx130_4; try clear hx130_5; try clear hx131_0; try clear p129; try clear p130; try clear p131; try clear q129; try clear q130; try clear q131
              obtain ⟨kq, x29_17, rfl, HA, HJ17, HO_3, BK123, BK128, HB⟩ := hcut
              cases kq with
              | zero => exact absurd HA.out (by simp [dom_kids.j2])
              | succ kj17 =>
               have H := HA.out
               clear HA
               simp only [dom_kids.j2] at H
               by_cases c32 : x29_17 = true
               ·subst c32
                have H1 : (some 3) = some r := by rw [if_pos rfl] at H; exact H
                clear H
                have H := H1
                clear H1
                obtain rfl := Option.some.inj H
                go_wp2
                go_ret
                exact ⟨er_, bl0_⟩
               ·replace c32 := Bool.eq_false_iff.mpr c32
                subst c32
                have H1 : (if x17_1 = 0 then (if 0 ≤ (rd ((rd_T43 l0_0 x17_1).f5) x25_2) then (if (rd ((rd_T43 l0_0 x17_1).f5) x25_2) < (l0_0.length : Int) then (if ((rd_T43 l0_0 (rd ((rd_T43 l0_0 x17_1).f5) x25_2)).f0) = 3 then (some 7) else (if (rd ((rd_T43 l0_0 x17_1).f5) x25_2) < (x3_2.length : Int) then (dom_kids.l1 kj17 (x3_2.set ((rd ((rd_T43 l0_0 x17_1).f5) x25_2) : Int).toNat true) x17_1 l0_0 (l0_0.length : Int) x17_1 ((rd_T43 l0_0 x17_1).f5) (((rd_T43 l0_0 x17_1).f5).length : Int) (wrap64 (x25_2 + 1)) l0_0 a0_1) else (none))) else (none)) else (none)) else (if 0 ≤ (rd ((rd_T43 l0_0 x17_1).f5) x25_2) then (if (rd ((rd_T43 l0_0 x17_1).f5) x25_2) < (x3_2.length : Int) then (dom_kids.l1 kj17 (x3_2.set ((rd ((rd_T43 l0_0 x17_1).f5) x25_2) : Int).toNat true) x17_1 l0_0 (l0_0.length : Int) x17_1 ((rd_T43 l0_0 x17_1).f5) (((rd_T43 l0_0 x17_1).f5).length : Int) (wrap64 (x25_2 + 1)) l0_0 a0_1) else (none)) else (none))) = some r := by rw [if_neg (show ¬ (false = true) by decide)] at H; exact H
                clear H
                have H := H1
                clear H1
                by_cases c33 : x17_1 = 0
                ·rw [if_pos c33] at H
                 have c33b0 : (x17_1 == 0) = true := beq_iff_eq.mpr c33
                 have c33b1 : (x17_1 != 0) = false := bne_eq_false_iff_eq.mpr c33
                 clear c33
                 by_cases c34 : 0 ≤ (rd ((rd_T43 l0_0 x17_1).f5) x25_2)
                 ·rw [if_pos c34] at H
                  have c34b0 : decide (0 ≤ (rd ((rd_T43 l0_0 x17_1).f5) x25_2)) = true := decide_eq_true c34
                  clear c34
                  by_cases c35 : (rd ((rd_T43 l0_0 x17_1).f5) x25_2) < (l0_0.length : Int)
                  ·rw [if_pos c35] at H
                   have c35b0 : decide ((rd ((rd_T43 l0_0 x17_1).f5) x25_2) < (l0_0.length : Int)) = true := decide_eq_true c35
                   clear c35
                   by_cases c36 : ((rd_T43 l0_0 (rd ((rd_T43 l0_0 x17_1).f5) x25_2)).f0) = 3
                   ·rw [if_pos c36] at H
                    have c36b0 : (((rd_T43 l0_0 (rd ((rd_T43 l0_0 x17_1).f5) x25_2)).f0) == 3) = true := beq_iff_eq.mpr c36
                    have c36b1 : (((rd_T43 l0_0 (rd ((rd_T43 l0_0 x17_1).f5) x25_2)).f0) != 3) = false := bne_eq_false_iff_eq.mpr c36
                    clear c36
                    obtain rfl := Option.some.inj H
                    have hnb37 := NB123_128.out
                    have hnc37 := NB128_123.out
                    obtain ⟨hcz38_0, hcz38_1, hfz38_0, hfz38_1⟩ := cf2_ BK123
                    have p132 : 0 ≤ ((rd ((rd_T43 l0_0 x17_1).f5) x25_2) : Int) := of_decide_eq_true as_
                    have q132 : (rd ((rd_T43 l0_0 x17_1).f5) x25_2) < (l0_0.length : Int) := of_decide_eq_true as_
                    obtain ⟨ad132, A132_2, c132_2, A132_5, c132_5, e132, hx132_0, hx132_1, hx132_2, hx132_3, hx132_4, hx132_5, hl132_2, hi132_2, hl132_5, hi132_5⟩ := at_T43 HR0_0.out (rd ((rd_T43 l0_0 x17_1).f5) x25_2) p132 q132
                    obtain rfl : ad127 = ad132 := (by injection e132)
                    replace hx132_0 := pw_cell_below HB.out hx132_0
                    replace hx132_1 := pw_cell_below HB.out hx132_1
                    replace hx132_2 := pw_cell_below HB.out hx132_2
                    replace hx132_3 := pw_cell_below HB.out hx132_3
                    replace hx132_4 := pw_cell_below HB.out hx132_4
                    replace hx132_5 := pw_cell_below HB.out hx132_5
                    have HR132_2 := Aside0.mk hi132_2
                    have HC132_2 := Aside0.mk hl132_2
                    clear hi132_2 hl132_2
                    have HR132_5 := Aside0.mk hi132_5
                    have HC132_5 := Aside0.mk hl132_5
                    clear hi132_5 hl132_5
                    replace p132 := eq_true p132
                    replace q132 := eq_true q132
                    go_wp2
                    go_ret
                    exact ⟨er_, bl0_⟩
                   ·rw [if_neg c36] at H
                    have c36b0 : (((rd_T43 l0_0 (rd ((rd_T43 l0_0 x17_1).f5) x25_2)).f0) == 3) = false := beq_eq_false_iff_ne.mpr c36
                    have c36b1 : (((rd_T43 l0_0 (rd ((rd_T43 l0_0 x17_1).f5) x25_2)).f0) != 3) = true := bne_iff_ne.mpr c36
                    by_cases c39 : (rd ((rd_T43 l0_0 x17_1).f5) x25_2) < (x3_2.length : Int)
                    ·rw [if_pos c39] at H
                     have c39b0 : decide ((rd ((rd_T43 l0_0 x17_1).f5) x25_2) < (x3_2.length : Int)) = true := decide_eq_true c39
                     clear c39
                     obtain ⟨y133, hy133⟩ : ∃ y_ : List Bool, y_ = (x3_2.set ((rd ((rd_T43 l0_0 x17_1).f5) x25_2) : Int).toNat true) := ⟨_, rfl⟩
                     replace H : (dom_kids.l1 kj17 y133 x17_1 l0_0 (l0_0.length : Int) x17_1 ((rd_T43 l0_0 x17_1).f5) (((rd_T43 l0_0 x17_1).f5).length : Int) (wrap64 (x25_2 + 1)) l0_0 a0_1) = some r := by first | (rw [hy133]; with_reducible exact H) | (have H2_ := (Option.bind_some _ _).symm.trans H; rw [hy133]; with_reducible exact H2_) | (have H2_ := (Option.bind_some _ _).symm.trans H; with_reducible exact H2_) | with_reducible exact H | (rw [hy133]; exact H) | exact H
                     have Ny133 := Aside0.mk hy133
                     clear hy133
                     have H' := Aside0.mk H
                     clear H
                     have hnb41 := NB123_128.out
                     have hnc41 := NB128_123.out
                     obtain ⟨hcz42_0, hcz42_1, hfz42_0, hfz42_1⟩ := cf2_ BK123
                     have p132 : 0 ≤ ((rd ((rd_T43 l0_0 x17_1).f5) x25_2) : Int) := of_decide_eq_true as_
                     have q132 : (rd ((rd_T43 l0_0 x17_1).f5) x25_2) < (l0_0.length : Int) := of_decide_eq_true as_
                     obtain ⟨ad132, A132_2, c132_2, A132_5, c132_5, e132, hx132_0, hx132_1, hx132_2, hx132_3, hx132_4, hx132_5, hl132_2, hi132_2, hl132_5, hi132_5⟩ := at_T43 HR0_0.out (rd ((rd_T43 l0_0 x17_1).f5) x25_2) p132 q132
                     obtain rfl : ad127 = ad132 := (by injection e132)
                     replace hx132_0 := pw_cell_below HB.out hx132_0
                     replace hx132_1 := pw_cell_below HB.out hx132_1
                     replace hx132_2 := pw_cell_below HB.out hx132_2
                     replace hx132_3 := pw_cell_below HB.out hx132_3
                     replace hx132_4 := pw_cell_below HB.out hx132_4
                     replace hx132_5 := pw_cell_below HB.out hx132_5
                     have HR132_2 := Aside0.mk hi132_2
                     have HC132_2 := Aside0.mk hl132_2
                     clear hi132_2 hl132_2
                     have HR132_5 := Aside0.mk hi132_5
                     have HC132_5 := Aside0.mk hl132_5
                     clear hi132_5 hl132_5
                     replace p132 := eq_true p132
                     replace q132 := eq_true q132
                     have p40 : 0 ≤ ((rd ((rd_T43 l0_0 x17_1).f5) x25_2) : Int) := of_decide_eq_true as_
                     have q40 : ((rd ((rd_T43 l0_0 x17_1).f5) x25_2) : Int) < ((x3_2.length : Int) : Int) := of_decide_eq_true as_
                     obtain ⟨go40, co40, eo40, gb40, gl40, cl40, HG40⟩ := Kd.R_form HO_3.out (by omega)
                     (first | cases eo40 | (injection eo40 with ea_ en_ ec_; (first | subst ea_ | (injection ea_ with ea_; subst ea_)); subst ec_; clear en_))
                     have GB40 := Aside0.mk gb40
                     have GG40 := Aside0.mk HG40
                     clear gb40 gl40 HG40
                     obtain ⟨hx40_0, hf40_0⟩ := Kd.R_celln false HO_3.out ((rd ((rd_T43 l0_0 x17_1).f5) x25_2) : Int) p40 q40
                     replace p40 := eq_true p40
                     replace q40 := eq_true q40
                     have HP43 := Kd.R_putg HO_3.out ((rd ((rd_T43 l0_0 x17_1).f5) x25_2) : Int) true
                     go_wp2_with (first | ((with_reducible refine gate_store (t := 4) (p := 68) rfl ?_); refine store_event (t := 4) (p := 68) (v := ?vo_w44) (w1 := (wc.setCell ⟨go40, ((rd ((rd_T43 l0_0 x17_1).f5) x25_2) : Int).toNat, none⟩ (.bool true))) ?hg ?ho ?hn ?hr ?_; (case ho => rfl); (case hg => rfl); (case hn => rfl); (case hr => first | (go_simp; done) | (go_simp; rfl)); intro w44 hw; have hg : wc.grownBy w44 (some go40) := (by rw [hw]; exact HP43.2); have hp_ : Kd.R Kd.bool 4 w44 w.heap.size (fun _ => True) (.slice (some ⟨go40, 0, none⟩) x3_2.length co40) y133 := (by rw [hw, Ny133.out]; exact HP43.1); clear HP43; replace BK123 := Aside0.mk (blk_grown (g := gb123) (o := .cells #[.slice (some ad127) l0_0.length c0_0, .bool a0_1] 24 (0, 0)) (bq_ BK123.out) hg (Kd.R_ne HO_3.out BK123.out (by decide))); replace BK128 := Aside0.mk (blk_grown (g := gb128) (o := .cells #[.int .i64 ((rd_T43 l0_0 x17_1).f0), .string ((rd_T43 l0_0 x17_1).f1), .slice A127_2 ((rd_T43 l0_0 x17_1).f2).length c127_2, .string ((rd_T43 l0_0 x17_1).f3), .int .i64 ((rd_T43 l0_0 x17_1).f4), .slice (some ad129) ((rd_T43 l0_0 x17_1).f5).length c127_5] 43 (0, 0)) (bq_ BK128.out) hg (Kd.R_ne HO_3.out BK128.out (by decide))); replace HO_3 := Aside0.mk hp_; replace HB := Aside0.mk ((by rw [hw]; exact below_set (HB.out) GB40.out : Below w.heap.size w w44)); clear hg hw hp_))
                     go_roundg kj17
                     case measure => have := HK1.out; have := HK2.out; have := HJ17.out; omega
                     case rel => exact ⟨(y133), (wrap64 (x25_2 + 1)), rs_, H', ⟨by have := HK1.out; have := HK2.out; have := HJ17.out; omega⟩, ⟨by (with_reducible repeat (first | apply Kd.R_alloc | apply Kd.R_drewN | apply Kd.R_drew)); exact HO_3.out⟩, ⟨by (with_reducible repeat (first | refine blk_drewN ?_ _ | refine blk_drew ?_ | refine blk_alloc ?_ _)); exact BK123.out⟩, ⟨by (with_reducible repeat (first | refine blk_drewN ?_ _ | refine blk_drew ?_ | refine blk_alloc ?_ _)); exact BK128.out⟩, ⟨bl0_⟩⟩
                    ·rw [if_neg c39] at H
                     exact absurd H (by simp)
                  ·rw [if_neg c35] at H
                   exact absurd H (by simp)
                 ·rw [if_neg c34] at H
                  exact absurd H (by simp)
                ·rw [if_neg c33] at H
                 have c33b0 : (x17_1 == 0) = false := beq_eq_false_iff_ne.mpr c33
                 have c33b1 : (x17_1 != 0) = true := bne_iff_ne.mpr c33
                 by_cases c45 : 0 ≤ (rd ((rd_T43 l0_0 x17_1).f5) x25_2)
                 ·rw [if_pos c45] at H
                  have c45b0 : decide (0 ≤ (rd ((rd_T43 l0_0 x17_1).f5) x25_2)) = true := decide_eq_true c45
                  clear c45
                  by_cases c46 : (rd ((rd_T43 l0_0 x17_1).f5) x25_2) < (x3_2.length : Int)
                  ·rw [if_pos c46] at H
                   have c46b0 : decide ((rd ((rd_T43 l0_0 x17_1).f5) x25_2) < (x3_2.length : Int)) = true := decide_eq_true c46
                   clear c46
                   obtain ⟨y134, hy134⟩ : ∃ y_ : List Bool, y_ = (x3_2.set ((rd ((rd_T43 l0_0 x17_1).f5) x25_2) : Int).toNat true) := ⟨_, rfl⟩
                   replace H : (dom_kids.l1 kj17 y134 x17_1 l0_0 (l0_0.length : Int) x17_1 ((rd_T43 l0_0 x17_1).f5) (((rd_T43 l0_0 x17_1).f5).length : Int) (wrap64 (x25_2 + 1)) l0_0 a0_1) = some r := by first | (rw [hy134]; with_reducible exact H) | (have H2_ := (Option.bind_some _ _).symm.trans H; rw [hy134]; with_reducible exact H2_) | (have H2_ := (Option.bind_some _ _).symm.trans H; with_reducible exact H2_) | with_reducible exact H | (rw [hy134]; exact H) | exact H
                   have Ny134 := Aside0.mk hy134
                   clear hy134
                   have H' := Aside0.mk H
                   clear H
                   have p47 : 0 ≤ ((rd ((rd_T43 l0_0 x17_1).f5) x25_2) : Int) := of_decide_eq_true as_
                   have q47 : ((rd ((rd_T43 l0_0 x17_1).f5) x25_2) : Int) < ((x3_2.length : Int) : Int) := of_decide_eq_true as_
                   obtain ⟨go47, co47, eo47, gb47, gl47, cl47, HG47⟩ := Kd.R_form HO_3.out (by omega)
                   (first | cases eo47 | (injection eo47 with ea_ en_ ec_; (first | subst ea_ | (injection ea_ with ea_; subst ea_)); subst ec_; clear en_))
                   have GB47 := Aside0.mk gb47
                   have GG47 := Aside0.mk HG47
                   clear gb47 gl47 HG47
                   obtain ⟨hx47_0, hf47_0⟩ := Kd.R_celln false HO_3.out ((rd ((rd_T43 l0_0 x17_1).f5) x25_2) : Int) p47 q47
                   replace p47 := eq_true p47
                   replace q47 := eq_true q47
                   have HP48 := Kd.R_putg HO_3.out ((rd ((rd_T43 l0_0 x17_1).f5) x25_2) : Int) true
                   go_wp2_with (first | ((with_reducible refine gate_store (t := 4) (p := 68) rfl ?_); refine store_event (t := 4) (p := 68) (v := ?vo_w49) (w1 := (wc.setCell ⟨go47, ((rd ((rd_T43 l0_0 x17_1).f5) x25_2) : Int).toNat, none⟩ (.bool true))) ?hg ?ho ?hn ?hr ?_; (case ho => rfl); (case hg => rfl); (case hn => rfl); (case hr => first | (go_simp; done) | (go_simp; rfl)); intro w49 hw; have hg : wc.grownBy w49 (some go47) := (by rw [hw]; exact HP48.2); have hp_ : Kd.R Kd.bool 4 w49 w.heap.size (fun _ => True) (.slice (some ⟨go47, 0, none⟩) x3_2.length co47) y134 := (by rw [hw, Ny134.out]; exact HP48.1); clear HP48; replace BK123 := Aside0.mk (blk_grown (g := gb123) (o := .cells #[.slice (some ad127) l0_0.length c0_0, .bool a0_1] 24 (0, 0)) (bq_ BK123.out) hg (Kd.R_ne HO_3.out BK123.out (by decide))); replace BK128 := Aside0.mk (blk_grown (g := gb128) (o := .cells #[.int .i64 ((rd_T43 l0_0 x17_1).f0), .string ((rd_T43 l0_0 x17_1).f1), .slice A127_2 ((rd_T43 l0_0 x17_1).f2).length c127_2, .string ((rd_T43 l0_0 x17_1).f3), .int .i64 ((rd_T43 l0_0 x17_1).f4), .slice (some ad129) ((rd_T43 l0_0 x17_1).f5).length c127_5] 43 (0, 0)) (bq_ BK128.out) hg (Kd.R_ne HO_3.out BK128.out (by decide))); replace HO_3 := Aside0.mk hp_; replace HB := Aside0.mk ((by rw [hw]; exact below_set (HB.out) GB47.out : Below w.heap.size w w49)); clear hg hw hp_))
                   go_roundg kj17
                   case measure => have := HK1.out; have := HK2.out; have := HJ17.out; omega
                   case rel => exact ⟨(y134), (wrap64 (x25_2 + 1)), rs_, H', ⟨by have := HK1.out; have := HK2.out; have := HJ17.out; omega⟩, ⟨by (with_reducible repeat (first | apply Kd.R_alloc | apply Kd.R_drewN | apply Kd.R_drew)); exact HO_3.out⟩, ⟨by (with_reducible repeat (first | refine blk_drewN ?_ _ | refine blk_drew ?_ | refine blk_alloc ?_ _)); exact BK123.out⟩, ⟨by (with_reducible repeat (first | refine blk_drewN ?_ _ | refine blk_drew ?_ | refine blk_alloc ?_ _)); exact BK128.out⟩, ⟨bl0_⟩⟩
                  ·rw [if_neg c46] at H
                   exact absurd H (by simp)
                 ·rw [if_neg c45] at H
                  exact absurd H (by simp)
            ·rw [if_neg c17] at H
             exact absurd H (by simp)
           ·rw [if_neg c16] at H
            exact absurd H (by simp)
          ·rw [if_neg c15] at H
           have c15b0 : decide (x25_2 < (((rd_T43 l0_0 x17_1).f5).length : Int)) = false := decide_eq_false c15
           clear c15
           have H' := Aside0.mk H
           clear H
           go_wp2
           go_roundg k2
           case measure => have := HK1.out; have := HK2.out; omega
           case rel => exact ⟨(x3_2), (wrap64 (x17_1 + 1)), rs_, H', ⟨by have := HK1.out; have := HK2.out; omega⟩, ⟨by (with_reducible repeat (first | apply Kd.R_alloc | apply Kd.R_drewN | apply Kd.R_drew)); exact HO_3.out⟩, ⟨by (with_reducible repeat (first | refine blk_drewN ?_ _ | refine blk_drew ?_ | refine blk_alloc ?_ _)); exact BK123.out⟩, ⟨bl0_⟩⟩
       ·rw [if_neg c11] at H
        exact absurd H (by simp)
      ·rw [if_neg c10] at H
       exact absurd H (by simp)
     ·rw [if_neg c9] at H
      have c9b0 : decide (x17_1 < (l0_0.length : Int)) = false := decide_eq_false c9
      clear c9
      have H' := Aside0.mk H
      clear H
      obtain ⟨hcz50_0, hcz50_1, hfz50_0, hfz50_1⟩ := cf2_ BK123
      go_wp2
      go_loopg [74] k1 (fun kq v74 w' => ∃ (x74_2 : Int), v74 = .int .i64 x74_2 ∧ Aside0 (dom_kids.l2 kq x3_1 l0_0 (l0_0.length : Int) x74_2 l0_0 a0_1 = some r) ∧ Aside0 (kq ≤ k1) ∧ Aside0 (Kd.R Kd.bool 4 w' w.heap.size (fun _ => True) v125 x3_1) ∧ Aside0 (w'.heap[gb123]? = some (.cells #[(.slice A0_0 l0_0.length c0_0), .bool a0_1] 24 (0, 0))) ∧ Aside0 (Below w.heap.size w w'))
      case atStart => exact ⟨(0), rs_, H', ⟨Nat.le_refl _⟩, ⟨by (with_reducible repeat (first | apply Kd.R_alloc | apply Kd.R_drewN | apply Kd.R_drew)); exact HO_3.out⟩, ⟨by (with_reducible repeat (first | refine blk_drewN ?_ _ | refine blk_drew ?_ | refine blk_alloc ?_ _)); exact BK123.out⟩, ⟨bl0_⟩⟩
      case round =>
       clear H'
       try clear c9b0; try clear c10; try clear c11; try clear c15b0; try clear c16; try clear c17; try clear c32; try clear c33; try clear c33b0; try clear c33b1; try clear c34; try clear c34b0; try clear c35; try clear c35b0; try clear c36; try clear c36b0; try clear c36b1; try clear c39; try clear c39b0; try clear p40; try clear q40; try clear c45; try clear c45b0; try clear c46; try clear c46b0; try clear p47; try clear q47; try clear hcz38_0; try clear hcz38_1; try clear hcz42_0; try clear hcz42_1; try clear hcz50_0; try clear hcz50_1; try clear hfz38_0; try clear hfz38_1; try clear hfz42_0; try clear hfz42_1; try clear hfz50_0; try clear hfz50_1; try clear hx132_0; try clear hx132_1; try clear hx132_2; try clear hx132_3; try clear hx132_4; try clear hx132_5; try clear hx40_0; try clear hx47_0; try clear p132; try clear q132
       obtain ⟨x74_2, rfl, HA, HK2, HO_3, BK123, HB⟩ := hrel
       cases gk with
       | zero => exact absurd HA.out (by simp [dom_kids.l2])
       | succ k2 =>
        have H := HA.out
        clear HA
        simp only [dom_kids.l2] at H
        by_cases c51 : x74_2 < (l0_0.length : Int)
        ·rw [if_pos c51] at H
         have c51b0 : decide (x74_2 < (l0_0.length : Int)) = true := decide_eq_true c51
         clear c51
         by_cases c52 : 0 ≤ x74_2
         ·rw [if_pos c52] at H
          have c52b0 : decide (0 ≤ x74_2) = true := decide_eq_true c52
          clear c52
          by_cases c53 : x74_2 < (l0_0.length : Int)
          ·rw [if_pos c53] at H
           have c53b0 : decide (x74_2 < (l0_0.length : Int)) = true := decide_eq_true c53
           clear c53
           by_cases c54 : ((rd_T43 l0_0 x74_2).f4) = (-1)
           ·rw [if_pos c54] at H
            have c54b0 : (((rd_T43 l0_0 x74_2).f4) == (-1)) = true := beq_iff_eq.mpr c54
            have c54b1 : (((rd_T43 l0_0 x74_2).f4) != (-1)) = false := bne_eq_false_iff_eq.mpr c54
            clear c54
            have H' := Aside0.mk H
            clear H
            have p135 : 0 ≤ (x74_2 : Int) := of_decide_eq_true as_
            have q135 : x74_2 < (l0_0.length : Int) := of_decide_eq_true as_
            obtain ⟨ad135, A135_2, c135_2, A135_5, c135_5, e135, hx135_0, hx135_1, hx135_2, hx135_3, hx135_4, hx135_5, hl135_2, hi135_2, hl135_5, hi135_5⟩ := at_T43 HR0_0.out x74_2 p135 q135
            cases e135
            replace hx135_0 := pw_cell_below HB.out hx135_0
            replace hx135_1 := pw_cell_below HB.out hx135_1
            replace hx135_2 := pw_cell_below HB.out hx135_2
            replace hx135_3 := pw_cell_below HB.out hx135_3
            replace hx135_4 := pw_cell_below HB.out hx135_4
            replace hx135_5 := pw_cell_below HB.out hx135_5
            have HR135_2 := Aside0.mk hi135_2
            have HC135_2 := Aside0.mk hl135_2
            clear hi135_2 hl135_2
            have HR135_5 := Aside0.mk hi135_5
            have HC135_5 := Aside0.mk hl135_5
            clear hi135_5 hl135_5
            replace p135 := eq_true p135
            replace q135 := eq_true q135
            go_wp2_with (first | ((with_reducible refine gate_dst (N := 9) rfl ?_); (try (refine gate_guard (by rfl) ?_; dsimp only)); refine box_event rf_ (N := 9) rf_ (cs := #[.int .i64 0, .string (⟨#[]⟩ : ByteArray), .slice none 0 0, .string (⟨#[]⟩ : ByteArray), .int .i64 0, .slice none 0 0]) (t := 43) gs_ ?_; intro gb136 hg w55 hbox hb; replace HO_3 := Aside0.mk (Kd.R_below (Kd.R_below HO_3.out bu_) hb); have BK136 := Aside0.mk hbox; have GW136 := Aside0.mk (gle_ (w := w) hg bl0_); replace HB := Aside0.mk (below_step bl0_ hb); have GE136 := GW136; have NB123_136 := nl_ hg BK123; have NB136_123 := ng_ hg BK123; replace BK123 := bb_ BK123 hb; clear hb hbox hg; have hnb56 := NB136_123.out; have hnc56 := NB123_136.out; obtain ⟨hcz57_0, hcz57_1, hcz57_2, hcz57_3, hcz57_4, hcz57_5, hfz57_0, hfz57_1, hfz57_2, hfz57_3, hfz57_4, hfz57_5⟩ := cf6_ BK136))
            go_roundg k2
            case measure => have := HK1.out; have := HK2.out; omega
            case rel => exact ⟨(wrap64 (x74_2 + 1)), rs_, H', ⟨by have := HK1.out; have := HK2.out; omega⟩, ⟨by (with_reducible repeat (first | apply Kd.R_alloc | apply Kd.R_drewN | apply Kd.R_drew)); exact Kd.R_mono (Kd.R_far (p := ⟨gb136, 5, none⟩) (Kd.R_far (p := ⟨gb136, 4, none⟩) (Kd.R_far (p := ⟨gb136, 3, none⟩) (Kd.R_far (p := ⟨gb136, 2, none⟩) (Kd.R_far (p := ⟨gb136, 1, none⟩) (Kd.R_far (p := ⟨gb136, 0, none⟩) (Kd.R_types HO_3.out BK136.out (by decide)) (fun _ hk => hk.2) (.int .i64 ((rd_T43 l0_0 x74_2).f0))) (fun _ hk => hk.2) (.string ((rd_T43 l0_0 x74_2).f1))) (fun _ hk => hk.2) (.slice A135_2 ((rd_T43 l0_0 x74_2).f2).length c135_2)) (fun _ hk => hk.2) (.string ((rd_T43 l0_0 x74_2).f3))) (fun _ hk => hk.2) (.int .i64 ((rd_T43 l0_0 x74_2).f4))) (fun _ hk => hk.2) (.slice A135_5 ((rd_T43 l0_0 x74_2).f5).length c135_5)) (fun _ hk => trivial)⟩, ⟨by (with_reducible repeat (first | refine blk_drewN ?_ _ | refine blk_drew ?_ | refine blk_alloc ?_ _)); refine blk_far ?_ NB123_136.out _; (with_reducible repeat (first | refine blk_drewN ?_ _ | refine blk_drew ?_ | refine blk_alloc ?_ _)); refine blk_far ?_ NB123_136.out _; (with_reducible repeat (first | refine blk_drewN ?_ _ | refine blk_drew ?_ | refine blk_alloc ?_ _)); refine blk_far ?_ NB123_136.out _; (with_reducible repeat (first | refine blk_drewN ?_ _ | refine blk_drew ?_ | refine blk_alloc ?_ _)); refine blk_far ?_ NB123_136.out _; (with_reducible repeat (first | refine blk_drewN ?_ _ | refine blk_drew ?_ | refine blk_alloc ?_ _)); refine blk_far ?_ NB123_136.out _; (with_reducible repeat (first | refine blk_drewN ?_ _ | refine blk_drew ?_ | refine blk_alloc ?_ _)); refine blk_far ?_ NB123_136.out _; (with_reducible repeat (first | refine blk_drewN ?_ _ | refine blk_drew ?_ | refine blk_alloc ?_ _)); exact BK123.out⟩, ⟨bl0_⟩⟩
           ·rw [if_neg c54] at H
            have c54b0 : (((rd_T43 l0_0 x74_2).f4) == (-1)) = false := beq_eq_false_iff_ne.mpr c54
            have c54b1 : (((rd_T43 l0_0 x74_2).f4) != (-1)) = true := bne_iff_ne.mpr c54
            by_cases c58 : x74_2 < (x3_1.length : Int)
            ·rw [if_pos c58] at H
             have c58b0 : decide (x74_2 < (x3_1.length : Int)) = true := decide_eq_true c58
             clear c58
             obtain ⟨bq59, hbq59⟩ : ∃ b_ : Bool, b_ = (rdOf false x3_1 x74_2) := ⟨_, rfl⟩
             replace H : (if bq59 = true then (dom_kids.l2 k2 x3_1 l0_0 (l0_0.length : Int) (wrap64 (x74_2 + 1)) l0_0 a0_1) else (some 3)) = some r := by rw [← hbq59] at H; exact H
             have Nbq59 := Aside0.mk hbq59
             clear hbq59
             by_cases c60 : bq59 = true
             ·subst c60
              have H1 : (dom_kids.l2 k2 x3_1 l0_0 (l0_0.length : Int) (wrap64 (x74_2 + 1)) l0_0 a0_1) = some r := by rw [if_pos rfl] at H; exact H
              clear H
              have H := H1
              clear H1
              have H' := Aside0.mk H
              clear H
              have p135 : 0 ≤ (x74_2 : Int) := of_decide_eq_true as_
              have q135 : x74_2 < (l0_0.length : Int) := of_decide_eq_true as_
              obtain ⟨ad135, A135_2, c135_2, A135_5, c135_5, e135, hx135_0, hx135_1, hx135_2, hx135_3, hx135_4, hx135_5, hl135_2, hi135_2, hl135_5, hi135_5⟩ := at_T43 HR0_0.out x74_2 p135 q135
              cases e135
              replace hx135_0 := pw_cell_below HB.out hx135_0
              replace hx135_1 := pw_cell_below HB.out hx135_1
              replace hx135_2 := pw_cell_below HB.out hx135_2
              replace hx135_3 := pw_cell_below HB.out hx135_3
              replace hx135_4 := pw_cell_below HB.out hx135_4
              replace hx135_5 := pw_cell_below HB.out hx135_5
              have HR135_2 := Aside0.mk hi135_2
              have HC135_2 := Aside0.mk hl135_2
              clear hi135_2 hl135_2
              have HR135_5 := Aside0.mk hi135_5
              have HC135_5 := Aside0.mk hl135_5
              clear hi135_5 hl135_5
              replace p135 := eq_true p135
              replace q135 := eq_true q135
              go_wp2_with (first | ((with_reducible refine gate_dst (N := 9) rfl ?_); (try (refine gate_guard (by rfl) ?_; dsimp only)); refine box_event rf_ (N := 9) rf_ (cs := #[.int .i64 0, .string (⟨#[]⟩ : ByteArray), .slice none 0 0, .string (⟨#[]⟩ : ByteArray), .int .i64 0, .slice none 0 0]) (t := 43) gs_ ?_; intro gb136 hg w61 hbox hb; replace HO_3 := Aside0.mk (Kd.R_below (Kd.R_below HO_3.out bu_) hb); have BK136 := Aside0.mk hbox; have GW136 := Aside0.mk (gle_ (w := w) hg bl0_); replace HB := Aside0.mk (below_step bl0_ hb); have GE136 := GW136; have NB123_136 := nl_ hg BK123; have NB136_123 := ng_ hg BK123; replace BK123 := bb_ BK123 hb; clear hb hbox hg; have hnb62 := NB136_123.out; have hnc62 := NB123_136.out; obtain ⟨hcz63_0, hcz63_1, hcz63_2, hcz63_3, hcz63_4, hcz63_5, hfz63_0, hfz63_1, hfz63_2, hfz63_3, hfz63_4, hfz63_5⟩ := cf6_ BK136; obtain ⟨Ao64, co64, eo64⟩ := Kd.R_slice HO_3.out; subst eo64; have p137 : 0 ≤ (x74_2 : Int) := of_decide_eq_true as_; have q137 : x74_2 < (x3_1.length : Int) := of_decide_eq_true as_; obtain ⟨ad137, e137, hx137_0⟩ := Kd.at_bool (Kd.R_reads' HO_3.out).2.2 x74_2 p137 q137; (try rw [← Nbq59.out] at hx137_0); cases e137; have hn137_0 : ad137.block ≠ gb136 := Kd.own_blk (Kd.R_ne HO_3.out BK136.out (by decide)); have hn137_1 : ad137.block ≠ gb136 := Kd.own_blk (Kd.R_ne HO_3.out BK136.out (by decide)); have hn137_2 : ad137.block ≠ gb136 := Kd.own_blk (Kd.R_ne HO_3.out BK136.out (by decide)); have hn137_3 : ad137.block ≠ gb136 := Kd.own_blk (Kd.R_ne HO_3.out BK136.out (by decide)); have hn137_4 : ad137.block ≠ gb136 := Kd.own_blk (Kd.R_ne HO_3.out BK136.out (by decide)); have hn137_5 : ad137.block ≠ gb136 := Kd.own_blk (Kd.R_ne HO_3.out BK136.out (by decide)); replace hx137_0 := (cell_far (p := ⟨gb136, 0, none⟩) (by first | (rw [add_block]; exact hn137_0) | (show (Addr.add _ _).block ≠ _; rw [add_block]; exact hn137_0) | exact hn137_0) (.int .i64 ((rd_T43 l0_0 x74_2).f0))).trans hx137_0; replace hx137_0 := (cell_far (p := ⟨gb136, 1, none⟩) (by first | (rw [add_block]; exact hn137_1) | (show (Addr.add _ _).block ≠ _; rw [add_block]; exact hn137_1) | exact hn137_1) (.string ((rd_T43 l0_0 x74_2).f1))).trans hx137_0; replace hx137_0 := (cell_far (p := ⟨gb136, 2, none⟩) (by first | (rw [add_block]; exact hn137_2) | (show (Addr.add _ _).block ≠ _; rw [add_block]; exact hn137_2) | exact hn137_2) (.slice A135_2 ((rd_T43 l0_0 x74_2).f2).length c135_2)).trans hx137_0; replace hx137_0 := (cell_far (p := ⟨gb136, 3, none⟩) (by first | (rw [add_block]; exact hn137_3) | (show (Addr.add _ _).block ≠ _; rw [add_block]; exact hn137_3) | exact hn137_3) (.string ((rd_T43 l0_0 x74_2).f3))).trans hx137_0; replace hx137_0 := (cell_far (p := ⟨gb136, 4, none⟩) (by first | (rw [add_block]; exact hn137_4) | (show (Addr.add _ _).block ≠ _; rw [add_block]; exact hn137_4) | exact hn137_4) (.int .i64 ((rd_T43 l0_0 x74_2).f4))).trans hx137_0; replace hx137_0 := (cell_far (p := ⟨gb136, 5, none⟩) (by first | (rw [add_block]; exact hn137_5) | (show (Addr.add _ _).block ≠ _; rw [add_block]; exact hn137_5) | exact hn137_5) (.slice A135_5 ((rd_T43 l0_0 x74_2).f5).length c135_5)).trans hx137_0; clear hn137_0; clear hn137_1; clear hn137_2; clear hn137_3; clear hn137_4; clear hn137_5; replace p137 := eq_true p137; replace q137 := eq_true q137))
              go_roundg k2
              case measure => have := HK1.out; have := HK2.out; omega
              case rel => exact ⟨(wrap64 (x74_2 + 1)), rs_, H', ⟨by have := HK1.out; have := HK2.out; omega⟩, ⟨by (with_reducible repeat (first | apply Kd.R_alloc | apply Kd.R_drewN | apply Kd.R_drew)); exact Kd.R_mono (Kd.R_far (p := ⟨gb136, 5, none⟩) (Kd.R_far (p := ⟨gb136, 4, none⟩) (Kd.R_far (p := ⟨gb136, 3, none⟩) (Kd.R_far (p := ⟨gb136, 2, none⟩) (Kd.R_far (p := ⟨gb136, 1, none⟩) (Kd.R_far (p := ⟨gb136, 0, none⟩) (Kd.R_types HO_3.out BK136.out (by decide)) (fun _ hk => hk.2) (.int .i64 ((rd_T43 l0_0 x74_2).f0))) (fun _ hk => hk.2) (.string ((rd_T43 l0_0 x74_2).f1))) (fun _ hk => hk.2) (.slice A135_2 ((rd_T43 l0_0 x74_2).f2).length c135_2)) (fun _ hk => hk.2) (.string ((rd_T43 l0_0 x74_2).f3))) (fun _ hk => hk.2) (.int .i64 ((rd_T43 l0_0 x74_2).f4))) (fun _ hk => hk.2) (.slice A135_5 ((rd_T43 l0_0 x74_2).f5).length c135_5)) (fun _ hk => trivial)⟩, ⟨by (with_reducible repeat (first | refine blk_drewN ?_ _ | refine blk_drew ?_ | refine blk_alloc ?_ _)); refine blk_far ?_ NB123_136.out _; (with_reducible repeat (first | refine blk_drewN ?_ _ | refine blk_drew ?_ | refine blk_alloc ?_ _)); refine blk_far ?_ NB123_136.out _; (with_reducible repeat (first | refine blk_drewN ?_ _ | refine blk_drew ?_ | refine blk_alloc ?_ _)); refine blk_far ?_ NB123_136.out _; (with_reducible repeat (first | refine blk_drewN ?_ _ | refine blk_drew ?_ | refine blk_alloc ?_ _)); refine blk_far ?_ NB123_136.out _; (with_reducible repeat (first | refine blk_drewN ?_ _ | refine blk_drew ?_ | refine blk_alloc ?_ _)); refine blk_far ?_ NB123_136.out _; (with_reducible repeat (first | refine blk_drewN ?_ _ | refine blk_drew ?_ | refine blk_alloc ?_ _)); refine blk_far ?_ NB123_136.out _; (with_reducible repeat (first | refine blk_drewN ?_ _ | refine blk_drew ?_ | refine blk_alloc ?_ _)); exact BK123.out⟩, ⟨bl0_⟩⟩
             ·replace c60 := Bool.eq_false_iff.mpr c60
              subst c60
              have H1 : (some 3) = some r := by rw [if_neg (show ¬ (false = true) by decide)] at H; exact H
              clear H
              have H := H1
              clear H1
              obtain rfl := Option.some.inj H
              have p135 : 0 ≤ (x74_2 : Int) := of_decide_eq_true as_
              have q135 : x74_2 < (l0_0.length : Int) := of_decide_eq_true as_
              obtain ⟨ad135, A135_2, c135_2, A135_5, c135_5, e135, hx135_0, hx135_1, hx135_2, hx135_3, hx135_4, hx135_5, hl135_2, hi135_2, hl135_5, hi135_5⟩ := at_T43 HR0_0.out x74_2 p135 q135
              cases e135
              replace hx135_0 := pw_cell_below HB.out hx135_0
              replace hx135_1 := pw_cell_below HB.out hx135_1
              replace hx135_2 := pw_cell_below HB.out hx135_2
              replace hx135_3 := pw_cell_below HB.out hx135_3
              replace hx135_4 := pw_cell_below HB.out hx135_4
              replace hx135_5 := pw_cell_below HB.out hx135_5
              have HR135_2 := Aside0.mk hi135_2
              have HC135_2 := Aside0.mk hl135_2
              clear hi135_2 hl135_2
              have HR135_5 := Aside0.mk hi135_5
              have HC135_5 := Aside0.mk hl135_5
              clear hi135_5 hl135_5
              replace p135 := eq_true p135
              replace q135 := eq_true q135
              go_wp2_with (first | ((with_reducible refine gate_dst (N := 9) rfl ?_); (try (refine gate_guard (by rfl) ?_; dsimp only)); refine box_event rf_ (N := 9) rf_ (cs := #[.int .i64 0, .string (⟨#[]⟩ : ByteArray), .slice none 0 0, .string (⟨#[]⟩ : ByteArray), .int .i64 0, .slice none 0 0]) (t := 43) gs_ ?_; intro gb136 hg w65 hbox hb; replace HO_3 := Aside0.mk (Kd.R_below (Kd.R_below HO_3.out bu_) hb); have BK136 := Aside0.mk hbox; have GW136 := Aside0.mk (gle_ (w := w) hg bl0_); replace HB := Aside0.mk (below_step bl0_ hb); have GE136 := GW136; have NB123_136 := nl_ hg BK123; have NB136_123 := ng_ hg BK123; replace BK123 := bb_ BK123 hb; clear hb hbox hg; have hnb66 := NB136_123.out; have hnc66 := NB123_136.out; obtain ⟨hcz67_0, hcz67_1, hcz67_2, hcz67_3, hcz67_4, hcz67_5, hfz67_0, hfz67_1, hfz67_2, hfz67_3, hfz67_4, hfz67_5⟩ := cf6_ BK136; obtain ⟨Ao68, co68, eo68⟩ := Kd.R_slice HO_3.out; subst eo68; have p137 : 0 ≤ (x74_2 : Int) := of_decide_eq_true as_; have q137 : x74_2 < (x3_1.length : Int) := of_decide_eq_true as_; obtain ⟨ad137, e137, hx137_0⟩ := Kd.at_bool (Kd.R_reads' HO_3.out).2.2 x74_2 p137 q137; (try rw [← Nbq59.out] at hx137_0); cases e137; have hn137_0 : ad137.block ≠ gb136 := Kd.own_blk (Kd.R_ne HO_3.out BK136.out (by decide)); have hn137_1 : ad137.block ≠ gb136 := Kd.own_blk (Kd.R_ne HO_3.out BK136.out (by decide)); have hn137_2 : ad137.block ≠ gb136 := Kd.own_blk (Kd.R_ne HO_3.out BK136.out (by decide)); have hn137_3 : ad137.block ≠ gb136 := Kd.own_blk (Kd.R_ne HO_3.out BK136.out (by decide)); have hn137_4 : ad137.block ≠ gb136 := Kd.own_blk (Kd.R_ne HO_3.out BK136.out (by decide)); have hn137_5 : ad137.block ≠ gb136 := Kd.own_blk (Kd.R_ne HO_3.out BK136.out (by decide)); replace hx137_0 := (cell_far (p := ⟨gb136, 0, none⟩) (by first | (rw [add_block]; exact hn137_0) | (show (Addr.add _ _).block ≠ _; rw [add_block]; exact hn137_0) | exact hn137_0) (.int .i64 ((rd_T43 l0_0 x74_2).f0))).trans hx137_0; replace hx137_0 := (cell_far (p := ⟨gb136, 1, none⟩) (by first | (rw [add_block]; exact hn137_1) | (show (Addr.add _ _).block ≠ _; rw [add_block]; exact hn137_1) | exact hn137_1) (.string ((rd_T43 l0_0 x74_2).f1))).trans hx137_0; replace hx137_0 := (cell_far (p := ⟨gb136, 2, none⟩) (by first | (rw [add_block]; exact hn137_2) | (show (Addr.add _ _).block ≠ _; rw [add_block]; exact hn137_2) | exact hn137_2) (.slice A135_2 ((rd_T43 l0_0 x74_2).f2).length c135_2)).trans hx137_0; replace hx137_0 := (cell_far (p := ⟨gb136, 3, none⟩) (by first | (rw [add_block]; exact hn137_3) | (show (Addr.add _ _).block ≠ _; rw [add_block]; exact hn137_3) | exact hn137_3) (.string ((rd_T43 l0_0 x74_2).f3))).trans hx137_0; replace hx137_0 := (cell_far (p := ⟨gb136, 4, none⟩) (by first | (rw [add_block]; exact hn137_4) | (show (Addr.add _ _).block ≠ _; rw [add_block]; exact hn137_4) | exact hn137_4) (.int .i64 ((rd_T43 l0_0 x74_2).f4))).trans hx137_0; replace hx137_0 := (cell_far (p := ⟨gb136, 5, none⟩) (by first | (rw [add_block]; exact hn137_5) | (show (Addr.add _ _).block ≠ _; rw [add_block]; exact hn137_5) | exact hn137_5) (.slice A135_5 ((rd_T43 l0_0 x74_2).f5).length c135_5)).trans hx137_0; clear hn137_0; clear hn137_1; clear hn137_2; clear hn137_3; clear hn137_4; clear hn137_5; replace p137 := eq_true p137; replace q137 := eq_true q137))
              go_ret
              exact ⟨er_, bl0_⟩
            ·rw [if_neg c58] at H
             exact absurd H (by simp)
          ·rw [if_neg c53] at H
           exact absurd H (by simp)
         ·rw [if_neg c52] at H
          exact absurd H (by simp)
        ·rw [if_neg c51] at H
         have c51b0 : decide (x74_2 < (l0_0.length : Int)) = false := decide_eq_false c51
         clear c51
         by_cases c69 : 0 < (l0_0.length : Int)
         ·rw [if_pos c69] at H
          have c69b0 : decide (0 < (l0_0.length : Int)) = true := decide_eq_true c69
          have c69b1 : decide (0 < l0_0.length) = true := decide_eq_true (by omega)
          clear c69
          by_cases c70 : ((rd_T43 l0_0 0).f4) = (-1)
          ·rw [if_pos c70] at H
           have c70b0 : (((rd_T43 l0_0 0).f4) == (-1)) = true := beq_iff_eq.mpr c70
           have c70b1 : (((rd_T43 l0_0 0).f4) != (-1)) = false := bne_eq_false_iff_eq.mpr c70
           clear c70
           obtain rfl := Option.some.inj H
           obtain ⟨hcz71_0, hcz71_1, hfz71_0, hfz71_1⟩ := cf2_ BK123
           have p138 : 0 ≤ (0 : Int) := (by omega)
           have q138 : 0 < (l0_0.length : Int) := of_decide_eq_true as_
           obtain ⟨ad138, A138_2, c138_2, A138_5, c138_5, e138, hx138_0, hx138_1, hx138_2, hx138_3, hx138_4, hx138_5, hl138_2, hi138_2, hl138_5, hi138_5⟩ := at_T43 HR0_0.out 0 p138 q138
           cases e138
           have qi138 : (0 < l0_0.length) = True := eq_true (by omega)
           (try rw [show ((0 : Int)).toNat = 0 from rfl] at hx138_0)
           (try rw [show 0 * 6 = 0 from rfl] at hx138_0)
           (try rw [Addr.add_zero'] at hx138_0)
           (try rw [show ((0 : Int)).toNat = 0 from rfl] at hx138_1)
           (try rw [show 0 * 6 = 0 from rfl] at hx138_1)
           (try rw [Addr.add_zero'] at hx138_1)
           (try rw [show ((0 : Int)).toNat = 0 from rfl] at hx138_2)
           (try rw [show 0 * 6 = 0 from rfl] at hx138_2)
           (try rw [Addr.add_zero'] at hx138_2)
           (try rw [show ((0 : Int)).toNat = 0 from rfl] at hx138_3)
           (try rw [show 0 * 6 = 0 from rfl] at hx138_3)
           (try rw [Addr.add_zero'] at hx138_3)
           (try rw [show ((0 : Int)).toNat = 0 from rfl] at hx138_4)
           (try rw [show 0 * 6 = 0 from rfl] at hx138_4)
           (try rw [Addr.add_zero'] at hx138_4)
           (try rw [show ((0 : Int)).toNat = 0 from rfl] at hx138_5)
           (try rw [show 0 * 6 = 0 from rfl] at hx138_5)
           (try rw [Addr.add_zero'] at hx138_5)
           replace hx138_0 := pw_cell_below HB.out hx138_0
           replace hx138_1 := pw_cell_below HB.out hx138_1
           replace hx138_2 := pw_cell_below HB.out hx138_2
           replace hx138_3 := pw_cell_below HB.out hx138_3
           replace hx138_4 := pw_cell_below HB.out hx138_4
           replace hx138_5 := pw_cell_below HB.out hx138_5
           have HR138_2 := Aside0.mk hi138_2
           have HC138_2 := Aside0.mk hl138_2
           clear hi138_2 hl138_2
           have HR138_5 := Aside0.mk hi138_5
           have HC138_5 := Aside0.mk hl138_5
           clear hi138_5 hl138_5
           replace p138 := eq_true p138
           replace q138 := eq_true q138
           go_wp2
           go_ret
           exact ⟨er_, bl0_⟩
          ·rw [if_neg c70] at H
           have c70b0 : (((rd_T43 l0_0 0).f4) == (-1)) = false := beq_eq_false_iff_ne.mpr c70
           have c70b1 : (((rd_T43 l0_0 0).f4) != (-1)) = true := bne_iff_ne.mpr c70
           obtain rfl := Option.some.inj H
           obtain ⟨hcz72_0, hcz72_1, hfz72_0, hfz72_1⟩ := cf2_ BK123
           have p138 : 0 ≤ (0 : Int) := (by omega)
           have q138 : 0 < (l0_0.length : Int) := of_decide_eq_true as_
           obtain ⟨ad138, A138_2, c138_2, A138_5, c138_5, e138, hx138_0, hx138_1, hx138_2, hx138_3, hx138_4, hx138_5, hl138_2, hi138_2, hl138_5, hi138_5⟩ := at_T43 HR0_0.out 0 p138 q138
           cases e138
           have qi138 : (0 < l0_0.length) = True := eq_true (by omega)
           (try rw [show ((0 : Int)).toNat = 0 from rfl] at hx138_0)
           (try rw [show 0 * 6 = 0 from rfl] at hx138_0)
           (try rw [Addr.add_zero'] at hx138_0)
           (try rw [show ((0 : Int)).toNat = 0 from rfl] at hx138_1)
           (try rw [show 0 * 6 = 0 from rfl] at hx138_1)
           (try rw [Addr.add_zero'] at hx138_1)
           (try rw [show ((0 : Int)).toNat = 0 from rfl] at hx138_2)
           (try rw [show 0 * 6 = 0 from rfl] at hx138_2)
           (try rw [Addr.add_zero'] at hx138_2)
           (try rw [show ((0 : Int)).toNat = 0 from rfl] at hx138_3)
           (try rw [show 0 * 6 = 0 from rfl] at hx138_3)
           (try rw [Addr.add_zero'] at hx138_3)
           (try rw [show ((0 : Int)).toNat = 0 from rfl] at hx138_4)
           (try rw [show 0 * 6 = 0 from rfl] at hx138_4)
           (try rw [Addr.add_zero'] at hx138_4)
           (try rw [show ((0 : Int)).toNat = 0 from rfl] at hx138_5)
           (try rw [show 0 * 6 = 0 from rfl] at hx138_5)
           (try rw [Addr.add_zero'] at hx138_5)
           replace hx138_0 := pw_cell_below HB.out hx138_0
           replace hx138_1 := pw_cell_below HB.out hx138_1
           replace hx138_2 := pw_cell_below HB.out hx138_2
           replace hx138_3 := pw_cell_below HB.out hx138_3
           replace hx138_4 := pw_cell_below HB.out hx138_4
           replace hx138_5 := pw_cell_below HB.out hx138_5
           have HR138_2 := Aside0.mk hi138_2
           have HC138_2 := Aside0.mk hl138_2
           clear hi138_2 hl138_2
           have HR138_5 := Aside0.mk hi138_5
           have HC138_5 := Aside0.mk hl138_5
           clear hi138_5 hl138_5
           replace p138 := eq_true p138
           replace q138 := eq_true q138
           go_wp2
           go_ret
           exact ⟨er_, bl0_⟩
         ·rw [if_neg c69] at H
          exact absurd H (by simp)
  ·rw [if_neg c3] at H
   exact absurd H (by simp)
 ·rw [if_neg c2] at H
  exact absurd H (by simp)

end Go.Proofs.YtmcinclecpeakaaGreatDoor.PRR
