-- printed by wip/tools/pr.py (own) through the kit's printer; texts GIVEN by hand stand among them
import Derived.Test.YtlgoaphdhgidoaaDoorPSYx0
namespace Go.Proofs.YtlgoaphdhgidoaaDoor.PSY
open Go.RowKit Go.Proofs.YtlgoaphdhgidoaaDoorW.PrintWords Go.Proofs.YtlgoaphdhgidoaaDoorW.PrintLast Go.Proofs.YtlgoaphdhgidoaaDoorW.PrintMore
attribute [local go_sem] max2_int min2_int max_two min_two max_three min_three max_four min_four   -- for this text's walks alone
set_option linter.unusedVariables false
set_option linter.unusedSimpArgs false

/-! ### dom_kids: function 18 -/
mutual
def dom_kids.l0 : Nat → List Bool → List (S37) → Int → Int → List (S37) → Bool → Option (Int)
  | 0, _, _, _, _, _, _ => none
  | k + 1, x3, x15, x16, x17, x138000, x138001 => if x17 < x16 then (if 0 ≤ x17 then (if x17 < (x15.length : Int) then (dom_kids.l1 k x3 x17 x15 x16 x17 ((rd_T37 x15 x17).f5) (((rd_T37 x15 x17).f5).length : Int) 0 x138000 x138001) else (none)) else (none)) else (dom_kids.l2 k x3 x138000 (x138000.length : Int) 0 x138000 x138001)
def dom_kids.l1 : Nat → List Bool → Int → List (S37) → Int → Int → List Int → Int → Int → List (S37) → Bool → Option (Int)
  | 0, _, _, _, _, _, _, _, _, _, _ => none
  | k + 1, x3, x4, x15, x16, x17, x23, x24, x25, x138000, x138001 => if x25 < x24 then (if 0 ≤ x25 then (if x25 < (x23.length : Int) then (if (rd x23 x25) < 0 then (dom_kids.j2 k x3 x4 (rd x23 x25) x15 x16 x17 x23 x24 x25 true x138000 x138001) else (if (rd x23 x25) ≥ (x3.length : Int) then (dom_kids.j2 k x3 x4 (rd x23 x25) x15 x16 x17 x23 x24 x25 true x138000 x138001) else (if 0 ≤ (rd x23 x25) then (if (rd x23 x25) < (x138000.length : Int) then (if ((rd_T37 x138000 (rd x23 x25)).f4) = x4 then (if (rd x23 x25) < (x3.length : Int) then (dom_kids.j2 k x3 x4 (rd x23 x25) x15 x16 x17 x23 x24 x25 (rdOf false x3 (rd x23 x25)) x138000 x138001) else (none)) else (dom_kids.j2 k x3 x4 (rd x23 x25) x15 x16 x17 x23 x24 x25 true x138000 x138001)) else (none)) else (none)))) else (none)) else (none)) else (dom_kids.l0 k x3 x15 x16 (wrap64 (x17 + 1)) x138000 x138001)
def dom_kids.j2 : Nat → List Bool → Int → Int → List (S37) → Int → Int → List Int → Int → Int → Bool → List (S37) → Bool → Option (Int)
  | 0, _, _, _, _, _, _, _, _, _, _, _, _ => none
  | k + 1, x3, x4, x7, x15, x16, x17, x23, x24, x25, x29, x138000, x138001 => if x29 = true then (some 3) else (if x4 = 0 then (if 0 ≤ x7 then (if x7 < (x138000.length : Int) then (if ((rd_T37 x138000 x7).f0) = 3 then (some 7) else (if x7 < (x3.length : Int) then (dom_kids.l1 k (x3.set (x7 : Int).toNat true) x4 x15 x16 x17 x23 x24 (wrap64 (x25 + 1)) x138000 x138001) else (none))) else (none)) else (none)) else (if 0 ≤ x7 then (if x7 < (x3.length : Int) then (dom_kids.l1 k (x3.set (x7 : Int).toNat true) x4 x15 x16 x17 x23 x24 (wrap64 (x25 + 1)) x138000 x138001) else (none)) else (none)))
def dom_kids.l2 : Nat → List Bool → List (S37) → Int → Int → List (S37) → Bool → Option (Int)
  | 0, _, _, _, _, _, _ => none
  | k + 1, x3, x72, x73, x74, x138000, x138001 => if x74 < x73 then (if 0 ≤ x74 then (if x74 < (x72.length : Int) then (if ((rd_T37 x72 x74).f4) = (-1) then (dom_kids.l2 k x3 x72 x73 (wrap64 (x74 + 1)) x138000 x138001) else (if x74 < (x3.length : Int) then (if rdOf false x3 x74 = true then (dom_kids.l2 k x3 x72 x73 (wrap64 (x74 + 1)) x138000 x138001) else (some 3)) else (none))) else (none)) else (none)) else (if 0 < (x138000.length : Int) then (if ((rd_T37 x138000 0).f4) = (-1) then (some 0) else (some 3)) else (none))
end
def dom_kids.f (k : Nat) (l0_0 : List (S37)) (a0_1 : Bool) : Option (Int) := if 0 ≤ (l0_0.length : Int) then (if ((l0_0.length : Int) : Int).toNat ≤ 281474976710656 then (dom_kids.l0 k (List.replicate ((l0_0.length : Int) : Int).toNat false) l0_0 (l0_0.length : Int) 0 l0_0 a0_1) else (none)) else (none)
theorem dom_kids.mono_l : ∀ k, (∀ y0 y1 y2 y3 y4 y5, LeO (dom_kids.l0 k y0 y1 y2 y3 y4 y5) (dom_kids.l0 (k + 1) y0 y1 y2 y3 y4 y5)) ∧ (∀ y0 y1 y2 y3 y4 y5 y6 y7 y8 y9, LeO (dom_kids.l1 k y0 y1 y2 y3 y4 y5 y6 y7 y8 y9) (dom_kids.l1 (k + 1) y0 y1 y2 y3 y4 y5 y6 y7 y8 y9)) ∧ (∀ y0 y1 y2 y3 y4 y5 y6 y7 y8 y9 y10 y11, LeO (dom_kids.j2 k y0 y1 y2 y3 y4 y5 y6 y7 y8 y9 y10 y11) (dom_kids.j2 (k + 1) y0 y1 y2 y3 y4 y5 y6 y7 y8 y9 y10 y11)) ∧ (∀ y0 y1 y2 y3 y4 y5, LeO (dom_kids.l2 k y0 y1 y2 y3 y4 y5) (dom_kids.l2 (k + 1) y0 y1 y2 y3 y4 y5))
  | 0 => ⟨fun _ _ _ _ _ _ r h => by simp [dom_kids.l0] at h, fun _ _ _ _ _ _ _ _ _ _ r h => by simp [dom_kids.l1] at h, fun _ _ _ _ _ _ _ _ _ _ _ _ r h => by simp [dom_kids.j2] at h, fun _ _ _ _ _ _ r h => by simp [dom_kids.l2] at h⟩
  | k + 1 => by
    obtain ⟨ih0, ih1, ih2, ih3⟩ := dom_kids.mono_l k
    refine ⟨?_, ?_, ?_, ?_⟩
    · intro y0 y1 y2 y3 y4 y5
      unfold dom_kids.l0
      repeat' first
      | (with_reducible exact ih0 _ _ _ _ _ _)
      | (with_reducible exact ih1 _ _ _ _ _ _ _ _ _ _)
      | (with_reducible exact ih2 _ _ _ _ _ _ _ _ _ _ _ _)
      | (with_reducible exact ih3 _ _ _ _ _ _)
      | (with_reducible exact LeO.refl _)
      | (with_reducible exact LeO.none _)
      | (with_reducible refine LeO.ite ?_ ?_)
      | (with_reducible refine LeO.bind ?_ (fun _ => ?_))
      | exact ih0 _ _ _ _ _ _
      | exact ih1 _ _ _ _ _ _ _ _ _ _
      | exact ih2 _ _ _ _ _ _ _ _ _ _ _ _
      | exact ih3 _ _ _ _ _ _
      | exact LeO.none _
      | refine LeO.ite ?_ ?_
      | refine LeO.bind ?_ (fun _ => ?_)
    · intro y0 y1 y2 y3 y4 y5 y6 y7 y8 y9
      unfold dom_kids.l1
      repeat' first
      | (with_reducible exact ih0 _ _ _ _ _ _)
      | (with_reducible exact ih1 _ _ _ _ _ _ _ _ _ _)
      | (with_reducible exact ih2 _ _ _ _ _ _ _ _ _ _ _ _)
      | (with_reducible exact ih3 _ _ _ _ _ _)
      | (with_reducible exact LeO.refl _)
      | (with_reducible exact LeO.none _)
      | (with_reducible refine LeO.ite ?_ ?_)
      | (with_reducible refine LeO.bind ?_ (fun _ => ?_))
      | exact ih0 _ _ _ _ _ _
      | exact ih1 _ _ _ _ _ _ _ _ _ _
      | exact ih2 _ _ _ _ _ _ _ _ _ _ _ _
      | exact ih3 _ _ _ _ _ _
      | exact LeO.none _
      | refine LeO.ite ?_ ?_
      | refine LeO.bind ?_ (fun _ => ?_)
    · intro y0 y1 y2 y3 y4 y5 y6 y7 y8 y9 y10 y11
      unfold dom_kids.j2
      repeat' first
      | (with_reducible exact ih0 _ _ _ _ _ _)
      | (with_reducible exact ih1 _ _ _ _ _ _ _ _ _ _)
      | (with_reducible exact ih2 _ _ _ _ _ _ _ _ _ _ _ _)
      | (with_reducible exact ih3 _ _ _ _ _ _)
      | (with_reducible exact LeO.refl _)
      | (with_reducible exact LeO.none _)
      | (with_reducible refine LeO.ite ?_ ?_)
      | (with_reducible refine LeO.bind ?_ (fun _ => ?_))
      | exact ih0 _ _ _ _ _ _
      | exact ih1 _ _ _ _ _ _ _ _ _ _
      | exact ih2 _ _ _ _ _ _ _ _ _ _ _ _
      | exact ih3 _ _ _ _ _ _
      | exact LeO.none _
      | refine LeO.ite ?_ ?_
      | refine LeO.bind ?_ (fun _ => ?_)
    · intro y0 y1 y2 y3 y4 y5
      unfold dom_kids.l2
      repeat' first
      | (with_reducible exact ih0 _ _ _ _ _ _)
      | (with_reducible exact ih1 _ _ _ _ _ _ _ _ _ _)
      | (with_reducible exact ih2 _ _ _ _ _ _ _ _ _ _ _ _)
      | (with_reducible exact ih3 _ _ _ _ _ _)
      | (with_reducible exact LeO.refl _)
      | (with_reducible exact LeO.none _)
      | (with_reducible refine LeO.ite ?_ ?_)
      | (with_reducible refine LeO.bind ?_ (fun _ => ?_))
      | exact ih0 _ _ _ _ _ _
      | exact ih1 _ _ _ _ _ _ _ _ _ _
      | exact ih2 _ _ _ _ _ _ _ _ _ _ _ _
      | exact ih3 _ _ _ _ _ _
      | exact LeO.none _
      | refine LeO.ite ?_ ?_
      | refine LeO.bind ?_ (fun _ => ?_)
theorem dom_kids.mono : ∀ a0 a1 k, LeO (dom_kids.f k a0 a1) (dom_kids.f (k + 1) a0 a1) := by
  intro a0 a1 k
  obtain ⟨ih0, ih1, ih2, ih3⟩ := dom_kids.mono_l k
  unfold dom_kids.f
  repeat' first
      | (with_reducible exact ih0 _ _ _ _ _ _)
      | (with_reducible exact ih1 _ _ _ _ _ _ _ _ _ _)
      | (with_reducible exact ih2 _ _ _ _ _ _ _ _ _ _ _ _)
      | (with_reducible exact ih3 _ _ _ _ _ _)
      | (with_reducible exact LeO.refl _)
      | (with_reducible exact LeO.none _)
      | (with_reducible refine LeO.ite ?_ ?_)
      | (with_reducible refine LeO.bind ?_ (fun _ => ?_))
      | exact ih0 _ _ _ _ _ _
      | exact ih1 _ _ _ _ _ _ _ _ _ _
      | exact ih2 _ _ _ _ _ _ _ _ _ _ _ _
      | exact ih3 _ _ _ _ _ _
      | exact LeO.none _
      | refine LeO.ite ?_ ?_
      | refine LeO.bind ?_ (fun _ => ?_)
set_option maxHeartbeats 8000000 in
set_option maxRecDepth 100000 in
theorem dom_kids.calls (k : Nat) (A0_0 : Option Addr) (c0_0 : Nat) (l0_0 : List (S37)) (a0_1 : Bool) (r : Int) (w : World) (hr0_0 : Kd.C k37 w A0_0 l0_0.length l0_0) (hc0_0 : l0_0.length ≤ c0_0) (h : dom_kids.f k l0_0 a0_1 = some r) :
    Calls Tryd.prog 18 #[.agg #[.slice A0_0 l0_0.length c0_0, .bool a0_1]] w fun e w' => e = .returned (.int .i64 r) ∧ Below w.heap.size w w' := by
  have hu24 := Tryd.underlying24
  have hu37 := Tryd.underlying37
  have HR0_0 := Aside0.mk hr0_0
  have HC0_0 := Aside0.mk hc0_0
  clear hr0_0 hc0_0
  have HB := Aside0.mk (Below.refl w.heap.size w)
  have H : (if 0 ≤ (l0_0.length : Int) then (if ((l0_0.length : Int) : Int).toNat ≤ 281474976710656 then (dom_kids.l0 k (List.replicate ((l0_0.length : Int) : Int).toNat false) l0_0 (l0_0.length : Int) 0 l0_0 a0_1) else (none)) else (none)) = some r := h
  clear h
  by_cases c2 : 0 ≤ (l0_0.length : Int)
  · rw [if_pos c2] at H
    have c2b0 := eq_true c2
    have c2b1 : decide (0 ≤ (l0_0.length : Int)) = true := decide_eq_true c2
    clear c2
    by_cases c3 : ((l0_0.length : Int) : Int).toNat ≤ 281474976710656
    · rw [if_pos c3] at H
      have c3b0 := eq_true c3
      have c3b1 : decide (((l0_0.length : Int) : Int).toNat ≤ 281474976710656) = true := decide_eq_true c3
      clear c3
      obtain ⟨y138, hy138⟩ : ∃ y_ : List Bool, y_ = (List.replicate ((l0_0.length : Int) : Int).toNat false) := ⟨_, rfl⟩
      replace H : (dom_kids.l0 k y138 l0_0 (l0_0.length : Int) 0 l0_0 a0_1) = some r := by first | (rw [hy138]; with_reducible exact H) | (have H2_ := (Option.bind_some _ _).symm.trans H; rw [hy138]; with_reducible exact H2_) | (have H2_ := (Option.bind_some _ _).symm.trans H; with_reducible exact H2_) | with_reducible exact H | (rw [hy138]; exact H) | exact H
      have Ny138 := Aside0.mk hy138
      clear hy138
      have H' := Aside0.mk H
      clear H
      go_enter Tryd.func18, Tryd.ntmps18
      go_wp2_with (first | ((with_reducible refine gate_dst (N := 1) rfl ?_); (try (refine gate_guard (by rfl) ?_; dsimp only)); refine box_event rf_ (N := 1) rf_ (cs := #[.slice A0_0 l0_0.length c0_0, .bool a0_1]) (t := 24) gs_ ?_; intro gb137 hg w4 hbox hb; have BK137 := Aside0.mk hbox; have GW137 := Aside0.mk (gle_ (w := w) hg bl0_); replace HB := Aside0.mk (below_step bl0_ hb); have GE137 := GW137; clear hb hbox hg; obtain ⟨hcz5_0, hcz5_1, hfz5_0, hfz5_1⟩ := cf2_ BK137) | ((with_reducible refine gate_dst (N := 13) rfl ?_); (try (refine gate_guard (by rfl) ?_; dsimp only)); refine Kd.R_make Kd.bool _ 4 rfl (N := 13) rfl 75 _ _ rfl (l0_0.length : Int) rfl rfl Tryd.underlying75 (.bool false) 1 info4 rfl (by decide) (by omega) false (ok := fun _ => True) (okp := fun _ => True) rfl (fun _ hk => hk) trivial (of_decide_eq_true as_) (Nat.le_trans (Nat.mul_le_mul_right _ (of_decide_eq_true as_ : (l0_0.length : Int).toNat ≤ 281474976710656)) (by omega)) (Below.refl _ _) (Nat.le_refl _) ?_; intro v139 w6 ho7 hb hg_ hnew_; clear hg_ hnew_; (first | rw [← Ny138.out] at ho7 | (simp only [Int.reduceToNat] at ho7; rw [← Ny138.out] at ho7)); have HO140 := Aside0.mk (Kd.R_lower ho7 (below_size bl0_)); replace BK137 := bb_ BK137 hb; replace HB := Aside0.mk (below_step bl0_ hb); clear hb ho7; obtain ⟨hcz8_0, hcz8_1, hfz8_0, hfz8_1⟩ := cf2_ BK137))
      go_loopg [17] k (fun kq v17 w' => ∃ (x3_1 : List Bool) (x17_1 : Int), v17 = .int .i64 x17_1 ∧ Aside0 (dom_kids.l0 kq x3_1 l0_0 (l0_0.length : Int) x17_1 l0_0 a0_1 = some r) ∧ Aside0 (kq ≤ k) ∧ Aside0 (Kd.R Kd.bool 4 w' w.heap.size (fun _ => True) v139 x3_1) ∧ Aside0 (w'.heap[gb137]? = some (.cells #[(.slice A0_0 l0_0.length c0_0), .bool a0_1] 24 (0, 0))) ∧ Aside0 (Below w.heap.size w w'))
      case atStart => exact ⟨(y138), (0), rs_, H', ⟨Nat.le_refl _⟩, ⟨by (with_reducible repeat (first | apply Kd.R_alloc | apply Kd.R_drewN | apply Kd.R_drew)); exact HO140.out⟩, ⟨by (with_reducible repeat (first | refine blk_drewN ?_ _ | refine blk_drew ?_ | refine blk_alloc ?_ _)); exact BK137.out⟩, ⟨bl0_⟩⟩
      case round =>
        clear H'
        try clear c2b0
        try clear c2b1
        try clear c3b0
        try clear c3b1
        try clear hcz5_0
        try clear hcz5_1
        try clear hcz8_0
        try clear hcz8_1
        try clear hfz5_0
        try clear hfz5_1
        try clear hfz8_0
        try clear hfz8_1
        obtain ⟨x3_1, x17_1, rfl, HA, HK1, HO_3, BK137, HB⟩ := hrel
        cases gk with
        | zero => exact absurd HA.out (by simp [dom_kids.l0])
        | succ k1 =>
          have H := HA.out
          clear HA
          simp only [dom_kids.l0] at H
          by_cases c9 : x17_1 < (l0_0.length : Int)
          · rw [if_pos c9] at H
            have c9b0 : decide (x17_1 < (l0_0.length : Int)) = true := decide_eq_true c9
            clear c9
            by_cases c10 : 0 ≤ x17_1
            · rw [if_pos c10] at H
              have c10b0 : decide (0 ≤ x17_1) = true := decide_eq_true c10
              clear c10
              by_cases c11 : x17_1 < (l0_0.length : Int)
              · rw [if_pos c11] at H
                have c11b0 : decide (x17_1 < (l0_0.length : Int)) = true := decide_eq_true c11
                clear c11
                have H' := Aside0.mk H
                clear H
                have p141 : 0 ≤ (x17_1 : Int) := of_decide_eq_true as_
                have q141 : x17_1 < (l0_0.length : Int) := of_decide_eq_true as_
                obtain ⟨ad141, A141_2, c141_2, A141_5, c141_5, e141, hx141_0, hx141_1, hx141_2, hx141_3, hx141_4, hx141_5, hl141_2, hi141_2, hl141_5, hi141_5⟩ := at_T37 HR0_0.out x17_1 p141 q141
                cases e141
                replace hx141_0 := pw_cell_below HB.out hx141_0
                replace hx141_1 := pw_cell_below HB.out hx141_1
                replace hx141_2 := pw_cell_below HB.out hx141_2
                replace hx141_3 := pw_cell_below HB.out hx141_3
                replace hx141_4 := pw_cell_below HB.out hx141_4
                replace hx141_5 := pw_cell_below HB.out hx141_5
                have HR141_2 := Aside0.mk hi141_2
                have HC141_2 := Aside0.mk hl141_2
                clear hi141_2 hl141_2
                have HR141_5 := Aside0.mk hi141_5
                have HC141_5 := Aside0.mk hl141_5
                clear hi141_5 hl141_5
                replace p141 := eq_true p141
                replace q141 := eq_true q141
                go_wp2_with (first | ((with_reducible refine gate_dst (N := 5) rfl ?_); (try (refine gate_guard (by rfl) ?_; dsimp only)); refine box_event rf_ (N := 5) rf_ (cs := #[.int .i64 0, .string (⟨#[]⟩ : ByteArray), .slice none 0 0, .string (⟨#[]⟩ : ByteArray), .int .i64 0, .slice none 0 0]) (t := 37) gs_ ?_; intro gb142 hg w12 hbox hb; replace HO_3 := Aside0.mk (Kd.R_below (Kd.R_below HO_3.out bu_) hb); have BK142 := Aside0.mk hbox; have GW142 := Aside0.mk (gle_ (w := w) hg bl0_); replace HB := Aside0.mk (below_step bl0_ hb); have GE142 := GW142; have NB137_142 := nl_ hg BK137; have NB142_137 := ng_ hg BK137; replace BK137 := bb_ BK137 hb; clear hb hbox hg; have hnb13 := NB142_137.out; have hnc13 := NB137_142.out; obtain ⟨hcz14_0, hcz14_1, hcz14_2, hcz14_3, hcz14_4, hcz14_5, hfz14_0, hfz14_1, hfz14_2, hfz14_3, hfz14_4, hfz14_5⟩ := cf6_ BK142))
                go_loopg [25] k1 (fun kq v25 w' => ∃ (x3_2 : List Bool) (x25_2 : Int), v25 = .int .i64 x25_2 ∧ Aside0 (dom_kids.l1 kq x3_2 x17_1 l0_0 (l0_0.length : Int) x17_1 ((rd_T37 l0_0 x17_1).f5) (((rd_T37 l0_0 x17_1).f5).length : Int) x25_2 l0_0 a0_1 = some r) ∧ Aside0 (kq ≤ k1) ∧ Aside0 (Kd.R Kd.bool 4 w' w.heap.size (fun _ => True) v139 x3_2) ∧ Aside0 (w'.heap[gb137]? = some (.cells #[(.slice (some ad141) l0_0.length c0_0), .bool a0_1] 24 (0, 0))) ∧ Aside0 (w'.heap[gb142]? = some (.cells #[.int .i64 ((rd_T37 l0_0 x17_1).f0), .string ((rd_T37 l0_0 x17_1).f1), (.slice A141_2 ((rd_T37 l0_0 x17_1).f2).length c141_2), .string ((rd_T37 l0_0 x17_1).f3), .int .i64 ((rd_T37 l0_0 x17_1).f4), (.slice A141_5 ((rd_T37 l0_0 x17_1).f5).length c141_5)] 37 (0, 0))) ∧ Aside0 (Below w.heap.size w w'))
                case atStart => exact ⟨(x3_1), (0), rs_, H', ⟨Nat.le_refl _⟩, ⟨by (with_reducible repeat (first | apply Kd.R_alloc | apply Kd.R_drewN | apply Kd.R_drew)); exact Kd.R_mono (Kd.R_far (p := ⟨gb142, 5, none⟩) (Kd.R_far (p := ⟨gb142, 4, none⟩) (Kd.R_far (p := ⟨gb142, 3, none⟩) (Kd.R_far (p := ⟨gb142, 2, none⟩) (Kd.R_far (p := ⟨gb142, 1, none⟩) (Kd.R_far (p := ⟨gb142, 0, none⟩) (Kd.R_types HO_3.out BK142.out (by decide)) (fun _ hk => hk.2) (.int .i64 ((rd_T37 l0_0 x17_1).f0))) (fun _ hk => hk.2) (.string ((rd_T37 l0_0 x17_1).f1))) (fun _ hk => hk.2) (.slice A141_2 ((rd_T37 l0_0 x17_1).f2).length c141_2)) (fun _ hk => hk.2) (.string ((rd_T37 l0_0 x17_1).f3))) (fun _ hk => hk.2) (.int .i64 ((rd_T37 l0_0 x17_1).f4))) (fun _ hk => hk.2) (.slice A141_5 ((rd_T37 l0_0 x17_1).f5).length c141_5)) (fun _ hk => trivial)⟩, ⟨by (with_reducible repeat (first | refine blk_drewN ?_ _ | refine blk_drew ?_ | refine blk_alloc ?_ _)); refine blk_far ?_ NB137_142.out _; (with_reducible repeat (first | refine blk_drewN ?_ _ | refine blk_drew ?_ | refine blk_alloc ?_ _)); refine blk_far ?_ NB137_142.out _; (with_reducible repeat (first | refine blk_drewN ?_ _ | refine blk_drew ?_ | refine blk_alloc ?_ _)); refine blk_far ?_ NB137_142.out _; (with_reducible repeat (first | refine blk_drewN ?_ _ | refine blk_drew ?_ | refine blk_alloc ?_ _)); refine blk_far ?_ NB137_142.out _; (with_reducible repeat (first | refine blk_drewN ?_ _ | refine blk_drew ?_ | refine blk_alloc ?_ _)); refine blk_far ?_ NB137_142.out _; (with_reducible repeat (first | refine blk_drewN ?_ _ | refine blk_drew ?_ | refine blk_alloc ?_ _)); refine blk_far ?_ NB137_142.out _; (with_reducible repeat (first | refine blk_drewN ?_ _ | refine blk_drew ?_ | refine blk_alloc ?_ _)); exact BK137.out⟩, ⟨by (with_reducible repeat (first | refine blk_drewN ?_ _ | refine blk_drew ?_ | refine blk_alloc ?_ _)); refine blk_put (cs := #[.int .i64 ((rd_T37 l0_0 x17_1).f0), .string ((rd_T37 l0_0 x17_1).f1), .slice A141_2 ((rd_T37 l0_0 x17_1).f2).length c141_2, .string ((rd_T37 l0_0 x17_1).f3), .int .i64 ((rd_T37 l0_0 x17_1).f4), .slice none 0 0]) ?_ 5 _ rfl; (with_reducible repeat (first | refine blk_drewN ?_ _ | refine blk_drew ?_ | refine blk_alloc ?_ _)); refine blk_put (cs := #[.int .i64 ((rd_T37 l0_0 x17_1).f0), .string ((rd_T37 l0_0 x17_1).f1), .slice A141_2 ((rd_T37 l0_0 x17_1).f2).length c141_2, .string ((rd_T37 l0_0 x17_1).f3), .int .i64 0, .slice none 0 0]) ?_ 4 _ rfl; (with_reducible repeat (first | refine blk_drewN ?_ _ | refine blk_drew ?_ | refine blk_alloc ?_ _)); refine blk_put (cs := #[.int .i64 ((rd_T37 l0_0 x17_1).f0), .string ((rd_T37 l0_0 x17_1).f1), .slice A141_2 ((rd_T37 l0_0 x17_1).f2).length c141_2, .string (⟨#[]⟩ : ByteArray), .int .i64 0, .slice none 0 0]) ?_ 3 _ rfl; (with_reducible repeat (first | refine blk_drewN ?_ _ | refine blk_drew ?_ | refine blk_alloc ?_ _)); refine blk_put (cs := #[.int .i64 ((rd_T37 l0_0 x17_1).f0), .string ((rd_T37 l0_0 x17_1).f1), .slice none 0 0, .string (⟨#[]⟩ : ByteArray), .int .i64 0, .slice none 0 0]) ?_ 2 _ rfl; (with_reducible repeat (first | refine blk_drewN ?_ _ | refine blk_drew ?_ | refine blk_alloc ?_ _)); refine blk_put (cs := #[.int .i64 ((rd_T37 l0_0 x17_1).f0), .string (⟨#[]⟩ : ByteArray), .slice none 0 0, .string (⟨#[]⟩ : ByteArray), .int .i64 0, .slice none 0 0]) ?_ 1 _ rfl; (with_reducible repeat (first | refine blk_drewN ?_ _ | refine blk_drew ?_ | refine blk_alloc ?_ _)); refine blk_put (cs := #[.int .i64 0, .string (⟨#[]⟩ : ByteArray), .slice none 0 0, .string (⟨#[]⟩ : ByteArray), .int .i64 0, .slice none 0 0]) ?_ 0 _ rfl; (with_reducible repeat (first | refine blk_drewN ?_ _ | refine blk_drew ?_ | refine blk_alloc ?_ _)); exact BK142.out⟩, ⟨bl0_⟩⟩
                case round =>
                  clear H'
                  try clear c9b0
                  try clear c10b0
                  try clear c11b0
                  try clear hcz14_0
                  try clear hcz14_1
                  try clear hcz14_2
                  try clear hcz14_3
                  try clear hcz14_4
                  try clear hcz14_5
                  try clear hfz14_0
                  try clear hfz14_1
                  try clear hfz14_2
                  try clear hfz14_3
                  try clear hfz14_4
                  try clear hfz14_5
                  try clear hx141_0
                  try clear hx141_1
                  try clear hx141_2
                  try clear hx141_3
                  try clear hx141_4
                  try clear hx141_5
                  try clear p141
                  try clear q141
                  obtain ⟨x3_2, x25_2, rfl, HA, HK2, HO_3, BK137, BK142, HB⟩ := hrel
                  cases gk with
                  | zero => exact absurd HA.out (by simp [dom_kids.l1])
                  | succ k2 =>
                    have H := HA.out
                    clear HA
                    simp only [dom_kids.l1] at H
                    by_cases c15 : x25_2 < (((rd_T37 l0_0 x17_1).f5).length : Int)
                    · rw [if_pos c15] at H
                      have c15b0 : decide (x25_2 < (((rd_T37 l0_0 x17_1).f5).length : Int)) = true := decide_eq_true c15
                      clear c15
                      by_cases c16 : 0 ≤ x25_2
                      · rw [if_pos c16] at H
                        have c16b0 : decide (0 ≤ x25_2) = true := decide_eq_true c16
                        clear c16
                        by_cases c17 : x25_2 < (((rd_T37 l0_0 x17_1).f5).length : Int)
                        · rw [if_pos c17] at H
                          have c17b0 : decide (x25_2 < (((rd_T37 l0_0 x17_1).f5).length : Int)) = true := decide_eq_true c17
                          clear c17
                          have HC18 := Aside0.mk H
                          clear H
                          have p143 : 0 ≤ (x25_2 : Int) := of_decide_eq_true as_
                          have q143 : x25_2 < (((rd_T37 l0_0 x17_1).f5).length : Int) := of_decide_eq_true as_
                          obtain ⟨ad143, e143, hx143_0⟩ := Kd.at_int HR141_5.out x25_2 p143 q143
                          cases e143
                          replace hx143_0 := pw_cell_below HB.out hx143_0
                          replace p143 := eq_true p143
                          replace q143 := eq_true q143
                          go_upto_region 8 with (fail)
                          go_cut [29] (fun v29 wc => ∃ (kq : Nat) (x29_17 : Bool), v29 = .bool x29_17 ∧ Aside0 (dom_kids.j2 kq x3_2 x17_1 (rd ((rd_T37 l0_0 x17_1).f5) x25_2) l0_0 (l0_0.length : Int) x17_1 ((rd_T37 l0_0 x17_1).f5) (((rd_T37 l0_0 x17_1).f5).length : Int) x25_2 x29_17 l0_0 a0_1 = some r) ∧ Aside0 (kq ≤ k2) ∧ Aside0 (Kd.R Kd.bool 4 wc w.heap.size (fun _ => True) v139 x3_2) ∧ Aside0 (wc.heap[gb137]? = some (.cells #[(.slice (some ad141) l0_0.length c0_0), .bool a0_1] 24 (0, 0))) ∧ Aside0 (wc.heap[gb142]? = some (.cells #[.int .i64 ((rd_T37 l0_0 x17_1).f0), .string ((rd_T37 l0_0 x17_1).f1), (.slice A141_2 ((rd_T37 l0_0 x17_1).f2).length c141_2), .string ((rd_T37 l0_0 x17_1).f3), .int .i64 ((rd_T37 l0_0 x17_1).f4), (.slice (some ad143) ((rd_T37 l0_0 x17_1).f5).length c141_5)] 37 (0, 0))) ∧ Aside0 (Below w.heap.size w wc))
                          case first =>
                            have H := HC18.out
                            clear HC18
                            by_cases c19 : (rd ((rd_T37 l0_0 x17_1).f5) x25_2) < 0
                            · rw [if_pos c19] at H
                              have c19b0 : decide ((rd ((rd_T37 l0_0 x17_1).f5) x25_2) < 0) = true := decide_eq_true c19
                              clear c19
                              (first | rw [c19b0] | (simp only [i64_w, i32_w]; rw [c19b0]) | skip)
                              have H' := Aside0.mk H
                              clear H
                              go_wp2
                              go_meet
                              case rel => exact ⟨_, (true), rs_, H', ⟨by have := HK1.out; have := HK2.out; first | omega | exact Nat.le_refl _⟩, ⟨by (with_reducible repeat (first | apply Kd.R_alloc | apply Kd.R_drewN | apply Kd.R_drew)); exact HO_3.out⟩, ⟨by (with_reducible repeat (first | refine blk_drewN ?_ _ | refine blk_drew ?_ | refine blk_alloc ?_ _)); exact BK137.out⟩, ⟨by (with_reducible repeat (first | refine blk_drewN ?_ _ | refine blk_drew ?_ | refine blk_alloc ?_ _)); exact BK142.out⟩, ⟨bl0_⟩⟩
                            · rw [if_neg c19] at H
                              have c19b0 : decide ((rd ((rd_T37 l0_0 x17_1).f5) x25_2) < 0) = false := decide_eq_false c19
                              clear c19
                              (first | rw [c19b0] | (simp only [i64_w, i32_w]; rw [c19b0]) | skip)
                              by_cases c20 : (rd ((rd_T37 l0_0 x17_1).f5) x25_2) ≥ (x3_2.length : Int)
                              · rw [if_pos c20] at H
                                have c20b0 : decide ((x3_2.length : Int) ≤ (rd ((rd_T37 l0_0 x17_1).f5) x25_2)) = true := decide_eq_true c20
                                clear c20
                                have H' := Aside0.mk H
                                clear H
                                obtain ⟨Ao21, co21, eo21⟩ := Kd.R_slice HO_3.out
                                subst eo21
                                go_wp2
                                go_meet
                                case rel => exact ⟨_, (true), rs_, H', ⟨by have := HK1.out; have := HK2.out; first | omega | exact Nat.le_refl _⟩, ⟨by (with_reducible repeat (first | apply Kd.R_alloc | apply Kd.R_drewN | apply Kd.R_drew)); exact HO_3.out⟩, ⟨by (with_reducible repeat (first | refine blk_drewN ?_ _ | refine blk_drew ?_ | refine blk_alloc ?_ _)); exact BK137.out⟩, ⟨by (with_reducible repeat (first | refine blk_drewN ?_ _ | refine blk_drew ?_ | refine blk_alloc ?_ _)); exact BK142.out⟩, ⟨bl0_⟩⟩
                              · rw [if_neg c20] at H
                                have c20b0 : decide ((x3_2.length : Int) ≤ (rd ((rd_T37 l0_0 x17_1).f5) x25_2)) = false := decide_eq_false c20
                                clear c20
                                by_cases c22 : 0 ≤ (rd ((rd_T37 l0_0 x17_1).f5) x25_2)
                                · rw [if_pos c22] at H
                                  have c22b0 : decide (0 ≤ (rd ((rd_T37 l0_0 x17_1).f5) x25_2)) = true := decide_eq_true c22
                                  clear c22
                                  by_cases c23 : (rd ((rd_T37 l0_0 x17_1).f5) x25_2) < (l0_0.length : Int)
                                  · rw [if_pos c23] at H
                                    have c23b0 : decide ((rd ((rd_T37 l0_0 x17_1).f5) x25_2) < (l0_0.length : Int)) = true := decide_eq_true c23
                                    clear c23
                                    by_cases c24 : ((rd_T37 l0_0 (rd ((rd_T37 l0_0 x17_1).f5) x25_2)).f4) = x17_1
                                    · rw [if_pos c24] at H
                                      have c24b0 : (((rd_T37 l0_0 (rd ((rd_T37 l0_0 x17_1).f5) x25_2)).f4) == x17_1) = true := beq_iff_eq.mpr c24
                                      have c24b1 : (((rd_T37 l0_0 (rd ((rd_T37 l0_0 x17_1).f5) x25_2)).f4) != x17_1) = false := bne_eq_false_iff_eq.mpr c24
                                      clear c24
                                      by_cases c25 : (rd ((rd_T37 l0_0 x17_1).f5) x25_2) < (x3_2.length : Int)
                                      · rw [if_pos c25] at H
                                        have c25b0 : decide ((rd ((rd_T37 l0_0 x17_1).f5) x25_2) < (x3_2.length : Int)) = true := decide_eq_true c25
                                        clear c25
                                        have H' := Aside0.mk H
                                        clear H
                                        obtain ⟨Ao26, co26, eo26⟩ := Kd.R_slice HO_3.out
                                        subst eo26
                                        have hnb27 := NB137_142.out
                                        have hnc27 := NB142_137.out
                                        obtain ⟨hcz28_0, hcz28_1, hfz28_0, hfz28_1⟩ := cf2_ BK137
                                        have p144 : 0 ≤ ((rd ((rd_T37 l0_0 x17_1).f5) x25_2) : Int) := of_decide_eq_true as_
                                        have q144 : (rd ((rd_T37 l0_0 x17_1).f5) x25_2) < (l0_0.length : Int) := of_decide_eq_true as_
                                        obtain ⟨ad144, A144_2, c144_2, A144_5, c144_5, e144, hx144_0, hx144_1, hx144_2, hx144_3, hx144_4, hx144_5, hl144_2, hi144_2, hl144_5, hi144_5⟩ := at_T37 HR0_0.out (rd ((rd_T37 l0_0 x17_1).f5) x25_2) p144 q144
                                        obtain rfl : ad141 = ad144 := (by injection e144)
                                        replace hx144_0 := pw_cell_below HB.out hx144_0
                                        replace hx144_1 := pw_cell_below HB.out hx144_1
                                        replace hx144_2 := pw_cell_below HB.out hx144_2
                                        replace hx144_3 := pw_cell_below HB.out hx144_3
                                        replace hx144_4 := pw_cell_below HB.out hx144_4
                                        replace hx144_5 := pw_cell_below HB.out hx144_5
                                        have HR144_2 := Aside0.mk hi144_2
                                        have HC144_2 := Aside0.mk hl144_2
                                        clear hi144_2 hl144_2
                                        have HR144_5 := Aside0.mk hi144_5
                                        have HC144_5 := Aside0.mk hl144_5
                                        clear hi144_5 hl144_5
                                        replace p144 := eq_true p144
                                        replace q144 := eq_true q144
                                        have p145 : 0 ≤ ((rd ((rd_T37 l0_0 x17_1).f5) x25_2) : Int) := of_decide_eq_true as_
                                        have q145 : (rd ((rd_T37 l0_0 x17_1).f5) x25_2) < (x3_2.length : Int) := of_decide_eq_true as_
                                        obtain ⟨ad145, e145, hx145_0⟩ := Kd.at_bool (Kd.R_reads' HO_3.out).2.2 (rd ((rd_T37 l0_0 x17_1).f5) x25_2) p145 q145
                                        cases e145
                                        replace p145 := eq_true p145
                                        replace q145 := eq_true q145
                                        go_wp2
                                        go_meet
                                        case rel => exact ⟨_, (rdOf false x3_2 (rd ((rd_T37 l0_0 x17_1).f5) x25_2)), rs_, H', ⟨by have := HK1.out; have := HK2.out; first | omega | exact Nat.le_refl _⟩, ⟨by (with_reducible repeat (first | apply Kd.R_alloc | apply Kd.R_drewN | apply Kd.R_drew)); exact HO_3.out⟩, ⟨by (with_reducible repeat (first | refine blk_drewN ?_ _ | refine blk_drew ?_ | refine blk_alloc ?_ _)); exact BK137.out⟩, ⟨by (with_reducible repeat (first | refine blk_drewN ?_ _ | refine blk_drew ?_ | refine blk_alloc ?_ _)); exact BK142.out⟩, ⟨bl0_⟩⟩
                                      · rw [if_neg c25] at H
                                        exact absurd H (by simp)
                                    · rw [if_neg c24] at H
                                      have c24b0 : (((rd_T37 l0_0 (rd ((rd_T37 l0_0 x17_1).f5) x25_2)).f4) == x17_1) = false := beq_eq_false_iff_ne.mpr c24
                                      have c24b1 : (((rd_T37 l0_0 (rd ((rd_T37 l0_0 x17_1).f5) x25_2)).f4) != x17_1) = true := bne_iff_ne.mpr c24
                                      have H' := Aside0.mk H
                                      clear H
                                      obtain ⟨Ao29, co29, eo29⟩ := Kd.R_slice HO_3.out
                                      subst eo29
                                      have hnb30 := NB137_142.out
                                      have hnc30 := NB142_137.out
                                      obtain ⟨hcz31_0, hcz31_1, hfz31_0, hfz31_1⟩ := cf2_ BK137
                                      have p144 : 0 ≤ ((rd ((rd_T37 l0_0 x17_1).f5) x25_2) : Int) := of_decide_eq_true as_
                                      have q144 : (rd ((rd_T37 l0_0 x17_1).f5) x25_2) < (l0_0.length : Int) := of_decide_eq_true as_
                                      obtain ⟨ad144, A144_2, c144_2, A144_5, c144_5, e144, hx144_0, hx144_1, hx144_2, hx144_3, hx144_4, hx144_5, hl144_2, hi144_2, hl144_5, hi144_5⟩ := at_T37 HR0_0.out (rd ((rd_T37 l0_0 x17_1).f5) x25_2) p144 q144
                                      obtain rfl : ad141 = ad144 := (by injection e144)
                                      replace hx144_0 := pw_cell_below HB.out hx144_0
                                      replace hx144_1 := pw_cell_below HB.out hx144_1
                                      replace hx144_2 := pw_cell_below HB.out hx144_2
                                      replace hx144_3 := pw_cell_below HB.out hx144_3
                                      replace hx144_4 := pw_cell_below HB.out hx144_4
                                      replace hx144_5 := pw_cell_below HB.out hx144_5
                                      have HR144_2 := Aside0.mk hi144_2
                                      have HC144_2 := Aside0.mk hl144_2
                                      clear hi144_2 hl144_2
                                      have HR144_5 := Aside0.mk hi144_5
                                      have HC144_5 := Aside0.mk hl144_5
                                      clear hi144_5 hl144_5
                                      replace p144 := eq_true p144
                                      replace q144 := eq_true q144
                                      go_wp2
                                      go_meet
                                      case rel => exact ⟨_, (true), rs_, H', ⟨by have := HK1.out; have := HK2.out; first | omega | exact Nat.le_refl _⟩, ⟨by (with_reducible repeat (first | apply Kd.R_alloc | apply Kd.R_drewN | apply Kd.R_drew)); exact HO_3.out⟩, ⟨by (with_reducible repeat (first | refine blk_drewN ?_ _ | refine blk_drew ?_ | refine blk_alloc ?_ _)); exact BK137.out⟩, ⟨by (with_reducible repeat (first | refine blk_drewN ?_ _ | refine blk_drew ?_ | refine blk_alloc ?_ _)); exact BK142.out⟩, ⟨bl0_⟩⟩
                                  · rw [if_neg c23] at H
                                    exact absurd H (by simp)
                                · rw [if_neg c22] at H
                                  exact absurd H (by simp)
                          case rest =>
                            clear HC18
                            try clear c15b0
                            try clear c16b0
                            try clear c17b0
                            try clear c19b0
                            try clear c20b0
                            try clear c22
                            try clear c22b0
                            try clear c23
                            try clear c23b0
                            try clear c24
                            try clear c24b0
                            try clear c24b1
                            try clear c25
                            try clear c25b0
                            try clear hcz28_0
                            try clear hcz28_1
                            try clear hcz31_0
                            try clear hcz31_1
                            try clear hfz28_0
                            try clear hfz28_1
                            try clear hfz31_0
                            try clear hfz31_1
                            try clear hx143_0
                            try clear hx144_0
                            try clear hx144_1
                            try clear hx144_2
                            try clear hx144_3
                            try clear hx144_4
                            try clear hx144_5
                            try clear hx145_0
                            try clear p143
                            try clear p144
                            try clear p145
                            try clear q143
                            try clear q144
                            try clear q145
                            obtain ⟨kq, x29_17, rfl, HA, HJ17, HO_3, BK137, BK142, HB⟩ := hcut
                            cases kq with
                            | zero => exact absurd HA.out (by simp [dom_kids.j2])
                            | succ kj17 =>
                              have H := HA.out
                              clear HA
                              simp only [dom_kids.j2] at H
                              by_cases c32 : x29_17 = true
                              · subst c32
                                have H1 : (some 3) = some r := by rw [if_pos rfl] at H; exact H
                                clear H
                                have H := H1
                                clear H1
                                obtain rfl := Option.some.inj H
                                go_wp2
                                go_ret
                                exact ⟨er_, bl0_⟩
                              · replace c32 := Bool.eq_false_iff.mpr c32
                                subst c32
                                have H1 : (if x17_1 = 0 then (if 0 ≤ (rd ((rd_T37 l0_0 x17_1).f5) x25_2) then (if (rd ((rd_T37 l0_0 x17_1).f5) x25_2) < (l0_0.length : Int) then (if ((rd_T37 l0_0 (rd ((rd_T37 l0_0 x17_1).f5) x25_2)).f0) = 3 then (some 7) else (if (rd ((rd_T37 l0_0 x17_1).f5) x25_2) < (x3_2.length : Int) then (dom_kids.l1 kj17 (x3_2.set ((rd ((rd_T37 l0_0 x17_1).f5) x25_2) : Int).toNat true) x17_1 l0_0 (l0_0.length : Int) x17_1 ((rd_T37 l0_0 x17_1).f5) (((rd_T37 l0_0 x17_1).f5).length : Int) (wrap64 (x25_2 + 1)) l0_0 a0_1) else (none))) else (none)) else (none)) else (if 0 ≤ (rd ((rd_T37 l0_0 x17_1).f5) x25_2) then (if (rd ((rd_T37 l0_0 x17_1).f5) x25_2) < (x3_2.length : Int) then (dom_kids.l1 kj17 (x3_2.set ((rd ((rd_T37 l0_0 x17_1).f5) x25_2) : Int).toNat true) x17_1 l0_0 (l0_0.length : Int) x17_1 ((rd_T37 l0_0 x17_1).f5) (((rd_T37 l0_0 x17_1).f5).length : Int) (wrap64 (x25_2 + 1)) l0_0 a0_1) else (none)) else (none))) = some r := by rw [if_neg (show ¬ (false = true) by decide)] at H; exact H
                                clear H
                                have H := H1
                                clear H1
                                by_cases c33 : x17_1 = 0
                                · rw [if_pos c33] at H
                                  have c33b0 : (x17_1 == 0) = true := beq_iff_eq.mpr c33
                                  have c33b1 : (x17_1 != 0) = false := bne_eq_false_iff_eq.mpr c33
                                  clear c33
                                  by_cases c34 : 0 ≤ (rd ((rd_T37 l0_0 x17_1).f5) x25_2)
                                  · rw [if_pos c34] at H
                                    have c34b0 : decide (0 ≤ (rd ((rd_T37 l0_0 x17_1).f5) x25_2)) = true := decide_eq_true c34
                                    clear c34
                                    by_cases c35 : (rd ((rd_T37 l0_0 x17_1).f5) x25_2) < (l0_0.length : Int)
                                    · rw [if_pos c35] at H
                                      have c35b0 : decide ((rd ((rd_T37 l0_0 x17_1).f5) x25_2) < (l0_0.length : Int)) = true := decide_eq_true c35
                                      clear c35
                                      by_cases c36 : ((rd_T37 l0_0 (rd ((rd_T37 l0_0 x17_1).f5) x25_2)).f0) = 3
                                      · rw [if_pos c36] at H
                                        have c36b0 : (((rd_T37 l0_0 (rd ((rd_T37 l0_0 x17_1).f5) x25_2)).f0) == 3) = true := beq_iff_eq.mpr c36
                                        have c36b1 : (((rd_T37 l0_0 (rd ((rd_T37 l0_0 x17_1).f5) x25_2)).f0) != 3) = false := bne_eq_false_iff_eq.mpr c36
                                        clear c36
                                        obtain rfl := Option.some.inj H
                                        have hnb37 := NB137_142.out
                                        have hnc37 := NB142_137.out
                                        obtain ⟨hcz38_0, hcz38_1, hfz38_0, hfz38_1⟩ := cf2_ BK137
                                        have p146 : 0 ≤ ((rd ((rd_T37 l0_0 x17_1).f5) x25_2) : Int) := of_decide_eq_true as_
                                        have q146 : (rd ((rd_T37 l0_0 x17_1).f5) x25_2) < (l0_0.length : Int) := of_decide_eq_true as_
                                        obtain ⟨ad146, A146_2, c146_2, A146_5, c146_5, e146, hx146_0, hx146_1, hx146_2, hx146_3, hx146_4, hx146_5, hl146_2, hi146_2, hl146_5, hi146_5⟩ := at_T37 HR0_0.out (rd ((rd_T37 l0_0 x17_1).f5) x25_2) p146 q146
                                        obtain rfl : ad141 = ad146 := (by injection e146)
                                        replace hx146_0 := pw_cell_below HB.out hx146_0
                                        replace hx146_1 := pw_cell_below HB.out hx146_1
                                        replace hx146_2 := pw_cell_below HB.out hx146_2
                                        replace hx146_3 := pw_cell_below HB.out hx146_3
                                        replace hx146_4 := pw_cell_below HB.out hx146_4
                                        replace hx146_5 := pw_cell_below HB.out hx146_5
                                        have HR146_2 := Aside0.mk hi146_2
                                        have HC146_2 := Aside0.mk hl146_2
                                        clear hi146_2 hl146_2
                                        have HR146_5 := Aside0.mk hi146_5
                                        have HC146_5 := Aside0.mk hl146_5
                                        clear hi146_5 hl146_5
                                        replace p146 := eq_true p146
                                        replace q146 := eq_true q146
                                        go_wp2
                                        go_ret
                                        exact ⟨er_, bl0_⟩
                                      · rw [if_neg c36] at H
                                        have c36b0 : (((rd_T37 l0_0 (rd ((rd_T37 l0_0 x17_1).f5) x25_2)).f0) == 3) = false := beq_eq_false_iff_ne.mpr c36
                                        have c36b1 : (((rd_T37 l0_0 (rd ((rd_T37 l0_0 x17_1).f5) x25_2)).f0) != 3) = true := bne_iff_ne.mpr c36
                                        by_cases c39 : (rd ((rd_T37 l0_0 x17_1).f5) x25_2) < (x3_2.length : Int)
                                        · rw [if_pos c39] at H
                                          have c39b0 : decide ((rd ((rd_T37 l0_0 x17_1).f5) x25_2) < (x3_2.length : Int)) = true := decide_eq_true c39
                                          clear c39
                                          obtain ⟨y147, hy147⟩ : ∃ y_ : List Bool, y_ = (x3_2.set ((rd ((rd_T37 l0_0 x17_1).f5) x25_2) : Int).toNat true) := ⟨_, rfl⟩
                                          replace H : (dom_kids.l1 kj17 y147 x17_1 l0_0 (l0_0.length : Int) x17_1 ((rd_T37 l0_0 x17_1).f5) (((rd_T37 l0_0 x17_1).f5).length : Int) (wrap64 (x25_2 + 1)) l0_0 a0_1) = some r := by first | (rw [hy147]; with_reducible exact H) | (have H2_ := (Option.bind_some _ _).symm.trans H; rw [hy147]; with_reducible exact H2_) | (have H2_ := (Option.bind_some _ _).symm.trans H; with_reducible exact H2_) | with_reducible exact H | (rw [hy147]; exact H) | exact H
                                          have Ny147 := Aside0.mk hy147
                                          clear hy147
                                          have H' := Aside0.mk H
                                          clear H
                                          have hnb41 := NB137_142.out
                                          have hnc41 := NB142_137.out
                                          obtain ⟨hcz42_0, hcz42_1, hfz42_0, hfz42_1⟩ := cf2_ BK137
                                          have p146 : 0 ≤ ((rd ((rd_T37 l0_0 x17_1).f5) x25_2) : Int) := of_decide_eq_true as_
                                          have q146 : (rd ((rd_T37 l0_0 x17_1).f5) x25_2) < (l0_0.length : Int) := of_decide_eq_true as_
                                          obtain ⟨ad146, A146_2, c146_2, A146_5, c146_5, e146, hx146_0, hx146_1, hx146_2, hx146_3, hx146_4, hx146_5, hl146_2, hi146_2, hl146_5, hi146_5⟩ := at_T37 HR0_0.out (rd ((rd_T37 l0_0 x17_1).f5) x25_2) p146 q146
                                          obtain rfl : ad141 = ad146 := (by injection e146)
                                          replace hx146_0 := pw_cell_below HB.out hx146_0
                                          replace hx146_1 := pw_cell_below HB.out hx146_1
                                          replace hx146_2 := pw_cell_below HB.out hx146_2
                                          replace hx146_3 := pw_cell_below HB.out hx146_3
                                          replace hx146_4 := pw_cell_below HB.out hx146_4
                                          replace hx146_5 := pw_cell_below HB.out hx146_5
                                          have HR146_2 := Aside0.mk hi146_2
                                          have HC146_2 := Aside0.mk hl146_2
                                          clear hi146_2 hl146_2
                                          have HR146_5 := Aside0.mk hi146_5
                                          have HC146_5 := Aside0.mk hl146_5
                                          clear hi146_5 hl146_5
                                          replace p146 := eq_true p146
                                          replace q146 := eq_true q146
                                          have p40 : 0 ≤ ((rd ((rd_T37 l0_0 x17_1).f5) x25_2) : Int) := of_decide_eq_true as_
                                          have q40 : ((rd ((rd_T37 l0_0 x17_1).f5) x25_2) : Int) < ((x3_2.length : Int) : Int) := of_decide_eq_true as_
                                          obtain ⟨go40, co40, eo40, gb40, gl40, cl40, HG40⟩ := Kd.R_form HO_3.out (by omega)
                                          (first | cases eo40 | (injection eo40 with ea_ en_ ec_; (first | subst ea_ | (injection ea_ with ea_; subst ea_)); subst ec_; clear en_))
                                          have GB40 := Aside0.mk gb40
                                          have GG40 := Aside0.mk HG40
                                          clear gb40 gl40 HG40
                                          obtain ⟨hx40_0, hf40_0⟩ := Kd.R_celln false HO_3.out ((rd ((rd_T37 l0_0 x17_1).f5) x25_2) : Int) p40 q40
                                          replace p40 := eq_true p40
                                          replace q40 := eq_true q40
                                          have HP43 := Kd.R_putg HO_3.out ((rd ((rd_T37 l0_0 x17_1).f5) x25_2) : Int) true
                                          go_wp2_with (first | ((with_reducible refine gate_store (t := 4) (p := 68) rfl ?_); refine store_event (t := 4) (p := 68) (v := ?vo_w44) (w1 := (wc.setCell ⟨go40, ((rd ((rd_T37 l0_0 x17_1).f5) x25_2) : Int).toNat, none⟩ (.bool true))) ?hg ?ho ?hn ?hr ?_; (case ho => rfl); (case hg => rfl); (case hn => rfl); (case hr => first | (go_simp; done) | (go_simp; rfl)); intro w44 hw; have hg : wc.grownBy w44 (some go40) := (by rw [hw]; exact HP43.2); have hp_ : Kd.R Kd.bool 4 w44 w.heap.size (fun _ => True) (.slice (some ⟨go40, 0, none⟩) x3_2.length co40) y147 := (by rw [hw, Ny147.out]; exact HP43.1); clear HP43; replace BK137 := Aside0.mk (blk_grown (g := gb137) (o := .cells #[.slice (some ad141) l0_0.length c0_0, .bool a0_1] 24 (0, 0)) (bq_ BK137.out) hg (Kd.R_ne HO_3.out BK137.out (by decide))); replace BK142 := Aside0.mk (blk_grown (g := gb142) (o := .cells #[.int .i64 ((rd_T37 l0_0 x17_1).f0), .string ((rd_T37 l0_0 x17_1).f1), .slice A141_2 ((rd_T37 l0_0 x17_1).f2).length c141_2, .string ((rd_T37 l0_0 x17_1).f3), .int .i64 ((rd_T37 l0_0 x17_1).f4), .slice (some ad143) ((rd_T37 l0_0 x17_1).f5).length c141_5] 37 (0, 0)) (bq_ BK142.out) hg (Kd.R_ne HO_3.out BK142.out (by decide))); replace HO_3 := Aside0.mk hp_; replace HB := Aside0.mk ((by rw [hw]; exact below_set (HB.out) GB40.out : Below w.heap.size w w44)); clear hg hw hp_))
                                          go_roundg kj17
                                          case measure => have := HK1.out; have := HK2.out; have := HJ17.out; omega
                                          case rel => exact ⟨(y147), (wrap64 (x25_2 + 1)), rs_, H', ⟨by have := HK1.out; have := HK2.out; have := HJ17.out; omega⟩, ⟨by (with_reducible repeat (first | apply Kd.R_alloc | apply Kd.R_drewN | apply Kd.R_drew)); exact HO_3.out⟩, ⟨by (with_reducible repeat (first | refine blk_drewN ?_ _ | refine blk_drew ?_ | refine blk_alloc ?_ _)); exact BK137.out⟩, ⟨by (with_reducible repeat (first | refine blk_drewN ?_ _ | refine blk_drew ?_ | refine blk_alloc ?_ _)); exact BK142.out⟩, ⟨bl0_⟩⟩
                                        · rw [if_neg c39] at H
                                          exact absurd H (by simp)
                                    · rw [if_neg c35] at H
                                      exact absurd H (by simp)
                                  · rw [if_neg c34] at H
                                    exact absurd H (by simp)
                                · rw [if_neg c33] at H
                                  have c33b0 : (x17_1 == 0) = false := beq_eq_false_iff_ne.mpr c33
                                  have c33b1 : (x17_1 != 0) = true := bne_iff_ne.mpr c33
                                  by_cases c45 : 0 ≤ (rd ((rd_T37 l0_0 x17_1).f5) x25_2)
                                  · rw [if_pos c45] at H
                                    have c45b0 : decide (0 ≤ (rd ((rd_T37 l0_0 x17_1).f5) x25_2)) = true := decide_eq_true c45
                                    clear c45
                                    by_cases c46 : (rd ((rd_T37 l0_0 x17_1).f5) x25_2) < (x3_2.length : Int)
                                    · rw [if_pos c46] at H
                                      have c46b0 : decide ((rd ((rd_T37 l0_0 x17_1).f5) x25_2) < (x3_2.length : Int)) = true := decide_eq_true c46
                                      clear c46
                                      obtain ⟨y148, hy148⟩ : ∃ y_ : List Bool, y_ = (x3_2.set ((rd ((rd_T37 l0_0 x17_1).f5) x25_2) : Int).toNat true) := ⟨_, rfl⟩
                                      replace H : (dom_kids.l1 kj17 y148 x17_1 l0_0 (l0_0.length : Int) x17_1 ((rd_T37 l0_0 x17_1).f5) (((rd_T37 l0_0 x17_1).f5).length : Int) (wrap64 (x25_2 + 1)) l0_0 a0_1) = some r := by first | (rw [hy148]; with_reducible exact H) | (have H2_ := (Option.bind_some _ _).symm.trans H; rw [hy148]; with_reducible exact H2_) | (have H2_ := (Option.bind_some _ _).symm.trans H; with_reducible exact H2_) | with_reducible exact H | (rw [hy148]; exact H) | exact H
                                      have Ny148 := Aside0.mk hy148
                                      clear hy148
                                      have H' := Aside0.mk H
                                      clear H
                                      have p47 : 0 ≤ ((rd ((rd_T37 l0_0 x17_1).f5) x25_2) : Int) := of_decide_eq_true as_
                                      have q47 : ((rd ((rd_T37 l0_0 x17_1).f5) x25_2) : Int) < ((x3_2.length : Int) : Int) := of_decide_eq_true as_
                                      obtain ⟨go47, co47, eo47, gb47, gl47, cl47, HG47⟩ := Kd.R_form HO_3.out (by omega)
                                      (first | cases eo47 | (injection eo47 with ea_ en_ ec_; (first | subst ea_ | (injection ea_ with ea_; subst ea_)); subst ec_; clear en_))
                                      have GB47 := Aside0.mk gb47
                                      have GG47 := Aside0.mk HG47
                                      clear gb47 gl47 HG47
                                      obtain ⟨hx47_0, hf47_0⟩ := Kd.R_celln false HO_3.out ((rd ((rd_T37 l0_0 x17_1).f5) x25_2) : Int) p47 q47
                                      replace p47 := eq_true p47
                                      replace q47 := eq_true q47
                                      have HP48 := Kd.R_putg HO_3.out ((rd ((rd_T37 l0_0 x17_1).f5) x25_2) : Int) true
                                      go_wp2_with (first | ((with_reducible refine gate_store (t := 4) (p := 68) rfl ?_); refine store_event (t := 4) (p := 68) (v := ?vo_w49) (w1 := (wc.setCell ⟨go47, ((rd ((rd_T37 l0_0 x17_1).f5) x25_2) : Int).toNat, none⟩ (.bool true))) ?hg ?ho ?hn ?hr ?_; (case ho => rfl); (case hg => rfl); (case hn => rfl); (case hr => first | (go_simp; done) | (go_simp; rfl)); intro w49 hw; have hg : wc.grownBy w49 (some go47) := (by rw [hw]; exact HP48.2); have hp_ : Kd.R Kd.bool 4 w49 w.heap.size (fun _ => True) (.slice (some ⟨go47, 0, none⟩) x3_2.length co47) y148 := (by rw [hw, Ny148.out]; exact HP48.1); clear HP48; replace BK137 := Aside0.mk (blk_grown (g := gb137) (o := .cells #[.slice (some ad141) l0_0.length c0_0, .bool a0_1] 24 (0, 0)) (bq_ BK137.out) hg (Kd.R_ne HO_3.out BK137.out (by decide))); replace BK142 := Aside0.mk (blk_grown (g := gb142) (o := .cells #[.int .i64 ((rd_T37 l0_0 x17_1).f0), .string ((rd_T37 l0_0 x17_1).f1), .slice A141_2 ((rd_T37 l0_0 x17_1).f2).length c141_2, .string ((rd_T37 l0_0 x17_1).f3), .int .i64 ((rd_T37 l0_0 x17_1).f4), .slice (some ad143) ((rd_T37 l0_0 x17_1).f5).length c141_5] 37 (0, 0)) (bq_ BK142.out) hg (Kd.R_ne HO_3.out BK142.out (by decide))); replace HO_3 := Aside0.mk hp_; replace HB := Aside0.mk ((by rw [hw]; exact below_set (HB.out) GB47.out : Below w.heap.size w w49)); clear hg hw hp_))
                                      go_roundg kj17
                                      case measure => have := HK1.out; have := HK2.out; have := HJ17.out; omega
                                      case rel => exact ⟨(y148), (wrap64 (x25_2 + 1)), rs_, H', ⟨by have := HK1.out; have := HK2.out; have := HJ17.out; omega⟩, ⟨by (with_reducible repeat (first | apply Kd.R_alloc | apply Kd.R_drewN | apply Kd.R_drew)); exact HO_3.out⟩, ⟨by (with_reducible repeat (first | refine blk_drewN ?_ _ | refine blk_drew ?_ | refine blk_alloc ?_ _)); exact BK137.out⟩, ⟨by (with_reducible repeat (first | refine blk_drewN ?_ _ | refine blk_drew ?_ | refine blk_alloc ?_ _)); exact BK142.out⟩, ⟨bl0_⟩⟩
                                    · rw [if_neg c46] at H
                                      exact absurd H (by simp)
                                  · rw [if_neg c45] at H
                                    exact absurd H (by simp)
                        · rw [if_neg c17] at H
                          exact absurd H (by simp)
                      · rw [if_neg c16] at H
                        exact absurd H (by simp)
                    · rw [if_neg c15] at H
                      have c15b0 : decide (x25_2 < (((rd_T37 l0_0 x17_1).f5).length : Int)) = false := decide_eq_false c15
                      clear c15
                      have H' := Aside0.mk H
                      clear H
                      go_wp2
                      go_roundg k2
                      case measure => have := HK1.out; have := HK2.out; omega
                      case rel => exact ⟨(x3_2), (wrap64 (x17_1 + 1)), rs_, H', ⟨by have := HK1.out; have := HK2.out; omega⟩, ⟨by (with_reducible repeat (first | apply Kd.R_alloc | apply Kd.R_drewN | apply Kd.R_drew)); exact HO_3.out⟩, ⟨by (with_reducible repeat (first | refine blk_drewN ?_ _ | refine blk_drew ?_ | refine blk_alloc ?_ _)); exact BK137.out⟩, ⟨bl0_⟩⟩
              · rw [if_neg c11] at H
                exact absurd H (by simp)
            · rw [if_neg c10] at H
              exact absurd H (by simp)
          · rw [if_neg c9] at H
            have c9b0 : decide (x17_1 < (l0_0.length : Int)) = false := decide_eq_false c9
            clear c9
            have H' := Aside0.mk H
            clear H
            obtain ⟨hcz50_0, hcz50_1, hfz50_0, hfz50_1⟩ := cf2_ BK137
            go_wp2
            go_loopg [74] k1 (fun kq v74 w' => ∃ (x74_2 : Int), v74 = .int .i64 x74_2 ∧ Aside0 (dom_kids.l2 kq x3_1 l0_0 (l0_0.length : Int) x74_2 l0_0 a0_1 = some r) ∧ Aside0 (kq ≤ k1) ∧ Aside0 (Kd.R Kd.bool 4 w' w.heap.size (fun _ => True) v139 x3_1) ∧ Aside0 (w'.heap[gb137]? = some (.cells #[(.slice A0_0 l0_0.length c0_0), .bool a0_1] 24 (0, 0))) ∧ Aside0 (Below w.heap.size w w'))
            case atStart => exact ⟨(0), rs_, H', ⟨Nat.le_refl _⟩, ⟨by (with_reducible repeat (first | apply Kd.R_alloc | apply Kd.R_drewN | apply Kd.R_drew)); exact HO_3.out⟩, ⟨by (with_reducible repeat (first | refine blk_drewN ?_ _ | refine blk_drew ?_ | refine blk_alloc ?_ _)); exact BK137.out⟩, ⟨bl0_⟩⟩
            case round =>
              clear H'
              try clear c9b0
              try clear c10
              try clear c11
              try clear c15b0
              try clear c16
              try clear c17
              try clear c32
              try clear c33
              try clear c33b0
              try clear c33b1
              try clear c34
              try clear c34b0
              try clear c35
              try clear c35b0
              try clear c36
              try clear c36b0
              try clear c36b1
              try clear c39
              try clear c39b0
              try clear p40
              try clear q40
              try clear c45
              try clear c45b0
              try clear c46
              try clear c46b0
              try clear p47
              try clear q47
              try clear hcz38_0
              try clear hcz38_1
              try clear hcz42_0
              try clear hcz42_1
              try clear hcz50_0
              try clear hcz50_1
              try clear hfz38_0
              try clear hfz38_1
              try clear hfz42_0
              try clear hfz42_1
              try clear hfz50_0
              try clear hfz50_1
              try clear hx146_0
              try clear hx146_1
              try clear hx146_2
              try clear hx146_3
              try clear hx146_4
              try clear hx146_5
              try clear hx40_0
              try clear hx47_0
              try clear p146
              try clear q146
              obtain ⟨x74_2, rfl, HA, HK2, HO_3, BK137, HB⟩ := hrel
              cases gk with
              | zero => exact absurd HA.out (by simp [dom_kids.l2])
              | succ k2 =>
                have H := HA.out
                clear HA
                simp only [dom_kids.l2] at H
                by_cases c51 : x74_2 < (l0_0.length : Int)
                · rw [if_pos c51] at H
                  have c51b0 : decide (x74_2 < (l0_0.length : Int)) = true := decide_eq_true c51
                  clear c51
                  by_cases c52 : 0 ≤ x74_2
                  · rw [if_pos c52] at H
                    have c52b0 : decide (0 ≤ x74_2) = true := decide_eq_true c52
                    clear c52
                    by_cases c53 : x74_2 < (l0_0.length : Int)
                    · rw [if_pos c53] at H
                      have c53b0 : decide (x74_2 < (l0_0.length : Int)) = true := decide_eq_true c53
                      clear c53
                      by_cases c54 : ((rd_T37 l0_0 x74_2).f4) = (-1)
                      · rw [if_pos c54] at H
                        have c54b0 : (((rd_T37 l0_0 x74_2).f4) == (-1)) = true := beq_iff_eq.mpr c54
                        have c54b1 : (((rd_T37 l0_0 x74_2).f4) != (-1)) = false := bne_eq_false_iff_eq.mpr c54
                        clear c54
                        have H' := Aside0.mk H
                        clear H
                        have p149 : 0 ≤ (x74_2 : Int) := of_decide_eq_true as_
                        have q149 : x74_2 < (l0_0.length : Int) := of_decide_eq_true as_
                        obtain ⟨ad149, A149_2, c149_2, A149_5, c149_5, e149, hx149_0, hx149_1, hx149_2, hx149_3, hx149_4, hx149_5, hl149_2, hi149_2, hl149_5, hi149_5⟩ := at_T37 HR0_0.out x74_2 p149 q149
                        cases e149
                        replace hx149_0 := pw_cell_below HB.out hx149_0
                        replace hx149_1 := pw_cell_below HB.out hx149_1
                        replace hx149_2 := pw_cell_below HB.out hx149_2
                        replace hx149_3 := pw_cell_below HB.out hx149_3
                        replace hx149_4 := pw_cell_below HB.out hx149_4
                        replace hx149_5 := pw_cell_below HB.out hx149_5
                        have HR149_2 := Aside0.mk hi149_2
                        have HC149_2 := Aside0.mk hl149_2
                        clear hi149_2 hl149_2
                        have HR149_5 := Aside0.mk hi149_5
                        have HC149_5 := Aside0.mk hl149_5
                        clear hi149_5 hl149_5
                        replace p149 := eq_true p149
                        replace q149 := eq_true q149
                        go_wp2_with (first | ((with_reducible refine gate_dst (N := 9) rfl ?_); (try (refine gate_guard (by rfl) ?_; dsimp only)); refine box_event rf_ (N := 9) rf_ (cs := #[.int .i64 0, .string (⟨#[]⟩ : ByteArray), .slice none 0 0, .string (⟨#[]⟩ : ByteArray), .int .i64 0, .slice none 0 0]) (t := 37) gs_ ?_; intro gb150 hg w55 hbox hb; replace HO_3 := Aside0.mk (Kd.R_below (Kd.R_below HO_3.out bu_) hb); have BK150 := Aside0.mk hbox; have GW150 := Aside0.mk (gle_ (w := w) hg bl0_); replace HB := Aside0.mk (below_step bl0_ hb); have GE150 := GW150; have NB137_150 := nl_ hg BK137; have NB150_137 := ng_ hg BK137; replace BK137 := bb_ BK137 hb; clear hb hbox hg; have hnb56 := NB150_137.out; have hnc56 := NB137_150.out; obtain ⟨hcz57_0, hcz57_1, hcz57_2, hcz57_3, hcz57_4, hcz57_5, hfz57_0, hfz57_1, hfz57_2, hfz57_3, hfz57_4, hfz57_5⟩ := cf6_ BK150))
                        go_roundg k2
                        case measure => have := HK1.out; have := HK2.out; omega
                        case rel => exact ⟨(wrap64 (x74_2 + 1)), rs_, H', ⟨by have := HK1.out; have := HK2.out; omega⟩, ⟨by (with_reducible repeat (first | apply Kd.R_alloc | apply Kd.R_drewN | apply Kd.R_drew)); exact Kd.R_mono (Kd.R_far (p := ⟨gb150, 5, none⟩) (Kd.R_far (p := ⟨gb150, 4, none⟩) (Kd.R_far (p := ⟨gb150, 3, none⟩) (Kd.R_far (p := ⟨gb150, 2, none⟩) (Kd.R_far (p := ⟨gb150, 1, none⟩) (Kd.R_far (p := ⟨gb150, 0, none⟩) (Kd.R_types HO_3.out BK150.out (by decide)) (fun _ hk => hk.2) (.int .i64 ((rd_T37 l0_0 x74_2).f0))) (fun _ hk => hk.2) (.string ((rd_T37 l0_0 x74_2).f1))) (fun _ hk => hk.2) (.slice A149_2 ((rd_T37 l0_0 x74_2).f2).length c149_2)) (fun _ hk => hk.2) (.string ((rd_T37 l0_0 x74_2).f3))) (fun _ hk => hk.2) (.int .i64 ((rd_T37 l0_0 x74_2).f4))) (fun _ hk => hk.2) (.slice A149_5 ((rd_T37 l0_0 x74_2).f5).length c149_5)) (fun _ hk => trivial)⟩, ⟨by (with_reducible repeat (first | refine blk_drewN ?_ _ | refine blk_drew ?_ | refine blk_alloc ?_ _)); refine blk_far ?_ NB137_150.out _; (with_reducible repeat (first | refine blk_drewN ?_ _ | refine blk_drew ?_ | refine blk_alloc ?_ _)); refine blk_far ?_ NB137_150.out _; (with_reducible repeat (first | refine blk_drewN ?_ _ | refine blk_drew ?_ | refine blk_alloc ?_ _)); refine blk_far ?_ NB137_150.out _; (with_reducible repeat (first | refine blk_drewN ?_ _ | refine blk_drew ?_ | refine blk_alloc ?_ _)); refine blk_far ?_ NB137_150.out _; (with_reducible repeat (first | refine blk_drewN ?_ _ | refine blk_drew ?_ | refine blk_alloc ?_ _)); refine blk_far ?_ NB137_150.out _; (with_reducible repeat (first | refine blk_drewN ?_ _ | refine blk_drew ?_ | refine blk_alloc ?_ _)); refine blk_far ?_ NB137_150.out _; (with_reducible repeat (first | refine blk_drewN ?_ _ | refine blk_drew ?_ | refine blk_alloc ?_ _)); exact BK137.out⟩, ⟨bl0_⟩⟩
                      · rw [if_neg c54] at H
                        have c54b0 : (((rd_T37 l0_0 x74_2).f4) == (-1)) = false := beq_eq_false_iff_ne.mpr c54
                        have c54b1 : (((rd_T37 l0_0 x74_2).f4) != (-1)) = true := bne_iff_ne.mpr c54
                        by_cases c58 : x74_2 < (x3_1.length : Int)
                        · rw [if_pos c58] at H
                          have c58b0 : decide (x74_2 < (x3_1.length : Int)) = true := decide_eq_true c58
                          clear c58
                          obtain ⟨bq59, hbq59⟩ : ∃ b_ : Bool, b_ = (rdOf false x3_1 x74_2) := ⟨_, rfl⟩
                          replace H : (if bq59 = true then (dom_kids.l2 k2 x3_1 l0_0 (l0_0.length : Int) (wrap64 (x74_2 + 1)) l0_0 a0_1) else (some 3)) = some r := by rw [← hbq59] at H; exact H
                          have Nbq59 := Aside0.mk hbq59
                          clear hbq59
                          by_cases c60 : bq59 = true
                          · subst c60
                            have H1 : (dom_kids.l2 k2 x3_1 l0_0 (l0_0.length : Int) (wrap64 (x74_2 + 1)) l0_0 a0_1) = some r := by rw [if_pos rfl] at H; exact H
                            clear H
                            have H := H1
                            clear H1
                            have H' := Aside0.mk H
                            clear H
                            have p149 : 0 ≤ (x74_2 : Int) := of_decide_eq_true as_
                            have q149 : x74_2 < (l0_0.length : Int) := of_decide_eq_true as_
                            obtain ⟨ad149, A149_2, c149_2, A149_5, c149_5, e149, hx149_0, hx149_1, hx149_2, hx149_3, hx149_4, hx149_5, hl149_2, hi149_2, hl149_5, hi149_5⟩ := at_T37 HR0_0.out x74_2 p149 q149
                            cases e149
                            replace hx149_0 := pw_cell_below HB.out hx149_0
                            replace hx149_1 := pw_cell_below HB.out hx149_1
                            replace hx149_2 := pw_cell_below HB.out hx149_2
                            replace hx149_3 := pw_cell_below HB.out hx149_3
                            replace hx149_4 := pw_cell_below HB.out hx149_4
                            replace hx149_5 := pw_cell_below HB.out hx149_5
                            have HR149_2 := Aside0.mk hi149_2
                            have HC149_2 := Aside0.mk hl149_2
                            clear hi149_2 hl149_2
                            have HR149_5 := Aside0.mk hi149_5
                            have HC149_5 := Aside0.mk hl149_5
                            clear hi149_5 hl149_5
                            replace p149 := eq_true p149
                            replace q149 := eq_true q149
                            go_wp2_with (first | ((with_reducible refine gate_dst (N := 9) rfl ?_); (try (refine gate_guard (by rfl) ?_; dsimp only)); refine box_event rf_ (N := 9) rf_ (cs := #[.int .i64 0, .string (⟨#[]⟩ : ByteArray), .slice none 0 0, .string (⟨#[]⟩ : ByteArray), .int .i64 0, .slice none 0 0]) (t := 37) gs_ ?_; intro gb150 hg w61 hbox hb; replace HO_3 := Aside0.mk (Kd.R_below (Kd.R_below HO_3.out bu_) hb); have BK150 := Aside0.mk hbox; have GW150 := Aside0.mk (gle_ (w := w) hg bl0_); replace HB := Aside0.mk (below_step bl0_ hb); have GE150 := GW150; have NB137_150 := nl_ hg BK137; have NB150_137 := ng_ hg BK137; replace BK137 := bb_ BK137 hb; clear hb hbox hg; have hnb62 := NB150_137.out; have hnc62 := NB137_150.out; obtain ⟨hcz63_0, hcz63_1, hcz63_2, hcz63_3, hcz63_4, hcz63_5, hfz63_0, hfz63_1, hfz63_2, hfz63_3, hfz63_4, hfz63_5⟩ := cf6_ BK150; obtain ⟨Ao64, co64, eo64⟩ := Kd.R_slice HO_3.out; subst eo64; have p151 : 0 ≤ (x74_2 : Int) := of_decide_eq_true as_; have q151 : x74_2 < (x3_1.length : Int) := of_decide_eq_true as_; obtain ⟨ad151, e151, hx151_0⟩ := Kd.at_bool (Kd.R_reads' HO_3.out).2.2 x74_2 p151 q151; (try rw [← Nbq59.out] at hx151_0); cases e151; have hn151_0 : ad151.block ≠ gb150 := Kd.own_blk (Kd.R_ne HO_3.out BK150.out (by decide)); have hn151_1 : ad151.block ≠ gb150 := Kd.own_blk (Kd.R_ne HO_3.out BK150.out (by decide)); have hn151_2 : ad151.block ≠ gb150 := Kd.own_blk (Kd.R_ne HO_3.out BK150.out (by decide)); have hn151_3 : ad151.block ≠ gb150 := Kd.own_blk (Kd.R_ne HO_3.out BK150.out (by decide)); have hn151_4 : ad151.block ≠ gb150 := Kd.own_blk (Kd.R_ne HO_3.out BK150.out (by decide)); have hn151_5 : ad151.block ≠ gb150 := Kd.own_blk (Kd.R_ne HO_3.out BK150.out (by decide)); replace hx151_0 := (cell_far (p := ⟨gb150, 0, none⟩) (by first | (rw [add_block]; exact hn151_0) | (show (Addr.add _ _).block ≠ _; rw [add_block]; exact hn151_0) | exact hn151_0) (.int .i64 ((rd_T37 l0_0 x74_2).f0))).trans hx151_0; replace hx151_0 := (cell_far (p := ⟨gb150, 1, none⟩) (by first | (rw [add_block]; exact hn151_1) | (show (Addr.add _ _).block ≠ _; rw [add_block]; exact hn151_1) | exact hn151_1) (.string ((rd_T37 l0_0 x74_2).f1))).trans hx151_0; replace hx151_0 := (cell_far (p := ⟨gb150, 2, none⟩) (by first | (rw [add_block]; exact hn151_2) | (show (Addr.add _ _).block ≠ _; rw [add_block]; exact hn151_2) | exact hn151_2) (.slice A149_2 ((rd_T37 l0_0 x74_2).f2).length c149_2)).trans hx151_0; replace hx151_0 := (cell_far (p := ⟨gb150, 3, none⟩) (by first | (rw [add_block]; exact hn151_3) | (show (Addr.add _ _).block ≠ _; rw [add_block]; exact hn151_3) | exact hn151_3) (.string ((rd_T37 l0_0 x74_2).f3))).trans hx151_0; replace hx151_0 := (cell_far (p := ⟨gb150, 4, none⟩) (by first | (rw [add_block]; exact hn151_4) | (show (Addr.add _ _).block ≠ _; rw [add_block]; exact hn151_4) | exact hn151_4) (.int .i64 ((rd_T37 l0_0 x74_2).f4))).trans hx151_0; replace hx151_0 := (cell_far (p := ⟨gb150, 5, none⟩) (by first | (rw [add_block]; exact hn151_5) | (show (Addr.add _ _).block ≠ _; rw [add_block]; exact hn151_5) | exact hn151_5) (.slice A149_5 ((rd_T37 l0_0 x74_2).f5).length c149_5)).trans hx151_0; clear hn151_0; clear hn151_1; clear hn151_2; clear hn151_3; clear hn151_4; clear hn151_5; replace p151 := eq_true p151; replace q151 := eq_true q151))
                            go_roundg k2
                            case measure => have := HK1.out; have := HK2.out; omega
                            case rel => exact ⟨(wrap64 (x74_2 + 1)), rs_, H', ⟨by have := HK1.out; have := HK2.out; omega⟩, ⟨by (with_reducible repeat (first | apply Kd.R_alloc | apply Kd.R_drewN | apply Kd.R_drew)); exact Kd.R_mono (Kd.R_far (p := ⟨gb150, 5, none⟩) (Kd.R_far (p := ⟨gb150, 4, none⟩) (Kd.R_far (p := ⟨gb150, 3, none⟩) (Kd.R_far (p := ⟨gb150, 2, none⟩) (Kd.R_far (p := ⟨gb150, 1, none⟩) (Kd.R_far (p := ⟨gb150, 0, none⟩) (Kd.R_types HO_3.out BK150.out (by decide)) (fun _ hk => hk.2) (.int .i64 ((rd_T37 l0_0 x74_2).f0))) (fun _ hk => hk.2) (.string ((rd_T37 l0_0 x74_2).f1))) (fun _ hk => hk.2) (.slice A149_2 ((rd_T37 l0_0 x74_2).f2).length c149_2)) (fun _ hk => hk.2) (.string ((rd_T37 l0_0 x74_2).f3))) (fun _ hk => hk.2) (.int .i64 ((rd_T37 l0_0 x74_2).f4))) (fun _ hk => hk.2) (.slice A149_5 ((rd_T37 l0_0 x74_2).f5).length c149_5)) (fun _ hk => trivial)⟩, ⟨by (with_reducible repeat (first | refine blk_drewN ?_ _ | refine blk_drew ?_ | refine blk_alloc ?_ _)); refine blk_far ?_ NB137_150.out _; (with_reducible repeat (first | refine blk_drewN ?_ _ | refine blk_drew ?_ | refine blk_alloc ?_ _)); refine blk_far ?_ NB137_150.out _; (with_reducible repeat (first | refine blk_drewN ?_ _ | refine blk_drew ?_ | refine blk_alloc ?_ _)); refine blk_far ?_ NB137_150.out _; (with_reducible repeat (first | refine blk_drewN ?_ _ | refine blk_drew ?_ | refine blk_alloc ?_ _)); refine blk_far ?_ NB137_150.out _; (with_reducible repeat (first | refine blk_drewN ?_ _ | refine blk_drew ?_ | refine blk_alloc ?_ _)); refine blk_far ?_ NB137_150.out _; (with_reducible repeat (first | refine blk_drewN ?_ _ | refine blk_drew ?_ | refine blk_alloc ?_ _)); refine blk_far ?_ NB137_150.out _; (with_reducible repeat (first | refine blk_drewN ?_ _ | refine blk_drew ?_ | refine blk_alloc ?_ _)); exact BK137.out⟩, ⟨bl0_⟩⟩
                          · replace c60 := Bool.eq_false_iff.mpr c60
                            subst c60
                            have H1 : (some 3) = some r := by rw [if_neg (show ¬ (false = true) by decide)] at H; exact H
                            clear H
                            have H := H1
                            clear H1
                            obtain rfl := Option.some.inj H
                            have p149 : 0 ≤ (x74_2 : Int) := of_decide_eq_true as_
                            have q149 : x74_2 < (l0_0.length : Int) := of_decide_eq_true as_
                            obtain ⟨ad149, A149_2, c149_2, A149_5, c149_5, e149, hx149_0, hx149_1, hx149_2, hx149_3, hx149_4, hx149_5, hl149_2, hi149_2, hl149_5, hi149_5⟩ := at_T37 HR0_0.out x74_2 p149 q149
                            cases e149
                            replace hx149_0 := pw_cell_below HB.out hx149_0
                            replace hx149_1 := pw_cell_below HB.out hx149_1
                            replace hx149_2 := pw_cell_below HB.out hx149_2
                            replace hx149_3 := pw_cell_below HB.out hx149_3
                            replace hx149_4 := pw_cell_below HB.out hx149_4
                            replace hx149_5 := pw_cell_below HB.out hx149_5
                            have HR149_2 := Aside0.mk hi149_2
                            have HC149_2 := Aside0.mk hl149_2
                            clear hi149_2 hl149_2
                            have HR149_5 := Aside0.mk hi149_5
                            have HC149_5 := Aside0.mk hl149_5
                            clear hi149_5 hl149_5
                            replace p149 := eq_true p149
                            replace q149 := eq_true q149
                            go_wp2_with (first | ((with_reducible refine gate_dst (N := 9) rfl ?_); (try (refine gate_guard (by rfl) ?_; dsimp only)); refine box_event rf_ (N := 9) rf_ (cs := #[.int .i64 0, .string (⟨#[]⟩ : ByteArray), .slice none 0 0, .string (⟨#[]⟩ : ByteArray), .int .i64 0, .slice none 0 0]) (t := 37) gs_ ?_; intro gb150 hg w65 hbox hb; replace HO_3 := Aside0.mk (Kd.R_below (Kd.R_below HO_3.out bu_) hb); have BK150 := Aside0.mk hbox; have GW150 := Aside0.mk (gle_ (w := w) hg bl0_); replace HB := Aside0.mk (below_step bl0_ hb); have GE150 := GW150; have NB137_150 := nl_ hg BK137; have NB150_137 := ng_ hg BK137; replace BK137 := bb_ BK137 hb; clear hb hbox hg; have hnb66 := NB150_137.out; have hnc66 := NB137_150.out; obtain ⟨hcz67_0, hcz67_1, hcz67_2, hcz67_3, hcz67_4, hcz67_5, hfz67_0, hfz67_1, hfz67_2, hfz67_3, hfz67_4, hfz67_5⟩ := cf6_ BK150; obtain ⟨Ao68, co68, eo68⟩ := Kd.R_slice HO_3.out; subst eo68; have p151 : 0 ≤ (x74_2 : Int) := of_decide_eq_true as_; have q151 : x74_2 < (x3_1.length : Int) := of_decide_eq_true as_; obtain ⟨ad151, e151, hx151_0⟩ := Kd.at_bool (Kd.R_reads' HO_3.out).2.2 x74_2 p151 q151; (try rw [← Nbq59.out] at hx151_0); cases e151; have hn151_0 : ad151.block ≠ gb150 := Kd.own_blk (Kd.R_ne HO_3.out BK150.out (by decide)); have hn151_1 : ad151.block ≠ gb150 := Kd.own_blk (Kd.R_ne HO_3.out BK150.out (by decide)); have hn151_2 : ad151.block ≠ gb150 := Kd.own_blk (Kd.R_ne HO_3.out BK150.out (by decide)); have hn151_3 : ad151.block ≠ gb150 := Kd.own_blk (Kd.R_ne HO_3.out BK150.out (by decide)); have hn151_4 : ad151.block ≠ gb150 := Kd.own_blk (Kd.R_ne HO_3.out BK150.out (by decide)); have hn151_5 : ad151.block ≠ gb150 := Kd.own_blk (Kd.R_ne HO_3.out BK150.out (by decide)); replace hx151_0 := (cell_far (p := ⟨gb150, 0, none⟩) (by first | (rw [add_block]; exact hn151_0) | (show (Addr.add _ _).block ≠ _; rw [add_block]; exact hn151_0) | exact hn151_0) (.int .i64 ((rd_T37 l0_0 x74_2).f0))).trans hx151_0; replace hx151_0 := (cell_far (p := ⟨gb150, 1, none⟩) (by first | (rw [add_block]; exact hn151_1) | (show (Addr.add _ _).block ≠ _; rw [add_block]; exact hn151_1) | exact hn151_1) (.string ((rd_T37 l0_0 x74_2).f1))).trans hx151_0; replace hx151_0 := (cell_far (p := ⟨gb150, 2, none⟩) (by first | (rw [add_block]; exact hn151_2) | (show (Addr.add _ _).block ≠ _; rw [add_block]; exact hn151_2) | exact hn151_2) (.slice A149_2 ((rd_T37 l0_0 x74_2).f2).length c149_2)).trans hx151_0; replace hx151_0 := (cell_far (p := ⟨gb150, 3, none⟩) (by first | (rw [add_block]; exact hn151_3) | (show (Addr.add _ _).block ≠ _; rw [add_block]; exact hn151_3) | exact hn151_3) (.string ((rd_T37 l0_0 x74_2).f3))).trans hx151_0; replace hx151_0 := (cell_far (p := ⟨gb150, 4, none⟩) (by first | (rw [add_block]; exact hn151_4) | (show (Addr.add _ _).block ≠ _; rw [add_block]; exact hn151_4) | exact hn151_4) (.int .i64 ((rd_T37 l0_0 x74_2).f4))).trans hx151_0; replace hx151_0 := (cell_far (p := ⟨gb150, 5, none⟩) (by first | (rw [add_block]; exact hn151_5) | (show (Addr.add _ _).block ≠ _; rw [add_block]; exact hn151_5) | exact hn151_5) (.slice A149_5 ((rd_T37 l0_0 x74_2).f5).length c149_5)).trans hx151_0; clear hn151_0; clear hn151_1; clear hn151_2; clear hn151_3; clear hn151_4; clear hn151_5; replace p151 := eq_true p151; replace q151 := eq_true q151))
                            go_ret
                            exact ⟨er_, bl0_⟩
                        · rw [if_neg c58] at H
                          exact absurd H (by simp)
                    · rw [if_neg c53] at H
                      exact absurd H (by simp)
                  · rw [if_neg c52] at H
                    exact absurd H (by simp)
                · rw [if_neg c51] at H
                  have c51b0 : decide (x74_2 < (l0_0.length : Int)) = false := decide_eq_false c51
                  clear c51
                  by_cases c69 : 0 < (l0_0.length : Int)
                  · rw [if_pos c69] at H
                    have c69b0 : decide (0 < (l0_0.length : Int)) = true := decide_eq_true c69
                    have c69b1 : decide (0 < l0_0.length) = true := decide_eq_true (by omega)
                    clear c69
                    by_cases c70 : ((rd_T37 l0_0 0).f4) = (-1)
                    · rw [if_pos c70] at H
                      have c70b0 : (((rd_T37 l0_0 0).f4) == (-1)) = true := beq_iff_eq.mpr c70
                      have c70b1 : (((rd_T37 l0_0 0).f4) != (-1)) = false := bne_eq_false_iff_eq.mpr c70
                      clear c70
                      obtain rfl := Option.some.inj H
                      obtain ⟨hcz71_0, hcz71_1, hfz71_0, hfz71_1⟩ := cf2_ BK137
                      have p152 : 0 ≤ (0 : Int) := (by omega)
                      have q152 : 0 < (l0_0.length : Int) := of_decide_eq_true as_
                      obtain ⟨ad152, A152_2, c152_2, A152_5, c152_5, e152, hx152_0, hx152_1, hx152_2, hx152_3, hx152_4, hx152_5, hl152_2, hi152_2, hl152_5, hi152_5⟩ := at_T37 HR0_0.out 0 p152 q152
                      cases e152
                      have qi152 : (0 < l0_0.length) = True := eq_true (by omega)
                      (try rw [show ((0 : Int)).toNat = 0 from rfl] at hx152_0)
                      (try rw [show 0 * 6 = 0 from rfl] at hx152_0)
                      (try rw [Addr.add_zero'] at hx152_0)
                      (try rw [show ((0 : Int)).toNat = 0 from rfl] at hx152_1)
                      (try rw [show 0 * 6 = 0 from rfl] at hx152_1)
                      (try rw [Addr.add_zero'] at hx152_1)
                      (try rw [show ((0 : Int)).toNat = 0 from rfl] at hx152_2)
                      (try rw [show 0 * 6 = 0 from rfl] at hx152_2)
                      (try rw [Addr.add_zero'] at hx152_2)
                      (try rw [show ((0 : Int)).toNat = 0 from rfl] at hx152_3)
                      (try rw [show 0 * 6 = 0 from rfl] at hx152_3)
                      (try rw [Addr.add_zero'] at hx152_3)
                      (try rw [show ((0 : Int)).toNat = 0 from rfl] at hx152_4)
                      (try rw [show 0 * 6 = 0 from rfl] at hx152_4)
                      (try rw [Addr.add_zero'] at hx152_4)
                      (try rw [show ((0 : Int)).toNat = 0 from rfl] at hx152_5)
                      (try rw [show 0 * 6 = 0 from rfl] at hx152_5)
                      (try rw [Addr.add_zero'] at hx152_5)
                      replace hx152_0 := pw_cell_below HB.out hx152_0
                      replace hx152_1 := pw_cell_below HB.out hx152_1
                      replace hx152_2 := pw_cell_below HB.out hx152_2
                      replace hx152_3 := pw_cell_below HB.out hx152_3
                      replace hx152_4 := pw_cell_below HB.out hx152_4
                      replace hx152_5 := pw_cell_below HB.out hx152_5
                      have HR152_2 := Aside0.mk hi152_2
                      have HC152_2 := Aside0.mk hl152_2
                      clear hi152_2 hl152_2
                      have HR152_5 := Aside0.mk hi152_5
                      have HC152_5 := Aside0.mk hl152_5
                      clear hi152_5 hl152_5
                      replace p152 := eq_true p152
                      replace q152 := eq_true q152
                      go_wp2
                      go_ret
                      exact ⟨er_, bl0_⟩
                    · rw [if_neg c70] at H
                      have c70b0 : (((rd_T37 l0_0 0).f4) == (-1)) = false := beq_eq_false_iff_ne.mpr c70
                      have c70b1 : (((rd_T37 l0_0 0).f4) != (-1)) = true := bne_iff_ne.mpr c70
                      obtain rfl := Option.some.inj H
                      obtain ⟨hcz72_0, hcz72_1, hfz72_0, hfz72_1⟩ := cf2_ BK137
                      have p152 : 0 ≤ (0 : Int) := (by omega)
                      have q152 : 0 < (l0_0.length : Int) := of_decide_eq_true as_
                      obtain ⟨ad152, A152_2, c152_2, A152_5, c152_5, e152, hx152_0, hx152_1, hx152_2, hx152_3, hx152_4, hx152_5, hl152_2, hi152_2, hl152_5, hi152_5⟩ := at_T37 HR0_0.out 0 p152 q152
                      cases e152
                      have qi152 : (0 < l0_0.length) = True := eq_true (by omega)
                      (try rw [show ((0 : Int)).toNat = 0 from rfl] at hx152_0)
                      (try rw [show 0 * 6 = 0 from rfl] at hx152_0)
                      (try rw [Addr.add_zero'] at hx152_0)
                      (try rw [show ((0 : Int)).toNat = 0 from rfl] at hx152_1)
                      (try rw [show 0 * 6 = 0 from rfl] at hx152_1)
                      (try rw [Addr.add_zero'] at hx152_1)
                      (try rw [show ((0 : Int)).toNat = 0 from rfl] at hx152_2)
                      (try rw [show 0 * 6 = 0 from rfl] at hx152_2)
                      (try rw [Addr.add_zero'] at hx152_2)
                      (try rw [show ((0 : Int)).toNat = 0 from rfl] at hx152_3)
                      (try rw [show 0 * 6 = 0 from rfl] at hx152_3)
                      (try rw [Addr.add_zero'] at hx152_3)
                      (try rw [show ((0 : Int)).toNat = 0 from rfl] at hx152_4)
                      (try rw [show 0 * 6 = 0 from rfl] at hx152_4)
                      (try rw [Addr.add_zero'] at hx152_4)
                      (try rw [show ((0 : Int)).toNat = 0 from rfl] at hx152_5)
                      (try rw [show 0 * 6 = 0 from rfl] at hx152_5)
                      (try rw [Addr.add_zero'] at hx152_5)
                      replace hx152_0 := pw_cell_below HB.out hx152_0
                      replace hx152_1 := pw_cell_below HB.out hx152_1
                      replace hx152_2 := pw_cell_below HB.out hx152_2
                      replace hx152_3 := pw_cell_below HB.out hx152_3
                      replace hx152_4 := pw_cell_below HB.out hx152_4
                      replace hx152_5 := pw_cell_below HB.out hx152_5
                      have HR152_2 := Aside0.mk hi152_2
                      have HC152_2 := Aside0.mk hl152_2
                      clear hi152_2 hl152_2
                      have HR152_5 := Aside0.mk hi152_5
                      have HC152_5 := Aside0.mk hl152_5
                      clear hi152_5 hl152_5
                      replace p152 := eq_true p152
                      replace q152 := eq_true q152
                      go_wp2
                      go_ret
                      exact ⟨er_, bl0_⟩
                  · rw [if_neg c69] at H
                    exact absurd H (by simp)
    · rw [if_neg c3] at H
      exact absurd H (by simp)
  · rw [if_neg c2] at H
    exact absurd H (by simp)

end Go.Proofs.YtlgoaphdhgidoaaDoor.PSY
