-- printed by wip/tools/pr.py (own) through the kit's printer; texts GIVEN by hand stand among them
import Derived.Test.YtlgoaphdhgidoaaDoorPSYx0
namespace Go.Proofs.YtlgoaphdhgidoaaDoor.PSY
open Go.RowKit Go.Proofs.YtlgoaphdhgidoaaDoorW.PrintWords Go.Proofs.YtlgoaphdhgidoaaDoorW.PrintLast Go.Proofs.YtlgoaphdhgidoaaDoorW.PrintMore
attribute [local go_sem] max2_int min2_int max_two min_two max_three min_three max_four min_four   -- for this text's walks alone
set_option linter.unusedVariables false
set_option linter.unusedSimpArgs false

/-! ### clerestorykeep1_few: function 9 -/
def clerestorykeep1_few.f (l0_0 : List (S37)) (a0_1 : Bool) (a1 : Int) : Option ((List (S37)) × Bool) := if 0 ≤ (mn (l0_0.length : Int) a1) then (if (mn (l0_0.length : Int) a1) ≤ (l0_0.length : Int) then (some ((l0_0.take ((mn (l0_0.length : Int) a1) : Int).toNat), a0_1)) else (none)) else (none)
set_option maxHeartbeats 8000000 in
set_option maxRecDepth 100000 in
theorem clerestorykeep1_few.calls (P0_0_ : Nat → Prop) (A0_0 : Option Addr) (c0_0 : Nat) (l0_0 : List (S37)) (a0_1 : Bool) (a1 : Int) (r1 : List (S37)) (r2 : Bool) (w : World) (hs0_0 : Kd.V k37 37 w w.heap.size (fun k_ => P0_0_ k_) (.slice A0_0 l0_0.length c0_0) l0_0) (h : clerestorykeep1_few.f l0_0 a0_1 a1 = some (r1, r2)) :
    Calls Tryd.prog 9 #[.agg #[.slice A0_0 l0_0.length c0_0, .bool a0_1], .int .i64 a1] w fun e w' => ∃ v0_ : Value, e = .returned (.agg #[v0_, .bool r2]) ∧ Kd.V k37 37 w' w.heap.size (fun k_ => (P0_0_ k_ ∨ w.heap.size ≤ k_)) v0_ r1 ∧ Below w.heap.size w w' := by
  have hu24 := Tryd.underlying24
  have HO0_0 := Aside0.mk (show Kd.V k37 37 w w.heap.size (fun k_ => (P0_0_ k_ ∨ w.heap.size ≤ k_)) (.slice A0_0 l0_0.length c0_0) l0_0 from Kd.V_mono hs0_0 (fun k_ hk => .inl hk))
  have HB := Aside0.mk (Below.refl w.heap.size w)
  have H : (if 0 ≤ (mn (l0_0.length : Int) a1) then (if (mn (l0_0.length : Int) a1) ≤ (l0_0.length : Int) then (some ((l0_0.take ((mn (l0_0.length : Int) a1) : Int).toNat), a0_1)) else (none)) else (none)) = some (r1, r2) := h
  clear h
  obtain ⟨ji3, hji3⟩ : ∃ j_ : Int, (mn (l0_0.length : Int) a1) = j_ := ⟨_, rfl⟩
  replace H : (if 0 ≤ (ji3) then (if (ji3) ≤ (l0_0.length : Int) then (some ((l0_0.take ((ji3) : Int).toNat), a0_1)) else (none)) else (none)) = some (r1, r2) := by first | (rw [hji3] at H; exact H) | (simp only [hji3] at H ⊢; exact H)
  have hji3_ : (if a1 < (l0_0.length : Int) then a1 else (l0_0.length : Int)) = ji3 := hji3
  by_cases c4 : 0 ≤ (ji3)
  · rw [if_pos c4] at H
    have c4b0 := eq_true c4
    have c4b1 : decide (0 ≤ (ji3)) = true := decide_eq_true c4
    clear c4
    by_cases c5 : (ji3) ≤ (l0_0.length : Int)
    · rw [if_pos c5] at H
      have c5b0 := eq_true c5
      have c5b1 : decide ((ji3) ≤ (l0_0.length : Int)) = true := decide_eq_true c5
      clear c5
      obtain ⟨y103, hy103⟩ : ∃ y_ : List (S37), y_ = (l0_0.take ((ji3) : Int).toNat) := ⟨_, rfl⟩
      replace H : (some (y103, a0_1)) = some (r1, r2) := by first | (rw [hy103]; with_reducible exact H) | (have H2_ := (Option.bind_some _ _).symm.trans H; rw [hy103]; with_reducible exact H2_) | (have H2_ := (Option.bind_some _ _).symm.trans H; with_reducible exact H2_) | with_reducible exact H | (rw [hy103]; exact H) | exact H
      have Ny103 := Aside0.mk hy103
      clear hy103
      simp only [Option.some.injEq, Prod.mk.injEq] at H
      obtain ⟨rfl, rfl⟩ := H
      go_enter Tryd.func9, Tryd.ntmps9
      go_wp2_with (first | ((with_reducible refine gate_dst (N := 2) rfl ?_); refine box_event rf_ (N := 2) rf_ (cs := #[.slice A0_0 l0_0.length c0_0, .bool a0_1]) (t := 24) gs_ ?_; intro gb101 hg w6 hbox hb; replace HO0_0 := Aside0.mk (Kd.V_below (Kd.V_elderB (Kd.V_below HO0_0.out bu_) gb101 (Nat.le_of_eq hg.symm)) hb); have BK101 := Aside0.mk hbox; have GW101 := Aside0.mk (gle_ (w := w) hg bl0_); replace HB := Aside0.mk (below_step bl0_ hb); have GE101 := GW101; clear hb hbox hg) | ((with_reducible refine gate_dst (N := 4) rfl ?_); refine box_event rf_ (N := 4) rf_ (cs := #[.slice none 0 0, .bool false]) (t := 24) gs_ ?_; intro gb102 hg w7 hbox hb; replace HO0_0 := Aside0.mk (Kd.V_below (Kd.V_elderB (Kd.V_below HO0_0.out bu_) gb102 (Nat.le_of_eq hg.symm)) hb); have BK102 := Aside0.mk hbox; have GW102 := Aside0.mk (gle_ (w := w) hg bl0_); replace HB := Aside0.mk (below_step bl0_ hb); have GE102 := GW102; have NB101_102 := nl_ hg BK101; have NB102_101 := ng_ hg BK101; replace BK101 := bb_ BK101 hb; clear hb hbox hg; have hnb8 := NB101_102.out; have hnc8 := NB102_101.out; obtain ⟨hcz9_0, hcz9_1, hfz9_0, hfz9_1⟩ := cf2_ BK101; have q10 : ((ji3) : Int) ≤ ((l0_0.length : Int) : Int) := of_decide_eq_true as_; obtain ⟨i010, hi010, _, hsz10, _⟩ := info_parts info37; have hroom10 : l0_0.length ≤ c0_0 := (Kd.V_reads' HO0_0.out).2.1; have hC10 : Kd.F k37 _ _ A0_0 l0_0.length l0_0 := (Kd.V_at (base := w.heap.size) HO0_0.out).2.2; have hcut10 := cut_to (P := Tryd.prog) 22 37 .i64 Tryd.underlying22 hi010 A0_0 l0_0.length c0_0 (ji3) (of_decide_eq_true as_) q10 hroom10; have hr10 := Kd.F_take (m := ((ji3) : Int).toNat) hC10 (by omega); have hy10 : y103.length = ((ji3) : Int).toNat := (by rw [Ny103.out, List.length_take]; omega); rw [← Ny103.out] at hr10; rw [← hy10] at hcut10; have HO107 := Aside0.mk (show Kd.V k37 37 _ w.heap.size _ (.slice A0_0 y103.length c0_0) y103 from Kd.V_mk (by omega) hr10); have HC107 := Aside0.mk (show y103.length ≤ c0_0 from by omega); clear hr10 hC10 hroom10 hi010 hsz10; have KY10 := Aside0.mk hy10; clear hy10; replace q10 := eq_true q10; obtain ⟨hcz11_0, hcz11_1, hfz11_0, hfz11_1⟩ := cf2_ BK102))
      refine bodyPost_ret (results_cell_row rfl _ _ gb102 24 #[.slice A0_0 y103.length c0_0, .bool a0_1] (0, 0) _ rfl (bw_ BK102) Tryd.underlying24 rfl (by kernel_rfl)) rfl ?_
      exact ⟨_, by first | rfl | (simp [errW_none, errW_some] <;> rfl) | (simp only [← hji3]; first | rfl | (simp [errW_none, errW_some] <;> rfl)) | (simp [*, errW_none, errW_some] <;> rfl), by (with_reducible repeat (first | apply Kd.V_alloc | apply Kd.V_drewN | apply Kd.V_drew)); exact Kd.V_mono (Kd.V_far (p := ⟨gb102, 1, none⟩) (Kd.V_far (p := ⟨gb102, 0, none⟩) (Kd.V_far (p := ⟨gb101, 0, none⟩) (Kd.V_mono (Kd.V_mono HO107.out (fun k_ hk => (⟨hk, hk.1.2⟩ : _ ∧ k_ ≠ gb101))) (fun k_ hk => (⟨hk, hk.1.2⟩ : _ ∧ k_ ≠ gb102))) (fun _ hk => hk.1.2) (.slice A0_0 y103.length c0_0)) (fun _ hk => hk.2) (.slice A0_0 y103.length c0_0)) (fun _ hk => hk.2) (.bool a0_1)) (fun _ hk => hk.1.1.1.1), bl0_⟩
    · rw [if_neg c5] at H
      exact absurd H (by simp)
  · rw [if_neg c4] at H
    exact absurd H (by simp)

/-! ### clerestorykeep1_some: function 10 -/
def clerestorykeep1_some.f (a0 : ByteArray) (a1 : Int) : Option (ByteArray) := if 0 ≤ (mn (a0.size : Int) a1) then (if (mn (a0.size : Int) a1) ≤ (a0.size : Int) then (some (a0.extract 0 ((mn (a0.size : Int) a1) : Int).toNat)) else (none)) else (none)
set_option maxHeartbeats 8000000 in
set_option maxRecDepth 100000 in
theorem clerestorykeep1_some.calls (a0 : ByteArray) (a1 : Int) (r : ByteArray) (w : World) (h : clerestorykeep1_some.f a0 a1 = some r) :
    Calls Tryd.prog 10 #[.string a0, .int .i64 a1] w fun e w' => e = .returned (.string r) ∧ Below w.heap.size w w' := by
  have HB := Aside0.mk (Below.refl w.heap.size w)
  have H : (if 0 ≤ (mn (a0.size : Int) a1) then (if (mn (a0.size : Int) a1) ≤ (a0.size : Int) then (some (a0.extract 0 ((mn (a0.size : Int) a1) : Int).toNat)) else (none)) else (none)) = some r := h
  clear h
  obtain ⟨ji3, hji3⟩ : ∃ j_ : Int, (mn (a0.size : Int) a1) = j_ := ⟨_, rfl⟩
  replace H : (if 0 ≤ (ji3) then (if (ji3) ≤ (a0.size : Int) then (some (a0.extract 0 ((ji3) : Int).toNat)) else (none)) else (none)) = some r := by first | (rw [hji3] at H; exact H) | (simp only [hji3] at H ⊢; exact H)
  have hji3_ : (if a1 < (a0.size : Int) then a1 else (a0.size : Int)) = ji3 := hji3
  by_cases c4 : 0 ≤ (ji3)
  · rw [if_pos c4] at H
    have c4b0 := eq_true c4
    have c4b1 : decide (0 ≤ (ji3)) = true := decide_eq_true c4
    clear c4
    by_cases c5 : (ji3) ≤ (a0.size : Int)
    · rw [if_pos c5] at H
      have c5b0 := eq_true c5
      have c5b1 : decide ((ji3) ≤ (a0.size : Int)) = true := decide_eq_true c5
      clear c5
      obtain rfl := Option.some.inj H
      go_enter Tryd.func10, Tryd.ntmps10
      go_wp2
      go_ret
      exact ⟨by first | rfl | (simp [errW_none, errW_some] <;> rfl) | (simp only [← hji3]; first | rfl | (simp [errW_none, errW_some] <;> rfl)) | (simp [*, errW_none, errW_some] <;> rfl), bl0_⟩
    · rw [if_neg c5] at H
      exact absurd H (by simp)
  · rw [if_neg c4] at H
    exact absurd H (by simp)

/-! ### clerestorykeep1_brief: function 4 -/
def clerestorykeep1_brief.l0 : Nat → List (S37) → Int → List (S37) → Bool → Option ((List (S37)) × Bool)
  | 0, _, _, _, _ => none
  | k + 1, x3, x4, x109000, x109001 => if x4 < (x3.length : Int) then (if 0 ≤ x4 then ((clerestorykeep1_some.f ((rd_T37 x3 x4).f3) 30).bind fun t121 => (clerestorykeep1_brief.l0 k (x3.set (x4 : Int).toNat (⟨(rd_T37 x3 x4).f0, (rd_T37 x3 x4).f1, (rd_T37 x3 x4).f2, t121, (rd_T37 x3 x4).f4, (rd_T37 x3 x4).f5⟩ : S37)) (wrap64 (x4 + 1)) x109000 x109001)) else (none)) else (some (x3, x109001))
def clerestorykeep1_brief.f (k : Nat) (l0_0 : List (S37)) (a0_1 : Bool) : Option ((List (S37)) × Bool) := (clerestorykeep1_few.f l0_0 a0_1 25).bind fun bt110 => ((some (([] : List (S37)) : List (S37))).bind fun y114 => (if y114.length + bt110.1.length < 1466015503701 then (clerestorykeep1_brief.l0 k (y114 ++ bt110.1) 0 bt110.1 bt110.2) else (none)))
theorem clerestorykeep1_brief.mono_l : ∀ k, (∀ y0 y1 y2 y3, LeO (clerestorykeep1_brief.l0 k y0 y1 y2 y3) (clerestorykeep1_brief.l0 (k + 1) y0 y1 y2 y3))
  | 0 => fun _ _ _ _ r h => by simp [clerestorykeep1_brief.l0] at h
  | k + 1 => by
    have ih0 := clerestorykeep1_brief.mono_l k
    · intro y0 y1 y2 y3
      unfold clerestorykeep1_brief.l0
      repeat' first
      | (with_reducible exact ih0 _ _ _ _)
      | (with_reducible exact LeO.refl _)
      | (with_reducible exact LeO.none _)
      | (with_reducible refine LeO.ite ?_ ?_)
      | (with_reducible refine LeO.bind ?_ (fun _ => ?_))
      | exact ih0 _ _ _ _
      | exact LeO.none _
      | refine LeO.ite ?_ ?_
      | refine LeO.bind ?_ (fun _ => ?_)
theorem clerestorykeep1_brief.mono : ∀ a0 a1 k, LeO (clerestorykeep1_brief.f k a0 a1) (clerestorykeep1_brief.f (k + 1) a0 a1) := by
  intro a0 a1 k
  have ih0 := clerestorykeep1_brief.mono_l k
  unfold clerestorykeep1_brief.f
  repeat' first
      | (with_reducible exact ih0 _ _ _ _)
      | (with_reducible exact LeO.refl _)
      | (with_reducible exact LeO.none _)
      | (with_reducible refine LeO.ite ?_ ?_)
      | (with_reducible refine LeO.bind ?_ (fun _ => ?_))
      | exact ih0 _ _ _ _
      | exact LeO.none _
      | refine LeO.ite ?_ ?_
      | refine LeO.bind ?_ (fun _ => ?_)
set_option maxHeartbeats 8000000 in
set_option maxRecDepth 100000 in
theorem clerestorykeep1_brief.calls (k : Nat) (P0_0_ : Nat → Prop) (A0_0 : Option Addr) (c0_0 : Nat) (l0_0 : List (S37)) (a0_1 : Bool) (r1 : List (S37)) (r2 : Bool) (w : World) (hs0_0 : Kd.V k37 37 w w.heap.size (fun k_ => P0_0_ k_) (.slice A0_0 l0_0.length c0_0) l0_0) (h : clerestorykeep1_brief.f k l0_0 a0_1 = some (r1, r2)) :
    Calls Tryd.prog 4 #[.agg #[.slice A0_0 l0_0.length c0_0, .bool a0_1]] w fun e w' => ∃ v0_ : Value, e = .returned (.agg #[v0_, .bool r2]) ∧ Kd.N k37 37 w' w.heap.size (fun k_ => (P0_0_ k_ ∨ w.heap.size ≤ k_)) v0_ r1 ∧ Below w.heap.size w w' := by
  have hu24 := Tryd.underlying24
  have HO0_0 := Aside0.mk (show Kd.V k37 37 w w.heap.size (fun k_ => (P0_0_ k_ ∨ w.heap.size ≤ k_)) (.slice A0_0 l0_0.length c0_0) l0_0 from Kd.V_mono hs0_0 (fun k_ hk => .inl hk))
  have HB := Aside0.mk (Below.refl w.heap.size w)
  have H : ((clerestorykeep1_few.f l0_0 a0_1 25).bind fun bt110 => ((some (([] : List (S37)) : List (S37))).bind fun y114 => (if y114.length + bt110.1.length < 1466015503701 then (clerestorykeep1_brief.l0 k (y114 ++ bt110.1) 0 bt110.1 bt110.2) else (none)))) = some (r1, r2) := h
  clear h
  replace H := Option.bind_eq_some_iff.mp H
  obtain ⟨⟨t110, t113⟩, A20, H⟩ := H
  replace H : ((some (([] : List (S37)) : List (S37))).bind fun y114 => (if y114.length + t110.length < 1466015503701 then (clerestorykeep1_brief.l0 k (y114 ++ t110) 0 t110 t113) else (none))) = some (r1, r2) := H
  have A2 := Aside0.mk A20
  clear A20
  obtain ⟨y114, hy114⟩ : ∃ y_ : List (S37), y_ = (([] : List (S37))) := ⟨_, rfl⟩
  replace H : (if y114.length + t110.length < 1466015503701 then (clerestorykeep1_brief.l0 k (y114 ++ t110) 0 t110 t113) else (none)) = some (r1, r2) := by first | (rw [hy114]; with_reducible exact H) | (have H2_ := (Option.bind_some _ _).symm.trans H; rw [hy114]; with_reducible exact H2_) | (have H2_ := (Option.bind_some _ _).symm.trans H; with_reducible exact H2_) | with_reducible exact H | (rw [hy114]; exact H) | exact H
  have Ny114 := Aside0.mk hy114
  clear hy114
  by_cases c3 : y114.length + t110.length < 1466015503701
  · rw [if_pos c3] at H
    have LMc3 := Aside0.mk c3
    clear c3
    obtain ⟨y117, hy117⟩ : ∃ y_ : List (S37), y_ = (y114 ++ t110) := ⟨_, rfl⟩
    replace H : (clerestorykeep1_brief.l0 k y117 0 t110 t113) = some (r1, r2) := by first | (rw [hy117]; with_reducible exact H) | (have H2_ := (Option.bind_some _ _).symm.trans H; rw [hy117]; with_reducible exact H2_) | (have H2_ := (Option.bind_some _ _).symm.trans H; with_reducible exact H2_) | with_reducible exact H | (rw [hy117]; exact H) | exact H
    have Ny117 := Aside0.mk hy117
    clear hy117
    have H' := Aside0.mk H
    clear H
    go_enter Tryd.func4, Tryd.ntmps4
    go_wp2_with (first | ((with_reducible refine gate_dst (N := 1) rfl ?_); refine box_event rf_ (N := 1) rf_ (cs := #[.slice A0_0 l0_0.length c0_0, .bool a0_1]) (t := 24) gs_ ?_; intro gb108 hg w4 hbox hb; replace HO0_0 := Aside0.mk (Kd.V_below (Kd.V_elderB (Kd.V_below HO0_0.out bu_) gb108 (Nat.le_of_eq hg.symm)) hb); have BK108 := Aside0.mk hbox; have GW108 := Aside0.mk (gle_ (w := w) hg bl0_); replace HB := Aside0.mk (below_step bl0_ hb); have GE108 := GW108; clear hb hbox hg) | ((with_reducible refine gate_dst (N := 2) rfl ?_); refine box_event rf_ (N := 2) rf_ (cs := #[.slice none 0 0, .bool false]) (t := 24) gs_ ?_; intro gb109 hg w5 hbox hb; replace HO0_0 := Aside0.mk (Kd.V_below (Kd.V_elderB (Kd.V_below HO0_0.out bu_) gb109 (Nat.le_of_eq hg.symm)) hb); have BK109 := Aside0.mk hbox; have GW109 := Aside0.mk (gle_ (w := w) hg bl0_); replace HB := Aside0.mk (below_step bl0_ hb); have GE109 := GW109; have NB108_109 := nl_ hg BK108; have NB109_108 := ng_ hg BK108; replace BK108 := bb_ BK108 hb; clear hb hbox hg; have hnb6 := NB108_109.out; have hnc6 := NB109_108.out; obtain ⟨hcz7_0, hcz7_1, hfz7_0, hfz7_1⟩ := cf2_ BK108) | ((with_reducible refine gate_callee (f := 9) rfl ?_); refine goesL_ (some 6) rfl rfl Tryd.func9 (by kernel_rfl) rfl #[.agg #[.slice A0_0 l0_0.length c0_0, .bool a0_1], .int .i64 25] rfl mp_ ?_; (with_reducible refine (clerestorykeep1_few.calls (fun k_ => (((P0_0_ k_ ∨ w.heap.size ≤ k_) ∧ k_ ≠ gb108) ∧ k_ ≠ gb109)) _ _ l0_0 a0_1 25 t110 t113 _ ?side1 A2.out).mono ?_); (case side1 => exact HO0_0.out); rintro e w8 ⟨v111, rfl, ho0, hb⟩; refine ⟨_, rfl, ?_⟩; replace HO0_0 := Aside0.mk (Kd.V_below (Kd.V_below HO0_0.out bu_) hb); have HO112 := Aside0.mk (Kd.V_lower (Kd.V_mono (ok' := fun k_ => (P0_0_ k_ ∨ w.heap.size ≤ k_) ∧ k_ ≠ gb108 ∧ k_ ≠ gb109) ho0 (fun k_ hk_ => ⟨Or.elim hk_ (fun hs_ => hs_.1.1) (fun hn_ => (.inr (Nat.le_trans (below_size bl0_) hn_))), Or.elim hk_ (fun hs_ => hs_.1.2) (fun hn_ => (Kd.freshB (g := gb108) (o := .cells #[.slice A0_0 l0_0.length c0_0, .bool a0_1] 24 (0, 0)) (bq_ BK108.out) k_ hn_)), Or.elim hk_ (fun hs_ => hs_.2) (fun hn_ => (Kd.freshB (g := gb109) (o := .cells #[.slice none 0 0, .bool false] 24 (0, 0)) (bq_ BK109.out) k_ hn_))⟩)) (below_size bl0_)); replace BK108 := bb_ BK108 hb; replace BK109 := bb_ BK109 hb; replace HB := Aside0.mk (below_step bl0_ hb); (try clear hb); (try clear hb2); (try clear hk); (try clear hi); (try clear ho0); obtain ⟨Ao9, co9, eo9⟩ := Kd.V_slice HO112.out; subst eo9; obtain ⟨hcz10_0, hcz10_1, hfz10_0, hfz10_1⟩ := cf2_ BK108) | ((with_reducible refine gate_dst (N := 7) rfl ?_); refine Kd.N_lit k37 _ 37 rf_ (N' := 7) rf_ (xs := ([] : List (S37))) (inner := []) (ok := (fun k_ => (P0_0_ k_ ∨ w.heap.size ≤ k_) ∧ k_ ≠ gb108 ∧ k_ ≠ gb109)) (okp := (fun k_ => (P0_0_ k_ ∨ w.heap.size ≤ k_) ∧ k_ ≠ gb108 ∧ k_ ≠ gb109)) gs_ ?hp (fun _ hk => hk) ((show ∀ k_, w8.heap.size ≤ k_ → (fun k_ => (P0_0_ k_ ∨ w.heap.size ≤ k_) ∧ k_ ≠ gb108 ∧ k_ ≠ gb109) k_ from fun k_ hk => ⟨(.inr (Nat.le_trans (below_size bl0_) hk)), Kd.freshB (g := gb108) (o := .cells #[.slice A0_0 l0_0.length c0_0, .bool a0_1] 24 (0, 0)) (by exact BK108.out) k_ hk, Kd.freshB (g := gb109) (o := .cells #[.slice none 0 0, .bool false] 24 (0, 0)) (by exact BK109.out) k_ hk⟩) _ (by first | exact Nat.le_refl _ | simp)) (Below.refl _ _) (Nat.le_refl _) (by simp) ?_; (case hp => exact (Reps.none _ _)); intro v115 w11 ho12 hb hg_ hnew_; clear hg_ hnew_; (first | rw [← Ny114.out] at ho12 | (simp only [Int.reduceToNat] at ho12; rw [← Ny114.out] at ho12)); replace HO0_0 := Aside0.mk (Kd.V_elder' (by (with_reducible repeat (first | apply Kd.V_alloc | apply Kd.V_drewN | apply Kd.V_drew)); exact (Kd.V_mono (Kd.V_far (p := ⟨gb108, 1, none⟩) (Kd.V_far (p := ⟨gb108, 0, none⟩) (Kd.V_mono HO0_0.out (fun k_ hk => (⟨hk, hk.1.2⟩ : _ ∧ k_ ≠ gb108))) (fun _ hk => hk.2) (.slice Ao9 t110.length co9)) (fun _ hk => hk.2) (.bool t113)) (fun _ h_ => h_.1))) (Kd.N_base ho12) hb); replace HO112 := Aside0.mk (Kd.V_elder' (by (with_reducible repeat (first | apply Kd.V_alloc | apply Kd.V_drewN | apply Kd.V_drew)); exact (Kd.V_mono (Kd.V_far (p := ⟨gb108, 1, none⟩) (Kd.V_far (p := ⟨gb108, 0, none⟩) (Kd.V_mono HO112.out (fun k_ hk => (⟨hk, hk.2.1⟩ : _ ∧ k_ ≠ gb108))) (fun _ hk => hk.2) (.slice Ao9 t110.length co9)) (fun _ hk => hk.2) (.bool t113)) (fun _ h_ => h_.1))) (Kd.N_base ho12) hb); have HO116 := Aside0.mk (Kd.N_lower ho12 (below_size bl0_)); replace BK108 := Aside0.mk (blk_below (g := gb108) (o := .cells #[.slice Ao9 t110.length co9, .bool t113] 24 (0, 0)) (bw_ BK108) hb); replace BK109 := Aside0.mk (blk_below (g := gb109) (o := .cells #[.slice none 0 0, .bool false] 24 (0, 0)) (bw_ BK109) hb); replace HB := Aside0.mk (below_step bl0_ hb); clear hb ho12; obtain ⟨hcz13_0, hcz13_1, hfz13_0, hfz13_1⟩ := cf2_ BK108) | ((with_reducible refine gate_builtin (b := .append) (xs := #[.tmp 7, .tmp 9]) rfl ?_); at_builtin; refine Kd.N_append_rows k37 (w0 := w) w.heap.size rfl (.tmp 7) (.tmp 9) 22 37 (.agg #[(.int .i64 0), (.string ⟨#[]⟩), (.slice none 0 0), (.string ⟨#[]⟩), (.int .i64 0), (.slice none 0 0)]) 96 rfl Tryd.underlying22 info37 rfl (by decide) (by omega) v115 y114 t110 _ _ _ (fun k_ => (P0_0_ k_ ∨ w.heap.size ≤ k_) ∧ k_ ≠ gb108 ∧ k_ ≠ gb109) (fun k_ => ((fun k_ => (P0_0_ k_ ∨ w.heap.size ≤ k_) ∧ k_ ≠ gb108 ∧ k_ ≠ gb109)) k_ ∧ some k_ ≠ (v115 : Value).ownBlock) rfl rfl ?aO ?aR (fun _ hk => hk) ?aF ?aB ?aS ?aL ?_; (case aR => exact (by skip; exact Kd.V_F (Kd.V_mono (ok' := (fun k_ => ((fun k_ => (P0_0_ k_ ∨ w.heap.size ≤ k_) ∧ k_ ≠ gb108 ∧ k_ ≠ gb109)) k_ ∧ some k_ ≠ (v115 : Value).ownBlock)) (HO112.out) (fun k_ hk => ⟨⟨hk.1.1, ⟨hk.1.2.1, hk.1.2.2⟩⟩, hk.2⟩)))); (case aB => exact bl0_); (case aF => exact (fun k_ hk => ⟨(.inr (Nat.le_trans (below_size bl0_) hk)), Kd.freshB (g := gb108) (o := .cells #[.slice Ao9 t110.length co9, .bool t113] 24 (0, 0)) (bq_ BK108.out) k_ hk, Kd.freshB (g := gb109) (o := .cells #[.slice none 0 0, .bool false] 24 (0, 0)) (bq_ BK109.out) k_ hk⟩)); (case aO => exact (Kd.N_below HO116.out bu_)); (case aS => exact (below_size bl0_)); (case aL => have := LMc3.out; omega); intro v118 w14 ho hb hg hat; rw [← Ny117.out] at ho; replace HO0_0 := Aside0.mk (Kd.V_afterv (ok := (fun k_ => (P0_0_ k_ ∨ w.heap.size ≤ k_) ∧ k_ ≠ gb108 ∧ k_ ≠ gb109)) (by (with_reducible repeat (first | apply Kd.V_alloc | apply Kd.V_drewN | apply Kd.V_drew)); exact Kd.V_mono HO0_0.out (fun _ hk => ⟨⟨hk.1.1.1, ⟨hk.1.1.2, hk.1.2⟩⟩, hk.2⟩)) hg hat); replace BK108 := Aside0.mk (blk_grown (g := gb108) (o := .cells #[.slice Ao9 t110.length co9, .bool t113] 24 (0, 0)) (bq_ BK108.out) hg (Kd.N_ne HO116.out BK108.out (by decide))); replace BK109 := Aside0.mk (blk_grown (g := gb109) (o := .cells #[.slice none 0 0, .bool false] 24 (0, 0)) (bq_ BK109.out) hg (Kd.N_ne HO116.out BK109.out (by decide))); replace HO112 := Aside0.mk (Kd.V_afterv (ok := (fun k_ => (P0_0_ k_ ∨ w.heap.size ≤ k_) ∧ k_ ≠ gb108 ∧ k_ ≠ gb109)) (Kd.V_below HO112.out bu_) hg hat); replace HB := Aside0.mk (hb); have HO119 := Aside0.mk (ho); clear HO116; clear ho hb hg hat))
    go_loopg [4] k (fun kq v4 w' => ∃ (x3_1 : List (S37)) (x4_1 : Int), v4 = .int .i64 x4_1 ∧ Aside0 (clerestorykeep1_brief.l0 kq x3_1 x4_1 t110 t113 = some (r1, r2)) ∧ Aside0 (kq ≤ k) ∧ Aside0 (Kd.N k37 37 w' w.heap.size (fun k_ => (P0_0_ k_ ∨ w.heap.size ≤ k_) ∧ k_ ≠ gb108 ∧ k_ ≠ gb109) v118 x3_1) ∧ Aside0 (Kd.V k37 37 w' w.heap.size (fun k_ => (P0_0_ k_ ∨ w.heap.size ≤ k_) ∧ some k_ ≠ (v118 : Value).ownBlock ∧ k_ ≠ gb108 ∧ k_ ≠ gb109) (.slice Ao9 t110.length co9) t110) ∧ Aside0 (w'.heap[gb108]? = some (.cells #[(.slice Ao9 t110.length co9), .bool t113] 24 (0, 0))) ∧ Aside0 (w'.heap[gb109]? = some (.cells #[(.slice none 0 0), .bool false] 24 (0, 0))) ∧ Aside0 (Below w.heap.size w w'))
    case atStart => exact ⟨(y117), (0), rs_, H', ⟨Nat.le_refl _⟩, ⟨by (with_reducible repeat (first | apply Kd.N_alloc | apply Kd.N_drewN | apply Kd.N_drew)); exact HO119.out⟩, ⟨by (with_reducible repeat (first | apply Kd.V_alloc | apply Kd.V_drewN | apply Kd.V_drew)); exact Kd.V_mono HO112.out (fun _ hk => ⟨hk.1.1, ⟨hk.2, ⟨hk.1.2.1, hk.1.2.2⟩⟩⟩)⟩, ⟨by (with_reducible repeat (first | refine blk_drewN ?_ _ | refine blk_drew ?_ | refine blk_alloc ?_ _)); exact BK108.out⟩, ⟨by (with_reducible repeat (first | refine blk_drewN ?_ _ | refine blk_drew ?_ | refine blk_alloc ?_ _)); exact BK109.out⟩, ⟨bl0_⟩⟩
    case round =>
      clear H'
      try clear hcz10_0
      try clear hcz10_1
      try clear hcz13_0
      try clear hcz13_1
      try clear hcz7_0
      try clear hcz7_1
      try clear hfz10_0
      try clear hfz10_1
      try clear hfz13_0
      try clear hfz13_1
      try clear hfz7_0
      try clear hfz7_1
      obtain ⟨x3_1, x4_1, rfl, HA, HK1, HO_3, HO_109000, BK108, BK109, HB⟩ := hrel
      cases gk with
      | zero => exact absurd HA.out (by simp [clerestorykeep1_brief.l0])
      | succ k1 =>
        have H := HA.out
        clear HA
        simp only [clerestorykeep1_brief.l0] at H
        by_cases c15 : x4_1 < (x3_1.length : Int)
        · rw [if_pos c15] at H
          have c15b0 : decide (x4_1 < (x3_1.length : Int)) = true := decide_eq_true c15
          clear c15
          by_cases c16 : 0 ≤ x4_1
          · rw [if_pos c16] at H
            have c16b0 : decide (0 ≤ x4_1) = true := decide_eq_true c16
            clear c16
            replace H := Option.bind_eq_some_iff.mp H
            obtain ⟨t121, A170, H⟩ := H
            replace H : (clerestorykeep1_brief.l0 k1 (x3_1.set (x4_1 : Int).toNat (⟨(rd_T37 x3_1 x4_1).f0, (rd_T37 x3_1 x4_1).f1, (rd_T37 x3_1 x4_1).f2, t121, (rd_T37 x3_1 x4_1).f4, (rd_T37 x3_1 x4_1).f5⟩ : S37)) (wrap64 (x4_1 + 1)) t110 t113) = some (r1, r2) := H
            have A17 := Aside0.mk A170
            clear A170
            obtain ⟨y122, hy122⟩ : ∃ y_ : List (S37), y_ = (x3_1.set (x4_1 : Int).toNat (⟨(rd_T37 x3_1 x4_1).f0, (rd_T37 x3_1 x4_1).f1, (rd_T37 x3_1 x4_1).f2, t121, (rd_T37 x3_1 x4_1).f4, (rd_T37 x3_1 x4_1).f5⟩ : S37)) := ⟨_, rfl⟩
            replace H : (clerestorykeep1_brief.l0 k1 y122 (wrap64 (x4_1 + 1)) t110 t113) = some (r1, r2) := by first | (rw [hy122]; with_reducible exact H) | (have H2_ := (Option.bind_some _ _).symm.trans H; rw [hy122]; with_reducible exact H2_) | (have H2_ := (Option.bind_some _ _).symm.trans H; with_reducible exact H2_) | with_reducible exact H | (rw [hy122]; exact H) | exact H
            have Ny122 := Aside0.mk hy122
            clear hy122
            have H' := Aside0.mk H
            clear H
            obtain ⟨Ao19, co19, eo19⟩ := Kd.N_slice HO_3.out
            subst eo19
            have p120 : 0 ≤ (x4_1 : Int) := of_decide_eq_true as_
            have q120 : x4_1 < (x3_1.length : Int) := of_decide_eq_true as_
            obtain ⟨ad120, A120_2, c120_2, A120_5, c120_5, e120, hx120_0, hx120_1, hx120_2, hx120_3, hx120_4, hx120_5, hl120_2, hi120_2, hl120_5, hi120_5⟩ := at_T37 (Kd.N_reads' HO_3.out).2.2 x4_1 p120 q120
            cases e120
            obtain ⟨ce120, hce120, hMe120, hcc120⟩ := Kd.N_get HO_3.out z37 x4_1 p120 (by first | exact q120 | exact of_decide_eq_true as_ | (have e_ := (Kd.N_reads' HO_3.out).1; omega))
            obtain ⟨ua120_2, uc120_2, ua120_5, uc120_5, rfl, ul120_2, ge120_2, ul120_5, ge120_5⟩ := k37_openF hMe120
            have hv120_2 := hcc120 2 _ rfl
            rw [add_field _ _ 2 (by omega)] at hv120_2
            replace hv120_2 := Option.some.inj (hv120_2.symm.trans hx120_2)
            injection hv120_2 with hva_ hvn_ hvc_
            rw [hva_] at ge120_2
            rw [hvc_] at ul120_2
            have HL120_2 := Aside0.mk (show Kd.V k65 65 _ w.heap.size _ _ ((rd_T37 x3_1 x4_1).f2) from Kd.V_mk ul120_2 ge120_2)
            clear hva_ hvn_ hvc_ ge120_2 ul120_2
            have hv120_5 := hcc120 5 _ rfl
            rw [add_field _ _ 5 (by omega)] at hv120_5
            replace hv120_5 := Option.some.inj (hv120_5.symm.trans hx120_5)
            injection hv120_5 with hva_ hvn_ hvc_
            rw [hva_] at ge120_5
            rw [hvc_] at ul120_5
            have HL120_5 := Aside0.mk (show Kd.V (Kd.int .i64) 3 _ w.heap.size _ _ ((rd_T37 x3_1 x4_1).f5) from Kd.V_mk ul120_5 ge120_5)
            clear hva_ hvn_ hvc_ ge120_5 ul120_5
            clear hcc120 hce120
            have HR120_2 := Aside0.mk hi120_2
            have HC120_2 := Aside0.mk hl120_2
            clear hi120_2 hl120_2
            have HR120_5 := Aside0.mk hi120_5
            have HC120_5 := Aside0.mk hl120_5
            clear hi120_5 hl120_5
            replace p120 := eq_true p120
            replace q120 := eq_true q120
            go_wp2_with (first | ((with_reducible refine gate_callee (f := 10) rfl ?_); refine goesL_ (some 24) rfl rfl Tryd.func10 (by kernel_rfl) rfl #[.string ((rd_T37 x3_1 x4_1).f3), .int .i64 30] rfl mp_ ?_; (with_reducible refine (clerestorykeep1_some.calls ((rd_T37 x3_1 x4_1).f3) 30 t121 _ A17.out).mono ?_); rintro e w20 ⟨rfl, hb⟩; refine ⟨_, rfl, ?_⟩; replace HO_3 := Aside0.mk (Kd.N_below (Kd.N_below HO_3.out bu_) hb); replace HO_109000 := Aside0.mk (Kd.V_below (Kd.V_below HO_109000.out bu_) hb); replace HL120_2 := Aside0.mk (Kd.V_below (Kd.V_below HL120_2.out bu_) hb); replace HL120_5 := Aside0.mk (Kd.V_below (Kd.V_below HL120_5.out bu_) hb); replace BK108 := bb_ BK108 hb; replace BK109 := bb_ BK109 hb; replace HR120_2 := Aside0.mk (Kd.C_below (Kd.C_below HR120_2.out bu_) hb); replace HR120_5 := Aside0.mk (Kd.C_below (Kd.C_below HR120_5.out bu_) hb); replace HB := Aside0.mk (below_step bl0_ hb); (try clear hb); (try clear hb2); (try clear hk); (try clear hi); have p18 : 0 ≤ (x4_1 : Int) := of_decide_eq_true as_; have q18 : (x4_1 : Int) < ((x3_1.length : Int) : Int) := of_decide_eq_true as_; obtain ⟨go18, co18, eo18, gb18, gl18, cl18, HG18⟩ := Kd.N_form HO_3.out (by omega); (first | cases eo18 | (injection eo18 with ea_ en_ ec_; (first | subst ea_ | (injection ea_ with ea_; subst ea_)); subst ec_; clear en_)); have GB18 := Aside0.mk gb18; have GG18 := Aside0.mk HG18; clear gb18 gl18 HG18; (first | simp only [add_plain] at hx120_0 | skip); (first | simp only [add_plain] at hx120_1 | skip); (first | simp only [add_plain] at hx120_2 | skip); (first | simp only [add_plain] at hx120_3 | skip); (first | simp only [add_plain] at hx120_4 | skip); (first | simp only [add_plain] at hx120_5 | skip); obtain ⟨ce18, hcl18, hM18, hcc18, hfr18⟩ := Kd.N_elem HO_3.out z37 (x4_1 : Int) p18 q18; obtain ⟨ua18_2, uc18_2, ua18_5, uc18_5, rfl, ul18_2, ge18_2, ul18_5, ge18_5⟩ := k37_openF hM18; have hx18_0 : w20.cell? ⟨go18, (x4_1 : Int).toNat * 6, none⟩ = some (.int .i64 ((rd_T37 x3_1 x4_1).f0)) := hcc18 0 _ rfl; have hx18_1 : w20.cell? ⟨go18, (x4_1 : Int).toNat * 6 + 1, none⟩ = some (.string ((rd_T37 x3_1 x4_1).f1)) := hcc18 1 _ rfl; have hx18_2 : w20.cell? ⟨go18, (x4_1 : Int).toNat * 6 + 2, none⟩ = some (.slice ua18_2 ((rd_T37 x3_1 x4_1).f2).length uc18_2) := hcc18 2 _ rfl; have hx18_3 : w20.cell? ⟨go18, (x4_1 : Int).toNat * 6 + 3, none⟩ = some (.string ((rd_T37 x3_1 x4_1).f3)) := hcc18 3 _ rfl; have hx18_4 : w20.cell? ⟨go18, (x4_1 : Int).toNat * 6 + 4, none⟩ = some (.int .i64 ((rd_T37 x3_1 x4_1).f4)) := hcc18 4 _ rfl; have hx18_5 : w20.cell? ⟨go18, (x4_1 : Int).toNat * 6 + 5, none⟩ = some (.slice ua18_5 ((rd_T37 x3_1 x4_1).f5).length uc18_5) := hcc18 5 _ rfl; have hf18_0 : w20.frozen? ⟨go18, (x4_1 : Int).toNat * 6, none⟩ = false := hfr18 0; have hf18_1 : w20.frozen? ⟨go18, (x4_1 : Int).toNat * 6 + 1, none⟩ = false := hfr18 1; have hf18_2 : w20.frozen? ⟨go18, (x4_1 : Int).toNat * 6 + 2, none⟩ = false := hfr18 2; have hf18_3 : w20.frozen? ⟨go18, (x4_1 : Int).toNat * 6 + 3, none⟩ = false := hfr18 3; have hf18_4 : w20.frozen? ⟨go18, (x4_1 : Int).toNat * 6 + 4, none⟩ = false := hfr18 4; have hf18_5 : w20.frozen? ⟨go18, (x4_1 : Int).toNat * 6 + 5, none⟩ = false := hfr18 5; clear hcl18 hcc18 hfr18 hM18; replace p18 := eq_true p18; replace q18 := eq_true q18; have HX21 := Aside0.mk (show Kd.N k37 37 w20 w.heap.size (fun k_ => (P0_0_ k_ ∨ w.heap.size ≤ k_) ∧ k_ ≠ gb108 ∧ k_ ≠ gb109) (.slice (some ⟨go18, 0, none⟩) x3_1.length co19) x3_1 from (Kd.N_below HO_3.out bu_)); obtain ⟨ce21, hcl21, hM21, hcc21, hfr21⟩ := Kd.N_elem HX21.out z37 (x4_1 : Int) (of_decide_eq_true as_) (by have h_ : (x4_1 : Int) < ((x3_1.length : Int) : Int) := of_decide_eq_true as_; first | exact h_ | (have e_ := (Kd.N_reads' HO_3.out).1; omega) | simpa using h_); obtain ⟨ua21_2, uc21_2, ua21_5, uc21_5, rfl, ul21_2, ge21_2, ul21_5, ge21_5⟩ := k37_openF hM21; have HP21 := Kd.N_seg HX21.out (x4_1 : Int) (of_decide_eq_true as_) (by have h_ : (x4_1 : Int) < ((x3_1.length : Int) : Int) := of_decide_eq_true as_; first | exact h_ | (have e_ := (Kd.N_reads' HO_3.out).1; omega) | simpa using h_) (seg := [.string t121]) (j := 3) hcl21 hcc21 (show 4 ≤ 6 from by decide) (x' := (⟨(rd_T37 x3_1 x4_1).f0, (rd_T37 x3_1 x4_1).f1, (rd_T37 x3_1 x4_1).f2, t121, (rd_T37 x3_1 x4_1).f4, (rd_T37 x3_1 x4_1).f5⟩ : S37)) (k37_mkF _ _ (⟨(rd_T37 x3_1 x4_1).f0, (rd_T37 x3_1 x4_1).f1, (rd_T37 x3_1 x4_1).f2, t121, (rd_T37 x3_1 x4_1).f4, (rd_T37 x3_1 x4_1).f5⟩ : S37) ul21_2 ge21_2 ul21_5 ge21_5) (fun _ hk => hk); have hx21_3 := hcc21 3 _ rfl; (try simp only [show (k37).sz = 6 from rfl, Nat.mul_one, Nat.add_zero] at hx21_3); have hf21_3 := hfr21 3; (try simp only [show (k37).sz = 6 from rfl, Nat.mul_one, Nat.add_zero] at hf21_3); clear hcl21 hcc21 hfr21 hM21) | ((with_reducible refine gate_store (t := 9) (p := 26) rfl ?_); refine store_event (t := 9) (p := 26) (v := ?vo_w22) (w1 := (w20.setCell ⟨go18, (x4_1 : Int).toNat * 6 + 3, none⟩ (.string t121))) ?hg ?ho ?hn ?hr ?_; (case ho => rfl); (case hg => rfl); (case hn => rfl); (case hr => first | (go_simp; done) | (go_simp; rfl)); intro w22 hw; have hg : w20.grownBy w22 (some go18) := (by rw [hw]; exact HP21.2); have hp_ : Kd.N k37 37 w22 w.heap.size (fun k_ => (P0_0_ k_ ∨ w.heap.size ≤ k_) ∧ k_ ≠ gb108 ∧ k_ ≠ gb109) (.slice (some ⟨go18, 0, none⟩) x3_1.length co19) y122 := (by rw [hw, Ny122.out]; exact HP21.1); clear HP21; replace HO_109000 := Aside0.mk (Kd.V_afterv (v := (.slice (some ⟨go18, 0, none⟩) x3_1.length co19)) (v1 := (.slice (some ⟨go18, 0, none⟩) x3_1.length co19)) (ok := (fun k_ => (P0_0_ k_ ∨ w.heap.size ≤ k_) ∧ k_ ≠ gb108 ∧ k_ ≠ gb109)) (by (with_reducible repeat (first | apply Kd.V_alloc | apply Kd.V_drewN | apply Kd.V_drew)); exact Kd.V_mono HO_109000.out (fun _ hk => ⟨⟨hk.1, ⟨hk.2.2.1, hk.2.2.2⟩⟩, hk.2.1⟩)) hg (.inl rfl)); replace BK108 := Aside0.mk (blk_grown (g := gb108) (o := .cells #[.slice Ao9 t110.length co9, .bool t113] 24 (0, 0)) (bq_ BK108.out) hg (Kd.N_ne HO_3.out BK108.out (by decide))); replace BK109 := Aside0.mk (blk_grown (g := gb109) (o := .cells #[.slice none 0 0, .bool false] 24 (0, 0)) (bq_ BK109.out) hg (Kd.N_ne HO_3.out BK109.out (by decide))); replace HO_3 := Aside0.mk hp_; replace HL120_2 := Aside0.mk (Kd.V_afterv (v := (.slice (some ⟨go18, 0, none⟩) x3_1.length co19)) (v1 := (.slice (some ⟨go18, 0, none⟩) x3_1.length co19)) (ok := (fun k_ => (P0_0_ k_ ∨ w.heap.size ≤ k_) ∧ k_ ≠ gb108 ∧ k_ ≠ gb109)) (Kd.V_below HL120_2.out bu_) hg (.inl rfl)); replace HL120_5 := Aside0.mk (Kd.V_afterv (v := (.slice (some ⟨go18, 0, none⟩) x3_1.length co19)) (v1 := (.slice (some ⟨go18, 0, none⟩) x3_1.length co19)) (ok := (fun k_ => (P0_0_ k_ ∨ w.heap.size ≤ k_) ∧ k_ ≠ gb108 ∧ k_ ≠ gb109)) (Kd.V_below HL120_5.out bu_) hg (.inl rfl)); replace HB := Aside0.mk ((by rw [hw]; exact below_set (HB.out) GB18.out : Below w.heap.size w w22)); clear hg hw hp_))
            go_roundg k1
            case measure => have := HK1.out; omega
            case rel => exact ⟨(y122), (wrap64 (x4_1 + 1)), rs_, H', ⟨by have := HK1.out; omega⟩, ⟨by (with_reducible repeat (first | apply Kd.N_alloc | apply Kd.N_drewN | apply Kd.N_drew)); exact HO_3.out⟩, ⟨by (with_reducible repeat (first | apply Kd.V_alloc | apply Kd.V_drewN | apply Kd.V_drew)); exact Kd.V_mono HO_109000.out (fun _ hk => ⟨hk.1.1, ⟨hk.2, ⟨hk.1.2.1, hk.1.2.2⟩⟩⟩)⟩, ⟨by (with_reducible repeat (first | refine blk_drewN ?_ _ | refine blk_drew ?_ | refine blk_alloc ?_ _)); exact BK108.out⟩, ⟨by (with_reducible repeat (first | refine blk_drewN ?_ _ | refine blk_drew ?_ | refine blk_alloc ?_ _)); exact BK109.out⟩, ⟨bl0_⟩⟩
          · rw [if_neg c16] at H
            exact absurd H (by simp)
        · rw [if_neg c15] at H
          have c15b0 : decide (x4_1 < (x3_1.length : Int)) = false := decide_eq_false c15
          clear c15
          simp only [Option.some.injEq, Prod.mk.injEq] at H
          obtain ⟨rfl, rfl⟩ := H
          obtain ⟨Ao23, co23, eo23⟩ := Kd.N_slice HO_3.out
          subst eo23
          have hnb24 := NB108_109.out
          have hnc24 := NB109_108.out
          obtain ⟨hcz25_0, hcz25_1, hfz25_0, hfz25_1⟩ := cf2_ BK108
          obtain ⟨hcz26_0, hcz26_1, hfz26_0, hfz26_1⟩ := cf2_ BK109
          go_wp2
          refine bodyPost_ret (results_cell_row rfl _ _ gb109 24 #[.slice Ao23 x3_1.length co23, .bool t113] (0, 0) _ rfl (bw_ BK109) Tryd.underlying24 rfl (by kernel_rfl)) rfl ?_
          exact ⟨_, er_, by (with_reducible repeat (first | apply Kd.N_alloc | apply Kd.N_drewN | apply Kd.N_drew)); exact Kd.N_mono (Kd.N_far (p := ⟨gb109, 1, none⟩) (Kd.N_far (p := ⟨gb109, 0, none⟩) (Kd.N_far (p := ⟨gb108, 0, none⟩) (Kd.N_mono (Kd.N_mono HO_3.out (fun k_ hk => (⟨hk, hk.2.1⟩ : _ ∧ k_ ≠ gb108))) (fun k_ hk => (⟨hk, hk.1.2.2⟩ : _ ∧ k_ ≠ gb109))) (fun _ hk => hk.1.2) (.slice Ao23 x3_1.length co23)) (fun _ hk => hk.2) (.slice Ao23 x3_1.length co23)) (fun _ hk => hk.2) (.bool t113)) (fun _ hk => hk.1.1.1), bl0_⟩
  · rw [if_neg c3] at H
    exact absurd H (by simp)

/-! ### dom_parent: function 41 -/
def dom_parent.f (a0 : Int) : Option (Bool) := if a0 = 1 then (some true) else (some (a0 == 2))
set_option maxHeartbeats 8000000 in
set_option maxRecDepth 100000 in
theorem dom_parent.calls (a0 : Int) (r : Bool) (w : World) (h : dom_parent.f a0 = some r) :
    Calls Tryd.prog 41 #[.int .i64 a0] w fun e w' => e = .returned (.bool r) ∧ Drawn0 w w' := by
  have H : (if a0 = 1 then (some true) else (some (a0 == 2))) = some r := h
  clear h
  by_cases c2 : a0 = 1
  · rw [if_pos c2] at H
    have c2b0 : (a0 == 1) = true := beq_iff_eq.mpr c2
    have c2b1 : (a0 != 1) = false := bne_eq_false_iff_eq.mpr c2
    clear c2
    obtain rfl := Option.some.inj H
    go_enter Tryd.func41, Tryd.ntmps41
    go_wp2
    go_ret
    exact ⟨by first | rfl | (simp; done) | (simp [*]; done), by repeat (first | exact Drawn0.refl _ | apply Drawn0.step)⟩
  · rw [if_neg c2] at H
    have c2b0 : (a0 == 1) = false := beq_eq_false_iff_ne.mpr c2
    have c2b1 : (a0 != 1) = true := bne_iff_ne.mpr c2
    obtain rfl := Option.some.inj H
    go_enter Tryd.func41, Tryd.ntmps41
    go_wp2
    go_ret
    exact ⟨by first | rfl | (simp; done) | (simp [*]; done), by repeat (first | exact Drawn0.refl _ | apply Drawn0.step)⟩

/-! ### dom_bare: function 28 -/
/-- Has a node nothing that its kind has not? -/
def bareB (kind : Int) (name : ByteArray) (attrs : Nat) (text : ByteArray) (kids : Nat) : Bool :=
  (kind == 2 || kind == 5 || name.toList.isEmpty) && (kind == 2 || attrs == 0) && (kind == 3 || kind == 4 || text.toList.isEmpty) && (kind == 1 || kind == 2 || kids == 0)
def dom_bare.f (a0_0 : Int) (a0_1 : ByteArray) (l0_2 : List S65) (a0_3 : ByteArray) (a0_4 : Int) (l0_5 : List Int) : Option Bool := some (bareB a0_0 a0_1 l0_2.length a0_3 l0_5.length)

set_option maxHeartbeats 2000000 in
set_option maxRecDepth 100000 in
theorem dom_bare.el (nm : ByteArray) (A : Option Addr) (n2 c2 : Nat) (tx : ByteArray) (pa : Int) (B : Option Addr) (n5 c5 : Nat) (w : World) (te : tx.toList = []) (te2 : tx.toList.isEmpty = true) :
    Calls Tryd.prog 28 #[.agg #[.int .i64 2, .string nm, .slice A n2 c2, .string tx, .int .i64 pa, .slice B n5 c5]] w fun e w' => e = .returned (.bool true) ∧ Below w.heap.size w w' := by
  have HP : Hid (∀ W, Calls Tryd.prog 41 #[.int .i64 2] W fun e w' => e = .returned (.bool true) ∧ Drawn0 W w') := Lib.hid (fun W => dom_parent.calls 2 true W (by rfl))
  have HB : Hid (Below w.heap.size w (w.alloc (.cells #[.int .i64 2, .string nm, .slice A n2 c2, .string tx, .int .i64 pa, .slice B n5 c5] 37))) := Lib.hid ((Below.refl _ w).alloc (Nat.le_refl _) _)
  go_enter Tryd.func28, Tryd.ntmps28
  go_wp2_with fail
  go_quiet (fail)
  go_wp2_with fail
  refine (HP.out _).mono ?_
  rintro e w1 ⟨rfl, hd⟩
  have HB1 : Hid (Below w.heap.size w w1) := Lib.hid ((pw_below_drewN HB.out _).trans (hd.below.mono (Nat.le_trans HB.out.size (Nat.le_refl _))))
  have hk5 := blk_cell (blk_below (blk_drewN (blk_new w (.cells #[.int .i64 2, .string nm, .slice A n2 c2, .string tx, .int .i64 pa, .slice B n5 c5] 37)) _) hd.below) 5
  simp only [List.getElem?_toArray, List.getElem?_cons_succ, List.getElem?_cons_zero] at hk5
  clear hd
  go_wp2_with fail
  go_ret
  exact ⟨rfl, HB1.out⟩

set_option maxHeartbeats 2000000 in
set_option maxRecDepth 100000 in
theorem dom_bare.el_t (nm : ByteArray) (A : Option Addr) (n2 c2 : Nat) (tx : ByteArray) (pa : Int) (B : Option Addr) (n5 c5 : Nat) (w : World) (te : ¬ tx.toList = []) (te2 : tx.toList.isEmpty = false) :
    Calls Tryd.prog 28 #[.agg #[.int .i64 2, .string nm, .slice A n2 c2, .string tx, .int .i64 pa, .slice B n5 c5]] w fun e w' => e = .returned (.bool false) ∧ Below w.heap.size w w' := by
  have HB : Hid (Below w.heap.size w (w.alloc (.cells #[.int .i64 2, .string nm, .slice A n2 c2, .string tx, .int .i64 pa, .slice B n5 c5] 37))) := Lib.hid ((Below.refl _ w).alloc (Nat.le_refl _) _)
  go_enter Tryd.func28, Tryd.ntmps28
  go_wp2_with fail
  go_quiet (fail)
  go_wp2_with fail
  go_ret
  exact ⟨rfl, pw_below_drewN HB.out _⟩

set_option maxHeartbeats 2000000 in
set_option maxRecDepth 100000 in
theorem dom_bare.t3_n (nm : ByteArray) (A : Option Addr) (n2 c2 : Nat) (tx : ByteArray) (pa : Int) (B : Option Addr) (n5 c5 : Nat) (w : World) (ne : ¬ nm.toList = []) (ne2 : nm.toList.isEmpty = false) :
    Calls Tryd.prog 28 #[.agg #[.int .i64 3, .string nm, .slice A n2 c2, .string tx, .int .i64 pa, .slice B n5 c5]] w fun e w' => e = .returned (.bool false) ∧ Below w.heap.size w w' := by
  have HB : Hid (Below w.heap.size w (w.alloc (.cells #[.int .i64 3, .string nm, .slice A n2 c2, .string tx, .int .i64 pa, .slice B n5 c5] 37))) := Lib.hid ((Below.refl _ w).alloc (Nat.le_refl _) _)
  go_enter Tryd.func28, Tryd.ntmps28
  go_wp2_with fail
  go_quiet (fail)
  go_wp2_with fail
  go_ret
  exact ⟨rfl, pw_below_drewN HB.out _⟩

set_option maxHeartbeats 2000000 in
set_option maxRecDepth 100000 in
theorem dom_bare.t3_a (nm : ByteArray) (A : Option Addr) (n2 c2 : Nat) (tx : ByteArray) (pa : Int) (B : Option Addr) (n5 c5 : Nat) (w : World) (ne : nm.toList = []) (ne2 : nm.toList.isEmpty = true) (ae : ((n2 : Int) == 0) = false) :
    Calls Tryd.prog 28 #[.agg #[.int .i64 3, .string nm, .slice A n2 c2, .string tx, .int .i64 pa, .slice B n5 c5]] w fun e w' => e = .returned (.bool false) ∧ Below w.heap.size w w' := by
  have HB : Hid (Below w.heap.size w (w.alloc (.cells #[.int .i64 3, .string nm, .slice A n2 c2, .string tx, .int .i64 pa, .slice B n5 c5] 37))) := Lib.hid ((Below.refl _ w).alloc (Nat.le_refl _) _)
  go_enter Tryd.func28, Tryd.ntmps28
  go_wp2_with fail
  go_quiet (fail)
  go_wp2_with fail
  go_ret
  exact ⟨rfl, pw_below_drewN HB.out _⟩

set_option maxHeartbeats 2000000 in
set_option maxRecDepth 100000 in
theorem dom_bare.t3 (nm : ByteArray) (A : Option Addr) (n2 c2 : Nat) (tx : ByteArray) (pa : Int) (B : Option Addr) (n5 c5 : Nat) (w : World) (ne : nm.toList = []) (ne2 : nm.toList.isEmpty = true) (ae : ((n2 : Int) == 0) = true) :
    Calls Tryd.prog 28 #[.agg #[.int .i64 3, .string nm, .slice A n2 c2, .string tx, .int .i64 pa, .slice B n5 c5]] w fun e w' => e = .returned (.bool ((n5 : Int) == 0)) ∧ Below w.heap.size w w' := by
  have HP : Hid (∀ W, Calls Tryd.prog 41 #[.int .i64 3] W fun e w' => e = .returned (.bool false) ∧ Drawn0 W w') := Lib.hid (fun W => dom_parent.calls 3 false W (by rfl))
  have HB : Hid (Below w.heap.size w (w.alloc (.cells #[.int .i64 3, .string nm, .slice A n2 c2, .string tx, .int .i64 pa, .slice B n5 c5] 37))) := Lib.hid ((Below.refl _ w).alloc (Nat.le_refl _) _)
  go_enter Tryd.func28, Tryd.ntmps28
  go_wp2_with fail
  go_quiet (fail)
  go_wp2_with fail
  refine (HP.out _).mono ?_
  rintro e w1 ⟨rfl, hd⟩
  have HB1 : Hid (Below w.heap.size w w1) := Lib.hid ((pw_below_drewN HB.out _).trans (hd.below.mono (Nat.le_trans HB.out.size (Nat.le_refl _))))
  have hk5 := blk_cell (blk_below (blk_drewN (blk_new w (.cells #[.int .i64 3, .string nm, .slice A n2 c2, .string tx, .int .i64 pa, .slice B n5 c5] 37)) _) hd.below) 5
  simp only [List.getElem?_toArray, List.getElem?_cons_succ, List.getElem?_cons_zero] at hk5
  clear hd
  go_wp2_with fail
  go_ret
  exact ⟨rfl, HB1.out⟩

set_option maxHeartbeats 2000000 in
set_option maxRecDepth 100000 in
theorem dom_bare.t4_n (nm : ByteArray) (A : Option Addr) (n2 c2 : Nat) (tx : ByteArray) (pa : Int) (B : Option Addr) (n5 c5 : Nat) (w : World) (ne : ¬ nm.toList = []) (ne2 : nm.toList.isEmpty = false) :
    Calls Tryd.prog 28 #[.agg #[.int .i64 4, .string nm, .slice A n2 c2, .string tx, .int .i64 pa, .slice B n5 c5]] w fun e w' => e = .returned (.bool false) ∧ Below w.heap.size w w' := by
  have HB : Hid (Below w.heap.size w (w.alloc (.cells #[.int .i64 4, .string nm, .slice A n2 c2, .string tx, .int .i64 pa, .slice B n5 c5] 37))) := Lib.hid ((Below.refl _ w).alloc (Nat.le_refl _) _)
  go_enter Tryd.func28, Tryd.ntmps28
  go_wp2_with fail
  go_quiet (fail)
  go_wp2_with fail
  go_ret
  exact ⟨rfl, pw_below_drewN HB.out _⟩

set_option maxHeartbeats 2000000 in
set_option maxRecDepth 100000 in
theorem dom_bare.t4_a (nm : ByteArray) (A : Option Addr) (n2 c2 : Nat) (tx : ByteArray) (pa : Int) (B : Option Addr) (n5 c5 : Nat) (w : World) (ne : nm.toList = []) (ne2 : nm.toList.isEmpty = true) (ae : ((n2 : Int) == 0) = false) :
    Calls Tryd.prog 28 #[.agg #[.int .i64 4, .string nm, .slice A n2 c2, .string tx, .int .i64 pa, .slice B n5 c5]] w fun e w' => e = .returned (.bool false) ∧ Below w.heap.size w w' := by
  have HB : Hid (Below w.heap.size w (w.alloc (.cells #[.int .i64 4, .string nm, .slice A n2 c2, .string tx, .int .i64 pa, .slice B n5 c5] 37))) := Lib.hid ((Below.refl _ w).alloc (Nat.le_refl _) _)
  go_enter Tryd.func28, Tryd.ntmps28
  go_wp2_with fail
  go_quiet (fail)
  go_wp2_with fail
  go_ret
  exact ⟨rfl, pw_below_drewN HB.out _⟩

set_option maxHeartbeats 2000000 in
set_option maxRecDepth 100000 in
theorem dom_bare.t4 (nm : ByteArray) (A : Option Addr) (n2 c2 : Nat) (tx : ByteArray) (pa : Int) (B : Option Addr) (n5 c5 : Nat) (w : World) (ne : nm.toList = []) (ne2 : nm.toList.isEmpty = true) (ae : ((n2 : Int) == 0) = true) :
    Calls Tryd.prog 28 #[.agg #[.int .i64 4, .string nm, .slice A n2 c2, .string tx, .int .i64 pa, .slice B n5 c5]] w fun e w' => e = .returned (.bool ((n5 : Int) == 0)) ∧ Below w.heap.size w w' := by
  have HP : Hid (∀ W, Calls Tryd.prog 41 #[.int .i64 4] W fun e w' => e = .returned (.bool false) ∧ Drawn0 W w') := Lib.hid (fun W => dom_parent.calls 4 false W (by rfl))
  have HB : Hid (Below w.heap.size w (w.alloc (.cells #[.int .i64 4, .string nm, .slice A n2 c2, .string tx, .int .i64 pa, .slice B n5 c5] 37))) := Lib.hid ((Below.refl _ w).alloc (Nat.le_refl _) _)
  go_enter Tryd.func28, Tryd.ntmps28
  go_wp2_with fail
  go_quiet (fail)
  go_wp2_with fail
  refine (HP.out _).mono ?_
  rintro e w1 ⟨rfl, hd⟩
  have HB1 : Hid (Below w.heap.size w w1) := Lib.hid ((pw_below_drewN HB.out _).trans (hd.below.mono (Nat.le_trans HB.out.size (Nat.le_refl _))))
  have hk5 := blk_cell (blk_below (blk_drewN (blk_new w (.cells #[.int .i64 4, .string nm, .slice A n2 c2, .string tx, .int .i64 pa, .slice B n5 c5] 37)) _) hd.below) 5
  simp only [List.getElem?_toArray, List.getElem?_cons_succ, List.getElem?_cons_zero] at hk5
  clear hd
  go_wp2_with fail
  go_ret
  exact ⟨rfl, HB1.out⟩

set_option maxHeartbeats 2000000 in
set_option maxRecDepth 100000 in
theorem dom_bare.d_a (nm : ByteArray) (A : Option Addr) (n2 c2 : Nat) (tx : ByteArray) (pa : Int) (B : Option Addr) (n5 c5 : Nat) (w : World) (ae : ((n2 : Int) == 0) = false) :
    Calls Tryd.prog 28 #[.agg #[.int .i64 5, .string nm, .slice A n2 c2, .string tx, .int .i64 pa, .slice B n5 c5]] w fun e w' => e = .returned (.bool false) ∧ Below w.heap.size w w' := by
  have HB : Hid (Below w.heap.size w (w.alloc (.cells #[.int .i64 5, .string nm, .slice A n2 c2, .string tx, .int .i64 pa, .slice B n5 c5] 37))) := Lib.hid ((Below.refl _ w).alloc (Nat.le_refl _) _)
  go_enter Tryd.func28, Tryd.ntmps28
  go_wp2_with fail
  go_quiet (fail)
  go_wp2_with fail
  go_ret
  exact ⟨rfl, pw_below_drewN HB.out _⟩

set_option maxHeartbeats 2000000 in
set_option maxRecDepth 100000 in
theorem dom_bare.d_t (nm : ByteArray) (A : Option Addr) (n2 c2 : Nat) (tx : ByteArray) (pa : Int) (B : Option Addr) (n5 c5 : Nat) (w : World) (ae : ((n2 : Int) == 0) = true) (te : ¬ tx.toList = []) (te2 : tx.toList.isEmpty = false) :
    Calls Tryd.prog 28 #[.agg #[.int .i64 5, .string nm, .slice A n2 c2, .string tx, .int .i64 pa, .slice B n5 c5]] w fun e w' => e = .returned (.bool false) ∧ Below w.heap.size w w' := by
  have HB : Hid (Below w.heap.size w (w.alloc (.cells #[.int .i64 5, .string nm, .slice A n2 c2, .string tx, .int .i64 pa, .slice B n5 c5] 37))) := Lib.hid ((Below.refl _ w).alloc (Nat.le_refl _) _)
  go_enter Tryd.func28, Tryd.ntmps28
  go_wp2_with fail
  go_quiet (fail)
  go_wp2_with fail
  go_ret
  exact ⟨rfl, pw_below_drewN HB.out _⟩

set_option maxHeartbeats 2000000 in
set_option maxRecDepth 100000 in
theorem dom_bare.d (nm : ByteArray) (A : Option Addr) (n2 c2 : Nat) (tx : ByteArray) (pa : Int) (B : Option Addr) (n5 c5 : Nat) (w : World) (ae : ((n2 : Int) == 0) = true) (te : tx.toList = []) (te2 : tx.toList.isEmpty = true) :
    Calls Tryd.prog 28 #[.agg #[.int .i64 5, .string nm, .slice A n2 c2, .string tx, .int .i64 pa, .slice B n5 c5]] w fun e w' => e = .returned (.bool ((n5 : Int) == 0)) ∧ Below w.heap.size w w' := by
  have HP : Hid (∀ W, Calls Tryd.prog 41 #[.int .i64 5] W fun e w' => e = .returned (.bool false) ∧ Drawn0 W w') := Lib.hid (fun W => dom_parent.calls 5 false W (by rfl))
  have HB : Hid (Below w.heap.size w (w.alloc (.cells #[.int .i64 5, .string nm, .slice A n2 c2, .string tx, .int .i64 pa, .slice B n5 c5] 37))) := Lib.hid ((Below.refl _ w).alloc (Nat.le_refl _) _)
  go_enter Tryd.func28, Tryd.ntmps28
  go_wp2_with fail
  go_quiet (fail)
  go_wp2_with fail
  refine (HP.out _).mono ?_
  rintro e w1 ⟨rfl, hd⟩
  have HB1 : Hid (Below w.heap.size w w1) := Lib.hid ((pw_below_drewN HB.out _).trans (hd.below.mono (Nat.le_trans HB.out.size (Nat.le_refl _))))
  have hk5 := blk_cell (blk_below (blk_drewN (blk_new w (.cells #[.int .i64 5, .string nm, .slice A n2 c2, .string tx, .int .i64 pa, .slice B n5 c5] 37)) _) hd.below) 5
  simp only [List.getElem?_toArray, List.getElem?_cons_succ, List.getElem?_cons_zero] at hk5
  clear hd
  go_wp2_with fail
  go_ret
  exact ⟨rfl, HB1.out⟩

set_option maxHeartbeats 2000000 in
set_option maxRecDepth 100000 in
theorem dom_bare.r (nm : ByteArray) (A : Option Addr) (n2 c2 : Nat) (tx : ByteArray) (pa : Int) (B : Option Addr) (n5 c5 : Nat) (w : World) (ne : nm.toList = []) (ne2 : nm.toList.isEmpty = true) (ae : ((n2 : Int) == 0) = true) (te : tx.toList = []) (te2 : tx.toList.isEmpty = true) :
    Calls Tryd.prog 28 #[.agg #[.int .i64 1, .string nm, .slice A n2 c2, .string tx, .int .i64 pa, .slice B n5 c5]] w fun e w' => e = .returned (.bool true) ∧ Below w.heap.size w w' := by
  have HP : Hid (∀ W, Calls Tryd.prog 41 #[.int .i64 1] W fun e w' => e = .returned (.bool true) ∧ Drawn0 W w') := Lib.hid (fun W => dom_parent.calls 1 true W (by rfl))
  have HB : Hid (Below w.heap.size w (w.alloc (.cells #[.int .i64 1, .string nm, .slice A n2 c2, .string tx, .int .i64 pa, .slice B n5 c5] 37))) := Lib.hid ((Below.refl _ w).alloc (Nat.le_refl _) _)
  go_enter Tryd.func28, Tryd.ntmps28
  go_wp2_with fail
  go_quiet (fail)
  go_wp2_with fail
  refine (HP.out _).mono ?_
  rintro e w1 ⟨rfl, hd⟩
  have HB1 : Hid (Below w.heap.size w w1) := Lib.hid ((pw_below_drewN HB.out _).trans (hd.below.mono (Nat.le_trans HB.out.size (Nat.le_refl _))))
  have hk5 := blk_cell (blk_below (blk_drewN (blk_new w (.cells #[.int .i64 1, .string nm, .slice A n2 c2, .string tx, .int .i64 pa, .slice B n5 c5] 37)) _) hd.below) 5
  simp only [List.getElem?_toArray, List.getElem?_cons_succ, List.getElem?_cons_zero] at hk5
  clear hd
  go_wp2_with fail
  go_ret
  exact ⟨rfl, HB1.out⟩

set_option maxHeartbeats 2000000 in
set_option maxRecDepth 100000 in
theorem dom_bare.o_n (kd : Int) (nm : ByteArray) (A : Option Addr) (n2 c2 : Nat) (tx : ByteArray) (pa : Int) (B : Option Addr) (n5 c5 : Nat) (w : World) (k2 : (kd == 2) = false) (k3 : (kd == 3) = false) (k4 : (kd == 4) = false) (k5 : (kd == 5) = false) (ne : ¬ nm.toList = []) (ne2 : nm.toList.isEmpty = false) :
    Calls Tryd.prog 28 #[.agg #[.int .i64 kd, .string nm, .slice A n2 c2, .string tx, .int .i64 pa, .slice B n5 c5]] w fun e w' => e = .returned (.bool false) ∧ Below w.heap.size w w' := by
  have HB : Hid (Below w.heap.size w (w.alloc (.cells #[.int .i64 kd, .string nm, .slice A n2 c2, .string tx, .int .i64 pa, .slice B n5 c5] 37))) := Lib.hid ((Below.refl _ w).alloc (Nat.le_refl _) _)
  go_enter Tryd.func28, Tryd.ntmps28
  go_wp2_with fail
  go_quiet (fail)
  go_wp2_with fail
  go_ret
  exact ⟨rfl, pw_below_drewN HB.out _⟩

set_option maxHeartbeats 2000000 in
set_option maxRecDepth 100000 in
theorem dom_bare.o_a (kd : Int) (nm : ByteArray) (A : Option Addr) (n2 c2 : Nat) (tx : ByteArray) (pa : Int) (B : Option Addr) (n5 c5 : Nat) (w : World) (k2 : (kd == 2) = false) (k3 : (kd == 3) = false) (k4 : (kd == 4) = false) (k5 : (kd == 5) = false) (ne : nm.toList = []) (ne2 : nm.toList.isEmpty = true) (ae : ((n2 : Int) == 0) = false) :
    Calls Tryd.prog 28 #[.agg #[.int .i64 kd, .string nm, .slice A n2 c2, .string tx, .int .i64 pa, .slice B n5 c5]] w fun e w' => e = .returned (.bool false) ∧ Below w.heap.size w w' := by
  have HB : Hid (Below w.heap.size w (w.alloc (.cells #[.int .i64 kd, .string nm, .slice A n2 c2, .string tx, .int .i64 pa, .slice B n5 c5] 37))) := Lib.hid ((Below.refl _ w).alloc (Nat.le_refl _) _)
  go_enter Tryd.func28, Tryd.ntmps28
  go_wp2_with fail
  go_quiet (fail)
  go_wp2_with fail
  go_ret
  exact ⟨rfl, pw_below_drewN HB.out _⟩

set_option maxHeartbeats 2000000 in
set_option maxRecDepth 100000 in
theorem dom_bare.o_t (kd : Int) (nm : ByteArray) (A : Option Addr) (n2 c2 : Nat) (tx : ByteArray) (pa : Int) (B : Option Addr) (n5 c5 : Nat) (w : World) (k2 : (kd == 2) = false) (k3 : (kd == 3) = false) (k4 : (kd == 4) = false) (k5 : (kd == 5) = false) (ne : nm.toList = []) (ne2 : nm.toList.isEmpty = true) (ae : ((n2 : Int) == 0) = true) (te : ¬ tx.toList = []) (te2 : tx.toList.isEmpty = false) :
    Calls Tryd.prog 28 #[.agg #[.int .i64 kd, .string nm, .slice A n2 c2, .string tx, .int .i64 pa, .slice B n5 c5]] w fun e w' => e = .returned (.bool false) ∧ Below w.heap.size w w' := by
  have HB : Hid (Below w.heap.size w (w.alloc (.cells #[.int .i64 kd, .string nm, .slice A n2 c2, .string tx, .int .i64 pa, .slice B n5 c5] 37))) := Lib.hid ((Below.refl _ w).alloc (Nat.le_refl _) _)
  go_enter Tryd.func28, Tryd.ntmps28
  go_wp2_with fail
  go_quiet (fail)
  go_wp2_with fail
  go_ret
  exact ⟨rfl, pw_below_drewN HB.out _⟩

set_option maxHeartbeats 2000000 in
set_option maxRecDepth 100000 in
theorem dom_bare.o (kd : Int) (nm : ByteArray) (A : Option Addr) (n2 c2 : Nat) (tx : ByteArray) (pa : Int) (B : Option Addr) (n5 c5 : Nat) (w : World) (k1 : ¬ kd = 1) (k2 : (kd == 2) = false) (k3 : (kd == 3) = false) (k4 : (kd == 4) = false) (k5 : (kd == 5) = false) (ne : nm.toList = []) (ne2 : nm.toList.isEmpty = true) (ae : ((n2 : Int) == 0) = true) (te : tx.toList = []) (te2 : tx.toList.isEmpty = true) :
    Calls Tryd.prog 28 #[.agg #[.int .i64 kd, .string nm, .slice A n2 c2, .string tx, .int .i64 pa, .slice B n5 c5]] w fun e w' => e = .returned (.bool ((n5 : Int) == 0)) ∧ Below w.heap.size w w' := by
  have HP : Hid (∀ W, Calls Tryd.prog 41 #[.int .i64 kd] W fun e w' => e = .returned (.bool false) ∧ Drawn0 W w') := Lib.hid (fun W => dom_parent.calls kd false W (by unfold dom_parent.f; rw [if_neg k1]; simpa using k2))
  have HB : Hid (Below w.heap.size w (w.alloc (.cells #[.int .i64 kd, .string nm, .slice A n2 c2, .string tx, .int .i64 pa, .slice B n5 c5] 37))) := Lib.hid ((Below.refl _ w).alloc (Nat.le_refl _) _)
  go_enter Tryd.func28, Tryd.ntmps28
  go_wp2_with fail
  go_quiet (fail)
  go_wp2_with fail
  refine (HP.out _).mono ?_
  rintro e w1 ⟨rfl, hd⟩
  have HB1 : Hid (Below w.heap.size w w1) := Lib.hid ((pw_below_drewN HB.out _).trans (hd.below.mono (Nat.le_trans HB.out.size (Nat.le_refl _))))
  have hk5 := blk_cell (blk_below (blk_drewN (blk_new w (.cells #[.int .i64 kd, .string nm, .slice A n2 c2, .string tx, .int .i64 pa, .slice B n5 c5] 37)) _) hd.below) 5
  simp only [List.getElem?_toArray, List.getElem?_cons_succ, List.getElem?_cons_zero] at hk5
  clear hd
  go_wp2_with fail
  go_ret
  exact ⟨rfl, HB1.out⟩

theorem dom_bare.calls (a0_0 : Int) (a0_1 : ByteArray) (A0_2 : Option Addr) (c0_2 : Nat) (l0_2 : List S65) (a0_3 : ByteArray) (a0_4 : Int) (A0_5 : Option Addr) (c0_5 : Nat) (l0_5 : List Int) (r : Bool) (w : World) (hr0_2 : Kd.C k65 w A0_2 l0_2.length l0_2) (hc0_2 : l0_2.length ≤ c0_2) (hr0_5 : Kd.C (Kd.int .i64) w A0_5 l0_5.length l0_5) (hc0_5 : l0_5.length ≤ c0_5) (h : dom_bare.f a0_0 a0_1 l0_2 a0_3 a0_4 l0_5 = some r) :
    Calls Tryd.prog 28 #[.agg #[.int .i64 a0_0, .string a0_1, .slice A0_2 l0_2.length c0_2, .string a0_3, .int .i64 a0_4, .slice A0_5 l0_5.length c0_5]] w fun e w' => e = .returned (.bool r) ∧ Below w.heap.size w w' := by
  obtain rfl := Option.some.inj h
  clear h hr0_2 hr0_5 hc0_2 hc0_5
  generalize l0_2.length = n2
  generalize l0_5.length = n5
  have emp : ∀ s : ByteArray, (s.toList = [] ∧ s.toList.isEmpty = true) ∨ (¬ s.toList = [] ∧ s.toList.isEmpty = false) := fun s => by
    cases s.toList with
    | nil => exact .inl ⟨rfl, rfl⟩
    | cons _ _ => exact .inr ⟨by simp, rfl⟩
  have zer : ∀ n : Nat, (((n : Int) == 0) = true ∧ n = 0) ∨ (((n : Int) == 0) = false ∧ ¬ n = 0) := fun n => by
    by_cases e : n = 0
    · exact .inl ⟨by simp [e], e⟩
    · exact .inr ⟨by simp [e], e⟩
  have kz : ∀ b : Bool, b = ((n5 : Int) == 0) → b = (n5 == 0) := fun b hb => by
    rw [hb]
    rcases zer n5 with ⟨e1, e2⟩ | ⟨e1, e2⟩
    · rw [e1, e2]; rfl
    · rw [e1]; simpa using e2
  have fin : ∀ {v : Bool} {P : Ending → World → Prop}, (∀ e w', P e w' ↔ e = .returned (.bool v) ∧ Below w.heap.size w w') → bareB a0_0 a0_1 n2 a0_3 n5 = v → ∀ {e : Ending} {w' : World}, P e w' → e = .returned (.bool (bareB a0_0 a0_1 n2 a0_3 n5)) ∧ Below w.heap.size w w' := fun hP hv e w' h => by
    rw [hv]; exact (hP e w').1 h
  by_cases k2 : a0_0 = 2
  · subst k2
    rcases emp a0_3 with ⟨e1, e2⟩ | ⟨e1, e2⟩
    · exact (dom_bare.el a0_1 A0_2 n2 c0_2 a0_3 a0_4 A0_5 n5 c0_5 w e1 e2).mono fun _ _ h => fin (fun _ _ => Iff.rfl) (by simp [bareB, e2]) h
    · exact (dom_bare.el_t a0_1 A0_2 n2 c0_2 a0_3 a0_4 A0_5 n5 c0_5 w e1 e2).mono fun _ _ h => fin (fun _ _ => Iff.rfl) (by simp [bareB, e2]) h
  by_cases k3 : a0_0 = 3
  · subst k3
    rcases emp a0_1 with ⟨e1, e2⟩ | ⟨e1, e2⟩
    · rcases zer n2 with ⟨e3, e4⟩ | ⟨e3, e4⟩
      · exact (dom_bare.t3 a0_1 A0_2 n2 c0_2 a0_3 a0_4 A0_5 n5 c0_5 w e1 e2 e3).mono fun _ _ h => fin (fun _ _ => Iff.rfl) (by rw [kz ((n5 : Int) == 0) rfl]; simp [bareB, e2, e4]) h
      · exact (dom_bare.t3_a a0_1 A0_2 n2 c0_2 a0_3 a0_4 A0_5 n5 c0_5 w e1 e2 e3).mono fun _ _ h => fin (fun _ _ => Iff.rfl) (by simp [bareB, e2, e4]) h
    · exact (dom_bare.t3_n a0_1 A0_2 n2 c0_2 a0_3 a0_4 A0_5 n5 c0_5 w e1 e2).mono fun _ _ h => fin (fun _ _ => Iff.rfl) (by simp [bareB, e2]) h
  by_cases k4 : a0_0 = 4
  · subst k4
    rcases emp a0_1 with ⟨e1, e2⟩ | ⟨e1, e2⟩
    · rcases zer n2 with ⟨e3, e4⟩ | ⟨e3, e4⟩
      · exact (dom_bare.t4 a0_1 A0_2 n2 c0_2 a0_3 a0_4 A0_5 n5 c0_5 w e1 e2 e3).mono fun _ _ h => fin (fun _ _ => Iff.rfl) (by rw [kz ((n5 : Int) == 0) rfl]; simp [bareB, e2, e4]) h
      · exact (dom_bare.t4_a a0_1 A0_2 n2 c0_2 a0_3 a0_4 A0_5 n5 c0_5 w e1 e2 e3).mono fun _ _ h => fin (fun _ _ => Iff.rfl) (by simp [bareB, e2, e4]) h
    · exact (dom_bare.t4_n a0_1 A0_2 n2 c0_2 a0_3 a0_4 A0_5 n5 c0_5 w e1 e2).mono fun _ _ h => fin (fun _ _ => Iff.rfl) (by simp [bareB, e2]) h
  by_cases k5 : a0_0 = 5
  · subst k5
    rcases zer n2 with ⟨e3, e4⟩ | ⟨e3, e4⟩
    · rcases emp a0_3 with ⟨e1, e2⟩ | ⟨e1, e2⟩
      · exact (dom_bare.d a0_1 A0_2 n2 c0_2 a0_3 a0_4 A0_5 n5 c0_5 w e3 e1 e2).mono fun _ _ h => fin (fun _ _ => Iff.rfl) (by rw [kz ((n5 : Int) == 0) rfl]; simp [bareB, e2, e4]) h
      · exact (dom_bare.d_t a0_1 A0_2 n2 c0_2 a0_3 a0_4 A0_5 n5 c0_5 w e3 e1 e2).mono fun _ _ h => fin (fun _ _ => Iff.rfl) (by simp [bareB, e2, e4]) h
    · exact (dom_bare.d_a a0_1 A0_2 n2 c0_2 a0_3 a0_4 A0_5 n5 c0_5 w e3).mono fun _ _ h => fin (fun _ _ => Iff.rfl) (by simp [bareB, e4]) h
  have b2 : (a0_0 == 2) = false := by simpa using k2
  have b3 : (a0_0 == 3) = false := by simpa using k3
  have b4 : (a0_0 == 4) = false := by simpa using k4
  have b5 : (a0_0 == 5) = false := by simpa using k5
  rcases emp a0_1 with ⟨e1, e2⟩ | ⟨e1, e2⟩
  · rcases zer n2 with ⟨e3, e4⟩ | ⟨e3, e4⟩
    · rcases emp a0_3 with ⟨e5, e6⟩ | ⟨e5, e6⟩
      · by_cases k1 : a0_0 = 1
        · subst k1
          exact (dom_bare.r a0_1 A0_2 n2 c0_2 a0_3 a0_4 A0_5 n5 c0_5 w e1 e2 e3 e5 e6).mono fun _ _ h => fin (fun _ _ => Iff.rfl) (by simp [bareB, e2, e4, e6]) h
        · have b1 : (a0_0 == 1) = false := by simpa using k1
          exact (dom_bare.o a0_0 a0_1 A0_2 n2 c0_2 a0_3 a0_4 A0_5 n5 c0_5 w k1 b2 b3 b4 b5 e1 e2 e3 e5 e6).mono fun _ _ h => fin (fun _ _ => Iff.rfl) (by rw [kz ((n5 : Int) == 0) rfl]; simp [bareB, e2, e4, e6, b1, b2]) h
      · exact (dom_bare.o_t a0_0 a0_1 A0_2 n2 c0_2 a0_3 a0_4 A0_5 n5 c0_5 w b2 b3 b4 b5 e1 e2 e3 e5 e6).mono fun _ _ h => fin (fun _ _ => Iff.rfl) (by simp [bareB, e6, b3, b4]) h
    · exact (dom_bare.o_a a0_0 a0_1 A0_2 n2 c0_2 a0_3 a0_4 A0_5 n5 c0_5 w b2 b3 b4 b5 e1 e2 e3).mono fun _ _ h => fin (fun _ _ => Iff.rfl) (by simp [bareB, e4, b2]) h
  · exact (dom_bare.o_n a0_0 a0_1 A0_2 n2 c0_2 a0_3 a0_4 A0_5 n5 c0_5 w b2 b3 b4 b5 e1 e2).mono fun _ _ h => fin (fun _ _ => Iff.rfl) (by simp [bareB, e2, b2, b5]) h

/-! ### dom_named: function 42 -/
def signsL : List UInt8 := [97, 98, 99, 100, 101, 102, 103, 104, 105, 106, 107, 108, 109, 110, 111, 112, 113, 114, 115, 116, 117, 118, 119, 120, 121, 122, 48, 49, 50, 51, 52, 53, 54, 55, 56, 57, 45, 95, 58]
/-- A name: at most 40 signs of those that may be, the first one of some. -/
def namedB (s first : ByteArray) : Bool := match s.data.toList with
  | [] => false
  | b :: l => decide ((b :: l).length ≤ 40) && first.data.toList.contains b && (b :: l).all (signsL.contains ·)
def dom_named.f (a0 a1 : ByteArray) : Option Bool := some (namedB a0 a1)
theorem indexByte_neg (l : List UInt8) (c : UInt8) : -1 ≤ Lib.indexByte l c ∧ (Lib.indexByte l c < 0 ↔ l.contains c = false) := by
  induction l with
  | nil => simp [Lib.indexByte]
  | cons b l ih =>
    simp only [Lib.indexByte, List.contains_cons]
    by_cases e : b = c
    · subst e; simp
    · have e1 : (b == c) = false := by simpa using e
      have e2 : (c == b) = false := by simpa using fun h => e h.symm
      rw [e1, e2]
      by_cases h : Lib.indexByte l c = -1
      · rw [h]; simp; have := ih.2.1 (by omega); simpa using this
      · have h1 : (Lib.indexByte l c == -1) = false := by simpa using h
        rw [h1]
        simp only [Bool.false_or, Bool.false_eq_true, if_false]
        have h2 : ¬ Lib.indexByte l c < 0 := by have := ih.1; omega
        have h3 := mt ih.2.2 h2
        refine ⟨by omega, fun h => by omega, fun h => absurd h h3⟩
theorem dropWhile_nil {α : Type} (p : α → Bool) : ∀ l : List α, l.dropWhile p = [] ↔ ∀ x ∈ l, p x = true
  | [] => by simp
  | x :: l => by
    rw [List.dropWhile_cons]
    by_cases h : p x = true
    · rw [if_pos h, dropWhile_nil p l]; simp [h]
    · rw [if_neg h]; simp [h]
theorem mem_takeWhile {α : Type} {p : α → Bool} : ∀ {l : List α} {x : α}, x ∈ l.takeWhile p → p x = true
  | [], _, h => by simp at h
  | y :: l, x, h => by
    rw [List.takeWhile_cons] at h
    by_cases hy : p y = true
    · rw [if_pos hy] at h
      rcases List.mem_cons.1 h with rfl | h
      · exact hy
      · exact mem_takeWhile h
    · rw [if_neg hy] at h; simp at h
theorem trimS_nil (l cs : List UInt8) : Lib.trimS l cs = [] ↔ l.all (cs.contains ·) = true := by
  unfold Lib.trimS Lib.trimLeftS Lib.trimRightS
  constructor
  · intro h
    rw [dropWhile_nil] at h
    rw [List.all_eq_true]
    intro x hx
    have hs : l = (l.reverse.dropWhile (cs.contains ·)).reverse ++ (l.reverse.takeWhile (cs.contains ·)).reverse := by
      rw [← List.reverse_append, List.takeWhile_append_dropWhile, List.reverse_reverse]
    rw [hs] at hx
    rcases List.mem_append.1 hx with hx | hx
    · exact h x hx
    · rw [List.mem_reverse] at hx
      exact mem_takeWhile hx
  · intro h
    have : l.reverse.dropWhile (cs.contains ·) = [] := by
      rw [dropWhile_nil]
      intro x hx
      exact List.all_eq_true.1 h x (List.mem_reverse.1 hx)
    rw [this]; rfl

def s_small (s : ByteArray) : Prop := s.size ≤ 40
theorem Any_ascii_of_all {l : List UInt8} (h : l.all (fun b => decide (b.toNat < 128)) = true) : ∀ (j : Nat) b, l[j]? = some b → b.toNat < 128 :=
  fun _ b hb => of_decide_eq_true (List.all_eq_true.1 h b (List.mem_of_getElem? hb))
set_option maxHeartbeats 2000000 in
set_option maxRecDepth 100000 in
theorem dom_named.calls (a0 : ByteArray) (a1 : ByteArray) (r : Bool) (w : World) (h : dom_named.f a0 a1 = some r) :
    Calls Tryd.prog 42 #[.string a0, .string a1] w fun e w' => e = .returned (.bool r) ∧ Below w.heap.size w w' := by
  obtain rfl := Option.some.inj h
  clear h
  have HT : s_small a0 → Hid (∀ W : World, Calls Tryd.prog 55 #[.string a0, .string ⟨#[97, 98, 99, 100, 101, 102, 103, 104, 105, 106, 107, 108, 109, 110, 111, 112, 113, 114, 115, 116, 117, 118, 119, 120, 121, 122, 48, 49, 50, 51, 52, 53, 54, 55, 56, 57, 45, 95, 58]⟩] W
      fun e w' => e = .returned (.string ⟨(Lib.trimS a0.data.toList signsL).toArray⟩) ∧ Below W.heap.size W w') := fun hs => Lib.hid (fun W =>
    Any.strings_Trim_laid Tryd.lays160 (by kernel_rfl) a0 ⟨#[97, 98, 99, 100, 101, 102, 103, 104, 105, 106, 107, 108, 109, 110, 111, 112, 113, 114, 115, 116, 117, 118, 119, 120, 121, 122, 48, 49, 50, 51, 52, 53, 54, 55, 56, 57, 45, 95, 58]⟩ W (by unfold s_small at hs; omega) (by decide) (Any_ascii_of_all (by decide)))
  have HI : ∀ c : Int, Hid (∀ W : World, Calls Tryd.prog 54 #[.string a1, .int .u8 c] W fun e w' => e = .returned (.int .i64 (Lib.indexByte a1.data.toList c.toNat.toUInt8)) ∧ W = w') := fun c => Lib.hid (fun W => (Any.strings_IndexByte Tryd.lays137 a1 c W).mono fun _ _ h => ⟨h.1, h.2.symm⟩)
  by_cases h0 : a0.data.toList = []
  · have HE : Hid (namedB a0 a1 = false) := Lib.hid (by unfold namedB; rw [h0])
    have h1 : a0.toList = [] := by rw [Lib.toList_data]; exact h0
    have h2 : a0.toList.isEmpty = true := by rw [h1]; rfl
    clear h0 HT HI
    go_enter Tryd.func42, Tryd.ntmps42
    go_wp2_with fail
    go_ret
    exact ⟨by rw [HE.out]; rfl, Below.refl _ _⟩
  have hne : a0.toList.isEmpty = false := by
    rw [Lib.toList_data]
    cases h : a0.data.toList with
    | nil => exact absurd h h0
    | cons b l => rfl
  have hpos : 0 < a0.size := by
    have := data_length a0
    cases h : a0.data.toList with
    | nil => exact absurd h h0
    | cons b l => rw [h] at this; simp at this; omega
  obtain ⟨l, hbl⟩ : ∃ l, a0.data.toList = a0[0] :: l := by
    cases h : a0.data.toList with
    | nil => exact absurd h h0
    | cons b l =>
      refine ⟨l, ?_⟩
      have this : a0.data.toList[0]? = some b := by rw [h]; rfl
      rw [Array.getElem?_toList] at this
      have h2 : a0.data[0]? = some (a0.data[0]'hpos) := Array.getElem?_eq_getElem hpos
      rw [h2] at this
      have h3 : a0[0] = b := Option.some.inj this
      rw [h3]
  have hsz : a0.size = l.length + 1 := by rw [← data_length, hbl]; rfl
  by_cases h40 : a0.size ≤ 40
  · have hi := indexByte_neg a1.data.toList a0[0]
    have hT := HT (by unfold s_small; exact h40)
    have hI := HI (a0[0].toNat : Int)
    have HG : Hid (Lib.indexByte a1.data.toList ((a0[0].toNat : Int).toNat.toUInt8) = Lib.indexByte a1.data.toList a0[0]) := Lib.hid (by rw [Int.toNat_natCast]; congr 1; simp)
    rw [HG.out] at hI
    clear HG HT HI
    by_cases hc : a1.data.toList.contains a0[0] = true
    · have hge : 0 ≤ Lib.indexByte a1.data.toList a0[0] := by
        have := mt hi.2.1 (by rw [hc]; simp)
        omega
      have HN : Hid (namedB a0 a1 = (a0[0] :: l).all (signsL.contains ·)) := Lib.hid (by
        unfold namedB; rw [hbl]; dsimp only; rw [hc, decide_eq_true (by simp; omega)]; rfl)
      have HTr : Hid ((Lib.trimS a0.data.toList signsL = []) ↔ (a0[0] :: l).all (signsL.contains ·) = true) := Lib.hid (by rw [← hbl]; exact trimS_nil _ _)
      generalize Lib.indexByte a1.data.toList a0[0] = ix at *
      have HBL := Lib.hid hbl
      have HSZ := Lib.hid hsz
      clear hbl hsz h0 hi hc
      generalize Lib.trimS a0.data.toList signsL = tr at *
      by_cases htr : tr = []
      · have HE : Hid (namedB a0 a1 = true) := Lib.hid (by rw [HN.out]; exact HTr.out.1 htr)
        subst htr
        go_enter Tryd.func42, Tryd.ntmps42
        go_wp2_with fail
        refine (hI.out _).mono ?_
        rintro e w' ⟨rfl, rfl⟩
        go_wp2_with fail
        refine (hT.out _).mono ?_
        rintro e w1 ⟨rfl, hb⟩
        have HB := Lib.hid hb
        clear hb
        go_wp2_with fail
        go_ret
        exact ⟨by rw [HE.out]; rfl, HB.out⟩
      · have HE : Hid (namedB a0 a1 = false) := Lib.hid (by rw [HN.out]; exact Bool.eq_false_iff.2 (mt HTr.out.2 htr))
        have htr1 : (⟨tr.toArray⟩ : ByteArray).toList.isEmpty = false := by rw [Lib.toList_data]; cases tr with | nil => exact absurd rfl htr | cons _ _ => rfl
        have htr2 : ¬ (⟨tr.toArray⟩ : ByteArray).toList = [] := by rw [Lib.toList_data]; simpa using htr
        clear htr
        generalize (⟨tr.toArray⟩ : ByteArray) = ts at *
        go_enter Tryd.func42, Tryd.ntmps42
        go_wp2_with fail
        refine (hI.out _).mono ?_
        rintro e w' ⟨rfl, rfl⟩
        go_wp2_with fail
        refine (hT.out _).mono ?_
        rintro e w1 ⟨rfl, hb⟩
        have HB := Lib.hid hb
        clear hb
        go_wp2_with fail
        go_ret
        exact ⟨by rw [HE.out]; rfl, HB.out⟩
    · have hc : a1.data.toList.contains a0[0] = false := by simpa using hc
      have hlt : Lib.indexByte a1.data.toList a0[0] < 0 := hi.2.2 hc
      have HE : Hid (namedB a0 a1 = false) := Lib.hid (by unfold namedB; rw [hbl]; dsimp only; rw [hc]; simp)
      generalize Lib.indexByte a1.data.toList a0[0] = ix at *
      clear hbl hsz h0 hi hc hT
      go_enter Tryd.func42, Tryd.ntmps42
      go_wp2_with fail
      refine (hI.out _).mono ?_
      rintro e w' ⟨rfl, rfl⟩
      go_wp2_with fail
      go_ret
      exact ⟨by rw [HE.out]; rfl, Below.refl _ _⟩
  · have HE : Hid (namedB a0 a1 = false) := Lib.hid (by unfold namedB; rw [hbl]; dsimp only; rw [decide_eq_false (by simp; omega)]; simp)
    clear hbl h0 HT HI hsz
    go_enter Tryd.func42, Tryd.ntmps42
    go_wp2_with fail
    go_ret
    exact ⟨by rw [HE.out]; rfl, Below.refl _ _⟩

/-! ### dom_Name: function 29 -/
def dom_Name.f (a0 : ByteArray) : Option (Bool) := if 0 ≤ 26 then (if 26 ≤ 39 then ((dom_named.f a0 ((⟨#[97, 98, 99, 100, 101, 102, 103, 104, 105, 106, 107, 108, 109, 110, 111, 112, 113, 114, 115, 116, 117, 118, 119, 120, 121, 122, 48, 49, 50, 51, 52, 53, 54, 55, 56, 57, 45, 95, 58]⟩ : ByteArray).extract 0 26)).bind fun t123 => (some t123)) else (none)) else (none)
set_option maxHeartbeats 8000000 in
set_option maxRecDepth 100000 in
theorem dom_Name.calls (a0 : ByteArray) (r : Bool) (w : World) (h : dom_Name.f a0 = some r) :
    Calls Tryd.prog 29 #[.string a0] w fun e w' => e = .returned (.bool r) ∧ Below w.heap.size w w' := by
  have HB := Aside0.mk (Below.refl w.heap.size w)
  have H : (if 0 ≤ 26 then (if 26 ≤ 39 then ((dom_named.f a0 ((⟨#[97, 98, 99, 100, 101, 102, 103, 104, 105, 106, 107, 108, 109, 110, 111, 112, 113, 114, 115, 116, 117, 118, 119, 120, 121, 122, 48, 49, 50, 51, 52, 53, 54, 55, 56, 57, 45, 95, 58]⟩ : ByteArray).extract 0 26)).bind fun t123 => (some t123)) else (none)) else (none)) = some r := h
  clear h
  by_cases c2 : 0 ≤ 26
  · rw [if_pos c2] at H
    have c2b0 := eq_true c2
    have c2b1 : decide (0 ≤ 26) = true := decide_eq_true c2
    clear c2
    by_cases c3 : 26 ≤ 39
    · rw [if_pos c3] at H
      have c3b0 := eq_true c3
      have c3b1 : decide (26 ≤ 39) = true := decide_eq_true c3
      clear c3
      replace H := Option.bind_eq_some_iff.mp H
      obtain ⟨t123, A40, H⟩ := H
      replace H : (some t123) = some r := H
      have A4 := Aside0.mk A40
      clear A40
      obtain rfl := Option.some.inj H
      go_enter Tryd.func29, Tryd.ntmps29
      go_wp2_with (first | ((with_reducible refine gate_callee (f := 42) rfl ?_); refine goesL_ (some 5) rfl rfl Tryd.func42 (by kernel_rfl) rfl #[.string a0, .string ((⟨#[97, 98, 99, 100, 101, 102, 103, 104, 105, 106, 107, 108, 109, 110, 111, 112, 113, 114, 115, 116, 117, 118, 119, 120, 121, 122, 48, 49, 50, 51, 52, 53, 54, 55, 56, 57, 45, 95, 58]⟩ : ByteArray).extract 0 26)] rfl mp_ ?_; (with_reducible refine (dom_named.calls a0 ((⟨#[97, 98, 99, 100, 101, 102, 103, 104, 105, 106, 107, 108, 109, 110, 111, 112, 113, 114, 115, 116, 117, 118, 119, 120, 121, 122, 48, 49, 50, 51, 52, 53, 54, 55, 56, 57, 45, 95, 58]⟩ : ByteArray).extract 0 26) t123 _ A4.out).mono ?_); rintro e w5 ⟨rfl, hb⟩; refine ⟨_, rfl, ?_⟩; replace HB := Aside0.mk (below_step bl0_ hb); (try clear hb); (try clear hb2); (try clear hk); (try clear hi)))
      go_ret
      exact ⟨er_, bl0_⟩
    · rw [if_neg c3] at H
      exact absurd H (by simp)
  · rw [if_neg c2] at H
    exact absurd H (by simp)

/-! ### dom_attrName: function 43 -/
def dom_attrName.f (a0 : ByteArray) : Option (Bool) := if 0 ≤ 26 then (if 26 ≤ 39 then (if ((⟨#[97, 98, 99, 100, 101, 102, 103, 104, 105, 106, 107, 108, 109, 110, 111, 112, 113, 114, 115, 116, 117, 118, 119, 120, 121, 122, 48, 49, 50, 51, 52, 53, 54, 55, 56, 57, 45, 95, 58]⟩ : ByteArray).extract 0 26).size + 2 ≤ 9223372036854775807 then ((dom_named.f a0 (((⟨#[97, 98, 99, 100, 101, 102, 103, 104, 105, 106, 107, 108, 109, 110, 111, 112, 113, 114, 115, 116, 117, 118, 119, 120, 121, 122, 48, 49, 50, 51, 52, 53, 54, 55, 56, 57, 45, 95, 58]⟩ : ByteArray).extract 0 26) ++ (⟨#[45, 95]⟩ : ByteArray))).bind fun t124 => (some t124)) else (none)) else (none)) else (none)
set_option maxHeartbeats 8000000 in
set_option maxRecDepth 100000 in
theorem dom_attrName.calls (a0 : ByteArray) (r : Bool) (w : World) (h : dom_attrName.f a0 = some r) :
    Calls Tryd.prog 43 #[.string a0] w fun e w' => e = .returned (.bool r) ∧ Below w.heap.size w w' := by
  have HB := Aside0.mk (Below.refl w.heap.size w)
  have H : (if 0 ≤ 26 then (if 26 ≤ 39 then (if ((⟨#[97, 98, 99, 100, 101, 102, 103, 104, 105, 106, 107, 108, 109, 110, 111, 112, 113, 114, 115, 116, 117, 118, 119, 120, 121, 122, 48, 49, 50, 51, 52, 53, 54, 55, 56, 57, 45, 95, 58]⟩ : ByteArray).extract 0 26).size + 2 ≤ 9223372036854775807 then ((dom_named.f a0 (((⟨#[97, 98, 99, 100, 101, 102, 103, 104, 105, 106, 107, 108, 109, 110, 111, 112, 113, 114, 115, 116, 117, 118, 119, 120, 121, 122, 48, 49, 50, 51, 52, 53, 54, 55, 56, 57, 45, 95, 58]⟩ : ByteArray).extract 0 26) ++ (⟨#[45, 95]⟩ : ByteArray))).bind fun t124 => (some t124)) else (none)) else (none)) else (none)) = some r := h
  clear h
  by_cases c2 : 0 ≤ 26
  · rw [if_pos c2] at H
    have c2b0 := eq_true c2
    have c2b1 : decide (0 ≤ 26) = true := decide_eq_true c2
    clear c2
    by_cases c3 : 26 ≤ 39
    · rw [if_pos c3] at H
      have c3b0 := eq_true c3
      have c3b1 : decide (26 ≤ 39) = true := decide_eq_true c3
      clear c3
      by_cases c4 : ((⟨#[97, 98, 99, 100, 101, 102, 103, 104, 105, 106, 107, 108, 109, 110, 111, 112, 113, 114, 115, 116, 117, 118, 119, 120, 121, 122, 48, 49, 50, 51, 52, 53, 54, 55, 56, 57, 45, 95, 58]⟩ : ByteArray).extract 0 26).size + 2 ≤ 9223372036854775807
      · rw [if_pos c4] at H
        have c4b0 := eq_true c4
        have c4b1 : decide (((⟨#[97, 98, 99, 100, 101, 102, 103, 104, 105, 106, 107, 108, 109, 110, 111, 112, 113, 114, 115, 116, 117, 118, 119, 120, 121, 122, 48, 49, 50, 51, 52, 53, 54, 55, 56, 57, 45, 95, 58]⟩ : ByteArray).extract 0 26).size + 2 ≤ 9223372036854775807) = true := decide_eq_true c4
        try have c4b2 : (9223372036854775807 < ((⟨#[97, 98, 99, 100, 101, 102, 103, 104, 105, 106, 107, 108, 109, 110, 111, 112, 113, 114, 115, 116, 117, 118, 119, 120, 121, 122, 48, 49, 50, 51, 52, 53, 54, 55, 56, 57, 45, 95, 58]⟩ : ByteArray).extract 0 26).size + 2) = False := eq_false (Nat.not_lt.2 c4)
        replace H := Option.bind_eq_some_iff.mp H
        obtain ⟨t124, A50, H⟩ := H
        replace H : (some t124) = some r := H
        have A5 := Aside0.mk A50
        clear A50
        obtain rfl := Option.some.inj H
        go_enter Tryd.func43, Tryd.ntmps43
        go_wp2_with (first | ((with_reducible refine gate_callee (f := 42) rfl ?_); refine goesL_ (some 6) rfl rfl Tryd.func42 (by kernel_rfl) rfl #[.string a0, .string (((⟨#[97, 98, 99, 100, 101, 102, 103, 104, 105, 106, 107, 108, 109, 110, 111, 112, 113, 114, 115, 116, 117, 118, 119, 120, 121, 122, 48, 49, 50, 51, 52, 53, 54, 55, 56, 57, 45, 95, 58]⟩ : ByteArray).extract 0 26) ++ (⟨#[45, 95]⟩ : ByteArray))] rfl mp_ ?_; (with_reducible refine (dom_named.calls a0 (((⟨#[97, 98, 99, 100, 101, 102, 103, 104, 105, 106, 107, 108, 109, 110, 111, 112, 113, 114, 115, 116, 117, 118, 119, 120, 121, 122, 48, 49, 50, 51, 52, 53, 54, 55, 56, 57, 45, 95, 58]⟩ : ByteArray).extract 0 26) ++ (⟨#[45, 95]⟩ : ByteArray)) t124 _ A5.out).mono ?_); rintro e w6 ⟨rfl, hb⟩; refine ⟨_, rfl, ?_⟩; replace HB := Aside0.mk (below_step bl0_ hb); (try clear hb); (try clear hb2); (try clear hk); (try clear hi)))
        go_ret
        exact ⟨er_, bl0_⟩
      · rw [if_neg c4] at H
        exact absurd H (by simp)
    · rw [if_neg c3] at H
      exact absurd H (by simp)
  · rw [if_neg c2] at H
    exact absurd H (by simp)

end Go.Proofs.YtlgoaphdhgidoaaDoor.PSY
