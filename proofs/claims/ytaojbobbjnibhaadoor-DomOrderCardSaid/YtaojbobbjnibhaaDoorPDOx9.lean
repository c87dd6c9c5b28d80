-- printed by wip/tools/pr.py (own) through the kit's printer; texts GIVEN by hand stand among them
import Derived.Test.YtaojbobbjnibhaaDoorPDOx0
import Derived.Test.YtaojbobbjnibhaaDoorPDOx1
import Derived.Test.YtaojbobbjnibhaaDoorPDOx6
import Derived.Test.YtaojbobbjnibhaaDoorPDOx8
namespace Go.Proofs.YtaojbobbjnibhaaDoor.PDO
open Go.RowKit Go.Proofs.YtaojbobbjnibhaaDoorW.PrintWords Go.Proofs.YtaojbobbjnibhaaDoorW.PrintLast Go.Proofs.YtaojbobbjnibhaaDoorW.PrintMore
attribute [local go_sem] max2_int min2_int max_two min_two max_three min_three max_four min_four   -- for this text's walks alone
set_option linter.unusedVariables false
set_option linter.unusedSimpArgs false

/-! ### clerestorykeep1_DomOrder: function 7 -/
mutual
def clerestorykeep1_DomOrder.l0 : Nat → Int → List Int → List Bool → Int → List (S35) → Bool → Option (Bool)
  | 0, _, _, _, _, _, _ => none
  | k + 1, x1, x5, x7, x8, x198000, x198001 => if x8 < (x5.length : Int) then (if 0 ≤ x8 then (if (rd x5 x8) < 0 then (some false) else (if (rd x5 x8) ≥ (x7.length : Int) then (some false) else (if 0 ≤ (rd x5 x8) then (if (rd x5 x8) < (x7.length : Int) then (if rdOf false x7 (rd x5 x8) = true then (some false) else (if x8 > 0 then (if (rd x5 x8) < (x198000.length : Int) then (if ((rd_T35 x198000 (rd x5 x8)).f4) < 0 then (some false) else (if 0 ≤ ((rd_T35 x198000 (rd x5 x8)).f4) then (if ((rd_T35 x198000 (rd x5 x8)).f4) < (x7.length : Int) then (if (rdOf false x7 ((rd_T35 x198000 (rd x5 x8)).f4) = true) then (clerestorykeep1_DomOrder.l0 k x1 x5 (x7.set ((rd x5 x8) : Int).toNat true) (wrap64 (x8 + 1)) x198000 x198001) else (some false)) else (none)) else (none))) else (none)) else (clerestorykeep1_DomOrder.l0 k x1 x5 (x7.set ((rd x5 x8) : Int).toNat true) (wrap64 (x8 + 1)) x198000 x198001))) else (none)) else (none)))) else (none)) else ((dom_Path.f k x198000 x198001 x1).bind fun bt217 => (if x1 < 0 then (clerestorykeep1_DomOrder.j1 k x1 x7 bt217.1 bt217.2 true x198000 x198001) else (clerestorykeep1_DomOrder.j1 k x1 x7 bt217.1 bt217.2 (decide (x1 ≥ (x7.length : Int))) x198000 x198001)))
def clerestorykeep1_DomOrder.j1 : Nat → Int → List Bool → List Int → Int → Bool → List (S35) → Bool → Option (Bool)
  | 0, _, _, _, _, _, _, _ => none
  | k + 1, x1, x7, x10, x11, x98, x198000, x198001 => if x98 = true then ((clerestorykeep1_domBegun.f k).bind fun t221 => (if t221 = true then (some (x11 == 1)) else (some false))) else (if 0 ≤ x1 then (if x1 < (x7.length : Int) then (if ((x11 == 0) != (rdOf false x7 x1)) = true then (some false) else (if x11 = 0 then (clerestorykeep1_DomOrder.j2 k x1 x10 (x1 == 0) x198000 x198001) else (clerestorykeep1_DomOrder.j2 k x1 x10 true x198000 x198001))) else (none)) else (none))
def clerestorykeep1_DomOrder.j2 : Nat → Int → List Int → Bool → List (S35) → Bool → Option (Bool)
  | 0, _, _, _, _, _ => none
  | k + 1, x1, x10, x116, x198000, x198001 => if x116 = true then ((clerestorykeep1_domBegun.f k).bind fun t223 => (if t223 = true then (if x1 = 0 then ((clerestorykeep1_sameInts.f k x10 (([0] : List Int))).bind fun t227 => (some t227)) else (some true)) else (some false))) else (if 0 ≤ x1 then (if x1 < (x198000.length : Int) then ((dom_Path.f k x198000 x198001 ((rd_T35 x198000 x1).f4)).bind fun bt229 => ((clerestorykeep1_domBegun.f k).bind fun t233 => (if t233 = true then (if bt229.2 = 0 then (if bt229.1.length < 17592186044416 then ((clerestorykeep1_sameInts.f k x10 (bt229.1 ++ [x1])).bind fun t237 => (some t237)) else (none)) else (some false)) else (some false)))) else (none)) else (none))
end
def clerestorykeep1_DomOrder.f (k : Nat) (l0_0 : List (S35)) (a0_1 : Bool) (a1 : Int) : Option (Bool) := (clerestorykeep1_few.f l0_0 a0_1 60).bind fun bt198 => ((dom_Order.f k bt198.1 bt198.2).bind fun bt202 => (if bt202.2 = 0 then (if 0 ≤ (bt198.1.length : Int) then (if ((bt198.1.length : Int) : Int).toNat ≤ 281474976710656 then (clerestorykeep1_DomOrder.l0 k a1 bt202.1 (List.replicate ((bt198.1.length : Int) : Int).toNat false) 0 bt198.1 bt198.2) else (none)) else (none)) else ((clerestorykeep1_domBegun.f k).bind fun t206 => (if t206 = true then (some ((bt202.1.length : Int) == 0)) else (some false)))))
theorem clerestorykeep1_DomOrder.mono_l : ∀ k, (∀ y0 y1 y2 y3 y4 y5, LeO (clerestorykeep1_DomOrder.l0 k y0 y1 y2 y3 y4 y5) (clerestorykeep1_DomOrder.l0 (k + 1) y0 y1 y2 y3 y4 y5)) ∧ (∀ y0 y1 y2 y3 y4 y5 y6, LeO (clerestorykeep1_DomOrder.j1 k y0 y1 y2 y3 y4 y5 y6) (clerestorykeep1_DomOrder.j1 (k + 1) y0 y1 y2 y3 y4 y5 y6)) ∧ (∀ y0 y1 y2 y3 y4, LeO (clerestorykeep1_DomOrder.j2 k y0 y1 y2 y3 y4) (clerestorykeep1_DomOrder.j2 (k + 1) y0 y1 y2 y3 y4))
  | 0 => ⟨fun _ _ _ _ _ _ r h => by simp [clerestorykeep1_DomOrder.l0] at h, fun _ _ _ _ _ _ _ r h => by simp [clerestorykeep1_DomOrder.j1] at h, fun _ _ _ _ _ r h => by simp [clerestorykeep1_DomOrder.j2] at h⟩
  | k + 1 => by
    obtain ⟨ih0, ih1, ih2⟩ := clerestorykeep1_DomOrder.mono_l k
    refine ⟨?_, ?_, ?_⟩
    · intro y0 y1 y2 y3 y4 y5
      unfold clerestorykeep1_DomOrder.l0
      repeat' first
      | (with_reducible exact ih0 _ _ _ _ _ _)
      | (with_reducible exact ih1 _ _ _ _ _ _ _)
      | (with_reducible exact ih2 _ _ _ _ _)
      | (with_reducible exact clerestorykeep1_domBegun.mono _)
      | (with_reducible exact clerestorykeep1_sameInts.mono _ _ _)
      | (with_reducible exact dom_Order.mono _ _ _)
      | (with_reducible exact dom_Path.mono _ _ _ _)
      | (with_reducible exact LeO.refl _)
      | (with_reducible exact LeO.none _)
      | (with_reducible refine LeO.ite ?_ ?_)
      | (with_reducible refine LeO.bind ?_ (fun _ => ?_))
      | exact ih0 _ _ _ _ _ _
      | exact ih1 _ _ _ _ _ _ _
      | exact ih2 _ _ _ _ _
      | exact clerestorykeep1_domBegun.mono _
      | exact clerestorykeep1_sameInts.mono _ _ _
      | exact dom_Order.mono _ _ _
      | exact dom_Path.mono _ _ _ _
      | exact LeO.none _
      | refine LeO.ite ?_ ?_
      | refine LeO.bind ?_ (fun _ => ?_)
    · intro y0 y1 y2 y3 y4 y5 y6
      unfold clerestorykeep1_DomOrder.j1
      repeat' first
      | (with_reducible exact ih0 _ _ _ _ _ _)
      | (with_reducible exact ih1 _ _ _ _ _ _ _)
      | (with_reducible exact ih2 _ _ _ _ _)
      | (with_reducible exact clerestorykeep1_domBegun.mono _)
      | (with_reducible exact clerestorykeep1_sameInts.mono _ _ _)
      | (with_reducible exact dom_Order.mono _ _ _)
      | (with_reducible exact dom_Path.mono _ _ _ _)
      | (with_reducible exact LeO.refl _)
      | (with_reducible exact LeO.none _)
      | (with_reducible refine LeO.ite ?_ ?_)
      | (with_reducible refine LeO.bind ?_ (fun _ => ?_))
      | exact ih0 _ _ _ _ _ _
      | exact ih1 _ _ _ _ _ _ _
      | exact ih2 _ _ _ _ _
      | exact clerestorykeep1_domBegun.mono _
      | exact clerestorykeep1_sameInts.mono _ _ _
      | exact dom_Order.mono _ _ _
      | exact dom_Path.mono _ _ _ _
      | exact LeO.none _
      | refine LeO.ite ?_ ?_
      | refine LeO.bind ?_ (fun _ => ?_)
    · intro y0 y1 y2 y3 y4
      unfold clerestorykeep1_DomOrder.j2
      repeat' first
      | (with_reducible exact ih0 _ _ _ _ _ _)
      | (with_reducible exact ih1 _ _ _ _ _ _ _)
      | (with_reducible exact ih2 _ _ _ _ _)
      | (with_reducible exact clerestorykeep1_domBegun.mono _)
      | (with_reducible exact clerestorykeep1_sameInts.mono _ _ _)
      | (with_reducible exact dom_Order.mono _ _ _)
      | (with_reducible exact dom_Path.mono _ _ _ _)
      | (with_reducible exact LeO.refl _)
      | (with_reducible exact LeO.none _)
      | (with_reducible refine LeO.ite ?_ ?_)
      | (with_reducible refine LeO.bind ?_ (fun _ => ?_))
      | exact ih0 _ _ _ _ _ _
      | exact ih1 _ _ _ _ _ _ _
      | exact ih2 _ _ _ _ _
      | exact clerestorykeep1_domBegun.mono _
      | exact clerestorykeep1_sameInts.mono _ _ _
      | exact dom_Order.mono _ _ _
      | exact dom_Path.mono _ _ _ _
      | exact LeO.none _
      | refine LeO.ite ?_ ?_
      | refine LeO.bind ?_ (fun _ => ?_)
theorem clerestorykeep1_DomOrder.mono : ∀ a0 a1 a2 k, LeO (clerestorykeep1_DomOrder.f k a0 a1 a2) (clerestorykeep1_DomOrder.f (k + 1) a0 a1 a2) := by
  intro a0 a1 a2 k
  obtain ⟨ih0, ih1, ih2⟩ := clerestorykeep1_DomOrder.mono_l k
  unfold clerestorykeep1_DomOrder.f
  repeat' first
      | (with_reducible exact ih0 _ _ _ _ _ _)
      | (with_reducible exact ih1 _ _ _ _ _ _ _)
      | (with_reducible exact ih2 _ _ _ _ _)
      | (with_reducible exact clerestorykeep1_domBegun.mono _)
      | (with_reducible exact clerestorykeep1_sameInts.mono _ _ _)
      | (with_reducible exact dom_Order.mono _ _ _)
      | (with_reducible exact dom_Path.mono _ _ _ _)
      | (with_reducible exact LeO.refl _)
      | (with_reducible exact LeO.none _)
      | (with_reducible refine LeO.ite ?_ ?_)
      | (with_reducible refine LeO.bind ?_ (fun _ => ?_))
      | exact ih0 _ _ _ _ _ _
      | exact ih1 _ _ _ _ _ _ _
      | exact ih2 _ _ _ _ _
      | exact clerestorykeep1_domBegun.mono _
      | exact clerestorykeep1_sameInts.mono _ _ _
      | exact dom_Order.mono _ _ _
      | exact dom_Path.mono _ _ _ _
      | exact LeO.none _
      | refine LeO.ite ?_ ?_
      | refine LeO.bind ?_ (fun _ => ?_)
def clerestorykeep1_DomOrder.T20 : Bool × List (List Nat × List Nat) := (true, [([], []), ([], []), ([1], [1]), ([], []), ([2, 3], [2, 3]), ([4], [4]), ([5], [5]), ([0, 6], [0, 6]), ([7], [7]), ([8], [8]), ([8], [8]), ([9, 7, 0, 1, 2, 3, 4, 5, 6, 7, 8, 9], [9]), ([10, 11, 0, 1, 2, 3, 4, 5, 6, 7, 8, 9, 10, 11], [10])])
def clerestorykeep1_DomOrder.B20 : List Nat := [0, 0, 2, 0, 14, 30, 62, 127, 255, 511, 511, 1023, 4095]
theorem clerestorykeep1_DomOrder.tab20 : rtab .any (opsOf Tryd.f7 20) = clerestorykeep1_DomOrder.T20 := by kernel_rfl
theorem clerestorykeep1_DomOrder.bits20 : waitsOk clerestorykeep1_DomOrder.T20.2 clerestorykeep1_DomOrder.B20 = true := by kernel_rfl
set_option maxHeartbeats 8000000 in
set_option maxRecDepth 100000 in
theorem clerestorykeep1_DomOrder.calls (k : Nat) (A0_0 : Option Addr) (c0_0 : Nat) (l0_0 : List (S35)) (a0_1 : Bool) (a1 : Int) (r : Bool) (w : World) (hr0_0 : Kd.C k35 w A0_0 l0_0.length l0_0) (hc0_0 : l0_0.length ≤ c0_0) (h : clerestorykeep1_DomOrder.f k l0_0 a0_1 a1 = some r) :
    Calls Tryd.prog 7 #[.agg #[.slice A0_0 l0_0.length c0_0, .bool a0_1], .int .i64 a1] w fun e w' => e = .returned (.bool r) ∧ Below w.heap.size w w' := by
  have hu24 := Tryd.underlying24
  have HR0_0 := Aside0.mk hr0_0
  have HC0_0 := Aside0.mk hc0_0
  clear hr0_0 hc0_0
  have HB := Aside0.mk (Below.refl w.heap.size w)
  have H : ((clerestorykeep1_few.f l0_0 a0_1 60).bind fun bt198 => ((dom_Order.f k bt198.1 bt198.2).bind fun bt202 => (if bt202.2 = 0 then (if 0 ≤ (bt198.1.length : Int) then (if ((bt198.1.length : Int) : Int).toNat ≤ 281474976710656 then (clerestorykeep1_DomOrder.l0 k a1 bt202.1 (List.replicate ((bt198.1.length : Int) : Int).toNat false) 0 bt198.1 bt198.2) else (none)) else (none)) else ((clerestorykeep1_domBegun.f k).bind fun t206 => (if t206 = true then (some ((bt202.1.length : Int) == 0)) else (some false)))))) = some r := h
  clear h
  replace H := Option.bind_eq_some_iff.mp H
  obtain ⟨⟨t198, t201⟩, A30, H⟩ := H
  replace H : ((dom_Order.f k t198 t201).bind fun bt202 => (if bt202.2 = 0 then (if 0 ≤ (t198.length : Int) then (if ((t198.length : Int) : Int).toNat ≤ 281474976710656 then (clerestorykeep1_DomOrder.l0 k a1 bt202.1 (List.replicate ((t198.length : Int) : Int).toNat false) 0 t198 t201) else (none)) else (none)) else ((clerestorykeep1_domBegun.f k).bind fun t206 => (if t206 = true then (some ((bt202.1.length : Int) == 0)) else (some false))))) = some r := H
  have A3 := Aside0.mk A30
  clear A30
  replace H := Option.bind_eq_some_iff.mp H
  obtain ⟨⟨t202, t205⟩, A40, H⟩ := H
  replace H : (if t205 = 0 then (if 0 ≤ (t198.length : Int) then (if ((t198.length : Int) : Int).toNat ≤ 281474976710656 then (clerestorykeep1_DomOrder.l0 k a1 t202 (List.replicate ((t198.length : Int) : Int).toNat false) 0 t198 t201) else (none)) else (none)) else ((clerestorykeep1_domBegun.f k).bind fun t206 => (if t206 = true then (some ((t202.length : Int) == 0)) else (some false)))) = some r := H
  have A4 := Aside0.mk A40
  clear A40
  by_cases c5 : t205 = 0
  · rw [if_pos c5] at H
    have c5b0 : (t205 == 0) = true := beq_iff_eq.mpr c5
    have c5b1 : (t205 != 0) = false := bne_eq_false_iff_eq.mpr c5
    clear c5
    by_cases c6 : 0 ≤ (t198.length : Int)
    · rw [if_pos c6] at H
      have c6b0 := eq_true c6
      have c6b1 : decide (0 ≤ (t198.length : Int)) = true := decide_eq_true c6
      clear c6
      by_cases c7 : ((t198.length : Int) : Int).toNat ≤ 281474976710656
      · rw [if_pos c7] at H
        have c7b0 := eq_true c7
        have c7b1 : decide (((t198.length : Int) : Int).toNat ≤ 281474976710656) = true := decide_eq_true c7
        clear c7
        obtain ⟨y207, hy207⟩ : ∃ y_ : List Bool, y_ = (List.replicate ((t198.length : Int) : Int).toNat false) := ⟨_, rfl⟩
        replace H : (clerestorykeep1_DomOrder.l0 k a1 t202 y207 0 t198 t201) = some r := by first | (rw [hy207]; with_reducible exact H) | (have H2_ := (Option.bind_some _ _).symm.trans H; rw [hy207]; with_reducible exact H2_) | (have H2_ := (Option.bind_some _ _).symm.trans H; with_reducible exact H2_) | with_reducible exact H | (rw [hy207]; exact H) | exact H
        have Ny207 := Aside0.mk hy207
        clear hy207
        have H' := Aside0.mk H
        clear H
        go_enter Tryd.func7, Tryd.ntmps7
        go_wp2_with (first | ((with_reducible refine gate_dst (N := 2) rfl ?_); (try (refine gate_guard (by rfl) ?_; dsimp only)); refine box_event ?hg (N := 2) ?hd (cs := #[.slice A0_0 l0_0.length c0_0, .bool a0_1]) (t := 24) ?hr ?_; (case hd => rfl); (case hg => rfl); (case hr => first | (go_simp; done) | (go_simp; rfl)); intro gb197 hg w8 hbox hb; have n0_ := Aside0.mk (below_step (by repeat (first | (with_reducible first | exact HB.out | apply below_alloc | apply pw_below_drewN | apply below_drew1) | exact HB.out)) hb); have n1_ := Aside0.mk (hbox); have n2_ := Aside0.mk ((by rw [hg]; exact (below_size (by repeat (first | (with_reducible first | exact HB.out | apply below_alloc | apply pw_below_drewN | apply below_drew1) | exact HB.out))) : w.heap.size ≤ gb197)); have n3_ := Aside0.mk ((by rw [hg]; exact (below_size (by repeat (first | (with_reducible first | exact HB.out | apply below_alloc | apply pw_below_drewN | apply below_drew1) | exact HB.out))) : w.heap.size ≤ gb197)); clear HB; have HB := n0_; have BK197 := n1_; have GW197 := n2_; have GE197 := n3_; clear n0_ n1_ n2_ n3_; clear hb hbox hg; have hcz9_0 : w8.cell? ⟨gb197, 0, none⟩ = some (.slice A0_0 l0_0.length c0_0) := (blk_cell BK197.out 0).trans rfl; have hcz9_1 : w8.cell? ⟨gb197, 1, none⟩ = some (.bool a0_1) := (blk_cell BK197.out 1).trans rfl; have hfz9_0 := blk_frozen BK197.out 0; have hfz9_1 := blk_frozen BK197.out 1) | ((with_reducible refine gate_callee (f := 9) rfl ?_); refine goesL_ (some 15) rfl rfl Tryd.func9 (by kernel_rfl) rfl #[.agg #[.slice A0_0 l0_0.length c0_0, .bool a0_1], .int .i64 60] rfl (by (try simp only [List.map_toArray, List.map_cons, List.map_nil]); first | done | rfl | (simp only [List.length_drop, List.length_take]; rfl)) ?_; (with_reducible refine (clerestorykeep1_few.calls (fun k_ => k_ < w.heap.size) _ _ l0_0 a0_1 60 t198 t201 _ ?side1 A3.out).mono ?_); (case side1 => exact Kd.V_mk HC0_0.out (Kd.F_below (Kd.C_F k35_heap HR0_0.out) (by repeat (first | (with_reducible first | exact HB.out | apply below_alloc | apply pw_below_drewN | apply below_drew1 | refine below_set ?_ GE197.out) | exact HB.out)))); rintro e w10 ⟨v199, rfl, ho0, hb⟩; refine ⟨_, rfl, ?_⟩; have n0_ := Aside0.mk (Kd.V_lower (Kd.V_mono (ok' := fun k_ => k_ ≠ gb197) ho0 (fun k_ hk_ => Or.elim hk_ (fun hs_ => fun e_ => Nat.not_le.2 hs_ (by rw [e_]; exact GW197.out)) (fun hn_ => (Kd.freshB (g := gb197) (o := .cells #[.slice A0_0 l0_0.length c0_0, .bool a0_1] 24 (0, 0)) (by (with_reducible repeat (first | refine blk_drewN ?_ _ | refine blk_drew ?_ | refine blk_alloc ?_ _)); exact BK197.out) k_ hn_)))) (below_size (by repeat (first | (with_reducible first | exact HB.out | apply below_alloc | apply pw_below_drewN | apply below_drew1 | refine below_set ?_ GE197.out) | exact HB.out)))); have n1_ := Aside0.mk (blk_below (g := gb197) (o := .cells #[.slice A0_0 l0_0.length c0_0, .bool a0_1] 24 (0, 0)) (by (with_reducible repeat (first | refine blk_drewN ?_ _ | refine blk_drew ?_ | refine blk_alloc ?_ _)); exact BK197.out) hb); have n2_ := Aside0.mk (below_step (by repeat (first | (with_reducible first | exact HB.out | apply below_alloc | apply pw_below_drewN | apply below_drew1 | refine below_set ?_ GE197.out) | exact HB.out)) hb); clear BK197; clear HB; have HO200 := n0_; have BK197 := n1_; have HB := n2_; clear n0_ n1_ n2_; (try clear hb); (try clear hb2); (try clear hk); (try clear hi); (try clear ho0); obtain ⟨Ao11, co11, eo11⟩ := Kd.V_slice HO200.out; subst eo11; have hcz12_0 : w10.cell? ⟨gb197, 0, none⟩ = some (.slice A0_0 l0_0.length c0_0) := (blk_cell BK197.out 0).trans rfl; have hcz12_1 : w10.cell? ⟨gb197, 1, none⟩ = some (.bool a0_1) := (blk_cell BK197.out 1).trans rfl; have hfz12_0 := blk_frozen BK197.out 0; have hfz12_1 := blk_frozen BK197.out 1) | ((with_reducible refine gate_callee (f := 14) rfl ?_); refine goesL_ (some 18) rfl rfl Tryd.func14 (by kernel_rfl) rfl #[.agg #[.slice Ao11 t198.length co11, .bool t201]] rfl (by (try simp only [List.map_toArray, List.map_cons, List.map_nil]); first | done | rfl | (simp only [List.length_drop, List.length_take]; rfl)) ?_; (with_reducible refine (dom_Order.calls k _ _ t198 t201 t202 t205 _ ?side1 ?side2 A4.out).mono ?_); (case side1 => refine (Kd.V_reads' (e := 35) (base := w.heap.size) (ok := fun k_ => k_ ≠ gb197) (n := t198.length) (c := co11) ?_).2.2; exact (by (with_reducible repeat (first | apply Kd.V_alloc | apply Kd.V_drewN | apply Kd.V_drew)); exact (Kd.V_mono (Kd.V_far (p := ⟨gb197, 1, none⟩) (Kd.V_far (p := ⟨gb197, 0, none⟩) (Kd.V_mono HO200.out (fun k_ hk => (⟨hk, hk⟩ : _ ∧ k_ ≠ gb197))) (fun _ hk => hk.2) (.slice Ao11 t198.length co11)) (fun _ hk => hk.2) (.bool t201)) (fun _ h_ => h_.1)))); (case side2 => exact (Kd.V_reads' HO200.out).2.1); rintro e w13 ⟨v203, rfl, ho0, hb⟩; refine ⟨_, rfl, ?_⟩; have n0_ := Aside0.mk (Kd.V_elder' (by (with_reducible repeat (first | apply Kd.V_alloc | apply Kd.V_drewN | apply Kd.V_drew)); exact (Kd.V_mono (Kd.V_far (p := ⟨gb197, 1, none⟩) (Kd.V_far (p := ⟨gb197, 0, none⟩) (Kd.V_mono HO200.out (fun k_ hk => (⟨hk, hk⟩ : _ ∧ k_ ≠ gb197))) (fun _ hk => hk.2) (.slice Ao11 t198.length co11)) (fun _ hk => hk.2) (.bool t201)) (fun _ h_ => h_.1))) (Kd.R_base ho0) hb); have n1_ := Aside0.mk (Kd.R_lower ho0 (below_size (by repeat (first | (with_reducible first | exact HB.out | apply below_alloc | apply pw_below_drewN | apply below_drew1 | refine below_set ?_ GE197.out) | exact HB.out)))); have n2_ := Aside0.mk (blk_below (g := gb197) (o := .cells #[.slice Ao11 t198.length co11, .bool t201] 24 (0, 0)) (by (with_reducible repeat (first | refine blk_drewN ?_ _ | refine blk_drew ?_ | refine blk_alloc ?_ _)); refine blk_put (cs := #[.slice Ao11 t198.length co11, .bool a0_1]) ?_ 1 _ rfl; (with_reducible repeat (first | refine blk_drewN ?_ _ | refine blk_drew ?_ | refine blk_alloc ?_ _)); refine blk_put (cs := #[.slice A0_0 l0_0.length c0_0, .bool a0_1]) ?_ 0 _ rfl; (with_reducible repeat (first | refine blk_drewN ?_ _ | refine blk_drew ?_ | refine blk_alloc ?_ _)); exact BK197.out) hb); have n3_ := Aside0.mk (below_step (by repeat (first | (with_reducible first | exact HB.out | apply below_alloc | apply pw_below_drewN | apply below_drew1 | refine below_set ?_ GE197.out) | exact HB.out)) hb); clear HO200; clear BK197; clear HB; have HO200 := n0_; have HO204 := n1_; have BK197 := n2_; have HB := n3_; clear n0_ n1_ n2_ n3_; (try clear hb); (try clear hb2); (try clear hk); (try clear hi); (try clear ho0); have hcz14_0 : w13.cell? ⟨gb197, 0, none⟩ = some (.slice Ao11 t198.length co11) := (blk_cell BK197.out 0).trans rfl; have hcz14_1 : w13.cell? ⟨gb197, 1, none⟩ = some (.bool t201) := (blk_cell BK197.out 1).trans rfl; have hfz14_0 := blk_frozen BK197.out 0; have hfz14_1 := blk_frozen BK197.out 1) | ((with_reducible refine gate_dst (N := 32) rfl ?_); (try (refine gate_guard (by rfl) ?_; dsimp only)); refine Kd.R_make Kd.bool _ 4 rfl (N := 32) rfl 61 _ _ rfl (t198.length : Int) rfl rfl Tryd.underlying61 (.bool false) 1 info4 rfl (by decide) (by omega) false (ok := fun _ => True) (okp := fun _ => True) rfl (fun _ hk => hk) trivial (of_decide_eq_true (by first | (with_reducible assumption) | assumption)) (Nat.le_trans (Nat.mul_le_mul_right _ (of_decide_eq_true (by first | (with_reducible assumption) | assumption) : (t198.length : Int).toNat ≤ 281474976710656)) (by omega)) (Below.refl _ _) (Nat.le_refl _) ?_; intro v208 w15 ho16 hb hg_ hnew_; clear hg_ hnew_; (first | rw [← Ny207.out] at ho16 | (simp only [Int.reduceToNat] at ho16; rw [← Ny207.out] at ho16)); have n0_ := Aside0.mk (Kd.V_elder' (by (with_reducible repeat (first | apply Kd.V_alloc | apply Kd.V_drewN | apply Kd.V_drew)); exact HO200.out) (Kd.R_base ho16) hb); have n1_ := Aside0.mk (Kd.R_below (by (with_reducible repeat (first | apply Kd.R_alloc | apply Kd.R_drewN | apply Kd.R_drew)); exact HO204.out) hb); have n2_ := Aside0.mk (Kd.R_lower ho16 (below_size (by repeat (first | (with_reducible first | exact HB.out | apply below_alloc | apply pw_below_drewN | apply below_drew1 | refine below_set ?_ GE197.out) | exact HB.out)))); have n3_ := Aside0.mk (blk_below (g := gb197) (o := .cells #[.slice Ao11 t198.length co11, .bool t201] 24 (0, 0)) (by (with_reducible repeat (first | refine blk_drewN ?_ _ | refine blk_drew ?_ | refine blk_alloc ?_ _)); exact BK197.out) hb); have n4_ := Aside0.mk (below_step (by repeat (first | (with_reducible first | exact HB.out | apply below_alloc | apply pw_below_drewN | apply below_drew1 | refine below_set ?_ GE197.out) | exact HB.out)) hb); clear HO200; clear HO204; clear BK197; clear HB; have HO200 := n0_; have HO204 := n1_; have HO209 := n2_; have BK197 := n3_; have HB := n4_; clear n0_ n1_ n2_ n3_ n4_; clear hb ho16))
        go_loopg [8] k (fun kq v8 w' => ∃ (x7_1 : List Bool) (x8_1 : Int), v8 = .int .i64 x8_1 ∧ Aside0 (clerestorykeep1_DomOrder.l0 kq a1 t202 x7_1 x8_1 t198 t201 = some r) ∧ Aside0 (kq ≤ k) ∧ Aside0 (Kd.R (Kd.int .i64) 3 w' w.heap.size (fun _ => True) v203 t202) ∧ Aside0 (Kd.R Kd.bool 4 w' w.heap.size (fun _ => True) v208 x7_1) ∧ Aside0 (Kd.V k35 35 w' w.heap.size (fun k_ => some k_ ≠ (v203 : Value).ownBlock ∧ some k_ ≠ (v208 : Value).ownBlock ∧ k_ ≠ gb197) (.slice Ao11 t198.length co11) t198) ∧ Aside0 (w'.heap[gb197]? = some (.cells #[(.slice Ao11 t198.length co11), .bool t201] 24 (0, 0))) ∧ Aside0 (Below w.heap.size w w'))
        case atStart => exact ⟨(y207), (0), (by first | rfl | (simp; done) | (simp [*]; done)), H', ⟨Nat.le_refl _⟩, ⟨by (with_reducible repeat (first | apply Kd.R_alloc | apply Kd.R_drewN | apply Kd.R_drew)); exact HO204.out⟩, ⟨by (with_reducible repeat (first | apply Kd.R_alloc | apply Kd.R_drewN | apply Kd.R_drew)); exact HO209.out⟩, ⟨by (with_reducible repeat (first | apply Kd.V_alloc | apply Kd.V_drewN | apply Kd.V_drew)); exact Kd.V_mono HO200.out (fun _ hk => ⟨hk.1.2, ⟨hk.2, hk.1.1⟩⟩)⟩, ⟨by (with_reducible repeat (first | refine blk_drewN ?_ _ | refine blk_drew ?_ | refine blk_alloc ?_ _)); exact BK197.out⟩, ⟨by repeat (first | (with_reducible first | exact HB.out | apply below_alloc | apply pw_below_drewN | apply below_drew1 | refine below_set ?_ GE197.out) | exact HB.out)⟩⟩
        case round =>
          clear H'
          try clear c1
          try clear p1
          try clear p2
          try clear c5
          try clear c5b0
          try clear c5b1
          try clear c6
          try clear c6b0
          try clear c6b1
          try clear c7
          try clear c7b0
          try clear c7b1
          try clear c9
          try clear c14
          try clear hcz12_0
          try clear hcz12_1
          try clear hcz14_0
          try clear hcz14_1
          try clear hcz9_0
          try clear hcz9_1
          try clear hfz12_0
          try clear hfz12_1
          try clear hfz14_0
          try clear hfz14_1
          try clear hfz9_0
          try clear hfz9_1
          obtain ⟨x7_1, x8_1, rfl, HA, HK1, HO_5, HO_7, HO_198000, BK197, HB⟩ := hrel
          cases gk with
          | zero => exact absurd HA.out (by simp [clerestorykeep1_DomOrder.l0])
          | succ k1 =>
            have H := HA.out
            clear HA
            simp only [clerestorykeep1_DomOrder.l0] at H
            by_cases c17 : x8_1 < (t202.length : Int)
            · rw [if_pos c17] at H
              have c17b0 : decide (x8_1 < (t202.length : Int)) = true := decide_eq_true c17
              clear c17
              by_cases c18 : 0 ≤ x8_1
              · rw [if_pos c18] at H
                have c18b0 : decide (0 ≤ x8_1) = true := decide_eq_true c18
                clear c18
                by_cases c19 : (rd t202 x8_1) < 0
                · rw [if_pos c19] at H
                  have c19b0 : decide ((rd t202 x8_1) < 0) = true := decide_eq_true c19
                  clear c19
                  obtain rfl := Option.some.inj H
                  obtain ⟨Ao20, co20, eo20⟩ := Kd.R_slice HO_5.out
                  subst eo20
                  have p210 : 0 ≤ (x8_1 : Int) := of_decide_eq_true (by first | (with_reducible assumption) | assumption)
                  have q210 : x8_1 < (t202.length : Int) := of_decide_eq_true (by first | (with_reducible assumption) | assumption)
                  obtain ⟨ad210, e210, hx210_0⟩ := Kd.at_int (Kd.R_reads' HO_5.out).2.2 x8_1 p210 q210
                  cases e210
                  replace p210 := eq_true p210
                  replace q210 := eq_true q210
                  go_wp2
                  go_ret
                  exact ⟨by first | rfl | (simp [errW_none, errW_some] <;> rfl) | (simp [*, errW_none, errW_some] <;> rfl), by repeat (first | (with_reducible first | exact HB.out | apply below_alloc | apply pw_below_drewN | apply below_drew1 | refine below_set ?_ GE197.out) | exact HB.out)⟩
                · rw [if_neg c19] at H
                  have c19b0 : decide ((rd t202 x8_1) < 0) = false := decide_eq_false c19
                  clear c19
                  by_cases c21 : (rd t202 x8_1) ≥ (x7_1.length : Int)
                  · rw [if_pos c21] at H
                    have c21b0 : decide ((x7_1.length : Int) ≤ (rd t202 x8_1)) = true := decide_eq_true c21
                    clear c21
                    obtain rfl := Option.some.inj H
                    obtain ⟨Ao22, co22, eo22⟩ := Kd.R_slice HO_5.out
                    subst eo22
                    have p210 : 0 ≤ (x8_1 : Int) := of_decide_eq_true (by first | (with_reducible assumption) | assumption)
                    have q210 : x8_1 < (t202.length : Int) := of_decide_eq_true (by first | (with_reducible assumption) | assumption)
                    obtain ⟨ad210, e210, hx210_0⟩ := Kd.at_int (Kd.R_reads' HO_5.out).2.2 x8_1 p210 q210
                    cases e210
                    replace p210 := eq_true p210
                    replace q210 := eq_true q210
                    obtain ⟨Ao23, co23, eo23⟩ := Kd.R_slice HO_7.out
                    subst eo23
                    go_wp2
                    go_ret
                    exact ⟨by first | rfl | (simp [errW_none, errW_some] <;> rfl) | (simp [*, errW_none, errW_some] <;> rfl), by repeat (first | (with_reducible first | exact HB.out | apply below_alloc | apply pw_below_drewN | apply below_drew1 | refine below_set ?_ GE197.out) | exact HB.out)⟩
                  · rw [if_neg c21] at H
                    have c21b0 : decide ((x7_1.length : Int) ≤ (rd t202 x8_1)) = false := decide_eq_false c21
                    clear c21
                    by_cases c24 : 0 ≤ (rd t202 x8_1)
                    · rw [if_pos c24] at H
                      have c24b0 : decide (0 ≤ (rd t202 x8_1)) = true := decide_eq_true c24
                      clear c24
                      by_cases c25 : (rd t202 x8_1) < (x7_1.length : Int)
                      · rw [if_pos c25] at H
                        have c25b0 : decide ((rd t202 x8_1) < (x7_1.length : Int)) = true := decide_eq_true c25
                        clear c25
                        obtain ⟨bq26, hbq26⟩ : ∃ b_ : Bool, b_ = (rdOf false x7_1 (rd t202 x8_1)) := ⟨_, rfl⟩
                        replace H : (if bq26 = true then (some false) else (if x8_1 > 0 then (if (rd t202 x8_1) < (t198.length : Int) then (if ((rd_T35 t198 (rd t202 x8_1)).f4) < 0 then (some false) else (if 0 ≤ ((rd_T35 t198 (rd t202 x8_1)).f4) then (if ((rd_T35 t198 (rd t202 x8_1)).f4) < (x7_1.length : Int) then (if (rdOf false x7_1 ((rd_T35 t198 (rd t202 x8_1)).f4) = true) then (clerestorykeep1_DomOrder.l0 k1 a1 t202 (x7_1.set ((rd t202 x8_1) : Int).toNat true) (wrap64 (x8_1 + 1)) t198 t201) else (some false)) else (none)) else (none))) else (none)) else (clerestorykeep1_DomOrder.l0 k1 a1 t202 (x7_1.set ((rd t202 x8_1) : Int).toNat true) (wrap64 (x8_1 + 1)) t198 t201))) = some r := by rw [← hbq26] at H; exact H
                        have Nbq26 := Aside0.mk hbq26
                        clear hbq26
                        by_cases c27 : bq26 = true
                        · subst c27
                          have H1 : (some false) = some r := by rw [if_pos rfl] at H; exact H
                          clear H
                          have H := H1
                          clear H1
                          obtain rfl := Option.some.inj H
                          obtain ⟨Ao28, co28, eo28⟩ := Kd.R_slice HO_5.out
                          subst eo28
                          have p210 : 0 ≤ (x8_1 : Int) := of_decide_eq_true (by first | (with_reducible assumption) | assumption)
                          have q210 : x8_1 < (t202.length : Int) := of_decide_eq_true (by first | (with_reducible assumption) | assumption)
                          obtain ⟨ad210, e210, hx210_0⟩ := Kd.at_int (Kd.R_reads' HO_5.out).2.2 x8_1 p210 q210
                          cases e210
                          replace p210 := eq_true p210
                          replace q210 := eq_true q210
                          obtain ⟨Ao29, co29, eo29⟩ := Kd.R_slice HO_7.out
                          subst eo29
                          have p211 : 0 ≤ ((rd t202 x8_1) : Int) := of_decide_eq_true (by first | (with_reducible assumption) | assumption)
                          have q211 : (rd t202 x8_1) < (x7_1.length : Int) := of_decide_eq_true (by first | (with_reducible assumption) | assumption)
                          obtain ⟨ad211, e211, hx211_0⟩ := Kd.at_bool (Kd.R_reads' HO_7.out).2.2 (rd t202 x8_1) p211 q211
                          (try rw [← Nbq26.out] at hx211_0)
                          cases e211
                          replace p211 := eq_true p211
                          replace q211 := eq_true q211
                          go_wp2
                          go_ret
                          exact ⟨by first | rfl | (simp [errW_none, errW_some] <;> rfl) | (simp [*, errW_none, errW_some] <;> rfl), by repeat (first | (with_reducible first | exact HB.out | apply below_alloc | apply pw_below_drewN | apply below_drew1 | refine below_set ?_ GE197.out) | exact HB.out)⟩
                        · replace c27 := Bool.eq_false_iff.mpr c27
                          subst c27
                          have H1 : (if x8_1 > 0 then (if (rd t202 x8_1) < (t198.length : Int) then (if ((rd_T35 t198 (rd t202 x8_1)).f4) < 0 then (some false) else (if 0 ≤ ((rd_T35 t198 (rd t202 x8_1)).f4) then (if ((rd_T35 t198 (rd t202 x8_1)).f4) < (x7_1.length : Int) then (if (rdOf false x7_1 ((rd_T35 t198 (rd t202 x8_1)).f4) = true) then (clerestorykeep1_DomOrder.l0 k1 a1 t202 (x7_1.set ((rd t202 x8_1) : Int).toNat true) (wrap64 (x8_1 + 1)) t198 t201) else (some false)) else (none)) else (none))) else (none)) else (clerestorykeep1_DomOrder.l0 k1 a1 t202 (x7_1.set ((rd t202 x8_1) : Int).toNat true) (wrap64 (x8_1 + 1)) t198 t201)) = some r := by rw [if_neg (show ¬ (false = true) by decide)] at H; exact H
                          clear H
                          have H := H1
                          clear H1
                          by_cases c30 : x8_1 > 0
                          · rw [if_pos c30] at H
                            have c30b0 : decide (0 < x8_1) = true := decide_eq_true c30
                            clear c30
                            by_cases c31 : (rd t202 x8_1) < (t198.length : Int)
                            · rw [if_pos c31] at H
                              have c31b0 : decide ((rd t202 x8_1) < (t198.length : Int)) = true := decide_eq_true c31
                              clear c31
                              by_cases c32 : ((rd_T35 t198 (rd t202 x8_1)).f4) < 0
                              · rw [if_pos c32] at H
                                have c32b0 : decide (((rd_T35 t198 (rd t202 x8_1)).f4) < 0) = true := decide_eq_true c32
                                clear c32
                                obtain rfl := Option.some.inj H
                                obtain ⟨Ao33, co33, eo33⟩ := Kd.R_slice HO_5.out
                                subst eo33
                                have p210 : 0 ≤ (x8_1 : Int) := of_decide_eq_true (by first | (with_reducible assumption) | assumption)
                                have q210 : x8_1 < (t202.length : Int) := of_decide_eq_true (by first | (with_reducible assumption) | assumption)
                                obtain ⟨ad210, e210, hx210_0⟩ := Kd.at_int (Kd.R_reads' HO_5.out).2.2 x8_1 p210 q210
                                cases e210
                                replace p210 := eq_true p210
                                replace q210 := eq_true q210
                                obtain ⟨Ao34, co34, eo34⟩ := Kd.R_slice HO_7.out
                                subst eo34
                                have p211 : 0 ≤ ((rd t202 x8_1) : Int) := of_decide_eq_true (by first | (with_reducible assumption) | assumption)
                                have q211 : (rd t202 x8_1) < (x7_1.length : Int) := of_decide_eq_true (by first | (with_reducible assumption) | assumption)
                                obtain ⟨ad211, e211, hx211_0⟩ := Kd.at_bool (Kd.R_reads' HO_7.out).2.2 (rd t202 x8_1) p211 q211
                                (try rw [← Nbq26.out] at hx211_0)
                                cases e211
                                replace p211 := eq_true p211
                                replace q211 := eq_true q211
                                have hcz35_0 : wr.cell? ⟨gb197, 0, none⟩ = some (.slice Ao11 t198.length co11) := (blk_cell BK197.out 0).trans rfl
                                have hcz35_1 : wr.cell? ⟨gb197, 1, none⟩ = some (.bool t201) := (blk_cell BK197.out 1).trans rfl
                                have hfz35_0 := blk_frozen BK197.out 0
                                have hfz35_1 := blk_frozen BK197.out 1
                                have p212 : 0 ≤ ((rd t202 x8_1) : Int) := of_decide_eq_true (by first | (with_reducible assumption) | assumption)
                                have q212 : (rd t202 x8_1) < (t198.length : Int) := of_decide_eq_true (by first | (with_reducible assumption) | assumption)
                                obtain ⟨ad212, A212_2, c212_2, A212_5, c212_5, e212, hx212_0, hx212_1, hx212_2, hx212_3, hx212_4, hx212_5, hl212_2, hi212_2, hl212_5, hi212_5⟩ := at_T35 (Kd.V_reads' HO_198000.out).2.2 (rd t202 x8_1) p212 q212
                                cases e212
                                obtain ⟨ce212, hce212, hMe212, hcc212⟩ := Kd.V_get HO_198000.out z35 (rd t202 x8_1) p212 (by first | exact q212 | exact of_decide_eq_true (by first | (with_reducible assumption) | assumption) | (have e_ := (Kd.V_reads' HO_198000.out).1; omega))
                                obtain ⟨ua212_2, uc212_2, ua212_5, uc212_5, rfl, ul212_2, ge212_2, ul212_5, ge212_5⟩ := k35_openF hMe212
                                have hv212_2 := hcc212 2 _ rfl
                                rw [add_field _ _ 2 (by omega)] at hv212_2
                                replace hv212_2 := Option.some.inj (hv212_2.symm.trans hx212_2)
                                injection hv212_2 with hva_ hvn_ hvc_
                                rw [hva_] at ge212_2
                                rw [hvc_] at ul212_2
                                have HL212_2 := Aside0.mk (show Kd.V k78 78 _ w.heap.size _ _ ((rd_T35 t198 (rd t202 x8_1)).f2) from Kd.V_mk ul212_2 ge212_2)
                                clear hva_ hvn_ hvc_ ge212_2 ul212_2
                                have hv212_5 := hcc212 5 _ rfl
                                rw [add_field _ _ 5 (by omega)] at hv212_5
                                replace hv212_5 := Option.some.inj (hv212_5.symm.trans hx212_5)
                                injection hv212_5 with hva_ hvn_ hvc_
                                rw [hva_] at ge212_5
                                rw [hvc_] at ul212_5
                                have HL212_5 := Aside0.mk (show Kd.V (Kd.int .i64) 3 _ w.heap.size _ _ ((rd_T35 t198 (rd t202 x8_1)).f5) from Kd.V_mk ul212_5 ge212_5)
                                clear hva_ hvn_ hvc_ ge212_5 ul212_5
                                clear hcc212 hce212
                                have HR212_2 := Aside0.mk hi212_2
                                have HC212_2 := Aside0.mk hl212_2
                                clear hi212_2 hl212_2
                                have HR212_5 := Aside0.mk hi212_5
                                have HC212_5 := Aside0.mk hl212_5
                                clear hi212_5 hl212_5
                                replace p212 := eq_true p212
                                replace q212 := eq_true q212
                                go_wp2
                                go_ret
                                exact ⟨by first | rfl | (simp [errW_none, errW_some] <;> rfl) | (simp [*, errW_none, errW_some] <;> rfl), by repeat (first | (with_reducible first | exact HB.out | apply below_alloc | apply pw_below_drewN | apply below_drew1 | refine below_set ?_ GE197.out) | exact HB.out)⟩
                              · rw [if_neg c32] at H
                                have c32b0 : decide (((rd_T35 t198 (rd t202 x8_1)).f4) < 0) = false := decide_eq_false c32
                                clear c32
                                by_cases c36 : 0 ≤ ((rd_T35 t198 (rd t202 x8_1)).f4)
                                · rw [if_pos c36] at H
                                  have c36b0 : decide (0 ≤ ((rd_T35 t198 (rd t202 x8_1)).f4)) = true := decide_eq_true c36
                                  clear c36
                                  by_cases c37 : ((rd_T35 t198 (rd t202 x8_1)).f4) < (x7_1.length : Int)
                                  · rw [if_pos c37] at H
                                    have c37b0 : decide (((rd_T35 t198 (rd t202 x8_1)).f4) < (x7_1.length : Int)) = true := decide_eq_true c37
                                    clear c37
                                    obtain ⟨bq38, hbq38⟩ : ∃ b_ : Bool, b_ = (rdOf false x7_1 ((rd_T35 t198 (rd t202 x8_1)).f4)) := ⟨_, rfl⟩
                                    replace H : (if (bq38 = true) then (clerestorykeep1_DomOrder.l0 k1 a1 t202 (x7_1.set ((rd t202 x8_1) : Int).toNat true) (wrap64 (x8_1 + 1)) t198 t201) else (some false)) = some r := by rw [← hbq38] at H; exact H
                                    have Nbq38 := Aside0.mk hbq38
                                    clear hbq38
                                    by_cases c39 : (bq38 = true)
                                    · subst c39
                                      have H1 : (clerestorykeep1_DomOrder.l0 k1 a1 t202 (x7_1.set ((rd t202 x8_1) : Int).toNat true) (wrap64 (x8_1 + 1)) t198 t201) = some r := by rw [if_pos rfl] at H; exact H
                                      clear H
                                      have H := H1
                                      clear H1
                                      obtain ⟨y215, hy215⟩ : ∃ y_ : List Bool, y_ = (x7_1.set ((rd t202 x8_1) : Int).toNat true) := ⟨_, rfl⟩
                                      replace H : (clerestorykeep1_DomOrder.l0 k1 a1 t202 y215 (wrap64 (x8_1 + 1)) t198 t201) = some r := by first | (rw [hy215]; with_reducible exact H) | (have H2_ := (Option.bind_some _ _).symm.trans H; rw [hy215]; with_reducible exact H2_) | (have H2_ := (Option.bind_some _ _).symm.trans H; with_reducible exact H2_) | with_reducible exact H | (rw [hy215]; exact H) | exact H
                                      have Ny215 := Aside0.mk hy215
                                      clear hy215
                                      have H' := Aside0.mk H
                                      clear H
                                      obtain ⟨Ao41, co41, eo41⟩ := Kd.R_slice HO_5.out
                                      subst eo41
                                      have p210 : 0 ≤ (x8_1 : Int) := of_decide_eq_true (by first | (with_reducible assumption) | assumption)
                                      have q210 : x8_1 < (t202.length : Int) := of_decide_eq_true (by first | (with_reducible assumption) | assumption)
                                      obtain ⟨ad210, e210, hx210_0⟩ := Kd.at_int (Kd.R_reads' HO_5.out).2.2 x8_1 p210 q210
                                      cases e210
                                      replace p210 := eq_true p210
                                      replace q210 := eq_true q210
                                      obtain ⟨Ao42, co42, eo42⟩ := Kd.R_slice HO_7.out
                                      subst eo42
                                      have p211 : 0 ≤ ((rd t202 x8_1) : Int) := of_decide_eq_true (by first | (with_reducible assumption) | assumption)
                                      have q211 : (rd t202 x8_1) < (x7_1.length : Int) := of_decide_eq_true (by first | (with_reducible assumption) | assumption)
                                      obtain ⟨ad211, e211, hx211_0⟩ := Kd.at_bool (Kd.R_reads' HO_7.out).2.2 (rd t202 x8_1) p211 q211
                                      (try rw [← Nbq26.out] at hx211_0)
                                      (try rw [← Nbq38.out] at hx211_0)
                                      cases e211
                                      replace p211 := eq_true p211
                                      replace q211 := eq_true q211
                                      have hcz43_0 : wr.cell? ⟨gb197, 0, none⟩ = some (.slice Ao11 t198.length co11) := (blk_cell BK197.out 0).trans rfl
                                      have hcz43_1 : wr.cell? ⟨gb197, 1, none⟩ = some (.bool t201) := (blk_cell BK197.out 1).trans rfl
                                      have hfz43_0 := blk_frozen BK197.out 0
                                      have hfz43_1 := blk_frozen BK197.out 1
                                      have p212 : 0 ≤ ((rd t202 x8_1) : Int) := of_decide_eq_true (by first | (with_reducible assumption) | assumption)
                                      have q212 : (rd t202 x8_1) < (t198.length : Int) := of_decide_eq_true (by first | (with_reducible assumption) | assumption)
                                      obtain ⟨ad212, A212_2, c212_2, A212_5, c212_5, e212, hx212_0, hx212_1, hx212_2, hx212_3, hx212_4, hx212_5, hl212_2, hi212_2, hl212_5, hi212_5⟩ := at_T35 (Kd.V_reads' HO_198000.out).2.2 (rd t202 x8_1) p212 q212
                                      cases e212
                                      obtain ⟨ce212, hce212, hMe212, hcc212⟩ := Kd.V_get HO_198000.out z35 (rd t202 x8_1) p212 (by first | exact q212 | exact of_decide_eq_true (by first | (with_reducible assumption) | assumption) | (have e_ := (Kd.V_reads' HO_198000.out).1; omega))
                                      obtain ⟨ua212_2, uc212_2, ua212_5, uc212_5, rfl, ul212_2, ge212_2, ul212_5, ge212_5⟩ := k35_openF hMe212
                                      have hv212_2 := hcc212 2 _ rfl
                                      rw [add_field _ _ 2 (by omega)] at hv212_2
                                      replace hv212_2 := Option.some.inj (hv212_2.symm.trans hx212_2)
                                      injection hv212_2 with hva_ hvn_ hvc_
                                      rw [hva_] at ge212_2
                                      rw [hvc_] at ul212_2
                                      have HL212_2 := Aside0.mk (show Kd.V k78 78 _ w.heap.size _ _ ((rd_T35 t198 (rd t202 x8_1)).f2) from Kd.V_mk ul212_2 ge212_2)
                                      clear hva_ hvn_ hvc_ ge212_2 ul212_2
                                      have hv212_5 := hcc212 5 _ rfl
                                      rw [add_field _ _ 5 (by omega)] at hv212_5
                                      replace hv212_5 := Option.some.inj (hv212_5.symm.trans hx212_5)
                                      injection hv212_5 with hva_ hvn_ hvc_
                                      rw [hva_] at ge212_5
                                      rw [hvc_] at ul212_5
                                      have HL212_5 := Aside0.mk (show Kd.V (Kd.int .i64) 3 _ w.heap.size _ _ ((rd_T35 t198 (rd t202 x8_1)).f5) from Kd.V_mk ul212_5 ge212_5)
                                      clear hva_ hvn_ hvc_ ge212_5 ul212_5
                                      clear hcc212 hce212
                                      have HR212_2 := Aside0.mk hi212_2
                                      have HC212_2 := Aside0.mk hl212_2
                                      clear hi212_2 hl212_2
                                      have HR212_5 := Aside0.mk hi212_5
                                      have HC212_5 := Aside0.mk hl212_5
                                      clear hi212_5 hl212_5
                                      replace p212 := eq_true p212
                                      replace q212 := eq_true q212
                                      have p213 : 0 ≤ ((rd t202 x8_1) : Int) := of_decide_eq_true (by first | (with_reducible assumption) | assumption)
                                      have q213 : (rd t202 x8_1) < (t198.length : Int) := of_decide_eq_true (by first | (with_reducible assumption) | assumption)
                                      obtain ⟨ad213, A213_2, c213_2, A213_5, c213_5, e213, hx213_0, hx213_1, hx213_2, hx213_3, hx213_4, hx213_5, hl213_2, hi213_2, hl213_5, hi213_5⟩ := at_T35 (Kd.V_reads' HO_198000.out).2.2 (rd t202 x8_1) p213 q213
                                      obtain rfl : ad212 = ad213 := (by injection e213)
                                      obtain ⟨ce213, hce213, hMe213, hcc213⟩ := Kd.V_get HO_198000.out z35 (rd t202 x8_1) p213 (by first | exact q213 | exact of_decide_eq_true (by first | (with_reducible assumption) | assumption) | (have e_ := (Kd.V_reads' HO_198000.out).1; omega))
                                      obtain ⟨ua213_2, uc213_2, ua213_5, uc213_5, rfl, ul213_2, ge213_2, ul213_5, ge213_5⟩ := k35_openF hMe213
                                      have hv213_2 := hcc213 2 _ rfl
                                      rw [add_field _ _ 2 (by omega)] at hv213_2
                                      replace hv213_2 := Option.some.inj (hv213_2.symm.trans hx213_2)
                                      injection hv213_2 with hva_ hvn_ hvc_
                                      rw [hva_] at ge213_2
                                      rw [hvc_] at ul213_2
                                      have HL213_2 := Aside0.mk (show Kd.V k78 78 _ w.heap.size _ _ ((rd_T35 t198 (rd t202 x8_1)).f2) from Kd.V_mk ul213_2 ge213_2)
                                      clear hva_ hvn_ hvc_ ge213_2 ul213_2
                                      have hv213_5 := hcc213 5 _ rfl
                                      rw [add_field _ _ 5 (by omega)] at hv213_5
                                      replace hv213_5 := Option.some.inj (hv213_5.symm.trans hx213_5)
                                      injection hv213_5 with hva_ hvn_ hvc_
                                      rw [hva_] at ge213_5
                                      rw [hvc_] at ul213_5
                                      have HL213_5 := Aside0.mk (show Kd.V (Kd.int .i64) 3 _ w.heap.size _ _ ((rd_T35 t198 (rd t202 x8_1)).f5) from Kd.V_mk ul213_5 ge213_5)
                                      clear hva_ hvn_ hvc_ ge213_5 ul213_5
                                      clear hcc213 hce213
                                      have HR213_2 := Aside0.mk hi213_2
                                      have HC213_2 := Aside0.mk hl213_2
                                      clear hi213_2 hl213_2
                                      have HR213_5 := Aside0.mk hi213_5
                                      have HC213_5 := Aside0.mk hl213_5
                                      clear hi213_5 hl213_5
                                      replace p213 := eq_true p213
                                      replace q213 := eq_true q213
                                      have ea_ := Option.some.inj (hx212_2.symm.trans hx213_2)
                                      injection ea_ with ea_ en_ ec_
                                      subst ea_
                                      subst ec_
                                      clear en_
                                      have ea_ := Option.some.inj (hx212_5.symm.trans hx213_5)
                                      injection ea_ with ea_ en_ ec_
                                      subst ea_
                                      subst ec_
                                      clear en_
                                      have p214 : 0 ≤ (((rd_T35 t198 (rd t202 x8_1)).f4) : Int) := of_decide_eq_true (by first | (with_reducible assumption) | assumption)
                                      have q214 : ((rd_T35 t198 (rd t202 x8_1)).f4) < (x7_1.length : Int) := of_decide_eq_true (by first | (with_reducible assumption) | assumption)
                                      obtain ⟨ad214, e214, hx214_0⟩ := Kd.at_bool (Kd.R_reads' HO_7.out).2.2 ((rd_T35 t198 (rd t202 x8_1)).f4) p214 q214
                                      (try rw [← Nbq26.out] at hx214_0)
                                      (try rw [← Nbq38.out] at hx214_0)
                                      obtain rfl : ad211 = ad214 := (by injection e214)
                                      replace p214 := eq_true p214
                                      replace q214 := eq_true q214
                                      have p40 : 0 ≤ ((rd t202 x8_1) : Int) := of_decide_eq_true (by first | (with_reducible assumption) | assumption)
                                      have q40 : ((rd t202 x8_1) : Int) < ((x7_1.length : Int) : Int) := of_decide_eq_true (by first | (with_reducible assumption) | assumption)
                                      obtain ⟨go40, co40, eo40, gb40, gl40, cl40, HG40⟩ := Kd.R_form HO_7.out (by omega)
                                      (first | cases eo40 | (injection eo40 with ea_ en_ ec_; (first | subst ea_ | (injection ea_ with ea_; subst ea_)); subst ec_; clear en_))
                                      have GB40 := Aside0.mk gb40
                                      have GG40 := Aside0.mk HG40
                                      clear gb40 gl40 HG40
                                      (first | simp only [add_plain] at hx211_0 | skip)
                                      (first | simp only [add_plain] at hx214_0 | skip)
                                      obtain ⟨hx40_0, hf40_0⟩ := Kd.R_celln false HO_7.out ((rd t202 x8_1) : Int) p40 q40
                                      replace p40 := eq_true p40
                                      replace q40 := eq_true q40
                                      have HP44 := Kd.R_putg HO_7.out ((rd t202 x8_1) : Int) true
                                      go_wp2_with (first | ((with_reducible refine gate_store (t := 4) (p := 84) rfl ?_); refine store_event (t := 4) (p := 84) (v := ?vo_w45) (w1 := (wr.setCell ⟨go40, ((rd t202 x8_1) : Int).toNat, none⟩ (.bool true))) ?hg ?ho ?hn ?hr ?_; (case ho => rfl); (case hg => rfl); (case hn => rfl); (case hr => first | (go_simp; done) | (go_simp; rfl)); intro w45 hw; have hg : wr.grownBy w45 (some go40) := (by rw [hw]; exact HP44.2); have hp_ : Kd.R Kd.bool 4 w45 w.heap.size (fun _ => True) (.slice (some ⟨go40, 0, none⟩) x7_1.length co42) y215 := (by rw [hw, Ny215.out]; exact HP44.1); clear HP44; have n0_ := Aside0.mk (Kd.R_over' (v := (.slice (some ⟨go40, 0, none⟩) x7_1.length co42)) (by (with_reducible repeat (first | apply Kd.R_alloc | apply Kd.R_drewN | apply Kd.R_drew)); exact HO_5.out) (Kd.R_typed HO_7.out) (by decide) hg); have n1_ := Aside0.mk (hp_); have n2_ := Aside0.mk (Kd.V_afterv (v := (.slice (some ⟨go40, 0, none⟩) x7_1.length co42)) (v1 := (.slice (some ⟨go40, 0, none⟩) x7_1.length co42)) (ok := (fun k_ => some k_ ≠ (.slice (some ad210) t202.length co41 : Value).ownBlock ∧ k_ ≠ gb197)) (by (with_reducible repeat (first | apply Kd.V_alloc | apply Kd.V_drewN | apply Kd.V_drew)); exact Kd.V_mono HO_198000.out (fun _ hk => ⟨⟨hk.1, hk.2.2⟩, hk.2.1⟩)) hg (.inl rfl)); have n3_ := Aside0.mk (blk_grown (g := gb197) (o := .cells #[.slice (some ad212) t198.length co11, .bool t201] 24 (0, 0)) (by (with_reducible repeat (first | refine blk_drewN ?_ _ | refine blk_drew ?_ | refine blk_alloc ?_ _)); exact BK197.out) hg (Kd.R_ne HO_7.out BK197.out (by decide))); have n4_ := Aside0.mk (Kd.V_afterv (v := (.slice (some ⟨go40, 0, none⟩) x7_1.length co42)) (v1 := (.slice (some ⟨go40, 0, none⟩) x7_1.length co42)) (ok := (fun k_ => some k_ ≠ (.slice (some ad210) t202.length co41 : Value).ownBlock ∧ k_ ≠ gb197)) (by (with_reducible repeat (first | apply Kd.V_alloc | apply Kd.V_drewN | apply Kd.V_drew)); exact Kd.V_mono HL212_2.out (fun _ hk => ⟨⟨hk.1, hk.2.2⟩, hk.2.1⟩)) hg (.inl rfl)); have n5_ := Aside0.mk (Kd.V_afterv (v := (.slice (some ⟨go40, 0, none⟩) x7_1.length co42)) (v1 := (.slice (some ⟨go40, 0, none⟩) x7_1.length co42)) (ok := (fun k_ => some k_ ≠ (.slice (some ad210) t202.length co41 : Value).ownBlock ∧ k_ ≠ gb197)) (by (with_reducible repeat (first | apply Kd.V_alloc | apply Kd.V_drewN | apply Kd.V_drew)); exact Kd.V_mono HL212_5.out (fun _ hk => ⟨⟨hk.1, hk.2.2⟩, hk.2.1⟩)) hg (.inl rfl)); have n6_ := Aside0.mk (Kd.V_afterv (v := (.slice (some ⟨go40, 0, none⟩) x7_1.length co42)) (v1 := (.slice (some ⟨go40, 0, none⟩) x7_1.length co42)) (ok := (fun k_ => some k_ ≠ (.slice (some ad210) t202.length co41 : Value).ownBlock ∧ k_ ≠ gb197)) (by (with_reducible repeat (first | apply Kd.V_alloc | apply Kd.V_drewN | apply Kd.V_drew)); exact Kd.V_mono HL213_2.out (fun _ hk => ⟨⟨hk.1, hk.2.2⟩, hk.2.1⟩)) hg (.inl rfl)); have n7_ := Aside0.mk (Kd.V_afterv (v := (.slice (some ⟨go40, 0, none⟩) x7_1.length co42)) (v1 := (.slice (some ⟨go40, 0, none⟩) x7_1.length co42)) (ok := (fun k_ => some k_ ≠ (.slice (some ad210) t202.length co41 : Value).ownBlock ∧ k_ ≠ gb197)) (by (with_reducible repeat (first | apply Kd.V_alloc | apply Kd.V_drewN | apply Kd.V_drew)); exact Kd.V_mono HL213_5.out (fun _ hk => ⟨⟨hk.1, hk.2.2⟩, hk.2.1⟩)) hg (.inl rfl)); have n8_ := Aside0.mk ((by rw [hw]; exact below_set (HB.out) GB40.out : Below w.heap.size w w45)); clear HO_5; clear HO_7; clear HO_198000; clear BK197; clear HL212_2; clear HL212_5; clear HL213_2; clear HL213_5; clear HB; have HO_5 := n0_; have HO_7 := n1_; have HO_198000 := n2_; have BK197 := n3_; have HL212_2 := n4_; have HL212_5 := n5_; have HL213_2 := n6_; have HL213_5 := n7_; have HB := n8_; clear n0_ n1_ n2_ n3_ n4_ n5_ n6_ n7_ n8_; clear hg hw hp_))
                                      go_roundg k1
                                      case measure => have := HK1.out; omega
                                      case rel => exact ⟨(y215), (wrap64 (x8_1 + 1)), (by first | rfl | (simp; done) | (simp [*]; done)), H', ⟨by have := HK1.out; omega⟩, ⟨by (with_reducible repeat (first | apply Kd.R_alloc | apply Kd.R_drewN | apply Kd.R_drew)); exact HO_5.out⟩, ⟨by (with_reducible repeat (first | apply Kd.R_alloc | apply Kd.R_drewN | apply Kd.R_drew)); exact HO_7.out⟩, ⟨by (with_reducible repeat (first | apply Kd.V_alloc | apply Kd.V_drewN | apply Kd.V_drew)); exact Kd.V_mono HO_198000.out (fun _ hk => ⟨hk.1.1, ⟨hk.2, hk.1.2⟩⟩)⟩, ⟨by (with_reducible repeat (first | refine blk_drewN ?_ _ | refine blk_drew ?_ | refine blk_alloc ?_ _)); exact BK197.out⟩, ⟨by repeat (first | (with_reducible first | exact HB.out | apply below_alloc | apply pw_below_drewN | apply below_drew1 | refine below_set ?_ GE197.out) | exact HB.out)⟩⟩
                                    · replace c39 := Bool.eq_false_iff.mpr c39
                                      subst c39
                                      have H1 : (some false) = some r := by rw [if_neg (show ¬ (false = true) by decide)] at H; exact H
                                      clear H
                                      have H := H1
                                      clear H1
                                      obtain rfl := Option.some.inj H
                                      obtain ⟨Ao46, co46, eo46⟩ := Kd.R_slice HO_5.out
                                      subst eo46
                                      have p210 : 0 ≤ (x8_1 : Int) := of_decide_eq_true (by first | (with_reducible assumption) | assumption)
                                      have q210 : x8_1 < (t202.length : Int) := of_decide_eq_true (by first | (with_reducible assumption) | assumption)
                                      obtain ⟨ad210, e210, hx210_0⟩ := Kd.at_int (Kd.R_reads' HO_5.out).2.2 x8_1 p210 q210
                                      cases e210
                                      replace p210 := eq_true p210
                                      replace q210 := eq_true q210
                                      obtain ⟨Ao47, co47, eo47⟩ := Kd.R_slice HO_7.out
                                      subst eo47
                                      have p211 : 0 ≤ ((rd t202 x8_1) : Int) := of_decide_eq_true (by first | (with_reducible assumption) | assumption)
                                      have q211 : (rd t202 x8_1) < (x7_1.length : Int) := of_decide_eq_true (by first | (with_reducible assumption) | assumption)
                                      obtain ⟨ad211, e211, hx211_0⟩ := Kd.at_bool (Kd.R_reads' HO_7.out).2.2 (rd t202 x8_1) p211 q211
                                      (try rw [← Nbq26.out] at hx211_0)
                                      (try rw [← Nbq38.out] at hx211_0)
                                      cases e211
                                      replace p211 := eq_true p211
                                      replace q211 := eq_true q211
                                      have hcz48_0 : wr.cell? ⟨gb197, 0, none⟩ = some (.slice Ao11 t198.length co11) := (blk_cell BK197.out 0).trans rfl
                                      have hcz48_1 : wr.cell? ⟨gb197, 1, none⟩ = some (.bool t201) := (blk_cell BK197.out 1).trans rfl
                                      have hfz48_0 := blk_frozen BK197.out 0
                                      have hfz48_1 := blk_frozen BK197.out 1
                                      have p212 : 0 ≤ ((rd t202 x8_1) : Int) := of_decide_eq_true (by first | (with_reducible assumption) | assumption)
                                      have q212 : (rd t202 x8_1) < (t198.length : Int) := of_decide_eq_true (by first | (with_reducible assumption) | assumption)
                                      obtain ⟨ad212, A212_2, c212_2, A212_5, c212_5, e212, hx212_0, hx212_1, hx212_2, hx212_3, hx212_4, hx212_5, hl212_2, hi212_2, hl212_5, hi212_5⟩ := at_T35 (Kd.V_reads' HO_198000.out).2.2 (rd t202 x8_1) p212 q212
                                      cases e212
                                      obtain ⟨ce212, hce212, hMe212, hcc212⟩ := Kd.V_get HO_198000.out z35 (rd t202 x8_1) p212 (by first | exact q212 | exact of_decide_eq_true (by first | (with_reducible assumption) | assumption) | (have e_ := (Kd.V_reads' HO_198000.out).1; omega))
                                      obtain ⟨ua212_2, uc212_2, ua212_5, uc212_5, rfl, ul212_2, ge212_2, ul212_5, ge212_5⟩ := k35_openF hMe212
                                      have hv212_2 := hcc212 2 _ rfl
                                      rw [add_field _ _ 2 (by omega)] at hv212_2
                                      replace hv212_2 := Option.some.inj (hv212_2.symm.trans hx212_2)
                                      injection hv212_2 with hva_ hvn_ hvc_
                                      rw [hva_] at ge212_2
                                      rw [hvc_] at ul212_2
                                      have HL212_2 := Aside0.mk (show Kd.V k78 78 _ w.heap.size _ _ ((rd_T35 t198 (rd t202 x8_1)).f2) from Kd.V_mk ul212_2 ge212_2)
                                      clear hva_ hvn_ hvc_ ge212_2 ul212_2
                                      have hv212_5 := hcc212 5 _ rfl
                                      rw [add_field _ _ 5 (by omega)] at hv212_5
                                      replace hv212_5 := Option.some.inj (hv212_5.symm.trans hx212_5)
                                      injection hv212_5 with hva_ hvn_ hvc_
                                      rw [hva_] at ge212_5
                                      rw [hvc_] at ul212_5
                                      have HL212_5 := Aside0.mk (show Kd.V (Kd.int .i64) 3 _ w.heap.size _ _ ((rd_T35 t198 (rd t202 x8_1)).f5) from Kd.V_mk ul212_5 ge212_5)
                                      clear hva_ hvn_ hvc_ ge212_5 ul212_5
                                      clear hcc212 hce212
                                      have HR212_2 := Aside0.mk hi212_2
                                      have HC212_2 := Aside0.mk hl212_2
                                      clear hi212_2 hl212_2
                                      have HR212_5 := Aside0.mk hi212_5
                                      have HC212_5 := Aside0.mk hl212_5
                                      clear hi212_5 hl212_5
                                      replace p212 := eq_true p212
                                      replace q212 := eq_true q212
                                      have p213 : 0 ≤ ((rd t202 x8_1) : Int) := of_decide_eq_true (by first | (with_reducible assumption) | assumption)
                                      have q213 : (rd t202 x8_1) < (t198.length : Int) := of_decide_eq_true (by first | (with_reducible assumption) | assumption)
                                      obtain ⟨ad213, A213_2, c213_2, A213_5, c213_5, e213, hx213_0, hx213_1, hx213_2, hx213_3, hx213_4, hx213_5, hl213_2, hi213_2, hl213_5, hi213_5⟩ := at_T35 (Kd.V_reads' HO_198000.out).2.2 (rd t202 x8_1) p213 q213
                                      obtain rfl : ad212 = ad213 := (by injection e213)
                                      obtain ⟨ce213, hce213, hMe213, hcc213⟩ := Kd.V_get HO_198000.out z35 (rd t202 x8_1) p213 (by first | exact q213 | exact of_decide_eq_true (by first | (with_reducible assumption) | assumption) | (have e_ := (Kd.V_reads' HO_198000.out).1; omega))
                                      obtain ⟨ua213_2, uc213_2, ua213_5, uc213_5, rfl, ul213_2, ge213_2, ul213_5, ge213_5⟩ := k35_openF hMe213
                                      have hv213_2 := hcc213 2 _ rfl
                                      rw [add_field _ _ 2 (by omega)] at hv213_2
                                      replace hv213_2 := Option.some.inj (hv213_2.symm.trans hx213_2)
                                      injection hv213_2 with hva_ hvn_ hvc_
                                      rw [hva_] at ge213_2
                                      rw [hvc_] at ul213_2
                                      have HL213_2 := Aside0.mk (show Kd.V k78 78 _ w.heap.size _ _ ((rd_T35 t198 (rd t202 x8_1)).f2) from Kd.V_mk ul213_2 ge213_2)
                                      clear hva_ hvn_ hvc_ ge213_2 ul213_2
                                      have hv213_5 := hcc213 5 _ rfl
                                      rw [add_field _ _ 5 (by omega)] at hv213_5
                                      replace hv213_5 := Option.some.inj (hv213_5.symm.trans hx213_5)
                                      injection hv213_5 with hva_ hvn_ hvc_
                                      rw [hva_] at ge213_5
                                      rw [hvc_] at ul213_5
                                      have HL213_5 := Aside0.mk (show Kd.V (Kd.int .i64) 3 _ w.heap.size _ _ ((rd_T35 t198 (rd t202 x8_1)).f5) from Kd.V_mk ul213_5 ge213_5)
                                      clear hva_ hvn_ hvc_ ge213_5 ul213_5
                                      clear hcc213 hce213
                                      have HR213_2 := Aside0.mk hi213_2
                                      have HC213_2 := Aside0.mk hl213_2
                                      clear hi213_2 hl213_2
                                      have HR213_5 := Aside0.mk hi213_5
                                      have HC213_5 := Aside0.mk hl213_5
                                      clear hi213_5 hl213_5
                                      replace p213 := eq_true p213
                                      replace q213 := eq_true q213
                                      have ea_ := Option.some.inj (hx212_2.symm.trans hx213_2)
                                      injection ea_ with ea_ en_ ec_
                                      subst ea_
                                      subst ec_
                                      clear en_
                                      have ea_ := Option.some.inj (hx212_5.symm.trans hx213_5)
                                      injection ea_ with ea_ en_ ec_
                                      subst ea_
                                      subst ec_
                                      clear en_
                                      have p214 : 0 ≤ (((rd_T35 t198 (rd t202 x8_1)).f4) : Int) := of_decide_eq_true (by first | (with_reducible assumption) | assumption)
                                      have q214 : ((rd_T35 t198 (rd t202 x8_1)).f4) < (x7_1.length : Int) := of_decide_eq_true (by first | (with_reducible assumption) | assumption)
                                      obtain ⟨ad214, e214, hx214_0⟩ := Kd.at_bool (Kd.R_reads' HO_7.out).2.2 ((rd_T35 t198 (rd t202 x8_1)).f4) p214 q214
                                      (try rw [← Nbq26.out] at hx214_0)
                                      (try rw [← Nbq38.out] at hx214_0)
                                      obtain rfl : ad211 = ad214 := (by injection e214)
                                      replace p214 := eq_true p214
                                      replace q214 := eq_true q214
                                      go_wp2
                                      go_ret
                                      exact ⟨by first | rfl | (simp [errW_none, errW_some] <;> rfl) | (simp [*, errW_none, errW_some] <;> rfl), by repeat (first | (with_reducible first | exact HB.out | apply below_alloc | apply pw_below_drewN | apply below_drew1 | refine below_set ?_ GE197.out) | exact HB.out)⟩
                                  · rw [if_neg c37] at H
                                    exact absurd H (by simp)
                                · rw [if_neg c36] at H
                                  exact absurd H (by simp)
                            · rw [if_neg c31] at H
                              exact absurd H (by simp)
                          · rw [if_neg c30] at H
                            have c30b0 : decide (0 < x8_1) = false := decide_eq_false c30
                            clear c30
                            obtain ⟨y216, hy216⟩ : ∃ y_ : List Bool, y_ = (x7_1.set ((rd t202 x8_1) : Int).toNat true) := ⟨_, rfl⟩
                            replace H : (clerestorykeep1_DomOrder.l0 k1 a1 t202 y216 (wrap64 (x8_1 + 1)) t198 t201) = some r := by first | (rw [hy216]; with_reducible exact H) | (have H2_ := (Option.bind_some _ _).symm.trans H; rw [hy216]; with_reducible exact H2_) | (have H2_ := (Option.bind_some _ _).symm.trans H; with_reducible exact H2_) | with_reducible exact H | (rw [hy216]; exact H) | exact H
                            have Ny216 := Aside0.mk hy216
                            clear hy216
                            have H' := Aside0.mk H
                            clear H
                            obtain ⟨Ao50, co50, eo50⟩ := Kd.R_slice HO_5.out
                            subst eo50
                            have p210 : 0 ≤ (x8_1 : Int) := of_decide_eq_true (by first | (with_reducible assumption) | assumption)
                            have q210 : x8_1 < (t202.length : Int) := of_decide_eq_true (by first | (with_reducible assumption) | assumption)
                            obtain ⟨ad210, e210, hx210_0⟩ := Kd.at_int (Kd.R_reads' HO_5.out).2.2 x8_1 p210 q210
                            cases e210
                            replace p210 := eq_true p210
                            replace q210 := eq_true q210
                            obtain ⟨Ao51, co51, eo51⟩ := Kd.R_slice HO_7.out
                            subst eo51
                            have p211 : 0 ≤ ((rd t202 x8_1) : Int) := of_decide_eq_true (by first | (with_reducible assumption) | assumption)
                            have q211 : (rd t202 x8_1) < (x7_1.length : Int) := of_decide_eq_true (by first | (with_reducible assumption) | assumption)
                            obtain ⟨ad211, e211, hx211_0⟩ := Kd.at_bool (Kd.R_reads' HO_7.out).2.2 (rd t202 x8_1) p211 q211
                            (try rw [← Nbq26.out] at hx211_0)
                            cases e211
                            replace p211 := eq_true p211
                            replace q211 := eq_true q211
                            have p49 : 0 ≤ ((rd t202 x8_1) : Int) := of_decide_eq_true (by first | (with_reducible assumption) | assumption)
                            have q49 : ((rd t202 x8_1) : Int) < ((x7_1.length : Int) : Int) := of_decide_eq_true (by first | (with_reducible assumption) | assumption)
                            obtain ⟨go49, co49, eo49, gb49, gl49, cl49, HG49⟩ := Kd.R_form HO_7.out (by omega)
                            (first | cases eo49 | (injection eo49 with ea_ en_ ec_; (first | subst ea_ | (injection ea_ with ea_; subst ea_)); subst ec_; clear en_))
                            have GB49 := Aside0.mk gb49
                            have GG49 := Aside0.mk HG49
                            clear gb49 gl49 HG49
                            (first | simp only [add_plain] at hx211_0 | skip)
                            (first | simp only [add_plain] at hx214_0 | skip)
                            obtain ⟨hx49_0, hf49_0⟩ := Kd.R_celln false HO_7.out ((rd t202 x8_1) : Int) p49 q49
                            replace p49 := eq_true p49
                            replace q49 := eq_true q49
                            have HP52 := Kd.R_putg HO_7.out ((rd t202 x8_1) : Int) true
                            go_wp2_with (first | ((with_reducible refine gate_store (t := 4) (p := 84) rfl ?_); refine store_event (t := 4) (p := 84) (v := ?vo_w53) (w1 := (wr.setCell ⟨go49, ((rd t202 x8_1) : Int).toNat, none⟩ (.bool true))) ?hg ?ho ?hn ?hr ?_; (case ho => rfl); (case hg => rfl); (case hn => rfl); (case hr => first | (go_simp; done) | (go_simp; rfl)); intro w53 hw; have hg : wr.grownBy w53 (some go49) := (by rw [hw]; exact HP52.2); have hp_ : Kd.R Kd.bool 4 w53 w.heap.size (fun _ => True) (.slice (some ⟨go49, 0, none⟩) x7_1.length co51) y216 := (by rw [hw, Ny216.out]; exact HP52.1); clear HP52; have n0_ := Aside0.mk (Kd.R_over' (v := (.slice (some ⟨go49, 0, none⟩) x7_1.length co51)) (by (with_reducible repeat (first | apply Kd.R_alloc | apply Kd.R_drewN | apply Kd.R_drew)); exact HO_5.out) (Kd.R_typed HO_7.out) (by decide) hg); have n1_ := Aside0.mk (hp_); have n2_ := Aside0.mk (Kd.V_afterv (v := (.slice (some ⟨go49, 0, none⟩) x7_1.length co51)) (v1 := (.slice (some ⟨go49, 0, none⟩) x7_1.length co51)) (ok := (fun k_ => some k_ ≠ (.slice (some ad210) t202.length co50 : Value).ownBlock ∧ k_ ≠ gb197)) (by (with_reducible repeat (first | apply Kd.V_alloc | apply Kd.V_drewN | apply Kd.V_drew)); exact Kd.V_mono HO_198000.out (fun _ hk => ⟨⟨hk.1, hk.2.2⟩, hk.2.1⟩)) hg (.inl rfl)); have n3_ := Aside0.mk (blk_grown (g := gb197) (o := .cells #[.slice Ao11 t198.length co11, .bool t201] 24 (0, 0)) (by (with_reducible repeat (first | refine blk_drewN ?_ _ | refine blk_drew ?_ | refine blk_alloc ?_ _)); exact BK197.out) hg (Kd.R_ne HO_7.out BK197.out (by decide))); have n4_ := Aside0.mk ((by rw [hw]; exact below_set (HB.out) GB49.out : Below w.heap.size w w53)); clear HO_5; clear HO_7; clear HO_198000; clear BK197; clear HB; have HO_5 := n0_; have HO_7 := n1_; have HO_198000 := n2_; have BK197 := n3_; have HB := n4_; clear n0_ n1_ n2_ n3_ n4_; clear hg hw hp_))
                            go_roundg k1
                            case measure => have := HK1.out; omega
                            case rel => exact ⟨(y216), (wrap64 (x8_1 + 1)), (by first | rfl | (simp; done) | (simp [*]; done)), H', ⟨by have := HK1.out; omega⟩, ⟨by (with_reducible repeat (first | apply Kd.R_alloc | apply Kd.R_drewN | apply Kd.R_drew)); exact HO_5.out⟩, ⟨by (with_reducible repeat (first | apply Kd.R_alloc | apply Kd.R_drewN | apply Kd.R_drew)); exact HO_7.out⟩, ⟨by (with_reducible repeat (first | apply Kd.V_alloc | apply Kd.V_drewN | apply Kd.V_drew)); exact Kd.V_mono HO_198000.out (fun _ hk => ⟨hk.1.1, ⟨hk.2, hk.1.2⟩⟩)⟩, ⟨by (with_reducible repeat (first | refine blk_drewN ?_ _ | refine blk_drew ?_ | refine blk_alloc ?_ _)); exact BK197.out⟩, ⟨by repeat (first | (with_reducible first | exact HB.out | apply below_alloc | apply pw_below_drewN | apply below_drew1 | refine below_set ?_ GE197.out) | exact HB.out)⟩⟩
                      · rw [if_neg c25] at H
                        exact absurd H (by simp)
                    · rw [if_neg c24] at H
                      exact absurd H (by simp)
              · rw [if_neg c18] at H
                exact absurd H (by simp)
            · rw [if_neg c17] at H
              have c17b0 : decide (x8_1 < (t202.length : Int)) = false := decide_eq_false c17
              clear c17
              replace H := Option.bind_eq_some_iff.mp H
              obtain ⟨⟨t217, t220⟩, A540, H⟩ := H
              replace H : (if a1 < 0 then (clerestorykeep1_DomOrder.j1 k1 a1 x7_1 t217 t220 true t198 t201) else (clerestorykeep1_DomOrder.j1 k1 a1 x7_1 t217 t220 (decide (a1 ≥ (x7_1.length : Int))) t198 t201)) = some r := H
              have A54 := Aside0.mk A540
              clear A540
              have HC55 := Aside0.mk H
              clear H
              obtain ⟨Ao56, co56, eo56⟩ := Kd.R_slice HO_5.out
              subst eo56
              have hcz57_0 : wr.cell? ⟨gb197, 0, none⟩ = some (.slice Ao11 t198.length co11) := (blk_cell BK197.out 0).trans rfl
              have hcz57_1 : wr.cell? ⟨gb197, 1, none⟩ = some (.bool t201) := (blk_cell BK197.out 1).trans rfl
              have hfz57_0 := blk_frozen BK197.out 0
              have hfz57_1 := blk_frozen BK197.out 1
              go_upto_region 14 with (first | ((with_reducible refine gate_callee (f := 23) rfl ?_); refine goesL_ (some 88) rfl rfl Tryd.func23 (by kernel_rfl) rfl #[.agg #[.slice Ao11 t198.length co11, .bool t201], .int .i64 a1] rfl (by (try simp only [List.map_toArray, List.map_cons, List.map_nil]); first | done | rfl | (simp only [List.length_drop, List.length_take]; rfl)) ?_; (with_reducible refine (dom_Path.calls k1 _ _ t198 t201 a1 t217 t220 _ ?side1 ?side2 A54.out).mono ?_); (case side1 => repeat (first | exact (Kd.V_reads' HO_198000.out).2.2 | (with_reducible refine Kd.C_alloc ?_ _) | (with_reducible refine Kd.C_drewN ?_ _) | (with_reducible refine Kd.C_drew ?_))); (case side2 => exact (Kd.V_reads' HO_198000.out).2.1); rintro e w58 ⟨v218, rfl, ho0, hb⟩; refine ⟨_, rfl, ?_⟩; have n0_ := Aside0.mk (Kd.R_elder' (by (with_reducible repeat (first | apply Kd.R_alloc | apply Kd.R_drewN | apply Kd.R_drew)); exact HO_5.out) (Kd.R_base ho0) hb); have n1_ := Aside0.mk (Kd.R_below (by (with_reducible repeat (first | apply Kd.R_alloc | apply Kd.R_drewN | apply Kd.R_drew)); exact HO_7.out) hb); have n2_ := Aside0.mk (Kd.V_elder' (by (with_reducible repeat (first | apply Kd.V_alloc | apply Kd.V_drewN | apply Kd.V_drew)); exact HO_198000.out) (Kd.R_base ho0) hb); have n3_ := Aside0.mk (Kd.R_lower (Kd.R_new' ho0 (Kd.R_lt (by (with_reducible repeat (first | apply Kd.R_alloc | apply Kd.R_drewN | apply Kd.R_drew)); exact HO_5.out))) (below_size (by repeat (first | (with_reducible first | exact HB.out | apply below_alloc | apply pw_below_drewN | apply below_drew1 | refine below_set ?_ GE197.out) | exact HB.out)))); have n4_ := Aside0.mk (blk_below (g := gb197) (o := .cells #[.slice Ao11 t198.length co11, .bool t201] 24 (0, 0)) (by (with_reducible repeat (first | refine blk_drewN ?_ _ | refine blk_drew ?_ | refine blk_alloc ?_ _)); exact BK197.out) hb); have n5_ := Aside0.mk (below_step (by repeat (first | (with_reducible first | exact HB.out | apply below_alloc | apply pw_below_drewN | apply below_drew1 | refine below_set ?_ GE197.out) | exact HB.out)) hb); clear HO_5; clear HO_7; clear HO_198000; clear BK197; clear HB; have HO_5 := n0_; have HO_7 := n1_; have HO_198000 := n2_; have HO219 := n3_; have BK197 := n4_; have HB := n5_; clear n0_ n1_ n2_ n3_ n4_ n5_; (try clear hb); (try clear hb2); (try clear hk); (try clear hi); (try clear ho0)))
              (try simp only [Act.put, List.setIfInBounds_toArray, List.set_cons_zero, List.set_cons_succ])
              go_cut [98] (fun v98 wc => ∃ (kq : Nat) (x98_54 : Bool), v98 = .bool x98_54 ∧ Aside0 (clerestorykeep1_DomOrder.j1 kq a1 x7_1 t217 t220 x98_54 t198 t201 = some r) ∧ Aside0 (kq ≤ k1) ∧ Aside0 (Kd.R Kd.bool 4 wc w.heap.size (fun _ => True) v208 x7_1) ∧ Aside0 (Kd.R (Kd.int .i64) 3 wc w.heap.size (fun _ => True) v218 t217) ∧ Aside0 (Kd.V k35 35 wc w.heap.size (fun k_ => some k_ ≠ (v208 : Value).ownBlock ∧ some k_ ≠ (v218 : Value).ownBlock ∧ k_ ≠ gb197) (.slice Ao11 t198.length co11) t198) ∧ Aside0 (wc.heap[gb197]? = some (.cells #[(.slice Ao11 t198.length co11), .bool t201] 24 (0, 0))) ∧ Aside0 (Below w.heap.size w wc))
              case first =>
                have H := HC55.out
                clear HC55
                by_cases c59 : a1 < 0
                · rw [if_pos c59] at H
                  have c59b0 : decide (a1 < 0) = true := decide_eq_true c59
                  clear c59
                  (first | rw [c59b0] | (simp only [i64_w, i32_w]; rw [c59b0]) | skip)
                  have H' := Aside0.mk H
                  clear H
                  go_wp2
                  go_meet
                  case rel => exact ⟨_, (true), (by first | rfl | (simp; done) | (simp [*]; done)), H', ⟨by have := HK1.out; first | omega | exact Nat.le_refl _⟩, ⟨by (with_reducible repeat (first | apply Kd.R_alloc | apply Kd.R_drewN | apply Kd.R_drew)); exact HO_7.out⟩, ⟨by (with_reducible repeat (first | apply Kd.R_alloc | apply Kd.R_drewN | apply Kd.R_drew)); exact Kd.R_mono HO219.out (fun _ hk => trivial)⟩, ⟨by (with_reducible repeat (first | apply Kd.V_alloc | apply Kd.V_drewN | apply Kd.V_drew)); exact Kd.V_mono HO_198000.out (fun _ hk => ⟨hk.1.2.1, ⟨hk.2, hk.1.2.2⟩⟩)⟩, ⟨by (with_reducible repeat (first | refine blk_drewN ?_ _ | refine blk_drew ?_ | refine blk_alloc ?_ _)); exact BK197.out⟩, ⟨by repeat (first | (with_reducible first | exact HB.out | apply below_alloc | apply pw_below_drewN | apply below_drew1 | refine below_set ?_ GE197.out) | exact HB.out)⟩⟩
                · rw [if_neg c59] at H
                  have c59b0 : decide (a1 < 0) = false := decide_eq_false c59
                  clear c59
                  (first | rw [c59b0] | (simp only [i64_w, i32_w]; rw [c59b0]) | skip)
                  have H' := Aside0.mk H
                  clear H
                  obtain ⟨Ao60, co60, eo60⟩ := Kd.R_slice HO_7.out
                  subst eo60
                  go_wp2
                  go_meet
                  case rel => exact ⟨_, (decide (a1 ≥ (x7_1.length : Int))), (by first | rfl | (simp; done) | (simp [*]; done)), H', ⟨by have := HK1.out; first | omega | exact Nat.le_refl _⟩, ⟨by (with_reducible repeat (first | apply Kd.R_alloc | apply Kd.R_drewN | apply Kd.R_drew)); exact HO_7.out⟩, ⟨by (with_reducible repeat (first | apply Kd.R_alloc | apply Kd.R_drewN | apply Kd.R_drew)); exact Kd.R_mono HO219.out (fun _ hk => trivial)⟩, ⟨by (with_reducible repeat (first | apply Kd.V_alloc | apply Kd.V_drewN | apply Kd.V_drew)); exact Kd.V_mono HO_198000.out (fun _ hk => ⟨hk.1.2.1, ⟨hk.2, hk.1.2.2⟩⟩)⟩, ⟨by (with_reducible repeat (first | refine blk_drewN ?_ _ | refine blk_drew ?_ | refine blk_alloc ?_ _)); exact BK197.out⟩, ⟨by repeat (first | (with_reducible first | exact HB.out | apply below_alloc | apply pw_below_drewN | apply below_drew1 | refine below_set ?_ GE197.out) | exact HB.out)⟩⟩
              case rest =>
                clear HC55
                try clear c1
                try clear p1
                try clear c2
                try clear p2
                try clear q2
                try clear hx2
                try clear c3
                try clear q3
                try clear p4
                try clear q4
                try clear hx4
                try clear hf4
                try clear c5
                try clear c5b0
                try clear c5b1
                try clear c6
                try clear c6b0
                try clear c6b1
                try clear p6
                try clear c7
                try clear c7b0
                try clear c7b1
                try clear c9
                try clear c14
                try clear c17
                try clear c17b0
                try clear c18
                try clear c18b0
                try clear c19
                try clear c19b0
                try clear c21
                try clear c21b0
                try clear p21
                try clear q21
                try clear hx21
                try clear c23
                try clear c24
                try clear c24b0
                try clear c25
                try clear c25b0
                try clear q26
                try clear c27
                try clear c30
                try clear c30b0
                try clear c31
                try clear c31b0
                try clear c32
                try clear c32b0
                try clear c36
                try clear c36b0
                try clear c37
                try clear c37b0
                try clear q38
                try clear c39
                try clear p40
                try clear q40
                try clear hx40
                try clear hf40
                try clear p49
                try clear q49
                try clear hx49
                try clear hf49
                try clear c59
                try clear c59b0
                try clear hcz12_0
                try clear hcz12_1
                try clear hcz14_0
                try clear hcz14_1
                try clear hcz35_0
                try clear hcz35_1
                try clear hcz43_0
                try clear hcz43_1
                try clear hcz48_0
                try clear hcz48_1
                try clear hcz57_0
                try clear hcz57_1
                try clear hcz9_0
                try clear hcz9_1
                try clear hfz12_0
                try clear hfz12_1
                try clear hfz14_0
                try clear hfz14_1
                try clear hfz35_0
                try clear hfz35_1
                try clear hfz43_0
                try clear hfz43_1
                try clear hfz48_0
                try clear hfz48_1
                try clear hfz57_0
                try clear hfz57_1
                try clear hfz9_0
                try clear hfz9_1
                try clear hx210_0
                try clear hx211_0
                try clear hx212_0
                try clear hx212_1
                try clear hx212_2
                try clear hx212_3
                try clear hx212_4
                try clear hx212_5
                try clear hx213_0
                try clear hx213_1
                try clear hx213_2
                try clear hx213_3
                try clear hx213_4
                try clear hx213_5
                try clear hx214_0
                try clear hx40_0
                try clear hx49_0
                try clear p1
                try clear p2
                try clear p210
                try clear p211
                try clear p212
                try clear p213
                try clear p214
                try clear p40
                try clear p49
                try clear q210
                try clear q211
                try clear q212
                try clear q213
                try clear q214
                try clear q40
                try clear q49
                obtain ⟨kq, x98_54, rfl, HA, HJ54, HO_7, HO_10, HO_198000, BK197, HB⟩ := hcut
                cases kq with
                | zero => exact absurd HA.out (by simp [clerestorykeep1_DomOrder.j1])
                | succ kj54 =>
                  have H := HA.out
                  clear HA
                  simp only [clerestorykeep1_DomOrder.j1] at H
                  by_cases c61 : x98_54 = true
                  · subst c61
                    have H1 : ((clerestorykeep1_domBegun.f kj54).bind fun t221 => (if t221 = true then (some (t220 == 1)) else (some false))) = some r := by rw [if_pos rfl] at H; exact H
                    clear H
                    have H := H1
                    clear H1
                    replace H := Option.bind_eq_some_iff.mp H
                    obtain ⟨t221, A620, H⟩ := H
                    replace H : (if t221 = true then (some (t220 == 1)) else (some false)) = some r := H
                    have A62 := Aside0.mk A620
                    clear A620
                    by_cases c63 : t221 = true
                    · subst c63
                      have H1 : (some (t220 == 1)) = some r := by rw [if_pos rfl] at H; exact H
                      clear H
                      have H := H1
                      clear H1
                      obtain rfl := Option.some.inj H
                      go_wp2_with (first | ((with_reducible refine gate_callee (f := 19) rfl ?_); refine goesL_ (some 99) rfl rfl Tryd.func19 (by kernel_rfl) rfl #[] rfl (by (try simp only [List.map_toArray, List.map_cons, List.map_nil]); first | done | rfl | (simp only [List.length_drop, List.length_take]; rfl)) ?_; (with_reducible refine (clerestorykeep1_domBegun.calls kj54  true _ A62.out).mono ?_); rintro e w64 ⟨rfl, hb⟩; refine ⟨_, rfl, ?_⟩; have n0_ := Aside0.mk (Kd.R_below (by (with_reducible repeat (first | apply Kd.R_alloc | apply Kd.R_drewN | apply Kd.R_drew)); exact HO_7.out) hb); have n1_ := Aside0.mk (Kd.R_below (by (with_reducible repeat (first | apply Kd.R_alloc | apply Kd.R_drewN | apply Kd.R_drew)); exact HO_10.out) hb); have n2_ := Aside0.mk (Kd.V_below (by (with_reducible repeat (first | apply Kd.V_alloc | apply Kd.V_drewN | apply Kd.V_drew)); exact HO_198000.out) hb); have n3_ := Aside0.mk (blk_below (g := gb197) (o := .cells #[.slice Ao11 t198.length co11, .bool t201] 24 (0, 0)) (by (with_reducible repeat (first | refine blk_drewN ?_ _ | refine blk_drew ?_ | refine blk_alloc ?_ _)); exact BK197.out) hb); have n4_ := Aside0.mk (below_step (by repeat (first | (with_reducible first | exact HB.out | apply below_alloc | apply pw_below_drewN | apply below_drew1 | refine below_set ?_ GE197.out) | exact HB.out)) hb); clear HO_7; clear HO_10; clear HO_198000; clear BK197; clear HB; have HO_7 := n0_; have HO_10 := n1_; have HO_198000 := n2_; have BK197 := n3_; have HB := n4_; clear n0_ n1_ n2_ n3_ n4_; (try clear hb); (try clear hb2); (try clear hk); (try clear hi)))
                      go_ret
                      exact ⟨by first | rfl | (simp [errW_none, errW_some] <;> rfl) | (simp [*, errW_none, errW_some] <;> rfl), by repeat (first | (with_reducible first | exact HB.out | apply below_alloc | apply pw_below_drewN | apply below_drew1 | refine below_set ?_ GE197.out) | exact HB.out)⟩
                    · replace c63 := Bool.eq_false_iff.mpr c63
                      subst c63
                      have H1 : (some false) = some r := by rw [if_neg (show ¬ (false = true) by decide)] at H; exact H
                      clear H
                      have H := H1
                      clear H1
                      obtain rfl := Option.some.inj H
                      go_wp2_with (first | ((with_reducible refine gate_callee (f := 19) rfl ?_); refine goesL_ (some 99) rfl rfl Tryd.func19 (by kernel_rfl) rfl #[] rfl (by (try simp only [List.map_toArray, List.map_cons, List.map_nil]); first | done | rfl | (simp only [List.length_drop, List.length_take]; rfl)) ?_; (with_reducible refine (clerestorykeep1_domBegun.calls kj54  false _ A62.out).mono ?_); rintro e w65 ⟨rfl, hb⟩; refine ⟨_, rfl, ?_⟩; have n0_ := Aside0.mk (Kd.R_below (by (with_reducible repeat (first | apply Kd.R_alloc | apply Kd.R_drewN | apply Kd.R_drew)); exact HO_7.out) hb); have n1_ := Aside0.mk (Kd.R_below (by (with_reducible repeat (first | apply Kd.R_alloc | apply Kd.R_drewN | apply Kd.R_drew)); exact HO_10.out) hb); have n2_ := Aside0.mk (Kd.V_below (by (with_reducible repeat (first | apply Kd.V_alloc | apply Kd.V_drewN | apply Kd.V_drew)); exact HO_198000.out) hb); have n3_ := Aside0.mk (blk_below (g := gb197) (o := .cells #[.slice Ao11 t198.length co11, .bool t201] 24 (0, 0)) (by (with_reducible repeat (first | refine blk_drewN ?_ _ | refine blk_drew ?_ | refine blk_alloc ?_ _)); exact BK197.out) hb); have n4_ := Aside0.mk (below_step (by repeat (first | (with_reducible first | exact HB.out | apply below_alloc | apply pw_below_drewN | apply below_drew1 | refine below_set ?_ GE197.out) | exact HB.out)) hb); clear HO_7; clear HO_10; clear HO_198000; clear BK197; clear HB; have HO_7 := n0_; have HO_10 := n1_; have HO_198000 := n2_; have BK197 := n3_; have HB := n4_; clear n0_ n1_ n2_ n3_ n4_; (try clear hb); (try clear hb2); (try clear hk); (try clear hi)))
                      go_ret
                      exact ⟨by first | rfl | (simp [errW_none, errW_some] <;> rfl) | (simp [*, errW_none, errW_some] <;> rfl), by repeat (first | (with_reducible first | exact HB.out | apply below_alloc | apply pw_below_drewN | apply below_drew1 | refine below_set ?_ GE197.out) | exact HB.out)⟩
                  · replace c61 := Bool.eq_false_iff.mpr c61
                    subst c61
                    have H1 : (if 0 ≤ a1 then (if a1 < (x7_1.length : Int) then (if ((t220 == 0) != (rdOf false x7_1 a1)) = true then (some false) else (if t220 = 0 then (clerestorykeep1_DomOrder.j2 kj54 a1 t217 (a1 == 0) t198 t201) else (clerestorykeep1_DomOrder.j2 kj54 a1 t217 true t198 t201))) else (none)) else (none)) = some r := by rw [if_neg (show ¬ (false = true) by decide)] at H; exact H
                    clear H
                    have H := H1
                    clear H1
                    by_cases c66 : 0 ≤ a1
                    · rw [if_pos c66] at H
                      have c66b0 : decide (0 ≤ a1) = true := decide_eq_true c66
                      clear c66
                      by_cases c67 : a1 < (x7_1.length : Int)
                      · rw [if_pos c67] at H
                        have c67b0 : decide (a1 < (x7_1.length : Int)) = true := decide_eq_true c67
                        clear c67
                        by_cases c68 : ((t220 == 0) != (rdOf false x7_1 a1)) = true
                        · rw [if_pos c68] at H
                          have c68b0 : ((t220 == 0) != (rdOf false x7_1 a1)) = true := c68
                          (try (have c68b1 : decide ((t220 == 0) = (rdOf false x7_1 a1)) = false := by simpa using c68))
                          (try (have c68b2 : ((t220 == 0) == (rdOf false x7_1 a1)) = false := by simpa using c68))
                          (try (have c68b3 : ¬ ((t220 == 0) = (rdOf false x7_1 a1)) := by simpa using c68))
                          clear c68
                          obtain rfl := Option.some.inj H
                          obtain ⟨Ao69, co69, eo69⟩ := Kd.R_slice HO_7.out
                          subst eo69
                          have p222 : 0 ≤ (a1 : Int) := of_decide_eq_true (by first | (with_reducible assumption) | assumption)
                          have q222 : a1 < (x7_1.length : Int) := of_decide_eq_true (by first | (with_reducible assumption) | assumption)
                          obtain ⟨ad222, e222, hx222_0⟩ := Kd.at_bool (Kd.R_reads' HO_7.out).2.2 a1 p222 q222
                          cases e222
                          replace p222 := eq_true p222
                          replace q222 := eq_true q222
                          go_wp2
                          go_ret
                          exact ⟨by first | rfl | (simp [errW_none, errW_some] <;> rfl) | (simp [*, errW_none, errW_some] <;> rfl), by repeat (first | (with_reducible first | exact HB.out | apply below_alloc | apply pw_below_drewN | apply below_drew1 | refine below_set ?_ GE197.out) | exact HB.out)⟩
                        · rw [if_neg c68] at H
                          have c68b0 : ((t220 == 0) != (rdOf false x7_1 a1)) = false := by simpa using c68
                          (try (have c68b1 : decide ((t220 == 0) = (rdOf false x7_1 a1)) = true := by simpa using c68))
                          (try (have c68b2 : ((t220 == 0) == (rdOf false x7_1 a1)) = true := by simpa using c68))
                          clear c68
                          have HC70 := Aside0.mk H
                          clear H
                          obtain ⟨Ao71, co71, eo71⟩ := Kd.R_slice HO_7.out
                          subst eo71
                          have p222 : 0 ≤ (a1 : Int) := of_decide_eq_true (by first | (with_reducible assumption) | assumption)
                          have q222 : a1 < (x7_1.length : Int) := of_decide_eq_true (by first | (with_reducible assumption) | assumption)
                          obtain ⟨ad222, e222, hx222_0⟩ := Kd.at_bool (Kd.R_reads' HO_7.out).2.2 a1 p222 q222
                          cases e222
                          replace p222 := eq_true p222
                          replace q222 := eq_true q222
                          go_upto_region 18 with (fail)
                          go_cut [116] (fun v116 wc => ∃ (kq : Nat) (x116_69 : Bool), v116 = .bool x116_69 ∧ Aside0 (clerestorykeep1_DomOrder.j2 kq a1 t217 x116_69 t198 t201 = some r) ∧ Aside0 (kq ≤ kj54) ∧ Aside0 (Kd.R (Kd.int .i64) 3 wc w.heap.size (fun _ => True) v218 t217) ∧ Aside0 (Kd.V k35 35 wc w.heap.size (fun k_ => some k_ ≠ (v218 : Value).ownBlock ∧ k_ ≠ gb197) (.slice Ao11 t198.length co11) t198) ∧ Aside0 (wc.heap[gb197]? = some (.cells #[(.slice Ao11 t198.length co11), .bool t201] 24 (0, 0))) ∧ Aside0 (Below w.heap.size w wc))
                          case first =>
                            have H := HC70.out
                            clear HC70
                            by_cases c72 : t220 = 0
                            · rw [if_pos c72] at H
                              have c72b0 : (t220 == 0) = true := beq_iff_eq.mpr c72
                              have c72b1 : (t220 != 0) = false := bne_eq_false_iff_eq.mpr c72
                              clear c72
                              (first | rw [c72b0] | (simp only [i64_w, i32_w]; rw [c72b0]) | skip)
                              have H' := Aside0.mk H
                              clear H
                              go_wp2
                              go_meet
                              case rel => exact ⟨_, ((a1 == 0)), (by first | rfl | (simp; done) | (simp [*]; done)), H', ⟨by have := HK1.out; have := HJ54.out; first | omega | exact Nat.le_refl _⟩, ⟨by (with_reducible repeat (first | apply Kd.R_alloc | apply Kd.R_drewN | apply Kd.R_drew)); exact HO_10.out⟩, ⟨by (with_reducible repeat (first | apply Kd.V_alloc | apply Kd.V_drewN | apply Kd.V_drew)); exact Kd.V_mono HO_198000.out (fun _ hk => ⟨hk.2.1, hk.2.2⟩)⟩, ⟨by (with_reducible repeat (first | refine blk_drewN ?_ _ | refine blk_drew ?_ | refine blk_alloc ?_ _)); exact BK197.out⟩, ⟨by repeat (first | (with_reducible first | exact HB.out | apply below_alloc | apply pw_below_drewN | apply below_drew1 | refine below_set ?_ GE197.out) | exact HB.out)⟩⟩
                            · rw [if_neg c72] at H
                              have c72b0 : (t220 == 0) = false := beq_eq_false_iff_ne.mpr c72
                              have c72b1 : (t220 != 0) = true := bne_iff_ne.mpr c72
                              (first | rw [c72b0] | (simp only [i64_w, i32_w]; rw [c72b0]) | skip)
                              have H' := Aside0.mk H
                              clear H
                              go_wp2
                              go_meet
                              case rel => exact ⟨_, (true), (by first | rfl | (simp; done) | (simp [*]; done)), H', ⟨by have := HK1.out; have := HJ54.out; first | omega | exact Nat.le_refl _⟩, ⟨by (with_reducible repeat (first | apply Kd.R_alloc | apply Kd.R_drewN | apply Kd.R_drew)); exact HO_10.out⟩, ⟨by (with_reducible repeat (first | apply Kd.V_alloc | apply Kd.V_drewN | apply Kd.V_drew)); exact Kd.V_mono HO_198000.out (fun _ hk => ⟨hk.2.1, hk.2.2⟩)⟩, ⟨by (with_reducible repeat (first | refine blk_drewN ?_ _ | refine blk_drew ?_ | refine blk_alloc ?_ _)); exact BK197.out⟩, ⟨by repeat (first | (with_reducible first | exact HB.out | apply below_alloc | apply pw_below_drewN | apply below_drew1 | refine below_set ?_ GE197.out) | exact HB.out)⟩⟩
                          case rest =>
                            clear HC70
                            try clear c1
                            try clear p1
                            try clear c2
                            try clear p2
                            try clear q2
                            try clear hx2
                            try clear c3
                            try clear q3
                            try clear p4
                            try clear q4
                            try clear hx4
                            try clear hf4
                            try clear c5
                            try clear c5b0
                            try clear c5b1
                            try clear c6
                            try clear c6b0
                            try clear c6b1
                            try clear p6
                            try clear c7
                            try clear c7b0
                            try clear c7b1
                            try clear c9
                            try clear c14
                            try clear c17
                            try clear c17b0
                            try clear c18
                            try clear c18b0
                            try clear c19
                            try clear c19b0
                            try clear c21
                            try clear c21b0
                            try clear p21
                            try clear q21
                            try clear hx21
                            try clear p22
                            try clear q22
                            try clear hx22
                            try clear c23
                            try clear c24
                            try clear c24b0
                            try clear c25
                            try clear c25b0
                            try clear q26
                            try clear c27
                            try clear c30
                            try clear c30b0
                            try clear c31
                            try clear c31b0
                            try clear c32
                            try clear c32b0
                            try clear c36
                            try clear c36b0
                            try clear c37
                            try clear c37b0
                            try clear q38
                            try clear c39
                            try clear p40
                            try clear q40
                            try clear hx40
                            try clear hf40
                            try clear p49
                            try clear q49
                            try clear hx49
                            try clear hf49
                            try clear c59
                            try clear c59b0
                            try clear c61
                            try clear c63
                            try clear p64
                            try clear c66
                            try clear c66b0
                            try clear c67
                            try clear c67b0
                            try clear c68
                            try clear c68b0
                            try clear c68b1
                            try clear c68b2
                            try clear c72
                            try clear c72b0
                            try clear c72b1
                            try clear hcz12_0
                            try clear hcz12_1
                            try clear hcz14_0
                            try clear hcz14_1
                            try clear hcz35_0
                            try clear hcz35_1
                            try clear hcz43_0
                            try clear hcz43_1
                            try clear hcz48_0
                            try clear hcz48_1
                            try clear hcz57_0
                            try clear hcz57_1
                            try clear hcz9_0
                            try clear hcz9_1
                            try clear hfz12_0
                            try clear hfz12_1
                            try clear hfz14_0
                            try clear hfz14_1
                            try clear hfz35_0
                            try clear hfz35_1
                            try clear hfz43_0
                            try clear hfz43_1
                            try clear hfz48_0
                            try clear hfz48_1
                            try clear hfz57_0
                            try clear hfz57_1
                            try clear hfz9_0
                            try clear hfz9_1
                            try clear hx210_0
                            try clear hx211_0
                            try clear hx212_0
                            try clear hx212_1
                            try clear hx212_2
                            try clear hx212_3
                            try clear hx212_4
                            try clear hx212_5
                            try clear hx213_0
                            try clear hx213_1
                            try clear hx213_2
                            try clear hx213_3
                            try clear hx213_4
                            try clear hx213_5
                            try clear hx214_0
                            try clear hx222_0
                            try clear hx40_0
                            try clear hx49_0
                            try clear p1
                            try clear p2
                            try clear p21
                            try clear p210
                            try clear p211
                            try clear p212
                            try clear p213
                            try clear p214
                            try clear p222
                            try clear p4
                            try clear p40
                            try clear p49
                            try clear p6
                            try clear q2
                            try clear q21
                            try clear q210
                            try clear q211
                            try clear q212
                            try clear q213
                            try clear q214
                            try clear q222
                            try clear q26
                            try clear q3
                            try clear q38
                            try clear q4
                            try clear q40
                            try clear q49
                            obtain ⟨kq, x116_69, rfl, HA, HJ69, HO_10, HO_198000, BK197, HB⟩ := hcut
                            cases kq with
                            | zero => exact absurd HA.out (by simp [clerestorykeep1_DomOrder.j2])
                            | succ kj69 =>
                              have H := HA.out
                              clear HA
                              simp only [clerestorykeep1_DomOrder.j2] at H
                              by_cases c73 : x116_69 = true
                              · subst c73
                                have H1 : ((clerestorykeep1_domBegun.f kj69).bind fun t223 => (if t223 = true then (if a1 = 0 then ((clerestorykeep1_sameInts.f kj69 t217 (([0] : List Int))).bind fun t227 => (some t227)) else (some true)) else (some false))) = some r := by rw [if_pos rfl] at H; exact H
                                clear H
                                have H := H1
                                clear H1
                                replace H := Option.bind_eq_some_iff.mp H
                                obtain ⟨t223, A740, H⟩ := H
                                replace H : (if t223 = true then (if a1 = 0 then ((clerestorykeep1_sameInts.f kj69 t217 (([0] : List Int))).bind fun t227 => (some t227)) else (some true)) else (some false)) = some r := H
                                have A74 := Aside0.mk A740
                                clear A740
                                by_cases c75 : t223 = true
                                · subst c75
                                  have H1 : (if a1 = 0 then ((clerestorykeep1_sameInts.f kj69 t217 (([0] : List Int))).bind fun t227 => (some t227)) else (some true)) = some r := by rw [if_pos rfl] at H; exact H
                                  clear H
                                  have H := H1
                                  clear H1
                                  by_cases c76 : a1 = 0
                                  · rw [if_pos c76] at H
                                    have c76b0 : (a1 == 0) = true := beq_iff_eq.mpr c76
                                    have c76b1 : (a1 != 0) = false := bne_eq_false_iff_eq.mpr c76
                                    clear c76
                                    obtain ⟨y224, hy224⟩ : ∃ y_ : List Int, y_ = (([0] : List Int)) := ⟨_, rfl⟩
                                    replace H : ((clerestorykeep1_sameInts.f kj69 t217 y224).bind fun t227 => (some t227)) = some r := by first | (rw [hy224]; with_reducible exact H) | (have H2_ := (Option.bind_some _ _).symm.trans H; rw [hy224]; with_reducible exact H2_) | (have H2_ := (Option.bind_some _ _).symm.trans H; with_reducible exact H2_) | with_reducible exact H | (rw [hy224]; exact H) | exact H
                                    have Ny224 := Aside0.mk hy224
                                    clear hy224
                                    replace H := Option.bind_eq_some_iff.mp H
                                    obtain ⟨t227, A770, H⟩ := H
                                    replace H : (some t227) = some r := H
                                    have A77 := Aside0.mk A770
                                    clear A770
                                    obtain rfl := Option.some.inj H
                                    go_wp2_with (first | ((with_reducible refine gate_callee (f := 19) rfl ?_); refine goesL_ (some 117) rfl rfl Tryd.func19 (by kernel_rfl) rfl #[] rfl (by (try simp only [List.map_toArray, List.map_cons, List.map_nil]); first | done | rfl | (simp only [List.length_drop, List.length_take]; rfl)) ?_; (with_reducible refine (clerestorykeep1_domBegun.calls kj69  true _ A74.out).mono ?_); rintro e w78 ⟨rfl, hb⟩; refine ⟨_, rfl, ?_⟩; have n0_ := Aside0.mk (Kd.R_below (by (with_reducible repeat (first | apply Kd.R_alloc | apply Kd.R_drewN | apply Kd.R_drew)); exact HO_10.out) hb); have n1_ := Aside0.mk (Kd.V_below (by (with_reducible repeat (first | apply Kd.V_alloc | apply Kd.V_drewN | apply Kd.V_drew)); exact HO_198000.out) hb); have n2_ := Aside0.mk (blk_below (g := gb197) (o := .cells #[.slice Ao11 t198.length co11, .bool t201] 24 (0, 0)) (by (with_reducible repeat (first | refine blk_drewN ?_ _ | refine blk_drew ?_ | refine blk_alloc ?_ _)); exact BK197.out) hb); have n3_ := Aside0.mk (below_step (by repeat (first | (with_reducible first | exact HB.out | apply below_alloc | apply pw_below_drewN | apply below_drew1 | refine below_set ?_ GE197.out) | exact HB.out)) hb); clear HO_10; clear HO_198000; clear BK197; clear HB; have HO_10 := n0_; have HO_198000 := n1_; have BK197 := n2_; have HB := n3_; clear n0_ n1_ n2_ n3_; (try clear hb); (try clear hb2); (try clear hk); (try clear hi)) | ((with_reducible refine gate_dst (N := 123) rfl ?_); (try (refine gate_guard (by rfl) ?_; dsimp only)); refine Kd.R_lit (Kd.int .i64) _ 3 ?hg (N := 123) ?hd (xs := ([0] : List Int)) (inner := [.int .i64 0]) (ok := fun _ => True) (okp := fun _ => True) ?hr ?hp (fun _ hk => hk) trivial (Below.refl _ _) (Nat.le_refl _) (by simp) ?_; (case hd => rfl); (case hg => rfl); (case hr => first | (go_simp; done) | (go_simp; rfl)); (case hp => exact (Reps.one (show Kd.M (Kd.int .i64) _ _ _ 0 [.int .i64 0] from rfl) (Reps.none _ _))); intro v225 w79 ho80 hb hg_ hnew_; clear hg_ hnew_; (first | rw [← Ny224.out] at ho80 | (simp only [Int.reduceToNat] at ho80; rw [← Ny224.out] at ho80)); have n0_ := Aside0.mk (Kd.R_elder' (by (with_reducible repeat (first | apply Kd.R_alloc | apply Kd.R_drewN | apply Kd.R_drew)); exact HO_10.out) (Kd.R_base ho80) hb); have n1_ := Aside0.mk (Kd.V_elder' (by (with_reducible repeat (first | apply Kd.V_alloc | apply Kd.V_drewN | apply Kd.V_drew)); exact HO_198000.out) (Kd.R_base ho80) hb); have n2_ := Aside0.mk (Kd.R_lower (Kd.R_new' ho80 (Kd.R_lt (by (with_reducible repeat (first | apply Kd.R_alloc | apply Kd.R_drewN | apply Kd.R_drew)); exact HO_10.out))) (below_size (by repeat (first | (with_reducible first | exact HB.out | apply below_alloc | apply pw_below_drewN | apply below_drew1 | refine below_set ?_ GE197.out) | exact HB.out)))); have n3_ := Aside0.mk (blk_below (g := gb197) (o := .cells #[.slice Ao11 t198.length co11, .bool t201] 24 (0, 0)) (by (with_reducible repeat (first | refine blk_drewN ?_ _ | refine blk_drew ?_ | refine blk_alloc ?_ _)); exact BK197.out) hb); have n4_ := Aside0.mk (below_step (by repeat (first | (with_reducible first | exact HB.out | apply below_alloc | apply pw_below_drewN | apply below_drew1 | refine below_set ?_ GE197.out) | exact HB.out)) hb); clear HO_10; clear HO_198000; clear BK197; clear HB; have HO_10 := n0_; have HO_198000 := n1_; have HO226 := n2_; have BK197 := n3_; have HB := n4_; clear n0_ n1_ n2_ n3_ n4_; clear hb ho80; obtain ⟨Ao81, co81, eo81⟩ := Kd.R_slice HO_10.out; subst eo81; obtain ⟨Ao82, co82, eo82⟩ := Kd.R_slice HO226.out; subst eo82) | (go_at_call 24; (with_reducible refine (clerestorykeep1_sameInts.calls kj69 _ _ t217 _ _ y224 t227 _ ?side1 ?side2 ?side3 ?side4 A77.out).mono ?_); (case side1 => repeat (first | exact (Kd.R_reads' HO_10.out).2.2 | (with_reducible refine Kd.C_alloc ?_ _) | (with_reducible refine Kd.C_drewN ?_ _) | (with_reducible refine Kd.C_drew ?_))); (case side2 => exact (Kd.R_reads' HO_10.out).2.1); (case side3 => repeat (first | exact (Kd.R_reads' HO226.out).2.2 | (with_reducible refine Kd.C_alloc ?_ _) | (with_reducible refine Kd.C_drewN ?_ _) | (with_reducible refine Kd.C_drew ?_))); (case side4 => exact (Kd.R_reads' HO226.out).2.1); rintro e w' ⟨rfl, ⟨nd, rfl⟩⟩))
                                    go_ret
                                    exact ⟨by first | rfl | (simp [errW_none, errW_some] <;> rfl) | (simp [*, errW_none, errW_some] <;> rfl), by repeat (first | (with_reducible first | exact HB.out | apply below_alloc | apply pw_below_drewN | apply below_drew1 | refine below_set ?_ GE197.out) | exact HB.out)⟩
                                  · rw [if_neg c76] at H
                                    have c76b0 : (a1 == 0) = false := beq_eq_false_iff_ne.mpr c76
                                    have c76b1 : (a1 != 0) = true := bne_iff_ne.mpr c76
                                    obtain rfl := Option.some.inj H
                                    go_wp2_with (first | ((with_reducible refine gate_callee (f := 19) rfl ?_); refine goesL_ (some 117) rfl rfl Tryd.func19 (by kernel_rfl) rfl #[] rfl (by (try simp only [List.map_toArray, List.map_cons, List.map_nil]); first | done | rfl | (simp only [List.length_drop, List.length_take]; rfl)) ?_; (with_reducible refine (clerestorykeep1_domBegun.calls kj69  true _ A74.out).mono ?_); rintro e w83 ⟨rfl, hb⟩; refine ⟨_, rfl, ?_⟩; have n0_ := Aside0.mk (Kd.R_below (by (with_reducible repeat (first | apply Kd.R_alloc | apply Kd.R_drewN | apply Kd.R_drew)); exact HO_10.out) hb); have n1_ := Aside0.mk (Kd.V_below (by (with_reducible repeat (first | apply Kd.V_alloc | apply Kd.V_drewN | apply Kd.V_drew)); exact HO_198000.out) hb); have n2_ := Aside0.mk (blk_below (g := gb197) (o := .cells #[.slice Ao11 t198.length co11, .bool t201] 24 (0, 0)) (by (with_reducible repeat (first | refine blk_drewN ?_ _ | refine blk_drew ?_ | refine blk_alloc ?_ _)); exact BK197.out) hb); have n3_ := Aside0.mk (below_step (by repeat (first | (with_reducible first | exact HB.out | apply below_alloc | apply pw_below_drewN | apply below_drew1 | refine below_set ?_ GE197.out) | exact HB.out)) hb); clear HO_10; clear HO_198000; clear BK197; clear HB; have HO_10 := n0_; have HO_198000 := n1_; have BK197 := n2_; have HB := n3_; clear n0_ n1_ n2_ n3_; (try clear hb); (try clear hb2); (try clear hk); (try clear hi)))
                                    go_ret
                                    exact ⟨by first | rfl | (simp [errW_none, errW_some] <;> rfl) | (simp [*, errW_none, errW_some] <;> rfl), by repeat (first | (with_reducible first | exact HB.out | apply below_alloc | apply pw_below_drewN | apply below_drew1 | refine below_set ?_ GE197.out) | exact HB.out)⟩
                                · replace c75 := Bool.eq_false_iff.mpr c75
                                  subst c75
                                  have H1 : (some false) = some r := by rw [if_neg (show ¬ (false = true) by decide)] at H; exact H
                                  clear H
                                  have H := H1
                                  clear H1
                                  obtain rfl := Option.some.inj H
                                  go_wp2_with (first | ((with_reducible refine gate_callee (f := 19) rfl ?_); refine goesL_ (some 117) rfl rfl Tryd.func19 (by kernel_rfl) rfl #[] rfl (by (try simp only [List.map_toArray, List.map_cons, List.map_nil]); first | done | rfl | (simp only [List.length_drop, List.length_take]; rfl)) ?_; (with_reducible refine (clerestorykeep1_domBegun.calls kj69  false _ A74.out).mono ?_); rintro e w84 ⟨rfl, hb⟩; refine ⟨_, rfl, ?_⟩; have n0_ := Aside0.mk (Kd.R_below (by (with_reducible repeat (first | apply Kd.R_alloc | apply Kd.R_drewN | apply Kd.R_drew)); exact HO_10.out) hb); have n1_ := Aside0.mk (Kd.V_below (by (with_reducible repeat (first | apply Kd.V_alloc | apply Kd.V_drewN | apply Kd.V_drew)); exact HO_198000.out) hb); have n2_ := Aside0.mk (blk_below (g := gb197) (o := .cells #[.slice Ao11 t198.length co11, .bool t201] 24 (0, 0)) (by (with_reducible repeat (first | refine blk_drewN ?_ _ | refine blk_drew ?_ | refine blk_alloc ?_ _)); exact BK197.out) hb); have n3_ := Aside0.mk (below_step (by repeat (first | (with_reducible first | exact HB.out | apply below_alloc | apply pw_below_drewN | apply below_drew1 | refine below_set ?_ GE197.out) | exact HB.out)) hb); clear HO_10; clear HO_198000; clear BK197; clear HB; have HO_10 := n0_; have HO_198000 := n1_; have BK197 := n2_; have HB := n3_; clear n0_ n1_ n2_ n3_; (try clear hb); (try clear hb2); (try clear hk); (try clear hi)))
                                  go_ret
                                  exact ⟨by first | rfl | (simp [errW_none, errW_some] <;> rfl) | (simp [*, errW_none, errW_some] <;> rfl), by repeat (first | (with_reducible first | exact HB.out | apply below_alloc | apply pw_below_drewN | apply below_drew1 | refine below_set ?_ GE197.out) | exact HB.out)⟩
                              · replace c73 := Bool.eq_false_iff.mpr c73
                                subst c73
                                have H1 : (if 0 ≤ a1 then (if a1 < (t198.length : Int) then ((dom_Path.f kj69 t198 t201 ((rd_T35 t198 a1).f4)).bind fun bt229 => ((clerestorykeep1_domBegun.f kj69).bind fun t233 => (if t233 = true then (if bt229.2 = 0 then (if bt229.1.length < 17592186044416 then ((clerestorykeep1_sameInts.f kj69 t217 (bt229.1 ++ [a1])).bind fun t237 => (some t237)) else (none)) else (some false)) else (some false)))) else (none)) else (none)) = some r := by rw [if_neg (show ¬ (false = true) by decide)] at H; exact H
                                clear H
                                have H := H1
                                clear H1
                                by_cases c85 : 0 ≤ a1
                                · rw [if_pos c85] at H
                                  have c85b0 : decide (0 ≤ a1) = true := decide_eq_true c85
                                  clear c85
                                  by_cases c86 : a1 < (t198.length : Int)
                                  · rw [if_pos c86] at H
                                    have c86b0 : decide (a1 < (t198.length : Int)) = true := decide_eq_true c86
                                    clear c86
                                    replace H := Option.bind_eq_some_iff.mp H
                                    obtain ⟨⟨t229, t232⟩, A870, H⟩ := H
                                    replace H : ((clerestorykeep1_domBegun.f kj69).bind fun t233 => (if t233 = true then (if t232 = 0 then (if t229.length < 17592186044416 then ((clerestorykeep1_sameInts.f kj69 t217 (t229 ++ [a1])).bind fun t237 => (some t237)) else (none)) else (some false)) else (some false))) = some r := H
                                    have A87 := Aside0.mk A870
                                    clear A870
                                    replace H := Option.bind_eq_some_iff.mp H
                                    obtain ⟨t233, A880, H⟩ := H
                                    replace H : (if t233 = true then (if t232 = 0 then (if t229.length < 17592186044416 then ((clerestorykeep1_sameInts.f kj69 t217 (t229 ++ [a1])).bind fun t237 => (some t237)) else (none)) else (some false)) else (some false)) = some r := H
                                    have A88 := Aside0.mk A880
                                    clear A880
                                    by_cases c89 : t233 = true
                                    · subst c89
                                      have H1 : (if t232 = 0 then (if t229.length < 17592186044416 then ((clerestorykeep1_sameInts.f kj69 t217 (t229 ++ [a1])).bind fun t237 => (some t237)) else (none)) else (some false)) = some r := by rw [if_pos rfl] at H; exact H
                                      clear H
                                      have H := H1
                                      clear H1
                                      by_cases c90 : t232 = 0
                                      · rw [if_pos c90] at H
                                        have c90b0 : (t232 == 0) = true := beq_iff_eq.mpr c90
                                        have c90b1 : (t232 != 0) = false := bne_eq_false_iff_eq.mpr c90
                                        clear c90
                                        by_cases c91 : t229.length < 17592186044416
                                        · rw [if_pos c91] at H
                                          have LMc91 := Aside0.mk c91
                                          clear c91
                                          obtain ⟨y234, hy234⟩ : ∃ y_ : List Int, y_ = (t229 ++ [a1]) := ⟨_, rfl⟩
                                          replace H : ((clerestorykeep1_sameInts.f kj69 t217 y234).bind fun t237 => (some t237)) = some r := by first | (rw [hy234]; with_reducible exact H) | (have H2_ := (Option.bind_some _ _).symm.trans H; rw [hy234]; with_reducible exact H2_) | (have H2_ := (Option.bind_some _ _).symm.trans H; with_reducible exact H2_) | with_reducible exact H | (rw [hy234]; exact H) | exact H
                                          have Ny234 := Aside0.mk hy234
                                          clear hy234
                                          replace H := Option.bind_eq_some_iff.mp H
                                          obtain ⟨t237, A920, H⟩ := H
                                          replace H : (some t237) = some r := H
                                          have A92 := Aside0.mk A920
                                          clear A920
                                          obtain rfl := Option.some.inj H
                                          try go_wp2
                                          have n0_ := Aside0.mk (Kd.R_drew HO_10.out)
                                          have n1_ := Aside0.mk (Kd.V_drew HO_198000.out)
                                          have n2_ := Aside0.mk (blk_drew BK197.out)
                                          have n3_ := Aside0.mk (below_drew1 HB.out)
                                          clear HO_10
                                          clear HO_198000
                                          clear BK197
                                          clear HB
                                          have HO_10 := n0_
                                          have HO_198000 := n1_
                                          have BK197 := n2_
                                          have HB := n3_
                                          clear n0_ n1_ n2_ n3_
                                          have p228 : 0 ≤ (a1 : Int) := of_decide_eq_true (by first | (with_reducible assumption) | assumption)
                                          have q228 : a1 < (t198.length : Int) := of_decide_eq_true (by first | (with_reducible assumption) | assumption)
                                          obtain ⟨ad228, A228_2, c228_2, A228_5, c228_5, e228, hx228_0, hx228_1, hx228_2, hx228_3, hx228_4, hx228_5, hl228_2, hi228_2, hl228_5, hi228_5⟩ := at_T35 (Kd.V_reads' HO_198000.out).2.2 a1 p228 q228
                                          cases e228
                                          obtain ⟨ce228, hce228, hMe228, hcc228⟩ := Kd.V_get HO_198000.out z35 a1 p228 (by first | exact q228 | exact of_decide_eq_true (by first | (with_reducible assumption) | assumption) | (have e_ := (Kd.V_reads' HO_198000.out).1; omega))
                                          obtain ⟨ua228_2, uc228_2, ua228_5, uc228_5, rfl, ul228_2, ge228_2, ul228_5, ge228_5⟩ := k35_openF hMe228
                                          have hv228_2 := hcc228 2 _ rfl
                                          rw [add_field _ _ 2 (by omega)] at hv228_2
                                          replace hv228_2 := Option.some.inj (hv228_2.symm.trans hx228_2)
                                          injection hv228_2 with hva_ hvn_ hvc_
                                          rw [hva_] at ge228_2
                                          rw [hvc_] at ul228_2
                                          have HL228_2 := Aside0.mk (show Kd.V k78 78 _ w.heap.size _ _ ((rd_T35 t198 a1).f2) from Kd.V_mk ul228_2 ge228_2)
                                          clear hva_ hvn_ hvc_ ge228_2 ul228_2
                                          have hv228_5 := hcc228 5 _ rfl
                                          rw [add_field _ _ 5 (by omega)] at hv228_5
                                          replace hv228_5 := Option.some.inj (hv228_5.symm.trans hx228_5)
                                          injection hv228_5 with hva_ hvn_ hvc_
                                          rw [hva_] at ge228_5
                                          rw [hvc_] at ul228_5
                                          have HL228_5 := Aside0.mk (show Kd.V (Kd.int .i64) 3 _ w.heap.size _ _ ((rd_T35 t198 a1).f5) from Kd.V_mk ul228_5 ge228_5)
                                          clear hva_ hvn_ hvc_ ge228_5 ul228_5
                                          clear hcc228 hce228
                                          have HR228_2 := Aside0.mk hi228_2
                                          have HC228_2 := Aside0.mk hl228_2
                                          clear hi228_2 hl228_2
                                          have HR228_5 := Aside0.mk hi228_5
                                          have HC228_5 := Aside0.mk hl228_5
                                          clear hi228_5 hl228_5
                                          replace p228 := eq_true p228
                                          replace q228 := eq_true q228
                                          refine start_ (n := 13) (S := fun w' => w'.cell? ⟨gb197, 0, none⟩ = some (.slice (some ad228) t198.length co11) ∧ w'.cell? ⟨gb197, 1, none⟩ = some (.bool t201) ∧ w'.cell? (ad228.add ((a1).toNat * 6)) = some (.int .i64 ((rd_T35 t198 a1).f0)) ∧ w'.cell? ⟨(ad228.add ((a1).toNat * 6)).block, (ad228.add ((a1).toNat * 6)).off + 1, none⟩ = some (.string ((rd_T35 t198 a1).f1)) ∧ w'.cell? ⟨(ad228.add ((a1).toNat * 6)).block, (ad228.add ((a1).toNat * 6)).off + 2, none⟩ = some (.slice A228_2 ((rd_T35 t198 a1).f2).length c228_2) ∧ w'.cell? ⟨(ad228.add ((a1).toNat * 6)).block, (ad228.add ((a1).toNat * 6)).off + 3, none⟩ = some (.string ((rd_T35 t198 a1).f3)) ∧ w'.cell? ⟨(ad228.add ((a1).toNat * 6)).block, (ad228.add ((a1).toNat * 6)).off + 4, none⟩ = some (.int .i64 ((rd_T35 t198 a1).f4)) ∧ w'.cell? ⟨(ad228.add ((a1).toNat * 6)).block, (ad228.add ((a1).toNat * 6)).off + 5, none⟩ = some (.slice A228_5 ((rd_T35 t198 a1).f5).length c228_5)) (ds := []) #[false, false, false, false, false, false, false, false, false, false, false, false, false] (by kernel_rfl) rfl rfl ⟨(blk_cell BK197.out 0).trans rfl, (blk_cell BK197.out 1).trans rfl, hx228_0, hx228_1, hx228_2, hx228_3, hx228_4, hx228_5⟩ (fun hHeld => ?_); refine with_tabW clerestorykeep1_DomOrder.tab20 clerestorykeep1_DomOrder.bits20 (fun HT_ HW_ => ?_)
                                          generalize wc.drew = w93 at HO_10 HO_198000 BK197 HB HL228_2 HL228_5 HR228_2 HR228_5 hx228_0 hx228_1 hx228_2 hx228_3 hx228_4 hx228_5 hHeld ⊢
                                          refine pure_ (i := 1) (N := some 129) (v := ?_) (a' := ?_) #[false, true, false, false, false, false, false, false, false, false, false, false, false] rfl rfl (any_of HT_.out (by kernel_rfl)) (fun _ _ _ h => h) (Or.inl ⟨by rfl, ?_⟩) ?_ ?_
                                          rotate_left
                                          · intro w'
                                            go_simp
                                            with_reducible rfl
                                          rotate_left
                                          · simp only [Act.put, List.setIfInBounds_toArray, List.set_cons_zero, List.set_cons_succ, i64_w, i32_w]
                                            rfl
                                          refine pure_ (i := 3) (N := some 131) (v := ?_) (a' := ?_) #[false, true, false, true, false, false, false, false, false, false, false, false, false] rfl rfl (any_of HT_.out (by kernel_rfl)) (fun _ _ _ h => h) (Or.inl ⟨by rfl, ?_⟩) ?_ ?_
                                          rotate_left
                                          · intro w'
                                            go_simp
                                            with_reducible rfl
                                          rotate_left
                                          · simp only [Act.put, List.setIfInBounds_toArray, List.set_cons_zero, List.set_cons_succ, i64_w, i32_w]
                                            rfl
                                          refine take_ (i := 0) (N := some 128) (v := ?_) (a' := ?_) #[true, true, false, true, false, false, false, false, false, false, false, false, false] rfl rfl (take_ofW HT_.out HW_.out (by kernel_rfl)) (fun _ _ _ h => h) (Or.inl ⟨by rfl, ?_⟩) hHeld ?_ ?_
                                          rotate_left
                                          · rintro w' ⟨s0, s1, s2, s3, s4, s5, s6, s7⟩
                                            go_simp
                                            with_reducible rfl
                                          rotate_left
                                          · simp only [Act.put, List.setIfInBounds_toArray, List.set_cons_zero, List.set_cons_succ, i64_w, i32_w]
                                            rfl
                                          refine take_ (i := 2) (N := some 130) (v := ?_) (a' := ?_) #[true, true, true, true, false, false, false, false, false, false, false, false, false] rfl rfl (take_ofW HT_.out HW_.out (by kernel_rfl)) (fun _ _ _ h => h) (Or.inl ⟨by rfl, ?_⟩) hHeld ?_ ?_
                                          rotate_left
                                          · rintro w' ⟨s0, s1, s2, s3, s4, s5, s6, s7⟩
                                            go_simp
                                            with_reducible rfl
                                          rotate_left
                                          · simp only [Act.put, List.setIfInBounds_toArray, List.set_cons_zero, List.set_cons_succ, i64_w, i32_w]
                                            rfl
                                          refine pure_ (i := 4) (N := some 132) (v := ?_) (a' := ?_) #[true, true, true, true, true, false, false, false, false, false, false, false, false] rfl rfl (any_of HT_.out (by kernel_rfl)) (fun _ _ _ h => h) (Or.inl ⟨by rfl, ?_⟩) ?_ ?_
                                          rotate_left
                                          · intro w'
                                            go_simp
                                            with_reducible rfl
                                          rotate_left
                                          · simp only [Act.put, List.setIfInBounds_toArray, List.set_cons_zero, List.set_cons_succ, i64_w, i32_w]
                                            rfl
                                          refine pure_ (i := 5) (N := some 133) (v := ?_) (a' := ?_) #[true, true, true, true, true, true, false, false, false, false, false, false, false] rfl rfl (any_of HT_.out (by kernel_rfl)) (fun _ _ _ h => h) (Or.inl ⟨by rfl, ?_⟩) ?_ ?_
                                          rotate_left
                                          · intro w'
                                            go_simp
                                            with_reducible rfl
                                          rotate_left
                                          · simp only [Act.put, List.setIfInBounds_toArray, List.set_cons_zero, List.set_cons_succ, i64_w, i32_w]
                                            rfl
                                          refine take_ (i := 6) (N := some 134) (v := ?_) (a' := ?_) #[true, true, true, true, true, true, true, false, false, false, false, false, false] rfl rfl (take_ofW HT_.out HW_.out (by kernel_rfl)) (fun _ _ _ h => h) (Or.inl ⟨by rfl, ?_⟩) hHeld ?_ ?_
                                          rotate_left
                                          · rintro w' ⟨s0, s1, s2, s3, s4, s5, s6, s7⟩
                                            go_simp
                                            with_reducible rfl
                                          rotate_left
                                          · simp only [Act.put, List.setIfInBounds_toArray, List.set_cons_zero, List.set_cons_succ, i64_w, i32_w]
                                            rfl
                                          refine one_ (i := 7) (N := some 135) #[true, true, true, true, true, true, true, true, false, false, false, false, false] rfl rfl (one_of HT_.out (by kernel_rfl)) (by decide) (fun K hK => ?_)
                                          refine goes_ Tryd.func23 (by kernel_rfl) rfl #[.agg #[.slice (some ad228) t198.length co11, .bool t201], .int .i64 ((rd_T35 t198 a1).f4)] (by rfl) rfl rfl (by (try simp only [List.map_toArray, List.map_cons, List.map_nil]); first | done | rfl | (simp only [List.length_drop, List.length_take]; rfl)) ?_
                                          with_reducible refine (dom_Path.calls kj69 _ _ t198 t201 ((rd_T35 t198 a1).f4) t229 t232 _ ?side1 ?side2 A87.out).mono ?_
                                          (case side1 => repeat (first | exact (Kd.V_reads' HO_198000.out).2.2 | (with_reducible refine Kd.C_alloc ?_ _) | (with_reducible refine Kd.C_drewN ?_ _) | (with_reducible refine Kd.C_drew ?_)))
                                          (case side2 => exact (Kd.V_reads' HO_198000.out).2.1)
                                          rintro e w94 ⟨v230, rfl, ho0, hb⟩
                                          have HS2_ := (hb.cell (World.block_lt_of_cell? _ _ (hHeld.2.2.1))).trans (hHeld.2.2.1)
                                          have HS3_ := (hb.cell (World.block_lt_of_cell? _ _ (hHeld.2.2.2.1))).trans (hHeld.2.2.2.1)
                                          have HS4_ := (hb.cell (World.block_lt_of_cell? _ _ (hHeld.2.2.2.2.1))).trans (hHeld.2.2.2.2.1)
                                          have HS5_ := (hb.cell (World.block_lt_of_cell? _ _ (hHeld.2.2.2.2.2.1))).trans (hHeld.2.2.2.2.2.1)
                                          have HS6_ := (hb.cell (World.block_lt_of_cell? _ _ (hHeld.2.2.2.2.2.2.1))).trans (hHeld.2.2.2.2.2.2.1)
                                          have HS7_ := (hb.cell (World.block_lt_of_cell? _ _ (hHeld.2.2.2.2.2.2.2))).trans (hHeld.2.2.2.2.2.2.2)
                                          refine ⟨_, rfl, ?_⟩
                                          have n0_ := Aside0.mk (Kd.R_elder' (by (with_reducible repeat (first | apply Kd.R_alloc | apply Kd.R_drewN | apply Kd.R_drew)); exact HO_10.out) (Kd.R_base ho0) hb)
                                          have n1_ := Aside0.mk (Kd.V_elder' (by (with_reducible repeat (first | apply Kd.V_alloc | apply Kd.V_drewN | apply Kd.V_drew)); exact HO_198000.out) (Kd.R_base ho0) hb)
                                          have n2_ := Aside0.mk (Kd.V_elder' (by (with_reducible repeat (first | apply Kd.V_alloc | apply Kd.V_drewN | apply Kd.V_drew)); exact HL228_2.out) (Kd.R_base ho0) hb)
                                          have n3_ := Aside0.mk (Kd.V_elder' (by (with_reducible repeat (first | apply Kd.V_alloc | apply Kd.V_drewN | apply Kd.V_drew)); exact HL228_5.out) (Kd.R_base ho0) hb)
                                          have n4_ := Aside0.mk (Kd.R_lower (Kd.R_new' ho0 (Kd.R_lt (by (with_reducible repeat (first | apply Kd.R_alloc | apply Kd.R_drewN | apply Kd.R_drew)); exact HO_10.out))) (below_size (by repeat (first | (with_reducible first | exact HB.out | apply below_alloc | apply pw_below_drewN | apply below_drew1 | refine below_set ?_ GE197.out) | exact HB.out))))
                                          have n5_ := Aside0.mk (blk_below (g := gb197) (o := .cells #[.slice (some ad228) t198.length co11, .bool t201] 24 (0, 0)) (by (with_reducible repeat (first | refine blk_drewN ?_ _ | refine blk_drew ?_ | refine blk_alloc ?_ _)); exact BK197.out) hb)
                                          have n6_ := Aside0.mk (Kd.C_below (by repeat (first | (with_reducible exact HR228_2.out) | (with_reducible refine Kd.C_alloc ?_ _) | (with_reducible refine Kd.C_drewN ?_ _) | (with_reducible refine Kd.C_drew ?_) | exact HR228_2.out)) hb)
                                          have n7_ := Aside0.mk (Kd.C_below (by repeat (first | (with_reducible exact HR228_5.out) | (with_reducible refine Kd.C_alloc ?_ _) | (with_reducible refine Kd.C_drewN ?_ _) | (with_reducible refine Kd.C_drew ?_) | exact HR228_5.out)) hb)
                                          have n8_ := Aside0.mk (below_step (by repeat (first | (with_reducible first | exact HB.out | apply below_alloc | apply pw_below_drewN | apply below_drew1 | refine below_set ?_ GE197.out) | exact HB.out)) hb)
                                          clear HO_10
                                          clear HO_198000
                                          clear HL228_2
                                          clear HL228_5
                                          clear BK197
                                          clear HR228_2
                                          clear HR228_5
                                          clear HB
                                          have HO_10 := n0_
                                          have HO_198000 := n1_
                                          have HL228_2 := n2_
                                          have HL228_5 := n3_
                                          have HO231 := n4_
                                          have BK197 := n5_
                                          have HR228_2 := n6_
                                          have HR228_5 := n7_
                                          have HB := n8_
                                          clear n0_ n1_ n2_ n3_ n4_ n5_ n6_ n7_ n8_
                                          (try clear hb)
                                          (try clear hb2)
                                          (try clear hk)
                                          (try clear hi)
                                          (try clear ho0)
                                          refine hK.out _ _ ⟨(blk_cell BK197.out 0).trans rfl, (blk_cell BK197.out 1).trans rfl, HS2_, HS3_, HS4_, HS5_, HS6_, HS7_⟩ (fun hHeld => ?_)
                                          clear hK K
                                          refine norm_ (a' := ?_) ?_ ?_
                                          rotate_left
                                          · show Act.put _ (some 135) _ = _
                                            simp only [Act.put, List.setIfInBounds_toArray, List.set_cons_zero, List.set_cons_succ, i64_w, i32_w]
                                            rfl
                                          refine pure_ (i := 8) (N := some 127) (v := ?_) (a' := ?_) #[true, true, true, true, true, true, true, true, true, false, false, false, false] rfl rfl (any_of HT_.out (by kernel_rfl)) (fun _ _ _ h => h) (Or.inl ⟨by rfl, ?_⟩) ?_ ?_
                                          rotate_left
                                          · intro w'
                                            go_simp
                                            with_reducible rfl
                                          rotate_left
                                          · simp only [Act.put, List.setIfInBounds_toArray, List.set_cons_zero, List.set_cons_succ, i64_w, i32_w]
                                            rfl
                                          refine pure_ (i := 9) (N := some 136) (v := ?_) (a' := ?_) #[true, true, true, true, true, true, true, true, true, true, false, false, false] rfl rfl (any_of HT_.out (by kernel_rfl)) (fun _ _ _ h => h) (Or.inl ⟨by rfl, ?_⟩) ?_ ?_
                                          rotate_left
                                          · intro w'
                                            go_simp
                                            with_reducible rfl
                                          rotate_left
                                          · simp only [Act.put, List.setIfInBounds_toArray, List.set_cons_zero, List.set_cons_succ, i64_w, i32_w]
                                            rfl
                                          refine pure_ (i := 10) (N := some 137) (v := ?_) (a' := ?_) #[true, true, true, true, true, true, true, true, true, true, true, false, false] rfl rfl (any_of HT_.out (by kernel_rfl)) (fun _ _ _ h => h) (Or.inl ⟨by rfl, ?_⟩) ?_ ?_
                                          rotate_left
                                          · intro w'
                                            go_simp
                                            with_reducible rfl
                                          rotate_left
                                          · simp only [Act.put, List.setIfInBounds_toArray, List.set_cons_zero, List.set_cons_succ, i64_w, i32_w]
                                            rfl
                                          refine pure_ (i := 11) (N := some 12) (v := ?_) (a' := ?_) #[true, true, true, true, true, true, true, true, true, true, true, true, false] rfl rfl (any_of HT_.out (by kernel_rfl)) (fun _ _ _ h => h) (Or.inl ⟨by rfl, ?_⟩) ?_ ?_
                                          rotate_left
                                          · intro w'
                                            go_simp
                                            with_reducible rfl
                                          rotate_left
                                          · simp only [Act.put, List.setIfInBounds_toArray, List.set_cons_zero, List.set_cons_succ, i64_w, i32_w]
                                            rfl
                                          refine pure_ (i := 12) (N := some 13) (v := ?_) (a' := ?_) #[true, true, true, true, true, true, true, true, true, true, true, true, true] rfl rfl (any_of HT_.out (by kernel_rfl)) (fun _ _ _ h => h) (Or.inl ⟨by rfl, ?_⟩) ?_ ?_
                                          rotate_left
                                          · intro w'
                                            go_simp
                                            with_reducible rfl
                                          rotate_left
                                          · simp only [Act.put, List.setIfInBounds_toArray, List.set_cons_zero, List.set_cons_succ, i64_w, i32_w]
                                            rfl
                                          refine done_ (done_of HT_.out (by kernel_rfl)) ?_
                                          try go_wp2_with (first | ((with_reducible refine gate_callee (f := 19) rfl ?_); refine goesL_ (some 138) rfl rfl Tryd.func19 (by kernel_rfl) rfl #[] rfl (by (try simp only [List.map_toArray, List.map_cons, List.map_nil]); first | done | rfl | (simp only [List.length_drop, List.length_take]; rfl)) ?_; (with_reducible refine (clerestorykeep1_domBegun.calls kj69  true _ A88.out).mono ?_); rintro e w95 ⟨rfl, hb⟩; refine ⟨_, rfl, ?_⟩; have n0_ := Aside0.mk (Kd.R_below (by (with_reducible repeat (first | apply Kd.R_alloc | apply Kd.R_drewN | apply Kd.R_drew)); exact HO_10.out) hb); have n1_ := Aside0.mk (Kd.V_below (by (with_reducible repeat (first | apply Kd.V_alloc | apply Kd.V_drewN | apply Kd.V_drew)); exact HO_198000.out) hb); have n2_ := Aside0.mk (Kd.V_below (by (with_reducible repeat (first | apply Kd.V_alloc | apply Kd.V_drewN | apply Kd.V_drew)); exact HL228_2.out) hb); have n3_ := Aside0.mk (Kd.V_below (by (with_reducible repeat (first | apply Kd.V_alloc | apply Kd.V_drewN | apply Kd.V_drew)); exact HL228_5.out) hb); have n4_ := Aside0.mk (Kd.R_below (by (with_reducible repeat (first | apply Kd.R_alloc | apply Kd.R_drewN | apply Kd.R_drew)); exact HO231.out) hb); have n5_ := Aside0.mk (blk_below (g := gb197) (o := .cells #[.slice (some ad228) t198.length co11, .bool t201] 24 (0, 0)) (by (with_reducible repeat (first | refine blk_drewN ?_ _ | refine blk_drew ?_ | refine blk_alloc ?_ _)); exact BK197.out) hb); have n6_ := Aside0.mk (Kd.C_below (by repeat (first | (with_reducible exact HR228_2.out) | (with_reducible refine Kd.C_alloc ?_ _) | (with_reducible refine Kd.C_drewN ?_ _) | (with_reducible refine Kd.C_drew ?_) | exact HR228_2.out)) hb); have n7_ := Aside0.mk (Kd.C_below (by repeat (first | (with_reducible exact HR228_5.out) | (with_reducible refine Kd.C_alloc ?_ _) | (with_reducible refine Kd.C_drewN ?_ _) | (with_reducible refine Kd.C_drew ?_) | exact HR228_5.out)) hb); have n8_ := Aside0.mk (below_step (by repeat (first | (with_reducible first | exact HB.out | apply below_alloc | apply pw_below_drewN | apply below_drew1 | refine below_set ?_ GE197.out) | exact HB.out)) hb); clear HO_10; clear HO_198000; clear HL228_2; clear HL228_5; clear HO231; clear BK197; clear HR228_2; clear HR228_5; clear HB; have HO_10 := n0_; have HO_198000 := n1_; have HL228_2 := n2_; have HL228_5 := n3_; have HO231 := n4_; have BK197 := n5_; have HR228_2 := n6_; have HR228_5 := n7_; have HB := n8_; clear n0_ n1_ n2_ n3_ n4_ n5_ n6_ n7_ n8_; (try clear hb); (try clear hb2); (try clear hk); (try clear hi)) | ((with_reducible refine gate_builtin (b := .append) (xs := #[.tmp 145, .tmp 147]) rfl ?_); (try (refine gate_guard (by rfl) ?_; dsimp only)); at_builtin; refine Kd.R_append (Kd.int .i64) (w0 := w) w.heap.size rfl (.tmp 145) (.tmp 147) 33 3 (.int .i64 0) 8 rfl Tryd.underlying33 info3 rfl (by decide) (by omega) v230 t229 a1 [.int .i64 a1] (fun k_ => some k_ ≠ (v218 : Value).ownBlock) (fun _ => False) rfl rfl ?aP (fun _ hk => hk.elim) ?aF ?aO ?aB ?aS ?aL ?_; (case aP => exact rfl); (case aB => exact (by repeat (first | (with_reducible first | exact HB.out | apply below_alloc | apply pw_below_drewN | apply below_drew1 | refine below_set ?_ GE197.out) | exact HB.out))); (case aF => exact (fun k_ hk => Kd.fresh' (Kd.R_lt (by (with_reducible repeat (first | apply Kd.R_alloc | apply Kd.R_drewN | apply Kd.R_drew)); exact HO_10.out)) k_ hk)); (case aO => exact (by (with_reducible repeat (first | apply Kd.R_alloc | apply Kd.R_drewN | apply Kd.R_drew)); exact Kd.R_mono HO231.out (fun _ hk => hk.2))); (case aS => exact (below_size (by repeat (first | (with_reducible first | exact HB.out | apply below_alloc | apply pw_below_drewN | apply below_drew1 | refine below_set ?_ GE197.out) | exact HB.out)))); (case aL => have := LMc91.out; omega); intro v235 w96 ho hb hg hat; rw [← Ny234.out] at ho; have n0_ := Aside0.mk (Kd.R_after (ok := (fun _ => True)) (by (with_reducible repeat (first | apply Kd.R_alloc | apply Kd.R_drewN | apply Kd.R_drew)); exact HO_10.out) hg hat); have n1_ := Aside0.mk (Kd.V_afterv (ok := (fun k_ => some k_ ≠ (v218 : Value).ownBlock ∧ k_ ≠ gb197)) (by (with_reducible repeat (first | apply Kd.V_alloc | apply Kd.V_drewN | apply Kd.V_drew)); exact HO_198000.out) hg hat); have n2_ := Aside0.mk (blk_grown (g := gb197) (o := .cells #[.slice (some ad228) t198.length co11, .bool t201] 24 (0, 0)) (by (with_reducible repeat (first | refine blk_drewN ?_ _ | refine blk_drew ?_ | refine blk_alloc ?_ _)); exact BK197.out) hg (Kd.R_ne HO231.out BK197.out (by decide))); have n3_ := Aside0.mk (Kd.V_afterv (ok := (fun k_ => some k_ ≠ (v218 : Value).ownBlock ∧ k_ ≠ gb197)) (by (with_reducible repeat (first | apply Kd.V_alloc | apply Kd.V_drewN | apply Kd.V_drew)); exact HL228_2.out) hg hat); have n4_ := Aside0.mk (Kd.V_afterv (ok := (fun k_ => some k_ ≠ (v218 : Value).ownBlock ∧ k_ ≠ gb197)) (by (with_reducible repeat (first | apply Kd.V_alloc | apply Kd.V_drewN | apply Kd.V_drew)); exact HL228_5.out) hg hat); have n5_ := Aside0.mk (hb); have n6_ := Aside0.mk (ho); clear HO_10; clear HO_198000; clear BK197; clear HL228_2; clear HL228_5; clear HB; clear HO231; have HO_10 := n0_; have HO_198000 := n1_; have BK197 := n2_; have HL228_2 := n3_; have HL228_5 := n4_; have HB := n5_; have HO236 := n6_; clear n0_ n1_ n2_ n3_ n4_ n5_ n6_; clear ho hb hg hat; obtain ⟨Ao97, co97, eo97⟩ := Kd.R_slice HO_10.out; subst eo97; obtain ⟨Ao98, co98, eo98⟩ := Kd.R_slice HO236.out; subst eo98) | (go_at_call 24; (with_reducible refine (clerestorykeep1_sameInts.calls kj69 _ _ t217 _ _ y234 t237 _ ?side1 ?side2 ?side3 ?side4 A92.out).mono ?_); (case side1 => repeat (first | exact (Kd.R_reads' HO_10.out).2.2 | (with_reducible refine Kd.C_alloc ?_ _) | (with_reducible refine Kd.C_drewN ?_ _) | (with_reducible refine Kd.C_drew ?_))); (case side2 => exact (Kd.R_reads' HO_10.out).2.1); (case side3 => repeat (first | exact (Kd.R_reads' HO236.out).2.2 | (with_reducible refine Kd.C_alloc ?_ _) | (with_reducible refine Kd.C_drewN ?_ _) | (with_reducible refine Kd.C_drew ?_))); (case side4 => exact (Kd.R_reads' HO236.out).2.1); rintro e w' ⟨rfl, ⟨nd, rfl⟩⟩))
                                          go_ret
                                          exact ⟨by first | rfl | (simp [errW_none, errW_some] <;> rfl) | (simp [*, errW_none, errW_some] <;> rfl), by repeat (first | (with_reducible first | exact HB.out | apply below_alloc | apply pw_below_drewN | apply below_drew1 | refine below_set ?_ GE197.out) | exact HB.out)⟩
                                        · rw [if_neg c91] at H
                                          exact absurd H (by simp)
                                      · rw [if_neg c90] at H
                                        have c90b0 : (t232 == 0) = false := beq_eq_false_iff_ne.mpr c90
                                        have c90b1 : (t232 != 0) = true := bne_iff_ne.mpr c90
                                        obtain rfl := Option.some.inj H
                                        try go_wp2
                                        have n0_ := Aside0.mk (Kd.R_drew HO_10.out)
                                        have n1_ := Aside0.mk (Kd.V_drew HO_198000.out)
                                        have n2_ := Aside0.mk (blk_drew BK197.out)
                                        have n3_ := Aside0.mk (below_drew1 HB.out)
                                        clear HO_10
                                        clear HO_198000
                                        clear BK197
                                        clear HB
                                        have HO_10 := n0_
                                        have HO_198000 := n1_
                                        have BK197 := n2_
                                        have HB := n3_
                                        clear n0_ n1_ n2_ n3_
                                        have p228 : 0 ≤ (a1 : Int) := of_decide_eq_true (by first | (with_reducible assumption) | assumption)
                                        have q228 : a1 < (t198.length : Int) := of_decide_eq_true (by first | (with_reducible assumption) | assumption)
                                        obtain ⟨ad228, A228_2, c228_2, A228_5, c228_5, e228, hx228_0, hx228_1, hx228_2, hx228_3, hx228_4, hx228_5, hl228_2, hi228_2, hl228_5, hi228_5⟩ := at_T35 (Kd.V_reads' HO_198000.out).2.2 a1 p228 q228
                                        cases e228
                                        obtain ⟨ce228, hce228, hMe228, hcc228⟩ := Kd.V_get HO_198000.out z35 a1 p228 (by first | exact q228 | exact of_decide_eq_true (by first | (with_reducible assumption) | assumption) | (have e_ := (Kd.V_reads' HO_198000.out).1; omega))
                                        obtain ⟨ua228_2, uc228_2, ua228_5, uc228_5, rfl, ul228_2, ge228_2, ul228_5, ge228_5⟩ := k35_openF hMe228
                                        have hv228_2 := hcc228 2 _ rfl
                                        rw [add_field _ _ 2 (by omega)] at hv228_2
                                        replace hv228_2 := Option.some.inj (hv228_2.symm.trans hx228_2)
                                        injection hv228_2 with hva_ hvn_ hvc_
                                        rw [hva_] at ge228_2
                                        rw [hvc_] at ul228_2
                                        have HL228_2 := Aside0.mk (show Kd.V k78 78 _ w.heap.size _ _ ((rd_T35 t198 a1).f2) from Kd.V_mk ul228_2 ge228_2)
                                        clear hva_ hvn_ hvc_ ge228_2 ul228_2
                                        have hv228_5 := hcc228 5 _ rfl
                                        rw [add_field _ _ 5 (by omega)] at hv228_5
                                        replace hv228_5 := Option.some.inj (hv228_5.symm.trans hx228_5)
                                        injection hv228_5 with hva_ hvn_ hvc_
                                        rw [hva_] at ge228_5
                                        rw [hvc_] at ul228_5
                                        have HL228_5 := Aside0.mk (show Kd.V (Kd.int .i64) 3 _ w.heap.size _ _ ((rd_T35 t198 a1).f5) from Kd.V_mk ul228_5 ge228_5)
                                        clear hva_ hvn_ hvc_ ge228_5 ul228_5
                                        clear hcc228 hce228
                                        have HR228_2 := Aside0.mk hi228_2
                                        have HC228_2 := Aside0.mk hl228_2
                                        clear hi228_2 hl228_2
                                        have HR228_5 := Aside0.mk hi228_5
                                        have HC228_5 := Aside0.mk hl228_5
                                        clear hi228_5 hl228_5
                                        replace p228 := eq_true p228
                                        replace q228 := eq_true q228
                                        refine start_ (n := 13) (S := fun w' => w'.cell? ⟨gb197, 0, none⟩ = some (.slice (some ad228) t198.length co11) ∧ w'.cell? ⟨gb197, 1, none⟩ = some (.bool t201) ∧ w'.cell? (ad228.add ((a1).toNat * 6)) = some (.int .i64 ((rd_T35 t198 a1).f0)) ∧ w'.cell? ⟨(ad228.add ((a1).toNat * 6)).block, (ad228.add ((a1).toNat * 6)).off + 1, none⟩ = some (.string ((rd_T35 t198 a1).f1)) ∧ w'.cell? ⟨(ad228.add ((a1).toNat * 6)).block, (ad228.add ((a1).toNat * 6)).off + 2, none⟩ = some (.slice A228_2 ((rd_T35 t198 a1).f2).length c228_2) ∧ w'.cell? ⟨(ad228.add ((a1).toNat * 6)).block, (ad228.add ((a1).toNat * 6)).off + 3, none⟩ = some (.string ((rd_T35 t198 a1).f3)) ∧ w'.cell? ⟨(ad228.add ((a1).toNat * 6)).block, (ad228.add ((a1).toNat * 6)).off + 4, none⟩ = some (.int .i64 ((rd_T35 t198 a1).f4)) ∧ w'.cell? ⟨(ad228.add ((a1).toNat * 6)).block, (ad228.add ((a1).toNat * 6)).off + 5, none⟩ = some (.slice A228_5 ((rd_T35 t198 a1).f5).length c228_5)) (ds := []) #[false, false, false, false, false, false, false, false, false, false, false, false, false] (by kernel_rfl) rfl rfl ⟨(blk_cell BK197.out 0).trans rfl, (blk_cell BK197.out 1).trans rfl, hx228_0, hx228_1, hx228_2, hx228_3, hx228_4, hx228_5⟩ (fun hHeld => ?_); refine with_tabW clerestorykeep1_DomOrder.tab20 clerestorykeep1_DomOrder.bits20 (fun HT_ HW_ => ?_)
                                        generalize wc.drew = w99 at HO_10 HO_198000 BK197 HB HL228_2 HL228_5 HR228_2 HR228_5 hx228_0 hx228_1 hx228_2 hx228_3 hx228_4 hx228_5 hHeld ⊢
                                        refine pure_ (i := 1) (N := some 129) (v := ?_) (a' := ?_) #[false, true, false, false, false, false, false, false, false, false, false, false, false] rfl rfl (any_of HT_.out (by kernel_rfl)) (fun _ _ _ h => h) (Or.inl ⟨by rfl, ?_⟩) ?_ ?_
                                        rotate_left
                                        · intro w'
                                          go_simp
                                          with_reducible rfl
                                        rotate_left
                                        · simp only [Act.put, List.setIfInBounds_toArray, List.set_cons_zero, List.set_cons_succ, i64_w, i32_w]
                                          rfl
                                        refine pure_ (i := 3) (N := some 131) (v := ?_) (a' := ?_) #[false, true, false, true, false, false, false, false, false, false, false, false, false] rfl rfl (any_of HT_.out (by kernel_rfl)) (fun _ _ _ h => h) (Or.inl ⟨by rfl, ?_⟩) ?_ ?_
                                        rotate_left
                                        · intro w'
                                          go_simp
                                          with_reducible rfl
                                        rotate_left
                                        · simp only [Act.put, List.setIfInBounds_toArray, List.set_cons_zero, List.set_cons_succ, i64_w, i32_w]
                                          rfl
                                        refine take_ (i := 0) (N := some 128) (v := ?_) (a' := ?_) #[true, true, false, true, false, false, false, false, false, false, false, false, false] rfl rfl (take_ofW HT_.out HW_.out (by kernel_rfl)) (fun _ _ _ h => h) (Or.inl ⟨by rfl, ?_⟩) hHeld ?_ ?_
                                        rotate_left
                                        · rintro w' ⟨s0, s1, s2, s3, s4, s5, s6, s7⟩
                                          go_simp
                                          with_reducible rfl
                                        rotate_left
                                        · simp only [Act.put, List.setIfInBounds_toArray, List.set_cons_zero, List.set_cons_succ, i64_w, i32_w]
                                          rfl
                                        refine take_ (i := 2) (N := some 130) (v := ?_) (a' := ?_) #[true, true, true, true, false, false, false, false, false, false, false, false, false] rfl rfl (take_ofW HT_.out HW_.out (by kernel_rfl)) (fun _ _ _ h => h) (Or.inl ⟨by rfl, ?_⟩) hHeld ?_ ?_
                                        rotate_left
                                        · rintro w' ⟨s0, s1, s2, s3, s4, s5, s6, s7⟩
                                          go_simp
                                          with_reducible rfl
                                        rotate_left
                                        · simp only [Act.put, List.setIfInBounds_toArray, List.set_cons_zero, List.set_cons_succ, i64_w, i32_w]
                                          rfl
                                        refine pure_ (i := 4) (N := some 132) (v := ?_) (a' := ?_) #[true, true, true, true, true, false, false, false, false, false, false, false, false] rfl rfl (any_of HT_.out (by kernel_rfl)) (fun _ _ _ h => h) (Or.inl ⟨by rfl, ?_⟩) ?_ ?_
                                        rotate_left
                                        · intro w'
                                          go_simp
                                          with_reducible rfl
                                        rotate_left
                                        · simp only [Act.put, List.setIfInBounds_toArray, List.set_cons_zero, List.set_cons_succ, i64_w, i32_w]
                                          rfl
                                        refine pure_ (i := 5) (N := some 133) (v := ?_) (a' := ?_) #[true, true, true, true, true, true, false, false, false, false, false, false, false] rfl rfl (any_of HT_.out (by kernel_rfl)) (fun _ _ _ h => h) (Or.inl ⟨by rfl, ?_⟩) ?_ ?_
                                        rotate_left
                                        · intro w'
                                          go_simp
                                          with_reducible rfl
                                        rotate_left
                                        · simp only [Act.put, List.setIfInBounds_toArray, List.set_cons_zero, List.set_cons_succ, i64_w, i32_w]
                                          rfl
                                        refine take_ (i := 6) (N := some 134) (v := ?_) (a' := ?_) #[true, true, true, true, true, true, true, false, false, false, false, false, false] rfl rfl (take_ofW HT_.out HW_.out (by kernel_rfl)) (fun _ _ _ h => h) (Or.inl ⟨by rfl, ?_⟩) hHeld ?_ ?_
                                        rotate_left
                                        · rintro w' ⟨s0, s1, s2, s3, s4, s5, s6, s7⟩
                                          go_simp
                                          with_reducible rfl
                                        rotate_left
                                        · simp only [Act.put, List.setIfInBounds_toArray, List.set_cons_zero, List.set_cons_succ, i64_w, i32_w]
                                          rfl
                                        refine one_ (i := 7) (N := some 135) #[true, true, true, true, true, true, true, true, false, false, false, false, false] rfl rfl (one_of HT_.out (by kernel_rfl)) (by decide) (fun K hK => ?_)
                                        refine goes_ Tryd.func23 (by kernel_rfl) rfl #[.agg #[.slice (some ad228) t198.length co11, .bool t201], .int .i64 ((rd_T35 t198 a1).f4)] (by rfl) rfl rfl (by (try simp only [List.map_toArray, List.map_cons, List.map_nil]); first | done | rfl | (simp only [List.length_drop, List.length_take]; rfl)) ?_
                                        with_reducible refine (dom_Path.calls kj69 _ _ t198 t201 ((rd_T35 t198 a1).f4) t229 t232 _ ?side1 ?side2 A87.out).mono ?_
                                        (case side1 => repeat (first | exact (Kd.V_reads' HO_198000.out).2.2 | (with_reducible refine Kd.C_alloc ?_ _) | (with_reducible refine Kd.C_drewN ?_ _) | (with_reducible refine Kd.C_drew ?_)))
                                        (case side2 => exact (Kd.V_reads' HO_198000.out).2.1)
                                        rintro e w100 ⟨v230, rfl, ho0, hb⟩
                                        have HS2_ := (hb.cell (World.block_lt_of_cell? _ _ (hHeld.2.2.1))).trans (hHeld.2.2.1)
                                        have HS3_ := (hb.cell (World.block_lt_of_cell? _ _ (hHeld.2.2.2.1))).trans (hHeld.2.2.2.1)
                                        have HS4_ := (hb.cell (World.block_lt_of_cell? _ _ (hHeld.2.2.2.2.1))).trans (hHeld.2.2.2.2.1)
                                        have HS5_ := (hb.cell (World.block_lt_of_cell? _ _ (hHeld.2.2.2.2.2.1))).trans (hHeld.2.2.2.2.2.1)
                                        have HS6_ := (hb.cell (World.block_lt_of_cell? _ _ (hHeld.2.2.2.2.2.2.1))).trans (hHeld.2.2.2.2.2.2.1)
                                        have HS7_ := (hb.cell (World.block_lt_of_cell? _ _ (hHeld.2.2.2.2.2.2.2))).trans (hHeld.2.2.2.2.2.2.2)
                                        refine ⟨_, rfl, ?_⟩
                                        have n0_ := Aside0.mk (Kd.R_elder' (by (with_reducible repeat (first | apply Kd.R_alloc | apply Kd.R_drewN | apply Kd.R_drew)); exact HO_10.out) (Kd.R_base ho0) hb)
                                        have n1_ := Aside0.mk (Kd.V_elder' (by (with_reducible repeat (first | apply Kd.V_alloc | apply Kd.V_drewN | apply Kd.V_drew)); exact HO_198000.out) (Kd.R_base ho0) hb)
                                        have n2_ := Aside0.mk (Kd.V_elder' (by (with_reducible repeat (first | apply Kd.V_alloc | apply Kd.V_drewN | apply Kd.V_drew)); exact HL228_2.out) (Kd.R_base ho0) hb)
                                        have n3_ := Aside0.mk (Kd.V_elder' (by (with_reducible repeat (first | apply Kd.V_alloc | apply Kd.V_drewN | apply Kd.V_drew)); exact HL228_5.out) (Kd.R_base ho0) hb)
                                        have n4_ := Aside0.mk (Kd.R_lower (Kd.R_new' ho0 (Kd.R_lt (by (with_reducible repeat (first | apply Kd.R_alloc | apply Kd.R_drewN | apply Kd.R_drew)); exact HO_10.out))) (below_size (by repeat (first | (with_reducible first | exact HB.out | apply below_alloc | apply pw_below_drewN | apply below_drew1 | refine below_set ?_ GE197.out) | exact HB.out))))
                                        have n5_ := Aside0.mk (blk_below (g := gb197) (o := .cells #[.slice (some ad228) t198.length co11, .bool t201] 24 (0, 0)) (by (with_reducible repeat (first | refine blk_drewN ?_ _ | refine blk_drew ?_ | refine blk_alloc ?_ _)); exact BK197.out) hb)
                                        have n6_ := Aside0.mk (Kd.C_below (by repeat (first | (with_reducible exact HR228_2.out) | (with_reducible refine Kd.C_alloc ?_ _) | (with_reducible refine Kd.C_drewN ?_ _) | (with_reducible refine Kd.C_drew ?_) | exact HR228_2.out)) hb)
                                        have n7_ := Aside0.mk (Kd.C_below (by repeat (first | (with_reducible exact HR228_5.out) | (with_reducible refine Kd.C_alloc ?_ _) | (with_reducible refine Kd.C_drewN ?_ _) | (with_reducible refine Kd.C_drew ?_) | exact HR228_5.out)) hb)
                                        have n8_ := Aside0.mk (below_step (by repeat (first | (with_reducible first | exact HB.out | apply below_alloc | apply pw_below_drewN | apply below_drew1 | refine below_set ?_ GE197.out) | exact HB.out)) hb)
                                        clear HO_10
                                        clear HO_198000
                                        clear HL228_2
                                        clear HL228_5
                                        clear BK197
                                        clear HR228_2
                                        clear HR228_5
                                        clear HB
                                        have HO_10 := n0_
                                        have HO_198000 := n1_
                                        have HL228_2 := n2_
                                        have HL228_5 := n3_
                                        have HO231 := n4_
                                        have BK197 := n5_
                                        have HR228_2 := n6_
                                        have HR228_5 := n7_
                                        have HB := n8_
                                        clear n0_ n1_ n2_ n3_ n4_ n5_ n6_ n7_ n8_
                                        (try clear hb)
                                        (try clear hb2)
                                        (try clear hk)
                                        (try clear hi)
                                        (try clear ho0)
                                        refine hK.out _ _ ⟨(blk_cell BK197.out 0).trans rfl, (blk_cell BK197.out 1).trans rfl, HS2_, HS3_, HS4_, HS5_, HS6_, HS7_⟩ (fun hHeld => ?_)
                                        clear hK K
                                        refine norm_ (a' := ?_) ?_ ?_
                                        rotate_left
                                        · show Act.put _ (some 135) _ = _
                                          simp only [Act.put, List.setIfInBounds_toArray, List.set_cons_zero, List.set_cons_succ, i64_w, i32_w]
                                          rfl
                                        refine pure_ (i := 8) (N := some 127) (v := ?_) (a' := ?_) #[true, true, true, true, true, true, true, true, true, false, false, false, false] rfl rfl (any_of HT_.out (by kernel_rfl)) (fun _ _ _ h => h) (Or.inl ⟨by rfl, ?_⟩) ?_ ?_
                                        rotate_left
                                        · intro w'
                                          go_simp
                                          with_reducible rfl
                                        rotate_left
                                        · simp only [Act.put, List.setIfInBounds_toArray, List.set_cons_zero, List.set_cons_succ, i64_w, i32_w]
                                          rfl
                                        refine pure_ (i := 9) (N := some 136) (v := ?_) (a' := ?_) #[true, true, true, true, true, true, true, true, true, true, false, false, false] rfl rfl (any_of HT_.out (by kernel_rfl)) (fun _ _ _ h => h) (Or.inl ⟨by rfl, ?_⟩) ?_ ?_
                                        rotate_left
                                        · intro w'
                                          go_simp
                                          with_reducible rfl
                                        rotate_left
                                        · simp only [Act.put, List.setIfInBounds_toArray, List.set_cons_zero, List.set_cons_succ, i64_w, i32_w]
                                          rfl
                                        refine pure_ (i := 10) (N := some 137) (v := ?_) (a' := ?_) #[true, true, true, true, true, true, true, true, true, true, true, false, false] rfl rfl (any_of HT_.out (by kernel_rfl)) (fun _ _ _ h => h) (Or.inl ⟨by rfl, ?_⟩) ?_ ?_
                                        rotate_left
                                        · intro w'
                                          go_simp
                                          with_reducible rfl
                                        rotate_left
                                        · simp only [Act.put, List.setIfInBounds_toArray, List.set_cons_zero, List.set_cons_succ, i64_w, i32_w]
                                          rfl
                                        refine pure_ (i := 11) (N := some 12) (v := ?_) (a' := ?_) #[true, true, true, true, true, true, true, true, true, true, true, true, false] rfl rfl (any_of HT_.out (by kernel_rfl)) (fun _ _ _ h => h) (Or.inl ⟨by rfl, ?_⟩) ?_ ?_
                                        rotate_left
                                        · intro w'
                                          go_simp
                                          with_reducible rfl
                                        rotate_left
                                        · simp only [Act.put, List.setIfInBounds_toArray, List.set_cons_zero, List.set_cons_succ, i64_w, i32_w]
                                          rfl
                                        refine pure_ (i := 12) (N := some 13) (v := ?_) (a' := ?_) #[true, true, true, true, true, true, true, true, true, true, true, true, true] rfl rfl (any_of HT_.out (by kernel_rfl)) (fun _ _ _ h => h) (Or.inl ⟨by rfl, ?_⟩) ?_ ?_
                                        rotate_left
                                        · intro w'
                                          go_simp
                                          with_reducible rfl
                                        rotate_left
                                        · simp only [Act.put, List.setIfInBounds_toArray, List.set_cons_zero, List.set_cons_succ, i64_w, i32_w]
                                          rfl
                                        refine done_ (done_of HT_.out (by kernel_rfl)) ?_
                                        try go_wp2_with (first | ((with_reducible refine gate_callee (f := 19) rfl ?_); refine goesL_ (some 138) rfl rfl Tryd.func19 (by kernel_rfl) rfl #[] rfl (by (try simp only [List.map_toArray, List.map_cons, List.map_nil]); first | done | rfl | (simp only [List.length_drop, List.length_take]; rfl)) ?_; (with_reducible refine (clerestorykeep1_domBegun.calls kj69  true _ A88.out).mono ?_); rintro e w101 ⟨rfl, hb⟩; refine ⟨_, rfl, ?_⟩; have n0_ := Aside0.mk (Kd.R_below (by (with_reducible repeat (first | apply Kd.R_alloc | apply Kd.R_drewN | apply Kd.R_drew)); exact HO_10.out) hb); have n1_ := Aside0.mk (Kd.V_below (by (with_reducible repeat (first | apply Kd.V_alloc | apply Kd.V_drewN | apply Kd.V_drew)); exact HO_198000.out) hb); have n2_ := Aside0.mk (Kd.V_below (by (with_reducible repeat (first | apply Kd.V_alloc | apply Kd.V_drewN | apply Kd.V_drew)); exact HL228_2.out) hb); have n3_ := Aside0.mk (Kd.V_below (by (with_reducible repeat (first | apply Kd.V_alloc | apply Kd.V_drewN | apply Kd.V_drew)); exact HL228_5.out) hb); have n4_ := Aside0.mk (Kd.R_below (by (with_reducible repeat (first | apply Kd.R_alloc | apply Kd.R_drewN | apply Kd.R_drew)); exact HO231.out) hb); have n5_ := Aside0.mk (blk_below (g := gb197) (o := .cells #[.slice (some ad228) t198.length co11, .bool t201] 24 (0, 0)) (by (with_reducible repeat (first | refine blk_drewN ?_ _ | refine blk_drew ?_ | refine blk_alloc ?_ _)); exact BK197.out) hb); have n6_ := Aside0.mk (Kd.C_below (by repeat (first | (with_reducible exact HR228_2.out) | (with_reducible refine Kd.C_alloc ?_ _) | (with_reducible refine Kd.C_drewN ?_ _) | (with_reducible refine Kd.C_drew ?_) | exact HR228_2.out)) hb); have n7_ := Aside0.mk (Kd.C_below (by repeat (first | (with_reducible exact HR228_5.out) | (with_reducible refine Kd.C_alloc ?_ _) | (with_reducible refine Kd.C_drewN ?_ _) | (with_reducible refine Kd.C_drew ?_) | exact HR228_5.out)) hb); have n8_ := Aside0.mk (below_step (by repeat (first | (with_reducible first | exact HB.out | apply below_alloc | apply pw_below_drewN | apply below_drew1 | refine below_set ?_ GE197.out) | exact HB.out)) hb); clear HO_10; clear HO_198000; clear HL228_2; clear HL228_5; clear HO231; clear BK197; clear HR228_2; clear HR228_5; clear HB; have HO_10 := n0_; have HO_198000 := n1_; have HL228_2 := n2_; have HL228_5 := n3_; have HO231 := n4_; have BK197 := n5_; have HR228_2 := n6_; have HR228_5 := n7_; have HB := n8_; clear n0_ n1_ n2_ n3_ n4_ n5_ n6_ n7_ n8_; (try clear hb); (try clear hb2); (try clear hk); (try clear hi)))
                                        go_ret
                                        exact ⟨by first | rfl | (simp [errW_none, errW_some] <;> rfl) | (simp [*, errW_none, errW_some] <;> rfl), by repeat (first | (with_reducible first | exact HB.out | apply below_alloc | apply pw_below_drewN | apply below_drew1 | refine below_set ?_ GE197.out) | exact HB.out)⟩
                                    · replace c89 := Bool.eq_false_iff.mpr c89
                                      subst c89
                                      have H1 : (some false) = some r := by rw [if_neg (show ¬ (false = true) by decide)] at H; exact H
                                      clear H
                                      have H := H1
                                      clear H1
                                      obtain rfl := Option.some.inj H
                                      try go_wp2
                                      have n0_ := Aside0.mk (Kd.R_drew HO_10.out)
                                      have n1_ := Aside0.mk (Kd.V_drew HO_198000.out)
                                      have n2_ := Aside0.mk (blk_drew BK197.out)
                                      have n3_ := Aside0.mk (below_drew1 HB.out)
                                      clear HO_10
                                      clear HO_198000
                                      clear BK197
                                      clear HB
                                      have HO_10 := n0_
                                      have HO_198000 := n1_
                                      have BK197 := n2_
                                      have HB := n3_
                                      clear n0_ n1_ n2_ n3_
                                      have p228 : 0 ≤ (a1 : Int) := of_decide_eq_true (by first | (with_reducible assumption) | assumption)
                                      have q228 : a1 < (t198.length : Int) := of_decide_eq_true (by first | (with_reducible assumption) | assumption)
                                      obtain ⟨ad228, A228_2, c228_2, A228_5, c228_5, e228, hx228_0, hx228_1, hx228_2, hx228_3, hx228_4, hx228_5, hl228_2, hi228_2, hl228_5, hi228_5⟩ := at_T35 (Kd.V_reads' HO_198000.out).2.2 a1 p228 q228
                                      cases e228
                                      obtain ⟨ce228, hce228, hMe228, hcc228⟩ := Kd.V_get HO_198000.out z35 a1 p228 (by first | exact q228 | exact of_decide_eq_true (by first | (with_reducible assumption) | assumption) | (have e_ := (Kd.V_reads' HO_198000.out).1; omega))
                                      obtain ⟨ua228_2, uc228_2, ua228_5, uc228_5, rfl, ul228_2, ge228_2, ul228_5, ge228_5⟩ := k35_openF hMe228
                                      have hv228_2 := hcc228 2 _ rfl
                                      rw [add_field _ _ 2 (by omega)] at hv228_2
                                      replace hv228_2 := Option.some.inj (hv228_2.symm.trans hx228_2)
                                      injection hv228_2 with hva_ hvn_ hvc_
                                      rw [hva_] at ge228_2
                                      rw [hvc_] at ul228_2
                                      have HL228_2 := Aside0.mk (show Kd.V k78 78 _ w.heap.size _ _ ((rd_T35 t198 a1).f2) from Kd.V_mk ul228_2 ge228_2)
                                      clear hva_ hvn_ hvc_ ge228_2 ul228_2
                                      have hv228_5 := hcc228 5 _ rfl
                                      rw [add_field _ _ 5 (by omega)] at hv228_5
                                      replace hv228_5 := Option.some.inj (hv228_5.symm.trans hx228_5)
                                      injection hv228_5 with hva_ hvn_ hvc_
                                      rw [hva_] at ge228_5
                                      rw [hvc_] at ul228_5
                                      have HL228_5 := Aside0.mk (show Kd.V (Kd.int .i64) 3 _ w.heap.size _ _ ((rd_T35 t198 a1).f5) from Kd.V_mk ul228_5 ge228_5)
                                      clear hva_ hvn_ hvc_ ge228_5 ul228_5
                                      clear hcc228 hce228
                                      have HR228_2 := Aside0.mk hi228_2
                                      have HC228_2 := Aside0.mk hl228_2
                                      clear hi228_2 hl228_2
                                      have HR228_5 := Aside0.mk hi228_5
                                      have HC228_5 := Aside0.mk hl228_5
                                      clear hi228_5 hl228_5
                                      replace p228 := eq_true p228
                                      replace q228 := eq_true q228
                                      refine start_ (n := 13) (S := fun w' => w'.cell? ⟨gb197, 0, none⟩ = some (.slice (some ad228) t198.length co11) ∧ w'.cell? ⟨gb197, 1, none⟩ = some (.bool t201) ∧ w'.cell? (ad228.add ((a1).toNat * 6)) = some (.int .i64 ((rd_T35 t198 a1).f0)) ∧ w'.cell? ⟨(ad228.add ((a1).toNat * 6)).block, (ad228.add ((a1).toNat * 6)).off + 1, none⟩ = some (.string ((rd_T35 t198 a1).f1)) ∧ w'.cell? ⟨(ad228.add ((a1).toNat * 6)).block, (ad228.add ((a1).toNat * 6)).off + 2, none⟩ = some (.slice A228_2 ((rd_T35 t198 a1).f2).length c228_2) ∧ w'.cell? ⟨(ad228.add ((a1).toNat * 6)).block, (ad228.add ((a1).toNat * 6)).off + 3, none⟩ = some (.string ((rd_T35 t198 a1).f3)) ∧ w'.cell? ⟨(ad228.add ((a1).toNat * 6)).block, (ad228.add ((a1).toNat * 6)).off + 4, none⟩ = some (.int .i64 ((rd_T35 t198 a1).f4)) ∧ w'.cell? ⟨(ad228.add ((a1).toNat * 6)).block, (ad228.add ((a1).toNat * 6)).off + 5, none⟩ = some (.slice A228_5 ((rd_T35 t198 a1).f5).length c228_5)) (ds := []) #[false, false, false, false, false, false, false, false, false, false, false, false, false] (by kernel_rfl) rfl rfl ⟨(blk_cell BK197.out 0).trans rfl, (blk_cell BK197.out 1).trans rfl, hx228_0, hx228_1, hx228_2, hx228_3, hx228_4, hx228_5⟩ (fun hHeld => ?_); refine with_tabW clerestorykeep1_DomOrder.tab20 clerestorykeep1_DomOrder.bits20 (fun HT_ HW_ => ?_)
                                      generalize wc.drew = w102 at HO_10 HO_198000 BK197 HB HL228_2 HL228_5 HR228_2 HR228_5 hx228_0 hx228_1 hx228_2 hx228_3 hx228_4 hx228_5 hHeld ⊢
                                      refine pure_ (i := 1) (N := some 129) (v := ?_) (a' := ?_) #[false, true, false, false, false, false, false, false, false, false, false, false, false] rfl rfl (any_of HT_.out (by kernel_rfl)) (fun _ _ _ h => h) (Or.inl ⟨by rfl, ?_⟩) ?_ ?_
                                      rotate_left
                                      · intro w'
                                        go_simp
                                        with_reducible rfl
                                      rotate_left
                                      · simp only [Act.put, List.setIfInBounds_toArray, List.set_cons_zero, List.set_cons_succ, i64_w, i32_w]
                                        rfl
                                      refine pure_ (i := 3) (N := some 131) (v := ?_) (a' := ?_) #[false, true, false, true, false, false, false, false, false, false, false, false, false] rfl rfl (any_of HT_.out (by kernel_rfl)) (fun _ _ _ h => h) (Or.inl ⟨by rfl, ?_⟩) ?_ ?_
                                      rotate_left
                                      · intro w'
                                        go_simp
                                        with_reducible rfl
                                      rotate_left
                                      · simp only [Act.put, List.setIfInBounds_toArray, List.set_cons_zero, List.set_cons_succ, i64_w, i32_w]
                                        rfl
                                      refine take_ (i := 0) (N := some 128) (v := ?_) (a' := ?_) #[true, true, false, true, false, false, false, false, false, false, false, false, false] rfl rfl (take_ofW HT_.out HW_.out (by kernel_rfl)) (fun _ _ _ h => h) (Or.inl ⟨by rfl, ?_⟩) hHeld ?_ ?_
                                      rotate_left
                                      · rintro w' ⟨s0, s1, s2, s3, s4, s5, s6, s7⟩
                                        go_simp
                                        with_reducible rfl
                                      rotate_left
                                      · simp only [Act.put, List.setIfInBounds_toArray, List.set_cons_zero, List.set_cons_succ, i64_w, i32_w]
                                        rfl
                                      refine take_ (i := 2) (N := some 130) (v := ?_) (a' := ?_) #[true, true, true, true, false, false, false, false, false, false, false, false, false] rfl rfl (take_ofW HT_.out HW_.out (by kernel_rfl)) (fun _ _ _ h => h) (Or.inl ⟨by rfl, ?_⟩) hHeld ?_ ?_
                                      rotate_left
                                      · rintro w' ⟨s0, s1, s2, s3, s4, s5, s6, s7⟩
                                        go_simp
                                        with_reducible rfl
                                      rotate_left
                                      · simp only [Act.put, List.setIfInBounds_toArray, List.set_cons_zero, List.set_cons_succ, i64_w, i32_w]
                                        rfl
                                      refine pure_ (i := 4) (N := some 132) (v := ?_) (a' := ?_) #[true, true, true, true, true, false, false, false, false, false, false, false, false] rfl rfl (any_of HT_.out (by kernel_rfl)) (fun _ _ _ h => h) (Or.inl ⟨by rfl, ?_⟩) ?_ ?_
                                      rotate_left
                                      · intro w'
                                        go_simp
                                        with_reducible rfl
                                      rotate_left
                                      · simp only [Act.put, List.setIfInBounds_toArray, List.set_cons_zero, List.set_cons_succ, i64_w, i32_w]
                                        rfl
                                      refine pure_ (i := 5) (N := some 133) (v := ?_) (a' := ?_) #[true, true, true, true, true, true, false, false, false, false, false, false, false] rfl rfl (any_of HT_.out (by kernel_rfl)) (fun _ _ _ h => h) (Or.inl ⟨by rfl, ?_⟩) ?_ ?_
                                      rotate_left
                                      · intro w'
                                        go_simp
                                        with_reducible rfl
                                      rotate_left
                                      · simp only [Act.put, List.setIfInBounds_toArray, List.set_cons_zero, List.set_cons_succ, i64_w, i32_w]
                                        rfl
                                      refine take_ (i := 6) (N := some 134) (v := ?_) (a' := ?_) #[true, true, true, true, true, true, true, false, false, false, false, false, false] rfl rfl (take_ofW HT_.out HW_.out (by kernel_rfl)) (fun _ _ _ h => h) (Or.inl ⟨by rfl, ?_⟩) hHeld ?_ ?_
                                      rotate_left
                                      · rintro w' ⟨s0, s1, s2, s3, s4, s5, s6, s7⟩
                                        go_simp
                                        with_reducible rfl
                                      rotate_left
                                      · simp only [Act.put, List.setIfInBounds_toArray, List.set_cons_zero, List.set_cons_succ, i64_w, i32_w]
                                        rfl
                                      refine one_ (i := 7) (N := some 135) #[true, true, true, true, true, true, true, true, false, false, false, false, false] rfl rfl (one_of HT_.out (by kernel_rfl)) (by decide) (fun K hK => ?_)
                                      refine goes_ Tryd.func23 (by kernel_rfl) rfl #[.agg #[.slice (some ad228) t198.length co11, .bool t201], .int .i64 ((rd_T35 t198 a1).f4)] (by rfl) rfl rfl (by (try simp only [List.map_toArray, List.map_cons, List.map_nil]); first | done | rfl | (simp only [List.length_drop, List.length_take]; rfl)) ?_
                                      with_reducible refine (dom_Path.calls kj69 _ _ t198 t201 ((rd_T35 t198 a1).f4) t229 t232 _ ?side1 ?side2 A87.out).mono ?_
                                      (case side1 => repeat (first | exact (Kd.V_reads' HO_198000.out).2.2 | (with_reducible refine Kd.C_alloc ?_ _) | (with_reducible refine Kd.C_drewN ?_ _) | (with_reducible refine Kd.C_drew ?_)))
                                      (case side2 => exact (Kd.V_reads' HO_198000.out).2.1)
                                      rintro e w103 ⟨v230, rfl, ho0, hb⟩
                                      have HS2_ := (hb.cell (World.block_lt_of_cell? _ _ (hHeld.2.2.1))).trans (hHeld.2.2.1)
                                      have HS3_ := (hb.cell (World.block_lt_of_cell? _ _ (hHeld.2.2.2.1))).trans (hHeld.2.2.2.1)
                                      have HS4_ := (hb.cell (World.block_lt_of_cell? _ _ (hHeld.2.2.2.2.1))).trans (hHeld.2.2.2.2.1)
                                      have HS5_ := (hb.cell (World.block_lt_of_cell? _ _ (hHeld.2.2.2.2.2.1))).trans (hHeld.2.2.2.2.2.1)
                                      have HS6_ := (hb.cell (World.block_lt_of_cell? _ _ (hHeld.2.2.2.2.2.2.1))).trans (hHeld.2.2.2.2.2.2.1)
                                      have HS7_ := (hb.cell (World.block_lt_of_cell? _ _ (hHeld.2.2.2.2.2.2.2))).trans (hHeld.2.2.2.2.2.2.2)
                                      refine ⟨_, rfl, ?_⟩
                                      have n0_ := Aside0.mk (Kd.R_elder' (by (with_reducible repeat (first | apply Kd.R_alloc | apply Kd.R_drewN | apply Kd.R_drew)); exact HO_10.out) (Kd.R_base ho0) hb)
                                      have n1_ := Aside0.mk (Kd.V_elder' (by (with_reducible repeat (first | apply Kd.V_alloc | apply Kd.V_drewN | apply Kd.V_drew)); exact HO_198000.out) (Kd.R_base ho0) hb)
                                      have n2_ := Aside0.mk (Kd.V_elder' (by (with_reducible repeat (first | apply Kd.V_alloc | apply Kd.V_drewN | apply Kd.V_drew)); exact HL228_2.out) (Kd.R_base ho0) hb)
                                      have n3_ := Aside0.mk (Kd.V_elder' (by (with_reducible repeat (first | apply Kd.V_alloc | apply Kd.V_drewN | apply Kd.V_drew)); exact HL228_5.out) (Kd.R_base ho0) hb)
                                      have n4_ := Aside0.mk (Kd.R_lower (Kd.R_new' ho0 (Kd.R_lt (by (with_reducible repeat (first | apply Kd.R_alloc | apply Kd.R_drewN | apply Kd.R_drew)); exact HO_10.out))) (below_size (by repeat (first | (with_reducible first | exact HB.out | apply below_alloc | apply pw_below_drewN | apply below_drew1 | refine below_set ?_ GE197.out) | exact HB.out))))
                                      have n5_ := Aside0.mk (blk_below (g := gb197) (o := .cells #[.slice (some ad228) t198.length co11, .bool t201] 24 (0, 0)) (by (with_reducible repeat (first | refine blk_drewN ?_ _ | refine blk_drew ?_ | refine blk_alloc ?_ _)); exact BK197.out) hb)
                                      have n6_ := Aside0.mk (Kd.C_below (by repeat (first | (with_reducible exact HR228_2.out) | (with_reducible refine Kd.C_alloc ?_ _) | (with_reducible refine Kd.C_drewN ?_ _) | (with_reducible refine Kd.C_drew ?_) | exact HR228_2.out)) hb)
                                      have n7_ := Aside0.mk (Kd.C_below (by repeat (first | (with_reducible exact HR228_5.out) | (with_reducible refine Kd.C_alloc ?_ _) | (with_reducible refine Kd.C_drewN ?_ _) | (with_reducible refine Kd.C_drew ?_) | exact HR228_5.out)) hb)
                                      have n8_ := Aside0.mk (below_step (by repeat (first | (with_reducible first | exact HB.out | apply below_alloc | apply pw_below_drewN | apply below_drew1 | refine below_set ?_ GE197.out) | exact HB.out)) hb)
                                      clear HO_10
                                      clear HO_198000
                                      clear HL228_2
                                      clear HL228_5
                                      clear BK197
                                      clear HR228_2
                                      clear HR228_5
                                      clear HB
                                      have HO_10 := n0_
                                      have HO_198000 := n1_
                                      have HL228_2 := n2_
                                      have HL228_5 := n3_
                                      have HO231 := n4_
                                      have BK197 := n5_
                                      have HR228_2 := n6_
                                      have HR228_5 := n7_
                                      have HB := n8_
                                      clear n0_ n1_ n2_ n3_ n4_ n5_ n6_ n7_ n8_
                                      (try clear hb)
                                      (try clear hb2)
                                      (try clear hk)
                                      (try clear hi)
                                      (try clear ho0)
                                      refine hK.out _ _ ⟨(blk_cell BK197.out 0).trans rfl, (blk_cell BK197.out 1).trans rfl, HS2_, HS3_, HS4_, HS5_, HS6_, HS7_⟩ (fun hHeld => ?_)
                                      clear hK K
                                      refine norm_ (a' := ?_) ?_ ?_
                                      rotate_left
                                      · show Act.put _ (some 135) _ = _
                                        simp only [Act.put, List.setIfInBounds_toArray, List.set_cons_zero, List.set_cons_succ, i64_w, i32_w]
                                        rfl
                                      refine pure_ (i := 8) (N := some 127) (v := ?_) (a' := ?_) #[true, true, true, true, true, true, true, true, true, false, false, false, false] rfl rfl (any_of HT_.out (by kernel_rfl)) (fun _ _ _ h => h) (Or.inl ⟨by rfl, ?_⟩) ?_ ?_
                                      rotate_left
                                      · intro w'
                                        go_simp
                                        with_reducible rfl
                                      rotate_left
                                      · simp only [Act.put, List.setIfInBounds_toArray, List.set_cons_zero, List.set_cons_succ, i64_w, i32_w]
                                        rfl
                                      refine pure_ (i := 9) (N := some 136) (v := ?_) (a' := ?_) #[true, true, true, true, true, true, true, true, true, true, false, false, false] rfl rfl (any_of HT_.out (by kernel_rfl)) (fun _ _ _ h => h) (Or.inl ⟨by rfl, ?_⟩) ?_ ?_
                                      rotate_left
                                      · intro w'
                                        go_simp
                                        with_reducible rfl
                                      rotate_left
                                      · simp only [Act.put, List.setIfInBounds_toArray, List.set_cons_zero, List.set_cons_succ, i64_w, i32_w]
                                        rfl
                                      refine pure_ (i := 10) (N := some 137) (v := ?_) (a' := ?_) #[true, true, true, true, true, true, true, true, true, true, true, false, false] rfl rfl (any_of HT_.out (by kernel_rfl)) (fun _ _ _ h => h) (Or.inl ⟨by rfl, ?_⟩) ?_ ?_
                                      rotate_left
                                      · intro w'
                                        go_simp
                                        with_reducible rfl
                                      rotate_left
                                      · simp only [Act.put, List.setIfInBounds_toArray, List.set_cons_zero, List.set_cons_succ, i64_w, i32_w]
                                        rfl
                                      refine pure_ (i := 11) (N := some 12) (v := ?_) (a' := ?_) #[true, true, true, true, true, true, true, true, true, true, true, true, false] rfl rfl (any_of HT_.out (by kernel_rfl)) (fun _ _ _ h => h) (Or.inl ⟨by rfl, ?_⟩) ?_ ?_
                                      rotate_left
                                      · intro w'
                                        go_simp
                                        with_reducible rfl
                                      rotate_left
                                      · simp only [Act.put, List.setIfInBounds_toArray, List.set_cons_zero, List.set_cons_succ, i64_w, i32_w]
                                        rfl
                                      refine pure_ (i := 12) (N := some 13) (v := ?_) (a' := ?_) #[true, true, true, true, true, true, true, true, true, true, true, true, true] rfl rfl (any_of HT_.out (by kernel_rfl)) (fun _ _ _ h => h) (Or.inl ⟨by rfl, ?_⟩) ?_ ?_
                                      rotate_left
                                      · intro w'
                                        go_simp
                                        with_reducible rfl
                                      rotate_left
                                      · simp only [Act.put, List.setIfInBounds_toArray, List.set_cons_zero, List.set_cons_succ, i64_w, i32_w]
                                        rfl
                                      refine done_ (done_of HT_.out (by kernel_rfl)) ?_
                                      try go_wp2_with (first | ((with_reducible refine gate_callee (f := 19) rfl ?_); refine goesL_ (some 138) rfl rfl Tryd.func19 (by kernel_rfl) rfl #[] rfl (by (try simp only [List.map_toArray, List.map_cons, List.map_nil]); first | done | rfl | (simp only [List.length_drop, List.length_take]; rfl)) ?_; (with_reducible refine (clerestorykeep1_domBegun.calls kj69  false _ A88.out).mono ?_); rintro e w104 ⟨rfl, hb⟩; refine ⟨_, rfl, ?_⟩; have n0_ := Aside0.mk (Kd.R_below (by (with_reducible repeat (first | apply Kd.R_alloc | apply Kd.R_drewN | apply Kd.R_drew)); exact HO_10.out) hb); have n1_ := Aside0.mk (Kd.V_below (by (with_reducible repeat (first | apply Kd.V_alloc | apply Kd.V_drewN | apply Kd.V_drew)); exact HO_198000.out) hb); have n2_ := Aside0.mk (Kd.V_below (by (with_reducible repeat (first | apply Kd.V_alloc | apply Kd.V_drewN | apply Kd.V_drew)); exact HL228_2.out) hb); have n3_ := Aside0.mk (Kd.V_below (by (with_reducible repeat (first | apply Kd.V_alloc | apply Kd.V_drewN | apply Kd.V_drew)); exact HL228_5.out) hb); have n4_ := Aside0.mk (Kd.R_below (by (with_reducible repeat (first | apply Kd.R_alloc | apply Kd.R_drewN | apply Kd.R_drew)); exact HO231.out) hb); have n5_ := Aside0.mk (blk_below (g := gb197) (o := .cells #[.slice (some ad228) t198.length co11, .bool t201] 24 (0, 0)) (by (with_reducible repeat (first | refine blk_drewN ?_ _ | refine blk_drew ?_ | refine blk_alloc ?_ _)); exact BK197.out) hb); have n6_ := Aside0.mk (Kd.C_below (by repeat (first | (with_reducible exact HR228_2.out) | (with_reducible refine Kd.C_alloc ?_ _) | (with_reducible refine Kd.C_drewN ?_ _) | (with_reducible refine Kd.C_drew ?_) | exact HR228_2.out)) hb); have n7_ := Aside0.mk (Kd.C_below (by repeat (first | (with_reducible exact HR228_5.out) | (with_reducible refine Kd.C_alloc ?_ _) | (with_reducible refine Kd.C_drewN ?_ _) | (with_reducible refine Kd.C_drew ?_) | exact HR228_5.out)) hb); have n8_ := Aside0.mk (below_step (by repeat (first | (with_reducible first | exact HB.out | apply below_alloc | apply pw_below_drewN | apply below_drew1 | refine below_set ?_ GE197.out) | exact HB.out)) hb); clear HO_10; clear HO_198000; clear HL228_2; clear HL228_5; clear HO231; clear BK197; clear HR228_2; clear HR228_5; clear HB; have HO_10 := n0_; have HO_198000 := n1_; have HL228_2 := n2_; have HL228_5 := n3_; have HO231 := n4_; have BK197 := n5_; have HR228_2 := n6_; have HR228_5 := n7_; have HB := n8_; clear n0_ n1_ n2_ n3_ n4_ n5_ n6_ n7_ n8_; (try clear hb); (try clear hb2); (try clear hk); (try clear hi)))
                                      go_ret
                                      exact ⟨by first | rfl | (simp [errW_none, errW_some] <;> rfl) | (simp [*, errW_none, errW_some] <;> rfl), by repeat (first | (with_reducible first | exact HB.out | apply below_alloc | apply pw_below_drewN | apply below_drew1 | refine below_set ?_ GE197.out) | exact HB.out)⟩
                                  · rw [if_neg c86] at H
                                    exact absurd H (by simp)
                                · rw [if_neg c85] at H
                                  exact absurd H (by simp)
                      · rw [if_neg c67] at H
                        exact absurd H (by simp)
                    · rw [if_neg c66] at H
                      exact absurd H (by simp)
      · rw [if_neg c7] at H
        exact absurd H (by simp)
    · rw [if_neg c6] at H
      exact absurd H (by simp)
  · rw [if_neg c5] at H
    have c5b0 : (t205 == 0) = false := beq_eq_false_iff_ne.mpr c5
    have c5b1 : (t205 != 0) = true := bne_iff_ne.mpr c5
    replace H := Option.bind_eq_some_iff.mp H
    obtain ⟨t206, A1050, H⟩ := H
    replace H : (if t206 = true then (some ((t202.length : Int) == 0)) else (some false)) = some r := H
    have A105 := Aside0.mk A1050
    clear A1050
    by_cases c106 : t206 = true
    · subst c106
      have H1 : (some ((t202.length : Int) == 0)) = some r := by rw [if_pos rfl] at H; exact H
      clear H
      have H := H1
      clear H1
      obtain rfl := Option.some.inj H
      go_enter Tryd.func7, Tryd.ntmps7
      go_wp2_with (first | ((with_reducible refine gate_dst (N := 2) rfl ?_); (try (refine gate_guard (by rfl) ?_; dsimp only)); refine box_event ?hg (N := 2) ?hd (cs := #[.slice A0_0 l0_0.length c0_0, .bool a0_1]) (t := 24) ?hr ?_; (case hd => rfl); (case hg => rfl); (case hr => first | (go_simp; done) | (go_simp; rfl)); intro gb197 hg w107 hbox hb; have n0_ := Aside0.mk (below_step (by repeat (first | (with_reducible first | exact HB.out | apply below_alloc | apply pw_below_drewN | apply below_drew1) | exact HB.out)) hb); have n1_ := Aside0.mk (hbox); have n2_ := Aside0.mk ((by rw [hg]; exact (below_size (by repeat (first | (with_reducible first | exact HB.out | apply below_alloc | apply pw_below_drewN | apply below_drew1) | exact HB.out))) : w.heap.size ≤ gb197)); have n3_ := Aside0.mk ((by rw [hg]; exact (below_size (by repeat (first | (with_reducible first | exact HB.out | apply below_alloc | apply pw_below_drewN | apply below_drew1) | exact HB.out))) : w.heap.size ≤ gb197)); clear HB; have HB := n0_; have BK197 := n1_; have GW197 := n2_; have GE197 := n3_; clear n0_ n1_ n2_ n3_; clear hb hbox hg; have hcz108_0 : w107.cell? ⟨gb197, 0, none⟩ = some (.slice A0_0 l0_0.length c0_0) := (blk_cell BK197.out 0).trans rfl; have hcz108_1 : w107.cell? ⟨gb197, 1, none⟩ = some (.bool a0_1) := (blk_cell BK197.out 1).trans rfl; have hfz108_0 := blk_frozen BK197.out 0; have hfz108_1 := blk_frozen BK197.out 1) | ((with_reducible refine gate_callee (f := 9) rfl ?_); refine goesL_ (some 15) rfl rfl Tryd.func9 (by kernel_rfl) rfl #[.agg #[.slice A0_0 l0_0.length c0_0, .bool a0_1], .int .i64 60] rfl (by (try simp only [List.map_toArray, List.map_cons, List.map_nil]); first | done | rfl | (simp only [List.length_drop, List.length_take]; rfl)) ?_; (with_reducible refine (clerestorykeep1_few.calls (fun k_ => k_ < w.heap.size) _ _ l0_0 a0_1 60 t198 t201 _ ?side1 A3.out).mono ?_); (case side1 => exact Kd.V_mk HC0_0.out (Kd.F_below (Kd.C_F k35_heap HR0_0.out) (by repeat (first | (with_reducible first | exact HB.out | apply below_alloc | apply pw_below_drewN | apply below_drew1 | refine below_set ?_ GE197.out) | exact HB.out)))); rintro e w109 ⟨v199, rfl, ho0, hb⟩; refine ⟨_, rfl, ?_⟩; have n0_ := Aside0.mk (Kd.V_lower (Kd.V_mono (ok' := fun k_ => k_ ≠ gb197) ho0 (fun k_ hk_ => Or.elim hk_ (fun hs_ => fun e_ => Nat.not_le.2 hs_ (by rw [e_]; exact GW197.out)) (fun hn_ => (Kd.freshB (g := gb197) (o := .cells #[.slice A0_0 l0_0.length c0_0, .bool a0_1] 24 (0, 0)) (by (with_reducible repeat (first | refine blk_drewN ?_ _ | refine blk_drew ?_ | refine blk_alloc ?_ _)); exact BK197.out) k_ hn_)))) (below_size (by repeat (first | (with_reducible first | exact HB.out | apply below_alloc | apply pw_below_drewN | apply below_drew1 | refine below_set ?_ GE197.out) | exact HB.out)))); have n1_ := Aside0.mk (blk_below (g := gb197) (o := .cells #[.slice A0_0 l0_0.length c0_0, .bool a0_1] 24 (0, 0)) (by (with_reducible repeat (first | refine blk_drewN ?_ _ | refine blk_drew ?_ | refine blk_alloc ?_ _)); exact BK197.out) hb); have n2_ := Aside0.mk (below_step (by repeat (first | (with_reducible first | exact HB.out | apply below_alloc | apply pw_below_drewN | apply below_drew1 | refine below_set ?_ GE197.out) | exact HB.out)) hb); clear BK197; clear HB; have HO200 := n0_; have BK197 := n1_; have HB := n2_; clear n0_ n1_ n2_; (try clear hb); (try clear hb2); (try clear hk); (try clear hi); (try clear ho0); obtain ⟨Ao110, co110, eo110⟩ := Kd.V_slice HO200.out; subst eo110; have hcz111_0 : w109.cell? ⟨gb197, 0, none⟩ = some (.slice A0_0 l0_0.length c0_0) := (blk_cell BK197.out 0).trans rfl; have hcz111_1 : w109.cell? ⟨gb197, 1, none⟩ = some (.bool a0_1) := (blk_cell BK197.out 1).trans rfl; have hfz111_0 := blk_frozen BK197.out 0; have hfz111_1 := blk_frozen BK197.out 1) | ((with_reducible refine gate_callee (f := 14) rfl ?_); refine goesL_ (some 18) rfl rfl Tryd.func14 (by kernel_rfl) rfl #[.agg #[.slice Ao110 t198.length co110, .bool t201]] rfl (by (try simp only [List.map_toArray, List.map_cons, List.map_nil]); first | done | rfl | (simp only [List.length_drop, List.length_take]; rfl)) ?_; (with_reducible refine (dom_Order.calls k _ _ t198 t201 t202 t205 _ ?side1 ?side2 A4.out).mono ?_); (case side1 => refine (Kd.V_reads' (e := 35) (base := w.heap.size) (ok := fun k_ => k_ ≠ gb197) (n := t198.length) (c := co110) ?_).2.2; exact (by (with_reducible repeat (first | apply Kd.V_alloc | apply Kd.V_drewN | apply Kd.V_drew)); exact (Kd.V_mono (Kd.V_far (p := ⟨gb197, 1, none⟩) (Kd.V_far (p := ⟨gb197, 0, none⟩) (Kd.V_mono HO200.out (fun k_ hk => (⟨hk, hk⟩ : _ ∧ k_ ≠ gb197))) (fun _ hk => hk.2) (.slice Ao110 t198.length co110)) (fun _ hk => hk.2) (.bool t201)) (fun _ h_ => h_.1)))); (case side2 => exact (Kd.V_reads' HO200.out).2.1); rintro e w112 ⟨v203, rfl, ho0, hb⟩; refine ⟨_, rfl, ?_⟩; have n0_ := Aside0.mk (Kd.V_elder' (by (with_reducible repeat (first | apply Kd.V_alloc | apply Kd.V_drewN | apply Kd.V_drew)); exact (Kd.V_mono (Kd.V_far (p := ⟨gb197, 1, none⟩) (Kd.V_far (p := ⟨gb197, 0, none⟩) (Kd.V_mono HO200.out (fun k_ hk => (⟨hk, hk⟩ : _ ∧ k_ ≠ gb197))) (fun _ hk => hk.2) (.slice Ao110 t198.length co110)) (fun _ hk => hk.2) (.bool t201)) (fun _ h_ => h_.1))) (Kd.R_base ho0) hb); have n1_ := Aside0.mk (Kd.R_lower ho0 (below_size (by repeat (first | (with_reducible first | exact HB.out | apply below_alloc | apply pw_below_drewN | apply below_drew1 | refine below_set ?_ GE197.out) | exact HB.out)))); have n2_ := Aside0.mk (blk_below (g := gb197) (o := .cells #[.slice Ao110 t198.length co110, .bool t201] 24 (0, 0)) (by (with_reducible repeat (first | refine blk_drewN ?_ _ | refine blk_drew ?_ | refine blk_alloc ?_ _)); refine blk_put (cs := #[.slice Ao110 t198.length co110, .bool a0_1]) ?_ 1 _ rfl; (with_reducible repeat (first | refine blk_drewN ?_ _ | refine blk_drew ?_ | refine blk_alloc ?_ _)); refine blk_put (cs := #[.slice A0_0 l0_0.length c0_0, .bool a0_1]) ?_ 0 _ rfl; (with_reducible repeat (first | refine blk_drewN ?_ _ | refine blk_drew ?_ | refine blk_alloc ?_ _)); exact BK197.out) hb); have n3_ := Aside0.mk (below_step (by repeat (first | (with_reducible first | exact HB.out | apply below_alloc | apply pw_below_drewN | apply below_drew1 | refine below_set ?_ GE197.out) | exact HB.out)) hb); clear HO200; clear BK197; clear HB; have HO200 := n0_; have HO204 := n1_; have BK197 := n2_; have HB := n3_; clear n0_ n1_ n2_ n3_; (try clear hb); (try clear hb2); (try clear hk); (try clear hi); (try clear ho0)) | ((with_reducible refine gate_callee (f := 19) rfl ?_); refine goesL_ (some 23) rfl rfl Tryd.func19 (by kernel_rfl) rfl #[] rfl (by (try simp only [List.map_toArray, List.map_cons, List.map_nil]); first | done | rfl | (simp only [List.length_drop, List.length_take]; rfl)) ?_; (with_reducible refine (clerestorykeep1_domBegun.calls k  true _ A105.out).mono ?_); rintro e w113 ⟨rfl, hb⟩; refine ⟨_, rfl, ?_⟩; have n0_ := Aside0.mk (Kd.V_below (by (with_reducible repeat (first | apply Kd.V_alloc | apply Kd.V_drewN | apply Kd.V_drew)); exact HO200.out) hb); have n1_ := Aside0.mk (Kd.R_below (by (with_reducible repeat (first | apply Kd.R_alloc | apply Kd.R_drewN | apply Kd.R_drew)); exact HO204.out) hb); have n2_ := Aside0.mk (blk_below (g := gb197) (o := .cells #[.slice Ao110 t198.length co110, .bool t201] 24 (0, 0)) (by (with_reducible repeat (first | refine blk_drewN ?_ _ | refine blk_drew ?_ | refine blk_alloc ?_ _)); exact BK197.out) hb); have n3_ := Aside0.mk (below_step (by repeat (first | (with_reducible first | exact HB.out | apply below_alloc | apply pw_below_drewN | apply below_drew1 | refine below_set ?_ GE197.out) | exact HB.out)) hb); clear HO200; clear HO204; clear BK197; clear HB; have HO200 := n0_; have HO204 := n1_; have BK197 := n2_; have HB := n3_; clear n0_ n1_ n2_ n3_; (try clear hb); (try clear hb2); (try clear hk); (try clear hi); obtain ⟨Ao114, co114, eo114⟩ := Kd.R_slice HO204.out; subst eo114))
      go_ret
      exact ⟨by first | rfl | (simp [errW_none, errW_some] <;> rfl) | (simp [*, errW_none, errW_some] <;> rfl), by repeat (first | (with_reducible first | exact HB.out | apply below_alloc | apply pw_below_drewN | apply below_drew1 | refine below_set ?_ GE197.out) | exact HB.out)⟩
    · replace c106 := Bool.eq_false_iff.mpr c106
      subst c106
      have H1 : (some false) = some r := by rw [if_neg (show ¬ (false = true) by decide)] at H; exact H
      clear H
      have H := H1
      clear H1
      obtain rfl := Option.some.inj H
      go_enter Tryd.func7, Tryd.ntmps7
      go_wp2_with (first | ((with_reducible refine gate_dst (N := 2) rfl ?_); (try (refine gate_guard (by rfl) ?_; dsimp only)); refine box_event ?hg (N := 2) ?hd (cs := #[.slice A0_0 l0_0.length c0_0, .bool a0_1]) (t := 24) ?hr ?_; (case hd => rfl); (case hg => rfl); (case hr => first | (go_simp; done) | (go_simp; rfl)); intro gb197 hg w115 hbox hb; have n0_ := Aside0.mk (below_step (by repeat (first | (with_reducible first | exact HB.out | apply below_alloc | apply pw_below_drewN | apply below_drew1) | exact HB.out)) hb); have n1_ := Aside0.mk (hbox); have n2_ := Aside0.mk ((by rw [hg]; exact (below_size (by repeat (first | (with_reducible first | exact HB.out | apply below_alloc | apply pw_below_drewN | apply below_drew1) | exact HB.out))) : w.heap.size ≤ gb197)); have n3_ := Aside0.mk ((by rw [hg]; exact (below_size (by repeat (first | (with_reducible first | exact HB.out | apply below_alloc | apply pw_below_drewN | apply below_drew1) | exact HB.out))) : w.heap.size ≤ gb197)); clear HB; have HB := n0_; have BK197 := n1_; have GW197 := n2_; have GE197 := n3_; clear n0_ n1_ n2_ n3_; clear hb hbox hg; have hcz116_0 : w115.cell? ⟨gb197, 0, none⟩ = some (.slice A0_0 l0_0.length c0_0) := (blk_cell BK197.out 0).trans rfl; have hcz116_1 : w115.cell? ⟨gb197, 1, none⟩ = some (.bool a0_1) := (blk_cell BK197.out 1).trans rfl; have hfz116_0 := blk_frozen BK197.out 0; have hfz116_1 := blk_frozen BK197.out 1) | ((with_reducible refine gate_callee (f := 9) rfl ?_); refine goesL_ (some 15) rfl rfl Tryd.func9 (by kernel_rfl) rfl #[.agg #[.slice A0_0 l0_0.length c0_0, .bool a0_1], .int .i64 60] rfl (by (try simp only [List.map_toArray, List.map_cons, List.map_nil]); first | done | rfl | (simp only [List.length_drop, List.length_take]; rfl)) ?_; (with_reducible refine (clerestorykeep1_few.calls (fun k_ => k_ < w.heap.size) _ _ l0_0 a0_1 60 t198 t201 _ ?side1 A3.out).mono ?_); (case side1 => exact Kd.V_mk HC0_0.out (Kd.F_below (Kd.C_F k35_heap HR0_0.out) (by repeat (first | (with_reducible first | exact HB.out | apply below_alloc | apply pw_below_drewN | apply below_drew1 | refine below_set ?_ GE197.out) | exact HB.out)))); rintro e w117 ⟨v199, rfl, ho0, hb⟩; refine ⟨_, rfl, ?_⟩; have n0_ := Aside0.mk (Kd.V_lower (Kd.V_mono (ok' := fun k_ => k_ ≠ gb197) ho0 (fun k_ hk_ => Or.elim hk_ (fun hs_ => fun e_ => Nat.not_le.2 hs_ (by rw [e_]; exact GW197.out)) (fun hn_ => (Kd.freshB (g := gb197) (o := .cells #[.slice A0_0 l0_0.length c0_0, .bool a0_1] 24 (0, 0)) (by (with_reducible repeat (first | refine blk_drewN ?_ _ | refine blk_drew ?_ | refine blk_alloc ?_ _)); exact BK197.out) k_ hn_)))) (below_size (by repeat (first | (with_reducible first | exact HB.out | apply below_alloc | apply pw_below_drewN | apply below_drew1 | refine below_set ?_ GE197.out) | exact HB.out)))); have n1_ := Aside0.mk (blk_below (g := gb197) (o := .cells #[.slice A0_0 l0_0.length c0_0, .bool a0_1] 24 (0, 0)) (by (with_reducible repeat (first | refine blk_drewN ?_ _ | refine blk_drew ?_ | refine blk_alloc ?_ _)); exact BK197.out) hb); have n2_ := Aside0.mk (below_step (by repeat (first | (with_reducible first | exact HB.out | apply below_alloc | apply pw_below_drewN | apply below_drew1 | refine below_set ?_ GE197.out) | exact HB.out)) hb); clear BK197; clear HB; have HO200 := n0_; have BK197 := n1_; have HB := n2_; clear n0_ n1_ n2_; (try clear hb); (try clear hb2); (try clear hk); (try clear hi); (try clear ho0); obtain ⟨Ao118, co118, eo118⟩ := Kd.V_slice HO200.out; subst eo118; have hcz119_0 : w117.cell? ⟨gb197, 0, none⟩ = some (.slice A0_0 l0_0.length c0_0) := (blk_cell BK197.out 0).trans rfl; have hcz119_1 : w117.cell? ⟨gb197, 1, none⟩ = some (.bool a0_1) := (blk_cell BK197.out 1).trans rfl; have hfz119_0 := blk_frozen BK197.out 0; have hfz119_1 := blk_frozen BK197.out 1) | ((with_reducible refine gate_callee (f := 14) rfl ?_); refine goesL_ (some 18) rfl rfl Tryd.func14 (by kernel_rfl) rfl #[.agg #[.slice Ao118 t198.length co118, .bool t201]] rfl (by (try simp only [List.map_toArray, List.map_cons, List.map_nil]); first | done | rfl | (simp only [List.length_drop, List.length_take]; rfl)) ?_; (with_reducible refine (dom_Order.calls k _ _ t198 t201 t202 t205 _ ?side1 ?side2 A4.out).mono ?_); (case side1 => refine (Kd.V_reads' (e := 35) (base := w.heap.size) (ok := fun k_ => k_ ≠ gb197) (n := t198.length) (c := co118) ?_).2.2; exact (by (with_reducible repeat (first | apply Kd.V_alloc | apply Kd.V_drewN | apply Kd.V_drew)); exact (Kd.V_mono (Kd.V_far (p := ⟨gb197, 1, none⟩) (Kd.V_far (p := ⟨gb197, 0, none⟩) (Kd.V_mono HO200.out (fun k_ hk => (⟨hk, hk⟩ : _ ∧ k_ ≠ gb197))) (fun _ hk => hk.2) (.slice Ao118 t198.length co118)) (fun _ hk => hk.2) (.bool t201)) (fun _ h_ => h_.1)))); (case side2 => exact (Kd.V_reads' HO200.out).2.1); rintro e w120 ⟨v203, rfl, ho0, hb⟩; refine ⟨_, rfl, ?_⟩; have n0_ := Aside0.mk (Kd.V_elder' (by (with_reducible repeat (first | apply Kd.V_alloc | apply Kd.V_drewN | apply Kd.V_drew)); exact (Kd.V_mono (Kd.V_far (p := ⟨gb197, 1, none⟩) (Kd.V_far (p := ⟨gb197, 0, none⟩) (Kd.V_mono HO200.out (fun k_ hk => (⟨hk, hk⟩ : _ ∧ k_ ≠ gb197))) (fun _ hk => hk.2) (.slice Ao118 t198.length co118)) (fun _ hk => hk.2) (.bool t201)) (fun _ h_ => h_.1))) (Kd.R_base ho0) hb); have n1_ := Aside0.mk (Kd.R_lower ho0 (below_size (by repeat (first | (with_reducible first | exact HB.out | apply below_alloc | apply pw_below_drewN | apply below_drew1 | refine below_set ?_ GE197.out) | exact HB.out)))); have n2_ := Aside0.mk (blk_below (g := gb197) (o := .cells #[.slice Ao118 t198.length co118, .bool t201] 24 (0, 0)) (by (with_reducible repeat (first | refine blk_drewN ?_ _ | refine blk_drew ?_ | refine blk_alloc ?_ _)); refine blk_put (cs := #[.slice Ao118 t198.length co118, .bool a0_1]) ?_ 1 _ rfl; (with_reducible repeat (first | refine blk_drewN ?_ _ | refine blk_drew ?_ | refine blk_alloc ?_ _)); refine blk_put (cs := #[.slice A0_0 l0_0.length c0_0, .bool a0_1]) ?_ 0 _ rfl; (with_reducible repeat (first | refine blk_drewN ?_ _ | refine blk_drew ?_ | refine blk_alloc ?_ _)); exact BK197.out) hb); have n3_ := Aside0.mk (below_step (by repeat (first | (with_reducible first | exact HB.out | apply below_alloc | apply pw_below_drewN | apply below_drew1 | refine below_set ?_ GE197.out) | exact HB.out)) hb); clear HO200; clear BK197; clear HB; have HO200 := n0_; have HO204 := n1_; have BK197 := n2_; have HB := n3_; clear n0_ n1_ n2_ n3_; (try clear hb); (try clear hb2); (try clear hk); (try clear hi); (try clear ho0)) | ((with_reducible refine gate_callee (f := 19) rfl ?_); refine goesL_ (some 23) rfl rfl Tryd.func19 (by kernel_rfl) rfl #[] rfl (by (try simp only [List.map_toArray, List.map_cons, List.map_nil]); first | done | rfl | (simp only [List.length_drop, List.length_take]; rfl)) ?_; (with_reducible refine (clerestorykeep1_domBegun.calls k  false _ A105.out).mono ?_); rintro e w121 ⟨rfl, hb⟩; refine ⟨_, rfl, ?_⟩; have n0_ := Aside0.mk (Kd.V_below (by (with_reducible repeat (first | apply Kd.V_alloc | apply Kd.V_drewN | apply Kd.V_drew)); exact HO200.out) hb); have n1_ := Aside0.mk (Kd.R_below (by (with_reducible repeat (first | apply Kd.R_alloc | apply Kd.R_drewN | apply Kd.R_drew)); exact HO204.out) hb); have n2_ := Aside0.mk (blk_below (g := gb197) (o := .cells #[.slice Ao118 t198.length co118, .bool t201] 24 (0, 0)) (by (with_reducible repeat (first | refine blk_drewN ?_ _ | refine blk_drew ?_ | refine blk_alloc ?_ _)); exact BK197.out) hb); have n3_ := Aside0.mk (below_step (by repeat (first | (with_reducible first | exact HB.out | apply below_alloc | apply pw_below_drewN | apply below_drew1 | refine below_set ?_ GE197.out) | exact HB.out)) hb); clear HO200; clear HO204; clear BK197; clear HB; have HO200 := n0_; have HO204 := n1_; have BK197 := n2_; have HB := n3_; clear n0_ n1_ n2_ n3_; (try clear hb); (try clear hb2); (try clear hk); (try clear hi)))
      go_ret
      exact ⟨by first | rfl | (simp [errW_none, errW_some] <;> rfl) | (simp [*, errW_none, errW_some] <;> rfl), by repeat (first | (with_reducible first | exact HB.out | apply below_alloc | apply pw_below_drewN | apply below_drew1 | refine below_set ?_ GE197.out) | exact HB.out)⟩

end Go.Proofs.YtaojbobbjnibhaaDoor.PDO
