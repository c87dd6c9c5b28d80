-- printed by wip/tools/pr.py (own) through the kit's printer; texts GIVEN by hand stand among them
import Derived.Test.YtaojbobbjnibhaaDoorPCMx0
import Derived.Test.YtaojbobbjnibhaaDoorPCMx6
namespace Go.Proofs.YtaojbobbjnibhaaDoor.PCM
open Go.RowKit Go.Proofs.YtaojbobbjnibhaaDoorW.PrintWords Go.Proofs.YtaojbobbjnibhaaDoorW.PrintLast Go.Proofs.YtaojbobbjnibhaaDoorW.PrintMore
attribute [local go_sem] max2_int min2_int max_two min_two max_three min_three max_four min_four   -- for this text's walks alone
set_option linter.unusedVariables false
set_option linter.unusedSimpArgs false

/-! ### walk_walker_beside: function 70 -/
def walk_walker_beside.f (k : Nat) (s0_0 : List (S35)) (s0_1 : Bool) (a1 : Int) (a2 : Int) : Option (Int × Bool) := if 0 ≤ a1 then (if a1 < (s0_0.length : Int) then (if ((rd_T35 s0_0 a1).f4) < 0 then (some ((-1), s0_1)) else (if 0 ≤ ((rd_T35 s0_0 a1).f4) then (if ((rd_T35 s0_0 a1).f4) < (s0_0.length : Int) then ((slices_Index_int_int.f k ((rd_T35 s0_0 ((rd_T35 s0_0 a1).f4)).f5) a1).bind fun t169 => (if (wrap64 (t169 + a2)) < 0 then (some ((-1), s0_1)) else (if (wrap64 (t169 + a2)) ≥ (((rd_T35 s0_0 ((rd_T35 s0_0 a1).f4)).f5).length : Int) then (some ((-1), s0_1)) else (if 0 ≤ (wrap64 (t169 + a2)) then (if (wrap64 (t169 + a2)) < (((rd_T35 s0_0 ((rd_T35 s0_0 a1).f4)).f5).length : Int) then (some (rd ((rd_T35 s0_0 ((rd_T35 s0_0 a1).f4)).f5) (wrap64 (t169 + a2)), s0_1)) else (none)) else (none))))) else (none)) else (none))) else (none)) else (none)
theorem walk_walker_beside.mono : ∀ a0 a1 a2 a3 k, LeO (walk_walker_beside.f k a0 a1 a2 a3) (walk_walker_beside.f (k + 1) a0 a1 a2 a3) := by
  intro a0 a1 a2 a3 k
  unfold walk_walker_beside.f
  repeat' first
      | (with_reducible exact slices_Index_int_int.mono _ _ _)
      | (with_reducible exact LeO.refl _)
      | (with_reducible exact LeO.none _)
      | (with_reducible refine LeO.ite ?_ ?_)
      | (with_reducible refine LeO.bind ?_ (fun _ => ?_))
      | exact slices_Index_int_int.mono _ _ _
      | exact LeO.none _
      | refine LeO.ite ?_ ?_
      | refine LeO.bind ?_ (fun _ => ?_)
set_option maxHeartbeats 8000000 in
set_option maxRecDepth 100000 in
theorem walk_walker_beside.calls (k : Nat) (g : Nat) (s0_0 : List (S35)) (s0_1 : Bool) (a1 : Int) (a2 : Int) (r1 : Int) (r2 : Bool) (w0 w : World) (hI : IsS98 w0 w g s0_0 s0_1) (hB : Below w0.heap.size w0 w) (h : walk_walker_beside.f k s0_0 s0_1 a1 a2 = some (r1, r2)) :
    Calls Tryd.prog 70 #[.pointer (some ⟨g, 0, none⟩), .int .i64 a1, .int .i64 a2] w fun e w' => e = .returned (.int .i64 r1) ∧ IsS98 w0 w' g s0_0 r2 ∧ Below w0.heap.size w0 w' ∧ KeepBut w w' g none := by
  have HI0 := Aside0.mk hI
  have HK := Aside0.mk (KeepBut.refl w g none)
  have HL := Aside0.mk hB.size
  clear hI
  have HW0 := Aside0.mk hB.size
  have HB := Aside0.mk hB
  clear hB
  have H : (if 0 ≤ a1 then (if a1 < (s0_0.length : Int) then (if ((rd_T35 s0_0 a1).f4) < 0 then (some ((-1), s0_1)) else (if 0 ≤ ((rd_T35 s0_0 a1).f4) then (if ((rd_T35 s0_0 a1).f4) < (s0_0.length : Int) then ((slices_Index_int_int.f k ((rd_T35 s0_0 ((rd_T35 s0_0 a1).f4)).f5) a1).bind fun t169 => (if (wrap64 (t169 + a2)) < 0 then (some ((-1), s0_1)) else (if (wrap64 (t169 + a2)) ≥ (((rd_T35 s0_0 ((rd_T35 s0_0 a1).f4)).f5).length : Int) then (some ((-1), s0_1)) else (if 0 ≤ (wrap64 (t169 + a2)) then (if (wrap64 (t169 + a2)) < (((rd_T35 s0_0 ((rd_T35 s0_0 a1).f4)).f5).length : Int) then (some (rd ((rd_T35 s0_0 ((rd_T35 s0_0 a1).f4)).f5) (wrap64 (t169 + a2)), s0_1)) else (none)) else (none))))) else (none)) else (none))) else (none)) else (none)) = some (r1, r2) := h
  clear h
  by_cases c4 : 0 ≤ a1
  · rw [if_pos c4] at H
    have c4b0 : decide (0 ≤ a1) = true := decide_eq_true c4
    clear c4
    by_cases c5 : a1 < (s0_0.length : Int)
    · rw [if_pos c5] at H
      have c5b0 : decide (a1 < (s0_0.length : Int)) = true := decide_eq_true c5
      clear c5
      by_cases c6 : ((rd_T35 s0_0 a1).f4) < 0
      · rw [if_pos c6] at H
        have c6b0 : decide (((rd_T35 s0_0 a1).f4) < 0) = true := decide_eq_true c6
        clear c6
        simp only [Option.some.injEq, Prod.mk.injEq] at H
        obtain ⟨rfl, rfl⟩ := H
        obtain ⟨ASz7_0, cSz7_0, HGz7, hgz7, HSz7_0⟩ := HI0.out
        have hcz7_0 := cellS98_0 HGz7
        have hcz7_1 := cellS98_1 HGz7
        have hfz7_1 := blk_frozen HGz7 1
        clear HGz7 hgz7
        have p167 : 0 ≤ (a1 : Int) := of_decide_eq_true (by first | (with_reducible assumption) | assumption)
        have q167 : a1 < (s0_0.length : Int) := of_decide_eq_true (by first | (with_reducible assumption) | assumption)
        obtain ⟨ad167, A167_2, c167_2, A167_5, c167_5, e167, hx167_0, hx167_1, hx167_2, hx167_3, hx167_4, hx167_5, hl167_2, hi167_2, hl167_5, hi167_5⟩ := at_T35 HSz7_0 a1 p167 q167
        cases e167
        replace hx167_0 := pw_cell_below HB.out hx167_0
        replace hx167_1 := pw_cell_below HB.out hx167_1
        replace hx167_2 := pw_cell_below HB.out hx167_2
        replace hx167_3 := pw_cell_below HB.out hx167_3
        replace hx167_4 := pw_cell_below HB.out hx167_4
        replace hx167_5 := pw_cell_below HB.out hx167_5
        have HR167_2 := Aside0.mk hi167_2
        have HC167_2 := Aside0.mk hl167_2
        clear hi167_2 hl167_2
        have HR167_5 := Aside0.mk hi167_5
        have HC167_5 := Aside0.mk hl167_5
        clear hi167_5 hl167_5
        replace p167 := eq_true p167
        replace q167 := eq_true q167
        go_enter Tryd.func70, Tryd.ntmps70
        go_wp2
        go_ret
        exact ⟨by first | rfl | (simp [errW_none, errW_some] <;> rfl) | (simp [*, errW_none, errW_some] <;> rfl), by repeat (first | (with_reducible first | exact HI0.out | apply IsS98.alloc | apply IsS98.drewN | apply IsS98.drew | apply IsS98.set_1) | exact HI0.out), by repeat (first | (with_reducible first | exact HB.out | apply below_alloc | apply pw_below_drewN | apply below_drew1 | refine below_set ?_ (IsS98.ge HI0.out)) | exact HB.out), by repeat (first | (with_reducible first | exact HK.out | apply KeepBut.set_ | apply keep_drewN | apply keep_drew | apply keep_alloc) | exact HK.out)⟩
      · rw [if_neg c6] at H
        have c6b0 : decide (((rd_T35 s0_0 a1).f4) < 0) = false := decide_eq_false c6
        clear c6
        by_cases c8 : 0 ≤ ((rd_T35 s0_0 a1).f4)
        · rw [if_pos c8] at H
          have c8b0 : decide (0 ≤ ((rd_T35 s0_0 a1).f4)) = true := decide_eq_true c8
          clear c8
          by_cases c9 : ((rd_T35 s0_0 a1).f4) < (s0_0.length : Int)
          · rw [if_pos c9] at H
            have c9b0 : decide (((rd_T35 s0_0 a1).f4) < (s0_0.length : Int)) = true := decide_eq_true c9
            clear c9
            replace H := Option.bind_eq_some_iff.mp H
            obtain ⟨t169, A100, H⟩ := H
            replace H : (if (wrap64 (t169 + a2)) < 0 then (some ((-1), s0_1)) else (if (wrap64 (t169 + a2)) ≥ (((rd_T35 s0_0 ((rd_T35 s0_0 a1).f4)).f5).length : Int) then (some ((-1), s0_1)) else (if 0 ≤ (wrap64 (t169 + a2)) then (if (wrap64 (t169 + a2)) < (((rd_T35 s0_0 ((rd_T35 s0_0 a1).f4)).f5).length : Int) then (some (rd ((rd_T35 s0_0 ((rd_T35 s0_0 a1).f4)).f5) (wrap64 (t169 + a2)), s0_1)) else (none)) else (none)))) = some (r1, r2) := H
            have A10 := Aside0.mk A100
            clear A100
            by_cases c11 : (wrap64 (t169 + a2)) < 0
            · rw [if_pos c11] at H
              have c11b0 : decide ((wrap64 (t169 + a2)) < 0) = true := decide_eq_true c11
              clear c11
              simp only [Option.some.injEq, Prod.mk.injEq] at H
              obtain ⟨rfl, rfl⟩ := H
              obtain ⟨ASz12_0, cSz12_0, HGz12, hgz12, HSz12_0⟩ := HI0.out
              have hcz12_0 := cellS98_0 HGz12
              have hcz12_1 := cellS98_1 HGz12
              have hfz12_1 := blk_frozen HGz12 1
              clear HGz12 hgz12
              have p167 : 0 ≤ (a1 : Int) := of_decide_eq_true (by first | (with_reducible assumption) | assumption)
              have q167 : a1 < (s0_0.length : Int) := of_decide_eq_true (by first | (with_reducible assumption) | assumption)
              obtain ⟨ad167, A167_2, c167_2, A167_5, c167_5, e167, hx167_0, hx167_1, hx167_2, hx167_3, hx167_4, hx167_5, hl167_2, hi167_2, hl167_5, hi167_5⟩ := at_T35 HSz12_0 a1 p167 q167
              cases e167
              replace hx167_0 := pw_cell_below HB.out hx167_0
              replace hx167_1 := pw_cell_below HB.out hx167_1
              replace hx167_2 := pw_cell_below HB.out hx167_2
              replace hx167_3 := pw_cell_below HB.out hx167_3
              replace hx167_4 := pw_cell_below HB.out hx167_4
              replace hx167_5 := pw_cell_below HB.out hx167_5
              have HR167_2 := Aside0.mk hi167_2
              have HC167_2 := Aside0.mk hl167_2
              clear hi167_2 hl167_2
              have HR167_5 := Aside0.mk hi167_5
              have HC167_5 := Aside0.mk hl167_5
              clear hi167_5 hl167_5
              replace p167 := eq_true p167
              replace q167 := eq_true q167
              have p168 : 0 ≤ (((rd_T35 s0_0 a1).f4) : Int) := of_decide_eq_true (by first | (with_reducible assumption) | assumption)
              have q168 : ((rd_T35 s0_0 a1).f4) < (s0_0.length : Int) := of_decide_eq_true (by first | (with_reducible assumption) | assumption)
              obtain ⟨ad168, A168_2, c168_2, A168_5, c168_5, e168, hx168_0, hx168_1, hx168_2, hx168_3, hx168_4, hx168_5, hl168_2, hi168_2, hl168_5, hi168_5⟩ := at_T35 HSz12_0 ((rd_T35 s0_0 a1).f4) p168 q168
              obtain rfl : ad167 = ad168 := (by injection e168)
              replace hx168_0 := pw_cell_below HB.out hx168_0
              replace hx168_1 := pw_cell_below HB.out hx168_1
              replace hx168_2 := pw_cell_below HB.out hx168_2
              replace hx168_3 := pw_cell_below HB.out hx168_3
              replace hx168_4 := pw_cell_below HB.out hx168_4
              replace hx168_5 := pw_cell_below HB.out hx168_5
              have HR168_2 := Aside0.mk hi168_2
              have HC168_2 := Aside0.mk hl168_2
              clear hi168_2 hl168_2
              have HR168_5 := Aside0.mk hi168_5
              have HC168_5 := Aside0.mk hl168_5
              clear hi168_5 hl168_5
              replace p168 := eq_true p168
              replace q168 := eq_true q168
              go_enter Tryd.func70, Tryd.ntmps70
              go_wp2_with (first | ((with_reducible refine gate_callee (f := 50) rfl ?_); refine goesL_ (some 32) rfl rfl Tryd.func50 (by kernel_rfl) rfl #[.slice A168_5 ((rd_T35 s0_0 ((rd_T35 s0_0 a1).f4)).f5).length c168_5, .int .i64 a1] rfl (by (try simp only [List.map_toArray, List.map_cons, List.map_nil]); first | done | rfl | (simp only [List.length_drop, List.length_take]; rfl)) ?_; (with_reducible refine (slices_Index_int_int.calls k _ _ ((rd_T35 s0_0 ((rd_T35 s0_0 a1).f4)).f5) a1 t169 _ ?side1 ?side2 A10.out).mono ?_); (case side1 => (first | exact Kd.C_keep 0 HR168_5.out (by repeat (first | (with_reducible first | exact HK.out | apply KeepBut.set_ | apply keep_drewN | apply keep_drew | apply keep_alloc) | exact HK.out)) hf168_5 | exact Kd.C_below HR168_5.out (by repeat (first | (with_reducible first | exact HB.out | apply below_alloc | apply pw_below_drewN | apply below_drew1 | refine below_set ?_ (IsS98.ge HI0.out)) | exact HB.out)))); (case side2 => exact HC168_5.out); rintro e w' ⟨rfl, ⟨nd, rfl⟩⟩; refine ⟨_, rfl, ?_⟩))
              go_ret
              exact ⟨by first | rfl | (simp [errW_none, errW_some] <;> rfl) | (simp [*, errW_none, errW_some] <;> rfl), by repeat (first | (with_reducible first | exact HI0.out | apply IsS98.alloc | apply IsS98.drewN | apply IsS98.drew | apply IsS98.set_1) | exact HI0.out), by repeat (first | (with_reducible first | exact HB.out | apply below_alloc | apply pw_below_drewN | apply below_drew1 | refine below_set ?_ (IsS98.ge HI0.out)) | exact HB.out), by repeat (first | (with_reducible first | exact HK.out | apply KeepBut.set_ | apply keep_drewN | apply keep_drew | apply keep_alloc) | exact HK.out)⟩
            · rw [if_neg c11] at H
              have c11b0 : decide ((wrap64 (t169 + a2)) < 0) = false := decide_eq_false c11
              clear c11
              by_cases c13 : (wrap64 (t169 + a2)) ≥ (((rd_T35 s0_0 ((rd_T35 s0_0 a1).f4)).f5).length : Int)
              · rw [if_pos c13] at H
                have c13b0 : decide ((((rd_T35 s0_0 ((rd_T35 s0_0 a1).f4)).f5).length : Int) ≤ (wrap64 (t169 + a2))) = true := decide_eq_true c13
                clear c13
                simp only [Option.some.injEq, Prod.mk.injEq] at H
                obtain ⟨rfl, rfl⟩ := H
                obtain ⟨ASz14_0, cSz14_0, HGz14, hgz14, HSz14_0⟩ := HI0.out
                have hcz14_0 := cellS98_0 HGz14
                have hcz14_1 := cellS98_1 HGz14
                have hfz14_1 := blk_frozen HGz14 1
                clear HGz14 hgz14
                have p167 : 0 ≤ (a1 : Int) := of_decide_eq_true (by first | (with_reducible assumption) | assumption)
                have q167 : a1 < (s0_0.length : Int) := of_decide_eq_true (by first | (with_reducible assumption) | assumption)
                obtain ⟨ad167, A167_2, c167_2, A167_5, c167_5, e167, hx167_0, hx167_1, hx167_2, hx167_3, hx167_4, hx167_5, hl167_2, hi167_2, hl167_5, hi167_5⟩ := at_T35 HSz14_0 a1 p167 q167
                cases e167
                replace hx167_0 := pw_cell_below HB.out hx167_0
                replace hx167_1 := pw_cell_below HB.out hx167_1
                replace hx167_2 := pw_cell_below HB.out hx167_2
                replace hx167_3 := pw_cell_below HB.out hx167_3
                replace hx167_4 := pw_cell_below HB.out hx167_4
                replace hx167_5 := pw_cell_below HB.out hx167_5
                have HR167_2 := Aside0.mk hi167_2
                have HC167_2 := Aside0.mk hl167_2
                clear hi167_2 hl167_2
                have HR167_5 := Aside0.mk hi167_5
                have HC167_5 := Aside0.mk hl167_5
                clear hi167_5 hl167_5
                replace p167 := eq_true p167
                replace q167 := eq_true q167
                have p168 : 0 ≤ (((rd_T35 s0_0 a1).f4) : Int) := of_decide_eq_true (by first | (with_reducible assumption) | assumption)
                have q168 : ((rd_T35 s0_0 a1).f4) < (s0_0.length : Int) := of_decide_eq_true (by first | (with_reducible assumption) | assumption)
                obtain ⟨ad168, A168_2, c168_2, A168_5, c168_5, e168, hx168_0, hx168_1, hx168_2, hx168_3, hx168_4, hx168_5, hl168_2, hi168_2, hl168_5, hi168_5⟩ := at_T35 HSz14_0 ((rd_T35 s0_0 a1).f4) p168 q168
                obtain rfl : ad167 = ad168 := (by injection e168)
                replace hx168_0 := pw_cell_below HB.out hx168_0
                replace hx168_1 := pw_cell_below HB.out hx168_1
                replace hx168_2 := pw_cell_below HB.out hx168_2
                replace hx168_3 := pw_cell_below HB.out hx168_3
                replace hx168_4 := pw_cell_below HB.out hx168_4
                replace hx168_5 := pw_cell_below HB.out hx168_5
                have HR168_2 := Aside0.mk hi168_2
                have HC168_2 := Aside0.mk hl168_2
                clear hi168_2 hl168_2
                have HR168_5 := Aside0.mk hi168_5
                have HC168_5 := Aside0.mk hl168_5
                clear hi168_5 hl168_5
                replace p168 := eq_true p168
                replace q168 := eq_true q168
                go_enter Tryd.func70, Tryd.ntmps70
                go_wp2_with (first | ((with_reducible refine gate_callee (f := 50) rfl ?_); refine goesL_ (some 32) rfl rfl Tryd.func50 (by kernel_rfl) rfl #[.slice A168_5 ((rd_T35 s0_0 ((rd_T35 s0_0 a1).f4)).f5).length c168_5, .int .i64 a1] rfl (by (try simp only [List.map_toArray, List.map_cons, List.map_nil]); first | done | rfl | (simp only [List.length_drop, List.length_take]; rfl)) ?_; (with_reducible refine (slices_Index_int_int.calls k _ _ ((rd_T35 s0_0 ((rd_T35 s0_0 a1).f4)).f5) a1 t169 _ ?side1 ?side2 A10.out).mono ?_); (case side1 => (first | exact Kd.C_keep 0 HR168_5.out (by repeat (first | (with_reducible first | exact HK.out | apply KeepBut.set_ | apply keep_drewN | apply keep_drew | apply keep_alloc) | exact HK.out)) hf168_5 | exact Kd.C_below HR168_5.out (by repeat (first | (with_reducible first | exact HB.out | apply below_alloc | apply pw_below_drewN | apply below_drew1 | refine below_set ?_ (IsS98.ge HI0.out)) | exact HB.out)))); (case side2 => exact HC168_5.out); rintro e w' ⟨rfl, ⟨nd, rfl⟩⟩; refine ⟨_, rfl, ?_⟩))
                go_ret
                exact ⟨by first | rfl | (simp [errW_none, errW_some] <;> rfl) | (simp [*, errW_none, errW_some] <;> rfl), by repeat (first | (with_reducible first | exact HI0.out | apply IsS98.alloc | apply IsS98.drewN | apply IsS98.drew | apply IsS98.set_1) | exact HI0.out), by repeat (first | (with_reducible first | exact HB.out | apply below_alloc | apply pw_below_drewN | apply below_drew1 | refine below_set ?_ (IsS98.ge HI0.out)) | exact HB.out), by repeat (first | (with_reducible first | exact HK.out | apply KeepBut.set_ | apply keep_drewN | apply keep_drew | apply keep_alloc) | exact HK.out)⟩
              · rw [if_neg c13] at H
                have c13b0 : decide ((((rd_T35 s0_0 ((rd_T35 s0_0 a1).f4)).f5).length : Int) ≤ (wrap64 (t169 + a2))) = false := decide_eq_false c13
                clear c13
                obtain ⟨ji15, hji15⟩ : ∃ j_ : Int, (wrap64 (t169 + a2)) = j_ := ⟨_, rfl⟩
                replace H : (if 0 ≤ (ji15) then (if (ji15) < (((rd_T35 s0_0 ((rd_T35 s0_0 a1).f4)).f5).length : Int) then (some (rd ((rd_T35 s0_0 ((rd_T35 s0_0 a1).f4)).f5) (ji15), s0_1)) else (none)) else (none)) = some (r1, r2) := by first | (rw [hji15] at H; exact H) | (simp only [hji15] at H ⊢; exact H)
                (try rw [hji15] at c11b0)
                (try rw [hji15] at c13b0)
                (try rw [hji15] at A10)
                have hji15w : (IntKind.i64.wrap (t169 + a2)) = ji15 := (i64_w _).trans hji15
                by_cases c16 : 0 ≤ (ji15)
                · rw [if_pos c16] at H
                  have c16b0 : decide (0 ≤ (ji15)) = true := decide_eq_true c16
                  clear c16
                  by_cases c17 : (ji15) < (((rd_T35 s0_0 ((rd_T35 s0_0 a1).f4)).f5).length : Int)
                  · rw [if_pos c17] at H
                    have c17b0 : decide ((ji15) < (((rd_T35 s0_0 ((rd_T35 s0_0 a1).f4)).f5).length : Int)) = true := decide_eq_true c17
                    clear c17
                    simp only [Option.some.injEq, Prod.mk.injEq] at H
                    obtain ⟨rfl, rfl⟩ := H
                    obtain ⟨ASz18_0, cSz18_0, HGz18, hgz18, HSz18_0⟩ := HI0.out
                    have hcz18_0 := cellS98_0 HGz18
                    have hcz18_1 := cellS98_1 HGz18
                    have hfz18_1 := blk_frozen HGz18 1
                    clear HGz18 hgz18
                    have p167 : 0 ≤ (a1 : Int) := of_decide_eq_true (by first | (with_reducible assumption) | assumption)
                    have q167 : a1 < (s0_0.length : Int) := of_decide_eq_true (by first | (with_reducible assumption) | assumption)
                    obtain ⟨ad167, A167_2, c167_2, A167_5, c167_5, e167, hx167_0, hx167_1, hx167_2, hx167_3, hx167_4, hx167_5, hl167_2, hi167_2, hl167_5, hi167_5⟩ := at_T35 HSz18_0 a1 p167 q167
                    cases e167
                    replace hx167_0 := pw_cell_below HB.out hx167_0
                    replace hx167_1 := pw_cell_below HB.out hx167_1
                    replace hx167_2 := pw_cell_below HB.out hx167_2
                    replace hx167_3 := pw_cell_below HB.out hx167_3
                    replace hx167_4 := pw_cell_below HB.out hx167_4
                    replace hx167_5 := pw_cell_below HB.out hx167_5
                    have HR167_2 := Aside0.mk hi167_2
                    have HC167_2 := Aside0.mk hl167_2
                    clear hi167_2 hl167_2
                    have HR167_5 := Aside0.mk hi167_5
                    have HC167_5 := Aside0.mk hl167_5
                    clear hi167_5 hl167_5
                    replace p167 := eq_true p167
                    replace q167 := eq_true q167
                    have p168 : 0 ≤ (((rd_T35 s0_0 a1).f4) : Int) := of_decide_eq_true (by first | (with_reducible assumption) | assumption)
                    have q168 : ((rd_T35 s0_0 a1).f4) < (s0_0.length : Int) := of_decide_eq_true (by first | (with_reducible assumption) | assumption)
                    obtain ⟨ad168, A168_2, c168_2, A168_5, c168_5, e168, hx168_0, hx168_1, hx168_2, hx168_3, hx168_4, hx168_5, hl168_2, hi168_2, hl168_5, hi168_5⟩ := at_T35 HSz18_0 ((rd_T35 s0_0 a1).f4) p168 q168
                    obtain rfl : ad167 = ad168 := (by injection e168)
                    replace hx168_0 := pw_cell_below HB.out hx168_0
                    replace hx168_1 := pw_cell_below HB.out hx168_1
                    replace hx168_2 := pw_cell_below HB.out hx168_2
                    replace hx168_3 := pw_cell_below HB.out hx168_3
                    replace hx168_4 := pw_cell_below HB.out hx168_4
                    replace hx168_5 := pw_cell_below HB.out hx168_5
                    have HR168_2 := Aside0.mk hi168_2
                    have HC168_2 := Aside0.mk hl168_2
                    clear hi168_2 hl168_2
                    have HR168_5 := Aside0.mk hi168_5
                    have HC168_5 := Aside0.mk hl168_5
                    clear hi168_5 hl168_5
                    replace p168 := eq_true p168
                    replace q168 := eq_true q168
                    go_enter Tryd.func70, Tryd.ntmps70
                    go_wp2_with (first | ((with_reducible refine gate_callee (f := 50) rfl ?_); refine goesL_ (some 32) rfl rfl Tryd.func50 (by kernel_rfl) rfl #[.slice A168_5 ((rd_T35 s0_0 ((rd_T35 s0_0 a1).f4)).f5).length c168_5, .int .i64 a1] rfl (by (try simp only [List.map_toArray, List.map_cons, List.map_nil]); first | done | rfl | (simp only [List.length_drop, List.length_take]; rfl)) ?_; (with_reducible refine (slices_Index_int_int.calls k _ _ ((rd_T35 s0_0 ((rd_T35 s0_0 a1).f4)).f5) a1 t169 _ ?side1 ?side2 A10.out).mono ?_); (case side1 => (first | exact Kd.C_keep 0 HR168_5.out (by repeat (first | (with_reducible first | exact HK.out | apply KeepBut.set_ | apply keep_drewN | apply keep_drew | apply keep_alloc) | exact HK.out)) hf168_5 | exact Kd.C_below HR168_5.out (by repeat (first | (with_reducible first | exact HB.out | apply below_alloc | apply pw_below_drewN | apply below_drew1 | refine below_set ?_ (IsS98.ge HI0.out)) | exact HB.out)))); (case side2 => exact HC168_5.out); rintro e w' ⟨rfl, ⟨nd, rfl⟩⟩; refine ⟨_, rfl, ?_⟩; have p170 : 0 ≤ ((ji15) : Int) := of_decide_eq_true (by first | (with_reducible assumption) | assumption); have q170 : (ji15) < (((rd_T35 s0_0 ((rd_T35 s0_0 a1).f4)).f5).length : Int) := of_decide_eq_true (by first | (with_reducible assumption) | assumption); obtain ⟨ad170, e170, hx170_0⟩ := Kd.at_int HR168_5.out (ji15) p170 q170; cases e170; (first | replace hx170_0 := pw_cell_below HB.out hx170_0 | replace hx170_0 := keep_cell HK.out hx170_0 (by first | (rw [add_block]; exact hf168_5 _ rfl (by omega)) | exact hf168_5 _ rfl (by omega) | exact hf168_5 ad170 rfl (by omega))); replace p170 := eq_true p170; replace q170 := eq_true q170))
                    go_ret
                    exact ⟨by first | rfl | (simp [errW_none, errW_some] <;> rfl) | (simp only [← hji15]; first | rfl | (simp [errW_none, errW_some] <;> rfl)) | (simp [*, errW_none, errW_some] <;> rfl), by repeat (first | (with_reducible first | exact HI0.out | apply IsS98.alloc | apply IsS98.drewN | apply IsS98.drew | apply IsS98.set_1) | exact HI0.out), by repeat (first | (with_reducible first | exact HB.out | apply below_alloc | apply pw_below_drewN | apply below_drew1 | refine below_set ?_ (IsS98.ge HI0.out)) | exact HB.out), by repeat (first | (with_reducible first | exact HK.out | apply KeepBut.set_ | apply keep_drewN | apply keep_drew | apply keep_alloc) | exact HK.out)⟩
                  · rw [if_neg c17] at H
                    exact absurd H (by simp)
                · rw [if_neg c16] at H
                  exact absurd H (by simp)
          · rw [if_neg c9] at H
            exact absurd H (by simp)
        · rw [if_neg c8] at H
          exact absurd H (by simp)
    · rw [if_neg c5] at H
      exact absurd H (by simp)
  · rw [if_neg c4] at H
    exact absurd H (by simp)

/-! ### walk_walker_over: function 68 -/
def walk_walker_over.l0 : Nat → Int → List (S35) → Bool → Option (Int × Bool)
  | 0, _, _, _ => none
  | k + 1, x1, x1000, x1001 => if x1 ≥ 0 then ((walk_walker_beside.f k x1000 x1001 x1 1).bind fun bt171 => (if bt171.1 ≥ 0 then (some (bt171.1, bt171.2)) else (if 0 ≤ x1 then (if x1 < (x1000.length : Int) then (walk_walker_over.l0 k ((rd_T35 x1000 x1).f4) x1000 bt171.2) else (none)) else (none)))) else (some ((-1), x1001))
def walk_walker_over.f (k : Nat) (s0_0 : List (S35)) (s0_1 : Bool) (a1 : Int) : Option (Int × Bool) := walk_walker_over.l0 k a1 s0_0 s0_1
theorem walk_walker_over.mono_l : ∀ k, (∀ y0 y1 y2, LeO (walk_walker_over.l0 k y0 y1 y2) (walk_walker_over.l0 (k + 1) y0 y1 y2))
  | 0 => fun _ _ _ r h => by simp [walk_walker_over.l0] at h
  | k + 1 => by
    have ih0 := walk_walker_over.mono_l k
    · intro y0 y1 y2
      unfold walk_walker_over.l0
      repeat' first
      | (with_reducible exact ih0 _ _ _)
      | (with_reducible exact walk_walker_beside.mono _ _ _ _ _)
      | (with_reducible exact LeO.refl _)
      | (with_reducible exact LeO.none _)
      | (with_reducible refine LeO.ite ?_ ?_)
      | (with_reducible refine LeO.bind ?_ (fun _ => ?_))
      | exact ih0 _ _ _
      | exact walk_walker_beside.mono _ _ _ _ _
      | exact LeO.none _
      | refine LeO.ite ?_ ?_
      | refine LeO.bind ?_ (fun _ => ?_)
theorem walk_walker_over.mono : ∀ a0 a1 a2 k, LeO (walk_walker_over.f k a0 a1 a2) (walk_walker_over.f (k + 1) a0 a1 a2) := by
  intro a0 a1 a2 k
  have ih0 := walk_walker_over.mono_l k
  unfold walk_walker_over.f
  repeat' first
      | (with_reducible exact ih0 _ _ _)
      | (with_reducible exact walk_walker_beside.mono _ _ _ _ _)
      | (with_reducible exact LeO.refl _)
      | (with_reducible exact LeO.none _)
      | (with_reducible refine LeO.ite ?_ ?_)
      | (with_reducible refine LeO.bind ?_ (fun _ => ?_))
      | exact ih0 _ _ _
      | exact walk_walker_beside.mono _ _ _ _ _
      | exact LeO.none _
      | refine LeO.ite ?_ ?_
      | refine LeO.bind ?_ (fun _ => ?_)
set_option maxHeartbeats 8000000 in
set_option maxRecDepth 100000 in
theorem walk_walker_over.calls (k : Nat) (g : Nat) (s0_0 : List (S35)) (s0_1 : Bool) (a1 : Int) (r1 : Int) (r2 : Bool) (w0 w : World) (hI : IsS98 w0 w g s0_0 s0_1) (hB : Below w0.heap.size w0 w) (h : walk_walker_over.f k s0_0 s0_1 a1 = some (r1, r2)) :
    Calls Tryd.prog 68 #[.pointer (some ⟨g, 0, none⟩), .int .i64 a1] w fun e w' => e = .returned (.int .i64 r1) ∧ IsS98 w0 w' g s0_0 r2 ∧ Below w0.heap.size w0 w' ∧ KeepBut w w' g none := by
  have HI0 := Aside0.mk hI
  have HK := Aside0.mk (KeepBut.refl w g none)
  have HL := Aside0.mk hB.size
  clear hI
  have HW0 := Aside0.mk hB.size
  have HB := Aside0.mk hB
  clear hB
  have H : (walk_walker_over.l0 k a1 s0_0 s0_1) = some (r1, r2) := h
  clear h
  have H' := Aside0.mk H
  clear H
  go_enter Tryd.func68, Tryd.ntmps68
  go_wp2
  go_loopg [1] k (fun kq v1 w' => ∃ (x1_1 : Int) (x1001_1 : Bool), v1 = .int .i64 x1_1 ∧ Aside0 (walk_walker_over.l0 kq x1_1 s0_0 x1001_1 = some (r1, r2)) ∧ Aside0 (kq ≤ k) ∧ Aside0 (IsS98 w0 w' g s0_0 x1001_1) ∧ Aside0 (KeepBut w w' g none) ∧ Aside0 (Below w0.heap.size w0 w'))
  case atStart => exact ⟨(a1), (s0_1), (by first | rfl | (simp; done) | (simp [*]; done)), H', ⟨Nat.le_refl _⟩, ⟨by repeat (first | (with_reducible first | exact HI0.out | apply IsS98.alloc | apply IsS98.drewN | apply IsS98.drew | apply IsS98.set_1) | exact HI0.out)⟩, ⟨by repeat (first | (with_reducible first | exact HK.out | apply KeepBut.set_ | apply keep_drewN | apply keep_drew | apply keep_alloc) | exact HK.out)⟩, ⟨by repeat (first | (with_reducible first | exact HB.out | apply below_alloc | apply pw_below_drewN | apply below_drew1 | refine below_set ?_ (IsS98.ge HI0.out)) | exact HB.out)⟩⟩
  case round =>
    clear H'
    try clear p2
    obtain ⟨x1_1, x1001_1, rfl, HA, HK1, HI0, HK, HB⟩ := hrel
    cases gk with
    | zero => exact absurd HA.out (by simp [walk_walker_over.l0])
    | succ k1 =>
      have H := HA.out
      clear HA
      simp only [walk_walker_over.l0] at H
      by_cases c3 : x1_1 ≥ 0
      · rw [if_pos c3] at H
        have c3b0 : decide (0 ≤ x1_1) = true := decide_eq_true c3
        clear c3
        replace H := Option.bind_eq_some_iff.mp H
        obtain ⟨⟨t171, t172⟩, A40, H⟩ := H
        replace H : (if t171 ≥ 0 then (some (t171, t172)) else (if 0 ≤ x1_1 then (if x1_1 < (s0_0.length : Int) then (walk_walker_over.l0 k1 ((rd_T35 s0_0 x1_1).f4) s0_0 t172) else (none)) else (none))) = some (r1, r2) := H
        have A4 := Aside0.mk A40
        clear A40
        by_cases c5 : t171 ≥ 0
        · rw [if_pos c5] at H
          have c5b0 : decide (0 ≤ t171) = true := decide_eq_true c5
          clear c5
          simp only [Option.some.injEq, Prod.mk.injEq] at H
          obtain ⟨rfl, rfl⟩ := H
          go_wp2_with (first | ((with_reducible refine gate_callee (f := 70) rfl ?_); refine goesL_ (some 19) rfl rfl Tryd.func70 (by kernel_rfl) rfl #[.pointer (some ⟨g, 0, none⟩), .int .i64 x1_1, .int .i64 1] rfl (by (try simp only [List.map_toArray, List.map_cons, List.map_nil]); first | done | rfl | (simp only [List.length_drop, List.length_take]; rfl)) ?_; (with_reducible refine (walk_walker_beside.calls k1 g s0_0 x1001_1 x1_1 1 t171 t172 w0 _ ?side1 ?side2 A4.out).mono ?_); (case side1 => repeat (first | (with_reducible first | exact HI0.out | apply IsS98.alloc | apply IsS98.drewN | apply IsS98.drew | apply IsS98.set_1) | exact HI0.out)); (case side2 => repeat (first | (with_reducible first | exact HB.out | apply below_alloc | apply pw_below_drewN | apply below_drew1 | refine below_set ?_ (IsS98.ge HI0.out)) | exact HB.out)); rintro e w6 ⟨rfl, hi, hb, hk⟩; refine ⟨_, rfl, ?_⟩; have n0_ := Aside0.mk (KeepBut.trans (by repeat (first | (with_reducible first | exact HK.out | apply KeepBut.set_ | apply keep_drewN | apply keep_drew | apply keep_alloc) | exact HK.out)) hk (.inl rfl)); have n1_ := Aside0.mk (hb); have n2_ := Aside0.mk (hi); clear HK; clear HB; clear HI0; have HK := n0_; have HB := n1_; have HI0 := n2_; clear n0_ n1_ n2_; (try clear hb); (try clear hb2); (try clear hk); (try clear hi)))
          go_ret
          exact ⟨by first | rfl | (simp [errW_none, errW_some] <;> rfl) | (simp [*, errW_none, errW_some] <;> rfl), by repeat (first | (with_reducible first | exact HI0.out | apply IsS98.alloc | apply IsS98.drewN | apply IsS98.drew | apply IsS98.set_1) | exact HI0.out), by repeat (first | (with_reducible first | exact HB.out | apply below_alloc | apply pw_below_drewN | apply below_drew1 | refine below_set ?_ (IsS98.ge HI0.out)) | exact HB.out), by repeat (first | (with_reducible first | exact HK.out | apply KeepBut.set_ | apply keep_drewN | apply keep_drew | apply keep_alloc) | exact HK.out)⟩
        · rw [if_neg c5] at H
          have c5b0 : decide (0 ≤ t171) = false := decide_eq_false c5
          clear c5
          by_cases c7 : 0 ≤ x1_1
          · rw [if_pos c7] at H
            have c7b0 : decide (0 ≤ x1_1) = true := decide_eq_true c7
            clear c7
            by_cases c8 : x1_1 < (s0_0.length : Int)
            · rw [if_pos c8] at H
              have c8b0 : decide (x1_1 < (s0_0.length : Int)) = true := decide_eq_true c8
              clear c8
              have H' := Aside0.mk H
              clear H
              go_wp2_with (first | ((with_reducible refine gate_callee (f := 70) rfl ?_); refine goesL_ (some 19) rfl rfl Tryd.func70 (by kernel_rfl) rfl #[.pointer (some ⟨g, 0, none⟩), .int .i64 x1_1, .int .i64 1] rfl (by (try simp only [List.map_toArray, List.map_cons, List.map_nil]); first | done | rfl | (simp only [List.length_drop, List.length_take]; rfl)) ?_; (with_reducible refine (walk_walker_beside.calls k1 g s0_0 x1001_1 x1_1 1 t171 t172 w0 _ ?side1 ?side2 A4.out).mono ?_); (case side1 => repeat (first | (with_reducible first | exact HI0.out | apply IsS98.alloc | apply IsS98.drewN | apply IsS98.drew | apply IsS98.set_1) | exact HI0.out)); (case side2 => repeat (first | (with_reducible first | exact HB.out | apply below_alloc | apply pw_below_drewN | apply below_drew1 | refine below_set ?_ (IsS98.ge HI0.out)) | exact HB.out)); rintro e w9 ⟨rfl, hi, hb, hk⟩; refine ⟨_, rfl, ?_⟩; have n0_ := Aside0.mk (KeepBut.trans (by repeat (first | (with_reducible first | exact HK.out | apply KeepBut.set_ | apply keep_drewN | apply keep_drew | apply keep_alloc) | exact HK.out)) hk (.inl rfl)); have n1_ := Aside0.mk (hb); have n2_ := Aside0.mk (hi); clear HK; clear HB; clear HI0; have HK := n0_; have HB := n1_; have HI0 := n2_; clear n0_ n1_ n2_; (try clear hb); (try clear hb2); (try clear hk); (try clear hi); obtain ⟨ASz10_0, cSz10_0, HGz10, hgz10, HSz10_0⟩ := HI0.out; have hcz10_0 := cellS98_0 HGz10; have hcz10_1 := cellS98_1 HGz10; have hfz10_1 := blk_frozen HGz10 1; clear HGz10 hgz10; have p173 : 0 ≤ (x1_1 : Int) := of_decide_eq_true (by first | (with_reducible assumption) | assumption); have q173 : x1_1 < (s0_0.length : Int) := of_decide_eq_true (by first | (with_reducible assumption) | assumption); obtain ⟨ad173, A173_2, c173_2, A173_5, c173_5, e173, hx173_0, hx173_1, hx173_2, hx173_3, hx173_4, hx173_5, hl173_2, hi173_2, hl173_5, hi173_5⟩ := at_T35 HSz10_0 x1_1 p173 q173; cases e173; replace hx173_0 := pw_cell_below HB.out hx173_0; replace hx173_1 := pw_cell_below HB.out hx173_1; replace hx173_2 := pw_cell_below HB.out hx173_2; replace hx173_3 := pw_cell_below HB.out hx173_3; replace hx173_4 := pw_cell_below HB.out hx173_4; replace hx173_5 := pw_cell_below HB.out hx173_5; have HR173_2 := Aside0.mk hi173_2; have HC173_2 := Aside0.mk hl173_2; clear hi173_2 hl173_2; have HR173_5 := Aside0.mk hi173_5; have HC173_5 := Aside0.mk hl173_5; clear hi173_5 hl173_5; replace p173 := eq_true p173; replace q173 := eq_true q173))
              go_roundg k1
              case measure => have := HK1.out; omega
              case rel => exact ⟨((rd_T35 s0_0 x1_1).f4), (t172), (by first | rfl | (simp; done) | (simp [*]; done)), H', ⟨by have := HK1.out; omega⟩, ⟨by repeat (first | (with_reducible first | exact HI0.out | apply IsS98.alloc | apply IsS98.drewN | apply IsS98.drew | apply IsS98.set_1) | exact HI0.out)⟩, ⟨by repeat (first | (with_reducible first | exact HK.out | apply KeepBut.set_ | apply keep_drewN | apply keep_drew | apply keep_alloc) | exact HK.out)⟩, ⟨by repeat (first | (with_reducible first | exact HB.out | apply below_alloc | apply pw_below_drewN | apply below_drew1 | refine below_set ?_ (IsS98.ge HI0.out)) | exact HB.out)⟩⟩
            · rw [if_neg c8] at H
              exact absurd H (by simp)
          · rw [if_neg c7] at H
            exact absurd H (by simp)
      · rw [if_neg c3] at H
        have c3b0 : decide (0 ≤ x1_1) = false := decide_eq_false c3
        clear c3
        simp only [Option.some.injEq, Prod.mk.injEq] at H
        obtain ⟨rfl, rfl⟩ := H
        go_wp2
        go_ret
        exact ⟨by first | rfl | (simp [errW_none, errW_some] <;> rfl) | (simp [*, errW_none, errW_some] <;> rfl), by repeat (first | (with_reducible first | exact HI0.out | apply IsS98.alloc | apply IsS98.drewN | apply IsS98.drew | apply IsS98.set_1) | exact HI0.out), by repeat (first | (with_reducible first | exact HB.out | apply below_alloc | apply pw_below_drewN | apply below_drew1 | refine below_set ?_ (IsS98.ge HI0.out)) | exact HB.out), by repeat (first | (with_reducible first | exact HK.out | apply KeepBut.set_ | apply keep_drewN | apply keep_drew | apply keep_alloc) | exact HK.out)⟩

/-! ### walk_walker_kid: function 69 -/
def walk_walker_kid.f (s0_0 : List (S35)) (s0_1 : Bool) (a1 : Int) (a2 : Bool) : Option (Int × Bool) := if 0 ≤ a1 then (if a1 < (s0_0.length : Int) then (if (((rd_T35 s0_0 a1).f5).length : Int) = 0 then (some ((-1), s0_1)) else (if a2 = true then (if 0 ≤ (wrap64 ((((rd_T35 s0_0 a1).f5).length : Int) - 1)) then (if (wrap64 ((((rd_T35 s0_0 a1).f5).length : Int) - 1)) < (((rd_T35 s0_0 a1).f5).length : Int) then (some (rd ((rd_T35 s0_0 a1).f5) (wrap64 ((((rd_T35 s0_0 a1).f5).length : Int) - 1)), s0_1)) else (none)) else (none)) else (if 0 < (((rd_T35 s0_0 a1).f5).length : Int) then (some (rd ((rd_T35 s0_0 a1).f5) 0, s0_1)) else (none)))) else (none)) else (none)
set_option maxHeartbeats 8000000 in
set_option maxRecDepth 100000 in
theorem walk_walker_kid.calls (g : Nat) (s0_0 : List (S35)) (s0_1 : Bool) (a1 : Int) (a2 : Bool) (r1 : Int) (r2 : Bool) (w0 w : World) (hI : IsS98 w0 w g s0_0 s0_1) (hB : Below w0.heap.size w0 w) (h : walk_walker_kid.f s0_0 s0_1 a1 a2 = some (r1, r2)) :
    Calls Tryd.prog 69 #[.pointer (some ⟨g, 0, none⟩), .int .i64 a1, .bool a2] w fun e w' => e = .returned (.int .i64 r1) ∧ IsS98 w0 w' g s0_0 r2 ∧ Below w0.heap.size w0 w' ∧ KeepBut w w' g none := by
  have HI0 := Aside0.mk hI
  have HK := Aside0.mk (KeepBut.refl w g none)
  have HL := Aside0.mk hB.size
  clear hI
  have HW0 := Aside0.mk hB.size
  have HB := Aside0.mk hB
  clear hB
  have H : (if 0 ≤ a1 then (if a1 < (s0_0.length : Int) then (if (((rd_T35 s0_0 a1).f5).length : Int) = 0 then (some ((-1), s0_1)) else (if a2 = true then (if 0 ≤ (wrap64 ((((rd_T35 s0_0 a1).f5).length : Int) - 1)) then (if (wrap64 ((((rd_T35 s0_0 a1).f5).length : Int) - 1)) < (((rd_T35 s0_0 a1).f5).length : Int) then (some (rd ((rd_T35 s0_0 a1).f5) (wrap64 ((((rd_T35 s0_0 a1).f5).length : Int) - 1)), s0_1)) else (none)) else (none)) else (if 0 < (((rd_T35 s0_0 a1).f5).length : Int) then (some (rd ((rd_T35 s0_0 a1).f5) 0, s0_1)) else (none)))) else (none)) else (none)) = some (r1, r2) := h
  clear h
  by_cases c4 : 0 ≤ a1
  · rw [if_pos c4] at H
    have c4b0 : decide (0 ≤ a1) = true := decide_eq_true c4
    clear c4
    by_cases c5 : a1 < (s0_0.length : Int)
    · rw [if_pos c5] at H
      have c5b0 : decide (a1 < (s0_0.length : Int)) = true := decide_eq_true c5
      clear c5
      by_cases c6 : (((rd_T35 s0_0 a1).f5).length : Int) = 0
      · rw [if_pos c6] at H
        have c6b0 : ((((rd_T35 s0_0 a1).f5).length : Int) == 0) = true := beq_iff_eq.mpr c6
        have c6b1 : ((((rd_T35 s0_0 a1).f5).length : Int) != 0) = false := bne_eq_false_iff_eq.mpr c6
        clear c6
        simp only [Option.some.injEq, Prod.mk.injEq] at H
        obtain ⟨rfl, rfl⟩ := H
        obtain ⟨ASz7_0, cSz7_0, HGz7, hgz7, HSz7_0⟩ := HI0.out
        have hcz7_0 := cellS98_0 HGz7
        have hcz7_1 := cellS98_1 HGz7
        have hfz7_1 := blk_frozen HGz7 1
        clear HGz7 hgz7
        have p174 : 0 ≤ (a1 : Int) := of_decide_eq_true (by first | (with_reducible assumption) | assumption)
        have q174 : a1 < (s0_0.length : Int) := of_decide_eq_true (by first | (with_reducible assumption) | assumption)
        obtain ⟨ad174, A174_2, c174_2, A174_5, c174_5, e174, hx174_0, hx174_1, hx174_2, hx174_3, hx174_4, hx174_5, hl174_2, hi174_2, hl174_5, hi174_5⟩ := at_T35 HSz7_0 a1 p174 q174
        cases e174
        replace hx174_0 := pw_cell_below HB.out hx174_0
        replace hx174_1 := pw_cell_below HB.out hx174_1
        replace hx174_2 := pw_cell_below HB.out hx174_2
        replace hx174_3 := pw_cell_below HB.out hx174_3
        replace hx174_4 := pw_cell_below HB.out hx174_4
        replace hx174_5 := pw_cell_below HB.out hx174_5
        have HR174_2 := Aside0.mk hi174_2
        have HC174_2 := Aside0.mk hl174_2
        clear hi174_2 hl174_2
        have HR174_5 := Aside0.mk hi174_5
        have HC174_5 := Aside0.mk hl174_5
        clear hi174_5 hl174_5
        replace p174 := eq_true p174
        replace q174 := eq_true q174
        go_enter Tryd.func69, Tryd.ntmps69
        go_wp2
        go_ret
        exact ⟨by first | rfl | (simp [errW_none, errW_some] <;> rfl) | (simp [*, errW_none, errW_some] <;> rfl), by repeat (first | (with_reducible first | exact HI0.out | apply IsS98.alloc | apply IsS98.drewN | apply IsS98.drew | apply IsS98.set_1) | exact HI0.out), by repeat (first | (with_reducible first | exact HB.out | apply below_alloc | apply pw_below_drewN | apply below_drew1 | refine below_set ?_ (IsS98.ge HI0.out)) | exact HB.out), by repeat (first | (with_reducible first | exact HK.out | apply KeepBut.set_ | apply keep_drewN | apply keep_drew | apply keep_alloc) | exact HK.out)⟩
      · rw [if_neg c6] at H
        have c6b0 : ((((rd_T35 s0_0 a1).f5).length : Int) == 0) = false := beq_eq_false_iff_ne.mpr c6
        have c6b1 : ((((rd_T35 s0_0 a1).f5).length : Int) != 0) = true := bne_iff_ne.mpr c6
        have c6b2 : ¬ (((rd_T35 s0_0 a1).f5) = []) := fun h_ => c6 (by rw [h_]; rfl)
        by_cases c8 : a2 = true
        · subst c8
          have H1 : (if 0 ≤ (wrap64 ((((rd_T35 s0_0 a1).f5).length : Int) - 1)) then (if (wrap64 ((((rd_T35 s0_0 a1).f5).length : Int) - 1)) < (((rd_T35 s0_0 a1).f5).length : Int) then (some (rd ((rd_T35 s0_0 a1).f5) (wrap64 ((((rd_T35 s0_0 a1).f5).length : Int) - 1)), s0_1)) else (none)) else (none)) = some (r1, r2) := by rw [if_pos rfl] at H; exact H
          clear H
          have H := H1
          clear H1
          obtain ⟨ji9, hji9⟩ : ∃ j_ : Int, (wrap64 ((((rd_T35 s0_0 a1).f5).length : Int) - 1)) = j_ := ⟨_, rfl⟩
          replace H : (if 0 ≤ (ji9) then (if (ji9) < (((rd_T35 s0_0 a1).f5).length : Int) then (some (rd ((rd_T35 s0_0 a1).f5) (ji9), s0_1)) else (none)) else (none)) = some (r1, r2) := by first | (rw [hji9] at H; exact H) | (simp only [hji9] at H ⊢; exact H)
          have hji9w : (IntKind.i64.wrap ((((rd_T35 s0_0 a1).f5).length : Int) - 1)) = ji9 := (i64_w _).trans hji9
          by_cases c10 : 0 ≤ (ji9)
          · rw [if_pos c10] at H
            have c10b0 : decide (0 ≤ (ji9)) = true := decide_eq_true c10
            clear c10
            by_cases c11 : (ji9) < (((rd_T35 s0_0 a1).f5).length : Int)
            · rw [if_pos c11] at H
              have c11b0 : decide ((ji9) < (((rd_T35 s0_0 a1).f5).length : Int)) = true := decide_eq_true c11
              clear c11
              simp only [Option.some.injEq, Prod.mk.injEq] at H
              obtain ⟨rfl, rfl⟩ := H
              obtain ⟨ASz12_0, cSz12_0, HGz12, hgz12, HSz12_0⟩ := HI0.out
              have hcz12_0 := cellS98_0 HGz12
              have hcz12_1 := cellS98_1 HGz12
              have hfz12_1 := blk_frozen HGz12 1
              clear HGz12 hgz12
              have p174 : 0 ≤ (a1 : Int) := of_decide_eq_true (by first | (with_reducible assumption) | assumption)
              have q174 : a1 < (s0_0.length : Int) := of_decide_eq_true (by first | (with_reducible assumption) | assumption)
              obtain ⟨ad174, A174_2, c174_2, A174_5, c174_5, e174, hx174_0, hx174_1, hx174_2, hx174_3, hx174_4, hx174_5, hl174_2, hi174_2, hl174_5, hi174_5⟩ := at_T35 HSz12_0 a1 p174 q174
              cases e174
              replace hx174_0 := pw_cell_below HB.out hx174_0
              replace hx174_1 := pw_cell_below HB.out hx174_1
              replace hx174_2 := pw_cell_below HB.out hx174_2
              replace hx174_3 := pw_cell_below HB.out hx174_3
              replace hx174_4 := pw_cell_below HB.out hx174_4
              replace hx174_5 := pw_cell_below HB.out hx174_5
              have HR174_2 := Aside0.mk hi174_2
              have HC174_2 := Aside0.mk hl174_2
              clear hi174_2 hl174_2
              have HR174_5 := Aside0.mk hi174_5
              have HC174_5 := Aside0.mk hl174_5
              clear hi174_5 hl174_5
              replace p174 := eq_true p174
              replace q174 := eq_true q174
              have p175 : 0 ≤ ((ji9) : Int) := of_decide_eq_true (by first | (with_reducible assumption) | assumption)
              have q175 : (ji9) < (((rd_T35 s0_0 a1).f5).length : Int) := of_decide_eq_true (by first | (with_reducible assumption) | assumption)
              obtain ⟨ad175, e175, hx175_0⟩ := Kd.at_int HR174_5.out (ji9) p175 q175
              cases e175
              (first | replace hx175_0 := pw_cell_below HB.out hx175_0 | replace hx175_0 := keep_cell HK.out hx175_0 (by first | (rw [add_block]; exact hf174_5 _ rfl (by omega)) | exact hf174_5 _ rfl (by omega) | exact hf174_5 ad175 rfl (by omega)))
              replace p175 := eq_true p175
              replace q175 := eq_true q175
              go_enter Tryd.func69, Tryd.ntmps69
              go_wp2
              go_ret
              exact ⟨by first | rfl | (simp [errW_none, errW_some] <;> rfl) | (simp only [← hji9]; first | rfl | (simp [errW_none, errW_some] <;> rfl)) | (simp [*, errW_none, errW_some] <;> rfl), by repeat (first | (with_reducible first | exact HI0.out | apply IsS98.alloc | apply IsS98.drewN | apply IsS98.drew | apply IsS98.set_1) | exact HI0.out), by repeat (first | (with_reducible first | exact HB.out | apply below_alloc | apply pw_below_drewN | apply below_drew1 | refine below_set ?_ (IsS98.ge HI0.out)) | exact HB.out), by repeat (first | (with_reducible first | exact HK.out | apply KeepBut.set_ | apply keep_drewN | apply keep_drew | apply keep_alloc) | exact HK.out)⟩
            · rw [if_neg c11] at H
              exact absurd H (by simp)
          · rw [if_neg c10] at H
            exact absurd H (by simp)
        · replace c8 := Bool.eq_false_iff.mpr c8
          subst c8
          have H1 : (if 0 < (((rd_T35 s0_0 a1).f5).length : Int) then (some (rd ((rd_T35 s0_0 a1).f5) 0, s0_1)) else (none)) = some (r1, r2) := by rw [if_neg (show ¬ (false = true) by decide)] at H; exact H
          clear H
          have H := H1
          clear H1
          by_cases c13 : 0 < (((rd_T35 s0_0 a1).f5).length : Int)
          · rw [if_pos c13] at H
            have c13b0 : decide (0 < (((rd_T35 s0_0 a1).f5).length : Int)) = true := decide_eq_true c13
            have c13b1 : decide (0 < ((rd_T35 s0_0 a1).f5).length) = true := decide_eq_true (by omega)
            clear c13
            simp only [Option.some.injEq, Prod.mk.injEq] at H
            obtain ⟨rfl, rfl⟩ := H
            obtain ⟨ASz14_0, cSz14_0, HGz14, hgz14, HSz14_0⟩ := HI0.out
            have hcz14_0 := cellS98_0 HGz14
            have hcz14_1 := cellS98_1 HGz14
            have hfz14_1 := blk_frozen HGz14 1
            clear HGz14 hgz14
            have p174 : 0 ≤ (a1 : Int) := of_decide_eq_true (by first | (with_reducible assumption) | assumption)
            have q174 : a1 < (s0_0.length : Int) := of_decide_eq_true (by first | (with_reducible assumption) | assumption)
            obtain ⟨ad174, A174_2, c174_2, A174_5, c174_5, e174, hx174_0, hx174_1, hx174_2, hx174_3, hx174_4, hx174_5, hl174_2, hi174_2, hl174_5, hi174_5⟩ := at_T35 HSz14_0 a1 p174 q174
            cases e174
            replace hx174_0 := pw_cell_below HB.out hx174_0
            replace hx174_1 := pw_cell_below HB.out hx174_1
            replace hx174_2 := pw_cell_below HB.out hx174_2
            replace hx174_3 := pw_cell_below HB.out hx174_3
            replace hx174_4 := pw_cell_below HB.out hx174_4
            replace hx174_5 := pw_cell_below HB.out hx174_5
            have HR174_2 := Aside0.mk hi174_2
            have HC174_2 := Aside0.mk hl174_2
            clear hi174_2 hl174_2
            have HR174_5 := Aside0.mk hi174_5
            have HC174_5 := Aside0.mk hl174_5
            clear hi174_5 hl174_5
            replace p174 := eq_true p174
            replace q174 := eq_true q174
            have p176 : 0 ≤ (0 : Int) := (by omega)
            have q176 : 0 < (((rd_T35 s0_0 a1).f5).length : Int) := of_decide_eq_true (by first | (with_reducible assumption) | assumption)
            obtain ⟨ad176, e176, hx176_0⟩ := Kd.at_int HR174_5.out 0 p176 q176
            cases e176
            have qi176 : (0 < ((rd_T35 s0_0 a1).f5).length) = True := eq_true (by omega)
            (try rw [show ((0 : Int)).toNat = 0 from rfl] at hx176_0)
            (try rw [Addr.add_zero'] at hx176_0)
            (first | replace hx176_0 := pw_cell_below HB.out hx176_0 | replace hx176_0 := keep_cell HK.out hx176_0 (by first | (rw [add_block]; exact hf174_5 _ rfl (by omega)) | exact hf174_5 _ rfl (by omega) | exact hf174_5 ad176 rfl (by omega)))
            replace p176 := eq_true p176
            replace q176 := eq_true q176
            go_enter Tryd.func69, Tryd.ntmps69
            go_wp2
            go_ret
            exact ⟨by first | rfl | (simp [errW_none, errW_some] <;> rfl) | (simp [*, errW_none, errW_some] <;> rfl), by repeat (first | (with_reducible first | exact HI0.out | apply IsS98.alloc | apply IsS98.drewN | apply IsS98.drew | apply IsS98.set_1) | exact HI0.out), by repeat (first | (with_reducible first | exact HB.out | apply below_alloc | apply pw_below_drewN | apply below_drew1 | refine below_set ?_ (IsS98.ge HI0.out)) | exact HB.out), by repeat (first | (with_reducible first | exact HK.out | apply KeepBut.set_ | apply keep_drewN | apply keep_drew | apply keep_alloc) | exact HK.out)⟩
          · rw [if_neg c13] at H
            exact absurd H (by simp)
    · rw [if_neg c5] at H
      exact absurd H (by simp)
  · rw [if_neg c4] at H
    exact absurd H (by simp)

/-! ### walk_walker_next: function 66 -/
def walk_walker_next.f (k : Nat) (s0_0 : List (S35)) (s0_1 : Bool) (a1 : Int) : Option (Int × Bool) := (walk_walker_kid.f s0_0 s0_1 a1 false).bind fun bt177 => (if bt177.1 ≥ 0 then (some (bt177.1, bt177.2)) else ((walk_walker_over.f k s0_0 bt177.2 a1).bind fun bt179 => (some (bt179.1, bt179.2))))
theorem walk_walker_next.mono : ∀ a0 a1 a2 k, LeO (walk_walker_next.f k a0 a1 a2) (walk_walker_next.f (k + 1) a0 a1 a2) := by
  intro a0 a1 a2 k
  unfold walk_walker_next.f
  repeat' first
      | (with_reducible exact walk_walker_over.mono _ _ _ _)
      | (with_reducible exact LeO.refl _)
      | (with_reducible exact LeO.none _)
      | (with_reducible refine LeO.ite ?_ ?_)
      | (with_reducible refine LeO.bind ?_ (fun _ => ?_))
      | exact walk_walker_over.mono _ _ _ _
      | exact LeO.none _
      | refine LeO.ite ?_ ?_
      | refine LeO.bind ?_ (fun _ => ?_)
set_option maxHeartbeats 8000000 in
set_option maxRecDepth 100000 in
theorem walk_walker_next.calls (k : Nat) (g : Nat) (s0_0 : List (S35)) (s0_1 : Bool) (a1 : Int) (r1 : Int) (r2 : Bool) (w0 w : World) (hI : IsS98 w0 w g s0_0 s0_1) (hB : Below w0.heap.size w0 w) (h : walk_walker_next.f k s0_0 s0_1 a1 = some (r1, r2)) :
    Calls Tryd.prog 66 #[.pointer (some ⟨g, 0, none⟩), .int .i64 a1] w fun e w' => e = .returned (.int .i64 r1) ∧ IsS98 w0 w' g s0_0 r2 ∧ Below w0.heap.size w0 w' ∧ KeepBut w w' g none := by
  have HI0 := Aside0.mk hI
  have HK := Aside0.mk (KeepBut.refl w g none)
  have HL := Aside0.mk hB.size
  clear hI
  have HW0 := Aside0.mk hB.size
  have HB := Aside0.mk hB
  clear hB
  have H : ((walk_walker_kid.f s0_0 s0_1 a1 false).bind fun bt177 => (if bt177.1 ≥ 0 then (some (bt177.1, bt177.2)) else ((walk_walker_over.f k s0_0 bt177.2 a1).bind fun bt179 => (some (bt179.1, bt179.2))))) = some (r1, r2) := h
  clear h
  replace H := Option.bind_eq_some_iff.mp H
  obtain ⟨⟨t177, t178⟩, A30, H⟩ := H
  replace H : (if t177 ≥ 0 then (some (t177, t178)) else ((walk_walker_over.f k s0_0 t178 a1).bind fun bt179 => (some (bt179.1, bt179.2)))) = some (r1, r2) := H
  have A3 := Aside0.mk A30
  clear A30
  by_cases c4 : t177 ≥ 0
  · rw [if_pos c4] at H
    have c4b0 : decide (0 ≤ t177) = true := decide_eq_true c4
    clear c4
    simp only [Option.some.injEq, Prod.mk.injEq] at H
    obtain ⟨rfl, rfl⟩ := H
    go_enter Tryd.func66, Tryd.ntmps66
    go_wp2_with (first | ((with_reducible refine gate_callee (f := 69) rfl ?_); refine goesL_ (some 8) rfl rfl Tryd.func69 (by kernel_rfl) rfl #[.pointer (some ⟨g, 0, none⟩), .int .i64 a1, .bool false] rfl (by (try simp only [List.map_toArray, List.map_cons, List.map_nil]); first | done | rfl | (simp only [List.length_drop, List.length_take]; rfl)) ?_; (with_reducible refine (walk_walker_kid.calls g s0_0 s0_1 a1 false t177 t178 w0 _ ?side1 ?side2 A3.out).mono ?_); (case side1 => repeat (first | (with_reducible first | exact HI0.out | apply IsS98.alloc | apply IsS98.drewN | apply IsS98.drew | apply IsS98.set_1) | exact HI0.out)); (case side2 => repeat (first | (with_reducible first | exact HB.out | apply below_alloc | apply pw_below_drewN | apply below_drew1 | refine below_set ?_ (IsS98.ge HI0.out)) | exact HB.out)); rintro e w5 ⟨rfl, hi, hb, hk⟩; refine ⟨_, rfl, ?_⟩; have n0_ := Aside0.mk (KeepBut.trans (by repeat (first | (with_reducible first | exact HK.out | apply KeepBut.set_ | apply keep_drewN | apply keep_drew | apply keep_alloc) | exact HK.out)) hk (.inl rfl)); have n1_ := Aside0.mk (hb); have n2_ := Aside0.mk (hi); clear HK; clear HB; clear HI0; have HK := n0_; have HB := n1_; have HI0 := n2_; clear n0_ n1_ n2_; (try clear hb); (try clear hb2); (try clear hk); (try clear hi)))
    go_ret
    exact ⟨by first | rfl | (simp [errW_none, errW_some] <;> rfl) | (simp [*, errW_none, errW_some] <;> rfl), by repeat (first | (with_reducible first | exact HI0.out | apply IsS98.alloc | apply IsS98.drewN | apply IsS98.drew | apply IsS98.set_1) | exact HI0.out), by repeat (first | (with_reducible first | exact HB.out | apply below_alloc | apply pw_below_drewN | apply below_drew1 | refine below_set ?_ (IsS98.ge HI0.out)) | exact HB.out), by repeat (first | (with_reducible first | exact HK.out | apply KeepBut.set_ | apply keep_drewN | apply keep_drew | apply keep_alloc) | exact HK.out)⟩
  · rw [if_neg c4] at H
    have c4b0 : decide (0 ≤ t177) = false := decide_eq_false c4
    clear c4
    replace H := Option.bind_eq_some_iff.mp H
    obtain ⟨⟨t179, t180⟩, A60, H⟩ := H
    replace H : (some (t179, t180)) = some (r1, r2) := H
    have A6 := Aside0.mk A60
    clear A60
    simp only [Option.some.injEq, Prod.mk.injEq] at H
    obtain ⟨rfl, rfl⟩ := H
    go_enter Tryd.func66, Tryd.ntmps66
    go_wp2_with (first | ((with_reducible refine gate_callee (f := 69) rfl ?_); refine goesL_ (some 8) rfl rfl Tryd.func69 (by kernel_rfl) rfl #[.pointer (some ⟨g, 0, none⟩), .int .i64 a1, .bool false] rfl (by (try simp only [List.map_toArray, List.map_cons, List.map_nil]); first | done | rfl | (simp only [List.length_drop, List.length_take]; rfl)) ?_; (with_reducible refine (walk_walker_kid.calls g s0_0 s0_1 a1 false t177 t178 w0 _ ?side1 ?side2 A3.out).mono ?_); (case side1 => repeat (first | (with_reducible first | exact HI0.out | apply IsS98.alloc | apply IsS98.drewN | apply IsS98.drew | apply IsS98.set_1) | exact HI0.out)); (case side2 => repeat (first | (with_reducible first | exact HB.out | apply below_alloc | apply pw_below_drewN | apply below_drew1 | refine below_set ?_ (IsS98.ge HI0.out)) | exact HB.out)); rintro e w7 ⟨rfl, hi, hb, hk⟩; refine ⟨_, rfl, ?_⟩; have n0_ := Aside0.mk (KeepBut.trans (by repeat (first | (with_reducible first | exact HK.out | apply KeepBut.set_ | apply keep_drewN | apply keep_drew | apply keep_alloc) | exact HK.out)) hk (.inl rfl)); have n1_ := Aside0.mk (hb); have n2_ := Aside0.mk (hi); clear HK; clear HB; clear HI0; have HK := n0_; have HB := n1_; have HI0 := n2_; clear n0_ n1_ n2_; (try clear hb); (try clear hb2); (try clear hk); (try clear hi)) | ((with_reducible refine gate_callee (f := 68) rfl ?_); refine goesL_ (some 14) rfl rfl Tryd.func68 (by kernel_rfl) rfl #[.pointer (some ⟨g, 0, none⟩), .int .i64 a1] rfl (by (try simp only [List.map_toArray, List.map_cons, List.map_nil]); first | done | rfl | (simp only [List.length_drop, List.length_take]; rfl)) ?_; (with_reducible refine (walk_walker_over.calls k g s0_0 t178 a1 t179 t180 w0 _ ?side1 ?side2 A6.out).mono ?_); (case side1 => repeat (first | (with_reducible first | exact HI0.out | apply IsS98.alloc | apply IsS98.drewN | apply IsS98.drew | apply IsS98.set_1) | exact HI0.out)); (case side2 => repeat (first | (with_reducible first | exact HB.out | apply below_alloc | apply pw_below_drewN | apply below_drew1 | refine below_set ?_ (IsS98.ge HI0.out)) | exact HB.out)); rintro e w8 ⟨rfl, hi, hb, hk⟩; refine ⟨_, rfl, ?_⟩; have n0_ := Aside0.mk (KeepBut.trans (by repeat (first | (with_reducible first | exact HK.out | apply KeepBut.set_ | apply keep_drewN | apply keep_drew | apply keep_alloc) | exact HK.out)) hk (.inl rfl)); have n1_ := Aside0.mk (hb); have n2_ := Aside0.mk (hi); clear HK; clear HB; clear HI0; have HK := n0_; have HB := n1_; have HI0 := n2_; clear n0_ n1_ n2_; (try clear hb); (try clear hb2); (try clear hk); (try clear hi)))
    go_ret
    exact ⟨by first | rfl | (simp [errW_none, errW_some] <;> rfl) | (simp [*, errW_none, errW_some] <;> rfl), by repeat (first | (with_reducible first | exact HI0.out | apply IsS98.alloc | apply IsS98.drewN | apply IsS98.drew | apply IsS98.set_1) | exact HI0.out), by repeat (first | (with_reducible first | exact HB.out | apply below_alloc | apply pw_below_drewN | apply below_drew1 | refine below_set ?_ (IsS98.ge HI0.out)) | exact HB.out), by repeat (first | (with_reducible first | exact HK.out | apply KeepBut.set_ | apply keep_drewN | apply keep_drew | apply keep_alloc) | exact HK.out)⟩

/-! ### walk_walker_last: function 67 -/
def walk_walker_last.l0 : Nat → Int → List (S35) → Bool → Option (Int × Bool)
  | 0, _, _, _ => none
  | k + 1, x5, x1000, x1001 => (walk_walker_kid.f x1000 x1001 x5 true).bind fun bt184 => (if bt184.1 ≥ 0 then ((walk_walker_kid.f x1000 bt184.2 x5 true).bind fun bt186 => (walk_walker_last.l0 k bt186.1 x1000 bt186.2)) else (some (x5, bt184.2)))
def walk_walker_last.f (k : Nat) (s0_0 : List (S35)) (s0_1 : Bool) (a1 : Int) : Option (Int × Bool) := (walk_walker_beside.f k s0_0 s0_1 a1 (-1)).bind fun bt181 => (if bt181.1 < 0 then (if 0 ≤ a1 then (if a1 < (s0_0.length : Int) then (some ((rd_T35 s0_0 a1).f4, bt181.2)) else (none)) else (none)) else (walk_walker_last.l0 k bt181.1 s0_0 bt181.2))
theorem walk_walker_last.mono_l : ∀ k, (∀ y0 y1 y2, LeO (walk_walker_last.l0 k y0 y1 y2) (walk_walker_last.l0 (k + 1) y0 y1 y2))
  | 0 => fun _ _ _ r h => by simp [walk_walker_last.l0] at h
  | k + 1 => by
    have ih0 := walk_walker_last.mono_l k
    · intro y0 y1 y2
      unfold walk_walker_last.l0
      repeat' first
      | (with_reducible exact ih0 _ _ _)
      | (with_reducible exact walk_walker_beside.mono _ _ _ _ _)
      | (with_reducible exact LeO.refl _)
      | (with_reducible exact LeO.none _)
      | (with_reducible refine LeO.ite ?_ ?_)
      | (with_reducible refine LeO.bind ?_ (fun _ => ?_))
      | exact ih0 _ _ _
      | exact walk_walker_beside.mono _ _ _ _ _
      | exact LeO.none _
      | refine LeO.ite ?_ ?_
      | refine LeO.bind ?_ (fun _ => ?_)
theorem walk_walker_last.mono : ∀ a0 a1 a2 k, LeO (walk_walker_last.f k a0 a1 a2) (walk_walker_last.f (k + 1) a0 a1 a2) := by
  intro a0 a1 a2 k
  have ih0 := walk_walker_last.mono_l k
  unfold walk_walker_last.f
  repeat' first
      | (with_reducible exact ih0 _ _ _)
      | (with_reducible exact walk_walker_beside.mono _ _ _ _ _)
      | (with_reducible exact LeO.refl _)
      | (with_reducible exact LeO.none _)
      | (with_reducible refine LeO.ite ?_ ?_)
      | (with_reducible refine LeO.bind ?_ (fun _ => ?_))
      | exact ih0 _ _ _
      | exact walk_walker_beside.mono _ _ _ _ _
      | exact LeO.none _
      | refine LeO.ite ?_ ?_
      | refine LeO.bind ?_ (fun _ => ?_)
set_option maxHeartbeats 8000000 in
set_option maxRecDepth 100000 in
theorem walk_walker_last.calls (k : Nat) (g : Nat) (s0_0 : List (S35)) (s0_1 : Bool) (a1 : Int) (r1 : Int) (r2 : Bool) (w0 w : World) (hI : IsS98 w0 w g s0_0 s0_1) (hB : Below w0.heap.size w0 w) (h : walk_walker_last.f k s0_0 s0_1 a1 = some (r1, r2)) :
    Calls Tryd.prog 67 #[.pointer (some ⟨g, 0, none⟩), .int .i64 a1] w fun e w' => e = .returned (.int .i64 r1) ∧ IsS98 w0 w' g s0_0 r2 ∧ Below w0.heap.size w0 w' ∧ KeepBut w w' g none := by
  have HI0 := Aside0.mk hI
  have HK := Aside0.mk (KeepBut.refl w g none)
  have HL := Aside0.mk hB.size
  clear hI
  have HW0 := Aside0.mk hB.size
  have HB := Aside0.mk hB
  clear hB
  have H : ((walk_walker_beside.f k s0_0 s0_1 a1 (-1)).bind fun bt181 => (if bt181.1 < 0 then (if 0 ≤ a1 then (if a1 < (s0_0.length : Int) then (some ((rd_T35 s0_0 a1).f4, bt181.2)) else (none)) else (none)) else (walk_walker_last.l0 k bt181.1 s0_0 bt181.2))) = some (r1, r2) := h
  clear h
  replace H := Option.bind_eq_some_iff.mp H
  obtain ⟨⟨t181, t182⟩, A30, H⟩ := H
  replace H : (if t181 < 0 then (if 0 ≤ a1 then (if a1 < (s0_0.length : Int) then (some ((rd_T35 s0_0 a1).f4, t182)) else (none)) else (none)) else (walk_walker_last.l0 k t181 s0_0 t182)) = some (r1, r2) := H
  have A3 := Aside0.mk A30
  clear A30
  by_cases c4 : t181 < 0
  · rw [if_pos c4] at H
    have c4b0 : decide (t181 < 0) = true := decide_eq_true c4
    clear c4
    by_cases c5 : 0 ≤ a1
    · rw [if_pos c5] at H
      have c5b0 : decide (0 ≤ a1) = true := decide_eq_true c5
      clear c5
      by_cases c6 : a1 < (s0_0.length : Int)
      · rw [if_pos c6] at H
        have c6b0 : decide (a1 < (s0_0.length : Int)) = true := decide_eq_true c6
        clear c6
        simp only [Option.some.injEq, Prod.mk.injEq] at H
        obtain ⟨rfl, rfl⟩ := H
        go_enter Tryd.func67, Tryd.ntmps67
        go_wp2_with (first | ((with_reducible refine gate_callee (f := 70) rfl ?_); refine goesL_ (some 8) rfl rfl Tryd.func70 (by kernel_rfl) rfl #[.pointer (some ⟨g, 0, none⟩), .int .i64 a1, .int .i64 (-1)] rfl (by (try simp only [List.map_toArray, List.map_cons, List.map_nil]); first | done | rfl | (simp only [List.length_drop, List.length_take]; rfl)) ?_; (with_reducible refine (walk_walker_beside.calls k g s0_0 s0_1 a1 (-1) t181 t182 w0 _ ?side1 ?side2 A3.out).mono ?_); (case side1 => repeat (first | (with_reducible first | exact HI0.out | apply IsS98.alloc | apply IsS98.drewN | apply IsS98.drew | apply IsS98.set_1) | exact HI0.out)); (case side2 => repeat (first | (with_reducible first | exact HB.out | apply below_alloc | apply pw_below_drewN | apply below_drew1 | refine below_set ?_ (IsS98.ge HI0.out)) | exact HB.out)); rintro e w7 ⟨rfl, hi, hb, hk⟩; refine ⟨_, rfl, ?_⟩; have n0_ := Aside0.mk (KeepBut.trans (by repeat (first | (with_reducible first | exact HK.out | apply KeepBut.set_ | apply keep_drewN | apply keep_drew | apply keep_alloc) | exact HK.out)) hk (.inl rfl)); have n1_ := Aside0.mk (hb); have n2_ := Aside0.mk (hi); clear HK; clear HB; clear HI0; have HK := n0_; have HB := n1_; have HI0 := n2_; clear n0_ n1_ n2_; (try clear hb); (try clear hb2); (try clear hk); (try clear hi); obtain ⟨ASz8_0, cSz8_0, HGz8, hgz8, HSz8_0⟩ := HI0.out; have hcz8_0 := cellS98_0 HGz8; have hcz8_1 := cellS98_1 HGz8; have hfz8_1 := blk_frozen HGz8 1; clear HGz8 hgz8; have p183 : 0 ≤ (a1 : Int) := of_decide_eq_true (by first | (with_reducible assumption) | assumption); have q183 : a1 < (s0_0.length : Int) := of_decide_eq_true (by first | (with_reducible assumption) | assumption); obtain ⟨ad183, A183_2, c183_2, A183_5, c183_5, e183, hx183_0, hx183_1, hx183_2, hx183_3, hx183_4, hx183_5, hl183_2, hi183_2, hl183_5, hi183_5⟩ := at_T35 HSz8_0 a1 p183 q183; cases e183; replace hx183_0 := pw_cell_below HB.out hx183_0; replace hx183_1 := pw_cell_below HB.out hx183_1; replace hx183_2 := pw_cell_below HB.out hx183_2; replace hx183_3 := pw_cell_below HB.out hx183_3; replace hx183_4 := pw_cell_below HB.out hx183_4; replace hx183_5 := pw_cell_below HB.out hx183_5; have HR183_2 := Aside0.mk hi183_2; have HC183_2 := Aside0.mk hl183_2; clear hi183_2 hl183_2; have HR183_5 := Aside0.mk hi183_5; have HC183_5 := Aside0.mk hl183_5; clear hi183_5 hl183_5; replace p183 := eq_true p183; replace q183 := eq_true q183))
        go_ret
        exact ⟨by first | rfl | (simp [errW_none, errW_some] <;> rfl) | (simp [*, errW_none, errW_some] <;> rfl), by repeat (first | (with_reducible first | exact HI0.out | apply IsS98.alloc | apply IsS98.drewN | apply IsS98.drew | apply IsS98.set_1) | exact HI0.out), by repeat (first | (with_reducible first | exact HB.out | apply below_alloc | apply pw_below_drewN | apply below_drew1 | refine below_set ?_ (IsS98.ge HI0.out)) | exact HB.out), by repeat (first | (with_reducible first | exact HK.out | apply KeepBut.set_ | apply keep_drewN | apply keep_drew | apply keep_alloc) | exact HK.out)⟩
      · rw [if_neg c6] at H
        exact absurd H (by simp)
    · rw [if_neg c5] at H
      exact absurd H (by simp)
  · rw [if_neg c4] at H
    have c4b0 : decide (t181 < 0) = false := decide_eq_false c4
    clear c4
    have H' := Aside0.mk H
    clear H
    go_enter Tryd.func67, Tryd.ntmps67
    go_wp2_with (first | ((with_reducible refine gate_callee (f := 70) rfl ?_); refine goesL_ (some 8) rfl rfl Tryd.func70 (by kernel_rfl) rfl #[.pointer (some ⟨g, 0, none⟩), .int .i64 a1, .int .i64 (-1)] rfl (by (try simp only [List.map_toArray, List.map_cons, List.map_nil]); first | done | rfl | (simp only [List.length_drop, List.length_take]; rfl)) ?_; (with_reducible refine (walk_walker_beside.calls k g s0_0 s0_1 a1 (-1) t181 t182 w0 _ ?side1 ?side2 A3.out).mono ?_); (case side1 => repeat (first | (with_reducible first | exact HI0.out | apply IsS98.alloc | apply IsS98.drewN | apply IsS98.drew | apply IsS98.set_1) | exact HI0.out)); (case side2 => repeat (first | (with_reducible first | exact HB.out | apply below_alloc | apply pw_below_drewN | apply below_drew1 | refine below_set ?_ (IsS98.ge HI0.out)) | exact HB.out)); rintro e w9 ⟨rfl, hi, hb, hk⟩; refine ⟨_, rfl, ?_⟩; have n0_ := Aside0.mk (KeepBut.trans (by repeat (first | (with_reducible first | exact HK.out | apply KeepBut.set_ | apply keep_drewN | apply keep_drew | apply keep_alloc) | exact HK.out)) hk (.inl rfl)); have n1_ := Aside0.mk (hb); have n2_ := Aside0.mk (hi); clear HK; clear HB; clear HI0; have HK := n0_; have HB := n1_; have HI0 := n2_; clear n0_ n1_ n2_; (try clear hb); (try clear hb2); (try clear hk); (try clear hi)))
    go_loopg [5] k (fun kq v5 w' => ∃ (x5_1 : Int) (x1001_1 : Bool), v5 = .int .i64 x5_1 ∧ Aside0 (walk_walker_last.l0 kq x5_1 s0_0 x1001_1 = some (r1, r2)) ∧ Aside0 (kq ≤ k) ∧ Aside0 (IsS98 w0 w' g s0_0 x1001_1) ∧ Aside0 (KeepBut w w' g none) ∧ Aside0 (Below w0.heap.size w0 w'))
    case atStart => exact ⟨(t181), (t182), (by first | rfl | (simp; done) | (simp [*]; done)), H', ⟨Nat.le_refl _⟩, ⟨by repeat (first | (with_reducible first | exact HI0.out | apply IsS98.alloc | apply IsS98.drewN | apply IsS98.drew | apply IsS98.set_1) | exact HI0.out)⟩, ⟨by repeat (first | (with_reducible first | exact HK.out | apply KeepBut.set_ | apply keep_drewN | apply keep_drew | apply keep_alloc) | exact HK.out)⟩, ⟨by repeat (first | (with_reducible first | exact HB.out | apply below_alloc | apply pw_below_drewN | apply below_drew1 | refine below_set ?_ (IsS98.ge HI0.out)) | exact HB.out)⟩⟩
    case round =>
      clear H'
      try clear c1
      try clear p1
      try clear q1
      try clear hx1
      try clear p2
      try clear c4
      try clear c4b0
      try clear c5
      try clear c5b0
      try clear c6
      try clear c6b0
      try clear c7
      try clear hcz8_0
      try clear hcz8_1
      try clear hfz8_1
      try clear hx183_0
      try clear hx183_1
      try clear hx183_2
      try clear hx183_3
      try clear hx183_4
      try clear hx183_5
      try clear p183
      try clear q183
      obtain ⟨x5_1, x1001_1, rfl, HA, HK1, HI0, HK, HB⟩ := hrel
      cases gk with
      | zero => exact absurd HA.out (by simp [walk_walker_last.l0])
      | succ k1 =>
        have H := HA.out
        clear HA
        simp only [walk_walker_last.l0] at H
        replace H := Option.bind_eq_some_iff.mp H
        obtain ⟨⟨t184, t185⟩, A100, H⟩ := H
        replace H : (if t184 ≥ 0 then ((walk_walker_kid.f s0_0 t185 x5_1 true).bind fun bt186 => (walk_walker_last.l0 k1 bt186.1 s0_0 bt186.2)) else (some (x5_1, t185))) = some (r1, r2) := H
        have A10 := Aside0.mk A100
        clear A100
        by_cases c11 : t184 ≥ 0
        · rw [if_pos c11] at H
          have c11b0 : decide (0 ≤ t184) = true := decide_eq_true c11
          clear c11
          replace H := Option.bind_eq_some_iff.mp H
          obtain ⟨⟨t186, t187⟩, A120, H⟩ := H
          replace H : (walk_walker_last.l0 k1 t186 s0_0 t187) = some (r1, r2) := H
          have A12 := Aside0.mk A120
          clear A120
          have H' := Aside0.mk H
          clear H
          go_wp2_with (first | ((with_reducible refine gate_callee (f := 69) rfl ?_); refine goesL_ (some 22) rfl rfl Tryd.func69 (by kernel_rfl) rfl #[.pointer (some ⟨g, 0, none⟩), .int .i64 x5_1, .bool true] rfl (by (try simp only [List.map_toArray, List.map_cons, List.map_nil]); first | done | rfl | (simp only [List.length_drop, List.length_take]; rfl)) ?_; (with_reducible refine (walk_walker_kid.calls g s0_0 x1001_1 x5_1 true t184 t185 w0 _ ?side1 ?side2 A10.out).mono ?_); (case side1 => repeat (first | (with_reducible first | exact HI0.out | apply IsS98.alloc | apply IsS98.drewN | apply IsS98.drew | apply IsS98.set_1) | exact HI0.out)); (case side2 => repeat (first | (with_reducible first | exact HB.out | apply below_alloc | apply pw_below_drewN | apply below_drew1 | refine below_set ?_ (IsS98.ge HI0.out)) | exact HB.out)); rintro e w13 ⟨rfl, hi, hb, hk⟩; refine ⟨_, rfl, ?_⟩; have n0_ := Aside0.mk (KeepBut.trans (by repeat (first | (with_reducible first | exact HK.out | apply KeepBut.set_ | apply keep_drewN | apply keep_drew | apply keep_alloc) | exact HK.out)) hk (.inl rfl)); have n1_ := Aside0.mk (hb); have n2_ := Aside0.mk (hi); clear HK; clear HB; clear HI0; have HK := n0_; have HB := n1_; have HI0 := n2_; clear n0_ n1_ n2_; (try clear hb); (try clear hb2); (try clear hk); (try clear hi)) | ((with_reducible refine gate_callee (f := 69) rfl ?_); refine goesL_ (some 26) rfl rfl Tryd.func69 (by kernel_rfl) rfl #[.pointer (some ⟨g, 0, none⟩), .int .i64 x5_1, .bool true] rfl (by (try simp only [List.map_toArray, List.map_cons, List.map_nil]); first | done | rfl | (simp only [List.length_drop, List.length_take]; rfl)) ?_; (with_reducible refine (walk_walker_kid.calls g s0_0 t185 x5_1 true t186 t187 w0 _ ?side1 ?side2 A12.out).mono ?_); (case side1 => repeat (first | (with_reducible first | exact HI0.out | apply IsS98.alloc | apply IsS98.drewN | apply IsS98.drew | apply IsS98.set_1) | exact HI0.out)); (case side2 => repeat (first | (with_reducible first | exact HB.out | apply below_alloc | apply pw_below_drewN | apply below_drew1 | refine below_set ?_ (IsS98.ge HI0.out)) | exact HB.out)); rintro e w14 ⟨rfl, hi, hb, hk⟩; refine ⟨_, rfl, ?_⟩; have n0_ := Aside0.mk (KeepBut.trans (by repeat (first | (with_reducible first | exact HK.out | apply KeepBut.set_ | apply keep_drewN | apply keep_drew | apply keep_alloc) | exact HK.out)) hk (.inl rfl)); have n1_ := Aside0.mk (hb); have n2_ := Aside0.mk (hi); clear HK; clear HB; clear HI0; have HK := n0_; have HB := n1_; have HI0 := n2_; clear n0_ n1_ n2_; (try clear hb); (try clear hb2); (try clear hk); (try clear hi)))
          go_roundg k1
          case measure => have := HK1.out; omega
          case rel => exact ⟨(t186), (t187), (by first | rfl | (simp; done) | (simp [*]; done)), H', ⟨by have := HK1.out; omega⟩, ⟨by repeat (first | (with_reducible first | exact HI0.out | apply IsS98.alloc | apply IsS98.drewN | apply IsS98.drew | apply IsS98.set_1) | exact HI0.out)⟩, ⟨by repeat (first | (with_reducible first | exact HK.out | apply KeepBut.set_ | apply keep_drewN | apply keep_drew | apply keep_alloc) | exact HK.out)⟩, ⟨by repeat (first | (with_reducible first | exact HB.out | apply below_alloc | apply pw_below_drewN | apply below_drew1 | refine below_set ?_ (IsS98.ge HI0.out)) | exact HB.out)⟩⟩
        · rw [if_neg c11] at H
          have c11b0 : decide (0 ≤ t184) = false := decide_eq_false c11
          clear c11
          simp only [Option.some.injEq, Prod.mk.injEq] at H
          obtain ⟨rfl, rfl⟩ := H
          go_wp2_with (first | ((with_reducible refine gate_callee (f := 69) rfl ?_); refine goesL_ (some 22) rfl rfl Tryd.func69 (by kernel_rfl) rfl #[.pointer (some ⟨g, 0, none⟩), .int .i64 x5_1, .bool true] rfl (by (try simp only [List.map_toArray, List.map_cons, List.map_nil]); first | done | rfl | (simp only [List.length_drop, List.length_take]; rfl)) ?_; (with_reducible refine (walk_walker_kid.calls g s0_0 x1001_1 x5_1 true t184 t185 w0 _ ?side1 ?side2 A10.out).mono ?_); (case side1 => repeat (first | (with_reducible first | exact HI0.out | apply IsS98.alloc | apply IsS98.drewN | apply IsS98.drew | apply IsS98.set_1) | exact HI0.out)); (case side2 => repeat (first | (with_reducible first | exact HB.out | apply below_alloc | apply pw_below_drewN | apply below_drew1 | refine below_set ?_ (IsS98.ge HI0.out)) | exact HB.out)); rintro e w15 ⟨rfl, hi, hb, hk⟩; refine ⟨_, rfl, ?_⟩; have n0_ := Aside0.mk (KeepBut.trans (by repeat (first | (with_reducible first | exact HK.out | apply KeepBut.set_ | apply keep_drewN | apply keep_drew | apply keep_alloc) | exact HK.out)) hk (.inl rfl)); have n1_ := Aside0.mk (hb); have n2_ := Aside0.mk (hi); clear HK; clear HB; clear HI0; have HK := n0_; have HB := n1_; have HI0 := n2_; clear n0_ n1_ n2_; (try clear hb); (try clear hb2); (try clear hk); (try clear hi)))
          go_ret
          exact ⟨by first | rfl | (simp [errW_none, errW_some] <;> rfl) | (simp [*, errW_none, errW_some] <;> rfl), by repeat (first | (with_reducible first | exact HI0.out | apply IsS98.alloc | apply IsS98.drewN | apply IsS98.drew | apply IsS98.set_1) | exact HI0.out), by repeat (first | (with_reducible first | exact HB.out | apply below_alloc | apply pw_below_drewN | apply below_drew1 | refine below_set ?_ (IsS98.ge HI0.out)) | exact HB.out), by repeat (first | (with_reducible first | exact HK.out | apply KeepBut.set_ | apply keep_drewN | apply keep_drew | apply keep_alloc) | exact HK.out)⟩

end Go.Proofs.YtaojbobbjnibhaaDoor.PCM
