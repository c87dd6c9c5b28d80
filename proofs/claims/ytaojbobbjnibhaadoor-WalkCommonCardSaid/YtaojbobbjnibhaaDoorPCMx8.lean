-- printed by wip/tools/pr.py (own) through the kit's printer; texts GIVEN by hand stand among them
import Derived.Test.YtaojbobbjnibhaaDoorPCMx0
import Derived.Test.YtaojbobbjnibhaaDoorPCMx6
import Derived.Test.YtaojbobbjnibhaaDoorPCMx7
namespace Go.Proofs.YtaojbobbjnibhaaDoor.PCM
open Go.RowKit Go.Proofs.YtaojbobbjnibhaaDoorW.PrintWords Go.Proofs.YtaojbobbjnibhaaDoorW.PrintLast Go.Proofs.YtaojbobbjnibhaaDoorW.PrintMore
attribute [local go_sem] max2_int min2_int max_two min_two max_three min_three max_four min_four   -- for this text's walks alone
set_option linter.unusedVariables false
set_option linter.unusedSimpArgs false

/-! ### walk_walker_step: function 49 -/
def walk_walker_step.j0 : Nat → Int → Int → Int → Bool → List (S35) → Bool → Option (Int × Bool)
  | 0, _, _, _, _, _, _ => none
  | k + 1, x1, x2, x7, x23, x1000, x1001 => if x23 = true then ((walk_walker_kid.f x1000 x1001 x1 (x2 == 5)).bind fun bt194 => (some (bt194.1, bt194.2))) else (if x7 = 6 then ((walk_walker_beside.f k x1000 x1001 x1 1).bind fun bt196 => (some (bt196.1, bt196.2))) else (if x7 = 7 then ((walk_walker_beside.f k x1000 x1001 x1 (-1)).bind fun bt198 => (some (bt198.1, bt198.2))) else (if 0 ≤ x1 then (if x1 < (x1000.length : Int) then (some ((rd_T35 x1000 x1).f4, x1001)) else (none)) else (none))))
def walk_walker_step.f (k : Nat) (s0_0 : List (S35)) (s0_1 : Bool) (a1 : Int) (a2 : Int) : Option (Int × Bool) := if a2 = 1 then ((walk_walker_next.f k s0_0 s0_1 a1).bind fun bt188 => (some (bt188.1, bt188.2))) else (if a2 = 2 then ((walk_walker_last.f k s0_0 s0_1 a1).bind fun bt190 => (some (bt190.1, bt190.2))) else (if a2 = 3 then ((walk_walker_over.f k s0_0 s0_1 a1).bind fun bt192 => (some (bt192.1, bt192.2))) else (if a2 = 4 then (walk_walker_step.j0 k a1 a2 a2 (a2 == 4) s0_0 s0_1) else (walk_walker_step.j0 k a1 a2 a2 (a2 == 5) s0_0 s0_1))))
theorem walk_walker_step.mono_l : ∀ k, (∀ y0 y1 y2 y3 y4 y5, LeO (walk_walker_step.j0 k y0 y1 y2 y3 y4 y5) (walk_walker_step.j0 (k + 1) y0 y1 y2 y3 y4 y5))
  | 0 => fun _ _ _ _ _ _ r h => by simp [walk_walker_step.j0] at h
  | k + 1 => by
    have ih0 := walk_walker_step.mono_l k
    · intro y0 y1 y2 y3 y4 y5
      unfold walk_walker_step.j0
      repeat' first
      | (with_reducible exact ih0 _ _ _ _ _ _)
      | (with_reducible exact walk_walker_beside.mono _ _ _ _ _)
      | (with_reducible exact walk_walker_last.mono _ _ _ _)
      | (with_reducible exact walk_walker_next.mono _ _ _ _)
      | (with_reducible exact walk_walker_over.mono _ _ _ _)
      | (with_reducible exact LeO.refl _)
      | (with_reducible exact LeO.none _)
      | (with_reducible refine LeO.ite ?_ ?_)
      | (with_reducible refine LeO.bind ?_ (fun _ => ?_))
      | exact ih0 _ _ _ _ _ _
      | exact walk_walker_beside.mono _ _ _ _ _
      | exact walk_walker_last.mono _ _ _ _
      | exact walk_walker_next.mono _ _ _ _
      | exact walk_walker_over.mono _ _ _ _
      | exact LeO.none _
      | refine LeO.ite ?_ ?_
      | refine LeO.bind ?_ (fun _ => ?_)
theorem walk_walker_step.mono : ∀ a0 a1 a2 a3 k, LeO (walk_walker_step.f k a0 a1 a2 a3) (walk_walker_step.f (k + 1) a0 a1 a2 a3) := by
  intro a0 a1 a2 a3 k
  have ih0 := walk_walker_step.mono_l k
  unfold walk_walker_step.f
  repeat' first
      | (with_reducible exact ih0 _ _ _ _ _ _)
      | (with_reducible exact walk_walker_beside.mono _ _ _ _ _)
      | (with_reducible exact walk_walker_last.mono _ _ _ _)
      | (with_reducible exact walk_walker_next.mono _ _ _ _)
      | (with_reducible exact walk_walker_over.mono _ _ _ _)
      | (with_reducible exact LeO.refl _)
      | (with_reducible exact LeO.none _)
      | (with_reducible refine LeO.ite ?_ ?_)
      | (with_reducible refine LeO.bind ?_ (fun _ => ?_))
      | exact ih0 _ _ _ _ _ _
      | exact walk_walker_beside.mono _ _ _ _ _
      | exact walk_walker_last.mono _ _ _ _
      | exact walk_walker_next.mono _ _ _ _
      | exact walk_walker_over.mono _ _ _ _
      | exact LeO.none _
      | refine LeO.ite ?_ ?_
      | refine LeO.bind ?_ (fun _ => ?_)
set_option maxHeartbeats 8000000 in
set_option maxRecDepth 100000 in
theorem walk_walker_step.calls (k : Nat) (g : Nat) (s0_0 : List (S35)) (s0_1 : Bool) (a1 : Int) (a2 : Int) (r1 : Int) (r2 : Bool) (w0 w : World) (hI : IsS98 w0 w g s0_0 s0_1) (hB : Below w0.heap.size w0 w) (h : walk_walker_step.f k s0_0 s0_1 a1 a2 = some (r1, r2)) :
    Calls Tryd.prog 49 #[.pointer (some ⟨g, 0, none⟩), .int .i64 a1, .int .i64 a2] w fun e w' => e = .returned (.int .i64 r1) ∧ IsS98 w0 w' g s0_0 r2 ∧ Below w0.heap.size w0 w' ∧ KeepBut w w' g none := by
  have HI0 := Aside0.mk hI
  have HK := Aside0.mk (KeepBut.refl w g none)
  have HL := Aside0.mk hB.size
  clear hI
  have HW0 := Aside0.mk hB.size
  have HB := Aside0.mk hB
  clear hB
  have H : (if a2 = 1 then ((walk_walker_next.f k s0_0 s0_1 a1).bind fun bt188 => (some (bt188.1, bt188.2))) else (if a2 = 2 then ((walk_walker_last.f k s0_0 s0_1 a1).bind fun bt190 => (some (bt190.1, bt190.2))) else (if a2 = 3 then ((walk_walker_over.f k s0_0 s0_1 a1).bind fun bt192 => (some (bt192.1, bt192.2))) else (if a2 = 4 then (walk_walker_step.j0 k a1 a2 a2 (a2 == 4) s0_0 s0_1) else (walk_walker_step.j0 k a1 a2 a2 (a2 == 5) s0_0 s0_1))))) = some (r1, r2) := h
  clear h
  by_cases c4 : a2 = 1
  · rw [if_pos c4] at H
    have c4b0 : (a2 == 1) = true := beq_iff_eq.mpr c4
    have c4b1 : (a2 != 1) = false := bne_eq_false_iff_eq.mpr c4
    clear c4
    replace H := Option.bind_eq_some_iff.mp H
    obtain ⟨⟨t188, t189⟩, A50, H⟩ := H
    replace H : (some (t188, t189)) = some (r1, r2) := H
    have A5 := Aside0.mk A50
    clear A50
    simp only [Option.some.injEq, Prod.mk.injEq] at H
    obtain ⟨rfl, rfl⟩ := H
    go_enter Tryd.func49, Tryd.ntmps49
    go_wp2_with (first | ((with_reducible refine gate_callee (f := 66) rfl ?_); refine goesL_ (some 12) rfl rfl Tryd.func66 (by kernel_rfl) rfl #[.pointer (some ⟨g, 0, none⟩), .int .i64 a1] rfl (by (try simp only [List.map_toArray, List.map_cons, List.map_nil]); first | done | rfl | (simp only [List.length_drop, List.length_take]; rfl)) ?_; (with_reducible refine (walk_walker_next.calls k g s0_0 s0_1 a1 t188 t189 w0 _ ?side1 ?side2 A5.out).mono ?_); (case side1 => repeat (first | (with_reducible first | exact HI0.out | apply IsS98.alloc | apply IsS98.drewN | apply IsS98.drew | apply IsS98.set_1) | exact HI0.out)); (case side2 => repeat (first | (with_reducible first | exact HB.out | apply below_alloc | apply pw_below_drewN | apply below_drew1 | refine below_set ?_ (IsS98.ge HI0.out)) | exact HB.out)); rintro e w6 ⟨rfl, hi, hb, hk⟩; refine ⟨_, rfl, ?_⟩; have n0_ := Aside0.mk (KeepBut.trans (by repeat (first | (with_reducible first | exact HK.out | apply KeepBut.set_ | apply keep_drewN | apply keep_drew | apply keep_alloc) | exact HK.out)) hk (.inl rfl)); have n1_ := Aside0.mk (hb); have n2_ := Aside0.mk (hi); clear HK; clear HB; clear HI0; have HK := n0_; have HB := n1_; have HI0 := n2_; clear n0_ n1_ n2_; (try clear hb); (try clear hb2); (try clear hk); (try clear hi)))
    go_ret
    exact ⟨by first | rfl | (simp [errW_none, errW_some] <;> rfl) | (simp [*, errW_none, errW_some] <;> rfl), by repeat (first | (with_reducible first | exact HI0.out | apply IsS98.alloc | apply IsS98.drewN | apply IsS98.drew | apply IsS98.set_1) | exact HI0.out), by repeat (first | (with_reducible first | exact HB.out | apply below_alloc | apply pw_below_drewN | apply below_drew1 | refine below_set ?_ (IsS98.ge HI0.out)) | exact HB.out), by repeat (first | (with_reducible first | exact HK.out | apply KeepBut.set_ | apply keep_drewN | apply keep_drew | apply keep_alloc) | exact HK.out)⟩
  · rw [if_neg c4] at H
    have c4b0 : (a2 == 1) = false := beq_eq_false_iff_ne.mpr c4
    have c4b1 : (a2 != 1) = true := bne_iff_ne.mpr c4
    by_cases c7 : a2 = 2
    · rw [if_pos c7] at H
      have c7b0 : (a2 == 2) = true := beq_iff_eq.mpr c7
      have c7b1 : (a2 != 2) = false := bne_eq_false_iff_eq.mpr c7
      clear c7
      replace H := Option.bind_eq_some_iff.mp H
      obtain ⟨⟨t190, t191⟩, A80, H⟩ := H
      replace H : (some (t190, t191)) = some (r1, r2) := H
      have A8 := Aside0.mk A80
      clear A80
      simp only [Option.some.injEq, Prod.mk.injEq] at H
      obtain ⟨rfl, rfl⟩ := H
      go_enter Tryd.func49, Tryd.ntmps49
      go_wp2_with (first | ((with_reducible refine gate_callee (f := 67) rfl ?_); refine goesL_ (some 17) rfl rfl Tryd.func67 (by kernel_rfl) rfl #[.pointer (some ⟨g, 0, none⟩), .int .i64 a1] rfl (by (try simp only [List.map_toArray, List.map_cons, List.map_nil]); first | done | rfl | (simp only [List.length_drop, List.length_take]; rfl)) ?_; (with_reducible refine (walk_walker_last.calls k g s0_0 s0_1 a1 t190 t191 w0 _ ?side1 ?side2 A8.out).mono ?_); (case side1 => repeat (first | (with_reducible first | exact HI0.out | apply IsS98.alloc | apply IsS98.drewN | apply IsS98.drew | apply IsS98.set_1) | exact HI0.out)); (case side2 => repeat (first | (with_reducible first | exact HB.out | apply below_alloc | apply pw_below_drewN | apply below_drew1 | refine below_set ?_ (IsS98.ge HI0.out)) | exact HB.out)); rintro e w9 ⟨rfl, hi, hb, hk⟩; refine ⟨_, rfl, ?_⟩; have n0_ := Aside0.mk (KeepBut.trans (by repeat (first | (with_reducible first | exact HK.out | apply KeepBut.set_ | apply keep_drewN | apply keep_drew | apply keep_alloc) | exact HK.out)) hk (.inl rfl)); have n1_ := Aside0.mk (hb); have n2_ := Aside0.mk (hi); clear HK; clear HB; clear HI0; have HK := n0_; have HB := n1_; have HI0 := n2_; clear n0_ n1_ n2_; (try clear hb); (try clear hb2); (try clear hk); (try clear hi)))
      go_ret
      exact ⟨by first | rfl | (simp [errW_none, errW_some] <;> rfl) | (simp [*, errW_none, errW_some] <;> rfl), by repeat (first | (with_reducible first | exact HI0.out | apply IsS98.alloc | apply IsS98.drewN | apply IsS98.drew | apply IsS98.set_1) | exact HI0.out), by repeat (first | (with_reducible first | exact HB.out | apply below_alloc | apply pw_below_drewN | apply below_drew1 | refine below_set ?_ (IsS98.ge HI0.out)) | exact HB.out), by repeat (first | (with_reducible first | exact HK.out | apply KeepBut.set_ | apply keep_drewN | apply keep_drew | apply keep_alloc) | exact HK.out)⟩
    · rw [if_neg c7] at H
      have c7b0 : (a2 == 2) = false := beq_eq_false_iff_ne.mpr c7
      have c7b1 : (a2 != 2) = true := bne_iff_ne.mpr c7
      by_cases c10 : a2 = 3
      · rw [if_pos c10] at H
        have c10b0 : (a2 == 3) = true := beq_iff_eq.mpr c10
        have c10b1 : (a2 != 3) = false := bne_eq_false_iff_eq.mpr c10
        clear c10
        replace H := Option.bind_eq_some_iff.mp H
        obtain ⟨⟨t192, t193⟩, A110, H⟩ := H
        replace H : (some (t192, t193)) = some (r1, r2) := H
        have A11 := Aside0.mk A110
        clear A110
        simp only [Option.some.injEq, Prod.mk.injEq] at H
        obtain ⟨rfl, rfl⟩ := H
        go_enter Tryd.func49, Tryd.ntmps49
        go_wp2_with (first | ((with_reducible refine gate_callee (f := 68) rfl ?_); refine goesL_ (some 22) rfl rfl Tryd.func68 (by kernel_rfl) rfl #[.pointer (some ⟨g, 0, none⟩), .int .i64 a1] rfl (by (try simp only [List.map_toArray, List.map_cons, List.map_nil]); first | done | rfl | (simp only [List.length_drop, List.length_take]; rfl)) ?_; (with_reducible refine (walk_walker_over.calls k g s0_0 s0_1 a1 t192 t193 w0 _ ?side1 ?side2 A11.out).mono ?_); (case side1 => repeat (first | (with_reducible first | exact HI0.out | apply IsS98.alloc | apply IsS98.drewN | apply IsS98.drew | apply IsS98.set_1) | exact HI0.out)); (case side2 => repeat (first | (with_reducible first | exact HB.out | apply below_alloc | apply pw_below_drewN | apply below_drew1 | refine below_set ?_ (IsS98.ge HI0.out)) | exact HB.out)); rintro e w12 ⟨rfl, hi, hb, hk⟩; refine ⟨_, rfl, ?_⟩; have n0_ := Aside0.mk (KeepBut.trans (by repeat (first | (with_reducible first | exact HK.out | apply KeepBut.set_ | apply keep_drewN | apply keep_drew | apply keep_alloc) | exact HK.out)) hk (.inl rfl)); have n1_ := Aside0.mk (hb); have n2_ := Aside0.mk (hi); clear HK; clear HB; clear HI0; have HK := n0_; have HB := n1_; have HI0 := n2_; clear n0_ n1_ n2_; (try clear hb); (try clear hb2); (try clear hk); (try clear hi)))
        go_ret
        exact ⟨by first | rfl | (simp [errW_none, errW_some] <;> rfl) | (simp [*, errW_none, errW_some] <;> rfl), by repeat (first | (with_reducible first | exact HI0.out | apply IsS98.alloc | apply IsS98.drewN | apply IsS98.drew | apply IsS98.set_1) | exact HI0.out), by repeat (first | (with_reducible first | exact HB.out | apply below_alloc | apply pw_below_drewN | apply below_drew1 | refine below_set ?_ (IsS98.ge HI0.out)) | exact HB.out), by repeat (first | (with_reducible first | exact HK.out | apply KeepBut.set_ | apply keep_drewN | apply keep_drew | apply keep_alloc) | exact HK.out)⟩
      · rw [if_neg c10] at H
        have c10b0 : (a2 == 3) = false := beq_eq_false_iff_ne.mpr c10
        have c10b1 : (a2 != 3) = true := bne_iff_ne.mpr c10
        have HC13 := Aside0.mk H
        clear H
        go_enter Tryd.func49, Tryd.ntmps49
        go_upto_if 23 with (fail)
        go_cut [23] (fun v23 wc => ∃ (kq : Nat) (x23_12 : Bool), v23 = .bool x23_12 ∧ Aside0 (walk_walker_step.j0 kq a1 a2 a2 x23_12 s0_0 s0_1 = some (r1, r2)) ∧ Aside0 (kq ≤ k) ∧ Aside0 (IsS98 w0 wc g s0_0 s0_1) ∧ Aside0 (KeepBut w wc g none) ∧ Aside0 (Below w0.heap.size w0 wc))
        case first =>
          have H := HC13.out
          clear HC13
          by_cases c14 : a2 = 4
          · rw [if_pos c14] at H
            have c14b0 : (a2 == 4) = true := beq_iff_eq.mpr c14
            have c14b1 : (a2 != 4) = false := bne_eq_false_iff_eq.mpr c14
            clear c14
            (first | rw [c14b0] | (simp only [i64_w, i32_w]; rw [c14b0]) | skip)
            have H' := Aside0.mk H
            clear H
            go_wp2
            go_meet
            case rel => exact ⟨_, ((a2 == 4)), (by first | rfl | (simp; done) | (simp [*]; done)), H', ⟨by first | omega | exact Nat.le_refl _⟩, ⟨by repeat (first | (with_reducible first | exact HI0.out | apply IsS98.alloc | apply IsS98.drewN | apply IsS98.drew | apply IsS98.set_1) | exact HI0.out)⟩, ⟨by repeat (first | (with_reducible first | exact HK.out | apply KeepBut.set_ | apply keep_drewN | apply keep_drew | apply keep_alloc) | exact HK.out)⟩, ⟨by repeat (first | (with_reducible first | exact HB.out | apply below_alloc | apply pw_below_drewN | apply below_drew1 | refine below_set ?_ (IsS98.ge HI0.out)) | exact HB.out)⟩⟩
          · rw [if_neg c14] at H
            have c14b0 : (a2 == 4) = false := beq_eq_false_iff_ne.mpr c14
            have c14b1 : (a2 != 4) = true := bne_iff_ne.mpr c14
            (first | rw [c14b0] | (simp only [i64_w, i32_w]; rw [c14b0]) | skip)
            have H' := Aside0.mk H
            clear H
            go_wp2
            go_meet
            case rel => exact ⟨_, ((a2 == 5)), (by first | rfl | (simp; done) | (simp [*]; done)), H', ⟨by first | omega | exact Nat.le_refl _⟩, ⟨by repeat (first | (with_reducible first | exact HI0.out | apply IsS98.alloc | apply IsS98.drewN | apply IsS98.drew | apply IsS98.set_1) | exact HI0.out)⟩, ⟨by repeat (first | (with_reducible first | exact HK.out | apply KeepBut.set_ | apply keep_drewN | apply keep_drew | apply keep_alloc) | exact HK.out)⟩, ⟨by repeat (first | (with_reducible first | exact HB.out | apply below_alloc | apply pw_below_drewN | apply below_drew1 | refine below_set ?_ (IsS98.ge HI0.out)) | exact HB.out)⟩⟩
        case rest =>
          clear HC13
          try clear c1
          try clear p2
          try clear c4
          try clear c4b0
          try clear c4b1
          try clear c6
          try clear c7
          try clear c7b0
          try clear c7b1
          try clear c10
          try clear c10b0
          try clear c10b1
          try clear c14
          try clear c14b0
          try clear c14b1
          obtain ⟨kq, x23_12, rfl, HA, HJ12, HI0, HK, HB⟩ := hcut
          cases kq with
          | zero => exact absurd HA.out (by simp [walk_walker_step.j0])
          | succ kj12 =>
            have H := HA.out
            clear HA
            simp only [walk_walker_step.j0] at H
            by_cases c15 : x23_12 = true
            · subst c15
              have H1 : ((walk_walker_kid.f s0_0 s0_1 a1 (a2 == 5)).bind fun bt194 => (some (bt194.1, bt194.2))) = some (r1, r2) := by rw [if_pos rfl] at H; exact H
              clear H
              have H := H1
              clear H1
              replace H := Option.bind_eq_some_iff.mp H
              obtain ⟨⟨t194, t195⟩, A160, H⟩ := H
              replace H : (some (t194, t195)) = some (r1, r2) := H
              have A16 := Aside0.mk A160
              clear A160
              simp only [Option.some.injEq, Prod.mk.injEq] at H
              obtain ⟨rfl, rfl⟩ := H
              go_wp2_with (first | ((with_reducible refine gate_callee (f := 69) rfl ?_); refine goesL_ (some 30) rfl rfl Tryd.func69 (by kernel_rfl) rfl #[.pointer (some ⟨g, 0, none⟩), .int .i64 a1, .bool (a2 == 5)] rfl (by (try simp only [List.map_toArray, List.map_cons, List.map_nil]); first | done | rfl | (simp only [List.length_drop, List.length_take]; rfl)) ?_; (with_reducible refine (walk_walker_kid.calls g s0_0 s0_1 a1 (a2 == 5) t194 t195 w0 _ ?side1 ?side2 A16.out).mono ?_); (case side1 => repeat (first | (with_reducible first | exact HI0.out | apply IsS98.alloc | apply IsS98.drewN | apply IsS98.drew | apply IsS98.set_1) | exact HI0.out)); (case side2 => repeat (first | (with_reducible first | exact HB.out | apply below_alloc | apply pw_below_drewN | apply below_drew1 | refine below_set ?_ (IsS98.ge HI0.out)) | exact HB.out)); rintro e w17 ⟨rfl, hi, hb, hk⟩; refine ⟨_, rfl, ?_⟩; have n0_ := Aside0.mk (KeepBut.trans (by repeat (first | (with_reducible first | exact HK.out | apply KeepBut.set_ | apply keep_drewN | apply keep_drew | apply keep_alloc) | exact HK.out)) hk (.inl rfl)); have n1_ := Aside0.mk (hb); have n2_ := Aside0.mk (hi); clear HK; clear HB; clear HI0; have HK := n0_; have HB := n1_; have HI0 := n2_; clear n0_ n1_ n2_; (try clear hb); (try clear hb2); (try clear hk); (try clear hi)))
              go_ret
              exact ⟨by first | rfl | (simp [errW_none, errW_some] <;> rfl) | (simp [*, errW_none, errW_some] <;> rfl), by repeat (first | (with_reducible first | exact HI0.out | apply IsS98.alloc | apply IsS98.drewN | apply IsS98.drew | apply IsS98.set_1) | exact HI0.out), by repeat (first | (with_reducible first | exact HB.out | apply below_alloc | apply pw_below_drewN | apply below_drew1 | refine below_set ?_ (IsS98.ge HI0.out)) | exact HB.out), by repeat (first | (with_reducible first | exact HK.out | apply KeepBut.set_ | apply keep_drewN | apply keep_drew | apply keep_alloc) | exact HK.out)⟩
            · replace c15 := Bool.eq_false_iff.mpr c15
              subst c15
              have H1 : (if a2 = 6 then ((walk_walker_beside.f kj12 s0_0 s0_1 a1 1).bind fun bt196 => (some (bt196.1, bt196.2))) else (if a2 = 7 then ((walk_walker_beside.f kj12 s0_0 s0_1 a1 (-1)).bind fun bt198 => (some (bt198.1, bt198.2))) else (if 0 ≤ a1 then (if a1 < (s0_0.length : Int) then (some ((rd_T35 s0_0 a1).f4, s0_1)) else (none)) else (none)))) = some (r1, r2) := by rw [if_neg (show ¬ (false = true) by decide)] at H; exact H
              clear H
              have H := H1
              clear H1
              by_cases c18 : a2 = 6
              · rw [if_pos c18] at H
                have c18b0 : (a2 == 6) = true := beq_iff_eq.mpr c18
                have c18b1 : (a2 != 6) = false := bne_eq_false_iff_eq.mpr c18
                clear c18
                replace H := Option.bind_eq_some_iff.mp H
                obtain ⟨⟨t196, t197⟩, A190, H⟩ := H
                replace H : (some (t196, t197)) = some (r1, r2) := H
                have A19 := Aside0.mk A190
                clear A190
                simp only [Option.some.injEq, Prod.mk.injEq] at H
                obtain ⟨rfl, rfl⟩ := H
                go_wp2_with (first | ((with_reducible refine gate_callee (f := 70) rfl ?_); refine goesL_ (some 35) rfl rfl Tryd.func70 (by kernel_rfl) rfl #[.pointer (some ⟨g, 0, none⟩), .int .i64 a1, .int .i64 1] rfl (by (try simp only [List.map_toArray, List.map_cons, List.map_nil]); first | done | rfl | (simp only [List.length_drop, List.length_take]; rfl)) ?_; (with_reducible refine (walk_walker_beside.calls kj12 g s0_0 s0_1 a1 1 t196 t197 w0 _ ?side1 ?side2 A19.out).mono ?_); (case side1 => repeat (first | (with_reducible first | exact HI0.out | apply IsS98.alloc | apply IsS98.drewN | apply IsS98.drew | apply IsS98.set_1) | exact HI0.out)); (case side2 => repeat (first | (with_reducible first | exact HB.out | apply below_alloc | apply pw_below_drewN | apply below_drew1 | refine below_set ?_ (IsS98.ge HI0.out)) | exact HB.out)); rintro e w20 ⟨rfl, hi, hb, hk⟩; refine ⟨_, rfl, ?_⟩; have n0_ := Aside0.mk (KeepBut.trans (by repeat (first | (with_reducible first | exact HK.out | apply KeepBut.set_ | apply keep_drewN | apply keep_drew | apply keep_alloc) | exact HK.out)) hk (.inl rfl)); have n1_ := Aside0.mk (hb); have n2_ := Aside0.mk (hi); clear HK; clear HB; clear HI0; have HK := n0_; have HB := n1_; have HI0 := n2_; clear n0_ n1_ n2_; (try clear hb); (try clear hb2); (try clear hk); (try clear hi)))
                go_ret
                exact ⟨by first | rfl | (simp [errW_none, errW_some] <;> rfl) | (simp [*, errW_none, errW_some] <;> rfl), by repeat (first | (with_reducible first | exact HI0.out | apply IsS98.alloc | apply IsS98.drewN | apply IsS98.drew | apply IsS98.set_1) | exact HI0.out), by repeat (first | (with_reducible first | exact HB.out | apply below_alloc | apply pw_below_drewN | apply below_drew1 | refine below_set ?_ (IsS98.ge HI0.out)) | exact HB.out), by repeat (first | (with_reducible first | exact HK.out | apply KeepBut.set_ | apply keep_drewN | apply keep_drew | apply keep_alloc) | exact HK.out)⟩
              · rw [if_neg c18] at H
                have c18b0 : (a2 == 6) = false := beq_eq_false_iff_ne.mpr c18
                have c18b1 : (a2 != 6) = true := bne_iff_ne.mpr c18
                by_cases c21 : a2 = 7
                · rw [if_pos c21] at H
                  have c21b0 : (a2 == 7) = true := beq_iff_eq.mpr c21
                  have c21b1 : (a2 != 7) = false := bne_eq_false_iff_eq.mpr c21
                  clear c21
                  replace H := Option.bind_eq_some_iff.mp H
                  obtain ⟨⟨t198, t199⟩, A220, H⟩ := H
                  replace H : (some (t198, t199)) = some (r1, r2) := H
                  have A22 := Aside0.mk A220
                  clear A220
                  simp only [Option.some.injEq, Prod.mk.injEq] at H
                  obtain ⟨rfl, rfl⟩ := H
                  go_wp2_with (first | ((with_reducible refine gate_callee (f := 70) rfl ?_); refine goesL_ (some 40) rfl rfl Tryd.func70 (by kernel_rfl) rfl #[.pointer (some ⟨g, 0, none⟩), .int .i64 a1, .int .i64 (-1)] rfl (by (try simp only [List.map_toArray, List.map_cons, List.map_nil]); first | done | rfl | (simp only [List.length_drop, List.length_take]; rfl)) ?_; (with_reducible refine (walk_walker_beside.calls kj12 g s0_0 s0_1 a1 (-1) t198 t199 w0 _ ?side1 ?side2 A22.out).mono ?_); (case side1 => repeat (first | (with_reducible first | exact HI0.out | apply IsS98.alloc | apply IsS98.drewN | apply IsS98.drew | apply IsS98.set_1) | exact HI0.out)); (case side2 => repeat (first | (with_reducible first | exact HB.out | apply below_alloc | apply pw_below_drewN | apply below_drew1 | refine below_set ?_ (IsS98.ge HI0.out)) | exact HB.out)); rintro e w23 ⟨rfl, hi, hb, hk⟩; refine ⟨_, rfl, ?_⟩; have n0_ := Aside0.mk (KeepBut.trans (by repeat (first | (with_reducible first | exact HK.out | apply KeepBut.set_ | apply keep_drewN | apply keep_drew | apply keep_alloc) | exact HK.out)) hk (.inl rfl)); have n1_ := Aside0.mk (hb); have n2_ := Aside0.mk (hi); clear HK; clear HB; clear HI0; have HK := n0_; have HB := n1_; have HI0 := n2_; clear n0_ n1_ n2_; (try clear hb); (try clear hb2); (try clear hk); (try clear hi)))
                  go_ret
                  exact ⟨by first | rfl | (simp [errW_none, errW_some] <;> rfl) | (simp [*, errW_none, errW_some] <;> rfl), by repeat (first | (with_reducible first | exact HI0.out | apply IsS98.alloc | apply IsS98.drewN | apply IsS98.drew | apply IsS98.set_1) | exact HI0.out), by repeat (first | (with_reducible first | exact HB.out | apply below_alloc | apply pw_below_drewN | apply below_drew1 | refine below_set ?_ (IsS98.ge HI0.out)) | exact HB.out), by repeat (first | (with_reducible first | exact HK.out | apply KeepBut.set_ | apply keep_drewN | apply keep_drew | apply keep_alloc) | exact HK.out)⟩
                · rw [if_neg c21] at H
                  have c21b0 : (a2 == 7) = false := beq_eq_false_iff_ne.mpr c21
                  have c21b1 : (a2 != 7) = true := bne_iff_ne.mpr c21
                  by_cases c24 : 0 ≤ a1
                  · rw [if_pos c24] at H
                    have c24b0 : decide (0 ≤ a1) = true := decide_eq_true c24
                    clear c24
                    by_cases c25 : a1 < (s0_0.length : Int)
                    · rw [if_pos c25] at H
                      have c25b0 : decide (a1 < (s0_0.length : Int)) = true := decide_eq_true c25
                      clear c25
                      simp only [Option.some.injEq, Prod.mk.injEq] at H
                      obtain ⟨rfl, rfl⟩ := H
                      obtain ⟨ASz26_0, cSz26_0, HGz26, hgz26, HSz26_0⟩ := HI0.out
                      have hcz26_0 := cellS98_0 HGz26
                      have hcz26_1 := cellS98_1 HGz26
                      have hfz26_1 := blk_frozen HGz26 1
                      clear HGz26 hgz26
                      have p200 : 0 ≤ (a1 : Int) := of_decide_eq_true (by first | (with_reducible assumption) | assumption)
                      have q200 : a1 < (s0_0.length : Int) := of_decide_eq_true (by first | (with_reducible assumption) | assumption)
                      obtain ⟨ad200, A200_2, c200_2, A200_5, c200_5, e200, hx200_0, hx200_1, hx200_2, hx200_3, hx200_4, hx200_5, hl200_2, hi200_2, hl200_5, hi200_5⟩ := at_T35 HSz26_0 a1 p200 q200
                      cases e200
                      replace hx200_0 := pw_cell_below HB.out hx200_0
                      replace hx200_1 := pw_cell_below HB.out hx200_1
                      replace hx200_2 := pw_cell_below HB.out hx200_2
                      replace hx200_3 := pw_cell_below HB.out hx200_3
                      replace hx200_4 := pw_cell_below HB.out hx200_4
                      replace hx200_5 := pw_cell_below HB.out hx200_5
                      have HR200_2 := Aside0.mk hi200_2
                      have HC200_2 := Aside0.mk hl200_2
                      clear hi200_2 hl200_2
                      have HR200_5 := Aside0.mk hi200_5
                      have HC200_5 := Aside0.mk hl200_5
                      clear hi200_5 hl200_5
                      replace p200 := eq_true p200
                      replace q200 := eq_true q200
                      go_wp2
                      go_ret
                      exact ⟨by first | rfl | (simp [errW_none, errW_some] <;> rfl) | (simp [*, errW_none, errW_some] <;> rfl), by repeat (first | (with_reducible first | exact HI0.out | apply IsS98.alloc | apply IsS98.drewN | apply IsS98.drew | apply IsS98.set_1) | exact HI0.out), by repeat (first | (with_reducible first | exact HB.out | apply below_alloc | apply pw_below_drewN | apply below_drew1 | refine below_set ?_ (IsS98.ge HI0.out)) | exact HB.out), by repeat (first | (with_reducible first | exact HK.out | apply KeepBut.set_ | apply keep_drewN | apply keep_drew | apply keep_alloc) | exact HK.out)⟩
                    · rw [if_neg c25] at H
                      exact absurd H (by simp)
                  · rw [if_neg c24] at H
                    exact absurd H (by simp)

/-! ### walk_Step: function 30 -/
/-- A literal row of numbers, read. -/
theorem lit_reads (w : World) (xs : List Int) (t : TypeId) (hm : xs.length ≤ 9223372036854775807) : Kd.C (Kd.int .i64) (w.alloc (.cells (nums .i64 xs).toArray t)) (some ⟨w.heap.size, 0, none⟩) xs.length xs :=
  Kd.C_of_reads (h1 := fun _ => rfl) (own_reads' (own_lit w 0 t .i64 xs (Nat.zero_le _) hm))
theorem nil_reads (w : World) : Kd.C (Kd.int .i64) w none 0 [] := ⟨rfl, by decide, fun h => absurd h (Nat.lt_irrefl 0)⟩
def walk_Step.f (k : Nat) (l : List S35) (q : Bool) (n how : Int) : Option (Int × Bool × Int) :=
  (walk_check.f k l q []).bind fun e => if e = 0 then (if how < 1 then some (0, false, 1) else if 8 < how then some (0, false, 1) else
    (walk_check.f k l q [n]).bind fun e2 => if e2 = 0 then (walk_walker_step.f k l q n how).bind fun b => some (if b.1 < 0 then 0 else b.1, decide (0 ≤ b.1), 0) else some (0, false, e2)) else some (0, false, e)
theorem walk_Step.mono (l : List S35) (q : Bool) (n how : Int) (k : Nat) : LeO (walk_Step.f k l q n how) (walk_Step.f (k + 1) l q n how) :=
  LeO.bind (walk_check.mono _ _ _ _) fun _ => LeO.ite (LeO.ite (LeO.refl _) (LeO.ite (LeO.refl _) (LeO.bind (walk_check.mono _ _ _ _) fun _ => LeO.ite (LeO.bind (walk_walker_step.mono _ _ _ _ _) fun _ => LeO.refl _) (LeO.refl _)))) (LeO.refl _)

set_option maxRecDepth 100000 in
set_option maxHeartbeats 4000000 in
theorem walk_Step.calls (k : Nat) (A0_0 : Option Addr) (c0_0 : Nat) (l0_0 : List S35) (a0_1 : Bool) (a1 : Int) (a2 : Int) (r1 : Int) (r2 : Bool) (r3 : Int) (w : World) (hr0_0 : Kd.C k35 w A0_0 l0_0.length l0_0) (hc0_0 : l0_0.length ≤ c0_0) (h : walk_Step.f k l0_0 a0_1 a1 a2 = some (r1, r2, r3)) :
    Calls Tryd.prog 30 #[.agg #[.slice A0_0 l0_0.length c0_0, .bool a0_1], .int .i64 a1, .int .i64 a2] w fun e w' => e = .returned (.tuple #[.int .i64 r1, .bool r2, .int .i64 r3]) ∧ Below w.heap.size w w' := by
  obtain ⟨e1, he1, h⟩ := Option.bind_eq_some_iff.1 h
  have hw0 := (Below.refl w.heap.size w).alloc (Nat.le_refl _) (.cells #[.slice A0_0 l0_0.length c0_0, .bool a0_1] 24)
  have HC1 : Hid (Calls Tryd.prog 28 #[.agg #[.slice A0_0 l0_0.length c0_0, .bool a0_1], .slice none 0 0] (w.alloc (.cells #[.slice A0_0 l0_0.length c0_0, .bool a0_1] 24)) (walk_check.Post (w.alloc (.cells #[.slice A0_0 l0_0.length c0_0, .bool a0_1] 24)) l0_0 a0_1 e1)) :=
    Lib.hid (walk_check.calls k A0_0 c0_0 l0_0 a0_1 none 0 [] e1 _ (Kd.C_below hr0_0 hw0) hc0_0 (nil_reads _) he1)
  have HK0 := Lib.hid (blk_new w (.cells #[.slice A0_0 l0_0.length c0_0, .bool a0_1] 24))
  have HR := Lib.hid hr0_0
  have HB0 := Lib.hid hw0
  clear hr0_0 hw0 he1
  by_cases h0 : e1 = 0
  · rw [if_pos h0] at h
    subst h0
    by_cases h1 : a2 < 1
    · rw [if_pos h1] at h
      have HE := Lib.hid (Option.some.inj h)
      clear h
      go_enter Tryd.func30, Tryd.ntmps30
      go_wp2_with fail
      refine HC1.out.mono ?_
      intro e w1 hP
      obtain ⟨g, rfl, _, hb⟩ := hP.1 rfl
      have HB1 := Lib.hid (HB0.out.trans (hb.mono (by simp)))
      clear hb hP
      go_wp2_with fail
      go_ret3
      obtain ⟨rfl, rfl, rfl⟩ := by simpa using HE.out
      exact ⟨rfl, HB1.out⟩
    rw [if_neg h1] at h
    by_cases h8 : 8 < a2
    · rw [if_pos h8] at h
      have HE := Lib.hid (Option.some.inj h)
      clear h
      go_enter Tryd.func30, Tryd.ntmps30
      go_wp2_with fail
      refine HC1.out.mono ?_
      intro e w1 hP
      obtain ⟨g, rfl, _, hb⟩ := hP.1 rfl
      have HB1 := Lib.hid (HB0.out.trans (hb.mono (by simp)))
      clear hb hP
      go_wp2_with fail
      go_ret3
      obtain ⟨rfl, rfl, rfl⟩ := by simpa using HE.out
      exact ⟨rfl, HB1.out⟩
    rw [if_neg h8] at h
    obtain ⟨e2, he2, h⟩ := Option.bind_eq_some_iff.1 h
    have HC2 : Hid (∀ W : World, Kd.C k35 W A0_0 l0_0.length l0_0 → Calls Tryd.prog 28 #[.agg #[.slice A0_0 l0_0.length c0_0, .bool a0_1], .slice (some ⟨W.heap.size, 0, none⟩) 1 1] (W.alloc (.cells #[.int .i64 a1] 3)) (walk_check.Post (W.alloc (.cells #[.int .i64 a1] 3)) l0_0 a0_1 e2)) :=
      Lib.hid (fun W hW => walk_check.calls k A0_0 c0_0 l0_0 a0_1 _ 1 [a1] e2 _ (Kd.C_below hW ((Below.refl _ W).alloc (Nat.le_refl _) _)) hc0_0 (lit_reads W [a1] 3 (by simp)) he2)
    clear he2
    by_cases hz : e2 = 0
    · rw [if_pos hz] at h
      subst hz
      obtain ⟨⟨b1, b2⟩, hst, h⟩ := Option.bind_eq_some_iff.1 h
      have HE := Lib.hid (Option.some.inj h)
      have HS := Lib.hid (fun g w0 W hI hB => walk_walker_step.calls k g l0_0 a0_1 a1 a2 b1 b2 w0 W hI hB hst)
      clear h hst
      by_cases hb1 : b1 < 0
      · go_enter Tryd.func30, Tryd.ntmps30
        go_wp2_with fail
        refine HC1.out.mono ?_
        intro e w1 hP
        obtain ⟨g, rfl, _, hb⟩ := hP.1 rfl
        have HB1 := Lib.hid (HB0.out.trans (hb.mono (by simp)))
        have hk := blk_below HK0.out hb
        have c0 := blk_cell hk 0
        have c1 := blk_cell hk 1
        simp only [List.getElem?_toArray, List.getElem?_cons_succ, List.getElem?_cons_zero] at c0 c1
        clear hb hP hk
        go_wp2_with fail
        refine (HC2.out _ (Kd.C_below HR.out HB1.out)).mono ?_
        intro e w2 hP
        obtain ⟨g2, rfl, hi, hb⟩ := hP.1 rfl
        have HI := Lib.hid hi
        have HB2 := Lib.hid hb
        have HB3 := Lib.hid ((HB1.out.alloc HB1.out.size _).trans (hb.mono (Nat.le_trans HB1.out.size (by simp))))
        clear hi hb hP c0 c1
        go_wp2_with fail
        refine (HS.out _ _ _ HI.out HB2.out).mono ?_
        rintro e w3 ⟨rfl, _, hb, _⟩
        have HB4 := Lib.hid ((HB1.out.alloc HB1.out.size _).trans (hb.mono (Nat.le_trans HB1.out.size (by simp))))
        clear hb
        go_wp2_with fail
        go_ret3
        have hE := HE.out
        rw [if_pos hb1] at hE
        simp only [Prod.mk.injEq] at hE
        obtain ⟨rfl, rfl, rfl⟩ := hE
        exact ⟨rfl, HB4.out⟩
      · go_enter Tryd.func30, Tryd.ntmps30
        go_wp2_with fail
        refine HC1.out.mono ?_
        intro e w1 hP
        obtain ⟨g, rfl, _, hb⟩ := hP.1 rfl
        have HB1 := Lib.hid (HB0.out.trans (hb.mono (by simp)))
        have hk := blk_below HK0.out hb
        have c0 := blk_cell hk 0
        have c1 := blk_cell hk 1
        simp only [List.getElem?_toArray, List.getElem?_cons_succ, List.getElem?_cons_zero] at c0 c1
        clear hb hP hk
        go_wp2_with fail
        refine (HC2.out _ (Kd.C_below HR.out HB1.out)).mono ?_
        intro e w2 hP
        obtain ⟨g2, rfl, hi, hb⟩ := hP.1 rfl
        have HI := Lib.hid hi
        have HB2 := Lib.hid hb
        have HB3 := Lib.hid ((HB1.out.alloc HB1.out.size _).trans (hb.mono (Nat.le_trans HB1.out.size (by simp))))
        clear hi hb hP c0 c1
        go_wp2_with fail
        refine (HS.out _ _ _ HI.out HB2.out).mono ?_
        rintro e w3 ⟨rfl, _, hb, _⟩
        have HB4 := Lib.hid ((HB1.out.alloc HB1.out.size _).trans (hb.mono (Nat.le_trans HB1.out.size (by simp))))
        clear hb
        go_wp2_with fail
        go_ret3
        have hE := HE.out
        rw [if_neg (by omega), decide_eq_true (by omega)] at hE
        simp only [Prod.mk.injEq] at hE
        obtain ⟨rfl, rfl, rfl⟩ := hE
        exact ⟨rfl, HB4.out⟩
    · rw [if_neg hz] at h
      have HE := Lib.hid (Option.some.inj h)
      clear h
      have hzb : (e2 != 0) = true := by simpa using hz
      go_enter Tryd.func30, Tryd.ntmps30
      go_wp2_with fail
      refine HC1.out.mono ?_
      intro e w1 hP
      obtain ⟨g, rfl, _, hb⟩ := hP.1 rfl
      have HB1 := Lib.hid (HB0.out.trans (hb.mono (by simp)))
      have hk := blk_below HK0.out hb
      have c0 := blk_cell hk 0
      have c1 := blk_cell hk 1
      simp only [List.getElem?_toArray, List.getElem?_cons_succ, List.getElem?_cons_zero] at c0 c1
      clear hb hP hk
      go_wp2_with fail
      refine (HC2.out _ (Kd.C_below HR.out HB1.out)).mono ?_
      intro e w2 hP
      obtain ⟨rfl, hb⟩ := hP.2 hz
      have HB3 := Lib.hid ((HB1.out.alloc HB1.out.size _).trans (hb.mono (Nat.le_trans HB1.out.size (by simp))))
      clear hb hP c0 c1
      go_wp2_with fail
      go_ret3
      obtain ⟨rfl, rfl, rfl⟩ := by simpa using HE.out
      exact ⟨rfl, HB3.out⟩
  · rw [if_neg h0] at h
    have HE := Lib.hid (Option.some.inj h)
    clear h
    have h0b : (e1 != 0) = true := by simpa using h0
    have h0c : (e1 == 0) = false := by simpa using h0
    go_enter Tryd.func30, Tryd.ntmps30
    go_wp2_with fail
    refine HC1.out.mono ?_
    intro e w1 hP
    obtain ⟨rfl, hb⟩ := hP.2 h0
    have HB1 := Lib.hid (HB0.out.trans (hb.mono (by simp)))
    clear hb hP
    go_wp2_with fail
    go_ret3
    obtain ⟨rfl, rfl, rfl⟩ := by simpa using HE.out
    exact ⟨rfl, HB1.out⟩

/-! ### walk_Before: function 31 -/
/-- Two ways down: the first of them ahead of the other one? pr: the last number that both have. -/
def walk_Before.go (k : Nat) (l : List S35) : Option Int → List Int → List Int → Option Bool
  | pr, p :: ps, q :: qs => if p = q then walk_Before.go k l (some p) ps qs else match pr with
    | none => none
    | some m => if 0 ≤ m ∧ m < l.length then (slices_Index_int_int.f k (rd_T35 l m).f5 p).bind fun a => (slices_Index_int_int.f k (rd_T35 l m).f5 q).bind fun b => some (decide (a < b)) else none
  | _, [], qs => some (decide (0 < qs.length))
  | _, _ :: _, [] => some false
def walk_Before.f (k : Nat) (l : List S35) (q : Bool) (a b : Int) : Option (Bool × Int) :=
  (walk_check.f k l q [a, b]).bind fun e => if e = 0 then (walk_walker_path.f k l q a).bind fun pa => (walk_walker_path.f k l q b).bind fun pb => (walk_Before.go k l none pa.1 pb.1).bind fun r => some (r, 0) else some (false, e)
theorem walk_Before.go_mono (k : Nat) (l : List S35) : ∀ (ps qs : List Int) (pr : Option Int), LeO (walk_Before.go k l pr ps qs) (walk_Before.go (k + 1) l pr ps qs)
  | p :: ps, q :: qs, pr => by
    simp only [walk_Before.go]
    refine LeO.ite (walk_Before.go_mono k l ps qs _) ?_
    cases pr with
    | none => exact LeO.refl _
    | some m => exact LeO.ite (LeO.bind (slices_Index_int_int.mono _ _ _) fun _ => LeO.bind (slices_Index_int_int.mono _ _ _) fun _ => LeO.refl _) (LeO.refl _)
  | [], qs, pr => by cases qs <;> exact LeO.refl _
  | _ :: _, [], pr => LeO.refl _
theorem walk_Before.mono (l : List S35) (q : Bool) (a b : Int) (k : Nat) : LeO (walk_Before.f k l q a b) (walk_Before.f (k + 1) l q a b) :=
  LeO.bind (walk_check.mono _ _ _ _) fun _ => LeO.ite (LeO.bind (walk_walker_path.mono _ _ _ _) fun _ => LeO.bind (walk_walker_path.mono _ _ _ _) fun _ => LeO.bind (walk_Before.go_mono _ _ _ _ _) fun _ => LeO.refl _) (LeO.refl _)
theorem walk_Before.go_end (k : Nat) (l : List S35) (pr : Option Int) : ∀ (ps qs : List Int), ps = [] ∨ qs = [] → walk_Before.go k l pr ps qs = some (decide (ps.length < qs.length))
  | [], qs, _ => by cases qs <;> rfl
  | _ :: _, [], _ => by simp [walk_Before.go]
  | _ :: _, _ :: _, h => by simp at h
/-- What lies ahead of place i. -/
def prevOf (ps : List Int) (i : Nat) : Option Int := if i = 0 then none else some (rd ps ((i : Int) - 1))

theorem quiet_drawn {P : Program} {f : FuncId} {args : Array Value} {w : World} {n : Nat} {v : Value} (h : Calls P f args (w.drewN n) fun e w' => e = .returned v ∧ Drawn0 (w.drewN n) w') :
    Calls P f args (w.drewN n) fun e w' => e = .returned v ∧ ∃ m, w' = w.drewN m :=
  h.mono fun _ _ hh => ⟨hh.1, by obtain ⟨m, hm⟩ := hh.2.out; exact ⟨n + m, by rw [hm, World.drewN_drewN]⟩⟩
theorem quiet_drawn2 {P : Program} {f : FuncId} {args : Array Value} {w : World} {a n : Nat} {v : Value} (h : Calls P f args (w.drewN (a + n)) fun e w' => e = .returned v ∧ Drawn0 (w.drewN (a + n)) w') :
    Calls P f args (w.drewN (a + n)) fun e w' => e = .returned v ∧ ∃ m, w' = w.drewN (a + m) :=
  h.mono fun _ _ hh => ⟨hh.1, by obtain ⟨m, hm⟩ := hh.2.out; exact ⟨n + m, by rw [hm, World.drewN_drewN, Nat.add_assoc]⟩⟩

set_option maxRecDepth 100000 in
set_option maxHeartbeats 4000000 in
theorem walk_Before.calls (k : Nat) (A0_0 : Option Addr) (c0_0 : Nat) (l0_0 : List S35) (a0_1 : Bool) (a1 : Int) (a2 : Int) (r1 : Bool) (r2 : Int) (w : World) (hr0_0 : Kd.C k35 w A0_0 l0_0.length l0_0) (hc0_0 : l0_0.length ≤ c0_0) (h : walk_Before.f k l0_0 a0_1 a1 a2 = some (r1, r2)) :
    Calls Tryd.prog 31 #[.agg #[.slice A0_0 l0_0.length c0_0, .bool a0_1], .int .i64 a1, .int .i64 a2] w fun e w' => e = .returned (.tuple #[.bool r1, .int .i64 r2]) ∧ Below w.heap.size w w' := by
  obtain ⟨e1, he1, h⟩ := Option.bind_eq_some_iff.1 h
  have hw0 := (Below.refl w.heap.size w).alloc (Nat.le_refl _) (.cells #[.slice A0_0 l0_0.length c0_0, .bool a0_1] 24)
  obtain ⟨w1, hw1⟩ : ∃ w1, w1 = ((w.alloc (.cells #[.slice A0_0 l0_0.length c0_0, .bool a0_1] 24)).alloc (.cells #[.int .i64 a1, .int .i64 a2] 3)) := ⟨_, rfl⟩
  have hb1 : Below w.heap.size w w1 := by rw [hw1]; exact hw0.alloc hw0.size _
  have hL : Kd.C (Kd.int .i64) w1 (some ⟨w.heap.size + 1, 0, none⟩) [a1, a2].length [a1, a2] := by
    rw [hw1, show w.heap.size + 1 = (w.alloc (.cells #[.slice A0_0 l0_0.length c0_0, .bool a0_1] 24)).heap.size from by simp]
    exact lit_reads (w.alloc (.cells #[.slice A0_0 l0_0.length c0_0, .bool a0_1] 24)) [a1, a2] 3 (by simp)
  have hC1 := walk_check.calls k A0_0 c0_0 l0_0 a0_1 _ 2 [a1, a2] e1 w1 (Kd.C_below hr0_0 hb1) hc0_0 hL he1
  rw [show [a1, a2].length = 2 from rfl] at hC1
  have HC1 := Lib.hid hC1
  clear hL hC1
  have HR : Hid (Kd.C k35 w1 A0_0 l0_0.length l0_0) := Lib.hid (Kd.C_below hr0_0 hb1)
  have HB1 := Lib.hid hb1
  have HW1 := Lib.hid hw1
  clear hr0_0 hw0 he1 hb1 hw1
  by_cases h0 : e1 = 0
  · rw [if_pos h0] at h
    subst h0
    obtain ⟨⟨ps, q1⟩, hp, h⟩ := Option.bind_eq_some_iff.1 h
    obtain ⟨⟨qs, q2⟩, hq, h⟩ := Option.bind_eq_some_iff.1 h
    obtain ⟨r, hg, h⟩ := Option.bind_eq_some_iff.1 h
    have he := Option.some.inj h
    simp only [Prod.mk.injEq] at he
    obtain ⟨rfl, rfl⟩ := he
    have e1 := walk_path_q k _ _ _ _ _ _ (show walk_walker_path.l0 k a1 [] l0_0 a0_1 = some (ps, q1) from hp)
    subst e1
    have e2 := walk_path_q k _ _ _ _ _ _ (show walk_walker_path.l0 k a2 [] l0_0 q1 = some (qs, q2) from hq)
    subst e2
    have HG : Hid (walk_Before.go k l0_0 none ps qs = some r) := Lib.hid hg
    have HP1 := Lib.hid (fun g w0 W hI hB => walk_walker_path.calls k g l0_0 q2 a1 ps q2 w0 W hI hB hp)
    have HP2 := Lib.hid (fun g w0 W hI hB => walk_walker_path.calls k g l0_0 q2 a2 qs q2 w0 W hI hB hq)
    clear h hg hp hq
    go_enter Tryd.func31, Tryd.ntmps31
    go_wp2_with fail
    rw [← HW1.out]
    with_reducible refine HC1.out.mono ?_
    intro e w2 hP
    obtain ⟨g, rfl, hi, hb⟩ := hP.1 rfl
    have HI := Lib.hid hi
    have HB2 := Lib.hid hb
    clear hi hb hP
    go_wp2_with fail
    refine (HP1.out _ _ _ HI.out HB2.out).mono ?_
    rintro e w3 ⟨v1, rfl, hv1, hi3, hb3, _⟩
    have HI3 := Lib.hid hi3
    have HB3 := Lib.hid hb3
    have HV1 := Lib.hid hv1
    clear hi3 hb3 hv1
    go_wp2_with fail
    refine (HP2.out _ _ _ HI3.out HB3.out).mono ?_
    rintro e w4 ⟨v2, rfl, hv2, hi4, hb4, hk4⟩
    obtain ⟨B, cb, rfl, hlb, hCB⟩ := Kd.R_reads hv2
    have hlt := HI.out.lt
    obtain ⟨A, ca, rfl, hla, hCA⟩ := Kd.R_reads (Kd.R_keep (Kd.R_mono (ok' := fun k => w2.heap.size ≤ k) (Kd.R_bound HV1.out) (fun _ hk => hk.2.1)) hk4 (fun _ hk => by omega))
    have HI4 := Lib.hid hi4
    have HB4 := Lib.hid hb4
    have HCA := Lib.hid hCA
    have HCB := Lib.hid hCB
    have hna : ps.length ≤ 9223372036854775807 := hCA.2.1
    have hnb : qs.length ≤ 9223372036854775807 := hCB.2.1
    clear hi4 hb4 hv2 hk4 hCA hCB hla hlb hlt
    have HBW : Hid (Below w.heap.size w w4) := Lib.hid (HB1.out.trans (HB4.out.mono HB1.out.size))
    obtain ⟨m, hm⟩ : ∃ m, m = min ps.length qs.length := ⟨_, rfl⟩
    obtain ⟨np, hnp⟩ : ∃ n, n = ps.length := ⟨_, rfl⟩
    obtain ⟨nq, hnq⟩ : ∃ n, n = qs.length := ⟨_, rfl⟩
    rw [← hnp, ← hnq] at hm ⊢
    rw [← hnp] at hna HCA
    rw [← hnq] at hnb HCB
    have HNP := Lib.hid hnp
    have HNQ := Lib.hid hnq
    clear hnp hnq
    by_cases hpq : nq < np
    · obtain rfl : m = nq := by omega
      clear hm
      go_wp2_with fail
      go_loopw [36] (fun i wr => ∃ t : Nat, t ≤ m ∧ i = .int .i64 t ∧ Hid (walk_Before.go k l0_0 (prevOf ps t) (ps.drop t) (qs.drop t) = some r) ∧ Hid (∃ nd, wr = w4.drewN nd)) (fun i _ => m - (intOf i).toNat)
      case atStart => exact ⟨0, Nat.zero_le _, rfl, HG, Lib.hid ⟨0, rfl⟩⟩
      case round =>
        obtain ⟨t, ht, rfl, HT, HD⟩ := hrel
        by_cases hlt : t < m
        · obtain ⟨ada, rfl, ca0⟩ := Kd.at_int HCA.out (t : Int) (by omega) (by omega)
          obtain ⟨adb, rfl, cb0⟩ := Kd.at_int HCB.out (t : Int) (by omega) (by omega)
          rw [Int.toNat_natCast] at ca0 cb0
          have ca1 : wr.cell? (ada.add t) = some (.int .i64 (rd ps t)) := by obtain ⟨nd, hnd⟩ := HD.out; rw [hnd]; exact ca0
          have cb1 : wr.cell? (adb.add t) = some (.int .i64 (rd qs t)) := by obtain ⟨nd, hnd⟩ := HD.out; rw [hnd]; exact cb0
          clear ca0 cb0
          have HXp : Hid (ps.drop t = rd ps t :: ps.drop (t + 1)) := Lib.hid (by
            have hl := HNP.out
            rw [List.drop_eq_getElem_cons (by omega)]
            unfold rd; rw [Int.toNat_natCast, List.getD_eq_getElem?_getD, List.getElem?_eq_getElem (by omega)]; rfl)
          have HXq : Hid (qs.drop t = rd qs t :: qs.drop (t + 1)) := Lib.hid (by
            have hl := HNQ.out
            rw [List.drop_eq_getElem_cons (by omega)]
            unfold rd; rw [Int.toNat_natCast, List.getD_eq_getElem?_getD, List.getElem?_eq_getElem (by omega)]; rfl)
          have HXr : Hid (prevOf ps (t + 1) = some (rd ps t)) := Lib.hid (by unfold prevOf; rw [if_neg (by omega), show (((t + 1 : Nat) : Int) - 1) = (t : Int) from by omega])
          obtain ⟨p, hp⟩ : ∃ p, p = rd ps t := ⟨_, rfl⟩
          obtain ⟨q, hq⟩ : ∃ q, q = rd qs t := ⟨_, rfl⟩
          rw [← hp] at ca1 HXp HXr
          rw [← hq] at cb1 HXq
          clear hp hq
          have HT1 := HT.out
          rw [HXp.out, HXq.out] at HT1
          simp only [walk_Before.go] at HT1
          by_cases hpq : p = q
          · subst hpq
            rw [if_pos rfl, ← HXr.out] at HT1
            have HT2 := Lib.hid HT1
            clear HT1 HT
            have s0 : (0 : Int) ≤ (t : Int) := by omega
            have s1 : (t : Int) < (np : Int) := by omega
            have s2 : (t : Int) < (m : Int) := by omega
            go_wp2_with fail
            go_quiet (fail)
            go_wp2_with fail
            go_roundw
            case rel => exact ⟨t + 1, by omega, by go_num, HT2, Lib.hid (by obtain ⟨nd, hnd⟩ := HD.out; exact ⟨nd + _, by rw [hnd, World.drewN_drewN]⟩)⟩
            case measure => simp [intOf]; omega
          · rw [if_neg hpq] at HT1
            by_cases ht0 : t = 0
            · rw [show prevOf ps t = none from by unfold prevOf; rw [if_pos ht0]] at HT1
              exact absurd HT1 (by simp)
            have HPr : Hid (prevOf ps t = some (rd ps ((t : Int) - 1))) := Lib.hid (by unfold prevOf; rw [if_neg ht0])
            rw [HPr.out] at HT1
            simp only [] at HT1
            obtain ⟨adc, eac, cc0⟩ := Kd.at_int HCA.out ((t : Int) - 1) (by omega) (by omega)
            injection eac with eac
            subst eac
            have cc1 : wr.cell? (ada.add ((t : Int) - 1).toNat) = some (.int .i64 (rd ps ((t : Int) - 1))) := by obtain ⟨nd, hnd⟩ := HD.out; rw [hnd]; exact cc0
            have cc2 : wr.cell? (ada.add (t - 1)) = some (.int .i64 (rd ps ((t : Int) - 1))) := by rw [show t - 1 = ((t : Int) - 1).toNat from by omega]; exact cc1
            generalize rd ps ((t : Int) - 1) = m0 at *
            by_cases hm0 : 0 ≤ m0 ∧ m0 < l0_0.length
            rotate_left
            · rw [if_neg hm0] at HT1; exact absurd HT1 (by simp)
            rw [if_pos hm0] at HT1
            obtain ⟨hm1, hm2⟩ := hm0
            obtain ⟨ia, hia, HT1⟩ := Option.bind_eq_some_iff.1 HT1
            obtain ⟨ib, hib, HT1⟩ := Option.bind_eq_some_iff.1 HT1
            have HE : Hid (decide (ia < ib) = r) := Lib.hid (Option.some.inj HT1)
            obtain ⟨Ag, cg, hg, hge, hCg⟩ := HI4.out
            obtain ⟨adg, A2, c2, A5, c5, rfl, gx0, gx1, gx2, gx3, gx4, gx5, _, _, hl5, hi5⟩ := at_T35 hCg m0 hm1 hm2
            have cg1 : wr.cell? ⟨g, 0, none⟩ = some (.slice (some adg) l0_0.length cg) := by obtain ⟨nd, hnd⟩ := HD.out; rw [hnd]; exact blk_cell hg 0
            have cg2 : wr.cell? ⟨(adg.add (m0.toNat * 6)).block, (adg.add (m0.toNat * 6)).off + 5, none⟩ = some (.slice A5 (rd_T35 l0_0 m0).f5.length c5) := by obtain ⟨nd, hnd⟩ := HD.out; rw [hnd]; exact pw_cell_below HB4.out gx5
            have HK : Hid (∀ nn, Kd.C (Kd.int .i64) (wr.drewN nn) A5 (rd_T35 l0_0 m0).f5.length (rd_T35 l0_0 m0).f5) := Lib.hid (fun nn => by obtain ⟨nd, hnd⟩ := HD.out; rw [hnd]; exact Kd.C_drewN (Kd.C_drewN (Kd.C_below hi5 HB4.out) _) _)
            generalize (rd_T35 l0_0 m0).f5 = kids at *
            have HIA : Hid (∀ nn, Calls Tryd.prog 50 #[.slice A5 kids.length c5, .int .i64 p] (wr.drewN nn) fun e w' => e = .returned (.int .i64 ia) ∧ Drawn0 (wr.drewN nn) w') := Lib.hid (fun nn => slices_Index_int_int.calls k A5 c5 kids p ia _ (HK.out nn) hl5 hia)
            have HIB : Hid (∀ nn, Calls Tryd.prog 50 #[.slice A5 kids.length c5, .int .i64 q] (wr.drewN nn) fun e w' => e = .returned (.int .i64 ib) ∧ Drawn0 (wr.drewN nn) w') := Lib.hid (fun nn => slices_Index_int_int.calls k A5 c5 kids q ib _ (HK.out nn) hl5 hib)
            have hne : (p != q) = true := by simpa using hpq
            have s0 : (0 : Int) ≤ (t : Int) := by omega
            have s1 : (t : Int) < (np : Int) := by omega
            have s2 : (t : Int) < (m : Int) := by omega
            have s3 : (0 : Int) ≤ (t : Int) - 1 := by omega
            have s4 : (t : Int) - 1 < (np : Int) := by omega
            have s5 : (1 : Int) ≤ (t : Int) := by omega
            have HBr : Hid (Below w.heap.size w wr) := Lib.hid (by obtain ⟨nd, hnd⟩ := HD.out; rw [hnd]; exact pw_below_drewN HBW.out _)
            clear HT1 HT hia hib hg hge hCg gx0 gx1 gx2 gx3 gx4 gx5 hi5 hl5 cc0 HI3 HI HK
            have sw : IntKind.i64.wrap ((t : Int) - 1) = (t : Int) - 1 := IntWalk.i64_in _ (by omega)
            go_wp2_with fail
            go_quiet (fail)
            go_wp2_with fail
            go_quiet (fail)
            go_wp2_with fail
            generalize hw6 : World.drewN (World.drewN wr _) _ = w6
            have ca2 : w6.cell? (ada.add t) = some (.int .i64 p) := by rw [← hw6]; exact ca1
            have cb2 : w6.cell? (adb.add t) = some (.int .i64 q) := by rw [← hw6]; exact cb1
            have HIA6 : Hid (∀ nn, Calls Tryd.prog 50 #[.slice A5 kids.length c5, .int .i64 p] (w6.drewN nn) fun e w' => e = .returned (.int .i64 ia) ∧ Drawn0 (w6.drewN nn) w') := Lib.hid (fun nn => by rw [← hw6, World.drewN_drewN, World.drewN_drewN]; exact HIA.out _)
            have HIB6 : Hid (∀ nn, Calls Tryd.prog 50 #[.slice A5 kids.length c5, .int .i64 q] (w6.drewN nn) fun e w' => e = .returned (.int .i64 ib) ∧ Drawn0 (w6.drewN nn) w') := Lib.hid (fun nn => by rw [← hw6, World.drewN_drewN, World.drewN_drewN]; exact HIB.out _)
            have HB6 : Hid (Below w.heap.size w w6) := Lib.hid (by rw [← hw6]; exact pw_below_drewN (pw_below_drewN HBr.out _) _)
            clear hw6 ca1 cb1 cc1 cc2 cg1 cg2 HIA HIB
            go_quiet ((go_at_call 50; first | with_reducible exact quiet_drawn (HIA6.out _) | with_reducible exact quiet_drawn (HIB6.out _)))
            go_wp2_with fail
            go_ret2
            exact ⟨by rw [← HE.out]; rfl, pw_below_drewN HB6.out _⟩
        · obtain rfl : t = m := by omega
          have HE : Hid (decide (np < t) = r) := Lib.hid (by
            have h1 := HT.out
            rw [walk_Before.go_end _ _ _ _ _ (.inr (List.drop_eq_nil_of_le (by have := HNQ.out; omega)))] at h1
            have h2 := Option.some.inj h1
            rw [← h2]
            congr 1
            rw [List.length_drop, List.length_drop, ← HNP.out, ← HNQ.out]
            exact propext ⟨fun _ => by omega, fun _ => by omega⟩)
          have HBr : Hid (Below w.heap.size w wr) := Lib.hid (by obtain ⟨nd, hnd⟩ := HD.out; rw [hnd]; exact pw_below_drewN HBW.out _)
          clear hpq
          go_wp2_with fail
          go_ret2
          exact ⟨by rw [← HE.out]; rfl, HBr.out⟩
    · obtain rfl : m = np := by omega
      clear hm
      go_wp2_with fail
      go_loopw [36] (fun i wr => ∃ t : Nat, t ≤ m ∧ i = .int .i64 t ∧ Hid (walk_Before.go k l0_0 (prevOf ps t) (ps.drop t) (qs.drop t) = some r) ∧ Hid (∃ nd, wr = w4.drewN nd)) (fun i _ => m - (intOf i).toNat)
      case atStart => exact ⟨0, Nat.zero_le _, rfl, HG, Lib.hid ⟨0, rfl⟩⟩
      case round =>
        obtain ⟨t, ht, rfl, HT, HD⟩ := hrel
        by_cases hlt : t < m
        · obtain ⟨ada, rfl, ca0⟩ := Kd.at_int HCA.out (t : Int) (by omega) (by omega)
          obtain ⟨adb, rfl, cb0⟩ := Kd.at_int HCB.out (t : Int) (by omega) (by omega)
          rw [Int.toNat_natCast] at ca0 cb0
          have ca1 : wr.cell? (ada.add t) = some (.int .i64 (rd ps t)) := by obtain ⟨nd, hnd⟩ := HD.out; rw [hnd]; exact ca0
          have cb1 : wr.cell? (adb.add t) = some (.int .i64 (rd qs t)) := by obtain ⟨nd, hnd⟩ := HD.out; rw [hnd]; exact cb0
          clear ca0 cb0
          have HXp : Hid (ps.drop t = rd ps t :: ps.drop (t + 1)) := Lib.hid (by
            have hl := HNP.out
            rw [List.drop_eq_getElem_cons (by omega)]
            unfold rd; rw [Int.toNat_natCast, List.getD_eq_getElem?_getD, List.getElem?_eq_getElem (by omega)]; rfl)
          have HXq : Hid (qs.drop t = rd qs t :: qs.drop (t + 1)) := Lib.hid (by
            have hl := HNQ.out
            rw [List.drop_eq_getElem_cons (by omega)]
            unfold rd; rw [Int.toNat_natCast, List.getD_eq_getElem?_getD, List.getElem?_eq_getElem (by omega)]; rfl)
          have HXr : Hid (prevOf ps (t + 1) = some (rd ps t)) := Lib.hid (by unfold prevOf; rw [if_neg (by omega), show (((t + 1 : Nat) : Int) - 1) = (t : Int) from by omega])
          obtain ⟨p, hp⟩ : ∃ p, p = rd ps t := ⟨_, rfl⟩
          obtain ⟨q, hq⟩ : ∃ q, q = rd qs t := ⟨_, rfl⟩
          rw [← hp] at ca1 HXp HXr
          rw [← hq] at cb1 HXq
          clear hp hq
          have HT1 := HT.out
          rw [HXp.out, HXq.out] at HT1
          simp only [walk_Before.go] at HT1
          by_cases hpq : p = q
          · subst hpq
            rw [if_pos rfl, ← HXr.out] at HT1
            have HT2 := Lib.hid HT1
            clear HT1 HT
            have s0 : (0 : Int) ≤ (t : Int) := by omega
            have s1 : (t : Int) < (m : Int) := by omega
            have s2 : (t : Int) < (nq : Int) := by omega
            go_wp2_with fail
            go_quiet (fail)
            go_wp2_with fail
            go_roundw
            case rel => exact ⟨t + 1, by omega, by go_num, HT2, Lib.hid (by obtain ⟨nd, hnd⟩ := HD.out; exact ⟨nd + _, by rw [hnd, World.drewN_drewN]⟩)⟩
            case measure => simp [intOf]; omega
          · rw [if_neg hpq] at HT1
            by_cases ht0 : t = 0
            · rw [show prevOf ps t = none from by unfold prevOf; rw [if_pos ht0]] at HT1
              exact absurd HT1 (by simp)
            have HPr : Hid (prevOf ps t = some (rd ps ((t : Int) - 1))) := Lib.hid (by unfold prevOf; rw [if_neg ht0])
            rw [HPr.out] at HT1
            simp only [] at HT1
            obtain ⟨adc, eac, cc0⟩ := Kd.at_int HCA.out ((t : Int) - 1) (by omega) (by omega)
            injection eac with eac
            subst eac
            have cc1 : wr.cell? (ada.add ((t : Int) - 1).toNat) = some (.int .i64 (rd ps ((t : Int) - 1))) := by obtain ⟨nd, hnd⟩ := HD.out; rw [hnd]; exact cc0
            have cc2 : wr.cell? (ada.add (t - 1)) = some (.int .i64 (rd ps ((t : Int) - 1))) := by rw [show t - 1 = ((t : Int) - 1).toNat from by omega]; exact cc1
            generalize rd ps ((t : Int) - 1) = m0 at *
            by_cases hm0 : 0 ≤ m0 ∧ m0 < l0_0.length
            rotate_left
            · rw [if_neg hm0] at HT1; exact absurd HT1 (by simp)
            rw [if_pos hm0] at HT1
            obtain ⟨hm1, hm2⟩ := hm0
            obtain ⟨ia, hia, HT1⟩ := Option.bind_eq_some_iff.1 HT1
            obtain ⟨ib, hib, HT1⟩ := Option.bind_eq_some_iff.1 HT1
            have HE : Hid (decide (ia < ib) = r) := Lib.hid (Option.some.inj HT1)
            obtain ⟨Ag, cg, hg, hge, hCg⟩ := HI4.out
            obtain ⟨adg, A2, c2, A5, c5, rfl, gx0, gx1, gx2, gx3, gx4, gx5, _, _, hl5, hi5⟩ := at_T35 hCg m0 hm1 hm2
            have cg1 : wr.cell? ⟨g, 0, none⟩ = some (.slice (some adg) l0_0.length cg) := by obtain ⟨nd, hnd⟩ := HD.out; rw [hnd]; exact blk_cell hg 0
            have cg2 : wr.cell? ⟨(adg.add (m0.toNat * 6)).block, (adg.add (m0.toNat * 6)).off + 5, none⟩ = some (.slice A5 (rd_T35 l0_0 m0).f5.length c5) := by obtain ⟨nd, hnd⟩ := HD.out; rw [hnd]; exact pw_cell_below HB4.out gx5
            have HK : Hid (∀ nn, Kd.C (Kd.int .i64) (wr.drewN nn) A5 (rd_T35 l0_0 m0).f5.length (rd_T35 l0_0 m0).f5) := Lib.hid (fun nn => by obtain ⟨nd, hnd⟩ := HD.out; rw [hnd]; exact Kd.C_drewN (Kd.C_drewN (Kd.C_below hi5 HB4.out) _) _)
            generalize (rd_T35 l0_0 m0).f5 = kids at *
            have HIA : Hid (∀ nn, Calls Tryd.prog 50 #[.slice A5 kids.length c5, .int .i64 p] (wr.drewN nn) fun e w' => e = .returned (.int .i64 ia) ∧ Drawn0 (wr.drewN nn) w') := Lib.hid (fun nn => slices_Index_int_int.calls k A5 c5 kids p ia _ (HK.out nn) hl5 hia)
            have HIB : Hid (∀ nn, Calls Tryd.prog 50 #[.slice A5 kids.length c5, .int .i64 q] (wr.drewN nn) fun e w' => e = .returned (.int .i64 ib) ∧ Drawn0 (wr.drewN nn) w') := Lib.hid (fun nn => slices_Index_int_int.calls k A5 c5 kids q ib _ (HK.out nn) hl5 hib)
            have hne : (p != q) = true := by simpa using hpq
            have s0 : (0 : Int) ≤ (t : Int) := by omega
            have s1 : (t : Int) < (m : Int) := by omega
            have s2 : (t : Int) < (nq : Int) := by omega
            have s3 : (0 : Int) ≤ (t : Int) - 1 := by omega
            have s4 : (t : Int) - 1 < (m : Int) := by omega
            have s5 : (1 : Int) ≤ (t : Int) := by omega
            have HBr : Hid (Below w.heap.size w wr) := Lib.hid (by obtain ⟨nd, hnd⟩ := HD.out; rw [hnd]; exact pw_below_drewN HBW.out _)
            clear HT1 HT hia hib hg hge hCg gx0 gx1 gx2 gx3 gx4 gx5 hi5 hl5 cc0 HI3 HI HK
            have sw : IntKind.i64.wrap ((t : Int) - 1) = (t : Int) - 1 := IntWalk.i64_in _ (by omega)
            go_wp2_with fail
            go_quiet (fail)
            go_wp2_with fail
            go_quiet (fail)
            go_wp2_with fail
            generalize hw6 : World.drewN (World.drewN wr _) _ = w6
            have ca2 : w6.cell? (ada.add t) = some (.int .i64 p) := by rw [← hw6]; exact ca1
            have cb2 : w6.cell? (adb.add t) = some (.int .i64 q) := by rw [← hw6]; exact cb1
            have HIA6 : Hid (∀ nn, Calls Tryd.prog 50 #[.slice A5 kids.length c5, .int .i64 p] (w6.drewN nn) fun e w' => e = .returned (.int .i64 ia) ∧ Drawn0 (w6.drewN nn) w') := Lib.hid (fun nn => by rw [← hw6, World.drewN_drewN, World.drewN_drewN]; exact HIA.out _)
            have HIB6 : Hid (∀ nn, Calls Tryd.prog 50 #[.slice A5 kids.length c5, .int .i64 q] (w6.drewN nn) fun e w' => e = .returned (.int .i64 ib) ∧ Drawn0 (w6.drewN nn) w') := Lib.hid (fun nn => by rw [← hw6, World.drewN_drewN, World.drewN_drewN]; exact HIB.out _)
            have HB6 : Hid (Below w.heap.size w w6) := Lib.hid (by rw [← hw6]; exact pw_below_drewN (pw_below_drewN HBr.out _) _)
            clear hw6 ca1 cb1 cc1 cc2 cg1 cg2 HIA HIB
            go_quiet ((go_at_call 50; first | with_reducible exact quiet_drawn (HIA6.out _) | with_reducible exact quiet_drawn (HIB6.out _)))
            go_wp2_with fail
            go_ret2
            exact ⟨by rw [← HE.out]; rfl, pw_below_drewN HB6.out _⟩
        · obtain rfl : t = m := by omega
          have HE : Hid (decide (t < nq) = r) := Lib.hid (by
            have h1 := HT.out
            rw [walk_Before.go_end _ _ _ _ _ (.inl (List.drop_eq_nil_of_le (by have := HNP.out; omega)))] at h1
            have h2 := Option.some.inj h1
            rw [← h2]
            congr 1
            rw [List.length_drop, List.length_drop, ← HNP.out, ← HNQ.out]
            exact propext ⟨fun _ => by omega, fun _ => by omega⟩)
          have HBr : Hid (Below w.heap.size w wr) := Lib.hid (by obtain ⟨nd, hnd⟩ := HD.out; rw [hnd]; exact pw_below_drewN HBW.out _)
          clear hpq
          go_wp2_with fail
          go_ret2
          exact ⟨by rw [← HE.out]; rfl, HBr.out⟩
  · rw [if_neg h0] at h
    have HE := Lib.hid (Option.some.inj h)
    clear h
    have h0b : (e1 != 0) = true := by simpa using h0
    go_enter Tryd.func31, Tryd.ntmps31
    go_wp2_with fail
    rw [← HW1.out]
    with_reducible refine HC1.out.mono ?_
    intro e w2 hP
    obtain ⟨rfl, hb⟩ := hP.2 h0
    have HB2 := Lib.hid (HB1.out.trans (hb.mono HB1.out.size))
    clear hb hP
    go_wp2_with fail
    go_ret2
    obtain ⟨rfl, rfl⟩ := by simpa using HE.out
    exact ⟨rfl, HB2.out⟩

end Go.Proofs.YtaojbobbjnibhaaDoor.PCM
