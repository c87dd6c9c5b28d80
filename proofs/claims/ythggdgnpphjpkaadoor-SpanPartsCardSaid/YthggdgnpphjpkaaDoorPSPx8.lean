-- printed by wip/tools/pr.py (own) through the kit's printer; texts GIVEN by hand stand among them
import Derived.Test.YthggdgnpphjpkaaDoorPSPx0
import Derived.Test.YthggdgnpphjpkaaDoorPSPx5
import Derived.Test.YthggdgnpphjpkaaDoorPSPx6
import Derived.Test.YthggdgnpphjpkaaDoorPSPx7
namespace Go.Proofs.YthggdgnpphjpkaaDoor.PSP
open Go.RowKit Go.Proofs.YthggdgnpphjpkaaDoorW.PrintWords Go.Proofs.YthggdgnpphjpkaaDoorW.PrintLast Go.Proofs.YthggdgnpphjpkaaDoorW.PrintMore
attribute [local go_sem] max2_int min2_int max_two min_two max_three min_three max_four min_four   -- for this text's walks alone
set_option linter.unusedVariables false
set_option linter.unusedSimpArgs false

/-! ### cmp_Compare_int: function 23 -/
def cmp_Compare_int.f (a0 : Int) (a1 : Int) : Option (Int) := (cmp_isNaN_int.f a0).bind fun t190 => ((cmp_isNaN_int.f a1).bind fun t191 => (if t190 = true then (if t191 = true then (some 0) else (some (-1))) else (if t191 = true then (some 1) else (if a0 < a1 then (some (-1)) else (if a0 > a1 then (some 1) else (some 0))))))
set_option maxHeartbeats 8000000 in
set_option maxRecDepth 100000 in
theorem cmp_Compare_int.calls (a0 : Int) (a1 : Int) (r : Int) (w : World) (h : cmp_Compare_int.f a0 a1 = some r) :
    Calls Tryd.prog 23 #[.int .i64 a0, .int .i64 a1] w fun e w' => e = .returned (.int .i64 r) ∧ Drawn0 w w' := by
  have H : ((cmp_isNaN_int.f a0).bind fun t190 => ((cmp_isNaN_int.f a1).bind fun t191 => (if t190 = true then (if t191 = true then (some 0) else (some (-1))) else (if t191 = true then (some 1) else (if a0 < a1 then (some (-1)) else (if a0 > a1 then (some 1) else (some 0))))))) = some r := h
  clear h
  replace H := Option.bind_eq_some_iff.mp H
  obtain ⟨t190, A30, H⟩ := H
  replace H : ((cmp_isNaN_int.f a1).bind fun t191 => (if t190 = true then (if t191 = true then (some 0) else (some (-1))) else (if t191 = true then (some 1) else (if a0 < a1 then (some (-1)) else (if a0 > a1 then (some 1) else (some 0)))))) = some r := H
  have A3 := Aside0.mk A30
  clear A30
  replace H := Option.bind_eq_some_iff.mp H
  obtain ⟨t191, A40, H⟩ := H
  replace H : (if t190 = true then (if t191 = true then (some 0) else (some (-1))) else (if t191 = true then (some 1) else (if a0 < a1 then (some (-1)) else (if a0 > a1 then (some 1) else (some 0))))) = some r := H
  have A4 := Aside0.mk A40
  clear A40
  by_cases c5 : t190 = true
  · subst c5
    have H1 : (if t191 = true then (some 0) else (some (-1))) = some r := by rw [if_pos rfl] at H; exact H
    clear H
    have H := H1
    clear H1
    by_cases c6 : t191 = true
    · subst c6
      have H1 : (some 0) = some r := by rw [if_pos rfl] at H; exact H
      clear H
      have H := H1
      clear H1
      obtain rfl := Option.some.inj H
      go_enter Tryd.func23, Tryd.ntmps23
      go_wp2_with (first | ((with_reducible refine gate_callee (f := 33) rfl ?_); refine goesL_ (some 8) rfl rfl Tryd.func33 (by kernel_rfl) rfl #[.int .i64 a0] rfl mp_ ?_; (with_reducible refine (cmp_isNaN_int.calls a0 true _ A3.out).mono ?_); rintro e w' ⟨rfl, ⟨nd, rfl⟩⟩; refine ⟨_, rfl, ?_⟩) | ((with_reducible refine gate_callee (f := 33) rfl ?_); refine goesL_ (some 10) rfl rfl Tryd.func33 (by kernel_rfl) rfl #[.int .i64 a1] rfl mp_ ?_; (with_reducible refine (cmp_isNaN_int.calls a1 true _ A4.out).mono ?_); rintro e w' ⟨rfl, ⟨nd, rfl⟩⟩; refine ⟨_, rfl, ?_⟩))
      go_ret
      exact ⟨by first | rfl | (simp; done) | (simp [*]; done), by repeat (first | exact Drawn0.refl _ | apply Drawn0.step)⟩
    · replace c6 := Bool.eq_false_iff.mpr c6
      subst c6
      have H1 : (some (-1)) = some r := by rw [if_neg (show ¬ (false = true) by decide)] at H; exact H
      clear H
      have H := H1
      clear H1
      obtain rfl := Option.some.inj H
      go_enter Tryd.func23, Tryd.ntmps23
      go_wp2_with (first | ((with_reducible refine gate_callee (f := 33) rfl ?_); refine goesL_ (some 8) rfl rfl Tryd.func33 (by kernel_rfl) rfl #[.int .i64 a0] rfl mp_ ?_; (with_reducible refine (cmp_isNaN_int.calls a0 true _ A3.out).mono ?_); rintro e w' ⟨rfl, ⟨nd, rfl⟩⟩; refine ⟨_, rfl, ?_⟩) | ((with_reducible refine gate_callee (f := 33) rfl ?_); refine goesL_ (some 10) rfl rfl Tryd.func33 (by kernel_rfl) rfl #[.int .i64 a1] rfl mp_ ?_; (with_reducible refine (cmp_isNaN_int.calls a1 false _ A4.out).mono ?_); rintro e w' ⟨rfl, ⟨nd, rfl⟩⟩; refine ⟨_, rfl, ?_⟩))
      go_ret
      exact ⟨by first | rfl | (simp; done) | (simp [*]; done), by repeat (first | exact Drawn0.refl _ | apply Drawn0.step)⟩
  · replace c5 := Bool.eq_false_iff.mpr c5
    subst c5
    have H1 : (if t191 = true then (some 1) else (if a0 < a1 then (some (-1)) else (if a0 > a1 then (some 1) else (some 0)))) = some r := by rw [if_neg (show ¬ (false = true) by decide)] at H; exact H
    clear H
    have H := H1
    clear H1
    by_cases c7 : t191 = true
    · subst c7
      have H1 : (some 1) = some r := by rw [if_pos rfl] at H; exact H
      clear H
      have H := H1
      clear H1
      obtain rfl := Option.some.inj H
      go_enter Tryd.func23, Tryd.ntmps23
      go_wp2_with (first | ((with_reducible refine gate_callee (f := 33) rfl ?_); refine goesL_ (some 8) rfl rfl Tryd.func33 (by kernel_rfl) rfl #[.int .i64 a0] rfl mp_ ?_; (with_reducible refine (cmp_isNaN_int.calls a0 false _ A3.out).mono ?_); rintro e w' ⟨rfl, ⟨nd, rfl⟩⟩; refine ⟨_, rfl, ?_⟩) | ((with_reducible refine gate_callee (f := 33) rfl ?_); refine goesL_ (some 10) rfl rfl Tryd.func33 (by kernel_rfl) rfl #[.int .i64 a1] rfl mp_ ?_; (with_reducible refine (cmp_isNaN_int.calls a1 true _ A4.out).mono ?_); rintro e w' ⟨rfl, ⟨nd, rfl⟩⟩; refine ⟨_, rfl, ?_⟩))
      go_ret
      exact ⟨by first | rfl | (simp; done) | (simp [*]; done), by repeat (first | exact Drawn0.refl _ | apply Drawn0.step)⟩
    · replace c7 := Bool.eq_false_iff.mpr c7
      subst c7
      have H1 : (if a0 < a1 then (some (-1)) else (if a0 > a1 then (some 1) else (some 0))) = some r := by rw [if_neg (show ¬ (false = true) by decide)] at H; exact H
      clear H
      have H := H1
      clear H1
      by_cases c8 : a0 < a1
      · rw [if_pos c8] at H
        have c8b0 : decide (a0 < a1) = true := decide_eq_true c8
        clear c8
        obtain rfl := Option.some.inj H
        go_enter Tryd.func23, Tryd.ntmps23
        go_wp2_with (first | ((with_reducible refine gate_callee (f := 33) rfl ?_); refine goesL_ (some 8) rfl rfl Tryd.func33 (by kernel_rfl) rfl #[.int .i64 a0] rfl mp_ ?_; (with_reducible refine (cmp_isNaN_int.calls a0 false _ A3.out).mono ?_); rintro e w' ⟨rfl, ⟨nd, rfl⟩⟩; refine ⟨_, rfl, ?_⟩) | ((with_reducible refine gate_callee (f := 33) rfl ?_); refine goesL_ (some 10) rfl rfl Tryd.func33 (by kernel_rfl) rfl #[.int .i64 a1] rfl mp_ ?_; (with_reducible refine (cmp_isNaN_int.calls a1 false _ A4.out).mono ?_); rintro e w' ⟨rfl, ⟨nd, rfl⟩⟩; refine ⟨_, rfl, ?_⟩))
        go_ret
        exact ⟨by first | rfl | (simp; done) | (simp [*]; done), by repeat (first | exact Drawn0.refl _ | apply Drawn0.step)⟩
      · rw [if_neg c8] at H
        have c8b0 : decide (a0 < a1) = false := decide_eq_false c8
        clear c8
        by_cases c9 : a0 > a1
        · rw [if_pos c9] at H
          have c9b0 : decide (a1 < a0) = true := decide_eq_true c9
          clear c9
          obtain rfl := Option.some.inj H
          go_enter Tryd.func23, Tryd.ntmps23
          go_wp2_with (first | ((with_reducible refine gate_callee (f := 33) rfl ?_); refine goesL_ (some 8) rfl rfl Tryd.func33 (by kernel_rfl) rfl #[.int .i64 a0] rfl mp_ ?_; (with_reducible refine (cmp_isNaN_int.calls a0 false _ A3.out).mono ?_); rintro e w' ⟨rfl, ⟨nd, rfl⟩⟩; refine ⟨_, rfl, ?_⟩) | ((with_reducible refine gate_callee (f := 33) rfl ?_); refine goesL_ (some 10) rfl rfl Tryd.func33 (by kernel_rfl) rfl #[.int .i64 a1] rfl mp_ ?_; (with_reducible refine (cmp_isNaN_int.calls a1 false _ A4.out).mono ?_); rintro e w' ⟨rfl, ⟨nd, rfl⟩⟩; refine ⟨_, rfl, ?_⟩))
          go_ret
          exact ⟨by first | rfl | (simp; done) | (simp [*]; done), by repeat (first | exact Drawn0.refl _ | apply Drawn0.step)⟩
        · rw [if_neg c9] at H
          have c9b0 : decide (a1 < a0) = false := decide_eq_false c9
          clear c9
          obtain rfl := Option.some.inj H
          go_enter Tryd.func23, Tryd.ntmps23
          go_wp2_with (first | ((with_reducible refine gate_callee (f := 33) rfl ?_); refine goesL_ (some 8) rfl rfl Tryd.func33 (by kernel_rfl) rfl #[.int .i64 a0] rfl mp_ ?_; (with_reducible refine (cmp_isNaN_int.calls a0 false _ A3.out).mono ?_); rintro e w' ⟨rfl, ⟨nd, rfl⟩⟩; refine ⟨_, rfl, ?_⟩) | ((with_reducible refine gate_callee (f := 33) rfl ?_); refine goesL_ (some 10) rfl rfl Tryd.func33 (by kernel_rfl) rfl #[.int .i64 a1] rfl mp_ ?_; (with_reducible refine (cmp_isNaN_int.calls a1 false _ A4.out).mono ?_); rintro e w' ⟨rfl, ⟨nd, rfl⟩⟩; refine ⟨_, rfl, ?_⟩))
          go_ret
          exact ⟨by first | rfl | (simp; done) | (simp [*]; done), by repeat (first | exact Drawn0.refl _ | apply Drawn0.step)⟩

/-! ### slices_Compare_int_int: function 24 -/
def slices_Compare_int_int.l0 : Nat → List Int → List Int → List Int → Int → Int → Option (Int)
  | 0, _, _, _, _, _ => none
  | k + 1, x0, x1, x9, x10, x11 => if x11 < x10 then (if 0 ≤ x11 then (if x11 < (x9.length : Int) then (if x11 ≥ (x1.length : Int) then (some 1) else (if x11 < (x1.length : Int) then ((cmp_Compare_int.f (rd x9 x11) (rd x1 x11)).bind fun t194 => (if t194 = 0 then (slices_Compare_int_int.l0 k x0 x1 x9 x10 (wrap64 (x11 + 1))) else (some t194))) else (none))) else (none)) else (none)) else (if (x0.length : Int) < (x1.length : Int) then (some (-1)) else (some 0))
def slices_Compare_int_int.f (k : Nat) (l0 : List Int) (l1 : List Int) : Option (Int) := slices_Compare_int_int.l0 k l0 l1 l0 (l0.length : Int) 0
theorem slices_Compare_int_int.mono_l : ∀ k, (∀ y0 y1 y2 y3 y4, LeO (slices_Compare_int_int.l0 k y0 y1 y2 y3 y4) (slices_Compare_int_int.l0 (k + 1) y0 y1 y2 y3 y4))
  | 0 => fun _ _ _ _ _ r h => by simp [slices_Compare_int_int.l0] at h
  | k + 1 => by
    have ih0 := slices_Compare_int_int.mono_l k
    · intro y0 y1 y2 y3 y4
      unfold slices_Compare_int_int.l0
      repeat' first
      | (with_reducible exact ih0 _ _ _ _ _)
      | (with_reducible exact LeO.refl _)
      | (with_reducible exact LeO.none _)
      | (with_reducible refine LeO.ite ?_ ?_)
      | (with_reducible refine LeO.bind ?_ (fun _ => ?_))
      | exact ih0 _ _ _ _ _
      | exact LeO.none _
      | refine LeO.ite ?_ ?_
      | refine LeO.bind ?_ (fun _ => ?_)
theorem slices_Compare_int_int.mono : ∀ a0 a1 k, LeO (slices_Compare_int_int.f k a0 a1) (slices_Compare_int_int.f (k + 1) a0 a1) := by
  intro a0 a1 k
  have ih0 := slices_Compare_int_int.mono_l k
  unfold slices_Compare_int_int.f
  repeat' first
      | (with_reducible exact ih0 _ _ _ _ _)
      | (with_reducible exact LeO.refl _)
      | (with_reducible exact LeO.none _)
      | (with_reducible refine LeO.ite ?_ ?_)
      | (with_reducible refine LeO.bind ?_ (fun _ => ?_))
      | exact ih0 _ _ _ _ _
      | exact LeO.none _
      | refine LeO.ite ?_ ?_
      | refine LeO.bind ?_ (fun _ => ?_)
set_option maxHeartbeats 8000000 in
set_option maxRecDepth 100000 in
theorem slices_Compare_int_int.calls (k : Nat) (A0 : Option Addr) (c0 : Nat) (l0 : List Int) (A1 : Option Addr) (c1 : Nat) (l1 : List Int) (r : Int) (w : World) (hr0 : Kd.C (Kd.int .i64) w A0 l0.length l0) (hc0 : l0.length ≤ c0) (hr1 : Kd.C (Kd.int .i64) w A1 l1.length l1) (hc1 : l1.length ≤ c1) (h : slices_Compare_int_int.f k l0 l1 = some r) :
    Calls Tryd.prog 24 #[.slice A0 l0.length c0, .slice A1 l1.length c1] w fun e w' => e = .returned (.int .i64 r) ∧ Drawn0 w w' := by
  have HR0 := Aside0.mk hr0
  have HC0 := Aside0.mk hc0
  clear hr0 hc0
  have HR1 := Aside0.mk hr1
  have HC1 := Aside0.mk hc1
  clear hr1 hc1
  have H : (slices_Compare_int_int.l0 k l0 l1 l0 (l0.length : Int) 0) = some r := h
  clear h
  have H' := Aside0.mk H
  clear H
  go_enter Tryd.func24, Tryd.ntmps24
  go_wp2
  go_loopg [11] k (fun kq v11 w' => ∃ (x11_1 : Int), v11 = .int .i64 x11_1 ∧ Aside0 (slices_Compare_int_int.l0 kq l0 l1 l0 (l0.length : Int) x11_1 = some r) ∧ Aside0 (kq ≤ k) ∧ Drawn0 w w')
  case atStart => exact ⟨(0), rs_, H', ⟨Nat.le_refl _⟩, by repeat (first | exact Drawn0.refl _ | apply Drawn0.step)⟩
  case round =>
    clear H'
    try clear c1
    try clear c2
    try clear p2
    obtain ⟨x11_1, rfl, HA, HK1, ⟨m1, rfl⟩⟩ := hrel
    cases gk with
    | zero => exact absurd HA.out (by simp [slices_Compare_int_int.l0])
    | succ k1 =>
      have H := HA.out
      clear HA
      simp only [slices_Compare_int_int.l0] at H
      by_cases c3 : x11_1 < (l0.length : Int)
      · rw [if_pos c3] at H
        have c3b0 : decide (x11_1 < (l0.length : Int)) = true := decide_eq_true c3
        clear c3
        by_cases c4 : 0 ≤ x11_1
        · rw [if_pos c4] at H
          have c4b0 : decide (0 ≤ x11_1) = true := decide_eq_true c4
          clear c4
          by_cases c5 : x11_1 < (l0.length : Int)
          · rw [if_pos c5] at H
            have c5b0 : decide (x11_1 < (l0.length : Int)) = true := decide_eq_true c5
            clear c5
            by_cases c6 : x11_1 ≥ (l1.length : Int)
            · rw [if_pos c6] at H
              have c6b0 : decide ((l1.length : Int) ≤ x11_1) = true := decide_eq_true c6
              clear c6
              obtain rfl := Option.some.inj H
              have p192 : 0 ≤ (x11_1 : Int) := of_decide_eq_true as_
              have q192 : x11_1 < (l0.length : Int) := of_decide_eq_true as_
              obtain ⟨ad192, e192, hx192_0⟩ := Kd.at_int HR0.out x11_1 p192 q192
              cases e192
              replace p192 := eq_true p192
              replace q192 := eq_true q192
              go_wp2
              go_ret
              exact ⟨by first | rfl | (simp; done) | (simp [*]; done), by repeat (first | exact Drawn0.refl _ | apply Drawn0.step)⟩
            · rw [if_neg c6] at H
              have c6b0 : decide ((l1.length : Int) ≤ x11_1) = false := decide_eq_false c6
              clear c6
              by_cases c7 : x11_1 < (l1.length : Int)
              · rw [if_pos c7] at H
                have c7b0 : decide (x11_1 < (l1.length : Int)) = true := decide_eq_true c7
                clear c7
                replace H := Option.bind_eq_some_iff.mp H
                obtain ⟨t194, A80, H⟩ := H
                replace H : (if t194 = 0 then (slices_Compare_int_int.l0 k1 l0 l1 l0 (l0.length : Int) (wrap64 (x11_1 + 1))) else (some t194)) = some r := H
                have A8 := Aside0.mk A80
                clear A80
                by_cases c9 : t194 = 0
                · rw [if_pos c9] at H
                  have c9b0 : (t194 == 0) = true := beq_iff_eq.mpr c9
                  have c9b1 : (t194 != 0) = false := bne_eq_false_iff_eq.mpr c9
                  clear c9
                  have H' := Aside0.mk H
                  clear H
                  have p192 : 0 ≤ (x11_1 : Int) := of_decide_eq_true as_
                  have q192 : x11_1 < (l0.length : Int) := of_decide_eq_true as_
                  obtain ⟨ad192, e192, hx192_0⟩ := Kd.at_int HR0.out x11_1 p192 q192
                  cases e192
                  replace p192 := eq_true p192
                  replace q192 := eq_true q192
                  have p193 : 0 ≤ (x11_1 : Int) := of_decide_eq_true as_
                  have q193 : x11_1 < (l1.length : Int) := of_decide_eq_true as_
                  obtain ⟨ad193, e193, hx193_0⟩ := Kd.at_int HR1.out x11_1 p193 q193
                  cases e193
                  replace p193 := eq_true p193
                  replace q193 := eq_true q193
                  go_wp2_with (first | ((with_reducible refine gate_callee (f := 23) rfl ?_); refine goesL_ (some 26) rfl rfl Tryd.func23 (by kernel_rfl) rfl #[.int .i64 (rd l0 x11_1), .int .i64 (rd l1 x11_1)] rfl mp_ ?_; (with_reducible refine (cmp_Compare_int.calls (rd l0 x11_1) (rd l1 x11_1) t194 _ A8.out).mono ?_); rintro e w' ⟨rfl, ⟨nd, rfl⟩⟩; refine ⟨_, rfl, ?_⟩))
                  go_roundg k1
                  case measure => have := HK1.out; omega
                  case rel => exact ⟨(wrap64 (x11_1 + 1)), rs_, H', ⟨by have := HK1.out; omega⟩, by repeat (first | exact Drawn0.refl _ | apply Drawn0.step)⟩
                · rw [if_neg c9] at H
                  have c9b0 : (t194 == 0) = false := beq_eq_false_iff_ne.mpr c9
                  have c9b1 : (t194 != 0) = true := bne_iff_ne.mpr c9
                  obtain rfl := Option.some.inj H
                  have p192 : 0 ≤ (x11_1 : Int) := of_decide_eq_true as_
                  have q192 : x11_1 < (l0.length : Int) := of_decide_eq_true as_
                  obtain ⟨ad192, e192, hx192_0⟩ := Kd.at_int HR0.out x11_1 p192 q192
                  cases e192
                  replace p192 := eq_true p192
                  replace q192 := eq_true q192
                  have p193 : 0 ≤ (x11_1 : Int) := of_decide_eq_true as_
                  have q193 : x11_1 < (l1.length : Int) := of_decide_eq_true as_
                  obtain ⟨ad193, e193, hx193_0⟩ := Kd.at_int HR1.out x11_1 p193 q193
                  cases e193
                  replace p193 := eq_true p193
                  replace q193 := eq_true q193
                  go_wp2_with (first | ((with_reducible refine gate_callee (f := 23) rfl ?_); refine goesL_ (some 26) rfl rfl Tryd.func23 (by kernel_rfl) rfl #[.int .i64 (rd l0 x11_1), .int .i64 (rd l1 x11_1)] rfl mp_ ?_; (with_reducible refine (cmp_Compare_int.calls (rd l0 x11_1) (rd l1 x11_1) t194 _ A8.out).mono ?_); rintro e w' ⟨rfl, ⟨nd, rfl⟩⟩; refine ⟨_, rfl, ?_⟩))
                  go_ret
                  exact ⟨by first | rfl | (simp; done) | (simp [*]; done), by repeat (first | exact Drawn0.refl _ | apply Drawn0.step)⟩
              · rw [if_neg c7] at H
                exact absurd H (by simp)
          · rw [if_neg c5] at H
            exact absurd H (by simp)
        · rw [if_neg c4] at H
          exact absurd H (by simp)
      · rw [if_neg c3] at H
        have c3b0 : decide (x11_1 < (l0.length : Int)) = false := decide_eq_false c3
        clear c3
        by_cases c10 : (l0.length : Int) < (l1.length : Int)
        · rw [if_pos c10] at H
          have c10b0 : decide ((l0.length : Int) < (l1.length : Int)) = true := decide_eq_true c10
          have c10b1 : decide (l0.length < l1.length) = true := decide_eq_true (Int.ofNat_lt.mp c10)
          clear c10
          obtain rfl := Option.some.inj H
          go_wp2
          go_ret
          exact ⟨by first | rfl | (simp; done) | (simp [*]; done), by repeat (first | exact Drawn0.refl _ | apply Drawn0.step)⟩
        · rw [if_neg c10] at H
          have c10b0 : decide ((l0.length : Int) < (l1.length : Int)) = false := decide_eq_false c10
          have c10b1 : decide (l0.length < l1.length) = false := decide_eq_false (fun h => c10 (Int.ofNat_lt.mpr h))
          clear c10
          obtain rfl := Option.some.inj H
          go_wp2
          go_ret
          exact ⟨by first | rfl | (simp; done) | (simp [*]; done), by repeat (first | exact Drawn0.refl _ | apply Drawn0.step)⟩

/-! ### span_ranger_order: function 18 -/
def span_ranger_order.f (k : Nat) (l0_0 : List (S37)) (a0_1 : Bool) (a1_0 : Int) (a1_1 : Int) (a2_0 : Int) (a2_1 : Int) : Option (Int) := if a1_0 = a2_0 then ((cmp_Compare_int.f a1_1 a2_1).bind fun t198 => (some t198)) else ((span_ranger_path.f k l0_0 a0_1 a1_0 a1_1).bind fun t199 => ((span_ranger_path.f k l0_0 a0_1 a2_0 a2_1).bind fun t202 => ((slices_Compare_int_int.f k t199 t202).bind fun t205 => (some t205))))
theorem span_ranger_order.mono : ∀ a0 a1 a2 a3 a4 a5 k, LeO (span_ranger_order.f k a0 a1 a2 a3 a4 a5) (span_ranger_order.f (k + 1) a0 a1 a2 a3 a4 a5) := by
  intro a0 a1 a2 a3 a4 a5 k
  unfold span_ranger_order.f
  repeat' first
      | (with_reducible exact slices_Compare_int_int.mono _ _ _)
      | (with_reducible exact span_ranger_path.mono _ _ _ _ _)
      | (with_reducible exact LeO.refl _)
      | (with_reducible exact LeO.none _)
      | (with_reducible refine LeO.ite ?_ ?_)
      | (with_reducible refine LeO.bind ?_ (fun _ => ?_))
      | exact slices_Compare_int_int.mono _ _ _
      | exact span_ranger_path.mono _ _ _ _ _
      | exact LeO.none _
      | refine LeO.ite ?_ ?_
      | refine LeO.bind ?_ (fun _ => ?_)
def span_ranger_order.T3 : Bool × List (List Nat × List Nat) := (true, [([], []), ([], []), ([0, 1], [0, 1]), ([], []), ([], []), ([3, 4, 2], [3, 4]), ([2, 5, 5], [2, 5]), ([6, 6, 0, 1, 2, 3, 4, 5, 6], [6])])
def span_ranger_order.B3 : List Nat := [0, 0, 3, 0, 0, 31, 63, 127]
theorem span_ranger_order.tab3 : rtab .any (opsOf Tryd.f18 3) = span_ranger_order.T3 := by kernel_rfl
theorem span_ranger_order.bits3 : waitsOk span_ranger_order.T3.2 span_ranger_order.B3 = true := by kernel_rfl
set_option maxHeartbeats 8000000 in
set_option maxRecDepth 100000 in
theorem span_ranger_order.calls (k : Nat) (A0_0 : Option Addr) (c0_0 : Nat) (l0_0 : List (S37)) (a0_1 : Bool) (a1_0 : Int) (a1_1 : Int) (a2_0 : Int) (a2_1 : Int) (r : Int) (w : World) (hr0_0 : Kd.C k37 w A0_0 l0_0.length l0_0) (hc0_0 : l0_0.length ≤ c0_0) (h : span_ranger_order.f k l0_0 a0_1 a1_0 a1_1 a2_0 a2_1 = some r) :
    Calls Tryd.prog 18 #[.agg #[.slice A0_0 l0_0.length c0_0, .bool a0_1], .agg #[.int .i64 a1_0, .int .i64 a1_1], .agg #[.int .i64 a2_0, .int .i64 a2_1]] w fun e w' => e = .returned (.int .i64 r) ∧ Below w.heap.size w w' := by
  have hu43 := Tryd.underlying43
  have hu26 := Tryd.underlying26
  have HR0_0 := Aside0.mk hr0_0
  have HC0_0 := Aside0.mk hc0_0
  clear hr0_0 hc0_0
  have HB := Aside0.mk (Below.refl w.heap.size w)
  have H : (if a1_0 = a2_0 then ((cmp_Compare_int.f a1_1 a2_1).bind fun t198 => (some t198)) else ((span_ranger_path.f k l0_0 a0_1 a1_0 a1_1).bind fun t199 => ((span_ranger_path.f k l0_0 a0_1 a2_0 a2_1).bind fun t202 => ((slices_Compare_int_int.f k t199 t202).bind fun t205 => (some t205))))) = some r := h
  clear h
  by_cases c4 : a1_0 = a2_0
  · rw [if_pos c4] at H
    have c4b0 : (a1_0 == a2_0) = true := beq_iff_eq.mpr c4
    have c4b1 : (a1_0 != a2_0) = false := bne_eq_false_iff_eq.mpr c4
    clear c4
    replace H := Option.bind_eq_some_iff.mp H
    obtain ⟨t198, A50, H⟩ := H
    replace H : (some t198) = some r := H
    have A5 := Aside0.mk A50
    clear A50
    obtain rfl := Option.some.inj H
    go_enter Tryd.func18, Tryd.ntmps18
    go_wp2_with (first | ((with_reducible refine gate_dst (N := 3) rfl ?_); refine box_event ?hg (N := 3) ?hd (cs := #[.slice A0_0 l0_0.length c0_0, .bool a0_1]) (t := 43) ?hr ?_; (case hd => rfl); (case hg => rfl); (case hr => first | (go_simp; done) | (go_simp; rfl)); intro gb195 hg w6 hbox hb; have n0_ := Aside0.mk (below_step bl0_ hb); have n1_ := Aside0.mk (hbox); have n2_ := Aside0.mk (gle_ (w := w) hg bl0_); have n3_ := n2_; clear HB; have HB := n0_; have BK195 := n1_; have GW195 := n2_; have GE195 := n3_; clear n0_ n1_ n2_ n3_; clear hb hbox hg) | ((with_reducible refine gate_dst (N := 4) rfl ?_); refine box_event ?hg (N := 4) ?hd (cs := #[.int .i64 a1_0, .int .i64 a1_1]) (t := 26) ?hr ?_; (case hd => rfl); (case hg => rfl); (case hr => first | (go_simp; done) | (go_simp; rfl)); intro gb196 hg w7 hbox hb; have n0_ := Aside0.mk (blk_below (bq_ BK195.out) hb); have n1_ := Aside0.mk (below_step bl0_ hb); have n2_ := Aside0.mk (hbox); have n3_ := Aside0.mk (gle_ (w := w) hg bl0_); have n4_ := n3_; have n5_ := Aside0.mk ((nlt_ hg (bq_ BK195.out))); have n6_ := Aside0.mk ((ngt_ hg (bq_ BK195.out))); clear BK195; clear HB; have BK195 := n0_; have HB := n1_; have BK196 := n2_; have GW196 := n3_; have GE196 := n4_; have NB195_196 := n5_; have NB196_195 := n6_; clear n0_ n1_ n2_ n3_ n4_ n5_ n6_; clear hb hbox hg) | ((with_reducible refine gate_dst (N := 5) rfl ?_); refine box_event ?hg (N := 5) ?hd (cs := #[.int .i64 a2_0, .int .i64 a2_1]) (t := 26) ?hr ?_; (case hd => rfl); (case hg => rfl); (case hr => first | (go_simp; done) | (go_simp; rfl)); intro gb197 hg w8 hbox hb; have n0_ := Aside0.mk (blk_below (bq_ BK195.out) hb); have n1_ := Aside0.mk (blk_below (bq_ BK196.out) hb); have n2_ := Aside0.mk (below_step bl0_ hb); have n3_ := Aside0.mk (hbox); have n4_ := Aside0.mk (gle_ (w := w) hg bl0_); have n5_ := n4_; have n6_ := Aside0.mk ((nlt_ hg (bq_ BK195.out))); have n7_ := Aside0.mk ((ngt_ hg (bq_ BK195.out))); have n8_ := Aside0.mk ((nlt_ hg (bq_ BK196.out))); have n9_ := Aside0.mk ((ngt_ hg (bq_ BK196.out))); clear BK195; clear BK196; clear HB; have BK195 := n0_; have BK196 := n1_; have HB := n2_; have BK197 := n3_; have GW197 := n4_; have GE197 := n5_; have NB195_197 := n6_; have NB197_195 := n7_; have NB196_197 := n8_; have NB197_196 := n9_; clear n0_ n1_ n2_ n3_ n4_ n5_ n6_ n7_ n8_ n9_; clear hb hbox hg; have hnb9 := NB196_195.out; have hnc9 := NB195_196.out; have hnb10 := NB196_197.out; have hnc10 := NB197_196.out; have hcz11_0 : w8.cell? ⟨gb196, 0, none⟩ = some (.int .i64 a1_0) := (blk_cell BK196.out 0).trans rfl; have hcz11_1 : w8.cell? ⟨gb196, 1, none⟩ = some (.int .i64 a1_1) := (blk_cell BK196.out 1).trans rfl; have hfz11_0 := blk_frozen BK196.out 0; have hfz11_1 := blk_frozen BK196.out 1; have hnb12 := NB197_195.out; have hnc12 := NB195_197.out; have hcz13_0 : w8.cell? ⟨gb197, 0, none⟩ = some (.int .i64 a2_0) := (blk_cell BK197.out 0).trans rfl; have hcz13_1 : w8.cell? ⟨gb197, 1, none⟩ = some (.int .i64 a2_1) := (blk_cell BK197.out 1).trans rfl; have hfz13_0 := blk_frozen BK197.out 0; have hfz13_1 := blk_frozen BK197.out 1) | ((with_reducible refine gate_callee (f := 23) rfl ?_); refine goesL_ (some 16) rfl rfl Tryd.func23 (by kernel_rfl) rfl #[.int .i64 a1_1, .int .i64 a2_1] rfl mp_ ?_; (with_reducible refine (cmp_Compare_int.calls a1_1 a2_1 t198 _ A5.out).mono ?_); rintro e w' ⟨rfl, ⟨nd, rfl⟩⟩; refine ⟨_, rfl, ?_⟩))
    go_ret
    exact ⟨er_, bl0_⟩
  · rw [if_neg c4] at H
    have c4b0 : (a1_0 == a2_0) = false := beq_eq_false_iff_ne.mpr c4
    have c4b1 : (a1_0 != a2_0) = true := bne_iff_ne.mpr c4
    replace H := Option.bind_eq_some_iff.mp H
    obtain ⟨t199, A140, H⟩ := H
    replace H : ((span_ranger_path.f k l0_0 a0_1 a2_0 a2_1).bind fun t202 => ((slices_Compare_int_int.f k t199 t202).bind fun t205 => (some t205))) = some r := H
    have A14 := Aside0.mk A140
    clear A140
    replace H := Option.bind_eq_some_iff.mp H
    obtain ⟨t202, A150, H⟩ := H
    replace H : ((slices_Compare_int_int.f k t199 t202).bind fun t205 => (some t205)) = some r := H
    have A15 := Aside0.mk A150
    clear A150
    replace H := Option.bind_eq_some_iff.mp H
    obtain ⟨t205, A160, H⟩ := H
    replace H : (some t205) = some r := H
    have A16 := Aside0.mk A160
    clear A160
    obtain rfl := Option.some.inj H
    go_enter Tryd.func18, Tryd.ntmps18
    try go_wp2_with (first | ((with_reducible refine gate_dst (N := 3) rfl ?_); refine box_event ?hg (N := 3) ?hd (cs := #[.slice A0_0 l0_0.length c0_0, .bool a0_1]) (t := 43) ?hr ?_; (case hd => rfl); (case hg => rfl); (case hr => first | (go_simp; done) | (go_simp; rfl)); intro gb195 hg w17 hbox hb; have n0_ := Aside0.mk (below_step bl0_ hb); have n1_ := Aside0.mk (hbox); have n2_ := Aside0.mk (gle_ (w := w) hg bl0_); have n3_ := n2_; clear HB; have HB := n0_; have BK195 := n1_; have GW195 := n2_; have GE195 := n3_; clear n0_ n1_ n2_ n3_; clear hb hbox hg) | ((with_reducible refine gate_dst (N := 4) rfl ?_); refine box_event ?hg (N := 4) ?hd (cs := #[.int .i64 a1_0, .int .i64 a1_1]) (t := 26) ?hr ?_; (case hd => rfl); (case hg => rfl); (case hr => first | (go_simp; done) | (go_simp; rfl)); intro gb196 hg w18 hbox hb; have n0_ := Aside0.mk (blk_below (bq_ BK195.out) hb); have n1_ := Aside0.mk (below_step bl0_ hb); have n2_ := Aside0.mk (hbox); have n3_ := Aside0.mk (gle_ (w := w) hg bl0_); have n4_ := n3_; have n5_ := Aside0.mk ((nlt_ hg (bq_ BK195.out))); have n6_ := Aside0.mk ((ngt_ hg (bq_ BK195.out))); clear BK195; clear HB; have BK195 := n0_; have HB := n1_; have BK196 := n2_; have GW196 := n3_; have GE196 := n4_; have NB195_196 := n5_; have NB196_195 := n6_; clear n0_ n1_ n2_ n3_ n4_ n5_ n6_; clear hb hbox hg) | ((with_reducible refine gate_dst (N := 5) rfl ?_); refine box_event ?hg (N := 5) ?hd (cs := #[.int .i64 a2_0, .int .i64 a2_1]) (t := 26) ?hr ?_; (case hd => rfl); (case hg => rfl); (case hr => first | (go_simp; done) | (go_simp; rfl)); intro gb197 hg w19 hbox hb; have n0_ := Aside0.mk (blk_below (bq_ BK195.out) hb); have n1_ := Aside0.mk (blk_below (bq_ BK196.out) hb); have n2_ := Aside0.mk (below_step bl0_ hb); have n3_ := Aside0.mk (hbox); have n4_ := Aside0.mk (gle_ (w := w) hg bl0_); have n5_ := n4_; have n6_ := Aside0.mk ((nlt_ hg (bq_ BK195.out))); have n7_ := Aside0.mk ((ngt_ hg (bq_ BK195.out))); have n8_ := Aside0.mk ((nlt_ hg (bq_ BK196.out))); have n9_ := Aside0.mk ((ngt_ hg (bq_ BK196.out))); clear BK195; clear BK196; clear HB; have BK195 := n0_; have BK196 := n1_; have HB := n2_; have BK197 := n3_; have GW197 := n4_; have GE197 := n5_; have NB195_197 := n6_; have NB197_195 := n7_; have NB196_197 := n8_; have NB197_196 := n9_; clear n0_ n1_ n2_ n3_ n4_ n5_ n6_ n7_ n8_ n9_; clear hb hbox hg; have hnb20 := NB196_195.out; have hnc20 := NB195_196.out; have hnb21 := NB196_197.out; have hnc21 := NB197_196.out; have hcz22_0 : w19.cell? ⟨gb196, 0, none⟩ = some (.int .i64 a1_0) := (blk_cell BK196.out 0).trans rfl; have hcz22_1 : w19.cell? ⟨gb196, 1, none⟩ = some (.int .i64 a1_1) := (blk_cell BK196.out 1).trans rfl; have hfz22_0 := blk_frozen BK196.out 0; have hfz22_1 := blk_frozen BK196.out 1; have hnb23 := NB197_195.out; have hnc23 := NB195_197.out; have hcz24_0 : w19.cell? ⟨gb197, 0, none⟩ = some (.int .i64 a2_0) := (blk_cell BK197.out 0).trans rfl; have hcz24_1 : w19.cell? ⟨gb197, 1, none⟩ = some (.int .i64 a2_1) := (blk_cell BK197.out 1).trans rfl; have hfz24_0 := blk_frozen BK197.out 0; have hfz24_1 := blk_frozen BK197.out 1))
    have n0_ := Aside0.mk (blk_drew BK195.out)
    have n1_ := Aside0.mk (blk_drew BK196.out)
    have n2_ := Aside0.mk (blk_drew BK197.out)
    have n3_ := Aside0.mk (below_drew1 HB.out)
    clear BK195
    clear BK196
    clear BK197
    clear HB
    have BK195 := n0_
    have BK196 := n1_
    have BK197 := n2_
    have HB := n3_
    clear n0_ n1_ n2_ n3_
    refine start_ (n := 8) (S := fun w' => w'.cell? ⟨gb195, 0, none⟩ = some (.slice A0_0 l0_0.length c0_0) ∧ w'.cell? ⟨gb195, 1, none⟩ = some (.bool a0_1) ∧ w'.cell? ⟨gb196, 0, none⟩ = some (.int .i64 a1_0) ∧ w'.cell? ⟨gb196, 1, none⟩ = some (.int .i64 a1_1) ∧ w'.cell? ⟨gb197, 0, none⟩ = some (.int .i64 a2_0) ∧ w'.cell? ⟨gb197, 1, none⟩ = some (.int .i64 a2_1)) (ds := []) #[false, false, false, false, false, false, false, false] (by kernel_rfl) rfl rfl ⟨(blk_cell BK195.out 0).trans rfl, (blk_cell BK195.out 1).trans rfl, (blk_cell BK196.out 0).trans rfl, (blk_cell BK196.out 1).trans rfl, (blk_cell BK197.out 0).trans rfl, (blk_cell BK197.out 1).trans rfl⟩ (fun hHeld => ?_); refine with_tabW span_ranger_order.tab3 span_ranger_order.bits3 (fun HT_ HW_ => ?_)
    generalize w19.drew = w25 at BK195 BK196 BK197 HB hHeld ⊢
    refine take_ (i := 0) (N := some 17) (v := ?_) (a' := ?_) #[true, false, false, false, false, false, false, false] rfl rfl (take_ofW HT_.out HW_.out (by kernel_rfl)) (fun _ _ _ h => h) (Or.inl ⟨by rfl, ?_⟩) hHeld ?_ ?_
    rotate_left
    · rintro w' ⟨s0, s1, s2, s3, s4, s5⟩
      go_simp
      with_reducible rfl
    rotate_left
    · simp only [Act.put, List.setIfInBounds_toArray, List.set_cons_zero, List.set_cons_succ, i64_w, i32_w]
      rfl
    refine take_ (i := 1) (N := some 18) (v := ?_) (a' := ?_) #[true, true, false, false, false, false, false, false] rfl rfl (take_ofW HT_.out HW_.out (by kernel_rfl)) (fun _ _ _ h => h) (Or.inl ⟨by rfl, ?_⟩) hHeld ?_ ?_
    rotate_left
    · rintro w' ⟨s0, s1, s2, s3, s4, s5⟩
      go_simp
      with_reducible rfl
    rotate_left
    · simp only [Act.put, List.setIfInBounds_toArray, List.set_cons_zero, List.set_cons_succ, i64_w, i32_w]
      rfl
    refine take_ (i := 3) (N := some 20) (v := ?_) (a' := ?_) #[true, true, false, true, false, false, false, false] rfl rfl (take_ofW HT_.out HW_.out (by kernel_rfl)) (fun _ _ _ h => h) (Or.inl ⟨by rfl, ?_⟩) hHeld ?_ ?_
    rotate_left
    · rintro w' ⟨s0, s1, s2, s3, s4, s5⟩
      go_simp
      with_reducible rfl
    rotate_left
    · simp only [Act.put, List.setIfInBounds_toArray, List.set_cons_zero, List.set_cons_succ, i64_w, i32_w]
      rfl
    refine take_ (i := 4) (N := some 21) (v := ?_) (a' := ?_) #[true, true, false, true, true, false, false, false] rfl rfl (take_ofW HT_.out HW_.out (by kernel_rfl)) (fun _ _ _ h => h) (Or.inl ⟨by rfl, ?_⟩) hHeld ?_ ?_
    rotate_left
    · rintro w' ⟨s0, s1, s2, s3, s4, s5⟩
      go_simp
      with_reducible rfl
    rotate_left
    · simp only [Act.put, List.setIfInBounds_toArray, List.set_cons_zero, List.set_cons_succ, i64_w, i32_w]
      rfl
    refine one_ (i := 2) (N := some 19) #[true, true, true, true, true, false, false, false] rfl rfl (one_of HT_.out (by kernel_rfl)) (by decide) (fun K hK => ?_)
    refine goes_ Tryd.func25 (by kernel_rfl) rfl #[.agg #[.slice A0_0 l0_0.length c0_0, .bool a0_1], .agg #[.int .i64 a1_0, .int .i64 a1_1]] (by rfl) rfl rfl mp_ ?_
    with_reducible refine (span_ranger_path.calls k _ _ l0_0 a0_1 a1_0 a1_1 t199 _ ?side1 ?side2 A14.out).mono ?_
    (case side1 => repeat (first | exact (Kd.C_below HR0_0.out HB.out) | (with_reducible refine Kd.C_alloc ?_ _) | (with_reducible refine Kd.C_drewN ?_ _) | (with_reducible refine Kd.C_drew ?_)))
    (case side2 => exact HC0_0.out)
    rintro e w26 ⟨v200, rfl, ho0, hb⟩
    refine ⟨_, rfl, ?_⟩
    have n0_ := Aside0.mk (Kd.R_lower ho0 (below_size bl0_))
    have n1_ := Aside0.mk (blk_below (bq_ BK195.out) hb)
    have n2_ := Aside0.mk (blk_below (bq_ BK196.out) hb)
    have n3_ := Aside0.mk (blk_below (bq_ BK197.out) hb)
    have n4_ := Aside0.mk (below_step bl0_ hb)
    clear BK195
    clear BK196
    clear BK197
    clear HB
    have HO201 := n0_
    have BK195 := n1_
    have BK196 := n2_
    have BK197 := n3_
    have HB := n4_
    clear n0_ n1_ n2_ n3_ n4_
    (try clear hb)
    (try clear hb2)
    (try clear hk)
    (try clear hi)
    (try clear ho0)
    refine hK.out _ _ ⟨(blk_cell BK195.out 0).trans rfl, (blk_cell BK195.out 1).trans rfl, (blk_cell BK196.out 0).trans rfl, (blk_cell BK196.out 1).trans rfl, (blk_cell BK197.out 0).trans rfl, (blk_cell BK197.out 1).trans rfl⟩ (fun hHeld => ?_)
    clear hK K
    refine norm_ (a' := ?_) ?_ ?_
    rotate_left
    · show Act.put _ (some 19) _ = _
      simp only [Act.put, List.setIfInBounds_toArray, List.set_cons_zero, List.set_cons_succ, i64_w, i32_w]
      rfl
    refine one_ (i := 5) (N := some 22) #[true, true, true, true, true, true, false, false] rfl rfl (one_of HT_.out (by kernel_rfl)) (by decide) (fun K hK => ?_)
    refine goes_ Tryd.func25 (by kernel_rfl) rfl #[.agg #[.slice A0_0 l0_0.length c0_0, .bool a0_1], .agg #[.int .i64 a2_0, .int .i64 a2_1]] (by rfl) rfl rfl mp_ ?_
    with_reducible refine (span_ranger_path.calls k _ _ l0_0 a0_1 a2_0 a2_1 t202 _ ?side1 ?side2 A15.out).mono ?_
    (case side1 => repeat (first | exact (Kd.C_below HR0_0.out HB.out) | (with_reducible refine Kd.C_alloc ?_ _) | (with_reducible refine Kd.C_drewN ?_ _) | (with_reducible refine Kd.C_drew ?_)))
    (case side2 => exact HC0_0.out)
    rintro e w27 ⟨v203, rfl, ho0, hb⟩
    refine ⟨_, rfl, ?_⟩
    have n0_ := Aside0.mk (Kd.R_elder' (Kd.R_below HO201.out bu_) (Kd.R_base ho0) hb)
    have n1_ := Aside0.mk (Kd.R_lower (Kd.R_new' ho0 (Kd.R_lt (Kd.R_below HO201.out bu_))) (below_size bl0_))
    have n2_ := Aside0.mk (blk_below (bq_ BK195.out) hb)
    have n3_ := Aside0.mk (blk_below (bq_ BK196.out) hb)
    have n4_ := Aside0.mk (blk_below (bq_ BK197.out) hb)
    have n5_ := Aside0.mk (below_step bl0_ hb)
    clear HO201
    clear BK195
    clear BK196
    clear BK197
    clear HB
    have HO201 := n0_
    have HO204 := n1_
    have BK195 := n2_
    have BK196 := n3_
    have BK197 := n4_
    have HB := n5_
    clear n0_ n1_ n2_ n3_ n4_ n5_
    (try clear hb)
    (try clear hb2)
    (try clear hk)
    (try clear hi)
    (try clear ho0)
    obtain ⟨Ao28, co28, eo28⟩ := Kd.R_slice HO201.out
    (first | subst eo28 | (injection eo28 with f1_ f2_ f3_; have f4_ := f1_.symm; have f5_ := f3_.symm; clear f1_ f2_ f3_; subst f4_; subst f5_))
    obtain ⟨Ao29, co29, eo29⟩ := Kd.R_slice HO204.out
    (first | subst eo29 | (injection eo29 with f1_ f2_ f3_; have f4_ := f1_.symm; have f5_ := f3_.symm; clear f1_ f2_ f3_; subst f4_; subst f5_))
    refine hK.out _ _ ⟨(blk_cell BK195.out 0).trans rfl, (blk_cell BK195.out 1).trans rfl, (blk_cell BK196.out 0).trans rfl, (blk_cell BK196.out 1).trans rfl, (blk_cell BK197.out 0).trans rfl, (blk_cell BK197.out 1).trans rfl⟩ (fun hHeld => ?_)
    clear hK K
    refine norm_ (a' := ?_) ?_ ?_
    rotate_left
    · show Act.put _ (some 22) _ = _
      simp only [Act.put, List.setIfInBounds_toArray, List.set_cons_zero, List.set_cons_succ, i64_w, i32_w]
      rfl
    refine one_ (i := 6) (N := some 23) #[true, true, true, true, true, true, true, false] rfl rfl (one_of HT_.out (by kernel_rfl)) (by decide) (fun K hK => ?_)
    refine goes_ Tryd.func24 (by kernel_rfl) rfl #[.slice Ao28 t199.length co28, .slice Ao29 t202.length co29] (by rfl) rfl rfl mp_ ?_
    with_reducible refine (slices_Compare_int_int.calls k _ _ t199 _ _ t202 t205 _ ?side1 ?side2 ?side3 ?side4 A16.out).mono ?_
    (case side1 => repeat (first | exact (Kd.R_reads' HO201.out).2.2 | (with_reducible refine Kd.C_alloc ?_ _) | (with_reducible refine Kd.C_drewN ?_ _) | (with_reducible refine Kd.C_drew ?_)))
    (case side2 => exact (Kd.R_reads' HO201.out).2.1)
    (case side3 => repeat (first | exact (Kd.R_reads' HO204.out).2.2 | (with_reducible refine Kd.C_alloc ?_ _) | (with_reducible refine Kd.C_drewN ?_ _) | (with_reducible refine Kd.C_drew ?_)))
    (case side4 => exact (Kd.R_reads' HO204.out).2.1)
    rintro e w' ⟨rfl, ⟨nd, rfl⟩⟩
    refine ⟨_, rfl, ?_⟩
    refine hK.out _ _ ⟨(blk_cell BK195.out 0).trans rfl, (blk_cell BK195.out 1).trans rfl, (blk_cell BK196.out 0).trans rfl, (blk_cell BK196.out 1).trans rfl, (blk_cell BK197.out 0).trans rfl, (blk_cell BK197.out 1).trans rfl⟩ (fun hHeld => ?_)
    clear hK K
    refine norm_ (a' := ?_) ?_ ?_
    rotate_left
    · show Act.put _ (some 23) _ = _
      simp only [Act.put, List.setIfInBounds_toArray, List.set_cons_zero, List.set_cons_succ, i64_w, i32_w]
      rfl
    refine pure_ (i := 7) (N := some 6) (v := ?_) (a' := ?_) #[true, true, true, true, true, true, true, true] rfl rfl (any_of HT_.out (by kernel_rfl)) (fun _ _ _ h => h) (Or.inl ⟨by rfl, ?_⟩) ?_ ?_
    rotate_left
    · intro w'
      go_simp
      with_reducible rfl
    rotate_left
    · simp only [Act.put, List.setIfInBounds_toArray, List.set_cons_zero, List.set_cons_succ, i64_w, i32_w]
      rfl
    refine done_ (done_of HT_.out (by kernel_rfl)) ?_
    try go_wp2
    go_ret
    exact ⟨er_, bl0_⟩

/-! ### span_span: function 10 -/
def span_span.f (k : Nat) (l0_0 : List (S37)) (a0_1 : Bool) (a1_0 : Int) (a1_1 : Int) (a1_2 : Int) (a1_3 : Int) : Option ((List (S37)) × Bool × Int) := (span_points.f k l0_0 a0_1 (([(⟨a1_0, a1_1⟩ : S26), (⟨a1_2, a1_3⟩ : S26)] : List (S26)))).bind fun bt212 => (if bt212.2.2 = 0 then ((span_ranger_order.f k bt212.1 bt212.2.1 a1_0 a1_1 a1_2 a1_3).bind fun t218 => (if t218 > 0 then (some (bt212.1, bt212.2.1, 9)) else (some (bt212.1, bt212.2.1, bt212.2.2)))) else (some (bt212.1, bt212.2.1, bt212.2.2)))
theorem span_span.mono : ∀ a0 a1 a2 a3 a4 a5 k, LeO (span_span.f k a0 a1 a2 a3 a4 a5) (span_span.f (k + 1) a0 a1 a2 a3 a4 a5) := by
  intro a0 a1 a2 a3 a4 a5 k
  unfold span_span.f
  repeat' first
      | (with_reducible exact span_points.mono _ _ _ _)
      | (with_reducible exact span_ranger_order.mono _ _ _ _ _ _ _)
      | (with_reducible exact LeO.refl _)
      | (with_reducible exact LeO.none _)
      | (with_reducible refine LeO.ite ?_ ?_)
      | (with_reducible refine LeO.bind ?_ (fun _ => ?_))
      | exact span_points.mono _ _ _ _
      | exact span_ranger_order.mono _ _ _ _ _ _ _
      | exact LeO.none _
      | refine LeO.ite ?_ ?_
      | refine LeO.bind ?_ (fun _ => ?_)
set_option maxHeartbeats 8000000 in
set_option maxRecDepth 100000 in
theorem span_span.calls (k : Nat) (P0_0_ : Nat → Prop) (A0_0 : Option Addr) (c0_0 : Nat) (l0_0 : List (S37)) (a0_1 : Bool) (a1_0 : Int) (a1_1 : Int) (a1_2 : Int) (a1_3 : Int) (r1 : List (S37)) (r2 : Bool) (r3 : Int) (w : World) (hs0_0 : Kd.V k37 37 w w.heap.size (fun k_ => P0_0_ k_) (.slice A0_0 l0_0.length c0_0) l0_0) (h : span_span.f k l0_0 a0_1 a1_0 a1_1 a1_2 a1_3 = some (r1, r2, r3)) :
    Calls Tryd.prog 10 #[.agg #[.slice A0_0 l0_0.length c0_0, .bool a0_1], .agg #[.int .i64 a1_0, .int .i64 a1_1, .int .i64 a1_2, .int .i64 a1_3]] w fun e w' => ∃ v0_ : Value, e = .returned (.tuple #[.agg #[v0_, .bool r2], .int .i64 r3]) ∧ Kd.V k37 37 w' w.heap.size (fun k_ => (P0_0_ k_ ∨ w.heap.size ≤ k_)) v0_ r1 ∧ Below w.heap.size w w' := by
  have hu24 := Tryd.underlying24
  have hu28 := Tryd.underlying28
  have hu43 := Tryd.underlying43
  have hu26 := Tryd.underlying26
  have HO0_0 := Aside0.mk (show Kd.V k37 37 w w.heap.size (fun k_ => (P0_0_ k_ ∨ w.heap.size ≤ k_)) (.slice A0_0 l0_0.length c0_0) l0_0 from Kd.V_mono hs0_0 (fun k_ hk => .inl hk))
  have HB := Aside0.mk (Below.refl w.heap.size w)
  have H : ((span_points.f k l0_0 a0_1 (([(⟨a1_0, a1_1⟩ : S26), (⟨a1_2, a1_3⟩ : S26)] : List (S26)))).bind fun bt212 => (if bt212.2.2 = 0 then ((span_ranger_order.f k bt212.1 bt212.2.1 a1_0 a1_1 a1_2 a1_3).bind fun t218 => (if t218 > 0 then (some (bt212.1, bt212.2.1, 9)) else (some (bt212.1, bt212.2.1, bt212.2.2)))) else (some (bt212.1, bt212.2.1, bt212.2.2)))) = some (r1, r2, r3) := h
  clear h
  obtain ⟨y209, hy209⟩ : ∃ y_ : List (S26), y_ = (([(⟨a1_0, a1_1⟩ : S26), (⟨a1_2, a1_3⟩ : S26)] : List (S26))) := ⟨_, rfl⟩
  replace H : ((span_points.f k l0_0 a0_1 y209).bind fun bt212 => (if bt212.2.2 = 0 then ((span_ranger_order.f k bt212.1 bt212.2.1 a1_0 a1_1 a1_2 a1_3).bind fun t218 => (if t218 > 0 then (some (bt212.1, bt212.2.1, 9)) else (some (bt212.1, bt212.2.1, bt212.2.2)))) else (some (bt212.1, bt212.2.1, bt212.2.2)))) = some (r1, r2, r3) := by first | (rw [hy209]; with_reducible exact H) | (have H2_ := (Option.bind_some _ _).symm.trans H; rw [hy209]; with_reducible exact H2_) | (have H2_ := (Option.bind_some _ _).symm.trans H; with_reducible exact H2_) | with_reducible exact H | (rw [hy209]; exact H) | exact H
  have Ny209 := Aside0.mk hy209
  clear hy209
  replace H := Option.bind_eq_some_iff.mp H
  obtain ⟨⟨t212, t215, t216⟩, A30, H⟩ := H
  replace H : (if t216 = 0 then ((span_ranger_order.f k t212 t215 a1_0 a1_1 a1_2 a1_3).bind fun t218 => (if t218 > 0 then (some (t212, t215, 9)) else (some (t212, t215, t216)))) else (some (t212, t215, t216))) = some (r1, r2, r3) := H
  have A3 := Aside0.mk A30
  clear A30
  by_cases c4 : t216 = 0
  · rw [if_pos c4] at H
    have c4b0 : (t216 == 0) = true := beq_iff_eq.mpr c4
    have c4b1 : (t216 != 0) = false := bne_eq_false_iff_eq.mpr c4
    clear c4
    replace H := Option.bind_eq_some_iff.mp H
    obtain ⟨t218, A50, H⟩ := H
    replace H : (if t218 > 0 then (some (t212, t215, 9)) else (some (t212, t215, t216))) = some (r1, r2, r3) := H
    have A5 := Aside0.mk A50
    clear A50
    by_cases c6 : t218 > 0
    · rw [if_pos c6] at H
      have c6b0 : decide (0 < t218) = true := decide_eq_true c6
      clear c6
      simp only [Option.some.injEq, Prod.mk.injEq] at H
      obtain ⟨rfl, rfl, rfl⟩ := H
      go_enter Tryd.func10, Tryd.ntmps10
      go_wp2_with (first | ((with_reducible refine gate_dst (N := 2) rfl ?_); refine box_event ?hg (N := 2) ?hd (cs := #[.slice A0_0 l0_0.length c0_0, .bool a0_1]) (t := 24) ?hr ?_; (case hd => rfl); (case hg => rfl); (case hr => first | (go_simp; done) | (go_simp; rfl)); intro gb206 hg w7 hbox hb; have n0_ := Aside0.mk (Kd.V_below (Kd.V_elderB (Kd.V_below HO0_0.out bu_) gb206 (Nat.le_of_eq hg.symm)) hb); have n1_ := Aside0.mk (below_step bl0_ hb); have n2_ := Aside0.mk (hbox); have n3_ := Aside0.mk (gle_ (w := w) hg bl0_); have n4_ := n3_; clear HO0_0; clear HB; have HO0_0 := n0_; have HB := n1_; have BK206 := n2_; have GW206 := n3_; have GE206 := n4_; clear n0_ n1_ n2_ n3_ n4_; clear hb hbox hg) | ((with_reducible refine gate_dst (N := 3) rfl ?_); refine box_event ?hg (N := 3) ?hd (cs := #[.int .i64 a1_0, .int .i64 a1_1, .int .i64 a1_2, .int .i64 a1_3]) (t := 28) ?hr ?_; (case hd => rfl); (case hg => rfl); (case hr => first | (go_simp; done) | (go_simp; rfl)); intro gb207 hg w8 hbox hb; have n0_ := Aside0.mk (Kd.V_below (Kd.V_elderB (Kd.V_below HO0_0.out bu_) gb207 (Nat.le_of_eq hg.symm)) hb); have n1_ := Aside0.mk (blk_below (bq_ BK206.out) hb); have n2_ := Aside0.mk (below_step bl0_ hb); have n3_ := Aside0.mk (hbox); have n4_ := Aside0.mk (gle_ (w := w) hg bl0_); have n5_ := n4_; have n6_ := Aside0.mk ((nlt_ hg (bq_ BK206.out))); have n7_ := Aside0.mk ((ngt_ hg (bq_ BK206.out))); clear HO0_0; clear BK206; clear HB; have HO0_0 := n0_; have BK206 := n1_; have HB := n2_; have BK207 := n3_; have GW207 := n4_; have GE207 := n5_; have NB206_207 := n6_; have NB207_206 := n7_; clear n0_ n1_ n2_ n3_ n4_ n5_ n6_ n7_; clear hb hbox hg) | ((with_reducible refine gate_dst (N := 4) rfl ?_); refine box_event ?hg (N := 4) ?hd (cs := #[.slice none 0 0, .bool false]) (t := 43) ?hr ?_; (case hd => rfl); (case hg => rfl); (case hr => first | (go_simp; done) | (go_simp; rfl)); intro gb208 hg w9 hbox hb; have n0_ := Aside0.mk (Kd.V_below (Kd.V_elderB (Kd.V_below HO0_0.out bu_) gb208 (Nat.le_of_eq hg.symm)) hb); have n1_ := Aside0.mk (blk_below (bq_ BK206.out) hb); have n2_ := Aside0.mk (blk_below (bq_ BK207.out) hb); have n3_ := Aside0.mk (below_step bl0_ hb); have n4_ := Aside0.mk (hbox); have n5_ := Aside0.mk (gle_ (w := w) hg bl0_); have n6_ := n5_; have n7_ := Aside0.mk ((nlt_ hg (bq_ BK206.out))); have n8_ := Aside0.mk ((ngt_ hg (bq_ BK206.out))); have n9_ := Aside0.mk ((nlt_ hg (bq_ BK207.out))); have n10_ := Aside0.mk ((ngt_ hg (bq_ BK207.out))); clear HO0_0; clear BK206; clear BK207; clear HB; have HO0_0 := n0_; have BK206 := n1_; have BK207 := n2_; have HB := n3_; have BK208 := n4_; have GW208 := n5_; have GE208 := n6_; have NB206_208 := n7_; have NB208_206 := n8_; have NB207_208 := n9_; have NB208_207 := n10_; clear n0_ n1_ n2_ n3_ n4_ n5_ n6_ n7_ n8_ n9_ n10_; clear hb hbox hg; have hnb10 := NB206_207.out; have hnc10 := NB207_206.out; have hnb11 := NB206_208.out; have hnc11 := NB208_206.out; have hcz12_0 : w9.cell? ⟨gb206, 0, none⟩ = some (.slice A0_0 l0_0.length c0_0) := (blk_cell BK206.out 0).trans rfl; have hcz12_1 : w9.cell? ⟨gb206, 1, none⟩ = some (.bool a0_1) := (blk_cell BK206.out 1).trans rfl; have hfz12_0 := blk_frozen BK206.out 0; have hfz12_1 := blk_frozen BK206.out 1; have hnb13 := NB207_208.out; have hnc13 := NB208_207.out; have hcz14_0 : w9.cell? ⟨gb207, 0, none⟩ = some (.int .i64 a1_0) := (blk_cell BK207.out 0).trans rfl; have hcz14_1 : w9.cell? ⟨gb207, 1, none⟩ = some (.int .i64 a1_1) := (blk_cell BK207.out 1).trans rfl; have hcz14_2 : w9.cell? ⟨gb207, 2, none⟩ = some (.int .i64 a1_2) := (blk_cell BK207.out 2).trans rfl; have hcz14_3 : w9.cell? ⟨gb207, 3, none⟩ = some (.int .i64 a1_3) := (blk_cell BK207.out 3).trans rfl; have hfz14_0 := blk_frozen BK207.out 0; have hfz14_1 := blk_frozen BK207.out 1; have hfz14_2 := blk_frozen BK207.out 2; have hfz14_3 := blk_frozen BK207.out 3) | ((with_reducible refine gate_dst (N := 14) rfl ?_); refine Kd.R_lit k26 _ 26 ?hg (N := 14) ?hd (xs := ([(⟨a1_0, a1_1⟩ : S26), (⟨a1_2, a1_3⟩ : S26)] : List (S26))) (inner := [.int .i64 a1_0, .int .i64 a1_1, .int .i64 a1_2, .int .i64 a1_3]) (ok := fun _ => True) (okp := fun _ => True) ?hr ?hp (fun _ hk => hk) trivial (Below.refl _ _) (Nat.le_refl _) (by simp) ?_; (case hd => rfl); (case hg => rfl); (case hr => first | (go_simp; done) | (go_simp; rfl)); (case hp => exact (Reps.c2 (show Kd.M k26 _ _ _ (⟨a1_0, a1_1⟩ : S26) [.int .i64 a1_0, .int .i64 a1_1] from (k26_mkM _ _ _ (⟨a1_0, a1_1⟩ : S26) )) (Reps.c2 (show Kd.M k26 _ _ _ (⟨a1_2, a1_3⟩ : S26) [.int .i64 a1_2, .int .i64 a1_3] from (k26_mkM _ _ _ (⟨a1_2, a1_3⟩ : S26) )) (Reps.none _ _)))); intro v210 w15 ho16 hb hg_ hnew_; clear hg_ hnew_; (first | rw [← Ny209.out] at ho16 | (simp only [Int.reduceToNat] at ho16; rw [← Ny209.out] at ho16)); have n0_ := Aside0.mk (Kd.V_elder' (Kd.V_below HO0_0.out bu_) (Kd.R_base ho16) hb); have n1_ := Aside0.mk (Kd.R_lower (Kd.R_newM (M := fun k_ => (w.heap.size ≤ k_)) ho16 (below_size bl0_) (fun k_ h_ => h_)) (below_size bl0_)); have n2_ := Aside0.mk (blk_below (bq_ BK206.out) hb); have n3_ := Aside0.mk (blk_below (bq_ BK207.out) hb); have n4_ := Aside0.mk (blk_below (bq_ BK208.out) hb); have n5_ := Aside0.mk (below_step bl0_ hb); clear HO0_0; clear BK206; clear BK207; clear BK208; clear HB; have HO0_0 := n0_; have HO211 := n1_; have BK206 := n2_; have BK207 := n3_; have BK208 := n4_; have HB := n5_; clear n0_ n1_ n2_ n3_ n4_ n5_; clear hb ho16; obtain ⟨Ao17, co17, eo17⟩ := Kd.R_slice HO211.out; subst eo17) | ((with_reducible refine gate_callee (f := 17) rfl ?_); refine goesL_ (some 15) rfl rfl Tryd.func17 (by kernel_rfl) rfl #[.agg #[.slice A0_0 l0_0.length c0_0, .bool a0_1], .slice Ao17 y209.length co17] rfl mp_ ?_; (with_reducible refine (span_points.calls k (fun k_ => (((((P0_0_ k_ ∨ w.heap.size ≤ k_) ∧ k_ ≠ gb206) ∧ k_ ≠ gb207) ∧ k_ ≠ gb208) ∧ some k_ ≠ (.slice Ao17 y209.length co17 : Value).ownBlock)) _ _ l0_0 a0_1 _ _ y209 t212 t215 t216 _ ?side1 ?side2 ?side3 A3.out).mono ?_); (case side1 => exact HO0_0.out); (case side2 => repeat (first | exact (Kd.R_reads' HO211.out).2.2 | (with_reducible refine Kd.C_alloc ?_ _) | (with_reducible refine Kd.C_drewN ?_ _) | (with_reducible refine Kd.C_drew ?_))); (case side3 => exact (Kd.R_reads' HO211.out).2.1); rintro e w18 ⟨v213, rfl, ho0, hb⟩; refine ⟨_, rfl, ?_⟩; have n0_ := Aside0.mk (Kd.V_below (Kd.V_below HO0_0.out bu_) hb); have n1_ := Aside0.mk (Kd.R_below (Kd.R_below HO211.out bu_) hb); have n2_ := Aside0.mk (Kd.V_lower (Kd.V_mono (ok' := fun k_ => (P0_0_ k_ ∨ w.heap.size ≤ k_) ∧ some k_ ≠ (.slice Ao17 y209.length co17 : Value).ownBlock ∧ k_ ≠ gb206 ∧ k_ ≠ gb207 ∧ k_ ≠ gb208) ho0 (fun k_ hk_ => ⟨Or.elim hk_ (fun hs_ => hs_.1.1.1.1) (fun hn_ => (.inr (Nat.le_trans (below_size bl0_) hn_))), Or.elim hk_ (fun hs_ => hs_.2) (fun hn_ => (Kd.fresh' (Kd.R_lt (Kd.R_below HO211.out bu_)) k_ hn_)), Or.elim hk_ (fun hs_ => hs_.1.1.1.2) (fun hn_ => (Kd.freshB (g := gb206) (o := .cells #[.slice A0_0 l0_0.length c0_0, .bool a0_1] 24 (0, 0)) (bq_ BK206.out) k_ hn_)), Or.elim hk_ (fun hs_ => hs_.1.1.2) (fun hn_ => (Kd.freshB (g := gb207) (o := .cells #[.int .i64 a1_0, .int .i64 a1_1, .int .i64 a1_2, .int .i64 a1_3] 28 (0, 0)) (bq_ BK207.out) k_ hn_)), Or.elim hk_ (fun hs_ => hs_.1.2) (fun hn_ => (Kd.freshB (g := gb208) (o := .cells #[.slice none 0 0, .bool false] 43 (0, 0)) (bq_ BK208.out) k_ hn_))⟩)) (below_size bl0_)); have n3_ := Aside0.mk (blk_below (bq_ BK206.out) hb); have n4_ := Aside0.mk (blk_below (bq_ BK207.out) hb); have n5_ := Aside0.mk (blk_below (bq_ BK208.out) hb); have n6_ := Aside0.mk (below_step bl0_ hb); clear HO0_0; clear HO211; clear BK206; clear BK207; clear BK208; clear HB; have HO0_0 := n0_; have HO211 := n1_; have HO214 := n2_; have BK206 := n3_; have BK207 := n4_; have BK208 := n5_; have HB := n6_; clear n0_ n1_ n2_ n3_ n4_ n5_ n6_; (try clear hb); (try clear hb2); (try clear hk); (try clear hi); (try clear ho0)) | ((with_reducible refine gate_dst (N := 6) rfl ?_); refine box_event ?hg (N := 6) ?hd (cs := #[.slice none 0 0, .bool false]) (t := 43) ?hr ?_; (case hd => rfl); (case hg => rfl); (case hr => first | (go_simp; done) | (go_simp; rfl)); intro gb217 hg w19 hbox hb; have n0_ := Aside0.mk (Kd.V_below (Kd.V_elderB (Kd.V_below HO0_0.out bu_) gb217 (Nat.le_of_eq hg.symm)) hb); have n1_ := Aside0.mk (Kd.R_below (Kd.R_below HO211.out bu_) hb); have n2_ := Aside0.mk (Kd.V_below (Kd.V_elderB (Kd.V_below HO214.out bu_) gb217 (Nat.le_of_eq hg.symm)) hb); have n3_ := Aside0.mk (blk_below (bq_ BK206.out) hb); have n4_ := Aside0.mk (blk_below (bq_ BK207.out) hb); have n5_ := Aside0.mk (blk_below (bq_ BK208.out) hb); have n6_ := Aside0.mk (below_step bl0_ hb); have n7_ := Aside0.mk (hbox); have n8_ := Aside0.mk (gle_ (w := w) hg bl0_); have n9_ := n8_; have n10_ := Aside0.mk ((nlt_ hg (bq_ BK206.out))); have n11_ := Aside0.mk ((ngt_ hg (bq_ BK206.out))); have n12_ := Aside0.mk ((nlt_ hg (bq_ BK207.out))); have n13_ := Aside0.mk ((ngt_ hg (bq_ BK207.out))); have n14_ := Aside0.mk ((nlt_ hg (bq_ BK208.out))); have n15_ := Aside0.mk ((ngt_ hg (bq_ BK208.out))); clear HO0_0; clear HO211; clear HO214; clear BK206; clear BK207; clear BK208; clear HB; have HO0_0 := n0_; have HO211 := n1_; have HO214 := n2_; have BK206 := n3_; have BK207 := n4_; have BK208 := n5_; have HB := n6_; have BK217 := n7_; have GW217 := n8_; have GE217 := n9_; have NB206_217 := n10_; have NB217_206 := n11_; have NB207_217 := n12_; have NB217_207 := n13_; have NB208_217 := n14_; have NB217_208 := n15_; clear n0_ n1_ n2_ n3_ n4_ n5_ n6_ n7_ n8_ n9_ n10_ n11_ n12_ n13_ n14_ n15_; clear hb hbox hg; obtain ⟨Ao20, co20, eo20⟩ := Kd.V_slice HO214.out; subst eo20; have hnb21 := NB217_206.out; have hnc21 := NB206_217.out; have hnb22 := NB217_207.out; have hnc22 := NB207_217.out; have hnb23 := NB217_208.out; have hnc23 := NB208_217.out; have hcz24_0 : w19.cell? ⟨gb217, 0, none⟩ = some (.slice none 0 0) := (blk_cell BK217.out 0).trans rfl; have hcz24_1 : w19.cell? ⟨gb217, 1, none⟩ = some (.bool false) := (blk_cell BK217.out 1).trans rfl; have hfz24_0 := blk_frozen BK217.out 0; have hfz24_1 := blk_frozen BK217.out 1; have hcz25_0 : w19.cell? ⟨gb207, 0, none⟩ = some (.int .i64 a1_0) := (blk_cell BK207.out 0).trans rfl; have hcz25_1 : w19.cell? ⟨gb207, 1, none⟩ = some (.int .i64 a1_1) := (blk_cell BK207.out 1).trans rfl; have hcz25_2 : w19.cell? ⟨gb207, 2, none⟩ = some (.int .i64 a1_2) := (blk_cell BK207.out 2).trans rfl; have hcz25_3 : w19.cell? ⟨gb207, 3, none⟩ = some (.int .i64 a1_3) := (blk_cell BK207.out 3).trans rfl; have hfz25_0 := blk_frozen BK207.out 0; have hfz25_1 := blk_frozen BK207.out 1; have hfz25_2 := blk_frozen BK207.out 2; have hfz25_3 := blk_frozen BK207.out 3) | (go_at_call 18; (with_reducible refine (span_ranger_order.calls k _ _ t212 t215 a1_0 a1_1 a1_2 a1_3 t218 _ ?side1 ?side2 A5.out).mono ?_); (case side1 => refine (Kd.V_reads' (e := 37) (base := w.heap.size) (ok := fun k_ => (((P0_0_ k_ ∨ w.heap.size ≤ k_) ∧ (some k_ ≠ (.slice Ao17 y209.length co17 : Value).ownBlock ∧ (k_ ≠ gb206 ∧ (k_ ≠ gb207 ∧ k_ ≠ gb208)))) ∧ k_ ≠ gb217)) (n := t212.length) (c := co20) ?_).2.2; exact (by (with_reducible repeat (first | apply Kd.V_alloc | apply Kd.V_drewN | apply Kd.V_drew)); exact (Kd.V_mono (Kd.V_far (p := ⟨gb217, 1, none⟩) (Kd.V_far (p := ⟨gb217, 0, none⟩) (Kd.V_mono HO214.out (fun k_ hk => (⟨hk, hk.2⟩ : _ ∧ k_ ≠ gb217))) (fun _ hk => hk.2) (.slice Ao20 t212.length co20)) (fun _ hk => hk.2) (.bool t215)) (fun _ h_ => h_.1)))); (case side2 => exact (Kd.V_reads' HO214.out).2.1); rintro e w26 ⟨rfl, hb⟩; have n0_ := Aside0.mk (Kd.V_below (by (with_reducible repeat (first | apply Kd.V_alloc | apply Kd.V_drewN | apply Kd.V_drew)); exact (Kd.V_mono (Kd.V_far (p := ⟨gb217, 1, none⟩) (Kd.V_far (p := ⟨gb217, 0, none⟩) (Kd.V_mono HO0_0.out (fun k_ hk => (⟨hk, hk.2⟩ : _ ∧ k_ ≠ gb217))) (fun _ hk => hk.2) (.slice Ao20 t212.length co20)) (fun _ hk => hk.2) (.bool t215)) (fun _ h_ => h_.1))) hb); have n1_ := Aside0.mk (Kd.R_below (by (with_reducible repeat (first | apply Kd.R_alloc | apply Kd.R_drewN | apply Kd.R_drew)); exact (Kd.R_mono (Kd.R_far (p := ⟨gb217, 1, none⟩) (Kd.R_far (p := ⟨gb217, 0, none⟩) (Kd.R_types HO211.out BK217.out (by decide)) (fun _ hk => hk.2) (.slice Ao20 t212.length co20)) (fun _ hk => hk.2) (.bool t215)) (fun _ h_ => h_.1))) hb); have n2_ := Aside0.mk (Kd.V_below (by (with_reducible repeat (first | apply Kd.V_alloc | apply Kd.V_drewN | apply Kd.V_drew)); exact (Kd.V_mono (Kd.V_far (p := ⟨gb217, 1, none⟩) (Kd.V_far (p := ⟨gb217, 0, none⟩) (Kd.V_mono HO214.out (fun k_ hk => (⟨hk, hk.2⟩ : _ ∧ k_ ≠ gb217))) (fun _ hk => hk.2) (.slice Ao20 t212.length co20)) (fun _ hk => hk.2) (.bool t215)) (fun _ h_ => h_.1))) hb); have n3_ := Aside0.mk (blk_below (g := gb206) (o := .cells #[.slice A0_0 l0_0.length c0_0, .bool a0_1] 24 (0, 0)) (by (with_reducible repeat (first | refine blk_drewN ?_ _ | refine blk_drew ?_ | refine blk_alloc ?_ _)); refine blk_far ?_ NB206_217.out _; (with_reducible repeat (first | refine blk_drewN ?_ _ | refine blk_drew ?_ | refine blk_alloc ?_ _)); refine blk_far ?_ NB206_217.out _; (with_reducible repeat (first | refine blk_drewN ?_ _ | refine blk_drew ?_ | refine blk_alloc ?_ _)); exact BK206.out) hb); have n4_ := Aside0.mk (blk_below (g := gb207) (o := .cells #[.int .i64 a1_0, .int .i64 a1_1, .int .i64 a1_2, .int .i64 a1_3] 28 (0, 0)) (by (with_reducible repeat (first | refine blk_drewN ?_ _ | refine blk_drew ?_ | refine blk_alloc ?_ _)); refine blk_far ?_ NB207_217.out _; (with_reducible repeat (first | refine blk_drewN ?_ _ | refine blk_drew ?_ | refine blk_alloc ?_ _)); refine blk_far ?_ NB207_217.out _; (with_reducible repeat (first | refine blk_drewN ?_ _ | refine blk_drew ?_ | refine blk_alloc ?_ _)); exact BK207.out) hb); have n5_ := Aside0.mk (blk_below (g := gb208) (o := .cells #[.slice none 0 0, .bool false] 43 (0, 0)) (by (with_reducible repeat (first | refine blk_drewN ?_ _ | refine blk_drew ?_ | refine blk_alloc ?_ _)); refine blk_far ?_ NB208_217.out _; (with_reducible repeat (first | refine blk_drewN ?_ _ | refine blk_drew ?_ | refine blk_alloc ?_ _)); refine blk_far ?_ NB208_217.out _; (with_reducible repeat (first | refine blk_drewN ?_ _ | refine blk_drew ?_ | refine blk_alloc ?_ _)); exact BK208.out) hb); have n6_ := Aside0.mk (blk_below (g := gb217) (o := .cells #[.slice Ao20 t212.length co20, .bool t215] 43 (0, 0)) (by (with_reducible repeat (first | refine blk_drewN ?_ _ | refine blk_drew ?_ | refine blk_alloc ?_ _)); refine blk_put (cs := #[.slice Ao20 t212.length co20, .bool false]) ?_ 1 _ rfl; (with_reducible repeat (first | refine blk_drewN ?_ _ | refine blk_drew ?_ | refine blk_alloc ?_ _)); refine blk_put (cs := #[.slice none 0 0, .bool false]) ?_ 0 _ rfl; (with_reducible repeat (first | refine blk_drewN ?_ _ | refine blk_drew ?_ | refine blk_alloc ?_ _)); exact BK217.out) hb); have n7_ := Aside0.mk (below_step bl0_ hb); clear HO0_0; clear HO211; clear HO214; clear BK206; clear BK207; clear BK208; clear BK217; clear HB; have HO0_0 := n0_; have HO211 := n1_; have HO214 := n2_; have BK206 := n3_; have BK207 := n4_; have BK208 := n5_; have BK217 := n6_; have HB := n7_; clear n0_ n1_ n2_ n3_ n4_ n5_ n6_ n7_; (try clear hb); (try clear hb2); (try clear hk); (try clear hi); have hcz27_0 : w26.cell? ⟨gb217, 0, none⟩ = some (.slice Ao20 t212.length co20) := (blk_cell BK217.out 0).trans rfl; have hcz27_1 : w26.cell? ⟨gb217, 1, none⟩ = some (.bool t215) := (blk_cell BK217.out 1).trans rfl; have hfz27_0 := blk_frozen BK217.out 0; have hfz27_1 := blk_frozen BK217.out 1; have hcz28_0 : w26.cell? ⟨gb208, 0, none⟩ = some (.slice none 0 0) := (blk_cell BK208.out 0).trans rfl; have hcz28_1 : w26.cell? ⟨gb208, 1, none⟩ = some (.bool false) := (blk_cell BK208.out 1).trans rfl; have hfz28_0 := blk_frozen BK208.out 0; have hfz28_1 := blk_frozen BK208.out 1))
      refine bodyPost_ret (results_ct rfl _ _ gb208 43 #[.slice Ao20 t212.length co20, .bool t215] (0, 0) _ rfl (by (with_reducible repeat (first | refine blk_drewN ?_ _ | refine blk_drew ?_ | refine blk_alloc ?_ _)); refine blk_put (cs := #[.slice Ao20 t212.length co20, .bool false]) ?_ 1 _ rfl; (with_reducible repeat (first | refine blk_drewN ?_ _ | refine blk_drew ?_ | refine blk_alloc ?_ _)); refine blk_put (cs := #[.slice none 0 0, .bool false]) ?_ 0 _ rfl; (with_reducible repeat (first | refine blk_drewN ?_ _ | refine blk_drew ?_ | refine blk_alloc ?_ _)); exact BK208.out) Tryd.underlying43 rfl (by kernel_rfl)) rfl ?_
      exact ⟨_, er_, by (with_reducible repeat (first | apply Kd.V_alloc | apply Kd.V_drewN | apply Kd.V_drew)); exact Kd.V_mono (Kd.V_far (p := ⟨gb208, 1, none⟩) (Kd.V_far (p := ⟨gb208, 0, none⟩) (Kd.V_mono HO214.out (fun k_ hk => (⟨hk, hk.1.2.2.2.2⟩ : _ ∧ k_ ≠ gb208))) (fun _ hk => hk.2) (.slice Ao20 t212.length co20)) (fun _ hk => hk.2) (.bool t215)) (fun _ hk => hk.1.1.1), bl0_⟩
    · rw [if_neg c6] at H
      have c6b0 : decide (0 < t218) = false := decide_eq_false c6
      clear c6
      simp only [Option.some.injEq, Prod.mk.injEq] at H
      obtain ⟨rfl, rfl, rfl⟩ := H
      go_enter Tryd.func10, Tryd.ntmps10
      go_wp2_with (first | ((with_reducible refine gate_dst (N := 2) rfl ?_); refine box_event ?hg (N := 2) ?hd (cs := #[.slice A0_0 l0_0.length c0_0, .bool a0_1]) (t := 24) ?hr ?_; (case hd => rfl); (case hg => rfl); (case hr => first | (go_simp; done) | (go_simp; rfl)); intro gb206 hg w29 hbox hb; have n0_ := Aside0.mk (Kd.V_below (Kd.V_elderB (Kd.V_below HO0_0.out bu_) gb206 (Nat.le_of_eq hg.symm)) hb); have n1_ := Aside0.mk (below_step bl0_ hb); have n2_ := Aside0.mk (hbox); have n3_ := Aside0.mk (gle_ (w := w) hg bl0_); have n4_ := n3_; clear HO0_0; clear HB; have HO0_0 := n0_; have HB := n1_; have BK206 := n2_; have GW206 := n3_; have GE206 := n4_; clear n0_ n1_ n2_ n3_ n4_; clear hb hbox hg) | ((with_reducible refine gate_dst (N := 3) rfl ?_); refine box_event ?hg (N := 3) ?hd (cs := #[.int .i64 a1_0, .int .i64 a1_1, .int .i64 a1_2, .int .i64 a1_3]) (t := 28) ?hr ?_; (case hd => rfl); (case hg => rfl); (case hr => first | (go_simp; done) | (go_simp; rfl)); intro gb207 hg w30 hbox hb; have n0_ := Aside0.mk (Kd.V_below (Kd.V_elderB (Kd.V_below HO0_0.out bu_) gb207 (Nat.le_of_eq hg.symm)) hb); have n1_ := Aside0.mk (blk_below (bq_ BK206.out) hb); have n2_ := Aside0.mk (below_step bl0_ hb); have n3_ := Aside0.mk (hbox); have n4_ := Aside0.mk (gle_ (w := w) hg bl0_); have n5_ := n4_; have n6_ := Aside0.mk ((nlt_ hg (bq_ BK206.out))); have n7_ := Aside0.mk ((ngt_ hg (bq_ BK206.out))); clear HO0_0; clear BK206; clear HB; have HO0_0 := n0_; have BK206 := n1_; have HB := n2_; have BK207 := n3_; have GW207 := n4_; have GE207 := n5_; have NB206_207 := n6_; have NB207_206 := n7_; clear n0_ n1_ n2_ n3_ n4_ n5_ n6_ n7_; clear hb hbox hg) | ((with_reducible refine gate_dst (N := 4) rfl ?_); refine box_event ?hg (N := 4) ?hd (cs := #[.slice none 0 0, .bool false]) (t := 43) ?hr ?_; (case hd => rfl); (case hg => rfl); (case hr => first | (go_simp; done) | (go_simp; rfl)); intro gb208 hg w31 hbox hb; have n0_ := Aside0.mk (Kd.V_below (Kd.V_elderB (Kd.V_below HO0_0.out bu_) gb208 (Nat.le_of_eq hg.symm)) hb); have n1_ := Aside0.mk (blk_below (bq_ BK206.out) hb); have n2_ := Aside0.mk (blk_below (bq_ BK207.out) hb); have n3_ := Aside0.mk (below_step bl0_ hb); have n4_ := Aside0.mk (hbox); have n5_ := Aside0.mk (gle_ (w := w) hg bl0_); have n6_ := n5_; have n7_ := Aside0.mk ((nlt_ hg (bq_ BK206.out))); have n8_ := Aside0.mk ((ngt_ hg (bq_ BK206.out))); have n9_ := Aside0.mk ((nlt_ hg (bq_ BK207.out))); have n10_ := Aside0.mk ((ngt_ hg (bq_ BK207.out))); clear HO0_0; clear BK206; clear BK207; clear HB; have HO0_0 := n0_; have BK206 := n1_; have BK207 := n2_; have HB := n3_; have BK208 := n4_; have GW208 := n5_; have GE208 := n6_; have NB206_208 := n7_; have NB208_206 := n8_; have NB207_208 := n9_; have NB208_207 := n10_; clear n0_ n1_ n2_ n3_ n4_ n5_ n6_ n7_ n8_ n9_ n10_; clear hb hbox hg; have hnb32 := NB206_207.out; have hnc32 := NB207_206.out; have hnb33 := NB206_208.out; have hnc33 := NB208_206.out; have hcz34_0 : w31.cell? ⟨gb206, 0, none⟩ = some (.slice A0_0 l0_0.length c0_0) := (blk_cell BK206.out 0).trans rfl; have hcz34_1 : w31.cell? ⟨gb206, 1, none⟩ = some (.bool a0_1) := (blk_cell BK206.out 1).trans rfl; have hfz34_0 := blk_frozen BK206.out 0; have hfz34_1 := blk_frozen BK206.out 1; have hnb35 := NB207_208.out; have hnc35 := NB208_207.out; have hcz36_0 : w31.cell? ⟨gb207, 0, none⟩ = some (.int .i64 a1_0) := (blk_cell BK207.out 0).trans rfl; have hcz36_1 : w31.cell? ⟨gb207, 1, none⟩ = some (.int .i64 a1_1) := (blk_cell BK207.out 1).trans rfl; have hcz36_2 : w31.cell? ⟨gb207, 2, none⟩ = some (.int .i64 a1_2) := (blk_cell BK207.out 2).trans rfl; have hcz36_3 : w31.cell? ⟨gb207, 3, none⟩ = some (.int .i64 a1_3) := (blk_cell BK207.out 3).trans rfl; have hfz36_0 := blk_frozen BK207.out 0; have hfz36_1 := blk_frozen BK207.out 1; have hfz36_2 := blk_frozen BK207.out 2; have hfz36_3 := blk_frozen BK207.out 3) | ((with_reducible refine gate_dst (N := 14) rfl ?_); refine Kd.R_lit k26 _ 26 ?hg (N := 14) ?hd (xs := ([(⟨a1_0, a1_1⟩ : S26), (⟨a1_2, a1_3⟩ : S26)] : List (S26))) (inner := [.int .i64 a1_0, .int .i64 a1_1, .int .i64 a1_2, .int .i64 a1_3]) (ok := fun _ => True) (okp := fun _ => True) ?hr ?hp (fun _ hk => hk) trivial (Below.refl _ _) (Nat.le_refl _) (by simp) ?_; (case hd => rfl); (case hg => rfl); (case hr => first | (go_simp; done) | (go_simp; rfl)); (case hp => exact (Reps.c2 (show Kd.M k26 _ _ _ (⟨a1_0, a1_1⟩ : S26) [.int .i64 a1_0, .int .i64 a1_1] from (k26_mkM _ _ _ (⟨a1_0, a1_1⟩ : S26) )) (Reps.c2 (show Kd.M k26 _ _ _ (⟨a1_2, a1_3⟩ : S26) [.int .i64 a1_2, .int .i64 a1_3] from (k26_mkM _ _ _ (⟨a1_2, a1_3⟩ : S26) )) (Reps.none _ _)))); intro v210 w37 ho38 hb hg_ hnew_; clear hg_ hnew_; (first | rw [← Ny209.out] at ho38 | (simp only [Int.reduceToNat] at ho38; rw [← Ny209.out] at ho38)); have n0_ := Aside0.mk (Kd.V_elder' (Kd.V_below HO0_0.out bu_) (Kd.R_base ho38) hb); have n1_ := Aside0.mk (Kd.R_lower (Kd.R_newM (M := fun k_ => (w.heap.size ≤ k_)) ho38 (below_size bl0_) (fun k_ h_ => h_)) (below_size bl0_)); have n2_ := Aside0.mk (blk_below (bq_ BK206.out) hb); have n3_ := Aside0.mk (blk_below (bq_ BK207.out) hb); have n4_ := Aside0.mk (blk_below (bq_ BK208.out) hb); have n5_ := Aside0.mk (below_step bl0_ hb); clear HO0_0; clear BK206; clear BK207; clear BK208; clear HB; have HO0_0 := n0_; have HO211 := n1_; have BK206 := n2_; have BK207 := n3_; have BK208 := n4_; have HB := n5_; clear n0_ n1_ n2_ n3_ n4_ n5_; clear hb ho38; obtain ⟨Ao39, co39, eo39⟩ := Kd.R_slice HO211.out; subst eo39) | ((with_reducible refine gate_callee (f := 17) rfl ?_); refine goesL_ (some 15) rfl rfl Tryd.func17 (by kernel_rfl) rfl #[.agg #[.slice A0_0 l0_0.length c0_0, .bool a0_1], .slice Ao39 y209.length co39] rfl mp_ ?_; (with_reducible refine (span_points.calls k (fun k_ => (((((P0_0_ k_ ∨ w.heap.size ≤ k_) ∧ k_ ≠ gb206) ∧ k_ ≠ gb207) ∧ k_ ≠ gb208) ∧ some k_ ≠ (.slice Ao39 y209.length co39 : Value).ownBlock)) _ _ l0_0 a0_1 _ _ y209 t212 t215 t216 _ ?side1 ?side2 ?side3 A3.out).mono ?_); (case side1 => exact HO0_0.out); (case side2 => repeat (first | exact (Kd.R_reads' HO211.out).2.2 | (with_reducible refine Kd.C_alloc ?_ _) | (with_reducible refine Kd.C_drewN ?_ _) | (with_reducible refine Kd.C_drew ?_))); (case side3 => exact (Kd.R_reads' HO211.out).2.1); rintro e w40 ⟨v213, rfl, ho0, hb⟩; refine ⟨_, rfl, ?_⟩; have n0_ := Aside0.mk (Kd.V_below (Kd.V_below HO0_0.out bu_) hb); have n1_ := Aside0.mk (Kd.R_below (Kd.R_below HO211.out bu_) hb); have n2_ := Aside0.mk (Kd.V_lower (Kd.V_mono (ok' := fun k_ => (P0_0_ k_ ∨ w.heap.size ≤ k_) ∧ some k_ ≠ (.slice Ao39 y209.length co39 : Value).ownBlock ∧ k_ ≠ gb206 ∧ k_ ≠ gb207 ∧ k_ ≠ gb208) ho0 (fun k_ hk_ => ⟨Or.elim hk_ (fun hs_ => hs_.1.1.1.1) (fun hn_ => (.inr (Nat.le_trans (below_size bl0_) hn_))), Or.elim hk_ (fun hs_ => hs_.2) (fun hn_ => (Kd.fresh' (Kd.R_lt (Kd.R_below HO211.out bu_)) k_ hn_)), Or.elim hk_ (fun hs_ => hs_.1.1.1.2) (fun hn_ => (Kd.freshB (g := gb206) (o := .cells #[.slice A0_0 l0_0.length c0_0, .bool a0_1] 24 (0, 0)) (bq_ BK206.out) k_ hn_)), Or.elim hk_ (fun hs_ => hs_.1.1.2) (fun hn_ => (Kd.freshB (g := gb207) (o := .cells #[.int .i64 a1_0, .int .i64 a1_1, .int .i64 a1_2, .int .i64 a1_3] 28 (0, 0)) (bq_ BK207.out) k_ hn_)), Or.elim hk_ (fun hs_ => hs_.1.2) (fun hn_ => (Kd.freshB (g := gb208) (o := .cells #[.slice none 0 0, .bool false] 43 (0, 0)) (bq_ BK208.out) k_ hn_))⟩)) (below_size bl0_)); have n3_ := Aside0.mk (blk_below (bq_ BK206.out) hb); have n4_ := Aside0.mk (blk_below (bq_ BK207.out) hb); have n5_ := Aside0.mk (blk_below (bq_ BK208.out) hb); have n6_ := Aside0.mk (below_step bl0_ hb); clear HO0_0; clear HO211; clear BK206; clear BK207; clear BK208; clear HB; have HO0_0 := n0_; have HO211 := n1_; have HO214 := n2_; have BK206 := n3_; have BK207 := n4_; have BK208 := n5_; have HB := n6_; clear n0_ n1_ n2_ n3_ n4_ n5_ n6_; (try clear hb); (try clear hb2); (try clear hk); (try clear hi); (try clear ho0)) | ((with_reducible refine gate_dst (N := 6) rfl ?_); refine box_event ?hg (N := 6) ?hd (cs := #[.slice none 0 0, .bool false]) (t := 43) ?hr ?_; (case hd => rfl); (case hg => rfl); (case hr => first | (go_simp; done) | (go_simp; rfl)); intro gb217 hg w41 hbox hb; have n0_ := Aside0.mk (Kd.V_below (Kd.V_elderB (Kd.V_below HO0_0.out bu_) gb217 (Nat.le_of_eq hg.symm)) hb); have n1_ := Aside0.mk (Kd.R_below (Kd.R_below HO211.out bu_) hb); have n2_ := Aside0.mk (Kd.V_below (Kd.V_elderB (Kd.V_below HO214.out bu_) gb217 (Nat.le_of_eq hg.symm)) hb); have n3_ := Aside0.mk (blk_below (bq_ BK206.out) hb); have n4_ := Aside0.mk (blk_below (bq_ BK207.out) hb); have n5_ := Aside0.mk (blk_below (bq_ BK208.out) hb); have n6_ := Aside0.mk (below_step bl0_ hb); have n7_ := Aside0.mk (hbox); have n8_ := Aside0.mk (gle_ (w := w) hg bl0_); have n9_ := n8_; have n10_ := Aside0.mk ((nlt_ hg (bq_ BK206.out))); have n11_ := Aside0.mk ((ngt_ hg (bq_ BK206.out))); have n12_ := Aside0.mk ((nlt_ hg (bq_ BK207.out))); have n13_ := Aside0.mk ((ngt_ hg (bq_ BK207.out))); have n14_ := Aside0.mk ((nlt_ hg (bq_ BK208.out))); have n15_ := Aside0.mk ((ngt_ hg (bq_ BK208.out))); clear HO0_0; clear HO211; clear HO214; clear BK206; clear BK207; clear BK208; clear HB; have HO0_0 := n0_; have HO211 := n1_; have HO214 := n2_; have BK206 := n3_; have BK207 := n4_; have BK208 := n5_; have HB := n6_; have BK217 := n7_; have GW217 := n8_; have GE217 := n9_; have NB206_217 := n10_; have NB217_206 := n11_; have NB207_217 := n12_; have NB217_207 := n13_; have NB208_217 := n14_; have NB217_208 := n15_; clear n0_ n1_ n2_ n3_ n4_ n5_ n6_ n7_ n8_ n9_ n10_ n11_ n12_ n13_ n14_ n15_; clear hb hbox hg; obtain ⟨Ao42, co42, eo42⟩ := Kd.V_slice HO214.out; subst eo42; have hnb43 := NB217_206.out; have hnc43 := NB206_217.out; have hnb44 := NB217_207.out; have hnc44 := NB207_217.out; have hnb45 := NB217_208.out; have hnc45 := NB208_217.out; have hcz46_0 : w41.cell? ⟨gb217, 0, none⟩ = some (.slice none 0 0) := (blk_cell BK217.out 0).trans rfl; have hcz46_1 : w41.cell? ⟨gb217, 1, none⟩ = some (.bool false) := (blk_cell BK217.out 1).trans rfl; have hfz46_0 := blk_frozen BK217.out 0; have hfz46_1 := blk_frozen BK217.out 1; have hcz47_0 : w41.cell? ⟨gb207, 0, none⟩ = some (.int .i64 a1_0) := (blk_cell BK207.out 0).trans rfl; have hcz47_1 : w41.cell? ⟨gb207, 1, none⟩ = some (.int .i64 a1_1) := (blk_cell BK207.out 1).trans rfl; have hcz47_2 : w41.cell? ⟨gb207, 2, none⟩ = some (.int .i64 a1_2) := (blk_cell BK207.out 2).trans rfl; have hcz47_3 : w41.cell? ⟨gb207, 3, none⟩ = some (.int .i64 a1_3) := (blk_cell BK207.out 3).trans rfl; have hfz47_0 := blk_frozen BK207.out 0; have hfz47_1 := blk_frozen BK207.out 1; have hfz47_2 := blk_frozen BK207.out 2; have hfz47_3 := blk_frozen BK207.out 3) | (go_at_call 18; (with_reducible refine (span_ranger_order.calls k _ _ t212 t215 a1_0 a1_1 a1_2 a1_3 t218 _ ?side1 ?side2 A5.out).mono ?_); (case side1 => refine (Kd.V_reads' (e := 37) (base := w.heap.size) (ok := fun k_ => (((P0_0_ k_ ∨ w.heap.size ≤ k_) ∧ (some k_ ≠ (.slice Ao39 y209.length co39 : Value).ownBlock ∧ (k_ ≠ gb206 ∧ (k_ ≠ gb207 ∧ k_ ≠ gb208)))) ∧ k_ ≠ gb217)) (n := t212.length) (c := co42) ?_).2.2; exact (by (with_reducible repeat (first | apply Kd.V_alloc | apply Kd.V_drewN | apply Kd.V_drew)); exact (Kd.V_mono (Kd.V_far (p := ⟨gb217, 1, none⟩) (Kd.V_far (p := ⟨gb217, 0, none⟩) (Kd.V_mono HO214.out (fun k_ hk => (⟨hk, hk.2⟩ : _ ∧ k_ ≠ gb217))) (fun _ hk => hk.2) (.slice Ao42 t212.length co42)) (fun _ hk => hk.2) (.bool t215)) (fun _ h_ => h_.1)))); (case side2 => exact (Kd.V_reads' HO214.out).2.1); rintro e w48 ⟨rfl, hb⟩; have n0_ := Aside0.mk (Kd.V_below (by (with_reducible repeat (first | apply Kd.V_alloc | apply Kd.V_drewN | apply Kd.V_drew)); exact (Kd.V_mono (Kd.V_far (p := ⟨gb217, 1, none⟩) (Kd.V_far (p := ⟨gb217, 0, none⟩) (Kd.V_mono HO0_0.out (fun k_ hk => (⟨hk, hk.2⟩ : _ ∧ k_ ≠ gb217))) (fun _ hk => hk.2) (.slice Ao42 t212.length co42)) (fun _ hk => hk.2) (.bool t215)) (fun _ h_ => h_.1))) hb); have n1_ := Aside0.mk (Kd.R_below (by (with_reducible repeat (first | apply Kd.R_alloc | apply Kd.R_drewN | apply Kd.R_drew)); exact (Kd.R_mono (Kd.R_far (p := ⟨gb217, 1, none⟩) (Kd.R_far (p := ⟨gb217, 0, none⟩) (Kd.R_types HO211.out BK217.out (by decide)) (fun _ hk => hk.2) (.slice Ao42 t212.length co42)) (fun _ hk => hk.2) (.bool t215)) (fun _ h_ => h_.1))) hb); have n2_ := Aside0.mk (Kd.V_below (by (with_reducible repeat (first | apply Kd.V_alloc | apply Kd.V_drewN | apply Kd.V_drew)); exact (Kd.V_mono (Kd.V_far (p := ⟨gb217, 1, none⟩) (Kd.V_far (p := ⟨gb217, 0, none⟩) (Kd.V_mono HO214.out (fun k_ hk => (⟨hk, hk.2⟩ : _ ∧ k_ ≠ gb217))) (fun _ hk => hk.2) (.slice Ao42 t212.length co42)) (fun _ hk => hk.2) (.bool t215)) (fun _ h_ => h_.1))) hb); have n3_ := Aside0.mk (blk_below (g := gb206) (o := .cells #[.slice A0_0 l0_0.length c0_0, .bool a0_1] 24 (0, 0)) (by (with_reducible repeat (first | refine blk_drewN ?_ _ | refine blk_drew ?_ | refine blk_alloc ?_ _)); refine blk_far ?_ NB206_217.out _; (with_reducible repeat (first | refine blk_drewN ?_ _ | refine blk_drew ?_ | refine blk_alloc ?_ _)); refine blk_far ?_ NB206_217.out _; (with_reducible repeat (first | refine blk_drewN ?_ _ | refine blk_drew ?_ | refine blk_alloc ?_ _)); exact BK206.out) hb); have n4_ := Aside0.mk (blk_below (g := gb207) (o := .cells #[.int .i64 a1_0, .int .i64 a1_1, .int .i64 a1_2, .int .i64 a1_3] 28 (0, 0)) (by (with_reducible repeat (first | refine blk_drewN ?_ _ | refine blk_drew ?_ | refine blk_alloc ?_ _)); refine blk_far ?_ NB207_217.out _; (with_reducible repeat (first | refine blk_drewN ?_ _ | refine blk_drew ?_ | refine blk_alloc ?_ _)); refine blk_far ?_ NB207_217.out _; (with_reducible repeat (first | refine blk_drewN ?_ _ | refine blk_drew ?_ | refine blk_alloc ?_ _)); exact BK207.out) hb); have n5_ := Aside0.mk (blk_below (g := gb208) (o := .cells #[.slice none 0 0, .bool false] 43 (0, 0)) (by (with_reducible repeat (first | refine blk_drewN ?_ _ | refine blk_drew ?_ | refine blk_alloc ?_ _)); refine blk_far ?_ NB208_217.out _; (with_reducible repeat (first | refine blk_drewN ?_ _ | refine blk_drew ?_ | refine blk_alloc ?_ _)); refine blk_far ?_ NB208_217.out _; (with_reducible repeat (first | refine blk_drewN ?_ _ | refine blk_drew ?_ | refine blk_alloc ?_ _)); exact BK208.out) hb); have n6_ := Aside0.mk (blk_below (g := gb217) (o := .cells #[.slice Ao42 t212.length co42, .bool t215] 43 (0, 0)) (by (with_reducible repeat (first | refine blk_drewN ?_ _ | refine blk_drew ?_ | refine blk_alloc ?_ _)); refine blk_put (cs := #[.slice Ao42 t212.length co42, .bool false]) ?_ 1 _ rfl; (with_reducible repeat (first | refine blk_drewN ?_ _ | refine blk_drew ?_ | refine blk_alloc ?_ _)); refine blk_put (cs := #[.slice none 0 0, .bool false]) ?_ 0 _ rfl; (with_reducible repeat (first | refine blk_drewN ?_ _ | refine blk_drew ?_ | refine blk_alloc ?_ _)); exact BK217.out) hb); have n7_ := Aside0.mk (below_step bl0_ hb); clear HO0_0; clear HO211; clear HO214; clear BK206; clear BK207; clear BK208; clear BK217; clear HB; have HO0_0 := n0_; have HO211 := n1_; have HO214 := n2_; have BK206 := n3_; have BK207 := n4_; have BK208 := n5_; have BK217 := n6_; have HB := n7_; clear n0_ n1_ n2_ n3_ n4_ n5_ n6_ n7_; (try clear hb); (try clear hb2); (try clear hk); (try clear hi); have hcz49_0 : w48.cell? ⟨gb217, 0, none⟩ = some (.slice Ao42 t212.length co42) := (blk_cell BK217.out 0).trans rfl; have hcz49_1 : w48.cell? ⟨gb217, 1, none⟩ = some (.bool t215) := (blk_cell BK217.out 1).trans rfl; have hfz49_0 := blk_frozen BK217.out 0; have hfz49_1 := blk_frozen BK217.out 1; have hcz50_0 : w48.cell? ⟨gb208, 0, none⟩ = some (.slice none 0 0) := (blk_cell BK208.out 0).trans rfl; have hcz50_1 : w48.cell? ⟨gb208, 1, none⟩ = some (.bool false) := (blk_cell BK208.out 1).trans rfl; have hfz50_0 := blk_frozen BK208.out 0; have hfz50_1 := blk_frozen BK208.out 1))
      refine bodyPost_ret (results_ct rfl _ _ gb208 43 #[.slice Ao42 t212.length co42, .bool t215] (0, 0) _ rfl (by (with_reducible repeat (first | refine blk_drewN ?_ _ | refine blk_drew ?_ | refine blk_alloc ?_ _)); refine blk_put (cs := #[.slice Ao42 t212.length co42, .bool false]) ?_ 1 _ rfl; (with_reducible repeat (first | refine blk_drewN ?_ _ | refine blk_drew ?_ | refine blk_alloc ?_ _)); refine blk_put (cs := #[.slice none 0 0, .bool false]) ?_ 0 _ rfl; (with_reducible repeat (first | refine blk_drewN ?_ _ | refine blk_drew ?_ | refine blk_alloc ?_ _)); exact BK208.out) Tryd.underlying43 rfl (by kernel_rfl)) rfl ?_
      exact ⟨_, er_, by (with_reducible repeat (first | apply Kd.V_alloc | apply Kd.V_drewN | apply Kd.V_drew)); exact Kd.V_mono (Kd.V_far (p := ⟨gb208, 1, none⟩) (Kd.V_far (p := ⟨gb208, 0, none⟩) (Kd.V_mono HO214.out (fun k_ hk => (⟨hk, hk.1.2.2.2.2⟩ : _ ∧ k_ ≠ gb208))) (fun _ hk => hk.2) (.slice Ao42 t212.length co42)) (fun _ hk => hk.2) (.bool t215)) (fun _ hk => hk.1.1.1), bl0_⟩
  · rw [if_neg c4] at H
    have c4b0 : (t216 == 0) = false := beq_eq_false_iff_ne.mpr c4
    have c4b1 : (t216 != 0) = true := bne_iff_ne.mpr c4
    simp only [Option.some.injEq, Prod.mk.injEq] at H
    obtain ⟨rfl, rfl, rfl⟩ := H
    go_enter Tryd.func10, Tryd.ntmps10
    go_wp2_with (first | ((with_reducible refine gate_dst (N := 2) rfl ?_); refine box_event ?hg (N := 2) ?hd (cs := #[.slice A0_0 l0_0.length c0_0, .bool a0_1]) (t := 24) ?hr ?_; (case hd => rfl); (case hg => rfl); (case hr => first | (go_simp; done) | (go_simp; rfl)); intro gb206 hg w51 hbox hb; have n0_ := Aside0.mk (Kd.V_below (Kd.V_elderB (Kd.V_below HO0_0.out bu_) gb206 (Nat.le_of_eq hg.symm)) hb); have n1_ := Aside0.mk (below_step bl0_ hb); have n2_ := Aside0.mk (hbox); have n3_ := Aside0.mk (gle_ (w := w) hg bl0_); have n4_ := n3_; clear HO0_0; clear HB; have HO0_0 := n0_; have HB := n1_; have BK206 := n2_; have GW206 := n3_; have GE206 := n4_; clear n0_ n1_ n2_ n3_ n4_; clear hb hbox hg) | ((with_reducible refine gate_dst (N := 3) rfl ?_); refine box_event ?hg (N := 3) ?hd (cs := #[.int .i64 a1_0, .int .i64 a1_1, .int .i64 a1_2, .int .i64 a1_3]) (t := 28) ?hr ?_; (case hd => rfl); (case hg => rfl); (case hr => first | (go_simp; done) | (go_simp; rfl)); intro gb207 hg w52 hbox hb; have n0_ := Aside0.mk (Kd.V_below (Kd.V_elderB (Kd.V_below HO0_0.out bu_) gb207 (Nat.le_of_eq hg.symm)) hb); have n1_ := Aside0.mk (blk_below (bq_ BK206.out) hb); have n2_ := Aside0.mk (below_step bl0_ hb); have n3_ := Aside0.mk (hbox); have n4_ := Aside0.mk (gle_ (w := w) hg bl0_); have n5_ := n4_; have n6_ := Aside0.mk ((nlt_ hg (bq_ BK206.out))); have n7_ := Aside0.mk ((ngt_ hg (bq_ BK206.out))); clear HO0_0; clear BK206; clear HB; have HO0_0 := n0_; have BK206 := n1_; have HB := n2_; have BK207 := n3_; have GW207 := n4_; have GE207 := n5_; have NB206_207 := n6_; have NB207_206 := n7_; clear n0_ n1_ n2_ n3_ n4_ n5_ n6_ n7_; clear hb hbox hg) | ((with_reducible refine gate_dst (N := 4) rfl ?_); refine box_event ?hg (N := 4) ?hd (cs := #[.slice none 0 0, .bool false]) (t := 43) ?hr ?_; (case hd => rfl); (case hg => rfl); (case hr => first | (go_simp; done) | (go_simp; rfl)); intro gb208 hg w53 hbox hb; have n0_ := Aside0.mk (Kd.V_below (Kd.V_elderB (Kd.V_below HO0_0.out bu_) gb208 (Nat.le_of_eq hg.symm)) hb); have n1_ := Aside0.mk (blk_below (bq_ BK206.out) hb); have n2_ := Aside0.mk (blk_below (bq_ BK207.out) hb); have n3_ := Aside0.mk (below_step bl0_ hb); have n4_ := Aside0.mk (hbox); have n5_ := Aside0.mk (gle_ (w := w) hg bl0_); have n6_ := n5_; have n7_ := Aside0.mk ((nlt_ hg (bq_ BK206.out))); have n8_ := Aside0.mk ((ngt_ hg (bq_ BK206.out))); have n9_ := Aside0.mk ((nlt_ hg (bq_ BK207.out))); have n10_ := Aside0.mk ((ngt_ hg (bq_ BK207.out))); clear HO0_0; clear BK206; clear BK207; clear HB; have HO0_0 := n0_; have BK206 := n1_; have BK207 := n2_; have HB := n3_; have BK208 := n4_; have GW208 := n5_; have GE208 := n6_; have NB206_208 := n7_; have NB208_206 := n8_; have NB207_208 := n9_; have NB208_207 := n10_; clear n0_ n1_ n2_ n3_ n4_ n5_ n6_ n7_ n8_ n9_ n10_; clear hb hbox hg; have hnb54 := NB206_207.out; have hnc54 := NB207_206.out; have hnb55 := NB206_208.out; have hnc55 := NB208_206.out; have hcz56_0 : w53.cell? ⟨gb206, 0, none⟩ = some (.slice A0_0 l0_0.length c0_0) := (blk_cell BK206.out 0).trans rfl; have hcz56_1 : w53.cell? ⟨gb206, 1, none⟩ = some (.bool a0_1) := (blk_cell BK206.out 1).trans rfl; have hfz56_0 := blk_frozen BK206.out 0; have hfz56_1 := blk_frozen BK206.out 1; have hnb57 := NB207_208.out; have hnc57 := NB208_207.out; have hcz58_0 : w53.cell? ⟨gb207, 0, none⟩ = some (.int .i64 a1_0) := (blk_cell BK207.out 0).trans rfl; have hcz58_1 : w53.cell? ⟨gb207, 1, none⟩ = some (.int .i64 a1_1) := (blk_cell BK207.out 1).trans rfl; have hcz58_2 : w53.cell? ⟨gb207, 2, none⟩ = some (.int .i64 a1_2) := (blk_cell BK207.out 2).trans rfl; have hcz58_3 : w53.cell? ⟨gb207, 3, none⟩ = some (.int .i64 a1_3) := (blk_cell BK207.out 3).trans rfl; have hfz58_0 := blk_frozen BK207.out 0; have hfz58_1 := blk_frozen BK207.out 1; have hfz58_2 := blk_frozen BK207.out 2; have hfz58_3 := blk_frozen BK207.out 3) | ((with_reducible refine gate_dst (N := 14) rfl ?_); refine Kd.R_lit k26 _ 26 ?hg (N := 14) ?hd (xs := ([(⟨a1_0, a1_1⟩ : S26), (⟨a1_2, a1_3⟩ : S26)] : List (S26))) (inner := [.int .i64 a1_0, .int .i64 a1_1, .int .i64 a1_2, .int .i64 a1_3]) (ok := fun _ => True) (okp := fun _ => True) ?hr ?hp (fun _ hk => hk) trivial (Below.refl _ _) (Nat.le_refl _) (by simp) ?_; (case hd => rfl); (case hg => rfl); (case hr => first | (go_simp; done) | (go_simp; rfl)); (case hp => exact (Reps.c2 (show Kd.M k26 _ _ _ (⟨a1_0, a1_1⟩ : S26) [.int .i64 a1_0, .int .i64 a1_1] from (k26_mkM _ _ _ (⟨a1_0, a1_1⟩ : S26) )) (Reps.c2 (show Kd.M k26 _ _ _ (⟨a1_2, a1_3⟩ : S26) [.int .i64 a1_2, .int .i64 a1_3] from (k26_mkM _ _ _ (⟨a1_2, a1_3⟩ : S26) )) (Reps.none _ _)))); intro v210 w59 ho60 hb hg_ hnew_; clear hg_ hnew_; (first | rw [← Ny209.out] at ho60 | (simp only [Int.reduceToNat] at ho60; rw [← Ny209.out] at ho60)); have n0_ := Aside0.mk (Kd.V_elder' (Kd.V_below HO0_0.out bu_) (Kd.R_base ho60) hb); have n1_ := Aside0.mk (Kd.R_lower (Kd.R_newM (M := fun k_ => (w.heap.size ≤ k_)) ho60 (below_size bl0_) (fun k_ h_ => h_)) (below_size bl0_)); have n2_ := Aside0.mk (blk_below (bq_ BK206.out) hb); have n3_ := Aside0.mk (blk_below (bq_ BK207.out) hb); have n4_ := Aside0.mk (blk_below (bq_ BK208.out) hb); have n5_ := Aside0.mk (below_step bl0_ hb); clear HO0_0; clear BK206; clear BK207; clear BK208; clear HB; have HO0_0 := n0_; have HO211 := n1_; have BK206 := n2_; have BK207 := n3_; have BK208 := n4_; have HB := n5_; clear n0_ n1_ n2_ n3_ n4_ n5_; clear hb ho60; obtain ⟨Ao61, co61, eo61⟩ := Kd.R_slice HO211.out; subst eo61) | ((with_reducible refine gate_callee (f := 17) rfl ?_); refine goesL_ (some 15) rfl rfl Tryd.func17 (by kernel_rfl) rfl #[.agg #[.slice A0_0 l0_0.length c0_0, .bool a0_1], .slice Ao61 y209.length co61] rfl mp_ ?_; (with_reducible refine (span_points.calls k (fun k_ => (((((P0_0_ k_ ∨ w.heap.size ≤ k_) ∧ k_ ≠ gb206) ∧ k_ ≠ gb207) ∧ k_ ≠ gb208) ∧ some k_ ≠ (.slice Ao61 y209.length co61 : Value).ownBlock)) _ _ l0_0 a0_1 _ _ y209 t212 t215 t216 _ ?side1 ?side2 ?side3 A3.out).mono ?_); (case side1 => exact HO0_0.out); (case side2 => repeat (first | exact (Kd.R_reads' HO211.out).2.2 | (with_reducible refine Kd.C_alloc ?_ _) | (with_reducible refine Kd.C_drewN ?_ _) | (with_reducible refine Kd.C_drew ?_))); (case side3 => exact (Kd.R_reads' HO211.out).2.1); rintro e w62 ⟨v213, rfl, ho0, hb⟩; refine ⟨_, rfl, ?_⟩; have n0_ := Aside0.mk (Kd.V_below (Kd.V_below HO0_0.out bu_) hb); have n1_ := Aside0.mk (Kd.R_below (Kd.R_below HO211.out bu_) hb); have n2_ := Aside0.mk (Kd.V_lower (Kd.V_mono (ok' := fun k_ => (P0_0_ k_ ∨ w.heap.size ≤ k_) ∧ some k_ ≠ (.slice Ao61 y209.length co61 : Value).ownBlock ∧ k_ ≠ gb206 ∧ k_ ≠ gb207 ∧ k_ ≠ gb208) ho0 (fun k_ hk_ => ⟨Or.elim hk_ (fun hs_ => hs_.1.1.1.1) (fun hn_ => (.inr (Nat.le_trans (below_size bl0_) hn_))), Or.elim hk_ (fun hs_ => hs_.2) (fun hn_ => (Kd.fresh' (Kd.R_lt (Kd.R_below HO211.out bu_)) k_ hn_)), Or.elim hk_ (fun hs_ => hs_.1.1.1.2) (fun hn_ => (Kd.freshB (g := gb206) (o := .cells #[.slice A0_0 l0_0.length c0_0, .bool a0_1] 24 (0, 0)) (bq_ BK206.out) k_ hn_)), Or.elim hk_ (fun hs_ => hs_.1.1.2) (fun hn_ => (Kd.freshB (g := gb207) (o := .cells #[.int .i64 a1_0, .int .i64 a1_1, .int .i64 a1_2, .int .i64 a1_3] 28 (0, 0)) (bq_ BK207.out) k_ hn_)), Or.elim hk_ (fun hs_ => hs_.1.2) (fun hn_ => (Kd.freshB (g := gb208) (o := .cells #[.slice none 0 0, .bool false] 43 (0, 0)) (bq_ BK208.out) k_ hn_))⟩)) (below_size bl0_)); have n3_ := Aside0.mk (blk_below (bq_ BK206.out) hb); have n4_ := Aside0.mk (blk_below (bq_ BK207.out) hb); have n5_ := Aside0.mk (blk_below (bq_ BK208.out) hb); have n6_ := Aside0.mk (below_step bl0_ hb); clear HO0_0; clear HO211; clear BK206; clear BK207; clear BK208; clear HB; have HO0_0 := n0_; have HO211 := n1_; have HO214 := n2_; have BK206 := n3_; have BK207 := n4_; have BK208 := n5_; have HB := n6_; clear n0_ n1_ n2_ n3_ n4_ n5_ n6_; (try clear hb); (try clear hb2); (try clear hk); (try clear hi); (try clear ho0)) | ((with_reducible refine gate_dst (N := 6) rfl ?_); refine box_event ?hg (N := 6) ?hd (cs := #[.slice none 0 0, .bool false]) (t := 43) ?hr ?_; (case hd => rfl); (case hg => rfl); (case hr => first | (go_simp; done) | (go_simp; rfl)); intro gb217 hg w63 hbox hb; have n0_ := Aside0.mk (Kd.V_below (Kd.V_elderB (Kd.V_below HO0_0.out bu_) gb217 (Nat.le_of_eq hg.symm)) hb); have n1_ := Aside0.mk (Kd.R_below (Kd.R_below HO211.out bu_) hb); have n2_ := Aside0.mk (Kd.V_below (Kd.V_elderB (Kd.V_below HO214.out bu_) gb217 (Nat.le_of_eq hg.symm)) hb); have n3_ := Aside0.mk (blk_below (bq_ BK206.out) hb); have n4_ := Aside0.mk (blk_below (bq_ BK207.out) hb); have n5_ := Aside0.mk (blk_below (bq_ BK208.out) hb); have n6_ := Aside0.mk (below_step bl0_ hb); have n7_ := Aside0.mk (hbox); have n8_ := Aside0.mk (gle_ (w := w) hg bl0_); have n9_ := n8_; have n10_ := Aside0.mk ((nlt_ hg (bq_ BK206.out))); have n11_ := Aside0.mk ((ngt_ hg (bq_ BK206.out))); have n12_ := Aside0.mk ((nlt_ hg (bq_ BK207.out))); have n13_ := Aside0.mk ((ngt_ hg (bq_ BK207.out))); have n14_ := Aside0.mk ((nlt_ hg (bq_ BK208.out))); have n15_ := Aside0.mk ((ngt_ hg (bq_ BK208.out))); clear HO0_0; clear HO211; clear HO214; clear BK206; clear BK207; clear BK208; clear HB; have HO0_0 := n0_; have HO211 := n1_; have HO214 := n2_; have BK206 := n3_; have BK207 := n4_; have BK208 := n5_; have HB := n6_; have BK217 := n7_; have GW217 := n8_; have GE217 := n9_; have NB206_217 := n10_; have NB217_206 := n11_; have NB207_217 := n12_; have NB217_207 := n13_; have NB208_217 := n14_; have NB217_208 := n15_; clear n0_ n1_ n2_ n3_ n4_ n5_ n6_ n7_ n8_ n9_ n10_ n11_ n12_ n13_ n14_ n15_; clear hb hbox hg; obtain ⟨Ao64, co64, eo64⟩ := Kd.V_slice HO214.out; subst eo64; have hnb65 := NB217_206.out; have hnc65 := NB206_217.out; have hnb66 := NB217_207.out; have hnc66 := NB207_217.out; have hnb67 := NB217_208.out; have hnc67 := NB208_217.out; have hcz68_0 : w63.cell? ⟨gb217, 0, none⟩ = some (.slice none 0 0) := (blk_cell BK217.out 0).trans rfl; have hcz68_1 : w63.cell? ⟨gb217, 1, none⟩ = some (.bool false) := (blk_cell BK217.out 1).trans rfl; have hfz68_0 := blk_frozen BK217.out 0; have hfz68_1 := blk_frozen BK217.out 1; have hcz69_0 : w63.cell? ⟨gb208, 0, none⟩ = some (.slice none 0 0) := (blk_cell BK208.out 0).trans rfl; have hcz69_1 : w63.cell? ⟨gb208, 1, none⟩ = some (.bool false) := (blk_cell BK208.out 1).trans rfl; have hfz69_0 := blk_frozen BK208.out 0; have hfz69_1 := blk_frozen BK208.out 1))
    refine bodyPost_ret (results_ct rfl _ _ gb208 43 #[.slice Ao64 t212.length co64, .bool t215] (0, 0) _ rfl (by (with_reducible repeat (first | refine blk_drewN ?_ _ | refine blk_drew ?_ | refine blk_alloc ?_ _)); refine blk_put (cs := #[.slice Ao64 t212.length co64, .bool false]) ?_ 1 _ rfl; (with_reducible repeat (first | refine blk_drewN ?_ _ | refine blk_drew ?_ | refine blk_alloc ?_ _)); refine blk_put (cs := #[.slice none 0 0, .bool false]) ?_ 0 _ rfl; (with_reducible repeat (first | refine blk_drewN ?_ _ | refine blk_drew ?_ | refine blk_alloc ?_ _)); refine blk_far ?_ NB208_217.out _; (with_reducible repeat (first | refine blk_drewN ?_ _ | refine blk_drew ?_ | refine blk_alloc ?_ _)); refine blk_far ?_ NB208_217.out _; (with_reducible repeat (first | refine blk_drewN ?_ _ | refine blk_drew ?_ | refine blk_alloc ?_ _)); exact BK208.out) Tryd.underlying43 rfl (by kernel_rfl)) rfl ?_
    exact ⟨_, er_, by (with_reducible repeat (first | apply Kd.V_alloc | apply Kd.V_drewN | apply Kd.V_drew)); exact Kd.V_mono (Kd.V_far (p := ⟨gb208, 1, none⟩) (Kd.V_far (p := ⟨gb208, 0, none⟩) (Kd.V_far (p := ⟨gb217, 1, none⟩) (Kd.V_far (p := ⟨gb217, 0, none⟩) (Kd.V_mono (Kd.V_mono HO214.out (fun k_ hk => (⟨hk, hk.2⟩ : _ ∧ k_ ≠ gb217))) (fun k_ hk => (⟨hk, hk.1.1.2.2.2.2⟩ : _ ∧ k_ ≠ gb208))) (fun _ hk => hk.1.2) (.slice Ao64 t212.length co64)) (fun _ hk => hk.1.2) (.bool t215)) (fun _ hk => hk.2) (.slice Ao64 t212.length co64)) (fun _ hk => hk.2) (.bool t215)) (fun _ hk => hk.1.1.1.1), bl0_⟩

/-- A node's row of kids, at whatever world keeps all but what may be written. -/
theorem node_kids {w W1 : World} {S : Nat → Prop} {ad : Addr} {xs : List S37} {i : Int} {A : Option Addr} {c m : Nat} (h : ∀ W_, Kept w W_ S → Kd.C k37 W_ (some ad) xs.length xs) (h0 : 0 ≤ i) (h1 : i < (xs.length : Int)) (hk1 : Kept w W1 S)
    (hc : W1.cell? ⟨(ad.add (i.toNat * 6)).block, (ad.add (i.toNat * 6)).off + 5, none⟩ = some (.slice A m c)) : ∀ W_, Kept w W_ S → Kd.C (Kd.int .i64) W_ A m (rd_T37 xs i).f5 := by
  intro W_ hk
  have hS := Kd.foot_neS h (by omega) (by decide)
  have hlt := Kd.foot_ltS h (by omega) (by decide)
  obtain ⟨ad', A2, c2, A5, c5, e, _, _, _, _, _, hx5, _, _, hl5, hi5⟩ := at_T37 (h W_ hk) i h0 h1
  injection e with e
  subst e
  have hb : W_.heap[(ad.add (i.toNat * 6)).block]? = W1.heap[(ad.add (i.toNat * 6)).block]? := by
    rw [add_block]
    exact (hk.2 _ hlt hS).trans (hk1.2 _ hlt hS).symm
  have hcc := World.cell?_of_block (a := ⟨(ad.add (i.toNat * 6)).block, (ad.add (i.toNat * 6)).off + 5, none⟩) hb
  rw [hx5, hc] at hcc
  injection hcc with hcc
  injection hcc with e1 e2 e3
  subst e1 e2
  exact hi5
/-! ### dom_walk: function 16 -/
mutual
def dom_walk.l0 : Nat → List Int → List Int → Int → Int → List (S37) → Bool → Option (List Int)
  | 0, _, _, _, _, _, _ => none
  | k + 1, x2, x18, x19, x20, x220000, x220001 => if x20 < x19 then (if 0 ≤ x20 then (if x20 < (x18.length : Int) then ((dom_walk.f k x220000 x220001 (rd x18 x20) x2).bind fun t225 => (dom_walk.l0 k t225 x18 x19 (wrap64 (x20 + 1)) x220000 x220001)) else (none)) else (none)) else (some x2)
def dom_walk.f : Nat → List (S37) → Bool → Int → List Int → Option (List Int)
  | 0, _, _, _, _ => none
  | k + 1, l0_0, a0_1, a1, l2 => if l2.length < 17592186044416 then (if 0 ≤ a1 then (if a1 < (l0_0.length : Int) then (dom_walk.l0 k (l2 ++ [a1]) ((rd_T37 l0_0 a1).f5) (((rd_T37 l0_0 a1).f5).length : Int) 0 l0_0 a0_1) else (none)) else (none)) else (none)
end
theorem dom_walk.mono_l : ∀ k, (∀ y0 y1 y2 y3, LeO (dom_walk.f k y0 y1 y2 y3) (dom_walk.f (k + 1) y0 y1 y2 y3)) ∧ (∀ y0 y1 y2 y3 y4 y5, LeO (dom_walk.l0 k y0 y1 y2 y3 y4 y5) (dom_walk.l0 (k + 1) y0 y1 y2 y3 y4 y5))
  | 0 => ⟨fun _ _ _ _ r h => by simp [dom_walk.f] at h, fun _ _ _ _ _ _ r h => by simp [dom_walk.l0] at h⟩
  | k + 1 => by
    obtain ⟨ih0, ih1⟩ := dom_walk.mono_l k
    refine ⟨?_, ?_⟩
    · intro y0 y1 y2 y3
      unfold dom_walk.f
      repeat' first
      | (with_reducible exact ih0 _ _ _ _)
      | (with_reducible exact ih1 _ _ _ _ _ _)
      | (with_reducible exact LeO.refl _)
      | (with_reducible exact LeO.none _)
      | (with_reducible refine LeO.ite ?_ ?_)
      | (with_reducible refine LeO.bind ?_ (fun _ => ?_))
      | exact ih0 _ _ _ _
      | exact ih1 _ _ _ _ _ _
      | exact LeO.none _
      | refine LeO.ite ?_ ?_
      | refine LeO.bind ?_ (fun _ => ?_)
    · intro y0 y1 y2 y3 y4 y5
      unfold dom_walk.l0
      repeat' first
      | (with_reducible exact ih0 _ _ _ _)
      | (with_reducible exact ih1 _ _ _ _ _ _)
      | (with_reducible exact LeO.refl _)
      | (with_reducible exact LeO.none _)
      | (with_reducible refine LeO.ite ?_ ?_)
      | (with_reducible refine LeO.bind ?_ (fun _ => ?_))
      | exact ih0 _ _ _ _
      | exact ih1 _ _ _ _ _ _
      | exact LeO.none _
      | refine LeO.ite ?_ ?_
      | refine LeO.bind ?_ (fun _ => ?_)
theorem dom_walk.mono : ∀ a0 a1 a2 a3 k, LeO (dom_walk.f k a0 a1 a2 a3) (dom_walk.f (k + 1) a0 a1 a2 a3) := by
  intro a0 a1 a2 a3 k
  obtain ⟨ih0, ih1⟩ := dom_walk.mono_l k
  exact ih0 a0 a1 a2 a3
set_option maxHeartbeats 8000000 in
set_option maxRecDepth 100000 in
theorem dom_walk.calls (k : Nat) : ∀ (A0_0 : Option Addr) (c0_0 : Nat) (l0_0 : List (S37)) (a0_1 : Bool) (a1 : Int) (P2_ : Nat → Prop) (u9000_ : Value) (l2 : List Int) (r : List Int) (w0 w : World) (hB : Below w0.heap.size w0 w) (hr0_0 : ∀ W_, Kept w W_ (fun k_ => P2_ k_) → Kd.C k37 W_ A0_0 l0_0.length l0_0) (hc0_0 : l0_0.length ≤ c0_0) (ho2 : Kd.R (Kd.int .i64) 3 w w0.heap.size P2_ u9000_ l2) (h : dom_walk.f k l0_0 a0_1 a1 l2 = some r),
    Calls Tryd.prog 16 #[.agg #[.slice A0_0 l0_0.length c0_0, .bool a0_1], .int .i64 a1, u9000_] w fun e w' => ∃ v0_ : Value, e = .returned (v0_) ∧ Kd.R (Kd.int .i64) 3 w' w0.heap.size (fun k_ => (P2_ k_ ∨ w.heap.size ≤ k_)) v0_ r ∧ Below w0.heap.size w0 w' ∧ Kept w w' (fun k_ => P2_ k_) := by
  induction k using Nat.strongRecOn with
  | _ k ih =>
  intro A0_0 c0_0 l0_0 a0_1 a1 P2_ u9000_ l2 r w0 w hB hr0_0 hc0_0 ho2 h
  cases k with
  | zero => exact absurd h (by simp [dom_walk.f])
  | succ k =>
  simp only [dom_walk.f] at h
  have hu24 := Tryd.underlying24
  have HR0_0 := Aside0.mk hr0_0
  have HC0_0 := Aside0.mk hc0_0
  clear hr0_0 hc0_0
  have HO2 := Aside0.mk (show Kd.R (Kd.int .i64) 3 w w0.heap.size (fun k_ => (P2_ k_ ∨ w.heap.size ≤ k_)) u9000_ l2 from Kd.R_mono ho2 (fun k_ hk => (.inl hk)))
  have HK := Aside0.mk (Kept.refl w (fun k_ => P2_ k_))
  have HW0 := Aside0.mk hB.size
  have HB := Aside0.mk hB
  clear hB
  have H : (if l2.length < 17592186044416 then (if 0 ≤ a1 then (if a1 < (l0_0.length : Int) then (dom_walk.l0 k (l2 ++ [a1]) ((rd_T37 l0_0 a1).f5) (((rd_T37 l0_0 a1).f5).length : Int) 0 l0_0 a0_1) else (none)) else (none)) else (none)) = some r := h
  clear h
  by_cases c4 : l2.length < 17592186044416
  · rw [if_pos c4] at H
    have LMc4 := Aside0.mk c4
    clear c4
    obtain ⟨y220, hy220⟩ : ∃ y_ : List Int, y_ = (l2 ++ [a1]) := ⟨_, rfl⟩
    replace H : (if 0 ≤ a1 then (if a1 < (l0_0.length : Int) then (dom_walk.l0 k y220 ((rd_T37 l0_0 a1).f5) (((rd_T37 l0_0 a1).f5).length : Int) 0 l0_0 a0_1) else (none)) else (none)) = some r := by first | (rw [hy220]; with_reducible exact H) | (have H2_ := (Option.bind_some _ _).symm.trans H; rw [hy220]; with_reducible exact H2_) | (have H2_ := (Option.bind_some _ _).symm.trans H; with_reducible exact H2_) | with_reducible exact H | (rw [hy220]; exact H) | exact H
    have Ny220 := Aside0.mk hy220
    clear hy220
    by_cases c5 : 0 ≤ a1
    · rw [if_pos c5] at H
      have c5b0 : decide (0 ≤ a1) = true := decide_eq_true c5
      clear c5
      by_cases c6 : a1 < (l0_0.length : Int)
      · rw [if_pos c6] at H
        have c6b0 : decide (a1 < (l0_0.length : Int)) = true := decide_eq_true c6
        clear c6
        have H' := Aside0.mk H
        clear H
        go_enter Tryd.func16, Tryd.ntmps16
        go_wp2_with (first | ((with_reducible refine gate_dst (N := 3) rfl ?_); refine box_event ?hg (N := 3) ?hd (cs := #[.slice A0_0 l0_0.length c0_0, .bool a0_1]) (t := 24) ?hr ?_; (case hd => rfl); (case hg => rfl); (case hr => first | (go_simp; done) | (go_simp; rfl)); intro gb219 hg w7 hbox hb; have n0_ := Aside0.mk (Kd.R_below (Kd.R_below HO2.out bu_) hb); have n1_ := Aside0.mk (Kept.below (S := (fun k_ => P2_ k_)) (by repeat (first | (with_reducible first | exact HK.out | apply Kept.alloc | apply Kept.drewN | apply Kept.drew) | exact HK.out)) hb); have n2_ := Aside0.mk (below_step bl0_ hb); have n3_ := Aside0.mk (hbox); have n4_ := Aside0.mk ((by rw [hg]; exact (by first | exact HK.out.1 | exact (show Kept w _ (fun k_ => P2_ k_) from by repeat (first | (with_reducible first | exact HK.out | apply Kept.alloc | apply Kept.drewN | apply Kept.drew) | exact HK.out)).1) : w.heap.size ≤ gb219)); have n5_ := Aside0.mk ((by rw [hg]; exact (below_size bl0_) : w0.heap.size ≤ gb219)); clear HO2; clear HK; clear HB; have HO2 := n0_; have HK := n1_; have HB := n2_; have BK219 := n3_; have GW219 := n4_; have GE219 := n5_; clear n0_ n1_ n2_ n3_ n4_ n5_; clear hb hbox hg) | ((with_reducible refine gate_builtin (b := .append) (xs := #[.tmp 9, .tmp 11]) rfl ?_); at_builtin; refine Kd.R_append (Kd.int .i64) (w0 := w0) w0.heap.size rfl (.tmp 9) (.tmp 11) 35 3 (.int .i64 0) 8 rfl Tryd.underlying35 info3 rfl (by decide) (by omega) u9000_ l2 a1 [.int .i64 a1] (fun k_ => (P2_ k_ ∨ w.heap.size ≤ k_)) (fun _ => False) rfl rfl ?aP (fun _ hk => hk.elim) ?aF ?aO ?aB ?aS ?aL ?_; (case aP => exact rfl); (case aB => exact bl0_); (case aF => exact (fun k_ hk => (.inr (Nat.le_trans (by first | exact HK.out.1 | exact (show Kept w _ (fun k_ => P2_ k_) from by repeat (first | (with_reducible first | exact HK.out | apply Kept.alloc | apply Kept.drewN | apply Kept.drew | refine Kept.setCell ?_ (.inr GW219.out) _) | exact HK.out)).1) hk)))); (case aO => exact (Kd.R_below HO2.out bu_)); (case aS => exact (below_size bl0_)); (case aL => have := LMc4.out; omega); intro v221 w8 ho hb hg hat; rw [← Ny220.out] at ho; have n0_ := Aside0.mk (blk_grown (g := gb219) (o := .cells #[.slice A0_0 l0_0.length c0_0, .bool a0_1] 24 (0, 0)) (bq_ BK219.out) hg (Kd.R_ne HO2.out BK219.out (by decide))); have n1_ := Aside0.mk (hb); have n2_ := Aside0.mk (Kept.of_grown (S := (fun k_ => P2_ k_)) hg (by repeat (first | (with_reducible first | exact HK.out | apply Kept.alloc | apply Kept.drewN | apply Kept.drew | refine Kept.setCell ?_ (.inr GW219.out) _) | exact HK.out)) (fun k_ e_ => (HO2.out.1 k_ e_))); have n3_ := Aside0.mk (ho); clear BK219; clear HB; clear HK; clear HO2; have BK219 := n0_; have HB := n1_; have HK := n2_; have HO222 := n3_; clear n0_ n1_ n2_ n3_; clear ho hb hg hat; have hcz9_0 : w8.cell? ⟨gb219, 0, none⟩ = some (.slice A0_0 l0_0.length c0_0) := (blk_cell BK219.out 0).trans rfl; have hcz9_1 : w8.cell? ⟨gb219, 1, none⟩ = some (.bool a0_1) := (blk_cell BK219.out 1).trans rfl; have hfz9_0 := blk_frozen BK219.out 0; have hfz9_1 := blk_frozen BK219.out 1; have p223 : 0 ≤ (a1 : Int) := of_decide_eq_true as_; have q223 : a1 < (l0_0.length : Int) := of_decide_eq_true as_; obtain ⟨ad223, A223_2, c223_2, A223_5, c223_5, e223, hx223_0, hx223_1, hx223_2, hx223_3, hx223_4, hx223_5, hl223_2, hi223_2, hl223_5, hi223_5⟩ := at_T37 (Kd.C_kept_now HR0_0.out HK.out) a1 p223 q223; cases e223; have HR223_2 := Aside0.mk hi223_2; have HC223_2 := Aside0.mk hl223_2; clear hi223_2 hl223_2; have HN_5 := Aside0.mk (node_kids HR0_0.out p223 q223 HK.out hx223_5); have HR223_5 := Aside0.mk hi223_5; have HC223_5 := Aside0.mk hl223_5; clear hi223_5 hl223_5; replace p223 := eq_true p223; replace q223 := eq_true q223))
        go_loopg [2, 20] k (fun kq v2 v20 w' => ∃ (x2_1 : List Int) (x20_1 : Int), v20 = .int .i64 x20_1 ∧ Aside0 (dom_walk.l0 kq x2_1 ((rd_T37 l0_0 a1).f5) (((rd_T37 l0_0 a1).f5).length : Int) x20_1 l0_0 a0_1 = some r) ∧ Aside0 (kq ≤ k) ∧ Aside0 (Kd.R (Kd.int .i64) 3 w' w0.heap.size (fun k_ => (P2_ k_ ∨ w.heap.size ≤ k_)) v2 x2_1) ∧ Aside0 (w'.heap[gb219]? = some (.cells #[(.slice (some ad223) l0_0.length c0_0), .bool a0_1] 24 (0, 0))) ∧ Aside0 (Kept w w' (fun k_ => P2_ k_)) ∧ Aside0 (Below w0.heap.size w0 w'))
        case atStart => exact ⟨(y220), (0), rs_, H', ⟨Nat.le_refl _⟩, ⟨by (with_reducible repeat (first | apply Kd.R_alloc | apply Kd.R_drewN | apply Kd.R_drew)); exact HO222.out⟩, ⟨by (with_reducible repeat (first | refine blk_drewN ?_ _ | refine blk_drew ?_ | refine blk_alloc ?_ _)); exact BK219.out⟩, ⟨by repeat (first | (with_reducible first | exact HK.out | apply Kept.alloc | apply Kept.drewN | apply Kept.drew | refine Kept.setCell ?_ (.inr GW219.out) _) | exact HK.out)⟩, ⟨bl0_⟩⟩
        case round =>
          clear H'
          try clear c1
          try clear c2
          try clear p2
          try clear q2
          try clear hx2
          try clear c4
          try clear c5
          try clear c5b0
          try clear c6
          try clear c6b0
          try clear hcz9_0
          try clear hcz9_1
          try clear hfz9_0
          try clear hfz9_1
          try clear hx223_0
          try clear hx223_1
          try clear hx223_2
          try clear hx223_3
          try clear hx223_4
          try clear hx223_5
          try clear p223
          try clear q223
          obtain ⟨x2_1, x20_1, rfl, HA, HK1, HO_2, BK219, HK, HB⟩ := hrel
          cases gk with
          | zero => exact absurd HA.out (by simp [dom_walk.l0])
          | succ k1 =>
            have H := HA.out
            clear HA
            simp only [dom_walk.l0] at H
            by_cases c10 : x20_1 < (((rd_T37 l0_0 a1).f5).length : Int)
            · rw [if_pos c10] at H
              have c10b0 : decide (x20_1 < (((rd_T37 l0_0 a1).f5).length : Int)) = true := decide_eq_true c10
              clear c10
              by_cases c11 : 0 ≤ x20_1
              · rw [if_pos c11] at H
                have c11b0 : decide (0 ≤ x20_1) = true := decide_eq_true c11
                clear c11
                by_cases c12 : x20_1 < (((rd_T37 l0_0 a1).f5).length : Int)
                · rw [if_pos c12] at H
                  have c12b0 : decide (x20_1 < (((rd_T37 l0_0 a1).f5).length : Int)) = true := decide_eq_true c12
                  clear c12
                  replace H := Option.bind_eq_some_iff.mp H
                  obtain ⟨t225, A130, H⟩ := H
                  replace H : (dom_walk.l0 k1 t225 ((rd_T37 l0_0 a1).f5) (((rd_T37 l0_0 a1).f5).length : Int) (wrap64 (x20_1 + 1)) l0_0 a0_1) = some r := H
                  have A13 := Aside0.mk A130
                  clear A130
                  have H' := Aside0.mk H
                  clear H
                  have p224 : 0 ≤ (x20_1 : Int) := of_decide_eq_true as_
                  have q224 : x20_1 < (((rd_T37 l0_0 a1).f5).length : Int) := of_decide_eq_true as_
                  obtain ⟨ad224, e224, hx224_0⟩ := Kd.at_int (HN_5.out _ HK.out) x20_1 p224 q224
                  cases e224
                  replace p224 := eq_true p224
                  replace q224 := eq_true q224
                  have hcz14_0 : wr.cell? ⟨gb219, 0, none⟩ = some (.slice (some ad223) l0_0.length c0_0) := (blk_cell BK219.out 0).trans rfl
                  have hcz14_1 : wr.cell? ⟨gb219, 1, none⟩ = some (.bool a0_1) := (blk_cell BK219.out 1).trans rfl
                  have hfz14_0 := blk_frozen BK219.out 0
                  have hfz14_1 := blk_frozen BK219.out 1
                  obtain ⟨Ao15, co15, eo15⟩ := Kd.R_slice HO_2.out
                  subst eo15
                  go_wp2_with (first | ((with_reducible refine gate_callee (f := 16) rfl ?_); refine goesL_ (some 27) rfl rfl Tryd.func16 (by kernel_rfl) rfl #[.agg #[.slice (some ad223) l0_0.length c0_0, .bool a0_1], .int .i64 (rd ((rd_T37 l0_0 a1).f5) x20_1), .slice Ao15 x2_1.length co15] rfl mp_ ?_; (with_reducible refine (ih k1 (by have := HK1.out; omega) _ _ l0_0 a0_1 (rd ((rd_T37 l0_0 a1).f5) x20_1) (fun k_ => some k_ = (.slice Ao15 x2_1.length co15 : Value).ownBlock) (.slice Ao15 x2_1.length co15) x2_1 t225 w0 _ ?side1 ?side2 ?side3 ?side4 A13.out).mono ?_); (case side1 => repeat (first | (with_reducible first | exact HB.out | apply below_alloc | apply pw_below_drewN | apply below_drew1 | refine below_set ?_ GE219.out) | exact HB.out)); (case side2 => exact Kd.C_kept_call HR0_0.out (by repeat (first | (with_reducible first | exact HK.out | apply Kept.alloc | apply Kept.drewN | apply Kept.drew | refine Kept.setCell ?_ (.inr GW219.out) _) | exact HK.out)) (fun k_ hs_ => (fun e_ => (HO_2.out.1 k_ e_.symm)) hs_)); (case side3 => exact HC0_0.out); (case side4 => exact Kd.R_tight rfl HO_2.out); rintro e w16 ⟨v226, rfl, ho0, hb, hkp⟩; refine ⟨_, rfl, ?_⟩; have n0_ := Aside0.mk (blk_kept (bq_ BK219.out) hkp (fun hs_ => (fun e_ => (Kd.R_ne HO_2.out BK219.out (by decide)) e_) hs_)); have n1_ := Aside0.mk (Kd.R_mono (ok' := fun k_ => (P2_ k_ ∨ w.heap.size ≤ k_)) ho0 (fun k_ hk_ => Or.elim hk_ (fun hs_ => (HO_2.out.1 k_ (hs_).symm)) (fun hn_ => (.inr (Nat.le_trans (by first | exact HK.out.1 | exact (show Kept w _ (fun k_ => P2_ k_) from by repeat (first | (with_reducible first | exact HK.out | apply Kept.alloc | apply Kept.drewN | apply Kept.drew | refine Kept.setCell ?_ (.inr GW219.out) _) | exact HK.out)).1) hn_))))); have n2_ := Aside0.mk (Kept.then_ (S := (fun k_ => P2_ k_)) (by repeat (first | (with_reducible first | exact HK.out | apply Kept.alloc | apply Kept.drewN | apply Kept.drew | refine Kept.setCell ?_ (.inr GW219.out) _) | exact HK.out)) hkp (fun k_ hs_ => (fun e_ => (HO_2.out.1 k_ e_.symm)) hs_)); have n3_ := Aside0.mk (hb); clear BK219; clear HK; clear HB; clear HO_2; have BK219 := n0_; have HO227 := n1_; have HK := n2_; have HB := n3_; clear n0_ n1_ n2_ n3_; (try clear hb); (try clear hkp); (try clear ho0)))
                  go_roundg k1
                  case measure => have := HK1.out; omega
                  case rel => exact ⟨(t225), (wrap64 (x20_1 + 1)), rs_, H', ⟨by have := HK1.out; omega⟩, ⟨by (with_reducible repeat (first | apply Kd.R_alloc | apply Kd.R_drewN | apply Kd.R_drew)); exact HO227.out⟩, ⟨by (with_reducible repeat (first | refine blk_drewN ?_ _ | refine blk_drew ?_ | refine blk_alloc ?_ _)); exact BK219.out⟩, ⟨by repeat (first | (with_reducible first | exact HK.out | apply Kept.alloc | apply Kept.drewN | apply Kept.drew | refine Kept.setCell ?_ (.inr GW219.out) _) | exact HK.out)⟩, ⟨bl0_⟩⟩
                · rw [if_neg c12] at H
                  exact absurd H (by simp)
              · rw [if_neg c11] at H
                exact absurd H (by simp)
            · rw [if_neg c10] at H
              have c10b0 : decide (x20_1 < (((rd_T37 l0_0 a1).f5).length : Int)) = false := decide_eq_false c10
              clear c10
              obtain rfl := Option.some.inj H
              go_wp2
              go_ret
              exact ⟨_, er_, by (with_reducible repeat (first | apply Kd.R_alloc | apply Kd.R_drewN | apply Kd.R_drew)); exact HO_2.out, bl0_, by repeat (first | (with_reducible first | exact HK.out | apply Kept.alloc | apply Kept.drewN | apply Kept.drew | refine Kept.setCell ?_ (.inr GW219.out) _) | exact HK.out)⟩
      · rw [if_neg c6] at H
        exact absurd H (by simp)
    · rw [if_neg c5] at H
      exact absurd H (by simp)
  · rw [if_neg c4] at H
    exact absurd H (by simp)

/-! ### dom_Order: function 11 -/
def dom_Order.f (k : Nat) (l0_0 : List (S37)) (a0_1 : Bool) : Option (List Int × Int) := (dom_Check.f k l0_0 a0_1).bind fun t229 => (if t229 = 0 then ((dom_walk.f k l0_0 a0_1 0 ([] : List Int)).bind fun t230 => (some (t230, 0))) else (some (([] : List Int), t229)))
theorem dom_Order.mono : ∀ a0 a1 k, LeO (dom_Order.f k a0 a1) (dom_Order.f (k + 1) a0 a1) := by
  intro a0 a1 k
  unfold dom_Order.f
  repeat' first
      | (with_reducible exact dom_Check.mono _ _ _)
      | (with_reducible exact dom_walk.mono _ _ _ _ _)
      | (with_reducible exact LeO.refl _)
      | (with_reducible exact LeO.none _)
      | (with_reducible refine LeO.ite ?_ ?_)
      | (with_reducible refine LeO.bind ?_ (fun _ => ?_))
      | exact dom_Check.mono _ _ _
      | exact dom_walk.mono _ _ _ _ _
      | exact LeO.none _
      | refine LeO.ite ?_ ?_
      | refine LeO.bind ?_ (fun _ => ?_)
set_option maxHeartbeats 8000000 in
set_option maxRecDepth 100000 in
theorem dom_Order.calls (k : Nat) (A0_0 : Option Addr) (c0_0 : Nat) (l0_0 : List (S37)) (a0_1 : Bool) (r1 : List Int) (r2 : Int) (w : World) (hr0_0 : Kd.C k37 w A0_0 l0_0.length l0_0) (hc0_0 : l0_0.length ≤ c0_0) (h : dom_Order.f k l0_0 a0_1 = some (r1, r2)) :
    Calls Tryd.prog 11 #[.agg #[.slice A0_0 l0_0.length c0_0, .bool a0_1]] w fun e w' => ∃ v0_ : Value, e = .returned (.tuple #[v0_, .int .i64 r2]) ∧ Kd.R (Kd.int .i64) 3 w' w.heap.size (fun _ => True) v0_ r1 ∧ Below w.heap.size w w' := by
  have hu24 := Tryd.underlying24
  have HR0_0 := Aside0.mk hr0_0
  have HC0_0 := Aside0.mk hc0_0
  clear hr0_0 hc0_0
  have HB := Aside0.mk (Below.refl w.heap.size w)
  have H : ((dom_Check.f k l0_0 a0_1).bind fun t229 => (if t229 = 0 then ((dom_walk.f k l0_0 a0_1 0 ([] : List Int)).bind fun t230 => (some (t230, 0))) else (some (([] : List Int), t229)))) = some (r1, r2) := h
  clear h
  replace H := Option.bind_eq_some_iff.mp H
  obtain ⟨t229, A20, H⟩ := H
  replace H : (if t229 = 0 then ((dom_walk.f k l0_0 a0_1 0 ([] : List Int)).bind fun t230 => (some (t230, 0))) else (some (([] : List Int), t229))) = some (r1, r2) := H
  have A2 := Aside0.mk A20
  clear A20
  by_cases c3 : t229 = 0
  · rw [if_pos c3] at H
    have c3b0 : (t229 == 0) = true := beq_iff_eq.mpr c3
    have c3b1 : (t229 != 0) = false := bne_eq_false_iff_eq.mpr c3
    clear c3
    replace H := Option.bind_eq_some_iff.mp H
    obtain ⟨t230, A40, H⟩ := H
    replace H : (some (t230, 0)) = some (r1, r2) := H
    have A4 := Aside0.mk A40
    clear A40
    simp only [Option.some.injEq, Prod.mk.injEq] at H
    obtain ⟨rfl, rfl⟩ := H
    go_enter Tryd.func11, Tryd.ntmps11
    go_wp2_with (first | ((with_reducible refine gate_dst (N := 1) rfl ?_); refine box_event ?hg (N := 1) ?hd (cs := #[.slice A0_0 l0_0.length c0_0, .bool a0_1]) (t := 24) ?hr ?_; (case hd => rfl); (case hg => rfl); (case hr => first | (go_simp; done) | (go_simp; rfl)); intro gb228 hg w5 hbox hb; have n0_ := Aside0.mk (below_step bl0_ hb); have n1_ := Aside0.mk (hbox); have n2_ := Aside0.mk (gle_ (w := w) hg bl0_); have n3_ := n2_; clear HB; have HB := n0_; have BK228 := n1_; have GW228 := n2_; have GE228 := n3_; clear n0_ n1_ n2_ n3_; clear hb hbox hg; have hcz6_0 : w5.cell? ⟨gb228, 0, none⟩ = some (.slice A0_0 l0_0.length c0_0) := (blk_cell BK228.out 0).trans rfl; have hcz6_1 : w5.cell? ⟨gb228, 1, none⟩ = some (.bool a0_1) := (blk_cell BK228.out 1).trans rfl; have hfz6_0 := blk_frozen BK228.out 0; have hfz6_1 := blk_frozen BK228.out 1) | ((with_reducible refine gate_callee (f := 19) rfl ?_); refine goesL_ (some 6) rfl rfl Tryd.func19 (by kernel_rfl) rfl #[.agg #[.slice A0_0 l0_0.length c0_0, .bool a0_1]] rfl mp_ ?_; (with_reducible refine (dom_Check.calls k _ _ l0_0 a0_1 t229 _ ?side1 ?side2 A2.out).mono ?_); (case side1 => repeat (first | exact (Kd.C_below HR0_0.out HB.out) | (with_reducible refine Kd.C_alloc ?_ _) | (with_reducible refine Kd.C_drewN ?_ _) | (with_reducible refine Kd.C_drew ?_))); (case side2 => exact HC0_0.out); rintro e w7 ⟨rfl, hb⟩; refine ⟨_, rfl, ?_⟩; have n0_ := Aside0.mk (blk_below (bq_ BK228.out) hb); have n1_ := Aside0.mk (below_step bl0_ hb); clear BK228; clear HB; have BK228 := n0_; have HB := n1_; clear n0_ n1_; (try clear hb); (try clear hb2); (try clear hk); (try clear hi); have hcz8_0 : w7.cell? ⟨gb228, 0, none⟩ = some (.slice A0_0 l0_0.length c0_0) := (blk_cell BK228.out 0).trans rfl; have hcz8_1 : w7.cell? ⟨gb228, 1, none⟩ = some (.bool a0_1) := (blk_cell BK228.out 1).trans rfl; have hfz8_0 := blk_frozen BK228.out 0; have hfz8_1 := blk_frozen BK228.out 1) | ((with_reducible refine gate_callee (f := 16) rfl ?_); refine goesL_ (some 11) rfl rfl Tryd.func16 (by kernel_rfl) rfl #[.agg #[.slice A0_0 l0_0.length c0_0, .bool a0_1], .int .i64 0, .slice none 0 0] rfl mp_ ?_; (refine (dom_walk.calls k _ _ l0_0 a0_1 0 (fun k_ => some k_ = (.slice none 0 0 : Value).ownBlock) (.slice none 0 0) ([] : List Int) t230 w _ ?side1 ?side2 ?side3 ?side4 A4.out).mono ?_); (case side1 => repeat (first | (with_reducible first | exact HB.out | apply below_alloc | apply pw_below_drewN | apply below_drew1 | refine below_set ?_ GE228.out) | exact HB.out)); (case side2 => exact Kd.C_kept_came k37_heap HR0_0.out bl0_ (fun k_ hs_ => (fun e_ => by simp [Value.ownBlock] at e_) hs_)); (case side3 => exact HC0_0.out); (case side4 => exact Kd.R_nil _ _ _ _ _); rintro e w9 ⟨v231, rfl, ho0, hb, hkp⟩; refine ⟨_, rfl, ?_⟩; have n0_ := Aside0.mk (blk_kept (bq_ BK228.out) hkp (fun hs_ => (fun e_ => by simp [Value.ownBlock] at e_) hs_)); have n1_ := Aside0.mk (Kd.R_mono (ok' := fun k_ => True) ho0 (fun k_ hk_ => trivial)); have n2_ := Aside0.mk (hb); clear BK228; clear HB; have BK228 := n0_; have HO232 := n1_; have HB := n2_; clear n0_ n1_ n2_; (try clear hb); (try clear hkp); (try clear ho0)))
    go_ret2
    exact ⟨_, er_, by (with_reducible repeat (first | apply Kd.R_alloc | apply Kd.R_drewN | apply Kd.R_drew)); exact HO232.out, bl0_⟩
  · rw [if_neg c3] at H
    have c3b0 : (t229 == 0) = false := beq_eq_false_iff_ne.mpr c3
    have c3b1 : (t229 != 0) = true := bne_iff_ne.mpr c3
    simp only [Option.some.injEq, Prod.mk.injEq] at H
    obtain ⟨rfl, rfl⟩ := H
    go_enter Tryd.func11, Tryd.ntmps11
    go_wp2_with (first | ((with_reducible refine gate_dst (N := 1) rfl ?_); refine box_event ?hg (N := 1) ?hd (cs := #[.slice A0_0 l0_0.length c0_0, .bool a0_1]) (t := 24) ?hr ?_; (case hd => rfl); (case hg => rfl); (case hr => first | (go_simp; done) | (go_simp; rfl)); intro gb228 hg w10 hbox hb; have n0_ := Aside0.mk (below_step bl0_ hb); have n1_ := Aside0.mk (hbox); have n2_ := Aside0.mk (gle_ (w := w) hg bl0_); have n3_ := n2_; clear HB; have HB := n0_; have BK228 := n1_; have GW228 := n2_; have GE228 := n3_; clear n0_ n1_ n2_ n3_; clear hb hbox hg; have hcz11_0 : w10.cell? ⟨gb228, 0, none⟩ = some (.slice A0_0 l0_0.length c0_0) := (blk_cell BK228.out 0).trans rfl; have hcz11_1 : w10.cell? ⟨gb228, 1, none⟩ = some (.bool a0_1) := (blk_cell BK228.out 1).trans rfl; have hfz11_0 := blk_frozen BK228.out 0; have hfz11_1 := blk_frozen BK228.out 1) | ((with_reducible refine gate_callee (f := 19) rfl ?_); refine goesL_ (some 6) rfl rfl Tryd.func19 (by kernel_rfl) rfl #[.agg #[.slice A0_0 l0_0.length c0_0, .bool a0_1]] rfl mp_ ?_; (with_reducible refine (dom_Check.calls k _ _ l0_0 a0_1 t229 _ ?side1 ?side2 A2.out).mono ?_); (case side1 => repeat (first | exact (Kd.C_below HR0_0.out HB.out) | (with_reducible refine Kd.C_alloc ?_ _) | (with_reducible refine Kd.C_drewN ?_ _) | (with_reducible refine Kd.C_drew ?_))); (case side2 => exact HC0_0.out); rintro e w12 ⟨rfl, hb⟩; refine ⟨_, rfl, ?_⟩; have n0_ := Aside0.mk (blk_below (bq_ BK228.out) hb); have n1_ := Aside0.mk (below_step bl0_ hb); clear BK228; clear HB; have BK228 := n0_; have HB := n1_; clear n0_ n1_; (try clear hb); (try clear hb2); (try clear hk); (try clear hi)))
    go_ret2
    exact ⟨_, er_, by first | exact Kd.R_nil _ _ _ _ _ | exact Kd.N_nil _ _ _ _ _ | exact Kd.V_nil _ _ _ _ _ | exact Kd.Q_nil _ _ _ _ _ | exact Kd.S_nil _ _ _ _ _, bl0_⟩

end Go.Proofs.YthggdgnpphjpkaaDoor.PSP
