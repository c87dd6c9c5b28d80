-- printed by wip/tools/pr.py (own) through the kit's printer; texts GIVEN by hand stand among them
import Derived.Test.YtmcinclecpeakaaGreatDoorPRRx0
namespace Go.Proofs.YtmcinclecpeakaaGreatDoor.PRR
open Go.RowKit Go.Proofs.YtmcinclecpeakaaGreatDoorW.PrintWords Go.Proofs.YtmcinclecpeakaaGreatDoorW.PrintLast Go.Proofs.YtmcinclecpeakaaGreatDoorW.PrintMore
attribute [local go_sem] max2_int min2_int max_two min_two max_three min_three max_four min_four   -- for this text's walks alone
set_option linter.unusedVariables false
set_option linter.unusedSimpArgs false

-- NOT PRINTED: function 6 (clerestorykeep1_few)

/-! ### clerestorykeep1_sameInts: function 22 -/
def clerestorykeep1_sameInts.l0 : Nat → List Int → List Int → Int → Option (Bool)
 | 0, _, _, _ => none
 | k + 1, x0, x1, x5 => if x5 < (x0.length : Int) then (if 0 ≤ x5 then (if x5 < (x1.length : Int) then (if (rd x0 x5) = (rd x1 x5) then (clerestorykeep1_sameInts.l0 k x0 x1 (wrap64 (x5 + 1))) else (some false)) else (none)) else (none)) else (some true)
def clerestorykeep1_sameInts.f (k : Nat) (l0 : List Int) (l1 : List Int) : Option (Bool) := if (l0.length : Int) = (l1.length : Int) then (clerestorykeep1_sameInts.l0 k l0 l1 0) else (some false)
theorem clerestorykeep1_sameInts.mono_l : ∀ k, (∀ y0 y1 y2, LeO (clerestorykeep1_sameInts.l0 k y0 y1 y2) (clerestorykeep1_sameInts.l0 (k + 1) y0 y1 y2))
 | 0 => fun _ _ _ r h => by simp [clerestorykeep1_sameInts.l0] at h
 | k + 1 => by
  have ih0 := clerestorykeep1_sameInts.mono_l k
  ·intro y0 y1 y2
   unfold clerestorykeep1_sameInts.l0
   repeat' first
   | (with_reducible exact ih0 _ _ _)
   | (with_reducible exact LeO.refl _)
   | (with_reducible exact LeO.none _)
   | (with_reducible refine LeO.ite ?_ ?_)
   | (with_reducible refine LeO.bind ?_ (fun _ => ?_))
   | exact ih0 _ _ _
   | exact LeO.none _
   | refine LeO.ite ?_ ?_
   | refine LeO.bind ?_ (fun _ => ?_)
theorem clerestorykeep1_sameInts.mono : ∀ a0 a1 k, LeO (clerestorykeep1_sameInts.f k a0 a1) (clerestorykeep1_sameInts.f (k + 1) a0 a1) := by
 intro a0 a1 k
 have ih0 := clerestorykeep1_sameInts.mono_l k
 unfold clerestorykeep1_sameInts.f
 repeat' first
   | (with_reducible exact ih0 _ _ _)
   | (with_reducible exact LeO.refl _)
   | (with_reducible exact LeO.none _)
   | (with_reducible refine LeO.ite ?_ ?_)
   | (with_reducible refine LeO.bind ?_ (fun _ => ?_))
   | exact ih0 _ _ _
   | exact LeO.none _
   | refine LeO.ite ?_ ?_
   | refine LeO.bind ?_ (fun _ => ?_)
set_option maxHeartbeats 8000000 in
set_option maxRecDepth 100000 in
theorem clerestorykeep1_sameInts.calls (k : Nat) (A0 : Option Addr) (c0 : Nat) (l0 : List Int) (A1 : Option Addr) (c1 : Nat) (l1 : List Int) (r : Bool) (w : World) (hr0 : Kd.C (Kd.int .i64) w A0 l0.length l0) (hc0 : l0.length ≤ c0) (hr1 : Kd.C (Kd.int .i64) w A1 l1.length l1) (hc1 : l1.length ≤ c1) (h : clerestorykeep1_sameInts.f k l0 l1 = some r) :
  Calls Tryz.prog 22 #[.slice A0 l0.length c0, .slice A1 l1.length c1] w fun e w' => e = .returned (.bool r) ∧ Drawn0 w w' := by
 have HR0 := Aside0.mk hr0
 have HC0 := Aside0.mk hc0
 clear hr0 hc0
 have HR1 := Aside0.mk hr1
 have HC1 := Aside0.mk hc1
 clear hr1 hc1
 have H : (if (l0.length : Int) = (l1.length : Int) then (clerestorykeep1_sameInts.l0 k l0 l1 0) else (some false)) = some r := h
 clear h
 by_cases c3 : (l0.length : Int) = (l1.length : Int)
 ·rw [if_pos c3] at H
  have c3b0 : ((l0.length : Int) == (l1.length : Int)) = true := beq_iff_eq.mpr c3
  have c3b1 : ((l0.length : Int) != (l1.length : Int)) = false := bne_eq_false_iff_eq.mpr c3
  have c3b2 : (l0.length == l1.length) = true := by first | simpa using c3 | (simp at c3 ⊢; omega)
  clear c3
  have H' := Aside0.mk H
  clear H
  go_enter Tryz.func22, Tryz.ntmps22
  go_wp2
  repeat (go_quiet (fail); try go_wp2)
  go_loopg [5] k (fun kq v5 w' => ∃ (x5_1 : Int), v5 = .int .i64 x5_1 ∧ Aside0 (clerestorykeep1_sameInts.l0 kq l0 l1 x5_1 = some r) ∧ Aside0 (kq ≤ k) ∧ Drawn0 w w')
  case atStart => exact ⟨(0), rs_, H', ⟨Nat.le_refl _⟩, by repeat (first | exact Drawn0.refl _ | apply Drawn0.step)⟩
  case round =>
   clear H'
   try clear c1; try clear c3b0; try clear c3b1; try clear c3b2
   obtain ⟨x5_1, rfl, HA, HK1, ⟨m1, rfl⟩⟩ := hrel
   cases gk with
   | zero => exact absurd HA.out (by simp [clerestorykeep1_sameInts.l0])
   | succ k1 =>
    have H := HA.out
    clear HA
    simp only [clerestorykeep1_sameInts.l0] at H
    by_cases c4 : x5_1 < (l0.length : Int)
    ·rw [if_pos c4] at H
     have c4b0 : decide (x5_1 < (l0.length : Int)) = true := decide_eq_true c4
     clear c4
     by_cases c5 : 0 ≤ x5_1
     ·rw [if_pos c5] at H
      have c5b0 : decide (0 ≤ x5_1) = true := decide_eq_true c5
      clear c5
      by_cases c6 : x5_1 < (l1.length : Int)
      ·rw [if_pos c6] at H
       have c6b0 : decide (x5_1 < (l1.length : Int)) = true := decide_eq_true c6
       clear c6
       by_cases c7 : (rd l0 x5_1) = (rd l1 x5_1)
       ·rw [if_pos c7] at H
        have c7b0 : ((rd l0 x5_1) == (rd l1 x5_1)) = true := beq_iff_eq.mpr c7
        have c7b1 : ((rd l0 x5_1) != (rd l1 x5_1)) = false := bne_eq_false_iff_eq.mpr c7
        clear c7
        have H' := Aside0.mk H
        clear H
        have p107 : 0 ≤ (x5_1 : Int) := of_decide_eq_true as_
        have q107 : x5_1 < (l0.length : Int) := of_decide_eq_true as_
        obtain ⟨ad107, e107, hx107_0⟩ := Kd.at_int HR0.out x5_1 p107 q107
        cases e107
        replace p107 := eq_true p107
        replace q107 := eq_true q107
        have p108 : 0 ≤ (x5_1 : Int) := of_decide_eq_true as_
        have q108 : x5_1 < (l1.length : Int) := of_decide_eq_true as_
        obtain ⟨ad108, e108, hx108_0⟩ := Kd.at_int HR1.out x5_1 p108 q108
        cases e108
        replace p108 := eq_true p108
        replace q108 := eq_true q108
        go_wp2
        repeat (go_quiet (fail); try go_wp2)
        go_roundg k1
        case measure => have := HK1.out; omega
        case rel => exact ⟨(wrap64 (x5_1 + 1)), rs_, H', ⟨by have := HK1.out; omega⟩, by repeat (first | exact Drawn0.refl _ | apply Drawn0.step)⟩
       ·rw [if_neg c7] at H
        have c7b0 : ((rd l0 x5_1) == (rd l1 x5_1)) = false := beq_eq_false_iff_ne.mpr c7
        have c7b1 : ((rd l0 x5_1) != (rd l1 x5_1)) = true := bne_iff_ne.mpr c7
        obtain rfl := Option.some.inj H
        have p107 : 0 ≤ (x5_1 : Int) := of_decide_eq_true as_
        have q107 : x5_1 < (l0.length : Int) := of_decide_eq_true as_
        obtain ⟨ad107, e107, hx107_0⟩ := Kd.at_int HR0.out x5_1 p107 q107
        cases e107
        replace p107 := eq_true p107
        replace q107 := eq_true q107
        have p108 : 0 ≤ (x5_1 : Int) := of_decide_eq_true as_
        have q108 : x5_1 < (l1.length : Int) := of_decide_eq_true as_
        obtain ⟨ad108, e108, hx108_0⟩ := Kd.at_int HR1.out x5_1 p108 q108
        cases e108
        replace p108 := eq_true p108
        replace q108 := eq_true q108
        go_wp2
        repeat (go_quiet (fail); try go_wp2)
        go_ret
        exact ⟨by first | rfl | (simp; done) | (simp [*]; done), by repeat (first | exact Drawn0.refl _ | apply Drawn0.step)⟩
      ·rw [if_neg c6] at H
       exact absurd H (by simp)
     ·rw [if_neg c5] at H
      exact absurd H (by simp)
    ·rw [if_neg c4] at H
     have c4b0 : decide (x5_1 < (l0.length : Int)) = false := decide_eq_false c4
     clear c4
     obtain rfl := Option.some.inj H
     go_wp2
     repeat (go_quiet (fail); try go_wp2)
     go_ret
     exact ⟨by first | rfl | (simp; done) | (simp [*]; done), by repeat (first | exact Drawn0.refl _ | apply Drawn0.step)⟩
 ·rw [if_neg c3] at H
  have c3b0 : ((l0.length : Int) == (l1.length : Int)) = false := beq_eq_false_iff_ne.mpr c3
  have c3b1 : ((l0.length : Int) != (l1.length : Int)) = true := bne_iff_ne.mpr c3
  have c3b2 : (l0.length == l1.length) = false := by first | simpa using c3 | (simp at c3 ⊢; omega)
  obtain rfl := Option.some.inj H
  go_enter Tryz.func22, Tryz.ntmps22
  go_wp2
  repeat (go_quiet (fail); try go_wp2)
  go_ret
  exact ⟨by first | rfl | (simp; done) | (simp [*]; done), by repeat (first | exact Drawn0.refl _ | apply Drawn0.step)⟩

/-- THE ONE PURE STATEMENT of clerestorykeep1_sameInts: yours. -/
def clerestorykeep1_sameInts.Pure : Prop := ∀ (l0 : List Int) (l1 : List Int), l0.length ≤ maxLen → l0.length * 8 ≤ 140737488351232 → (∀ x ∈ l0, (Lit.int .i64 x).wf = true) → l1.length ≤ maxLen → l1.length * 8 ≤ 140737488351232 → (∀ x ∈ l1, (Lit.int .i64 x).wf = true) → ∃ k, clerestorykeep1_sameInts.f k l0 l1 = some true
theorem clerestorykeep1_sameInts.walk (P : clerestorykeep1_sameInts.Pure) (a0 : Option Addr) (len0 cap0 : Nat) (z0 : List Int) (a1 : Option Addr) (len1 cap1 : Nat) (z1 : List Int) (w : World) (w0 : (a0 = none ∧ len0 = 0 ∧ cap0 = 0 ∧ z0 = []) ∨ ∃ x, a0 = some x ∧ len0 ≤ cap0 ∧ cap0 ≤ maxLen ∧ z0.length = cap0 ∧ (∀ i, i < z0.length → w.cell? (x.add i) = some (.int .i64 (z0.getD i 0))) ∧ ∀ n ∈ z0, (Lit.int .i64 n).wf = true) (y0 : len0 * 8 ≤ 140737488351232) (w1 : (a1 = none ∧ len1 = 0 ∧ cap1 = 0 ∧ z1 = []) ∨ ∃ x, a1 = some x ∧ len1 ≤ cap1 ∧ cap1 ≤ maxLen ∧ z1.length = cap1 ∧ (∀ i, i < z1.length → w.cell? (x.add i) = some (.int .i64 (z1.getD i 0))) ∧ ∀ n ∈ z1, (Lit.int .i64 n).wf = true) (y1 : len1 * 8 ≤ 140737488351232) :
  Calls Tryz.prog 22 #[.slice a0 len0 cap0, .slice a1 len1 cap1] w fun e w' => e = .returned (.bool true) ∧ Below w.heap.size w w' := by
 obtain ⟨l0, rfl, hr0, hm0, hw0, hc0⟩ := ReadsInt.ofRowC w0
 obtain ⟨l1, rfl, hr1, hm1, hw1, hc1⟩ := ReadsInt.ofRowC w1
 obtain ⟨k, h⟩ := P l0 l1 hm0 y0 hw0 hm1 y1 hw1
 refine (clerestorykeep1_sameInts.calls k _ _ l0 _ _ l1 true w (Kd.C_of_reads (d := (0 : Int)) (h1 := fun _ => rfl) hr0) hc0 (Kd.C_of_reads (d := (0 : Int)) (h1 := fun _ => rfl) hr1) hc1 h).mono ?_
 rintro e w' ⟨rfl, hd⟩
 exact ⟨rfl, hd.below⟩

/-! ### dom_parent: function 78 -/
def dom_parent.f (a0 : Int) : Option (Bool) := if a0 = 1 then (some true) else (some (a0 == 2))
set_option maxHeartbeats 8000000 in
set_option maxRecDepth 100000 in
theorem dom_parent.calls (a0 : Int) (r : Bool) (w : World) (h : dom_parent.f a0 = some r) :
  Calls Tryz.prog 78 #[.int .i64 a0] w fun e w' => e = .returned (.bool r) ∧ Drawn0 w w' := by
 have H : (if a0 = 1 then (some true) else (some (a0 == 2))) = some r := h
 clear h
 by_cases c2 : a0 = 1
 ·rw [if_pos c2] at H
  have c2b0 : (a0 == 1) = true := beq_iff_eq.mpr c2
  have c2b1 : (a0 != 1) = false := bne_eq_false_iff_eq.mpr c2
  clear c2
  obtain rfl := Option.some.inj H
  go_enter Tryz.func78, Tryz.ntmps78
  go_wp2
  go_ret
  exact ⟨by first | rfl | (simp; done) | (simp [*]; done), by repeat (first | exact Drawn0.refl _ | apply Drawn0.step)⟩
 ·rw [if_neg c2] at H
  have c2b0 : (a0 == 1) = false := beq_eq_false_iff_ne.mpr c2
  have c2b1 : (a0 != 1) = true := bne_iff_ne.mpr c2
  obtain rfl := Option.some.inj H
  go_enter Tryz.func78, Tryz.ntmps78
  go_wp2
  go_ret
  exact ⟨by first | rfl | (simp; done) | (simp [*]; done), by repeat (first | exact Drawn0.refl _ | apply Drawn0.step)⟩

/-! ### dom_bare: function 52 -/
/-- Has a node nothing that its kind has not? -/
def bareB (kind : Int) (name : ByteArray) (attrs : Nat) (text : ByteArray) (kids : Nat) : Bool :=
 (kind == 2 || kind == 5 || name.toList.isEmpty) && (kind == 2 || attrs == 0) && (kind == 3 || kind == 4 || text.toList.isEmpty) && (kind == 1 || kind == 2 || kids == 0)
def dom_bare.f (a0_0 : Int) (a0_1 : ByteArray) (l0_2 : List S66) (a0_3 : ByteArray) (a0_4 : Int) (l0_5 : List Int) : Option Bool := some (bareB a0_0 a0_1 l0_2.length a0_3 l0_5.length)

set_option maxHeartbeats 2000000 in
set_option maxRecDepth 100000 in
theorem dom_bare.el (nm : ByteArray) (A : Option Addr) (n2 c2 : Nat) (tx : ByteArray) (pa : Int) (B : Option Addr) (n5 c5 : Nat) (w : World) (te : tx.toList = []) (te2 : tx.toList.isEmpty = true) :
  Calls Tryz.prog 52 #[.agg #[.int .i64 2, .string nm, .slice A n2 c2, .string tx, .int .i64 pa, .slice B n5 c5]] w fun e w' => e = .returned (.bool true) ∧ Below w.heap.size w w' := by
 have HP : Hid (∀ W, Calls Tryz.prog 78 #[.int .i64 2] W fun e w' => e = .returned (.bool true) ∧ Drawn0 W w') := Lib.hid (fun W => dom_parent.calls 2 true W (by rfl))
 have HB : Hid (Below w.heap.size w (w.alloc (.cells #[.int .i64 2, .string nm, .slice A n2 c2, .string tx, .int .i64 pa, .slice B n5 c5] 43))) := Lib.hid ((Below.refl _ w).alloc (Nat.le_refl _) _)
 go_enter Tryz.func52, Tryz.ntmps52
 go_wp2_with fail
 go_quiet (fail)
 go_wp2_with fail
 refine (HP.out _).mono ?_
 rintro e w1 ⟨rfl, hd⟩
 have HB1 : Hid (Below w.heap.size w w1) := Lib.hid ((pw_below_drewN HB.out _).trans (hd.below.mono (Nat.le_trans HB.out.size (Nat.le_refl _))))
 have hk5 := blk_cell (blk_below (blk_drewN (blk_new w (.cells #[.int .i64 2, .string nm, .slice A n2 c2, .string tx, .int .i64 pa, .slice B n5 c5] 43)) _) hd.below) 5
 simp only [List.getElem?_toArray, List.getElem?_cons_succ, List.getElem?_cons_zero] at hk5
 clear hd
 go_wp2_with fail
 go_ret
 exact ⟨rfl, HB1.out⟩

set_option maxHeartbeats 2000000 in
set_option maxRecDepth 100000 in
theorem dom_bare.el_t (nm : ByteArray) (A : Option Addr) (n2 c2 : Nat) (tx : ByteArray) (pa : Int) (B : Option Addr) (n5 c5 : Nat) (w : World) (te : ¬ tx.toList = []) (te2 : tx.toList.isEmpty = false) :
  Calls Tryz.prog 52 #[.agg #[.int .i64 2, .string nm, .slice A n2 c2, .string tx, .int .i64 pa, .slice B n5 c5]] w fun e w' => e = .returned (.bool false) ∧ Below w.heap.size w w' := by
 have HB : Hid (Below w.heap.size w (w.alloc (.cells #[.int .i64 2, .string nm, .slice A n2 c2, .string tx, .int .i64 pa, .slice B n5 c5] 43))) := Lib.hid ((Below.refl _ w).alloc (Nat.le_refl _) _)
 go_enter Tryz.func52, Tryz.ntmps52
 go_wp2_with fail
 go_quiet (fail)
 go_wp2_with fail
 go_ret
 exact ⟨rfl, pw_below_drewN HB.out _⟩

set_option maxHeartbeats 2000000 in
set_option maxRecDepth 100000 in
theorem dom_bare.t3_n (nm : ByteArray) (A : Option Addr) (n2 c2 : Nat) (tx : ByteArray) (pa : Int) (B : Option Addr) (n5 c5 : Nat) (w : World) (ne : ¬ nm.toList = []) (ne2 : nm.toList.isEmpty = false) :
  Calls Tryz.prog 52 #[.agg #[.int .i64 3, .string nm, .slice A n2 c2, .string tx, .int .i64 pa, .slice B n5 c5]] w fun e w' => e = .returned (.bool false) ∧ Below w.heap.size w w' := by
 have HB : Hid (Below w.heap.size w (w.alloc (.cells #[.int .i64 3, .string nm, .slice A n2 c2, .string tx, .int .i64 pa, .slice B n5 c5] 43))) := Lib.hid ((Below.refl _ w).alloc (Nat.le_refl _) _)
 go_enter Tryz.func52, Tryz.ntmps52
 go_wp2_with fail
 go_quiet (fail)
 go_wp2_with fail
 go_ret
 exact ⟨rfl, pw_below_drewN HB.out _⟩

set_option maxHeartbeats 2000000 in
set_option maxRecDepth 100000 in
theorem dom_bare.t3_a (nm : ByteArray) (A : Option Addr) (n2 c2 : Nat) (tx : ByteArray) (pa : Int) (B : Option Addr) (n5 c5 : Nat) (w : World) (ne : nm.toList = []) (ne2 : nm.toList.isEmpty = true) (ae : ((n2 : Int) == 0) = false) :
  Calls Tryz.prog 52 #[.agg #[.int .i64 3, .string nm, .slice A n2 c2, .string tx, .int .i64 pa, .slice B n5 c5]] w fun e w' => e = .returned (.bool false) ∧ Below w.heap.size w w' := by
 have HB : Hid (Below w.heap.size w (w.alloc (.cells #[.int .i64 3, .string nm, .slice A n2 c2, .string tx, .int .i64 pa, .slice B n5 c5] 43))) := Lib.hid ((Below.refl _ w).alloc (Nat.le_refl _) _)
 go_enter Tryz.func52, Tryz.ntmps52
 go_wp2_with fail
 go_quiet (fail)
 go_wp2_with fail
 go_ret
 exact ⟨rfl, pw_below_drewN HB.out _⟩

set_option maxHeartbeats 2000000 in
set_option maxRecDepth 100000 in
theorem dom_bare.t3 (nm : ByteArray) (A : Option Addr) (n2 c2 : Nat) (tx : ByteArray) (pa : Int) (B : Option Addr) (n5 c5 : Nat) (w : World) (ne : nm.toList = []) (ne2 : nm.toList.isEmpty = true) (ae : ((n2 : Int) == 0) = true) :
  Calls Tryz.prog 52 #[.agg #[.int .i64 3, .string nm, .slice A n2 c2, .string tx, .int .i64 pa, .slice B n5 c5]] w fun e w' => e = .returned (.bool ((n5 : Int) == 0)) ∧ Below w.heap.size w w' := by
 have HP : Hid (∀ W, Calls Tryz.prog 78 #[.int .i64 3] W fun e w' => e = .returned (.bool false) ∧ Drawn0 W w') := Lib.hid (fun W => dom_parent.calls 3 false W (by rfl))
 have HB : Hid (Below w.heap.size w (w.alloc (.cells #[.int .i64 3, .string nm, .slice A n2 c2, .string tx, .int .i64 pa, .slice B n5 c5] 43))) := Lib.hid ((Below.refl _ w).alloc (Nat.le_refl _) _)
 go_enter Tryz.func52, Tryz.ntmps52
 go_wp2_with fail
 go_quiet (fail)
 go_wp2_with fail
 refine (HP.out _).mono ?_
 rintro e w1 ⟨rfl, hd⟩
 have HB1 : Hid (Below w.heap.size w w1) := Lib.hid ((pw_below_drewN HB.out _).trans (hd.below.mono (Nat.le_trans HB.out.size (Nat.le_refl _))))
 have hk5 := blk_cell (blk_below (blk_drewN (blk_new w (.cells #[.int .i64 3, .string nm, .slice A n2 c2, .string tx, .int .i64 pa, .slice B n5 c5] 43)) _) hd.below) 5
 simp only [List.getElem?_toArray, List.getElem?_cons_succ, List.getElem?_cons_zero] at hk5
 clear hd
 go_wp2_with fail
 go_ret
 exact ⟨rfl, HB1.out⟩

set_option maxHeartbeats 2000000 in
set_option maxRecDepth 100000 in
theorem dom_bare.t4_n (nm : ByteArray) (A : Option Addr) (n2 c2 : Nat) (tx : ByteArray) (pa : Int) (B : Option Addr) (n5 c5 : Nat) (w : World) (ne : ¬ nm.toList = []) (ne2 : nm.toList.isEmpty = false) :
  Calls Tryz.prog 52 #[.agg #[.int .i64 4, .string nm, .slice A n2 c2, .string tx, .int .i64 pa, .slice B n5 c5]] w fun e w' => e = .returned (.bool false) ∧ Below w.heap.size w w' := by
 have HB : Hid (Below w.heap.size w (w.alloc (.cells #[.int .i64 4, .string nm, .slice A n2 c2, .string tx, .int .i64 pa, .slice B n5 c5] 43))) := Lib.hid ((Below.refl _ w).alloc (Nat.le_refl _) _)
 go_enter Tryz.func52, Tryz.ntmps52
 go_wp2_with fail
 go_quiet (fail)
 go_wp2_with fail
 go_ret
 exact ⟨rfl, pw_below_drewN HB.out _⟩

set_option maxHeartbeats 2000000 in
set_option maxRecDepth 100000 in
theorem dom_bare.t4_a (nm : ByteArray) (A : Option Addr) (n2 c2 : Nat) (tx : ByteArray) (pa : Int) (B : Option Addr) (n5 c5 : Nat) (w : World) (ne : nm.toList = []) (ne2 : nm.toList.isEmpty = true) (ae : ((n2 : Int) == 0) = false) :
  Calls Tryz.prog 52 #[.agg #[.int .i64 4, .string nm, .slice A n2 c2, .string tx, .int .i64 pa, .slice B n5 c5]] w fun e w' => e = .returned (.bool false) ∧ Below w.heap.size w w' := by
 have HB : Hid (Below w.heap.size w (w.alloc (.cells #[.int .i64 4, .string nm, .slice A n2 c2, .string tx, .int .i64 pa, .slice B n5 c5] 43))) := Lib.hid ((Below.refl _ w).alloc (Nat.le_refl _) _)
 go_enter Tryz.func52, Tryz.ntmps52
 go_wp2_with fail
 go_quiet (fail)
 go_wp2_with fail
 go_ret
 exact ⟨rfl, pw_below_drewN HB.out _⟩

set_option maxHeartbeats 2000000 in
set_option maxRecDepth 100000 in
theorem dom_bare.t4 (nm : ByteArray) (A : Option Addr) (n2 c2 : Nat) (tx : ByteArray) (pa : Int) (B : Option Addr) (n5 c5 : Nat) (w : World) (ne : nm.toList = []) (ne2 : nm.toList.isEmpty = true) (ae : ((n2 : Int) == 0) = true) :
  Calls Tryz.prog 52 #[.agg #[.int .i64 4, .string nm, .slice A n2 c2, .string tx, .int .i64 pa, .slice B n5 c5]] w fun e w' => e = .returned (.bool ((n5 : Int) == 0)) ∧ Below w.heap.size w w' := by
 have HP : Hid (∀ W, Calls Tryz.prog 78 #[.int .i64 4] W fun e w' => e = .returned (.bool false) ∧ Drawn0 W w') := Lib.hid (fun W => dom_parent.calls 4 false W (by rfl))
 have HB : Hid (Below w.heap.size w (w.alloc (.cells #[.int .i64 4, .string nm, .slice A n2 c2, .string tx, .int .i64 pa, .slice B n5 c5] 43))) := Lib.hid ((Below.refl _ w).alloc (Nat.le_refl _) _)
 go_enter Tryz.func52, Tryz.ntmps52
 go_wp2_with fail
 go_quiet (fail)
 go_wp2_with fail
 refine (HP.out _).mono ?_
 rintro e w1 ⟨rfl, hd⟩
 have HB1 : Hid (Below w.heap.size w w1) := Lib.hid ((pw_below_drewN HB.out _).trans (hd.below.mono (Nat.le_trans HB.out.size (Nat.le_refl _))))
 have hk5 := blk_cell (blk_below (blk_drewN (blk_new w (.cells #[.int .i64 4, .string nm, .slice A n2 c2, .string tx, .int .i64 pa, .slice B n5 c5] 43)) _) hd.below) 5
 simp only [List.getElem?_toArray, List.getElem?_cons_succ, List.getElem?_cons_zero] at hk5
 clear hd
 go_wp2_with fail
 go_ret
 exact ⟨rfl, HB1.out⟩

set_option maxHeartbeats 2000000 in
set_option maxRecDepth 100000 in
theorem dom_bare.d_a (nm : ByteArray) (A : Option Addr) (n2 c2 : Nat) (tx : ByteArray) (pa : Int) (B : Option Addr) (n5 c5 : Nat) (w : World) (ae : ((n2 : Int) == 0) = false) :
  Calls Tryz.prog 52 #[.agg #[.int .i64 5, .string nm, .slice A n2 c2, .string tx, .int .i64 pa, .slice B n5 c5]] w fun e w' => e = .returned (.bool false) ∧ Below w.heap.size w w' := by
 have HB : Hid (Below w.heap.size w (w.alloc (.cells #[.int .i64 5, .string nm, .slice A n2 c2, .string tx, .int .i64 pa, .slice B n5 c5] 43))) := Lib.hid ((Below.refl _ w).alloc (Nat.le_refl _) _)
 go_enter Tryz.func52, Tryz.ntmps52
 go_wp2_with fail
 go_quiet (fail)
 go_wp2_with fail
 go_ret
 exact ⟨rfl, pw_below_drewN HB.out _⟩

set_option maxHeartbeats 2000000 in
set_option maxRecDepth 100000 in
theorem dom_bare.d_t (nm : ByteArray) (A : Option Addr) (n2 c2 : Nat) (tx : ByteArray) (pa : Int) (B : Option Addr) (n5 c5 : Nat) (w : World) (ae : ((n2 : Int) == 0) = true) (te : ¬ tx.toList = []) (te2 : tx.toList.isEmpty = false) :
  Calls Tryz.prog 52 #[.agg #[.int .i64 5, .string nm, .slice A n2 c2, .string tx, .int .i64 pa, .slice B n5 c5]] w fun e w' => e = .returned (.bool false) ∧ Below w.heap.size w w' := by
 have HB : Hid (Below w.heap.size w (w.alloc (.cells #[.int .i64 5, .string nm, .slice A n2 c2, .string tx, .int .i64 pa, .slice B n5 c5] 43))) := Lib.hid ((Below.refl _ w).alloc (Nat.le_refl _) _)
 go_enter Tryz.func52, Tryz.ntmps52
 go_wp2_with fail
 go_quiet (fail)
 go_wp2_with fail
 go_ret
 exact ⟨rfl, pw_below_drewN HB.out _⟩

set_option maxHeartbeats 2000000 in
set_option maxRecDepth 100000 in
theorem dom_bare.d (nm : ByteArray) (A : Option Addr) (n2 c2 : Nat) (tx : ByteArray) (pa : Int) (B : Option Addr) (n5 c5 : Nat) (w : World) (ae : ((n2 : Int) == 0) = true) (te : tx.toList = []) (te2 : tx.toList.isEmpty = true) :
  Calls Tryz.prog 52 #[.agg #[.int .i64 5, .string nm, .slice A n2 c2, .string tx, .int .i64 pa, .slice B n5 c5]] w fun e w' => e = .returned (.bool ((n5 : Int) == 0)) ∧ Below w.heap.size w w' := by
 have HP : Hid (∀ W, Calls Tryz.prog 78 #[.int .i64 5] W fun e w' => e = .returned (.bool false) ∧ Drawn0 W w') := Lib.hid (fun W => dom_parent.calls 5 false W (by rfl))
 have HB : Hid (Below w.heap.size w (w.alloc (.cells #[.int .i64 5, .string nm, .slice A n2 c2, .string tx, .int .i64 pa, .slice B n5 c5] 43))) := Lib.hid ((Below.refl _ w).alloc (Nat.le_refl _) _)
 go_enter Tryz.func52, Tryz.ntmps52
 go_wp2_with fail
 go_quiet (fail)
 go_wp2_with fail
 refine (HP.out _).mono ?_
 rintro e w1 ⟨rfl, hd⟩
 have HB1 : Hid (Below w.heap.size w w1) := Lib.hid ((pw_below_drewN HB.out _).trans (hd.below.mono (Nat.le_trans HB.out.size (Nat.le_refl _))))
 have hk5 := blk_cell (blk_below (blk_drewN (blk_new w (.cells #[.int .i64 5, .string nm, .slice A n2 c2, .string tx, .int .i64 pa, .slice B n5 c5] 43)) _) hd.below) 5
 simp only [List.getElem?_toArray, List.getElem?_cons_succ, List.getElem?_cons_zero] at hk5
 clear hd
 go_wp2_with fail
 go_ret
 exact ⟨rfl, HB1.out⟩

set_option maxHeartbeats 2000000 in
set_option maxRecDepth 100000 in
theorem dom_bare.r (nm : ByteArray) (A : Option Addr) (n2 c2 : Nat) (tx : ByteArray) (pa : Int) (B : Option Addr) (n5 c5 : Nat) (w : World) (ne : nm.toList = []) (ne2 : nm.toList.isEmpty = true) (ae : ((n2 : Int) == 0) = true) (te : tx.toList = []) (te2 : tx.toList.isEmpty = true) :
  Calls Tryz.prog 52 #[.agg #[.int .i64 1, .string nm, .slice A n2 c2, .string tx, .int .i64 pa, .slice B n5 c5]] w fun e w' => e = .returned (.bool true) ∧ Below w.heap.size w w' := by
 have HP : Hid (∀ W, Calls Tryz.prog 78 #[.int .i64 1] W fun e w' => e = .returned (.bool true) ∧ Drawn0 W w') := Lib.hid (fun W => dom_parent.calls 1 true W (by rfl))
 have HB : Hid (Below w.heap.size w (w.alloc (.cells #[.int .i64 1, .string nm, .slice A n2 c2, .string tx, .int .i64 pa, .slice B n5 c5] 43))) := Lib.hid ((Below.refl _ w).alloc (Nat.le_refl _) _)
 go_enter Tryz.func52, Tryz.ntmps52
 go_wp2_with fail
 go_quiet (fail)
 go_wp2_with fail
 refine (HP.out _).mono ?_
 rintro e w1 ⟨rfl, hd⟩
 have HB1 : Hid (Below w.heap.size w w1) := Lib.hid ((pw_below_drewN HB.out _).trans (hd.below.mono (Nat.le_trans HB.out.size (Nat.le_refl _))))
 have hk5 := blk_cell (blk_below (blk_drewN (blk_new w (.cells #[.int .i64 1, .string nm, .slice A n2 c2, .string tx, .int .i64 pa, .slice B n5 c5] 43)) _) hd.below) 5
 simp only [List.getElem?_toArray, List.getElem?_cons_succ, List.getElem?_cons_zero] at hk5
 clear hd
 go_wp2_with fail
 go_ret
 exact ⟨rfl, HB1.out⟩

set_option maxHeartbeats 2000000 in
set_option maxRecDepth 100000 in
theorem dom_bare.o_n (kd : Int) (nm : ByteArray) (A : Option Addr) (n2 c2 : Nat) (tx : ByteArray) (pa : Int) (B : Option Addr) (n5 c5 : Nat) (w : World) (k2 : (kd == 2) = false) (k3 : (kd == 3) = false) (k4 : (kd == 4) = false) (k5 : (kd == 5) = false) (ne : ¬ nm.toList = []) (ne2 : nm.toList.isEmpty = false) :
  Calls Tryz.prog 52 #[.agg #[.int .i64 kd, .string nm, .slice A n2 c2, .string tx, .int .i64 pa, .slice B n5 c5]] w fun e w' => e = .returned (.bool false) ∧ Below w.heap.size w w' := by
 have HB : Hid (Below w.heap.size w (w.alloc (.cells #[.int .i64 kd, .string nm, .slice A n2 c2, .string tx, .int .i64 pa, .slice B n5 c5] 43))) := Lib.hid ((Below.refl _ w).alloc (Nat.le_refl _) _)
 go_enter Tryz.func52, Tryz.ntmps52
 go_wp2_with fail
 go_quiet (fail)
 go_wp2_with fail
 go_ret
 exact ⟨rfl, pw_below_drewN HB.out _⟩

set_option maxHeartbeats 2000000 in
set_option maxRecDepth 100000 in
theorem dom_bare.o_a (kd : Int) (nm : ByteArray) (A : Option Addr) (n2 c2 : Nat) (tx : ByteArray) (pa : Int) (B : Option Addr) (n5 c5 : Nat) (w : World) (k2 : (kd == 2) = false) (k3 : (kd == 3) = false) (k4 : (kd == 4) = false) (k5 : (kd == 5) = false) (ne : nm.toList = []) (ne2 : nm.toList.isEmpty = true) (ae : ((n2 : Int) == 0) = false) :
  Calls Tryz.prog 52 #[.agg #[.int .i64 kd, .string nm, .slice A n2 c2, .string tx, .int .i64 pa, .slice B n5 c5]] w fun e w' => e = .returned (.bool false) ∧ Below w.heap.size w w' := by
 have HB : Hid (Below w.heap.size w (w.alloc (.cells #[.int .i64 kd, .string nm, .slice A n2 c2, .string tx, .int .i64 pa, .slice B n5 c5] 43))) := Lib.hid ((Below.refl _ w).alloc (Nat.le_refl _) _)
 go_enter Tryz.func52, Tryz.ntmps52
 go_wp2_with fail
 go_quiet (fail)
 go_wp2_with fail
 go_ret
 exact ⟨rfl, pw_below_drewN HB.out _⟩

set_option maxHeartbeats 2000000 in
set_option maxRecDepth 100000 in
theorem dom_bare.o_t (kd : Int) (nm : ByteArray) (A : Option Addr) (n2 c2 : Nat) (tx : ByteArray) (pa : Int) (B : Option Addr) (n5 c5 : Nat) (w : World) (k2 : (kd == 2) = false) (k3 : (kd == 3) = false) (k4 : (kd == 4) = false) (k5 : (kd == 5) = false) (ne : nm.toList = []) (ne2 : nm.toList.isEmpty = true) (ae : ((n2 : Int) == 0) = true) (te : ¬ tx.toList = []) (te2 : tx.toList.isEmpty = false) :
  Calls Tryz.prog 52 #[.agg #[.int .i64 kd, .string nm, .slice A n2 c2, .string tx, .int .i64 pa, .slice B n5 c5]] w fun e w' => e = .returned (.bool false) ∧ Below w.heap.size w w' := by
 have HB : Hid (Below w.heap.size w (w.alloc (.cells #[.int .i64 kd, .string nm, .slice A n2 c2, .string tx, .int .i64 pa, .slice B n5 c5] 43))) := Lib.hid ((Below.refl _ w).alloc (Nat.le_refl _) _)
 go_enter Tryz.func52, Tryz.ntmps52
 go_wp2_with fail
 go_quiet (fail)
 go_wp2_with fail
 go_ret
 exact ⟨rfl, pw_below_drewN HB.out _⟩

set_option maxHeartbeats 2000000 in
set_option maxRecDepth 100000 in
theorem dom_bare.o (kd : Int) (nm : ByteArray) (A : Option Addr) (n2 c2 : Nat) (tx : ByteArray) (pa : Int) (B : Option Addr) (n5 c5 : Nat) (w : World) (k1 : ¬ kd = 1) (k2 : (kd == 2) = false) (k3 : (kd == 3) = false) (k4 : (kd == 4) = false) (k5 : (kd == 5) = false) (ne : nm.toList = []) (ne2 : nm.toList.isEmpty = true) (ae : ((n2 : Int) == 0) = true) (te : tx.toList = []) (te2 : tx.toList.isEmpty = true) :
  Calls Tryz.prog 52 #[.agg #[.int .i64 kd, .string nm, .slice A n2 c2, .string tx, .int .i64 pa, .slice B n5 c5]] w fun e w' => e = .returned (.bool ((n5 : Int) == 0)) ∧ Below w.heap.size w w' := by
 have HP : Hid (∀ W, Calls Tryz.prog 78 #[.int .i64 kd] W fun e w' => e = .returned (.bool false) ∧ Drawn0 W w') := Lib.hid (fun W => dom_parent.calls kd false W (by unfold dom_parent.f; rw [if_neg k1]; simpa using k2))
 have HB : Hid (Below w.heap.size w (w.alloc (.cells #[.int .i64 kd, .string nm, .slice A n2 c2, .string tx, .int .i64 pa, .slice B n5 c5] 43))) := Lib.hid ((Below.refl _ w).alloc (Nat.le_refl _) _)
 go_enter Tryz.func52, Tryz.ntmps52
 go_wp2_with fail
 go_quiet (fail)
 go_wp2_with fail
 refine (HP.out _).mono ?_
 rintro e w1 ⟨rfl, hd⟩
 have HB1 : Hid (Below w.heap.size w w1) := Lib.hid ((pw_below_drewN HB.out _).trans (hd.below.mono (Nat.le_trans HB.out.size (Nat.le_refl _))))
 have hk5 := blk_cell (blk_below (blk_drewN (blk_new w (.cells #[.int .i64 kd, .string nm, .slice A n2 c2, .string tx, .int .i64 pa, .slice B n5 c5] 43)) _) hd.below) 5
 simp only [List.getElem?_toArray, List.getElem?_cons_succ, List.getElem?_cons_zero] at hk5
 clear hd
 go_wp2_with fail
 go_ret
 exact ⟨rfl, HB1.out⟩

theorem dom_bare.calls (a0_0 : Int) (a0_1 : ByteArray) (A0_2 : Option Addr) (c0_2 : Nat) (l0_2 : List S66) (a0_3 : ByteArray) (a0_4 : Int) (A0_5 : Option Addr) (c0_5 : Nat) (l0_5 : List Int) (r : Bool) (w : World) (hr0_2 : Kd.C k66 w A0_2 l0_2.length l0_2) (hc0_2 : l0_2.length ≤ c0_2) (hr0_5 : Kd.C (Kd.int .i64) w A0_5 l0_5.length l0_5) (hc0_5 : l0_5.length ≤ c0_5) (h : dom_bare.f a0_0 a0_1 l0_2 a0_3 a0_4 l0_5 = some r) :
  Calls Tryz.prog 52 #[.agg #[.int .i64 a0_0, .string a0_1, .slice A0_2 l0_2.length c0_2, .string a0_3, .int .i64 a0_4, .slice A0_5 l0_5.length c0_5]] w fun e w' => e = .returned (.bool r) ∧ Below w.heap.size w w' := by
 obtain rfl := Option.some.inj h
 clear h hr0_2 hr0_5 hc0_2 hc0_5
 generalize l0_2.length = n2
 generalize l0_5.length = n5
 have emp : ∀ s : ByteArray, (s.toList = [] ∧ s.toList.isEmpty = true) ∨ (¬ s.toList = [] ∧ s.toList.isEmpty = false) := fun s => by
  cases s.toList with
  | nil => exact .inl ⟨rfl, rfl⟩
  | cons _ _ => exact .inr ⟨by simp, rfl⟩
 have zer : ∀ n : Nat, (((n : Int) == 0) = true ∧ n = 0) ∨ (((n : Int) == 0) = false ∧ ¬ n = 0) := fun n => by
  by_cases e : n = 0
  ·exact .inl ⟨by simp [e], e⟩
  ·exact .inr ⟨by simp [e], e⟩
 have kz : ∀ b : Bool, b = ((n5 : Int) == 0) → b = (n5 == 0) := fun b hb => by
  rw [hb]
  rcases zer n5 with ⟨e1, e2⟩ | ⟨e1, e2⟩
  ·rw [e1, e2]; rfl
  ·rw [e1]; simpa using e2
 have fin : ∀ {v : Bool} {P : Ending → World → Prop}, (∀ e w', P e w' ↔ e = .returned (.bool v) ∧ Below w.heap.size w w') → bareB a0_0 a0_1 n2 a0_3 n5 = v → ∀ {e : Ending} {w' : World}, P e w' → e = .returned (.bool (bareB a0_0 a0_1 n2 a0_3 n5)) ∧ Below w.heap.size w w' := fun hP hv e w' h => by
  rw [hv]; exact (hP e w').1 h
 by_cases k2 : a0_0 = 2
 ·subst k2
  rcases emp a0_3 with ⟨e1, e2⟩ | ⟨e1, e2⟩
  ·exact (dom_bare.el a0_1 A0_2 n2 c0_2 a0_3 a0_4 A0_5 n5 c0_5 w e1 e2).mono fun _ _ h => fin (fun _ _ => Iff.rfl) (by simp [bareB, e2]) h
  ·exact (dom_bare.el_t a0_1 A0_2 n2 c0_2 a0_3 a0_4 A0_5 n5 c0_5 w e1 e2).mono fun _ _ h => fin (fun _ _ => Iff.rfl) (by simp [bareB, e2]) h
 by_cases k3 : a0_0 = 3
 ·subst k3
  rcases emp a0_1 with ⟨e1, e2⟩ | ⟨e1, e2⟩
  ·rcases zer n2 with ⟨e3, e4⟩ | ⟨e3, e4⟩
   ·exact (dom_bare.t3 a0_1 A0_2 n2 c0_2 a0_3 a0_4 A0_5 n5 c0_5 w e1 e2 e3).mono fun _ _ h => fin (fun _ _ => Iff.rfl) (by rw [kz ((n5 : Int) == 0) rfl]; simp [bareB, e2, e4]) h
   ·exact (dom_bare.t3_a a0_1 A0_2 n2 c0_2 a0_3 a0_4 A0_5 n5 c0_5 w e1 e2 e3).mono fun _ _ h => fin (fun _ _ => Iff.rfl) (by simp [bareB, e2, e4]) h
  ·exact (dom_bare.t3_n a0_1 A0_2 n2 c0_2 a0_3 a0_4 A0_5 n5 c0_5 w e1 e2).mono fun _ _ h => fin (fun _ _ => Iff.rfl) (by simp [bareB, e2]) h
 by_cases k4 : a0_0 = 4
 ·subst k4
  rcases emp a0_1 with ⟨e1, e2⟩ | ⟨e1, e2⟩
  ·rcases zer n2 with ⟨e3, e4⟩ | ⟨e3, e4⟩
   ·exact (dom_bare.t4 a0_1 A0_2 n2 c0_2 a0_3 a0_4 A0_5 n5 c0_5 w e1 e2 e3).mono fun _ _ h => fin (fun _ _ => Iff.rfl) (by rw [kz ((n5 : Int) == 0) rfl]; simp [bareB, e2, e4]) h
   ·exact (dom_bare.t4_a a0_1 A0_2 n2 c0_2 a0_3 a0_4 A0_5 n5 c0_5 w e1 e2 e3).mono fun _ _ h => fin (fun _ _ => Iff.rfl) (by simp [bareB, e2, e4]) h
  ·exact (dom_bare.t4_n a0_1 A0_2 n2 c0_2 a0_3 a0_4 A0_5 n5 c0_5 w e1 e2).mono fun _ _ h => fin (fun _ _ => Iff.rfl) (by simp [bareB, e2]) h
 by_cases k5 : a0_0 = 5
 ·subst k5
  rcases zer n2 with ⟨e3, e4⟩ | ⟨e3, e4⟩
  ·rcases emp a0_3 with ⟨e1, e2⟩ | ⟨e1, e2⟩
   ·exact (dom_bare.d a0_1 A0_2 n2 c0_2 a0_3 a0_4 A0_5 n5 c0_5 w e3 e1 e2).mono fun _ _ h => fin (fun _ _ => Iff.rfl) (by rw [kz ((n5 : Int) == 0) rfl]; simp [bareB, e2, e4]) h
   ·exact (dom_bare.d_t a0_1 A0_2 n2 c0_2 a0_3 a0_4 A0_5 n5 c0_5 w e3 e1 e2).mono fun _ _ h => fin (fun _ _ => Iff.rfl) (by simp [bareB, e2, e4]) h
  ·exact (dom_bare.d_a a0_1 A0_2 n2 c0_2 a0_3 a0_4 A0_5 n5 c0_5 w e3).mono fun _ _ h => fin (fun _ _ => Iff.rfl) (by simp [bareB, e4]) h
 have b2 : (a0_0 == 2) = false := by simpa using k2
 have b3 : (a0_0 == 3) = false := by simpa using k3
 have b4 : (a0_0 == 4) = false := by simpa using k4
 have b5 : (a0_0 == 5) = false := by simpa using k5
 rcases emp a0_1 with ⟨e1, e2⟩ | ⟨e1, e2⟩
 ·rcases zer n2 with ⟨e3, e4⟩ | ⟨e3, e4⟩
  ·rcases emp a0_3 with ⟨e5, e6⟩ | ⟨e5, e6⟩
   ·by_cases k1 : a0_0 = 1
    ·subst k1
     exact (dom_bare.r a0_1 A0_2 n2 c0_2 a0_3 a0_4 A0_5 n5 c0_5 w e1 e2 e3 e5 e6).mono fun _ _ h => fin (fun _ _ => Iff.rfl) (by simp [bareB, e2, e4, e6]) h
    ·have b1 : (a0_0 == 1) = false := by simpa using k1
     exact (dom_bare.o a0_0 a0_1 A0_2 n2 c0_2 a0_3 a0_4 A0_5 n5 c0_5 w k1 b2 b3 b4 b5 e1 e2 e3 e5 e6).mono fun _ _ h => fin (fun _ _ => Iff.rfl) (by rw [kz ((n5 : Int) == 0) rfl]; simp [bareB, e2, e4, e6, b1, b2]) h
   ·exact (dom_bare.o_t a0_0 a0_1 A0_2 n2 c0_2 a0_3 a0_4 A0_5 n5 c0_5 w b2 b3 b4 b5 e1 e2 e3 e5 e6).mono fun _ _ h => fin (fun _ _ => Iff.rfl) (by simp [bareB, e6, b3, b4]) h
  ·exact (dom_bare.o_a a0_0 a0_1 A0_2 n2 c0_2 a0_3 a0_4 A0_5 n5 c0_5 w b2 b3 b4 b5 e1 e2 e3).mono fun _ _ h => fin (fun _ _ => Iff.rfl) (by simp [bareB, e4, b2]) h
 ·exact (dom_bare.o_n a0_0 a0_1 A0_2 n2 c0_2 a0_3 a0_4 A0_5 n5 c0_5 w b2 b3 b4 b5 e1 e2).mono fun _ _ h => fin (fun _ _ => Iff.rfl) (by simp [bareB, e2, b2, b5]) h

/-! ### dom_named: function 79 -/
def signsL : List UInt8 := [97, 98, 99, 100, 101, 102, 103, 104, 105, 106, 107, 108, 109, 110, 111, 112, 113, 114, 115, 116, 117, 118, 119, 120, 121, 122, 48, 49, 50, 51, 52, 53, 54, 55, 56, 57, 45, 95, 58]
/-- A name: at most 40 signs of those that may be, the first one of some. -/
def namedB (s first : ByteArray) : Bool := match s.data.toList with
 | [] => false
 | b :: l => decide ((b :: l).length ≤ 40) && first.data.toList.contains b && (b :: l).all (signsL.contains ·)
def dom_named.f (a0 a1 : ByteArray) : Option Bool := some (namedB a0 a1)
theorem indexByte_neg (l : List UInt8) (c : UInt8) : -1 ≤ Lib.indexByte l c ∧ (Lib.indexByte l c < 0 ↔ l.contains c = false) := by
 induction l with
 | nil => simp [Lib.indexByte]
 | cons b l ih =>
  simp only [Lib.indexByte, List.contains_cons]
  by_cases e : b = c
  ·subst e; simp
  ·have e1 : (b == c) = false := by simpa using e
   have e2 : (c == b) = false := by simpa using fun h => e h.symm
   rw [e1, e2]
   by_cases h : Lib.indexByte l c = -1
   ·rw [h]; simp; have := ih.2.1 (by omega); simpa using this
   ·have h1 : (Lib.indexByte l c == -1) = false := by simpa using h
    rw [h1]
    simp only [Bool.false_or, Bool.false_eq_true, if_false]
    have h2 : ¬ Lib.indexByte l c < 0 := by have := ih.1; omega
    have h3 := mt ih.2.2 h2
    refine ⟨by omega, fun h => by omega, fun h => absurd h h3⟩
theorem dropWhile_nil {α : Type} (p : α → Bool) : ∀ l : List α, l.dropWhile p = [] ↔ ∀ x ∈ l, p x = true
 | [] => by simp
 | x :: l => by
  rw [List.dropWhile_cons]
  by_cases h : p x = true
  ·rw [if_pos h, dropWhile_nil p l]; simp [h]
  ·rw [if_neg h]; simp [h]
theorem mem_takeWhile {α : Type} {p : α → Bool} : ∀ {l : List α} {x : α}, x ∈ l.takeWhile p → p x = true
 | [], _, h => by simp at h
 | y :: l, x, h => by
  rw [List.takeWhile_cons] at h
  by_cases hy : p y = true
  ·rw [if_pos hy] at h
   rcases List.mem_cons.1 h with rfl | h
   ·exact hy
   ·exact mem_takeWhile h
  ·rw [if_neg hy] at h; simp at h
theorem trimS_nil (l cs : List UInt8) : Lib.trimS l cs = [] ↔ l.all (cs.contains ·) = true := by
 unfold Lib.trimS Lib.trimLeftS Lib.trimRightS
 constructor
 ·intro h
  rw [dropWhile_nil] at h
  rw [List.all_eq_true]
  intro x hx
  have hs : l = (l.reverse.dropWhile (cs.contains ·)).reverse ++ (l.reverse.takeWhile (cs.contains ·)).reverse := by
   rw [← List.reverse_append, List.takeWhile_append_dropWhile, List.reverse_reverse]
  rw [hs] at hx
  rcases List.mem_append.1 hx with hx | hx
  ·exact h x hx
  ·rw [List.mem_reverse] at hx
   exact mem_takeWhile hx
 ·intro h
  have : l.reverse.dropWhile (cs.contains ·) = [] := by
   rw [dropWhile_nil]
   intro x hx
   exact List.all_eq_true.1 h x (List.mem_reverse.1 hx)
  rw [this]; rfl

def s_small (s : ByteArray) : Prop := s.size ≤ 40
theorem Any_ascii_of_all {l : List UInt8} (h : l.all (fun b => decide (b.toNat < 128)) = true) : ∀ (j : Nat) b, l[j]? = some b → b.toNat < 128 :=
 fun _ b hb => of_decide_eq_true (List.all_eq_true.1 h b (List.mem_of_getElem? hb))
set_option maxHeartbeats 2000000 in
set_option maxRecDepth 100000 in
theorem dom_named.calls (a0 : ByteArray) (a1 : ByteArray) (r : Bool) (w : World) (h : dom_named.f a0 a1 = some r) :
  Calls Tryz.prog 79 #[.string a0, .string a1] w fun e w' => e = .returned (.bool r) ∧ Below w.heap.size w w' := by
 obtain rfl := Option.some.inj h
 clear h
 have HT : s_small a0 → Hid (∀ W : World, Calls Tryz.prog 95 #[.string a0, .string ⟨#[97, 98, 99, 100, 101, 102, 103, 104, 105, 106, 107, 108, 109, 110, 111, 112, 113, 114, 115, 116, 117, 118, 119, 120, 121, 122, 48, 49, 50, 51, 52, 53, 54, 55, 56, 57, 45, 95, 58]⟩] W
   fun e w' => e = .returned (.string ⟨(Lib.trimS a0.data.toList signsL).toArray⟩) ∧ Below W.heap.size W w') := fun hs => Lib.hid (fun W =>
  Any.strings_Trim_laid Tryz.lays160 (by kernel_rfl) a0 ⟨#[97, 98, 99, 100, 101, 102, 103, 104, 105, 106, 107, 108, 109, 110, 111, 112, 113, 114, 115, 116, 117, 118, 119, 120, 121, 122, 48, 49, 50, 51, 52, 53, 54, 55, 56, 57, 45, 95, 58]⟩ W (by unfold s_small at hs; omega) (by decide) (Any_ascii_of_all (by decide)))
 have HI : ∀ c : Int, Hid (∀ W : World, Calls Tryz.prog 94 #[.string a1, .int .u8 c] W fun e w' => e = .returned (.int .i64 (Lib.indexByte a1.data.toList c.toNat.toUInt8)) ∧ W = w') := fun c => Lib.hid (fun W => (Any.strings_IndexByte Tryz.lays137 a1 c W).mono fun _ _ h => ⟨h.1, h.2.symm⟩)
 by_cases h0 : a0.data.toList = []
 ·have HE : Hid (namedB a0 a1 = false) := Lib.hid (by unfold namedB; rw [h0])
  have h1 : a0.toList = [] := by rw [Lib.toList_data]; exact h0
  have h2 : a0.toList.isEmpty = true := by rw [h1]; rfl
  clear h0 HT HI
  go_enter Tryz.func79, Tryz.ntmps79
  go_wp2_with fail
  go_ret
  exact ⟨by rw [HE.out]; rfl, Below.refl _ _⟩
 have hne : a0.toList.isEmpty = false := by
  rw [Lib.toList_data]
  cases h : a0.data.toList with
  | nil => exact absurd h h0
  | cons b l => rfl
 have hpos : 0 < a0.size := by
  have := data_length a0
  cases h : a0.data.toList with
  | nil => exact absurd h h0
  | cons b l => rw [h] at this; simp at this; omega
 obtain ⟨l, hbl⟩ : ∃ l, a0.data.toList = a0[0] :: l := by
  cases h : a0.data.toList with
  | nil => exact absurd h h0
  | cons b l =>
   refine ⟨l, ?_⟩
   have this : a0.data.toList[0]? = some b := by rw [h]; rfl
   rw [Array.getElem?_toList] at this
   have h2 : a0.data[0]? = some (a0.data[0]'hpos) := Array.getElem?_eq_getElem hpos
   rw [h2] at this
   have h3 : a0[0] = b := Option.some.inj this
   rw [h3]
 have hsz : a0.size = l.length + 1 := by rw [← data_length, hbl]; rfl
 by_cases h40 : a0.size ≤ 40
 ·have hi := indexByte_neg a1.data.toList a0[0]
  have hT := HT (by unfold s_small; exact h40)
  have hI := HI (a0[0].toNat : Int)
  have HG : Hid (Lib.indexByte a1.data.toList ((a0[0].toNat : Int).toNat.toUInt8) = Lib.indexByte a1.data.toList a0[0]) := Lib.hid (by rw [Int.toNat_natCast]; congr 1; simp)
  rw [HG.out] at hI
  clear HG HT HI
  by_cases hc : a1.data.toList.contains a0[0] = true
  ·have hge : 0 ≤ Lib.indexByte a1.data.toList a0[0] := by
    have := mt hi.2.1 (by rw [hc]; simp)
    omega
   have HN : Hid (namedB a0 a1 = (a0[0] :: l).all (signsL.contains ·)) := Lib.hid (by
    unfold namedB; rw [hbl]; dsimp only; rw [hc, decide_eq_true (by simp; omega)]; rfl)
   have HTr : Hid ((Lib.trimS a0.data.toList signsL = []) ↔ (a0[0] :: l).all (signsL.contains ·) = true) := Lib.hid (by rw [← hbl]; exact trimS_nil _ _)
   generalize Lib.indexByte a1.data.toList a0[0] = ix at *
   have HBL := Lib.hid hbl
   have HSZ := Lib.hid hsz
   clear hbl hsz h0 hi hc
   generalize Lib.trimS a0.data.toList signsL = tr at *
   by_cases htr : tr = []
   ·have HE : Hid (namedB a0 a1 = true) := Lib.hid (by rw [HN.out]; exact HTr.out.1 htr)
    subst htr
    go_enter Tryz.func79, Tryz.ntmps79
    go_wp2_with fail
    refine (hI.out _).mono ?_
    rintro e w' ⟨rfl, rfl⟩
    go_wp2_with fail
    refine (hT.out _).mono ?_
    rintro e w1 ⟨rfl, hb⟩
    have HB := Lib.hid hb
    clear hb
    go_wp2_with fail
    go_ret
    exact ⟨by rw [HE.out]; rfl, HB.out⟩
   ·have HE : Hid (namedB a0 a1 = false) := Lib.hid (by rw [HN.out]; exact Bool.eq_false_iff.2 (mt HTr.out.2 htr))
    have htr1 : (⟨tr.toArray⟩ : ByteArray).toList.isEmpty = false := by rw [Lib.toList_data]; cases tr with | nil => exact absurd rfl htr | cons _ _ => rfl
    have htr2 : ¬ (⟨tr.toArray⟩ : ByteArray).toList = [] := by rw [Lib.toList_data]; simpa using htr
    clear htr
    generalize (⟨tr.toArray⟩ : ByteArray) = ts at *
    go_enter Tryz.func79, Tryz.ntmps79
    go_wp2_with fail
    refine (hI.out _).mono ?_
    rintro e w' ⟨rfl, rfl⟩
    go_wp2_with fail
    refine (hT.out _).mono ?_
    rintro e w1 ⟨rfl, hb⟩
    have HB := Lib.hid hb
    clear hb
    go_wp2_with fail
    go_ret
    exact ⟨by rw [HE.out]; rfl, HB.out⟩
  ·have hc : a1.data.toList.contains a0[0] = false := by simpa using hc
   have hlt : Lib.indexByte a1.data.toList a0[0] < 0 := hi.2.2 hc
   have HE : Hid (namedB a0 a1 = false) := Lib.hid (by unfold namedB; rw [hbl]; dsimp only; rw [hc]; simp)
   generalize Lib.indexByte a1.data.toList a0[0] = ix at *
   clear hbl hsz h0 hi hc hT
   go_enter Tryz.func79, Tryz.ntmps79
   go_wp2_with fail
   refine (hI.out _).mono ?_
   rintro e w' ⟨rfl, rfl⟩
   go_wp2_with fail
   go_ret
   exact ⟨by rw [HE.out]; rfl, Below.refl _ _⟩
 ·have HE : Hid (namedB a0 a1 = false) := Lib.hid (by unfold namedB; rw [hbl]; dsimp only; rw [decide_eq_false (by simp; omega)]; simp)
  clear hbl h0 HT HI hsz
  go_enter Tryz.func79, Tryz.ntmps79
  go_wp2_with fail
  go_ret
  exact ⟨by rw [HE.out]; rfl, Below.refl _ _⟩

/-! ### dom_Name: function 53 -/
def dom_Name.f (a0 : ByteArray) : Option (Bool) := if 0 ≤ 26 then (if 26 ≤ 39 then ((dom_named.f a0 ((⟨#[97, 98, 99, 100, 101, 102, 103, 104, 105, 106, 107, 108, 109, 110, 111, 112, 113, 114, 115, 116, 117, 118, 119, 120, 121, 122, 48, 49, 50, 51, 52, 53, 54, 55, 56, 57, 45, 95, 58]⟩ : ByteArray).extract 0 26)).bind fun t109 => (some t109)) else (none)) else (none)
set_option maxHeartbeats 8000000 in
set_option maxRecDepth 100000 in
theorem dom_Name.calls (a0 : ByteArray) (r : Bool) (w : World) (h : dom_Name.f a0 = some r) :
  Calls Tryz.prog 53 #[.string a0] w fun e w' => e = .returned (.bool r) ∧ Below w.heap.size w w' := by
 have HB := Aside0.mk (Below.refl w.heap.size w)
 have H : (if 0 ≤ 26 then (if 26 ≤ 39 then ((dom_named.f a0 ((⟨#[97, 98, 99, 100, 101, 102, 103, 104, 105, 106, 107, 108, 109, 110, 111, 112, 113, 114, 115, 116, 117, 118, 119, 120, 121, 122, 48, 49, 50, 51, 52, 53, 54, 55, 56, 57, 45, 95, 58]⟩ : ByteArray).extract 0 26)).bind fun t109 => (some t109)) else (none)) else (none)) = some r := h
 clear h
 by_cases c2 : 0 ≤ 26
 ·rw [if_pos c2] at H
  have c2b0 := eq_true c2
  have c2b1 : decide (0 ≤ 26) = true := decide_eq_true c2
  clear c2
  by_cases c3 : 26 ≤ 39
  ·rw [if_pos c3] at H
   have c3b0 := eq_true c3
   have c3b1 : decide (26 ≤ 39) = true := decide_eq_true c3
   clear c3
   replace H := Option.bind_eq_some_iff.mp H
   obtain ⟨t109, A40, H⟩ := H
   replace H : (some t109) = some r := H
   have A4 := Aside0.mk A40
   clear A40
   obtain rfl := Option.some.inj H
   go_enter Tryz.func53, Tryz.ntmps53
   go_wp2_with (first | ((with_reducible refine gate_callee (f := 79) rfl ?_); refine goesL_ (some 5) rfl rfl Tryz.func79 (by kernel_rfl) rfl #[.string a0, .string ((⟨#[97, 98, 99, 100, 101, 102, 103, 104, 105, 106, 107, 108, 109, 110, 111, 112, 113, 114, 115, 116, 117, 118, 119, 120, 121, 122, 48, 49, 50, 51, 52, 53, 54, 55, 56, 57, 45, 95, 58]⟩ : ByteArray).extract 0 26)] rfl mp_ ?_; (with_reducible refine (dom_named.calls a0 ((⟨#[97, 98, 99, 100, 101, 102, 103, 104, 105, 106, 107, 108, 109, 110, 111, 112, 113, 114, 115, 116, 117, 118, 119, 120, 121, 122, 48, 49, 50, 51, 52, 53, 54, 55, 56, 57, 45, 95, 58]⟩ : ByteArray).extract 0 26) t109 _ A4.out).mono ?_); rintro e w5 ⟨rfl, hb⟩; refine ⟨_, rfl, ?_⟩; replace HB := Aside0.mk (below_step bl0_ hb); (try clear hb); (try clear hb2); (try clear hk); (try clear hi)))
   go_ret
   exact ⟨er_, bl0_⟩
  ·rw [if_neg c3] at H
   exact absurd H (by simp)
 ·rw [if_neg c2] at H
  exact absurd H (by simp)

/-! ### dom_attrName: function 80 -/
def dom_attrName.f (a0 : ByteArray) : Option (Bool) := if 0 ≤ 26 then (if 26 ≤ 39 then (if ((⟨#[97, 98, 99, 100, 101, 102, 103, 104, 105, 106, 107, 108, 109, 110, 111, 112, 113, 114, 115, 116, 117, 118, 119, 120, 121, 122, 48, 49, 50, 51, 52, 53, 54, 55, 56, 57, 45, 95, 58]⟩ : ByteArray).extract 0 26).size + 2 ≤ 9223372036854775807 then ((dom_named.f a0 (((⟨#[97, 98, 99, 100, 101, 102, 103, 104, 105, 106, 107, 108, 109, 110, 111, 112, 113, 114, 115, 116, 117, 118, 119, 120, 121, 122, 48, 49, 50, 51, 52, 53, 54, 55, 56, 57, 45, 95, 58]⟩ : ByteArray).extract 0 26) ++ (⟨#[45, 95]⟩ : ByteArray))).bind fun t110 => (some t110)) else (none)) else (none)) else (none)
set_option maxHeartbeats 8000000 in
set_option maxRecDepth 100000 in
theorem dom_attrName.calls (a0 : ByteArray) (r : Bool) (w : World) (h : dom_attrName.f a0 = some r) :
  Calls Tryz.prog 80 #[.string a0] w fun e w' => e = .returned (.bool r) ∧ Below w.heap.size w w' := by
 have HB := Aside0.mk (Below.refl w.heap.size w)
 have H : (if 0 ≤ 26 then (if 26 ≤ 39 then (if ((⟨#[97, 98, 99, 100, 101, 102, 103, 104, 105, 106, 107, 108, 109, 110, 111, 112, 113, 114, 115, 116, 117, 118, 119, 120, 121, 122, 48, 49, 50, 51, 52, 53, 54, 55, 56, 57, 45, 95, 58]⟩ : ByteArray).extract 0 26).size + 2 ≤ 9223372036854775807 then ((dom_named.f a0 (((⟨#[97, 98, 99, 100, 101, 102, 103, 104, 105, 106, 107, 108, 109, 110, 111, 112, 113, 114, 115, 116, 117, 118, 119, 120, 121, 122, 48, 49, 50, 51, 52, 53, 54, 55, 56, 57, 45, 95, 58]⟩ : ByteArray).extract 0 26) ++ (⟨#[45, 95]⟩ : ByteArray))).bind fun t110 => (some t110)) else (none)) else (none)) else (none)) = some r := h
 clear h
 by_cases c2 : 0 ≤ 26
 ·rw [if_pos c2] at H
  have c2b0 := eq_true c2
  have c2b1 : decide (0 ≤ 26) = true := decide_eq_true c2
  clear c2
  by_cases c3 : 26 ≤ 39
  ·rw [if_pos c3] at H
   have c3b0 := eq_true c3
   have c3b1 : decide (26 ≤ 39) = true := decide_eq_true c3
   clear c3
   by_cases c4 : ((⟨#[97, 98, 99, 100, 101, 102, 103, 104, 105, 106, 107, 108, 109, 110, 111, 112, 113, 114, 115, 116, 117, 118, 119, 120, 121, 122, 48, 49, 50, 51, 52, 53, 54, 55, 56, 57, 45, 95, 58]⟩ : ByteArray).extract 0 26).size + 2 ≤ 9223372036854775807
   ·rw [if_pos c4] at H
    have c4b0 := eq_true c4
    have c4b1 : decide (((⟨#[97, 98, 99, 100, 101, 102, 103, 104, 105, 106, 107, 108, 109, 110, 111, 112, 113, 114, 115, 116, 117, 118, 119, 120, 121, 122, 48, 49, 50, 51, 52, 53, 54, 55, 56, 57, 45, 95, 58]⟩ : ByteArray).extract 0 26).size + 2 ≤ 9223372036854775807) = true := decide_eq_true c4
    try have c4b2 : (9223372036854775807 < ((⟨#[97, 98, 99, 100, 101, 102, 103, 104, 105, 106, 107, 108, 109, 110, 111, 112, 113, 114, 115, 116, 117, 118, 119, 120, 121, 122, 48, 49, 50, 51, 52, 53, 54, 55, 56, 57, 45, 95, 58]⟩ : ByteArray).extract 0 26).size + 2) = False := eq_false (Nat.not_lt.2 c4)
    replace H := Option.bind_eq_some_iff.mp H
    obtain ⟨t110, A50, H⟩ := H
    replace H : (some t110) = some r := H
    have A5 := Aside0.mk A50
    clear A50
    obtain rfl := Option.some.inj H
    go_enter Tryz.func80, Tryz.ntmps80
    go_wp2_with (first | ((with_reducible refine gate_callee (f := 79) rfl ?_); refine goesL_ (some 6) rfl rfl Tryz.func79 (by kernel_rfl) rfl #[.string a0, .string (((⟨#[97, 98, 99, 100, 101, 102, 103, 104, 105, 106, 107, 108, 109, 110, 111, 112, 113, 114, 115, 116, 117, 118, 119, 120, 121, 122, 48, 49, 50, 51, 52, 53, 54, 55, 56, 57, 45, 95, 58]⟩ : ByteArray).extract 0 26) ++ (⟨#[45, 95]⟩ : ByteArray))] rfl mp_ ?_; (with_reducible refine (dom_named.calls a0 (((⟨#[97, 98, 99, 100, 101, 102, 103, 104, 105, 106, 107, 108, 109, 110, 111, 112, 113, 114, 115, 116, 117, 118, 119, 120, 121, 122, 48, 49, 50, 51, 52, 53, 54, 55, 56, 57, 45, 95, 58]⟩ : ByteArray).extract 0 26) ++ (⟨#[45, 95]⟩ : ByteArray)) t110 _ A5.out).mono ?_); rintro e w6 ⟨rfl, hb⟩; refine ⟨_, rfl, ?_⟩; replace HB := Aside0.mk (below_step bl0_ hb); (try clear hb); (try clear hb2); (try clear hk); (try clear hi)))
    go_ret
    exact ⟨er_, bl0_⟩
   ·rw [if_neg c4] at H
    exact absurd H (by simp)
  ·rw [if_neg c3] at H
   exact absurd H (by simp)
 ·rw [if_neg c2] at H
  exact absurd H (by simp)

/-! ### dom_find: function 81 -/
/-- The first place at which p holds; -1: there is none. -/
def idxF {α : Type} (p : α → Bool) (xs : List α) : Int := match xs.findIdx? p with | some i => (i : Int) | none => -1
theorem idxF_some {α : Type} {p : α → Bool} {xs : List α} {k : Nat} (h : xs.findIdx? p = some k) : idxF p xs = k := by unfold idxF; rw [h]
theorem idxF_none {α : Type} {p : α → Bool} {xs : List α} (h : xs.findIdx? p = none) : idxF p xs = -1 := by unfold idxF; rw [h]
def dom_find.f (l0 : List S66) (a1 : ByteArray) : Option Int := some (idxF (fun x => x.f0.toList == a1.toList) l0)

set_option maxHeartbeats 1000000 in
theorem dom_find.one (x : S66) (nm : ByteArray) (b : Nat) (w : World) (hc : w.cell? ⟨b, 0, none⟩ = some (.string nm)) :
  Calls Tryz.prog 96 #[.agg #[.string x.f0, .string x.f1], .pointer (some ⟨b, 0, none⟩)] w fun e w' => e = .returned (.bool (x.f0.toList == nm.toList)) ∧ Below w.heap.size w w' := by
 have hc1 : (w.alloc (.cells #[.string x.f0, .string x.f1] 66)).cell? ⟨b, 0, none⟩ = some (.string nm) := pw_cell_below ((Below.refl _ w).alloc (Nat.le_refl _) _) hc
 clear hc
 go_enter Tryz.func96, Tryz.ntmps96
 go_wp2_with fail
 go_ret
 exact ⟨rfl, (Below.refl _ w).alloc (Nat.le_refl _) _⟩

set_option maxHeartbeats 2000000 in
theorem dom_find.index (A : Option Addr) (c : Nat) (xs : List S66) (nm : ByteArray) (b : Nat) (w : World) (hr : Kd.C k66 w A xs.length xs) (hcb : w.cell? ⟨b, 0, none⟩ = some (.string nm)) :
  Calls Tryz.prog 72 #[.slice A xs.length c, .func (.func 96) #[] #[.pointer (some ⟨b, 0, none⟩)]] w fun e w' => e = .returned (.int .i64 (idxF (fun x => x.f0.toList == nm.toList) xs)) ∧ Below w.heap.size w w' := by
 have hnm : xs.length ≤ 9223372036854775807 := hr.2.1
 have HC := Lib.hid hcb
 have HR := Lib.hid hr
 clear hr hcb
 obtain ⟨n, hn⟩ : ∃ n, n = xs.length := ⟨_, rfl⟩
 rw [← hn] at HR hnm ⊢
 have HL := Lib.hid hn
 clear hn
 go_enter Tryz.func72, Tryz.ntmps72
 go_wp2_with fail
 go_loopw [8] (fun i wr => ∃ k : Nat, k ≤ n ∧ i = .int .i64 k ∧ Hid (∀ j, j < k → ((xs.getD j z66).f0.toList == nm.toList) = false) ∧ Hid (Below w.heap.size w wr))
  (fun i _ => n - (intOf i).toNat)
 case atStart => exact ⟨0, Nat.zero_le _, rfl, Lib.hid (fun j h => absurd h (Nat.not_lt_zero _)), Lib.hid (Below.refl _ _)⟩
 case round =>
  obtain ⟨k, hk, rfl, HN, HB⟩ := hrel
  by_cases hlt : k < n
  ·obtain ⟨ad, rfl, c0, c1⟩ := at_T66 (HR.out) (k : Int) (by omega) (by omega)
   rw [Int.toNat_natCast] at c0 c1
   have d0 := pw_cell_below HB.out c0
   have d1 := pw_cell_below HB.out c1
   clear c0 c1
   have HO : Hid (∀ W : World, W.cell? ⟨b, 0, none⟩ = some (.string nm) → Calls Tryz.prog 96 #[.agg #[.string (rd_T66 xs k).f0, .string (rd_T66 xs k).f1], .pointer (some ⟨b, 0, none⟩)] W fun e w' => e = .returned (.bool ((rd_T66 xs k).f0.toList == nm.toList)) ∧ Below W.heap.size W w') := Lib.hid (fun W h => dom_find.one _ nm b W h)
   have HX : Hid (rd_T66 xs k = xs.getD k z66) := Lib.hid (by unfold rd_T66; rw [Int.toNat_natCast])
   generalize rd_T66 xs k = x at *
   go_wp2_with fail
   refine (HO.out _ (pw_cell_below HB.out HC.out)).mono ?_
   rintro e w1 ⟨rfl, hb⟩
   have HB1 := Lib.hid (HB.out.trans (hb.mono HB.out.size))
   clear hb d0 d1
   by_cases hbad : (x.f0.toList == nm.toList) = true
   ·have HE : Hid (idxF (fun x : S66 => x.f0.toList == nm.toList) xs = k) := Lib.hid (by
     have hl := HL.out
     refine idxF_some ?_
     rw [List.findIdx?_eq_some_iff_getElem]
     refine ⟨by omega, ?_, fun j hj => ?_⟩
     ·have e : xs[k] = x := by rw [HX.out, List.getD_eq_getElem?_getD, List.getElem?_eq_getElem (by omega)]; rfl
      rw [e]; exact hbad
     ·have := HN.out j hj
      rw [List.getD_eq_getElem?_getD, List.getElem?_eq_getElem (by omega)] at this
      simpa using this)
    rw [hbad]
    go_wp2_with fail
    go_ret
    exact ⟨by rw [HE.out]; rfl, HB1.out⟩
   ·have hbad : (x.f0.toList == nm.toList) = false := by simpa using hbad
    have HN1 : Hid (∀ j, j < k + 1 → ((xs.getD j z66).f0.toList == nm.toList) = false) := Lib.hid (fun j hj => by
     by_cases e : j = k
     ·rw [e, ← HX.out]; exact hbad
     ·exact HN.out j (by omega))
    rw [hbad]
    go_wp2_with fail
    go_roundw
    case rel => exact ⟨k + 1, by omega, by go_num, HN1, HB1⟩
    case measure => simp [intOf]; omega
  ·obtain rfl : k = n := by omega
   have HE : Hid (idxF (fun x : S66 => x.f0.toList == nm.toList) xs = -1) := Lib.hid (by
    have hl := HL.out
    refine idxF_none ?_
    rw [List.findIdx?_eq_none_iff]
    intro x hx
    obtain ⟨j, hj, rfl⟩ := List.mem_iff_getElem.1 hx
    have := HN.out j (by omega)
    rw [List.getD_eq_getElem?_getD, List.getElem?_eq_getElem hj] at this
    simpa using this)
   go_wp2_with fail
   go_ret
   exact ⟨by rw [HE.out]; rfl, HB.out⟩

set_option maxHeartbeats 1000000 in
theorem dom_find.calls (A0 : Option Addr) (c0 : Nat) (l0 : List S66) (a1 : ByteArray) (r : Int) (w : World) (hr0 : Kd.C k66 w A0 l0.length l0) (hc0 : l0.length ≤ c0) (h : dom_find.f l0 a1 = some r) :
  Calls Tryz.prog 81 #[.slice A0 l0.length c0, .string a1] w fun e w' => e = .returned (.int .i64 r) ∧ Below w.heap.size w w' := by
 obtain rfl := Option.some.inj h
 have HI := Lib.hid (dom_find.index A0 c0 l0 a1 w.heap.size (w.alloc (.cells #[.string a1] 9)) (Kd.C_below hr0 ((Below.refl _ w).alloc (Nat.le_refl _) _)) (blk_cell (blk_new w (.cells #[.string a1] 9)) 0))
 generalize idxF (fun x : S66 => x.f0.toList == a1.toList) l0 = r at *
 clear h hr0 hc0
 go_enter Tryz.func81, Tryz.ntmps81
 go_wp2_with fail
 refine HI.out.mono ?_
 rintro e w1 ⟨rfl, hb⟩
 have HB := Lib.hid (((Below.refl _ w).alloc (Nat.le_refl _) (.cells #[.string a1] 9)).trans (hb.mono (by simp)))
 clear hb
 go_wp2_with fail
 go_ret
 exact ⟨rfl, HB.out⟩

end Go.Proofs.YtmcinclecpeakaaGreatDoor.PRR
