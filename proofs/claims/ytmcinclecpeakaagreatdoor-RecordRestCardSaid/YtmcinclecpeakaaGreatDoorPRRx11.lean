-- printed by wip/tools/pr.py (own) through the kit's printer; texts GIVEN by hand stand among them
import Derived.Test.YtmcinclecpeakaaGreatDoorPRRx0
import Derived.Test.YtmcinclecpeakaaGreatDoorPRRx1
import Derived.Test.YtmcinclecpeakaaGreatDoorPRRx5
import Derived.Test.YtmcinclecpeakaaGreatDoorPRRx6
import Derived.Test.YtmcinclecpeakaaGreatDoorPRRx10
namespace Go.Proofs.YtmcinclecpeakaaGreatDoor.PRR
open Go.RowKit Go.Proofs.YtmcinclecpeakaaGreatDoorW.PrintWords Go.Proofs.YtmcinclecpeakaaGreatDoorW.PrintLast Go.Proofs.YtmcinclecpeakaaGreatDoorW.PrintMore
attribute [local go_sem] max2_int min2_int max_two min_two max_three min_three max_four min_four   -- for this text's walks alone
set_option linter.unusedVariables false
set_option linter.unusedSimpArgs false

/-! ### dom_Apply: function 14 -/
def dom_Apply.f (k : Nat) (l0_0 : List S43) (a0_1 : Bool) (a1_0 a1_1 a1_2 a1_3 : Int) (a1_4 a1_5 : ByteArray) (a1_6 : Int) (a1_7 : ByteArray) (l1_8 : List S66) (a1_9 : ByteArray) (a1_10 : Int) (l1_11 : List Int) : Option (List S43 × Bool × Int × Int) :=
 (dom_Check.f k l0_0 a0_1).bind fun c => if c = 0 then (if allOk l0_0 = true then (editF k l0_0 a0_1 0 ⟨a1_0, a1_1, a1_2, a1_3, a1_4, a1_5, ⟨a1_6, a1_7, l1_8, a1_9, a1_10, l1_11⟩⟩).bind fun t => if t.1 = 0 then some (t.2.1, a0_1, t.2.2, 0) else some ([], false, 0, t.1) else none) else some ([], false, 0, c)
theorem dom_Apply.mono : ∀ a0 a1 a2 a3 a4 a5 a6 a7 a8 a9 a10 a11 a12 a13 k, LeO (dom_Apply.f k a0 a1 a2 a3 a4 a5 a6 a7 a8 a9 a10 a11 a12 a13) (dom_Apply.f (k + 1) a0 a1 a2 a3 a4 a5 a6 a7 a8 a9 a10 a11 a12 a13) := by
 intro a0 a1 a2 a3 a4 a5 a6 a7 a8 a9 a10 a11 a12 a13 k
 unfold dom_Apply.f
 exact LeO.bind (dom_Check.mono _ _ _) fun _ => LeO.ite (LeO.ite (LeO.bind (editF_mono _ _ _ _ _) fun _ => LeO.refl _) (LeO.refl _)) (LeO.refl _)
theorem apply_far {w : World} {g g' i : Nat} (h : g ≠ g') (u v : Value) : ((w.setCell ⟨g', 0, none⟩ u).setCell ⟨g', 1, none⟩ v).drew.cell? ⟨g, i, none⟩ = w.cell? ⟨g, i, none⟩ :=
 (World.cell?_of_block (Below.heap_setCell (w.setCell ⟨g', 0, none⟩ u) ⟨g', 1, none⟩ v g h)).trans (World.cell?_of_block (Below.heap_setCell w ⟨g', 0, none⟩ u g h))
set_option maxRecDepth 100000 in
set_option maxHeartbeats 4000000 in
theorem dom_Apply.calls (k : Nat) (A0_0 : Option Addr) (c0_0 : Nat) (l0_0 : List S43) (a0_1 : Bool) (a1_0 a1_1 a1_2 a1_3 : Int) (a1_4 a1_5 : ByteArray) (a1_6 : Int) (a1_7 : ByteArray) (A1_8 : Option Addr) (c1_8 : Nat) (l1_8 : List S66) (a1_9 : ByteArray) (a1_10 : Int) (A1_11 : Option Addr) (c1_11 : Nat) (l1_11 : List Int) (r1 : List S43) (r2 : Bool) (r3 r4 : Int) (w : World) (hr0_0 : Kd.C k43 w A0_0 l0_0.length l0_0) (hc0_0 : l0_0.length ≤ c0_0) (hr1_8 : Kd.C k66 w A1_8 l1_8.length l1_8) (hc1_8 : l1_8.length ≤ c1_8) (hr1_11 : Kd.C (Kd.int .i64) w A1_11 l1_11.length l1_11) (hc1_11 : l1_11.length ≤ c1_11) (h : dom_Apply.f k l0_0 a0_1 a1_0 a1_1 a1_2 a1_3 a1_4 a1_5 a1_6 a1_7 l1_8 a1_9 a1_10 l1_11 = some (r1, r2, r3, r4)) :
  Calls Tryz.prog 14 #[.agg #[.slice A0_0 l0_0.length c0_0, .bool a0_1], .agg #[.int .i64 a1_0, .int .i64 a1_1, .int .i64 a1_2, .int .i64 a1_3, .string a1_4, .string a1_5, .int .i64 a1_6, .string a1_7, .slice A1_8 l1_8.length c1_8, .string a1_9, .int .i64 a1_10, .slice A1_11 l1_11.length c1_11]] w fun e w' => ∃ v0_ : Value, e = .returned (.tuple #[.agg #[v0_, .bool r2], .int .i64 r3, .int .i64 r4]) ∧ Kd.S k43 43 w' w.heap.size (fun _ => True) v0_ r1 ∧ Below w.heap.size w w' := by
 obtain ⟨c, hk, h⟩ := Option.bind_eq_some_iff.1 h
 obtain ⟨n, hn⟩ : ∃ n, n = l0_0.length := ⟨_, rfl⟩
 obtain ⟨n8, hn8⟩ : ∃ n8, n8 = l1_8.length := ⟨_, rfl⟩
 obtain ⟨n11, hn11⟩ : ∃ n11, n11 = l1_11.length := ⟨_, rfl⟩
 have HC : Hid (∀ W : World, Below w.heap.size w W → Calls Tryz.prog 19 #[.agg #[.slice A0_0 n c0_0, .bool a0_1]] W fun e w' => e = .returned (.int .i64 c) ∧ Below W.heap.size W w') := Lib.hid (by
  rw [hn]
  exact fun W hb => dom_Check.calls k A0_0 c0_0 l0_0 a0_1 c W (Kd.C_below hr0_0 hb) hc0_0 hk)
 have HO : Hid (allOk l0_0 = true → ∀ W : World, Below w.heap.size w W → Calls Tryz.prog 20 #[.agg #[.slice A0_0 n c0_0, .bool a0_1]] W fun e w' => ∃ v0_ : Value, e = .returned (.agg #[v0_, .bool a0_1]) ∧ Kd.S k43 43 w' W.heap.size (fun _ => True) v0_ l0_0 ∧ Below W.heap.size W w') := Lib.hid (by
  rw [hn]
  exact fun ha W hb => dom_own.calls A0_0 c0_0 l0_0 a0_1 W (Kd.C_below hr0_0 hb) hc0_0 (allOk_len ha).1 (allOk_len ha).2)
 have HEd : Hid (∀ (er : Int) (l' : List S43) (made' : Int), editF k l0_0 a0_1 0 ⟨a1_0, a1_1, a1_2, a1_3, a1_4, a1_5, ⟨a1_6, a1_7, l1_8, a1_9, a1_10, l1_11⟩⟩ = some (er, l', made') → ∀ (w1 W : World) (b : Nat), Below w.heap.size w w1 → Below w1.heap.size w1 W → Ed W w1.heap.size b l0_0 a0_1 0 → Calls Tryz.prog 21 #[.pointer (some ⟨b, 0, none⟩), .agg #[.int .i64 a1_0, .int .i64 a1_1, .int .i64 a1_2, .int .i64 a1_3, .string a1_4, .string a1_5, .int .i64 a1_6, .string a1_7, .slice A1_8 n8 c1_8, .string a1_9, .int .i64 a1_10, .slice A1_11 n11 c1_11]] W fun e w' => e = .returned (.int .i64 er) ∧ ((er = 0 → Ed w' w1.heap.size b l' a0_1 made') ∧ Below w1.heap.size w1 w')) := Lib.hid (by
  rw [hn8, hn11]
  exact fun er l' made' hE w1 W b h1 h2 h3 => edit_calls k ⟨a1_0, a1_1, a1_2, a1_3, a1_4, a1_5, ⟨a1_6, a1_7, l1_8, a1_9, a1_10, l1_11⟩⟩ A1_8 A1_11 c1_8 c1_11 l0_0 a0_1 0 er l' made' b w1 W h2 h3 (Kd.C_below hr1_8 h1) hc1_8 (Kd.C_below hr1_11 h1) hc1_11 hE)
 rw [← hn, ← hn8, ← hn11]
 have HN := Lib.hid hn
 have H := Lib.hid h
 have HWB : Hid (∀ W1 W : World, (((w.alloc (.cells #[.slice A0_0 n c0_0, .bool a0_1] 24)).alloc (.cells #[.int .i64 a1_0, .int .i64 a1_1, .int .i64 a1_2, .int .i64 a1_3, .string a1_4, .string a1_5, .int .i64 a1_6, .string a1_7, .slice A1_8 n8 c1_8, .string a1_9, .int .i64 a1_10, .slice A1_11 n11 c1_11] 45)).alloc (.cells #[.slice none 0 0, .bool false] 24)) = W → Below W.heap.size W W1 → Below w.heap.size w W1 ∧ w.heap.size ≤ W1.heap.size ∧ W1.heap[w.heap.size + 2]? = some (.cells #[.slice none 0 0, .bool false] 24 (0, 0)) ∧ W1.heap[w.heap.size]? = some (.cells #[.slice A0_0 n c0_0, .bool a0_1] 24 (0, 0)) ∧ W1.heap[w.heap.size + 1]? = some (.cells #[.int .i64 a1_0, .int .i64 a1_1, .int .i64 a1_2, .int .i64 a1_3, .string a1_4, .string a1_5, .int .i64 a1_6, .string a1_7, .slice A1_8 n8 c1_8, .string a1_9, .int .i64 a1_10, .slice A1_11 n11 c1_11] 45 (0, 0))) :=
  Lib.hid (fun W1 W h hb => by
   subst h
   have hb1 : Below w.heap.size w (w.alloc (.cells #[.slice A0_0 n c0_0, .bool a0_1] 24)) := (Below.refl _ w).alloc (Nat.le_refl _) _
   have hb2 := hb1.alloc (by simp) (.cells #[.int .i64 a1_0, .int .i64 a1_1, .int .i64 a1_2, .int .i64 a1_3, .string a1_4, .string a1_5, .int .i64 a1_6, .string a1_7, .slice A1_8 n8 c1_8, .string a1_9, .int .i64 a1_10, .slice A1_11 n11 c1_11] 45)
   have hb3 := hb2.alloc (by simp; omega) (.cells #[.slice none 0 0, .bool false] 24)
   have h1 := hb3.trans (hb.mono hb3.size)
   have x2 := blk_below (blk_new ((w.alloc (.cells #[.slice A0_0 n c0_0, .bool a0_1] 24)).alloc (.cells #[.int .i64 a1_0, .int .i64 a1_1, .int .i64 a1_2, .int .i64 a1_3, .string a1_4, .string a1_5, .int .i64 a1_6, .string a1_7, .slice A1_8 n8 c1_8, .string a1_9, .int .i64 a1_10, .slice A1_11 n11 c1_11] 45)) (.cells #[.slice none 0 0, .bool false] 24)) hb
   have x1 := blk_below (blk_below (blk_new (w.alloc (.cells #[.slice A0_0 n c0_0, .bool a0_1] 24)) (.cells #[.int .i64 a1_0, .int .i64 a1_1, .int .i64 a1_2, .int .i64 a1_3, .string a1_4, .string a1_5, .int .i64 a1_6, .string a1_7, .slice A1_8 n8 c1_8, .string a1_9, .int .i64 a1_10, .slice A1_11 n11 c1_11] 45)) ((Below.refl _ _).alloc (Nat.le_refl _) (.cells #[.slice none 0 0, .bool false] 24))) hb
   have x0 := blk_below (blk_below (blk_below (blk_new w (.cells #[.slice A0_0 n c0_0, .bool a0_1] 24)) ((Below.refl _ _).alloc (Nat.le_refl _) (.cells #[.int .i64 a1_0, .int .i64 a1_1, .int .i64 a1_2, .int .i64 a1_3, .string a1_4, .string a1_5, .int .i64 a1_6, .string a1_7, .slice A1_8 n8 c1_8, .string a1_9, .int .i64 a1_10, .slice A1_11 n11 c1_11] 45))) ((Below.refl _ _).alloc (Nat.le_refl _) (.cells #[.slice none 0 0, .bool false] 24))) hb
   exact ⟨h1, h1.size, by simpa using x2, x0, by simpa using x1⟩)
 clear hr0_0 hc0_0 hr1_8 hc1_8 hr1_11 hc1_11 hn hn8 hn11 h hk
 go_enter Tryz.func14, Tryz.ntmps14
 go_wp2_with fail
 refine (HC.out _ (by (repeat (first | refine below_alloc ?_ _ | refine below_drew ?_)); exact Below.refl _ _)).mono ?_
 rintro e w1 ⟨rfl, hb1⟩
 obtain ⟨hw1, hsz1, hres, hbox, hebx⟩ := HWB.out w1 _ rfl hb1
 have b0 := (blk_cell hbox 0).trans rfl
 have b1 := (blk_cell hbox 1).trans rfl
 have q0 := (blk_cell hres 0).trans rfl
 have q1 := (blk_cell hres 1).trans rfl
 have g0 := blk_frozen hres 0
 have g1 := blk_frozen hres 1
 have HW1 := Lib.hid hw1
 have HRes := Lib.hid hres
 have HEb := Lib.hid hebx
 clear hb1 hw1 HWB hres hbox hebx HC
 by_cases hc0 : c = 0
 ·subst hc0
  have h := H.out
  rw [if_pos rfl] at h
  split at h
  case isFalse => exact absurd h (by simp)
  case isTrue hok =>
  obtain ⟨⟨er, l', made'⟩, hE, hG⟩ := Option.bind_eq_some_iff.1 h
  have HO1 := Lib.hid (HO.out hok)
  have HE1 := Lib.hid (HEd.out er l' made' hE)
  have HG2 := Lib.hid hG
  clear H h HO HEd hE hG
  go_wp2_with fail
  refine (HO1.out w1 HW1.out).mono ?_
  rintro e w2 ⟨v, rfl, hS, hb2⟩
  have HI : Hid (AllI w1 (w2.alloc (.cells #[v, .bool a0_1, .int .i64 0] 62)) w2.heap.size l0_0 a0_1 0) := Lib.hid ⟨ed_new hb2.size hS (Nat.le_refl _), below_alloc hb2 _⟩
  obtain ⟨A, cc, rfl⟩ := Kd.S_slice hS
  have HX : Hid (∀ W : World, Below w1.heap.size w1 W → (W.cell? ⟨w.heap.size + 1, 0, none⟩ = some (.int .i64 a1_0) ∧ W.cell? ⟨w.heap.size + 1, 1, none⟩ = some (.int .i64 a1_1) ∧ W.cell? ⟨w.heap.size + 1, 2, none⟩ = some (.int .i64 a1_2) ∧ W.cell? ⟨w.heap.size + 1, 3, none⟩ = some (.int .i64 a1_3) ∧ W.cell? ⟨w.heap.size + 1, 4, none⟩ = some (.string a1_4) ∧ W.cell? ⟨w.heap.size + 1, 5, none⟩ = some (.string a1_5)) ∧ W.cell? ⟨w.heap.size + 1, 6, none⟩ = some (.int .i64 a1_6) ∧ W.cell? ⟨w.heap.size + 1, 7, none⟩ = some (.string a1_7) ∧ W.cell? ⟨w.heap.size + 1, 8, none⟩ = some (.slice A1_8 n8 c1_8) ∧ W.cell? ⟨w.heap.size + 1, 9, none⟩ = some (.string a1_9) ∧ W.cell? ⟨w.heap.size + 1, 10, none⟩ = some (.int .i64 a1_10) ∧ W.cell? ⟨w.heap.size + 1, 11, none⟩ = some (.slice A1_11 n11 c1_11)) := Lib.hid (fun W h => by
   have hh := blk_below HEb.out h
   exact ⟨⟨(blk_cell hh 0).trans rfl, (blk_cell hh 1).trans rfl, (blk_cell hh 2).trans rfl, (blk_cell hh 3).trans rfl, (blk_cell hh 4).trans rfl, (blk_cell hh 5).trans rfl⟩, (blk_cell hh 6).trans rfl, (blk_cell hh 7).trans rfl, (blk_cell hh 8).trans rfl, (blk_cell hh 9).trans rfl, (blk_cell hh 10).trans rfl, (blk_cell hh 11).trans rfl⟩)
  obtain ⟨⟨z0, z1, z2, z3, z4, z5⟩, z6, z7, z8, z9, z10, z11⟩ := HX.out _ HI.out.below
  clear hS hb2 HO1 b0 b1 q0 q1 g0 g1
  go_wp2_with fail
  refine (HE1.out w1 _ w2.heap.size HW1.out HI.out.below HI.out.ed).mono ?_
  rintro e w3 ⟨rfl, hEd, hb3⟩
  have hres := blk_below HRes.out hb3
  have q0 := (blk_cell hres 0).trans rfl
  have q1 := (blk_cell hres 1).trans rfl
  have g0 := blk_frozen hres 0
  have g1 := blk_frozen hres 1
  have HB3 := Lib.hid hb3
  have HRes3 := Lib.hid hres
  clear hb3 hres HE1 HX z0 z1 z2 z3 z4 z5 z6 z7 z8 z9 z10 z11
  by_cases her : er = 0
  ·subst her
   have hG := HG2.out
   rw [if_pos rfl] at hG
   injection hG with h
   injection h with ha h
   injection h with hb h
   injection h with hc hd
   subst ha hb hc hd
   obtain ⟨A', c', hbb, hbk, hS⟩ := ed_open (hEd rfl)
   have y0 := (blk_cell hbk 0).trans rfl
   have y1 := (blk_cell hbk 1).trans rfl
   have y2 := (blk_cell hbk 2).trans rfl
   have HS := Lib.hid hS
   have hne : w2.heap.size ≠ w.heap.size + 1 + 1 := by have := blk_lt HRes.out; omega
   clear hS HG2 hEd hbk
   go_upto_region 8 with fail
   go_region_held3 (fun W => W.cell? ⟨w2.heap.size, 0, none⟩ = some (.slice A' l'.length c') ∧ W.cell? ⟨w2.heap.size, 1, none⟩ = some (.bool a0_1) ∧ W.cell? ⟨w2.heap.size, 2, none⟩ = some (.int .i64 made')) (first | exact ⟨y0, y1, y2⟩ | exact ⟨(apply_far hne _ _).trans y0, (apply_far hne _ _).trans y1, (apply_far hne _ _).trans y2⟩) (fail)

   go_wp2_with fail
   refine bodyPost_ret (results_ctt rfl _ _ (w.heap.size + 2) 24 #[.slice A' l'.length c', .bool a0_1] (0, 0) _ rfl (blk_put (blk_put (cs' := #[.slice A' l'.length c', .bool false]) HRes3.out 0 _ rfl) 1 _ rfl) Tryz.underlying24 rfl (by kernel_rfl)) rfl ?_
   exact ⟨_, rfl, Kd.S_drew (Kd.S_set (Kd.S_set (Kd.S_lower HS.out hsz1) HRes3.out (by decide) 0 _) (blk_set HRes3.out 0 _) (by decide) 1 _), below_drew (((HW1.out.trans (HB3.out.mono hsz1)).setCell (by show w.heap.size ≤ w.heap.size + 1 + 1; omega) _).setCell (by show w.heap.size ≤ w.heap.size + 1 + 1; omega) _)⟩
  ·have hG := HG2.out
   rw [if_neg her] at hG
   injection hG with h
   injection h with ha h
   injection h with hb h
   injection h with hc hd
   subst ha hb hc hd
   have herb : (er != 0) = true := by simpa using her
   clear HG2 hEd
   go_wp2_with fail
   refine bodyPost_ret (results_ctt rfl _ _ (w.heap.size + 2) 24 #[.slice none 0 0, .bool false] (0, 0) _ rfl (blk_put (blk_put (cs' := #[.slice none 0 0, .bool false]) HRes3.out 0 _ rfl) 1 _ rfl) Tryz.underlying24 rfl (by kernel_rfl)) rfl ?_
   exact ⟨_, rfl, Kd.S_nil _ _ _ _ _, ((HW1.out.trans (HB3.out.mono hsz1)).setCell (by show w.heap.size ≤ w.heap.size + 1 + 1; omega) _).setCell (by show w.heap.size ≤ w.heap.size + 1 + 1; omega) _⟩
 ·have h := H.out
  rw [if_neg hc0] at h
  injection h with h
  injection h with ha h
  injection h with hb h
  injection h with hc hd
  subst ha hb hc hd
  have hcb : (c == 0) = false := by simpa using hc0
  have hcb2 : (c != 0) = true := by simpa using hc0
  go_wp2_with fail
  refine bodyPost_ret (results_ctt rfl _ _ (w.heap.size + 2) 24 #[.slice none 0 0, .bool false] (0, 0) _ rfl (blk_put (blk_put (cs' := #[.slice none 0 0, .bool false]) HRes.out 0 _ rfl) 1 _ rfl) Tryz.underlying24 rfl (by kernel_rfl)) rfl ?_
  exact ⟨_, rfl, Kd.S_nil _ _ _ _ _, (HW1.out.setCell (by show w.heap.size ≤ w.heap.size + 1 + 1; omega) _).setCell (by show w.heap.size ≤ w.heap.size + 1 + 1; omega) _⟩

/-! ### dom_All: function 10 -/
/-- Edit by edit. -/
def allGo (k : Nat) (q : Bool) : List S45 → List S43 → Int → Int → Option (List S43 × Bool × Int × Int)
 | [], l, _, _ => some (l, q, 0, 0)
 | e :: es, l, made, i => (editF k l q made e).bind fun t => if t.1 = 0 then allGo k q es t.2.1 t.2.2 (i + 1) else some ([], false, i, t.1)
def dom_All.f (k : Nat) (l0_0 : List S43) (a0_1 : Bool) (l1 : List S45) : Option (List S43 × Bool × Int × Int) :=
 (dom_Check.f k l0_0 a0_1).bind fun c => if c = 0 then (if l1.length > 40 then some ([], false, 0, 2) else if allOk l0_0 = true then allGo k a0_1 l1 l0_0 0 0 else none) else some ([], false, 0, c)
theorem allGo_mono (q : Bool) (k : Nat) : ∀ (es : List S45) (l : List S43) (made i : Int), LeO (allGo k q es l made i) (allGo (k + 1) q es l made i)
 | [], _, _, _ => LeO.refl _
 | e :: es, l, made, i => LeO.bind (editF_mono _ _ _ _ _) fun _ => LeO.ite (allGo_mono q k es _ _ _) (LeO.refl _)
theorem dom_All.mono : ∀ l q es k, LeO (dom_All.f k l q es) (dom_All.f (k + 1) l q es) := by
 intro l q es k
 unfold dom_All.f
 exact LeO.bind (dom_Check.mono _ _ _) fun _ => LeO.ite (LeO.ite (LeO.refl _) (LeO.ite (allGo_mono _ _ _ _ _ _) (LeO.refl _))) (LeO.refl _)
set_option maxRecDepth 100000 in
set_option maxHeartbeats 4000000 in
theorem dom_All.calls (k : Nat) (A0_0 : Option Addr) (c0_0 : Nat) (l0_0 : List S43) (a0_1 : Bool) (A1 : Option Addr) (c1 : Nat) (l1 : List S45) (r1 : List S43) (r2 : Bool) (r3 r4 : Int) (w : World) (hr0_0 : Kd.C k43 w A0_0 l0_0.length l0_0) (hc0_0 : l0_0.length ≤ c0_0) (hr1 : Kd.C k45 w A1 l1.length l1) (hc1 : l1.length ≤ c1) (h : dom_All.f k l0_0 a0_1 l1 = some (r1, r2, r3, r4)) :
  Calls Tryz.prog 10 #[.agg #[.slice A0_0 l0_0.length c0_0, .bool a0_1], .slice A1 l1.length c1] w fun e w' => ∃ v0_ : Value, e = .returned (.tuple #[.agg #[v0_, .bool r2], .int .i64 r3, .int .i64 r4]) ∧ Kd.S k43 43 w' w.heap.size (fun _ => True) v0_ r1 ∧ Below w.heap.size w w' := by
 obtain ⟨c, hk, h⟩ := Option.bind_eq_some_iff.1 h
 obtain ⟨n, hn⟩ : ∃ n, n = l0_0.length := ⟨_, rfl⟩
 obtain ⟨m, hm⟩ : ∃ m, m = l1.length := ⟨_, rfl⟩
 have HC : Hid (∀ W : World, Below w.heap.size w W → Calls Tryz.prog 19 #[.agg #[.slice A0_0 n c0_0, .bool a0_1]] W fun e w' => e = .returned (.int .i64 c) ∧ Below W.heap.size W w') := Lib.hid (by
  rw [hn]
  exact fun W hb => dom_Check.calls k A0_0 c0_0 l0_0 a0_1 c W (Kd.C_below hr0_0 hb) hc0_0 hk)
 have HO : Hid (allOk l0_0 = true → ∀ W : World, Below w.heap.size w W → Calls Tryz.prog 20 #[.agg #[.slice A0_0 n c0_0, .bool a0_1]] W fun e w' => ∃ v0_ : Value, e = .returned (.agg #[v0_, .bool a0_1]) ∧ Kd.S k43 43 w' W.heap.size (fun _ => True) v0_ l0_0 ∧ Below W.heap.size W w') := Lib.hid (by
  rw [hn]
  exact fun ha W hb => dom_own.calls A0_0 c0_0 l0_0 a0_1 W (Kd.C_below hr0_0 hb) hc0_0 (allOk_len ha).1 (allOk_len ha).2)
 have hms : (m : Int) ≤ 9223372036854775807 := by have := hr1.2.1; omega
 rw [← hn, ← hm]
 have HN := Lib.hid hn
 have HM := Lib.hid hm
 have HR1 := Lib.hid hr1
 have H := Lib.hid h
 have HWB : Hid (∀ W1 W : World, ((w.alloc (.cells #[.slice A0_0 n c0_0, .bool a0_1] 24)).alloc (.cells #[.slice none 0 0, .bool false] 24)) = W → Below W.heap.size W W1 → Below w.heap.size w W1 ∧ w.heap.size ≤ W1.heap.size ∧ W1.heap[w.heap.size + 1]? = some (.cells #[.slice none 0 0, .bool false] 24 (0, 0)) ∧ W1.heap[w.heap.size]? = some (.cells #[.slice A0_0 n c0_0, .bool a0_1] 24 (0, 0))) :=
  Lib.hid (fun W1 W h hb => by
   subst h
   have hb0 : Below w.heap.size w ((w.alloc (.cells #[.slice A0_0 n c0_0, .bool a0_1] 24)).alloc (.cells #[.slice none 0 0, .bool false] 24)) := ((Below.refl _ w).alloc (Nat.le_refl _) _).alloc (by simp) _
   have h1 := hb0.trans (hb.mono hb0.size)
   have x1 := blk_below (blk_new (w.alloc (.cells #[.slice A0_0 n c0_0, .bool a0_1] 24)) (.cells #[.slice none 0 0, .bool false] 24)) hb
   have x0 := blk_below (blk_below (blk_new w (.cells #[.slice A0_0 n c0_0, .bool a0_1] 24)) ((Below.refl _ _).alloc (Nat.le_refl _) (.cells #[.slice none 0 0, .bool false] 24))) hb
   exact ⟨h1, h1.size, by simpa using x1, x0⟩)
 clear hr0_0 hc0_0 hr1 hn hm h hk
 go_enter Tryz.func10, Tryz.ntmps10
 go_wp2_with fail
 refine (HC.out _ (by (repeat (first | refine below_alloc ?_ _ | refine below_drew ?_)); exact Below.refl _ _)).mono ?_
 rintro e w1 ⟨rfl, hb1⟩
 obtain ⟨hw1, hsz1, hres, hbox⟩ := HWB.out w1 _ rfl hb1
 have b0 := (blk_cell hbox 0).trans rfl
 have b1 := (blk_cell hbox 1).trans rfl
 have q0 := (blk_cell hres 0).trans rfl
 have q1 := (blk_cell hres 1).trans rfl
 have g0 := blk_frozen hres 0
 have g1 := blk_frozen hres 1
 have HW1 := Lib.hid hw1
 have HRes := Lib.hid hres
 clear hb1 hw1 HWB hres hbox HC
 by_cases hc0 : c = 0
 ·subst hc0
  by_cases h40 : m > 40
  ·have h := H.out
   rw [if_pos rfl, if_pos (by rw [← HM.out]; exact h40)] at h
   injection h with h
   injection h with ha h
   injection h with hb h
   injection h with hc hd
   subst ha hb hc hd
   have h40b : decide ((40 : Int) < (m : Int)) = true := decide_eq_true (by omega)
   go_wp2_with fail
   refine bodyPost_ret (results_ctt rfl _ _ (w.heap.size + 1) 24 #[.slice none 0 0, .bool false] (0, 0) _ rfl (blk_put (blk_put (cs' := #[.slice none 0 0, .bool false]) HRes.out 0 _ rfl) 1 _ rfl) Tryz.underlying24 rfl (by kernel_rfl)) rfl ?_
   exact ⟨_, rfl, Kd.S_nil _ _ _ _ _, (HW1.out.setCell (by simp) _).setCell (by simp) _⟩
  ·have h := H.out
   rw [if_pos rfl, if_neg (by rw [← HM.out]; exact h40)] at h
   have h40b : decide ((40 : Int) < (m : Int)) = false := decide_eq_false (by omega)
   split at h
   case isFalse => exact absurd h (by simp)
   case isTrue hok =>
   have HO1 := Lib.hid (HO.out hok)
   have HG0 := Lib.hid h
   clear H h HO
   go_wp2_with fail
   refine (HO1.out w1 HW1.out).mono ?_
   rintro e w2 ⟨v, rfl, hS, hb2⟩
   have HI : Hid (AllI w1 (w2.alloc (.cells #[v, .bool a0_1, .int .i64 0] 62)) w2.heap.size l0_0 a0_1 0) := Lib.hid ⟨ed_new hb2.size hS (Nat.le_refl _), below_alloc hb2 _⟩
   obtain ⟨A, cc, rfl⟩ := Kd.S_slice hS
   clear hS hb2 HO1 b0 b1 q0 q1 g0 g1
   go_wp2_with fail
   go_loopw [31] (fun i wr => ∃ (t : Nat) (l : List S43) (made : Int), t ≤ m ∧ i = .int .i64 t ∧ Hid (AllI w1 wr w2.heap.size l a0_1 made) ∧ Hid (allGo k a0_1 (l1.drop t) l made t = some (r1, r2, r3, r4))) (fun i _ => m - (intOf i).toNat)
   case atStart => exact ⟨0, l0_0, 0, Nat.zero_le _, rfl, HI, HG0⟩
   case round =>
    obtain ⟨t, l, made, ht, rfl, HA, HG⟩ := hrel
    clear HI HG0
    have HBr : Hid (Below w.heap.size w wr) := Lib.hid (HW1.out.trans (HA.out.below.mono hsz1))
    by_cases hlt : t < m
    ·obtain ⟨ad, A8, c8, A11, c11, rfl, d0, d1, d2, d3, d4, d5, d6, d7, d8, d9, d10, d11, l8, h8, l11, h11⟩ := at_T45 HR1.out (t : Int) (by omega) (by have := HM.out; omega)
     have hG := HG.out
     have hl : t < l1.length := by have := HM.out; omega
     rw [List.drop_eq_getElem_cons hl] at hG
     have hrd : rd_T45 l1 (t : Int) = l1[t] := by unfold rd_T45; rw [Int.toNat_natCast, List.getD_eq_getElem?_getD, List.getElem?_eq_getElem hl]; rfl
     rw [hrd] at d0 d1 d2 d3 d4 d5 d6 d7 d8 d9 d10 d11 l8 h8 l11 h11
     rw [Int.toNat_natCast] at d0 d1 d2 d3 d4 d5 d6 d7 d8 d9 d10 d11
     generalize l1[t] = ee at hG d0 d1 d2 d3 d4 d5 d6 d7 d8 d9 d10 d11 l8 h8 l11 h11
     simp only [allGo] at hG
     obtain ⟨⟨er, l', made'⟩, hE, hG⟩ := Option.bind_eq_some_iff.1 hG
     obtain ⟨n8, hn8⟩ : ∃ n8, n8 = ee.f6.f2.length := ⟨_, rfl⟩
     obtain ⟨n11, hn11⟩ : ∃ n11, n11 = ee.f6.f5.length := ⟨_, rfl⟩
     have HEd : Hid (∀ W : World, Below wr.heap.size wr W → Calls Tryz.prog 21 #[.pointer (some ⟨w2.heap.size, 0, none⟩), .agg #[.int .i64 ee.f0, .int .i64 ee.f1, .int .i64 ee.f2, .int .i64 ee.f3, .string ee.f4, .string ee.f5, .int .i64 ee.f6.f0, .string ee.f6.f1, .slice A8 n8 c8, .string ee.f6.f3, .int .i64 ee.f6.f4, .slice A11 n11 c11]] W fun e w' => e = .returned (.int .i64 er) ∧ ((er = 0 → Ed w' w1.heap.size w2.heap.size l' a0_1 made') ∧ Below w1.heap.size w1 w')) := Lib.hid (by
      rw [hn8, hn11]
      exact fun W hb => edit_calls k ee A8 A11 c8 c11 l a0_1 made er l' made' w2.heap.size w1 W (HA.out.below.trans (hb.mono HA.out.below.size)) (HA.out.ed.below hb) (Kd.C_below h8 HW1.out) l8 (Kd.C_below h11 HW1.out) l11 hE)
     rw [← hn8] at d8
     rw [← hn11] at d11
     replace d0 := pw_cell_below HBr.out d0
     replace d1 := pw_cell_below HBr.out d1
     replace d2 := pw_cell_below HBr.out d2
     replace d3 := pw_cell_below HBr.out d3
     replace d4 := pw_cell_below HBr.out d4
     replace d5 := pw_cell_below HBr.out d5
     replace d6 := pw_cell_below HBr.out d6
     replace d7 := pw_cell_below HBr.out d7
     replace d8 := pw_cell_below HBr.out d8
     replace d9 := pw_cell_below HBr.out d9
     replace d10 := pw_cell_below HBr.out d10
     replace d11 := pw_cell_below HBr.out d11
     have HG2 := Lib.hid hG
     clear hG hE l8 h8 l11 h11 hn8 hn11 hrd hl HG
     go_wp2_with fail
     refine (HEd.out _ (by (repeat (first | refine below_alloc ?_ _ | refine below_drew ?_)); exact Below.refl _ _)).mono ?_
     rintro e w3 ⟨rfl, hEd, hb3⟩
     have hres := blk_below HRes.out hb3
     have q0 := (blk_cell hres 0).trans rfl
     have q1 := (blk_cell hres 1).trans rfl
     have g0 := blk_frozen hres 0
     have g1 := blk_frozen hres 1
     have HB3 := Lib.hid hb3
     have HRes3 := Lib.hid hres
     clear hb3 hres d0 d1 d2 d3 d4 d5 d6 d7 d8 d9 d10 d11 HEd
     by_cases her : er = 0
     ·subst her
      have HA2 : Hid (AllI w1 w3 w2.heap.size l' a0_1 made') := Lib.hid ⟨hEd rfl, HB3.out⟩
      have hG := HG2.out
      rw [if_pos rfl] at hG
      have HG3 : Hid (allGo k a0_1 (l1.drop (t + 1)) l' made' ((t + 1 : Nat) : Int) = some (r1, r2, r3, r4)) := Lib.hid (by exact_mod_cast hG)
      clear hG HG2 hEd
      go_wp2_with fail
      go_roundw
      case rel => exact ⟨t + 1, l', made', by omega, by simp, HA2, HG3⟩
      case measure => simp [intOf]; omega
     ·have hG := HG2.out
      rw [if_neg her] at hG
      injection hG with h
      injection h with ha h
      injection h with hb h
      injection h with hc hd
      subst ha hb hc hd
      have herb : (er != 0) = true := by simpa using her
      clear HG2 hEd
      go_wp2_with fail
      refine bodyPost_ret (results_ctt rfl _ _ (w.heap.size + 1) 24 #[.slice none 0 0, .bool false] (0, 0) _ rfl (blk_put (blk_put (cs' := #[.slice none 0 0, .bool false]) HRes3.out 0 _ rfl) 1 _ rfl) Tryz.underlying24 rfl (by kernel_rfl)) rfl ?_
      exact ⟨_, rfl, Kd.S_nil _ _ _ _ _, ((HW1.out.trans (HB3.out.mono hsz1)).setCell (by simp) _).setCell (by simp) _⟩
    ·have hG := HG.out
     have e : t = m := by omega
     rw [e, HM.out, List.drop_length] at hG
     simp only [allGo] at hG
     injection hG with h
     injection h with ha h
     injection h with hb h
     injection h with hc hd
     subst ha hb hc hd
     have hres := blk_below HRes.out HA.out.below
     have q0 := (blk_cell hres 0).trans rfl
     have q1 := (blk_cell hres 1).trans rfl
     have g0 := blk_frozen hres 0
     have g1 := blk_frozen hres 1
     obtain ⟨A', c', hbb, y0, y1, hS⟩ := ed_parts HA.out.ed
     have HRes3 := Lib.hid hres
     have HS := Lib.hid hS
     clear hres hS HG
     go_wp2_with fail
     refine bodyPost_ret (results_ctt rfl _ _ (w.heap.size + 1) 24 #[.slice A' l.length c', .bool a0_1] (0, 0) _ rfl (blk_put (blk_put (cs' := #[.slice A' l.length c', .bool false]) HRes3.out 0 _ rfl) 1 _ rfl) Tryz.underlying24 rfl (by kernel_rfl)) rfl ?_
     exact ⟨_, rfl, Kd.S_set (Kd.S_set (Kd.S_lower HS.out hsz1) HRes3.out (by decide) 0 _) (blk_set HRes3.out 0 _) (by decide) 1 _, ((HBr.out.setCell (by simp) _).setCell (by simp) _)⟩
 ·have h := H.out
  rw [if_neg hc0] at h
  injection h with h
  injection h with ha h
  injection h with hb h
  injection h with hc hd
  subst ha hb hc hd
  have hcb : (c == 0) = false := by simpa using hc0
  have hcb2 : (c != 0) = true := by simpa using hc0
  go_wp2_with fail
  refine bodyPost_ret (results_ctt rfl _ _ (w.heap.size + 1) 24 #[.slice none 0 0, .bool false] (0, 0) _ rfl (blk_put (blk_put (cs' := #[.slice none 0 0, .bool false]) HRes.out 0 _ rfl) 1 _ rfl) Tryz.underlying24 rfl (by kernel_rfl)) rfl ?_
  exact ⟨_, rfl, Kd.S_nil _ _ _ _ _, (HW1.out.setCell (by simp) _).setCell (by simp) _⟩

/-! ### record_place: function 47 -/
def record_place.f (l0 : List S66) (a1 : ByteArray) : Option Int := some (idxF (fun x => x.f0.toList == a1.toList) l0)

set_option maxHeartbeats 1000000 in
theorem record_place.one (x : S66) (nm : ByteArray) (b : Nat) (w : World) (hc : w.cell? ⟨b, 0, none⟩ = some (.string nm)) :
  Calls Tryz.prog 73 #[.agg #[.string x.f0, .string x.f1], .pointer (some ⟨b, 0, none⟩)] w fun e w' => e = .returned (.bool (x.f0.toList == nm.toList)) ∧ Below w.heap.size w w' := by
 have hc1 : (w.alloc (.cells #[.string x.f0, .string x.f1] 66)).cell? ⟨b, 0, none⟩ = some (.string nm) := pw_cell_below ((Below.refl _ w).alloc (Nat.le_refl _) _) hc
 clear hc
 go_enter Tryz.func73, Tryz.ntmps73
 go_wp2_with fail
 go_ret
 exact ⟨rfl, (Below.refl _ w).alloc (Nat.le_refl _) _⟩

set_option maxHeartbeats 2000000 in
theorem record_place.index (A : Option Addr) (c : Nat) (xs : List S66) (nm : ByteArray) (b : Nat) (w : World) (hr : Kd.C k66 w A xs.length xs) (hcb : w.cell? ⟨b, 0, none⟩ = some (.string nm)) :
  Calls Tryz.prog 72 #[.slice A xs.length c, .func (.func 73) #[] #[.pointer (some ⟨b, 0, none⟩)]] w fun e w' => e = .returned (.int .i64 (idxF (fun x => x.f0.toList == nm.toList) xs)) ∧ Below w.heap.size w w' := by
 have hnm : xs.length ≤ 9223372036854775807 := hr.2.1
 have HC := Lib.hid hcb
 have HR := Lib.hid hr
 clear hr hcb
 obtain ⟨n, hn⟩ : ∃ n, n = xs.length := ⟨_, rfl⟩
 rw [← hn] at HR hnm ⊢
 have HL := Lib.hid hn
 clear hn
 go_enter Tryz.func72, Tryz.ntmps72
 go_wp2_with fail
 go_loopw [8] (fun i wr => ∃ k : Nat, k ≤ n ∧ i = .int .i64 k ∧ Hid (∀ j, j < k → ((xs.getD j z66).f0.toList == nm.toList) = false) ∧ Hid (Below w.heap.size w wr))
  (fun i _ => n - (intOf i).toNat)
 case atStart => exact ⟨0, Nat.zero_le _, rfl, Lib.hid (fun j h => absurd h (Nat.not_lt_zero _)), Lib.hid (Below.refl _ _)⟩
 case round =>
  obtain ⟨k, hk, rfl, HN, HB⟩ := hrel
  by_cases hlt : k < n
  ·obtain ⟨ad, rfl, c0, c1⟩ := at_T66 (HR.out) (k : Int) (by omega) (by omega)
   rw [Int.toNat_natCast] at c0 c1
   have d0 := pw_cell_below HB.out c0
   have d1 := pw_cell_below HB.out c1
   clear c0 c1
   have HO : Hid (∀ W : World, W.cell? ⟨b, 0, none⟩ = some (.string nm) → Calls Tryz.prog 73 #[.agg #[.string (rd_T66 xs k).f0, .string (rd_T66 xs k).f1], .pointer (some ⟨b, 0, none⟩)] W fun e w' => e = .returned (.bool ((rd_T66 xs k).f0.toList == nm.toList)) ∧ Below W.heap.size W w') := Lib.hid (fun W h => record_place.one _ nm b W h)
   have HX : Hid (rd_T66 xs k = xs.getD k z66) := Lib.hid (by unfold rd_T66; rw [Int.toNat_natCast])
   generalize rd_T66 xs k = x at *
   go_wp2_with fail
   refine (HO.out _ (pw_cell_below HB.out HC.out)).mono ?_
   rintro e w1 ⟨rfl, hb⟩
   have HB1 := Lib.hid (HB.out.trans (hb.mono HB.out.size))
   clear hb d0 d1
   by_cases hbad : (x.f0.toList == nm.toList) = true
   ·have HE : Hid (idxF (fun x : S66 => x.f0.toList == nm.toList) xs = k) := Lib.hid (by
     have hl := HL.out
     refine idxF_some ?_
     rw [List.findIdx?_eq_some_iff_getElem]
     refine ⟨by omega, ?_, fun j hj => ?_⟩
     ·have e : xs[k] = x := by rw [HX.out, List.getD_eq_getElem?_getD, List.getElem?_eq_getElem (by omega)]; rfl
      rw [e]; exact hbad
     ·have := HN.out j hj
      rw [List.getD_eq_getElem?_getD, List.getElem?_eq_getElem (by omega)] at this
      simpa using this)
    rw [hbad]
    go_wp2_with fail
    go_ret
    exact ⟨by rw [HE.out]; rfl, HB1.out⟩
   ·have hbad : (x.f0.toList == nm.toList) = false := by simpa using hbad
    have HN1 : Hid (∀ j, j < k + 1 → ((xs.getD j z66).f0.toList == nm.toList) = false) := Lib.hid (fun j hj => by
     by_cases e : j = k
     ·rw [e, ← HX.out]; exact hbad
     ·exact HN.out j (by omega))
    rw [hbad]
    go_wp2_with fail
    go_roundw
    case rel => exact ⟨k + 1, by omega, by go_num, HN1, HB1⟩
    case measure => simp [intOf]; omega
  ·obtain rfl : k = n := by omega
   have HE : Hid (idxF (fun x : S66 => x.f0.toList == nm.toList) xs = -1) := Lib.hid (by
    have hl := HL.out
    refine idxF_none ?_
    rw [List.findIdx?_eq_none_iff]
    intro x hx
    obtain ⟨j, hj, rfl⟩ := List.mem_iff_getElem.1 hx
    have := HN.out j (by omega)
    rw [List.getD_eq_getElem?_getD, List.getElem?_eq_getElem hj] at this
    simpa using this)
   go_wp2_with fail
   go_ret
   exact ⟨by rw [HE.out]; rfl, HB.out⟩

set_option maxHeartbeats 1000000 in
theorem record_place.calls (A0 : Option Addr) (c0 : Nat) (l0 : List S66) (a1 : ByteArray) (r : Int) (w : World) (hr0 : Kd.C k66 w A0 l0.length l0) (hc0 : l0.length ≤ c0) (h : record_place.f l0 a1 = some r) :
  Calls Tryz.prog 47 #[.slice A0 l0.length c0, .string a1] w fun e w' => e = .returned (.int .i64 r) ∧ Below w.heap.size w w' := by
 obtain rfl := Option.some.inj h
 have HI := Lib.hid (record_place.index A0 c0 l0 a1 w.heap.size (w.alloc (.cells #[.string a1] 9)) (Kd.C_below hr0 ((Below.refl _ w).alloc (Nat.le_refl _) _)) (blk_cell (blk_new w (.cells #[.string a1] 9)) 0))
 generalize idxF (fun x : S66 => x.f0.toList == a1.toList) l0 = r at *
 clear h hr0 hc0
 go_enter Tryz.func47, Tryz.ntmps47
 go_wp2_with fail
 refine HI.out.mono ?_
 rintro e w1 ⟨rfl, hb⟩
 have HB := Lib.hid (((Below.refl _ w).alloc (Nat.le_refl _) (.cells #[.string a1] 9)).trans (hb.mono (by simp)))
 clear hb
 go_wp2_with fail
 go_ret
 exact ⟨rfl, HB.out⟩

/-! ### record_nodes: function 23 -/
def record_nodes.j0 : Nat → Int → Bool → Int → Int → Int → Int → ByteArray → ByteArray → Int → ByteArray → List (S66) → ByteArray → Int → List Int → Bool → ByteArray → Int → Int → Option (List Int)
 | 0, _, _, _, _, _, _, _, _, _, _, _, _, _, _, _, _, _, _ => none
 | k + 1, x5, x6, x150000, x150001, x150002, x150003, x150004, x150005, x150006, x150007, x150008, x150009, x150010, x150011, x150012, x150013, x150014, x150015 => if x6 = true then (some (([x150001] : List Int))) else (if x5 = 5 then (some (([x150001, x150002] : List Int))) else (if x5 = 6 then (some (([x150001, x150014] : List Int))) else (if x5 = 4 then (some (([x150015] : List Int))) else (some ([] : List Int)))))
def record_nodes.f (k : Nat) (a0_0 : Int) (a0_1 : Int) (a0_2 : Int) (a0_3 : Int) (a0_4 : ByteArray) (a0_5 : ByteArray) (a0_6 : Int) (a0_7 : ByteArray) (l0_8 : List (S66)) (a0_9 : ByteArray) (a0_10 : Int) (l0_11 : List Int) (a0_12 : Bool) (a0_13 : ByteArray) (a0_14 : Int) (a0_15 : Int) : Option (List Int) := if a0_0 = 1 then (record_nodes.j0 k a0_0 (a0_0 == 1) a0_0 a0_1 a0_2 a0_3 a0_4 a0_5 a0_6 a0_7 l0_8 a0_9 a0_10 l0_11 a0_12 a0_13 a0_14 a0_15) else (if a0_0 = 2 then (record_nodes.j0 k a0_0 (a0_0 == 2) a0_0 a0_1 a0_2 a0_3 a0_4 a0_5 a0_6 a0_7 l0_8 a0_9 a0_10 l0_11 a0_12 a0_13 a0_14 a0_15) else (record_nodes.j0 k a0_0 (a0_0 == 3) a0_0 a0_1 a0_2 a0_3 a0_4 a0_5 a0_6 a0_7 l0_8 a0_9 a0_10 l0_11 a0_12 a0_13 a0_14 a0_15))
theorem record_nodes.mono_l : ∀ k, (∀ y0 y1 y2 y3 y4 y5 y6 y7 y8 y9 y10 y11 y12 y13 y14 y15 y16 y17, LeO (record_nodes.j0 k y0 y1 y2 y3 y4 y5 y6 y7 y8 y9 y10 y11 y12 y13 y14 y15 y16 y17) (record_nodes.j0 (k + 1) y0 y1 y2 y3 y4 y5 y6 y7 y8 y9 y10 y11 y12 y13 y14 y15 y16 y17))
 | 0 => fun _ _ _ _ _ _ _ _ _ _ _ _ _ _ _ _ _ _ r h => by simp [record_nodes.j0] at h
 | k + 1 => by
  have ih0 := record_nodes.mono_l k
  ·intro y0 y1 y2 y3 y4 y5 y6 y7 y8 y9 y10 y11 y12 y13 y14 y15 y16 y17
   unfold record_nodes.j0
   repeat' first
   | (with_reducible exact ih0 _ _ _ _ _ _ _ _ _ _ _ _ _ _ _ _ _ _)
   | (with_reducible exact LeO.refl _)
   | (with_reducible exact LeO.none _)
   | (with_reducible refine LeO.ite ?_ ?_)
   | (with_reducible refine LeO.bind ?_ (fun _ => ?_))
   | exact ih0 _ _ _ _ _ _ _ _ _ _ _ _ _ _ _ _ _ _
   | exact LeO.none _
   | refine LeO.ite ?_ ?_
   | refine LeO.bind ?_ (fun _ => ?_)
theorem record_nodes.mono : ∀ a0 a1 a2 a3 a4 a5 a6 a7 a8 a9 a10 a11 a12 a13 a14 a15 k, LeO (record_nodes.f k a0 a1 a2 a3 a4 a5 a6 a7 a8 a9 a10 a11 a12 a13 a14 a15) (record_nodes.f (k + 1) a0 a1 a2 a3 a4 a5 a6 a7 a8 a9 a10 a11 a12 a13 a14 a15) := by
 intro a0 a1 a2 a3 a4 a5 a6 a7 a8 a9 a10 a11 a12 a13 a14 a15 k
 have ih0 := record_nodes.mono_l k
 unfold record_nodes.f
 repeat' first
   | (with_reducible exact ih0 _ _ _ _ _ _ _ _ _ _ _ _ _ _ _ _ _ _)
   | (with_reducible exact LeO.refl _)
   | (with_reducible exact LeO.none _)
   | (with_reducible refine LeO.ite ?_ ?_)
   | (with_reducible refine LeO.bind ?_ (fun _ => ?_))
   | exact ih0 _ _ _ _ _ _ _ _ _ _ _ _ _ _ _ _ _ _
   | exact LeO.none _
   | refine LeO.ite ?_ ?_
   | refine LeO.bind ?_ (fun _ => ?_)
set_option maxHeartbeats 8000000 in
set_option maxRecDepth 100000 in
theorem record_nodes.calls (k : Nat) (a0_0 : Int) (a0_1 : Int) (a0_2 : Int) (a0_3 : Int) (a0_4 : ByteArray) (a0_5 : ByteArray) (a0_6 : Int) (a0_7 : ByteArray) (A0_8 : Option Addr) (c0_8 : Nat) (l0_8 : List (S66)) (a0_9 : ByteArray) (a0_10 : Int) (A0_11 : Option Addr) (c0_11 : Nat) (l0_11 : List Int) (a0_12 : Bool) (a0_13 : ByteArray) (a0_14 : Int) (a0_15 : Int) (r : List Int) (w : World) (hr0_8 : Kd.C k66 w A0_8 l0_8.length l0_8) (hc0_8 : l0_8.length ≤ c0_8) (hr0_11 : Kd.C (Kd.int .i64) w A0_11 l0_11.length l0_11) (hc0_11 : l0_11.length ≤ c0_11) (h : record_nodes.f k a0_0 a0_1 a0_2 a0_3 a0_4 a0_5 a0_6 a0_7 l0_8 a0_9 a0_10 l0_11 a0_12 a0_13 a0_14 a0_15 = some r) :
  Calls Tryz.prog 23 #[.agg #[.int .i64 a0_0, .int .i64 a0_1, .int .i64 a0_2, .int .i64 a0_3, .string a0_4, .string a0_5, .int .i64 a0_6, .string a0_7, .slice A0_8 l0_8.length c0_8, .string a0_9, .int .i64 a0_10, .slice A0_11 l0_11.length c0_11, .bool a0_12, .string a0_13, .int .i64 a0_14, .int .i64 a0_15]] w fun e w' => ∃ v0_ : Value, e = .returned (v0_) ∧ Kd.R (Kd.int .i64) 3 w' w.heap.size (fun _ => True) v0_ r ∧ Below w.heap.size w w' := by
 have hu48 := Tryz.underlying48
 have HR0_8 := Aside0.mk hr0_8
 have HC0_8 := Aside0.mk hc0_8
 clear hr0_8 hc0_8
 have HR0_11 := Aside0.mk hr0_11
 have HC0_11 := Aside0.mk hc0_11
 clear hr0_11 hc0_11
 have HB := Aside0.mk (Below.refl w.heap.size w)
 have H : (if a0_0 = 1 then (record_nodes.j0 k a0_0 (a0_0 == 1) a0_0 a0_1 a0_2 a0_3 a0_4 a0_5 a0_6 a0_7 l0_8 a0_9 a0_10 l0_11 a0_12 a0_13 a0_14 a0_15) else (if a0_0 = 2 then (record_nodes.j0 k a0_0 (a0_0 == 2) a0_0 a0_1 a0_2 a0_3 a0_4 a0_5 a0_6 a0_7 l0_8 a0_9 a0_10 l0_11 a0_12 a0_13 a0_14 a0_15) else (record_nodes.j0 k a0_0 (a0_0 == 3) a0_0 a0_1 a0_2 a0_3 a0_4 a0_5 a0_6 a0_7 l0_8 a0_9 a0_10 l0_11 a0_12 a0_13 a0_14 a0_15))) = some r := h
 clear h
 have HC2 := Aside0.mk H
 clear H
 go_enter Tryz.func23, Tryz.ntmps23
 go_upto_if 6 with (first | ((with_reducible refine gate_dst (N := 1) rfl ?_); refine box_event rf_ (N := 1) rf_ (cs := #[.int .i64 a0_0, .int .i64 a0_1, .int .i64 a0_2, .int .i64 a0_3, .string a0_4, .string a0_5, .int .i64 a0_6, .string a0_7, .slice A0_8 l0_8.length c0_8, .string a0_9, .int .i64 a0_10, .slice A0_11 l0_11.length c0_11, .bool a0_12, .string a0_13, .int .i64 a0_14, .int .i64 a0_15]) (t := 48) gs_ ?_; intro gb149 hg w3 hbox hb; have BK149 := Aside0.mk hbox; have GW149 := Aside0.mk (gle_ (w := w) hg bl0_); replace HB := Aside0.mk (below_step bl0_ hb); have GE149 := GW149; clear hb hbox hg; obtain ⟨hcz4_0, hcz4_1, hcz4_2, hcz4_3, hcz4_4, hcz4_5, hcz4_6, hcz4_7, hcz4_8, hcz4_9, hcz4_10, hcz4_11, hcz4_12, hcz4_13, hcz4_14, hcz4_15, hfz4_0, hfz4_1, hfz4_2, hfz4_3, hfz4_4, hfz4_5, hfz4_6, hfz4_7, hfz4_8, hfz4_9, hfz4_10, hfz4_11, hfz4_12, hfz4_13, hfz4_14, hfz4_15⟩ := cf16_ BK149))
 (try simp only [Act.put, List.setIfInBounds_toArray, List.set_cons_zero, List.set_cons_succ])
 go_cut [6] (fun v6 wc => ∃ (kq : Nat) (x6_1 : Bool), v6 = .bool x6_1 ∧ Aside0 (record_nodes.j0 kq a0_0 x6_1 a0_0 a0_1 a0_2 a0_3 a0_4 a0_5 a0_6 a0_7 l0_8 a0_9 a0_10 l0_11 a0_12 a0_13 a0_14 a0_15 = some r) ∧ Aside0 (kq ≤ k) ∧ Aside0 (wc.heap[gb149]? = some (.cells #[.int .i64 a0_0, .int .i64 a0_1, .int .i64 a0_2, .int .i64 a0_3, .string a0_4, .string a0_5, .int .i64 a0_6, .string a0_7, (.slice A0_8 l0_8.length c0_8), .string a0_9, .int .i64 a0_10, (.slice A0_11 l0_11.length c0_11), .bool a0_12, .string a0_13, .int .i64 a0_14, .int .i64 a0_15] 48 (0, 0))) ∧ Aside0 (Below w.heap.size w wc))
 case first =>
  have H := HC2.out
  clear HC2
  by_cases c5 : a0_0 = 1
  ·rw [if_pos c5] at H
   have c5b0 : (a0_0 == 1) = true := beq_iff_eq.mpr c5
   have c5b1 : (a0_0 != 1) = false := bne_eq_false_iff_eq.mpr c5
   clear c5
   (first | rw [c5b0] | (simp only [i64_w, i32_w]; rw [c5b0]) | skip)
   have H' := Aside0.mk H
   clear H
   go_wp2
   go_meet
   case rel => exact ⟨_, ((a0_0 == 1)), rs_, H', ⟨by first | omega | exact Nat.le_refl _⟩, ⟨by (with_reducible repeat (first | refine blk_drewN ?_ _ | refine blk_drew ?_ | refine blk_alloc ?_ _)); exact BK149.out⟩, ⟨bl0_⟩⟩
  ·rw [if_neg c5] at H
   have c5b0 : (a0_0 == 1) = false := beq_eq_false_iff_ne.mpr c5
   have c5b1 : (a0_0 != 1) = true := bne_iff_ne.mpr c5
   (first | rw [c5b0] | (simp only [i64_w, i32_w]; rw [c5b0]) | skip)
   by_cases c6 : a0_0 = 2
   ·rw [if_pos c6] at H
    have c6b0 : (a0_0 == 2) = true := beq_iff_eq.mpr c6
    have c6b1 : (a0_0 != 2) = false := bne_eq_false_iff_eq.mpr c6
    clear c6
    have H' := Aside0.mk H
    clear H
    go_wp2
    go_meet
    case rel => exact ⟨_, ((a0_0 == 2)), rs_, H', ⟨by first | omega | exact Nat.le_refl _⟩, ⟨by (with_reducible repeat (first | refine blk_drewN ?_ _ | refine blk_drew ?_ | refine blk_alloc ?_ _)); exact BK149.out⟩, ⟨bl0_⟩⟩
   ·rw [if_neg c6] at H
    have c6b0 : (a0_0 == 2) = false := beq_eq_false_iff_ne.mpr c6
    have c6b1 : (a0_0 != 2) = true := bne_iff_ne.mpr c6
    have H' := Aside0.mk H
    clear H
    go_wp2
    go_meet
    case rel => exact ⟨_, ((a0_0 == 3)), rs_, H', ⟨by first | omega | exact Nat.le_refl _⟩, ⟨by (with_reducible repeat (first | refine blk_drewN ?_ _ | refine blk_drew ?_ | refine blk_alloc ?_ _)); exact BK149.out⟩, ⟨bl0_⟩⟩
 case rest =>
  clear HC2
  try clear c5; try clear c5b0; try clear c5b1; try clear c6; try clear c6b0; try clear c6b1; try clear hcz4_0; try clear hcz4_1; try clear hcz4_10; try clear hcz4_11; try clear hcz4_12; try clear hcz4_13; try clear hcz4_14; try clear hcz4_15; try clear hcz4_2; try clear hcz4_3; try clear hcz4_4; try clear hcz4_5; try clear hcz4_6; try clear hcz4_7; try clear hcz4_8; try clear hcz4_9; try clear hfz4_0; try clear hfz4_1; try clear hfz4_10; try clear hfz4_11; try clear hfz4_12; try clear hfz4_13; try clear hfz4_14; try clear hfz4_15; try clear hfz4_2; try clear hfz4_3; try clear hfz4_4; try clear hfz4_5; try clear hfz4_6; try clear hfz4_7; try clear hfz4_8; try clear hfz4_9
  obtain ⟨kq, x6_1, rfl, HA, HJ1, BK149, HB⟩ := hcut
  cases kq with
  | zero => exact absurd HA.out (by simp [record_nodes.j0])
  | succ kj1 =>
   have H := HA.out
   clear HA
   simp only [record_nodes.j0] at H
   by_cases c7 : x6_1 = true
   ·subst c7
    have H1 : (some (([a0_1] : List Int))) = some r := by rw [if_pos rfl] at H; exact H
    clear H
    have H := H1
    clear H1
    obtain ⟨y150, hy150⟩ : ∃ y_ : List Int, y_ = (([a0_1] : List Int)) := ⟨_, rfl⟩
    replace H : (some y150) = some r := by first | (rw [hy150]; with_reducible exact H) | (have H2_ := (Option.bind_some _ _).symm.trans H; rw [hy150]; with_reducible exact H2_) | (have H2_ := (Option.bind_some _ _).symm.trans H; with_reducible exact H2_) | with_reducible exact H | (rw [hy150]; exact H) | exact H
    have Ny150 := Aside0.mk hy150
    clear hy150
    obtain rfl := Option.some.inj H
    obtain ⟨hcz8_0, hcz8_1, hcz8_2, hcz8_3, hcz8_4, hcz8_5, hcz8_6, hcz8_7, hcz8_8, hcz8_9, hcz8_10, hcz8_11, hcz8_12, hcz8_13, hcz8_14, hcz8_15, hfz8_0, hfz8_1, hfz8_2, hfz8_3, hfz8_4, hfz8_5, hfz8_6, hfz8_7, hfz8_8, hfz8_9, hfz8_10, hfz8_11, hfz8_12, hfz8_13, hfz8_14, hfz8_15⟩ := cf16_ BK149
    go_wp2_with (first | ((with_reducible refine gate_dst (N := 13) rfl ?_); refine Kd.R_lit (Kd.int .i64) _ 3 rf_ (N := 13) rf_ (xs := ([a0_1] : List Int)) (inner := [.int .i64 a0_1]) (ok := fun _ => True) (okp := fun _ => True) gs_ ?hp (fun _ hk => hk) trivial (Below.refl _ _) (Nat.le_refl _) (by simp) ?_; (case hp => exact (Reps.one (show Kd.M (Kd.int .i64) _ _ _ a0_1 [.int .i64 a0_1] from rfl) (Reps.none _ _))); intro v151 w9 ho10 hb hg_ hnew_; clear hg_ hnew_; (first | rw [← Ny150.out] at ho10 | (simp only [Int.reduceToNat] at ho10; rw [← Ny150.out] at ho10)); have HO152 := Aside0.mk (Kd.R_lower ho10 (below_size bl0_)); replace BK149 := bb_ BK149 hb; replace HB := Aside0.mk (below_step bl0_ hb); clear hb ho10))
    go_ret
    exact ⟨_, er_, by (with_reducible repeat (first | apply Kd.R_alloc | apply Kd.R_drewN | apply Kd.R_drew)); exact HO152.out, bl0_⟩
   ·replace c7 := Bool.eq_false_iff.mpr c7
    subst c7
    have H1 : (if a0_0 = 5 then (some (([a0_1, a0_2] : List Int))) else (if a0_0 = 6 then (some (([a0_1, a0_14] : List Int))) else (if a0_0 = 4 then (some (([a0_15] : List Int))) else (some ([] : List Int))))) = some r := by rw [if_neg (show ¬ (false = true) by decide)] at H; exact H
    clear H
    have H := H1
    clear H1
    by_cases c11 : a0_0 = 5
    ·rw [if_pos c11] at H
     have c11b0 : (a0_0 == 5) = true := beq_iff_eq.mpr c11
     have c11b1 : (a0_0 != 5) = false := bne_eq_false_iff_eq.mpr c11
     clear c11
     obtain ⟨y153, hy153⟩ : ∃ y_ : List Int, y_ = (([a0_1, a0_2] : List Int)) := ⟨_, rfl⟩
     replace H : (some y153) = some r := by first | (rw [hy153]; with_reducible exact H) | (have H2_ := (Option.bind_some _ _).symm.trans H; rw [hy153]; with_reducible exact H2_) | (have H2_ := (Option.bind_some _ _).symm.trans H; with_reducible exact H2_) | with_reducible exact H | (rw [hy153]; exact H) | exact H
     have Ny153 := Aside0.mk hy153
     clear hy153
     obtain rfl := Option.some.inj H
     obtain ⟨hcz12_0, hcz12_1, hcz12_2, hcz12_3, hcz12_4, hcz12_5, hcz12_6, hcz12_7, hcz12_8, hcz12_9, hcz12_10, hcz12_11, hcz12_12, hcz12_13, hcz12_14, hcz12_15, hfz12_0, hfz12_1, hfz12_2, hfz12_3, hfz12_4, hfz12_5, hfz12_6, hfz12_7, hfz12_8, hfz12_9, hfz12_10, hfz12_11, hfz12_12, hfz12_13, hfz12_14, hfz12_15⟩ := cf16_ BK149
     go_wp2_with (first | ((with_reducible refine gate_dst (N := 22) rfl ?_); refine Kd.R_lit (Kd.int .i64) _ 3 rf_ (N := 22) rf_ (xs := ([a0_1, a0_2] : List Int)) (inner := [.int .i64 a0_1, .int .i64 a0_2]) (ok := fun _ => True) (okp := fun _ => True) gs_ ?hp (fun _ hk => hk) trivial (Below.refl _ _) (Nat.le_refl _) (by simp) ?_; (case hp => exact (Reps.one (show Kd.M (Kd.int .i64) _ _ _ a0_1 [.int .i64 a0_1] from rfl) (Reps.one (show Kd.M (Kd.int .i64) _ _ _ a0_2 [.int .i64 a0_2] from rfl) (Reps.none _ _)))); intro v154 w13 ho14 hb hg_ hnew_; clear hg_ hnew_; (first | rw [← Ny153.out] at ho14 | (simp only [Int.reduceToNat] at ho14; rw [← Ny153.out] at ho14)); have HO155 := Aside0.mk (Kd.R_lower ho14 (below_size bl0_)); replace BK149 := bb_ BK149 hb; replace HB := Aside0.mk (below_step bl0_ hb); clear hb ho14))
     go_ret
     exact ⟨_, er_, by (with_reducible repeat (first | apply Kd.R_alloc | apply Kd.R_drewN | apply Kd.R_drew)); exact HO155.out, bl0_⟩
    ·rw [if_neg c11] at H
     have c11b0 : (a0_0 == 5) = false := beq_eq_false_iff_ne.mpr c11
     have c11b1 : (a0_0 != 5) = true := bne_iff_ne.mpr c11
     by_cases c15 : a0_0 = 6
     ·rw [if_pos c15] at H
      have c15b0 : (a0_0 == 6) = true := beq_iff_eq.mpr c15
      have c15b1 : (a0_0 != 6) = false := bne_eq_false_iff_eq.mpr c15
      clear c15
      obtain ⟨y156, hy156⟩ : ∃ y_ : List Int, y_ = (([a0_1, a0_14] : List Int)) := ⟨_, rfl⟩
      replace H : (some y156) = some r := by first | (rw [hy156]; with_reducible exact H) | (have H2_ := (Option.bind_some _ _).symm.trans H; rw [hy156]; with_reducible exact H2_) | (have H2_ := (Option.bind_some _ _).symm.trans H; with_reducible exact H2_) | with_reducible exact H | (rw [hy156]; exact H) | exact H
      have Ny156 := Aside0.mk hy156
      clear hy156
      obtain rfl := Option.some.inj H
      obtain ⟨hcz16_0, hcz16_1, hcz16_2, hcz16_3, hcz16_4, hcz16_5, hcz16_6, hcz16_7, hcz16_8, hcz16_9, hcz16_10, hcz16_11, hcz16_12, hcz16_13, hcz16_14, hcz16_15, hfz16_0, hfz16_1, hfz16_2, hfz16_3, hfz16_4, hfz16_5, hfz16_6, hfz16_7, hfz16_8, hfz16_9, hfz16_10, hfz16_11, hfz16_12, hfz16_13, hfz16_14, hfz16_15⟩ := cf16_ BK149
      go_wp2_with (first | ((with_reducible refine gate_dst (N := 30) rfl ?_); refine Kd.R_lit (Kd.int .i64) _ 3 rf_ (N := 30) rf_ (xs := ([a0_1, a0_14] : List Int)) (inner := [.int .i64 a0_1, .int .i64 a0_14]) (ok := fun _ => True) (okp := fun _ => True) gs_ ?hp (fun _ hk => hk) trivial (Below.refl _ _) (Nat.le_refl _) (by simp) ?_; (case hp => exact (Reps.one (show Kd.M (Kd.int .i64) _ _ _ a0_1 [.int .i64 a0_1] from rfl) (Reps.one (show Kd.M (Kd.int .i64) _ _ _ a0_14 [.int .i64 a0_14] from rfl) (Reps.none _ _)))); intro v157 w17 ho18 hb hg_ hnew_; clear hg_ hnew_; (first | rw [← Ny156.out] at ho18 | (simp only [Int.reduceToNat] at ho18; rw [← Ny156.out] at ho18)); have HO158 := Aside0.mk (Kd.R_lower ho18 (below_size bl0_)); replace BK149 := bb_ BK149 hb; replace HB := Aside0.mk (below_step bl0_ hb); clear hb ho18))
      go_ret
      exact ⟨_, er_, by (with_reducible repeat (first | apply Kd.R_alloc | apply Kd.R_drewN | apply Kd.R_drew)); exact HO158.out, bl0_⟩
     ·rw [if_neg c15] at H
      have c15b0 : (a0_0 == 6) = false := beq_eq_false_iff_ne.mpr c15
      have c15b1 : (a0_0 != 6) = true := bne_iff_ne.mpr c15
      by_cases c19 : a0_0 = 4
      ·rw [if_pos c19] at H
       have c19b0 : (a0_0 == 4) = true := beq_iff_eq.mpr c19
       have c19b1 : (a0_0 != 4) = false := bne_eq_false_iff_eq.mpr c19
       clear c19
       obtain ⟨y159, hy159⟩ : ∃ y_ : List Int, y_ = (([a0_15] : List Int)) := ⟨_, rfl⟩
       replace H : (some y159) = some r := by first | (rw [hy159]; with_reducible exact H) | (have H2_ := (Option.bind_some _ _).symm.trans H; rw [hy159]; with_reducible exact H2_) | (have H2_ := (Option.bind_some _ _).symm.trans H; with_reducible exact H2_) | with_reducible exact H | (rw [hy159]; exact H) | exact H
       have Ny159 := Aside0.mk hy159
       clear hy159
       obtain rfl := Option.some.inj H
       obtain ⟨hcz20_0, hcz20_1, hcz20_2, hcz20_3, hcz20_4, hcz20_5, hcz20_6, hcz20_7, hcz20_8, hcz20_9, hcz20_10, hcz20_11, hcz20_12, hcz20_13, hcz20_14, hcz20_15, hfz20_0, hfz20_1, hfz20_2, hfz20_3, hfz20_4, hfz20_5, hfz20_6, hfz20_7, hfz20_8, hfz20_9, hfz20_10, hfz20_11, hfz20_12, hfz20_13, hfz20_14, hfz20_15⟩ := cf16_ BK149
       go_wp2_with (first | ((with_reducible refine gate_dst (N := 35) rfl ?_); refine Kd.R_lit (Kd.int .i64) _ 3 rf_ (N := 35) rf_ (xs := ([a0_15] : List Int)) (inner := [.int .i64 a0_15]) (ok := fun _ => True) (okp := fun _ => True) gs_ ?hp (fun _ hk => hk) trivial (Below.refl _ _) (Nat.le_refl _) (by simp) ?_; (case hp => exact (Reps.one (show Kd.M (Kd.int .i64) _ _ _ a0_15 [.int .i64 a0_15] from rfl) (Reps.none _ _))); intro v160 w21 ho22 hb hg_ hnew_; clear hg_ hnew_; (first | rw [← Ny159.out] at ho22 | (simp only [Int.reduceToNat] at ho22; rw [← Ny159.out] at ho22)); have HO161 := Aside0.mk (Kd.R_lower ho22 (below_size bl0_)); replace BK149 := bb_ BK149 hb; replace HB := Aside0.mk (below_step bl0_ hb); clear hb ho22))
       go_ret
       exact ⟨_, er_, by (with_reducible repeat (first | apply Kd.R_alloc | apply Kd.R_drewN | apply Kd.R_drew)); exact HO161.out, bl0_⟩
      ·rw [if_neg c19] at H
       have c19b0 : (a0_0 == 4) = false := beq_eq_false_iff_ne.mpr c19
       have c19b1 : (a0_0 != 4) = true := bne_iff_ne.mpr c19
       obtain rfl := Option.some.inj H
       go_wp2
       go_ret
       exact ⟨_, er_, by first | exact Kd.R_nil _ _ _ _ _ | exact Kd.N_nil _ _ _ _ _ | exact Kd.V_nil _ _ _ _ _ | exact Kd.Q_nil _ _ _ _ _ | exact Kd.S_nil _ _ _ _ _, bl0_⟩

end Go.Proofs.YtmcinclecpeakaaGreatDoor.PRR
