-- printed by wip/tools/pr.py (own) through the kit's printer; texts GIVEN by hand stand among them
import Derived.Test.YtlgoaphdhgidoaaDoorPSYx0
import Derived.Test.YtlgoaphdhgidoaaDoorPSYx5
import Derived.Test.YtlgoaphdhgidoaaDoorPSYx6
import Derived.Test.YtlgoaphdhgidoaaDoorPSYx10
namespace Go.Proofs.YtlgoaphdhgidoaaDoor.PSY
open Go.RowKit Go.Proofs.YtlgoaphdhgidoaaDoorW.PrintWords Go.Proofs.YtlgoaphdhgidoaaDoorW.PrintLast Go.Proofs.YtlgoaphdhgidoaaDoorW.PrintMore
attribute [local go_sem] max2_int min2_int max_two min_two max_three min_three max_four min_four   -- for this text's walks alone
set_option linter.unusedVariables false
set_option linter.unusedSimpArgs false

/-! ### dom_Apply: function 5 -/
def dom_Apply.f (k : Nat) (l0_0 : List S37) (a0_1 : Bool) (a1_0 a1_1 a1_2 a1_3 : Int) (a1_4 a1_5 : ByteArray) (a1_6 : Int) (a1_7 : ByteArray) (l1_8 : List S65) (a1_9 : ByteArray) (a1_10 : Int) (l1_11 : List Int) : Option (List S37 × Bool × Int × Int) :=
  (dom_Check.f k l0_0 a0_1).bind fun c => if c = 0 then (if allOk l0_0 = true then (editF k l0_0 a0_1 0 ⟨a1_0, a1_1, a1_2, a1_3, a1_4, a1_5, ⟨a1_6, a1_7, l1_8, a1_9, a1_10, l1_11⟩⟩).bind fun t => if t.1 = 0 then some (t.2.1, a0_1, t.2.2, 0) else some ([], false, 0, t.1) else none) else some ([], false, 0, c)
theorem dom_Apply.mono : ∀ a0 a1 a2 a3 a4 a5 a6 a7 a8 a9 a10 a11 a12 a13 k, LeO (dom_Apply.f k a0 a1 a2 a3 a4 a5 a6 a7 a8 a9 a10 a11 a12 a13) (dom_Apply.f (k + 1) a0 a1 a2 a3 a4 a5 a6 a7 a8 a9 a10 a11 a12 a13) := by
  intro a0 a1 a2 a3 a4 a5 a6 a7 a8 a9 a10 a11 a12 a13 k
  unfold dom_Apply.f
  exact LeO.bind (dom_Check.mono _ _ _) fun _ => LeO.ite (LeO.ite (LeO.bind (editF_mono _ _ _ _ _) fun _ => LeO.refl _) (LeO.refl _)) (LeO.refl _)
theorem apply_far {w : World} {g g' i : Nat} (h : g ≠ g') (u v : Value) : ((w.setCell ⟨g', 0, none⟩ u).setCell ⟨g', 1, none⟩ v).drew.cell? ⟨g, i, none⟩ = w.cell? ⟨g, i, none⟩ :=
  (World.cell?_of_block (Below.heap_setCell (w.setCell ⟨g', 0, none⟩ u) ⟨g', 1, none⟩ v g h)).trans (World.cell?_of_block (Below.heap_setCell w ⟨g', 0, none⟩ u g h))
set_option maxRecDepth 100000 in
set_option maxHeartbeats 4000000 in
theorem dom_Apply.calls (k : Nat) (A0_0 : Option Addr) (c0_0 : Nat) (l0_0 : List S37) (a0_1 : Bool) (a1_0 a1_1 a1_2 a1_3 : Int) (a1_4 a1_5 : ByteArray) (a1_6 : Int) (a1_7 : ByteArray) (A1_8 : Option Addr) (c1_8 : Nat) (l1_8 : List S65) (a1_9 : ByteArray) (a1_10 : Int) (A1_11 : Option Addr) (c1_11 : Nat) (l1_11 : List Int) (r1 : List S37) (r2 : Bool) (r3 r4 : Int) (w : World) (hr0_0 : Kd.C k37 w A0_0 l0_0.length l0_0) (hc0_0 : l0_0.length ≤ c0_0) (hr1_8 : Kd.C k65 w A1_8 l1_8.length l1_8) (hc1_8 : l1_8.length ≤ c1_8) (hr1_11 : Kd.C (Kd.int .i64) w A1_11 l1_11.length l1_11) (hc1_11 : l1_11.length ≤ c1_11) (h : dom_Apply.f k l0_0 a0_1 a1_0 a1_1 a1_2 a1_3 a1_4 a1_5 a1_6 a1_7 l1_8 a1_9 a1_10 l1_11 = some (r1, r2, r3, r4)) :
    Calls Tryd.prog 5 #[.agg #[.slice A0_0 l0_0.length c0_0, .bool a0_1], .agg #[.int .i64 a1_0, .int .i64 a1_1, .int .i64 a1_2, .int .i64 a1_3, .string a1_4, .string a1_5, .int .i64 a1_6, .string a1_7, .slice A1_8 l1_8.length c1_8, .string a1_9, .int .i64 a1_10, .slice A1_11 l1_11.length c1_11]] w fun e w' => ∃ v0_ : Value, e = .returned (.tuple #[.agg #[v0_, .bool r2], .int .i64 r3, .int .i64 r4]) ∧ Kd.S k37 37 w' w.heap.size (fun _ => True) v0_ r1 ∧ Below w.heap.size w w' := by
  obtain ⟨c, hk, h⟩ := Option.bind_eq_some_iff.1 h
  obtain ⟨n, hn⟩ : ∃ n, n = l0_0.length := ⟨_, rfl⟩
  obtain ⟨n8, hn8⟩ : ∃ n8, n8 = l1_8.length := ⟨_, rfl⟩
  obtain ⟨n11, hn11⟩ : ∃ n11, n11 = l1_11.length := ⟨_, rfl⟩
  have HC : Hid (∀ W : World, Below w.heap.size w W → Calls Tryd.prog 11 #[.agg #[.slice A0_0 n c0_0, .bool a0_1]] W fun e w' => e = .returned (.int .i64 c) ∧ Below W.heap.size W w') := Lib.hid (by
    rw [hn]
    exact fun W hb => dom_Check.calls k A0_0 c0_0 l0_0 a0_1 c W (Kd.C_below hr0_0 hb) hc0_0 hk)
  have HO : Hid (allOk l0_0 = true → ∀ W : World, Below w.heap.size w W → Calls Tryd.prog 12 #[.agg #[.slice A0_0 n c0_0, .bool a0_1]] W fun e w' => ∃ v0_ : Value, e = .returned (.agg #[v0_, .bool a0_1]) ∧ Kd.S k37 37 w' W.heap.size (fun _ => True) v0_ l0_0 ∧ Below W.heap.size W w') := Lib.hid (by
    rw [hn]
    exact fun ha W hb => dom_own.calls A0_0 c0_0 l0_0 a0_1 W (Kd.C_below hr0_0 hb) hc0_0 (allOk_len ha).1 (allOk_len ha).2)
  have HEd : Hid (∀ (er : Int) (l' : List S37) (made' : Int), editF k l0_0 a0_1 0 ⟨a1_0, a1_1, a1_2, a1_3, a1_4, a1_5, ⟨a1_6, a1_7, l1_8, a1_9, a1_10, l1_11⟩⟩ = some (er, l', made') → ∀ (w1 W : World) (b : Nat), Below w.heap.size w w1 → Below w1.heap.size w1 W → Ed W w1.heap.size b l0_0 a0_1 0 → Calls Tryd.prog 13 #[.pointer (some ⟨b, 0, none⟩), .agg #[.int .i64 a1_0, .int .i64 a1_1, .int .i64 a1_2, .int .i64 a1_3, .string a1_4, .string a1_5, .int .i64 a1_6, .string a1_7, .slice A1_8 n8 c1_8, .string a1_9, .int .i64 a1_10, .slice A1_11 n11 c1_11]] W fun e w' => e = .returned (.int .i64 er) ∧ ((er = 0 → Ed w' w1.heap.size b l' a0_1 made') ∧ Below w1.heap.size w1 w')) := Lib.hid (by
    rw [hn8, hn11]
    exact fun er l' made' hE w1 W b h1 h2 h3 => edit_calls k ⟨a1_0, a1_1, a1_2, a1_3, a1_4, a1_5, ⟨a1_6, a1_7, l1_8, a1_9, a1_10, l1_11⟩⟩ A1_8 A1_11 c1_8 c1_11 l0_0 a0_1 0 er l' made' b w1 W h2 h3 (Kd.C_below hr1_8 h1) hc1_8 (Kd.C_below hr1_11 h1) hc1_11 hE)
  rw [← hn, ← hn8, ← hn11]
  have HN := Lib.hid hn
  have H := Lib.hid h
  have HWB : Hid (∀ W1 W : World, (((w.alloc (.cells #[.slice A0_0 n c0_0, .bool a0_1] 24)).alloc (.cells #[.int .i64 a1_0, .int .i64 a1_1, .int .i64 a1_2, .int .i64 a1_3, .string a1_4, .string a1_5, .int .i64 a1_6, .string a1_7, .slice A1_8 n8 c1_8, .string a1_9, .int .i64 a1_10, .slice A1_11 n11 c1_11] 39)).alloc (.cells #[.slice none 0 0, .bool false] 24)) = W → Below W.heap.size W W1 → Below w.heap.size w W1 ∧ w.heap.size ≤ W1.heap.size ∧ W1.heap[w.heap.size + 2]? = some (.cells #[.slice none 0 0, .bool false] 24 (0, 0)) ∧ W1.heap[w.heap.size]? = some (.cells #[.slice A0_0 n c0_0, .bool a0_1] 24 (0, 0)) ∧ W1.heap[w.heap.size + 1]? = some (.cells #[.int .i64 a1_0, .int .i64 a1_1, .int .i64 a1_2, .int .i64 a1_3, .string a1_4, .string a1_5, .int .i64 a1_6, .string a1_7, .slice A1_8 n8 c1_8, .string a1_9, .int .i64 a1_10, .slice A1_11 n11 c1_11] 39 (0, 0))) :=
    Lib.hid (fun W1 W h hb => by
      subst h
      have hb1 : Below w.heap.size w (w.alloc (.cells #[.slice A0_0 n c0_0, .bool a0_1] 24)) := (Below.refl _ w).alloc (Nat.le_refl _) _
      have hb2 := hb1.alloc (by simp) (.cells #[.int .i64 a1_0, .int .i64 a1_1, .int .i64 a1_2, .int .i64 a1_3, .string a1_4, .string a1_5, .int .i64 a1_6, .string a1_7, .slice A1_8 n8 c1_8, .string a1_9, .int .i64 a1_10, .slice A1_11 n11 c1_11] 39)
      have hb3 := hb2.alloc (by simp; omega) (.cells #[.slice none 0 0, .bool false] 24)
      have h1 := hb3.trans (hb.mono hb3.size)
      have x2 := blk_below (blk_new ((w.alloc (.cells #[.slice A0_0 n c0_0, .bool a0_1] 24)).alloc (.cells #[.int .i64 a1_0, .int .i64 a1_1, .int .i64 a1_2, .int .i64 a1_3, .string a1_4, .string a1_5, .int .i64 a1_6, .string a1_7, .slice A1_8 n8 c1_8, .string a1_9, .int .i64 a1_10, .slice A1_11 n11 c1_11] 39)) (.cells #[.slice none 0 0, .bool false] 24)) hb
      have x1 := blk_below (blk_below (blk_new (w.alloc (.cells #[.slice A0_0 n c0_0, .bool a0_1] 24)) (.cells #[.int .i64 a1_0, .int .i64 a1_1, .int .i64 a1_2, .int .i64 a1_3, .string a1_4, .string a1_5, .int .i64 a1_6, .string a1_7, .slice A1_8 n8 c1_8, .string a1_9, .int .i64 a1_10, .slice A1_11 n11 c1_11] 39)) ((Below.refl _ _).alloc (Nat.le_refl _) (.cells #[.slice none 0 0, .bool false] 24))) hb
      have x0 := blk_below (blk_below (blk_below (blk_new w (.cells #[.slice A0_0 n c0_0, .bool a0_1] 24)) ((Below.refl _ _).alloc (Nat.le_refl _) (.cells #[.int .i64 a1_0, .int .i64 a1_1, .int .i64 a1_2, .int .i64 a1_3, .string a1_4, .string a1_5, .int .i64 a1_6, .string a1_7, .slice A1_8 n8 c1_8, .string a1_9, .int .i64 a1_10, .slice A1_11 n11 c1_11] 39))) ((Below.refl _ _).alloc (Nat.le_refl _) (.cells #[.slice none 0 0, .bool false] 24))) hb
      exact ⟨h1, h1.size, by simpa using x2, x0, by simpa using x1⟩)
  clear hr0_0 hc0_0 hr1_8 hc1_8 hr1_11 hc1_11 hn hn8 hn11 h hk
  go_enter Tryd.func5, Tryd.ntmps5
  go_wp2_with fail
  refine (HC.out _ (by (repeat (first | refine below_alloc ?_ _ | refine below_drew ?_)); exact Below.refl _ _)).mono ?_
  rintro e w1 ⟨rfl, hb1⟩
  obtain ⟨hw1, hsz1, hres, hbox, hebx⟩ := HWB.out w1 _ rfl hb1
  have b0 := (blk_cell hbox 0).trans rfl
  have b1 := (blk_cell hbox 1).trans rfl
  have q0 := (blk_cell hres 0).trans rfl
  have q1 := (blk_cell hres 1).trans rfl
  have g0 := blk_frozen hres 0
  have g1 := blk_frozen hres 1
  have HW1 := Lib.hid hw1
  have HRes := Lib.hid hres
  have HEb := Lib.hid hebx
  clear hb1 hw1 HWB hres hbox hebx HC
  by_cases hc0 : c = 0
  · subst hc0
    have h := H.out
    rw [if_pos rfl] at h
    split at h
    case isFalse => exact absurd h (by simp)
    case isTrue hok =>
    obtain ⟨⟨er, l', made'⟩, hE, hG⟩ := Option.bind_eq_some_iff.1 h
    have HO1 := Lib.hid (HO.out hok)
    have HE1 := Lib.hid (HEd.out er l' made' hE)
    have HG2 := Lib.hid hG
    clear H h HO HEd hE hG
    go_wp2_with fail
    refine (HO1.out w1 HW1.out).mono ?_
    rintro e w2 ⟨v, rfl, hS, hb2⟩
    have HI : Hid (AllI w1 (w2.alloc (.cells #[v, .bool a0_1, .int .i64 0] 50)) w2.heap.size l0_0 a0_1 0) := Lib.hid ⟨ed_new hb2.size hS (Nat.le_refl _), below_alloc hb2 _⟩
    obtain ⟨A, cc, rfl⟩ := Kd.S_slice hS
    have HX : Hid (∀ W : World, Below w1.heap.size w1 W → (W.cell? ⟨w.heap.size + 1, 0, none⟩ = some (.int .i64 a1_0) ∧ W.cell? ⟨w.heap.size + 1, 1, none⟩ = some (.int .i64 a1_1) ∧ W.cell? ⟨w.heap.size + 1, 2, none⟩ = some (.int .i64 a1_2) ∧ W.cell? ⟨w.heap.size + 1, 3, none⟩ = some (.int .i64 a1_3) ∧ W.cell? ⟨w.heap.size + 1, 4, none⟩ = some (.string a1_4) ∧ W.cell? ⟨w.heap.size + 1, 5, none⟩ = some (.string a1_5)) ∧ W.cell? ⟨w.heap.size + 1, 6, none⟩ = some (.int .i64 a1_6) ∧ W.cell? ⟨w.heap.size + 1, 7, none⟩ = some (.string a1_7) ∧ W.cell? ⟨w.heap.size + 1, 8, none⟩ = some (.slice A1_8 n8 c1_8) ∧ W.cell? ⟨w.heap.size + 1, 9, none⟩ = some (.string a1_9) ∧ W.cell? ⟨w.heap.size + 1, 10, none⟩ = some (.int .i64 a1_10) ∧ W.cell? ⟨w.heap.size + 1, 11, none⟩ = some (.slice A1_11 n11 c1_11)) := Lib.hid (fun W h => by
      have hh := blk_below HEb.out h
      exact ⟨⟨(blk_cell hh 0).trans rfl, (blk_cell hh 1).trans rfl, (blk_cell hh 2).trans rfl, (blk_cell hh 3).trans rfl, (blk_cell hh 4).trans rfl, (blk_cell hh 5).trans rfl⟩, (blk_cell hh 6).trans rfl, (blk_cell hh 7).trans rfl, (blk_cell hh 8).trans rfl, (blk_cell hh 9).trans rfl, (blk_cell hh 10).trans rfl, (blk_cell hh 11).trans rfl⟩)
    obtain ⟨⟨z0, z1, z2, z3, z4, z5⟩, z6, z7, z8, z9, z10, z11⟩ := HX.out _ HI.out.below
    clear hS hb2 HO1 b0 b1 q0 q1 g0 g1
    go_wp2_with fail
    refine (HE1.out w1 _ w2.heap.size HW1.out HI.out.below HI.out.ed).mono ?_
    rintro e w3 ⟨rfl, hEd, hb3⟩
    have hres := blk_below HRes.out hb3
    have q0 := (blk_cell hres 0).trans rfl
    have q1 := (blk_cell hres 1).trans rfl
    have g0 := blk_frozen hres 0
    have g1 := blk_frozen hres 1
    have HB3 := Lib.hid hb3
    have HRes3 := Lib.hid hres
    clear hb3 hres HE1 HX z0 z1 z2 z3 z4 z5 z6 z7 z8 z9 z10 z11
    by_cases her : er = 0
    · subst her
      have hG := HG2.out
      rw [if_pos rfl] at hG
      injection hG with h
      injection h with ha h
      injection h with hb h
      injection h with hc hd
      subst ha hb hc hd
      obtain ⟨A', c', hbb, hbk, hS⟩ := ed_open (hEd rfl)
      have y0 := (blk_cell hbk 0).trans rfl
      have y1 := (blk_cell hbk 1).trans rfl
      have y2 := (blk_cell hbk 2).trans rfl
      have HS := Lib.hid hS
      have hne : w2.heap.size ≠ w.heap.size + 1 + 1 := by have := blk_lt HRes.out; omega
      clear hS HG2 hEd hbk
      go_upto_region 8 with fail
      go_region_held3 (fun W => W.cell? ⟨w2.heap.size, 0, none⟩ = some (.slice A' l'.length c') ∧ W.cell? ⟨w2.heap.size, 1, none⟩ = some (.bool a0_1) ∧ W.cell? ⟨w2.heap.size, 2, none⟩ = some (.int .i64 made')) (first | exact ⟨y0, y1, y2⟩ | exact ⟨(apply_far hne _ _).trans y0, (apply_far hne _ _).trans y1, (apply_far hne _ _).trans y2⟩) (fail)

      go_wp2_with fail
      refine bodyPost_ret (results_ctt rfl _ _ (w.heap.size + 2) 24 #[.slice A' l'.length c', .bool a0_1] (0, 0) _ rfl (blk_put (blk_put (cs' := #[.slice A' l'.length c', .bool false]) HRes3.out 0 _ rfl) 1 _ rfl) Tryd.underlying24 rfl (by kernel_rfl)) rfl ?_
      exact ⟨_, rfl, Kd.S_drew (Kd.S_set (Kd.S_set (Kd.S_lower HS.out hsz1) HRes3.out (by decide) 0 _) (blk_set HRes3.out 0 _) (by decide) 1 _), below_drew (((HW1.out.trans (HB3.out.mono hsz1)).setCell (by show w.heap.size ≤ w.heap.size + 1 + 1; omega) _).setCell (by show w.heap.size ≤ w.heap.size + 1 + 1; omega) _)⟩
    · have hG := HG2.out
      rw [if_neg her] at hG
      injection hG with h
      injection h with ha h
      injection h with hb h
      injection h with hc hd
      subst ha hb hc hd
      have herb : (er != 0) = true := by simpa using her
      clear HG2 hEd
      go_wp2_with fail
      refine bodyPost_ret (results_ctt rfl _ _ (w.heap.size + 2) 24 #[.slice none 0 0, .bool false] (0, 0) _ rfl (blk_put (blk_put (cs' := #[.slice none 0 0, .bool false]) HRes3.out 0 _ rfl) 1 _ rfl) Tryd.underlying24 rfl (by kernel_rfl)) rfl ?_
      exact ⟨_, rfl, Kd.S_nil _ _ _ _ _, ((HW1.out.trans (HB3.out.mono hsz1)).setCell (by show w.heap.size ≤ w.heap.size + 1 + 1; omega) _).setCell (by show w.heap.size ≤ w.heap.size + 1 + 1; omega) _⟩
  · have h := H.out
    rw [if_neg hc0] at h
    injection h with h
    injection h with ha h
    injection h with hb h
    injection h with hc hd
    subst ha hb hc hd
    have hcb : (c == 0) = false := by simpa using hc0
    have hcb2 : (c != 0) = true := by simpa using hc0
    go_wp2_with fail
    refine bodyPost_ret (results_ctt rfl _ _ (w.heap.size + 2) 24 #[.slice none 0 0, .bool false] (0, 0) _ rfl (blk_put (blk_put (cs' := #[.slice none 0 0, .bool false]) HRes.out 0 _ rfl) 1 _ rfl) Tryd.underlying24 rfl (by kernel_rfl)) rfl ?_
    exact ⟨_, rfl, Kd.S_nil _ _ _ _ _, (HW1.out.setCell (by show w.heap.size ≤ w.heap.size + 1 + 1; omega) _).setCell (by show w.heap.size ≤ w.heap.size + 1 + 1; omega) _⟩

/-! ### span_ranger_room: function 26 -/
def span_ranger_room.f (l0_0 : List (S37)) (a0_1 : Bool) (a1 : Int) : Option (Int) := if 0 ≤ a1 then (if a1 < (l0_0.length : Int) then (if ((rd_T37 l0_0 a1).f0) = 3 then (some (((rd_T37 l0_0 a1).f3).size : Int)) else (if ((rd_T37 l0_0 a1).f0) = 4 then (some (((rd_T37 l0_0 a1).f3).size : Int)) else (some (((rd_T37 l0_0 a1).f5).length : Int)))) else (none)) else (none)
set_option maxHeartbeats 8000000 in
set_option maxRecDepth 100000 in
theorem span_ranger_room.calls (A0_0 : Option Addr) (c0_0 : Nat) (l0_0 : List (S37)) (a0_1 : Bool) (a1 : Int) (r : Int) (w : World) (hr0_0 : Kd.C k37 w A0_0 l0_0.length l0_0) (hc0_0 : l0_0.length ≤ c0_0) (h : span_ranger_room.f l0_0 a0_1 a1 = some r) :
    Calls Tryd.prog 26 #[.agg #[.slice A0_0 l0_0.length c0_0, .bool a0_1], .int .i64 a1] w fun e w' => e = .returned (.int .i64 r) ∧ Below w.heap.size w w' := by
  have hu53 := Tryd.underlying53
  have hu37 := Tryd.underlying37
  have HR0_0 := Aside0.mk hr0_0
  have HC0_0 := Aside0.mk hc0_0
  clear hr0_0 hc0_0
  have HB := Aside0.mk (Below.refl w.heap.size w)
  have H : (if 0 ≤ a1 then (if a1 < (l0_0.length : Int) then (if ((rd_T37 l0_0 a1).f0) = 3 then (some (((rd_T37 l0_0 a1).f3).size : Int)) else (if ((rd_T37 l0_0 a1).f0) = 4 then (some (((rd_T37 l0_0 a1).f3).size : Int)) else (some (((rd_T37 l0_0 a1).f5).length : Int)))) else (none)) else (none)) = some r := h
  clear h
  by_cases c3 : 0 ≤ a1
  · rw [if_pos c3] at H
    have c3b0 : decide (0 ≤ a1) = true := decide_eq_true c3
    clear c3
    by_cases c4 : a1 < (l0_0.length : Int)
    · rw [if_pos c4] at H
      have c4b0 : decide (a1 < (l0_0.length : Int)) = true := decide_eq_true c4
      clear c4
      by_cases c5 : ((rd_T37 l0_0 a1).f0) = 3
      · rw [if_pos c5] at H
        have c5b0 : (((rd_T37 l0_0 a1).f0) == 3) = true := beq_iff_eq.mpr c5
        have c5b1 : (((rd_T37 l0_0 a1).f0) != 3) = false := bne_eq_false_iff_eq.mpr c5
        clear c5
        obtain rfl := Option.some.inj H
        go_enter Tryd.func26, Tryd.ntmps26
        go_wp2_with (first | ((with_reducible refine gate_dst (N := 2) rfl ?_); refine box_event rf_ (N := 2) rf_ (cs := #[.slice A0_0 l0_0.length c0_0, .bool a0_1]) (t := 53) gs_ ?_; intro gb163 hg w6 hbox hb; have BK163 := Aside0.mk hbox; have GW163 := Aside0.mk (gle_ (w := w) hg bl0_); replace HB := Aside0.mk (below_step bl0_ hb); have GE163 := GW163; clear hb hbox hg; obtain ⟨hcz7_0, hcz7_1, hfz7_0, hfz7_1⟩ := cf2_ BK163; have p164 : 0 ≤ (a1 : Int) := of_decide_eq_true as_; have q164 : a1 < (l0_0.length : Int) := of_decide_eq_true as_; obtain ⟨ad164, A164_2, c164_2, A164_5, c164_5, e164, hx164_0, hx164_1, hx164_2, hx164_3, hx164_4, hx164_5, hl164_2, hi164_2, hl164_5, hi164_5⟩ := at_T37 HR0_0.out a1 p164 q164; cases e164; replace hx164_0 := pw_cell_below HB.out hx164_0; replace hx164_1 := pw_cell_below HB.out hx164_1; replace hx164_2 := pw_cell_below HB.out hx164_2; replace hx164_3 := pw_cell_below HB.out hx164_3; replace hx164_4 := pw_cell_below HB.out hx164_4; replace hx164_5 := pw_cell_below HB.out hx164_5; have HR164_2 := Aside0.mk hi164_2; have HC164_2 := Aside0.mk hl164_2; clear hi164_2 hl164_2; have HR164_5 := Aside0.mk hi164_5; have HC164_5 := Aside0.mk hl164_5; clear hi164_5 hl164_5; replace p164 := eq_true p164; replace q164 := eq_true q164) | ((with_reducible refine gate_dst (N := 5) rfl ?_); refine box_event rf_ (N := 5) rf_ (cs := #[.int .i64 0, .string (⟨#[]⟩ : ByteArray), .slice none 0 0, .string (⟨#[]⟩ : ByteArray), .int .i64 0, .slice none 0 0]) (t := 37) gs_ ?_; intro gb165 hg w8 hbox hb; have n0_ := bb_ BK163 hb; have n1_ := Aside0.mk (below_step bl0_ hb); have n2_ := Aside0.mk hbox; have n3_ := Aside0.mk (gle_ (w := w) hg bl0_); have n4_ := n3_; have n5_ := nl_ hg BK163; have n6_ := ng_ hg BK163; clear BK163; clear HB; have BK163 := n0_; have HB := n1_; have BK165 := n2_; have GW165 := n3_; have GE165 := n4_; have NB163_165 := n5_; have NB165_163 := n6_; clear n0_ n1_ n2_ n3_ n4_ n5_ n6_; clear hb hbox hg; have hnb9 := NB165_163.out; have hnc9 := NB163_165.out; obtain ⟨hcz10_0, hcz10_1, hcz10_2, hcz10_3, hcz10_4, hcz10_5, hfz10_0, hfz10_1, hfz10_2, hfz10_3, hfz10_4, hfz10_5⟩ := cf6_ BK165))
        go_ret
        exact ⟨er_, bl0_⟩
      · rw [if_neg c5] at H
        have c5b0 : (((rd_T37 l0_0 a1).f0) == 3) = false := beq_eq_false_iff_ne.mpr c5
        have c5b1 : (((rd_T37 l0_0 a1).f0) != 3) = true := bne_iff_ne.mpr c5
        by_cases c11 : ((rd_T37 l0_0 a1).f0) = 4
        · rw [if_pos c11] at H
          have c11b0 : (((rd_T37 l0_0 a1).f0) == 4) = true := beq_iff_eq.mpr c11
          have c11b1 : (((rd_T37 l0_0 a1).f0) != 4) = false := bne_eq_false_iff_eq.mpr c11
          clear c11
          obtain rfl := Option.some.inj H
          go_enter Tryd.func26, Tryd.ntmps26
          go_wp2_with (first | ((with_reducible refine gate_dst (N := 2) rfl ?_); refine box_event rf_ (N := 2) rf_ (cs := #[.slice A0_0 l0_0.length c0_0, .bool a0_1]) (t := 53) gs_ ?_; intro gb163 hg w12 hbox hb; have BK163 := Aside0.mk hbox; have GW163 := Aside0.mk (gle_ (w := w) hg bl0_); replace HB := Aside0.mk (below_step bl0_ hb); have GE163 := GW163; clear hb hbox hg; obtain ⟨hcz13_0, hcz13_1, hfz13_0, hfz13_1⟩ := cf2_ BK163; have p164 : 0 ≤ (a1 : Int) := of_decide_eq_true as_; have q164 : a1 < (l0_0.length : Int) := of_decide_eq_true as_; obtain ⟨ad164, A164_2, c164_2, A164_5, c164_5, e164, hx164_0, hx164_1, hx164_2, hx164_3, hx164_4, hx164_5, hl164_2, hi164_2, hl164_5, hi164_5⟩ := at_T37 HR0_0.out a1 p164 q164; cases e164; replace hx164_0 := pw_cell_below HB.out hx164_0; replace hx164_1 := pw_cell_below HB.out hx164_1; replace hx164_2 := pw_cell_below HB.out hx164_2; replace hx164_3 := pw_cell_below HB.out hx164_3; replace hx164_4 := pw_cell_below HB.out hx164_4; replace hx164_5 := pw_cell_below HB.out hx164_5; have HR164_2 := Aside0.mk hi164_2; have HC164_2 := Aside0.mk hl164_2; clear hi164_2 hl164_2; have HR164_5 := Aside0.mk hi164_5; have HC164_5 := Aside0.mk hl164_5; clear hi164_5 hl164_5; replace p164 := eq_true p164; replace q164 := eq_true q164) | ((with_reducible refine gate_dst (N := 5) rfl ?_); refine box_event rf_ (N := 5) rf_ (cs := #[.int .i64 0, .string (⟨#[]⟩ : ByteArray), .slice none 0 0, .string (⟨#[]⟩ : ByteArray), .int .i64 0, .slice none 0 0]) (t := 37) gs_ ?_; intro gb165 hg w14 hbox hb; have n0_ := bb_ BK163 hb; have n1_ := Aside0.mk (below_step bl0_ hb); have n2_ := Aside0.mk hbox; have n3_ := Aside0.mk (gle_ (w := w) hg bl0_); have n4_ := n3_; have n5_ := nl_ hg BK163; have n6_ := ng_ hg BK163; clear BK163; clear HB; have BK163 := n0_; have HB := n1_; have BK165 := n2_; have GW165 := n3_; have GE165 := n4_; have NB163_165 := n5_; have NB165_163 := n6_; clear n0_ n1_ n2_ n3_ n4_ n5_ n6_; clear hb hbox hg; have hnb15 := NB165_163.out; have hnc15 := NB163_165.out; obtain ⟨hcz16_0, hcz16_1, hcz16_2, hcz16_3, hcz16_4, hcz16_5, hfz16_0, hfz16_1, hfz16_2, hfz16_3, hfz16_4, hfz16_5⟩ := cf6_ BK165))
          go_ret
          exact ⟨er_, bl0_⟩
        · rw [if_neg c11] at H
          have c11b0 : (((rd_T37 l0_0 a1).f0) == 4) = false := beq_eq_false_iff_ne.mpr c11
          have c11b1 : (((rd_T37 l0_0 a1).f0) != 4) = true := bne_iff_ne.mpr c11
          obtain rfl := Option.some.inj H
          go_enter Tryd.func26, Tryd.ntmps26
          go_wp2_with (first | ((with_reducible refine gate_dst (N := 2) rfl ?_); refine box_event rf_ (N := 2) rf_ (cs := #[.slice A0_0 l0_0.length c0_0, .bool a0_1]) (t := 53) gs_ ?_; intro gb163 hg w17 hbox hb; have BK163 := Aside0.mk hbox; have GW163 := Aside0.mk (gle_ (w := w) hg bl0_); replace HB := Aside0.mk (below_step bl0_ hb); have GE163 := GW163; clear hb hbox hg; obtain ⟨hcz18_0, hcz18_1, hfz18_0, hfz18_1⟩ := cf2_ BK163; have p164 : 0 ≤ (a1 : Int) := of_decide_eq_true as_; have q164 : a1 < (l0_0.length : Int) := of_decide_eq_true as_; obtain ⟨ad164, A164_2, c164_2, A164_5, c164_5, e164, hx164_0, hx164_1, hx164_2, hx164_3, hx164_4, hx164_5, hl164_2, hi164_2, hl164_5, hi164_5⟩ := at_T37 HR0_0.out a1 p164 q164; cases e164; replace hx164_0 := pw_cell_below HB.out hx164_0; replace hx164_1 := pw_cell_below HB.out hx164_1; replace hx164_2 := pw_cell_below HB.out hx164_2; replace hx164_3 := pw_cell_below HB.out hx164_3; replace hx164_4 := pw_cell_below HB.out hx164_4; replace hx164_5 := pw_cell_below HB.out hx164_5; have HR164_2 := Aside0.mk hi164_2; have HC164_2 := Aside0.mk hl164_2; clear hi164_2 hl164_2; have HR164_5 := Aside0.mk hi164_5; have HC164_5 := Aside0.mk hl164_5; clear hi164_5 hl164_5; replace p164 := eq_true p164; replace q164 := eq_true q164) | ((with_reducible refine gate_dst (N := 5) rfl ?_); refine box_event rf_ (N := 5) rf_ (cs := #[.int .i64 0, .string (⟨#[]⟩ : ByteArray), .slice none 0 0, .string (⟨#[]⟩ : ByteArray), .int .i64 0, .slice none 0 0]) (t := 37) gs_ ?_; intro gb165 hg w19 hbox hb; have n0_ := bb_ BK163 hb; have n1_ := Aside0.mk (below_step bl0_ hb); have n2_ := Aside0.mk hbox; have n3_ := Aside0.mk (gle_ (w := w) hg bl0_); have n4_ := n3_; have n5_ := nl_ hg BK163; have n6_ := ng_ hg BK163; clear BK163; clear HB; have BK163 := n0_; have HB := n1_; have BK165 := n2_; have GW165 := n3_; have GE165 := n4_; have NB163_165 := n5_; have NB165_163 := n6_; clear n0_ n1_ n2_ n3_ n4_ n5_ n6_; clear hb hbox hg; have hnb20 := NB165_163.out; have hnc20 := NB163_165.out; obtain ⟨hcz21_0, hcz21_1, hcz21_2, hcz21_3, hcz21_4, hcz21_5, hfz21_0, hfz21_1, hfz21_2, hfz21_3, hfz21_4, hfz21_5⟩ := cf6_ BK165))
          go_ret
          exact ⟨er_, bl0_⟩
    · rw [if_neg c4] at H
      exact absurd H (by simp)
  · rw [if_neg c3] at H
    exact absurd H (by simp)

/-! ### slices_Reverse_int_int: function 53 -/
def slices_Reverse_int_int.l0 : Nat → List Int → Int → Int → Option (List Int)
  | 0, _, _, _ => none
  | k + 1, x0, x2, x3 => if x2 < x3 then (if 0 ≤ x3 then (if x3 < (x0.length : Int) then (if 0 ≤ x2 then (if x2 < (x0.length : Int) then (slices_Reverse_int_int.l0 k ((x0.set (x2 : Int).toNat (rd x0 x3)).set (x3 : Int).toNat (rd x0 x2)) (wrap64 (x2 + 1)) (wrap64 (x3 - 1))) else (none)) else (none)) else (none)) else (none)) else (some x0)
def slices_Reverse_int_int.f (k : Nat) (l0 : List Int) : Option (List Int) := slices_Reverse_int_int.l0 k l0 0 (wrap64 ((l0.length : Int) - 1))
theorem slices_Reverse_int_int.mono_l : ∀ k, (∀ y0 y1 y2, LeO (slices_Reverse_int_int.l0 k y0 y1 y2) (slices_Reverse_int_int.l0 (k + 1) y0 y1 y2))
  | 0 => fun _ _ _ r h => by simp [slices_Reverse_int_int.l0] at h
  | k + 1 => by
    have ih0 := slices_Reverse_int_int.mono_l k
    · intro y0 y1 y2
      unfold slices_Reverse_int_int.l0
      repeat' first
      | (with_reducible exact ih0 _ _ _)
      | (with_reducible exact LeO.refl _)
      | (with_reducible exact LeO.none _)
      | (with_reducible refine LeO.ite ?_ ?_)
      | (with_reducible refine LeO.bind ?_ (fun _ => ?_))
      | exact ih0 _ _ _
      | exact LeO.none _
      | refine LeO.ite ?_ ?_
      | refine LeO.bind ?_ (fun _ => ?_)
theorem slices_Reverse_int_int.mono : ∀ a0 k, LeO (slices_Reverse_int_int.f k a0) (slices_Reverse_int_int.f (k + 1) a0) := by
  intro a0 k
  have ih0 := slices_Reverse_int_int.mono_l k
  unfold slices_Reverse_int_int.f
  repeat' first
      | (with_reducible exact ih0 _ _ _)
      | (with_reducible exact LeO.refl _)
      | (with_reducible exact LeO.none _)
      | (with_reducible refine LeO.ite ?_ ?_)
      | (with_reducible refine LeO.bind ?_ (fun _ => ?_))
      | exact ih0 _ _ _
      | exact LeO.none _
      | refine LeO.ite ?_ ?_
      | refine LeO.bind ?_ (fun _ => ?_)
def slices_Reverse_int_int.T3 : Bool × List (List Nat × List Nat) := (true, [([], []), ([], []), ([], []), ([], []), ([], []), ([], []), ([4, 5], [4, 5]), ([6], [6]), ([], []), ([], []), ([8, 9], [8, 9]), ([10], [10]), ([0, 1, 0, 1, 4, 5, 6, 7, 11], [0, 1]), ([12, 7, 0, 1, 4, 5, 6, 7, 11], [7, 12]), ([2, 3, 0, 1, 2, 3, 4, 5, 6, 7, 8, 9, 10, 11, 12, 13], [2, 3]), ([14, 11, 13, 0, 1, 2, 3, 4, 5, 6, 7, 8, 9, 10, 11, 12, 13], [11, 14])])
def slices_Reverse_int_int.B3 : List Nat := [0, 0, 0, 0, 0, 0, 48, 112, 0, 0, 768, 1792, 4083, 8179, 16383, 32767]
theorem slices_Reverse_int_int.tab3 : rtab .any (opsOf Tryd.f53 3) = slices_Reverse_int_int.T3 := by kernel_rfl
theorem slices_Reverse_int_int.bits3 : waitsOk slices_Reverse_int_int.T3.2 slices_Reverse_int_int.B3 = true := by kernel_rfl
set_option maxHeartbeats 8000000 in
set_option maxRecDepth 100000 in
theorem slices_Reverse_int_int.calls (k : Nat) (P0_ : Nat → Prop) (u9000_ : Value) (l0 : List Int) (r : List Int) (w0 w : World) (hB : Below w0.heap.size w0 w) (ho0 : Kd.R (Kd.int .i64) 3 w w0.heap.size P0_ u9000_ l0) (h : slices_Reverse_int_int.f k l0 = some r) :
    Calls Tryd.prog 53 #[u9000_] w fun e w' => e = .returned (.tuple #[]) ∧ Kd.R (Kd.int .i64) 3 w' w0.heap.size (fun k_ => (P0_ k_ ∨ w.heap.size ≤ k_)) u9000_ r ∧ Below w0.heap.size w0 w' ∧ Kept w w' (fun k_ => P0_ k_) := by
  have HO0 := Aside0.mk (show Kd.R (Kd.int .i64) 3 w w0.heap.size (fun k_ => (P0_ k_ ∨ w.heap.size ≤ k_)) u9000_ l0 from Kd.R_mono ho0 (fun k_ hk => (.inl hk)))
  have HK := Aside0.mk (Kept.refl w (fun k_ => P0_ k_))
  have HW0 := Aside0.mk hB.size
  have HB := Aside0.mk hB
  clear hB
  have H : (slices_Reverse_int_int.l0 k l0 0 (wrap64 ((l0.length : Int) - 1))) = some r := h
  clear h
  have H' := Aside0.mk H
  clear H
  obtain ⟨Ao2, co2, eo2⟩ := Kd.R_slice HO0.out
  subst eo2
  go_enter Tryd.func53, Tryd.ntmps53
  go_wp2
  go_loopg [2, 3] k (fun kq v2 v3 w' => ∃ (x0_1 : List Int) (x2_1 : Int) (x3_1 : Int), v2 = .int .i64 x2_1 ∧ v3 = .int .i64 x3_1 ∧ Aside0 (slices_Reverse_int_int.l0 kq x0_1 x2_1 x3_1 = some r) ∧ Aside0 (kq ≤ k) ∧ Aside0 (Kd.R (Kd.int .i64) 3 w' w0.heap.size (fun k_ => (P0_ k_ ∨ w.heap.size ≤ k_)) (.slice Ao2 l0.length co2) x0_1) ∧ Aside0 (Kept w w' (fun k_ => P0_ k_)) ∧ Aside0 (Below w0.heap.size w0 w'))
  case atStart => exact ⟨(l0), (0), (wrap64 ((l0.length : Int) - 1)), rs_, rs_, H', ⟨Nat.le_refl _⟩, ⟨by (with_reducible repeat (first | apply Kd.R_alloc | apply Kd.R_drewN | apply Kd.R_drew)); exact HO0.out⟩, ⟨by repeat (first | (with_reducible first | exact HK.out | apply Kept.alloc | apply Kept.drewN | apply Kept.drew) | exact HK.out)⟩, ⟨bl0_⟩⟩
  case round =>
    clear H'
    obtain ⟨x0_1, x2_1, x3_1, rfl, rfl, HA, HK1, HO_0, HK, HB⟩ := hrel
    have hl0_1 := (Kd.R_reads' HO_0.out).1
    rw [hl0_1] at HO_0
    (try simp only [hl0_1])
    cases gk with
    | zero => exact absurd HA.out (by simp [slices_Reverse_int_int.l0])
    | succ k1 =>
      have H := HA.out
      clear HA
      simp only [slices_Reverse_int_int.l0] at H
      by_cases c3 : x2_1 < x3_1
      · rw [if_pos c3] at H
        have c3b0 : decide (x2_1 < x3_1) = true := decide_eq_true c3
        clear c3
        by_cases c4 : 0 ≤ x3_1
        · rw [if_pos c4] at H
          have c4b0 : decide (0 ≤ x3_1) = true := decide_eq_true c4
          clear c4
          by_cases c5 : x3_1 < (x0_1.length : Int)
          · rw [if_pos c5] at H
            have c5b0 : decide (x3_1 < (x0_1.length : Int)) = true := decide_eq_true c5
            clear c5
            by_cases c6 : 0 ≤ x2_1
            · rw [if_pos c6] at H
              have c6b0 : decide (0 ≤ x2_1) = true := decide_eq_true c6
              clear c6
              by_cases c7 : x2_1 < (x0_1.length : Int)
              · rw [if_pos c7] at H
                have c7b0 : decide (x2_1 < (x0_1.length : Int)) = true := decide_eq_true c7
                clear c7
                obtain ⟨y168, hy168⟩ : ∃ y_ : List Int, y_ = (x0_1.set (x2_1 : Int).toNat (rd x0_1 x3_1)) := ⟨_, rfl⟩
                replace H : (slices_Reverse_int_int.l0 k1 (y168.set (x3_1 : Int).toNat (rd x0_1 x2_1)) (wrap64 (x2_1 + 1)) (wrap64 (x3_1 - 1))) = some r := by first | (rw [hy168]; with_reducible exact H) | (have H2_ := (Option.bind_some _ _).symm.trans H; rw [hy168]; with_reducible exact H2_) | (have H2_ := (Option.bind_some _ _).symm.trans H; with_reducible exact H2_) | with_reducible exact H | (rw [hy168]; exact H) | exact H
                have Ny168 := Aside0.mk hy168
                clear hy168
                obtain ⟨y169, hy169⟩ : ∃ y_ : List Int, y_ = (y168.set (x3_1 : Int).toNat (rd x0_1 x2_1)) := ⟨_, rfl⟩
                replace H : (slices_Reverse_int_int.l0 k1 y169 (wrap64 (x2_1 + 1)) (wrap64 (x3_1 - 1))) = some r := by first | (rw [hy169]; with_reducible exact H) | (have H2_ := (Option.bind_some _ _).symm.trans H; rw [hy169]; with_reducible exact H2_) | (have H2_ := (Option.bind_some _ _).symm.trans H; with_reducible exact H2_) | with_reducible exact H | (rw [hy169]; exact H) | exact H
                have Ny169 := Aside0.mk hy169
                clear hy169
                have H' := Aside0.mk H
                clear H
                try go_wp2
                have n0_ := Aside0.mk (Kd.R_drew HO_0.out)
                have n1_ := Aside0.mk (Kept.drew HK.out)
                have n2_ := Aside0.mk (below_drew1 HB.out)
                clear HO_0
                clear HK
                clear HB
                have HO_0 := n0_
                have HK := n1_
                have HB := n2_
                clear n0_ n1_ n2_
                have p166 : 0 ≤ (x3_1 : Int) := of_decide_eq_true as_
                have q166 : x3_1 < (x0_1.length : Int) := of_decide_eq_true as_
                obtain ⟨ad166, e166, hx166_0⟩ := Kd.at_int (Kd.R_reads' HO_0.out).2.2 x3_1 p166 q166
                cases e166
                replace p166 := eq_true p166
                replace q166 := eq_true q166
                have p167 : 0 ≤ (x2_1 : Int) := of_decide_eq_true as_
                have q167 : x2_1 < (x0_1.length : Int) := of_decide_eq_true as_
                obtain ⟨ad167, e167, hx167_0⟩ := Kd.at_int (Kd.R_reads' HO_0.out).2.2 x2_1 p167 q167
                obtain rfl : ad166 = ad167 := (by injection e167)
                replace p167 := eq_true p167
                replace q167 := eq_true q167
                have p8 : 0 ≤ (x2_1 : Int) := of_decide_eq_true as_
                have q8 : (x2_1 : Int) < ((x0_1.length : Int) : Int) := of_decide_eq_true as_
                obtain ⟨go8, co8, eo8, gb8, gl8, cl8, HG8⟩ := Kd.R_form HO_0.out (by omega)
                (first | cases eo8 | (injection eo8 with ea_ en_ ec_; (first | subst ea_ | (injection ea_ with ea_; subst ea_)); subst ec_; clear en_))
                have GB8 := Aside0.mk gb8
                have GG8 := Aside0.mk HG8
                clear gb8 gl8 HG8
                have HMgo8 := Aside0.mk (show (P0_ go8 ∨ w.heap.size ≤ go8) from (HO_0.out.1 _ rfl))
                (first | simp only [add_plain] at hx166_0 | skip)
                (first | simp only [add_plain] at hx167_0 | skip)
                obtain ⟨hx8_0, hf8_0⟩ := Kd.R_celln 0 HO_0.out (x2_1 : Int) p8 q8
                replace p8 := eq_true p8
                replace q8 := eq_true q8
                have HP11 := Kd.R_putn HO_0.out (x2_1 : Int) (rd x0_1 x3_1)
                rw [← Ny168.out] at HP11
                have HQ11 := Aside0.mk HP11
                clear HP11
                have p9 : 0 ≤ (x3_1 : Int) := of_decide_eq_true as_
                have q9 : (x3_1 : Int) < ((x0_1.length : Int) : Int) := of_decide_eq_true as_
                obtain ⟨hx9_0, hf9_0⟩ := Kd.R_celln 0 HQ11.out (x3_1 : Int) p9 q9
                replace p9 := eq_true p9
                replace q9 := eq_true q9
                have HP12 := Kd.R_putn HQ11.out (x3_1 : Int) (rd x0_1 x2_1)
                rw [← Ny169.out] at HP12
                have HQ12 := Aside0.mk HP12
                clear HP12
                refine start_ (n := 16) (S := fun w' => w'.cell? ⟨go8, (x3_1).toNat, none⟩ = some (.int .i64 (rd x0_1 x3_1)) ∧ w'.cell? ⟨go8, (x2_1).toNat, none⟩ = some (.int .i64 (rd x0_1 x2_1))) (ds := [13, 15]) #[false, false, false, false, false, false, false, false, false, false, false, false, false, false, false, false] (by kernel_rfl) rfl rfl ⟨hx166_0, hx167_0⟩ (fun hHeld => ?_); refine with_tabW slices_Reverse_int_int.tab3 slices_Reverse_int_int.bits3 (fun HT_ HW_ => ?_)
                generalize wr.drew = w10 at HO_0 HK HB GG8 HQ11 HQ12 hf8_0 hf9_0 hx166_0 hx167_0 hx8_0 hx9_0 hHeld ⊢
                refine pure_ (i := 0) (N := some 14) (v := ?_) (a' := ?_) #[true, false, false, false, false, false, false, false, false, false, false, false, false, false, false, false] rfl rfl (any_of HT_.out (by kernel_rfl)) (fun _ _ _ h => h) (Or.inl ⟨by rfl, ?_⟩) ?_ ?_
                rotate_left
                · intro w'
                  go_simp
                  with_reducible rfl
                rotate_left
                · simp only [Act.put, List.setIfInBounds_toArray, List.set_cons_zero, List.set_cons_succ, i64_w, i32_w]
                  rfl
                refine pure_ (i := 1) (N := some 15) (v := ?_) (a' := ?_) #[true, true, false, false, false, false, false, false, false, false, false, false, false, false, false, false] rfl rfl (any_of HT_.out (by kernel_rfl)) (fun _ _ _ h => h) (Or.inl ⟨by rfl, ?_⟩) ?_ ?_
                rotate_left
                · intro w'
                  go_simp
                  with_reducible rfl
                rotate_left
                · simp only [Act.put, List.setIfInBounds_toArray, List.set_cons_zero, List.set_cons_succ, i64_w, i32_w]
                  rfl
                refine pure_ (i := 2) (N := some 16) (v := ?_) (a' := ?_) #[true, true, true, false, false, false, false, false, false, false, false, false, false, false, false, false] rfl rfl (any_of HT_.out (by kernel_rfl)) (fun _ _ _ h => h) (Or.inl ⟨by rfl, ?_⟩) ?_ ?_
                rotate_left
                · intro w'
                  go_simp
                  with_reducible rfl
                rotate_left
                · simp only [Act.put, List.setIfInBounds_toArray, List.set_cons_zero, List.set_cons_succ, i64_w, i32_w]
                  rfl
                refine pure_ (i := 3) (N := some 17) (v := ?_) (a' := ?_) #[true, true, true, true, false, false, false, false, false, false, false, false, false, false, false, false] rfl rfl (any_of HT_.out (by kernel_rfl)) (fun _ _ _ h => h) (Or.inl ⟨by rfl, ?_⟩) ?_ ?_
                rotate_left
                · intro w'
                  go_simp
                  with_reducible rfl
                rotate_left
                · simp only [Act.put, List.setIfInBounds_toArray, List.set_cons_zero, List.set_cons_succ, i64_w, i32_w]
                  rfl
                refine pure_ (i := 4) (N := some 18) (v := ?_) (a' := ?_) #[true, true, true, true, true, false, false, false, false, false, false, false, false, false, false, false] rfl rfl (any_of HT_.out (by kernel_rfl)) (fun _ _ _ h => h) (Or.inl ⟨by rfl, ?_⟩) ?_ ?_
                rotate_left
                · intro w'
                  go_simp
                  with_reducible rfl
                rotate_left
                · simp only [Act.put, List.setIfInBounds_toArray, List.set_cons_zero, List.set_cons_succ, i64_w, i32_w]
                  rfl
                refine pure_ (i := 5) (N := some 19) (v := ?_) (a' := ?_) #[true, true, true, true, true, true, false, false, false, false, false, false, false, false, false, false] rfl rfl (any_of HT_.out (by kernel_rfl)) (fun _ _ _ h => h) (Or.inl ⟨by rfl, ?_⟩) ?_ ?_
                rotate_left
                · intro w'
                  go_simp
                  with_reducible rfl
                rotate_left
                · simp only [Act.put, List.setIfInBounds_toArray, List.set_cons_zero, List.set_cons_succ, i64_w, i32_w]
                  rfl
                refine pure_ (i := 6) (N := some 20) (v := ?_) (a' := ?_) #[true, true, true, true, true, true, true, false, false, false, false, false, false, false, false, false] rfl rfl (any_of HT_.out (by kernel_rfl)) (fun _ _ _ h => h) (Or.inl ⟨by rfl, ?_⟩) ?_ ?_
                rotate_left
                · intro w'
                  go_simp
                  with_reducible rfl
                rotate_left
                · simp only [Act.put, List.setIfInBounds_toArray, List.set_cons_zero, List.set_cons_succ, i64_w, i32_w]
                  rfl
                refine pure_ (i := 8) (N := some 22) (v := ?_) (a' := ?_) #[true, true, true, true, true, true, true, false, true, false, false, false, false, false, false, false] rfl rfl (any_of HT_.out (by kernel_rfl)) (fun _ _ _ h => h) (Or.inl ⟨by rfl, ?_⟩) ?_ ?_
                rotate_left
                · intro w'
                  go_simp
                  with_reducible rfl
                rotate_left
                · simp only [Act.put, List.setIfInBounds_toArray, List.set_cons_zero, List.set_cons_succ, i64_w, i32_w]
                  rfl
                refine pure_ (i := 9) (N := some 23) (v := ?_) (a' := ?_) #[true, true, true, true, true, true, true, false, true, true, false, false, false, false, false, false] rfl rfl (any_of HT_.out (by kernel_rfl)) (fun _ _ _ h => h) (Or.inl ⟨by rfl, ?_⟩) ?_ ?_
                rotate_left
                · intro w'
                  go_simp
                  with_reducible rfl
                rotate_left
                · simp only [Act.put, List.setIfInBounds_toArray, List.set_cons_zero, List.set_cons_succ, i64_w, i32_w]
                  rfl
                refine pure_ (i := 10) (N := some 24) (v := ?_) (a' := ?_) #[true, true, true, true, true, true, true, false, true, true, true, false, false, false, false, false] rfl rfl (any_of HT_.out (by kernel_rfl)) (fun _ _ _ h => h) (Or.inl ⟨by rfl, ?_⟩) ?_ ?_
                rotate_left
                · intro w'
                  go_simp
                  with_reducible rfl
                rotate_left
                · simp only [Act.put, List.setIfInBounds_toArray, List.set_cons_zero, List.set_cons_succ, i64_w, i32_w]
                  rfl
                refine take_ (i := 7) (N := some 21) (v := ?_) (a' := ?_) #[true, true, true, true, true, true, true, true, true, true, true, false, false, false, false, false] rfl rfl (take_ofW HT_.out HW_.out (by kernel_rfl)) (fun _ _ _ h => h) (Or.inl ⟨by rfl, ?_⟩) hHeld ?_ ?_
                rotate_left
                · rintro w' ⟨s0, s1⟩
                  go_simp
                  with_reducible rfl
                rotate_left
                · simp only [Act.put, List.setIfInBounds_toArray, List.set_cons_zero, List.set_cons_succ, i64_w, i32_w]
                  rfl
                refine take_ (i := 11) (N := some 25) (v := ?_) (a' := ?_) #[true, true, true, true, true, true, true, true, true, true, true, true, false, false, false, false] rfl rfl (take_ofW HT_.out HW_.out (by kernel_rfl)) (fun _ _ _ h => h) (Or.inl ⟨by rfl, ?_⟩) hHeld ?_ ?_
                rotate_left
                · rintro w' ⟨s0, s1⟩
                  go_simp
                  with_reducible rfl
                rotate_left
                · simp only [Act.put, List.setIfInBounds_toArray, List.set_cons_zero, List.set_cons_succ, i64_w, i32_w]
                  rfl
                refine pure_ (i := 12) (N := some 26) (v := ?_) (a' := ?_) #[true, true, true, true, true, true, true, true, true, true, true, true, true, false, false, false] rfl rfl (any_of HT_.out (by kernel_rfl)) (fun _ _ _ h => h) (Or.inl ⟨by rfl, ?_⟩) ?_ ?_
                rotate_left
                · intro w'
                  go_simp
                  with_reducible rfl
                rotate_left
                · simp only [Act.put, List.setIfInBounds_toArray, List.set_cons_zero, List.set_cons_succ, i64_w, i32_w]
                  rfl
                refine last_ (i := 13) (N := none) #[true, true, true, true, true, true, true, true, true, true, true, true, true, true, false, false] rfl rfl (one_of HT_.out (by kernel_rfl)) (by decide) (fun K hK => ?_)
                refine skip_ (w1 := ?_) (by rfl) rfl ?_ ?_
                rotate_left
                · go_simp
                  rfl
                refine hK.out _ _ ?_
                clear hK K
                refine pure_ (i := 14) (N := some 27) (v := ?_) (a' := ?_) #[true, true, true, true, true, true, true, true, true, true, true, true, true, true, true, false] rfl rfl (any_of HT_.out (by kernel_rfl)) (fun _ _ _ h => h) (Or.inl ⟨by rfl, ?_⟩) ?_ ?_
                rotate_left
                · intro w'
                  go_simp
                  with_reducible rfl
                rotate_left
                · simp only [Act.put, List.setIfInBounds_toArray, List.set_cons_zero, List.set_cons_succ, i64_w, i32_w]
                  rfl
                refine last_ (i := 15) (N := none) #[true, true, true, true, true, true, true, true, true, true, true, true, true, true, true, true] rfl rfl (one_of HT_.out (by kernel_rfl)) (by decide) (fun K hK => ?_)
                refine skip_ (w1 := ?_) (by rfl) rfl ?_ ?_
                rotate_left
                · go_simp
                  rfl
                refine hK.out _ _ ?_
                clear hK K
                refine done_ (done_of HT_.out (by kernel_rfl)) ?_
                try go_wp2
                (try simp only [← hl0_1])
                go_roundg k1
                case measure => have := HK1.out; omega
                case rel => exact ⟨(y169), (wrap64 (x2_1 + 1)), (wrap64 (x3_1 - 1)), rs_, rs_, H', ⟨by have := HK1.out; omega⟩, ⟨by (try simp only [hl0_1]); (with_reducible repeat (first | apply Kd.R_alloc | apply Kd.R_drewN | apply Kd.R_drew)); exact HQ12.out⟩, ⟨by repeat (first | (with_reducible first | exact HK.out | apply Kept.alloc | apply Kept.drewN | apply Kept.drew | refine Kept.setCell ?_ HMgo8.out _ | refine Kept.setCell ?_ HMgo8.out _) | exact HK.out)⟩, ⟨by repeat (first | (with_reducible first | exact HB.out | apply below_alloc | apply pw_below_drewN | apply below_drew1 | refine below_set ?_ GB8.out | refine below_set ?_ GB8.out) | exact HB.out)⟩⟩
              · rw [if_neg c7] at H
                exact absurd H (by simp)
            · rw [if_neg c6] at H
              exact absurd H (by simp)
          · rw [if_neg c5] at H
            exact absurd H (by simp)
        · rw [if_neg c4] at H
          exact absurd H (by simp)
      · rw [if_neg c3] at H
        have c3b0 : decide (x2_1 < x3_1) = false := decide_eq_false c3
        clear c3
        obtain rfl := Option.some.inj H
        go_wp2
        first | go_end0 | ((try simp only [Exit.inBlock, Exit.then]); refine bodyPost_ret (results_none rfl _ _ _) rfl ?_)
        exact ⟨er_, (by first | exact (Kd.R_below HO_0.out bu_) | (simp only [hl0_1]; exact (Kd.R_below HO_0.out bu_))), bl0_, by repeat (first | (with_reducible first | exact HK.out | apply Kept.alloc | apply Kept.drewN | apply Kept.drew) | exact HK.out)⟩

theorem rev_l0_len : ∀ (k : Nat) (x : List Int) (i j : Int) (r : List Int), slices_Reverse_int_int.l0 k x i j = some r → r.length = x.length
  | 0, _, _, _, _, h => by simp [slices_Reverse_int_int.l0] at h
  | k + 1, x, i, j, r, h => by
    simp only [slices_Reverse_int_int.l0] at h
    repeat' split at h
    all_goals first
      | (obtain rfl := Option.some.inj h; rfl)
      | (have := rev_l0_len k _ _ _ _ h; simpa using this)
      | (cases h; done)
theorem rev_ne {k : Nat} {x r : List Int} (h : slices_Reverse_int_int.f k x = some r) (hx : x ≠ []) : r ≠ [] := by
  have := rev_l0_len k x _ _ r h
  intro he
  rw [he] at this
  exact hx (List.eq_nil_of_length_eq_zero this.symm)
/-! ### span_ranger_path: function 40 -/
def span_ranger_path.l0 : Nat → List Int → Int → List (S37) → Bool → Option (List Int)
  | 0, _, _, _, _ => none
  | k + 1, x5, x6, x171000, x171001 => if x6 > 0 then (if 0 ≤ x6 then (if x6 < (x171000.length : Int) then (if ((rd_T37 x171000 x6).f4) < 0 then (some ([] : List Int)) else (if 0 ≤ ((rd_T37 x171000 x6).f4) then (if ((rd_T37 x171000 x6).f4) < (x171000.length : Int) then ((slices_Index_int_int.f k ((rd_T37 x171000 ((rd_T37 x171000 x6).f4)).f5) x6).bind fun t177 => (if x5.length < 17592186044416 then (span_ranger_path.l0 k (x5 ++ [wrap64 ((wrap64 (2 * t177)) + 1)]) ((rd_T37 x171000 x6).f4) x171000 x171001) else (none))) else (none)) else (none))) else (none)) else (none)) else ((slices_Reverse_int_int.f k x5).bind fun t182 => (some t182))
def span_ranger_path.f (k : Nat) (l0_0 : List (S37)) (a0_1 : Bool) (a1_0 : Int) (a1_1 : Int) : Option (List Int) := span_ranger_path.l0 k (([wrap64 (2 * a1_1)] : List Int)) a1_0 l0_0 a0_1
theorem span_ranger_path.mono_l : ∀ k, (∀ y0 y1 y2 y3, LeO (span_ranger_path.l0 k y0 y1 y2 y3) (span_ranger_path.l0 (k + 1) y0 y1 y2 y3))
  | 0 => fun _ _ _ _ r h => by simp [span_ranger_path.l0] at h
  | k + 1 => by
    have ih0 := span_ranger_path.mono_l k
    · intro y0 y1 y2 y3
      unfold span_ranger_path.l0
      repeat' first
      | (with_reducible exact ih0 _ _ _ _)
      | (with_reducible exact slices_Index_int_int.mono _ _ _)
      | (with_reducible exact slices_Reverse_int_int.mono _ _)
      | (with_reducible exact LeO.refl _)
      | (with_reducible exact LeO.none _)
      | (with_reducible refine LeO.ite ?_ ?_)
      | (with_reducible refine LeO.bind ?_ (fun _ => ?_))
      | exact ih0 _ _ _ _
      | exact slices_Index_int_int.mono _ _ _
      | exact slices_Reverse_int_int.mono _ _
      | exact LeO.none _
      | refine LeO.ite ?_ ?_
      | refine LeO.bind ?_ (fun _ => ?_)
theorem span_ranger_path.mono : ∀ a0 a1 a2 a3 k, LeO (span_ranger_path.f k a0 a1 a2 a3) (span_ranger_path.f (k + 1) a0 a1 a2 a3) := by
  intro a0 a1 a2 a3 k
  have ih0 := span_ranger_path.mono_l k
  unfold span_ranger_path.f
  repeat' first
      | (with_reducible exact ih0 _ _ _ _)
      | (with_reducible exact slices_Index_int_int.mono _ _ _)
      | (with_reducible exact slices_Reverse_int_int.mono _ _)
      | (with_reducible exact LeO.refl _)
      | (with_reducible exact LeO.none _)
      | (with_reducible refine LeO.ite ?_ ?_)
      | (with_reducible refine LeO.bind ?_ (fun _ => ?_))
      | exact ih0 _ _ _ _
      | exact slices_Index_int_int.mono _ _ _
      | exact slices_Reverse_int_int.mono _ _
      | exact LeO.none _
      | refine LeO.ite ?_ ?_
      | refine LeO.bind ?_ (fun _ => ?_)
set_option maxHeartbeats 8000000 in
set_option maxRecDepth 100000 in
theorem span_ranger_path.calls2 (k : Nat) (A0_0 : Option Addr) (c0_0 : Nat) (l0_0 : List (S37)) (a0_1 : Bool) (a1_0 : Int) (a1_1 : Int) (r : List Int) (w : World) (hr0_0 : Kd.C k37 w A0_0 l0_0.length l0_0) (hc0_0 : l0_0.length ≤ c0_0) (h : span_ranger_path.f k l0_0 a0_1 a1_0 a1_1 = some r) :
    Calls Tryd.prog 40 #[.agg #[.slice A0_0 l0_0.length c0_0, .bool a0_1], .agg #[.int .i64 a1_0, .int .i64 a1_1]] w fun e w' => ∃ v0_ : Value, e = .returned (v0_) ∧ Kd.R (Kd.int .i64) 3 w' w.heap.size (fun _ => True) v0_ r ∧ Below w.heap.size w w' ∧ (r ≠ [] ∨ v0_ = .slice none 0 0) := by
  have hu53 := Tryd.underlying53
  have hu27 := Tryd.underlying27
  have HR0_0 := Aside0.mk hr0_0
  have HC0_0 := Aside0.mk hc0_0
  clear hr0_0 hc0_0
  have HB := Aside0.mk (Below.refl w.heap.size w)
  have H : (span_ranger_path.l0 k (([wrap64 (2 * a1_1)] : List Int)) a1_0 l0_0 a0_1) = some r := h
  clear h
  obtain ⟨y172, hy172⟩ : ∃ y_ : List Int, y_ = (([wrap64 (2 * a1_1)] : List Int)) := ⟨_, rfl⟩
  replace H : (span_ranger_path.l0 k y172 a1_0 l0_0 a0_1) = some r := by first | (rw [hy172]; with_reducible exact H) | (have H2_ := (Option.bind_some _ _).symm.trans H; rw [hy172]; with_reducible exact H2_) | (have H2_ := (Option.bind_some _ _).symm.trans H; with_reducible exact H2_) | with_reducible exact H | (rw [hy172]; exact H) | exact H
  have Ny172 := Aside0.mk hy172
  clear hy172
  have H' := Aside0.mk H
  clear H
  go_enter Tryd.func40, Tryd.ntmps40
  go_wp2_with (first | ((with_reducible refine gate_dst (N := 2) rfl ?_); refine box_event rf_ (N := 2) rf_ (cs := #[.slice A0_0 l0_0.length c0_0, .bool a0_1]) (t := 53) gs_ ?_; intro gb170 hg w3 hbox hb; have BK170 := Aside0.mk hbox; have GW170 := Aside0.mk (gle_ (w := w) hg bl0_); replace HB := Aside0.mk (below_step bl0_ hb); have GE170 := GW170; clear hb hbox hg) | ((with_reducible refine gate_dst (N := 3) rfl ?_); refine box_event rf_ (N := 3) rf_ (cs := #[.int .i64 a1_0, .int .i64 a1_1]) (t := 27) gs_ ?_; intro gb171 hg w4 hbox hb; have n0_ := bb_ BK170 hb; have n1_ := Aside0.mk (below_step bl0_ hb); have n2_ := Aside0.mk hbox; have n3_ := Aside0.mk (gle_ (w := w) hg bl0_); have n4_ := n3_; have n5_ := nl_ hg BK170; have n6_ := ng_ hg BK170; clear BK170; clear HB; have BK170 := n0_; have HB := n1_; have BK171 := n2_; have GW171 := n3_; have GE171 := n4_; have NB170_171 := n5_; have NB171_170 := n6_; clear n0_ n1_ n2_ n3_ n4_ n5_ n6_; clear hb hbox hg; have hnb5 := NB171_170.out; have hnc5 := NB170_171.out; obtain ⟨hcz6_0, hcz6_1, hfz6_0, hfz6_1⟩ := cf2_ BK171) | ((with_reducible refine gate_dst (N := 11) rfl ?_); refine Kd.R_lit (Kd.int .i64) _ 3 rf_ (N := 11) rf_ (xs := ([wrap64 (2 * a1_1)] : List Int)) (inner := [.int .i64 (wrap64 (2 * a1_1))]) (ok := fun _ => True) (okp := fun _ => True) gs_ ?hp (fun _ hk => hk) trivial (Below.refl _ _) (Nat.le_refl _) (by simp) ?_; (case hp => exact (Reps.one (show Kd.M (Kd.int .i64) _ _ _ (wrap64 (2 * a1_1)) [.int .i64 (wrap64 (2 * a1_1))] from rfl) (Reps.none _ _))); intro v173 w7 ho8 hb hg_ hnew_; clear hg_ hnew_; (first | rw [← Ny172.out] at ho8 | (simp only [Int.reduceToNat] at ho8; rw [← Ny172.out] at ho8)); have HO174 := Aside0.mk (Kd.R_lower ho8 (below_size bl0_)); replace BK170 := bb_ BK170 hb; replace BK171 := bb_ BK171 hb; replace HB := Aside0.mk (below_step bl0_ hb); clear hb ho8; obtain ⟨hcz9_0, hcz9_1, hfz9_0, hfz9_1⟩ := cf2_ BK171))
  go_loopg [5, 6] k (fun kq v5 v6 w' => ∃ (x5_1 : List Int) (x6_1 : Int), v6 = .int .i64 x6_1 ∧ Aside0 (span_ranger_path.l0 kq x5_1 x6_1 l0_0 a0_1 = some r) ∧ Aside0 (kq ≤ k) ∧ Aside0 (x5_1 ≠ []) ∧ Aside0 (Kd.R (Kd.int .i64) 3 w' w.heap.size (fun _ => True) v5 x5_1) ∧ Aside0 (w'.heap[gb170]? = some (.cells #[(.slice A0_0 l0_0.length c0_0), .bool a0_1] 53 (0, 0))) ∧ Aside0 (w'.heap[gb171]? = some (.cells #[.int .i64 a1_0, .int .i64 a1_1] 27 (0, 0))) ∧ Aside0 (Below w.heap.size w w'))
  case atStart => exact ⟨(y172), (a1_0), rs_, H', ⟨Nat.le_refl _⟩, ⟨by rw [Ny172.out]; simp⟩, ⟨by (with_reducible repeat (first | apply Kd.R_alloc | apply Kd.R_drewN | apply Kd.R_drew)); exact HO174.out⟩, ⟨by (with_reducible repeat (first | refine blk_drewN ?_ _ | refine blk_drew ?_ | refine blk_alloc ?_ _)); exact BK170.out⟩, ⟨by (with_reducible repeat (first | refine blk_drewN ?_ _ | refine blk_drew ?_ | refine blk_alloc ?_ _)); exact BK171.out⟩, ⟨bl0_⟩⟩
  case round =>
    clear H'
    try clear hcz6_0
    try clear hcz6_1
    try clear hcz9_0
    try clear hcz9_1
    try clear hfz6_0
    try clear hfz6_1
    try clear hfz9_0
    try clear hfz9_1
    obtain ⟨x5_1, x6_1, rfl, HA, HK1, HNE, HO_5, BK170, BK171, HB⟩ := hrel
    cases gk with
    | zero => exact absurd HA.out (by simp [span_ranger_path.l0])
    | succ k1 =>
      have H := HA.out
      clear HA
      simp only [span_ranger_path.l0] at H
      by_cases c10 : x6_1 > 0
      · rw [if_pos c10] at H
        have c10b0 : decide (0 < x6_1) = true := decide_eq_true c10
        clear c10
        by_cases c11 : 0 ≤ x6_1
        · rw [if_pos c11] at H
          have c11b0 : decide (0 ≤ x6_1) = true := decide_eq_true c11
          clear c11
          by_cases c12 : x6_1 < (l0_0.length : Int)
          · rw [if_pos c12] at H
            have c12b0 : decide (x6_1 < (l0_0.length : Int)) = true := decide_eq_true c12
            clear c12
            by_cases c13 : ((rd_T37 l0_0 x6_1).f4) < 0
            · rw [if_pos c13] at H
              have c13b0 : decide (((rd_T37 l0_0 x6_1).f4) < 0) = true := decide_eq_true c13
              clear c13
              obtain rfl := Option.some.inj H
              have hnb14 := NB170_171.out
              have hnc14 := NB171_170.out
              obtain ⟨hcz15_0, hcz15_1, hfz15_0, hfz15_1⟩ := cf2_ BK170
              have p175 : 0 ≤ (x6_1 : Int) := of_decide_eq_true as_
              have q175 : x6_1 < (l0_0.length : Int) := of_decide_eq_true as_
              obtain ⟨ad175, A175_2, c175_2, A175_5, c175_5, e175, hx175_0, hx175_1, hx175_2, hx175_3, hx175_4, hx175_5, hl175_2, hi175_2, hl175_5, hi175_5⟩ := at_T37 HR0_0.out x6_1 p175 q175
              cases e175
              replace hx175_0 := pw_cell_below HB.out hx175_0
              replace hx175_1 := pw_cell_below HB.out hx175_1
              replace hx175_2 := pw_cell_below HB.out hx175_2
              replace hx175_3 := pw_cell_below HB.out hx175_3
              replace hx175_4 := pw_cell_below HB.out hx175_4
              replace hx175_5 := pw_cell_below HB.out hx175_5
              have HR175_2 := Aside0.mk hi175_2
              have HC175_2 := Aside0.mk hl175_2
              clear hi175_2 hl175_2
              have HR175_5 := Aside0.mk hi175_5
              have HC175_5 := Aside0.mk hl175_5
              clear hi175_5 hl175_5
              replace p175 := eq_true p175
              replace q175 := eq_true q175
              go_wp2
              go_ret
              exact ⟨_, er_, by first | exact Kd.R_nil _ _ _ _ _ | exact Kd.N_nil _ _ _ _ _ | exact Kd.V_nil _ _ _ _ _ | exact Kd.Q_nil _ _ _ _ _ | exact Kd.S_nil _ _ _ _ _, bl0_, by first | rfl | exact .inr rfl⟩
            · rw [if_neg c13] at H
              have c13b0 : decide (((rd_T37 l0_0 x6_1).f4) < 0) = false := decide_eq_false c13
              clear c13
              by_cases c16 : 0 ≤ ((rd_T37 l0_0 x6_1).f4)
              · rw [if_pos c16] at H
                have c16b0 : decide (0 ≤ ((rd_T37 l0_0 x6_1).f4)) = true := decide_eq_true c16
                clear c16
                by_cases c17 : ((rd_T37 l0_0 x6_1).f4) < (l0_0.length : Int)
                · rw [if_pos c17] at H
                  have c17b0 : decide (((rd_T37 l0_0 x6_1).f4) < (l0_0.length : Int)) = true := decide_eq_true c17
                  clear c17
                  replace H := Option.bind_eq_some_iff.mp H
                  obtain ⟨t177, A180, H⟩ := H
                  replace H : (if x5_1.length < 17592186044416 then (span_ranger_path.l0 k1 (x5_1 ++ [wrap64 ((wrap64 (2 * t177)) + 1)]) ((rd_T37 l0_0 x6_1).f4) l0_0 a0_1) else (none)) = some r := H
                  have A18 := Aside0.mk A180
                  clear A180
                  by_cases c19 : x5_1.length < 17592186044416
                  · rw [if_pos c19] at H
                    have LMc19 := Aside0.mk c19
                    clear c19
                    obtain ⟨y178, hy178⟩ : ∃ y_ : List Int, y_ = (x5_1 ++ [wrap64 ((wrap64 (2 * t177)) + 1)]) := ⟨_, rfl⟩
                    replace H : (span_ranger_path.l0 k1 y178 ((rd_T37 l0_0 x6_1).f4) l0_0 a0_1) = some r := by first | (rw [hy178]; with_reducible exact H) | (have H2_ := (Option.bind_some _ _).symm.trans H; rw [hy178]; with_reducible exact H2_) | (have H2_ := (Option.bind_some _ _).symm.trans H; with_reducible exact H2_) | with_reducible exact H | (rw [hy178]; exact H) | exact H
                    have Ny178 := Aside0.mk hy178
                    clear hy178
                    have H' := Aside0.mk H
                    clear H
                    have hnb20 := NB170_171.out
                    have hnc20 := NB171_170.out
                    obtain ⟨hcz21_0, hcz21_1, hfz21_0, hfz21_1⟩ := cf2_ BK170
                    have p175 : 0 ≤ (x6_1 : Int) := of_decide_eq_true as_
                    have q175 : x6_1 < (l0_0.length : Int) := of_decide_eq_true as_
                    obtain ⟨ad175, A175_2, c175_2, A175_5, c175_5, e175, hx175_0, hx175_1, hx175_2, hx175_3, hx175_4, hx175_5, hl175_2, hi175_2, hl175_5, hi175_5⟩ := at_T37 HR0_0.out x6_1 p175 q175
                    cases e175
                    replace hx175_0 := pw_cell_below HB.out hx175_0
                    replace hx175_1 := pw_cell_below HB.out hx175_1
                    replace hx175_2 := pw_cell_below HB.out hx175_2
                    replace hx175_3 := pw_cell_below HB.out hx175_3
                    replace hx175_4 := pw_cell_below HB.out hx175_4
                    replace hx175_5 := pw_cell_below HB.out hx175_5
                    have HR175_2 := Aside0.mk hi175_2
                    have HC175_2 := Aside0.mk hl175_2
                    clear hi175_2 hl175_2
                    have HR175_5 := Aside0.mk hi175_5
                    have HC175_5 := Aside0.mk hl175_5
                    clear hi175_5 hl175_5
                    replace p175 := eq_true p175
                    replace q175 := eq_true q175
                    have p176 : 0 ≤ (((rd_T37 l0_0 x6_1).f4) : Int) := of_decide_eq_true as_
                    have q176 : ((rd_T37 l0_0 x6_1).f4) < (l0_0.length : Int) := of_decide_eq_true as_
                    obtain ⟨ad176, A176_2, c176_2, A176_5, c176_5, e176, hx176_0, hx176_1, hx176_2, hx176_3, hx176_4, hx176_5, hl176_2, hi176_2, hl176_5, hi176_5⟩ := at_T37 HR0_0.out ((rd_T37 l0_0 x6_1).f4) p176 q176
                    obtain rfl : ad175 = ad176 := (by injection e176)
                    replace hx176_0 := pw_cell_below HB.out hx176_0
                    replace hx176_1 := pw_cell_below HB.out hx176_1
                    replace hx176_2 := pw_cell_below HB.out hx176_2
                    replace hx176_3 := pw_cell_below HB.out hx176_3
                    replace hx176_4 := pw_cell_below HB.out hx176_4
                    replace hx176_5 := pw_cell_below HB.out hx176_5
                    have HR176_2 := Aside0.mk hi176_2
                    have HC176_2 := Aside0.mk hl176_2
                    clear hi176_2 hl176_2
                    have HR176_5 := Aside0.mk hi176_5
                    have HC176_5 := Aside0.mk hl176_5
                    clear hi176_5 hl176_5
                    replace p176 := eq_true p176
                    replace q176 := eq_true q176
                    go_wp2_with (first | ((with_reducible refine gate_callee (f := 27) rfl ?_); refine goesL_ (some 41) rfl rfl Tryd.func27 (by kernel_rfl) rfl #[.slice A176_5 ((rd_T37 l0_0 ((rd_T37 l0_0 x6_1).f4)).f5).length c176_5, .int .i64 x6_1] rfl mp_ ?_; (with_reducible refine (slices_Index_int_int.calls k1 _ _ ((rd_T37 l0_0 ((rd_T37 l0_0 x6_1).f4)).f5) x6_1 t177 _ ?side1 ?side2 A18.out).mono ?_); (case side1 => repeat (first | exact (Kd.C_below HR176_5.out HB.out) | (with_reducible refine Kd.C_alloc ?_ _) | (with_reducible refine Kd.C_drewN ?_ _) | (with_reducible refine Kd.C_drew ?_))); (case side2 => exact HC176_5.out); rintro e w' ⟨rfl, ⟨nd, rfl⟩⟩; refine ⟨_, rfl, ?_⟩) | ((with_reducible refine gate_builtin (b := .append) (xs := #[.tmp 32, .tmp 44]) rfl ?_); at_builtin; refine Kd.R_append (Kd.int .i64) (w0 := w) w.heap.size rfl (.tmp 32) (.tmp 44) 35 3 (.int .i64 0) 8 rfl Tryd.underlying35 info3 rfl (by decide) (by omega) u5 x5_1 (wrap64 ((wrap64 (2 * t177)) + 1)) [.int .i64 (wrap64 ((wrap64 (2 * t177)) + 1))] (fun _ => True) (fun _ => False) rfl rfl ?aP (fun _ hk => hk.elim) ?aF ?aO ?aB ?aS ?aL ?_; (case aP => exact rfl); (case aB => exact bl0_); (case aF => exact (fun _ _ => trivial)); (case aO => exact (Kd.R_below HO_5.out bu_)); (case aS => exact (below_size bl0_)); (case aL => have := LMc19.out; omega); intro v179 w22 ho hb hg hat; rw [← Ny178.out] at ho; replace BK170 := Aside0.mk (blk_grown (g := gb170) (o := .cells #[.slice (some ad175) l0_0.length c0_0, .bool a0_1] 53 (0, 0)) (bq_ BK170.out) hg (Kd.R_ne HO_5.out BK170.out (by decide))); replace BK171 := Aside0.mk (blk_grown (g := gb171) (o := .cells #[.int .i64 a1_0, .int .i64 a1_1] 27 (0, 0)) (bq_ BK171.out) hg (Kd.R_ne HO_5.out BK171.out (by decide))); replace HB := Aside0.mk (hb); have HO180 := Aside0.mk (ho); clear HO_5; clear ho hb hg hat; obtain ⟨hcz23_0, hcz23_1, hfz23_0, hfz23_1⟩ := cf2_ BK170; have p181 : 0 ≤ (x6_1 : Int) := of_decide_eq_true as_; have q181 : x6_1 < (l0_0.length : Int) := of_decide_eq_true as_; obtain ⟨ad181, A181_2, c181_2, A181_5, c181_5, e181, hx181_0, hx181_1, hx181_2, hx181_3, hx181_4, hx181_5, hl181_2, hi181_2, hl181_5, hi181_5⟩ := at_T37 HR0_0.out x6_1 p181 q181; obtain rfl : ad175 = ad181 := (by injection e181); replace hx181_0 := pw_cell_below HB.out hx181_0; replace hx181_1 := pw_cell_below HB.out hx181_1; replace hx181_2 := pw_cell_below HB.out hx181_2; replace hx181_3 := pw_cell_below HB.out hx181_3; replace hx181_4 := pw_cell_below HB.out hx181_4; replace hx181_5 := pw_cell_below HB.out hx181_5; have HR181_2 := Aside0.mk hi181_2; have HC181_2 := Aside0.mk hl181_2; clear hi181_2 hl181_2; have HR181_5 := Aside0.mk hi181_5; have HC181_5 := Aside0.mk hl181_5; clear hi181_5 hl181_5; replace p181 := eq_true p181; replace q181 := eq_true q181))
                    go_roundg k1
                    case measure => have := HK1.out; omega
                    case rel => exact ⟨(y178), ((rd_T37 l0_0 x6_1).f4), rs_, H', ⟨by have := HK1.out; omega⟩, ⟨by rw [Ny178.out]; simp⟩, ⟨by (with_reducible repeat (first | apply Kd.R_alloc | apply Kd.R_drewN | apply Kd.R_drew)); exact HO180.out⟩, ⟨by (with_reducible repeat (first | refine blk_drewN ?_ _ | refine blk_drew ?_ | refine blk_alloc ?_ _)); exact BK170.out⟩, ⟨by (with_reducible repeat (first | refine blk_drewN ?_ _ | refine blk_drew ?_ | refine blk_alloc ?_ _)); exact BK171.out⟩, ⟨bl0_⟩⟩
                  · rw [if_neg c19] at H
                    exact absurd H (by simp)
                · rw [if_neg c17] at H
                  exact absurd H (by simp)
              · rw [if_neg c16] at H
                exact absurd H (by simp)
          · rw [if_neg c12] at H
            exact absurd H (by simp)
        · rw [if_neg c11] at H
          exact absurd H (by simp)
      · rw [if_neg c10] at H
        have c10b0 : decide (0 < x6_1) = false := decide_eq_false c10
        clear c10
        replace H := Option.bind_eq_some_iff.mp H
        obtain ⟨t182, A240, H⟩ := H
        replace H : (some t182) = some r := H
        have A24 := Aside0.mk A240
        clear A240
        obtain rfl := Option.some.inj H
        have HNE2 := Aside0.mk (rev_ne A24.out HNE.out)
        obtain ⟨Ao25, co25, eo25⟩ := Kd.R_slice HO_5.out
        subst eo25
        go_wp2_with (first | ((with_reducible refine gate_callee (f := 53) rfl ?_); refine goesL_ (some 47) rfl rfl Tryd.func53 (by kernel_rfl) rfl #[.slice Ao25 x5_1.length co25] rfl mp_ ?_; (with_reducible refine (slices_Reverse_int_int.calls k1 (fun k_ => some k_ = (.slice Ao25 x5_1.length co25 : Value).ownBlock) (.slice Ao25 x5_1.length co25) x5_1 t182 w _ ?side1 ?side2 A24.out).mono ?_); (case side1 => repeat (first | (with_reducible first | exact HB.out | apply below_alloc | apply pw_below_drewN | apply below_drew1 | refine below_set ?_ GE170.out | refine below_set ?_ GE171.out) | exact HB.out)); (case side2 => exact Kd.R_tight rfl HO_5.out); rintro e w26 ⟨rfl, hy0, hb, hkp⟩; refine ⟨_, rfl, ?_⟩; replace BK170 := Aside0.mk (blk_kept (bq_ BK170.out) hkp (fun hs_ => (fun e_ => (Kd.R_ne HO_5.out BK170.out (by decide)) e_) hs_)); replace BK171 := Aside0.mk (blk_kept (bq_ BK171.out) hkp (fun hs_ => (fun e_ => (Kd.R_ne HO_5.out BK171.out (by decide)) e_) hs_)); replace HO_5 := Aside0.mk (Kd.R_reok rfl hy0 (fun k_ e_ => HO_5.out.1 k_ e_)); replace HB := Aside0.mk (hb); (try clear hb); (try clear hkp); (try clear hy0)))
        go_ret
        exact ⟨_, er_, by (with_reducible repeat (first | apply Kd.R_alloc | apply Kd.R_drewN | apply Kd.R_drew)); exact HO_5.out, bl0_, by first | exact .inl HNE2.out | (simp [HNE2.out]; done)⟩
theorem span_ranger_path.calls (k : Nat) (A0_0 : Option Addr) (c0_0 : Nat) (l0_0 : List S37) (a0_1 : Bool) (a1_0 : Int) (a1_1 : Int) (r : List Int) (w : World) (hr0_0 : Kd.C k37 w A0_0 l0_0.length l0_0) (hc0_0 : l0_0.length ≤ c0_0) (h : span_ranger_path.f k l0_0 a0_1 a1_0 a1_1 = some r) :
    Calls Tryd.prog 40 #[.agg #[.slice A0_0 l0_0.length c0_0, .bool a0_1], .agg #[.int .i64 a1_0, .int .i64 a1_1]] w fun e w' => ∃ v0_ : Value, e = .returned (v0_) ∧ Kd.R (Kd.int .i64) 3 w' w.heap.size (fun _ => True) v0_ r ∧ Below w.heap.size w w' :=
  (span_ranger_path.calls2 k A0_0 c0_0 l0_0 a0_1 a1_0 a1_1 r w hr0_0 hc0_0 h).mono fun e w' ⟨v, h1, h2, h3, _⟩ => ⟨v, h1, h2, h3⟩
end Go.Proofs.YtlgoaphdhgidoaaDoor.PSY
