-- printed by wip/tools/pr.py (own) through the kit's printer; texts GIVEN by hand stand among them
import Derived.Test.YthfalaabfgpjmaaDoorPAPx0
import Derived.Test.YthfalaabfgpjmaaDoorPAPx5
import Derived.Test.YthfalaabfgpjmaaDoorPAPx6
import Derived.Test.YthfalaabfgpjmaaDoorPAPx10
namespace Go.Proofs.YthfalaabfgpjmaaDoor.PAP
open Go.RowKit Go.Proofs.YthfalaabfgpjmaaDoorW.PrintWords Go.Proofs.YthfalaabfgpjmaaDoorW.PrintLast Go.Proofs.YthfalaabfgpjmaaDoorW.PrintMore
attribute [local go_sem] max2_int min2_int max_two min_two max_three min_three max_four min_four   -- for this text's walks alone
set_option linter.unusedVariables false
set_option linter.unusedSimpArgs false

/-! ### dom_Apply: function 14 -/
def dom_Apply.f (k : Nat) (l0_0 : List S28) (a0_1 : Bool) (a1_0 a1_1 a1_2 a1_3 : Int) (a1_4 a1_5 : ByteArray) (a1_6 : Int) (a1_7 : ByteArray) (l1_8 : List S61) (a1_9 : ByteArray) (a1_10 : Int) (l1_11 : List Int) : Option (List S28 × Bool × Int × Int) :=
  (dom_Check.f k l0_0 a0_1).bind fun c => if c = 0 then (if allOk l0_0 = true then (editF k l0_0 a0_1 0 ⟨a1_0, a1_1, a1_2, a1_3, a1_4, a1_5, ⟨a1_6, a1_7, l1_8, a1_9, a1_10, l1_11⟩⟩).bind fun t => if t.1 = 0 then some (t.2.1, a0_1, t.2.2, 0) else some ([], false, 0, t.1) else none) else some ([], false, 0, c)
theorem dom_Apply.mono : ∀ a0 a1 a2 a3 a4 a5 a6 a7 a8 a9 a10 a11 a12 a13 k, LeO (dom_Apply.f k a0 a1 a2 a3 a4 a5 a6 a7 a8 a9 a10 a11 a12 a13) (dom_Apply.f (k + 1) a0 a1 a2 a3 a4 a5 a6 a7 a8 a9 a10 a11 a12 a13) := by
  intro a0 a1 a2 a3 a4 a5 a6 a7 a8 a9 a10 a11 a12 a13 k
  unfold dom_Apply.f
  exact LeO.bind (dom_Check.mono _ _ _) fun _ => LeO.ite (LeO.ite (LeO.bind (editF_mono _ _ _ _ _) fun _ => LeO.refl _) (LeO.refl _)) (LeO.refl _)
theorem apply_far {w : World} {g g' i : Nat} (h : g ≠ g') (u v : Value) : ((w.setCell ⟨g', 0, none⟩ u).setCell ⟨g', 1, none⟩ v).drew.cell? ⟨g, i, none⟩ = w.cell? ⟨g, i, none⟩ :=
  (World.cell?_of_block (Below.heap_setCell (w.setCell ⟨g', 0, none⟩ u) ⟨g', 1, none⟩ v g h)).trans (World.cell?_of_block (Below.heap_setCell w ⟨g', 0, none⟩ u g h))
set_option maxRecDepth 100000 in
set_option maxHeartbeats 4000000 in
theorem dom_Apply.calls (k : Nat) (A0_0 : Option Addr) (c0_0 : Nat) (l0_0 : List S28) (a0_1 : Bool) (a1_0 a1_1 a1_2 a1_3 : Int) (a1_4 a1_5 : ByteArray) (a1_6 : Int) (a1_7 : ByteArray) (A1_8 : Option Addr) (c1_8 : Nat) (l1_8 : List S61) (a1_9 : ByteArray) (a1_10 : Int) (A1_11 : Option Addr) (c1_11 : Nat) (l1_11 : List Int) (r1 : List S28) (r2 : Bool) (r3 r4 : Int) (w : World) (hr0_0 : Kd.C k28 w A0_0 l0_0.length l0_0) (hc0_0 : l0_0.length ≤ c0_0) (hr1_8 : Kd.C k61 w A1_8 l1_8.length l1_8) (hc1_8 : l1_8.length ≤ c1_8) (hr1_11 : Kd.C (Kd.int .i64) w A1_11 l1_11.length l1_11) (hc1_11 : l1_11.length ≤ c1_11) (h : dom_Apply.f k l0_0 a0_1 a1_0 a1_1 a1_2 a1_3 a1_4 a1_5 a1_6 a1_7 l1_8 a1_9 a1_10 l1_11 = some (r1, r2, r3, r4)) :
    Calls Tryd.prog 14 #[.agg #[.slice A0_0 l0_0.length c0_0, .bool a0_1], .agg #[.int .i64 a1_0, .int .i64 a1_1, .int .i64 a1_2, .int .i64 a1_3, .string a1_4, .string a1_5, .int .i64 a1_6, .string a1_7, .slice A1_8 l1_8.length c1_8, .string a1_9, .int .i64 a1_10, .slice A1_11 l1_11.length c1_11]] w fun e w' => ∃ v0_ : Value, e = .returned (.tuple #[.agg #[v0_, .bool r2], .int .i64 r3, .int .i64 r4]) ∧ Kd.S k28 28 w' w.heap.size (fun _ => True) v0_ r1 ∧ Below w.heap.size w w' := by
  obtain ⟨c, hk, h⟩ := Option.bind_eq_some_iff.1 h
  obtain ⟨n, hn⟩ : ∃ n, n = l0_0.length := ⟨_, rfl⟩
  obtain ⟨n8, hn8⟩ : ∃ n8, n8 = l1_8.length := ⟨_, rfl⟩
  obtain ⟨n11, hn11⟩ : ∃ n11, n11 = l1_11.length := ⟨_, rfl⟩
  have HC : Hid (∀ W : World, Below w.heap.size w W → Calls Tryd.prog 18 #[.agg #[.slice A0_0 n c0_0, .bool a0_1]] W fun e w' => e = .returned (.int .i64 c) ∧ Below W.heap.size W w') := Lib.hid (by
    rw [hn]
    exact fun W hb => dom_Check.calls k A0_0 c0_0 l0_0 a0_1 c W (Kd.C_below hr0_0 hb) hc0_0 hk)
  have HO : Hid (allOk l0_0 = true → ∀ W : World, Below w.heap.size w W → Calls Tryd.prog 19 #[.agg #[.slice A0_0 n c0_0, .bool a0_1]] W fun e w' => ∃ v0_ : Value, e = .returned (.agg #[v0_, .bool a0_1]) ∧ Kd.S k28 28 w' W.heap.size (fun _ => True) v0_ l0_0 ∧ Below W.heap.size W w') := Lib.hid (by
    rw [hn]
    exact fun ha W hb => dom_own.calls A0_0 c0_0 l0_0 a0_1 W (Kd.C_below hr0_0 hb) hc0_0 (allOk_len ha).1 (allOk_len ha).2)
  have HEd : Hid (∀ (er : Int) (l' : List S28) (made' : Int), editF k l0_0 a0_1 0 ⟨a1_0, a1_1, a1_2, a1_3, a1_4, a1_5, ⟨a1_6, a1_7, l1_8, a1_9, a1_10, l1_11⟩⟩ = some (er, l', made') → ∀ (w1 W : World) (b : Nat), Below w.heap.size w w1 → Below w1.heap.size w1 W → Ed W w1.heap.size b l0_0 a0_1 0 → Calls Tryd.prog 20 #[.pointer (some ⟨b, 0, none⟩), .agg #[.int .i64 a1_0, .int .i64 a1_1, .int .i64 a1_2, .int .i64 a1_3, .string a1_4, .string a1_5, .int .i64 a1_6, .string a1_7, .slice A1_8 n8 c1_8, .string a1_9, .int .i64 a1_10, .slice A1_11 n11 c1_11]] W fun e w' => e = .returned (.int .i64 er) ∧ ((er = 0 → Ed w' w1.heap.size b l' a0_1 made') ∧ Below w1.heap.size w1 w')) := Lib.hid (by
    rw [hn8, hn11]
    exact fun er l' made' hE w1 W b h1 h2 h3 => edit_calls k ⟨a1_0, a1_1, a1_2, a1_3, a1_4, a1_5, ⟨a1_6, a1_7, l1_8, a1_9, a1_10, l1_11⟩⟩ A1_8 A1_11 c1_8 c1_11 l0_0 a0_1 0 er l' made' b w1 W h2 h3 (Kd.C_below hr1_8 h1) hc1_8 (Kd.C_below hr1_11 h1) hc1_11 hE)
  rw [← hn, ← hn8, ← hn11]
  have HN := Lib.hid hn
  have H := Lib.hid h
  have HWB : Hid (∀ W1 W : World, (((w.alloc (.cells #[.slice A0_0 n c0_0, .bool a0_1] 24)).alloc (.cells #[.int .i64 a1_0, .int .i64 a1_1, .int .i64 a1_2, .int .i64 a1_3, .string a1_4, .string a1_5, .int .i64 a1_6, .string a1_7, .slice A1_8 n8 c1_8, .string a1_9, .int .i64 a1_10, .slice A1_11 n11 c1_11] 30)).alloc (.cells #[.slice none 0 0, .bool false] 24)) = W → Below W.heap.size W W1 → Below w.heap.size w W1 ∧ w.heap.size ≤ W1.heap.size ∧ W1.heap[w.heap.size + 2]? = some (.cells #[.slice none 0 0, .bool false] 24 (0, 0)) ∧ W1.heap[w.heap.size]? = some (.cells #[.slice A0_0 n c0_0, .bool a0_1] 24 (0, 0)) ∧ W1.heap[w.heap.size + 1]? = some (.cells #[.int .i64 a1_0, .int .i64 a1_1, .int .i64 a1_2, .int .i64 a1_3, .string a1_4, .string a1_5, .int .i64 a1_6, .string a1_7, .slice A1_8 n8 c1_8, .string a1_9, .int .i64 a1_10, .slice A1_11 n11 c1_11] 30 (0, 0))) :=
    Lib.hid (fun W1 W h hb => by
      subst h
      have hb1 : Below w.heap.size w (w.alloc (.cells #[.slice A0_0 n c0_0, .bool a0_1] 24)) := (Below.refl _ w).alloc (Nat.le_refl _) _
      have hb2 := hb1.alloc (by simp) (.cells #[.int .i64 a1_0, .int .i64 a1_1, .int .i64 a1_2, .int .i64 a1_3, .string a1_4, .string a1_5, .int .i64 a1_6, .string a1_7, .slice A1_8 n8 c1_8, .string a1_9, .int .i64 a1_10, .slice A1_11 n11 c1_11] 30)
      have hb3 := hb2.alloc (by simp; omega) (.cells #[.slice none 0 0, .bool false] 24)
      have h1 := hb3.trans (hb.mono hb3.size)
      have x2 := blk_below (blk_new ((w.alloc (.cells #[.slice A0_0 n c0_0, .bool a0_1] 24)).alloc (.cells #[.int .i64 a1_0, .int .i64 a1_1, .int .i64 a1_2, .int .i64 a1_3, .string a1_4, .string a1_5, .int .i64 a1_6, .string a1_7, .slice A1_8 n8 c1_8, .string a1_9, .int .i64 a1_10, .slice A1_11 n11 c1_11] 30)) (.cells #[.slice none 0 0, .bool false] 24)) hb
      have x1 := blk_below (blk_below (blk_new (w.alloc (.cells #[.slice A0_0 n c0_0, .bool a0_1] 24)) (.cells #[.int .i64 a1_0, .int .i64 a1_1, .int .i64 a1_2, .int .i64 a1_3, .string a1_4, .string a1_5, .int .i64 a1_6, .string a1_7, .slice A1_8 n8 c1_8, .string a1_9, .int .i64 a1_10, .slice A1_11 n11 c1_11] 30)) ((Below.refl _ _).alloc (Nat.le_refl _) (.cells #[.slice none 0 0, .bool false] 24))) hb
      have x0 := blk_below (blk_below (blk_below (blk_new w (.cells #[.slice A0_0 n c0_0, .bool a0_1] 24)) ((Below.refl _ _).alloc (Nat.le_refl _) (.cells #[.int .i64 a1_0, .int .i64 a1_1, .int .i64 a1_2, .int .i64 a1_3, .string a1_4, .string a1_5, .int .i64 a1_6, .string a1_7, .slice A1_8 n8 c1_8, .string a1_9, .int .i64 a1_10, .slice A1_11 n11 c1_11] 30))) ((Below.refl _ _).alloc (Nat.le_refl _) (.cells #[.slice none 0 0, .bool false] 24))) hb
      exact ⟨h1, h1.size, by simpa using x2, x0, by simpa using x1⟩)
  clear hr0_0 hc0_0 hr1_8 hc1_8 hr1_11 hc1_11 hn hn8 hn11 h hk
  go_enter Tryd.func14, Tryd.ntmps14
  go_wp2_with fail
  refine (HC.out _ (by (repeat (first | refine below_alloc ?_ _ | refine below_drew ?_)); exact Below.refl _ _)).mono ?_
  rintro e w1 ⟨rfl, hb1⟩
  obtain ⟨hw1, hsz1, hres, hbox, hebx⟩ := HWB.out w1 _ rfl hb1
  have b0 := (blk_cell hbox 0).trans rfl
  have b1 := (blk_cell hbox 1).trans rfl
  have q0 := (blk_cell hres 0).trans rfl
  have q1 := (blk_cell hres 1).trans rfl
  have g0 := blk_frozen hres 0
  have g1 := blk_frozen hres 1
  have HW1 := Lib.hid hw1
  have HRes := Lib.hid hres
  have HEb := Lib.hid hebx
  clear hb1 hw1 HWB hres hbox hebx HC
  by_cases hc0 : c = 0
  · subst hc0
    have h := H.out
    rw [if_pos rfl] at h
    split at h
    case isFalse => exact absurd h (by simp)
    case isTrue hok =>
    obtain ⟨⟨er, l', made'⟩, hE, hG⟩ := Option.bind_eq_some_iff.1 h
    have HO1 := Lib.hid (HO.out hok)
    have HE1 := Lib.hid (HEd.out er l' made' hE)
    have HG2 := Lib.hid hG
    clear H h HO HEd hE hG
    go_wp2_with fail
    refine (HO1.out w1 HW1.out).mono ?_
    rintro e w2 ⟨v, rfl, hS, hb2⟩
    have HI : Hid (AllI w1 (w2.alloc (.cells #[v, .bool a0_1, .int .i64 0] 57)) w2.heap.size l0_0 a0_1 0) := Lib.hid ⟨ed_new hb2.size hS (Nat.le_refl _), below_alloc hb2 _⟩
    obtain ⟨A, cc, rfl⟩ := Kd.S_slice hS
    have HX : Hid (∀ W : World, Below w1.heap.size w1 W → (W.cell? ⟨w.heap.size + 1, 0, none⟩ = some (.int .i64 a1_0) ∧ W.cell? ⟨w.heap.size + 1, 1, none⟩ = some (.int .i64 a1_1) ∧ W.cell? ⟨w.heap.size + 1, 2, none⟩ = some (.int .i64 a1_2) ∧ W.cell? ⟨w.heap.size + 1, 3, none⟩ = some (.int .i64 a1_3) ∧ W.cell? ⟨w.heap.size + 1, 4, none⟩ = some (.string a1_4) ∧ W.cell? ⟨w.heap.size + 1, 5, none⟩ = some (.string a1_5)) ∧ W.cell? ⟨w.heap.size + 1, 6, none⟩ = some (.int .i64 a1_6) ∧ W.cell? ⟨w.heap.size + 1, 7, none⟩ = some (.string a1_7) ∧ W.cell? ⟨w.heap.size + 1, 8, none⟩ = some (.slice A1_8 n8 c1_8) ∧ W.cell? ⟨w.heap.size + 1, 9, none⟩ = some (.string a1_9) ∧ W.cell? ⟨w.heap.size + 1, 10, none⟩ = some (.int .i64 a1_10) ∧ W.cell? ⟨w.heap.size + 1, 11, none⟩ = some (.slice A1_11 n11 c1_11)) := Lib.hid (fun W h => by
      have hh := blk_below HEb.out h
      exact ⟨⟨(blk_cell hh 0).trans rfl, (blk_cell hh 1).trans rfl, (blk_cell hh 2).trans rfl, (blk_cell hh 3).trans rfl, (blk_cell hh 4).trans rfl, (blk_cell hh 5).trans rfl⟩, (blk_cell hh 6).trans rfl, (blk_cell hh 7).trans rfl, (blk_cell hh 8).trans rfl, (blk_cell hh 9).trans rfl, (blk_cell hh 10).trans rfl, (blk_cell hh 11).trans rfl⟩)
    obtain ⟨⟨z0, z1, z2, z3, z4, z5⟩, z6, z7, z8, z9, z10, z11⟩ := HX.out _ HI.out.below
    clear hS hb2 HO1 b0 b1 q0 q1 g0 g1
    go_wp2_with fail
    refine (HE1.out w1 _ w2.heap.size HW1.out HI.out.below HI.out.ed).mono ?_
    rintro e w3 ⟨rfl, hEd, hb3⟩
    have hres := blk_below HRes.out hb3
    have q0 := (blk_cell hres 0).trans rfl
    have q1 := (blk_cell hres 1).trans rfl
    have g0 := blk_frozen hres 0
    have g1 := blk_frozen hres 1
    have HB3 := Lib.hid hb3
    have HRes3 := Lib.hid hres
    clear hb3 hres HE1 HX z0 z1 z2 z3 z4 z5 z6 z7 z8 z9 z10 z11
    by_cases her : er = 0
    · subst her
      have hG := HG2.out
      rw [if_pos rfl] at hG
      injection hG with h
      injection h with ha h
      injection h with hb h
      injection h with hc hd
      subst ha hb hc hd
      obtain ⟨A', c', hbb, hbk, hS⟩ := ed_open (hEd rfl)
      have y0 := (blk_cell hbk 0).trans rfl
      have y1 := (blk_cell hbk 1).trans rfl
      have y2 := (blk_cell hbk 2).trans rfl
      have HS := Lib.hid hS
      have hne : w2.heap.size ≠ w.heap.size + 1 + 1 := by have := blk_lt HRes.out; omega
      clear hS HG2 hEd hbk
      go_upto_region 8 with fail
      go_region_held3 (fun W => W.cell? ⟨w2.heap.size, 0, none⟩ = some (.slice A' l'.length c') ∧ W.cell? ⟨w2.heap.size, 1, none⟩ = some (.bool a0_1) ∧ W.cell? ⟨w2.heap.size, 2, none⟩ = some (.int .i64 made')) (first | exact ⟨y0, y1, y2⟩ | exact ⟨(apply_far hne _ _).trans y0, (apply_far hne _ _).trans y1, (apply_far hne _ _).trans y2⟩) (fail)

      go_wp2_with fail
      refine bodyPost_ret (results_ctt rfl _ _ (w.heap.size + 2) 24 #[.slice A' l'.length c', .bool a0_1] (0, 0) _ rfl (blk_put (blk_put (cs' := #[.slice A' l'.length c', .bool false]) HRes3.out 0 _ rfl) 1 _ rfl) Tryd.underlying24 rfl (by kernel_rfl)) rfl ?_
      exact ⟨_, rfl, Kd.S_drew (Kd.S_set (Kd.S_set (Kd.S_lower HS.out hsz1) HRes3.out (by decide) 0 _) (blk_set HRes3.out 0 _) (by decide) 1 _), below_drew (((HW1.out.trans (HB3.out.mono hsz1)).setCell (by show w.heap.size ≤ w.heap.size + 1 + 1; omega) _).setCell (by show w.heap.size ≤ w.heap.size + 1 + 1; omega) _)⟩
    · have hG := HG2.out
      rw [if_neg her] at hG
      injection hG with h
      injection h with ha h
      injection h with hb h
      injection h with hc hd
      subst ha hb hc hd
      have herb : (er != 0) = true := by simpa using her
      clear HG2 hEd
      go_wp2_with fail
      refine bodyPost_ret (results_ctt rfl _ _ (w.heap.size + 2) 24 #[.slice none 0 0, .bool false] (0, 0) _ rfl (blk_put (blk_put (cs' := #[.slice none 0 0, .bool false]) HRes3.out 0 _ rfl) 1 _ rfl) Tryd.underlying24 rfl (by kernel_rfl)) rfl ?_
      exact ⟨_, rfl, Kd.S_nil _ _ _ _ _, ((HW1.out.trans (HB3.out.mono hsz1)).setCell (by show w.heap.size ≤ w.heap.size + 1 + 1; omega) _).setCell (by show w.heap.size ≤ w.heap.size + 1 + 1; omega) _⟩
  · have h := H.out
    rw [if_neg hc0] at h
    injection h with h
    injection h with ha h
    injection h with hb h
    injection h with hc hd
    subst ha hb hc hd
    have hcb : (c == 0) = false := by simpa using hc0
    have hcb2 : (c != 0) = true := by simpa using hc0
    go_wp2_with fail
    refine bodyPost_ret (results_ctt rfl _ _ (w.heap.size + 2) 24 #[.slice none 0 0, .bool false] (0, 0) _ rfl (blk_put (blk_put (cs' := #[.slice none 0 0, .bool false]) HRes.out 0 _ rfl) 1 _ rfl) Tryd.underlying24 rfl (by kernel_rfl)) rfl ?_
    exact ⟨_, rfl, Kd.S_nil _ _ _ _ _, (HW1.out.setCell (by show w.heap.size ≤ w.heap.size + 1 + 1; omega) _).setCell (by show w.heap.size ≤ w.heap.size + 1 + 1; omega) _⟩

/-! ### dom_All: function 9 -/
/-- Edit by edit. -/
def allGo (k : Nat) (q : Bool) : List S30 → List S28 → Int → Int → Option (List S28 × Bool × Int × Int)
  | [], l, _, _ => some (l, q, 0, 0)
  | e :: es, l, made, i => (editF k l q made e).bind fun t => if t.1 = 0 then allGo k q es t.2.1 t.2.2 (i + 1) else some ([], false, i, t.1)
def dom_All.f (k : Nat) (l0_0 : List S28) (a0_1 : Bool) (l1 : List S30) : Option (List S28 × Bool × Int × Int) :=
  (dom_Check.f k l0_0 a0_1).bind fun c => if c = 0 then (if l1.length > 40 then some ([], false, 0, 2) else if allOk l0_0 = true then allGo k a0_1 l1 l0_0 0 0 else none) else some ([], false, 0, c)
theorem allGo_mono (q : Bool) (k : Nat) : ∀ (es : List S30) (l : List S28) (made i : Int), LeO (allGo k q es l made i) (allGo (k + 1) q es l made i)
  | [], _, _, _ => LeO.refl _
  | e :: es, l, made, i => LeO.bind (editF_mono _ _ _ _ _) fun _ => LeO.ite (allGo_mono q k es _ _ _) (LeO.refl _)
theorem dom_All.mono : ∀ l q es k, LeO (dom_All.f k l q es) (dom_All.f (k + 1) l q es) := by
  intro l q es k
  unfold dom_All.f
  exact LeO.bind (dom_Check.mono _ _ _) fun _ => LeO.ite (LeO.ite (LeO.refl _) (LeO.ite (allGo_mono _ _ _ _ _ _) (LeO.refl _))) (LeO.refl _)
set_option maxRecDepth 100000 in
set_option maxHeartbeats 4000000 in
theorem dom_All.calls (k : Nat) (A0_0 : Option Addr) (c0_0 : Nat) (l0_0 : List S28) (a0_1 : Bool) (A1 : Option Addr) (c1 : Nat) (l1 : List S30) (r1 : List S28) (r2 : Bool) (r3 r4 : Int) (w : World) (hr0_0 : Kd.C k28 w A0_0 l0_0.length l0_0) (hc0_0 : l0_0.length ≤ c0_0) (hr1 : Kd.C k30 w A1 l1.length l1) (hc1 : l1.length ≤ c1) (h : dom_All.f k l0_0 a0_1 l1 = some (r1, r2, r3, r4)) :
    Calls Tryd.prog 9 #[.agg #[.slice A0_0 l0_0.length c0_0, .bool a0_1], .slice A1 l1.length c1] w fun e w' => ∃ v0_ : Value, e = .returned (.tuple #[.agg #[v0_, .bool r2], .int .i64 r3, .int .i64 r4]) ∧ Kd.S k28 28 w' w.heap.size (fun _ => True) v0_ r1 ∧ Below w.heap.size w w' := by
  obtain ⟨c, hk, h⟩ := Option.bind_eq_some_iff.1 h
  obtain ⟨n, hn⟩ : ∃ n, n = l0_0.length := ⟨_, rfl⟩
  obtain ⟨m, hm⟩ : ∃ m, m = l1.length := ⟨_, rfl⟩
  have HC : Hid (∀ W : World, Below w.heap.size w W → Calls Tryd.prog 18 #[.agg #[.slice A0_0 n c0_0, .bool a0_1]] W fun e w' => e = .returned (.int .i64 c) ∧ Below W.heap.size W w') := Lib.hid (by
    rw [hn]
    exact fun W hb => dom_Check.calls k A0_0 c0_0 l0_0 a0_1 c W (Kd.C_below hr0_0 hb) hc0_0 hk)
  have HO : Hid (allOk l0_0 = true → ∀ W : World, Below w.heap.size w W → Calls Tryd.prog 19 #[.agg #[.slice A0_0 n c0_0, .bool a0_1]] W fun e w' => ∃ v0_ : Value, e = .returned (.agg #[v0_, .bool a0_1]) ∧ Kd.S k28 28 w' W.heap.size (fun _ => True) v0_ l0_0 ∧ Below W.heap.size W w') := Lib.hid (by
    rw [hn]
    exact fun ha W hb => dom_own.calls A0_0 c0_0 l0_0 a0_1 W (Kd.C_below hr0_0 hb) hc0_0 (allOk_len ha).1 (allOk_len ha).2)
  have hms : (m : Int) ≤ 9223372036854775807 := by have := hr1.2.1; omega
  rw [← hn, ← hm]
  have HN := Lib.hid hn
  have HM := Lib.hid hm
  have HR1 := Lib.hid hr1
  have H := Lib.hid h
  have HWB : Hid (∀ W1 W : World, ((w.alloc (.cells #[.slice A0_0 n c0_0, .bool a0_1] 24)).alloc (.cells #[.slice none 0 0, .bool false] 24)) = W → Below W.heap.size W W1 → Below w.heap.size w W1 ∧ w.heap.size ≤ W1.heap.size ∧ W1.heap[w.heap.size + 1]? = some (.cells #[.slice none 0 0, .bool false] 24 (0, 0)) ∧ W1.heap[w.heap.size]? = some (.cells #[.slice A0_0 n c0_0, .bool a0_1] 24 (0, 0))) :=
    Lib.hid (fun W1 W h hb => by
      subst h
      have hb0 : Below w.heap.size w ((w.alloc (.cells #[.slice A0_0 n c0_0, .bool a0_1] 24)).alloc (.cells #[.slice none 0 0, .bool false] 24)) := ((Below.refl _ w).alloc (Nat.le_refl _) _).alloc (by simp) _
      have h1 := hb0.trans (hb.mono hb0.size)
      have x1 := blk_below (blk_new (w.alloc (.cells #[.slice A0_0 n c0_0, .bool a0_1] 24)) (.cells #[.slice none 0 0, .bool false] 24)) hb
      have x0 := blk_below (blk_below (blk_new w (.cells #[.slice A0_0 n c0_0, .bool a0_1] 24)) ((Below.refl _ _).alloc (Nat.le_refl _) (.cells #[.slice none 0 0, .bool false] 24))) hb
      exact ⟨h1, h1.size, by simpa using x1, x0⟩)
  clear hr0_0 hc0_0 hr1 hn hm h hk
  go_enter Tryd.func9, Tryd.ntmps9
  go_wp2_with fail
  refine (HC.out _ (by (repeat (first | refine below_alloc ?_ _ | refine below_drew ?_)); exact Below.refl _ _)).mono ?_
  rintro e w1 ⟨rfl, hb1⟩
  obtain ⟨hw1, hsz1, hres, hbox⟩ := HWB.out w1 _ rfl hb1
  have b0 := (blk_cell hbox 0).trans rfl
  have b1 := (blk_cell hbox 1).trans rfl
  have q0 := (blk_cell hres 0).trans rfl
  have q1 := (blk_cell hres 1).trans rfl
  have g0 := blk_frozen hres 0
  have g1 := blk_frozen hres 1
  have HW1 := Lib.hid hw1
  have HRes := Lib.hid hres
  clear hb1 hw1 HWB hres hbox HC
  by_cases hc0 : c = 0
  · subst hc0
    by_cases h40 : m > 40
    · have h := H.out
      rw [if_pos rfl, if_pos (by rw [← HM.out]; exact h40)] at h
      injection h with h
      injection h with ha h
      injection h with hb h
      injection h with hc hd
      subst ha hb hc hd
      have h40b : decide ((40 : Int) < (m : Int)) = true := decide_eq_true (by omega)
      go_wp2_with fail
      refine bodyPost_ret (results_ctt rfl _ _ (w.heap.size + 1) 24 #[.slice none 0 0, .bool false] (0, 0) _ rfl (blk_put (blk_put (cs' := #[.slice none 0 0, .bool false]) HRes.out 0 _ rfl) 1 _ rfl) Tryd.underlying24 rfl (by kernel_rfl)) rfl ?_
      exact ⟨_, rfl, Kd.S_nil _ _ _ _ _, (HW1.out.setCell (by simp) _).setCell (by simp) _⟩
    · have h := H.out
      rw [if_pos rfl, if_neg (by rw [← HM.out]; exact h40)] at h
      have h40b : decide ((40 : Int) < (m : Int)) = false := decide_eq_false (by omega)
      split at h
      case isFalse => exact absurd h (by simp)
      case isTrue hok =>
      have HO1 := Lib.hid (HO.out hok)
      have HG0 := Lib.hid h
      clear H h HO
      go_wp2_with fail
      refine (HO1.out w1 HW1.out).mono ?_
      rintro e w2 ⟨v, rfl, hS, hb2⟩
      have HI : Hid (AllI w1 (w2.alloc (.cells #[v, .bool a0_1, .int .i64 0] 57)) w2.heap.size l0_0 a0_1 0) := Lib.hid ⟨ed_new hb2.size hS (Nat.le_refl _), below_alloc hb2 _⟩
      obtain ⟨A, cc, rfl⟩ := Kd.S_slice hS
      clear hS hb2 HO1 b0 b1 q0 q1 g0 g1
      go_wp2_with fail
      go_loopw [31] (fun i wr => ∃ (t : Nat) (l : List S28) (made : Int), t ≤ m ∧ i = .int .i64 t ∧ Hid (AllI w1 wr w2.heap.size l a0_1 made) ∧ Hid (allGo k a0_1 (l1.drop t) l made t = some (r1, r2, r3, r4))) (fun i _ => m - (intOf i).toNat)
      case atStart => exact ⟨0, l0_0, 0, Nat.zero_le _, rfl, HI, HG0⟩
      case round =>
        obtain ⟨t, l, made, ht, rfl, HA, HG⟩ := hrel
        clear HI HG0
        have HBr : Hid (Below w.heap.size w wr) := Lib.hid (HW1.out.trans (HA.out.below.mono hsz1))
        by_cases hlt : t < m
        · obtain ⟨ad, A8, c8, A11, c11, rfl, d0, d1, d2, d3, d4, d5, d6, d7, d8, d9, d10, d11, l8, h8, l11, h11⟩ := at_T30 HR1.out (t : Int) (by omega) (by have := HM.out; omega)
          have hG := HG.out
          have hl : t < l1.length := by have := HM.out; omega
          rw [List.drop_eq_getElem_cons hl] at hG
          have hrd : rd_T30 l1 (t : Int) = l1[t] := by unfold rd_T30; rw [Int.toNat_natCast, List.getD_eq_getElem?_getD, List.getElem?_eq_getElem hl]; rfl
          rw [hrd] at d0 d1 d2 d3 d4 d5 d6 d7 d8 d9 d10 d11 l8 h8 l11 h11
          rw [Int.toNat_natCast] at d0 d1 d2 d3 d4 d5 d6 d7 d8 d9 d10 d11
          generalize l1[t] = ee at hG d0 d1 d2 d3 d4 d5 d6 d7 d8 d9 d10 d11 l8 h8 l11 h11
          simp only [allGo] at hG
          obtain ⟨⟨er, l', made'⟩, hE, hG⟩ := Option.bind_eq_some_iff.1 hG
          obtain ⟨n8, hn8⟩ : ∃ n8, n8 = ee.f6.f2.length := ⟨_, rfl⟩
          obtain ⟨n11, hn11⟩ : ∃ n11, n11 = ee.f6.f5.length := ⟨_, rfl⟩
          have HEd : Hid (∀ W : World, Below wr.heap.size wr W → Calls Tryd.prog 20 #[.pointer (some ⟨w2.heap.size, 0, none⟩), .agg #[.int .i64 ee.f0, .int .i64 ee.f1, .int .i64 ee.f2, .int .i64 ee.f3, .string ee.f4, .string ee.f5, .int .i64 ee.f6.f0, .string ee.f6.f1, .slice A8 n8 c8, .string ee.f6.f3, .int .i64 ee.f6.f4, .slice A11 n11 c11]] W fun e w' => e = .returned (.int .i64 er) ∧ ((er = 0 → Ed w' w1.heap.size w2.heap.size l' a0_1 made') ∧ Below w1.heap.size w1 w')) := Lib.hid (by
            rw [hn8, hn11]
            exact fun W hb => edit_calls k ee A8 A11 c8 c11 l a0_1 made er l' made' w2.heap.size w1 W (HA.out.below.trans (hb.mono HA.out.below.size)) (HA.out.ed.below hb) (Kd.C_below h8 HW1.out) l8 (Kd.C_below h11 HW1.out) l11 hE)
          rw [← hn8] at d8
          rw [← hn11] at d11
          replace d0 := pw_cell_below HBr.out d0
          replace d1 := pw_cell_below HBr.out d1
          replace d2 := pw_cell_below HBr.out d2
          replace d3 := pw_cell_below HBr.out d3
          replace d4 := pw_cell_below HBr.out d4
          replace d5 := pw_cell_below HBr.out d5
          replace d6 := pw_cell_below HBr.out d6
          replace d7 := pw_cell_below HBr.out d7
          replace d8 := pw_cell_below HBr.out d8
          replace d9 := pw_cell_below HBr.out d9
          replace d10 := pw_cell_below HBr.out d10
          replace d11 := pw_cell_below HBr.out d11
          have HG2 := Lib.hid hG
          clear hG hE l8 h8 l11 h11 hn8 hn11 hrd hl HG
          go_wp2_with fail
          refine (HEd.out _ (by (repeat (first | refine below_alloc ?_ _ | refine below_drew ?_)); exact Below.refl _ _)).mono ?_
          rintro e w3 ⟨rfl, hEd, hb3⟩
          have hres := blk_below HRes.out hb3
          have q0 := (blk_cell hres 0).trans rfl
          have q1 := (blk_cell hres 1).trans rfl
          have g0 := blk_frozen hres 0
          have g1 := blk_frozen hres 1
          have HB3 := Lib.hid hb3
          have HRes3 := Lib.hid hres
          clear hb3 hres d0 d1 d2 d3 d4 d5 d6 d7 d8 d9 d10 d11 HEd
          by_cases her : er = 0
          · subst her
            have HA2 : Hid (AllI w1 w3 w2.heap.size l' a0_1 made') := Lib.hid ⟨hEd rfl, HB3.out⟩
            have hG := HG2.out
            rw [if_pos rfl] at hG
            have HG3 : Hid (allGo k a0_1 (l1.drop (t + 1)) l' made' ((t + 1 : Nat) : Int) = some (r1, r2, r3, r4)) := Lib.hid (by exact_mod_cast hG)
            clear hG HG2 hEd
            go_wp2_with fail
            go_roundw
            case rel => exact ⟨t + 1, l', made', by omega, by simp, HA2, HG3⟩
            case measure => simp [intOf]; omega
          · have hG := HG2.out
            rw [if_neg her] at hG
            injection hG with h
            injection h with ha h
            injection h with hb h
            injection h with hc hd
            subst ha hb hc hd
            have herb : (er != 0) = true := by simpa using her
            clear HG2 hEd
            go_wp2_with fail
            refine bodyPost_ret (results_ctt rfl _ _ (w.heap.size + 1) 24 #[.slice none 0 0, .bool false] (0, 0) _ rfl (blk_put (blk_put (cs' := #[.slice none 0 0, .bool false]) HRes3.out 0 _ rfl) 1 _ rfl) Tryd.underlying24 rfl (by kernel_rfl)) rfl ?_
            exact ⟨_, rfl, Kd.S_nil _ _ _ _ _, ((HW1.out.trans (HB3.out.mono hsz1)).setCell (by simp) _).setCell (by simp) _⟩
        · have hG := HG.out
          have e : t = m := by omega
          rw [e, HM.out, List.drop_length] at hG
          simp only [allGo] at hG
          injection hG with h
          injection h with ha h
          injection h with hb h
          injection h with hc hd
          subst ha hb hc hd
          have hres := blk_below HRes.out HA.out.below
          have q0 := (blk_cell hres 0).trans rfl
          have q1 := (blk_cell hres 1).trans rfl
          have g0 := blk_frozen hres 0
          have g1 := blk_frozen hres 1
          obtain ⟨A', c', hbb, y0, y1, hS⟩ := ed_parts HA.out.ed
          have HRes3 := Lib.hid hres
          have HS := Lib.hid hS
          clear hres hS HG
          go_wp2_with fail
          refine bodyPost_ret (results_ctt rfl _ _ (w.heap.size + 1) 24 #[.slice A' l.length c', .bool a0_1] (0, 0) _ rfl (blk_put (blk_put (cs' := #[.slice A' l.length c', .bool false]) HRes3.out 0 _ rfl) 1 _ rfl) Tryd.underlying24 rfl (by kernel_rfl)) rfl ?_
          exact ⟨_, rfl, Kd.S_set (Kd.S_set (Kd.S_lower HS.out hsz1) HRes3.out (by decide) 0 _) (blk_set HRes3.out 0 _) (by decide) 1 _, ((HBr.out.setCell (by simp) _).setCell (by simp) _)⟩
  · have h := H.out
    rw [if_neg hc0] at h
    injection h with h
    injection h with ha h
    injection h with hb h
    injection h with hc hd
    subst ha hb hc hd
    have hcb : (c == 0) = false := by simpa using hc0
    have hcb2 : (c != 0) = true := by simpa using hc0
    go_wp2_with fail
    refine bodyPost_ret (results_ctt rfl _ _ (w.heap.size + 1) 24 #[.slice none 0 0, .bool false] (0, 0) _ rfl (blk_put (blk_put (cs' := #[.slice none 0 0, .bool false]) HRes.out 0 _ rfl) 1 _ rfl) Tryd.underlying24 rfl (by kernel_rfl)) rfl ?_
    exact ⟨_, rfl, Kd.S_nil _ _ _ _ _, (HW1.out.setCell (by simp) _).setCell (by simp) _⟩

/-! ### apart_root: function 33 -/
def apart_root.l0 : Nat → Int → List (S28) → Bool → Option (Int)
  | 0, _, _, _ => none
  | k + 1, x1, x150000, x150001 => if 0 ≤ x1 then (if x1 < (x150000.length : Int) then (if ((rd_T28 x150000 x1).f4) ≥ 0 then (apart_root.l0 k ((rd_T28 x150000 x1).f4) x150000 x150001) else (some x1)) else (none)) else (none)
def apart_root.f (k : Nat) (l0_0 : List (S28)) (a0_1 : Bool) (a1 : Int) : Option (Int) := apart_root.l0 k a1 l0_0 a0_1
theorem apart_root.mono_l : ∀ k, (∀ y0 y1 y2, LeO (apart_root.l0 k y0 y1 y2) (apart_root.l0 (k + 1) y0 y1 y2))
  | 0 => fun _ _ _ r h => by simp [apart_root.l0] at h
  | k + 1 => by
    have ih0 := apart_root.mono_l k
    · intro y0 y1 y2
      unfold apart_root.l0
      repeat' first
      | (with_reducible exact ih0 _ _ _)
      | (with_reducible exact LeO.refl _)
      | (with_reducible exact LeO.none _)
      | (with_reducible refine LeO.ite ?_ ?_)
      | (with_reducible refine LeO.bind ?_ (fun _ => ?_))
      | exact ih0 _ _ _
      | exact LeO.none _
      | refine LeO.ite ?_ ?_
      | refine LeO.bind ?_ (fun _ => ?_)
theorem apart_root.mono : ∀ a0 a1 a2 k, LeO (apart_root.f k a0 a1 a2) (apart_root.f (k + 1) a0 a1 a2) := by
  intro a0 a1 a2 k
  have ih0 := apart_root.mono_l k
  unfold apart_root.f
  repeat' first
      | (with_reducible exact ih0 _ _ _)
      | (with_reducible exact LeO.refl _)
      | (with_reducible exact LeO.none _)
      | (with_reducible refine LeO.ite ?_ ?_)
      | (with_reducible refine LeO.bind ?_ (fun _ => ?_))
      | exact ih0 _ _ _
      | exact LeO.none _
      | refine LeO.ite ?_ ?_
      | refine LeO.bind ?_ (fun _ => ?_)
set_option maxHeartbeats 8000000 in
set_option maxRecDepth 100000 in
theorem apart_root.calls (k : Nat) (A0_0 : Option Addr) (c0_0 : Nat) (l0_0 : List (S28)) (a0_1 : Bool) (a1 : Int) (r : Int) (w : World) (hr0_0 : Kd.C k28 w A0_0 l0_0.length l0_0) (hc0_0 : l0_0.length ≤ c0_0) (h : apart_root.f k l0_0 a0_1 a1 = some r) :
    Calls Tryd.prog 33 #[.agg #[.slice A0_0 l0_0.length c0_0, .bool a0_1], .int .i64 a1] w fun e w' => e = .returned (.int .i64 r) ∧ Below w.heap.size w w' := by
  have hu24 := Tryd.underlying24
  have HR0_0 := Aside0.mk hr0_0
  have HC0_0 := Aside0.mk hc0_0
  clear hr0_0 hc0_0
  have HB := Aside0.mk (Below.refl w.heap.size w)
  have H : (apart_root.l0 k a1 l0_0 a0_1) = some r := h
  clear h
  have H' := Aside0.mk H
  clear H
  go_enter Tryd.func33, Tryd.ntmps33
  go_wp2_with (first | ((with_reducible refine gate_dst (N := 2) rfl ?_); refine box_event rf_ (N := 2) rf_ (cs := #[.slice A0_0 l0_0.length c0_0, .bool a0_1]) (t := 24) gs_ ?_; intro gb149 hg w3 hbox hb; have BK149 := Aside0.mk hbox; have GW149 := Aside0.mk (gle_ (w := w) hg bl0_); replace HB := Aside0.mk (below_step bl0_ hb); have GE149 := GW149; clear hb hbox hg))
  go_loopg [1] k (fun kq v1 w' => ∃ (x1_1 : Int), v1 = .int .i64 x1_1 ∧ Aside0 (apart_root.l0 kq x1_1 l0_0 a0_1 = some r) ∧ Aside0 (kq ≤ k) ∧ Aside0 (w'.heap[gb149]? = some (.cells #[(.slice A0_0 l0_0.length c0_0), .bool a0_1] 24 (0, 0))) ∧ Aside0 (Below w.heap.size w w'))
  case atStart => exact ⟨(a1), rs_, H', ⟨Nat.le_refl _⟩, ⟨by (with_reducible repeat (first | refine blk_drewN ?_ _ | refine blk_drew ?_ | refine blk_alloc ?_ _)); exact BK149.out⟩, ⟨bl0_⟩⟩
  case round =>
    clear H'
    obtain ⟨x1_1, rfl, HA, HK1, BK149, HB⟩ := hrel
    cases gk with
    | zero => exact absurd HA.out (by simp [apart_root.l0])
    | succ k1 =>
      have H := HA.out
      clear HA
      simp only [apart_root.l0] at H
      by_cases c4 : 0 ≤ x1_1
      · rw [if_pos c4] at H
        have c4b0 : decide (0 ≤ x1_1) = true := decide_eq_true c4
        clear c4
        by_cases c5 : x1_1 < (l0_0.length : Int)
        · rw [if_pos c5] at H
          have c5b0 : decide (x1_1 < (l0_0.length : Int)) = true := decide_eq_true c5
          clear c5
          by_cases c6 : ((rd_T28 l0_0 x1_1).f4) ≥ 0
          · rw [if_pos c6] at H
            have c6b0 : decide (0 ≤ ((rd_T28 l0_0 x1_1).f4)) = true := decide_eq_true c6
            clear c6
            have H' := Aside0.mk H
            clear H
            obtain ⟨hcz7_0, hcz7_1, hfz7_0, hfz7_1⟩ := cf2_ BK149
            have p150 : 0 ≤ (x1_1 : Int) := of_decide_eq_true as_
            have q150 : x1_1 < (l0_0.length : Int) := of_decide_eq_true as_
            obtain ⟨ad150, A150_2, c150_2, A150_5, c150_5, e150, hx150_0, hx150_1, hx150_2, hx150_3, hx150_4, hx150_5, hl150_2, hi150_2, hl150_5, hi150_5⟩ := at_T28 HR0_0.out x1_1 p150 q150
            cases e150
            replace hx150_0 := pw_cell_below HB.out hx150_0
            replace hx150_1 := pw_cell_below HB.out hx150_1
            replace hx150_2 := pw_cell_below HB.out hx150_2
            replace hx150_3 := pw_cell_below HB.out hx150_3
            replace hx150_4 := pw_cell_below HB.out hx150_4
            replace hx150_5 := pw_cell_below HB.out hx150_5
            have HR150_2 := Aside0.mk hi150_2
            have HC150_2 := Aside0.mk hl150_2
            clear hi150_2 hl150_2
            have HR150_5 := Aside0.mk hi150_5
            have HC150_5 := Aside0.mk hl150_5
            clear hi150_5 hl150_5
            replace p150 := eq_true p150
            replace q150 := eq_true q150
            have p151 : 0 ≤ (x1_1 : Int) := of_decide_eq_true as_
            have q151 : x1_1 < (l0_0.length : Int) := of_decide_eq_true as_
            obtain ⟨ad151, A151_2, c151_2, A151_5, c151_5, e151, hx151_0, hx151_1, hx151_2, hx151_3, hx151_4, hx151_5, hl151_2, hi151_2, hl151_5, hi151_5⟩ := at_T28 HR0_0.out x1_1 p151 q151
            obtain rfl : ad150 = ad151 := (by injection e151)
            replace hx151_0 := pw_cell_below HB.out hx151_0
            replace hx151_1 := pw_cell_below HB.out hx151_1
            replace hx151_2 := pw_cell_below HB.out hx151_2
            replace hx151_3 := pw_cell_below HB.out hx151_3
            replace hx151_4 := pw_cell_below HB.out hx151_4
            replace hx151_5 := pw_cell_below HB.out hx151_5
            have HR151_2 := Aside0.mk hi151_2
            have HC151_2 := Aside0.mk hl151_2
            clear hi151_2 hl151_2
            have HR151_5 := Aside0.mk hi151_5
            have HC151_5 := Aside0.mk hl151_5
            clear hi151_5 hl151_5
            replace p151 := eq_true p151
            replace q151 := eq_true q151
            have ea_ := Option.some.inj (hx150_2.symm.trans hx151_2)
            injection ea_ with ea_ en_ ec_
            subst ea_
            subst ec_
            clear en_
            have ea_ := Option.some.inj (hx150_5.symm.trans hx151_5)
            injection ea_ with ea_ en_ ec_
            subst ea_
            subst ec_
            clear en_
            go_wp2
            go_roundg k1
            case measure => have := HK1.out; omega
            case rel => exact ⟨((rd_T28 l0_0 x1_1).f4), rs_, H', ⟨by have := HK1.out; omega⟩, ⟨by (with_reducible repeat (first | refine blk_drewN ?_ _ | refine blk_drew ?_ | refine blk_alloc ?_ _)); exact BK149.out⟩, ⟨bl0_⟩⟩
          · rw [if_neg c6] at H
            have c6b0 : decide (0 ≤ ((rd_T28 l0_0 x1_1).f4)) = false := decide_eq_false c6
            clear c6
            obtain rfl := Option.some.inj H
            obtain ⟨hcz8_0, hcz8_1, hfz8_0, hfz8_1⟩ := cf2_ BK149
            have p150 : 0 ≤ (x1_1 : Int) := of_decide_eq_true as_
            have q150 : x1_1 < (l0_0.length : Int) := of_decide_eq_true as_
            obtain ⟨ad150, A150_2, c150_2, A150_5, c150_5, e150, hx150_0, hx150_1, hx150_2, hx150_3, hx150_4, hx150_5, hl150_2, hi150_2, hl150_5, hi150_5⟩ := at_T28 HR0_0.out x1_1 p150 q150
            cases e150
            replace hx150_0 := pw_cell_below HB.out hx150_0
            replace hx150_1 := pw_cell_below HB.out hx150_1
            replace hx150_2 := pw_cell_below HB.out hx150_2
            replace hx150_3 := pw_cell_below HB.out hx150_3
            replace hx150_4 := pw_cell_below HB.out hx150_4
            replace hx150_5 := pw_cell_below HB.out hx150_5
            have HR150_2 := Aside0.mk hi150_2
            have HC150_2 := Aside0.mk hl150_2
            clear hi150_2 hl150_2
            have HR150_5 := Aside0.mk hi150_5
            have HC150_5 := Aside0.mk hl150_5
            clear hi150_5 hl150_5
            replace p150 := eq_true p150
            replace q150 := eq_true q150
            go_wp2
            go_ret
            exact ⟨er_, bl0_⟩
        · rw [if_neg c5] at H
          exact absurd H (by simp)
      · rw [if_neg c4] at H
        exact absurd H (by simp)

/-! ### slices_Contains_int_int: function 17 -/
def slices_Contains_int_int.f (k : Nat) (l0 : List Int) (a1 : Int) : Option (Bool) := (slices_Index_int_int.f k l0 a1).bind fun t152 => (some (decide (t152 ≥ 0)))
theorem slices_Contains_int_int.mono : ∀ a0 a1 k, LeO (slices_Contains_int_int.f k a0 a1) (slices_Contains_int_int.f (k + 1) a0 a1) := by
  intro a0 a1 k
  unfold slices_Contains_int_int.f
  repeat' first
      | (with_reducible exact slices_Index_int_int.mono _ _ _)
      | (with_reducible exact LeO.refl _)
      | (with_reducible exact LeO.none _)
      | (with_reducible refine LeO.ite ?_ ?_)
      | (with_reducible refine LeO.bind ?_ (fun _ => ?_))
      | exact slices_Index_int_int.mono _ _ _
      | exact LeO.none _
      | refine LeO.ite ?_ ?_
      | refine LeO.bind ?_ (fun _ => ?_)
set_option maxHeartbeats 8000000 in
set_option maxRecDepth 100000 in
theorem slices_Contains_int_int.calls (k : Nat) (A0 : Option Addr) (c0 : Nat) (l0 : List Int) (a1 : Int) (r : Bool) (w : World) (hr0 : Kd.C (Kd.int .i64) w A0 l0.length l0) (hc0 : l0.length ≤ c0) (h : slices_Contains_int_int.f k l0 a1 = some r) :
    Calls Tryd.prog 17 #[.slice A0 l0.length c0, .int .i64 a1] w fun e w' => e = .returned (.bool r) ∧ Drawn0 w w' := by
  have HR0 := Aside0.mk hr0
  have HC0 := Aside0.mk hc0
  clear hr0 hc0
  have H : ((slices_Index_int_int.f k l0 a1).bind fun t152 => (some (decide (t152 ≥ 0)))) = some r := h
  clear h
  replace H := Option.bind_eq_some_iff.mp H
  obtain ⟨t152, A30, H⟩ := H
  replace H : (some (decide (t152 ≥ 0))) = some r := H
  have A3 := Aside0.mk A30
  clear A30
  obtain rfl := Option.some.inj H
  go_enter Tryd.func17, Tryd.ntmps17
  go_wp2_with (first | ((with_reducible refine gate_callee (f := 27) rfl ?_); refine goesL_ (some 7) rfl rfl Tryd.func27 (by kernel_rfl) rfl #[.slice A0 l0.length c0, .int .i64 a1] rfl mp_ ?_; (with_reducible refine (slices_Index_int_int.calls k _ _ l0 a1 t152 _ ?side1 ?side2 A3.out).mono ?_); (case side1 => repeat (first | exact HR0.out | (with_reducible refine Kd.C_alloc ?_ _) | (with_reducible refine Kd.C_drewN ?_ _) | (with_reducible refine Kd.C_drew ?_))); (case side2 => exact HC0.out); rintro e w' ⟨rfl, ⟨nd, rfl⟩⟩; refine ⟨_, rfl, ?_⟩))
  go_ret
  exact ⟨by first | rfl | (simp; done) | (simp [*]; done), by repeat (first | exact Drawn0.refl _ | apply Drawn0.step)⟩

/-- THE ONE PURE STATEMENT of slices_Contains_int_int: yours. -/
def slices_Contains_int_int.Pure : Prop := ∀ (l0 : List Int) (a1 : Int), l0.length ≤ maxLen → l0.length * 8 ≤ 140737488351232 → (∀ x ∈ l0, (Lit.int .i64 x).wf = true) → (Lit.int .i64 a1).wf = true → ∃ k, slices_Contains_int_int.f k l0 a1 = some true
theorem slices_Contains_int_int.walk (P : slices_Contains_int_int.Pure) (a0 : Option Addr) (len0 cap0 : Nat) (z0 : List Int) (a1 : Int) (w : World) (w0 : (a0 = none ∧ len0 = 0 ∧ cap0 = 0 ∧ z0 = []) ∨ ∃ x, a0 = some x ∧ len0 ≤ cap0 ∧ cap0 ≤ maxLen ∧ z0.length = cap0 ∧ (∀ i, i < z0.length → w.cell? (x.add i) = some (.int .i64 (z0.getD i 0))) ∧ ∀ n ∈ z0, (Lit.int .i64 n).wf = true) (y0 : len0 * 8 ≤ 140737488351232) (w1 : (Lit.int .i64 a1).wf = true) :
    Calls Tryd.prog 17 #[.slice a0 len0 cap0, .int .i64 a1] w fun e w' => e = .returned (.bool true) ∧ Below w.heap.size w w' := by
  obtain ⟨l0, rfl, hr0, hm0, hw0, hc0⟩ := ReadsInt.ofRowC w0
  obtain ⟨k, h⟩ := P l0 a1 hm0 y0 hw0 w1
  refine (slices_Contains_int_int.calls k _ _ l0 a1 true w (Kd.C_of_reads (d := (0 : Int)) (h1 := fun _ => rfl) hr0) hc0 h).mono ?_
  rintro e w' ⟨rfl, hd⟩
  exact ⟨rfl, hd.below⟩

end Go.Proofs.YthfalaabfgpjmaaDoor.PAP
