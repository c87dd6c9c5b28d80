-- printed by wip/tools/pr.py (own) through the kit's printer; texts GIVEN by hand stand among them
import Derived.Test.YtmcinclecpeakaaGreatDoorPRRx0
import Derived.Test.YtmcinclecpeakaaGreatDoorPRRx1
import Derived.Test.YtmcinclecpeakaaGreatDoorPRRx6
import Derived.Test.YtmcinclecpeakaaGreatDoorPRRx8
namespace Go.Proofs.YtmcinclecpeakaaGreatDoor.PRR
open Go.RowKit Go.Proofs.YtmcinclecpeakaaGreatDoorW.PrintWords Go.Proofs.YtmcinclecpeakaaGreatDoorW.PrintLast Go.Proofs.YtmcinclecpeakaaGreatDoorW.PrintMore
attribute [local go_sem] max2_int min2_int max_two min_two max_three min_three max_four min_four   -- for this text's walks alone
set_option linter.unusedVariables false
set_option linter.unusedSimpArgs false

/-! ### dom_editor_attr: function 55 -/
theorem own_set1 {B g n c k sz : Nat} {e : TypeId} {w : World} {inner : List Value} (v : Value) (h : w.ownsRow B e sz (.slice (some ⟨g, 0, none⟩) n c) n inner) :
  (w.setCell ⟨g, k, none⟩ v).ownsRow B e sz (.slice (some ⟨g, 0, none⟩) n c) n (inner.set k v) ∧ w.grownBy (w.setCell ⟨g, k, none⟩ v) (some g) := by
 obtain ⟨hl, h | ⟨g', cap, cur, hv, hb, hg, h1, h2, h3, h4⟩⟩ := h
 ·exact absurd h.1 (by simp)
 ·injection hv with e1 e2 e3
  injection e1 with e1
  injection e1 with e1
  subst e1 e3
  refine ⟨⟨by simp [hl], .inr ⟨g, c, _, rfl, hb, blk_set hg k v, h1, h2, by simpa using h3, ?_⟩⟩, ⟨rfl, rfl, rfl, by simp [World.setCell], fun j _ hj => by simp only [World.setCell, Array.getElem?_modify]; rw [if_neg (fun he => hj (by rw [← he]))]⟩⟩
  simp [List.take_set, h4]
theorem attrC_set {xs : List S66} {inner : List Value} (h : Reps attrC 2 xs inner) (i : Nat) (nm v : ByteArray) (hnm : ∀ x, xs[i]? = some x → x.f0 = nm) : Reps attrC 2 (xs.set i ⟨nm, v⟩) (inner.set (i * 2 + 1) (.string v)) := by
 refine ⟨by simpa using h.1, fun j x hx => ?_⟩
 have hj : j < xs.length := by
  have := (List.getElem?_eq_some_iff.1 hx).1
  simpa using this
 have hc := h.2 j xs[j] (List.getElem?_eq_getElem hj)
 unfold attrC at hc ⊢
 rw [List.drop_set]
 rw [List.getElem?_set] at hx
 by_cases he : i = j
 ·subst he
  rw [if_neg (by omega), List.take_set, hc, show i * 2 + 1 - i * 2 = 1 by omega]
  simp [hj] at hx
  subst hx
  simp [hnm _ (List.getElem?_eq_getElem hj)]
 ·rw [if_neg he, List.getElem?_eq_getElem hj] at hx
  injection hx with hx
  subst hx
  split
  ·exact hc
  ·rw [List.take_set, hc, List.set_eq_of_length_le (by show 2 ≤ _; omega)]
/-- A node's row of attributes is written in place. -/
theorem ed_attrs0 {B gr n c i : Nat} {wx : World} {l : List S43} {xi : S43} {v2 : Value} (hS : Kd.S k43 43 wx B (fun _ => True) (.slice (some ⟨gr, 0, none⟩) n c) l) (hi : i < n) (hxi : l[i]? = some xi) (hv2 : wx.cell? ⟨gr, i * 6 + 2, none⟩ = some v2) :
  (∃ inner, wx.ownsRow B 66 2 v2 xi.f2.length inner ∧ Reps attrC 2 xi.f2 inner) ∧ ∀ (W W4 : World) (ys : List S66) (inner' : List Value), Below wx.heap.size wx W → W.grownBy W4 v2.ownBlock → W4.ownsRow B 66 2 v2 ys.length inner' → Reps attrC 2 ys inner' →
   Kd.S k43 43 W4 B (fun _ => True) (.slice (some ⟨gr, 0, none⟩) n c) (l.set i ⟨xi.f0, xi.f1, ys, xi.f3, xi.f4, xi.f5⟩) := by
 have hS2 : Kd.S k43 43 wx B (fun j => True ∧ ¬ wx.heap.size ≤ j) (.slice (some ⟨gr, 0, none⟩) n c) l := Kd.S_mono (Kd.S_bound hS) (fun j hj => ⟨trivial, by have := hj.2.2.1; omega⟩)
 obtain ⟨oki, cc, hcl, hM, hcc, hfr, hoki, hH⟩ := Kd.S_elem hS2 z43 (i : Int) (by omega) (by omega)
 rw [show l.getD (i : Int).toNat z43 = xi from by rw [Int.toNat_natCast, List.getD_eq_getElem?_getD, hxi]; rfl] at hM
 obtain ⟨v2', v5, hcs, hR2, hR5⟩ := k43_openM hM
 subst hcs
 have e2 : wx.cell? ⟨gr, i * 6 + 2, none⟩ = some v2' := hcc 2 _ rfl
 obtain rfl : v2' = v2 := by rw [e2] at hv2; exact Option.some.inj hv2
 have hgt := Kd.S_typed hS gr (by simp [Value.ownBlock])
 have hown : ∃ inner, wx.ownsRow B 66 2 v2' xi.f2.length inner ∧ Reps attrC 2 xi.f2 inner := by
  obtain ⟨_, inner, ho, hr⟩ := hR2
  exact ⟨inner, ho, hr.imp_ (fun x cs hx => k66_openM hx)⟩
 have hown' := hown
 obtain ⟨inner0, ho0, _⟩ := hown'
 refine ⟨hown, fun W W4 ys inner' hb hg ho hr => ?_⟩
 have hok2 : ∀ k, v2'.ownBlock = some k → oki k ∧ k < wx.heap.size ∧ k ≠ gr := fun k hk => ⟨hR2.1 k hk, own_lt ho0 k hk, (hoki k (hR2.1 k hk)).2⟩
 have hH4 := Kd.H_grown (Kd.H_below (Kd.H_more hH (fun j hj => trivial)) hb) hg (fun k hk => .inl (hok2 k hk).1)
 have hR5t := Kd.R_tight rfl hR5
 have hne5 : ∀ k, some k = v5.ownBlock → some k ≠ v2'.ownBlock ∧ k ≠ gr ∧ oki k := fun k hk => by
  obtain ⟨cs5, ht5⟩ := Kd.R_typed hR5 k hk.symm
  refine ⟨fun he => ?_, (hoki k (hR5.1 k hk.symm)).2, hR5.1 k hk.symm⟩
  obtain ⟨cs2, ht2⟩ := Kd.R_typed hR2 k he.symm
  exact blk_ne ht5 ht2 (by decide) rfl
 have hR5' := Kd.R_step (Kd.R_below hR5t hb) (fun k hk hlt => hg.block k hlt (hne5 k hk).1)
 have hR2' : k66.R 66 W4 B (fun k => oki k ∨ wx.heap.size ≤ k) v2' ys :=
  ⟨fun k hk => .inl (hok2 k hk).1, inner', ho, hr.imp_ (fun x cs hx => by rw [hx]; exact k66_mkM _ _ _ x)⟩
 have h4 := Kd.H_back hH4 (x' := ⟨xi.f0, xi.f1, ys, xi.f3, xi.f4, xi.f5⟩) (okp := fun j => oki j ∨ wx.heap.size ≤ j) (k43_mkM _ _ _ ⟨xi.f0, xi.f1, ys, xi.f3, xi.f4, xi.f5⟩ hR2' (Kd.R_mono hR5' (fun k hk => .inl (hne5 k hk).2.2))) (fun j hj => hj)
 rw [Int.toNat_natCast] at h4
 exact h4
def attrE (l : List S43) (e : S45) : Option (Int × List S43) :=
 if 0 ≤ e.f1 ∧ e.f1 < (l.length : Int) then
  (if (rd_T43 l e.f1).f0 = 2 then
   (if (rd_T43 l e.f1).f2.length ≤ 1000 then
    (dom_find.f (rd_T43 l e.f1).f2 e.f4).bind fun i => (dom_attrName.f e.f4).bind fun nm =>
     if nm = false then some (3, l) else if 400 < (e.f5.size : Int) then some (2, l) else if i < 0 ∧ (rd_T43 l e.f1).f2.length = 12 then some (2, l) else none
   else none)
  else some (7, l))
 else some (5, l)
set_option maxRecDepth 100000 in
set_option maxHeartbeats 4000000 in
theorem attr_err (e : S45) (A8 A11 : Option Addr) (n8 n11 c8 c11 : Nat) (l : List S43) (q : Bool) (made : Int) (b : Nat) (r : Int) (l' : List S43) (w0 w : World) (hw : Below w0.heap.size w0 w) (hE : Ed w w0.heap.size b l q made) (h : attrE l e = some (r, l')) :
  Calls Tryz.prog 55 #[.pointer (some ⟨b, 0, none⟩), editV e A8 A11 n8 n11 c8 c11] w fun u w' => u = .returned (.int .i64 r) ∧ Ed w' w0.heap.size b l' q made ∧ Below w0.heap.size w0 w' := by
 obtain ⟨A, c, hB, hblk, hS⟩ := ed_open hE
 obtain ⟨n, hn⟩ : ∃ n, n = l.length := ⟨_, rfl⟩
 rw [← hn] at hblk hS
 have HE : Hid (∀ W : World, Below w.heap.size w W → Ed W w0.heap.size b l q made ∧ Below w0.heap.size w0 W) := Lib.hid (fun W h => ⟨hE.below h, hw.trans (h.mono hw.size)⟩)
 have HC : Hid (∀ W : World, Below w.heap.size w W → W.cell? ⟨b, 0, none⟩ = some (.slice A n c)) := Lib.hid (fun W h => pw_cell_below h ((blk_cell hblk 0).trans rfl))
 have HBx := Lib.hid ((Below.refl _ w).alloc (Nat.le_refl _) (.cells #[.int .i64 e.f0, .int .i64 e.f1, .int .i64 e.f2, .int .i64 e.f3, .string e.f4, .string e.f5, .int .i64 e.f6.f0, .string e.f6.f1, .slice A8 n8 c8, .string e.f6.f3, .int .i64 e.f6.f4, .slice A11 n11 c11] 45))
 have hbx4 : (w.alloc (.cells #[.int .i64 e.f0, .int .i64 e.f1, .int .i64 e.f2, .int .i64 e.f3, .string e.f4, .string e.f5, .int .i64 e.f6.f0, .string e.f6.f1, .slice A8 n8 c8, .string e.f6.f3, .int .i64 e.f6.f4, .slice A11 n11 c11] 45)).cell? ⟨w.heap.size, 4, none⟩ = some (.string e.f4) := by simp [go_sem]
 have hbx5 : (w.alloc (.cells #[.int .i64 e.f0, .int .i64 e.f1, .int .i64 e.f2, .int .i64 e.f3, .string e.f4, .string e.f5, .int .i64 e.f6.f0, .string e.f6.f1, .slice A8 n8 c8, .string e.f6.f3, .int .i64 e.f6.f4, .slice A11 n11 c11] 45)).cell? ⟨w.heap.size, 5, none⟩ = some (.string e.f5) := by simp [go_sem]
 unfold attrE at h
 unfold editV
 by_cases hin : 0 ≤ e.f1 ∧ e.f1 < (l.length : Int)
 ·rw [if_pos hin] at h
  obtain ⟨i, hi⟩ : ∃ i : Nat, (i : Int) = e.f1 := ⟨e.f1.toNat, by omega⟩
  obtain ⟨gr, cap, hv, hbr, hgr, cells, hty⟩ := Kd.S_form hS (by omega)
  injection hv with hA hn' hc'
  subst hA
  clear hn' hc'
  have hgb : gr ≠ b := fun he => blk_ne hty hblk (by decide) he
  obtain ⟨x, hx⟩ : ∃ x, rd_T43 l e.f1 = x := ⟨_, rfl⟩
  have hxi : l[i]? = some x := by
   rw [← hx, ← hi]
   unfold rd_T43
   rw [Int.toNat_natCast, List.getD_eq_getElem?_getD, List.getElem?_eq_getElem (by omega)]
   rfl
  rw [hx] at h
  obtain ⟨hn2, hnc, hrow⟩ := Kd.S_reads' hS
  obtain ⟨adi, A2, c2, A5, c5, ei, i0, -, i2, -, -, -, h2l, h2, -⟩ := at_T43 hrow (i : Int) (by omega) (by omega)
  cases ei
  rw [hi, hx] at i0 i2 h2l h2
  obtain ⟨m2, hm2⟩ : ∃ m2, m2 = x.f2.length := ⟨_, rfl⟩
  rw [← hm2] at i2
  have i0' : w.cell? ⟨gr, i * 6, none⟩ = some (.int .i64 x.f0) := by simpa [add_at, ← hi] using i0
  have i2' : w.cell? ⟨gr, i * 6 + 2, none⟩ = some (.slice A2 m2 c2) := by simpa [add_at, ← hi] using i2
  by_cases h1 : x.f0 = 2
  ·rw [if_pos h1] at h
   split at h
   case isFalse => exact absurd h (by simp)
   case isTrue hlm =>
   obtain ⟨ix, hix, h⟩ := Option.bind_eq_some_iff.1 h
   have HEl : Hid (∀ W : World, Below w.heap.size w W → Calls Tryz.prog 82 #[.pointer (some ⟨b, 0, none⟩), .int .i64 e.f1] W fun u w' => u = .returned (.tuple #[.pointer (some ⟨gr, i * 6, none⟩), .int .i64 0]) ∧ W = w') :=
    Lib.hid (fun W h => by rw [← hi]; exact element_in b gr n c i W (HC.out W h) (by omega) (pw_cell_below h (by rw [i0', h1])))
   have HFd : Hid (∀ W : World, Below w.heap.size w W → Calls Tryz.prog 81 #[.slice A2 m2 c2, .string e.f4] W fun u w' => u = .returned (.int .i64 ix) ∧ Below W.heap.size W w') :=
    Lib.hid (by rw [hm2]; exact fun W h => dom_find.calls A2 c2 x.f2 e.f4 ix W (Kd.C_below h2 h) h2l hix)
   have HCl : Hid (∀ W1 : World, (w.alloc (.cells #[.int .i64 e.f0, .int .i64 e.f1, .int .i64 e.f2, .int .i64 e.f3, .string e.f4, .string e.f5, .int .i64 e.f6.f0, .string e.f6.f1, .slice A8 n8 c8, .string e.f6.f3, .int .i64 e.f6.f4, .slice A11 n11 c11] 45)) = W1 → Below w.heap.size w W1 ∧ ∀ W : World, Below W1.heap.size W1 W → Below w.heap.size w W ∧ W.cell? ⟨gr, i * 6 + 2, none⟩ = some (.slice A2 m2 c2) ∧ W.cell? ⟨w.heap.size, 4, none⟩ = some (.string e.f4) ∧ W.cell? ⟨w.heap.size, 5, none⟩ = some (.string e.f5)) :=
    Lib.hid (fun W1 h => by
     subst h
     refine ⟨HBx.out, fun W hW => ?_⟩
     have hbw := HBx.out.trans (hW.mono HBx.out.size)
     exact ⟨hbw, pw_cell_below hbw i2', pw_cell_below hW hbx4, pw_cell_below hW hbx5⟩)
   obtain ⟨nm, hnm, h⟩ := Option.bind_eq_some_iff.1 h
   have HAn : Hid (∀ W : World, Calls Tryz.prog 80 #[.string e.f4] W fun u w' => u = .returned (.bool nm) ∧ Below W.heap.size W w') :=
    Lib.hid (fun W => dom_attrName.calls e.f4 nm W hnm)
   by_cases hq : nm = false
   ·rw [if_pos hq] at h
    injection h with h
    injection h with ha hb
    subst ha hb hq
    clear hE hblk hS hw hB hin hx hxi hn2 hnc hrow i0 i2 h2 h2l hm2 i0' i2' hty h1 hn hix hlm hbx4 hbx5 hgb hnm
    go_enter Tryz.func55, Tryz.ntmps55
    go_wp2_with fail
    obtain ⟨hb1, hcl⟩ := HCl.out _ rfl
    refine (HEl.out _ HBx.out).mono ?_
    rintro u w' ⟨rfl, rfl⟩
    generalize (w.alloc (.cells #[.int .i64 e.f0, .int .i64 e.f1, .int .i64 e.f2, .int .i64 e.f3, .string e.f4, .string e.f5, .int .i64 e.f6.f0, .string e.f6.f1, .slice A8 n8 c8, .string e.f6.f3, .int .i64 e.f6.f4, .slice A11 n11 c11] 45)) = w1 at hb1 hcl
    have HC1 := Lib.hid hcl
    clear hcl hb1 HCl
    have HF1 : Hid (∀ W : World, Below w1.heap.size w1 W → Calls Tryz.prog 81 #[.slice A2 m2 c2, .string e.f4] W fun u w' => u = .returned (.int .i64 ix) ∧ Below w1.heap.size w1 w') := Lib.hid (fun W h => (HFd.out W (HC1.out W h).1).mono fun u w' ⟨h1, h2⟩ => ⟨h1, h.trans (h2.mono h.size)⟩)
    go_upto_region 4 with fail
    go_region_held3 (fun W => W.cell? ⟨gr, i * 6 + 2, none⟩ = some (.slice A2 m2 c2) ∧ W.cell? ⟨w.heap.size, 4, none⟩ = some (.string e.f4) ∧ W.cell? ⟨w.heap.size, 5, none⟩ = some (.string e.f5)) (exact (HC1.out _ (by (repeat (first | refine below_drew ?_)); first | exact hb2 | exact Below.refl _ _)).2)
     (first | (with_reducible refine (HF1.out _ ?_).mono ?_; ((repeat (first | refine below_drew ?_)); exact Below.refl _ _); rintro u w2 ⟨rfl, hb2⟩))
    all_goals
     obtain ⟨hb2w, y2, y3, y4⟩ := HC1.out w2 hb2
     go_wp2_with fail
     refine (HAn.out _).mono ?_
     rintro u w3 ⟨rfl, hb3⟩
     have hb3w := (HC1.out w3 (hb2.trans (hb3.mono hb2.size))).1
     go_wp2_with fail
     go_ret
     exact ⟨rfl, HE.out _ hb3w⟩
   ·rw [if_neg hq] at h
    have hq' : nm = true := by cases nm <;> simp_all
    subst hq'
    by_cases hs : 400 < (e.f5.size : Int)
    ·rw [if_pos hs] at h
     injection h with h
     injection h with ha hb
     subst ha hb
     have hs' : decide ((e.f5.size : Int) > 400) = true := decide_eq_true hs
     have hs2 : decide (400 < (e.f5.size : Int)) = true := decide_eq_true hs
     clear hs hq
     clear hE hblk hS hw hB hin hx hxi hn2 hnc hrow i0 i2 h2 h2l hm2 i0' i2' hty h1 hn hix hlm hbx4 hbx5 hgb hnm
     go_enter Tryz.func55, Tryz.ntmps55
     go_wp2_with fail
     obtain ⟨hb1, hcl⟩ := HCl.out _ rfl
     refine (HEl.out _ HBx.out).mono ?_
     rintro u w' ⟨rfl, rfl⟩
     generalize (w.alloc (.cells #[.int .i64 e.f0, .int .i64 e.f1, .int .i64 e.f2, .int .i64 e.f3, .string e.f4, .string e.f5, .int .i64 e.f6.f0, .string e.f6.f1, .slice A8 n8 c8, .string e.f6.f3, .int .i64 e.f6.f4, .slice A11 n11 c11] 45)) = w1 at hb1 hcl
     have HC1 := Lib.hid hcl
     clear hcl hb1 HCl
     have HF1 : Hid (∀ W : World, Below w1.heap.size w1 W → Calls Tryz.prog 81 #[.slice A2 m2 c2, .string e.f4] W fun u w' => u = .returned (.int .i64 ix) ∧ Below w1.heap.size w1 w') := Lib.hid (fun W h => (HFd.out W (HC1.out W h).1).mono fun u w' ⟨h1, h2⟩ => ⟨h1, h.trans (h2.mono h.size)⟩)
     go_upto_region 4 with fail
     go_region_held3 (fun W => W.cell? ⟨gr, i * 6 + 2, none⟩ = some (.slice A2 m2 c2) ∧ W.cell? ⟨w.heap.size, 4, none⟩ = some (.string e.f4) ∧ W.cell? ⟨w.heap.size, 5, none⟩ = some (.string e.f5)) (exact (HC1.out _ (by (repeat (first | refine below_drew ?_)); first | exact hb2 | exact Below.refl _ _)).2)
      (first | (with_reducible refine (HF1.out _ ?_).mono ?_; ((repeat (first | refine below_drew ?_)); exact Below.refl _ _); rintro u w2 ⟨rfl, hb2⟩))
     all_goals
      obtain ⟨hb2w, y2, y3, y4⟩ := HC1.out w2 hb2
      go_wp2_with fail
      refine (HAn.out _).mono ?_
      rintro u w3 ⟨rfl, hb3⟩
      obtain ⟨hb3w, z2, z3, z4⟩ := (HC1.out w3 (hb2.trans (hb3.mono hb2.size)))
      clear y2 y3 y4
      go_wp2_with fail
      go_ret
      exact ⟨rfl, HE.out _ hb3w⟩
    ·rw [if_neg hs] at h
     split at h
     case isFalse => exact absurd h (by simp)
     case isTrue hl12 =>
     injection h with h
     injection h with ha hb
     subst ha hb
     have hs' : decide ((e.f5.size : Int) > 400) = false := decide_eq_false hs
     have hs2 : decide (400 < (e.f5.size : Int)) = false := decide_eq_false hs
     have hi' : decide (ix < 0) = true := decide_eq_true hl12.1
     have h12 : decide ((m2 : Int) = 12) = true := decide_eq_true (by rw [hm2, hl12.2]; rfl)
     have h12' : ((m2 : Int) == 12) = true := by rw [hm2, hl12.2]; rfl
     clear hs hq hl12
     clear hE hblk hS hw hB hin hx hxi hn2 hnc hrow i0 i2 h2 h2l hm2 i0' i2' hty h1 hn hix hlm hbx4 hbx5 hgb hnm
     go_enter Tryz.func55, Tryz.ntmps55
     go_wp2_with fail
     obtain ⟨hb1, hcl⟩ := HCl.out _ rfl
     refine (HEl.out _ HBx.out).mono ?_
     rintro u w' ⟨rfl, rfl⟩
     generalize (w.alloc (.cells #[.int .i64 e.f0, .int .i64 e.f1, .int .i64 e.f2, .int .i64 e.f3, .string e.f4, .string e.f5, .int .i64 e.f6.f0, .string e.f6.f1, .slice A8 n8 c8, .string e.f6.f3, .int .i64 e.f6.f4, .slice A11 n11 c11] 45)) = w1 at hb1 hcl
     have HC1 := Lib.hid hcl
     clear hcl hb1 HCl
     have HF1 : Hid (∀ W : World, Below w1.heap.size w1 W → Calls Tryz.prog 81 #[.slice A2 m2 c2, .string e.f4] W fun u w' => u = .returned (.int .i64 ix) ∧ Below w1.heap.size w1 w') := Lib.hid (fun W h => (HFd.out W (HC1.out W h).1).mono fun u w' ⟨h1, h2⟩ => ⟨h1, h.trans (h2.mono h.size)⟩)
     go_upto_region 4 with fail
     go_region_held3 (fun W => W.cell? ⟨gr, i * 6 + 2, none⟩ = some (.slice A2 m2 c2) ∧ W.cell? ⟨w.heap.size, 4, none⟩ = some (.string e.f4) ∧ W.cell? ⟨w.heap.size, 5, none⟩ = some (.string e.f5)) (exact (HC1.out _ (by (repeat (first | refine below_drew ?_)); first | exact hb2 | exact Below.refl _ _)).2)
      (first | (with_reducible refine (HF1.out _ ?_).mono ?_; ((repeat (first | refine below_drew ?_)); exact Below.refl _ _); rintro u w2 ⟨rfl, hb2⟩))
     all_goals
      obtain ⟨hb2w, y2, y3, y4⟩ := HC1.out w2 hb2
      go_wp2_with fail
      refine (HAn.out _).mono ?_
      rintro u w3 ⟨rfl, hb3⟩
      obtain ⟨hb3w, z2, z3, z4⟩ := (HC1.out w3 (hb2.trans (hb3.mono hb2.size)))
      clear y2 y3 y4
      go_wp2_with fail
      go_ret
      exact ⟨rfl, HE.out _ hb3w⟩
  ·rw [if_neg h1] at h
   injection h with h
   injection h with ha hb
   subst ha hb
   have HEl : Hid (∀ W : World, Below w.heap.size w W → Calls Tryz.prog 82 #[.pointer (some ⟨b, 0, none⟩), .int .i64 e.f1] W fun u w' => u = .returned (.tuple #[.pointer none, .int .i64 7]) ∧ W = w') :=
    Lib.hid (fun W h => by rw [← hi]; exact element_kind b gr n c i x.f0 W (HC.out W h) (by omega) (pw_cell_below h i0') h1)
   clear hE hblk hS hw hB hin hx hxi hn2 hnc hrow i0 i2 h2 h2l hm2 i0' i2' hty h1 hn hbx4 hbx5
   go_enter Tryz.func55, Tryz.ntmps55
   go_wp2_with fail
   refine (HEl.out _ HBx.out).mono ?_
   rintro u w' ⟨rfl, rfl⟩
   go_wp2_with fail
   go_ret
   exact ⟨rfl, HE.out _ HBx.out⟩
 ·rw [if_neg hin] at h
  injection h with h
  injection h with ha hb
  subst ha hb
  have HEl : Hid (∀ W : World, Below w.heap.size w W → Calls Tryz.prog 82 #[.pointer (some ⟨b, 0, none⟩), .int .i64 e.f1] W fun u w' => u = .returned (.tuple #[.pointer none, .int .i64 5]) ∧ W = w') :=
   Lib.hid (fun W h => element_out b n c A e.f1 W (HC.out W h) (by omega))
  clear hE hblk hS hw hB hin hn hbx4 hbx5
  go_enter Tryz.func55, Tryz.ntmps55
  go_wp2_with fail
  refine (HEl.out _ HBx.out).mono ?_
  rintro u w' ⟨rfl, rfl⟩
  go_wp2_with fail
  go_ret
  exact ⟨rfl, HE.out _ HBx.out⟩
set_option maxRecDepth 100000 in
set_option maxHeartbeats 4000000 in
theorem attr_put (e : S45) (A8 A11 : Option Addr) (n8 n11 c8 c11 : Nat) (l : List S43) (q : Bool) (made : Int) (b : Nat) (w0 w : World) (hw : Below w0.heap.size w0 w) (hE : Ed w w0.heap.size b l q made) (hin : 0 ≤ e.f1 ∧ e.f1 < (l.length : Int)) (h1 : (rd_T43 l e.f1).f0 = 2) (hlm : (rd_T43 l e.f1).f2.length ≤ 1000) (ixn : Nat) (hix : dom_find.f (rd_T43 l e.f1).f2 e.f4 = some (ixn : Int)) (hlt : ixn < (rd_T43 l e.f1).f2.length) (hnm : dom_attrName.f e.f4 = some true) (hs : ¬ 400 < (e.f5.size : Int)) :
  Calls Tryz.prog 55 #[.pointer (some ⟨b, 0, none⟩), editV e A8 A11 n8 n11 c8 c11] w fun u w' => u = .returned (.int .i64 0) ∧ Ed w' w0.heap.size b (l.set e.f1.toNat { rd_T43 l e.f1 with f2 := (rd_T43 l e.f1).f2.set ixn ⟨(rd_T66 (rd_T43 l e.f1).f2 ixn).f0, e.f5⟩ }) q made ∧ Below w0.heap.size w0 w' := by
 obtain ⟨A, c, hB, hblk, hS⟩ := ed_open hE
 obtain ⟨n, hn⟩ : ∃ n, n = l.length := ⟨_, rfl⟩
 rw [← hn] at hblk hS
 have HE : Hid (∀ W : World, Below w.heap.size w W → Ed W w0.heap.size b l q made ∧ Below w0.heap.size w0 W) := Lib.hid (fun W h => ⟨hE.below h, hw.trans (h.mono hw.size)⟩)
 have HC : Hid (∀ W : World, Below w.heap.size w W → W.cell? ⟨b, 0, none⟩ = some (.slice A n c)) := Lib.hid (fun W h => pw_cell_below h ((blk_cell hblk 0).trans rfl))
 have HBx := Lib.hid ((Below.refl _ w).alloc (Nat.le_refl _) (.cells #[.int .i64 e.f0, .int .i64 e.f1, .int .i64 e.f2, .int .i64 e.f3, .string e.f4, .string e.f5, .int .i64 e.f6.f0, .string e.f6.f1, .slice A8 n8 c8, .string e.f6.f3, .int .i64 e.f6.f4, .slice A11 n11 c11] 45))
 have hbx4 : (w.alloc (.cells #[.int .i64 e.f0, .int .i64 e.f1, .int .i64 e.f2, .int .i64 e.f3, .string e.f4, .string e.f5, .int .i64 e.f6.f0, .string e.f6.f1, .slice A8 n8 c8, .string e.f6.f3, .int .i64 e.f6.f4, .slice A11 n11 c11] 45)).cell? ⟨w.heap.size, 4, none⟩ = some (.string e.f4) := by simp [go_sem]
 have hbx5 : (w.alloc (.cells #[.int .i64 e.f0, .int .i64 e.f1, .int .i64 e.f2, .int .i64 e.f3, .string e.f4, .string e.f5, .int .i64 e.f6.f0, .string e.f6.f1, .slice A8 n8 c8, .string e.f6.f3, .int .i64 e.f6.f4, .slice A11 n11 c11] 45)).cell? ⟨w.heap.size, 5, none⟩ = some (.string e.f5) := by simp [go_sem]
 unfold editV
 obtain ⟨i, hi⟩ : ∃ i : Nat, (i : Int) = e.f1 := ⟨e.f1.toNat, by omega⟩
 obtain ⟨gr, cap, hv, hbr, hgr, cells, hty⟩ := Kd.S_form hS (by omega)
 injection hv with hA hn' hc'
 subst hA
 clear hn' hc'
 have hgb : gr ≠ b := fun he => blk_ne hty hblk (by decide) he
 obtain ⟨x, hx⟩ : ∃ x, rd_T43 l e.f1 = x := ⟨_, rfl⟩
 have hxi : l[i]? = some x := by
   rw [← hx, ← hi]
   unfold rd_T43
   rw [Int.toNat_natCast, List.getD_eq_getElem?_getD, List.getElem?_eq_getElem (by omega)]
   rfl
 rw [hx] at h1 hlm hix hlt ⊢
 rw [← hi, Int.toNat_natCast]
 obtain ⟨hn2, hnc, hrow⟩ := Kd.S_reads' hS
 obtain ⟨adi, A2, c2, A5, c5, ei, i0, -, i2, -, -, -, h2l, h2, -⟩ := at_T43 hrow (i : Int) (by omega) (by omega)
 cases ei
 rw [hi, hx] at i0 i2 h2l h2
 obtain ⟨m2, hm2⟩ : ∃ m2, m2 = x.f2.length := ⟨_, rfl⟩
 rw [← hm2] at i2
 have i0' : w.cell? ⟨gr, i * 6, none⟩ = some (.int .i64 x.f0) := by simpa [add_at, ← hi] using i0
 have i2' : w.cell? ⟨gr, i * 6 + 2, none⟩ = some (.slice A2 m2 c2) := by simpa [add_at, ← hi] using i2
 have HEl : Hid (∀ W : World, Below w.heap.size w W → Calls Tryz.prog 82 #[.pointer (some ⟨b, 0, none⟩), .int .i64 e.f1] W fun u w' => u = .returned (.tuple #[.pointer (some ⟨gr, i * 6, none⟩), .int .i64 0]) ∧ W = w') :=
  Lib.hid (fun W h => by rw [← hi]; exact element_in b gr n c i W (HC.out W h) (by omega) (pw_cell_below h (by rw [i0', h1])))
 have HFd : Hid (∀ W : World, Below w.heap.size w W → Calls Tryz.prog 81 #[.slice A2 m2 c2, .string e.f4] W fun u w' => u = .returned (.int .i64 (ixn : Int)) ∧ Below W.heap.size W w') :=
  Lib.hid (by rw [hm2]; exact fun W h => dom_find.calls A2 c2 x.f2 e.f4 (ixn : Int) W (Kd.C_below h2 h) h2l hix)
 have HCl : Hid (∀ W1 : World, (w.alloc (.cells #[.int .i64 e.f0, .int .i64 e.f1, .int .i64 e.f2, .int .i64 e.f3, .string e.f4, .string e.f5, .int .i64 e.f6.f0, .string e.f6.f1, .slice A8 n8 c8, .string e.f6.f3, .int .i64 e.f6.f4, .slice A11 n11 c11] 45)) = W1 → Below w.heap.size w W1 ∧ ∀ W : World, Below W1.heap.size W1 W → Below w.heap.size w W ∧ W.cell? ⟨gr, i * 6 + 2, none⟩ = some (.slice A2 m2 c2) ∧ W.cell? ⟨w.heap.size, 4, none⟩ = some (.string e.f4) ∧ W.cell? ⟨w.heap.size, 5, none⟩ = some (.string e.f5)) :=
  Lib.hid (fun W1 h => by
   subst h
   refine ⟨HBx.out, fun W hW => ?_⟩
   have hbw := HBx.out.trans (hW.mono HBx.out.size)
   exact ⟨hbw, pw_cell_below hbw i2', pw_cell_below hW hbx4, pw_cell_below hW hbx5⟩)
 have HAn : Hid (∀ W : World, Calls Tryz.prog 80 #[.string e.f4] W fun u w' => u = .returned (.bool true) ∧ Below W.heap.size W w') :=
  Lib.hid (fun W => dom_attrName.calls e.f4 true W hnm)
 obtain ⟨⟨inner0, hown, hrep0⟩, -⟩ := ed_attrs0 hS (by omega) hxi i2'
 rw [← hm2] at hown hlt
 obtain ⟨g2, hv2, hB2, hg2, cells2, hty2⟩ : ∃ g2, A2 = some ⟨g2, 0, none⟩ ∧ w0.heap.size ≤ g2 ∧ g2 < w.heap.size ∧ ∃ cells, w.heap[g2]? = some (.cells cells 66 (0, 0)) := by
  obtain ⟨_, h2⟩ := hown
  rcases h2 with ⟨_, h2⟩ | ⟨g, cap, cur, hv, hb, hg, _⟩
  ·omega
  ·injection hv with e1 e2 e3
   exact ⟨g, e1, hb, blk_lt hg, cur, hg⟩
 subst hv2
 have hgg2 : gr ≠ g2 := fun he => blk_ne hty hty2 (by decide) he
 have hbg2 : b ≠ g2 := fun he => blk_ne hblk hty2 (by decide) he
 have hrn : ∀ y, x.f2[ixn]? = some y → y.f0 = (rd_T66 x.f2 (ixn : Int)).f0 := fun y hy => by
  unfold rd_T66
  rw [Int.toNat_natCast, List.getD_eq_getElem?_getD, hy]
  rfl
 obtain ⟨nm, hnmd⟩ : ∃ nm, nm = (rd_T66 x.f2 (ixn : Int)).f0 := ⟨_, rfl⟩
 rw [← hnmd] at hrn ⊢
 have HC2 : Hid (∀ W : World, Below w.heap.size w W → W.cell? ⟨g2, ixn * 2 + 1, none⟩ = some (.string (rd_T66 x.f2 (ixn : Int)).f1) ∧ W.frozen? ⟨g2, ixn * 2 + 1, none⟩ = false) :=
  Lib.hid (fun W hW => by
   obtain ⟨ad, ea, -, c1⟩ := at_T66 h2 (ixn : Int) (by omega) (by omega)
   cases ea
   refine ⟨?_, blk_frozen (blk_below hty2 hW) _⟩
   have := pw_cell_below hW c1
   simpa [add_at] using this)
 have HFin : Hid (∀ W, Below w.heap.size w W → Ed (W.setCell ⟨g2, ixn * 2 + 1, none⟩ (.string e.f5)) w0.heap.size b (l.set i ⟨x.f0, x.f1, x.f2.set ixn ⟨nm, e.f5⟩, x.f3, x.f4, x.f5⟩) q made ∧ Below w0.heap.size w0 (W.setCell ⟨g2, ixn * 2 + 1, none⟩ (.string e.f5))) :=
  Lib.hid (fun W hW => by
   obtain ⟨⟨inner, ho, hrep⟩, hK⟩ := ed_attrs0 (Kd.S_below hS hW) (show i < n by omega) hxi (pw_cell_below hW i2')
   rw [← hm2] at ho
   obtain ⟨ho', hg'⟩ := own_set1 (k := ixn * 2 + 1) (.string e.f5) ho
   have hrow' := hK W _ (x.f2.set ixn ⟨nm, e.f5⟩) _ (Below.refl _ _) hg' (by rw [List.length_set, ← hm2]; exact ho') (attrC_set hrep ixn nm e.f5 hrn)
   exact ⟨⟨_, hB, blk_far (blk_below hblk hW) hbg2 _, hrow'⟩, (hw.trans (hW.mono hw.size)).setCell hB2 _⟩)
 have hs' : decide ((e.f5.size : Int) > 400) = false := decide_eq_false hs
 have hs2 : decide (400 < (e.f5.size : Int)) = false := decide_eq_false hs
 have hi0 : decide ((ixn : Int) < 0) = false := decide_eq_false (by omega)
 have hi1 : (0 : Int) ≤ (ixn : Int) := by omega
 have hi2 : ((ixn : Int) < (m2 : Int)) := by omega
 have hib : decide ((ixn : Int) < (m2 : Int)) = true := decide_eq_true hi2
 clear hE hblk hS hw hB hin hx hxi hn2 hnc hrow i0 i2 h2 h2l hm2 i0' i2' hty h1 hn hix hlm hbx4 hbx5 hgb hnm hs hown hrep0 hty2 hB2 hbg2 hrn hnmd hlt
 go_enter Tryz.func55, Tryz.ntmps55
 go_wp2_with fail
 obtain ⟨hb1, hcl⟩ := HCl.out _ rfl
 refine (HEl.out _ HBx.out).mono ?_
 rintro u w' ⟨rfl, rfl⟩
 generalize (w.alloc (.cells #[.int .i64 e.f0, .int .i64 e.f1, .int .i64 e.f2, .int .i64 e.f3, .string e.f4, .string e.f5, .int .i64 e.f6.f0, .string e.f6.f1, .slice A8 n8 c8, .string e.f6.f3, .int .i64 e.f6.f4, .slice A11 n11 c11] 45)) = w1 at hb1 hcl
 have HC1 := Lib.hid hcl
 clear hcl hb1 HCl
 have HF1 : Hid (∀ W : World, Below w1.heap.size w1 W → Calls Tryz.prog 81 #[.slice (some ⟨g2, 0, none⟩) m2 c2, .string e.f4] W fun u w' => u = .returned (.int .i64 (ixn : Int)) ∧ Below w1.heap.size w1 w') := Lib.hid (fun W h => (HFd.out W (HC1.out W h).1).mono fun u w' ⟨h1, h2⟩ => ⟨h1, h.trans (h2.mono h.size)⟩)
 go_upto_region 4 with fail
 go_region_held3 (fun W => W.cell? ⟨gr, i * 6 + 2, none⟩ = some (.slice (some ⟨g2, 0, none⟩) m2 c2) ∧ W.cell? ⟨w.heap.size, 4, none⟩ = some (.string e.f4) ∧ W.cell? ⟨w.heap.size, 5, none⟩ = some (.string e.f5)) (exact (HC1.out _ (by (repeat (first | refine below_drew ?_)); first | exact hb2 | exact Below.refl _ _)).2)
  (first | (with_reducible refine (HF1.out _ ?_).mono ?_; ((repeat (first | refine below_drew ?_)); exact Below.refl _ _); rintro u w2 ⟨rfl, hb2⟩))
 all_goals
  obtain ⟨hb2w, y2, y3, y4⟩ := HC1.out w2 hb2
  go_wp2_with fail
  refine (HAn.out _).mono ?_
  rintro u w3 ⟨rfl, hb3⟩
  have hb13 := hb2.trans (hb3.mono hb2.size)
  obtain ⟨hb3w, z2, z3, z4⟩ := HC1.out w3 hb13
  obtain ⟨u1, u2⟩ := HC2.out w3 hb3w
  clear y2 y3 y4
  have HW3 := Lib.hid (fun W (h : Below w3.heap.size w3 W) => (HC1.out W (hb13.trans (h.mono hb13.size))).2)
  have HB3 := Lib.hid hb3w
  clear hb13 hb2w hb3w hb2 hb3 HC1 HF1
  go_upto_region 12 with fail
  have hS0 : w3.drew.cell? ⟨gr, i * 6 + 2, none⟩ = some (.slice (some ⟨g2, 0, none⟩) m2 c2) ∧ w3.drew.cell? ⟨w.heap.size, 5, none⟩ = some (.string e.f5) := ⟨(HW3.out _ (below_drew (Below.refl _ _))).1, (HW3.out _ (below_drew (Below.refl _ _))).2.2⟩
  refine late_begin (S := fun W => W.cell? ⟨gr, i * 6 + 2, none⟩ = some (.slice (some ⟨g2, 0, none⟩) m2 c2) ∧ W.cell? ⟨w.heap.size, 5, none⟩ = some (.string e.f5)) 9 10 (by kernel_rfl) rfl hS0 (fun hS => ?_)
  have HS := Lib.hid hS
  have HD3 := Lib.hid (HB3.out.trans ((below_drew (Below.refl _ w3)).mono HB3.out.size))
  obtain ⟨v1, v2⟩ := HC2.out _ HD3.out
  clear hS0 hS z2 z3 z4 u1 u2
  refine lt_ 0 30 68 9 ?_
  refine lt_ 1 30 69 8 ?_
  refine lt_ 2 30 70 7 ?_
  refine lt_ 3 30 71 6 ?_
  refine lt_ 4 30 72 5 ?_
  refine lt_ 5 30 73 4 ?_
  refine lt_ 6 30 74 3 ?_
  refine lt_ 7 30 75 2 ?_
  refine lt_ 8 30 76 1 ?_
  refine late_last 9 0 ({ dst := none, op := Op.store 9 (Operand.tmp 76) (Operand.tmp 74), type := 0, pos := "edit.go:66", after := #[{ on := 8, ground := Ground.data }, { on := 6, ground := Ground.data }, { on := 0, ground := Ground.phase }, { on := 1, ground := Ground.phase }, { on := 2, ground := Ground.phase }, { on := 3, ground := Ground.phase }, { on := 4, ground := Ground.phase }, { on := 5, ground := Ground.phase }, { on := 6, ground := Ground.phase }], guard := none }) rfl (by kernel_rfl) rfl (by rfl) (by kernel_rfl) (fun K' hK => ?_)
  go_simp
  refine hK.out _ _ ?_
  clear HS hK K'
  go_wp2_with fail
  go_ret
  exact ⟨rfl, HFin.out _ HD3.out⟩
theorem wr_one (m : Nat) (h : m ≤ 1000) : wrap64 (m : Int) = m := by unfold wrap64; omega
theorem wr_two (m : Nat) (h : m ≤ 1000) : wrap64 ((m : Int) + 1 - 1) = m := by unfold wrap64; omega
theorem wr_three (m : Nat) (h : m ≤ 1000) : wrap64 (((m + 1 : Nat) : Int) - 1) = m := by unfold wrap64; omega
theorem wr_four (m : Nat) (h : m ≤ 1000) : (m + 1) * 32 ≤ 140737488355328 := by omega
set_option maxRecDepth 100000 in
set_option maxHeartbeats 4000000 in
theorem attr_new (e : S45) (A8 A11 : Option Addr) (n8 n11 c8 c11 : Nat) (l : List S43) (q : Bool) (made : Int) (b : Nat) (w0 w : World) (hw : Below w0.heap.size w0 w) (hE : Ed w w0.heap.size b l q made) (hin : 0 ≤ e.f1 ∧ e.f1 < (l.length : Int)) (h1 : (rd_T43 l e.f1).f0 = 2) (hlm : (rd_T43 l e.f1).f2.length ≤ 1000) (ix : Int) (hix : dom_find.f (rd_T43 l e.f1).f2 e.f4 = some ix) (hneg : ix < 0) (hl12 : (rd_T43 l e.f1).f2.length ≠ 12) (hnm : dom_attrName.f e.f4 = some true) (hs : ¬ 400 < (e.f5.size : Int)) :
  Calls Tryz.prog 55 #[.pointer (some ⟨b, 0, none⟩), editV e A8 A11 n8 n11 c8 c11] w fun u w' => u = .returned (.int .i64 0) ∧ Ed w' w0.heap.size b (l.set e.f1.toNat { rd_T43 l e.f1 with f2 := (rd_T43 l e.f1).f2 ++ [⟨e.f4, e.f5⟩] }) q made ∧ Below w0.heap.size w0 w' := by
 obtain ⟨A, c, hB, hblk, hS⟩ := ed_open hE
 obtain ⟨n, hn⟩ : ∃ n, n = l.length := ⟨_, rfl⟩
 rw [← hn] at hblk hS
 have HE : Hid (∀ W : World, Below w.heap.size w W → Ed W w0.heap.size b l q made ∧ Below w0.heap.size w0 W) := Lib.hid (fun W h => ⟨hE.below h, hw.trans (h.mono hw.size)⟩)
 have HC : Hid (∀ W : World, Below w.heap.size w W → W.cell? ⟨b, 0, none⟩ = some (.slice A n c)) := Lib.hid (fun W h => pw_cell_below h ((blk_cell hblk 0).trans rfl))
 have HBx := Lib.hid ((Below.refl _ w).alloc (Nat.le_refl _) (.cells #[.int .i64 e.f0, .int .i64 e.f1, .int .i64 e.f2, .int .i64 e.f3, .string e.f4, .string e.f5, .int .i64 e.f6.f0, .string e.f6.f1, .slice A8 n8 c8, .string e.f6.f3, .int .i64 e.f6.f4, .slice A11 n11 c11] 45))
 have hbx4 : (w.alloc (.cells #[.int .i64 e.f0, .int .i64 e.f1, .int .i64 e.f2, .int .i64 e.f3, .string e.f4, .string e.f5, .int .i64 e.f6.f0, .string e.f6.f1, .slice A8 n8 c8, .string e.f6.f3, .int .i64 e.f6.f4, .slice A11 n11 c11] 45)).cell? ⟨w.heap.size, 4, none⟩ = some (.string e.f4) := by simp [go_sem]
 have hbx5 : (w.alloc (.cells #[.int .i64 e.f0, .int .i64 e.f1, .int .i64 e.f2, .int .i64 e.f3, .string e.f4, .string e.f5, .int .i64 e.f6.f0, .string e.f6.f1, .slice A8 n8 c8, .string e.f6.f3, .int .i64 e.f6.f4, .slice A11 n11 c11] 45)).cell? ⟨w.heap.size, 5, none⟩ = some (.string e.f5) := by simp [go_sem]
 unfold editV
 obtain ⟨i, hi⟩ : ∃ i : Nat, (i : Int) = e.f1 := ⟨e.f1.toNat, by omega⟩
 obtain ⟨gr, cap, hv, hbr, hgr, cells, hty⟩ := Kd.S_form hS (by omega)
 injection hv with hA hn' hc'
 subst hA
 clear hn' hc'
 have hgb : gr ≠ b := fun he => blk_ne hty hblk (by decide) he
 obtain ⟨x, hx⟩ : ∃ x, rd_T43 l e.f1 = x := ⟨_, rfl⟩
 have hxi : l[i]? = some x := by
   rw [← hx, ← hi]
   unfold rd_T43
   rw [Int.toNat_natCast, List.getD_eq_getElem?_getD, List.getElem?_eq_getElem (by omega)]
   rfl
 rw [hx] at h1 hlm hix hl12 ⊢
 rw [← hi, Int.toNat_natCast]
 obtain ⟨hn2, hnc, hrow⟩ := Kd.S_reads' hS
 obtain ⟨adi, A2, c2, A5, c5, ei, i0, -, i2, -, -, -, h2l, h2, -⟩ := at_T43 hrow (i : Int) (by omega) (by omega)
 cases ei
 rw [hi, hx] at i0 i2 h2l h2
 obtain ⟨m2, hm2⟩ : ∃ m2, m2 = x.f2.length := ⟨_, rfl⟩
 rw [← hm2] at i2
 have i0' : w.cell? ⟨gr, i * 6, none⟩ = some (.int .i64 x.f0) := by simpa [add_at, ← hi] using i0
 have i2' : w.cell? ⟨gr, i * 6 + 2, none⟩ = some (.slice A2 m2 c2) := by simpa [add_at, ← hi] using i2
 have HEl : Hid (∀ W : World, Below w.heap.size w W → Calls Tryz.prog 82 #[.pointer (some ⟨b, 0, none⟩), .int .i64 e.f1] W fun u w' => u = .returned (.tuple #[.pointer (some ⟨gr, i * 6, none⟩), .int .i64 0]) ∧ W = w') :=
  Lib.hid (fun W h => by rw [← hi]; exact element_in b gr n c i W (HC.out W h) (by omega) (pw_cell_below h (by rw [i0', h1])))
 have HFd : Hid (∀ W : World, Below w.heap.size w W → Calls Tryz.prog 81 #[.slice A2 m2 c2, .string e.f4] W fun u w' => u = .returned (.int .i64 ix) ∧ Below W.heap.size W w') :=
  Lib.hid (by rw [hm2]; exact fun W h => dom_find.calls A2 c2 x.f2 e.f4 ix W (Kd.C_below h2 h) h2l hix)
 have HCl : Hid (∀ W1 : World, (w.alloc (.cells #[.int .i64 e.f0, .int .i64 e.f1, .int .i64 e.f2, .int .i64 e.f3, .string e.f4, .string e.f5, .int .i64 e.f6.f0, .string e.f6.f1, .slice A8 n8 c8, .string e.f6.f3, .int .i64 e.f6.f4, .slice A11 n11 c11] 45)) = W1 → Below w.heap.size w W1 ∧ ∀ W : World, Below W1.heap.size W1 W → Below w.heap.size w W ∧ W.cell? ⟨gr, i * 6 + 2, none⟩ = some (.slice A2 m2 c2) ∧ W.cell? ⟨w.heap.size, 4, none⟩ = some (.string e.f4) ∧ W.cell? ⟨w.heap.size, 5, none⟩ = some (.string e.f5)) :=
  Lib.hid (fun W1 h => by
   subst h
   refine ⟨HBx.out, fun W hW => ?_⟩
   have hbw := HBx.out.trans (hW.mono HBx.out.size)
   exact ⟨hbw, pw_cell_below hbw i2', pw_cell_below hW hbx4, pw_cell_below hW hbx5⟩)
 have HAn : Hid (∀ W : World, Calls Tryz.prog 80 #[.string e.f4] W fun u w' => u = .returned (.bool true) ∧ Below W.heap.size W w') :=
  Lib.hid (fun W => dom_attrName.calls e.f4 true W hnm)
 obtain ⟨⟨inner0, hown, hrep0⟩, -⟩ := ed_attrs hS (by omega) hxi i2'
 rw [← hm2] at hown
 have hne2 : ∀ k', (Value.slice A2 m2 c2).ownBlock = some k' → k' < w.heap.size ∧ k' ≠ gr ∧ k' ≠ b ∧ w0.heap.size ≤ k' := fun k' hk' => by
  have hk2 := own_lt hown k' hk'
  obtain ⟨_, h2⟩ := hown
  rcases h2 with ⟨h2, _⟩ | ⟨g, cap, cur, hv, hb, hg, _⟩
  ·rw [h2] at hk'; cases hk'
  ·rw [hv] at hk'
   injection hk' with hk'
   subst hk'
   exact ⟨hk2, fun he => blk_ne hty hg (by decide) he.symm, fun he => blk_ne hblk hg (by decide) he.symm, hb⟩
 have hltb : b < w.heap.size := blk_lt hblk
 have HG : Hid (∀ W4 : World, Below w.heap.size w W4 → W4.cell? ⟨w.heap.size, 4, none⟩ = some (.string e.f4) → W4.cell? ⟨w.heap.size, 5, none⟩ = some (.string e.f5) → ∃ inner, W4.ownsRow w0.heap.size 66 2 (.slice A2 m2 c2) m2 inner ∧ Below w0.heap.size w0 W4 ∧ w0.heap.size ≤ W4.heap.size ∧
   ∀ v1 w5, w5.ownsRow w0.heap.size 66 2 v1 (m2 + 1) (inner ++ [.string e.f4, .string ⟨#[]⟩]) → W4.grownBy w5 (Value.slice A2 m2 c2).ownBlock → (v1.ownBlock = (Value.slice A2 m2 c2).ownBlock ∨ ∃ b, v1.ownBlock = some b ∧ W4.heap.size ≤ b) →
    ∃ g9 c9, v1 = .slice (some ⟨g9, 0, none⟩) (m2 + 1) c9 ∧ w5.cell? ⟨gr, i * 6 + 2, none⟩ = some (.slice A2 m2 c2) ∧ w5.cell? ⟨w.heap.size, 4, none⟩ = some (.string e.f4) ∧ w5.frozen? ⟨gr, i * 6 + 2, none⟩ = false ∧
     ∀ W : World, Below (w5.setCell ⟨gr, i * 6 + 2, none⟩ v1).heap.size (w5.setCell ⟨gr, i * 6 + 2, none⟩ v1) W →
      W.cell? ⟨gr, i * 6 + 2, none⟩ = some v1 ∧ W.cell? ⟨w.heap.size, 5, none⟩ = some (.string e.f5) ∧ W.cell? ⟨g9, m2 * 2 + 1, none⟩ = some (.string ⟨#[]⟩) ∧ W.frozen? ⟨g9, m2 * 2 + 1, none⟩ = false ∧
      Ed (W.setCell ⟨g9, m2 * 2 + 1, none⟩ (.string e.f5)) w0.heap.size b (l.set i ⟨x.f0, x.f1, x.f2 ++ [⟨e.f4, e.f5⟩], x.f3, x.f4, x.f5⟩) q made ∧ Below w0.heap.size w0 (W.setCell ⟨g9, m2 * 2 + 1, none⟩ (.string e.f5))) :=
  Lib.hid (fun W4 hW hb4 hb5 => by
   have i24 := pw_cell_below hW i2'
   obtain ⟨⟨inner, ho, hrep⟩, hK⟩ := ed_attrs (Kd.S_below hS hW) (show i < n by omega) hxi i24
   rw [← hm2] at ho
   refine ⟨inner, ho, hw.trans (hW.mono hw.size), Nat.le_trans hw.size hW.size, fun v1 w5 ho5 hg5 hat => ?_⟩
   have ho5' := ho5
   obtain ⟨hl5, ⟨_, h0⟩ | ⟨g9, c9, cur, rfl, hB9, hg9, hc1, hc2, hcs, hct⟩⟩ := ho5'
   ·omega
   have hgrne : some gr ≠ (Value.slice A2 m2 c2).ownBlock := fun he => (hne2 gr he.symm).2.1 rfl
   have hbne : some b ≠ (Value.slice A2 m2 c2).ownBlock := fun he => (hne2 b he.symm).2.2.1 rfl
   have hxne : some w.heap.size ≠ (Value.slice A2 m2 c2).ownBlock := fun he => by have := (hne2 _ he.symm).1; omega
   have hgr5 := (hg5.block gr (Nat.lt_of_lt_of_le hgr hW.size) hgrne).trans (hW.block gr hgr)
   have hb5' := (hg5.block b (Nat.lt_of_lt_of_le hltb hW.size) hbne).trans (hW.block b hltb)
   have hrone : Reps attrC 2 [(⟨e.f4, ⟨#[]⟩⟩ : S66)] [.string e.f4, .string ⟨#[]⟩] := ⟨rfl, fun j y hj => by
    cases j with
    | zero => injection hj with hj; subst hj; rfl
    | succ j => simp at hj⟩
   have hrow := hK W4 w5 (.slice (some ⟨g9, 0, none⟩) (m2 + 1) c9) (x.f2 ++ [⟨e.f4, ⟨#[]⟩⟩]) _ (Below.refl _ _) hg5 (by rw [List.length_append, ← hm2]; exact ho5) (Kd.reps_append hrep hrone) hat rfl
   have hg9b : g9 ≠ b := fun he => by rw [he, hb5', hblk] at hg9; exact absurd hg9 (by simp)
   have hg9r : g9 ≠ gr := fun he => by rw [he, hgr5, hty] at hg9; exact absurd hg9 (by simp)
   have hbel5 : Below w0.heap.size w0 w5 := (hw.trans (hW.mono hw.size)).grown hg5 (Nat.le_trans hw.size hW.size) (fun k hk => (hne2 k hk).2.2.2)
   refine ⟨g9, c9, rfl, (World.cell?_of_block hgr5).trans i2', hg5.cell hb4 hxne, blk_frozen (hgr5.trans hty) _, fun W hW6 => ?_⟩
   have hbel6 : Below w0.heap.size w0 (w5.setCell ⟨gr, i * 6 + 2, none⟩ (.slice (some ⟨g9, 0, none⟩) (m2 + 1) c9)) := hbel5.setCell hbr _
   have c26 : (w5.setCell ⟨gr, i * 6 + 2, none⟩ (.slice (some ⟨g9, 0, none⟩) (m2 + 1) c9)).cell? ⟨gr, i * 6 + 2, none⟩ = some (.slice (some ⟨g9, 0, none⟩) (m2 + 1) c9) := by
    have := (World.cell?_of_block hgr5).trans i2'
    simp [go_sem, this]
   have hg96 : (w5.setCell ⟨gr, i * 6 + 2, none⟩ (.slice (some ⟨g9, 0, none⟩) (m2 + 1) c9)).heap[g9]? = some (.cells cur 66 (0, 0)) := blk_far hg9 hg9r _
   have hb6 : (w5.setCell ⟨gr, i * 6 + 2, none⟩ (.slice (some ⟨g9, 0, none⟩) (m2 + 1) c9)).heap[b]? = some (.cells #[.slice (some ⟨gr, 0, none⟩) n c, .bool q, .int .i64 made] 62 (0, 0)) := blk_far (hb5'.trans hblk) (Ne.symm hgb) _
   have c56 : (w5.setCell ⟨gr, i * 6 + 2, none⟩ (.slice (some ⟨g9, 0, none⟩) (m2 + 1) c9)).cell? ⟨w.heap.size, 5, none⟩ = some (.string e.f5) := by
    have h5 := hg5.cell hb5 hxne
    have hne : gr ≠ w.heap.size := by omega
    have hbl : (w5.setCell ⟨gr, i * 6 + 2, none⟩ (.slice (some ⟨g9, 0, none⟩) (m2 + 1) c9)).heap[w.heap.size]? = w5.heap[w.heap.size]? := by
     simp only [World.setCell, Array.getElem?_modify]
     rw [if_neg hne]
    exact (World.cell?_of_block hbl).trans h5
   have hcell : cur[m2 * 2 + 1]? = some (.string ⟨#[]⟩) := by
    have hin : inner.length = m2 * 2 := by have := ho.1; exact this
    have e1 : (cur.toList.take ((m2 + 1) * 2))[m2 * 2 + 1]? = some (.string ⟨#[]⟩) := by
     rw [hct, List.getElem?_append_right (by omega), hin, show m2 * 2 + 1 - m2 * 2 = 1 by omega]
     rfl
    rw [List.getElem?_take_of_lt (by omega)] at e1
    simpa using e1
   obtain ⟨⟨innr, hor, hrepr⟩, hK0⟩ := ed_attrs0 (Kd.S_below hrow hW6) (show i < n by omega) (show (l.set i ⟨x.f0, x.f1, x.f2 ++ [⟨e.f4, ⟨#[]⟩⟩], x.f3, x.f4, x.f5⟩)[i]? = some ⟨x.f0, x.f1, x.f2 ++ [⟨e.f4, ⟨#[]⟩⟩], x.f3, x.f4, x.f5⟩ by rw [List.getElem?_set_self (by omega)]) (pw_cell_below hW6 c26)
   rw [show (x.f2 ++ [(⟨e.f4, ⟨#[]⟩⟩ : S66)]).length = m2 + 1 by rw [List.length_append, ← hm2]; rfl] at hor
   obtain ⟨ho', hg'⟩ := own_set1 (k := m2 * 2 + 1) (.string e.f5) hor
   have hset : (x.f2 ++ [(⟨e.f4, ⟨#[]⟩⟩ : S66)]).set m2 ⟨e.f4, e.f5⟩ = x.f2 ++ [⟨e.f4, e.f5⟩] := by
    rw [List.set_append_right _ _ (by omega), hm2, Nat.sub_self]
    rfl
   have hrow' := hK0 W _ (x.f2 ++ [⟨e.f4, e.f5⟩]) _ (Below.refl _ _) hg' (by rw [List.length_append, ← hm2]; exact ho') (by
    have := attrC_set hrepr m2 e.f4 e.f5 (fun y hy => by
     rw [List.getElem?_append_right (by omega), hm2, Nat.sub_self] at hy
     injection hy with hy
     rw [← hy])
    rwa [hset] at this)
   rw [List.set_set] at hrow'
   refine ⟨pw_cell_below hW6 c26, pw_cell_below hW6 c56, (blk_cell (blk_below hg96 hW6) _).trans hcell, blk_frozen (blk_below hg96 hW6) _, ⟨_, hB, blk_far (blk_below hb6 hW6) (Ne.symm hg9b) _, hrow'⟩, (hbel6.trans (hW6.mono hbel6.size)).setCell hB9 _⟩)
 have hs' : decide ((e.f5.size : Int) > 400) = false := decide_eq_false hs
 have hs2 : decide (400 < (e.f5.size : Int)) = false := decide_eq_false hs
 have hi0 : decide (ix < 0) = true := decide_eq_true hneg
 have h12 : decide ((m2 : Int) = 12) = false := decide_eq_false (by omega)
 have h12' : ((m2 : Int) == 12) = false := by simp; omega
 have hmb : m2 ≤ 1000 := by omega
 have hix0 : (0 : Int) ≤ (m2 : Int) := by omega
 have hix1 : (m2 : Int) < ((m2 + 1 : Nat) : Int) := by omega
 have hix2 : (m2 : Int) < (m2 : Int) + 1 := by omega
 have hml := wr_one m2 hmb
 have hml1 := wr_two m2 hmb
 have hml2 := wr_three m2 hmb
 clear hE hblk hS hw hB hin hx hxi hn2 hnc hrow i0 i2 h2 h2l hm2 i0' i2' hty h1 hn hix hlm hbx4 hbx5 hgb hnm hs hown hrep0 hne2 hltb hneg hl12 hgr hbr
 go_enter Tryz.func55, Tryz.ntmps55
 go_wp2_with fail
 obtain ⟨hb1, hcl⟩ := HCl.out _ rfl
 refine (HEl.out _ HBx.out).mono ?_
 rintro u w' ⟨rfl, rfl⟩
 generalize (w.alloc (.cells #[.int .i64 e.f0, .int .i64 e.f1, .int .i64 e.f2, .int .i64 e.f3, .string e.f4, .string e.f5, .int .i64 e.f6.f0, .string e.f6.f1, .slice A8 n8 c8, .string e.f6.f3, .int .i64 e.f6.f4, .slice A11 n11 c11] 45)) = w1 at hb1 hcl
 have HC1 := Lib.hid hcl
 clear hcl hb1 HCl
 have HF1 : Hid (∀ W : World, Below w1.heap.size w1 W → Calls Tryz.prog 81 #[.slice A2 m2 c2, .string e.f4] W fun u w' => u = .returned (.int .i64 ix) ∧ Below w1.heap.size w1 w') := Lib.hid (fun W h => (HFd.out W (HC1.out W h).1).mono fun u w' ⟨h1, h2⟩ => ⟨h1, h.trans (h2.mono h.size)⟩)
 go_upto_region 4 with fail
 go_region_held3 (fun W => W.cell? ⟨gr, i * 6 + 2, none⟩ = some (.slice A2 m2 c2) ∧ W.cell? ⟨w.heap.size, 4, none⟩ = some (.string e.f4) ∧ W.cell? ⟨w.heap.size, 5, none⟩ = some (.string e.f5)) (exact (HC1.out _ (by (repeat (first | refine below_drew ?_)); first | exact hb2 | exact Below.refl _ _)).2)
  (first | (with_reducible refine (HF1.out _ ?_).mono ?_; ((repeat (first | refine below_drew ?_)); exact Below.refl _ _); rintro u w2 ⟨rfl, hb2⟩))
 all_goals
  obtain ⟨hb2w, y2, y3, y4⟩ := HC1.out w2 hb2
  go_wp2_with fail
  refine (HAn.out _).mono ?_
  rintro u w3 ⟨rfl, hb3⟩
  have hb13 := hb2.trans (hb3.mono hb2.size)
  obtain ⟨hb3w, z2, z3, z4⟩ := HC1.out w3 hb13
  clear y2 y3 y4
  have HW3 := Lib.hid (fun W (h : Below w3.heap.size w3 W) => (HC1.out W (hb13.trans (h.mono hb13.size))).2)
  have HB3 := Lib.hid hb3w
  clear hb13 hb2w hb3w hb2 hb3 HC1 HF1
  go_upto_region 10 with fail
  have HW4 := Lib.hid (HG.out w3.drew (HB3.out.trans ((below_drew (Below.refl _ w3)).mono HB3.out.size)) (HW3.out _ (below_drew (Below.refl _ _))).2.1 (HW3.out _ (below_drew (Below.refl _ _))).2.2)
  have hS0 : w3.drew.cell? ⟨gr, i * 6 + 2, none⟩ = some (.slice A2 m2 c2) ∧ w3.drew.cell? ⟨w.heap.size, 4, none⟩ = some (.string e.f4) := ⟨(HW3.out _ (below_drew (Below.refl _ _))).1, (HW3.out _ (below_drew (Below.refl _ _))).2.1⟩
  refine late_begin (S := fun W => W.cell? ⟨gr, i * 6 + 2, none⟩ = some (.slice A2 m2 c2) ∧ W.cell? ⟨w.heap.size, 4, none⟩ = some (.string e.f4)) 12 13 (by kernel_rfl) rfl hS0 (fun hS => ?_)
  have HS := Lib.hid hS
  clear hS0 hS z2 z3 z4
  refine lt_ 0 30 50 12 ?_
  refine lt_ 1 30 51 11 ?_
  refine lt_ 2 30 52 10 ?_
  refine lt_ 3 30 53 9 ?_
  refine lt_ 4 30 54 8 ?_
  refine lt_ 5 30 55 7 ?_
  refine lt_ 6 30 56 6 ?_
  refine lt_ 7 30 57 5 ?_
  refine late_only 8 4 ({ dst := some 58, op := Op.buildSlice 41 1 #[(0, Operand.tmp 57)], type := 41, pos := "edit.go:63", after := #[{ on := 7, ground := Ground.data }], guard := none }) rfl (by kernel_rfl) (by rfl) (fun K' hK => ?_)
  go_simp
  refine hK.out _ _ ⟨(HW3.out _ (below_alloc (below_drew (Below.refl _ _)) _)).1, (HW3.out _ (below_alloc (below_drew (Below.refl _ _)) _)).2.1⟩ (fun HSn => ?_)
  clear HS hK K'
  have HS := Lib.hid HSn
  clear HSn
  try simp only [Act.put, List.setIfInBounds_toArray, List.set_cons_zero, List.set_cons_succ]
  refine late_onlyIf 9 3 ({ dst := some 59, op := Op.call { callee := Callee.builtin Builtin.append, args := #[Operand.tmp 54, Operand.tmp 58], argTypes := #[41, 41] }, type := 41, pos := "edit.go:63", after := #[{ on := 4, ground := Ground.data }, { on := 8, ground := Ground.data }], guard := none }) rfl (by kernel_rfl) (fun K' hK => ?_)
  obtain ⟨inner, ho, hb0, hbs, hG⟩ := HW4.out
  have HG2 := Lib.hid hG
  clear hG HW4 HG
  refine step_append_cells (w0 := w0) (W := w3.drew) w0.heap.size (by rfl) (.tmp 54) (.tmp 58) 41 66 (.agg #[.string ⟨#[]⟩, .string ⟨#[]⟩]) 2 32 (by rfl) Tryz.underlying41 delAttr.info rfl (by decide) (by decide) (.slice A2 m2 c2) m2 inner [.string e.f4, .string ⟨#[]⟩] rfl (by rfl) rfl (by simp [Value.oneCell']) ho hb0 hbs (wr_four m2 hmb) ?_
  intro v1 w5 ho5 hb5 hg5 hat5
  obtain ⟨g9, c9, rfl, d1, d2, d3, hW6⟩ := HG2.out v1 w5 ho5 hg5 hat5
  have HW6 := Lib.hid hW6
  clear hW6 HG2 hat5 ho5 hb5 hg5 ho hb0 hbs
  refine hK.out _ _ ⟨d1, d2⟩ (fun HSn => ?_)
  clear HS hK K'
  have HS := Lib.hid HSn
  clear HSn
  try simp only [Act.put, List.setIfInBounds_toArray, List.set_cons_zero, List.set_cons_succ]
  refine lt_ 10 30 60 2 ?_
  refine lt_ 11 30 61 1 ?_
  refine late_last 12 0 ({ dst := none, op := Op.store 41 (Operand.tmp 61) (Operand.tmp 59), type := 0, pos := "edit.go:63", after := #[{ on := 11, ground := Ground.data }, { on := 9, ground := Ground.data }, { on := 9, ground := Ground.chain }, { on := 0, ground := Ground.phase }, { on := 1, ground := Ground.phase }, { on := 2, ground := Ground.phase }, { on := 3, ground := Ground.phase }, { on := 4, ground := Ground.phase }, { on := 5, ground := Ground.phase }, { on := 6, ground := Ground.phase }, { on := 7, ground := Ground.phase }, { on := 8, ground := Ground.phase }, { on := 9, ground := Ground.phase }], guard := none }) rfl (by kernel_rfl) rfl (by rfl) (by kernel_rfl) (fun K' hK => ?_)
  go_simp
  refine hK.out _ _ ?_
  clear HS hK K'
  generalize (w5.setCell ⟨gr, i * 6 + 2, none⟩ (.slice (some ⟨g9, 0, none⟩) (m2 + 1) c9)) = w6 at HW6 ⊢
  obtain ⟨u1, u2, u3, u4, -⟩ := HW6.out w6 (Below.refl _ _)
  clear d1 d2 d3 HW3
  go_upto_region 12 with fail
  have HD6 := Lib.hid (below_drew (Below.refl w6.heap.size w6))
  obtain ⟨y1, y2, y3, y4, -⟩ := HW6.out _ HD6.out
  have hS0 : w6.drew.cell? ⟨gr, i * 6 + 2, none⟩ = some (.slice (some ⟨g9, 0, none⟩) (m2 + 1) c9) ∧ w6.drew.cell? ⟨w.heap.size, 5, none⟩ = some (.string e.f5) := ⟨y1, y2⟩
  refine late_begin (S := fun W => W.cell? ⟨gr, i * 6 + 2, none⟩ = some (.slice (some ⟨g9, 0, none⟩) (m2 + 1) c9) ∧ W.cell? ⟨w.heap.size, 5, none⟩ = some (.string e.f5)) 9 10 (by kernel_rfl) rfl hS0 (fun hS => ?_)
  have HS := Lib.hid hS
  clear hS0 hS u1 u2 u3 u4 y1 y2
  refine lt_ 0 30 68 9 ?_
  refine lt_ 1 30 69 8 ?_
  refine lt_ 2 30 70 7 ?_
  refine lt_ 3 30 71 6 ?_
  refine lt_ 4 30 72 5 ?_
  refine lt_ 5 30 73 4 ?_
  refine lt_ 6 30 74 3 ?_
  refine lt_ 7 30 75 2 ?_
  refine lt_ 8 30 76 1 ?_
  refine late_last 9 0 ({ dst := none, op := Op.store 9 (Operand.tmp 76) (Operand.tmp 74), type := 0, pos := "edit.go:66", after := #[{ on := 8, ground := Ground.data }, { on := 6, ground := Ground.data }, { on := 0, ground := Ground.phase }, { on := 1, ground := Ground.phase }, { on := 2, ground := Ground.phase }, { on := 3, ground := Ground.phase }, { on := 4, ground := Ground.phase }, { on := 5, ground := Ground.phase }, { on := 6, ground := Ground.phase }], guard := none }) rfl (by kernel_rfl) rfl (by rfl) (by kernel_rfl) (fun K' hK => ?_)
  go_simp
  refine hK.out _ _ ?_
  clear HS hK K'
  go_wp2_with fail
  go_ret
  exact ⟨rfl, (HW6.out _ HD6.out).2.2.2.2⟩
def attrF (l : List S43) (e : S45) : Option (Int × List S43) :=
 if 0 ≤ e.f1 ∧ e.f1 < (l.length : Int) then
  (if (rd_T43 l e.f1).f0 = 2 then
   (if (rd_T43 l e.f1).f2.length ≤ 1000 then
    (dom_find.f (rd_T43 l e.f1).f2 e.f4).bind fun i => (dom_attrName.f e.f4).bind fun nm =>
     if nm = false then some (3, l) else if 400 < (e.f5.size : Int) then some (2, l) else if i < 0 ∧ (rd_T43 l e.f1).f2.length = 12 then some (2, l) else
      if i < 0 then some (0, l.set e.f1.toNat { rd_T43 l e.f1 with f2 := (rd_T43 l e.f1).f2 ++ [⟨e.f4, e.f5⟩] })
      else if i < ((rd_T43 l e.f1).f2.length : Int) then some (0, l.set e.f1.toNat { rd_T43 l e.f1 with f2 := (rd_T43 l e.f1).f2.set i.toNat ⟨(rd_T66 (rd_T43 l e.f1).f2 i).f0, e.f5⟩ })
      else none
   else none)
  else some (7, l))
 else some (5, l)
theorem attr_calls (e : S45) (A8 A11 : Option Addr) (n8 n11 c8 c11 : Nat) (l : List S43) (q : Bool) (made : Int) (b : Nat) (r : Int) (l' : List S43) (w0 w : World) (hw : Below w0.heap.size w0 w) (hE : Ed w w0.heap.size b l q made) (h : attrF l e = some (r, l')) :
  Calls Tryz.prog 55 #[.pointer (some ⟨b, 0, none⟩), editV e A8 A11 n8 n11 c8 c11] w fun u w' => u = .returned (.int .i64 r) ∧ Ed w' w0.heap.size b l' q made ∧ Below w0.heap.size w0 w' := by
 unfold attrF at h
 by_cases hin : 0 ≤ e.f1 ∧ e.f1 < (l.length : Int)
 ·rw [if_pos hin] at h
  by_cases h1 : (rd_T43 l e.f1).f0 = 2
  ·rw [if_pos h1] at h
   by_cases hlm : (rd_T43 l e.f1).f2.length ≤ 1000
   ·rw [if_pos hlm] at h
    obtain ⟨ix, hix, h⟩ := Option.bind_eq_some_iff.1 h
    obtain ⟨nm, hnm, h⟩ := Option.bind_eq_some_iff.1 h
    have hEr : attrE l e = if nm = false then some (3, l) else if 400 < (e.f5.size : Int) then some (2, l) else if ix < 0 ∧ (rd_T43 l e.f1).f2.length = 12 then some (2, l) else none := by
     unfold attrE
     rw [if_pos hin, if_pos h1, if_pos hlm, hix, hnm]
     rfl
    by_cases hq : nm = false
    ·rw [if_pos hq] at h hEr
     exact attr_err e A8 A11 n8 n11 c8 c11 l q made b r l' w0 w hw hE (hEr.trans h)
    ·rw [if_neg hq] at h hEr
     have hq' : nm = true := by cases nm <;> simp_all
     subst hq'
     by_cases hs : 400 < (e.f5.size : Int)
     ·rw [if_pos hs] at h hEr
      exact attr_err e A8 A11 n8 n11 c8 c11 l q made b r l' w0 w hw hE (hEr.trans h)
     ·rw [if_neg hs] at h hEr
      by_cases h12 : ix < 0 ∧ (rd_T43 l e.f1).f2.length = 12
      ·rw [if_pos h12] at h hEr
       exact attr_err e A8 A11 n8 n11 c8 c11 l q made b r l' w0 w hw hE (hEr.trans h)
      ·rw [if_neg h12] at h
       by_cases hneg : ix < 0
       ·rw [if_pos hneg] at h
        injection h with h
        injection h with ha hb
        subst ha hb
        exact attr_new e A8 A11 n8 n11 c8 c11 l q made b w0 w hw hE hin h1 hlm ix hix hneg (fun he => h12 ⟨hneg, he⟩) hnm hs
       ·rw [if_neg hneg] at h
        by_cases hlt : ix < ((rd_T43 l e.f1).f2.length : Int)
        ·rw [if_pos hlt] at h
         injection h with h
         injection h with ha hb
         subst ha hb
         obtain ⟨ixn, rfl⟩ : ∃ ixn : Nat, ix = (ixn : Int) := ⟨ix.toNat, by omega⟩
         exact attr_put e A8 A11 n8 n11 c8 c11 l q made b w0 w hw hE hin h1 hlm ixn hix (by omega) hnm hs
        ·rw [if_neg hlt] at h
         exact absurd h (by simp)
   ·rw [if_neg hlm] at h
    exact absurd h (by simp)
  ·rw [if_neg h1] at h
   refine attr_err e A8 A11 n8 n11 c8 c11 l q made b r l' w0 w hw hE ?_
   unfold attrE
   rw [if_pos hin, if_neg h1]
   exact h
 ·rw [if_neg hin] at h
  refine attr_err e A8 A11 n8 n11 c8 c11 l q made b r l' w0 w hw hE ?_
  unfold attrE
  rw [if_neg hin]
  exact h

end Go.Proofs.YtmcinclecpeakaaGreatDoor.PRR
