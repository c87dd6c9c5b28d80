-- printed by wip/tools/pr.py (own) through the kit's printer; texts GIVEN by hand stand among them
import Derived.Test.YtmcinclecpeakaaGreatDoorPRRx0
import Derived.Test.YtmcinclecpeakaaGreatDoorPRRx1
import Derived.Test.YtmcinclecpeakaaGreatDoorPRRx5
import Derived.Test.YtmcinclecpeakaaGreatDoorPRRx6
namespace Go.Proofs.YtmcinclecpeakaaGreatDoor.PRR
open Go.RowKit Go.Proofs.YtmcinclecpeakaaGreatDoorW.PrintWords Go.Proofs.YtmcinclecpeakaaGreatDoorW.PrintLast Go.Proofs.YtmcinclecpeakaaGreatDoorW.PrintMore
attribute [local go_sem] max2_int min2_int max_two min_two max_three min_three max_four min_four   -- for this text's walks alone
set_option linter.unusedVariables false
set_option linter.unusedSimpArgs false

/-! ### slices_Insert_int_int: function 51 -/
theorem infoI : (Tryz.prog.info? 3).map (fun i => (i.zero, i.size, i.bytes)) = some (some (.int .i64 0), 1, 8) := by kernel_rfl
set_option maxRecDepth 100000 in
set_option maxHeartbeats 2000000 in
theorem ins_end (A : Option Addr) (c n : Nat) (xs : List Int) (ad : Addr) (y : Int) (base : Nat) (w : World) (hown : w.ownsRow base 3 1 (.slice A n c) n (nums .i64 xs)) (hy : w.cell? ad = some (.int .i64 y)) (hn : n ≤ 1000) (hb : base ≤ w.heap.size) :
  Calls Tryz.prog 51 #[.slice A n c, .int .i64 n, .slice (some ad) 1 1] w fun e w' => ∃ v', e = .returned v' ∧ w'.ownsRow base 3 1 v' (n + 1) (nums .i64 (xs ++ [y])) ∧ w.grownBy w' (Value.slice A n c).ownBlock ∧ (v'.ownBlock = (Value.slice A n c).ownBlock ∨ v'.ownBlock = some w.heap.size) := by
 have hnc := own_le hown
 obtain ⟨i0, hi, hz0, hz1, hz2⟩ := info_parts infoI
 have hnews : ∀ j u, [Value.int .i64 y][j]? = some u → w.cell? (ad.add j) = some u := by
  intro j u hj
  match j, hj with
  | 0, hj =>
   simp at hj
   subst hj
   exact (by simpa [Addr.add] using hy)
 have HO := Lib.hid hown
 have HN := Lib.hid hnews
 clear hown hnews hy
 have hq : (n : Int) ≤ (c : Int) := by omega
 by_cases hc : c = n
 all_goals
  go_enter Tryz.func51, Tryz.ntmps51
  go_upto_region 7 with fail
  go_wp2_with ((at_builtin; refine wpList_append_own_at _ rfl _ _ 38 rfl base 3 i0 (.int .i64 0) 1 8 Tryz.underlying38 hi hz0 hz1 hz2 rfl (by decide) (.slice A n c) n (nums .i64 xs) rfl HO.out ad 1 1 [.int .i64 y] rfl rfl HN.out (by simp [Value.oneCell']) (by unfold maxLen; omega) (by omega) hb ?_; intro v1 w1 hown1 hg1 _ hat1; have HR := Lib.hid (⟨hown1, hg1, hat1⟩ : _ ∧ _ ∧ _); clear hown1 hg1 hat1))
  go_ret
  exact ⟨_, rfl, by have := HR.out.1; simpa [nums] using this, HR.out.2.1, HR.out.2.2⟩
/-- One cell put into a row: the cells behind it move on. -/
theorem cells_in {i n c : Nat} {inner rest : List Value} {y : Value} {cur1 cur2 : List Value} (hil : inner.length = n) (hi : i < n) (h3 : cur1.take i = inner.take i) (h4 : cur1.drop (i + 1) = inner.drop i ++ rest) (h6 : cur2 = cur1.take i ++ [y] ++ cur1.drop (i + 1)) :
  cur2.take (n + 1) = inner.take i ++ y :: inner.drop i := by
 rw [h6, h3, h4, show inner.take i ++ [y] ++ (inner.drop i ++ rest) = (inner.take i ++ y :: inner.drop i) ++ rest from by simp]
 exact List.take_left' (by simp; omega)
theorem own_in {B g n c i : Nat} {e : TypeId} {w : World} {inner : List Value} {y : Value} {cur : Array Value} (hg : w.heap[g]? = some (.cells cur e (0, 0))) (hB : B ≤ g) (hnc : n + 1 ≤ c) (hcm : c ≤ maxLen) (hcs : cur.size = c * 1) (hct : cur.toList.take (n * 1) = inner) (hi : i < n) :
  ((w.setCells g (0 + (i + 1)) (inner.drop i)).setCells g (0 + i) [y]).ownsRow B e 1 (.slice (some ⟨g, 0, none⟩) (n + 1) c) (n + 1) (inner.take i ++ y :: inner.drop i) ∧ w.grownBy ((w.setCells g (0 + (i + 1)) (inner.drop i)).setCells g (0 + i) [y]) (some g) := by
 rw [Nat.mul_one] at hcs hct
 have hil : inner.length = n := by rw [← hct, List.length_take, Array.length_toList, hcs]; omega
 have hdl : (inner.drop i).length = n - i := by rw [List.length_drop, hil]
 obtain ⟨cur1, h1, h2, h3⟩ := setCells_row (inner.drop i) (0 + (i + 1)) w cur hg (by rw [hdl, hcs]; omega)
 obtain ⟨cur2, h4, h5, h6⟩ := setCells_row [y] (0 + i) _ cur1 h1 (by rw [h2, hcs]; simp; omega)
 have t1 : cur1.toList.take i = inner.take i := by
  rw [h3, List.append_assoc, List.take_append_of_le_length (by rw [List.length_take, Array.length_toList, hcs]; omega), List.take_take, ← hct, List.take_take]
  congr 1
  omega
 have t2 : cur1.toList.drop (i + 1) = inner.drop i ++ cur.toList.drop (0 + (i + 1) + (inner.drop i).length) := by
  rw [h3, List.append_assoc]
  exact List.drop_left' (by rw [List.length_take, Array.length_toList, hcs]; omega)
 rw [Nat.zero_add, List.length_singleton] at h6
 have hfin := cells_in (c := c) hil hi t1 t2 h6
 refine ⟨⟨by simp; omega, .inr ⟨g, c, cur2, rfl, hB, h4, hnc, hcm, by rw [h5, h2, hcs]; omega, by rw [Nat.mul_one]; exact hfin⟩⟩, ?_⟩
 have a1 := setCells_same g (inner.drop i) (0 + (i + 1)) w
 have a2 := setCells_same g [y] (0 + i) (w.setCells g (0 + (i + 1)) (inner.drop i))
 exact ⟨a2.1.trans a1.1, a2.2.1.trans a1.2.1, a2.2.2.1.trans a1.2.2.1, by rw [a2.2.2.2, a1.2.2.2]; exact Nat.le_refl _, fun k _ hk => (setCells_far [y] _ k (fun he => hk (by rw [he]))).trans (setCells_far _ _ k (fun he => hk (by rw [he])))⟩
/-- A new row, as slices.Insert lays it where there is no room. -/
theorem own_anew {B n i G : Nat} {e : TypeId} {w : World} {inner : List Value} {y : Value} {Z1 Z2 : Array Value} (hB : B ≤ w.heap.size) (hil : inner.length = n) (hi : i < n) (hG : n + 1 ≤ G) (hGm : G ≤ maxLen) (hz1 : Z1.size = n + 1 - i) (hz2 : Z2.size = G - (n + 1)) :
  ((((w.alloc (.cells ((inner.take i).toArray ++ Z1 ++ Z2) e)).drew.setCells w.heap.size i [y]).drew).setCells w.heap.size (i + 1) (inner.drop i)).ownsRow B e 1 (.slice (some ⟨w.heap.size, 0, none⟩) (n + 1) G) (n + 1) (inner.take i ++ y :: inner.drop i) ∧
   w.grownBy ((((w.alloc (.cells ((inner.take i).toArray ++ Z1 ++ Z2) e)).drew.setCells w.heap.size i [y]).drew).setCells w.heap.size (i + 1) (inner.drop i)) none := by
 have hdl : (inner.drop i).length = n - i := by rw [List.length_drop, hil]
 have htl : (inner.take i).length = i := by rw [List.length_take, hil]; omega
 obtain ⟨cur, hcur⟩ : ∃ cur, cur = (inner.take i).toArray ++ Z1 ++ Z2 := ⟨_, rfl⟩
 have hcs : cur.size = G := by rw [hcur, Array.size_append, Array.size_append, List.size_toArray, htl, hz1, hz2]; omega
 have hct : cur.toList = inner.take i ++ (Z1.toList ++ Z2.toList) := by rw [hcur]; simp
 rw [← hcur]
 have hg : (w.alloc (.cells cur e)).drew.heap[w.heap.size]? = some (.cells cur e (0, 0)) := blk_drew (blk_new w _)
 obtain ⟨cur1, h1, h2, h3⟩ := setCells_row [y] i _ cur hg (by rw [hcs]; simp; omega)
 obtain ⟨cur2, h4, h5, h6⟩ := setCells_row (inner.drop i) (i + 1) _ cur1 (blk_drew h1) (by rw [h2, hcs, hdl]; omega)
 have t1 : cur.toList.take i = inner.take i := by rw [hct]; exact List.take_left' htl
 have t2 : cur1.toList.take (i + 1) = inner.take i ++ [y] := by
  rw [h3, t1]
  exact List.take_left' (by simp [htl])
 have t3 : cur2.toList.take (n + 1) = inner.take i ++ y :: inner.drop i := by
  rw [h6, t2, show inner.take i ++ [y] ++ inner.drop i = inner.take i ++ y :: inner.drop i from by simp]
  exact List.take_left' (by simp; omega)
 refine ⟨⟨by simp; omega, .inr ⟨w.heap.size, G, cur2, rfl, hB, h4, hG, hGm, by rw [h5, h2, hcs]; omega, by rw [Nat.mul_one]; exact t3⟩⟩, ?_⟩
 have a1 := setCells_same w.heap.size [y] i (w.alloc (.cells cur e)).drew
 have a2 := setCells_same w.heap.size (inner.drop i) (i + 1) ((w.alloc (.cells cur e)).drew.setCells w.heap.size i [y]).drew
 refine ⟨a2.1.trans a1.1, a2.2.1.trans a1.2.1, a2.2.2.1.trans a1.2.2.1, ?_, fun k hk _ => ?_⟩
 ·rw [a2.2.2.2]
  show w.heap.size ≤ ((w.alloc (.cells cur e)).drew.setCells w.heap.size i [y]).heap.size
  rw [a1.2.2.2]
  show w.heap.size ≤ (w.alloc (.cells cur e)).heap.size
  simp
 ·refine (setCells_far (inner.drop i) _ k (by omega)).trans ?_
  refine (setCells_far [y] (w := (w.alloc (.cells cur e)).drew) _ k (by omega)).trans ?_
  exact Below.heap_alloc w (.cells cur e) k hk
theorem ins_mid (A : Option Addr) (c n i : Nat) (xs : List Int) (y : Int) (vb base : Nat) (w : World) (hown : w.ownsRow base 3 1 (.slice A n c) n (nums .i64 xs)) (hy : w.heap[vb]? = some (.cells #[.int .i64 y] 3 (0, 0))) (hvb : some vb ≠ (Value.slice A n c).ownBlock) (hi : i < n) (hn : n ≤ 1000) (hb : base ≤ w.heap.size) :
  Calls Tryz.prog 51 #[.slice A n c, .int .i64 i, .slice (some ⟨vb, 0, none⟩) 1 1] w fun e w' => ∃ v', e = .returned v' ∧ w'.ownsRow base 3 1 v' (n + 1) (nums .i64 (xs.take i ++ y :: xs.drop i)) ∧ w.grownBy w' (Value.slice A n c).ownBlock ∧ (v'.ownBlock = (Value.slice A n c).ownBlock ∨ v'.ownBlock = some w.heap.size) := by
 obtain ⟨inner, hin⟩ : ∃ inner, inner = nums .i64 xs := ⟨_, rfl⟩
 have hone : ∀ v ∈ inner, v.oneCell' = true := by
  intro v hv
  rw [hin] at hv
  obtain ⟨x, _, rfl⟩ := List.mem_map.1 hv
  rfl
 have hnums : nums .i64 (xs.take i ++ y :: xs.drop i) = inner.take i ++ Value.int .i64 y :: inner.drop i := by rw [hin]; simp [nums, List.map_take, List.map_drop]
 rw [hnums]
 rw [← hin] at hown
 clear hin hnums
 obtain ⟨hil, ho⟩ := hown
 rw [Nat.mul_one] at hil
 obtain ⟨g, c', cur, hv, hB, hg, hnc, hcm, hcs, hct⟩ := ho.resolve_left (fun h => by have := h.2; omega)
 injection hv with hv1 hv2 hv3
 subst hv1 hv3
 have hgv : vb ≠ g := fun e => hvb (by rw [e]; rfl)
 have hcell : ∀ j v, inner[j]? = some v → w.cell? ⟨g, 0 + j, none⟩ = some v := fun t u hu => by
  rw [Nat.zero_add, blk_cell hg t, ← Array.getElem?_toList]
  rw [← hct, List.getElem?_take] at hu
  split at hu
  ·exact hu
  ·cases hu
 have hvs : ∀ j v, [Value.int .i64 y][j]? = some v → w.cell? ⟨vb, 0 + j, none⟩ = some v := fun j v h => by
  rw [Nat.zero_add, blk_cell hy j, ← Array.getElem?_toList]
  exact h
 have h1v : ∀ v ∈ [Value.int .i64 y], v.oneCell' = true := by intro v hv; rw [List.mem_singleton.1 hv]; rfl
 by_cases hroom : n + 1 ≤ c
 ·refine (Any2.slices_Insert_int_shift Tryz.lays21 g 0 n c i vb 0 1 1 inner [.int .i64 y] w hi (by omega) hroom (by unfold maxLen at hcm; omega) hgv hil rfl hcell (fun j hj => ?_) (fun j hj => blk_frozen hg _) hvs hone h1v 3 3 1 c ?_ ?_ (by omega) (blk_frozen hy _) (blk_frozen hy _)).mono ?_
  ·rw [blk_cell hg, Array.getElem?_eq_getElem (by rw [hcs]; omega)]; rfl
  ·simp [World.shape?, hy]
  ·simp [World.shape?, hg, hcs]
  ·rintro e w' ⟨rfl, rfl⟩
   have hfin := own_in (w := w.drew) (y := Value.int .i64 y) hg hB hroom hcm hcs hct hi
   exact ⟨_, rfl, hfin.1, ⟨hfin.2.os, hfin.2.tape, hfin.2.output, hfin.2.size, hfin.2.block⟩, .inl rfl⟩
 ·refine (Any2.slices_Insert_int_grow Tryz.lays21 g 0 n c i vb 0 1 1 inner [.int .i64 y] w hi (by omega) hnc (by omega) (by omega) hil rfl hcell hvs hone h1v).mono ?_
  rintro e w' ⟨rfl, rfl⟩
  have hfin := own_anew (y := Value.int .i64 y) (e := 3) (Z1 := Builtin.zeroCells (Value.int .i64 0).cells (n + 1 - i)) (Z2 := Builtin.zeroCells (Value.int .i64 0).cells (grownCap w (n + 1) c 3 - (n + 1))) hb hil hi (grownCap_ge w (n + 1) c 3) (grownCap_le_maxLen w (n + 1) c 3 (by unfold maxLen; omega)) (by simp [size_zeroCells, Value.cells]) (by simp [size_zeroCells, Value.cells])
  exact ⟨_, rfl, hfin.1, ⟨hfin.2.os, hfin.2.tape, hfin.2.output, hfin.2.size, fun k hk _ => hfin.2.block k hk (by simp)⟩, .inr rfl⟩

/-! ### dom_editor_below: function 85 -/
/-- Upwards from n: is it t, or does it lie below it? -/
def belowF (l : List S43) : Nat → Int → Int → Option Bool
 | 0, _, _ => none
 | k + 1, n, t => if 0 ≤ n then (if n = t then some true else (if n < (l.length : Int) then belowF l k (rd_T43 l n).f4 t else none)) else some (n == t)
set_option maxRecDepth 100000 in
set_option maxHeartbeats 2000000 in
theorem below_calls (k : Nat) (b c : Nat) (A : Option Addr) (l : List S43) (n t : Int) (r : Bool) (w : World) (hc : w.cell? ⟨b, 0, none⟩ = some (.slice A l.length c)) (hr : Kd.C k43 w A l.length l) (h : belowF l k n t = some r) :
  Calls Tryz.prog 85 #[.pointer (some ⟨b, 0, none⟩), .int .i64 n, .int .i64 t] w fun e w' => e = .returned (.bool r) ∧ w = w' := by
 obtain ⟨m, hm⟩ : ∃ m, m = l.length := ⟨_, rfl⟩
 rw [← hm] at hc hr
 have HR := Lib.hid hr
 have HM := Lib.hid hm
 have H' := Lib.hid h
 clear h hr hm
 go_enter Tryz.func85, Tryz.ntmps85
 go_wp2_with fail
 go_loopg [1] k (fun kq v1 w' => ∃ x1 : Int, v1 = .int .i64 x1 ∧ Hid (belowF l kq x1 t = some r) ∧ w = w')
 case atStart => exact ⟨n, rfl, H', rfl⟩
 case round =>
  obtain ⟨x1, rfl, HA, rfl⟩ := hrel
  clear H'
  cases gk with
  | zero => exact absurd HA.out (by simp [belowF])
  | succ k1 =>
   have H := HA.out
   clear HA
   simp only [belowF] at H
   by_cases c0 : 0 ≤ x1
   ·rw [if_pos c0] at H
    by_cases c1 : x1 = t
    ·subst c1
     rw [if_pos rfl] at H
     obtain rfl := Option.some.inj H
     clear H
     go_wp2_with fail
     go_ret
     exact ⟨rfl, rfl⟩
    ·rw [if_neg c1] at H
     have c1b : (x1 != t) = true := by simpa using c1
     have c1c : (x1 == t) = false := by simpa using c1
     by_cases c2 : x1 < (l.length : Int)
     ·rw [if_pos c2] at H
      obtain ⟨ad, A2, c2', A5, c5, rfl, d0, d1, d2, d3, d4, d5, _⟩ := at_T43 HR.out x1 c0 (by have := HM.out; omega)
      have q : x1 < (m : Int) := by have := HM.out; omega
      have HH := Lib.hid H
      clear H c1 c2 d0 d1 d2 d3 d5
      go_wp2_with fail
      go_roundg k1
      case measure => omega
      case rel => exact ⟨_, rfl, HH, rfl⟩
     ·rw [if_neg c2] at H
      exact absurd H (by simp)
   ·rw [if_neg c0] at H
    obtain rfl := Option.some.inj H
    clear H
    have c0b : x1 < 0 := by omega
    go_wp2_with fail
    go_ret
    exact ⟨rfl, rfl⟩

/-! ### dom_editor_deep: function 86 -/
/-- How far it goes below these. -/
def deepGo (f : Int → Option Int) : List Int → Int → Option Int
 | [], m => some m
 | x :: xs, m => (f x).bind fun d => deepGo f xs (mx m (wrap64 (d + 1)))
def deepF (l : List S43) : Nat → Int → Option Int
 | 0, _ => none
 | k + 1, n => if 0 ≤ n then (if n < (l.length : Int) then deepGo (deepF l k) (rd_T43 l n).f5 0 else none) else none
set_option maxRecDepth 100000 in
set_option maxHeartbeats 2000000 in
theorem deep_calls (b c : Nat) (A : Option Addr) (l : List S43) (w : World) (hc : w.cell? ⟨b, 0, none⟩ = some (.slice A l.length c)) (hr : Kd.C k43 w A l.length l) : ∀ (k : Nat) (n r : Int), deepF l k n = some r →
  Calls Tryz.prog 86 #[.pointer (some ⟨b, 0, none⟩), .int .i64 n] w fun e w' => e = .returned (.int .i64 r) ∧ w = w' := by
 intro k
 induction k with
 | zero => intro n r h; exact absurd h (by simp [deepF])
 | succ k ih =>
  intro n r h
  simp only [deepF] at h
  by_cases c0 : 0 ≤ n
  ·rw [if_pos c0] at h
   by_cases c1 : n < (l.length : Int)
   ·rw [if_pos c1] at h
    obtain ⟨m, hm⟩ : ∃ m, m = l.length := ⟨_, rfl⟩
    have hcm := hc
    rw [← hm] at hcm c1
    obtain ⟨ad, A2, c2', A5, c5, rfl, -, -, -, -, -, d5, -, -, -, hk5⟩ := at_T43 hr n c0 (by omega)
    obtain ⟨ks, hks⟩ : ∃ ks, ks = (rd_T43 l n).f5 := ⟨_, rfl⟩
    rw [← hks] at h d5 hk5
    obtain ⟨nk, hnk⟩ : ∃ nk, nk = ks.length := ⟨_, rfl⟩
    rw [← hnk] at d5 hk5
    have hmax : nk ≤ 9223372036854775807 := hk5.2.1
    have HK := Lib.hid hk5
    have HN := Lib.hid hnk
    have HI := Lib.hid ih
    have H' := Lib.hid h
    clear ih h hks hnk hk5 hr hc hm
    go_enter Tryz.func86, Tryz.ntmps86
    go_wp2_with fail
    go_loopw [4, 17] (fun v4 v17 wr => ∃ (t : Nat) (x : Int), t ≤ nk ∧ v17 = .int .i64 t ∧ v4 = .int .i64 x ∧ Hid (deepGo (deepF l k) (ks.drop t) x = some r) ∧ w = wr) (fun _ i _ => nk - (intOf i).toNat)
    case atStart => exact ⟨0, 0, Nat.zero_le _, rfl, rfl, H', rfl⟩
    case round =>
     obtain ⟨t, x, ht, rfl, rfl, HA, rfl⟩ := hrel
     clear H'
     have H := HA.out
     clear HA
     by_cases hlt : t < nk
     ·have hl : t < ks.length := by have := HN.out; omega
      obtain ⟨ad5, rfl, y0⟩ := Kd.at_int HK.out (t : Int) (by omega) (by omega)
      have hrd : rd ks (t : Int) = ks[t] := by unfold rd; rw [Int.toNat_natCast, List.getD_eq_getElem?_getD, List.getElem?_eq_getElem hl]; rfl
      rw [hrd] at y0
      rw [Int.toNat_natCast] at y0
      rw [List.drop_eq_getElem_cons hl] at H
      simp only [deepGo] at H
      obtain ⟨d, hd, H2⟩ := Option.bind_eq_some_iff.1 H
      clear H
      generalize ks[t] = kk at *
      have HC := Lib.hid (HI.out kk d hd)
      have HH : Hid (deepGo (deepF l k) (ks.drop (t + 1)) (if x < wrap64 (d + 1) then wrap64 (d + 1) else x) = some r) := Lib.hid H2
      clear H2 hd hrd hl
      go_wp2_with fail
      refine HC.out.mono ?_
      rintro e w' ⟨rfl, rfl⟩
      go_wp2_with fail
      go_roundw
      case rel => exact ⟨t + 1, _, by omega, by simp, rfl, HH, by first | rfl | trivial⟩
      case measure => simp [intOf]; omega
     ·have e : t = nk := by omega
      subst e
      rw [HN.out, List.drop_length] at H
      simp only [deepGo] at H
      obtain rfl := Option.some.inj H
      clear H
      go_wp2_with fail
      go_ret
      exact ⟨rfl, rfl⟩
   ·rw [if_neg c1] at h
    exact absurd h (by simp)
  ·rw [if_neg c0] at h
   exact absurd h (by simp)

/-! ### dom_editor_insert: function 59 -/
/-- A node's row of kids is written anew. -/
theorem ed_kids {B gr n c i : Nat} {wx : World} {l : List S43} {xi : S43} {v5 : Value} (hS : Kd.S k43 43 wx B (fun _ => True) (.slice (some ⟨gr, 0, none⟩) n c) l) (hi : i < n) (hxi : l[i]? = some xi) (hv5 : wx.cell? ⟨gr, i * 6 + 5, none⟩ = some v5) :
  wx.ownsRow B 3 1 v5 xi.f5.length (nums .i64 xi.f5) ∧ ∀ (W W4 : World) (v' : Value) (ks : List Int), Below wx.heap.size wx W → W.grownBy W4 v5.ownBlock → W4.ownsRow B 3 1 v' ks.length (nums .i64 ks) → (v'.ownBlock = v5.ownBlock ∨ v'.ownBlock = some W.heap.size) → v'.oneCell' = true →
   Kd.S k43 43 (W4.setCell ⟨gr, i * 6 + 5, none⟩ v') B (fun _ => True) (.slice (some ⟨gr, 0, none⟩) n c) (l.set i ⟨xi.f0, xi.f1, xi.f2, xi.f3, xi.f4, ks⟩) := by
 have hS2 : Kd.S k43 43 wx B (fun j => True ∧ ¬ wx.heap.size ≤ j) (.slice (some ⟨gr, 0, none⟩) n c) l := Kd.S_mono (Kd.S_bound hS) (fun j hj => ⟨trivial, by have := hj.2.2.1; omega⟩)
 obtain ⟨oki, cc, hcl, hM, hcc, hfr, hoki, hH⟩ := Kd.S_elem hS2 z43 (i : Int) (by omega) (by omega)
 rw [show l.getD (i : Int).toNat z43 = xi from by rw [Int.toNat_natCast, List.getD_eq_getElem?_getD, hxi]; rfl] at hM
 obtain ⟨v2, v5', hcs, hR2, hR5⟩ := k43_openM hM
 subst hcs
 have e5 : wx.cell? ⟨gr, i * 6 + 5, none⟩ = some v5' := hcc 5 _ rfl
 obtain rfl : v5' = v5 := by rw [e5] at hv5; exact Option.some.inj hv5
 have hgt := Kd.S_typed hS gr (by simp [Value.ownBlock])
 refine ⟨Kd.own_of_R hR5, fun W W4 v' ks hb hg ho hat hone => ?_⟩
 have hgr4 : gr < wx.heap.size := blk_lt hgt.choose_spec
 have hok5 : ∀ k, v5'.ownBlock = some k → oki k ∧ k < wx.heap.size ∧ k ≠ gr := fun k hk => ⟨hR5.1 k hk, own_lt (Kd.own_of_R hR5) k hk, (hoki k (hR5.1 k hk)).2⟩
 have hH4 := Kd.H_grown (Kd.H_below (Kd.H_more hH (fun j hj => trivial)) hb) hg (fun k hk => .inl (hok5 k hk).1)
 have h2 := (Kd.H_seg hH4 (by omega) (by omega) (seg := [v']) (j := 5) (by show 5 + 1 ≤ 6; decide) (by simpa using hone)).1
 have h3 : Kd.H k43 43 (W4.setCell ⟨gr, i * 6 + 5, none⟩ v') B (fun _ => True) (.slice (some ⟨gr, 0, none⟩) n c) l (i : Int) (fun j => oki j ∨ wx.heap.size ≤ j) [.int .i64 xi.f0, .string xi.f1, v2, .string xi.f3, .int .i64 xi.f4, v'] := h2
 have hR2t := Kd.R_tight rfl hR2
 have hne2 : ∀ k, some k = v2.ownBlock → some k ≠ v5'.ownBlock ∧ k ≠ gr ∧ oki k := fun k hk => by
  obtain ⟨cs2, ht2⟩ := Kd.R_typed hR2 k hk.symm
  refine ⟨fun he => ?_, (hoki k (hR2.1 k hk.symm)).2, hR2.1 k hk.symm⟩
  obtain ⟨cs5, ht5⟩ := Kd.R_typed hR5 k he.symm
  exact blk_ne ht2 ht5 (by decide) rfl
 have hR2' := Kd.R_far (Kd.R_step (Kd.R_below hR2t hb) (fun k hk hlt => hg.block k hlt (hne2 k hk).1)) (p := ⟨gr, i * 6 + 5, none⟩) (fun k hk => (hne2 k hk).2.1) v'
 have hv' : ∀ k, v'.ownBlock = some k → (oki k ∨ wx.heap.size ≤ k) ∧ k ≠ gr := fun k hk => by
  rcases hat with h | h
  ·obtain ⟨h1, h2, h3⟩ := hok5 k (h ▸ hk)
   exact ⟨.inl h1, h3⟩
  ·rw [h] at hk
   injection hk with hk
   have := hb.size
   exact ⟨.inr (by omega), by omega⟩
 have hR5' : (Kd.int .i64).R 3 (W4.setCell ⟨gr, i * 6 + 5, none⟩ v') B (fun k => oki k ∨ wx.heap.size ≤ k) v' ks :=
  Kd.R_of_own (own_setCell ho (fun he => (hv' gr he.symm).2 rfl) v') (fun k hk => (hv' k hk).1)
 have h4 := Kd.H_back h3 (x' := ⟨xi.f0, xi.f1, xi.f2, xi.f3, xi.f4, ks⟩) (okp := fun j => oki j ∨ wx.heap.size ≤ j) (k43_mkM _ _ _ ⟨xi.f0, xi.f1, xi.f2, xi.f3, xi.f4, ks⟩ (Kd.R_mono hR2' (fun k hk => .inl (hne2 k hk).2.2)) hR5') (fun j hj => hj)
 rw [Int.toNat_natCast] at h4
 exact h4
/-- A node's parent is set. -/
theorem ed_parent {B gr n c j : Nat} {W : World} {l : List S43} {xj : S43} (hS : Kd.S k43 43 W B (fun _ => True) (.slice (some ⟨gr, 0, none⟩) n c) l) (hj : j < n) (hxj : l[j]? = some xj) (p : Int) :
  Kd.S k43 43 (W.setCell ⟨gr, j * 6 + 4, none⟩ (.int .i64 p)) B (fun _ => True) (.slice (some ⟨gr, 0, none⟩) n c) (l.set j ⟨xj.f0, xj.f1, xj.f2, xj.f3, p, xj.f5⟩) := by
 obtain ⟨oki, cc, hcl, hM, hcc, hfr, hoki, hH⟩ := Kd.S_elem hS z43 (j : Int) (by omega) (by omega)
 rw [show l.getD (j : Int).toNat z43 = xj from by rw [Int.toNat_natCast, List.getD_eq_getElem?_getD, hxj]; rfl] at hM
 obtain ⟨v2, v5, hcs, hR2, hR5⟩ := k43_openM hM
 subst hcs
 have h2 := (Kd.H_seg hH (by omega) (by omega) (seg := [.int .i64 p]) (j := 4) (by show 4 + 1 ≤ 6; decide) (by simp [Value.oneCell'])).1
 have h3 : Kd.H k43 43 (W.setCell ⟨gr, j * 6 + 4, none⟩ (.int .i64 p)) B (fun _ => True) (.slice (some ⟨gr, 0, none⟩) n c) l (j : Int) oki [.int .i64 xj.f0, .string xj.f1, v2, .string xj.f3, .int .i64 p, v5] := h2
 have hne : ∀ k, oki k → k ≠ gr := fun k hk => (hoki k hk).2
 have h4 := Kd.H_back h3 (x' := ⟨xj.f0, xj.f1, xj.f2, xj.f3, p, xj.f5⟩) (okp := oki) (k43_mkM _ _ _ ⟨xj.f0, xj.f1, xj.f2, xj.f3, p, xj.f5⟩ (Kd.R_far hR2 (p := ⟨gr, j * 6 + 4, none⟩) hne _) (Kd.R_far hR5 (p := ⟨gr, j * 6 + 4, none⟩) hne _)) (fun k hk => hk)
 rw [Int.toNat_natCast] at h4
 exact h4
/-- What a walk through insert reads. -/
structure InsR (W : World) (b gr n c wb : Nat) (l : List S43) (q : Bool) (made : Int) (i j be : Int) (ii : Nat) (v5 : Value) : Prop where
 blk : W.heap[b]? = some (.cells #[.slice (some ⟨gr, 0, none⟩) n c, .bool q, .int .i64 made] 62 (0, 0))
 at1 : W.cell? ⟨wb, 1, none⟩ = some (.int .i64 i)
 to1 : W.cell? ⟨wb, 2, none⟩ = some (.int .i64 j)
 be1 : W.cell? ⟨wb, 3, none⟩ = some (.int .i64 be)
 row : Kd.C k43 W (some ⟨gr, 0, none⟩) n l
 k5 : W.cell? ⟨gr, ii * 6 + 5, none⟩ = some v5
theorem InsR.on {W W' : World} {b gr n c wb : Nat} {l : List S43} {q : Bool} {made : Int} {i j be : Int} {ii : Nat} {v5 : Value} (h : InsR W b gr n c wb l q made i j be ii v5) (hb : Below W.heap.size W W') : InsR W' b gr n c wb l q made i j be ii v5 :=
 ⟨blk_below h.blk hb, pw_cell_below hb h.at1, pw_cell_below hb h.to1, pw_cell_below hb h.be1, Kd.C_below h.row hb, pw_cell_below hb h.k5⟩
/-- What lies ready behind slices.Insert. -/
structure InsF (w0 W w : World) (b gr n c i j : Nat) (q : Bool) (made p4 e1 : Int) (v5 v' : Value) (l : List S43) : Prop where
 below : Below w0.heap.size w0 W
 blk : W.heap[b]? = some (.cells #[.slice (some ⟨gr, 0, none⟩) n c, .bool q, .int .i64 made] 62 (0, 0))
 c5 : W.cell? ⟨gr, i * 6 + 5, none⟩ = some v5
 c4 : W.cell? ⟨gr, j * 6 + 4, none⟩ = some (.int .i64 p4)
 f5 : W.frozen? ⟨gr, i * 6 + 5, none⟩ = false
 f4 : W.frozen? ⟨gr, j * 6 + 4, none⟩ = false
 at1 : W.cell? ⟨w.heap.size, 1, none⟩ = some (.int .i64 e1)
 row : Kd.S k43 43 (W.setCell ⟨gr, i * 6 + 5, none⟩ v') w0.heap.size (fun _ => True) (.slice (some ⟨gr, 0, none⟩) n c) l
set_option maxRecDepth 100000 in
set_option maxHeartbeats 4000000 in
theorem insert_nil (e : S45) (A8 A11 : Option Addr) (n8 n11 c8 c11 : Nat) (l : List S43) (q : Bool) (made : Int) (b : Nat) (p1 p2 : Option Addr) (w0 w : World) (hw : Below w0.heap.size w0 w) (hE : Ed w w0.heap.size b l q made)
  (h1 : ∀ W : World, Below w.heap.size w W → Calls Tryz.prog 84 #[.pointer (some ⟨b, 0, none⟩), .int .i64 e.f1] W fun u w' => u = .returned (.pointer p1) ∧ W = w')
  (h2 : ∀ W : World, Below w.heap.size w W → Calls Tryz.prog 84 #[.pointer (some ⟨b, 0, none⟩), .int .i64 e.f2] W fun u w' => u = .returned (.pointer p2) ∧ W = w')
  (hp : p1 = none ∨ ((∃ a, p1 = some a) ∧ p2 = none)) :
  Calls Tryz.prog 59 #[.pointer (some ⟨b, 0, none⟩), editV e A8 A11 n8 n11 c8 c11] w fun u w' => u = .returned (.int .i64 5) ∧ Ed w' w0.heap.size b l q made ∧ Below w0.heap.size w0 w' := by
 have HE : Hid (∀ W : World, Below w.heap.size w W → Ed W w0.heap.size b l q made ∧ Below w0.heap.size w0 W) := Lib.hid (fun W h => ⟨hE.below h, hw.trans (h.mono hw.size)⟩)
 have HBx := Lib.hid ((Below.refl _ w).alloc (Nat.le_refl _) (.cells #[.int .i64 e.f0, .int .i64 e.f1, .int .i64 e.f2, .int .i64 e.f3, .string e.f4, .string e.f5, .int .i64 e.f6.f0, .string e.f6.f1, .slice A8 n8 c8, .string e.f6.f3, .int .i64 e.f6.f4, .slice A11 n11 c11] 45))
 have HNi : Hid (∀ W : World, Below w.heap.size w W → ∀ m, Calls Tryz.prog 84 #[.pointer (some ⟨b, 0, none⟩), .int .i64 e.f1] (W.drewN m) fun u w' => u = .returned (.pointer p1) ∧ ∃ m', w' = W.drewN m') :=
  Lib.hid (fun W h m => (h1 _ (pw_below_drewN h m)).mono fun e w' ⟨h1, h2⟩ => ⟨h1, m, h2.symm⟩)
 have HNj : Hid (∀ W : World, Below w.heap.size w W → ∀ m, Calls Tryz.prog 84 #[.pointer (some ⟨b, 0, none⟩), .int .i64 e.f2] (W.drewN m) fun u w' => u = .returned (.pointer p2) ∧ ∃ m', w' = W.drewN m') :=
  Lib.hid (fun W h m => (h2 _ (pw_below_drewN h m)).mono fun e w' ⟨h1, h2⟩ => ⟨h1, m, h2.symm⟩)
 clear hw hE h1 h2
 unfold editV
 rcases hp with rfl | ⟨⟨a, rfl⟩, rfl⟩
 all_goals
  go_enter Tryz.func59, Tryz.ntmps59
  go_upto_region 1 with fail
  go_quiet ((go_at_call 84; first | with_reducible exact HNi.out _ HBx.out _ | with_reducible exact HNj.out _ HBx.out _))
  go_upto_region 2 with fail
  have HBn := Lib.hid (pw_below_drewN HBx.out nq)
  generalize (World.drewN _ nq) = w1 at HBn ⊢
  go_wp2_with fail
  go_ret
  exact ⟨rfl, HE.out _ HBn.out⟩
set_option maxRecDepth 100000 in
set_option maxHeartbeats 4000000 in
theorem insert_kind (e : S45) (A8 A11 : Option Addr) (n8 n11 c8 c11 : Nat) (l : List S43) (q : Bool) (made : Int) (b i j : Nat) (xi xj : S43) (r : Int) (w0 w : World) (hw : Below w0.heap.size w0 w) (hE : Ed w w0.heap.size b l q made)
  (hi : (i : Int) = e.f1) (hj : (j : Int) = e.f2) (hxi : l[i]? = some xi) (hxj : l[j]? = some xj)
  (hr : (dom_parent.f xi.f0 = some false ∧ r = 7) ∨ (dom_parent.f xi.f0 = some true ∧ xj.f0 = 1 ∧ r = 7) ∨ (dom_parent.f xi.f0 = some true ∧ xj.f0 ≠ 1 ∧ xi.f0 = 1 ∧ xj.f0 = 3 ∧ r = 7) ∨ (dom_parent.f xi.f0 = some true ∧ xj.f0 ≠ 1 ∧ ¬ (xi.f0 = 1 ∧ xj.f0 = 3) ∧ 0 ≤ xj.f4 ∧ r = 9)) :
  Calls Tryz.prog 59 #[.pointer (some ⟨b, 0, none⟩), editV e A8 A11 n8 n11 c8 c11] w fun u w' => u = .returned (.int .i64 r) ∧ Ed w' w0.heap.size b l q made ∧ Below w0.heap.size w0 w' := by
 obtain ⟨A, c, hB, hblk, hS⟩ := ed_open hE
 have hil : i < l.length := (List.getElem?_eq_some_iff.1 hxi).1
 have hjl : j < l.length := (List.getElem?_eq_some_iff.1 hxj).1
 obtain ⟨n, hn⟩ : ∃ n, n = l.length := ⟨_, rfl⟩
 rw [← hn] at hblk hS hil hjl
 obtain ⟨gr, cap, hv, hbr, hgr, cells, hty⟩ := Kd.S_form hS (by omega)
 injection hv with hA hn' hc'
 subst hA
 clear hn' hc'
 have HE : Hid (∀ W : World, Below w.heap.size w W → Ed W w0.heap.size b l q made ∧ Below w0.heap.size w0 W) := Lib.hid (fun W h => ⟨hE.below h, hw.trans (h.mono hw.size)⟩)
 have HC : Hid (∀ W : World, Below w.heap.size w W → W.cell? ⟨b, 0, none⟩ = some (.slice (some ⟨gr, 0, none⟩) n c)) := Lib.hid (fun W h => pw_cell_below h ((blk_cell hblk 0).trans rfl))
 have HBx := Lib.hid ((Below.refl _ w).alloc (Nat.le_refl _) (.cells #[.int .i64 e.f0, .int .i64 e.f1, .int .i64 e.f2, .int .i64 e.f3, .string e.f4, .string e.f5, .int .i64 e.f6.f0, .string e.f6.f1, .slice A8 n8 c8, .string e.f6.f3, .int .i64 e.f6.f4, .slice A11 n11 c11] 45))
 have HNi : Hid (∀ W : World, Below w.heap.size w W → ∀ m, Calls Tryz.prog 84 #[.pointer (some ⟨b, 0, none⟩), .int .i64 e.f1] (W.drewN m) fun u w' => u = .returned (.pointer (some ⟨gr, i * 6, none⟩)) ∧ ∃ m', w' = W.drewN m') :=
  Lib.hid (by rw [← hi]; exact fun W h m => (dom_editor_node.in_ b gr n c i (W.drewN m) (HC.out _ (pw_below_drewN h m)) hil).mono fun e w' ⟨h1, h2⟩ => ⟨h1, m, h2.symm⟩)
 have HNj : Hid (∀ W : World, Below w.heap.size w W → ∀ m, Calls Tryz.prog 84 #[.pointer (some ⟨b, 0, none⟩), .int .i64 e.f2] (W.drewN m) fun u w' => u = .returned (.pointer (some ⟨gr, j * 6, none⟩)) ∧ ∃ m', w' = W.drewN m') :=
  Lib.hid (by rw [← hj]; exact fun W h m => (dom_editor_node.in_ b gr n c j (W.drewN m) (HC.out _ (pw_below_drewN h m)) hjl).mono fun e w' ⟨h1, h2⟩ => ⟨h1, m, h2.symm⟩)
 obtain ⟨hn2, hnc, hrow⟩ := Kd.S_reads' hS
 have hri : rd_T43 l (i : Int) = xi := by unfold rd_T43; rw [Int.toNat_natCast, List.getD_eq_getElem?_getD, hxi]; rfl
 have hrj : rd_T43 l (j : Int) = xj := by unfold rd_T43; rw [Int.toNat_natCast, List.getD_eq_getElem?_getD, hxj]; rfl
 obtain ⟨adi, A2i, c2i, A5, c5, ei, i0, -⟩ := at_T43 hrow (i : Int) (by omega) (by omega)
 cases ei
 rw [hri] at i0
 obtain ⟨adj, A2j, c2j, A5j, c5j, ej, j0, -, -, -, j4, -⟩ := at_T43 hrow (j : Int) (by omega) (by omega)
 cases ej
 rw [hrj] at j0 j4
 have i0' : w.cell? ⟨gr, i * 6, none⟩ = some (.int .i64 xi.f0) := by simpa [add_at] using i0
 have j0' : w.cell? ⟨gr, j * 6, none⟩ = some (.int .i64 xj.f0) := by simpa [add_at] using j0
 have j4' : w.cell? ⟨gr, j * 6 + 4, none⟩ = some (.int .i64 xj.f4) := by simpa [add_at] using j4
 have HK : Hid (∀ W : World, Below w.heap.size w W → W.cell? ⟨gr, i * 6, none⟩ = some (.int .i64 xi.f0) ∧ W.cell? ⟨gr, j * 6, none⟩ = some (.int .i64 xj.f0) ∧ W.cell? ⟨gr, j * 6 + 4, none⟩ = some (.int .i64 xj.f4)) :=
  Lib.hid (fun W h => ⟨pw_cell_below h i0', pw_cell_below h j0', pw_cell_below h j4'⟩)
 obtain ⟨pb, HPa, hcase⟩ : ∃ pb, Hid (∀ W : World, Calls Tryz.prog 78 #[.int .i64 xi.f0] W fun u w' => u = .returned (.bool pb) ∧ Below W.heap.size W w') ∧
   ((pb = false ∧ r = 7) ∨ (pb = true ∧ (xj.f0 == 1) = true ∧ r = 7) ∨ (pb = true ∧ (xj.f0 == 1) = false ∧ (xi.f0 == 1) = true ∧ (xj.f0 == 3) = true ∧ r = 7) ∨ (pb = true ∧ (xj.f0 == 1) = false ∧ (xi.f0 == 1) = false ∧ decide (xj.f4 ≥ 0) = true ∧ decide (0 ≤ xj.f4) = true ∧ r = 9) ∨ (pb = true ∧ (xj.f0 == 1) = false ∧ (xi.f0 == 1) = true ∧ (xj.f0 == 3) = false ∧ decide (xj.f4 ≥ 0) = true ∧ decide (0 ≤ xj.f4) = true ∧ r = 9)) := by
  have hP : ∀ pb, dom_parent.f xi.f0 = some pb → Hid (∀ W : World, Calls Tryz.prog 78 #[.int .i64 xi.f0] W fun u w' => u = .returned (.bool pb) ∧ Below W.heap.size W w') := fun pb h => Lib.hid (fun W => (dom_parent.calls xi.f0 pb W h).mono fun u w' ⟨h1, h2⟩ => ⟨h1, by obtain ⟨m, hm⟩ := h2.out; rw [hm]; exact pw_below_drewN (Below.refl _ _) m⟩)
  rcases hr with ⟨h1, h2⟩ | ⟨h1, h2, h3⟩ | ⟨h1, h2, h3, h4, h5⟩ | ⟨h1, h2, h3, h4, h5⟩
  ·exact ⟨false, hP _ h1, .inl ⟨rfl, h2⟩⟩
  ·exact ⟨true, hP _ h1, .inr (.inl ⟨rfl, by simpa using h2, h3⟩)⟩
  ·exact ⟨true, hP _ h1, .inr (.inr (.inl ⟨rfl, by simpa using h2, by simpa using h3, by simpa using h4, h5⟩))⟩
  ·by_cases h6 : xi.f0 = 1
   ·exact ⟨true, hP _ h1, .inr (.inr (.inr (.inr ⟨rfl, by simpa using h2, by simpa using h6, by simpa using fun h => h3 ⟨h6, h⟩, decide_eq_true h4, decide_eq_true h4, h5⟩)))⟩
   ·exact ⟨true, hP _ h1, .inr (.inr (.inr (.inl ⟨rfl, by simpa using h2, by simpa using h6, decide_eq_true h4, decide_eq_true h4, h5⟩)))⟩
 clear hr hE hw hB hblk hS hil hjl hn hty hgr hbr hn2 hnc hrow hri hrj i0 j0 j4 i0' j0' j4' hi hj hxi hxj HC
 unfold editV
 rcases hcase with ⟨rfl, rfl⟩ | ⟨rfl, z1, rfl⟩ | ⟨rfl, z1, z2, z3, rfl⟩ | ⟨rfl, z1, z2, z3, z4, rfl⟩ | ⟨rfl, z1, z2, z3, z4, z5, rfl⟩
 all_goals
  go_enter Tryz.func59, Tryz.ntmps59
  go_upto_region 1 with fail
  go_quiet ((go_at_call 84; first | with_reducible exact HNi.out _ HBx.out _ | with_reducible exact HNj.out _ HBx.out _))
  go_upto_region 2 with fail
  have HBn := Lib.hid (pw_below_drewN HBx.out nq)
  generalize (World.drewN _ nq) = w1 at HBn ⊢
  obtain ⟨k0, k1, k4⟩ := HK.out _ HBn.out
  go_wp2_with fail
  refine (HPa.out w1).mono ?_
  rintro u w2 ⟨rfl, hb2⟩
  have HB2 := Lib.hid (HBn.out.trans (hb2.mono HBn.out.size))
  obtain ⟨y0, y1, y4⟩ := HK.out _ HB2.out
  clear k0 k1 k4 hb2
  go_wp2_with fail
  go_ret
  exact ⟨rfl, HE.out _ HB2.out⟩
/-- The place in a row of kids. -/
def placeF (k : Nat) (ks : List Int) (be : Int) : Option Int := if be = -1 then some (ks.length : Int) else slices_Index_int_int.f k ks be
theorem belowF_ne {l : List S43} {k : Nat} {i j : Int} (h0 : 0 ≤ i) (h : belowF l k i j = some false) : i ≠ j := by
 rintro rfl
 cases k with
 | zero => simp [belowF] at h
 | succ k => simp [belowF, h0] at h
theorem ins_any (A : Option Addr) (c n i : Nat) (xs : List Int) (y : Int) (vb base : Nat) (w : World) (hown : w.ownsRow base 3 1 (.slice A n c) n (nums .i64 xs)) (hy : w.heap[vb]? = some (.cells #[.int .i64 y] 3 (0, 0))) (hvb : some vb ≠ (Value.slice A n c).ownBlock) (hi : i ≤ n) (hn : n ≤ 1000) (hb : base ≤ w.heap.size) :
  Calls Tryz.prog 51 #[.slice A n c, .int .i64 i, .slice (some ⟨vb, 0, none⟩) 1 1] w fun e w' => ∃ v', e = .returned v' ∧ w'.ownsRow base 3 1 v' (n + 1) (nums .i64 (xs.take i ++ y :: xs.drop i)) ∧ w.grownBy w' (Value.slice A n c).ownBlock ∧ (v'.ownBlock = (Value.slice A n c).ownBlock ∨ v'.ownBlock = some w.heap.size) := by
 by_cases h : i < n
 ·exact ins_mid A c n i xs y vb base w hown hy hvb h hn hb
 ·have e : i = n := by omega
  have hl : xs.length = n := by have := hown.1; simpa [nums] using this
  rw [e, List.take_of_length_le (by omega), List.drop_of_length_le (by omega)]
  exact ins_end A c n xs ⟨vb, 0, none⟩ y base w hown ((blk_cell hy 0).trans rfl) hn hb
set_option maxRecDepth 100000 in
set_option maxHeartbeats 4000000 in
theorem insert_rest (k : Nat) (e : S45) (A8 A11 : Option Addr) (n8 n11 c8 c11 : Nat) (l : List S43) (q : Bool) (made : Int) (b i j : Nat) (xi xj : S43) (p : Int) (bb : Bool) (r : Int) (l' : List S43) (w0 w : World) (hw : Below w0.heap.size w0 w) (hE : Ed w w0.heap.size b l q made)
    (hi : (i : Int) = e.f1) (hj : (j : Int) = e.f2) (hxi : l[i]? = some xi) (hxj : l[j]? = some xj)
    (hpa : dom_parent.f xi.f0 = some true) (hto : xj.f0 ≠ 1) (htx : ¬ (xi.f0 = 1 ∧ xj.f0 = 3)) (hpj : xj.f4 < 0) (hlk : xi.f5.length ≤ 1000) (hpl : placeF k xi.f5 e.f3 = some p)
    (hout : (p < 0 ∧ r = 5 ∧ l' = l) ∨ (0 ≤ p ∧ belowF l k i j = some bb ∧ ((bb = true ∧ r = 8 ∧ l' = l) ∨ (bb = false ∧ ∃ u dp, dom_up.f k l q i = some u ∧ deepF l k j = some dp ∧ ((40 < wrap64 (wrap64 (u + 1) + dp) ∧ r = 2 ∧ l' = l) ∨ (wrap64 (wrap64 (u + 1) + dp) ≤ 40 ∧ p ≤ (xi.f5.length : Int) ∧ r = 0 ∧ l' = (l.set i ⟨xi.f0, xi.f1, xi.f2, xi.f3, xi.f4, xi.f5.take p.toNat ++ (j : Int) :: xi.f5.drop p.toNat⟩).set j ⟨xj.f0, xj.f1, xj.f2, xj.f3, i, xj.f5⟩)))))) :
    Calls Tryz.prog 59 #[.pointer (some ⟨b, 0, none⟩), editV e A8 A11 n8 n11 c8 c11] w fun u w' => u = .returned (.int .i64 r) ∧ Ed w' w0.heap.size b l' q made ∧ Below w0.heap.size w0 w' := by
  obtain ⟨A, c, hBb, hblk, hS⟩ := ed_open hE
  have hil : i < l.length := (List.getElem?_eq_some_iff.1 hxi).1
  have hjl : j < l.length := (List.getElem?_eq_some_iff.1 hxj).1
  obtain ⟨n, hn⟩ : ∃ n, n = l.length := ⟨_, rfl⟩
  rw [← hn] at hblk hS hil hjl
  obtain ⟨gr, cap, hv, hbr, hgr, cells, hty⟩ := Kd.S_form hS (by omega)
  injection hv with hA hn' hc'
  subst hA
  clear hn' hc'
  obtain ⟨hn2, hnc, hrow0⟩ := Kd.S_reads' hS
  have hrow : Kd.C k43 w (some ⟨gr, 0, none⟩) n l := by rw [hn2]; exact hrow0
  have hgb : gr ≠ b := fun he => blk_ne hty hblk (by decide) he
  have hgrB : w0.heap.size ≤ gr := Kd.S_base hS gr (by simp [Value.ownBlock])
  have hgrw : gr < w.heap.size := Kd.S_lt hS gr (by simp [Value.ownBlock])
  have HE : Hid (∀ W : World, Below w.heap.size w W → Ed W w0.heap.size b l q made ∧ Below w0.heap.size w0 W) := Lib.hid (fun W h => ⟨hE.below h, hw.trans (h.mono hw.size)⟩)
  have HS := Lib.hid hS
  have HXi := Lib.hid hxi
  have HXj := Lib.hid hxj
  have HW := Lib.hid hw
  have HBb := Lib.hid hBb
  have HLk := Lib.hid hlk
  have HC : Hid (∀ W : World, Below w.heap.size w W → W.cell? ⟨b, 0, none⟩ = some (.slice (some ⟨gr, 0, none⟩) n c)) := Lib.hid (fun W h => pw_cell_below h ((blk_cell hblk 0).trans rfl))
  have HNi : Hid (∀ W : World, Below w.heap.size w W → ∀ m, Calls Tryz.prog 84 #[.pointer (some ⟨b, 0, none⟩), .int .i64 e.f1] (W.drewN m) fun u w' => u = .returned (.pointer (some ⟨gr, i * 6, none⟩)) ∧ ∃ m', w' = W.drewN m') :=
    Lib.hid (by rw [← hi]; exact fun W h m => (dom_editor_node.in_ b gr n c i (W.drewN m) (HC.out _ (pw_below_drewN h m)) hil).mono fun e w' ⟨h1, h2⟩ => ⟨h1, m, h2.symm⟩)
  have HNj : Hid (∀ W : World, Below w.heap.size w W → ∀ m, Calls Tryz.prog 84 #[.pointer (some ⟨b, 0, none⟩), .int .i64 e.f2] (W.drewN m) fun u w' => u = .returned (.pointer (some ⟨gr, j * 6, none⟩)) ∧ ∃ m', w' = W.drewN m') :=
    Lib.hid (by rw [← hj]; exact fun W h m => (dom_editor_node.in_ b gr n c j (W.drewN m) (HC.out _ (pw_below_drewN h m)) hjl).mono fun e w' ⟨h1, h2⟩ => ⟨h1, m, h2.symm⟩)
  have hri : rd_T43 l (i : Int) = xi := by unfold rd_T43; rw [Int.toNat_natCast, List.getD_eq_getElem?_getD, hxi]; rfl
  have hrj : rd_T43 l (j : Int) = xj := by unfold rd_T43; rw [Int.toNat_natCast, List.getD_eq_getElem?_getD, hxj]; rfl
  obtain ⟨adi, A2i, c2i, A5, c5, ei, i0, -, -, -, -, i5, -, -, h5l, h5⟩ := at_T43 hrow (i : Int) (by omega) (by omega)
  cases ei
  rw [hri] at i0 i5 h5l h5
  obtain ⟨adj, A2j, c2j, A5j, c5j, ej, j0, -, -, -, j4, -, -, -, -, -⟩ := at_T43 hrow (j : Int) (by omega) (by omega)
  cases ej
  rw [hrj] at j0 j4
  have HIx : Hid (e.f3 ≠ -1 → ∀ W : World, Below w.heap.size w W → Calls Tryz.prog 28 #[.slice A5 xi.f5.length c5, .int .i64 e.f3] W fun u w' => u = .returned (.int .i64 p) ∧ ∃ m, w' = W.drewN m) :=
    Lib.hid (fun hne W h => (slices_Index_int_int.calls k A5 c5 xi.f5 e.f3 p W (Kd.C_below h5 h) h5l (by unfold placeF at hpl; rw [if_neg hne] at hpl; exact hpl)).mono fun u w' ⟨h1, h2⟩ => ⟨h1, h2.out⟩)
  have HPn : e.f3 = -1 → p = (xi.f5.length : Int) := fun he => by unfold placeF at hpl; rw [if_pos he] at hpl; exact (Option.some.inj hpl).symm
  obtain ⟨ni, hni⟩ : ∃ ni, ni = xi.f5.length := ⟨_, rfl⟩
  rw [← hni] at i5 HIx HPn
  have hk5w : w.cell? ⟨gr, i * 6 + 5, none⟩ = some (.slice A5 ni c5) := by simpa [add_at] using i5
  have HOw := Lib.hid (ed_kids HS.out hil hxi hk5w).1
  clear hk5w
  have i0' : w.cell? ⟨gr, i * 6, none⟩ = some (.int .i64 xi.f0) := by simpa [add_at] using i0
  have j0' : w.cell? ⟨gr, j * 6, none⟩ = some (.int .i64 xj.f0) := by simpa [add_at] using j0
  have j4' : w.cell? ⟨gr, j * 6 + 4, none⟩ = some (.int .i64 xj.f4) := by simpa [add_at] using j4
  have i5' : w.cell? ⟨gr, i * 6 + 5, none⟩ = some (.slice A5 ni c5) := by simpa [add_at] using i5
  have HR1 : Hid (∀ W1 : World, (w.alloc (.cells #[.int .i64 e.f0, .int .i64 e.f1, .int .i64 e.f2, .int .i64 e.f3, .string e.f4, .string e.f5, .int .i64 e.f6.f0, .string e.f6.f1, .slice A8 n8 c8, .string e.f6.f3, .int .i64 e.f6.f4, .slice A11 n11 c11] 45)) = W1 → ∀ m, Below w.heap.size w (W1.drewN m) ∧ InsR (W1.drewN m) b gr n c w.heap.size l q made e.f1 e.f2 e.f3 i (.slice A5 ni c5) ∧ (W1.drewN m).cell? ⟨gr, i * 6, none⟩ = some (.int .i64 xi.f0) ∧ (W1.drewN m).cell? ⟨gr, j * 6, none⟩ = some (.int .i64 xj.f0) ∧ (W1.drewN m).cell? ⟨gr, j * 6 + 4, none⟩ = some (.int .i64 xj.f4)) :=
    Lib.hid (fun W1 h m => by
      subst h
      have hb : Below w.heap.size w ((w.alloc (.cells #[.int .i64 e.f0, .int .i64 e.f1, .int .i64 e.f2, .int .i64 e.f3, .string e.f4, .string e.f5, .int .i64 e.f6.f0, .string e.f6.f1, .slice A8 n8 c8, .string e.f6.f3, .int .i64 e.f6.f4, .slice A11 n11 c11] 45)).drewN m) := pw_below_drewN (below_alloc (Below.refl _ _) _) m
      have hbx := blk_drewN (blk_new w (.cells #[.int .i64 e.f0, .int .i64 e.f1, .int .i64 e.f2, .int .i64 e.f3, .string e.f4, .string e.f5, .int .i64 e.f6.f0, .string e.f6.f1, .slice A8 n8 c8, .string e.f6.f3, .int .i64 e.f6.f4, .slice A11 n11 c11] 45)) m
      exact ⟨hb, ⟨blk_below hblk hb, (blk_cell hbx 1).trans rfl, (blk_cell hbx 2).trans rfl, (blk_cell hbx 3).trans rfl, Kd.C_below hrow hb, pw_cell_below hb i5'⟩, pw_cell_below hb i0', pw_cell_below hb j0', pw_cell_below hb j4'⟩)
  have HK0 : Hid (∀ W : World, Below w.heap.size w W → W.cell? ⟨gr, i * 6, none⟩ = some (.int .i64 xi.f0) ∧ W.cell? ⟨gr, j * 6, none⟩ = some (.int .i64 xj.f0) ∧ W.cell? ⟨gr, j * 6 + 4, none⟩ = some (.int .i64 xj.f4)) := Lib.hid (fun W h => ⟨pw_cell_below h i0', pw_cell_below h j0', pw_cell_below h j4'⟩)
  have HBx : Hid (Below w.heap.size w (w.alloc (.cells #[.int .i64 e.f0, .int .i64 e.f1, .int .i64 e.f2, .int .i64 e.f3, .string e.f4, .string e.f5, .int .i64 e.f6.f0, .string e.f6.f1, .slice A8 n8 c8, .string e.f6.f3, .int .i64 e.f6.f4, .slice A11 n11 c11] 45))) := Lib.hid (below_alloc (Below.refl _ _) _)
  have HPa : Hid (∀ W : World, Calls Tryz.prog 78 #[.int .i64 xi.f0] W fun u w' => u = .returned (.bool true) ∧ ∃ m, w' = W.drewN m) := Lib.hid (fun W => (dom_parent.calls xi.f0 true W hpa).mono fun u w' ⟨h1, h2⟩ => ⟨h1, h2.out⟩)
  have HBe : Hid (belowF l k i j = some bb → ∀ W : World, W.cell? ⟨b, 0, none⟩ = some (.slice (some ⟨gr, 0, none⟩) n c) → Kd.C k43 W (some ⟨gr, 0, none⟩) n l → Calls Tryz.prog 85 #[.pointer (some ⟨b, 0, none⟩), .int .i64 e.f1, .int .i64 e.f2] W fun e w' => e = .returned (.bool bb) ∧ W = w') :=
    Lib.hid (by rw [hn, ← hi, ← hj]; exact fun hbel W h1 h2 => below_calls k b c _ l i j bb W h1 h2 hbel)
  have HDe : Hid (∀ dp, deepF l k j = some dp → ∀ W : World, W.cell? ⟨b, 0, none⟩ = some (.slice (some ⟨gr, 0, none⟩) n c) → Kd.C k43 W (some ⟨gr, 0, none⟩) n l → Calls Tryz.prog 86 #[.pointer (some ⟨b, 0, none⟩), .int .i64 e.f2] W fun e w' => e = .returned (.int .i64 dp) ∧ W = w') :=
    Lib.hid (by rw [hn, ← hj]; exact fun dp hdp W h1 h2 => deep_calls b c _ l W h1 h2 k j dp hdp)
  have HUe : Hid (∀ u, dom_up.f k l q i = some u → ∀ W : World, Kd.C k43 W (some ⟨gr, 0, none⟩) n l → Calls Tryz.prog 40 #[.agg #[.slice (some ⟨gr, 0, none⟩) n c, .bool q], .int .i64 e.f1] W fun e w' => e = .returned (.int .i64 u) ∧ Below W.heap.size W w') :=
    Lib.hid (by rw [hn, ← hi]; rw [hn] at hnc; exact fun u hup W h2 => dom_up.calls k _ c l q i u W h2 hnc hup)
  have htob : (xj.f0 == 1) = false := by simpa using hto
  have hcase : ((xi.f0 == 1) = true ∧ (xj.f0 == 3) = false) ∨ (xi.f0 == 1) = false := by
    by_cases h1 : xi.f0 = 1
    · exact .inl ⟨by simpa using h1, by simpa using fun h => htx ⟨h1, h⟩⟩
    · exact .inr (by simpa using h1)
  have hp4 : decide (0 ≤ xj.f4) = false := decide_eq_false (by omega)
  have hp5 : decide (xj.f4 ≥ 0) = false := decide_eq_false (by omega)
  have HNI := Lib.hid hni
  have HOut := Lib.hid hout
  have HPN := Lib.hid HPn
  have HN := Lib.hid hn
  have HI := Lib.hid hi
  have HJ := Lib.hid hj
  have hbe : e.f3 = -1 ∨ ((e.f3 != -1) = true ∧ (e.f3 == -1) = false) := by
    by_cases h : e.f3 = -1
    · exact .inl h
    · exact .inr ⟨by simpa using h, by simpa using h⟩
  clear HPn hpa hto htx hpj hpl hout hni hn hblk hrow hrow0 hxi hxj i0 i5 h5l h5 j0 j4 hri hrj i0' i5' j0' j4' hE hw hS hBb hlk hn2 hi hj cells hty hgr hbr hnc
  unfold editV
  have hbe : ((e.f3 != -1) = false ∧ (e.f3 == -1) = true ∧ p = (ni : Int)) ∨ ((e.f3 != -1) = true ∧ (e.f3 == -1) = false ∧ e.f3 ≠ -1) := by
    rcases hbe with h | ⟨h, h2⟩
    · exact .inl ⟨by simpa using h, by simpa using h, HPN.out h⟩
    · exact .inr ⟨h, h2, by simpa using h⟩
  rcases hbe with ⟨hbe, hbe2, hpn⟩ | ⟨hbe, hbe2, hbe3⟩ <;> rcases hcase with ⟨hk1, hk3⟩ | hk1
  all_goals
    go_enter Tryz.func59, Tryz.ntmps59
    go_upto_region 1 with fail
    go_quiet ((go_at_call 84; first | with_reducible exact HNi.out _ HBx.out _ | with_reducible exact HNj.out _ HBx.out _))
    go_upto_region 2 with fail
    obtain ⟨hb1, hI1, k0, k1, k4⟩ := HR1.out _ rfl nq
    generalize (World.drewN _ nq) = w1 at hb1 hI1 k0 k1 k4 ⊢
    clear HR1 HNi HNj HBx HPN
    have HB1 := Lib.hid hb1
    have HI1 := Lib.hid hI1
    have b0 := (blk_cell hI1.blk 0).trans rfl
    have x1 := hI1.at1
    have x2 := hI1.to1
    have x3 := hI1.be1
    have x5 := hI1.k5
    clear hb1 hI1
    go_wp2_with fail
    refine (HPa.out w1).mono ?_
    rintro u w' ⟨rfl, m1, rfl⟩
    have hI2 := HI1.out.on (pw_below_drewN (Below.refl w1.heap.size w1) m1)
    have hB2 : Below w.heap.size w (w1.drewN m1) := pw_below_drewN HB1.out m1
    generalize w1.drewN m1 = w2 at hI2 hB2 ⊢
    clear HI1 HB1 b0 x1 x2 x3 x5 k0 k1 k4 HPa
    have HI2 := Lib.hid hI2
    have HB2 := Lib.hid hB2
    clear hI2 hB2
    first
    | (have HIy : Hid (∀ m, Calls Tryz.prog 28 #[.slice A5 ni c5, .int .i64 e.f3] (w2.drewN m) fun u w' => u = .returned (.int .i64 p) ∧ ∃ m', w' = w2.drewN m') :=
         Lib.hid (fun m => (HIx.out hbe3 _ (pw_below_drewN HB2.out m)).mono fun u w' ⟨h1, m2, h2⟩ => ⟨h1, m + m2, by rw [h2]; simp [World.drewN, Nat.add_assoc]⟩)
       have x3 := HI2.out.be1
       have x5 := HI2.out.k5
       have b0 := (blk_cell HI2.out.blk 0).trans rfl
       obtain ⟨k0, k1, k4⟩ := HK0.out w2 HB2.out
       clear HIx
       go_upto_region 10 with fail
       go_quiet ((go_at_call 28; with_reducible exact HIy.out _))
       have hI3 := HI2.out.on (pw_below_drewN (Below.refl w2.heap.size w2) nq)
       have hB3 : Below w.heap.size w (w2.drewN nq) := pw_below_drewN HB2.out nq
       clear HI2 HB2 HIy b0 x3 x5 k0 k1 k4
       generalize w2.drewN nq = w3 at hI3 hB3 ⊢)
    | (have hI3 := HI2.out
       have hB3 := HB2.out
       clear HI2 HB2 HIx
       generalize w2 = w3 at hI3 hB3 ⊢)
    have HI3 := Lib.hid hI3
    have HB3 := Lib.hid hB3
    clear hI3 hB3
    have x1 := HI3.out.at1
    have x2 := HI3.out.to1
    have x3 := HI3.out.be1
    have x5 := HI3.out.k5
    have b0 := (blk_cell HI3.out.blk 0).trans rfl
    obtain ⟨k0, k1, k4⟩ := HK0.out w3 HB3.out
    have HK4 : Hid (∀ W : World, Below w.heap.size w W → W.cell? ⟨gr, j * 6 + 4, none⟩ = some (.int .i64 xj.f4)) := Lib.hid (fun W h => (HK0.out W h).2.2)
    clear HK0
    rcases HOut.out with ⟨hp, rfl, rfl⟩ | ⟨hp, hbl, ho⟩
    · first
        | exact absurd hp (by omega)
        | (have hpb : decide (p < 0) = true := decide_eq_true hp
           go_wp2_with fail
           go_ret
           exact ⟨rfl, HE.out _ HB3.out⟩)
    · have hpb : decide (p < 0) = false := decide_eq_false (by omega)
      have hnb : decide ((ni : Int) < 0) = false := decide_eq_false (by omega)
      clear HOut
      go_wp2_with fail
      refine (HBe.out hbl w3 b0 HI3.out.row).mono ?_
      rintro u w' ⟨rfl, rfl⟩
      rcases ho with ⟨rfl, rfl, rfl⟩ | ⟨rfl, u, dp, hup, hdp, ho⟩
      · go_wp2_with fail
        go_ret
        exact ⟨rfl, HE.out _ HB3.out⟩
      · go_upto_region 15 with fail
        clear b0 x1 x2 x3 x5 k0 k1 k4 HBe
        have HX : Hid (∀ W : World, Below w3.heap.size w3 W → W.cell? ⟨b, 0, none⟩ = some (.slice (some ⟨gr, 0, none⟩) n c) ∧ W.cell? ⟨b, 1, none⟩ = some (.bool q) ∧ W.cell? ⟨w.heap.size, 1, none⟩ = some (.int .i64 e.f1) ∧ W.cell? ⟨w.heap.size, 2, none⟩ = some (.int .i64 e.f2)) :=
          Lib.hid (fun W h => ⟨(blk_cell (HI3.out.on h).blk 0).trans rfl, (blk_cell (HI3.out.on h).blk 1).trans rfl, (HI3.out.on h).at1, (HI3.out.on h).to1⟩)
        have HU2 : Hid (∀ W : World, Below w3.heap.size w3 W → Calls Tryz.prog 40 #[.agg #[.slice (some ⟨gr, 0, none⟩) n c, .bool q], .int .i64 e.f1] W fun e w' => e = .returned (.int .i64 u) ∧ Below w3.heap.size w3 w') :=
          Lib.hid (fun W h => (HUe.out u hup W (HI3.out.on h).row).mono fun e w' ⟨h1, h2⟩ => ⟨h1, h.trans (h2.mono h.size)⟩)
        have HD2 : Hid (∀ W : World, Below w3.heap.size w3 W → Calls Tryz.prog 86 #[.pointer (some ⟨b, 0, none⟩), .int .i64 e.f2] W fun e w' => e = .returned (.int .i64 dp) ∧ W = w') :=
          Lib.hid (fun W h => HDe.out dp hdp W (HX.out W h).1 (HI3.out.on h).row)
        have HBel := Lib.hid hbl
        clear HUe HDe hup hdp hbl
        obtain ⟨s1, hw1⟩ : ∃ s1, IntKind.i64.wrap (u + 1) = s1 := ⟨_, rfl⟩
        obtain ⟨s2, hw2⟩ : ∃ s2, IntKind.i64.wrap (s1 + dp) = s2 := ⟨_, rfl⟩
        have hs2 : wrap64 (wrap64 (u + 1) + dp) = s2 := by rw [← hw2, ← hw1, IntWalk.i64_left, IntWalk.i64_left]
        rw [hs2] at ho
        clear hs2
        obtain ⟨bq, hbq⟩ : ∃ bq, decide (40 < s2) = bq := ⟨_, rfl⟩
        have HO := Lib.hid ho
        clear ho
        go_cut [82] (fun s82 wx => s82 = .bool bq ∧ Hid (Below w3.heap.size w3 wx))
        case first =>
          go_region_held3 (fun W => W.cell? ⟨b, 0, none⟩ = some (.slice (some ⟨gr, 0, none⟩) n c) ∧ W.cell? ⟨b, 1, none⟩ = some (.bool q) ∧ W.cell? ⟨w.heap.size, 1, none⟩ = some (.int .i64 e.f1) ∧ W.cell? ⟨w.heap.size, 2, none⟩ = some (.int .i64 e.f2)) (first | exact HX.out _ (by (repeat (first | refine below_drew ?_)); first | exact hb3 | exact Below.refl _ _) | go_keep)
            (first | (with_reducible refine (HU2.out _ ?_).mono ?_; ((repeat (first | refine below_drew ?_)); exact Below.refl _ _); rintro e w3 ⟨rfl, hb3⟩) | (with_reducible refine (HD2.out _ ?_).mono ?_; ((repeat (first | refine below_drew ?_)); first | exact hb3 | exact Below.refl _ _); rintro e w' ⟨rfl, rfl⟩))
          all_goals (go_wp2_with fail; go_meet; exact ⟨rfl, Lib.hid hb3⟩)
        case rest =>
          obtain ⟨rfl, HBx⟩ := hcut
          rename_i wc hcw
          clear hw1 hw2
          rcases HO.out with ⟨h40, rfl, rfl⟩ | ⟨h40, hpl, rfl, rfl⟩
          · obtain rfl : bq = true := by rw [← hbq]; exact decide_eq_true h40
            go_wp2_with fail
            go_ret
            exact ⟨rfl, HE.out _ (HB3.out.trans (HBx.out.mono HB3.out.size))⟩
          · obtain rfl : bq = false := by rw [← hbq]; exact decide_eq_false (Int.not_lt.2 h40)
            clear hbq
            have hij : i ≠ j := fun h => belowF_ne (Int.natCast_nonneg i) HBel.out (by rw [h])
            have HI4 := Lib.hid (HI3.out.on HBx.out)
            have HB4 : Hid (Below w.heap.size w wc) := Lib.hid (HB3.out.trans (HBx.out.mono HB3.out.size))
            clear HX HU2 HD2 HBx HI3 HB3 HO HBel
            have HP := Lib.hid (ed_kids (Kd.S_below HS.out HB4.out) hil HXi.out HI4.out.k5)
            obtain ⟨pn, rfl⟩ := Int.eq_ofNat_of_zero_le hp
            have HIn : Hid (∀ (x : Int) (W : World) (vb : Nat), x = (pn : Int) → Below wc.heap.size wc W → wc.heap.size ≤ vb → W.heap[vb]? = some (.cells #[.int .i64 e.f2] 3 (0, 0)) → Calls Tryz.prog 51 #[.slice A5 ni c5, .int .i64 x, .slice (some ⟨vb, 0, none⟩) 1 1] W fun u w' => ∃ A c', u = .returned (.slice A (ni + 1) c') ∧
                InsF w0 w' w b gr n c i j q made xj.f4 e.f1 (.slice A5 ni c5) (.slice A (ni + 1) c') (l.set i ⟨xi.f0, xi.f1, xi.f2, xi.f3, xi.f4, xi.f5.take pn ++ e.f2 :: xi.f5.drop pn⟩)) := Lib.hid (fun x W vb hx hb hvb hc => by
              subst hx
              have hni := HNI.out
              have hown := HP.out.1
              rw [← hni] at hown
              have hown' := pw_own_below hown hb
              have hB : w0.heap.size ≤ W.heap.size := Nat.le_trans (HW.out.trans (HB4.out.mono HW.out.size)).size hb.size
              obtain ⟨cells, hg0⟩ := Kd.S_typed (Kd.S_below HS.out HB4.out) gr (by simp [Value.ownBlock])
              have hn5 : ni ≤ 1000 := by have := HLk.out; omega
              refine (ins_any A5 c5 ni pn xi.f5 e.f2 vb w0.heap.size W hown' hc (fun he => by have := own_lt hown vb he.symm; omega) (by omega) hn5 hB).mono ?_
              rintro u w' ⟨v', rfl, ho, hg, hat⟩
              obtain ⟨A, c', rfl⟩ := own_slice ho
              have hgr := own_ne hown hg0 (by decide)
              have hgb4 : w'.heap[gr]? = wc.heap[gr]? := (hg.block gr (Nat.lt_of_lt_of_le (blk_lt hg0) hb.size) hgr).trans (hb.block gr (blk_lt hg0))
              have hbb4 := blk_grown (blk_below HI4.out.blk hb) hg (own_ne hown HI4.out.blk (by decide))
              have hxx : some w.heap.size ≠ (Value.slice A5 ni c5).ownBlock := fun he => by have := own_lt HOw.out _ he.symm; omega
              have hwl : w.heap.size < wc.heap.size := World.block_lt_of_cell? wc _ HI4.out.at1
              have hwb4 : w'.heap[w.heap.size]? = wc.heap[w.heap.size]? := (hg.block w.heap.size (Nat.lt_of_lt_of_le hwl hb.size) hxx).trans (hb.block _ hwl)
              have hgg : w'.heap[gr]? = some (.cells cells 43 (0, 0)) := hgb4.trans hg0
              have j4' := (HK4.out wc HB4.out)
              refine ⟨A, c', rfl, ⟨?_, hbb4, (World.cell?_of_block hgb4).trans HI4.out.k5, (World.cell?_of_block hgb4).trans j4', blk_frozen hgg _, blk_frozen hgg _, (World.cell?_of_block hwb4).trans HI4.out.at1, ?_⟩⟩
              · exact ((HW.out.trans (HB4.out.mono HW.out.size)).trans (hb.mono (HW.out.trans (HB4.out.mono HW.out.size)).size)).grown hg hB (own_base hown')
              · refine HP.out.2 W w' _ _ hb hg ?_ hat (by simp [Value.oneCell'])
                have e : (xi.f5.take pn ++ e.f2 :: xi.f5.drop pn).length = ni + 1 := by simp; omega
                rw [e]
                exact ho)
            have x5 := HI4.out.k5
            have x2 := HI4.out.to1
            have HX := Lib.hid (fun W (h : Below wc.heap.size wc W) => (⟨(HI4.out.on h).k5, (HI4.out.on h).to1⟩ : W.cell? ⟨gr, i * 6 + 5, none⟩ = some (.slice A5 ni c5) ∧ W.cell? ⟨w.heap.size, 2, none⟩ = some (.int .i64 e.f2)))
            have x5a := (HX.out _ (below_alloc (below_drew (Below.refl wc.heap.size wc)) (.cells #[.int .i64 e.f2] 3))).1
            have x5b := (HX.out _ (below_alloc (Below.refl wc.heap.size wc) (.cells #[.int .i64 e.f2] 3))).1
            have hlt17 : gr < wc.heap.size := World.block_lt_of_cell? wc _ x5
            have hne17 : gr ≠ wc.heap.size := by omega
            go_upto_region 17 with fail
            go_region_with (first | (with_reducible refine (HIn.out _ _ _ ?_ ?_ ?_ ?_).mono ?_; (first | rfl | exact hpn.symm); ((repeat (first | refine below_alloc ?_ _ | refine below_drew ?_)); exact Below.refl _ _); (first | exact Nat.le_refl _ | simp); (first | exact blk_new _ _ | exact blk_drew (blk_new _ _)); rintro e w4 ⟨A6, c6, rfl, hF⟩; have f1 := hF.c5; have f2 := hF.f5))
            all_goals
              have g1 : (w4.setCell ⟨gr, i * 6 + 5, none⟩ (.slice A6 (ni + 1) c6)).cell? ⟨w.heap.size, 1, none⟩ = some (.int .i64 e.f1) := (World.cell?_of_block (Below.heap_setCell w4 ⟨gr, i * 6 + 5, none⟩ _ w.heap.size (by show w.heap.size ≠ gr; omega))).trans hF.at1
              have g2 : (j * 6 + 4 = i * 6 + 5) = False := eq_false (by omega)
              have g3 := hF.c4
              have g4 := hF.f4
              have HF := Lib.hid hF
              clear hF x5 x2 x5a x5b f1 f2
              go_wp2_with fail
              go_ret
              rw [Int.toNat_natCast, HI.out, HJ.out]
              exact ⟨rfl, ⟨_, HBb.out, blk_far (blk_far HF.out.blk (Ne.symm hgb) _) (Ne.symm hgb) _, ed_parent HF.out.row hjl (by rw [List.getElem?_set_ne hij]; exact HXj.out) _⟩, (HF.out.below.setCell hgrB _).setCell hgrB _⟩
def insertF (k : Nat) (l : List S43) (q : Bool) (e : S45) : Option (Int × List S43) :=
 if (0 ≤ e.f1 ∧ e.f1 < (l.length : Int)) ∧ (0 ≤ e.f2 ∧ e.f2 < (l.length : Int)) then
  (dom_parent.f (rd_T43 l e.f1).f0).bind fun pb =>
   if pb = false ∨ (rd_T43 l e.f2).f0 = 1 ∨ ((rd_T43 l e.f1).f0 = 1 ∧ (rd_T43 l e.f2).f0 = 3) then some (7, l)
   else if 0 ≤ (rd_T43 l e.f2).f4 then some (9, l)
   else if (rd_T43 l e.f1).f5.length ≤ 1000 then
    (placeF k (rd_T43 l e.f1).f5 e.f3).bind fun p =>
     if p < 0 then some (5, l)
     else (belowF l k e.f1 e.f2).bind fun bb =>
      if bb = true then some (8, l)
      else (dom_up.f k l q e.f1).bind fun u => (deepF l k e.f2).bind fun dp =>
       if 40 < wrap64 (wrap64 (u + 1) + dp) then some (2, l)
       else if p ≤ ((rd_T43 l e.f1).f5.length : Int) then
        some (0, (l.set e.f1.toNat { rd_T43 l e.f1 with f5 := (rd_T43 l e.f1).f5.take p.toNat ++ e.f2 :: (rd_T43 l e.f1).f5.drop p.toNat }).set e.f2.toNat { rd_T43 l e.f2 with f4 := e.f1 })
       else none
   else none
 else some (5, l)
theorem insert_calls (k : Nat) (e : S45) (A8 A11 : Option Addr) (n8 n11 c8 c11 : Nat) (l : List S43) (q : Bool) (made : Int) (b : Nat) (r : Int) (l' : List S43) (w0 w : World) (hw : Below w0.heap.size w0 w) (hE : Ed w w0.heap.size b l q made) (h : insertF k l q e = some (r, l')) :
  Calls Tryz.prog 59 #[.pointer (some ⟨b, 0, none⟩), editV e A8 A11 n8 n11 c8 c11] w fun u w' => u = .returned (.int .i64 r) ∧ Ed w' w0.heap.size b l' q made ∧ Below w0.heap.size w0 w' := by
 unfold insertF at h
 split at h
 ·rename_i hc
  obtain ⟨⟨a1, a2⟩, a3, a4⟩ := hc
  obtain ⟨i, hi⟩ : ∃ i : Nat, (i : Int) = e.f1 := ⟨e.f1.toNat, Int.toNat_of_nonneg a1⟩
  obtain ⟨j, hj⟩ : ∃ j : Nat, (j : Int) = e.f2 := ⟨e.f2.toNat, Int.toNat_of_nonneg a3⟩
  have hil : i < l.length := by omega
  have hjl : j < l.length := by omega
  have hxi : l[i]? = some (rd_T43 l e.f1) := by
   unfold rd_T43
   rw [← hi, Int.toNat_natCast, List.getD_eq_getElem?_getD, List.getElem?_eq_getElem hil]; rfl
  have hxj : l[j]? = some (rd_T43 l e.f2) := by
   unfold rd_T43
   rw [← hj, Int.toNat_natCast, List.getD_eq_getElem?_getD, List.getElem?_eq_getElem hjl]; rfl
  have hin : e.f1.toNat = i := by rw [← hi, Int.toNat_natCast]
  have hjn : e.f2.toNat = j := by rw [← hj, Int.toNat_natCast]
  rw [hin, hjn] at h
  generalize rd_T43 l e.f1 = xi at h hxi
  generalize rd_T43 l e.f2 = xj at h hxj
  obtain ⟨pb, hpb, h⟩ := Option.bind_eq_some_iff.1 h
  by_cases hk : pb = false ∨ xj.f0 = 1 ∨ (xi.f0 = 1 ∧ xj.f0 = 3)
  ·rw [if_pos hk] at h
   obtain ⟨rfl, rfl⟩ : (7 : Int) = r ∧ l = l' := by simpa using h
   refine insert_kind e A8 A11 n8 n11 c8 c11 l q made b i j xi xj 7 w0 w hw hE hi hj hxi hxj ?_
   cases pb
   ·exact .inl ⟨hpb, rfl⟩
   ·by_cases h1 : xj.f0 = 1
    ·exact .inr (.inl ⟨hpb, h1, rfl⟩)
    ·have h2 : xi.f0 = 1 ∧ xj.f0 = 3 := by simpa [h1] using hk
     exact .inr (.inr (.inl ⟨hpb, h1, h2.1, h2.2, rfl⟩))
  rw [if_neg hk] at h
  have hp1 : pb = true := by cases pb with | true => rfl | false => exact absurd (.inl rfl) hk
  subst hp1
  have hk1 : xj.f0 ≠ 1 := fun h => hk (.inr (.inl h))
  have hk2 : ¬ (xi.f0 = 1 ∧ xj.f0 = 3) := fun h => hk (.inr (.inr h))
  by_cases h4 : 0 ≤ xj.f4
  ·rw [if_pos h4] at h
   obtain ⟨rfl, rfl⟩ : (9 : Int) = r ∧ l = l' := by simpa using h
   exact insert_kind e A8 A11 n8 n11 c8 c11 l q made b i j xi xj 9 w0 w hw hE hi hj hxi hxj (.inr (.inr (.inr ⟨hpb, hk1, hk2, h4, rfl⟩)))
  rw [if_neg h4] at h
  by_cases h5 : xi.f5.length ≤ 1000
  ·rw [if_pos h5] at h
   obtain ⟨p, hp, h⟩ := Option.bind_eq_some_iff.1 h
   have R := fun bb r l' ho => insert_rest k e A8 A11 n8 n11 c8 c11 l q made b i j xi xj p bb r l' w0 w hw hE hi hj hxi hxj hpb hk1 hk2 (by omega) h5 hp ho
   by_cases hpn : p < 0
   ·rw [if_pos hpn] at h
    obtain ⟨rfl, rfl⟩ : (5 : Int) = r ∧ l = l' := by simpa using h
    exact R false 5 l (.inl ⟨hpn, rfl, rfl⟩)
   rw [if_neg hpn] at h
   obtain ⟨bb, hbb, h⟩ := Option.bind_eq_some_iff.1 h
   rw [← hi, ← hj] at hbb
   cases bb with
   | true =>
    obtain ⟨rfl, rfl⟩ : (8 : Int) = r ∧ l = l' := by simpa using h
    exact R true 8 l (.inr ⟨by omega, hbb, .inl ⟨rfl, rfl, rfl⟩⟩)
   | false =>
    rw [if_neg (by decide)] at h
    obtain ⟨u, hu, h⟩ := Option.bind_eq_some_iff.1 h
    obtain ⟨dp, hdp, h⟩ := Option.bind_eq_some_iff.1 h
    rw [← hi] at hu
    rw [← hj] at hdp
    by_cases h40 : 40 < wrap64 (wrap64 (u + 1) + dp)
    ·rw [if_pos h40] at h
     obtain ⟨rfl, rfl⟩ : (2 : Int) = r ∧ l = l' := by simpa using h
     exact R false 2 l (.inr ⟨Int.not_lt.1 hpn, hbb, .inr ⟨rfl, u, dp, hu, hdp, .inl ⟨h40, rfl, rfl⟩⟩⟩)
    rw [if_neg h40] at h
    split at h
    ·rename_i hle
     injection h with h
     injection h with h1 h2
     subst h1 h2
     refine R false 0 _ (.inr ⟨Int.not_lt.1 hpn, hbb, .inr ⟨rfl, u, dp, hu, hdp, .inr ⟨Int.not_lt.1 h40, hle, rfl, ?_⟩⟩⟩)
     rw [hi, hj]
    ·exact absurd h (by simp)
  ·rw [if_neg h5] at h
   exact absurd h (by simp)
 ·rename_i hc
  obtain ⟨rfl, rfl⟩ : (5 : Int) = r ∧ l = l' := by simpa using h
  obtain ⟨A, c, hBb, hblk, hS⟩ := ed_open hE
  have HC : ∀ W : World, Below w.heap.size w W → W.cell? ⟨b, 0, none⟩ = some (.slice A l.length c) := fun W h => pw_cell_below h ((blk_cell hblk 0).trans rfl)
  have HN : ∀ x : Int, ∃ p, (∀ W : World, Below w.heap.size w W → Calls Tryz.prog 84 #[.pointer (some ⟨b, 0, none⟩), .int .i64 x] W fun u w' => u = .returned (.pointer p) ∧ W = w') ∧ ((0 ≤ x ∧ x < (l.length : Int)) → ∃ a, p = some a) ∧ (¬ (0 ≤ x ∧ x < (l.length : Int)) → p = none) := fun x => by
   by_cases hx : 0 ≤ x ∧ x < (l.length : Int)
   ·obtain ⟨gr, cap, hv, -⟩ := Kd.S_form hS (by omega)
    injection hv with hA hn' hc'
    subst hA
    obtain ⟨i, hi⟩ : ∃ i : Nat, (i : Int) = x := ⟨x.toNat, Int.toNat_of_nonneg hx.1⟩
    refine ⟨some ⟨gr, i * 6, none⟩, fun W h => ?_, fun _ => ⟨_, rfl⟩, fun h => absurd hx h⟩
    rw [← hi]
    exact dom_editor_node.in_ b gr _ c i W (HC W h) (by omega)
   ·exact ⟨none, fun W h => dom_editor_node.out_ b _ c A x W (HC W h) (by omega), fun h => absurd h hx, fun _ => rfl⟩
  obtain ⟨p1, q1, q2, q3⟩ := HN e.f1
  obtain ⟨p2, q4, q5, q6⟩ := HN e.f2
  refine insert_nil e A8 A11 n8 n11 c8 c11 l q made b p1 p2 w0 w hw hE q1 q4 ?_
  by_cases h1 : 0 ≤ e.f1 ∧ e.f1 < (l.length : Int)
  ·exact .inr ⟨q2 h1, q6 (fun h2 => hc ⟨h1, h2⟩)⟩
  ·exact .inl (q3 h1)

end Go.Proofs.YtmcinclecpeakaaGreatDoor.PRR
