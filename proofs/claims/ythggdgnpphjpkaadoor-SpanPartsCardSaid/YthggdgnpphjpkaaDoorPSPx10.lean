-- printed by wip/tools/pr.py (own) through the kit's printer; texts GIVEN by hand stand among them
import Derived.Test.YthggdgnpphjpkaaDoorPSPx0
import Derived.Test.YthggdgnpphjpkaaDoorPSPx5
import Derived.Test.YthggdgnpphjpkaaDoorPSPx6
import Derived.Test.YthggdgnpphjpkaaDoorPSPx9
namespace Go.Proofs.YthggdgnpphjpkaaDoor.PSP
open Go.RowKit Go.Proofs.YthggdgnpphjpkaaDoorW.PrintWords Go.Proofs.YthggdgnpphjpkaaDoorW.PrintLast Go.Proofs.YthggdgnpphjpkaaDoorW.PrintMore
attribute [local go_sem] max2_int min2_int max_two min_two max_three min_three max_four min_four   -- for this text's walks alone
set_option linter.unusedVariables false
set_option linter.unusedSimpArgs false

/-! ### dom_own: function 29 -/
section
open Kd
/-- Elements of one's own (true), and elements yet as they came (false): told at whatever world keeps W0. -/
def mixKd {α : Type} (d : Kd α) (W0 : World) : Kd (α × Bool) where
  sz := d.sz
  E := d.E
  K := fun w x cs => (x.2 = true → d.K w x.1 cs) ∧ (x.2 = false → ∀ W, Below W0.heap.size W0 W → d.K W x.1 cs)
  M := fun w base ok x cs => (x.2 = true → d.M w base ok x.1 cs) ∧ (x.2 = false → ∀ W, Below W0.heap.size W0 W → d.K W x.1 cs)
  K_len := fun {w x cs} h => by
    cases e : x.2 with
    | true => exact d.K_len (h.1 e)
    | false => exact d.K_len (h.2 e W0 (Below.refl _ _))
  K_one := fun {w x cs} h => by
    cases e : x.2 with
    | true => exact d.K_one (h.1 e)
    | false => exact d.K_one (h.2 e W0 (Below.refl _ _))
  K_below := fun hb h => ⟨fun e => d.K_below hb (h.1 e), h.2⟩
  K_of_M := fun h => ⟨fun e => d.K_of_M (h.1 e), h.2⟩
  M_mono := fun hok h => ⟨fun e => d.M_mono hok (h.1 e), h.2⟩
  M_bound := fun h => ⟨fun e => d.M_bound (h.1 e), h.2⟩
  M_move := fun hm h => ⟨fun e => d.M_move hm (h.1 e), h.2⟩
  M_lower := fun hb h => ⟨fun e => d.M_lower hb (h.1 e), h.2⟩
section
variable {α : Type} {d : Kd α} {e base : Nat} {w W : World} {ok : Nat → Prop} {v : Value} {xs : List α}
/-- All as they came: a copy's row. -/
theorem mix_new {inner : List Value} (ho : w.ownsRow base e d.sz v xs.length inner) (hr : Reps (d.K W) d.sz xs inner) : S (mixKd d W) e w base (fun _ => True) v (xs.map (·, false)) := by
  refine ⟨fun _ => 0, fun _ _ => trivial, inner, by rw [List.length_zipIdx, List.length_map]; exact ho, by rw [List.length_zipIdx, List.length_map]; exact hr.1, fun j p hj => ?_⟩
  rw [List.getElem?_zipIdx, Nat.zero_add, List.getElem?_map] at hj
  obtain ⟨q, hq, rfl⟩ := Option.map_eq_some_iff.1 hj
  obtain ⟨x, hx, rfl⟩ := Option.map_eq_some_iff.1 hq
  exact ⟨fun h => (Bool.false_ne_true h).elim, fun _ W' hb => d.K_below hb (hr.2 j x hx)⟩
/-- All of one's own. -/
theorem mix_done (h : S (mixKd d W) e w base ok v (xs.map (·, true))) : S d e w base ok v xs := by
  obtain ⟨f, h0, inner, ho, hr⟩ := h
  refine ⟨f, h0, inner, by rw [List.length_zipIdx, List.length_map] at ho; rw [List.length_zipIdx]; exact ho, by have := hr.1; rw [List.length_zipIdx, List.length_map] at this; rw [List.length_zipIdx]; exact this, fun j p hj => ?_⟩
  rw [List.getElem?_zipIdx, Nat.zero_add] at hj
  obtain ⟨q, hq, rfl⟩ := Option.map_eq_some_iff.1 hj
  exact (hr.2 j ((q, true), j) (by rw [List.getElem?_zipIdx, Nat.zero_add, List.getElem?_map, hq]; rfl)).1 rfl
/-- The first i of one's own. -/
def mix_upto (xs : List α) (i : Nat) : List (α × Bool) := xs.zipIdx.map fun p => (p.1, decide (p.2 < i))
theorem mix_upto_len (xs : List α) (i : Nat) : (mix_upto xs i).length = xs.length := by simp [mix_upto]
theorem mix_upto_get (xs : List α) (i j : Nat) : (mix_upto xs i)[j]? = xs[j]?.map fun x => (x, decide (j < i)) := by
  unfold mix_upto
  rw [List.getElem?_map, List.getElem?_zipIdx, Nat.zero_add, Option.map_map]
  rfl
theorem mix_upto_zero (xs : List α) : mix_upto xs 0 = xs.map (·, false) := by
  refine List.ext_getElem? fun j => ?_
  rw [mix_upto_get, List.getElem?_map]
  simp
theorem mix_upto_all (xs : List α) : mix_upto xs xs.length = xs.map (·, true) := by
  refine List.ext_getElem? fun j => ?_
  rw [mix_upto_get, List.getElem?_map]
  rcases Nat.lt_or_ge j xs.length with h | h
  · simp [h]
  · rw [List.getElem?_eq_none h]; rfl
theorem mix_upto_set (xs : List α) (i : Nat) (x : α) (hx : xs[i]? = some x) : (mix_upto xs i).set i (x, true) = mix_upto xs (i + 1) := by
  refine List.ext_getElem? fun j => ?_
  rw [mix_upto_get, List.getElem?_set, mix_upto_get, mix_upto_len]
  split
  · next h =>
    subst h
    rw [hx, if_pos (List.getElem?_eq_some_iff.1 hx).1]
    simp
  · next h =>
    congr 1
    funext y
    rw [decide_eq_decide.2]
    omega
end
end

theorem bcell {W w1 : World} (hb : Below W.heap.size W w1) : (∀ b o, b < W.heap.size → w1.cell? ⟨b, o, none⟩ = W.cell? ⟨b, o, none⟩) ∧ (∀ b o, b < W.heap.size → w1.frozen? ⟨b, o, none⟩ = W.frozen? ⟨b, o, none⟩) :=
  ⟨fun b o h => hb.cell (p := ⟨b, o, none⟩) h, fun b o h => hb.frozen (p := ⟨b, o, none⟩) h⟩
theorem mixE {w : World} : ∀ q, q ∈ 37 :: (mixKd k37 w).E → q ≠ 24 := (by decide : ∀ q, q ∈ 37 :: k37.E → q ≠ 24)
/-- Behind the first statement: the copy's row lies in a block of its own. -/
def Own0 (w W2 wx : World) (l : List S37) (n : Nat) (q : Bool) (g : Nat) : Prop := ∃ A c, W2.heap.size ≤ g ∧ Below W2.heap.size W2 wx ∧ wx.heap[g]? = some (.cells #[.slice A n c, .bool q] 24 (0, 0)) ∧ Kd.S (mixKd k37 w) 37 wx W2.heap.size (fun _ => True) (.slice A n c) (l.map (·, false))
theorem ownA {w W2 w' : World} {l : List S37} {n : Nat} {q : Bool} {A : Option Addr} {c : Nat} (hb : Below W2.heap.size W2 w') (hs : Kd.S (mixKd k37 w) 37 w' W2.heap.size (fun _ => True) (.slice A n c) (l.map (·, false))) :
    Own0 w W2 (w'.alloc (.cells #[.slice A n c, .bool q] 24)) l n q w'.heap.size := ⟨A, c, hb.size, below_alloc hb _, blk_new _ _, Kd.S_alloc hs _⟩
theorem ownB {w W2 w' : World} {l : List S37} {n : Nat} {q : Bool} {A : Option Addr} {c : Nat} (hb : Below W2.heap.size W2 w') (hg : w'.heap[W2.heap.size]? = some (.cells #[.slice none 0 0, .bool false] 24 (0, 0)))
    (hs : Kd.S (mixKd k37 w) 37 w' W2.heap.size (fun _ => True) (.slice A n c) (l.map (·, false))) :
    Own0 w W2 ((w'.setCell ⟨W2.heap.size, 0, none⟩ (.slice A n c)).setCell ⟨W2.heap.size, 1, none⟩ (.bool q)) l n q W2.heap.size :=
  ⟨A, c, Nat.le_refl _, (hb.setCell (Nat.le_refl _) _).setCell (Nat.le_refl _) _, blk_set (blk_set hg 0 _) 1 _, Kd.S_set (Kd.S_set hs hg mixE 0 _) (blk_set hg 0 _) mixE 1 _⟩
/-- At a round's head. -/
def Own1 (w W2 wx : World) (A : Option Addr) (c : Nat) (l : List S37) (n : Nat) (q : Bool) (g k : Nat) : Prop := Below W2.heap.size W2 wx ∧ wx.heap[g]? = some (.cells #[.slice A n c, .bool q] 24 (0, 0)) ∧ Kd.S (mixKd k37 w) 37 wx W2.heap.size (fun _ => True) (.slice A n c) (mix_upto l k)
theorem ownR {w W2 wr w1 w2 : World} {gr c n g k : Nat} {l : List S37} {q : Bool} {x : S37} {A6 A7 : Option Addr} {c6 c7 : Nat} (HW : Below w.heap.size w W2) (HO : Own1 w W2 wr (some ⟨gr, 0, none⟩) c l n q g k) (hk : k < n) (hn : n = l.length) (hx : l[k]? = some x)
    (hR6 : Kd.R k86 86 w1 W2.heap.size (fun j => wr.heap.size ≤ j) (.slice A6 x.f2.length c6) x.f2) (hb6 : Below wr.heap.size wr w1) (hR7 : Kd.R (Kd.int .i64) 3 w2 W2.heap.size (fun j => wr.heap.size ≤ j) (.slice A7 x.f5.length c7) x.f5) (hb7 : Below wr.heap.size wr w2) (hb7' : Below w1.heap.size w1 w2)
    (hbr : W2.heap.size ≤ gr) (hgr : gr < wr.heap.size) : Own1 w W2 ((w2.setCell ⟨gr, k * 6 + 2, none⟩ (.slice A6 x.f2.length c6)).setCell ⟨gr, k * 6 + 5, none⟩ (.slice A7 x.f5.length c7)) (some ⟨gr, 0, none⟩) c l n q g (k + 1) := by
  obtain ⟨hbx, hblk, hS⟩ := HO
  have hgg : g ≠ gr := by
    obtain ⟨cells, hty⟩ := Kd.S_typed hS gr (by simp [Value.ownBlock])
    exact blk_ne hblk hty (by decide)
  refine ⟨((hbx.trans (hb7.mono hbx.size)).setCell hbr _).setCell hbr _, blk_far (blk_far (blk_below hblk hb7) hgg _) hgg _, ?_⟩
  have hS2 : Kd.S (mixKd k37 w) 37 w2 W2.heap.size (fun j => True ∧ ¬ wr.heap.size ≤ j) (.slice (some ⟨gr, 0, none⟩) n c) (mix_upto l k) :=
    Kd.S_below (Kd.S_mono (Kd.S_bound hS) (fun j hj => ⟨trivial, by have := hj.2.2.1; omega⟩)) hb7
  obtain ⟨oki, cc, hcl, hM, hcc, hfr, hoki, hH⟩ := Kd.S_elem hS2 (z37, false) (k : Int) (by omega) (by omega)
  rw [show (mix_upto l k).getD (k : Int).toNat (z37, false) = (x, false) from by rw [Int.toNat_natCast, List.getD_eq_getElem?_getD, mix_upto_get, hx]; simp] at hM
  obtain ⟨A2, c2, A5, c5, hcs, -, -, -, -⟩ := k37_open (hM.2 rfl w2 (HW.trans ((hbx.trans (hb7.mono hbx.size)).mono HW.size)))
  subst hcs
  have h1 := (Kd.H_seg (Kd.H_more hH (fun j hj => trivial)) (by omega) (by omega) (seg := [.slice A6 x.f2.length c6]) (j := 2) (by show 2 + 1 ≤ 6; decide) (by simp [Value.oneCell'])).1
  have h2 := (Kd.H_seg h1 (by omega) (by omega) (seg := [.slice A7 x.f5.length c7]) (j := 5) (by show 5 + 1 ≤ 6; decide) (by simp [Value.oneCell'])).1
  have h3 : Kd.H (mixKd k37 w) 37 ((w2.setCell ⟨gr, k * 6 + 2, none⟩ (.slice A6 x.f2.length c6)).setCell ⟨gr, k * 6 + 5, none⟩ (.slice A7 x.f5.length c7)) W2.heap.size (fun _ => True) (.slice (some ⟨gr, 0, none⟩) n c) (mix_upto l k) (k : Int) (fun j => oki j ∨ wr.heap.size ≤ j) [.int .i64 x.f0, .string x.f1, .slice A6 x.f2.length c6, .string x.f3, .int .i64 x.f4, .slice A7 x.f5.length c7] := h2
  have hne : ∀ j, wr.heap.size ≤ j → j ≠ gr := fun j hj => by omega
  have h4 := Kd.H_back h3 (x' := (x, true)) (okp := fun j => wr.heap.size ≤ j) ⟨fun _ => k37_mkM _ _ _ x (Kd.R_far (Kd.R_far (Kd.R_below hR6 hb7') hne _) hne _) (Kd.R_far (Kd.R_far hR7 hne _) hne _), fun h => (Bool.noConfusion h)⟩ (fun j hj => .inr hj)
  rw [Int.toNat_natCast, mix_upto_set l k x hx] at h4
  exact h4
theorem ownE {w W2 wr : World} {A : Option Addr} {c n g k : Nat} {l : List S37} {q : Bool} (HW : Below w.heap.size w W2) (hsz : W2.heap.size = w.heap.size + 2) (HO : Own1 w W2 wr A c l n q g k) (hres : wr.heap[w.heap.size + 1]? = some (.cells #[.slice none 0 0, .bool false] 24 (0, 0))) (hk : k = l.length) :
    Kd.S k37 37 ((wr.setCell ⟨w.heap.size + 1, 0, none⟩ (.slice A n c)).setCell ⟨w.heap.size + 1, 1, none⟩ (.bool q)) w.heap.size (fun _ => True) (.slice A n c) l := by
  subst hk
  have h := HO.2.2
  rw [mix_upto_all] at h
  have h := Kd.S_lower (mix_done h) HW.size
  exact Kd.S_set (Kd.S_set h hres (by decide) 0 _) (blk_set hres 0 _) (by decide) 1 _
set_option maxRecDepth 100000 in
set_option maxHeartbeats 4000000 in
theorem dom_own.calls (A0_0 : Option Addr) (c0_0 : Nat) (l0_0 : List S37) (a0_1 : Bool) (w : World) (hr0_0 : Kd.C k37 w A0_0 l0_0.length l0_0) (hc0_0 : l0_0.length ≤ c0_0) (hn : l0_0.length ≤ 1000)
    (hin : ∀ x ∈ l0_0, x.f2.length ≤ 1000 ∧ x.f5.length ≤ 1000) :
    Calls Tryd.prog 29 #[.agg #[.slice A0_0 l0_0.length c0_0, .bool a0_1]] w fun e w' => ∃ v0_ : Value, e = .returned (.agg #[v0_, .bool a0_1]) ∧ Kd.S k37 37 w' w.heap.size (fun _ => True) v0_ l0_0 ∧ Below w.heap.size w w' := by
  obtain ⟨n, hnl⟩ : ∃ n, n = l0_0.length := ⟨_, rfl⟩
  have HB : Hid (∀ W2 : World, ((w.alloc (.cells #[.slice A0_0 n c0_0, .bool a0_1] 24)).alloc (.cells #[.slice none 0 0, .bool false] 24)) = W2 → Below w.heap.size w W2 ∧ W2.heap.size = w.heap.size + 2 ∧ W2.heap[w.heap.size + 1]? = some (.cells #[.slice none 0 0, .bool false] 24 (0, 0)) ∧ W2.cell? ⟨w.heap.size, 0, none⟩ = some (.slice A0_0 n c0_0) ∧ W2.cell? ⟨w.heap.size, 1, none⟩ = some (.bool a0_1)) :=
    Lib.hid (fun W2 h => by
      subst h
      exact ⟨((Below.refl _ w).alloc (Nat.le_refl _) _).alloc (by simp) _, by simp, by simpa using blk_new (w.alloc (.cells #[.slice A0_0 n c0_0, .bool a0_1] 24)) (.cells #[.slice none 0 0, .bool false] 24), by simp [go_sem], by simp [go_sem]⟩)
  have HCl : Hid (∀ W2 W : World, Below w.heap.size w W2 → Below W2.heap.size W2 W → Calls Tryd.prog 38 #[.slice A0_0 n c0_0] W fun e w' => ∃ A c, e = .returned (.slice A n c) ∧ Kd.S (mixKd k37 w) 37 w' W2.heap.size (fun _ => True) (.slice A n c) (l0_0.map (·, false)) ∧ Below W2.heap.size W2 w' ∧ Below W.heap.size W w') :=
    Lib.hid (fun W2 W h2 hb => by
      rw [hnl]
      have hle : W2.heap.size ≤ W.heap.size := hb.size
      refine (api_Node.row A0_0 c0_0 l0_0 w W (h2.trans (hb.mono h2.size)) hr0_0 (by omega)).mono ?_
      rintro e w' ⟨v, inner, rfl, ho, hr, hb'⟩
      obtain ⟨A, c, rfl⟩ := own_slice ho
      exact ⟨A, c, rfl, Kd.S_lower (mix_new ho hr) hle, hb.trans (hb'.mono hle), hb'⟩)
  rw [← hnl] at hc0_0 hn ⊢
  have HR := Lib.hid hr0_0
  have HN := Lib.hid hnl
  have HI := Lib.hid hin
  clear hr0_0 hnl hin
  go_enter Tryd.func29, Tryd.ntmps29
  go_upto_region 1 with fail
  generalize hW2 : ((w.alloc (.cells #[.slice A0_0 n c0_0, .bool a0_1] 24)).alloc (.cells #[.slice none 0 0, .bool false] 24)) = W2
  obtain ⟨hb2, hsz, e1, e2, e3⟩ := HB.out W2 hW2
  clear HB hW2
  have HB2 := Lib.hid hb2
  have HSz := Lib.hid hsz
  have HK : Hid (∀ W, Below W2.heap.size W2 W → W.cell? ⟨w.heap.size + 1, 0, none⟩ = some (.slice none 0 0) ∧ W.cell? ⟨w.heap.size, 0, none⟩ = some (.slice A0_0 n c0_0) ∧ W.cell? ⟨w.heap.size, 1, none⟩ = some (.bool a0_1)) := Lib.hid (fun W hb => ⟨pw_cell_below hb ((blk_cell e1 0).trans rfl), pw_cell_below hb e2, pw_cell_below hb e3⟩)
  have HRes := Lib.hid e1
  clear hb2 hsz e1 e2 e3
  go_cut [3] (fun s3 wx => ∃ g : Nat, s3 = .pointer (some ⟨g, 0, none⟩) ∧ Own0 w W2 wx l0_0 n a0_1 g)
  case first =>
    go_region_held3 (fun w' => w'.cell? ⟨w.heap.size + 1, 0, none⟩ = some (.slice none 0 0) ∧ w'.cell? ⟨w.heap.size, 0, none⟩ = some (.slice A0_0 n c0_0) ∧ w'.cell? ⟨w.heap.size, 1, none⟩ = some (.bool a0_1)) (exact HK.out _ (by (repeat (first | refine below_alloc ?_ _ | refine below_drew ?_ | refine Below.setCell ?_ (by simp) _)); first | exact hb | exact Below.refl _ _))
      (first | (with_reducible refine (HCl.out W2 _ HB2.out ?_).mono ?_; ((repeat (first | refine below_alloc ?_ _ | refine below_drew ?_)); exact Below.refl _ _); rintro e w' ⟨A1, c1, rfl, hs, hb, hb'⟩; obtain ⟨hcc, hff⟩ := bcell hb'))
    all_goals (go_wp2_with fail; go_meet; first | exact ⟨_, rfl, ownA hb hs⟩ | exact ⟨_, rfl, ownB hb (blk_below (blk_drew (blk_new W2 _)) hb') hs⟩)
  case rest =>
    obtain ⟨g, rfl, A, c, hge, hbx, hblk, hS⟩ := hcut
    have hs0 : Hid (Own1 w W2 _ A c l0_0 n a0_1 g 0) := Lib.hid ⟨hbx, hblk, by rw [mix_upto_zero]; exact hS⟩
    have hg0 := (blk_cell hblk 0).trans rfl
    clear hbx hblk hS
    go_wp2_with fail
    go_loopw [15] (fun i wr => ∃ k : Nat, k ≤ n ∧ i = .int .i64 k ∧ Hid (Own1 w W2 wr A c l0_0 n a0_1 g k)) (fun i _ => n - (intOf i).toNat)
    case atStart => exact ⟨0, Nat.zero_le _, rfl, hs0⟩
    case round =>
      obtain ⟨k, hk, rfl, HO⟩ := hrel
      clear hs0 hg0
      have hg0 := (blk_cell HO.out.2.1 0).trans rfl
      by_cases hlt : k < n
      · obtain ⟨gr, cap, hv, hbr, hgr, cells, hty⟩ := Kd.S_form HO.out.2.2 (by rw [mix_upto_len, ← HN.out]; omega)
        injection hv with hA hn' hc'
        subst hA
        clear hn' hc'
        obtain ⟨x, hx⟩ : ∃ x, l0_0[k]? = some x := ⟨_, List.getElem?_eq_getElem (by rw [← HN.out]; exact hlt)⟩
        have HBw : Hid (Below w.heap.size w wr) := Lib.hid (HB2.out.trans (HO.out.1.mono HB2.out.size))
        obtain ⟨oki, cc, hcl, hM, hcc, hfr, hoki, hH⟩ := Kd.S_elem HO.out.2.2 (z37, false) (k : Int) (by omega) (by omega)
        rw [show (mix_upto l0_0 k).getD (k : Int).toNat (z37, false) = (x, false) from by rw [Int.toNat_natCast, List.getD_eq_getElem?_getD, mix_upto_get, hx]; simp] at hM
        obtain ⟨A2, c2, A5, c5, hcs, h2l, h2, h5l, h5⟩ := k37_open (hM.2 rfl wr HBw.out)
        rw [hcs] at hcc
        have e2 : wr.cell? ⟨gr, k * 6 + 2, none⟩ = some (.slice A2 x.f2.length c2) := hcc 2 _ rfl
        have e5 : wr.cell? ⟨gr, k * 6 + 5, none⟩ = some (.slice A5 x.f5.length c5) := hcc 5 _ rfl
        have f2 : wr.frozen? ⟨gr, k * 6 + 2, none⟩ = false := hfr 2
        have f5 : wr.frozen? ⟨gr, k * 6 + 5, none⟩ = false := hfr 5
        have HX := Lib.hid hx
        have HIx := Lib.hid (HI.out x (List.mem_of_getElem? hx))
        obtain ⟨n2, hn2⟩ : ∃ n2, n2 = x.f2.length := ⟨_, rfl⟩
        obtain ⟨n5, hn5⟩ : ∃ n5, n5 = x.f5.length := ⟨_, rfl⟩
        rw [← hn2] at e2
        rw [← hn5] at e5
        have HA : Hid (∀ W : World, Below wr.heap.size wr W → Calls Tryd.prog 39 #[.slice A2 n2 c2] W fun e w' => ∃ A c, e = .returned (.slice A n2 c) ∧ Kd.R k86 86 w' W2.heap.size (fun k => wr.heap.size ≤ k) (.slice A n2 c) x.f2 ∧ Below wr.heap.size wr w' ∧ Below W.heap.size W w') :=
          Lib.hid (fun W hb => by
            rw [hn2]
            refine (api_Attr.calls A2 c2 x.f2 W (Kd.C_below h2 hb) (by have := HIx.out; omega)).mono ?_
            rintro e w' ⟨v, rfl, hr, hb'⟩
            obtain ⟨A, c, rfl⟩ := Kd.R_slice hr
            exact ⟨A, c, rfl, Kd.R_lower (Kd.R_mono (Kd.R_bound hr) (fun k hk => Nat.le_trans hb.size hk.2.1)) (Nat.le_trans HO.out.1.size hb.size), hb.trans (hb'.mono hb.size), hb'⟩)
        have HC5 : Hid (∀ W : World, Below wr.heap.size wr W → Calls Tryd.prog 40 #[.slice A5 n5 c5] W fun e w' => ∃ A c, e = .returned (.slice A n5 c) ∧ Kd.R (Kd.int .i64) 3 w' W2.heap.size (fun k => wr.heap.size ≤ k) (.slice A n5 c) x.f5 ∧ Below wr.heap.size wr w' ∧ Below W.heap.size W w') :=
          Lib.hid (fun W hb => by
            rw [hn5]
            refine (slices_Clone_int_int.calls A5 c5 x.f5 W (Kd.C_below h5 hb) (by have := HIx.out; omega)).mono ?_
            rintro e w' ⟨v, rfl, hr, hb'⟩
            obtain ⟨A, c, rfl⟩ := Kd.R_slice hr
            exact ⟨A, c, rfl, Kd.R_lower (Kd.R_mono (Kd.R_bound hr) (fun k hk => Nat.le_trans hb.size hk.2.1)) (Nat.le_trans HO.out.1.size hb.size), hb.trans (hb'.mono hb.size), hb'⟩)
        have HN2 := Lib.hid hn2
        have HN5 := Lib.hid hn5
        have HBr := Lib.hid hbr
        clear hbr hcl hM hcc hfr hoki hH hcs h2l h2 h5l h5 hx hn2 hn5 hty
        have HE : Hid (∀ W : World, Below wr.heap.size wr W → W.cell? ⟨gr, k * 6 + 2, none⟩ = some (.slice A2 n2 c2) ∧ W.cell? ⟨gr, k * 6 + 5, none⟩ = some (.slice A5 n5 c5) ∧ W.frozen? ⟨gr, k * 6 + 2, none⟩ = false ∧ W.frozen? ⟨gr, k * 6 + 5, none⟩ = false) :=
          Lib.hid (fun W hb => ⟨pw_cell_below hb e2, pw_cell_below hb e5, (hb.frozen (p := ⟨gr, k * 6 + 2, none⟩) hgr).trans f2, (hb.frozen (p := ⟨gr, k * 6 + 5, none⟩) hgr).trans f5⟩)
        go_upto_region 6 with fail
        go_region_with (first | (with_reducible refine (HA.out _ ?_).mono ?_; ((repeat (first | refine below_alloc ?_ _ | refine below_drew ?_)); exact Below.refl _ _); rintro e w1 ⟨A6, c6, rfl, hR6, hb6, hb6'⟩; obtain ⟨e2a, e5a, f2a, f5a⟩ := HE.out _ hb6) | (with_reducible refine (HC5.out _ ?_).mono ?_; ((repeat (first | refine below_alloc ?_ _ | refine below_drew ?_)); exact hb6); rintro e w2 ⟨A7, c7, rfl, hR7, hb7, hb7'⟩; obtain ⟨e2b, e5b, f2b, f5b⟩ := HE.out _ hb7))
        all_goals
          have HO2 := Lib.hid (ownR HB2.out HO.out hlt HN.out HX.out (by rw [← HN2.out]; exact hR6) hb6 (by rw [← HN5.out]; exact hR7) hb7 hb7' HBr.out hgr)
          rw [← HN2.out, ← HN5.out] at HO2
          clear hR6 hb6 hR7 hb7 hb7' hb6' e2a e5a f2a f5a e2b e5b f2b f5b e2 e5 f2 f5
          go_wp2_with fail
          go_roundw
          case rel => exact ⟨k + 1, by omega, by simp, HO2⟩
          case measure => simp [intOf]; omega
      · have hg1 := (blk_cell HO.out.2.1 1).trans rfl
        have hres := blk_below HRes.out HO.out.1
        have hr0 := (blk_cell hres 0).trans rfl
        have hr1 := (blk_cell hres 1).trans rfl
        have hrf0 := blk_frozen hres 0
        have hrf1 := blk_frozen hres 1
        go_wp2_with fail
        refine bodyPost_ret (results_cell_row rfl _ _ (w.heap.size + 1) 24 #[.slice A n c, .bool a0_1] (0, 0) _ rfl (blk_put (blk_put (cs' := #[.slice A n c, .bool false]) hres 0 _ rfl) 1 _ rfl) Tryd.underlying24 rfl (by kernel_rfl)) rfl ?_
        exact ⟨_, rfl, ownE HB2.out HSz.out HO.out hres (by have := HN.out; omega), (((HB2.out.trans (HO.out.1.mono HB2.out.size))).setCell (by simp) _).setCell (by simp) _⟩

/-! ### dom_editor_node: function 58 -/
/-- The editor's state: its block, and the document's row, all of the call's own (from base on). -/
def Ed (w : World) (B b : Nat) (l : List S37) (q : Bool) (made : Int) : Prop := ∃ v, B ≤ b ∧ w.heap[b]? = some (.cells #[v, .bool q, .int .i64 made] 72 (0, 0)) ∧ Kd.S k37 37 w B (fun _ => True) v l
theorem Ed.below {w w' : World} {B b : Nat} {l : List S37} {q : Bool} {made : Int} (h : Ed w B b l q made) (hb : Below w.heap.size w w') : Ed w' B b l q made := by
  obtain ⟨v, h1, h2, h3⟩ := h
  exact ⟨v, h1, blk_below h2 hb, Kd.S_below h3 hb⟩
set_option maxHeartbeats 1000000 in
theorem dom_editor_node.in_ (b gr n c i : Nat) (w : World) (hc : w.cell? ⟨b, 0, none⟩ = some (.slice (some ⟨gr, 0, none⟩) n c)) (hi : i < n) :
    Calls Tryd.prog 58 #[.pointer (some ⟨b, 0, none⟩), .int .i64 i] w fun e w' => e = .returned (.pointer (some ⟨gr, i * 6, none⟩)) ∧ w = w' := by
  go_enter Tryd.func58, Tryd.ntmps58
  go_wp2_with fail
  go_ret
  exact ⟨rfl, rfl⟩
set_option maxHeartbeats 1000000 in
theorem dom_editor_node.out_ (b n c : Nat) (A : Option Addr) (i : Int) (w : World) (hc : w.cell? ⟨b, 0, none⟩ = some (.slice A n c)) (hi : i < 0 ∨ (n : Int) ≤ i) :
    Calls Tryd.prog 58 #[.pointer (some ⟨b, 0, none⟩), .int .i64 i] w fun e w' => e = .returned (.pointer none) ∧ w = w' := by
  by_cases h0 : i < 0
  · clear hi
    go_enter Tryd.func58, Tryd.ntmps58
    go_wp2_with fail
    go_ret
    exact ⟨rfl, rfl⟩
  · have h1 : (n : Int) ≤ i := by omega
    clear hi
    go_enter Tryd.func58, Tryd.ntmps58
    go_wp2_with fail
    go_ret
    exact ⟨rfl, rfl⟩
set_option maxHeartbeats 1000000 in
theorem element_out (b n c : Nat) (A : Option Addr) (i : Int) (w : World) (hc : w.cell? ⟨b, 0, none⟩ = some (.slice A n c)) (hi : i < 0 ∨ (n : Int) ≤ i) :
    Calls Tryd.prog 56 #[.pointer (some ⟨b, 0, none⟩), .int .i64 i] w fun e w' => e = .returned (.tuple #[.pointer none, .int .i64 5]) ∧ w = w' := by
  have H := Lib.hid (dom_editor_node.out_ b n c A i w hc hi)
  clear hc hi
  go_enter Tryd.func56, Tryd.ntmps56
  go_wp2_with fail
  refine H.out.mono ?_
  rintro e w' ⟨rfl, rfl⟩
  go_wp2_with fail
  go_ret2
  exact ⟨rfl, rfl⟩
set_option maxHeartbeats 1000000 in
theorem element_kind (b gr n c i : Nat) (kd : Int) (w : World) (hc : w.cell? ⟨b, 0, none⟩ = some (.slice (some ⟨gr, 0, none⟩) n c)) (hi : i < n) (hk : w.cell? ⟨gr, i * 6, none⟩ = some (.int .i64 kd)) (hkd : kd ≠ 2) :
    Calls Tryd.prog 56 #[.pointer (some ⟨b, 0, none⟩), .int .i64 i] w fun e w' => e = .returned (.tuple #[.pointer none, .int .i64 7]) ∧ w = w' := by
  have H := Lib.hid (dom_editor_node.in_ b gr n c i w hc hi)
  have hb : (kd != 2) = true := by simpa using hkd
  clear hc hi hkd
  go_enter Tryd.func56, Tryd.ntmps56
  go_wp2_with fail
  refine H.out.mono ?_
  rintro e w' ⟨rfl, rfl⟩
  go_wp2_with fail
  go_ret2
  exact ⟨rfl, rfl⟩
set_option maxHeartbeats 1000000 in
theorem element_in (b gr n c i : Nat) (w : World) (hc : w.cell? ⟨b, 0, none⟩ = some (.slice (some ⟨gr, 0, none⟩) n c)) (hi : i < n) (hk : w.cell? ⟨gr, i * 6, none⟩ = some (.int .i64 2)) :
    Calls Tryd.prog 56 #[.pointer (some ⟨b, 0, none⟩), .int .i64 i] w fun e w' => e = .returned (.tuple #[.pointer (some ⟨gr, i * 6, none⟩), .int .i64 0]) ∧ w = w' := by
  have H := Lib.hid (dom_editor_node.in_ b gr n c i w hc hi)
  clear hc hi
  go_enter Tryd.func56, Tryd.ntmps56
  go_wp2_with fail
  refine H.out.mono ?_
  rintro e w' ⟨rfl, rfl⟩
  go_wp2_with fail
  go_ret2
  exact ⟨rfl, rfl⟩

/-! ### dom_editor_text: function 48 -/
/-- A node's text is set. -/
theorem ed_setText {B gr n c j : Nat} {W : World} {l : List S37} {xj : S37} (hS : Kd.S k37 37 W B (fun _ => True) (.slice (some ⟨gr, 0, none⟩) n c) l) (hj : j < n) (hxj : l[j]? = some xj) (s : ByteArray) :
    Kd.S k37 37 (W.setCell ⟨gr, j * 6 + 3, none⟩ (.string s)) B (fun _ => True) (.slice (some ⟨gr, 0, none⟩) n c) (l.set j ⟨xj.f0, xj.f1, xj.f2, s, xj.f4, xj.f5⟩) := by
  obtain ⟨oki, cc, hcl, hM, hcc, hfr, hoki, hH⟩ := Kd.S_elem hS z37 (j : Int) (by omega) (by omega)
  rw [show l.getD (j : Int).toNat z37 = xj from by rw [Int.toNat_natCast, List.getD_eq_getElem?_getD, hxj]; rfl] at hM
  obtain ⟨v2, v5, hcs, hR2, hR5⟩ := k37_openM hM
  subst hcs
  have h2 := (Kd.H_seg hH (by omega) (by omega) (seg := [.string s]) (j := 3) (by show 3 + 1 ≤ 6; decide) (by simp [Value.oneCell'])).1
  have h3 : Kd.H k37 37 (W.setCell ⟨gr, j * 6 + 3, none⟩ (.string s)) B (fun _ => True) (.slice (some ⟨gr, 0, none⟩) n c) l (j : Int) oki [.int .i64 xj.f0, .string xj.f1, v2, .string s, .int .i64 xj.f4, v5] := h2
  have hne : ∀ k, oki k → k ≠ gr := fun k hk => (hoki k hk).2
  have h4 := Kd.H_back h3 (x' := ⟨xj.f0, xj.f1, xj.f2, s, xj.f4, xj.f5⟩) (okp := oki) (k37_mkM _ _ _ ⟨xj.f0, xj.f1, xj.f2, s, xj.f4, xj.f5⟩ (Kd.R_far hR2 (p := ⟨gr, j * 6 + 3, none⟩) hne _) (Kd.R_far hR5 (p := ⟨gr, j * 6 + 3, none⟩) hne _)) (fun k hk => hk)
  rw [Int.toNat_natCast] at h4
  exact h4
/-- What an edit's value is. -/
def editV (e : S54) (A8 A11 : Option Addr) (n8 n11 c8 c11 : Nat) : Value := .agg #[.int .i64 e.f0, .int .i64 e.f1, .int .i64 e.f2, .int .i64 e.f3, .string e.f4, .string e.f5, .int .i64 e.f6.f0, .string e.f6.f1, .slice A8 n8 c8, .string e.f6.f3, .int .i64 e.f6.f4, .slice A11 n11 c11]
def textF (l : List S37) (e : S54) : Int × List S37 :=
  if 0 ≤ e.f1 ∧ e.f1 < (l.length : Int) then
    (if (rd_T37 l e.f1).f0 = 3 ∨ (rd_T37 l e.f1).f0 = 4 then
      (if e.f5.size > 400 then (2, l) else (0, l.set e.f1.toNat { rd_T37 l e.f1 with f3 := e.f5 }))
    else (7, l))
  else (5, l)
theorem ed_open {w : World} {B b : Nat} {l : List S37} {q : Bool} {made : Int} (h : Ed w B b l q made) : ∃ A c, B ≤ b ∧ w.heap[b]? = some (.cells #[.slice A l.length c, .bool q, .int .i64 made] 72 (0, 0)) ∧ Kd.S k37 37 w B (fun _ => True) (.slice A l.length c) l := by
  obtain ⟨v, h1, h2, h3⟩ := h
  obtain ⟨A, c, rfl⟩ := Kd.S_slice h3
  exact ⟨A, c, h1, h2, h3⟩
set_option maxRecDepth 100000 in
set_option maxHeartbeats 4000000 in
theorem text_calls (e : S54) (A8 A11 : Option Addr) (n8 n11 c8 c11 : Nat) (l : List S37) (q : Bool) (made : Int) (b : Nat) (w0 w : World) (hw : Below w0.heap.size w0 w) (hE : Ed w w0.heap.size b l q made) :
    Calls Tryd.prog 48 #[.pointer (some ⟨b, 0, none⟩), editV e A8 A11 n8 n11 c8 c11] w fun u w' => u = .returned (.int .i64 (textF l e).1) ∧ Ed w' w0.heap.size b (textF l e).2 q made ∧ Below w0.heap.size w0 w' := by
  obtain ⟨A, c, hB, hblk, hS⟩ := ed_open hE
  obtain ⟨n, hn⟩ : ∃ n, n = l.length := ⟨_, rfl⟩
  rw [← hn] at hblk hS
  unfold editV
  have HN := Lib.hid hn
  have HW := Lib.hid hw
  have HB := Lib.hid hB
  have HBlk := Lib.hid hblk
  have HS := Lib.hid hS
  have HE : Hid (∀ W : World, Below w.heap.size w W → Ed W w0.heap.size b l q made) := Lib.hid (fun W h => hE.below h)
  have hbw : b < w.heap.size := blk_lt hblk
  have hcell : ∀ W : World, Below w.heap.size w W → W.cell? ⟨b, 0, none⟩ = some (.slice A n c) := fun W h => pw_cell_below h ((blk_cell hblk 0).trans rfl)
  have HC := Lib.hid hcell
  by_cases hin : 0 ≤ e.f1 ∧ e.f1 < (l.length : Int)
  · obtain ⟨i, hi⟩ : ∃ i : Nat, (i : Int) = e.f1 := ⟨e.f1.toNat, by omega⟩
    have hiN : i < n := by omega
    obtain ⟨gr, cap, hv, hbr, hgr, cells, hty⟩ := Kd.S_form hS (by omega)
    injection hv with hA hn' hc'
    subst hA
    clear hn' hc'
    obtain ⟨x, hx⟩ : ∃ x, rd_T37 l e.f1 = x := ⟨_, rfl⟩
    have hxi : l[i]? = some x := by
      rw [← hx, ← hi]
      unfold rd_T37
      rw [Int.toNat_natCast, List.getD_eq_getElem?_getD, List.getElem?_eq_getElem (by omega)]
      rfl
    have hF : textF l e = (if x.f0 = 3 ∨ x.f0 = 4 then (if e.f5.size > 400 then (2, l) else (0, l.set i { x with f3 := e.f5 })) else (7, l)) := by
      unfold textF
      rw [if_pos hin, hx, ← hi, Int.toNat_natCast]
    rw [hF]
    obtain ⟨hn2, hnc, hrow⟩ := Kd.S_reads' hS
    obtain ⟨adi, A2i, c2i, A5, c5, ei, i0, -, -, i3, -⟩ := at_T37 hrow (i : Int) (by omega) (by omega)
    cases ei
    rw [hi, hx] at i0 i3
    have hgrn : i * 6 = (e.f1.toNat) * 6 := by rw [← hi, Int.toNat_natCast]
    have i0' : w.cell? ⟨gr, i * 6, none⟩ = some (.int .i64 x.f0) := by simpa [add_at, ← hi] using i0
    have i3' : w.cell? ⟨gr, i * 6 + 3, none⟩ = some (.string x.f3) := by simpa [add_at, ← hi] using i3
    have hfr : w.frozen? ⟨gr, i * 6 + 3, none⟩ = false := blk_frozen hty _
    have HNd : Hid (∀ W : World, Below w.heap.size w W → Calls Tryd.prog 58 #[.pointer (some ⟨b, 0, none⟩), .int .i64 e.f1] W fun u w' => u = .returned (.pointer (some ⟨gr, i * 6, none⟩)) ∧ W = w') :=
      Lib.hid (fun W h => by rw [← hi]; exact dom_editor_node.in_ b gr n c i W (HC.out W h) hiN)
    have HXi := Lib.hid hxi
    have hbx := (Below.refl _ w).alloc (Nat.le_refl _) (.cells #[.int .i64 e.f0, .int .i64 e.f1, .int .i64 e.f2, .int .i64 e.f3, .string e.f4, .string e.f5, .int .i64 e.f6.f0, .string e.f6.f1, .slice A8 n8 c8, .string e.f6.f3, .int .i64 e.f6.f4, .slice A11 n11 c11] 54)
    have HBx := Lib.hid hbx
    have y0 := pw_cell_below hbx i0'
    have y3 := pw_cell_below hbx i3'
    have yf : (w.alloc (.cells #[.int .i64 e.f0, .int .i64 e.f1, .int .i64 e.f2, .int .i64 e.f3, .string e.f4, .string e.f5, .int .i64 e.f6.f0, .string e.f6.f1, .slice A8 n8 c8, .string e.f6.f3, .int .i64 e.f6.f4, .slice A11 n11 c11] 54)).frozen? ⟨gr, i * 6 + 3, none⟩ = false := (hbx.frozen (p := ⟨gr, i * 6 + 3, none⟩) hgr).trans hfr
    have y5 : (w.alloc (.cells #[.int .i64 e.f0, .int .i64 e.f1, .int .i64 e.f2, .int .i64 e.f3, .string e.f4, .string e.f5, .int .i64 e.f6.f0, .string e.f6.f1, .slice A8 n8 c8, .string e.f6.f3, .int .i64 e.f6.f4, .slice A11 n11 c11] 54)).cell? ⟨w.heap.size, 5, none⟩ = some (.string e.f5) := by simp [go_sem]
    clear hE hblk hS hcell hn hw hB hx hxi hF hrow i0 i3 hgrn i0' i3' hfr hty hn2 hnc hbx hin
    by_cases h34 : x.f0 = 3 ∨ x.f0 = 4
    · rw [if_pos h34]
      have hb34 : (x.f0 != 3) = false ∨ ((x.f0 != 3) = true ∧ (x.f0 != 4) = false) := by
        rcases h34 with h | h
        · exact .inl (by simpa using h)
        · exact .inr ⟨by rw [h]; rfl, by simpa using h⟩
      clear h34
      by_cases h400 : e.f5.size > 400
      · rw [if_pos h400]
        have h4b : decide ((400 : Int) < (e.f5.size : Int)) = true := decide_eq_true (by omega)
        rcases hb34 with hb3 | ⟨hb3, hb4⟩
        all_goals
          go_enter Tryd.func48, Tryd.ntmps48
          go_wp2_with fail
          refine (HNd.out _ HBx.out).mono ?_
          rintro u w' ⟨rfl, rfl⟩
          go_wp2_with fail
          go_ret
          exact ⟨rfl, HE.out _ HBx.out, HW.out.trans (HBx.out.mono HW.out.size)⟩
      · rw [if_neg h400]
        have h4b : decide ((400 : Int) < (e.f5.size : Int)) = false := decide_eq_false (by omega)
        rcases hb34 with hb3 | ⟨hb3, hb4⟩
        all_goals
          go_enter Tryd.func48, Tryd.ntmps48
          go_wp2_with fail
          refine (HNd.out _ HBx.out).mono ?_
          rintro u w' ⟨rfl, rfl⟩
          generalize (w.alloc (.cells #[.int .i64 e.f0, .int .i64 e.f1, .int .i64 e.f2, .int .i64 e.f3, .string e.f4, .string e.f5, .int .i64 e.f6.f0, .string e.f6.f1, .slice A8 n8 c8, .string e.f6.f3, .int .i64 e.f6.f4, .slice A11 n11 c11] 54)) = W1 at HBx y0 y3 yf y5
          go_wp2_with fail
          go_ret
          refine ⟨rfl, ⟨_, HB.out, blk_far (blk_below HBlk.out HBx.out) ?_ _, ed_setText (Kd.S_below HS.out HBx.out) hiN HXi.out e.f5⟩, (HW.out.trans (HBx.out.mono HW.out.size)).setCell hbr _⟩
          obtain ⟨cells, hty⟩ := Kd.S_typed HS.out gr (by simp [Value.ownBlock])
          exact fun he => blk_ne hty HBlk.out (by decide) he.symm
    · rw [if_neg h34]
      have hb3 : (x.f0 != 3) = true := by simpa using fun h => h34 (.inl h)
      have hb4 : (x.f0 != 4) = true := by simpa using fun h => h34 (.inr h)
      clear h34
      go_enter Tryd.func48, Tryd.ntmps48
      go_wp2_with fail
      refine (HNd.out _ HBx.out).mono ?_
      rintro u w' ⟨rfl, rfl⟩
      go_wp2_with fail
      go_ret
      exact ⟨rfl, HE.out _ HBx.out, HW.out.trans (HBx.out.mono HW.out.size)⟩
  · have hF : textF l e = (5, l) := by
      unfold textF
      rw [if_neg hin]
    rw [hF]
    have HNd : Hid (∀ W : World, Below w.heap.size w W → Calls Tryd.prog 58 #[.pointer (some ⟨b, 0, none⟩), .int .i64 e.f1] W fun u w' => u = .returned (.pointer none) ∧ W = w') :=
      Lib.hid (fun W h => dom_editor_node.out_ b n c A e.f1 W (HC.out W h) (by omega))
    have HBx := Lib.hid ((Below.refl _ w).alloc (Nat.le_refl _) (.cells #[.int .i64 e.f0, .int .i64 e.f1, .int .i64 e.f2, .int .i64 e.f3, .string e.f4, .string e.f5, .int .i64 e.f6.f0, .string e.f6.f1, .slice A8 n8 c8, .string e.f6.f3, .int .i64 e.f6.f4, .slice A11 n11 c11] 54))
    clear hE hblk hS hcell hn hw hB hF hin
    go_enter Tryd.func48, Tryd.ntmps48
    go_wp2_with fail
    refine (HNd.out _ HBx.out).mono ?_
    rintro u w' ⟨rfl, rfl⟩
    go_wp2_with fail
    go_ret
    exact ⟨rfl, HE.out _ HBx.out, HW.out.trans (HBx.out.mono HW.out.size)⟩

/-! ### dom_editor_edit: function 30 -/
set_option maxHeartbeats 1000000 in
theorem does_text (p : Value) (w : World) : Calls Tryd.prog 41 #[p, .int .i64 3] w fun e w' => e = .returned (.func (.func 48) #[p] #[]) ∧ w = w' := by
  go_enter Tryd.func41, Tryd.ntmps41
  go_wp2_with fail
  go_ret
  exact ⟨rfl, rfl⟩
theorem func_not_nil1 {P : Program} (w : World) (d : Nat) (t : TypeId) (ps rs : Array TypeId) (b : Bool) (f : Fn) (xs ys : Array Value) (h : P.underlying t = some (.func ps rs b)) : (Op.equalIn (d + 1) t (.func f xs ys) .nilFunc).run P w = .ok false w := by simp [Op.equalIn, run_underlying h]
/-- A function's value is not nil. -/
theorem func_not_nil {P : Program} (w : World) (t : TypeId) (ps rs : Array TypeId) (b : Bool) (f : Fn) (xs ys : Array Value) (h : P.underlying t = some (.func ps rs b)) : (binOp .eql t (.func f xs ys) .nilFunc).run P w = .ok (.bool false) w := by
  simp only [binOp]
  simp [Op.equal, Op.maxDepth, func_not_nil1 w 9999 t ps rs b f xs ys h]
set_option maxRecDepth 100000 in
set_option maxHeartbeats 2000000 in
/-- edit, where it is this. -/
theorem edit_text (p : Value) (at_ to_ be : Int) (nm vl : ByteArray) (f0 : Int) (f1 : ByteArray) (A8 : Option Addr) (n8 c8 : Nat) (f3 : ByteArray) (f4 : Int) (A11 : Option Addr) (n11 c11 : Nat) (r : Int) (w : World) (Q : World → Prop)
    (hg : ∀ W : World, Below w.heap.size w W → Calls Tryd.prog 48 #[p, .agg #[.int .i64 3, .int .i64 at_, .int .i64 to_, .int .i64 be, .string nm, .string vl, .int .i64 f0, .string f1, .slice A8 n8 c8, .string f3, .int .i64 f4, .slice A11 n11 c11]] W fun e w' => e = .returned (.int .i64 r) ∧ Q w') :
    Calls Tryd.prog 30 #[p, .agg #[.int .i64 3, .int .i64 at_, .int .i64 to_, .int .i64 be, .string nm, .string vl, .int .i64 f0, .string f1, .slice A8 n8 c8, .string f3, .int .i64 f4, .slice A11 n11 c11]] w fun e w' => e = .returned (.int .i64 r) ∧ Q w' := by
  have hnil := fun W : World => func_not_nil (P := Tryd.prog) W 73 _ _ _ (.func 48) #[p] #[] Tryd.underlying73
  have HD := Lib.hid (fun W => does_text p W)
  have HG := Lib.hid hg
  have HB := Lib.hid ((Below.refl _ w).alloc (Nat.le_refl _) (.cells #[.int .i64 3, .int .i64 at_, .int .i64 to_, .int .i64 be, .string nm, .string vl, .int .i64 f0, .string f1, .slice A8 n8 c8, .string f3, .int .i64 f4, .slice A11 n11 c11] 54))
  clear hg
  go_enter Tryd.func30, Tryd.ntmps30
  go_wp2_with fail
  refine (HD.out _).mono ?_
  rintro e w' ⟨rfl, rfl⟩
  go_wp2_with fail
  refine (HG.out _ HB.out).mono ?_
  rintro e w' ⟨rfl, hq⟩
  go_wp2_with fail
  go_ret
  exact ⟨rfl, hq⟩
/-- What an edit makes of a document's nodes: an error's number, the nodes, and what was made; none where this text says nothing. -/
def editF (k : Nat) (l : List S37) (q : Bool) (made : Int) (e : S54) : Option (Int × List S37 × Int) :=
  if e.f0 = 3 then some ((textF l e).1, (textF l e).2, made) else none
theorem edit_calls (k : Nat) (e : S54) (A8 A11 : Option Addr) (c8 c11 : Nat) (l : List S37) (q : Bool) (made : Int) (r : Int) (l' : List S37) (made' : Int) (b : Nat) (w0 w : World)
    (hw : Below w0.heap.size w0 w) (hE : Ed w w0.heap.size b l q made) (h8 : Kd.C k86 w0 A8 e.f6.f2.length e.f6.f2) (hc8 : e.f6.f2.length ≤ c8) (h11 : Kd.C (Kd.int .i64) w0 A11 e.f6.f5.length e.f6.f5) (hc11 : e.f6.f5.length ≤ c11)
    (h : editF k l q made e = some (r, l', made')) :
    Calls Tryd.prog 30 #[.pointer (some ⟨b, 0, none⟩), .agg #[.int .i64 e.f0, .int .i64 e.f1, .int .i64 e.f2, .int .i64 e.f3, .string e.f4, .string e.f5, .int .i64 e.f6.f0, .string e.f6.f1, .slice A8 e.f6.f2.length c8, .string e.f6.f3, .int .i64 e.f6.f4, .slice A11 e.f6.f5.length c11]] w fun e w' => e = .returned (.int .i64 r) ∧ ((r = 0 → Ed w' w0.heap.size b l' q made') ∧ Below w0.heap.size w0 w') := by
  unfold editF at h
  by_cases d3 : e.f0 = 3
  · rw [if_pos d3] at h
    injection h with h
    injection h with ha h
    injection h with hb hc
    subst ha hb hc
    have HT : ∀ W : World, Below w.heap.size w W → Calls Tryd.prog 48 #[.pointer (some ⟨b, 0, none⟩), editV e A8 A11 e.f6.f2.length e.f6.f5.length c8 c11] W fun u w' => u = .returned (.int .i64 (textF l e).1) ∧ (((textF l e).1 = 0 → Ed w' w0.heap.size b (textF l e).2 q made) ∧ Below w0.heap.size w0 w') := fun W hb =>
      (text_calls e A8 A11 _ _ c8 c11 l q made b w0 W (hw.trans (hb.mono hw.size)) (hE.below hb)).mono fun u w' ⟨h1, h2, h3⟩ => ⟨h1, fun _ => h2, h3⟩
    unfold editV at HT
    rw [d3] at HT ⊢
    exact edit_text _ _ _ _ _ _ _ _ _ _ _ _ _ _ _ _ _ _ _ HT
  rw [if_neg d3] at h
  exact absurd h (by simp)
theorem editF_mono (l : List S37) (q : Bool) (made : Int) (e : S54) (k : Nat) : LeO (editF k l q made e) (editF (k + 1) l q made e) := by
  unfold editF
  exact LeO.ite (LeO.refl _) (LeO.refl _)
/-- Rows of some length alone. -/
def allOk (l : List S37) : Bool := decide (l.length ≤ 1000) && l.all fun x => decide (x.f2.length ≤ 1000) && decide (x.f5.length ≤ 1000)
theorem allOk_len {l : List S37} (h : allOk l = true) : l.length ≤ 1000 ∧ ∀ x ∈ l, x.f2.length ≤ 1000 ∧ x.f5.length ≤ 1000 := by
  unfold allOk at h
  simp only [Bool.and_eq_true, decide_eq_true_eq, List.all_eq_true] at h
  exact h
/-- What lies at the loop's head. -/
structure AllI (w1 wr : World) (b : Nat) (l : List S37) (q : Bool) (made : Int) : Prop where
  ed : Ed wr w1.heap.size b l q made
  below : Below w1.heap.size w1 wr
theorem ed_parts {w : World} {B b : Nat} {l : List S37} {q : Bool} {made : Int} (h : Ed w B b l q made) : ∃ A c, B ≤ b ∧ w.cell? ⟨b, 0, none⟩ = some (.slice A l.length c) ∧ w.cell? ⟨b, 1, none⟩ = some (.bool q) ∧ Kd.S k37 37 w B (fun _ => True) (.slice A l.length c) l := by
  obtain ⟨v, h1, h2, h3⟩ := h
  obtain ⟨A, c, rfl⟩ := Kd.S_slice h3
  exact ⟨A, c, h1, (blk_cell h2 0).trans rfl, (blk_cell h2 1).trans rfl, h3⟩
theorem ed_new {w1 w2 : World} {v : Value} {l : List S37} {q : Bool} {B : Nat} (hB : B ≤ w2.heap.size) (hS : Kd.S k37 37 w2 w1.heap.size (fun _ => True) v l) (hb : B ≤ w1.heap.size) :
    Ed (w2.alloc (.cells #[v, .bool q, .int .i64 0] 72)) B w2.heap.size l q 0 := ⟨v, hB, blk_new _ _, Kd.S_alloc (Kd.S_lower hS hb) _⟩

/-! ### dom_Apply: function 20 -/
def dom_Apply.f (k : Nat) (l0_0 : List S37) (a0_1 : Bool) (a1_0 a1_1 a1_2 a1_3 : Int) (a1_4 a1_5 : ByteArray) (a1_6 : Int) (a1_7 : ByteArray) (l1_8 : List S86) (a1_9 : ByteArray) (a1_10 : Int) (l1_11 : List Int) : Option (List S37 × Bool × Int × Int) :=
  (dom_Check.f k l0_0 a0_1).bind fun c => if c = 0 then (if allOk l0_0 = true then (editF k l0_0 a0_1 0 ⟨a1_0, a1_1, a1_2, a1_3, a1_4, a1_5, ⟨a1_6, a1_7, l1_8, a1_9, a1_10, l1_11⟩⟩).bind fun t => if t.1 = 0 then some (t.2.1, a0_1, t.2.2, 0) else some ([], false, 0, t.1) else none) else some ([], false, 0, c)
theorem dom_Apply.mono : ∀ a0 a1 a2 a3 a4 a5 a6 a7 a8 a9 a10 a11 a12 a13 k, LeO (dom_Apply.f k a0 a1 a2 a3 a4 a5 a6 a7 a8 a9 a10 a11 a12 a13) (dom_Apply.f (k + 1) a0 a1 a2 a3 a4 a5 a6 a7 a8 a9 a10 a11 a12 a13) := by
  intro a0 a1 a2 a3 a4 a5 a6 a7 a8 a9 a10 a11 a12 a13 k
  unfold dom_Apply.f
  exact LeO.bind (dom_Check.mono _ _ _) fun _ => LeO.ite (LeO.ite (LeO.bind (editF_mono _ _ _ _ _) fun _ => LeO.refl _) (LeO.refl _)) (LeO.refl _)
theorem apply_far {w : World} {g g' i : Nat} (h : g ≠ g') (u v : Value) : ((w.setCell ⟨g', 0, none⟩ u).setCell ⟨g', 1, none⟩ v).drew.cell? ⟨g, i, none⟩ = w.cell? ⟨g, i, none⟩ :=
  (World.cell?_of_block (Below.heap_setCell (w.setCell ⟨g', 0, none⟩ u) ⟨g', 1, none⟩ v g h)).trans (World.cell?_of_block (Below.heap_setCell w ⟨g', 0, none⟩ u g h))
set_option maxRecDepth 100000 in
set_option maxHeartbeats 4000000 in
theorem dom_Apply.calls (k : Nat) (A0_0 : Option Addr) (c0_0 : Nat) (l0_0 : List S37) (a0_1 : Bool) (a1_0 a1_1 a1_2 a1_3 : Int) (a1_4 a1_5 : ByteArray) (a1_6 : Int) (a1_7 : ByteArray) (A1_8 : Option Addr) (c1_8 : Nat) (l1_8 : List S86) (a1_9 : ByteArray) (a1_10 : Int) (A1_11 : Option Addr) (c1_11 : Nat) (l1_11 : List Int) (r1 : List S37) (r2 : Bool) (r3 r4 : Int) (w : World) (hr0_0 : Kd.C k37 w A0_0 l0_0.length l0_0) (hc0_0 : l0_0.length ≤ c0_0) (hr1_8 : Kd.C k86 w A1_8 l1_8.length l1_8) (hc1_8 : l1_8.length ≤ c1_8) (hr1_11 : Kd.C (Kd.int .i64) w A1_11 l1_11.length l1_11) (hc1_11 : l1_11.length ≤ c1_11) (h : dom_Apply.f k l0_0 a0_1 a1_0 a1_1 a1_2 a1_3 a1_4 a1_5 a1_6 a1_7 l1_8 a1_9 a1_10 l1_11 = some (r1, r2, r3, r4)) :
    Calls Tryd.prog 20 #[.agg #[.slice A0_0 l0_0.length c0_0, .bool a0_1], .agg #[.int .i64 a1_0, .int .i64 a1_1, .int .i64 a1_2, .int .i64 a1_3, .string a1_4, .string a1_5, .int .i64 a1_6, .string a1_7, .slice A1_8 l1_8.length c1_8, .string a1_9, .int .i64 a1_10, .slice A1_11 l1_11.length c1_11]] w fun e w' => ∃ v0_ : Value, e = .returned (.tuple #[.agg #[v0_, .bool r2], .int .i64 r3, .int .i64 r4]) ∧ Kd.S k37 37 w' w.heap.size (fun _ => True) v0_ r1 ∧ Below w.heap.size w w' := by
  obtain ⟨c, hk, h⟩ := Option.bind_eq_some_iff.1 h
  obtain ⟨n, hn⟩ : ∃ n, n = l0_0.length := ⟨_, rfl⟩
  obtain ⟨n8, hn8⟩ : ∃ n8, n8 = l1_8.length := ⟨_, rfl⟩
  obtain ⟨n11, hn11⟩ : ∃ n11, n11 = l1_11.length := ⟨_, rfl⟩
  have HC : Hid (∀ W : World, Below w.heap.size w W → Calls Tryd.prog 19 #[.agg #[.slice A0_0 n c0_0, .bool a0_1]] W fun e w' => e = .returned (.int .i64 c) ∧ Below W.heap.size W w') := Lib.hid (by
    rw [hn]
    exact fun W hb => dom_Check.calls k A0_0 c0_0 l0_0 a0_1 c W (Kd.C_below hr0_0 hb) hc0_0 hk)
  have HO : Hid (allOk l0_0 = true → ∀ W : World, Below w.heap.size w W → Calls Tryd.prog 29 #[.agg #[.slice A0_0 n c0_0, .bool a0_1]] W fun e w' => ∃ v0_ : Value, e = .returned (.agg #[v0_, .bool a0_1]) ∧ Kd.S k37 37 w' W.heap.size (fun _ => True) v0_ l0_0 ∧ Below W.heap.size W w') := Lib.hid (by
    rw [hn]
    exact fun ha W hb => dom_own.calls A0_0 c0_0 l0_0 a0_1 W (Kd.C_below hr0_0 hb) hc0_0 (allOk_len ha).1 (allOk_len ha).2)
  have HEd : Hid (∀ (er : Int) (l' : List S37) (made' : Int), editF k l0_0 a0_1 0 ⟨a1_0, a1_1, a1_2, a1_3, a1_4, a1_5, ⟨a1_6, a1_7, l1_8, a1_9, a1_10, l1_11⟩⟩ = some (er, l', made') → ∀ (w1 W : World) (b : Nat), Below w.heap.size w w1 → Below w1.heap.size w1 W → Ed W w1.heap.size b l0_0 a0_1 0 → Calls Tryd.prog 30 #[.pointer (some ⟨b, 0, none⟩), .agg #[.int .i64 a1_0, .int .i64 a1_1, .int .i64 a1_2, .int .i64 a1_3, .string a1_4, .string a1_5, .int .i64 a1_6, .string a1_7, .slice A1_8 n8 c1_8, .string a1_9, .int .i64 a1_10, .slice A1_11 n11 c1_11]] W fun e w' => e = .returned (.int .i64 er) ∧ ((er = 0 → Ed w' w1.heap.size b l' a0_1 made') ∧ Below w1.heap.size w1 w')) := Lib.hid (by
    rw [hn8, hn11]
    exact fun er l' made' hE w1 W b h1 h2 h3 => edit_calls k ⟨a1_0, a1_1, a1_2, a1_3, a1_4, a1_5, ⟨a1_6, a1_7, l1_8, a1_9, a1_10, l1_11⟩⟩ A1_8 A1_11 c1_8 c1_11 l0_0 a0_1 0 er l' made' b w1 W h2 h3 (Kd.C_below hr1_8 h1) hc1_8 (Kd.C_below hr1_11 h1) hc1_11 hE)
  rw [← hn, ← hn8, ← hn11]
  have HN := Lib.hid hn
  have H := Lib.hid h
  have HWB : Hid (∀ W1 W : World, (((w.alloc (.cells #[.slice A0_0 n c0_0, .bool a0_1] 24)).alloc (.cells #[.int .i64 a1_0, .int .i64 a1_1, .int .i64 a1_2, .int .i64 a1_3, .string a1_4, .string a1_5, .int .i64 a1_6, .string a1_7, .slice A1_8 n8 c1_8, .string a1_9, .int .i64 a1_10, .slice A1_11 n11 c1_11] 54)).alloc (.cells #[.slice none 0 0, .bool false] 24)) = W → Below W.heap.size W W1 → Below w.heap.size w W1 ∧ w.heap.size ≤ W1.heap.size ∧ W1.heap[w.heap.size + 2]? = some (.cells #[.slice none 0 0, .bool false] 24 (0, 0)) ∧ W1.heap[w.heap.size]? = some (.cells #[.slice A0_0 n c0_0, .bool a0_1] 24 (0, 0)) ∧ W1.heap[w.heap.size + 1]? = some (.cells #[.int .i64 a1_0, .int .i64 a1_1, .int .i64 a1_2, .int .i64 a1_3, .string a1_4, .string a1_5, .int .i64 a1_6, .string a1_7, .slice A1_8 n8 c1_8, .string a1_9, .int .i64 a1_10, .slice A1_11 n11 c1_11] 54 (0, 0))) :=
    Lib.hid (fun W1 W h hb => by
      subst h
      have hb1 : Below w.heap.size w (w.alloc (.cells #[.slice A0_0 n c0_0, .bool a0_1] 24)) := (Below.refl _ w).alloc (Nat.le_refl _) _
      have hb2 := hb1.alloc (by simp) (.cells #[.int .i64 a1_0, .int .i64 a1_1, .int .i64 a1_2, .int .i64 a1_3, .string a1_4, .string a1_5, .int .i64 a1_6, .string a1_7, .slice A1_8 n8 c1_8, .string a1_9, .int .i64 a1_10, .slice A1_11 n11 c1_11] 54)
      have hb3 := hb2.alloc (by simp; omega) (.cells #[.slice none 0 0, .bool false] 24)
      have h1 := hb3.trans (hb.mono hb3.size)
      have x2 := blk_below (blk_new ((w.alloc (.cells #[.slice A0_0 n c0_0, .bool a0_1] 24)).alloc (.cells #[.int .i64 a1_0, .int .i64 a1_1, .int .i64 a1_2, .int .i64 a1_3, .string a1_4, .string a1_5, .int .i64 a1_6, .string a1_7, .slice A1_8 n8 c1_8, .string a1_9, .int .i64 a1_10, .slice A1_11 n11 c1_11] 54)) (.cells #[.slice none 0 0, .bool false] 24)) hb
      have x1 := blk_below (blk_below (blk_new (w.alloc (.cells #[.slice A0_0 n c0_0, .bool a0_1] 24)) (.cells #[.int .i64 a1_0, .int .i64 a1_1, .int .i64 a1_2, .int .i64 a1_3, .string a1_4, .string a1_5, .int .i64 a1_6, .string a1_7, .slice A1_8 n8 c1_8, .string a1_9, .int .i64 a1_10, .slice A1_11 n11 c1_11] 54)) ((Below.refl _ _).alloc (Nat.le_refl _) (.cells #[.slice none 0 0, .bool false] 24))) hb
      have x0 := blk_below (blk_below (blk_below (blk_new w (.cells #[.slice A0_0 n c0_0, .bool a0_1] 24)) ((Below.refl _ _).alloc (Nat.le_refl _) (.cells #[.int .i64 a1_0, .int .i64 a1_1, .int .i64 a1_2, .int .i64 a1_3, .string a1_4, .string a1_5, .int .i64 a1_6, .string a1_7, .slice A1_8 n8 c1_8, .string a1_9, .int .i64 a1_10, .slice A1_11 n11 c1_11] 54))) ((Below.refl _ _).alloc (Nat.le_refl _) (.cells #[.slice none 0 0, .bool false] 24))) hb
      exact ⟨h1, h1.size, by simpa using x2, x0, by simpa using x1⟩)
  clear hr0_0 hc0_0 hr1_8 hc1_8 hr1_11 hc1_11 hn hn8 hn11 h hk
  go_enter Tryd.func20, Tryd.ntmps20
  go_wp2_with fail
  refine (HC.out _ (by (repeat (first | refine below_alloc ?_ _ | refine below_drew ?_)); exact Below.refl _ _)).mono ?_
  rintro e w1 ⟨rfl, hb1⟩
  obtain ⟨hw1, hsz1, hres, hbox, hebx⟩ := HWB.out w1 _ rfl hb1
  have b0 := (blk_cell hbox 0).trans rfl
  have b1 := (blk_cell hbox 1).trans rfl
  have q0 := (blk_cell hres 0).trans rfl
  have q1 := (blk_cell hres 1).trans rfl
  have g0 := blk_frozen hres 0
  have g1 := blk_frozen hres 1
  have HW1 := Lib.hid hw1
  have HRes := Lib.hid hres
  have HEb := Lib.hid hebx
  clear hb1 hw1 HWB hres hbox hebx HC
  by_cases hc0 : c = 0
  · subst hc0
    have h := H.out
    rw [if_pos rfl] at h
    split at h
    case isFalse => exact absurd h (by simp)
    case isTrue hok =>
    obtain ⟨⟨er, l', made'⟩, hE, hG⟩ := Option.bind_eq_some_iff.1 h
    have HO1 := Lib.hid (HO.out hok)
    have HE1 := Lib.hid (HEd.out er l' made' hE)
    have HG2 := Lib.hid hG
    clear H h HO HEd hE hG
    go_wp2_with fail
    refine (HO1.out w1 HW1.out).mono ?_
    rintro e w2 ⟨v, rfl, hS, hb2⟩
    have HI : Hid (AllI w1 (w2.alloc (.cells #[v, .bool a0_1, .int .i64 0] 72)) w2.heap.size l0_0 a0_1 0) := Lib.hid ⟨ed_new hb2.size hS (Nat.le_refl _), below_alloc hb2 _⟩
    obtain ⟨A, cc, rfl⟩ := Kd.S_slice hS
    have HX : Hid (∀ W : World, Below w1.heap.size w1 W → (W.cell? ⟨w.heap.size + 1, 0, none⟩ = some (.int .i64 a1_0) ∧ W.cell? ⟨w.heap.size + 1, 1, none⟩ = some (.int .i64 a1_1) ∧ W.cell? ⟨w.heap.size + 1, 2, none⟩ = some (.int .i64 a1_2) ∧ W.cell? ⟨w.heap.size + 1, 3, none⟩ = some (.int .i64 a1_3) ∧ W.cell? ⟨w.heap.size + 1, 4, none⟩ = some (.string a1_4) ∧ W.cell? ⟨w.heap.size + 1, 5, none⟩ = some (.string a1_5)) ∧ W.cell? ⟨w.heap.size + 1, 6, none⟩ = some (.int .i64 a1_6) ∧ W.cell? ⟨w.heap.size + 1, 7, none⟩ = some (.string a1_7) ∧ W.cell? ⟨w.heap.size + 1, 8, none⟩ = some (.slice A1_8 n8 c1_8) ∧ W.cell? ⟨w.heap.size + 1, 9, none⟩ = some (.string a1_9) ∧ W.cell? ⟨w.heap.size + 1, 10, none⟩ = some (.int .i64 a1_10) ∧ W.cell? ⟨w.heap.size + 1, 11, none⟩ = some (.slice A1_11 n11 c1_11)) := Lib.hid (fun W h => by
      have hh := blk_below HEb.out h
      exact ⟨⟨(blk_cell hh 0).trans rfl, (blk_cell hh 1).trans rfl, (blk_cell hh 2).trans rfl, (blk_cell hh 3).trans rfl, (blk_cell hh 4).trans rfl, (blk_cell hh 5).trans rfl⟩, (blk_cell hh 6).trans rfl, (blk_cell hh 7).trans rfl, (blk_cell hh 8).trans rfl, (blk_cell hh 9).trans rfl, (blk_cell hh 10).trans rfl, (blk_cell hh 11).trans rfl⟩)
    obtain ⟨⟨z0, z1, z2, z3, z4, z5⟩, z6, z7, z8, z9, z10, z11⟩ := HX.out _ HI.out.below
    clear hS hb2 HO1 b0 b1 q0 q1 g0 g1
    go_wp2_with fail
    refine (HE1.out w1 _ w2.heap.size HW1.out HI.out.below HI.out.ed).mono ?_
    rintro e w3 ⟨rfl, hEd, hb3⟩
    have hres := blk_below HRes.out hb3
    have q0 := (blk_cell hres 0).trans rfl
    have q1 := (blk_cell hres 1).trans rfl
    have g0 := blk_frozen hres 0
    have g1 := blk_frozen hres 1
    have HB3 := Lib.hid hb3
    have HRes3 := Lib.hid hres
    clear hb3 hres HE1 HX z0 z1 z2 z3 z4 z5 z6 z7 z8 z9 z10 z11
    by_cases her : er = 0
    · subst her
      have hG := HG2.out
      rw [if_pos rfl] at hG
      injection hG with h
      injection h with ha h
      injection h with hb h
      injection h with hc hd
      subst ha hb hc hd
      obtain ⟨A', c', hbb, hbk, hS⟩ := ed_open (hEd rfl)
      have y0 := (blk_cell hbk 0).trans rfl
      have y1 := (blk_cell hbk 1).trans rfl
      have y2 := (blk_cell hbk 2).trans rfl
      have HS := Lib.hid hS
      have hne : w2.heap.size ≠ w.heap.size + 1 + 1 := by have := blk_lt HRes.out; omega
      clear hS HG2 hEd hbk
      go_upto_region 8 with fail
      go_region_held3 (fun W => W.cell? ⟨w2.heap.size, 0, none⟩ = some (.slice A' l'.length c') ∧ W.cell? ⟨w2.heap.size, 1, none⟩ = some (.bool a0_1) ∧ W.cell? ⟨w2.heap.size, 2, none⟩ = some (.int .i64 made')) (first | exact ⟨y0, y1, y2⟩ | exact ⟨(apply_far hne _ _).trans y0, (apply_far hne _ _).trans y1, (apply_far hne _ _).trans y2⟩) (fail)

      go_wp2_with fail
      refine bodyPost_ret (results_ctt rfl _ _ (w.heap.size + 2) 24 #[.slice A' l'.length c', .bool a0_1] (0, 0) _ rfl (blk_put (blk_put (cs' := #[.slice A' l'.length c', .bool false]) HRes3.out 0 _ rfl) 1 _ rfl) Tryd.underlying24 rfl (by kernel_rfl)) rfl ?_
      exact ⟨_, rfl, Kd.S_drew (Kd.S_set (Kd.S_set (Kd.S_lower HS.out hsz1) HRes3.out (by decide) 0 _) (blk_set HRes3.out 0 _) (by decide) 1 _), below_drew (((HW1.out.trans (HB3.out.mono hsz1)).setCell (by show w.heap.size ≤ w.heap.size + 1 + 1; omega) _).setCell (by show w.heap.size ≤ w.heap.size + 1 + 1; omega) _)⟩
    · have hG := HG2.out
      rw [if_neg her] at hG
      injection hG with h
      injection h with ha h
      injection h with hb h
      injection h with hc hd
      subst ha hb hc hd
      have herb : (er != 0) = true := by simpa using her
      clear HG2 hEd
      go_wp2_with fail
      refine bodyPost_ret (results_ctt rfl _ _ (w.heap.size + 2) 24 #[.slice none 0 0, .bool false] (0, 0) _ rfl (blk_put (blk_put (cs' := #[.slice none 0 0, .bool false]) HRes3.out 0 _ rfl) 1 _ rfl) Tryd.underlying24 rfl (by kernel_rfl)) rfl ?_
      exact ⟨_, rfl, Kd.S_nil _ _ _ _ _, ((HW1.out.trans (HB3.out.mono hsz1)).setCell (by show w.heap.size ≤ w.heap.size + 1 + 1; omega) _).setCell (by show w.heap.size ≤ w.heap.size + 1 + 1; omega) _⟩
  · have h := H.out
    rw [if_neg hc0] at h
    injection h with h
    injection h with ha h
    injection h with hb h
    injection h with hc hd
    subst ha hb hc hd
    have hcb : (c == 0) = false := by simpa using hc0
    have hcb2 : (c != 0) = true := by simpa using hc0
    go_wp2_with fail
    refine bodyPost_ret (results_ctt rfl _ _ (w.heap.size + 2) 24 #[.slice none 0 0, .bool false] (0, 0) _ rfl (blk_put (blk_put (cs' := #[.slice none 0 0, .bool false]) HRes.out 0 _ rfl) 1 _ rfl) Tryd.underlying24 rfl (by kernel_rfl)) rfl ?_
    exact ⟨_, rfl, Kd.S_nil _ _ _ _ _, (HW1.out.setCell (by show w.heap.size ≤ w.heap.size + 1 + 1; omega) _).setCell (by show w.heap.size ≤ w.heap.size + 1 + 1; omega) _⟩

/-! ### span_ranger_moved: function 21 -/
/-- For an edit that sets a text; of other edits this text says nothing. -/
def span_ranger_moved.f (l0_0 : List S37) (a0_1 : Bool) (a1_0 a1_1 a2_0 a2_1 a2_2 a2_3 : Int) (a2_4 a2_5 : ByteArray) (a2_6 : Int) (a2_7 : ByteArray) (l2_8 : List S86) (a2_9 : ByteArray) (a2_10 : Int) (l2_11 : List Int) : Option (Int × Int) :=
  if a2_0 = 3 then (if a1_0 = a2_1 then some (a1_0, mn a1_1 (a2_5.size : Int)) else some (a1_0, a1_1)) else none
theorem moved_new (w : World) (o1 o2 o3 : Obj) (cs : Array Value) : ((((w.alloc o1).alloc o2).alloc o3).alloc (.cells cs 26)).heap[w.heap.size + 1 + 1 + 1]? = some (.cells cs 26 (0, 0)) := by
  simpa using blk_new (((w.alloc o1).alloc o2).alloc o3) (.cells cs 26)
theorem moved_below (w : World) (o1 o2 o3 o4 : Obj) : Below w.heap.size w ((((w.alloc o1).alloc o2).alloc o3).alloc o4) := below_alloc (below_alloc (below_alloc (below_alloc (Below.refl _ w) _) _) _) _
set_option maxRecDepth 100000 in
set_option maxHeartbeats 4000000 in
theorem span_ranger_moved.calls (A0_0 : Option Addr) (c0_0 : Nat) (l0_0 : List S37) (a0_1 : Bool) (a1_0 a1_1 a2_0 a2_1 a2_2 a2_3 : Int) (a2_4 a2_5 : ByteArray) (a2_6 : Int) (a2_7 : ByteArray) (A2_8 : Option Addr) (c2_8 : Nat) (l2_8 : List S86) (a2_9 : ByteArray) (a2_10 : Int) (A2_11 : Option Addr) (c2_11 : Nat) (l2_11 : List Int) (r1 r2 : Int) (w : World) (hr0_0 : Kd.C k37 w A0_0 l0_0.length l0_0) (hc0_0 : l0_0.length ≤ c0_0) (hr2_8 : Kd.C k86 w A2_8 l2_8.length l2_8) (hc2_8 : l2_8.length ≤ c2_8) (hr2_11 : Kd.C (Kd.int .i64) w A2_11 l2_11.length l2_11) (hc2_11 : l2_11.length ≤ c2_11) (h : span_ranger_moved.f l0_0 a0_1 a1_0 a1_1 a2_0 a2_1 a2_2 a2_3 a2_4 a2_5 a2_6 a2_7 l2_8 a2_9 a2_10 l2_11 = some (r1, r2)) :
    Calls Tryd.prog 21 #[.agg #[.slice A0_0 l0_0.length c0_0, .bool a0_1], .agg #[.int .i64 a1_0, .int .i64 a1_1], .agg #[.int .i64 a2_0, .int .i64 a2_1, .int .i64 a2_2, .int .i64 a2_3, .string a2_4, .string a2_5, .int .i64 a2_6, .string a2_7, .slice A2_8 l2_8.length c2_8, .string a2_9, .int .i64 a2_10, .slice A2_11 l2_11.length c2_11]] w fun e w' => e = .returned (.agg #[.int .i64 r1, .int .i64 r2]) ∧ Below w.heap.size w w' := by
  obtain ⟨n, hn⟩ : ∃ n, n = l0_0.length := ⟨_, rfl⟩
  obtain ⟨n8, hn8⟩ : ∃ n8, n8 = l2_8.length := ⟨_, rfl⟩
  obtain ⟨n11, hn11⟩ : ∃ n11, n11 = l2_11.length := ⟨_, rfl⟩
  rw [← hn, ← hn8, ← hn11]
  clear hr0_0 hc0_0 hr2_8 hc2_8 hr2_11 hc2_11 hn hn8 hn11
  unfold span_ranger_moved.f at h
  by_cases h3 : a2_0 = 3
  · rw [if_pos h3] at h
    subst h3
    by_cases he : a1_0 = a2_1
    · rw [if_pos he] at h
      injection h with h
      injection h with ha hb
      subst ha hb
      have heb : (a1_0 == a2_1) = true := by simpa using he
      clear he
      go_enter Tryd.func21, Tryd.ntmps21
      go_wp2_with fail
      · refine bodyPost_ret (results_cell_row rfl _ _ (w.heap.size + 1 + 1 + 1) 26 #[.int .i64 a1_0, .int .i64 a2_5.size] (0, 0) _ rfl (moved_new _ _ _ _ _) Tryd.underlying26 rfl (by kernel_rfl)) rfl ?_
        exact ⟨by rw [show mn a1_1 (a2_5.size : Int) = (a2_5.size : Int) from by unfold mn; split <;> omega], moved_below _ _ _ _ _⟩
      · refine bodyPost_ret (results_cell_row rfl _ _ (w.heap.size + 1 + 1 + 1) 26 #[.int .i64 a1_0, .int .i64 a1_1] (0, 0) _ rfl (moved_new _ _ _ _ _) Tryd.underlying26 rfl (by kernel_rfl)) rfl ?_
        exact ⟨by rw [show mn a1_1 (a2_5.size : Int) = a1_1 from by unfold mn; split <;> omega], moved_below _ _ _ _ _⟩
    · rw [if_neg he] at h
      injection h with h
      injection h with ha hb
      subst ha hb
      have heb : (a1_0 == a2_1) = false := by simpa using he
      clear he
      go_enter Tryd.func21, Tryd.ntmps21
      go_wp2_with fail
      refine bodyPost_ret (results_cell_row rfl _ _ (w.heap.size + 1 + 1 + 1) 26 #[.int .i64 a1_0, .int .i64 a1_1] (0, 0) _ rfl (moved_new _ _ _ _ _) Tryd.underlying26 rfl (by kernel_rfl)) rfl ?_
      exact ⟨rfl, moved_below _ _ _ _ _⟩
  · rw [if_neg h3] at h
    exact absurd h (by simp)

end Go.Proofs.YthggdgnpphjpkaaDoor.PSP
