-- printed by wip/tools/pr.py (own) through the kit's printer; texts GIVEN by hand stand among them
import Derived.Test.YtdakcfacckmjcaaDoorPDBx0
import Derived.Test.YtdakcfacckmjcaaDoorPDBx5
namespace Go.Proofs.YtdakcfacckmjcaaDoor.PDB
open Go.RowKit Go.Proofs.YtdakcfacckmjcaaDoorW.PrintWords Go.Proofs.YtdakcfacckmjcaaDoorW.PrintLast Go.Proofs.YtdakcfacckmjcaaDoorW.PrintMore
attribute [local go_sem] max2_int min2_int max_two min_two max_three min_three max_four min_four   -- for this text's walks alone
set_option linter.unusedVariables false
set_option linter.unusedSimpArgs false

/-! ### api_Node: function 16 -/
theorem api_Node.info : (Tryd.prog.info? 41).map (fun i => (i.zero, i.size, i.bytes)) = some (some (.agg #[.int .i64 0, .string ⟨#[]⟩, .slice none 0 0, .string ⟨#[]⟩, .int .i64 0, .slice none 0 0]), 6, 96) := by kernel_rfl

def api_Node.f (l0 : List (S41)) : Option (List (S41)) := some l0
set_option maxRecDepth 100000 in
set_option maxHeartbeats 2000000 in
/-- Clone: a row of one's own with the same cells. -/
theorem api_Node.row (A : Option Addr) (c : Nat) (xs : List (S41)) (w0 w : World) (hb0 : Below w0.heap.size w0 w) (hr : Kd.C k41 w0 A xs.length xs) (hn : xs.length ≤ 1000000) :
    Calls Tryd.prog 16 #[.slice A xs.length c] w fun e w' => ∃ v inner, e = .returned v ∧ w'.ownsRow w.heap.size 41 6 v xs.length inner ∧ Reps (Kd.K k41 w0) 6 xs inner ∧ Below w.heap.size w w' := by
  obtain ⟨i0, hi, hz0, hz1, hz2⟩ := info_parts api_Node.info
  obtain ⟨n, hnn⟩ : ∃ n, n = xs.length := ⟨_, rfl⟩
  have heq := fun W : World => Lib.run_eql_slice_nil (P := Tryd.prog) W 22 41 A n c 0 0 Tryd.underlying22
  cases A with
  | none =>
    have h0 : xs = [] := by
      rcases Nat.eq_zero_or_pos xs.length with h | h
      · exact List.eq_nil_of_length_eq_zero h
      · obtain ⟨ad, h, _⟩ := hr.2.2 h; cases h
    subst h0
    clear hr hb0
    rw [← hnn]
    have HN := Lib.hid hnn
    clear hnn
    go_enter Tryd.func16, Tryd.ntmps16
    go_wp2_with fail
    go_ret
    exact ⟨_, [], rfl, by rw [HN.out]; exact own_nil _ _ _ _, Reps.none _ _, Below.refl _ _⟩
  | some ad =>
    obtain ⟨inner, hil, hrep, hone, hcell⟩ := C_inner hr
    have hsz : inner.length = n * 6 := by rw [hil, hnn]; rfl
    have HR := Lib.hid hrep
    have HN := Lib.hid hnn
    rw [← hnn] at hn ⊢
    have HC : Hid (∀ j u, inner[j]? = some u → (w.alloc (.cells #[] 41)).cell? (ad.add j) = some u) := Lib.hid (fun j u hu => pw_cell_below ((Below.refl _ w).alloc (Nat.le_refl _) _) (pw_cell_below hb0 (hcell j u hu)))
    clear hr hrep hcell hil hnn hb0
    go_enter Tryd.func16, Tryd.ntmps16
    have hown : (w.alloc (.cells #[] 41)).ownsRow w.heap.size 41 6 (.slice (some ⟨w.heap.size, 0, none⟩) 0 0) 0 [] := World.ownsRow_lit w #[] 0 (Nat.le_refl _) (by decide) (by simp)
    go_wp2_with ((at_builtin; refine wpList_append_own_at _ rfl _ _ 22 rfl w.heap.size 41 i0 (.agg #[.int .i64 0, .string ⟨#[]⟩, .slice none 0 0, .string ⟨#[]⟩, .int .i64 0, .slice none 0 0]) 6 96 Tryd.underlying22 hi hz0 hz1 hz2 rfl (by decide) _ 0 [] rfl hown ad n c inner rfl hsz HC.out hone (by unfold maxLen; omega) (by omega) (by simp) ?c1))
    case c1 =>
      intro v1 w1 hown1 hg _ _
      have HO : Hid (w1.ownsRow w.heap.size 41 6 v1 n inner) := Lib.hid (by simpa using hown1)
      have HB : Hid (Below w.heap.size w w1) := Lib.hid (((Below.refl _ w).alloc (Nat.le_refl _) _).grown hg (by simp) (own_base hown))
      clear hown1 hg hown
      go_wp2_with fail
      go_ret
      exact ⟨_, _, rfl, HO.out, HR.out, HB.out⟩


/-! ### api_Attr_17: function 17 -/
theorem api_Attr_17.info : (Tryd.prog.info? 48).map (fun i => (i.zero, i.size, i.bytes)) = some (some (.agg #[.string ⟨#[]⟩, .string ⟨#[]⟩]), 2, 32) := by kernel_rfl

def api_Attr_17.f (l0 : List (S48)) : Option (List (S48)) := some l0
set_option maxRecDepth 100000 in
set_option maxHeartbeats 2000000 in
/-- Clone: a row of one's own with the same cells. -/
theorem api_Attr_17.row (A : Option Addr) (c : Nat) (xs : List (S48)) (w : World) (hr : Kd.C k48 w A xs.length xs) (hn : xs.length ≤ 1000000) :
    Calls Tryd.prog 17 #[.slice A xs.length c] w fun e w' => ∃ v inner, e = .returned v ∧ w'.ownsRow w.heap.size 48 2 v xs.length inner ∧ Reps (Kd.K k48 w) 2 xs inner ∧ Below w.heap.size w w' := by
  obtain ⟨i0, hi, hz0, hz1, hz2⟩ := info_parts api_Attr_17.info
  obtain ⟨n, hnn⟩ : ∃ n, n = xs.length := ⟨_, rfl⟩
  have heq := fun W : World => Lib.run_eql_slice_nil (P := Tryd.prog) W 38 48 A n c 0 0 Tryd.underlying38
  cases A with
  | none =>
    have h0 : xs = [] := by
      rcases Nat.eq_zero_or_pos xs.length with h | h
      · exact List.eq_nil_of_length_eq_zero h
      · obtain ⟨ad, h, _⟩ := hr.2.2 h; cases h
    subst h0
    clear hr
    rw [← hnn]
    have HN := Lib.hid hnn
    clear hnn
    go_enter Tryd.func17, Tryd.ntmps17
    go_wp2_with fail
    go_ret
    exact ⟨_, [], rfl, by rw [HN.out]; exact own_nil _ _ _ _, Reps.none _ _, Below.refl _ _⟩
  | some ad =>
    obtain ⟨inner, hil, hrep, hone, hcell⟩ := C_inner hr
    have hsz : inner.length = n * 2 := by rw [hil, hnn]; rfl
    have HR := Lib.hid hrep
    have HN := Lib.hid hnn
    rw [← hnn] at hn ⊢
    have HC : Hid (∀ j u, inner[j]? = some u → (w.alloc (.cells #[] 48)).cell? (ad.add j) = some u) := Lib.hid (fun j u hu => pw_cell_below ((Below.refl _ w).alloc (Nat.le_refl _) _) (hcell j u hu))
    clear hr hrep hcell hil hnn
    go_enter Tryd.func17, Tryd.ntmps17
    have hown : (w.alloc (.cells #[] 48)).ownsRow w.heap.size 48 2 (.slice (some ⟨w.heap.size, 0, none⟩) 0 0) 0 [] := World.ownsRow_lit w #[] 0 (Nat.le_refl _) (by decide) (by simp)
    go_wp2_with ((at_builtin; refine wpList_append_own_at _ rfl _ _ 38 rfl w.heap.size 48 i0 (.agg #[.string ⟨#[]⟩, .string ⟨#[]⟩]) 2 32 Tryd.underlying38 hi hz0 hz1 hz2 rfl (by decide) _ 0 [] rfl hown ad n c inner rfl hsz HC.out hone (by unfold maxLen; omega) (by omega) (by simp) ?c1))
    case c1 =>
      intro v1 w1 hown1 hg _ _
      have HO : Hid (w1.ownsRow w.heap.size 48 2 v1 n inner) := Lib.hid (by simpa using hown1)
      have HB : Hid (Below w.heap.size w w1) := Lib.hid (((Below.refl _ w).alloc (Nat.le_refl _) _).grown hg (by simp) (own_base hown))
      clear hown1 hg hown
      go_wp2_with fail
      go_ret
      exact ⟨_, _, rfl, HO.out, HR.out, HB.out⟩

theorem api_Attr_17.calls (A0 : Option Addr) (c0 : Nat) (l0 : List (S48)) (w : World) (hr0 : Kd.C k48 w A0 l0.length l0) (hn : l0.length ≤ 1000000) :
    Calls Tryd.prog 17 #[.slice A0 l0.length c0] w fun e w' => ∃ v0_ : Value, e = .returned v0_ ∧ Kd.R k48 48 w' w.heap.size (fun _ => True) v0_ l0 ∧ Below w.heap.size w w' :=
  (api_Attr_17.row A0 c0 l0 w hr0 hn).mono fun e w' ⟨v, inner, he, ho, hr, hb⟩ => ⟨v, he, ⟨fun _ _ => trivial, inner, ho, hr.imp_ (fun _ _ hp => hp)⟩, hb⟩


/-! ### dom_own: function 9 -/
section
open Kd
/-- Elements of one's own (true), and elements yet as they came (false): told at whatever world keeps W0. -/
def mixKd {α : Type} (d : Kd α) (W0 : World) : Kd (α × Bool) where
  sz := d.sz
  E := d.E
  K := fun w x cs => (x.2 = true → d.K w x.1 cs) ∧ (x.2 = false → ∀ W, Below W0.heap.size W0 W → d.K W x.1 cs)
  M := fun w base ok x cs => (x.2 = true → d.M w base ok x.1 cs) ∧ (x.2 = false → ∀ W, Below W0.heap.size W0 W → d.K W x.1 cs)
  K_len := fun {w x cs} h => by
    cases e : x.2 with
    | true => exact d.K_len (h.1 e)
    | false => exact d.K_len (h.2 e W0 (Below.refl _ _))
  K_one := fun {w x cs} h => by
    cases e : x.2 with
    | true => exact d.K_one (h.1 e)
    | false => exact d.K_one (h.2 e W0 (Below.refl _ _))
  K_below := fun hb h => ⟨fun e => d.K_below hb (h.1 e), h.2⟩
  K_of_M := fun h => ⟨fun e => d.K_of_M (h.1 e), h.2⟩
  M_mono := fun hok h => ⟨fun e => d.M_mono hok (h.1 e), h.2⟩
  M_bound := fun h => ⟨fun e => d.M_bound (h.1 e), h.2⟩
  M_move := fun hm h => ⟨fun e => d.M_move hm (h.1 e), h.2⟩
  M_lower := fun hb h => ⟨fun e => d.M_lower hb (h.1 e), h.2⟩
section
variable {α : Type} {d : Kd α} {e base : Nat} {w W : World} {ok : Nat → Prop} {v : Value} {xs : List α}
/-- All as they came: a copy's row. -/
theorem mix_new {inner : List Value} (ho : w.ownsRow base e d.sz v xs.length inner) (hr : Reps (d.K W) d.sz xs inner) : S (mixKd d W) e w base (fun _ => True) v (xs.map (·, false)) := by
  refine ⟨fun _ => 0, fun _ _ => trivial, inner, by rw [List.length_zipIdx, List.length_map]; exact ho, by rw [List.length_zipIdx, List.length_map]; exact hr.1, fun j p hj => ?_⟩
  rw [List.getElem?_zipIdx, Nat.zero_add, List.getElem?_map] at hj
  obtain ⟨q, hq, rfl⟩ := Option.map_eq_some_iff.1 hj
  obtain ⟨x, hx, rfl⟩ := Option.map_eq_some_iff.1 hq
  exact ⟨fun h => (Bool.false_ne_true h).elim, fun _ W' hb => d.K_below hb (hr.2 j x hx)⟩
/-- All of one's own. -/
theorem mix_done (h : S (mixKd d W) e w base ok v (xs.map (·, true))) : S d e w base ok v xs := by
  obtain ⟨f, h0, inner, ho, hr⟩ := h
  refine ⟨f, h0, inner, by rw [List.length_zipIdx, List.length_map] at ho; rw [List.length_zipIdx]; exact ho, by have := hr.1; rw [List.length_zipIdx, List.length_map] at this; rw [List.length_zipIdx]; exact this, fun j p hj => ?_⟩
  rw [List.getElem?_zipIdx, Nat.zero_add] at hj
  obtain ⟨q, hq, rfl⟩ := Option.map_eq_some_iff.1 hj
  exact (hr.2 j ((q, true), j) (by rw [List.getElem?_zipIdx, Nat.zero_add, List.getElem?_map, hq]; rfl)).1 rfl
/-- The first i of one's own. -/
def mix_upto (xs : List α) (i : Nat) : List (α × Bool) := xs.zipIdx.map fun p => (p.1, decide (p.2 < i))
theorem mix_upto_len (xs : List α) (i : Nat) : (mix_upto xs i).length = xs.length := by simp [mix_upto]
theorem mix_upto_get (xs : List α) (i j : Nat) : (mix_upto xs i)[j]? = xs[j]?.map fun x => (x, decide (j < i)) := by
  unfold mix_upto
  rw [List.getElem?_map, List.getElem?_zipIdx, Nat.zero_add, Option.map_map]
  rfl
theorem mix_upto_zero (xs : List α) : mix_upto xs 0 = xs.map (·, false) := by
  refine List.ext_getElem? fun j => ?_
  rw [mix_upto_get, List.getElem?_map]
  simp
theorem mix_upto_all (xs : List α) : mix_upto xs xs.length = xs.map (·, true) := by
  refine List.ext_getElem? fun j => ?_
  rw [mix_upto_get, List.getElem?_map]
  rcases Nat.lt_or_ge j xs.length with h | h
  · simp [h]
  · rw [List.getElem?_eq_none h]; rfl
theorem mix_upto_set (xs : List α) (i : Nat) (x : α) (hx : xs[i]? = some x) : (mix_upto xs i).set i (x, true) = mix_upto xs (i + 1) := by
  refine List.ext_getElem? fun j => ?_
  rw [mix_upto_get, List.getElem?_set, mix_upto_get, mix_upto_len]
  split
  · next h =>
    subst h
    rw [hx, if_pos (List.getElem?_eq_some_iff.1 hx).1]
    simp
  · next h =>
    congr 1
    funext y
    rw [decide_eq_decide.2]
    omega
end
end

theorem bcell {W w1 : World} (hb : Below W.heap.size W w1) : (∀ b o, b < W.heap.size → w1.cell? ⟨b, o, none⟩ = W.cell? ⟨b, o, none⟩) ∧ (∀ b o, b < W.heap.size → w1.frozen? ⟨b, o, none⟩ = W.frozen? ⟨b, o, none⟩) :=
  ⟨fun b o h => hb.cell (p := ⟨b, o, none⟩) h, fun b o h => hb.frozen (p := ⟨b, o, none⟩) h⟩
theorem mixE {w : World} : ∀ q, q ∈ 41 :: (mixKd k41 w).E → q ≠ 24 := (by decide : ∀ q, q ∈ 41 :: k41.E → q ≠ 24)
/-- Behind the first statement: the copy's row lies in a block of its own. -/
def Own0 (w W2 wx : World) (l : List S41) (n : Nat) (q : Bool) (g : Nat) : Prop := ∃ A c, W2.heap.size ≤ g ∧ Below W2.heap.size W2 wx ∧ wx.heap[g]? = some (.cells #[.slice A n c, .bool q] 24 (0, 0)) ∧ Kd.S (mixKd k41 w) 41 wx W2.heap.size (fun _ => True) (.slice A n c) (l.map (·, false))
theorem ownA {w W2 w' : World} {l : List S41} {n : Nat} {q : Bool} {A : Option Addr} {c : Nat} (hb : Below W2.heap.size W2 w') (hs : Kd.S (mixKd k41 w) 41 w' W2.heap.size (fun _ => True) (.slice A n c) (l.map (·, false))) :
    Own0 w W2 (w'.alloc (.cells #[.slice A n c, .bool q] 24)) l n q w'.heap.size := ⟨A, c, hb.size, below_alloc hb _, blk_new _ _, Kd.S_alloc hs _⟩
theorem ownB {w W2 w' : World} {l : List S41} {n : Nat} {q : Bool} {A : Option Addr} {c : Nat} (hb : Below W2.heap.size W2 w') (hg : w'.heap[W2.heap.size]? = some (.cells #[.slice none 0 0, .bool false] 24 (0, 0)))
    (hs : Kd.S (mixKd k41 w) 41 w' W2.heap.size (fun _ => True) (.slice A n c) (l.map (·, false))) :
    Own0 w W2 ((w'.setCell ⟨W2.heap.size, 0, none⟩ (.slice A n c)).setCell ⟨W2.heap.size, 1, none⟩ (.bool q)) l n q W2.heap.size :=
  ⟨A, c, Nat.le_refl _, (hb.setCell (Nat.le_refl _) _).setCell (Nat.le_refl _) _, blk_set (blk_set hg 0 _) 1 _, Kd.S_set (Kd.S_set hs hg mixE 0 _) (blk_set hg 0 _) mixE 1 _⟩
/-- At a round's head. -/
def Own1 (w W2 wx : World) (A : Option Addr) (c : Nat) (l : List S41) (n : Nat) (q : Bool) (g k : Nat) : Prop := Below W2.heap.size W2 wx ∧ wx.heap[g]? = some (.cells #[.slice A n c, .bool q] 24 (0, 0)) ∧ Kd.S (mixKd k41 w) 41 wx W2.heap.size (fun _ => True) (.slice A n c) (mix_upto l k)
theorem ownR {w W2 wr w1 w2 : World} {gr c n g k : Nat} {l : List S41} {q : Bool} {x : S41} {A6 A7 : Option Addr} {c6 c7 : Nat} (HW : Below w.heap.size w W2) (HO : Own1 w W2 wr (some ⟨gr, 0, none⟩) c l n q g k) (hk : k < n) (hn : n = l.length) (hx : l[k]? = some x)
    (hR6 : Kd.R k48 48 w1 W2.heap.size (fun j => wr.heap.size ≤ j) (.slice A6 x.f2.length c6) x.f2) (hb6 : Below wr.heap.size wr w1) (hR7 : Kd.R (Kd.int .i64) 3 w2 W2.heap.size (fun j => wr.heap.size ≤ j) (.slice A7 x.f5.length c7) x.f5) (hb7 : Below wr.heap.size wr w2) (hb7' : Below w1.heap.size w1 w2)
    (hbr : W2.heap.size ≤ gr) (hgr : gr < wr.heap.size) : Own1 w W2 ((w2.setCell ⟨gr, k * 6 + 2, none⟩ (.slice A6 x.f2.length c6)).setCell ⟨gr, k * 6 + 5, none⟩ (.slice A7 x.f5.length c7)) (some ⟨gr, 0, none⟩) c l n q g (k + 1) := by
  obtain ⟨hbx, hblk, hS⟩ := HO
  have hgg : g ≠ gr := by
    obtain ⟨cells, hty⟩ := Kd.S_typed hS gr (by simp [Value.ownBlock])
    exact blk_ne hblk hty (by decide)
  refine ⟨((hbx.trans (hb7.mono hbx.size)).setCell hbr _).setCell hbr _, blk_far (blk_far (blk_below hblk hb7) hgg _) hgg _, ?_⟩
  have hS2 : Kd.S (mixKd k41 w) 41 w2 W2.heap.size (fun j => True ∧ ¬ wr.heap.size ≤ j) (.slice (some ⟨gr, 0, none⟩) n c) (mix_upto l k) :=
    Kd.S_below (Kd.S_mono (Kd.S_bound hS) (fun j hj => ⟨trivial, by have := hj.2.2.1; omega⟩)) hb7
  obtain ⟨oki, cc, hcl, hM, hcc, hfr, hoki, hH⟩ := Kd.S_elem hS2 (z41, false) (k : Int) (by omega) (by omega)
  rw [show (mix_upto l k).getD (k : Int).toNat (z41, false) = (x, false) from by rw [Int.toNat_natCast, List.getD_eq_getElem?_getD, mix_upto_get, hx]; simp] at hM
  obtain ⟨A2, c2, A5, c5, hcs, -, -, -, -⟩ := k41_open (hM.2 rfl w2 (HW.trans ((hbx.trans (hb7.mono hbx.size)).mono HW.size)))
  subst hcs
  have h1 := (Kd.H_seg (Kd.H_more hH (fun j hj => trivial)) (by omega) (by omega) (seg := [.slice A6 x.f2.length c6]) (j := 2) (by show 2 + 1 ≤ 6; decide) (by simp [Value.oneCell'])).1
  have h2 := (Kd.H_seg h1 (by omega) (by omega) (seg := [.slice A7 x.f5.length c7]) (j := 5) (by show 5 + 1 ≤ 6; decide) (by simp [Value.oneCell'])).1
  have h3 : Kd.H (mixKd k41 w) 41 ((w2.setCell ⟨gr, k * 6 + 2, none⟩ (.slice A6 x.f2.length c6)).setCell ⟨gr, k * 6 + 5, none⟩ (.slice A7 x.f5.length c7)) W2.heap.size (fun _ => True) (.slice (some ⟨gr, 0, none⟩) n c) (mix_upto l k) (k : Int) (fun j => oki j ∨ wr.heap.size ≤ j) [.int .i64 x.f0, .string x.f1, .slice A6 x.f2.length c6, .string x.f3, .int .i64 x.f4, .slice A7 x.f5.length c7] := h2
  have hne : ∀ j, wr.heap.size ≤ j → j ≠ gr := fun j hj => by omega
  have h4 := Kd.H_back h3 (x' := (x, true)) (okp := fun j => wr.heap.size ≤ j) ⟨fun _ => k41_mkM _ _ _ x (Kd.R_far (Kd.R_far (Kd.R_below hR6 hb7') hne _) hne _) (Kd.R_far (Kd.R_far hR7 hne _) hne _), fun h => (Bool.noConfusion h)⟩ (fun j hj => .inr hj)
  rw [Int.toNat_natCast, mix_upto_set l k x hx] at h4
  exact h4
theorem ownE {w W2 wr : World} {A : Option Addr} {c n g k : Nat} {l : List S41} {q : Bool} (HW : Below w.heap.size w W2) (hsz : W2.heap.size = w.heap.size + 2) (HO : Own1 w W2 wr A c l n q g k) (hres : wr.heap[w.heap.size + 1]? = some (.cells #[.slice none 0 0, .bool false] 24 (0, 0))) (hk : k = l.length) :
    Kd.S k41 41 ((wr.setCell ⟨w.heap.size + 1, 0, none⟩ (.slice A n c)).setCell ⟨w.heap.size + 1, 1, none⟩ (.bool q)) w.heap.size (fun _ => True) (.slice A n c) l := by
  subst hk
  have h := HO.2.2
  rw [mix_upto_all] at h
  have h := Kd.S_lower (mix_done h) HW.size
  exact Kd.S_set (Kd.S_set h hres (by decide) 0 _) (blk_set hres 0 _) (by decide) 1 _
set_option maxRecDepth 100000 in
set_option maxHeartbeats 4000000 in
theorem dom_own.calls (A0_0 : Option Addr) (c0_0 : Nat) (l0_0 : List S41) (a0_1 : Bool) (w : World) (hr0_0 : Kd.C k41 w A0_0 l0_0.length l0_0) (hc0_0 : l0_0.length ≤ c0_0) (hn : l0_0.length ≤ 1000)
    (hin : ∀ x ∈ l0_0, x.f2.length ≤ 1000 ∧ x.f5.length ≤ 1000) :
    Calls Tryd.prog 9 #[.agg #[.slice A0_0 l0_0.length c0_0, .bool a0_1]] w fun e w' => ∃ v0_ : Value, e = .returned (.agg #[v0_, .bool a0_1]) ∧ Kd.S k41 41 w' w.heap.size (fun _ => True) v0_ l0_0 ∧ Below w.heap.size w w' := by
  obtain ⟨n, hnl⟩ : ∃ n, n = l0_0.length := ⟨_, rfl⟩
  have HB : Hid (∀ W2 : World, ((w.alloc (.cells #[.slice A0_0 n c0_0, .bool a0_1] 24)).alloc (.cells #[.slice none 0 0, .bool false] 24)) = W2 → Below w.heap.size w W2 ∧ W2.heap.size = w.heap.size + 2 ∧ W2.heap[w.heap.size + 1]? = some (.cells #[.slice none 0 0, .bool false] 24 (0, 0)) ∧ W2.cell? ⟨w.heap.size, 0, none⟩ = some (.slice A0_0 n c0_0) ∧ W2.cell? ⟨w.heap.size, 1, none⟩ = some (.bool a0_1)) :=
    Lib.hid (fun W2 h => by
      subst h
      exact ⟨((Below.refl _ w).alloc (Nat.le_refl _) _).alloc (by simp) _, by simp, by simpa using blk_new (w.alloc (.cells #[.slice A0_0 n c0_0, .bool a0_1] 24)) (.cells #[.slice none 0 0, .bool false] 24), by simp [go_sem], by simp [go_sem]⟩)
  have HCl : Hid (∀ W2 W : World, Below w.heap.size w W2 → Below W2.heap.size W2 W → Calls Tryd.prog 16 #[.slice A0_0 n c0_0] W fun e w' => ∃ A c, e = .returned (.slice A n c) ∧ Kd.S (mixKd k41 w) 41 w' W2.heap.size (fun _ => True) (.slice A n c) (l0_0.map (·, false)) ∧ Below W2.heap.size W2 w' ∧ Below W.heap.size W w') :=
    Lib.hid (fun W2 W h2 hb => by
      rw [hnl]
      have hle : W2.heap.size ≤ W.heap.size := hb.size
      refine (api_Node.row A0_0 c0_0 l0_0 w W (h2.trans (hb.mono h2.size)) hr0_0 (by omega)).mono ?_
      rintro e w' ⟨v, inner, rfl, ho, hr, hb'⟩
      obtain ⟨A, c, rfl⟩ := own_slice ho
      exact ⟨A, c, rfl, Kd.S_lower (mix_new ho hr) hle, hb.trans (hb'.mono hle), hb'⟩)
  rw [← hnl] at hc0_0 hn ⊢
  have HR := Lib.hid hr0_0
  have HN := Lib.hid hnl
  have HI := Lib.hid hin
  clear hr0_0 hnl hin
  go_enter Tryd.func9, Tryd.ntmps9
  go_upto_region 1 with fail
  generalize hW2 : ((w.alloc (.cells #[.slice A0_0 n c0_0, .bool a0_1] 24)).alloc (.cells #[.slice none 0 0, .bool false] 24)) = W2
  obtain ⟨hb2, hsz, e1, e2, e3⟩ := HB.out W2 hW2
  clear HB hW2
  have HB2 := Lib.hid hb2
  have HSz := Lib.hid hsz
  have HK : Hid (∀ W, Below W2.heap.size W2 W → W.cell? ⟨w.heap.size + 1, 0, none⟩ = some (.slice none 0 0) ∧ W.cell? ⟨w.heap.size, 0, none⟩ = some (.slice A0_0 n c0_0) ∧ W.cell? ⟨w.heap.size, 1, none⟩ = some (.bool a0_1)) := Lib.hid (fun W hb => ⟨pw_cell_below hb ((blk_cell e1 0).trans rfl), pw_cell_below hb e2, pw_cell_below hb e3⟩)
  have HRes := Lib.hid e1
  clear hb2 hsz e1 e2 e3
  go_cut [3] (fun s3 wx => ∃ g : Nat, s3 = .pointer (some ⟨g, 0, none⟩) ∧ Own0 w W2 wx l0_0 n a0_1 g)
  case first =>
    go_region_held3 (fun w' => w'.cell? ⟨w.heap.size + 1, 0, none⟩ = some (.slice none 0 0) ∧ w'.cell? ⟨w.heap.size, 0, none⟩ = some (.slice A0_0 n c0_0) ∧ w'.cell? ⟨w.heap.size, 1, none⟩ = some (.bool a0_1)) (exact HK.out _ (by (repeat (first | refine below_alloc ?_ _ | refine below_drew ?_ | refine Below.setCell ?_ (by simp) _)); first | exact hb | exact Below.refl _ _))
      (first | (with_reducible refine (HCl.out W2 _ HB2.out ?_).mono ?_; ((repeat (first | refine below_alloc ?_ _ | refine below_drew ?_)); exact Below.refl _ _); rintro e w' ⟨A1, c1, rfl, hs, hb, hb'⟩; obtain ⟨hcc, hff⟩ := bcell hb'))
    all_goals (go_wp2_with fail; go_meet; first | exact ⟨_, rfl, ownA hb hs⟩ | exact ⟨_, rfl, ownB hb (blk_below (blk_drew (blk_new W2 _)) hb') hs⟩)
  case rest =>
    obtain ⟨g, rfl, A, c, hge, hbx, hblk, hS⟩ := hcut
    have hs0 : Hid (Own1 w W2 _ A c l0_0 n a0_1 g 0) := Lib.hid ⟨hbx, hblk, by rw [mix_upto_zero]; exact hS⟩
    have hg0 := (blk_cell hblk 0).trans rfl
    clear hbx hblk hS
    go_wp2_with fail
    go_loopw [15] (fun i wr => ∃ k : Nat, k ≤ n ∧ i = .int .i64 k ∧ Hid (Own1 w W2 wr A c l0_0 n a0_1 g k)) (fun i _ => n - (intOf i).toNat)
    case atStart => exact ⟨0, Nat.zero_le _, rfl, hs0⟩
    case round =>
      obtain ⟨k, hk, rfl, HO⟩ := hrel
      clear hs0 hg0
      have hg0 := (blk_cell HO.out.2.1 0).trans rfl
      by_cases hlt : k < n
      · obtain ⟨gr, cap, hv, hbr, hgr, cells, hty⟩ := Kd.S_form HO.out.2.2 (by rw [mix_upto_len, ← HN.out]; omega)
        injection hv with hA hn' hc'
        subst hA
        clear hn' hc'
        obtain ⟨x, hx⟩ : ∃ x, l0_0[k]? = some x := ⟨_, List.getElem?_eq_getElem (by rw [← HN.out]; exact hlt)⟩
        have HBw : Hid (Below w.heap.size w wr) := Lib.hid (HB2.out.trans (HO.out.1.mono HB2.out.size))
        obtain ⟨oki, cc, hcl, hM, hcc, hfr, hoki, hH⟩ := Kd.S_elem HO.out.2.2 (z41, false) (k : Int) (by omega) (by omega)
        rw [show (mix_upto l0_0 k).getD (k : Int).toNat (z41, false) = (x, false) from by rw [Int.toNat_natCast, List.getD_eq_getElem?_getD, mix_upto_get, hx]; simp] at hM
        obtain ⟨A2, c2, A5, c5, hcs, h2l, h2, h5l, h5⟩ := k41_open (hM.2 rfl wr HBw.out)
        rw [hcs] at hcc
        have e2 : wr.cell? ⟨gr, k * 6 + 2, none⟩ = some (.slice A2 x.f2.length c2) := hcc 2 _ rfl
        have e5 : wr.cell? ⟨gr, k * 6 + 5, none⟩ = some (.slice A5 x.f5.length c5) := hcc 5 _ rfl
        have f2 : wr.frozen? ⟨gr, k * 6 + 2, none⟩ = false := hfr 2
        have f5 : wr.frozen? ⟨gr, k * 6 + 5, none⟩ = false := hfr 5
        have HX := Lib.hid hx
        have HIx := Lib.hid (HI.out x (List.mem_of_getElem? hx))
        obtain ⟨n2, hn2⟩ : ∃ n2, n2 = x.f2.length := ⟨_, rfl⟩
        obtain ⟨n5, hn5⟩ : ∃ n5, n5 = x.f5.length := ⟨_, rfl⟩
        rw [← hn2] at e2
        rw [← hn5] at e5
        have HA : Hid (∀ W : World, Below wr.heap.size wr W → Calls Tryd.prog 17 #[.slice A2 n2 c2] W fun e w' => ∃ A c, e = .returned (.slice A n2 c) ∧ Kd.R k48 48 w' W2.heap.size (fun k => wr.heap.size ≤ k) (.slice A n2 c) x.f2 ∧ Below wr.heap.size wr w' ∧ Below W.heap.size W w') :=
          Lib.hid (fun W hb => by
            rw [hn2]
            refine (api_Attr_17.calls A2 c2 x.f2 W (Kd.C_below h2 hb) (by have := HIx.out; omega)).mono ?_
            rintro e w' ⟨v, rfl, hr, hb'⟩
            obtain ⟨A, c, rfl⟩ := Kd.R_slice hr
            exact ⟨A, c, rfl, Kd.R_lower (Kd.R_mono (Kd.R_bound hr) (fun k hk => Nat.le_trans hb.size hk.2.1)) (Nat.le_trans HO.out.1.size hb.size), hb.trans (hb'.mono hb.size), hb'⟩)
        have HC5 : Hid (∀ W : World, Below wr.heap.size wr W → Calls Tryd.prog 18 #[.slice A5 n5 c5] W fun e w' => ∃ A c, e = .returned (.slice A n5 c) ∧ Kd.R (Kd.int .i64) 3 w' W2.heap.size (fun k => wr.heap.size ≤ k) (.slice A n5 c) x.f5 ∧ Below wr.heap.size wr w' ∧ Below W.heap.size W w') :=
          Lib.hid (fun W hb => by
            rw [hn5]
            refine (slices_Clone_int_int.calls A5 c5 x.f5 W (Kd.C_below h5 hb) (by have := HIx.out; omega)).mono ?_
            rintro e w' ⟨v, rfl, hr, hb'⟩
            obtain ⟨A, c, rfl⟩ := Kd.R_slice hr
            exact ⟨A, c, rfl, Kd.R_lower (Kd.R_mono (Kd.R_bound hr) (fun k hk => Nat.le_trans hb.size hk.2.1)) (Nat.le_trans HO.out.1.size hb.size), hb.trans (hb'.mono hb.size), hb'⟩)
        have HN2 := Lib.hid hn2
        have HN5 := Lib.hid hn5
        have HBr := Lib.hid hbr
        clear hbr hcl hM hcc hfr hoki hH hcs h2l h2 h5l h5 hx hn2 hn5 hty
        have HE : Hid (∀ W : World, Below wr.heap.size wr W → W.cell? ⟨gr, k * 6 + 2, none⟩ = some (.slice A2 n2 c2) ∧ W.cell? ⟨gr, k * 6 + 5, none⟩ = some (.slice A5 n5 c5) ∧ W.frozen? ⟨gr, k * 6 + 2, none⟩ = false ∧ W.frozen? ⟨gr, k * 6 + 5, none⟩ = false) :=
          Lib.hid (fun W hb => ⟨pw_cell_below hb e2, pw_cell_below hb e5, (hb.frozen (p := ⟨gr, k * 6 + 2, none⟩) hgr).trans f2, (hb.frozen (p := ⟨gr, k * 6 + 5, none⟩) hgr).trans f5⟩)
        go_upto_region 6 with fail
        go_region_with (first | (with_reducible refine (HA.out _ ?_).mono ?_; ((repeat (first | refine below_alloc ?_ _ | refine below_drew ?_)); exact Below.refl _ _); rintro e w1 ⟨A6, c6, rfl, hR6, hb6, hb6'⟩; obtain ⟨e2a, e5a, f2a, f5a⟩ := HE.out _ hb6) | (with_reducible refine (HC5.out _ ?_).mono ?_; ((repeat (first | refine below_alloc ?_ _ | refine below_drew ?_)); exact hb6); rintro e w2 ⟨A7, c7, rfl, hR7, hb7, hb7'⟩; obtain ⟨e2b, e5b, f2b, f5b⟩ := HE.out _ hb7))
        all_goals
          have HO2 := Lib.hid (ownR HB2.out HO.out hlt HN.out HX.out (by rw [← HN2.out]; exact hR6) hb6 (by rw [← HN5.out]; exact hR7) hb7 hb7' HBr.out hgr)
          rw [← HN2.out, ← HN5.out] at HO2
          clear hR6 hb6 hR7 hb7 hb7' hb6' e2a e5a f2a f5a e2b e5b f2b f5b e2 e5 f2 f5
          go_wp2_with fail
          go_roundw
          case rel => exact ⟨k + 1, by omega, by simp, HO2⟩
          case measure => simp [intOf]; omega
      · have hg1 := (blk_cell HO.out.2.1 1).trans rfl
        have hres := blk_below HRes.out HO.out.1
        have hr0 := (blk_cell hres 0).trans rfl
        have hr1 := (blk_cell hres 1).trans rfl
        have hrf0 := blk_frozen hres 0
        have hrf1 := blk_frozen hres 1
        go_wp2_with fail
        refine bodyPost_ret (results_cell_row rfl _ _ (w.heap.size + 1) 24 #[.slice A n c, .bool a0_1] (0, 0) _ rfl (blk_put (blk_put (cs' := #[.slice A n c, .bool false]) hres 0 _ rfl) 1 _ rfl) Tryd.underlying24 rfl (by kernel_rfl)) rfl ?_
        exact ⟨_, rfl, ownE HB2.out HSz.out HO.out hres (by have := HN.out; omega), (((HB2.out.trans (HO.out.1.mono HB2.out.size))).setCell (by simp) _).setCell (by simp) _⟩

/-! ### dom_editor_node: function 35 -/
/-- The editor's state: its block, and the document's row, all of the call's own (from base on). -/
def Ed (w : World) (B b : Nat) (l : List S41) (q : Bool) (made : Int) : Prop := ∃ v, B ≤ b ∧ w.heap[b]? = some (.cells #[v, .bool q, .int .i64 made] 37 (0, 0)) ∧ Kd.S k41 41 w B (fun _ => True) v l
theorem Ed.below {w w' : World} {B b : Nat} {l : List S41} {q : Bool} {made : Int} (h : Ed w B b l q made) (hb : Below w.heap.size w w') : Ed w' B b l q made := by
  obtain ⟨v, h1, h2, h3⟩ := h
  exact ⟨v, h1, blk_below h2 hb, Kd.S_below h3 hb⟩
set_option maxHeartbeats 1000000 in
theorem dom_editor_node.in_ (b gr n c i : Nat) (w : World) (hc : w.cell? ⟨b, 0, none⟩ = some (.slice (some ⟨gr, 0, none⟩) n c)) (hi : i < n) :
    Calls Tryd.prog 35 #[.pointer (some ⟨b, 0, none⟩), .int .i64 i] w fun e w' => e = .returned (.pointer (some ⟨gr, i * 6, none⟩)) ∧ w = w' := by
  go_enter Tryd.func35, Tryd.ntmps35
  go_wp2_with fail
  go_ret
  exact ⟨rfl, rfl⟩
set_option maxHeartbeats 1000000 in
theorem dom_editor_node.out_ (b n c : Nat) (A : Option Addr) (i : Int) (w : World) (hc : w.cell? ⟨b, 0, none⟩ = some (.slice A n c)) (hi : i < 0 ∨ (n : Int) ≤ i) :
    Calls Tryd.prog 35 #[.pointer (some ⟨b, 0, none⟩), .int .i64 i] w fun e w' => e = .returned (.pointer none) ∧ w = w' := by
  by_cases h0 : i < 0
  · clear hi
    go_enter Tryd.func35, Tryd.ntmps35
    go_wp2_with fail
    go_ret
    exact ⟨rfl, rfl⟩
  · have h1 : (n : Int) ≤ i := by omega
    clear hi
    go_enter Tryd.func35, Tryd.ntmps35
    go_wp2_with fail
    go_ret
    exact ⟨rfl, rfl⟩
set_option maxHeartbeats 1000000 in
theorem element_out (b n c : Nat) (A : Option Addr) (i : Int) (w : World) (hc : w.cell? ⟨b, 0, none⟩ = some (.slice A n c)) (hi : i < 0 ∨ (n : Int) ≤ i) :
    Calls Tryd.prog 33 #[.pointer (some ⟨b, 0, none⟩), .int .i64 i] w fun e w' => e = .returned (.tuple #[.pointer none, .int .i64 5]) ∧ w = w' := by
  have H := Lib.hid (dom_editor_node.out_ b n c A i w hc hi)
  clear hc hi
  go_enter Tryd.func33, Tryd.ntmps33
  go_wp2_with fail
  refine H.out.mono ?_
  rintro e w' ⟨rfl, rfl⟩
  go_wp2_with fail
  go_ret2
  exact ⟨rfl, rfl⟩
set_option maxHeartbeats 1000000 in
theorem element_kind (b gr n c i : Nat) (kd : Int) (w : World) (hc : w.cell? ⟨b, 0, none⟩ = some (.slice (some ⟨gr, 0, none⟩) n c)) (hi : i < n) (hk : w.cell? ⟨gr, i * 6, none⟩ = some (.int .i64 kd)) (hkd : kd ≠ 2) :
    Calls Tryd.prog 33 #[.pointer (some ⟨b, 0, none⟩), .int .i64 i] w fun e w' => e = .returned (.tuple #[.pointer none, .int .i64 7]) ∧ w = w' := by
  have H := Lib.hid (dom_editor_node.in_ b gr n c i w hc hi)
  have hb : (kd != 2) = true := by simpa using hkd
  clear hc hi hkd
  go_enter Tryd.func33, Tryd.ntmps33
  go_wp2_with fail
  refine H.out.mono ?_
  rintro e w' ⟨rfl, rfl⟩
  go_wp2_with fail
  go_ret2
  exact ⟨rfl, rfl⟩
set_option maxHeartbeats 1000000 in
theorem element_in (b gr n c i : Nat) (w : World) (hc : w.cell? ⟨b, 0, none⟩ = some (.slice (some ⟨gr, 0, none⟩) n c)) (hi : i < n) (hk : w.cell? ⟨gr, i * 6, none⟩ = some (.int .i64 2)) :
    Calls Tryd.prog 33 #[.pointer (some ⟨b, 0, none⟩), .int .i64 i] w fun e w' => e = .returned (.tuple #[.pointer (some ⟨gr, i * 6, none⟩), .int .i64 0]) ∧ w = w' := by
  have H := Lib.hid (dom_editor_node.in_ b gr n c i w hc hi)
  clear hc hi
  go_enter Tryd.func33, Tryd.ntmps33
  go_wp2_with fail
  refine H.out.mono ?_
  rintro e w' ⟨rfl, rfl⟩
  go_wp2_with fail
  go_ret2
  exact ⟨rfl, rfl⟩

/-! ### dom_editor_text: function 25 -/
/-- A node's text is set. -/
theorem ed_setText {B gr n c j : Nat} {W : World} {l : List S41} {xj : S41} (hS : Kd.S k41 41 W B (fun _ => True) (.slice (some ⟨gr, 0, none⟩) n c) l) (hj : j < n) (hxj : l[j]? = some xj) (s : ByteArray) :
    Kd.S k41 41 (W.setCell ⟨gr, j * 6 + 3, none⟩ (.string s)) B (fun _ => True) (.slice (some ⟨gr, 0, none⟩) n c) (l.set j ⟨xj.f0, xj.f1, xj.f2, s, xj.f4, xj.f5⟩) := by
  obtain ⟨oki, cc, hcl, hM, hcc, hfr, hoki, hH⟩ := Kd.S_elem hS z41 (j : Int) (by omega) (by omega)
  rw [show l.getD (j : Int).toNat z41 = xj from by rw [Int.toNat_natCast, List.getD_eq_getElem?_getD, hxj]; rfl] at hM
  obtain ⟨v2, v5, hcs, hR2, hR5⟩ := k41_openM hM
  subst hcs
  have h2 := (Kd.H_seg hH (by omega) (by omega) (seg := [.string s]) (j := 3) (by show 3 + 1 ≤ 6; decide) (by simp [Value.oneCell'])).1
  have h3 : Kd.H k41 41 (W.setCell ⟨gr, j * 6 + 3, none⟩ (.string s)) B (fun _ => True) (.slice (some ⟨gr, 0, none⟩) n c) l (j : Int) oki [.int .i64 xj.f0, .string xj.f1, v2, .string s, .int .i64 xj.f4, v5] := h2
  have hne : ∀ k, oki k → k ≠ gr := fun k hk => (hoki k hk).2
  have h4 := Kd.H_back h3 (x' := ⟨xj.f0, xj.f1, xj.f2, s, xj.f4, xj.f5⟩) (okp := oki) (k41_mkM _ _ _ ⟨xj.f0, xj.f1, xj.f2, s, xj.f4, xj.f5⟩ (Kd.R_far hR2 (p := ⟨gr, j * 6 + 3, none⟩) hne _) (Kd.R_far hR5 (p := ⟨gr, j * 6 + 3, none⟩) hne _)) (fun k hk => hk)
  rw [Int.toNat_natCast] at h4
  exact h4
/-- What an edit's value is. -/
def editV (e : S43) (A8 A11 : Option Addr) (n8 n11 c8 c11 : Nat) : Value := .agg #[.int .i64 e.f0, .int .i64 e.f1, .int .i64 e.f2, .int .i64 e.f3, .string e.f4, .string e.f5, .int .i64 e.f6.f0, .string e.f6.f1, .slice A8 n8 c8, .string e.f6.f3, .int .i64 e.f6.f4, .slice A11 n11 c11]
def textF (l : List S41) (e : S43) : Int × List S41 :=
  if 0 ≤ e.f1 ∧ e.f1 < (l.length : Int) then
    (if (rd_T41 l e.f1).f0 = 3 ∨ (rd_T41 l e.f1).f0 = 4 then
      (if e.f5.size > 400 then (2, l) else (0, l.set e.f1.toNat { rd_T41 l e.f1 with f3 := e.f5 }))
    else (7, l))
  else (5, l)
theorem ed_open {w : World} {B b : Nat} {l : List S41} {q : Bool} {made : Int} (h : Ed w B b l q made) : ∃ A c, B ≤ b ∧ w.heap[b]? = some (.cells #[.slice A l.length c, .bool q, .int .i64 made] 37 (0, 0)) ∧ Kd.S k41 41 w B (fun _ => True) (.slice A l.length c) l := by
  obtain ⟨v, h1, h2, h3⟩ := h
  obtain ⟨A, c, rfl⟩ := Kd.S_slice h3
  exact ⟨A, c, h1, h2, h3⟩
set_option maxRecDepth 100000 in
set_option maxHeartbeats 4000000 in
theorem text_calls (e : S43) (A8 A11 : Option Addr) (n8 n11 c8 c11 : Nat) (l : List S41) (q : Bool) (made : Int) (b : Nat) (w0 w : World) (hw : Below w0.heap.size w0 w) (hE : Ed w w0.heap.size b l q made) :
    Calls Tryd.prog 25 #[.pointer (some ⟨b, 0, none⟩), editV e A8 A11 n8 n11 c8 c11] w fun u w' => u = .returned (.int .i64 (textF l e).1) ∧ Ed w' w0.heap.size b (textF l e).2 q made ∧ Below w0.heap.size w0 w' := by
  obtain ⟨A, c, hB, hblk, hS⟩ := ed_open hE
  obtain ⟨n, hn⟩ : ∃ n, n = l.length := ⟨_, rfl⟩
  rw [← hn] at hblk hS
  unfold editV
  have HN := Lib.hid hn
  have HW := Lib.hid hw
  have HB := Lib.hid hB
  have HBlk := Lib.hid hblk
  have HS := Lib.hid hS
  have HE : Hid (∀ W : World, Below w.heap.size w W → Ed W w0.heap.size b l q made) := Lib.hid (fun W h => hE.below h)
  have hbw : b < w.heap.size := blk_lt hblk
  have hcell : ∀ W : World, Below w.heap.size w W → W.cell? ⟨b, 0, none⟩ = some (.slice A n c) := fun W h => pw_cell_below h ((blk_cell hblk 0).trans rfl)
  have HC := Lib.hid hcell
  by_cases hin : 0 ≤ e.f1 ∧ e.f1 < (l.length : Int)
  · obtain ⟨i, hi⟩ : ∃ i : Nat, (i : Int) = e.f1 := ⟨e.f1.toNat, by omega⟩
    have hiN : i < n := by omega
    obtain ⟨gr, cap, hv, hbr, hgr, cells, hty⟩ := Kd.S_form hS (by omega)
    injection hv with hA hn' hc'
    subst hA
    clear hn' hc'
    obtain ⟨x, hx⟩ : ∃ x, rd_T41 l e.f1 = x := ⟨_, rfl⟩
    have hxi : l[i]? = some x := by
      rw [← hx, ← hi]
      unfold rd_T41
      rw [Int.toNat_natCast, List.getD_eq_getElem?_getD, List.getElem?_eq_getElem (by omega)]
      rfl
    have hF : textF l e = (if x.f0 = 3 ∨ x.f0 = 4 then (if e.f5.size > 400 then (2, l) else (0, l.set i { x with f3 := e.f5 })) else (7, l)) := by
      unfold textF
      rw [if_pos hin, hx, ← hi, Int.toNat_natCast]
    rw [hF]
    obtain ⟨hn2, hnc, hrow⟩ := Kd.S_reads' hS
    obtain ⟨adi, A2i, c2i, A5, c5, ei, i0, -, -, i3, -⟩ := at_T41 hrow (i : Int) (by omega) (by omega)
    cases ei
    rw [hi, hx] at i0 i3
    have hgrn : i * 6 = (e.f1.toNat) * 6 := by rw [← hi, Int.toNat_natCast]
    have i0' : w.cell? ⟨gr, i * 6, none⟩ = some (.int .i64 x.f0) := by simpa [add_at, ← hi] using i0
    have i3' : w.cell? ⟨gr, i * 6 + 3, none⟩ = some (.string x.f3) := by simpa [add_at, ← hi] using i3
    have hfr : w.frozen? ⟨gr, i * 6 + 3, none⟩ = false := blk_frozen hty _
    have HNd : Hid (∀ W : World, Below w.heap.size w W → Calls Tryd.prog 35 #[.pointer (some ⟨b, 0, none⟩), .int .i64 e.f1] W fun u w' => u = .returned (.pointer (some ⟨gr, i * 6, none⟩)) ∧ W = w') :=
      Lib.hid (fun W h => by rw [← hi]; exact dom_editor_node.in_ b gr n c i W (HC.out W h) hiN)
    have HXi := Lib.hid hxi
    have hbx := (Below.refl _ w).alloc (Nat.le_refl _) (.cells #[.int .i64 e.f0, .int .i64 e.f1, .int .i64 e.f2, .int .i64 e.f3, .string e.f4, .string e.f5, .int .i64 e.f6.f0, .string e.f6.f1, .slice A8 n8 c8, .string e.f6.f3, .int .i64 e.f6.f4, .slice A11 n11 c11] 43)
    have HBx := Lib.hid hbx
    have y0 := pw_cell_below hbx i0'
    have y3 := pw_cell_below hbx i3'
    have yf : (w.alloc (.cells #[.int .i64 e.f0, .int .i64 e.f1, .int .i64 e.f2, .int .i64 e.f3, .string e.f4, .string e.f5, .int .i64 e.f6.f0, .string e.f6.f1, .slice A8 n8 c8, .string e.f6.f3, .int .i64 e.f6.f4, .slice A11 n11 c11] 43)).frozen? ⟨gr, i * 6 + 3, none⟩ = false := (hbx.frozen (p := ⟨gr, i * 6 + 3, none⟩) hgr).trans hfr
    have y5 : (w.alloc (.cells #[.int .i64 e.f0, .int .i64 e.f1, .int .i64 e.f2, .int .i64 e.f3, .string e.f4, .string e.f5, .int .i64 e.f6.f0, .string e.f6.f1, .slice A8 n8 c8, .string e.f6.f3, .int .i64 e.f6.f4, .slice A11 n11 c11] 43)).cell? ⟨w.heap.size, 5, none⟩ = some (.string e.f5) := by simp [go_sem]
    clear hE hblk hS hcell hn hw hB hx hxi hF hrow i0 i3 hgrn i0' i3' hfr hty hn2 hnc hbx hin
    by_cases h34 : x.f0 = 3 ∨ x.f0 = 4
    · rw [if_pos h34]
      have hb34 : (x.f0 != 3) = false ∨ ((x.f0 != 3) = true ∧ (x.f0 != 4) = false) := by
        rcases h34 with h | h
        · exact .inl (by simpa using h)
        · exact .inr ⟨by rw [h]; rfl, by simpa using h⟩
      clear h34
      by_cases h400 : e.f5.size > 400
      · rw [if_pos h400]
        have h4b : decide ((400 : Int) < (e.f5.size : Int)) = true := decide_eq_true (by omega)
        rcases hb34 with hb3 | ⟨hb3, hb4⟩
        all_goals
          go_enter Tryd.func25, Tryd.ntmps25
          go_wp2_with fail
          refine (HNd.out _ HBx.out).mono ?_
          rintro u w' ⟨rfl, rfl⟩
          go_wp2_with fail
          go_ret
          exact ⟨rfl, HE.out _ HBx.out, HW.out.trans (HBx.out.mono HW.out.size)⟩
      · rw [if_neg h400]
        have h4b : decide ((400 : Int) < (e.f5.size : Int)) = false := decide_eq_false (by omega)
        rcases hb34 with hb3 | ⟨hb3, hb4⟩
        all_goals
          go_enter Tryd.func25, Tryd.ntmps25
          go_wp2_with fail
          refine (HNd.out _ HBx.out).mono ?_
          rintro u w' ⟨rfl, rfl⟩
          generalize (w.alloc (.cells #[.int .i64 e.f0, .int .i64 e.f1, .int .i64 e.f2, .int .i64 e.f3, .string e.f4, .string e.f5, .int .i64 e.f6.f0, .string e.f6.f1, .slice A8 n8 c8, .string e.f6.f3, .int .i64 e.f6.f4, .slice A11 n11 c11] 43)) = W1 at HBx y0 y3 yf y5
          go_wp2_with fail
          go_ret
          refine ⟨rfl, ⟨_, HB.out, blk_far (blk_below HBlk.out HBx.out) ?_ _, ed_setText (Kd.S_below HS.out HBx.out) hiN HXi.out e.f5⟩, (HW.out.trans (HBx.out.mono HW.out.size)).setCell hbr _⟩
          obtain ⟨cells, hty⟩ := Kd.S_typed HS.out gr (by simp [Value.ownBlock])
          exact fun he => blk_ne hty HBlk.out (by decide) he.symm
    · rw [if_neg h34]
      have hb3 : (x.f0 != 3) = true := by simpa using fun h => h34 (.inl h)
      have hb4 : (x.f0 != 4) = true := by simpa using fun h => h34 (.inr h)
      clear h34
      go_enter Tryd.func25, Tryd.ntmps25
      go_wp2_with fail
      refine (HNd.out _ HBx.out).mono ?_
      rintro u w' ⟨rfl, rfl⟩
      go_wp2_with fail
      go_ret
      exact ⟨rfl, HE.out _ HBx.out, HW.out.trans (HBx.out.mono HW.out.size)⟩
  · have hF : textF l e = (5, l) := by
      unfold textF
      rw [if_neg hin]
    rw [hF]
    have HNd : Hid (∀ W : World, Below w.heap.size w W → Calls Tryd.prog 35 #[.pointer (some ⟨b, 0, none⟩), .int .i64 e.f1] W fun u w' => u = .returned (.pointer none) ∧ W = w') :=
      Lib.hid (fun W h => dom_editor_node.out_ b n c A e.f1 W (HC.out W h) (by omega))
    have HBx := Lib.hid ((Below.refl _ w).alloc (Nat.le_refl _) (.cells #[.int .i64 e.f0, .int .i64 e.f1, .int .i64 e.f2, .int .i64 e.f3, .string e.f4, .string e.f5, .int .i64 e.f6.f0, .string e.f6.f1, .slice A8 n8 c8, .string e.f6.f3, .int .i64 e.f6.f4, .slice A11 n11 c11] 43))
    clear hE hblk hS hcell hn hw hB hF hin
    go_enter Tryd.func25, Tryd.ntmps25
    go_wp2_with fail
    refine (HNd.out _ HBx.out).mono ?_
    rintro u w' ⟨rfl, rfl⟩
    go_wp2_with fail
    go_ret
    exact ⟨rfl, HE.out _ HBx.out, HW.out.trans (HBx.out.mono HW.out.size)⟩

/-! ### slices_Index_int_int: function 36 -/
def slices_Index_int_int.l0 : Nat → List Int → Int → Int → Int → Option (Int)
  | 0, _, _, _, _ => none
  | k + 1, x0, x1, x7, x8 => if x8 < x7 then (if 0 ≤ x8 then (if x8 < (x0.length : Int) then (if x1 = (rd x0 x8) then (some x8) else (slices_Index_int_int.l0 k x0 x1 x7 (wrap64 (x8 + 1)))) else (none)) else (none)) else (some (-1))
def slices_Index_int_int.f (k : Nat) (l0 : List Int) (a1 : Int) : Option (Int) := slices_Index_int_int.l0 k l0 a1 (l0.length : Int) 0
theorem slices_Index_int_int.mono_l : ∀ k, (∀ y0 y1 y2 y3, LeO (slices_Index_int_int.l0 k y0 y1 y2 y3) (slices_Index_int_int.l0 (k + 1) y0 y1 y2 y3))
  | 0 => fun _ _ _ _ r h => by simp [slices_Index_int_int.l0] at h
  | k + 1 => by
    have ih0 := slices_Index_int_int.mono_l k
    · intro y0 y1 y2 y3
      unfold slices_Index_int_int.l0
      repeat' first
      | (with_reducible exact ih0 _ _ _ _)
      | (with_reducible exact LeO.refl _)
      | (with_reducible exact LeO.none _)
      | (with_reducible refine LeO.ite ?_ ?_)
      | (with_reducible refine LeO.bind ?_ (fun _ => ?_))
      | exact ih0 _ _ _ _
      | exact LeO.none _
      | refine LeO.ite ?_ ?_
      | refine LeO.bind ?_ (fun _ => ?_)
theorem slices_Index_int_int.mono : ∀ a0 a1 k, LeO (slices_Index_int_int.f k a0 a1) (slices_Index_int_int.f (k + 1) a0 a1) := by
  intro a0 a1 k
  have ih0 := slices_Index_int_int.mono_l k
  unfold slices_Index_int_int.f
  repeat' first
      | (with_reducible exact ih0 _ _ _ _)
      | (with_reducible exact LeO.refl _)
      | (with_reducible exact LeO.none _)
      | (with_reducible refine LeO.ite ?_ ?_)
      | (with_reducible refine LeO.bind ?_ (fun _ => ?_))
      | exact ih0 _ _ _ _
      | exact LeO.none _
      | refine LeO.ite ?_ ?_
      | refine LeO.bind ?_ (fun _ => ?_)
set_option maxHeartbeats 8000000 in
set_option maxRecDepth 100000 in
theorem slices_Index_int_int.calls (k : Nat) (A0 : Option Addr) (c0 : Nat) (l0 : List Int) (a1 : Int) (r : Int) (w : World) (hr0 : Kd.C (Kd.int .i64) w A0 l0.length l0) (hc0 : l0.length ≤ c0) (h : slices_Index_int_int.f k l0 a1 = some r) :
    Calls Tryd.prog 36 #[.slice A0 l0.length c0, .int .i64 a1] w fun e w' => e = .returned (.int .i64 r) ∧ Drawn0 w w' := by
  have HR0 := Aside0.mk hr0
  have HC0 := Aside0.mk hc0
  clear hr0 hc0
  have H : (slices_Index_int_int.l0 k l0 a1 (l0.length : Int) 0) = some r := h
  clear h
  have H' := Aside0.mk H
  clear H
  go_enter Tryd.func36, Tryd.ntmps36
  go_wp2
  go_loopg [8] k (fun kq v8 w' => ∃ (x8_1 : Int), v8 = .int .i64 x8_1 ∧ Aside0 (slices_Index_int_int.l0 kq l0 a1 (l0.length : Int) x8_1 = some r) ∧ Aside0 (kq ≤ k) ∧ Drawn0 w w')
  case atStart => exact ⟨(0), (by first | rfl | (simp; done) | (simp [*]; done)), H', ⟨Nat.le_refl _⟩, by repeat (first | exact Drawn0.refl _ | apply Drawn0.step)⟩
  case round =>
    clear H'
    try clear p2
    obtain ⟨x8_1, rfl, HA, HK1, ⟨m1, rfl⟩⟩ := hrel
    cases gk with
    | zero => exact absurd HA.out (by simp [slices_Index_int_int.l0])
    | succ k1 =>
      have H := HA.out
      clear HA
      simp only [slices_Index_int_int.l0] at H
      by_cases c3 : x8_1 < (l0.length : Int)
      · rw [if_pos c3] at H
        have c3b0 : decide (x8_1 < (l0.length : Int)) = true := decide_eq_true c3
        clear c3
        by_cases c4 : 0 ≤ x8_1
        · rw [if_pos c4] at H
          have c4b0 : decide (0 ≤ x8_1) = true := decide_eq_true c4
          clear c4
          by_cases c5 : x8_1 < (l0.length : Int)
          · rw [if_pos c5] at H
            have c5b0 : decide (x8_1 < (l0.length : Int)) = true := decide_eq_true c5
            clear c5
            by_cases c6 : a1 = (rd l0 x8_1)
            · rw [if_pos c6] at H
              have c6b0 : (a1 == (rd l0 x8_1)) = true := beq_iff_eq.mpr c6
              have c6b1 : (a1 != (rd l0 x8_1)) = false := bne_eq_false_iff_eq.mpr c6
              clear c6
              obtain rfl := Option.some.inj H
              have p140 : 0 ≤ (x8_1 : Int) := of_decide_eq_true (by first | (with_reducible assumption) | assumption)
              have q140 : x8_1 < (l0.length : Int) := of_decide_eq_true (by first | (with_reducible assumption) | assumption)
              obtain ⟨ad140, e140, hx140_0⟩ := Kd.at_int HR0.out x8_1 p140 q140
              cases e140
              replace p140 := eq_true p140
              replace q140 := eq_true q140
              go_wp2
              go_ret
              exact ⟨by first | rfl | (simp; done) | (simp [*]; done), by repeat (first | exact Drawn0.refl _ | apply Drawn0.step)⟩
            · rw [if_neg c6] at H
              have c6b0 : (a1 == (rd l0 x8_1)) = false := beq_eq_false_iff_ne.mpr c6
              have c6b1 : (a1 != (rd l0 x8_1)) = true := bne_iff_ne.mpr c6
              have H' := Aside0.mk H
              clear H
              have p140 : 0 ≤ (x8_1 : Int) := of_decide_eq_true (by first | (with_reducible assumption) | assumption)
              have q140 : x8_1 < (l0.length : Int) := of_decide_eq_true (by first | (with_reducible assumption) | assumption)
              obtain ⟨ad140, e140, hx140_0⟩ := Kd.at_int HR0.out x8_1 p140 q140
              cases e140
              replace p140 := eq_true p140
              replace q140 := eq_true q140
              go_wp2
              go_roundg k1
              case measure => have := HK1.out; omega
              case rel => exact ⟨(wrap64 (x8_1 + 1)), (by first | rfl | (simp; done) | (simp [*]; done)), H', ⟨by have := HK1.out; omega⟩, by repeat (first | exact Drawn0.refl _ | apply Drawn0.step)⟩
          · rw [if_neg c5] at H
            exact absurd H (by simp)
        · rw [if_neg c4] at H
          exact absurd H (by simp)
      · rw [if_neg c3] at H
        have c3b0 : decide (x8_1 < (l0.length : Int)) = false := decide_eq_false c3
        clear c3
        obtain rfl := Option.some.inj H
        go_wp2
        go_ret
        exact ⟨by first | rfl | (simp; done) | (simp [*]; done), by repeat (first | exact Drawn0.refl _ | apply Drawn0.step)⟩

/-! ### dom_editor_below: function 37 -/
/-- Upwards from n: is it t, or does it lie below it? -/
def belowF (l : List S41) : Nat → Int → Int → Option Bool
  | 0, _, _ => none
  | k + 1, n, t => if 0 ≤ n then (if n = t then some true else (if n < (l.length : Int) then belowF l k (rd_T41 l n).f4 t else none)) else some (n == t)
set_option maxRecDepth 100000 in
set_option maxHeartbeats 2000000 in
theorem below_calls (k : Nat) (b c : Nat) (A : Option Addr) (l : List S41) (n t : Int) (r : Bool) (w : World) (hc : w.cell? ⟨b, 0, none⟩ = some (.slice A l.length c)) (hr : Kd.C k41 w A l.length l) (h : belowF l k n t = some r) :
    Calls Tryd.prog 37 #[.pointer (some ⟨b, 0, none⟩), .int .i64 n, .int .i64 t] w fun e w' => e = .returned (.bool r) ∧ w = w' := by
  obtain ⟨m, hm⟩ : ∃ m, m = l.length := ⟨_, rfl⟩
  rw [← hm] at hc hr
  have HR := Lib.hid hr
  have HM := Lib.hid hm
  have H' := Lib.hid h
  clear h hr hm
  go_enter Tryd.func37, Tryd.ntmps37
  go_wp2_with fail
  go_loopg [1] k (fun kq v1 w' => ∃ x1 : Int, v1 = .int .i64 x1 ∧ Hid (belowF l kq x1 t = some r) ∧ w = w')
  case atStart => exact ⟨n, rfl, H', rfl⟩
  case round =>
    obtain ⟨x1, rfl, HA, rfl⟩ := hrel
    clear H'
    cases gk with
    | zero => exact absurd HA.out (by simp [belowF])
    | succ k1 =>
      have H := HA.out
      clear HA
      simp only [belowF] at H
      by_cases c0 : 0 ≤ x1
      · rw [if_pos c0] at H
        by_cases c1 : x1 = t
        · subst c1
          rw [if_pos rfl] at H
          obtain rfl := Option.some.inj H
          clear H
          go_wp2_with fail
          go_ret
          exact ⟨rfl, rfl⟩
        · rw [if_neg c1] at H
          have c1b : (x1 != t) = true := by simpa using c1
          have c1c : (x1 == t) = false := by simpa using c1
          by_cases c2 : x1 < (l.length : Int)
          · rw [if_pos c2] at H
            obtain ⟨ad, A2, c2', A5, c5, rfl, d0, d1, d2, d3, d4, d5, _⟩ := at_T41 HR.out x1 c0 (by have := HM.out; omega)
            have q : x1 < (m : Int) := by have := HM.out; omega
            have HH := Lib.hid H
            clear H c1 c2 d0 d1 d2 d3 d5
            go_wp2_with fail
            go_roundg k1
            case measure => omega
            case rel => exact ⟨_, rfl, HH, rfl⟩
          · rw [if_neg c2] at H
            exact absurd H (by simp)
      · rw [if_neg c0] at H
        obtain rfl := Option.some.inj H
        clear H
        have c0b : x1 < 0 := by omega
        go_wp2_with fail
        go_ret
        exact ⟨rfl, rfl⟩

/-! ### dom_editor_deep: function 38 -/
/-- How far it goes below these. -/
def deepGo (f : Int → Option Int) : List Int → Int → Option Int
  | [], m => some m
  | x :: xs, m => (f x).bind fun d => deepGo f xs (mx m (wrap64 (d + 1)))
def deepF (l : List S41) : Nat → Int → Option Int
  | 0, _ => none
  | k + 1, n => if 0 ≤ n then (if n < (l.length : Int) then deepGo (deepF l k) (rd_T41 l n).f5 0 else none) else none
set_option maxRecDepth 100000 in
set_option maxHeartbeats 2000000 in
theorem deep_calls (b c : Nat) (A : Option Addr) (l : List S41) (w : World) (hc : w.cell? ⟨b, 0, none⟩ = some (.slice A l.length c)) (hr : Kd.C k41 w A l.length l) : ∀ (k : Nat) (n r : Int), deepF l k n = some r →
    Calls Tryd.prog 38 #[.pointer (some ⟨b, 0, none⟩), .int .i64 n] w fun e w' => e = .returned (.int .i64 r) ∧ w = w' := by
  intro k
  induction k with
  | zero => intro n r h; exact absurd h (by simp [deepF])
  | succ k ih =>
    intro n r h
    simp only [deepF] at h
    by_cases c0 : 0 ≤ n
    · rw [if_pos c0] at h
      by_cases c1 : n < (l.length : Int)
      · rw [if_pos c1] at h
        obtain ⟨m, hm⟩ : ∃ m, m = l.length := ⟨_, rfl⟩
        have hcm := hc
        rw [← hm] at hcm c1
        obtain ⟨ad, A2, c2', A5, c5, rfl, -, -, -, -, -, d5, -, -, -, hk5⟩ := at_T41 hr n c0 (by omega)
        obtain ⟨ks, hks⟩ : ∃ ks, ks = (rd_T41 l n).f5 := ⟨_, rfl⟩
        rw [← hks] at h d5 hk5
        obtain ⟨nk, hnk⟩ : ∃ nk, nk = ks.length := ⟨_, rfl⟩
        rw [← hnk] at d5 hk5
        have hmax : nk ≤ 9223372036854775807 := hk5.2.1
        have HK := Lib.hid hk5
        have HN := Lib.hid hnk
        have HI := Lib.hid ih
        have H' := Lib.hid h
        clear ih h hks hnk hk5 hr hc hm
        go_enter Tryd.func38, Tryd.ntmps38
        go_wp2_with fail
        go_loopw [4, 17] (fun v4 v17 wr => ∃ (t : Nat) (x : Int), t ≤ nk ∧ v17 = .int .i64 t ∧ v4 = .int .i64 x ∧ Hid (deepGo (deepF l k) (ks.drop t) x = some r) ∧ w = wr) (fun _ i _ => nk - (intOf i).toNat)
        case atStart => exact ⟨0, 0, Nat.zero_le _, rfl, rfl, H', rfl⟩
        case round =>
          obtain ⟨t, x, ht, rfl, rfl, HA, rfl⟩ := hrel
          clear H'
          have H := HA.out
          clear HA
          by_cases hlt : t < nk
          · have hl : t < ks.length := by have := HN.out; omega
            obtain ⟨ad5, rfl, y0⟩ := Kd.at_int HK.out (t : Int) (by omega) (by omega)
            have hrd : rd ks (t : Int) = ks[t] := by unfold rd; rw [Int.toNat_natCast, List.getD_eq_getElem?_getD, List.getElem?_eq_getElem hl]; rfl
            rw [hrd] at y0
            rw [Int.toNat_natCast] at y0
            rw [List.drop_eq_getElem_cons hl] at H
            simp only [deepGo] at H
            obtain ⟨d, hd, H2⟩ := Option.bind_eq_some_iff.1 H
            clear H
            generalize ks[t] = kk at *
            have HC := Lib.hid (HI.out kk d hd)
            have HH : Hid (deepGo (deepF l k) (ks.drop (t + 1)) (if x < wrap64 (d + 1) then wrap64 (d + 1) else x) = some r) := Lib.hid H2
            clear H2 hd hrd hl
            go_wp2_with fail
            refine HC.out.mono ?_
            rintro e w' ⟨rfl, rfl⟩
            go_wp2_with fail
            go_roundw
            case rel => exact ⟨t + 1, _, by omega, by simp, rfl, HH, by first | rfl | trivial⟩
            case measure => simp [intOf]; omega
          · have e : t = nk := by omega
            subst e
            rw [HN.out, List.drop_length] at H
            simp only [deepGo] at H
            obtain rfl := Option.some.inj H
            clear H
            go_wp2_with fail
            go_ret
            exact ⟨rfl, rfl⟩
      · rw [if_neg c1] at h
        exact absurd h (by simp)
    · rw [if_neg c0] at h
      exact absurd h (by simp)

/-! ### slices_Insert_int_int: function 39 -/
theorem infoI : (Tryd.prog.info? 3).map (fun i => (i.zero, i.size, i.bytes)) = some (some (.int .i64 0), 1, 8) := by kernel_rfl
set_option maxRecDepth 100000 in
set_option maxHeartbeats 2000000 in
theorem ins_end (A : Option Addr) (c n : Nat) (xs : List Int) (ad : Addr) (y : Int) (base : Nat) (w : World) (hown : w.ownsRow base 3 1 (.slice A n c) n (nums .i64 xs)) (hy : w.cell? ad = some (.int .i64 y)) (hn : n ≤ 1000) (hb : base ≤ w.heap.size) :
    Calls Tryd.prog 39 #[.slice A n c, .int .i64 n, .slice (some ad) 1 1] w fun e w' => ∃ v', e = .returned v' ∧ w'.ownsRow base 3 1 v' (n + 1) (nums .i64 (xs ++ [y])) ∧ w.grownBy w' (Value.slice A n c).ownBlock ∧ (v'.ownBlock = (Value.slice A n c).ownBlock ∨ v'.ownBlock = some w.heap.size) := by
  have hnc := own_le hown
  obtain ⟨i0, hi, hz0, hz1, hz2⟩ := info_parts infoI
  have hnews : ∀ j u, [Value.int .i64 y][j]? = some u → w.cell? (ad.add j) = some u := by
    intro j u hj
    match j, hj with
    | 0, hj =>
      simp at hj
      subst hj
      exact (by simpa [Addr.add] using hy)
  have HO := Lib.hid hown
  have HN := Lib.hid hnews
  clear hown hnews hy
  have hq : (n : Int) ≤ (c : Int) := by omega
  by_cases hc : c = n
  all_goals
    go_enter Tryd.func39, Tryd.ntmps39
    go_upto_region 7 with fail
    go_wp2_with ((at_builtin; refine wpList_append_own_at _ rfl _ _ 39 rfl base 3 i0 (.int .i64 0) 1 8 Tryd.underlying39 hi hz0 hz1 hz2 rfl (by decide) (.slice A n c) n (nums .i64 xs) rfl HO.out ad 1 1 [.int .i64 y] rfl rfl HN.out (by simp [Value.oneCell']) (by unfold maxLen; omega) (by omega) hb ?_; intro v1 w1 hown1 hg1 _ hat1; have HR := Lib.hid (⟨hown1, hg1, hat1⟩ : _ ∧ _ ∧ _); clear hown1 hg1 hat1))
    go_ret
    exact ⟨_, rfl, by have := HR.out.1; simpa [nums] using this, HR.out.2.1, HR.out.2.2⟩
/-- One cell put into a row: the cells behind it move on. -/
theorem cells_in {i n c : Nat} {inner rest : List Value} {y : Value} {cur1 cur2 : List Value} (hil : inner.length = n) (hi : i < n) (h3 : cur1.take i = inner.take i) (h4 : cur1.drop (i + 1) = inner.drop i ++ rest) (h6 : cur2 = cur1.take i ++ [y] ++ cur1.drop (i + 1)) :
    cur2.take (n + 1) = inner.take i ++ y :: inner.drop i := by
  rw [h6, h3, h4, show inner.take i ++ [y] ++ (inner.drop i ++ rest) = (inner.take i ++ y :: inner.drop i) ++ rest from by simp]
  exact List.take_left' (by simp; omega)
theorem own_in {B g n c i : Nat} {e : TypeId} {w : World} {inner : List Value} {y : Value} {cur : Array Value} (hg : w.heap[g]? = some (.cells cur e (0, 0))) (hB : B ≤ g) (hnc : n + 1 ≤ c) (hcm : c ≤ maxLen) (hcs : cur.size = c * 1) (hct : cur.toList.take (n * 1) = inner) (hi : i < n) :
    ((w.setCells g (0 + (i + 1)) (inner.drop i)).setCells g (0 + i) [y]).ownsRow B e 1 (.slice (some ⟨g, 0, none⟩) (n + 1) c) (n + 1) (inner.take i ++ y :: inner.drop i) ∧ w.grownBy ((w.setCells g (0 + (i + 1)) (inner.drop i)).setCells g (0 + i) [y]) (some g) := by
  rw [Nat.mul_one] at hcs hct
  have hil : inner.length = n := by rw [← hct, List.length_take, Array.length_toList, hcs]; omega
  have hdl : (inner.drop i).length = n - i := by rw [List.length_drop, hil]
  obtain ⟨cur1, h1, h2, h3⟩ := setCells_row (inner.drop i) (0 + (i + 1)) w cur hg (by rw [hdl, hcs]; omega)
  obtain ⟨cur2, h4, h5, h6⟩ := setCells_row [y] (0 + i) _ cur1 h1 (by rw [h2, hcs]; simp; omega)
  have t1 : cur1.toList.take i = inner.take i := by
    rw [h3, List.append_assoc, List.take_append_of_le_length (by rw [List.length_take, Array.length_toList, hcs]; omega), List.take_take, ← hct, List.take_take]
    congr 1
    omega
  have t2 : cur1.toList.drop (i + 1) = inner.drop i ++ cur.toList.drop (0 + (i + 1) + (inner.drop i).length) := by
    rw [h3, List.append_assoc]
    exact List.drop_left' (by rw [List.length_take, Array.length_toList, hcs]; omega)
  rw [Nat.zero_add, List.length_singleton] at h6
  have hfin := cells_in (c := c) hil hi t1 t2 h6
  refine ⟨⟨by simp; omega, .inr ⟨g, c, cur2, rfl, hB, h4, hnc, hcm, by rw [h5, h2, hcs]; omega, by rw [Nat.mul_one]; exact hfin⟩⟩, ?_⟩
  have a1 := setCells_same g (inner.drop i) (0 + (i + 1)) w
  have a2 := setCells_same g [y] (0 + i) (w.setCells g (0 + (i + 1)) (inner.drop i))
  exact ⟨a2.1.trans a1.1, a2.2.1.trans a1.2.1, a2.2.2.1.trans a1.2.2.1, by rw [a2.2.2.2, a1.2.2.2]; exact Nat.le_refl _, fun k _ hk => (setCells_far [y] _ k (fun he => hk (by rw [he]))).trans (setCells_far _ _ k (fun he => hk (by rw [he])))⟩
/-- A new row, as slices.Insert lays it where there is no room. -/
theorem own_anew {B n i G : Nat} {e : TypeId} {w : World} {inner : List Value} {y : Value} {Z1 Z2 : Array Value} (hB : B ≤ w.heap.size) (hil : inner.length = n) (hi : i < n) (hG : n + 1 ≤ G) (hGm : G ≤ maxLen) (hz1 : Z1.size = n + 1 - i) (hz2 : Z2.size = G - (n + 1)) :
    ((((w.alloc (.cells ((inner.take i).toArray ++ Z1 ++ Z2) e)).drew.setCells w.heap.size i [y]).drew).setCells w.heap.size (i + 1) (inner.drop i)).ownsRow B e 1 (.slice (some ⟨w.heap.size, 0, none⟩) (n + 1) G) (n + 1) (inner.take i ++ y :: inner.drop i) ∧
      w.grownBy ((((w.alloc (.cells ((inner.take i).toArray ++ Z1 ++ Z2) e)).drew.setCells w.heap.size i [y]).drew).setCells w.heap.size (i + 1) (inner.drop i)) none := by
  have hdl : (inner.drop i).length = n - i := by rw [List.length_drop, hil]
  have htl : (inner.take i).length = i := by rw [List.length_take, hil]; omega
  obtain ⟨cur, hcur⟩ : ∃ cur, cur = (inner.take i).toArray ++ Z1 ++ Z2 := ⟨_, rfl⟩
  have hcs : cur.size = G := by rw [hcur, Array.size_append, Array.size_append, List.size_toArray, htl, hz1, hz2]; omega
  have hct : cur.toList = inner.take i ++ (Z1.toList ++ Z2.toList) := by rw [hcur]; simp
  rw [← hcur]
  have hg : (w.alloc (.cells cur e)).drew.heap[w.heap.size]? = some (.cells cur e (0, 0)) := blk_drew (blk_new w _)
  obtain ⟨cur1, h1, h2, h3⟩ := setCells_row [y] i _ cur hg (by rw [hcs]; simp; omega)
  obtain ⟨cur2, h4, h5, h6⟩ := setCells_row (inner.drop i) (i + 1) _ cur1 (blk_drew h1) (by rw [h2, hcs, hdl]; omega)
  have t1 : cur.toList.take i = inner.take i := by rw [hct]; exact List.take_left' htl
  have t2 : cur1.toList.take (i + 1) = inner.take i ++ [y] := by
    rw [h3, t1]
    exact List.take_left' (by simp [htl])
  have t3 : cur2.toList.take (n + 1) = inner.take i ++ y :: inner.drop i := by
    rw [h6, t2, show inner.take i ++ [y] ++ inner.drop i = inner.take i ++ y :: inner.drop i from by simp]
    exact List.take_left' (by simp; omega)
  refine ⟨⟨by simp; omega, .inr ⟨w.heap.size, G, cur2, rfl, hB, h4, hG, hGm, by rw [h5, h2, hcs]; omega, by rw [Nat.mul_one]; exact t3⟩⟩, ?_⟩
  have a1 := setCells_same w.heap.size [y] i (w.alloc (.cells cur e)).drew
  have a2 := setCells_same w.heap.size (inner.drop i) (i + 1) ((w.alloc (.cells cur e)).drew.setCells w.heap.size i [y]).drew
  refine ⟨a2.1.trans a1.1, a2.2.1.trans a1.2.1, a2.2.2.1.trans a1.2.2.1, ?_, fun k hk _ => ?_⟩
  · rw [a2.2.2.2]
    show w.heap.size ≤ ((w.alloc (.cells cur e)).drew.setCells w.heap.size i [y]).heap.size
    rw [a1.2.2.2]
    show w.heap.size ≤ (w.alloc (.cells cur e)).heap.size
    simp
  · refine (setCells_far (inner.drop i) _ k (by omega)).trans ?_
    refine (setCells_far [y] (w := (w.alloc (.cells cur e)).drew) _ k (by omega)).trans ?_
    exact Below.heap_alloc w (.cells cur e) k hk
theorem ins_mid (A : Option Addr) (c n i : Nat) (xs : List Int) (y : Int) (vb base : Nat) (w : World) (hown : w.ownsRow base 3 1 (.slice A n c) n (nums .i64 xs)) (hy : w.heap[vb]? = some (.cells #[.int .i64 y] 3 (0, 0))) (hvb : some vb ≠ (Value.slice A n c).ownBlock) (hi : i < n) (hn : n ≤ 1000) (hb : base ≤ w.heap.size) :
    Calls Tryd.prog 39 #[.slice A n c, .int .i64 i, .slice (some ⟨vb, 0, none⟩) 1 1] w fun e w' => ∃ v', e = .returned v' ∧ w'.ownsRow base 3 1 v' (n + 1) (nums .i64 (xs.take i ++ y :: xs.drop i)) ∧ w.grownBy w' (Value.slice A n c).ownBlock ∧ (v'.ownBlock = (Value.slice A n c).ownBlock ∨ v'.ownBlock = some w.heap.size) := by
  obtain ⟨inner, hin⟩ : ∃ inner, inner = nums .i64 xs := ⟨_, rfl⟩
  have hone : ∀ v ∈ inner, v.oneCell' = true := by
    intro v hv
    rw [hin] at hv
    obtain ⟨x, _, rfl⟩ := List.mem_map.1 hv
    rfl
  have hnums : nums .i64 (xs.take i ++ y :: xs.drop i) = inner.take i ++ Value.int .i64 y :: inner.drop i := by rw [hin]; simp [nums, List.map_take, List.map_drop]
  rw [hnums]
  rw [← hin] at hown
  clear hin hnums
  obtain ⟨hil, ho⟩ := hown
  rw [Nat.mul_one] at hil
  obtain ⟨g, c', cur, hv, hB, hg, hnc, hcm, hcs, hct⟩ := ho.resolve_left (fun h => by have := h.2; omega)
  injection hv with hv1 hv2 hv3
  subst hv1 hv3
  have hgv : vb ≠ g := fun e => hvb (by rw [e]; rfl)
  have hcell : ∀ j v, inner[j]? = some v → w.cell? ⟨g, 0 + j, none⟩ = some v := fun t u hu => by
    rw [Nat.zero_add, blk_cell hg t, ← Array.getElem?_toList]
    rw [← hct, List.getElem?_take] at hu
    split at hu
    · exact hu
    · cases hu
  have hvs : ∀ j v, [Value.int .i64 y][j]? = some v → w.cell? ⟨vb, 0 + j, none⟩ = some v := fun j v h => by
    rw [Nat.zero_add, blk_cell hy j, ← Array.getElem?_toList]
    exact h
  have h1v : ∀ v ∈ [Value.int .i64 y], v.oneCell' = true := by intro v hv; rw [List.mem_singleton.1 hv]; rfl
  by_cases hroom : n + 1 ≤ c
  · refine (Any2.slices_Insert_int_shift Tryd.lays21 g 0 n c i vb 0 1 1 inner [.int .i64 y] w hi (by omega) hroom (by unfold maxLen at hcm; omega) hgv hil rfl hcell (fun j hj => ?_) (fun j hj => blk_frozen hg _) hvs hone h1v 3 3 1 c ?_ ?_ (by omega) (blk_frozen hy _) (blk_frozen hy _)).mono ?_
    · rw [blk_cell hg, Array.getElem?_eq_getElem (by rw [hcs]; omega)]; rfl
    · simp [World.shape?, hy]
    · simp [World.shape?, hg, hcs]
    · rintro e w' ⟨rfl, rfl⟩
      have hfin := own_in (w := w.drew) (y := Value.int .i64 y) hg hB hroom hcm hcs hct hi
      exact ⟨_, rfl, hfin.1, ⟨hfin.2.os, hfin.2.tape, hfin.2.output, hfin.2.size, hfin.2.block⟩, .inl rfl⟩
  · refine (Any2.slices_Insert_int_grow Tryd.lays21 g 0 n c i vb 0 1 1 inner [.int .i64 y] w hi (by omega) hnc (by omega) (by omega) hil rfl hcell hvs hone h1v).mono ?_
    rintro e w' ⟨rfl, rfl⟩
    have hfin := own_anew (y := Value.int .i64 y) (e := 3) (Z1 := Builtin.zeroCells (Value.int .i64 0).cells (n + 1 - i)) (Z2 := Builtin.zeroCells (Value.int .i64 0).cells (grownCap w (n + 1) c 3 - (n + 1))) hb hil hi (grownCap_ge w (n + 1) c 3) (grownCap_le_maxLen w (n + 1) c 3 (by unfold maxLen; omega)) (by simp [size_zeroCells, Value.cells]) (by simp [size_zeroCells, Value.cells])
    exact ⟨_, rfl, hfin.1, ⟨hfin.2.os, hfin.2.tape, hfin.2.output, hfin.2.size, fun k hk _ => hfin.2.block k hk (by simp)⟩, .inr rfl⟩

end Go.Proofs.YtdakcfacckmjcaaDoor.PDB
