/- Package active: attributes' rows; slices.Clone of them; items whose attributes can be read. -/
import Derived.Test.YtdheifnebkkjhaaAct4
namespace Go.Proofs.Ytdheifnebkkjhaa.Act
open Go.RowKit Go.Proofs.YtdheifnebkkjhaaW.PrintWords
set_option linter.unusedVariables false
set_option linter.unusedSimpArgs false

def prCells (p : ByteArray × ByteArray) : List Value := [.string p.1, .string p.2]
def flatPr (ys : List (ByteArray × ByteArray)) : List Value := ys.flatMap prCells
theorem flatPr_len (ys : List (ByteArray × ByteArray)) : (flatPr ys).length = ys.length * 2 := by
  induction ys with
  | nil => rfl
  | cons x t ih => simp only [flatPr, List.flatMap_cons, List.length_append, List.length_cons] at ih ⊢; rw [ih]; simp [prCells]; omega
theorem flatPr_get : ∀ (l : List (ByteArray × ByteArray)) (k j : Nat), j < 2 → k < l.length → (flatPr l)[k * 2 + j]? = (prCells (l.getD k (ByteArray.empty, ByteArray.empty)))[j]?
  | [], k, j, _, h => by simp at h
  | x :: r, 0, j, hj, _ => by
    simp only [flatPr, List.flatMap_cons]
    rw [List.getElem?_append_left (by simp [prCells]; omega)]
    simp
  | x :: r, k + 1, j, hj, h => by
    simp only [flatPr, List.flatMap_cons]
    rw [List.getElem?_append_right (by simp [prCells]; omega)]
    have e : (k + 1) * 2 + j - (prCells x).length = k * 2 + j := by simp [prCells]; omega
    have := flatPr_get r k j hj (by simpa using h)
    rw [e]
    simp only [flatPr] at this
    rw [this]
    simp
theorem infoPr : (Try.prog.info? 46).map (fun i => (i.zero, i.size, i.bytes)) = some (some (.agg #[.string ⟨#[]⟩, .string ⟨#[]⟩]), 2, 32) := by kernel_rfl
def RPr (w : World) (A : Option Addr) (n : Nat) (ys : List (ByteArray × ByteArray)) : Prop := ReadsRow (fun x cs => cs = prCells x) 2 w A n ys
theorem RPr.len {w : World} {A : Option Addr} {n : Nat} {xs : List (ByteArray × ByteArray)} (h : RPr w A n xs) : xs.length = n := h.1
theorem RPr.below {w W : World} {A : Option Addr} {n : Nat} {xs : List (ByteArray × ByteArray)} (h : RPr w A n xs) (hb : Below w.heap.size w W) : RPr W A n xs := ReadsRow.imp_ h hb (fun _ _ hp => hp)
theorem RPr.news {w : World} {ad : Addr} {n : Nat} {xs : List (ByteArray × ByteArray)} (h : RPr w (some ad) n xs) : ∀ j u, (flatPr xs)[j]? = some u → w.cell? (ad.add j) = some u := by
  intro j u hu
  have hl := h.len
  have hlt := (List.getElem?_eq_some_iff.1 hu).1
  rw [flatPr_len] at hlt
  have hk : j / 2 < n := by omega
  have e : j = j / 2 * 2 + j % 2 := by omega
  obtain ⟨ad', e', h2⟩ := h.2.2 (by omega)
  cases e'
  obtain ⟨c, hc, rfl, hcell⟩ := h2 (j / 2) (xs.getD (j / 2) (ByteArray.empty, ByteArray.empty)) (by rw [List.getD_eq_getElem?_getD, List.getElem?_eq_getElem (by omega)]; rfl)
  rw [e, flatPr_get xs (j / 2) (j % 2) (by omega) (by omega)] at hu
  rw [e]
  exact hcell (j % 2) u hu
theorem flatPr_one (xs : List (ByteArray × ByteArray)) : ∀ u ∈ flatPr xs, u.oneCell' = true := by
  intro u hu
  simp only [flatPr, List.mem_flatMap, prCells] at hu
  obtain ⟨x, _, hu⟩ := hu
  simp only [List.mem_cons, List.mem_nil_iff, or_false] at hu
  rcases hu with rfl | rfl <;> rfl
theorem repsPr (xs : List (ByteArray × ByteArray)) : Reps (fun x cs => cs = prCells x) 2 xs (flatPr xs) := by
  refine ⟨flatPr_len xs, fun j p hj => ?_⟩
  obtain ⟨hjl, hje⟩ := List.getElem?_eq_some_iff.1 hj
  refine List.ext_getElem? fun i => ?_
  rw [List.getElem?_take, List.getElem?_drop]
  split
  · next hi =>
    rw [flatPr_get xs j i hi hjl, List.getD_eq_getElem?_getD, hj]
    rfl
  · next hi => rw [List.getElem?_eq_none (by simp [prCells]; omega)]
theorem repsIt (xs : List It) : Reps (fun x cs => cs = itCells x) 3 xs (flatIt xs) := by
  refine ⟨flatIt_len xs, fun j p hj => ?_⟩
  obtain ⟨hjl, hje⟩ := List.getElem?_eq_some_iff.1 hj
  refine List.ext_getElem? fun i => ?_
  rw [List.getElem?_take, List.getElem?_drop]
  split
  · next hi =>
    rw [flatIt_get xs j i hi hjl, List.getD_eq_getElem?_getD, hj]
    rfl
  · next hi => rw [List.getElem?_eq_none (by simp [itCells]; omega)]
/-- An own row of items is a row that is read. -/
theorem OIt.reads {w : World} {base : Nat} {v : Value} {xs : List It} (h : OIt w base v xs) : ∃ A c, v = .slice A xs.length c ∧ RIt w A xs.length xs := own_reads_row h (repsIt xs) rfl

set_option maxRecDepth 100000 in
set_option maxHeartbeats 2000000 in
theorem cloneP_any (A : Option Addr) (n c : Nat) (xs : List (ByteArray × ByteArray)) (w : World) (hr : RPr w A n xs) (hn : n ≤ 4398046511104) :
    Calls Try.prog 17 #[.slice A n c] w fun e w' => ∃ v, e = .returned v ∧ w'.ownsRow w.heap.size 46 2 v n (flatPr xs) ∧ Below w.heap.size w w' := by
  obtain ⟨i0, hi, hz0, hz1, hz2⟩ := info_parts infoPr
  have hl := hr.len
  have heq := fun W : World => Lib.run_eql_slice_nil (P := Try.prog) W 24 46 A n c 0 0 Try.underlying24
  cases A with
  | none =>
    have h0 : xs = [] := by
      rcases Nat.eq_zero_or_pos n with h | h
      · exact List.eq_nil_of_length_eq_zero (by omega)
      · obtain ⟨ad, h, _⟩ := hr.2.2 h; cases h
    subst h0
    have h0 : n = 0 := hl.symm
    subst h0
    clear hr
    go_enter Try.func17, Try.ntmps17
    go_wp2_with fail
    go_ret
    exact ⟨_, rfl, own_nil _ _ _ _, Below.refl _ _⟩
  | some ad =>
    have HR := Lib.hid hr
    have hlen := flatPr_len xs
    clear hr
    go_enter Try.func17, Try.ntmps17
    have hown : (w.alloc (.cells #[] 46)).ownsRow w.heap.size 46 2 (.slice (some ⟨w.heap.size, 0, none⟩) 0 0) 0 [] := World.ownsRow_lit w #[] 0 (Nat.le_refl _) (by decide) (by simp)
    go_wp2_with ((at_builtin; refine wpList_append_own_at _ rfl _ _ 24 rfl w.heap.size 46 i0 (.agg #[.string ⟨#[]⟩, .string ⟨#[]⟩]) 2 32 Try.underlying24 hi hz0 hz1 hz2 rfl (by decide) _ 0 [] rfl hown ad n c (flatPr xs) rfl (by rw [hlen, hl]) ((HR.out.below ((Below.refl _ w).alloc (Nat.le_refl _) _)).news) (flatPr_one xs) (by unfold maxLen; omega) (by omega) (by simp) ?c1))
    case c1 =>
      intro v1 w1 hown1 hg _ _
      have HO : Hid (w1.ownsRow w.heap.size 46 2 v1 n (flatPr xs)) := Lib.hid (by simpa using hown1)
      have HB : Hid (Below w.heap.size w w1) := Lib.hid (((Below.refl _ w).alloc (Nat.le_refl _) _).grown hg (by simp) (own_base hown))
      clear hown1 hg hown
      go_wp2_with fail
      go_ret
      exact ⟨_, rfl, HO.out, HB.out⟩

/-- An item's attributes can be read. -/
def RA (w : World) (x : It) : Prop := x.n ≤ 4398046511104 ∧ ∃ ys, RPr w x.A x.n ys
theorem RA.below {w W : World} {x : It} (h : RA w x) (hb : Below w.heap.size w W) : RA W x := ⟨h.1, h.2.elim fun ys hy => ⟨ys, hy.below hb⟩⟩
theorem RA.nil (w : World) (nd : Int) (nm : ByteArray) (c : Nat) : RA w ⟨nd, nm, none, 0, c⟩ := ⟨Nat.zero_le _, [], rfl, Nat.zero_le _, fun h => absurd h (Nat.lt_irrefl _)⟩
theorem add_blk (ad : Addr) (k : Nat) : (ad.add k).block = ad.block := by unfold Addr.add; split <;> rfl
/-- Where but one block has turned. -/
theorem RA.grown {w W : World} {x : It} {g : Option Nat} (h : RA w x) (hg : w.grownBy W g) (hne : ∀ ad, x.A = some ad → 0 < x.n → some ad.block ≠ g) : RA W x := by
  obtain ⟨hn, ys, h1, h2, h3⟩ := h
  refine ⟨hn, ys, h1, h2, fun h0 => ?_⟩
  obtain ⟨ad, e, hc⟩ := h3 h0
  refine ⟨ad, e, fun j p hj => ?_⟩
  obtain ⟨c, hs, hr, hcell⟩ := hc j p hj
  refine ⟨c, hs, hr, fun i u hu => ?_⟩
  have h := hcell i u hu
  have hlt : ad.block < w.heap.size := by
    rcases Nat.lt_or_ge ad.block w.heap.size with h' | h'
    · exact h'
    · rw [World.cell?, add_blk, Array.getElem?_eq_none h'] at h
      cases h
  have hbk : W.heap[(ad.add (j * 2 + i)).block]? = w.heap[(ad.add (j * 2 + i)).block]? := by rw [add_blk]; exact hg.block _ hlt (hne ad e h0)
  exact (World.cell?_of_block hbk).trans h
/-- Its block lies elsewhere. -/
def Far (v : Value) (x : It) : Prop := ∀ ad, x.A = some ad → 0 < x.n → some ad.block ≠ v.ownBlock
/-- An own row of items that can be read. -/
def LIt (w : World) (base : Nat) (v : Value) (xs : List It) : Prop := OIt w base v xs ∧ ∀ x ∈ xs, RA w x ∧ Far v x
/-- A row that came, and can be read. -/
def VIt (w : World) (v : Value) (xs : List It) : Prop := (∃ A c, v = .slice A xs.length c ∧ RIt w A xs.length xs) ∧ ∀ x ∈ xs, RA w x
theorem LIt.view {w : World} {base : Nat} {v : Value} {xs : List It} (h : LIt w base v xs) : VIt w v xs := ⟨h.1.reads, fun x hx => (h.2 x hx).1⟩
theorem VIt.below {w W : World} {v : Value} {xs : List It} (h : VIt w v xs) (hb : Below w.heap.size w W) : VIt W v xs := by
  obtain ⟨⟨A, c, e, hr⟩, ha⟩ := h
  exact ⟨⟨A, c, e, hr.below hb⟩, fun x hx => (ha x hx).below hb⟩
theorem LIt.below {w W : World} {base : Nat} {v : Value} {xs : List It} (h : LIt w base v xs) (hb : Below w.heap.size w W) : LIt W base v xs := ⟨pw_own_below h.1 hb, fun x hx => ⟨((h.2 x hx).1).below hb, (h.2 x hx).2⟩⟩
/-- What of an item counts. -/
def sk (x : It) : Int × ByteArray × Nat := (x.node, x.name, x.n)
/-- One cell of a row of one's own written. -/
theorem own_set1 {B g n c k sz : Nat} {e : TypeId} {w : World} {inner : List Value} (v : Value) (h : w.ownsRow B e sz (.slice (some ⟨g, 0, none⟩) n c) n inner) :
    (w.setCell ⟨g, k, none⟩ v).ownsRow B e sz (.slice (some ⟨g, 0, none⟩) n c) n (inner.set k v) ∧ w.grownBy (w.setCell ⟨g, k, none⟩ v) (some g) := by
  obtain ⟨hl, h | ⟨g', cap, cur, hv, hb, hg, h1, h2, h3, h4⟩⟩ := h
  · exact absurd h.1 (by simp)
  · injection hv with e1 e2 e3
    injection e1 with e1
    injection e1 with e1
    subst e1 e3
    refine ⟨⟨by simp [hl], .inr ⟨g, c, _, rfl, hb, blk_set hg k v, h1, h2, by simpa using h3, ?_⟩⟩, ⟨rfl, rfl, rfl, by simp [World.setCell], fun j _ hj => by simp only [World.setCell, Array.getElem?_modify]; rw [if_neg (fun he => hj (by rw [← he]))]⟩⟩
    simp [List.take_set, h4]
theorem flatIt_set : ∀ (l : List It) (k : Nat) (A : Option Addr) (n c : Nat), k < l.length → (flatIt l).set (k * 3 + 2) (.slice A n c) = flatIt (l.set k ⟨(l.getD k zIt).node, (l.getD k zIt).name, A, n, c⟩)
  | [], k, A, n, c, h => by simp at h
  | x :: r, 0, A, n, c, _ => by simp [flatIt, itCells]
  | x :: r, k + 1, A, n, c, h => by
    have ih := flatIt_set r k A n c (by simpa using h)
    simp only [flatIt, List.flatMap_cons, List.set_cons_succ, List.getD_cons_succ] at ih ⊢
    rw [← ih, List.set_append_right _ _ (by simp [itCells]; omega)]
    congr 2
    simp [itCells]
    omega
theorem OIt.put {w : World} {B g c k n' c' : Nat} {A' : Option Addr} {xs : List It} (h : OIt w B (.slice (some ⟨g, 0, none⟩) xs.length c) xs) (hk : k < xs.length) :
    OIt (w.setCell ⟨g, k * 3 + 2, none⟩ (.slice A' n' c')) B (.slice (some ⟨g, 0, none⟩) xs.length c) (xs.set k ⟨(xs.getD k zIt).node, (xs.getD k zIt).name, A', n', c'⟩) ∧ w.grownBy (w.setCell ⟨g, k * 3 + 2, none⟩ (.slice A' n' c')) (some g) := by
  have := own_set1 (k := k * 3 + 2) (.slice A' n' c') h
  refine ⟨?_, this.2⟩
  unfold OIt
  rw [← flatIt_set xs k A' n' c' hk, List.length_set]
  exact this.1
end Go.Proofs.Ytdheifnebkkjhaa.Act
