-- printed by wip/tools/pr.py (own) through the kit's printer; texts GIVEN by hand stand among them
import Derived.Test.YtdakcfacckmjcaaDoorPDBx0
import Derived.Test.YtdakcfacckmjcaaDoorPDBx1
import Derived.Test.YtdakcfacckmjcaaDoorPDBx5
import Derived.Test.YtdakcfacckmjcaaDoorPDBx6
namespace Go.Proofs.YtdakcfacckmjcaaDoor.PDB
open Go.RowKit Go.Proofs.YtdakcfacckmjcaaDoorW.PrintWords Go.Proofs.YtdakcfacckmjcaaDoorW.PrintLast Go.Proofs.YtdakcfacckmjcaaDoorW.PrintMore
attribute [local go_sem] max2_int min2_int max_two min_two max_three min_three max_four min_four   -- for this text's walks alone
set_option linter.unusedVariables false
set_option linter.unusedSimpArgs false

/-! ### dom_editor_insert: function 27 -/
/-- A node's row of kids is written anew. -/
theorem ed_kids {B gr n c i : Nat} {wx : World} {l : List S41} {xi : S41} {v5 : Value} (hS : Kd.S k41 41 wx B (fun _ => True) (.slice (some ⟨gr, 0, none⟩) n c) l) (hi : i < n) (hxi : l[i]? = some xi) (hv5 : wx.cell? ⟨gr, i * 6 + 5, none⟩ = some v5) :
    wx.ownsRow B 3 1 v5 xi.f5.length (nums .i64 xi.f5) ∧ ∀ (W W4 : World) (v' : Value) (ks : List Int), Below wx.heap.size wx W → W.grownBy W4 v5.ownBlock → W4.ownsRow B 3 1 v' ks.length (nums .i64 ks) → (v'.ownBlock = v5.ownBlock ∨ v'.ownBlock = some W.heap.size) → v'.oneCell' = true →
      Kd.S k41 41 (W4.setCell ⟨gr, i * 6 + 5, none⟩ v') B (fun _ => True) (.slice (some ⟨gr, 0, none⟩) n c) (l.set i ⟨xi.f0, xi.f1, xi.f2, xi.f3, xi.f4, ks⟩) := by
  have hS2 : Kd.S k41 41 wx B (fun j => True ∧ ¬ wx.heap.size ≤ j) (.slice (some ⟨gr, 0, none⟩) n c) l := Kd.S_mono (Kd.S_bound hS) (fun j hj => ⟨trivial, by have := hj.2.2.1; omega⟩)
  obtain ⟨oki, cc, hcl, hM, hcc, hfr, hoki, hH⟩ := Kd.S_elem hS2 z41 (i : Int) (by omega) (by omega)
  rw [show l.getD (i : Int).toNat z41 = xi from by rw [Int.toNat_natCast, List.getD_eq_getElem?_getD, hxi]; rfl] at hM
  obtain ⟨v2, v5', hcs, hR2, hR5⟩ := k41_openM hM
  subst hcs
  have e5 : wx.cell? ⟨gr, i * 6 + 5, none⟩ = some v5' := hcc 5 _ rfl
  obtain rfl : v5' = v5 := by rw [e5] at hv5; exact Option.some.inj hv5
  have hgt := Kd.S_typed hS gr (by simp [Value.ownBlock])
  refine ⟨Kd.own_of_R hR5, fun W W4 v' ks hb hg ho hat hone => ?_⟩
  have hgr4 : gr < wx.heap.size := blk_lt hgt.choose_spec
  have hok5 : ∀ k, v5'.ownBlock = some k → oki k ∧ k < wx.heap.size ∧ k ≠ gr := fun k hk => ⟨hR5.1 k hk, own_lt (Kd.own_of_R hR5) k hk, (hoki k (hR5.1 k hk)).2⟩
  have hH4 := Kd.H_grown (Kd.H_below (Kd.H_more hH (fun j hj => trivial)) hb) hg (fun k hk => .inl (hok5 k hk).1)
  have h2 := (Kd.H_seg hH4 (by omega) (by omega) (seg := [v']) (j := 5) (by show 5 + 1 ≤ 6; decide) (by simpa using hone)).1
  have h3 : Kd.H k41 41 (W4.setCell ⟨gr, i * 6 + 5, none⟩ v') B (fun _ => True) (.slice (some ⟨gr, 0, none⟩) n c) l (i : Int) (fun j => oki j ∨ wx.heap.size ≤ j) [.int .i64 xi.f0, .string xi.f1, v2, .string xi.f3, .int .i64 xi.f4, v'] := h2
  have hR2t := Kd.R_tight rfl hR2
  have hne2 : ∀ k, some k = v2.ownBlock → some k ≠ v5'.ownBlock ∧ k ≠ gr ∧ oki k := fun k hk => by
    obtain ⟨cs2, ht2⟩ := Kd.R_typed hR2 k hk.symm
    refine ⟨fun he => ?_, (hoki k (hR2.1 k hk.symm)).2, hR2.1 k hk.symm⟩
    obtain ⟨cs5, ht5⟩ := Kd.R_typed hR5 k he.symm
    exact blk_ne ht2 ht5 (by decide) rfl
  have hR2' := Kd.R_far (Kd.R_step (Kd.R_below hR2t hb) (fun k hk hlt => hg.block k hlt (hne2 k hk).1)) (p := ⟨gr, i * 6 + 5, none⟩) (fun k hk => (hne2 k hk).2.1) v'
  have hv' : ∀ k, v'.ownBlock = some k → (oki k ∨ wx.heap.size ≤ k) ∧ k ≠ gr := fun k hk => by
    rcases hat with h | h
    · obtain ⟨h1, h2, h3⟩ := hok5 k (h ▸ hk)
      exact ⟨.inl h1, h3⟩
    · rw [h] at hk
      injection hk with hk
      have := hb.size
      exact ⟨.inr (by omega), by omega⟩
  have hR5' : (Kd.int .i64).R 3 (W4.setCell ⟨gr, i * 6 + 5, none⟩ v') B (fun k => oki k ∨ wx.heap.size ≤ k) v' ks :=
    Kd.R_of_own (own_setCell ho (fun he => (hv' gr he.symm).2 rfl) v') (fun k hk => (hv' k hk).1)
  have h4 := Kd.H_back h3 (x' := ⟨xi.f0, xi.f1, xi.f2, xi.f3, xi.f4, ks⟩) (okp := fun j => oki j ∨ wx.heap.size ≤ j) (k41_mkM _ _ _ ⟨xi.f0, xi.f1, xi.f2, xi.f3, xi.f4, ks⟩ (Kd.R_mono hR2' (fun k hk => .inl (hne2 k hk).2.2)) hR5') (fun j hj => hj)
  rw [Int.toNat_natCast] at h4
  exact h4
/-- A node's parent is set. -/
theorem ed_parent {B gr n c j : Nat} {W : World} {l : List S41} {xj : S41} (hS : Kd.S k41 41 W B (fun _ => True) (.slice (some ⟨gr, 0, none⟩) n c) l) (hj : j < n) (hxj : l[j]? = some xj) (p : Int) :
    Kd.S k41 41 (W.setCell ⟨gr, j * 6 + 4, none⟩ (.int .i64 p)) B (fun _ => True) (.slice (some ⟨gr, 0, none⟩) n c) (l.set j ⟨xj.f0, xj.f1, xj.f2, xj.f3, p, xj.f5⟩) := by
  obtain ⟨oki, cc, hcl, hM, hcc, hfr, hoki, hH⟩ := Kd.S_elem hS z41 (j : Int) (by omega) (by omega)
  rw [show l.getD (j : Int).toNat z41 = xj from by rw [Int.toNat_natCast, List.getD_eq_getElem?_getD, hxj]; rfl] at hM
  obtain ⟨v2, v5, hcs, hR2, hR5⟩ := k41_openM hM
  subst hcs
  have h2 := (Kd.H_seg hH (by omega) (by omega) (seg := [.int .i64 p]) (j := 4) (by show 4 + 1 ≤ 6; decide) (by simp [Value.oneCell'])).1
  have h3 : Kd.H k41 41 (W.setCell ⟨gr, j * 6 + 4, none⟩ (.int .i64 p)) B (fun _ => True) (.slice (some ⟨gr, 0, none⟩) n c) l (j : Int) oki [.int .i64 xj.f0, .string xj.f1, v2, .string xj.f3, .int .i64 p, v5] := h2
  have hne : ∀ k, oki k → k ≠ gr := fun k hk => (hoki k hk).2
  have h4 := Kd.H_back h3 (x' := ⟨xj.f0, xj.f1, xj.f2, xj.f3, p, xj.f5⟩) (okp := oki) (k41_mkM _ _ _ ⟨xj.f0, xj.f1, xj.f2, xj.f3, p, xj.f5⟩ (Kd.R_far hR2 (p := ⟨gr, j * 6 + 4, none⟩) hne _) (Kd.R_far hR5 (p := ⟨gr, j * 6 + 4, none⟩) hne _)) (fun k hk => hk)
  rw [Int.toNat_natCast] at h4
  exact h4
/-- What a walk through insert reads. -/
structure InsR (W : World) (b gr n c wb : Nat) (l : List S41) (q : Bool) (made : Int) (i j be : Int) (ii : Nat) (v5 : Value) : Prop where
  blk : W.heap[b]? = some (.cells #[.slice (some ⟨gr, 0, none⟩) n c, .bool q, .int .i64 made] 37 (0, 0))
  at1 : W.cell? ⟨wb, 1, none⟩ = some (.int .i64 i)
  to1 : W.cell? ⟨wb, 2, none⟩ = some (.int .i64 j)
  be1 : W.cell? ⟨wb, 3, none⟩ = some (.int .i64 be)
  row : Kd.C k41 W (some ⟨gr, 0, none⟩) n l
  k5 : W.cell? ⟨gr, ii * 6 + 5, none⟩ = some v5
theorem InsR.on {W W' : World} {b gr n c wb : Nat} {l : List S41} {q : Bool} {made : Int} {i j be : Int} {ii : Nat} {v5 : Value} (h : InsR W b gr n c wb l q made i j be ii v5) (hb : Below W.heap.size W W') : InsR W' b gr n c wb l q made i j be ii v5 :=
  ⟨blk_below h.blk hb, pw_cell_below hb h.at1, pw_cell_below hb h.to1, pw_cell_below hb h.be1, Kd.C_below h.row hb, pw_cell_below hb h.k5⟩
/-- What lies ready behind slices.Insert. -/
structure InsF (w0 W w : World) (b gr n c i j : Nat) (q : Bool) (made p4 e1 : Int) (v5 v' : Value) (l : List S41) : Prop where
  below : Below w0.heap.size w0 W
  blk : W.heap[b]? = some (.cells #[.slice (some ⟨gr, 0, none⟩) n c, .bool q, .int .i64 made] 37 (0, 0))
  c5 : W.cell? ⟨gr, i * 6 + 5, none⟩ = some v5
  c4 : W.cell? ⟨gr, j * 6 + 4, none⟩ = some (.int .i64 p4)
  f5 : W.frozen? ⟨gr, i * 6 + 5, none⟩ = false
  f4 : W.frozen? ⟨gr, j * 6 + 4, none⟩ = false
  at1 : W.cell? ⟨w.heap.size, 1, none⟩ = some (.int .i64 e1)
  row : Kd.S k41 41 (W.setCell ⟨gr, i * 6 + 5, none⟩ v') w0.heap.size (fun _ => True) (.slice (some ⟨gr, 0, none⟩) n c) l
set_option maxRecDepth 100000 in
set_option maxHeartbeats 4000000 in
theorem insert_nil (e : S43) (A8 A11 : Option Addr) (n8 n11 c8 c11 : Nat) (l : List S41) (q : Bool) (made : Int) (b : Nat) (p1 p2 : Option Addr) (w0 w : World) (hw : Below w0.heap.size w0 w) (hE : Ed w w0.heap.size b l q made)
    (h1 : ∀ W : World, Below w.heap.size w W → Calls Tryd.prog 35 #[.pointer (some ⟨b, 0, none⟩), .int .i64 e.f1] W fun u w' => u = .returned (.pointer p1) ∧ W = w')
    (h2 : ∀ W : World, Below w.heap.size w W → Calls Tryd.prog 35 #[.pointer (some ⟨b, 0, none⟩), .int .i64 e.f2] W fun u w' => u = .returned (.pointer p2) ∧ W = w')
    (hp : p1 = none ∨ ((∃ a, p1 = some a) ∧ p2 = none)) :
    Calls Tryd.prog 27 #[.pointer (some ⟨b, 0, none⟩), editV e A8 A11 n8 n11 c8 c11] w fun u w' => u = .returned (.int .i64 5) ∧ Ed w' w0.heap.size b l q made ∧ Below w0.heap.size w0 w' := by
  have HE : Hid (∀ W : World, Below w.heap.size w W → Ed W w0.heap.size b l q made ∧ Below w0.heap.size w0 W) := Lib.hid (fun W h => ⟨hE.below h, hw.trans (h.mono hw.size)⟩)
  have HBx := Lib.hid ((Below.refl _ w).alloc (Nat.le_refl _) (.cells #[.int .i64 e.f0, .int .i64 e.f1, .int .i64 e.f2, .int .i64 e.f3, .string e.f4, .string e.f5, .int .i64 e.f6.f0, .string e.f6.f1, .slice A8 n8 c8, .string e.f6.f3, .int .i64 e.f6.f4, .slice A11 n11 c11] 43))
  have HNi : Hid (∀ W : World, Below w.heap.size w W → ∀ m, Calls Tryd.prog 35 #[.pointer (some ⟨b, 0, none⟩), .int .i64 e.f1] (W.drewN m) fun u w' => u = .returned (.pointer p1) ∧ ∃ m', w' = W.drewN m') :=
    Lib.hid (fun W h m => (h1 _ (pw_below_drewN h m)).mono fun e w' ⟨h1, h2⟩ => ⟨h1, m, h2.symm⟩)
  have HNj : Hid (∀ W : World, Below w.heap.size w W → ∀ m, Calls Tryd.prog 35 #[.pointer (some ⟨b, 0, none⟩), .int .i64 e.f2] (W.drewN m) fun u w' => u = .returned (.pointer p2) ∧ ∃ m', w' = W.drewN m') :=
    Lib.hid (fun W h m => (h2 _ (pw_below_drewN h m)).mono fun e w' ⟨h1, h2⟩ => ⟨h1, m, h2.symm⟩)
  clear hw hE h1 h2
  unfold editV
  rcases hp with rfl | ⟨⟨a, rfl⟩, rfl⟩
  all_goals
    go_enter Tryd.func27, Tryd.ntmps27
    go_upto_region 1 with fail
    go_quiet ((go_at_call 35; first | with_reducible exact HNi.out _ HBx.out _ | with_reducible exact HNj.out _ HBx.out _))
    go_upto_region 2 with fail
    have HBn := Lib.hid (pw_below_drewN HBx.out nq)
    generalize (World.drewN _ nq) = w1 at HBn ⊢
    go_wp2_with fail
    go_ret
    exact ⟨rfl, HE.out _ HBn.out⟩
set_option maxRecDepth 100000 in
set_option maxHeartbeats 4000000 in
theorem insert_kind (e : S43) (A8 A11 : Option Addr) (n8 n11 c8 c11 : Nat) (l : List S41) (q : Bool) (made : Int) (b i j : Nat) (xi xj : S41) (r : Int) (w0 w : World) (hw : Below w0.heap.size w0 w) (hE : Ed w w0.heap.size b l q made)
    (hi : (i : Int) = e.f1) (hj : (j : Int) = e.f2) (hxi : l[i]? = some xi) (hxj : l[j]? = some xj)
    (hr : (dom_parent.f xi.f0 = some false ∧ r = 7) ∨ (dom_parent.f xi.f0 = some true ∧ xj.f0 = 1 ∧ r = 7) ∨ (dom_parent.f xi.f0 = some true ∧ xj.f0 ≠ 1 ∧ xi.f0 = 1 ∧ xj.f0 = 3 ∧ r = 7) ∨ (dom_parent.f xi.f0 = some true ∧ xj.f0 ≠ 1 ∧ ¬ (xi.f0 = 1 ∧ xj.f0 = 3) ∧ 0 ≤ xj.f4 ∧ r = 9)) :
    Calls Tryd.prog 27 #[.pointer (some ⟨b, 0, none⟩), editV e A8 A11 n8 n11 c8 c11] w fun u w' => u = .returned (.int .i64 r) ∧ Ed w' w0.heap.size b l q made ∧ Below w0.heap.size w0 w' := by
  obtain ⟨A, c, hB, hblk, hS⟩ := ed_open hE
  have hil : i < l.length := (List.getElem?_eq_some_iff.1 hxi).1
  have hjl : j < l.length := (List.getElem?_eq_some_iff.1 hxj).1
  obtain ⟨n, hn⟩ : ∃ n, n = l.length := ⟨_, rfl⟩
  rw [← hn] at hblk hS hil hjl
  obtain ⟨gr, cap, hv, hbr, hgr, cells, hty⟩ := Kd.S_form hS (by omega)
  injection hv with hA hn' hc'
  subst hA
  clear hn' hc'
  have HE : Hid (∀ W : World, Below w.heap.size w W → Ed W w0.heap.size b l q made ∧ Below w0.heap.size w0 W) := Lib.hid (fun W h => ⟨hE.below h, hw.trans (h.mono hw.size)⟩)
  have HC : Hid (∀ W : World, Below w.heap.size w W → W.cell? ⟨b, 0, none⟩ = some (.slice (some ⟨gr, 0, none⟩) n c)) := Lib.hid (fun W h => pw_cell_below h ((blk_cell hblk 0).trans rfl))
  have HBx := Lib.hid ((Below.refl _ w).alloc (Nat.le_refl _) (.cells #[.int .i64 e.f0, .int .i64 e.f1, .int .i64 e.f2, .int .i64 e.f3, .string e.f4, .string e.f5, .int .i64 e.f6.f0, .string e.f6.f1, .slice A8 n8 c8, .string e.f6.f3, .int .i64 e.f6.f4, .slice A11 n11 c11] 43))
  have HNi : Hid (∀ W : World, Below w.heap.size w W → ∀ m, Calls Tryd.prog 35 #[.pointer (some ⟨b, 0, none⟩), .int .i64 e.f1] (W.drewN m) fun u w' => u = .returned (.pointer (some ⟨gr, i * 6, none⟩)) ∧ ∃ m', w' = W.drewN m') :=
    Lib.hid (by rw [← hi]; exact fun W h m => (dom_editor_node.in_ b gr n c i (W.drewN m) (HC.out _ (pw_below_drewN h m)) hil).mono fun e w' ⟨h1, h2⟩ => ⟨h1, m, h2.symm⟩)
  have HNj : Hid (∀ W : World, Below w.heap.size w W → ∀ m, Calls Tryd.prog 35 #[.pointer (some ⟨b, 0, none⟩), .int .i64 e.f2] (W.drewN m) fun u w' => u = .returned (.pointer (some ⟨gr, j * 6, none⟩)) ∧ ∃ m', w' = W.drewN m') :=
    Lib.hid (by rw [← hj]; exact fun W h m => (dom_editor_node.in_ b gr n c j (W.drewN m) (HC.out _ (pw_below_drewN h m)) hjl).mono fun e w' ⟨h1, h2⟩ => ⟨h1, m, h2.symm⟩)
  obtain ⟨hn2, hnc, hrow⟩ := Kd.S_reads' hS
  have hri : rd_T41 l (i : Int) = xi := by unfold rd_T41; rw [Int.toNat_natCast, List.getD_eq_getElem?_getD, hxi]; rfl
  have hrj : rd_T41 l (j : Int) = xj := by unfold rd_T41; rw [Int.toNat_natCast, List.getD_eq_getElem?_getD, hxj]; rfl
  obtain ⟨adi, A2i, c2i, A5, c5, ei, i0, -⟩ := at_T41 hrow (i : Int) (by omega) (by omega)
  cases ei
  rw [hri] at i0
  obtain ⟨adj, A2j, c2j, A5j, c5j, ej, j0, -, -, -, j4, -⟩ := at_T41 hrow (j : Int) (by omega) (by omega)
  cases ej
  rw [hrj] at j0 j4
  have i0' : w.cell? ⟨gr, i * 6, none⟩ = some (.int .i64 xi.f0) := by simpa [add_at] using i0
  have j0' : w.cell? ⟨gr, j * 6, none⟩ = some (.int .i64 xj.f0) := by simpa [add_at] using j0
  have j4' : w.cell? ⟨gr, j * 6 + 4, none⟩ = some (.int .i64 xj.f4) := by simpa [add_at] using j4
  have HK : Hid (∀ W : World, Below w.heap.size w W → W.cell? ⟨gr, i * 6, none⟩ = some (.int .i64 xi.f0) ∧ W.cell? ⟨gr, j * 6, none⟩ = some (.int .i64 xj.f0) ∧ W.cell? ⟨gr, j * 6 + 4, none⟩ = some (.int .i64 xj.f4)) :=
    Lib.hid (fun W h => ⟨pw_cell_below h i0', pw_cell_below h j0', pw_cell_below h j4'⟩)
  obtain ⟨pb, HPa, hcase⟩ : ∃ pb, Hid (∀ W : World, Calls Tryd.prog 29 #[.int .i64 xi.f0] W fun u w' => u = .returned (.bool pb) ∧ Below W.heap.size W w') ∧
      ((pb = false ∧ r = 7) ∨ (pb = true ∧ (xj.f0 == 1) = true ∧ r = 7) ∨ (pb = true ∧ (xj.f0 == 1) = false ∧ (xi.f0 == 1) = true ∧ (xj.f0 == 3) = true ∧ r = 7) ∨ (pb = true ∧ (xj.f0 == 1) = false ∧ (xi.f0 == 1) = false ∧ decide (xj.f4 ≥ 0) = true ∧ decide (0 ≤ xj.f4) = true ∧ r = 9) ∨ (pb = true ∧ (xj.f0 == 1) = false ∧ (xi.f0 == 1) = true ∧ (xj.f0 == 3) = false ∧ decide (xj.f4 ≥ 0) = true ∧ decide (0 ≤ xj.f4) = true ∧ r = 9)) := by
    have hP : ∀ pb, dom_parent.f xi.f0 = some pb → Hid (∀ W : World, Calls Tryd.prog 29 #[.int .i64 xi.f0] W fun u w' => u = .returned (.bool pb) ∧ Below W.heap.size W w') := fun pb h => Lib.hid (fun W => (dom_parent.calls xi.f0 pb W h).mono fun u w' ⟨h1, h2⟩ => ⟨h1, by obtain ⟨m, hm⟩ := h2.out; rw [hm]; exact pw_below_drewN (Below.refl _ _) m⟩)
    rcases hr with ⟨h1, h2⟩ | ⟨h1, h2, h3⟩ | ⟨h1, h2, h3, h4, h5⟩ | ⟨h1, h2, h3, h4, h5⟩
    · exact ⟨false, hP _ h1, .inl ⟨rfl, h2⟩⟩
    · exact ⟨true, hP _ h1, .inr (.inl ⟨rfl, by simpa using h2, h3⟩)⟩
    · exact ⟨true, hP _ h1, .inr (.inr (.inl ⟨rfl, by simpa using h2, by simpa using h3, by simpa using h4, h5⟩))⟩
    · by_cases h6 : xi.f0 = 1
      · exact ⟨true, hP _ h1, .inr (.inr (.inr (.inr ⟨rfl, by simpa using h2, by simpa using h6, by simpa using fun h => h3 ⟨h6, h⟩, decide_eq_true h4, decide_eq_true h4, h5⟩)))⟩
      · exact ⟨true, hP _ h1, .inr (.inr (.inr (.inl ⟨rfl, by simpa using h2, by simpa using h6, decide_eq_true h4, decide_eq_true h4, h5⟩)))⟩
  clear hr hE hw hB hblk hS hil hjl hn hty hgr hbr hn2 hnc hrow hri hrj i0 j0 j4 i0' j0' j4' hi hj hxi hxj HC
  unfold editV
  rcases hcase with ⟨rfl, rfl⟩ | ⟨rfl, z1, rfl⟩ | ⟨rfl, z1, z2, z3, rfl⟩ | ⟨rfl, z1, z2, z3, z4, rfl⟩ | ⟨rfl, z1, z2, z3, z4, z5, rfl⟩
  all_goals
    go_enter Tryd.func27, Tryd.ntmps27
    go_upto_region 1 with fail
    go_quiet ((go_at_call 35; first | with_reducible exact HNi.out _ HBx.out _ | with_reducible exact HNj.out _ HBx.out _))
    go_upto_region 2 with fail
    have HBn := Lib.hid (pw_below_drewN HBx.out nq)
    generalize (World.drewN _ nq) = w1 at HBn ⊢
    obtain ⟨k0, k1, k4⟩ := HK.out _ HBn.out
    go_wp2_with fail
    refine (HPa.out w1).mono ?_
    rintro u w2 ⟨rfl, hb2⟩
    have HB2 := Lib.hid (HBn.out.trans (hb2.mono HBn.out.size))
    obtain ⟨y0, y1, y4⟩ := HK.out _ HB2.out
    clear k0 k1 k4 hb2
    go_wp2_with fail
    go_ret
    exact ⟨rfl, HE.out _ HB2.out⟩
/-- The place in a row of kids. -/
def placeF (k : Nat) (ks : List Int) (be : Int) : Option Int := if be = -1 then some (ks.length : Int) else slices_Index_int_int.f k ks be
theorem belowF_ne {l : List S41} {k : Nat} {i j : Int} (h0 : 0 ≤ i) (h : belowF l k i j = some false) : i ≠ j := by
  rintro rfl
  cases k with
  | zero => simp [belowF] at h
  | succ k => simp [belowF, h0] at h
theorem ins_any (A : Option Addr) (c n i : Nat) (xs : List Int) (y : Int) (vb base : Nat) (w : World) (hown : w.ownsRow base 3 1 (.slice A n c) n (nums .i64 xs)) (hy : w.heap[vb]? = some (.cells #[.int .i64 y] 3 (0, 0))) (hvb : some vb ≠ (Value.slice A n c).ownBlock) (hi : i ≤ n) (hn : n ≤ 1000) (hb : base ≤ w.heap.size) :
    Calls Tryd.prog 39 #[.slice A n c, .int .i64 i, .slice (some ⟨vb, 0, none⟩) 1 1] w fun e w' => ∃ v', e = .returned v' ∧ w'.ownsRow base 3 1 v' (n + 1) (nums .i64 (xs.take i ++ y :: xs.drop i)) ∧ w.grownBy w' (Value.slice A n c).ownBlock ∧ (v'.ownBlock = (Value.slice A n c).ownBlock ∨ v'.ownBlock = some w.heap.size) := by
  by_cases h : i < n
  · exact ins_mid A c n i xs y vb base w hown hy hvb h hn hb
  · have e : i = n := by omega
    have hl : xs.length = n := by have := hown.1; simpa [nums] using this
    rw [e, List.take_of_length_le (by omega), List.drop_of_length_le (by omega)]
    exact ins_end A c n xs ⟨vb, 0, none⟩ y base w hown ((blk_cell hy 0).trans rfl) hn hb
set_option maxRecDepth 100000 in
set_option maxHeartbeats 4000000 in
theorem insert_rest (k : Nat) (e : S43) (A8 A11 : Option Addr) (n8 n11 c8 c11 : Nat) (l : List S41) (q : Bool) (made : Int) (b i j : Nat) (xi xj : S41) (p : Int) (bb : Bool) (r : Int) (l' : List S41) (w0 w : World) (hw : Below w0.heap.size w0 w) (hE : Ed w w0.heap.size b l q made)
    (hi : (i : Int) = e.f1) (hj : (j : Int) = e.f2) (hxi : l[i]? = some xi) (hxj : l[j]? = some xj)
    (hpa : dom_parent.f xi.f0 = some true) (hto : xj.f0 ≠ 1) (htx : ¬ (xi.f0 = 1 ∧ xj.f0 = 3)) (hpj : xj.f4 < 0) (hlk : xi.f5.length ≤ 1000) (hpl : placeF k xi.f5 e.f3 = some p)
    (hout : (p < 0 ∧ r = 5 ∧ l' = l) ∨ (0 ≤ p ∧ belowF l k i j = some bb ∧ ((bb = true ∧ r = 8 ∧ l' = l) ∨ (bb = false ∧ ∃ u dp, dom_up.f k l q i = some u ∧ deepF l k j = some dp ∧ ((40 < wrap64 (wrap64 (u + 1) + dp) ∧ r = 2 ∧ l' = l) ∨ (wrap64 (wrap64 (u + 1) + dp) ≤ 40 ∧ p ≤ (xi.f5.length : Int) ∧ r = 0 ∧ l' = (l.set i ⟨xi.f0, xi.f1, xi.f2, xi.f3, xi.f4, xi.f5.take p.toNat ++ (j : Int) :: xi.f5.drop p.toNat⟩).set j ⟨xj.f0, xj.f1, xj.f2, xj.f3, i, xj.f5⟩)))))) :
    Calls Tryd.prog 27 #[.pointer (some ⟨b, 0, none⟩), editV e A8 A11 n8 n11 c8 c11] w fun u w' => u = .returned (.int .i64 r) ∧ Ed w' w0.heap.size b l' q made ∧ Below w0.heap.size w0 w' := by
  obtain ⟨A, c, hBb, hblk, hS⟩ := ed_open hE
  have hil : i < l.length := (List.getElem?_eq_some_iff.1 hxi).1
  have hjl : j < l.length := (List.getElem?_eq_some_iff.1 hxj).1
  obtain ⟨n, hn⟩ : ∃ n, n = l.length := ⟨_, rfl⟩
  rw [← hn] at hblk hS hil hjl
  obtain ⟨gr, cap, hv, hbr, hgr, cells, hty⟩ := Kd.S_form hS (by omega)
  injection hv with hA hn' hc'
  subst hA
  clear hn' hc'
  obtain ⟨hn2, hnc, hrow0⟩ := Kd.S_reads' hS
  have hrow : Kd.C k41 w (some ⟨gr, 0, none⟩) n l := by rw [hn2]; exact hrow0
  have hgb : gr ≠ b := fun he => blk_ne hty hblk (by decide) he
  have hgrB : w0.heap.size ≤ gr := Kd.S_base hS gr (by simp [Value.ownBlock])
  have hgrw : gr < w.heap.size := Kd.S_lt hS gr (by simp [Value.ownBlock])
  have HE : Hid (∀ W : World, Below w.heap.size w W → Ed W w0.heap.size b l q made ∧ Below w0.heap.size w0 W) := Lib.hid (fun W h => ⟨hE.below h, hw.trans (h.mono hw.size)⟩)
  have HS := Lib.hid hS
  have HXi := Lib.hid hxi
  have HXj := Lib.hid hxj
  have HW := Lib.hid hw
  have HBb := Lib.hid hBb
  have HLk := Lib.hid hlk
  have HC : Hid (∀ W : World, Below w.heap.size w W → W.cell? ⟨b, 0, none⟩ = some (.slice (some ⟨gr, 0, none⟩) n c)) := Lib.hid (fun W h => pw_cell_below h ((blk_cell hblk 0).trans rfl))
  have HNi : Hid (∀ W : World, Below w.heap.size w W → ∀ m, Calls Tryd.prog 35 #[.pointer (some ⟨b, 0, none⟩), .int .i64 e.f1] (W.drewN m) fun u w' => u = .returned (.pointer (some ⟨gr, i * 6, none⟩)) ∧ ∃ m', w' = W.drewN m') :=
    Lib.hid (by rw [← hi]; exact fun W h m => (dom_editor_node.in_ b gr n c i (W.drewN m) (HC.out _ (pw_below_drewN h m)) hil).mono fun e w' ⟨h1, h2⟩ => ⟨h1, m, h2.symm⟩)
  have HNj : Hid (∀ W : World, Below w.heap.size w W → ∀ m, Calls Tryd.prog 35 #[.pointer (some ⟨b, 0, none⟩), .int .i64 e.f2] (W.drewN m) fun u w' => u = .returned (.pointer (some ⟨gr, j * 6, none⟩)) ∧ ∃ m', w' = W.drewN m') :=
    Lib.hid (by rw [← hj]; exact fun W h m => (dom_editor_node.in_ b gr n c j (W.drewN m) (HC.out _ (pw_below_drewN h m)) hjl).mono fun e w' ⟨h1, h2⟩ => ⟨h1, m, h2.symm⟩)
  have hri : rd_T41 l (i : Int) = xi := by unfold rd_T41; rw [Int.toNat_natCast, List.getD_eq_getElem?_getD, hxi]; rfl
  have hrj : rd_T41 l (j : Int) = xj := by unfold rd_T41; rw [Int.toNat_natCast, List.getD_eq_getElem?_getD, hxj]; rfl
  obtain ⟨adi, A2i, c2i, A5, c5, ei, i0, -, -, -, -, i5, -, -, h5l, h5⟩ := at_T41 hrow (i : Int) (by omega) (by omega)
  cases ei
  rw [hri] at i0 i5 h5l h5
  obtain ⟨adj, A2j, c2j, A5j, c5j, ej, j0, -, -, -, j4, -, -, -, -, -⟩ := at_T41 hrow (j : Int) (by omega) (by omega)
  cases ej
  rw [hrj] at j0 j4
  have HIx : Hid (e.f3 ≠ -1 → ∀ W : World, Below w.heap.size w W → Calls Tryd.prog 36 #[.slice A5 xi.f5.length c5, .int .i64 e.f3] W fun u w' => u = .returned (.int .i64 p) ∧ ∃ m, w' = W.drewN m) :=
    Lib.hid (fun hne W h => (slices_Index_int_int.calls k A5 c5 xi.f5 e.f3 p W (Kd.C_below h5 h) h5l (by unfold placeF at hpl; rw [if_neg hne] at hpl; exact hpl)).mono fun u w' ⟨h1, h2⟩ => ⟨h1, h2.out⟩)
  have HPn : e.f3 = -1 → p = (xi.f5.length : Int) := fun he => by unfold placeF at hpl; rw [if_pos he] at hpl; exact (Option.some.inj hpl).symm
  obtain ⟨ni, hni⟩ : ∃ ni, ni = xi.f5.length := ⟨_, rfl⟩
  rw [← hni] at i5 HIx HPn
  have hk5w : w.cell? ⟨gr, i * 6 + 5, none⟩ = some (.slice A5 ni c5) := by simpa [add_at] using i5
  have HOw := Lib.hid (ed_kids HS.out hil hxi hk5w).1
  clear hk5w
  have i0' : w.cell? ⟨gr, i * 6, none⟩ = some (.int .i64 xi.f0) := by simpa [add_at] using i0
  have j0' : w.cell? ⟨gr, j * 6, none⟩ = some (.int .i64 xj.f0) := by simpa [add_at] using j0
  have j4' : w.cell? ⟨gr, j * 6 + 4, none⟩ = some (.int .i64 xj.f4) := by simpa [add_at] using j4
  have i5' : w.cell? ⟨gr, i * 6 + 5, none⟩ = some (.slice A5 ni c5) := by simpa [add_at] using i5
  have HR1 : Hid (∀ W1 : World, (w.alloc (.cells #[.int .i64 e.f0, .int .i64 e.f1, .int .i64 e.f2, .int .i64 e.f3, .string e.f4, .string e.f5, .int .i64 e.f6.f0, .string e.f6.f1, .slice A8 n8 c8, .string e.f6.f3, .int .i64 e.f6.f4, .slice A11 n11 c11] 43)) = W1 → ∀ m, Below w.heap.size w (W1.drewN m) ∧ InsR (W1.drewN m) b gr n c w.heap.size l q made e.f1 e.f2 e.f3 i (.slice A5 ni c5) ∧ (W1.drewN m).cell? ⟨gr, i * 6, none⟩ = some (.int .i64 xi.f0) ∧ (W1.drewN m).cell? ⟨gr, j * 6, none⟩ = some (.int .i64 xj.f0) ∧ (W1.drewN m).cell? ⟨gr, j * 6 + 4, none⟩ = some (.int .i64 xj.f4)) :=
    Lib.hid (fun W1 h m => by
      subst h
      have hb : Below w.heap.size w ((w.alloc (.cells #[.int .i64 e.f0, .int .i64 e.f1, .int .i64 e.f2, .int .i64 e.f3, .string e.f4, .string e.f5, .int .i64 e.f6.f0, .string e.f6.f1, .slice A8 n8 c8, .string e.f6.f3, .int .i64 e.f6.f4, .slice A11 n11 c11] 43)).drewN m) := pw_below_drewN (below_alloc (Below.refl _ _) _) m
      have hbx := blk_drewN (blk_new w (.cells #[.int .i64 e.f0, .int .i64 e.f1, .int .i64 e.f2, .int .i64 e.f3, .string e.f4, .string e.f5, .int .i64 e.f6.f0, .string e.f6.f1, .slice A8 n8 c8, .string e.f6.f3, .int .i64 e.f6.f4, .slice A11 n11 c11] 43)) m
      exact ⟨hb, ⟨blk_below hblk hb, (blk_cell hbx 1).trans rfl, (blk_cell hbx 2).trans rfl, (blk_cell hbx 3).trans rfl, Kd.C_below hrow hb, pw_cell_below hb i5'⟩, pw_cell_below hb i0', pw_cell_below hb j0', pw_cell_below hb j4'⟩)
  have HK0 : Hid (∀ W : World, Below w.heap.size w W → W.cell? ⟨gr, i * 6, none⟩ = some (.int .i64 xi.f0) ∧ W.cell? ⟨gr, j * 6, none⟩ = some (.int .i64 xj.f0) ∧ W.cell? ⟨gr, j * 6 + 4, none⟩ = some (.int .i64 xj.f4)) := Lib.hid (fun W h => ⟨pw_cell_below h i0', pw_cell_below h j0', pw_cell_below h j4'⟩)
  have HBx : Hid (Below w.heap.size w (w.alloc (.cells #[.int .i64 e.f0, .int .i64 e.f1, .int .i64 e.f2, .int .i64 e.f3, .string e.f4, .string e.f5, .int .i64 e.f6.f0, .string e.f6.f1, .slice A8 n8 c8, .string e.f6.f3, .int .i64 e.f6.f4, .slice A11 n11 c11] 43))) := Lib.hid (below_alloc (Below.refl _ _) _)
  have HPa : Hid (∀ W : World, Calls Tryd.prog 29 #[.int .i64 xi.f0] W fun u w' => u = .returned (.bool true) ∧ ∃ m, w' = W.drewN m) := Lib.hid (fun W => (dom_parent.calls xi.f0 true W hpa).mono fun u w' ⟨h1, h2⟩ => ⟨h1, h2.out⟩)
  have HBe : Hid (belowF l k i j = some bb → ∀ W : World, W.cell? ⟨b, 0, none⟩ = some (.slice (some ⟨gr, 0, none⟩) n c) → Kd.C k41 W (some ⟨gr, 0, none⟩) n l → Calls Tryd.prog 37 #[.pointer (some ⟨b, 0, none⟩), .int .i64 e.f1, .int .i64 e.f2] W fun e w' => e = .returned (.bool bb) ∧ W = w') :=
    Lib.hid (by rw [hn, ← hi, ← hj]; exact fun hbel W h1 h2 => below_calls k b c _ l i j bb W h1 h2 hbel)
  have HDe : Hid (∀ dp, deepF l k j = some dp → ∀ W : World, W.cell? ⟨b, 0, none⟩ = some (.slice (some ⟨gr, 0, none⟩) n c) → Kd.C k41 W (some ⟨gr, 0, none⟩) n l → Calls Tryd.prog 38 #[.pointer (some ⟨b, 0, none⟩), .int .i64 e.f2] W fun e w' => e = .returned (.int .i64 dp) ∧ W = w') :=
    Lib.hid (by rw [hn, ← hj]; exact fun dp hdp W h1 h2 => deep_calls b c _ l W h1 h2 k j dp hdp)
  have HUe : Hid (∀ u, dom_up.f k l q i = some u → ∀ W : World, Kd.C k41 W (some ⟨gr, 0, none⟩) n l → Calls Tryd.prog 15 #[.agg #[.slice (some ⟨gr, 0, none⟩) n c, .bool q], .int .i64 e.f1] W fun e w' => e = .returned (.int .i64 u) ∧ Below W.heap.size W w') :=
    Lib.hid (by rw [hn, ← hi]; rw [hn] at hnc; exact fun u hup W h2 => dom_up.calls k _ c l q i u W h2 hnc hup)
  have htob : (xj.f0 == 1) = false := by simpa using hto
  have hcase : ((xi.f0 == 1) = true ∧ (xj.f0 == 3) = false) ∨ (xi.f0 == 1) = false := by
    by_cases h1 : xi.f0 = 1
    · exact .inl ⟨by simpa using h1, by simpa using fun h => htx ⟨h1, h⟩⟩
    · exact .inr (by simpa using h1)
  have hp4 : decide (0 ≤ xj.f4) = false := decide_eq_false (by omega)
  have hp5 : decide (xj.f4 ≥ 0) = false := decide_eq_false (by omega)
  have HNI := Lib.hid hni
  have HOut := Lib.hid hout
  have HPN := Lib.hid HPn
  have HN := Lib.hid hn
  have HI := Lib.hid hi
  have HJ := Lib.hid hj
  have hbe : e.f3 = -1 ∨ ((e.f3 != -1) = true ∧ (e.f3 == -1) = false) := by
    by_cases h : e.f3 = -1
    · exact .inl h
    · exact .inr ⟨by simpa using h, by simpa using h⟩
  clear HPn hpa hto htx hpj hpl hout hni hn hblk hrow hrow0 hxi hxj i0 i5 h5l h5 j0 j4 hri hrj i0' i5' j0' j4' hE hw hS hBb hlk hn2 hi hj cells hty hgr hbr hnc
  unfold editV
  have hbe : ((e.f3 != -1) = false ∧ (e.f3 == -1) = true ∧ p = (ni : Int)) ∨ ((e.f3 != -1) = true ∧ (e.f3 == -1) = false ∧ e.f3 ≠ -1) := by
    rcases hbe with h | ⟨h, h2⟩
    · exact .inl ⟨by simpa using h, by simpa using h, HPN.out h⟩
    · exact .inr ⟨h, h2, by simpa using h⟩
  rcases hbe with ⟨hbe, hbe2, hpn⟩ | ⟨hbe, hbe2, hbe3⟩ <;> rcases hcase with ⟨hk1, hk3⟩ | hk1
  all_goals
    go_enter Tryd.func27, Tryd.ntmps27
    go_upto_region 1 with fail
    go_quiet ((go_at_call 35; first | with_reducible exact HNi.out _ HBx.out _ | with_reducible exact HNj.out _ HBx.out _))
    go_upto_region 2 with fail
    obtain ⟨hb1, hI1, k0, k1, k4⟩ := HR1.out _ rfl nq
    generalize (World.drewN _ nq) = w1 at hb1 hI1 k0 k1 k4 ⊢
    clear HR1 HNi HNj HBx HPN
    have HB1 := Lib.hid hb1
    have HI1 := Lib.hid hI1
    have b0 := (blk_cell hI1.blk 0).trans rfl
    have x1 := hI1.at1
    have x2 := hI1.to1
    have x3 := hI1.be1
    have x5 := hI1.k5
    clear hb1 hI1
    go_wp2_with fail
    refine (HPa.out w1).mono ?_
    rintro u w' ⟨rfl, m1, rfl⟩
    have hI2 := HI1.out.on (pw_below_drewN (Below.refl w1.heap.size w1) m1)
    have hB2 : Below w.heap.size w (w1.drewN m1) := pw_below_drewN HB1.out m1
    generalize w1.drewN m1 = w2 at hI2 hB2 ⊢
    clear HI1 HB1 b0 x1 x2 x3 x5 k0 k1 k4 HPa
    have HI2 := Lib.hid hI2
    have HB2 := Lib.hid hB2
    clear hI2 hB2
    first
    | (have HIy : Hid (∀ m, Calls Tryd.prog 36 #[.slice A5 ni c5, .int .i64 e.f3] (w2.drewN m) fun u w' => u = .returned (.int .i64 p) ∧ ∃ m', w' = w2.drewN m') :=
         Lib.hid (fun m => (HIx.out hbe3 _ (pw_below_drewN HB2.out m)).mono fun u w' ⟨h1, m2, h2⟩ => ⟨h1, m + m2, by rw [h2]; simp [World.drewN, Nat.add_assoc]⟩)
       have x3 := HI2.out.be1
       have x5 := HI2.out.k5
       have b0 := (blk_cell HI2.out.blk 0).trans rfl
       obtain ⟨k0, k1, k4⟩ := HK0.out w2 HB2.out
       clear HIx
       go_upto_region 10 with fail
       go_quiet ((go_at_call 36; with_reducible exact HIy.out _))
       have hI3 := HI2.out.on (pw_below_drewN (Below.refl w2.heap.size w2) nq)
       have hB3 : Below w.heap.size w (w2.drewN nq) := pw_below_drewN HB2.out nq
       clear HI2 HB2 HIy b0 x3 x5 k0 k1 k4
       generalize w2.drewN nq = w3 at hI3 hB3 ⊢)
    | (have hI3 := HI2.out
       have hB3 := HB2.out
       clear HI2 HB2 HIx
       generalize w2 = w3 at hI3 hB3 ⊢)
    have HI3 := Lib.hid hI3
    have HB3 := Lib.hid hB3
    clear hI3 hB3
    have x1 := HI3.out.at1
    have x2 := HI3.out.to1
    have x3 := HI3.out.be1
    have x5 := HI3.out.k5
    have b0 := (blk_cell HI3.out.blk 0).trans rfl
    obtain ⟨k0, k1, k4⟩ := HK0.out w3 HB3.out
    have HK4 : Hid (∀ W : World, Below w.heap.size w W → W.cell? ⟨gr, j * 6 + 4, none⟩ = some (.int .i64 xj.f4)) := Lib.hid (fun W h => (HK0.out W h).2.2)
    clear HK0
    rcases HOut.out with ⟨hp, rfl, rfl⟩ | ⟨hp, hbl, ho⟩
    · first
        | exact absurd hp (by omega)
        | (have hpb : decide (p < 0) = true := decide_eq_true hp
           go_wp2_with fail
           go_ret
           exact ⟨rfl, HE.out _ HB3.out⟩)
    · have hpb : decide (p < 0) = false := decide_eq_false (by omega)
      have hnb : decide ((ni : Int) < 0) = false := decide_eq_false (by omega)
      clear HOut
      go_wp2_with fail
      refine (HBe.out hbl w3 b0 HI3.out.row).mono ?_
      rintro u w' ⟨rfl, rfl⟩
      rcases ho with ⟨rfl, rfl, rfl⟩ | ⟨rfl, u, dp, hup, hdp, ho⟩
      · go_wp2_with fail
        go_ret
        exact ⟨rfl, HE.out _ HB3.out⟩
      · go_upto_region 15 with fail
        clear b0 x1 x2 x3 x5 k0 k1 k4 HBe
        have HX : Hid (∀ W : World, Below w3.heap.size w3 W → W.cell? ⟨b, 0, none⟩ = some (.slice (some ⟨gr, 0, none⟩) n c) ∧ W.cell? ⟨b, 1, none⟩ = some (.bool q) ∧ W.cell? ⟨w.heap.size, 1, none⟩ = some (.int .i64 e.f1) ∧ W.cell? ⟨w.heap.size, 2, none⟩ = some (.int .i64 e.f2)) :=
          Lib.hid (fun W h => ⟨(blk_cell (HI3.out.on h).blk 0).trans rfl, (blk_cell (HI3.out.on h).blk 1).trans rfl, (HI3.out.on h).at1, (HI3.out.on h).to1⟩)
        have HU2 : Hid (∀ W : World, Below w3.heap.size w3 W → Calls Tryd.prog 15 #[.agg #[.slice (some ⟨gr, 0, none⟩) n c, .bool q], .int .i64 e.f1] W fun e w' => e = .returned (.int .i64 u) ∧ Below w3.heap.size w3 w') :=
          Lib.hid (fun W h => (HUe.out u hup W (HI3.out.on h).row).mono fun e w' ⟨h1, h2⟩ => ⟨h1, h.trans (h2.mono h.size)⟩)
        have HD2 : Hid (∀ W : World, Below w3.heap.size w3 W → Calls Tryd.prog 38 #[.pointer (some ⟨b, 0, none⟩), .int .i64 e.f2] W fun e w' => e = .returned (.int .i64 dp) ∧ W = w') :=
          Lib.hid (fun W h => HDe.out dp hdp W (HX.out W h).1 (HI3.out.on h).row)
        have HBel := Lib.hid hbl
        clear HUe HDe hup hdp hbl
        obtain ⟨s1, hw1⟩ : ∃ s1, IntKind.i64.wrap (u + 1) = s1 := ⟨_, rfl⟩
        obtain ⟨s2, hw2⟩ : ∃ s2, IntKind.i64.wrap (s1 + dp) = s2 := ⟨_, rfl⟩
        have hs2 : wrap64 (wrap64 (u + 1) + dp) = s2 := by rw [← hw2, ← hw1, IntWalk.i64_left, IntWalk.i64_left]
        rw [hs2] at ho
        clear hs2
        obtain ⟨bq, hbq⟩ : ∃ bq, decide (40 < s2) = bq := ⟨_, rfl⟩
        have HO := Lib.hid ho
        clear ho
        go_cut [82] (fun s82 wx => s82 = .bool bq ∧ Hid (Below w3.heap.size w3 wx))
        case first =>
          go_region_held3 (fun W => W.cell? ⟨b, 0, none⟩ = some (.slice (some ⟨gr, 0, none⟩) n c) ∧ W.cell? ⟨b, 1, none⟩ = some (.bool q) ∧ W.cell? ⟨w.heap.size, 1, none⟩ = some (.int .i64 e.f1) ∧ W.cell? ⟨w.heap.size, 2, none⟩ = some (.int .i64 e.f2)) (first | exact HX.out _ (by (repeat (first | refine below_drew ?_)); first | exact hb3 | exact Below.refl _ _) | go_keep)
            (first | (with_reducible refine (HU2.out _ ?_).mono ?_; ((repeat (first | refine below_drew ?_)); exact Below.refl _ _); rintro e w3 ⟨rfl, hb3⟩) | (with_reducible refine (HD2.out _ ?_).mono ?_; ((repeat (first | refine below_drew ?_)); first | exact hb3 | exact Below.refl _ _); rintro e w' ⟨rfl, rfl⟩))
          all_goals (go_wp2_with fail; go_meet; exact ⟨rfl, Lib.hid hb3⟩)
        case rest =>
          obtain ⟨rfl, HBx⟩ := hcut
          rename_i wc hcw
          clear hw1 hw2
          rcases HO.out with ⟨h40, rfl, rfl⟩ | ⟨h40, hpl, rfl, rfl⟩
          · obtain rfl : bq = true := by rw [← hbq]; exact decide_eq_true h40
            go_wp2_with fail
            go_ret
            exact ⟨rfl, HE.out _ (HB3.out.trans (HBx.out.mono HB3.out.size))⟩
          · obtain rfl : bq = false := by rw [← hbq]; exact decide_eq_false (Int.not_lt.2 h40)
            clear hbq
            have hij : i ≠ j := fun h => belowF_ne (Int.natCast_nonneg i) HBel.out (by rw [h])
            have HI4 := Lib.hid (HI3.out.on HBx.out)
            have HB4 : Hid (Below w.heap.size w wc) := Lib.hid (HB3.out.trans (HBx.out.mono HB3.out.size))
            clear HX HU2 HD2 HBx HI3 HB3 HO HBel
            have HP := Lib.hid (ed_kids (Kd.S_below HS.out HB4.out) hil HXi.out HI4.out.k5)
            obtain ⟨pn, rfl⟩ := Int.eq_ofNat_of_zero_le hp
            have HIn : Hid (∀ (x : Int) (W : World) (vb : Nat), x = (pn : Int) → Below wc.heap.size wc W → wc.heap.size ≤ vb → W.heap[vb]? = some (.cells #[.int .i64 e.f2] 3 (0, 0)) → Calls Tryd.prog 39 #[.slice A5 ni c5, .int .i64 x, .slice (some ⟨vb, 0, none⟩) 1 1] W fun u w' => ∃ A c', u = .returned (.slice A (ni + 1) c') ∧
                InsF w0 w' w b gr n c i j q made xj.f4 e.f1 (.slice A5 ni c5) (.slice A (ni + 1) c') (l.set i ⟨xi.f0, xi.f1, xi.f2, xi.f3, xi.f4, xi.f5.take pn ++ e.f2 :: xi.f5.drop pn⟩)) := Lib.hid (fun x W vb hx hb hvb hc => by
              subst hx
              have hni := HNI.out
              have hown := HP.out.1
              rw [← hni] at hown
              have hown' := pw_own_below hown hb
              have hB : w0.heap.size ≤ W.heap.size := Nat.le_trans (HW.out.trans (HB4.out.mono HW.out.size)).size hb.size
              obtain ⟨cells, hg0⟩ := Kd.S_typed (Kd.S_below HS.out HB4.out) gr (by simp [Value.ownBlock])
              have hn5 : ni ≤ 1000 := by have := HLk.out; omega
              refine (ins_any A5 c5 ni pn xi.f5 e.f2 vb w0.heap.size W hown' hc (fun he => by have := own_lt hown vb he.symm; omega) (by omega) hn5 hB).mono ?_
              rintro u w' ⟨v', rfl, ho, hg, hat⟩
              obtain ⟨A, c', rfl⟩ := own_slice ho
              have hgr := own_ne hown hg0 (by decide)
              have hgb4 : w'.heap[gr]? = wc.heap[gr]? := (hg.block gr (Nat.lt_of_lt_of_le (blk_lt hg0) hb.size) hgr).trans (hb.block gr (blk_lt hg0))
              have hbb4 := blk_grown (blk_below HI4.out.blk hb) hg (own_ne hown HI4.out.blk (by decide))
              have hxx : some w.heap.size ≠ (Value.slice A5 ni c5).ownBlock := fun he => by have := own_lt HOw.out _ he.symm; omega
              have hwl : w.heap.size < wc.heap.size := World.block_lt_of_cell? wc _ HI4.out.at1
              have hwb4 : w'.heap[w.heap.size]? = wc.heap[w.heap.size]? := (hg.block w.heap.size (Nat.lt_of_lt_of_le hwl hb.size) hxx).trans (hb.block _ hwl)
              have hgg : w'.heap[gr]? = some (.cells cells 41 (0, 0)) := hgb4.trans hg0
              have j4' := (HK4.out wc HB4.out)
              refine ⟨A, c', rfl, ⟨?_, hbb4, (World.cell?_of_block hgb4).trans HI4.out.k5, (World.cell?_of_block hgb4).trans j4', blk_frozen hgg _, blk_frozen hgg _, (World.cell?_of_block hwb4).trans HI4.out.at1, ?_⟩⟩
              · exact ((HW.out.trans (HB4.out.mono HW.out.size)).trans (hb.mono (HW.out.trans (HB4.out.mono HW.out.size)).size)).grown hg hB (own_base hown')
              · refine HP.out.2 W w' _ _ hb hg ?_ hat (by simp [Value.oneCell'])
                have e : (xi.f5.take pn ++ e.f2 :: xi.f5.drop pn).length = ni + 1 := by simp; omega
                rw [e]
                exact ho)
            have x5 := HI4.out.k5
            have x2 := HI4.out.to1
            have HX := Lib.hid (fun W (h : Below wc.heap.size wc W) => (⟨(HI4.out.on h).k5, (HI4.out.on h).to1⟩ : W.cell? ⟨gr, i * 6 + 5, none⟩ = some (.slice A5 ni c5) ∧ W.cell? ⟨w.heap.size, 2, none⟩ = some (.int .i64 e.f2)))
            have x5a := (HX.out _ (below_alloc (below_drew (Below.refl wc.heap.size wc)) (.cells #[.int .i64 e.f2] 3))).1
            have x5b := (HX.out _ (below_alloc (Below.refl wc.heap.size wc) (.cells #[.int .i64 e.f2] 3))).1
            have hlt17 : gr < wc.heap.size := World.block_lt_of_cell? wc _ x5
            have hne17 : gr ≠ wc.heap.size := by omega
            go_upto_region 17 with fail
            go_region_with (first | (with_reducible refine (HIn.out _ _ _ ?_ ?_ ?_ ?_).mono ?_; (first | rfl | exact hpn.symm); ((repeat (first | refine below_alloc ?_ _ | refine below_drew ?_)); exact Below.refl _ _); (first | exact Nat.le_refl _ | simp); (first | exact blk_new _ _ | exact blk_drew (blk_new _ _)); rintro e w4 ⟨A6, c6, rfl, hF⟩; have f1 := hF.c5; have f2 := hF.f5))
            all_goals
              have g1 : (w4.setCell ⟨gr, i * 6 + 5, none⟩ (.slice A6 (ni + 1) c6)).cell? ⟨w.heap.size, 1, none⟩ = some (.int .i64 e.f1) := (World.cell?_of_block (Below.heap_setCell w4 ⟨gr, i * 6 + 5, none⟩ _ w.heap.size (by show w.heap.size ≠ gr; omega))).trans hF.at1
              have g2 : (j * 6 + 4 = i * 6 + 5) = False := eq_false (by omega)
              have g3 := hF.c4
              have g4 := hF.f4
              have HF := Lib.hid hF
              clear hF x5 x2 x5a x5b f1 f2
              go_wp2_with fail
              go_ret
              rw [Int.toNat_natCast, HI.out, HJ.out]
              exact ⟨rfl, ⟨_, HBb.out, blk_far (blk_far HF.out.blk (Ne.symm hgb) _) (Ne.symm hgb) _, ed_parent HF.out.row hjl (by rw [List.getElem?_set_ne hij]; exact HXj.out) _⟩, (HF.out.below.setCell hgrB _).setCell hgrB _⟩
def insertF (k : Nat) (l : List S41) (q : Bool) (e : S43) : Option (Int × List S41) :=
  if (0 ≤ e.f1 ∧ e.f1 < (l.length : Int)) ∧ (0 ≤ e.f2 ∧ e.f2 < (l.length : Int)) then
    (dom_parent.f (rd_T41 l e.f1).f0).bind fun pb =>
      if pb = false ∨ (rd_T41 l e.f2).f0 = 1 ∨ ((rd_T41 l e.f1).f0 = 1 ∧ (rd_T41 l e.f2).f0 = 3) then some (7, l)
      else if 0 ≤ (rd_T41 l e.f2).f4 then some (9, l)
      else if (rd_T41 l e.f1).f5.length ≤ 1000 then
        (placeF k (rd_T41 l e.f1).f5 e.f3).bind fun p =>
          if p < 0 then some (5, l)
          else (belowF l k e.f1 e.f2).bind fun bb =>
            if bb = true then some (8, l)
            else (dom_up.f k l q e.f1).bind fun u => (deepF l k e.f2).bind fun dp =>
              if 40 < wrap64 (wrap64 (u + 1) + dp) then some (2, l)
              else if p ≤ ((rd_T41 l e.f1).f5.length : Int) then
                some (0, (l.set e.f1.toNat { rd_T41 l e.f1 with f5 := (rd_T41 l e.f1).f5.take p.toNat ++ e.f2 :: (rd_T41 l e.f1).f5.drop p.toNat }).set e.f2.toNat { rd_T41 l e.f2 with f4 := e.f1 })
              else none
      else none
  else some (5, l)
theorem insert_calls (k : Nat) (e : S43) (A8 A11 : Option Addr) (n8 n11 c8 c11 : Nat) (l : List S41) (q : Bool) (made : Int) (b : Nat) (r : Int) (l' : List S41) (w0 w : World) (hw : Below w0.heap.size w0 w) (hE : Ed w w0.heap.size b l q made) (h : insertF k l q e = some (r, l')) :
    Calls Tryd.prog 27 #[.pointer (some ⟨b, 0, none⟩), editV e A8 A11 n8 n11 c8 c11] w fun u w' => u = .returned (.int .i64 r) ∧ Ed w' w0.heap.size b l' q made ∧ Below w0.heap.size w0 w' := by
  unfold insertF at h
  split at h
  · rename_i hc
    obtain ⟨⟨a1, a2⟩, a3, a4⟩ := hc
    obtain ⟨i, hi⟩ : ∃ i : Nat, (i : Int) = e.f1 := ⟨e.f1.toNat, Int.toNat_of_nonneg a1⟩
    obtain ⟨j, hj⟩ : ∃ j : Nat, (j : Int) = e.f2 := ⟨e.f2.toNat, Int.toNat_of_nonneg a3⟩
    have hil : i < l.length := by omega
    have hjl : j < l.length := by omega
    have hxi : l[i]? = some (rd_T41 l e.f1) := by
      unfold rd_T41
      rw [← hi, Int.toNat_natCast, List.getD_eq_getElem?_getD, List.getElem?_eq_getElem hil]; rfl
    have hxj : l[j]? = some (rd_T41 l e.f2) := by
      unfold rd_T41
      rw [← hj, Int.toNat_natCast, List.getD_eq_getElem?_getD, List.getElem?_eq_getElem hjl]; rfl
    have hin : e.f1.toNat = i := by rw [← hi, Int.toNat_natCast]
    have hjn : e.f2.toNat = j := by rw [← hj, Int.toNat_natCast]
    rw [hin, hjn] at h
    generalize rd_T41 l e.f1 = xi at h hxi
    generalize rd_T41 l e.f2 = xj at h hxj
    obtain ⟨pb, hpb, h⟩ := Option.bind_eq_some_iff.1 h
    by_cases hk : pb = false ∨ xj.f0 = 1 ∨ (xi.f0 = 1 ∧ xj.f0 = 3)
    · rw [if_pos hk] at h
      obtain ⟨rfl, rfl⟩ : (7 : Int) = r ∧ l = l' := by simpa using h
      refine insert_kind e A8 A11 n8 n11 c8 c11 l q made b i j xi xj 7 w0 w hw hE hi hj hxi hxj ?_
      cases pb
      · exact .inl ⟨hpb, rfl⟩
      · by_cases h1 : xj.f0 = 1
        · exact .inr (.inl ⟨hpb, h1, rfl⟩)
        · have h2 : xi.f0 = 1 ∧ xj.f0 = 3 := by simpa [h1] using hk
          exact .inr (.inr (.inl ⟨hpb, h1, h2.1, h2.2, rfl⟩))
    rw [if_neg hk] at h
    have hp1 : pb = true := by cases pb with | true => rfl | false => exact absurd (.inl rfl) hk
    subst hp1
    have hk1 : xj.f0 ≠ 1 := fun h => hk (.inr (.inl h))
    have hk2 : ¬ (xi.f0 = 1 ∧ xj.f0 = 3) := fun h => hk (.inr (.inr h))
    by_cases h4 : 0 ≤ xj.f4
    · rw [if_pos h4] at h
      obtain ⟨rfl, rfl⟩ : (9 : Int) = r ∧ l = l' := by simpa using h
      exact insert_kind e A8 A11 n8 n11 c8 c11 l q made b i j xi xj 9 w0 w hw hE hi hj hxi hxj (.inr (.inr (.inr ⟨hpb, hk1, hk2, h4, rfl⟩)))
    rw [if_neg h4] at h
    by_cases h5 : xi.f5.length ≤ 1000
    · rw [if_pos h5] at h
      obtain ⟨p, hp, h⟩ := Option.bind_eq_some_iff.1 h
      have R := fun bb r l' ho => insert_rest k e A8 A11 n8 n11 c8 c11 l q made b i j xi xj p bb r l' w0 w hw hE hi hj hxi hxj hpb hk1 hk2 (by omega) h5 hp ho
      by_cases hpn : p < 0
      · rw [if_pos hpn] at h
        obtain ⟨rfl, rfl⟩ : (5 : Int) = r ∧ l = l' := by simpa using h
        exact R false 5 l (.inl ⟨hpn, rfl, rfl⟩)
      rw [if_neg hpn] at h
      obtain ⟨bb, hbb, h⟩ := Option.bind_eq_some_iff.1 h
      rw [← hi, ← hj] at hbb
      cases bb with
      | true =>
        obtain ⟨rfl, rfl⟩ : (8 : Int) = r ∧ l = l' := by simpa using h
        exact R true 8 l (.inr ⟨by omega, hbb, .inl ⟨rfl, rfl, rfl⟩⟩)
      | false =>
        rw [if_neg (by decide)] at h
        obtain ⟨u, hu, h⟩ := Option.bind_eq_some_iff.1 h
        obtain ⟨dp, hdp, h⟩ := Option.bind_eq_some_iff.1 h
        rw [← hi] at hu
        rw [← hj] at hdp
        by_cases h40 : 40 < wrap64 (wrap64 (u + 1) + dp)
        · rw [if_pos h40] at h
          obtain ⟨rfl, rfl⟩ : (2 : Int) = r ∧ l = l' := by simpa using h
          exact R false 2 l (.inr ⟨Int.not_lt.1 hpn, hbb, .inr ⟨rfl, u, dp, hu, hdp, .inl ⟨h40, rfl, rfl⟩⟩⟩)
        rw [if_neg h40] at h
        split at h
        · rename_i hle
          injection h with h
          injection h with h1 h2
          subst h1 h2
          refine R false 0 _ (.inr ⟨Int.not_lt.1 hpn, hbb, .inr ⟨rfl, u, dp, hu, hdp, .inr ⟨Int.not_lt.1 h40, hle, rfl, ?_⟩⟩⟩)
          rw [hi, hj]
        · exact absurd h (by simp)
    · rw [if_neg h5] at h
      exact absurd h (by simp)
  · rename_i hc
    obtain ⟨rfl, rfl⟩ : (5 : Int) = r ∧ l = l' := by simpa using h
    obtain ⟨A, c, hBb, hblk, hS⟩ := ed_open hE
    have HC : ∀ W : World, Below w.heap.size w W → W.cell? ⟨b, 0, none⟩ = some (.slice A l.length c) := fun W h => pw_cell_below h ((blk_cell hblk 0).trans rfl)
    have HN : ∀ x : Int, ∃ p, (∀ W : World, Below w.heap.size w W → Calls Tryd.prog 35 #[.pointer (some ⟨b, 0, none⟩), .int .i64 x] W fun u w' => u = .returned (.pointer p) ∧ W = w') ∧ ((0 ≤ x ∧ x < (l.length : Int)) → ∃ a, p = some a) ∧ (¬ (0 ≤ x ∧ x < (l.length : Int)) → p = none) := fun x => by
      by_cases hx : 0 ≤ x ∧ x < (l.length : Int)
      · obtain ⟨gr, cap, hv, -⟩ := Kd.S_form hS (by omega)
        injection hv with hA hn' hc'
        subst hA
        obtain ⟨i, hi⟩ : ∃ i : Nat, (i : Int) = x := ⟨x.toNat, Int.toNat_of_nonneg hx.1⟩
        refine ⟨some ⟨gr, i * 6, none⟩, fun W h => ?_, fun _ => ⟨_, rfl⟩, fun h => absurd hx h⟩
        rw [← hi]
        exact dom_editor_node.in_ b gr _ c i W (HC W h) (by omega)
      · exact ⟨none, fun W h => dom_editor_node.out_ b _ c A x W (HC W h) (by omega), fun h => absurd h hx, fun _ => rfl⟩
    obtain ⟨p1, q1, q2, q3⟩ := HN e.f1
    obtain ⟨p2, q4, q5, q6⟩ := HN e.f2
    refine insert_nil e A8 A11 n8 n11 c8 c11 l q made b p1 p2 w0 w hw hE q1 q4 ?_
    by_cases h1 : 0 ≤ e.f1 ∧ e.f1 < (l.length : Int)
    · exact .inr ⟨q2 h1, q6 (fun h2 => hc ⟨h1, h2⟩)⟩
    · exact .inl (q3 h1)

/-! ### slices_Delete_int_int: function 40 -/
/-- 'clear' of one element. -/
theorem run_clear_one {P : Program} (w : World) (t e ty : TypeId) (z : Value) (ht : P.underlying t = some (.slice e)) (hv : ∀ w, (zeroValue e).run P w = .ok z w) (h1 : ∀ u ∈ z.cells.toList, u.oneCell' = true) (b o c : Nat)
    (hc : ∀ j, j < z.cells.toList.length → (w.cell? ⟨b, o + j, none⟩).isSome = true) (hf : ∀ j, j < z.cells.toList.length → w.frozen? ⟨b, o + j, none⟩ = false) :
    (Builtin.clear_ #[t] ty #[.slice (some ⟨b, o, none⟩) 1 c]).run P w = .ok (.tuple #[]) (w.setCells b o z.cells.toList) := by
  have hzc : (Builtin.zeroCells z.cells 1).toList = z.cells.toList := by
    simp only [Builtin.zeroCells]
    apply List.ext_getElem
    · simp
    · intro i h1 h2
      have hi : i < z.cells.size := by simpa using h2
      simp [Nat.mod_eq_of_lt hi, hi]
  have hst := run_storeCells_cells (P := P) b o z.cells.toList 0 w (by simpa using hc) (by simpa using hf) h1
  simp only [Nat.add_zero] at hst
  simp [Builtin.clear_, run_underlying ht, hv, hzc, hst]
/-- A row of one's own, one element taken out of it. -/
theorem own_out {B g n c i sz : Nat} {e : TypeId} {w w0 : World} {inner zs : List Value} {cur : Array Value} (hg : w.heap[g]? = some (.cells cur e (0, 0))) (hB : B ≤ g) (hnc : n ≤ c) (hcm : c ≤ maxLen) (hcs : cur.size = c * sz) (hct : cur.toList.take (n * sz) = inner) (hi : i < n) (hz : zs.length = sz) :
    ((w.setCells g (i * sz) (inner.drop ((i + 1) * sz))).setCells g ((n - 1) * sz) zs).ownsRow B e sz (.slice (some ⟨g, 0, none⟩) (n - 1) c) (n - 1) (inner.take (i * sz) ++ inner.drop ((i + 1) * sz)) ∧ w.grownBy ((w.setCells g (i * sz) (inner.drop ((i + 1) * sz))).setCells g ((n - 1) * sz) zs) (some g) := by
  have hmul : n * sz ≤ c * sz := Nat.mul_le_mul_right _ hnc
  have hil : inner.length = n * sz := by rw [← hct, List.length_take, Array.length_toList, hcs]; omega
  have e1 : (i + 1) * sz = i * sz + sz := Nat.succ_mul i sz
  have hin : (i + 1) * sz ≤ n * sz := Nat.mul_le_mul_right _ hi
  have hn1 : (n - 1) * sz + sz = n * sz := by rw [← Nat.succ_mul]; congr 1; omega
  have hdl : (inner.drop ((i + 1) * sz)).length = n * sz - (i + 1) * sz := by rw [List.length_drop, hil]
  obtain ⟨cur1, h1, h2, h3⟩ := setCells_row (inner.drop ((i + 1) * sz)) (i * sz) w cur hg (by rw [hdl, hcs]; omega)
  obtain ⟨cur2, h4, h5, h6⟩ := setCells_row zs ((n - 1) * sz) _ cur1 h1 (by rw [h2, hz, hcs]; omega)
  have hlen : (inner.take (i * sz) ++ inner.drop ((i + 1) * sz)).length = (n - 1) * sz := by rw [List.length_append, List.length_take, hdl, hil]; omega
  refine ⟨⟨hlen, .inr ⟨g, c, cur2, rfl, hB, h4, by omega, hcm, by rw [h5, h2, hcs], ?_⟩⟩, ?_⟩
  · have ht : (cur.toList.take (i * sz)) = inner.take (i * sz) := by rw [← hct, List.take_take]; congr 1; omega
    rw [h6, List.append_assoc, List.take_append_of_le_length (by rw [List.length_take, Array.length_toList, h2, hcs]; omega), List.take_take, Nat.min_self, h3, ht]
    rw [List.take_append_of_le_length (by rw [hlen]; exact Nat.le_refl _), List.take_of_length_le (by rw [hlen]; exact Nat.le_refl _)]
  · have a1 := setCells_same g (inner.drop ((i + 1) * sz)) (i * sz) w
    have a2 := setCells_same g zs ((n - 1) * sz) (w.setCells g (i * sz) (inner.drop ((i + 1) * sz)))
    exact ⟨a2.1.trans a1.1, a2.2.1.trans a1.2.1, a2.2.2.1.trans a1.2.2.1, by rw [a2.2.2.2, a1.2.2.2]; exact Nat.le_refl _, fun k _ hk => (setCells_far zs _ k (fun he => hk (by rw [he]))).trans (setCells_far _ _ k (fun he => hk (by rw [he])))⟩
theorem delInt.info : (Tryd.prog.info? 3).map (fun i => (i.zero, i.size, i.bytes)) = some (some (.int .i64 0), 1, 8) := by kernel_rfl
set_option maxRecDepth 1000000 in
set_option maxHeartbeats 4000000 in
/-- One element taken out of a row of one's own. -/
theorem delInt.del (B g n c i : Nat) (inner : List Value) (w : World) (ho : w.ownsRow B 3 1 (.slice (some ⟨g, 0, none⟩) n c) n inner) (hi : i < n) (hone : ∀ u ∈ inner, u.oneCell' = true) (hn : n ≤ 1000000) :
    Calls Tryd.prog 40 #[.slice (some ⟨g, 0, none⟩) n c, .int .i64 i, .int .i64 ((i + 1 : Nat) : Int)] w fun e w' => e = .returned (.slice (some ⟨g, 0, none⟩) (n - 1) c) ∧ w'.ownsRow B 3 1 (.slice (some ⟨g, 0, none⟩) (n - 1) c) (n - 1) (inner.take (i * 1) ++ inner.drop ((i + 1) * 1)) ∧ w.grownBy w' (some g) := by
  obtain ⟨i0, hi0, hz0, hz1, hz2⟩ := info_parts delInt.info
  obtain ⟨hil, ho⟩ := ho
  obtain ⟨g', c', cur, hv, hB, hg, hnc, hcm, hcs, hct⟩ := ho.resolve_left (fun h => by have := h.2; omega)
  injection hv with hv1 hv2 hv3
  injection hv1 with hv1
  injection hv1 with hv1
  subst hv1 hv3
  clear hv2 ho
  have hcl9 : c ≤ 9223372036854775807 := by unfold maxLen at hcm; omega
  have hcell : ∀ t u, inner[t]? = some u → w.cell? ⟨g, t, none⟩ = some u := fun t u hu => by
    rw [blk_cell hg t, ← Array.getElem?_toList]
    rw [← hct, List.getElem?_take] at hu
    split at hu
    · exact hu
    · cases hu
  obtain ⟨j, hj⟩ : ∃ j, j = i + 1 := ⟨_, rfl⟩
  rw [← hj]
  obtain ⟨news, hnews⟩ : ∃ news, news = inner.drop (j * 1) := ⟨_, rfl⟩
  have hlen : news.length = (n - j) * 1 := by rw [hnews, List.length_drop, hil]; omega
  obtain ⟨A, hA, hsrc⟩ : ∃ A : Addr, (if c = j then some (⟨g, 0, none⟩ : Addr) else some ⟨g, j, none⟩) = some A ∧ Hid (∀ t u, news[t]? = some u → w.drew.cell? (A.add t) = some u) := by
    by_cases h : c = j
    · refine ⟨⟨g, 0, none⟩, by simp [h], fun t u hu => ?_⟩
      have h0 : news.length = 0 := by rw [hlen]; omega
      rw [List.length_eq_zero_iff.1 h0] at hu
      simp at hu
    · refine ⟨⟨g, j, none⟩, by simp [h], fun t u hu => ?_⟩
      rw [hnews, List.getElem?_drop] at hu
      rw [add_at]
      exact hcell _ u (by simpa using hu)
  have s1 : Hid (news.length = (n - j) * 1) := Lib.hid hlen
  have s2 : Hid (∀ u ∈ news, u.oneCell' = true) := Lib.hid (fun u hu => hone u (by rw [hnews] at hu; exact List.mem_of_mem_drop hu))
  have s3 : Hid (∀ t, t < news.length → (w.drew.cell? ⟨g, 0 + i * 1 + t, none⟩).isSome = true ∧ w.drew.frozen? ⟨g, 0 + i * 1 + t, none⟩ = false) := Lib.hid (fun t ht => by
    rw [hlen] at ht
    have hsome : (w.cell? ⟨g, 0 + i * 1 + t, none⟩).isSome = true := by
      rw [blk_cell hg, Array.getElem?_eq_getElem (by rw [hcs]; omega)]
      rfl
    exact ⟨hsome, blk_frozen hg _⟩)
  obtain ⟨W1, hW1⟩ : ∃ W1, W1 = w.drew.setCells g (0 + i * 1) news := ⟨_, rfl⟩
  obtain ⟨cur1, hc1, hc2, hc3⟩ := setCells_row (e := 3) news (0 + i * 1) w.drew cur hg (by rw [hlen, hcs]; omega)
  rw [← hW1] at hc1
  have hcl : ∀ ty, (Builtin.clear_ #[39] ty #[.slice (some ⟨g, (n - 1) * 1, none⟩) 1 (c - (n - 1))]).run Tryd.prog W1 = .ok (.tuple #[]) (W1.setCells g ((n - 1) * 1) ((.int .i64 0) : Value).cells.toList) := fun ty =>
    run_clear_one W1 _ 3 ty (.int .i64 0) Tryd.underlying39 (fun w => by kernel_rfl) (by decide) g ((n - 1) * 1) _ (fun j hj => by
      have hj' : j < 1 := hj
      rw [blk_cell hc1, Array.getElem?_eq_getElem (by rw [hc2, hcs]; omega)]
      rfl) (fun j hj => blk_frozen hc1 _)
  have mixed : Tryd.prog.follows .mixedOrders = true := by kernel_rfl
  have hjn : (j : Int) ≤ n := by omega
  have hcl2 : ∀ ty, (Builtin.clear_ #[39] ty #[.slice (some ⟨g, n - 1, none⟩) 1 (c - (n - 1))]).run Tryd.prog W1 = .ok (.tuple #[]) (W1.setCells g ((n - 1) * 1) ((.int .i64 0) : Value).cells.toList) := fun ty => by
    have h := hcl ty
    rw [show (⟨g, n - 1, none⟩ : Addr) = ⟨g, (n - 1) * 1, none⟩ from by simp]
    exact h
  clear hcl
  have hfin := own_out (w := w.drew) (w0 := w) (zs := ((.int .i64 0) : Value).cells.toList) (i := i) hg hB hnc hcm hcs hct hi rfl
  rw [← hj, ← hnews, show i * 1 = 0 + i * 1 from by omega, ← hW1, show 0 + i * 1 = i * 1 from by omega] at hfin
  have HF : Hid ((W1.setCells g ((n - 1) * 1) ((.int .i64 0) : Value).cells.toList).ownsRow B 3 1 (.slice (some ⟨g, 0, none⟩) (n - 1) c) (n - 1) (inner.take (i * 1) ++ inner.drop (j * 1)) ∧ w.grownBy (W1.setCells g ((n - 1) * 1) ((.int .i64 0) : Value).cells.toList) (some g)) := Lib.hid ⟨by have := hfin.1; rw [hnews] at this; exact this, ⟨hfin.2.os, hfin.2.tape, hfin.2.output, hfin.2.size, hfin.2.block⟩⟩
  have hW : Hid (W1 = w.drew.setCells g (0 + i * 1) news) := Lib.hid hW1
  have hic : i ≤ c := by omega
  have hjc : j ≤ c := by omega
  have hneq : ((i : Int) == (j : Int)) = false := by simp; omega
  have hne2 : ¬ (c = n - 1) := by omega
  have hsub : n - (n - 1) = 1 := by omega
  have hsum : i + (n - j) = n - 1 := by omega
  clear hW1 hc1 hc2 hc3 hfin hcell hnews hlen hg hct hcs hil hone
  have HJ := Lib.hid hj
  clear hj
  go_enter Tryd.func40, Tryd.ntmps40
  go_wp2_with fail
  go_region_law_o (refine step_append_room rfl (.tmp 22) (.tmp 25) 39 rfl 3 i0 1 Tryd.underlying39 hi0 hz1 g 0 i c (by simp [Act.eval, Act.put]) A (n - j) (c - j) news (by simp [Act.eval, Act.put]) s1.out hsrc.out s2.out (by omega) s3.out ?_; rw [← hW.out])
  go_wp2_with fail
  go_ret
  first
    | exact ⟨rfl, HF.out⟩
    | (refine ⟨rfl, ?_⟩; have h := HF.out; simp only [Nat.mul_one] at h ⊢; exact h)

/-! ### api_Attr_34: function 34 -/
theorem delAttr.info : (Tryd.prog.info? 48).map (fun i => (i.zero, i.size, i.bytes)) = some (some (.agg #[.string ⟨#[]⟩, .string ⟨#[]⟩]), 2, 32) := by kernel_rfl
set_option maxRecDepth 1000000 in
set_option maxHeartbeats 4000000 in
/-- One element taken out of a row of one's own. -/
theorem delAttr.del (B g n c i : Nat) (inner : List Value) (w : World) (ho : w.ownsRow B 48 2 (.slice (some ⟨g, 0, none⟩) n c) n inner) (hi : i < n) (hone : ∀ u ∈ inner, u.oneCell' = true) (hn : n ≤ 1000000) :
    Calls Tryd.prog 34 #[.slice (some ⟨g, 0, none⟩) n c, .int .i64 i, .int .i64 ((i + 1 : Nat) : Int)] w fun e w' => e = .returned (.slice (some ⟨g, 0, none⟩) (n - 1) c) ∧ w'.ownsRow B 48 2 (.slice (some ⟨g, 0, none⟩) (n - 1) c) (n - 1) (inner.take (i * 2) ++ inner.drop ((i + 1) * 2)) ∧ w.grownBy w' (some g) := by
  obtain ⟨i0, hi0, hz0, hz1, hz2⟩ := info_parts delAttr.info
  obtain ⟨hil, ho⟩ := ho
  obtain ⟨g', c', cur, hv, hB, hg, hnc, hcm, hcs, hct⟩ := ho.resolve_left (fun h => by have := h.2; omega)
  injection hv with hv1 hv2 hv3
  injection hv1 with hv1
  injection hv1 with hv1
  subst hv1 hv3
  clear hv2 ho
  have hcl9 : c ≤ 9223372036854775807 := by unfold maxLen at hcm; omega
  have hcell : ∀ t u, inner[t]? = some u → w.cell? ⟨g, t, none⟩ = some u := fun t u hu => by
    rw [blk_cell hg t, ← Array.getElem?_toList]
    rw [← hct, List.getElem?_take] at hu
    split at hu
    · exact hu
    · cases hu
  obtain ⟨j, hj⟩ : ∃ j, j = i + 1 := ⟨_, rfl⟩
  rw [← hj]
  obtain ⟨news, hnews⟩ : ∃ news, news = inner.drop (j * 2) := ⟨_, rfl⟩
  have hlen : news.length = (n - j) * 2 := by rw [hnews, List.length_drop, hil]; omega
  obtain ⟨A, hA, hsrc⟩ : ∃ A : Addr, (if c = j then some (⟨g, 0, none⟩ : Addr) else some ⟨g, j * 2, none⟩) = some A ∧ Hid (∀ t u, news[t]? = some u → w.drew.cell? (A.add t) = some u) := by
    by_cases h : c = j
    · refine ⟨⟨g, 0, none⟩, by simp [h], fun t u hu => ?_⟩
      have h0 : news.length = 0 := by rw [hlen]; omega
      rw [List.length_eq_zero_iff.1 h0] at hu
      simp at hu
    · refine ⟨⟨g, j * 2, none⟩, by simp [h], fun t u hu => ?_⟩
      rw [hnews, List.getElem?_drop] at hu
      rw [add_at]
      exact hcell _ u (by simpa using hu)
  have s1 : Hid (news.length = (n - j) * 2) := Lib.hid hlen
  have s2 : Hid (∀ u ∈ news, u.oneCell' = true) := Lib.hid (fun u hu => hone u (by rw [hnews] at hu; exact List.mem_of_mem_drop hu))
  have s3 : Hid (∀ t, t < news.length → (w.drew.cell? ⟨g, 0 + i * 2 + t, none⟩).isSome = true ∧ w.drew.frozen? ⟨g, 0 + i * 2 + t, none⟩ = false) := Lib.hid (fun t ht => by
    rw [hlen] at ht
    have hsome : (w.cell? ⟨g, 0 + i * 2 + t, none⟩).isSome = true := by
      rw [blk_cell hg, Array.getElem?_eq_getElem (by rw [hcs]; omega)]
      rfl
    exact ⟨hsome, blk_frozen hg _⟩)
  obtain ⟨W1, hW1⟩ : ∃ W1, W1 = w.drew.setCells g (0 + i * 2) news := ⟨_, rfl⟩
  obtain ⟨cur1, hc1, hc2, hc3⟩ := setCells_row (e := 48) news (0 + i * 2) w.drew cur hg (by rw [hlen, hcs]; omega)
  rw [← hW1] at hc1
  have hcl : ∀ ty, (Builtin.clear_ #[38] ty #[.slice (some ⟨g, (n - 1) * 2, none⟩) 1 (c - (n - 1))]).run Tryd.prog W1 = .ok (.tuple #[]) (W1.setCells g ((n - 1) * 2) ((.agg #[.string ⟨#[]⟩, .string ⟨#[]⟩]) : Value).cells.toList) := fun ty =>
    run_clear_one W1 _ 48 ty (.agg #[.string ⟨#[]⟩, .string ⟨#[]⟩]) Tryd.underlying38 (fun w => by kernel_rfl) (by decide) g ((n - 1) * 2) _ (fun j hj => by
      have hj' : j < 2 := hj
      rw [blk_cell hc1, Array.getElem?_eq_getElem (by rw [hc2, hcs]; omega)]
      rfl) (fun j hj => blk_frozen hc1 _)
  have mixed : Tryd.prog.follows .mixedOrders = true := by kernel_rfl
  have hjn : (j : Int) ≤ n := by omega
  have hcl2 : ∀ ty, (Builtin.clear_ #[38] ty #[.slice (some ⟨g, (n - 1) * 2, none⟩) 1 (c - (n - 1))]).run Tryd.prog W1 = .ok (.tuple #[]) (W1.setCells g ((n - 1) * 2) ((.agg #[.string ⟨#[]⟩, .string ⟨#[]⟩]) : Value).cells.toList) := fun ty => by
    have h := hcl ty
    rw [show (⟨g, (n - 1) * 2, none⟩ : Addr) = ⟨g, (n - 1) * 2, none⟩ from by simp]
    exact h
  clear hcl
  have hfin := own_out (w := w.drew) (w0 := w) (zs := ((.agg #[.string ⟨#[]⟩, .string ⟨#[]⟩]) : Value).cells.toList) (i := i) hg hB hnc hcm hcs hct hi rfl
  rw [← hj, ← hnews, show i * 2 = 0 + i * 2 from by omega, ← hW1, show 0 + i * 2 = i * 2 from by omega] at hfin
  have HF : Hid ((W1.setCells g ((n - 1) * 2) ((.agg #[.string ⟨#[]⟩, .string ⟨#[]⟩]) : Value).cells.toList).ownsRow B 48 2 (.slice (some ⟨g, 0, none⟩) (n - 1) c) (n - 1) (inner.take (i * 2) ++ inner.drop (j * 2)) ∧ w.grownBy (W1.setCells g ((n - 1) * 2) ((.agg #[.string ⟨#[]⟩, .string ⟨#[]⟩]) : Value).cells.toList) (some g)) := Lib.hid ⟨by have := hfin.1; rw [hnews] at this; exact this, ⟨hfin.2.os, hfin.2.tape, hfin.2.output, hfin.2.size, hfin.2.block⟩⟩
  have hW : Hid (W1 = w.drew.setCells g (0 + i * 2) news) := Lib.hid hW1
  have hic : i ≤ c := by omega
  have hjc : j ≤ c := by omega
  have hneq : ((i : Int) == (j : Int)) = false := by simp; omega
  have hne2 : ¬ (c = n - 1) := by omega
  have hsub : n - (n - 1) = 1 := by omega
  have hsum : i + (n - j) = n - 1 := by omega
  clear hW1 hc1 hc2 hc3 hfin hcell hnews hlen hg hct hcs hil hone
  have HJ := Lib.hid hj
  clear hj
  go_enter Tryd.func34, Tryd.ntmps34
  go_wp2_with fail
  go_region_law_o (refine step_append_room rfl (.tmp 22) (.tmp 25) 38 rfl 48 i0 2 Tryd.underlying38 hi0 hz1 g 0 i c (by simp [Act.eval, Act.put]) A (n - j) (c - j) news (by simp [Act.eval, Act.put]) s1.out hsrc.out s2.out (by omega) s3.out ?_; rw [← hW.out])
  go_wp2_with fail
  go_ret
  first
    | exact ⟨rfl, HF.out⟩
    | (refine ⟨rfl, ?_⟩; have h := HF.out; simp only [Nat.mul_one] at h ⊢; exact h)

end Go.Proofs.YtdakcfacckmjcaaDoor.PDB
