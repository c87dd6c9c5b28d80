import Derived.Test.YtmcinclecpeakaaGreatDoorGRecT
/- Package record: the undoer: its state, node, text, made. -/
namespace Go.Proofs.YtmcinclecpeakaaGreatDoor.ApA
open Go.RowKit Go.Proofs.YtmcinclecpeakaaGreatDoorW.PrintWords Go.Proofs.YtmcinclecpeakaaGreatDoorW.PrintLast Go.Proofs.YtmcinclecpeakaaGreatDoorW.PrintMore Go.Proofs.YtmcinclecpeakaaGreatDoor.PRR Go.Proofs.YtmcinclecpeakaaGreatDoor.DocP Go.Proofs.YtmcinclecpeakaaGreatDoor.DocC
set_option linter.unusedVariables false
set_option linter.unusedSimpArgs false
/-- The undoer's state: its block, and the document's row, all of the call's own (from base on). -/
def Ud (w : World) (B b : Nat) (l : List S43) (q : Bool) : Prop := ∃ v, B ≤ b ∧ w.heap[b]? = some (.cells #[v, .bool q] 53 (0, 0)) ∧ Kd.S k43 43 w B (fun _ => True) v l
theorem Ud.below {w w' : World} {B b : Nat} {l : List S43} {q : Bool} (h : Ud w B b l q) (hb : Below w.heap.size w w') : Ud w' B b l q := by
  obtain ⟨v, h1, h2, h3⟩ := h
  exact ⟨v, h1, blk_below h2 hb, Kd.S_below h3 hb⟩
theorem ud_open {w : World} {B b : Nat} {l : List S43} {q : Bool} (h : Ud w B b l q) : ∃ A c, B ≤ b ∧ w.heap[b]? = some (.cells #[.slice A l.length c, .bool q] 53 (0, 0)) ∧ Kd.S k43 43 w B (fun _ => True) (.slice A l.length c) l := by
  obtain ⟨v, h1, h2, h3⟩ := h
  obtain ⟨A, c, rfl⟩ := Kd.S_slice h3
  exact ⟨A, c, h1, h2, h3⟩
/-- .. with the row's own block laid open, where there is a node. -/
theorem ud_form {w : World} {B b i : Nat} {l : List S43} {q : Bool} (h : Ud w B b l q) (hi : i < l.length) : ∃ gr c n, n = l.length ∧ B ≤ b ∧ B ≤ gr ∧ gr < w.heap.size ∧ gr ≠ b ∧ b < w.heap.size ∧ w.heap[b]? = some (.cells #[.slice (some ⟨gr, 0, none⟩) n c, .bool q] 53 (0, 0)) ∧ (∃ cells, w.heap[gr]? = some (.cells cells 43 (0, 0))) ∧ Kd.S k43 43 w B (fun _ => True) (.slice (some ⟨gr, 0, none⟩) n c) l := by
  obtain ⟨A, c, hB, hblk, hS⟩ := ud_open h
  obtain ⟨gr, cap, hv, hbr, hgr, cells, hty⟩ := Kd.S_form hS (by omega)
  injection hv with hA hn' hc'
  subst hA
  exact ⟨gr, c, l.length, rfl, hB, hbr, hgr, fun he => blk_ne hty hblk (by decide) he, blk_lt hblk, hblk, ⟨cells, hty⟩, hS⟩
/-- Types that an undoer's step may write. -/
def tn (t : Nat) : Bool := t != 43 && t != 66 && t != 3 && t != 53
def oko : Obj → Bool
  | .cells _ t _ => tn t
  | _ => true
/-- All other blocks stay. -/
def TF (w w' : World) : Prop := w.heap.size ≤ w'.heap.size ∧ ∀ (k : Nat) (o : Obj), w.heap[k]? = some o → oko o = true → w'.heap[k]? = w.heap[k]?
theorem TF.below {w w' : World} (h : Below w.heap.size w w') : TF w w' := ⟨h.size, fun k o hk _ => h.block k (Array.getElem?_eq_some_iff.1 hk).1⟩
theorem TF.trans {a b c : World} (h : TF a b) (k : TF b c) : TF a c := ⟨Nat.le_trans h.1 k.1, fun j o hj ho => (k.2 j o ((h.2 j o hj ho).trans hj) ho).trans (h.2 j o hj ho)⟩
theorem TF.set {w : World} {g t : Nat} {cells : Array Value} (h : w.heap[g]? = some (.cells cells t (0, 0))) (ht : tn t = false) (j : Nat) (v : Value) : TF w (w.setCell ⟨g, j, none⟩ v) := ⟨by simp [World.setCell], fun k o hk ho => Below.heap_setCell w ⟨g, j, none⟩ v k (fun he => by
  have he' : k = g := he
  subst he'
  rw [h] at hk
  injection hk with hk
  rw [← hk] at ho
  have ho' : tn t = true := ho
  rw [ht] at ho'
  cases ho')⟩
theorem TF.grown {w w' : World} {r : Option Nat} (hg : w.grownBy w' r) (hr : ∀ g, r = some g → ∃ cells t, w.heap[g]? = some (.cells cells t (0, 0)) ∧ tn t = false) : TF w w' := ⟨hg.size, fun k o hk ho => hg.block k (Array.getElem?_eq_some_iff.1 hk).1 (fun he => by
  obtain ⟨cells, t', h1, h2⟩ := hr k he.symm
  rw [h1] at hk
  injection hk with hk
  rw [← hk] at ho
  have ho' : tn t' = true := ho
  rw [h2] at ho'
  cases ho')⟩
theorem rd_some (l : List S43) {i : Int} (hi : In l.length i) : l[i.toNat]? = some (rd_T43 l i) := by
  have h0 := hi.1
  have h1 := hi.2
  unfold rd_T43
  rw [List.getD_eq_getElem?_getD, List.getElem?_eq_getElem (by omega)]
  rfl
/-- A step's value. -/
abbrev stepV (s : Stp) (A8 A11 : Option Addr) (n8 n11 c8 c11 : Nat) : Array Value := HC s.f0 A8 n8 c8 A11 n11 c11 s.f1 s.f2 s.f3 s.f4
/-- The step's box. -/
theorem step_box (w : World) (s : Stp) (A8 A11 : Option Addr) (n8 n11 c8 c11 : Nat) {W : World} (hb : Below (w.alloc (.cells (stepV s A8 A11 n8 n11 c8 c11) 48)).heap.size (w.alloc (.cells (stepV s A8 A11 n8 n11 c8 c11) 48)) W) : W.heap[w.heap.size]? = some (.cells (stepV s A8 A11 n8 n11 c8 c11) 48 (0, 0)) := blk_below (blk_new w _) hb
set_option maxHeartbeats 1000000 in
theorem unode_in (b gr n c : Nat) (i : Int) (w : World) (hc : w.cell? ⟨b, 0, none⟩ = some (.slice (some ⟨gr, 0, none⟩) n c)) (hi : In n i) :
    Calls Tryz.prog 48 #[.pointer (some ⟨b, 0, none⟩), .int .i64 i] w fun e w' => e = .returned (.pointer (some ⟨gr, i.toNat * 6, none⟩)) ∧ w = w' := by
  obtain ⟨h0, h1⟩ := hi
  obtain ⟨j, rfl⟩ := Int.eq_ofNat_of_zero_le h0
  rw [Int.toNat_natCast]
  have h2 : j < n := by omega
  clear h0 h1
  go_enter Tryz.func48, Tryz.ntmps48
  go_wp2_with fail
  go_ret
  exact ⟨rfl, rfl⟩
theorem S_take {α : Type} {d : Kd α} {e base m n c : Nat} {ok : Nat → Prop} {w : World} {A : Option Addr} {xs : List α} (h : Kd.S d e w base ok (.slice A n c) xs) (hm : m ≤ xs.length) : Kd.S d e w base ok (.slice A m c) (xs.take m) := by
  obtain ⟨f, hf⟩ := h
  refine ⟨f, ?_⟩
  have h2 := Kd.R_take hf (m := m) (by simpa using hm)
  have e : (xs.take m).zipIdx = xs.zipIdx.take m := by
    apply List.ext_getElem?
    intro i
    rw [List.getElem?_take, List.getElem?_zipIdx, List.getElem?_zipIdx, List.getElem?_take]
    split <;> rfl
  rw [e]
  exact h2
set_option maxRecDepth 100000 in
set_option maxHeartbeats 4000000 in
theorem u_text (s : Stp) (A8 A11 : Option Addr) (n8 n11 c8 c11 : Nat) (l : List S43) (q : Bool) (b : Nat) (w0 w : World) (hw : Below w0.heap.size w0 w) (hE : Ud w w0.heap.size b l q) (hin : In l.length s.f0.f1) (h34 : (rd_T43 l s.f0.f1).f0 = 3 ∨ (rd_T43 l s.f0.f1).f0 = 4) :
    Calls Tryz.prog 34 #[.pointer (some ⟨b, 0, none⟩), .agg (stepV s A8 A11 n8 n11 c8 c11)] w fun u w' => u = .returned (.bool true) ∧ Ud w' w0.heap.size b (l.set s.f0.f1.toNat { rd_T43 l s.f0.f1 with f3 := s.f2 }) q ∧ Below w0.heap.size w0 w' ∧ TF w w' := by
  obtain ⟨h0, h1⟩ := hin
  have hxi := rd_some l ⟨h0, h1⟩
  obtain ⟨gr, c, n, hn, hB, hbr, hgr, hgb, hbw, hblk, ⟨cells, hty⟩, hS⟩ := ud_form hE (i := s.f0.f1.toNat) (by omega)
  obtain ⟨hn2, hnc, hrow⟩ := Kd.S_reads' hS
  obtain ⟨adi, A2i, c2i, A5, c5, ei, i0, -, -, i3, -⟩ := at_T43 hrow s.f0.f1 h0 h1
  cases ei
  have hbx := step_box w s A8 A11 n8 n11 c8 c11 (Below.refl _ _)
  have hb1 : Below w.heap.size w (w.alloc (.cells (stepV s A8 A11 n8 n11 c8 c11) 48)) := below_alloc (Below.refl _ _) _
  obtain ⟨w1, hw1⟩ : ∃ w1, w1 = w.alloc (.cells (stepV s A8 A11 n8 n11 c8 c11) 48) := ⟨_, rfl⟩
  rw [← hw1] at hbx hb1
  have HW1 := Lib.hid hw1
  clear hw1
  generalize rd_T43 l s.f0.f1 = x at *
  obtain ⟨i, hi⟩ : ∃ i, i = s.f0.f1.toNat := ⟨_, rfl⟩
  rw [← hi] at i0 i3 hxi ⊢
  have hin' : i < n := by omega
  have i0' : w1.cell? ⟨gr, i * 6, none⟩ = some (.int .i64 x.f0) := pw_cell_below hb1 (by simpa [add_at] using i0)
  have i3' : w1.cell? ⟨gr, i * 6 + 3, none⟩ = some (.string x.f3) := pw_cell_below hb1 (by simpa [add_at] using i3)
  have hfr : w1.frozen? ⟨gr, i * 6 + 3, none⟩ = false := blk_frozen (blk_below hty hb1) _
  have z1 : w1.cell? ⟨w.heap.size, 1, none⟩ = some (.int .i64 s.f0.f1) := (blk_cell hbx 1).trans rfl
  have z13 : w1.cell? ⟨w.heap.size, 13, none⟩ = some (.string s.f2) := (blk_cell hbx 13).trans rfl
  have HNd : Hid (Calls Tryz.prog 48 #[.pointer (some ⟨b, 0, none⟩), .int .i64 s.f0.f1] w1 fun u w' => u = .returned (.pointer (some ⟨gr, i * 6, none⟩)) ∧ w1 = w') :=
    Lib.hid (by rw [hi]; exact unode_in b gr n c s.f0.f1 w1 (pw_cell_below hb1 ((blk_cell hblk 0).trans rfl)) ⟨h0, by omega⟩)
  have HFin : Hid (Ud (w1.setCell ⟨gr, i * 6 + 3, none⟩ (.string s.f2)) w0.heap.size b (l.set i { x with f3 := s.f2 }) q ∧ Below w0.heap.size w0 (w1.setCell ⟨gr, i * 6 + 3, none⟩ (.string s.f2)) ∧ TF w (w1.setCell ⟨gr, i * 6 + 3, none⟩ (.string s.f2))) :=
    Lib.hid ⟨⟨_, hB, blk_far (blk_below hblk hb1) (Ne.symm hgb) _, ed_setText (Kd.S_below hS hb1) hin' hxi s.f2⟩, (hw.trans (hb1.mono hw.size)).setCell hbr _, (TF.below hb1).trans (TF.set (blk_below hty hb1) (by decide) _ _)⟩
  have hb34 : (x.f0 != 3) = false ∨ ((x.f0 != 3) = true ∧ (x.f0 != 4) = false) := by
    rcases h34 with h | h
    · exact .inl (by simpa using h)
    · exact .inr ⟨by rw [h]; rfl, by simpa using h⟩
  clear h34 hE hblk hS hw hB hn hxi hrow i0 i3 hty hn2 hnc hbx hb1 h0 h1 hi hgb hbw cells
  unfold stepV HC at HW1 ⊢
  rcases hb34 with hb3 | ⟨hb3, hb4⟩
  all_goals
    go_enter Tryz.func34, Tryz.ntmps34
    go_wp2_with fail
    rw [← HW1.out]
    refine HNd.out.mono ?_
    rintro u w' ⟨rfl, rfl⟩
    go_wp2_with fail
    go_ret
    exact ⟨rfl, HFin.out⟩
set_option maxRecDepth 100000 in
set_option maxHeartbeats 4000000 in
theorem u_made (s : Stp) (A8 A11 : Option Addr) (n8 n11 c8 c11 : Nat) (l : List S43) (q : Bool) (b : Nat) (w0 w : World) (hw : Below w0.heap.size w0 w) (hE : Ud w w0.heap.size b l q) (h4 : s.f4 = (l.length : Int) - 1) (h1 : 1 ≤ s.f4) (hp : par l s.f4 = -1) (hk : kids l s.f4 = []) (hl : l.length ≤ 1000) :
    Calls Tryz.prog 35 #[.pointer (some ⟨b, 0, none⟩), .agg (stepV s A8 A11 n8 n11 c8 c11)] w fun u w' => u = .returned (.bool true) ∧ Ud w' w0.heap.size b (l.take s.f4.toNat) q ∧ Below w0.heap.size w0 w' ∧ TF w w' := by
  obtain ⟨gr, c, n, hn, hB, hbr, hgr, hgb, hbw, hblk, ⟨cells, hty⟩, hS⟩ := ud_form hE (i := s.f4.toNat) (by omega)
  obtain ⟨hn2, hnc, hrow⟩ := Kd.S_reads' hS
  obtain ⟨adi, A2i, c2i, A5, c5, ei, -, -, -, -, i4, i5, -⟩ := at_T43 hrow s.f4 (by omega) (by omega)
  cases ei
  have hbx := step_box w s A8 A11 n8 n11 c8 c11 (Below.refl _ _)
  have hb1 : Below w.heap.size w (w.alloc (.cells (stepV s A8 A11 n8 n11 c8 c11) 48)) := below_alloc (Below.refl _ _) _
  obtain ⟨w1, hw1⟩ : ∃ w1, w1 = w.alloc (.cells (stepV s A8 A11 n8 n11 c8 c11) 48) := ⟨_, rfl⟩
  rw [← hw1] at hbx hb1
  have HW1 := Lib.hid hw1
  clear hw1
  have hk0 : (rd_T43 l s.f4).f5.length = 0 := by show (kids l s.f4).length = 0; rw [hk]; rfl
  have hp0 : (rd_T43 l s.f4).f4 = -1 := hp
  rw [hk0] at i5
  rw [hp0] at i4
  obtain ⟨i, hi⟩ : ∃ i : Nat, (i : Int) = s.f4 := ⟨s.f4.toNat, by omega⟩
  have z15 : w1.cell? ⟨w.heap.size, 15, none⟩ = some (.int .i64 (i : Int)) := by rw [hi]; exact (blk_cell hbx 15).trans rfl
  rw [← hi, Int.toNat_natCast] at i4 i5 ⊢
  have hin' : i < n := by omega
  have i4' : w1.cell? ⟨gr, i * 6 + 4, none⟩ = some (.int .i64 (-1)) := pw_cell_below hb1 (by simpa [add_at] using i4)
  have i5' : w1.cell? ⟨gr, i * 6 + 5, none⟩ = some (.slice A5 0 c5) := pw_cell_below hb1 (by simpa [add_at] using i5)
  have b0 : w1.cell? ⟨b, 0, none⟩ = some (.slice (some ⟨gr, 0, none⟩) n c) := pw_cell_below hb1 ((blk_cell hblk 0).trans rfl)
  have fb : w1.frozen? ⟨b, 0, none⟩ = false := blk_frozen (blk_below hblk hb1) 0
  have hgr1 : gr < w1.heap.size := Nat.lt_of_lt_of_le hgr hb1.size
  have hi1 : IntKind.i64.wrap ((n : Int) - 1) = (i : Int) := by rw [IntWalk.i64_left, wrap_in (by omega)]; omega
  have hic : i ≤ c := by omega
  have hi1' : 1 ≤ (i : Int) := by omega
  have HFin : Hid (Ud (w1.setCell ⟨b, 0, none⟩ (.slice (some ⟨gr, 0, none⟩) i c)) w0.heap.size b (l.take i) q ∧ Below w0.heap.size w0 (w1.setCell ⟨b, 0, none⟩ (.slice (some ⟨gr, 0, none⟩) i c)) ∧ TF w (w1.setCell ⟨b, 0, none⟩ (.slice (some ⟨gr, 0, none⟩) i c))) :=
    Lib.hid ⟨⟨_, hB, blk_put (cs' := #[.slice (some ⟨gr, 0, none⟩) i c, .bool q]) (blk_below hblk hb1) 0 _ rfl, Kd.S_set (S_take (Kd.S_below hS hb1) (by omega)) (blk_below hblk hb1) (by decide) 0 _⟩, (hw.trans (hb1.mono hw.size)).setCell hB _, (TF.below hb1).trans (TF.set (blk_below hblk hb1) (by decide) _ _)⟩
  have hnw : n ≤ 1000 := by omega
  clear hE hblk hS hw hB hn hrow hty hn2 hnc hbx hb1 h1 hi hgb hbw cells hk hp hk0 hp0 i4 i5 h4 hl
  unfold stepV HC at HW1 ⊢
  go_enter Tryz.func35, Tryz.ntmps35
  go_upto_region 1 with fail
  rw [← HW1.out]
  go_wp2_with fail
  go_ret
  exact ⟨rfl, HFin.out⟩
end Go.Proofs.YtmcinclecpeakaaGreatDoor.ApA
