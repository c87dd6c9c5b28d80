import Derived.Test.YtmcinclecpeakaaGreatDoorRecA
import Derived.Deep.QuietTactic
import Derived.BigQuiet
/- Package record: the undoer: inserted. -/
namespace Go.Proofs.YtmcinclecpeakaaGreatDoor.ApA
open Go.RowKit Go.Proofs.YtmcinclecpeakaaGreatDoorW.PrintWords Go.Proofs.YtmcinclecpeakaaGreatDoorW.PrintLast Go.Proofs.YtmcinclecpeakaaGreatDoorW.PrintMore Go.Proofs.YtmcinclecpeakaaGreatDoor.PRR Go.Proofs.YtmcinclecpeakaaGreatDoor.DocP Go.Proofs.YtmcinclecpeakaaGreatDoor.DocC
set_option linter.unusedVariables false
set_option linter.unusedSimpArgs false
/-- What lies ready behind slices.Delete or slices.Insert: node p's kids, node i's parent. -/
structure UF (w0 wX W : World) (b gr n c i p : Nat) (q : Bool) (p4 : Int) (v5 v' : Value) (l : List S43) : Prop where
  below : Below w0.heap.size w0 W
  blk : W.heap[b]? = some (.cells #[.slice (some ⟨gr, 0, none⟩) n c, .bool q] 53 (0, 0))
  c5 : W.cell? ⟨gr, p * 6 + 5, none⟩ = some v5
  c4 : W.cell? ⟨gr, i * 6 + 4, none⟩ = some (.int .i64 p4)
  f5 : W.frozen? ⟨gr, p * 6 + 5, none⟩ = false
  f4 : W.frozen? ⟨gr, i * 6 + 4, none⟩ = false
  row : Kd.S k43 43 (W.setCell ⟨gr, p * 6 + 5, none⟩ v') w0.heap.size (fun _ => True) (.slice (some ⟨gr, 0, none⟩) n c) l
  ty : ∃ cells, W.heap[gr]? = some (.cells cells 43 (0, 0))
  tf : TF wX W
theorem UF.mk' {w0 w W w' : World} {b gr n c i p : Nat} {q : Bool} {p4 : Int} {v5 v' : Value} {l : List S43} {xp : S43} {ks : List Int} {cells : Array Value}
    (hw : Below w0.heap.size w0 w) (hblk : w.heap[b]? = some (.cells #[.slice (some ⟨gr, 0, none⟩) n c, .bool q] 53 (0, 0))) (hty : w.heap[gr]? = some (.cells cells 43 (0, 0))) (hS : Kd.S k43 43 w w0.heap.size (fun _ => True) (.slice (some ⟨gr, 0, none⟩) n c) l)
    (hp : p < n) (hxp : l[p]? = some xp) (hp5 : w.cell? ⟨gr, p * 6 + 5, none⟩ = some v5) (hi4 : w.cell? ⟨gr, i * 6 + 4, none⟩ = some (.int .i64 p4)) (hW : Below w.heap.size w W)
    (ho : w'.ownsRow w0.heap.size 3 1 v' ks.length (nums .i64 ks)) (hg : W.grownBy w' v5.ownBlock) (hat : v'.ownBlock = v5.ownBlock ∨ v'.ownBlock = some W.heap.size) (hone : v'.oneCell' = true) :
    UF w0 w w' b gr n c i p q p4 v5 v' (l.set p ⟨xp.f0, xp.f1, xp.f2, xp.f3, xp.f4, ks⟩) := by
  have hK := ed_kids hS hp hxp hp5
  have hgr := own_ne hK.1 hty (by decide)
  have hgrW : w'.heap[gr]? = w.heap[gr]? := (hg.block gr (Nat.lt_of_lt_of_le (blk_lt hty) hW.size) hgr).trans (hW.block gr (blk_lt hty))
  have hbW := blk_grown (blk_below hblk hW) hg (own_ne hK.1 hblk (by decide))
  exact ⟨((hw.trans (hW.mono hw.size)).grown hg (Nat.le_trans hw.size hW.size) (own_base hK.1)), hbW, (World.cell?_of_block hgrW).trans hp5, (World.cell?_of_block hgrW).trans hi4, blk_frozen (hgrW.trans hty) _, blk_frozen (hgrW.trans hty) _, hK.2 W w' v' ks hW hg ho hat hone, ⟨cells, hgrW.trans hty⟩, (TF.below hW).trans (TF.grown hg (fun g he => by
    obtain ⟨cs, hc⟩ := own_typed hK.1 g he
    exact ⟨cs, _, blk_below hc hW, by decide⟩))⟩
theorem UF.end_ {w0 wX W : World} {b gr n c i p : Nat} {q : Bool} {p4 : Int} {v5 v' : Value} {l : List S43} {xi : S43} (h : UF w0 wX W b gr n c i p q p4 v5 v' l) (hB : w0.heap.size ≤ b) (hgr : w0.heap.size ≤ gr) (hgb : gr ≠ b) (hi : i < n) (hxi : l[i]? = some xi) (np : Int) :
    Ud ((W.setCell ⟨gr, p * 6 + 5, none⟩ v').setCell ⟨gr, i * 6 + 4, none⟩ (.int .i64 np)) w0.heap.size b (l.set i ⟨xi.f0, xi.f1, xi.f2, xi.f3, np, xi.f5⟩) q ∧ Below w0.heap.size w0 ((W.setCell ⟨gr, p * 6 + 5, none⟩ v').setCell ⟨gr, i * 6 + 4, none⟩ (.int .i64 np)) ∧ TF wX ((W.setCell ⟨gr, p * 6 + 5, none⟩ v').setCell ⟨gr, i * 6 + 4, none⟩ (.int .i64 np)) :=
  ⟨⟨_, hB, blk_far (blk_far h.blk (Ne.symm hgb) _) (Ne.symm hgb) _, ed_parent h.row hi hxi np⟩, (h.below.setCell hgr _).setCell hgr _, h.tf.trans (by
    obtain ⟨cs, hc⟩ := h.ty
    exact (TF.set hc (by decide) _ _).trans (TF.set (blk_set hc _ _) (by decide) _ _))⟩
set_option maxRecDepth 100000 in
set_option maxHeartbeats 8000000 in
theorem u_inserted (s : Stp) (A8 A11 : Option Addr) (n8 n11 c8 c11 : Nat) (l : List S43) (q : Bool) (b : Nat) (w0 w : World) (hw : Below w0.heap.size w0 w) (hE : Ud w w0.heap.size b l q)
    (hip : In l.length s.f0.f1) (hii : In l.length s.f0.f2) (hne : s.f0.f1 ≠ s.f0.f2) (h40 : 0 ≤ s.f4) (h4l : s.f4 < ((kids l s.f0.f1).length : Int)) (h4k : (kids l s.f0.f1).getD s.f4.toNat 0 = s.f0.f2) (hlk : (kids l s.f0.f1).length ≤ 1000) :
    Calls Tryz.prog 36 #[.pointer (some ⟨b, 0, none⟩), .agg (stepV s A8 A11 n8 n11 c8 c11)] w fun u w' => u = .returned (.bool true) ∧ Ud w' w0.heap.size b ((l.set s.f0.f1.toNat { rd_T43 l s.f0.f1 with f5 := (kids l s.f0.f1).eraseIdx s.f4.toNat }).set s.f0.f2.toNat { rd_T43 l s.f0.f2 with f4 := -1 }) q ∧ Below w0.heap.size w0 w' ∧ TF w w' := by
  obtain ⟨hp0, hp1⟩ := hip
  obtain ⟨hi0, hi1⟩ := hii
  have hxp := rd_some l ⟨hp0, hp1⟩
  have hxi := rd_some l ⟨hi0, hi1⟩
  obtain ⟨gr, c, n, hn, hB, hbr, hgr, hgb, hbw, hblk, ⟨cells, hty⟩, hS⟩ := ud_form hE (i := s.f0.f1.toNat) (by omega)
  obtain ⟨hn2, hnc, hrow⟩ := Kd.S_reads' hS
  obtain ⟨adp, A2p, c2p, A5, c5, ep, -, -, -, -, -, p5, -, -, h5l, h5⟩ := at_T43 hrow s.f0.f1 hp0 hp1
  cases ep
  obtain ⟨adi, A2i, c2i, A5i, c5i, ei, -, -, -, -, i4, -⟩ := at_T43 hrow s.f0.f2 hi0 hi1
  cases ei
  have hbx := step_box w s A8 A11 n8 n11 c8 c11 (Below.refl _ _)
  have hb1 : Below w.heap.size w (w.alloc (.cells (stepV s A8 A11 n8 n11 c8 c11) 48)) := below_alloc (Below.refl _ _) _
  obtain ⟨w1, hw1⟩ : ∃ w1, w1 = w.alloc (.cells (stepV s A8 A11 n8 n11 c8 c11) 48) := ⟨_, rfl⟩
  rw [← hw1] at hbx hb1
  have HW1 := Lib.hid hw1
  clear hw1
  have hpi : s.f0.f1.toNat ≠ s.f0.f2.toNat := by omega
  have hkx : kids l s.f0.f1 = (rd_T43 l s.f0.f1).f5 := rfl
  rw [hkx] at h4l h4k hlk ⊢
  clear hkx
  generalize rd_T43 l s.f0.f1 = xp at *
  generalize rd_T43 l s.f0.f2 = xi at *
  obtain ⟨i, hi⟩ : ∃ i, i = s.f0.f2.toNat := ⟨_, rfl⟩
  obtain ⟨p, hp⟩ : ∃ p, p = s.f0.f1.toNat := ⟨_, rfl⟩
  rw [← hi] at i4 hxi hpi ⊢
  rw [← hp] at p5 hxp hpi ⊢
  obtain ⟨ix, hix⟩ : ∃ ix : Nat, (ix : Int) = s.f4 := ⟨s.f4.toNat, by omega⟩
  have z15 : w1.cell? ⟨w.heap.size, 15, none⟩ = some (.int .i64 (ix : Int)) := by rw [hix]; exact (blk_cell hbx 15).trans rfl
  rw [← hix, Int.toNat_natCast] at h4k ⊢
  rw [← hix] at h4l
  have hpn : p < n := by omega
  have hin : i < n := by omega
  have hixl : ix < xp.f5.length := by omega
  obtain ⟨ad5, e5, hk5⟩ := Kd.at_int h5 (ix : Int) (by omega) (by omega)
  have hk5' : rd xp.f5 (ix : Int) = s.f0.f2 := by unfold rd; rw [Int.toNat_natCast]; exact h4k
  rw [hk5', Int.toNat_natCast] at hk5
  subst e5
  have p5' : w.cell? ⟨gr, p * 6 + 5, none⟩ = some (.slice (some ad5) xp.f5.length c5) := by simpa [add_at] using p5
  have i4' : w.cell? ⟨gr, i * 6 + 4, none⟩ = some (.int .i64 xi.f4) := by simpa [add_at] using i4
  have hown := (ed_kids hS hpn hxp p5').1
  obtain ⟨g5, hg5⟩ : ∃ g5, ad5 = ⟨g5, 0, none⟩ := by
    obtain ⟨_, h2⟩ := hown
    rcases h2 with ⟨_, h2⟩ | ⟨g, cap, cur, hv, _⟩
    · omega
    · injection hv with e1
      injection e1 with e1
      exact ⟨g, e1⟩
  subst hg5
  obtain ⟨m5, hm5⟩ : ∃ m5, m5 = xp.f5.length := ⟨_, rfl⟩
  rw [← hm5] at p5' hixl
  have HDl : Hid (∀ W : World, Below w1.heap.size w1 W → Calls Tryz.prog 50 #[.slice (some ⟨g5, 0, none⟩) m5 c5, .int .i64 ix, .int .i64 ((ix : Int) + 1)] W fun u w' => u = .returned (.slice (some ⟨g5, 0, none⟩) (m5 - 1) c5) ∧ UF w0 w w' b gr n c i p q xi.f4 (.slice (some ⟨g5, 0, none⟩) m5 c5) (.slice (some ⟨g5, 0, none⟩) (m5 - 1) c5) (l.set p ⟨xp.f0, xp.f1, xp.f2, xp.f3, xp.f4, xp.f5.eraseIdx ix⟩)) :=
    Lib.hid (fun W hW1 => by
      have hW := hb1.trans (hW1.mono hb1.size)
      have ho := pw_own_below hown hW
      rw [← hm5] at ho
      refine (delInt.del w0.heap.size g5 m5 c5 ix (nums .i64 xp.f5) W ho (by omega) (fun u hu => by
        obtain ⟨z, _, rfl⟩ := List.mem_map.1 hu
        rfl) (by omega)).mono ?_
      rintro u w' ⟨rfl, ho', hg'⟩
      rw [nums_erase] at ho'
      have hle : (xp.f5.eraseIdx ix).length = m5 - 1 := by rw [List.length_eraseIdx_of_lt (by omega), hm5]
      exact ⟨rfl, UF.mk' hw hblk hty hS hpn hxp p5' i4' hW (by rw [hle]; exact ho') hg' (.inl rfl) rfl⟩)
  have HNp : Hid (∀ m, Calls Tryz.prog 48 #[.pointer (some ⟨b, 0, none⟩), .int .i64 s.f0.f1] (w1.drewN m) fun u w' => u = .returned (.pointer (some ⟨gr, p * 6, none⟩)) ∧ ∃ m', w' = w1.drewN m') :=
    Lib.hid (fun m => by rw [hp]; exact (unode_in b gr n c s.f0.f1 (w1.drewN m) (pw_cell_below (pw_below_drewN hb1 m) ((blk_cell hblk 0).trans rfl)) ⟨hp0, by omega⟩).mono fun e w' ⟨h1, h2⟩ => ⟨h1, m, h2.symm⟩)
  have HNi : Hid (∀ m, Calls Tryz.prog 48 #[.pointer (some ⟨b, 0, none⟩), .int .i64 s.f0.f2] (w1.drewN m) fun u w' => u = .returned (.pointer (some ⟨gr, i * 6, none⟩)) ∧ ∃ m', w' = w1.drewN m') :=
    Lib.hid (fun m => by rw [hi]; exact (unode_in b gr n c s.f0.f2 (w1.drewN m) (pw_cell_below (pw_below_drewN hb1 m) ((blk_cell hblk 0).trans rfl)) ⟨hi0, by omega⟩).mono fun e w' ⟨h1, h2⟩ => ⟨h1, m, h2.symm⟩)
  have HX : Hid (∀ W : World, Below w1.heap.size w1 W → W.cell? ⟨w.heap.size, 2, none⟩ = some (.int .i64 s.f0.f2) ∧ W.cell? ⟨w.heap.size, 15, none⟩ = some (.int .i64 (ix : Int)) ∧ W.cell? ⟨gr, p * 6 + 5, none⟩ = some (.slice (some ⟨g5, 0, none⟩) m5 c5) ∧ W.cell? ⟨g5, ix, none⟩ = some (.int .i64 s.f0.f2)) :=
    Lib.hid (fun W hW => by
      have hbw := hb1.trans (hW.mono hb1.size)
      exact ⟨(blk_cell (blk_below hbx hW) 2).trans rfl, pw_cell_below hW z15, pw_cell_below hbw p5', pw_cell_below hbw (by simpa [add_at] using hk5)⟩)
  have z1 : w1.cell? ⟨w.heap.size, 1, none⟩ = some (.int .i64 s.f0.f1) := (blk_cell hbx 1).trans rfl
  have z2 : w1.cell? ⟨w.heap.size, 2, none⟩ = some (.int .i64 s.f0.f2) := (blk_cell hbx 2).trans rfl
  have hixw : IntKind.i64.wrap ((ix : Int) + 1) = (ix : Int) + 1 := by rw [IntWalk.i64_left]; unfold wrap64; omega
  have HFin : Hid (∀ W, UF w0 w W b gr n c i p q xi.f4 (.slice (some ⟨g5, 0, none⟩) m5 c5) (.slice (some ⟨g5, 0, none⟩) (m5 - 1) c5) (l.set p ⟨xp.f0, xp.f1, xp.f2, xp.f3, xp.f4, xp.f5.eraseIdx ix⟩) → Ud ((W.setCell ⟨gr, p * 6 + 5, none⟩ (.slice (some ⟨g5, 0, none⟩) (m5 - 1) c5)).setCell ⟨gr, i * 6 + 4, none⟩ (.int .i64 (-1))) w0.heap.size b ((l.set p ⟨xp.f0, xp.f1, xp.f2, xp.f3, xp.f4, xp.f5.eraseIdx ix⟩).set i ⟨xi.f0, xi.f1, xi.f2, xi.f3, -1, xi.f5⟩) q ∧ Below w0.heap.size w0 ((W.setCell ⟨gr, p * 6 + 5, none⟩ (.slice (some ⟨g5, 0, none⟩) (m5 - 1) c5)).setCell ⟨gr, i * 6 + 4, none⟩ (.int .i64 (-1))) ∧ TF w ((W.setCell ⟨gr, p * 6 + 5, none⟩ (.slice (some ⟨g5, 0, none⟩) (m5 - 1) c5)).setCell ⟨gr, i * 6 + 4, none⟩ (.int .i64 (-1)))) :=
    Lib.hid (fun W hF => hF.end_ hB hbr hgb hin (by rw [List.getElem?_set_ne hpi]; exact hxi) (-1))
  have hg2 : (i * 6 + 4 = p * 6 + 5) = False := eq_false (by omega)
  have hgw1 : gr < w1.heap.size := Nat.lt_of_lt_of_le hgr hb1.size
  have hww1 : w.heap.size < w1.heap.size := blk_lt hbx
  have hixm : (ix : Int) < (m5 : Int) := by omega
  have hixd : decide ((m5 : Int) ≤ (ix : Int)) = false := decide_eq_false (by omega)
  clear hE hblk hS hw hB hn hxp hxi hrow hty hn2 hnc hbx hb1 hp0 hp1 hi0 hi1 hi hp hgb hbw cells hix h4k h4l hlk hne h40 h5 h5l hk5 hk5' p5 i4 p5' i4' hown hm5 z15
  unfold stepV HC at HW1 ⊢
  go_enter Tryz.func36, Tryz.ntmps36
  go_upto_region 1 with fail
  rw [← HW1.out]
  go_quiet ((go_at_call 48; first | with_reducible exact HNp.out _ | with_reducible exact HNi.out _))
  go_upto_region 2 with fail
  have hb2 : Below w1.heap.size w1 (w1.drewN nq) := pw_below_drewN (Below.refl _ _) nq
  generalize w1.drewN nq = w2 at hb2 ⊢
  have HB2 := Lib.hid hb2
  obtain ⟨y2, y15, y5, yk⟩ := HX.out w2 hb2
  clear hb2 z1 z2 HNp HNi HW1
  go_quiet (fail)
  go_upto_region 4 with fail
  have hb3 : Below w1.heap.size w1 (w2.drewN nq) := pw_below_drewN HB2.out nq
  clear y2 y15 y5 yk
  generalize w2.drewN nq = w3 at hb3 ⊢
  obtain ⟨y2, y15, y5, yk⟩ := HX.out w3 hb3
  have HB3 := Lib.hid hb3
  have HD3 : Hid (∀ W : World, Below w3.heap.size w3 W → Calls Tryz.prog 50 #[.slice (some ⟨g5, 0, none⟩) m5 c5, .int .i64 ix, .int .i64 ((ix : Int) + 1)] W fun u w' => u = .returned (.slice (some ⟨g5, 0, none⟩) (m5 - 1) c5) ∧ UF w0 w w' b gr n c i p q xi.f4 (.slice (some ⟨g5, 0, none⟩) m5 c5) (.slice (some ⟨g5, 0, none⟩) (m5 - 1) c5) (l.set p ⟨xp.f0, xp.f1, xp.f2, xp.f3, xp.f4, xp.f5.eraseIdx ix⟩)) :=
    Lib.hid (fun W h => HDl.out W (HB3.out.trans (h.mono HB3.out.size)))
  clear hb3 y2 yk HDl HB2 HX
  go_region_with (first | (with_reducible refine (HD3.out _ ?_).mono ?_; ((repeat (first | refine below_alloc ?_ _ | refine below_drew ?_)); exact Below.refl _ _); rintro e w4 ⟨rfl, hF⟩; have f1 := hF.c5; have f2 := hF.f5; have f3 := hF.c4; have f4 := hF.f4))
  all_goals
    have HF := Lib.hid hF
    clear hF f1 f2 f3 f4
    go_wp2_with fail
    go_ret
    exact ⟨rfl, HFin.out _ HF.out⟩
end Go.Proofs.YtmcinclecpeakaaGreatDoor.ApA
/- Package record: the undoer: removed. -/
namespace Go.Proofs.YtmcinclecpeakaaGreatDoor.ApA
open Go.RowKit Go.Proofs.YtmcinclecpeakaaGreatDoorW.PrintWords Go.Proofs.YtmcinclecpeakaaGreatDoorW.PrintLast Go.Proofs.YtmcinclecpeakaaGreatDoorW.PrintMore Go.Proofs.YtmcinclecpeakaaGreatDoor.PRR Go.Proofs.YtmcinclecpeakaaGreatDoor.DocP Go.Proofs.YtmcinclecpeakaaGreatDoor.DocC
set_option linter.unusedVariables false
set_option linter.unusedSimpArgs false
def T4rm : Bool × List (List Nat × List Nat) := (true, [([], []), ([], []), ([], []), ([2], [2]), ([3], [3]), ([4], [4]), ([], []), ([6], [6]), ([], []), ([8], [8]), ([9], [9]), ([10], [10]), ([5, 7, 11], [5, 7, 11]), ([], []), ([13], [13]), ([0, 0, 2, 3, 4, 5, 6, 7, 8, 9, 10, 11, 12], [0]), ([15, 0, 2, 3, 4, 5, 6, 7, 8, 9, 10, 11, 12], [15]), ([16, 12, 12, 0, 2, 3, 4, 5, 6, 7, 8, 9, 10, 11, 12], [12, 16]), ([1, 0, 1, 2, 3, 4, 5, 6, 7, 8, 9, 10, 11, 12, 13, 14, 15, 16, 17], [1]), ([18, 0, 1, 2, 3, 4, 5, 6, 7, 8, 9, 10, 11, 12, 13, 14, 15, 16, 17], [18]), ([19, 14, 17, 0, 1, 2, 3, 4, 5, 6, 7, 8, 9, 10, 11, 12, 13, 14, 15, 16, 17], [14, 19])])
def B4rm : List Nat := [0, 0, 0, 4, 12, 28, 0, 64, 0, 256, 768, 1792, 4092, 0, 8192, 8189, 40957, 106493, 262143, 524287, 1048575]
theorem tab4rm : rtab .any (opsOf Tryz.f37 4) = T4rm ∧ waitsOk T4rm.2 B4rm = true := ⟨by kernel_rfl, by kernel_rfl⟩
set_option maxRecDepth 100000 in
set_option maxHeartbeats 8000000 in
theorem u_removed (s : Stp) (A8 A11 : Option Addr) (n8 n11 c8 c11 : Nat) (l : List S43) (q : Bool) (b : Nat) (w0 w : World) (hw : Below w0.heap.size w0 w) (hE : Ud w w0.heap.size b l q)
    (hip : In l.length s.f3) (hii : In l.length s.f0.f1) (hz : s.f0.f1 ≠ 0) (hne : s.f3 ≠ s.f0.f1) (hpar : par l s.f0.f1 = -1) (h40 : 0 ≤ s.f4) (h4l : s.f4 ≤ ((kids l s.f3).length : Int)) (hlk : (kids l s.f3).length ≤ 1000) :
    Calls Tryz.prog 37 #[.pointer (some ⟨b, 0, none⟩), .agg (stepV s A8 A11 n8 n11 c8 c11)] w fun u w' => u = .returned (.bool true) ∧ Ud w' w0.heap.size b ((l.set s.f3.toNat { rd_T43 l s.f3 with f5 := (kids l s.f3).take s.f4.toNat ++ s.f0.f1 :: (kids l s.f3).drop s.f4.toNat }).set s.f0.f1.toNat { rd_T43 l s.f0.f1 with f4 := s.f3 }) q ∧ Below w0.heap.size w0 w' ∧ TF w w' := by
  obtain ⟨hp0, hp1⟩ := hip
  obtain ⟨hi0, hi1⟩ := hii
  have hxp := rd_some l ⟨hp0, hp1⟩
  have hxi := rd_some l ⟨hi0, hi1⟩
  obtain ⟨gr, c, n, hn, hB, hbr, hgr, hgb, hbw, hblk, ⟨cells, hty⟩, hS⟩ := ud_form hE (i := s.f3.toNat) (by omega)
  obtain ⟨hn2, hnc, hrow⟩ := Kd.S_reads' hS
  obtain ⟨adp, A2p, c2p, A5, c5, ep, -, -, -, -, -, p5, -, -, h5l, h5⟩ := at_T43 hrow s.f3 hp0 hp1
  cases ep
  obtain ⟨adi, A2i, c2i, A5i, c5i, ei, -, -, -, -, i4, -⟩ := at_T43 hrow s.f0.f1 hi0 hi1
  cases ei
  have hbx := step_box w s A8 A11 n8 n11 c8 c11 (Below.refl _ _)
  have hb1 : Below w.heap.size w (w.alloc (.cells (stepV s A8 A11 n8 n11 c8 c11) 48)) := below_alloc (Below.refl _ _) _
  obtain ⟨w1, hw1⟩ : ∃ w1, w1 = w.alloc (.cells (stepV s A8 A11 n8 n11 c8 c11) 48) := ⟨_, rfl⟩
  rw [← hw1] at hbx hb1
  have HW1 := Lib.hid hw1
  clear hw1
  have hpi : s.f3.toNat ≠ s.f0.f1.toNat := by omega
  have hkx : kids l s.f3 = (rd_T43 l s.f3).f5 := rfl
  rw [hkx] at h4l hlk ⊢
  have hpx : (rd_T43 l s.f0.f1).f4 = -1 := hpar
  clear hpar
  clear hkx
  generalize rd_T43 l s.f3 = xp at *
  generalize rd_T43 l s.f0.f1 = xi at *
  obtain ⟨i, hi⟩ : ∃ i, i = s.f0.f1.toNat := ⟨_, rfl⟩
  obtain ⟨p, hp⟩ : ∃ p, p = s.f3.toNat := ⟨_, rfl⟩
  rw [← hi] at i4 hxi hpi ⊢
  rw [← hp] at p5 hxp hpi ⊢
  obtain ⟨ix, hix⟩ : ∃ ix : Nat, (ix : Int) = s.f4 := ⟨s.f4.toNat, by omega⟩
  have z15 : w1.cell? ⟨w.heap.size, 15, none⟩ = some (.int .i64 (ix : Int)) := by rw [hix]; exact (blk_cell hbx 15).trans rfl
  rw [← hix, Int.toNat_natCast]
  rw [← hix] at h4l
  have hpn : p < n := by omega
  have hin : i < n := by omega
  have hixl : ix ≤ xp.f5.length := by omega
  have p5' : w.cell? ⟨gr, p * 6 + 5, none⟩ = some (.slice A5 xp.f5.length c5) := by simpa [add_at] using p5
  have i4' : w.cell? ⟨gr, i * 6 + 4, none⟩ = some (.int .i64 (-1)) := by rw [hpx] at i4; simpa [add_at] using i4
  have hown := (ed_kids hS hpn hxp p5').1
  obtain ⟨m5, hm5⟩ : ∃ m5, m5 = xp.f5.length := ⟨_, rfl⟩
  rw [← hm5] at p5' hixl
  have HDl : Hid (∀ (W : World) (vb : Nat), Below w1.heap.size w1 W → w1.heap.size ≤ vb → W.heap[vb]? = some (.cells #[.int .i64 s.f0.f1] 3 (0, 0)) → Calls Tryz.prog 51 #[.slice A5 m5 c5, .int .i64 ix, .slice (some ⟨vb, 0, none⟩) 1 1] W fun u w' => ∃ A6 c6, u = .returned (.slice A6 (m5 + 1) c6) ∧ (w'.cell? ⟨w.heap.size, 15, none⟩ = some (.int .i64 (ix : Int)) ∧ w'.cell? ⟨w.heap.size, 14, none⟩ = some (.int .i64 s.f3) ∧ w'.cell? ⟨w.heap.size, 1, none⟩ = some (.int .i64 s.f0.f1)) ∧ UF w0 w w' b gr n c i p q (-1) (.slice A5 m5 c5) (.slice A6 (m5 + 1) c6) (l.set p ⟨xp.f0, xp.f1, xp.f2, xp.f3, xp.f4, xp.f5.take ix ++ s.f0.f1 :: xp.f5.drop ix⟩)) :=
    Lib.hid (fun W vb hW1 hvb hc => by
      have hW := hb1.trans (hW1.mono hb1.size)
      have ho := pw_own_below hown hW
      have hlt := own_lt hown
      rw [← hm5] at ho
      refine (ins_any A5 c5 m5 ix xp.f5 s.f0.f1 vb w0.heap.size W ho hc (fun he => by have := hlt vb (by rw [← hm5]; exact he.symm); have := hb1.size; omega) (by omega) (by omega) (Nat.le_trans hw.size hW.size)).mono ?_
      rintro u w' ⟨v', rfl, ho', hg', hat'⟩
      obtain ⟨A6, c6, rfl⟩ := own_slice ho'
      have hbw := blk_grown (blk_below hbx hW1) hg' (fun he => by have := hlt w.heap.size (by rw [← hm5]; exact he.symm); omega)
      have hle : (xp.f5.take ix ++ s.f0.f1 :: xp.f5.drop ix).length = m5 + 1 := by simp; omega
      refine ⟨A6, c6, rfl, ⟨by rw [hix]; exact (blk_cell hbw 15).trans rfl, (blk_cell hbw 14).trans rfl, (blk_cell hbw 1).trans rfl⟩, UF.mk' hw hblk hty hS hpn hxp p5' i4' hW (by rw [hle]; exact ho') hg' hat' (by simp [Value.oneCell'])⟩)
  have HNp : Hid (∀ m, Calls Tryz.prog 48 #[.pointer (some ⟨b, 0, none⟩), .int .i64 s.f3] (w1.drewN m) fun u w' => u = .returned (.pointer (some ⟨gr, p * 6, none⟩)) ∧ ∃ m', w' = w1.drewN m') :=
    Lib.hid (fun m => by rw [hp]; exact (unode_in b gr n c s.f3 (w1.drewN m) (pw_cell_below (pw_below_drewN hb1 m) ((blk_cell hblk 0).trans rfl)) ⟨hp0, by omega⟩).mono fun e w' ⟨h1, h2⟩ => ⟨h1, m, h2.symm⟩)
  have HNi : Hid (∀ m, Calls Tryz.prog 48 #[.pointer (some ⟨b, 0, none⟩), .int .i64 s.f0.f1] (w1.drewN m) fun u w' => u = .returned (.pointer (some ⟨gr, i * 6, none⟩)) ∧ ∃ m', w' = w1.drewN m') :=
    Lib.hid (fun m => by rw [hi]; exact (unode_in b gr n c s.f0.f1 (w1.drewN m) (pw_cell_below (pw_below_drewN hb1 m) ((blk_cell hblk 0).trans rfl)) ⟨hi0, by omega⟩).mono fun e w' ⟨h1, h2⟩ => ⟨h1, m, h2.symm⟩)
  have HX : Hid (∀ W : World, Below w1.heap.size w1 W → W.cell? ⟨w.heap.size, 1, none⟩ = some (.int .i64 s.f0.f1) ∧ W.cell? ⟨w.heap.size, 15, none⟩ = some (.int .i64 (ix : Int)) ∧ W.cell? ⟨gr, p * 6 + 5, none⟩ = some (.slice A5 m5 c5) ∧ W.cell? ⟨gr, i * 6 + 4, none⟩ = some (.int .i64 (-1)) ∧ W.cell? ⟨w.heap.size, 14, none⟩ = some (.int .i64 s.f3)) :=
    Lib.hid (fun W hW => by
      have hbw := hb1.trans (hW.mono hb1.size)
      exact ⟨(blk_cell (blk_below hbx hW) 1).trans rfl, pw_cell_below hW z15, pw_cell_below hbw p5', pw_cell_below hbw i4', (blk_cell (blk_below hbx hW) 14).trans rfl⟩)
  have z1 : w1.cell? ⟨w.heap.size, 1, none⟩ = some (.int .i64 s.f0.f1) := (blk_cell hbx 1).trans rfl
  have z2 : w1.cell? ⟨w.heap.size, 14, none⟩ = some (.int .i64 s.f3) := (blk_cell hbx 14).trans rfl
  have HFin : Hid (∀ W A6 c6, UF w0 w W b gr n c i p q (-1) (.slice A5 m5 c5) (.slice A6 (m5 + 1) c6) (l.set p ⟨xp.f0, xp.f1, xp.f2, xp.f3, xp.f4, xp.f5.take ix ++ s.f0.f1 :: xp.f5.drop ix⟩) → Ud ((W.setCell ⟨gr, p * 6 + 5, none⟩ (.slice A6 (m5 + 1) c6)).setCell ⟨gr, i * 6 + 4, none⟩ (.int .i64 s.f3)) w0.heap.size b ((l.set p ⟨xp.f0, xp.f1, xp.f2, xp.f3, xp.f4, xp.f5.take ix ++ s.f0.f1 :: xp.f5.drop ix⟩).set i ⟨xi.f0, xi.f1, xi.f2, xi.f3, s.f3, xi.f5⟩) q ∧ Below w0.heap.size w0 ((W.setCell ⟨gr, p * 6 + 5, none⟩ (.slice A6 (m5 + 1) c6)).setCell ⟨gr, i * 6 + 4, none⟩ (.int .i64 s.f3)) ∧ TF w ((W.setCell ⟨gr, p * 6 + 5, none⟩ (.slice A6 (m5 + 1) c6)).setCell ⟨gr, i * 6 + 4, none⟩ (.int .i64 s.f3))) :=
    Lib.hid (fun W A6 c6 hF => hF.end_ hB hbr hgb hin (by rw [List.getElem?_set_ne hpi]; exact hxi) s.f3)
  have hg2 : (i * 6 + 4 = p * 6 + 5) = False := eq_false (by omega)
  have hgw1 : gr < w1.heap.size := Nat.lt_of_lt_of_le hgr hb1.size
  have hww1 : w.heap.size < w1.heap.size := blk_lt hbx
  have hixm : (ix : Int) ≤ (m5 : Int) := by omega
  have hixd : decide ((m5 : Int) < (ix : Int)) = false := decide_eq_false (by omega)
  have hzb : (s.f0.f1 == 0) = false := by simpa using hz
  clear hE hblk hS hw hB hn hxp hxi hrow hty hn2 hnc hbx hb1 hp0 hp1 hi0 hi1 hi hp hgb hbw cells hix h4l hlk hne h40 h5 h5l p5 i4 p5' i4' hown hm5 z15 hz hpx
  unfold stepV HC at HW1 ⊢
  go_enter Tryz.func37, Tryz.ntmps37
  go_upto_region 1 with fail
  rw [← HW1.out]
  go_quiet ((go_at_call 48; first | with_reducible exact HNp.out _ | with_reducible exact HNi.out _))
  go_upto_region 2 with fail
  have hb2 : Below w1.heap.size w1 (w1.drewN nq) := pw_below_drewN (Below.refl _ _) nq
  generalize w1.drewN nq = w2 at hb2 ⊢
  have HB2 := Lib.hid hb2
  obtain ⟨y2, y15, y5, yk, y14⟩ := HX.out w2 hb2
  clear hb2 z1 z2 HNp HNi HW1
  go_quiet (fail)
  go_upto_region 4 with fail
  have hb3 : Below w1.heap.size w1 (w2.drewN nq) := pw_below_drewN HB2.out nq
  clear y2 y15 y5 yk y14
  generalize w2.drewN nq = w3 at hb3 ⊢
  obtain ⟨y2, y15, y5, yk, y14⟩ := HX.out w3 hb3
  have HB3 := Lib.hid hb3
  have HD3 : Hid (∀ (W : World) (vb : Nat), Below w3.heap.size w3 W → w3.heap.size ≤ vb → W.heap[vb]? = some (.cells #[.int .i64 s.f0.f1] 3 (0, 0)) → Calls Tryz.prog 51 #[.slice A5 m5 c5, .int .i64 ix, .slice (some ⟨vb, 0, none⟩) 1 1] W fun u w' => ∃ A6 c6, u = .returned (.slice A6 (m5 + 1) c6) ∧ (w'.cell? ⟨w.heap.size, 15, none⟩ = some (.int .i64 (ix : Int)) ∧ w'.cell? ⟨w.heap.size, 14, none⟩ = some (.int .i64 s.f3) ∧ w'.cell? ⟨w.heap.size, 1, none⟩ = some (.int .i64 s.f0.f1)) ∧ UF w0 w w' b gr n c i p q (-1) (.slice A5 m5 c5) (.slice A6 (m5 + 1) c6) (l.set p ⟨xp.f0, xp.f1, xp.f2, xp.f3, xp.f4, xp.f5.take ix ++ s.f0.f1 :: xp.f5.drop ix⟩)) :=
    Lib.hid (fun W vb h h2 h3 => HDl.out W vb (HB3.out.trans (h.mono HB3.out.size)) (Nat.le_trans HB3.out.size h2) h3)
  have hgw3 : gr < w3.heap.size := Nat.lt_of_lt_of_le hgw1 hb3.size
  have hww3 : w.heap.size < w3.heap.size := Nat.lt_of_lt_of_le hww1 hb3.size
  have HX3 : Hid (∀ W : World, Below w3.heap.size w3 W → W.cell? ⟨gr, p * 6 + 5, none⟩ = some (.slice A5 m5 c5) ∧ W.cell? ⟨w.heap.size, 15, none⟩ = some (.int .i64 (ix : Int)) ∧ W.cell? ⟨w.heap.size, 14, none⟩ = some (.int .i64 s.f3) ∧ W.cell? ⟨w.heap.size, 1, none⟩ = some (.int .i64 s.f0.f1)) := Lib.hid (fun W h => by
    obtain ⟨a1, a2, a3, a4, a5⟩ := HX.out W (HB3.out.trans (h.mono HB3.out.size))
    exact ⟨a3, a2, a5, a1⟩)
  clear hb3 yk HDl HB2 HX
  refine start_ (n := 21) (S := fun w' => w'.cell? ⟨w.heap.size, 15, none⟩ = some (.int .i64 (ix : Int)) ∧ w'.cell? ⟨w.heap.size, 14, none⟩ = some (.int .i64 s.f3) ∧ w'.cell? ⟨w.heap.size, 1, none⟩ = some (.int .i64 s.f0.f1)) (ds := []) #[false, false, false, false, false, false, false, false, false, false, false, false, false, false, false, false, false, false, false, false, false] (by kernel_rfl) rfl rfl (HX3.out _ (below_drew (Below.refl _ _))).2 (fun hHeld => ?_)
  refine with_tabW tab4rm.1 tab4rm.2 (fun HT_ HW_ => ?_)
  have hbr := below_drew (Below.refl w3.heap.size w3)
  generalize w3.drew = w_0 at hHeld hbr ⊢
  refine pure_ (i := 0) (N := some 50) (v := ?_) (a' := ?_) #[true, false, false, false, false, false, false, false, false, false, false, false, false, false, false, false, false, false, false, false, false] rfl rfl (any_of HT_.out (by kernel_rfl)) (fun _ _ _ h => h) (Or.inl ⟨by rfl, ?_⟩) ?_ ?_
  rotate_left
  · intro w'
    go_simp
    with_reducible rfl
  rotate_left
  · simp only [Act.put, List.setIfInBounds_toArray, List.set_cons_zero, List.set_cons_succ, i64_w, i32_w]
    rfl
  refine pure_ (i := 1) (N := some 51) (v := ?_) (a' := ?_) #[true, true, false, false, false, false, false, false, false, false, false, false, false, false, false, false, false, false, false, false, false] rfl rfl (any_of HT_.out (by kernel_rfl)) (fun _ _ _ h => h) (Or.inl ⟨by rfl, ?_⟩) ?_ ?_
  rotate_left
  · intro w'
    go_simp
    with_reducible rfl
  rotate_left
  · simp only [Act.put, List.setIfInBounds_toArray, List.set_cons_zero, List.set_cons_succ, i64_w, i32_w]
    rfl
  refine pure_ (i := 2) (N := some 52) (v := ?_) (a' := ?_) #[true, true, true, false, false, false, false, false, false, false, false, false, false, false, false, false, false, false, false, false, false] rfl rfl (any_of HT_.out (by kernel_rfl)) (fun _ _ _ h => h) (Or.inl ⟨by rfl, ?_⟩) ?_ ?_
  rotate_left
  · intro w'
    go_simp
    with_reducible rfl
  rotate_left
  · simp only [Act.put, List.setIfInBounds_toArray, List.set_cons_zero, List.set_cons_succ, i64_w, i32_w]
    rfl
  refine pure_ (i := 3) (N := some 53) (v := ?_) (a' := ?_) #[true, true, true, true, false, false, false, false, false, false, false, false, false, false, false, false, false, false, false, false, false] rfl rfl (any_of HT_.out (by kernel_rfl)) (fun _ _ _ h => h) (Or.inl ⟨by rfl, ?_⟩) ?_ ?_
  rotate_left
  · intro w'
    go_simp
    with_reducible rfl
  rotate_left
  · simp only [Act.put, List.setIfInBounds_toArray, List.set_cons_zero, List.set_cons_succ, i64_w, i32_w]
    rfl
  refine pure_ (i := 4) (N := some 54) (v := ?_) (a' := ?_) #[true, true, true, true, true, false, false, false, false, false, false, false, false, false, false, false, false, false, false, false, false] rfl rfl (any_of HT_.out (by kernel_rfl)) (fun _ _ _ h => h) (Or.inl ⟨by rfl, ?_⟩) ?_ ?_
  rotate_left
  · intro w'
    go_simp
    with_reducible rfl
  rotate_left
  · simp only [Act.put, List.setIfInBounds_toArray, List.set_cons_zero, List.set_cons_succ, i64_w, i32_w]
    rfl
  refine pure_ (i := 6) (N := some 56) (v := ?_) (a' := ?_) #[true, true, true, true, true, false, true, false, false, false, false, false, false, false, false, false, false, false, false, false, false] rfl rfl (any_of HT_.out (by kernel_rfl)) (fun _ _ _ h => h) (Or.inl ⟨by rfl, ?_⟩) ?_ ?_
  rotate_left
  · intro w'
    go_simp
    with_reducible rfl
  rotate_left
  · simp only [Act.put, List.setIfInBounds_toArray, List.set_cons_zero, List.set_cons_succ, i64_w, i32_w]
    rfl
  refine pure_ (i := 8) (N := some 58) (v := ?_) (a' := ?_) #[true, true, true, true, true, false, true, false, true, false, false, false, false, false, false, false, false, false, false, false, false] rfl rfl (any_of HT_.out (by kernel_rfl)) (fun _ _ _ h => h) (Or.inl ⟨by rfl, ?_⟩) ?_ ?_
  rotate_left
  · intro w'
    go_simp
    with_reducible rfl
  rotate_left
  · simp only [Act.put, List.setIfInBounds_toArray, List.set_cons_zero, List.set_cons_succ, i64_w, i32_w]
    rfl
  refine pure_ (i := 9) (N := some 59) (v := ?_) (a' := ?_) #[true, true, true, true, true, false, true, false, true, true, false, false, false, false, false, false, false, false, false, false, false] rfl rfl (any_of HT_.out (by kernel_rfl)) (fun _ _ _ h => h) (Or.inl ⟨by rfl, ?_⟩) ?_ ?_
  rotate_left
  · intro w'
    go_simp
    with_reducible rfl
  rotate_left
  · simp only [Act.put, List.setIfInBounds_toArray, List.set_cons_zero, List.set_cons_succ, i64_w, i32_w]
    rfl
  refine pure_ (i := 13) (N := some 63) (v := ?_) (a' := ?_) #[true, true, true, true, true, false, true, false, true, true, false, false, false, true, false, false, false, false, false, false, false] rfl rfl (any_of HT_.out (by kernel_rfl)) (fun _ _ _ h => h) (Or.inl ⟨by rfl, ?_⟩) ?_ ?_
  rotate_left
  · intro w'
    go_simp
    with_reducible rfl
  rotate_left
  · simp only [Act.put, List.setIfInBounds_toArray, List.set_cons_zero, List.set_cons_succ, i64_w, i32_w]
    rfl
  refine take_ (i := 7) (N := some 57) (v := ?_) (a' := ?_) #[true, true, true, true, true, false, true, true, true, true, false, false, false, true, false, false, false, false, false, false, false] rfl rfl (take_ofW HT_.out HW_.out (by kernel_rfl)) (fun _ _ _ h => h) (Or.inl ⟨by rfl, ?_⟩) hHeld ?_ ?_
  rotate_left
  · rintro w' ⟨s0, s1, s2⟩
    go_simp
    with_reducible rfl
  rotate_left
  · simp only [Act.put, List.setIfInBounds_toArray, List.set_cons_zero, List.set_cons_succ, i64_w, i32_w]
    rfl
  refine take_ (i := 10) (N := some 60) (v := ?_) (a' := ?_) #[true, true, true, true, true, false, true, true, true, true, true, false, false, true, false, false, false, false, false, false, false] rfl rfl (take_ofW HT_.out HW_.out (by kernel_rfl)) (fun _ _ _ h => h) (Or.inl ⟨by rfl, ?_⟩) hHeld ?_ ?_
  rotate_left
  · rintro w' ⟨s0, s1, s2⟩
    go_simp
    with_reducible rfl
  rotate_left
  · simp only [Act.put, List.setIfInBounds_toArray, List.set_cons_zero, List.set_cons_succ, i64_w, i32_w]
    rfl
  refine take_ (i := 14) (N := some 64) (v := ?_) (a' := ?_) #[true, true, true, true, true, false, true, true, true, true, true, false, false, true, true, false, false, false, false, false, false] rfl rfl (take_ofW HT_.out HW_.out (by kernel_rfl)) (fun _ _ _ h => h) (Or.inl ⟨by rfl, ?_⟩) hHeld ?_ ?_
  rotate_left
  · rintro w' ⟨s0, s1, s2⟩
    go_simp
    with_reducible rfl
  rotate_left
  · simp only [Act.put, List.setIfInBounds_toArray, List.set_cons_zero, List.set_cons_succ, i64_w, i32_w]
    rfl
  refine two_ (i := 5) (j := 11) (Ni := some 55) (Nj := some 61) #[true, true, true, true, true, true, true, true, true, true, true, false, false, true, true, false, false, false, false, false, false] #[true, true, true, true, true, false, true, true, true, true, true, true, false, true, true, false, false, false, false, false, false] rfl rfl rfl rfl (two_of HT_.out (by kernel_rfl)) (by decide) (by decide) (fun K hK => ?_) (fun K hK => ?_)
  · have hkc := (HX3.out _ hbr).1
    refine event_step (by rfl) (v := .slice A5 m5 c5) (w1 := w_0) (by first | (go_simp; done) | (go_simp; rfl)) ?_
    clear hkc
    refine hK.out _ _ (HX3.out _ hbr).2 (fun hHeld => ?_)
    clear hK K
    refine norm_ (a' := ?_) ?_ ?_
    rotate_left
    · show Act.put _ (some 55) _ = _
      simp only [Act.put, List.setIfInBounds_toArray, List.set_cons_zero, List.set_cons_succ, i64_w, i32_w]
      rfl
    refine one_ (i := 11) (N := some 61) #[true, true, true, true, true, true, true, true, true, true, true, true, false, true, true, false, false, false, false, false, false] rfl rfl (one_of HT_.out (by kernel_rfl)) (by decide) (fun K hK => ?_)
    refine event_step (by rfl) (v := .slice (some ⟨w_0.heap.size, 0, none⟩) 1 1) (w1 := w_0.alloc (.cells #[.int .i64 s.f0.f1] 3)) (by first | (go_simp; done) | (go_simp; rfl)) ?_
    have hkl := blk_new w_0 (.cells #[.int .i64 s.f0.f1] 3)
    have hvb : w3.heap.size ≤ w_0.heap.size := hbr.size
    replace hbr : Below w3.heap.size w3 (w_0.alloc (.cells #[.int .i64 s.f0.f1] 3)) := below_alloc hbr _
    generalize w_0.alloc (.cells #[.int .i64 s.f0.f1] 3) = w_l at hkl hbr ⊢
    generalize w_0.heap.size = vb at hkl hvb ⊢
    refine hK.out _ _ (HX3.out _ hbr).2 (fun hHeld => ?_)
    clear hK K
    refine norm_ (a' := ?_) ?_ ?_
    rotate_left
    · show Act.put _ (some 61) _ = _
      simp only [Act.put, List.setIfInBounds_toArray, List.set_cons_zero, List.set_cons_succ, i64_w, i32_w]
      rfl
    refine one_ (i := 12) (N := some 62) #[true, true, true, true, true, true, true, true, true, true, true, true, true, true, true, false, false, false, false, false, false] rfl rfl (one_of HT_.out (by kernel_rfl)) (by decide) (fun K hK => ?_)
    refine goes_ Tryz.func51 (by kernel_rfl) rfl #[.slice A5 m5 c5, .int .i64 (ix : Int), .slice (some ⟨vb, 0, none⟩) 1 1] (by rfl) rfl rfl (by (try simp only [List.map_toArray, List.map_cons, List.map_nil]); first | done | rfl) ?_
    refine (HD3.out w_l vb hbr hvb hkl).mono ?_
    rintro u_ w4 ⟨A6, c6, rfl, ⟨f15, f14, f1⟩, hF⟩
    refine ⟨_, rfl, ?_⟩
    refine hK.out _ _ ⟨f15, f14, f1⟩ (fun hHeld => ?_)
    clear hK K
    refine norm_ (a' := ?_) ?_ ?_
    rotate_left
    · show Act.put _ (some 62) _ = _
      simp only [Act.put, List.setIfInBounds_toArray, List.set_cons_zero, List.set_cons_succ, i64_w, i32_w]
      rfl
    refine pure_ (i := 15) (N := some 65) (v := ?_) (a' := ?_) #[true, true, true, true, true, true, true, true, true, true, true, true, true, true, true, true, false, false, false, false, false] rfl rfl (any_of HT_.out (by kernel_rfl)) (fun _ _ _ h => h) (Or.inl ⟨by rfl, ?_⟩) ?_ ?_
    rotate_left
    · intro w'
      go_simp
      with_reducible rfl
    rotate_left
    · simp only [Act.put, List.setIfInBounds_toArray, List.set_cons_zero, List.set_cons_succ, i64_w, i32_w]
      rfl
    refine pure_ (i := 16) (N := some 66) (v := ?_) (a' := ?_) #[true, true, true, true, true, true, true, true, true, true, true, true, true, true, true, true, true, false, false, false, false] rfl rfl (any_of HT_.out (by kernel_rfl)) (fun _ _ _ h => h) (Or.inl ⟨by rfl, ?_⟩) ?_ ?_
    rotate_left
    · intro w'
      go_simp
      with_reducible rfl
    rotate_left
    · simp only [Act.put, List.setIfInBounds_toArray, List.set_cons_zero, List.set_cons_succ, i64_w, i32_w]
      rfl
    refine one_ (i := 17) (N := none) #[true, true, true, true, true, true, true, true, true, true, true, true, true, true, true, true, true, true, false, false, false] rfl rfl (one_of HT_.out (by kernel_rfl)) (by decide) (fun K hK => ?_)
    have hc5 := hF.c5
    have hf5 := hF.f5
    refine skip_ (w1 := ?_) (by rfl) rfl ?_ ?_
    rotate_left
    · go_simp
      rfl
    clear hc5 hf5
    refine hK.out _ _ ⟨(World.cell?_of_block (Below.heap_setCell w4 _ _ w.heap.size (by show w.heap.size ≠ gr; omega))).trans f15, (World.cell?_of_block (Below.heap_setCell w4 _ _ w.heap.size (by show w.heap.size ≠ gr; omega))).trans f14, (World.cell?_of_block (Below.heap_setCell w4 _ _ w.heap.size (by show w.heap.size ≠ gr; omega))).trans f1⟩ (fun hHeld => ?_)
    clear hK K
    refine pure_ (i := 18) (N := some 67) (v := ?_) (a' := ?_) #[true, true, true, true, true, true, true, true, true, true, true, true, true, true, true, true, true, true, true, false, false] rfl rfl (any_of HT_.out (by kernel_rfl)) (fun _ _ _ h => h) (Or.inl ⟨by rfl, ?_⟩) ?_ ?_
    rotate_left
    · intro w'
      go_simp
      with_reducible rfl
    rotate_left
    · simp only [Act.put, List.setIfInBounds_toArray, List.set_cons_zero, List.set_cons_succ, i64_w, i32_w]
      rfl
    refine pure_ (i := 19) (N := some 68) (v := ?_) (a' := ?_) #[true, true, true, true, true, true, true, true, true, true, true, true, true, true, true, true, true, true, true, true, false] rfl rfl (any_of HT_.out (by kernel_rfl)) (fun _ _ _ h => h) (Or.inl ⟨by rfl, ?_⟩) ?_ ?_
    rotate_left
    · intro w'
      go_simp
      with_reducible rfl
    rotate_left
    · simp only [Act.put, List.setIfInBounds_toArray, List.set_cons_zero, List.set_cons_succ, i64_w, i32_w]
      rfl
    refine one_ (i := 20) (N := none) #[true, true, true, true, true, true, true, true, true, true, true, true, true, true, true, true, true, true, true, true, true] rfl rfl (one_of HT_.out (by kernel_rfl)) (by decide) (fun K hK => ?_)
    have hc4 := hF.c4
    have hf4 := hF.f4
    refine skip_ (w1 := ?_) (by rfl) rfl ?_ ?_
    rotate_left
    · go_simp
      rfl
    clear hc4 hf4
    refine hK.out _ _ ⟨(World.cell?_of_block (Below.heap_setCell _ _ _ w.heap.size (by show w.heap.size ≠ gr; omega))).trans ((World.cell?_of_block (Below.heap_setCell w4 _ _ w.heap.size (by show w.heap.size ≠ gr; omega))).trans f15), (World.cell?_of_block (Below.heap_setCell _ _ _ w.heap.size (by show w.heap.size ≠ gr; omega))).trans ((World.cell?_of_block (Below.heap_setCell w4 _ _ w.heap.size (by show w.heap.size ≠ gr; omega))).trans f14), (World.cell?_of_block (Below.heap_setCell _ _ _ w.heap.size (by show w.heap.size ≠ gr; omega))).trans ((World.cell?_of_block (Below.heap_setCell w4 _ _ w.heap.size (by show w.heap.size ≠ gr; omega))).trans f1)⟩ (fun hHeld => ?_)
    clear hK K
    refine done_ (done_of HT_.out (by kernel_rfl)) ?_
    have HF := Lib.hid hF
    clear hF
    go_wp2_with fail
    go_ret
    exact ⟨rfl, HFin.out _ _ _ HF.out⟩
  · refine event_step (by rfl) (v := .slice (some ⟨w_0.heap.size, 0, none⟩) 1 1) (w1 := w_0.alloc (.cells #[.int .i64 s.f0.f1] 3)) (by first | (go_simp; done) | (go_simp; rfl)) ?_
    have hkl := blk_new w_0 (.cells #[.int .i64 s.f0.f1] 3)
    have hvb : w3.heap.size ≤ w_0.heap.size := hbr.size
    replace hbr : Below w3.heap.size w3 (w_0.alloc (.cells #[.int .i64 s.f0.f1] 3)) := below_alloc hbr _
    generalize w_0.alloc (.cells #[.int .i64 s.f0.f1] 3) = w_l at hkl hbr ⊢
    generalize w_0.heap.size = vb at hkl hvb ⊢
    refine hK.out _ _ (HX3.out _ hbr).2 (fun hHeld => ?_)
    clear hK K
    refine norm_ (a' := ?_) ?_ ?_
    rotate_left
    · show Act.put _ (some 61) _ = _
      simp only [Act.put, List.setIfInBounds_toArray, List.set_cons_zero, List.set_cons_succ, i64_w, i32_w]
      rfl
    refine one_ (i := 5) (N := some 55) #[true, true, true, true, true, true, true, true, true, true, true, true, false, true, true, false, false, false, false, false, false] rfl rfl (one_of HT_.out (by kernel_rfl)) (by decide) (fun K hK => ?_)
    have hkc := (HX3.out _ hbr).1
    refine event_step (by rfl) (v := .slice A5 m5 c5) (w1 := w_l) (by first | (go_simp; done) | (go_simp; rfl)) ?_
    clear hkc
    refine hK.out _ _ (HX3.out _ hbr).2 (fun hHeld => ?_)
    clear hK K
    refine norm_ (a' := ?_) ?_ ?_
    rotate_left
    · show Act.put _ (some 55) _ = _
      simp only [Act.put, List.setIfInBounds_toArray, List.set_cons_zero, List.set_cons_succ, i64_w, i32_w]
      rfl
    refine one_ (i := 12) (N := some 62) #[true, true, true, true, true, true, true, true, true, true, true, true, true, true, true, false, false, false, false, false, false] rfl rfl (one_of HT_.out (by kernel_rfl)) (by decide) (fun K hK => ?_)
    refine goes_ Tryz.func51 (by kernel_rfl) rfl #[.slice A5 m5 c5, .int .i64 (ix : Int), .slice (some ⟨vb, 0, none⟩) 1 1] (by rfl) rfl rfl (by (try simp only [List.map_toArray, List.map_cons, List.map_nil]); first | done | rfl) ?_
    refine (HD3.out w_l vb hbr hvb hkl).mono ?_
    rintro u_ w4 ⟨A6, c6, rfl, ⟨f15, f14, f1⟩, hF⟩
    refine ⟨_, rfl, ?_⟩
    refine hK.out _ _ ⟨f15, f14, f1⟩ (fun hHeld => ?_)
    clear hK K
    refine norm_ (a' := ?_) ?_ ?_
    rotate_left
    · show Act.put _ (some 62) _ = _
      simp only [Act.put, List.setIfInBounds_toArray, List.set_cons_zero, List.set_cons_succ, i64_w, i32_w]
      rfl
    refine pure_ (i := 15) (N := some 65) (v := ?_) (a' := ?_) #[true, true, true, true, true, true, true, true, true, true, true, true, true, true, true, true, false, false, false, false, false] rfl rfl (any_of HT_.out (by kernel_rfl)) (fun _ _ _ h => h) (Or.inl ⟨by rfl, ?_⟩) ?_ ?_
    rotate_left
    · intro w'
      go_simp
      with_reducible rfl
    rotate_left
    · simp only [Act.put, List.setIfInBounds_toArray, List.set_cons_zero, List.set_cons_succ, i64_w, i32_w]
      rfl
    refine pure_ (i := 16) (N := some 66) (v := ?_) (a' := ?_) #[true, true, true, true, true, true, true, true, true, true, true, true, true, true, true, true, true, false, false, false, false] rfl rfl (any_of HT_.out (by kernel_rfl)) (fun _ _ _ h => h) (Or.inl ⟨by rfl, ?_⟩) ?_ ?_
    rotate_left
    · intro w'
      go_simp
      with_reducible rfl
    rotate_left
    · simp only [Act.put, List.setIfInBounds_toArray, List.set_cons_zero, List.set_cons_succ, i64_w, i32_w]
      rfl
    refine one_ (i := 17) (N := none) #[true, true, true, true, true, true, true, true, true, true, true, true, true, true, true, true, true, true, false, false, false] rfl rfl (one_of HT_.out (by kernel_rfl)) (by decide) (fun K hK => ?_)
    have hc5 := hF.c5
    have hf5 := hF.f5
    refine skip_ (w1 := ?_) (by rfl) rfl ?_ ?_
    rotate_left
    · go_simp
      rfl
    clear hc5 hf5
    refine hK.out _ _ ⟨(World.cell?_of_block (Below.heap_setCell w4 _ _ w.heap.size (by show w.heap.size ≠ gr; omega))).trans f15, (World.cell?_of_block (Below.heap_setCell w4 _ _ w.heap.size (by show w.heap.size ≠ gr; omega))).trans f14, (World.cell?_of_block (Below.heap_setCell w4 _ _ w.heap.size (by show w.heap.size ≠ gr; omega))).trans f1⟩ (fun hHeld => ?_)
    clear hK K
    refine pure_ (i := 18) (N := some 67) (v := ?_) (a' := ?_) #[true, true, true, true, true, true, true, true, true, true, true, true, true, true, true, true, true, true, true, false, false] rfl rfl (any_of HT_.out (by kernel_rfl)) (fun _ _ _ h => h) (Or.inl ⟨by rfl, ?_⟩) ?_ ?_
    rotate_left
    · intro w'
      go_simp
      with_reducible rfl
    rotate_left
    · simp only [Act.put, List.setIfInBounds_toArray, List.set_cons_zero, List.set_cons_succ, i64_w, i32_w]
      rfl
    refine pure_ (i := 19) (N := some 68) (v := ?_) (a' := ?_) #[true, true, true, true, true, true, true, true, true, true, true, true, true, true, true, true, true, true, true, true, false] rfl rfl (any_of HT_.out (by kernel_rfl)) (fun _ _ _ h => h) (Or.inl ⟨by rfl, ?_⟩) ?_ ?_
    rotate_left
    · intro w'
      go_simp
      with_reducible rfl
    rotate_left
    · simp only [Act.put, List.setIfInBounds_toArray, List.set_cons_zero, List.set_cons_succ, i64_w, i32_w]
      rfl
    refine one_ (i := 20) (N := none) #[true, true, true, true, true, true, true, true, true, true, true, true, true, true, true, true, true, true, true, true, true] rfl rfl (one_of HT_.out (by kernel_rfl)) (by decide) (fun K hK => ?_)
    have hc4 := hF.c4
    have hf4 := hF.f4
    refine skip_ (w1 := ?_) (by rfl) rfl ?_ ?_
    rotate_left
    · go_simp
      rfl
    clear hc4 hf4
    refine hK.out _ _ ⟨(World.cell?_of_block (Below.heap_setCell _ _ _ w.heap.size (by show w.heap.size ≠ gr; omega))).trans ((World.cell?_of_block (Below.heap_setCell w4 _ _ w.heap.size (by show w.heap.size ≠ gr; omega))).trans f15), (World.cell?_of_block (Below.heap_setCell _ _ _ w.heap.size (by show w.heap.size ≠ gr; omega))).trans ((World.cell?_of_block (Below.heap_setCell w4 _ _ w.heap.size (by show w.heap.size ≠ gr; omega))).trans f14), (World.cell?_of_block (Below.heap_setCell _ _ _ w.heap.size (by show w.heap.size ≠ gr; omega))).trans ((World.cell?_of_block (Below.heap_setCell w4 _ _ w.heap.size (by show w.heap.size ≠ gr; omega))).trans f1)⟩ (fun hHeld => ?_)
    clear hK K
    refine done_ (done_of HT_.out (by kernel_rfl)) ?_
    have HF := Lib.hid hF
    clear hF
    go_wp2_with fail
    go_ret
    exact ⟨rfl, HFin.out _ _ _ HF.out⟩
end Go.Proofs.YtmcinclecpeakaaGreatDoor.ApA
