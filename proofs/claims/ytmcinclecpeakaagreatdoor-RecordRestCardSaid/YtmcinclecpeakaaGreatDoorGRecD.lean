import Derived.Test.YtmcinclecpeakaaGreatDoorRecA
import Derived.Lib.Overlaps
import Derived.Lib.AppendZerosOnto
import Derived.Laws.IdiomCopy
import Derived.Laws.Externs
import Derived.Shelf.Spec.SlicesInsert
import Derived.Lib.Walk
import Derived.Lib.AppendZeros
import Derived.Maps.AppendAt
/- Package record: the undoer: attr. -/
namespace Go.Proofs.YtmcinclecpeakaaGreatDoor.ApA
open Go.RowKit Go.Proofs.YtmcinclecpeakaaGreatDoorW.PrintWords Go.Proofs.YtmcinclecpeakaaGreatDoorW.PrintLast Go.Proofs.YtmcinclecpeakaaGreatDoorW.PrintMore Go.Proofs.YtmcinclecpeakaaGreatDoor.PRR Go.Proofs.YtmcinclecpeakaaGreatDoor.DocP Go.Proofs.YtmcinclecpeakaaGreatDoor.DocC
set_option linter.unusedVariables false
set_option linter.unusedSimpArgs false
/-- What attr makes of the attributes. -/
def AttU (s : Stp) (i : Nat) (xs ys : List S66) : Prop := (s.f1 = true ∧ i < xs.length ∧ ys = xs.set i ⟨(atF xs i).f0, s.f2⟩) ∨ (s.f1 = false ∧ i + 1 = xs.length ∧ ys = xs.take i)
theorem grown_refl (w : World) (r : Option Nat) : w.grownBy w r := ⟨rfl, rfl, rfl, Nat.le_refl _, fun _ _ _ => rfl⟩
set_option maxRecDepth 100000 in
set_option maxHeartbeats 4000000 in
theorem u_attr (s : Stp) (A8 A11 : Option Addr) (n8 n11 c8 c11 : Nat) (l : List S43) (q : Bool) (b : Nat) (w0 w : World) (hw : Below w0.heap.size w0 w) (hE : Ud w w0.heap.size b l q) (hin : In l.length s.f0.f1) (i : Nat) (hix : nmF s.f0.f4 (rd_T43 l s.f0.f1).f2 = i) (ys : List S66) (hU : AttU s i (rd_T43 l s.f0.f1).f2 ys) (hlm : (rd_T43 l s.f0.f1).f2.length ≤ 1000) :
    Calls Tryz.prog 32 #[.pointer (some ⟨b, 0, none⟩), .agg (stepV s A8 A11 n8 n11 c8 c11)] w fun u w' => u = .returned (.bool true) ∧ Ud w' w0.heap.size b (l.set s.f0.f1.toNat { rd_T43 l s.f0.f1 with f2 := ys }) q ∧ Below w0.heap.size w0 w' ∧ TF w w' := by
  obtain ⟨h0, h1⟩ := hin
  have hxi := rd_some l ⟨h0, h1⟩
  obtain ⟨gr, c, n, hn, hB, hbr, hgr, hgb, hbw, hblk, ⟨cells, hty⟩, hS⟩ := ud_form hE (i := s.f0.f1.toNat) (by omega)
  obtain ⟨hn2, hnc, hrow⟩ := Kd.S_reads' hS
  obtain ⟨adi, A2, c2, A5, c5, ei, -, -, i2, -, -, -, h2l, h2, -⟩ := at_T43 hrow s.f0.f1 h0 h1
  cases ei
  have hbx := step_box w s A8 A11 n8 n11 c8 c11 (Below.refl _ _)
  have hb1 : Below w.heap.size w (w.alloc (.cells (stepV s A8 A11 n8 n11 c8 c11) 48)) := below_alloc (Below.refl _ _) _
  obtain ⟨w1, hw1⟩ : ∃ w1, w1 = w.alloc (.cells (stepV s A8 A11 n8 n11 c8 c11) 48) := ⟨_, rfl⟩
  rw [← hw1] at hbx hb1
  have HW1 := Lib.hid hw1
  clear hw1
  generalize rd_T43 l s.f0.f1 = x at *
  obtain ⟨k, hk⟩ : ∃ k, k = s.f0.f1.toNat := ⟨_, rfl⟩
  rw [← hk] at i2 hxi ⊢
  have hin' : k < n := by omega
  have hil : i < x.f2.length := by rcases hU with ⟨_, h, _⟩ | ⟨_, h, _⟩ <;> omega
  have i2' : w.cell? ⟨gr, k * 6 + 2, none⟩ = some (.slice A2 x.f2.length c2) := by simpa [add_at] using i2
  obtain ⟨⟨inner0, hown, hrep0⟩, -⟩ := ed_attrs0 hS hin' hxi i2'
  obtain ⟨g2, hv2, hB2, hg2, cells2, hty2⟩ : ∃ g2, A2 = some ⟨g2, 0, none⟩ ∧ w0.heap.size ≤ g2 ∧ g2 < w.heap.size ∧ ∃ cells, w.heap[g2]? = some (.cells cells 66 (0, 0)) := by
    obtain ⟨_, h2⟩ := hown
    rcases h2 with ⟨_, h2⟩ | ⟨g, cap, cur, hv, hb, hg, _⟩
    · omega
    · injection hv with e1 e2 e3
      exact ⟨g, e1, hb, blk_lt hg, cur, hg⟩
  subst hv2
  have hbg2 : b ≠ g2 := fun he => blk_ne hblk hty2 (by decide) he
  obtain ⟨ad, ea, c0, c1⟩ := at_T66 h2 (i : Int) (by omega) (by omega)
  cases ea
  rw [Int.toNat_natCast] at c1
  have HC2 : Hid (∀ W : World, Below w1.heap.size w1 W → W.cell? ⟨g2, i * 2 + 1, none⟩ = some (.string (rd_T66 x.f2 (i : Int)).f1) ∧ W.frozen? ⟨g2, i * 2 + 1, none⟩ = false) :=
    Lib.hid (fun W hW => by
      have hbw := hb1.trans (hW.mono hb1.size)
      refine ⟨?_, blk_frozen (blk_below hty2 hbw) _⟩
      have := pw_cell_below hbw c1
      simpa [add_at] using this)
  have HPl : Hid (∀ W : World, Below w1.heap.size w1 W → Calls Tryz.prog 47 #[.slice (some ⟨g2, 0, none⟩) x.f2.length c2, .string s.f0.f4] W fun u w' => u = .returned (.int .i64 (i : Int)) ∧ Below w1.heap.size w1 w') := Lib.hid (fun W hb =>
    (record_place.calls _ c2 x.f2 s.f0.f4 (nmF s.f0.f4 x.f2) W (Kd.C_below h2 (hb1.trans (hb.mono hb1.size))) h2l rfl).mono (fun u w' ⟨h1, h2⟩ => ⟨by rw [h1, hix], hb.trans (h2.mono hb.size)⟩))
  have HE : Hid (∀ W : World, Below w1.heap.size w1 W → W.cell? ⟨gr, k * 6 + 2, none⟩ = some (.slice (some ⟨g2, 0, none⟩) x.f2.length c2) ∧ W.cell? ⟨w.heap.size, 4, none⟩ = some (.string s.f0.f4) ∧ W.cell? ⟨w.heap.size, 12, none⟩ = some (.bool s.f1) ∧ W.cell? ⟨w.heap.size, 13, none⟩ = some (.string s.f2) ∧ W.frozen? ⟨gr, k * 6 + 2, none⟩ = false) := Lib.hid (fun W hW => by
    have hbw := hb1.trans (hW.mono hb1.size)
    have hx := blk_below hbx hW
    exact ⟨pw_cell_below hbw i2', (blk_cell hx 4).trans rfl, (blk_cell hx 12).trans rfl, (blk_cell hx 13).trans rfl, blk_frozen (blk_below hty hbw) _⟩)
  have z1 : w1.cell? ⟨w.heap.size, 1, none⟩ = some (.int .i64 s.f0.f1) := (blk_cell hbx 1).trans rfl
  have z4 : w1.cell? ⟨w.heap.size, 4, none⟩ = some (.string s.f0.f4) := (blk_cell hbx 4).trans rfl
  have HNd : Hid (Calls Tryz.prog 48 #[.pointer (some ⟨b, 0, none⟩), .int .i64 s.f0.f1] w1 fun u w' => u = .returned (.pointer (some ⟨gr, k * 6, none⟩)) ∧ w1 = w') :=
    Lib.hid (by rw [hk]; exact unode_in b gr n c s.f0.f1 w1 (pw_cell_below hb1 ((blk_cell hblk 0).trans rfl)) ⟨h0, by omega⟩)
  have HFa : Hid (s.f1 = true → ∀ W, Below w1.heap.size w1 W → Ud (W.setCell ⟨g2, i * 2 + 1, none⟩ (.string s.f2)) w0.heap.size b (l.set k { x with f2 := ys }) q ∧ Below w0.heap.size w0 (W.setCell ⟨g2, i * 2 + 1, none⟩ (.string s.f2)) ∧ TF w (W.setCell ⟨g2, i * 2 + 1, none⟩ (.string s.f2))) :=
    Lib.hid (fun h1 W hW => by
      have hbw := hb1.trans (hW.mono hb1.size)
      rcases hU with ⟨_, _, rfl⟩ | ⟨h, _⟩
      · obtain ⟨⟨inner, ho, hrep⟩, hK⟩ := ed_attrs0 (Kd.S_below hS hbw) hin' hxi (pw_cell_below hbw i2')
        obtain ⟨ho', hg'⟩ := own_set1 (k := i * 2 + 1) (.string s.f2) ho
        have hrow' := hK W _ (x.f2.set i ⟨(atF x.f2 i).f0, s.f2⟩) _ (Below.refl _ _) hg' (by rw [List.length_set]; exact ho') (attrC_set hrep i _ s.f2 (fun y hy => by unfold atF; rw [Int.toNat_natCast, List.getD_eq_getElem?_getD, hy]; rfl))
        exact ⟨⟨_, hB, blk_far (blk_below hblk hbw) hbg2 _, hrow'⟩, (hw.trans (hbw.mono hw.size)).setCell hB2 _, (TF.below hbw).trans (TF.set (blk_below hty2 hbw) (by decide) _ _)⟩
      · rw [h1] at h; cases h)
  have HFb : Hid (s.f1 = false → ∀ W, Below w1.heap.size w1 W → Ud (W.setCell ⟨gr, k * 6 + 2, none⟩ (.slice (some ⟨g2, 0, none⟩) i c2)) w0.heap.size b (l.set k { x with f2 := ys }) q ∧ Below w0.heap.size w0 (W.setCell ⟨gr, k * 6 + 2, none⟩ (.slice (some ⟨g2, 0, none⟩) i c2)) ∧ TF w (W.setCell ⟨gr, k * 6 + 2, none⟩ (.slice (some ⟨g2, 0, none⟩) i c2))) :=
    Lib.hid (fun h1 W hW => by
      have hbw := hb1.trans (hW.mono hb1.size)
      rcases hU with ⟨h, _⟩ | ⟨_, _, rfl⟩
      · rw [h1] at h; cases h
      · obtain ⟨⟨inner, ho, hrep⟩, hK⟩ := ed_attrs (Kd.S_below hS hbw) hin' hxi (pw_cell_below hbw i2')
        have ho' := own_take ho (m := i) (by omega)
        have hrow' := hK W W (.slice (some ⟨g2, 0, none⟩) i c2) (x.f2.take i) _ (Below.refl _ _) (grown_refl _ _) (by rw [List.length_take, Nat.min_eq_left (by omega)]; exact ho') (Kd.reps_take hrep (by omega)) (.inl rfl) rfl
        exact ⟨⟨_, hB, blk_far (blk_below hblk hbw) (Ne.symm hgb) _, hrow'⟩, (hw.trans (hbw.mono hw.size)).setCell hbr _, (TF.below hbw).trans (TF.set (blk_below hty hbw) (by decide) _ _)⟩)
  have HIw : Hid (s.f1 = false → IntKind.i64.wrap ((x.f2.length : Int) - 1) = (i : Int)) := Lib.hid (fun h1 => by
    rcases hU with ⟨h, _⟩ | ⟨_, h, _⟩
    · rw [h1] at h; cases h
    · rw [IntWalk.i64_left, wrap_in (by omega)]; omega)
  obtain ⟨m2, hm2⟩ : ∃ m2, m2 = x.f2.length := ⟨_, rfl⟩
  rw [← hm2] at HPl HE HIw hil h2l
  have hgrw1 : gr < w1.heap.size := Nat.lt_of_lt_of_le hgr hb1.size
  have hww1 : w.heap.size < w1.heap.size := blk_lt hbx
  have hi0 : (0 : Int) ≤ (i : Int) := by omega
  have hi2 : (i : Int) < (m2 : Int) := by omega
  have hic : i ≤ c2 := by omega
  clear hE hblk hS hw hB hn hxi hrow hty hn2 hnc hbx hb1 h0 h1 hk hgb hbw cells hU hlm hix i2 i2' hown hrep0 hty2 hB2 hbg2 c0 c1 hm2 h2 h2l
  unfold stepV HC at HW1 ⊢
  go_enter Tryz.func32, Tryz.ntmps32
  go_wp2_with fail
  rw [← HW1.out]
  refine HNd.out.mono ?_
  rintro u w' ⟨rfl, rfl⟩
  obtain ⟨e2, e4, e12, e13, fr⟩ := HE.out w1 (Below.refl _ _)
  go_upto_region 4 with fail
  go_region_with (with_reducible refine (HPl.out _ ?_).mono ?_; ((repeat (first | refine below_alloc ?_ _ | refine below_drew ?_)); exact Below.refl _ _); rintro u w2 ⟨rfl, hb2⟩)
  all_goals
    clear e2 e4 e12 e13 fr z1 z4
    obtain ⟨e2, e4, e12, e13, fr⟩ := HE.out w2 hb2
    obtain ⟨v1, v2⟩ := HC2.out w2 hb2
    have HB2 := Lib.hid hb2
    cases hs1 : s.f1 with
    | true =>
      have hFa := HFa.out hs1
      have HFA := Lib.hid hFa
      rw [hs1] at e12
      clear hFa hb2 HFb HIw hs1
      go_upto_region 6 with fail
      go_region_law (fail)
      all_goals
        go_wp2_with fail
        go_ret
        first
          | exact ⟨rfl, HFA.out _ HB2.out⟩
          | exact ⟨rfl, HFA.out _ (below_drew HB2.out)⟩
    | false =>
      have hFb := HFb.out hs1
      have HFB := Lib.hid hFb
      have hiw := HIw.out hs1
      rw [hs1] at e12
      clear hFb hb2 HFa HIw hs1
      go_wp2_with fail
      go_ret
      exact ⟨rfl, HFB.out _ HB2.out⟩
end Go.Proofs.YtmcinclecpeakaaGreatDoor.ApA
/- slices.Insert at []api.Attr: one attribute put into a row of one's own. -/
namespace Go.Proofs.YtmcinclecpeakaaGreatDoor.ApA
open Go.RowKit Go.Proofs.YtmcinclecpeakaaGreatDoorW.PrintWords Go.Proofs.YtmcinclecpeakaaGreatDoorW.PrintLast Go.Proofs.YtmcinclecpeakaaGreatDoorW.PrintMore Go.Proofs.YtmcinclecpeakaaGreatDoor.PRR Go.Proofs.YtmcinclecpeakaaGreatDoor.DocP Go.Proofs.YtmcinclecpeakaaGreatDoor.DocC
set_option linter.unusedVariables false
set_option linter.unusedSimpArgs false
/-- copy of elements of any size into cells that lie ready. -/
theorem copy_sz {P : Program} (w : World) (dT sT ty elem : TypeId) (b o dLen dCap : Nat) (a : Addr) (sLen sCap sz : Nat) (cs : List Value)
    (hu : P.underlying dT = some (.slice elem)) (hs : (P.info? elem).map (·.size) = some sz) (hn : cs.length = Nat.min sLen dLen * sz)
    (hsrc : ∀ j v, cs[j]? = some v → w.cell? (a.add j) = some v) (hc : ∀ j, j < cs.length → (w.cell? ⟨b, o + j, none⟩).isSome = true) (hf : ∀ j, j < cs.length → w.frozen? ⟨b, o + j, none⟩ = false) (h1 : ∀ v ∈ cs, v.oneCell' = true) :
    (Builtin.copy_ #[dT, sT] ty #[.slice (some ⟨b, o, none⟩) dLen dCap, .slice (some a) sLen sCap]).run P w = .ok (goInt (Nat.min sLen dLen)) (w.setCells b o cs) := by
  have hl := run_loadCells_list (P := P) w a cs hsrc
  have hst := run_storeCells_cells (P := P) b o cs 0 w (by simpa using hc) (by simpa using hf) h1
  cases hq : P.info? elem with
  | none => simp [hq] at hs
  | some i =>
    have hi : i.size = sz := by simpa [hq] using hs
    rw [hn] at hl
    simp [Builtin.copy_, run_underlying hu, Builtin.lenOf, Builtin.firstCells, sizeOf, typeInfo, hq, hi, hl, hst]
theorem attr_info : (Tryz.prog.info? 66).map (fun i => (i.zero, i.size, i.bytes)) = some (some (.agg #[.string ⟨#[]⟩, .string ⟨#[]⟩]), 2, 32) := by kernel_rfl
theorem ov_attr (w : World) (g vb o l c k : Nat) (hne : vb ≠ g) (tA tB : Nat) (kA kB : Nat) (hsa : w.shape? vb = some (tA, kA)) (hsb : w.shape? g = some (tB, kB)) (hkB : kB ≠ 0) (hfa : w.frozen? ⟨vb, 0, none⟩ = false) (hfe : w.frozen? ⟨vb, kA, none⟩ = false) :
    (callFunc 74 #[.slice (some ⟨vb, 0, none⟩) 1 1, .slice (some ⟨g, o, none⟩) l c]).run Tryz.prog w = .ok (.value (.bool false)) w := by
  obtain ⟨i0, hi0, hz0, hz1, hz2⟩ := info_parts attr_info
  rw [run_callFunc_extern Tryz.func74 (by kernel_rfl) (by kernel_rfl) (by kernel_rfl) (e := Extern.SlicesOverlaps.overlaps #[41, 41] #[4]) (by kernel_rfl),
    Lib.run_overlaps_apart w 41 4 66 Tryz.underlying41 2 (fun w => by simp [sizeOf, typeInfo, hi0, hz1]) ⟨vb, 0, none⟩ ⟨g, o, none⟩ 1 1 l c hne tA tB kA kB hsa hsb hkB hfa hfe]
  rfl
set_option maxHeartbeats 4000000 in
set_option maxRecDepth 100000 in
theorem insA_shift (g c n i vb : Nat) (inner : List Value) (y z : Value) (w : World) (hi : i < n) (hroom : n + 1 ≤ c) (hn1000 : n ≤ 1000) (hc63 : c ≤ 9223372036854775807) (hgv : vb ≠ g) (hil : inner.length = n * 2)
    (hcs : ∀ j v, inner[j]? = some v → w.cell? ⟨g, j, none⟩ = some v) (hsp : ∀ j, j < (n + 1) * 2 → (w.cell? ⟨g, j, none⟩).isSome = true) (hfz : ∀ j, w.frozen? ⟨g, j, none⟩ = false)
    (hy : w.heap[vb]? = some (.cells #[y, z] 66 (0, 0))) (h1c : ∀ v ∈ inner, v.oneCell' = true) (h1y : y.oneCell' = true) (h1z : z.oneCell' = true) (hsb : ∃ tB kB, w.shape? g = some (tB, kB) ∧ kB ≠ 0) :
    Calls Tryz.prog 49 #[.slice (some ⟨g, 0, none⟩) n c, .int .i64 i, .slice (some ⟨vb, 0, none⟩) 1 1] w fun e w' =>
      e = .returned (.slice (some ⟨g, 0, none⟩) (n + 1) c) ∧ w' = (w.drew.setCells g ((i + 1) * 2) (inner.drop (i * 2))).setCells g (i * 2) [y, z] := by
  obtain ⟨tB, kB, hsB, hkB⟩ := hsb
  have hov := fun o l c' => ov_attr w g vb o l c' 0 hgv 66 tB 2 kB (by simp [World.shape?, hy]) hsB hkB (blk_frozen hy 0) (blk_frozen hy 2)
  have hw1 : IntKind.i64.wrap ((n : Int) + 1) = (n : Int) + 1 := by rw [IntWalk.i64_left, wrap_in (by omega)]
  have hw2 : IntKind.i64.wrap ((i : Int) + 1) = (i : Int) + 1 := by rw [IntWalk.i64_left, wrap_in (by omega)]
  have hz2 : ¬ ((i : Int) = (n : Int)) := by omega
  have hin : i ≤ n := by omega
  have htn : ((i : Int) + 1).toNat = i + 1 := by omega
  have htn2 : ((n : Int) + 1).toNat = n + 1 := by omega
  have hb1 : (0 : Int) ≤ (i : Int) + 1 := by omega
  have hb2 : ¬ (c = i + 1) := by omega
  have hb3 : (i : Int) ≤ (n : Int) + 1 := by omega
  have hb4 : ¬ (c = i) := by omega
  have hdl : (inner.drop (i * 2)).length = (n - i) * 2 := by rw [List.length_drop, hil]; omega
  have hsz : (Tryz.prog.info? 66).map (·.size) = some 2 := by
    obtain ⟨i0, hi0, hz0, hz1, hz2⟩ := info_parts attr_info
    rw [hi0]; simp [hz1]
  have hmin : Nat.min (n + 1 - i) (n + 1 - (i + 1)) = n - i := by simp only [Nat.min_def]; split <;> omega
  have hcp1 : ∀ ty dc sc, (Builtin.copy_ #[41, 41] ty #[.slice (some ⟨g, (i + 1) * 2, none⟩) (n + 1 - (i + 1)) dc, .slice (some ⟨g, i * 2, none⟩) (n + 1 - i) sc]).run Tryz.prog w.drew = .ok (goInt ((n - i : Nat) : Int)) (w.drew.setCells g ((i + 1) * 2) (inner.drop (i * 2))) := fun ty dc sc => by
    have h := copy_sz (P := Tryz.prog) w.drew 41 41 ty 66 g ((i + 1) * 2) (n + 1 - (i + 1)) dc ⟨g, i * 2, none⟩ (n + 1 - i) sc 2 (inner.drop (i * 2)) Tryz.underlying41 hsz (by rw [hdl, hmin]) (fun j v hj => by rw [Addr.add_lit]; rw [List.getElem?_drop] at hj; exact hcs _ v hj) (fun j hj => hsp _ (by omega)) (fun j hj => hfz _) (fun v hv => h1c v (List.mem_of_mem_drop hv))
    rw [hmin] at h
    exact h
  obtain ⟨W1, hW1⟩ : ∃ W1, W1 = w.drew.setCells g ((i + 1) * 2) (inner.drop (i * 2)) := ⟨_, rfl⟩
  have hsp1 : ∀ k, k < (n + 1) * 2 → (W1.cell? ⟨g, k, none⟩).isSome = true := fun k hk => by
    rw [hW1]
    exact isSome_setCells g (inner.drop (i * 2)) ((i + 1) * 2) w.drew (fun t ht => hsp _ (by rw [hdl] at ht; omega)) k (hsp k hk)
  have hcp2 : ∀ (W : World), (∀ x, W.cell? x = W1.cell? x) → (∀ x, W.frozen? x = W1.frozen? x) → ∀ ty dc, (Builtin.copy_ #[41, 41] ty #[.slice (some ⟨g, i * 2, none⟩) (n + 1 - i) dc, .slice (some ⟨vb, 0, none⟩) 1 1]).run Tryz.prog W = .ok (goInt 1) (W.setCells g (i * 2) [y, z]) := fun W hWc hWf ty dc => by
    have hm1 : Nat.min 1 (n + 1 - i) = 1 := by simp only [Nat.min_def]; split <;> omega
    have h := copy_sz (P := Tryz.prog) W 41 41 ty 66 g (i * 2) (n + 1 - i) dc ⟨vb, 0, none⟩ 1 1 2 [y, z] Tryz.underlying41 hsz (by rw [hm1]; rfl) (fun j v hj => by
        rw [Addr.add_lit, hWc, hW1, World.cell?_setCells_out g _ _ _ _ (fun h _ => absurd h hgv), Nat.zero_add]
        have := blk_cell hy j
        rw [List.getElem?_toArray] at this
        exact this.trans hj)
      (fun j hj => by rw [hWc]; exact hsp1 _ (by simp at hj; omega)) (fun j hj => by rw [hWf, hW1, World.frozen?_setCells]; exact hfz _) (fun v hv => by
        rcases List.mem_cons.1 hv with rfl | hv
        · exact h1y
        · rw [List.mem_singleton.1 hv]; exact h1z)
    rw [hm1] at h
    exact h
  rw [← hW1] at hcp1
  rw [show n + 1 - (i + 1) = n - i by omega] at hcp1
  have mixed : Tryz.prog.follows .mixedOrders = true := by kernel_rfl
  clear hcs hsp hsp1 hfz hy h1c h1y h1z hil hdl
  go_enter Tryz.func49, Tryz.ntmps49
  go_wp2_with (simp only [hov])
  go_region_law_o (refine step_copy_runI rfl _ _ 41 41 rfl (.slice (some ⟨g, (i + 1) * 2, none⟩) (n - i) (c - (i + 1))) (.slice (some ⟨g, i * 2, none⟩) (n + 1 - i) (c - i)) (by simp [Act.eval, Act.put]) (by simp [Act.eval, Act.put]) (hcp1 _ _ _) ?_)
  go_wp2_with (at_builtin; refine wpList_copy_runI _ rfl _ _ 41 41 rfl _ _ rfl rfl (hcp2 _ (fun _ => rfl) (fun _ => rfl) _ _) ?_)
  go_ret
  first | exact ⟨rfl, rfl⟩ | exact ⟨rfl, by rw [hW1]⟩
theorem cells_inS {k L s : Nat} {inner rest news cur1 cur2 : List Value} (hil : inner.length = L) (hk : k ≤ L) (hs : news.length = s) (h3 : cur1.take k = inner.take k) (h4 : cur1.drop (k + s) = inner.drop k ++ rest) (h6 : cur2 = cur1.take k ++ news ++ cur1.drop (k + s)) :
    cur2.take (L + s) = inner.take k ++ news ++ inner.drop k := by
  rw [h6, h3, h4, ← List.append_assoc]
  exact List.take_left' (by simp [hil, hs]; omega)
/-- Cells put into a row in place: those behind move on. -/
theorem own_inS {B g n c k s sz : Nat} {e : TypeId} {w : World} {inner news : List Value} {cur : Array Value} (hg : w.heap[g]? = some (.cells cur e (0, 0))) (hB : B ≤ g) (hnc : n + 1 ≤ c) (hcm : c ≤ maxLen) (hcs : cur.size = c * sz) (hct : cur.toList.take (n * sz) = inner) (hk : k ≤ n * sz) (hs : news.length = sz) :
    ((w.setCells g (k + sz) (inner.drop k)).setCells g k news).ownsRow B e sz (.slice (some ⟨g, 0, none⟩) (n + 1) c) (n + 1) (inner.take k ++ news ++ inner.drop k) ∧ w.grownBy ((w.setCells g (k + sz) (inner.drop k)).setCells g k news) (some g) := by
  have hfit : (n + 1) * sz ≤ c * sz := Nat.mul_le_mul_right _ hnc
  have hm1 : (n + 1) * sz = n * sz + sz := by rw [Nat.add_mul, Nat.one_mul]
  have hil : inner.length = n * sz := by rw [← hct, List.length_take, Array.length_toList, hcs]; omega
  have hdl : (inner.drop k).length = n * sz - k := by rw [List.length_drop, hil]
  obtain ⟨cur1, h1, h2, h3⟩ := setCells_row (inner.drop k) (k + sz) w cur hg (by rw [hdl, hcs]; omega)
  obtain ⟨cur2, h4, h5, h6⟩ := setCells_row news k _ cur1 h1 (by rw [h2, hcs, hs]; omega)
  have t1 : cur1.toList.take k = inner.take k := by
    rw [h3, List.append_assoc, List.take_append_of_le_length (by rw [List.length_take, Array.length_toList, hcs]; omega), List.take_take, ← hct, List.take_take]
    congr 1
    omega
  have t2 : cur1.toList.drop (k + sz) = inner.drop k ++ cur.toList.drop (k + sz + (inner.drop k).length) := by
    rw [h3, List.append_assoc]
    exact List.drop_left' (by rw [List.length_take, Array.length_toList, hcs]; omega)
  rw [hs] at h6
  have hfin := cells_inS hil hk hs t1 t2 h6
  refine ⟨⟨by simp only [List.length_append, List.length_take, List.length_drop, hil, hs]; omega, .inr ⟨g, c, cur2, rfl, hB, h4, hnc, hcm, by rw [h5, h2, hcs], by rw [hm1]; exact hfin⟩⟩, ?_⟩
  have a1 := setCells_same g (inner.drop k) (k + sz) w
  have a2 := setCells_same g news k (w.setCells g (k + sz) (inner.drop k))
  exact ⟨a2.1.trans a1.1, a2.2.1.trans a1.2.1, a2.2.2.1.trans a1.2.2.1, by rw [a2.2.2.2, a1.2.2.2]; exact Nat.le_refl _, fun j _ hj => (setCells_far news _ j (fun he => hj (by rw [he]))).trans (setCells_far _ _ j (fun he => hj (by rw [he])))⟩
/-- A new row, where there is no room. -/
theorem own_anewS {B n k G sz : Nat} {e : TypeId} {w : World} {inner news : List Value} {Z1 Z2 : Array Value} (hB : B ≤ w.heap.size) (hil : inner.length = n * sz) (hk : k ≤ n * sz) (hs : news.length = sz) (hG : n + 1 ≤ G) (hGm : G ≤ maxLen) (hz : k + Z1.size + Z2.size = G * sz) (hz1 : Z1.size = (n + 1) * sz - k) :
    ((((w.alloc (.cells ((inner.take k).toArray ++ Z1 ++ Z2) e)).drew.setCells w.heap.size k news).drew).setCells w.heap.size (k + sz) (inner.drop k)).ownsRow B e sz (.slice (some ⟨w.heap.size, 0, none⟩) (n + 1) G) (n + 1) (inner.take k ++ news ++ inner.drop k) ∧
      w.grownBy ((((w.alloc (.cells ((inner.take k).toArray ++ Z1 ++ Z2) e)).drew.setCells w.heap.size k news).drew).setCells w.heap.size (k + sz) (inner.drop k)) none := by
  have hm1 : (n + 1) * sz = n * sz + sz := by rw [Nat.add_mul, Nat.one_mul]
  have hdl : (inner.drop k).length = n * sz - k := by rw [List.length_drop, hil]
  have htl : (inner.take k).length = k := by rw [List.length_take, hil]; omega
  obtain ⟨cur, hcur⟩ : ∃ cur, cur = (inner.take k).toArray ++ Z1 ++ Z2 := ⟨_, rfl⟩
  have hcs : cur.size = G * sz := by rw [hcur, Array.size_append, Array.size_append, List.size_toArray, htl, hz]
  have hfit : (n + 1) * sz ≤ G * sz := Nat.mul_le_mul_right _ hG
  have hct : cur.toList = inner.take k ++ (Z1.toList ++ Z2.toList) := by rw [hcur]; simp
  rw [← hcur]
  have hg : (w.alloc (.cells cur e)).drew.heap[w.heap.size]? = some (.cells cur e (0, 0)) := blk_drew (blk_new w _)
  obtain ⟨cur1, h1, h2, h3⟩ := setCells_row news k _ cur hg (by rw [hcs, hs]; omega)
  obtain ⟨cur2, h4, h5, h6⟩ := setCells_row (inner.drop k) (k + sz) _ cur1 (blk_drew h1) (by rw [h2, hcs, hdl]; omega)
  have t1 : cur.toList.take k = inner.take k := by rw [hct]; exact List.take_left' htl
  have t2 : cur1.toList.take (k + sz) = inner.take k ++ news := by
    rw [h3, t1]
    exact List.take_left' (by rw [List.length_append, htl, hs])
  have t3 : cur2.toList.take (n * sz + sz) = inner.take k ++ news ++ inner.drop k := by
    rw [h6, t2]
    exact List.take_left' (by simp only [List.length_append, htl, hs, hdl]; omega)
  refine ⟨⟨by simp only [List.length_append, htl, hs, hdl]; omega, .inr ⟨w.heap.size, G, cur2, rfl, hB, h4, hG, hGm, by rw [h5, h2, hcs], by rw [hm1]; exact t3⟩⟩, ?_⟩
  have a1 := setCells_same w.heap.size news k (w.alloc (.cells cur e)).drew
  have a2 := setCells_same w.heap.size (inner.drop k) (k + sz) ((w.alloc (.cells cur e)).drew.setCells w.heap.size k news).drew
  refine ⟨a2.1.trans a1.1, a2.2.1.trans a1.2.1, a2.2.2.1.trans a1.2.2.1, ?_, fun j hj _ => ?_⟩
  · rw [a2.2.2.2]
    show w.heap.size ≤ ((w.alloc (.cells cur e)).drew.setCells w.heap.size k news).heap.size
    rw [a1.2.2.2]
    show w.heap.size ≤ (w.alloc (.cells cur e)).heap.size
    simp
  · refine (setCells_far (inner.drop k) _ j (by omega)).trans ?_
    refine (setCells_far news (w := (w.alloc (.cells cur e)).drew) _ j (by omega)).trans ?_
    exact Below.heap_alloc w (.cells cur e) j hj
set_option maxHeartbeats 4000000 in
set_option maxRecDepth 100000 in
theorem insA_grow (g c n i vb : Nat) (inner : List Value) (y z : Value) (w : World) (hi : i < n) (hnc : n ≤ c) (hroom : c < n + 1) (hn : n ≤ 1000) (hil : inner.length = n * 2)
    (hcs : ∀ j v, inner[j]? = some v → w.cell? ⟨g, j, none⟩ = some v) (hy : w.heap[vb]? = some (.cells #[y, z] 66 (0, 0))) (h1c : ∀ v ∈ inner, v.oneCell' = true) (h1y : y.oneCell' = true) (h1z : z.oneCell' = true) :
    Calls Tryz.prog 49 #[.slice (some ⟨g, 0, none⟩) n c, .int .i64 i, .slice (some ⟨vb, 0, none⟩) 1 1] w fun e w' => ∃ G Z1 Z2, e = .returned (.slice (some ⟨w.heap.size, 0, none⟩) (n + 1) G) ∧ n + 1 ≤ G ∧ G ≤ maxLen ∧ Z1.size = (n + 1) * 2 - i * 2 ∧ i * 2 + Z1.size + Z2.size = G * 2 ∧
      w' = (((w.alloc (.cells ((inner.take (i * 2)).toArray ++ Z1 ++ Z2) 66)).drew.setCells w.heap.size (i * 2) [y, z]).drew).setCells w.heap.size ((i + 1) * 2) (inner.drop (i * 2)) := by
  have mixed : Tryz.prog.follows .mixedOrders = true := by kernel_rfl
  obtain ⟨i0, hi0, hz0, hzs, hzb⟩ := info_parts attr_info
  have hsz : (Tryz.prog.info? 66).map (·.size) = some 2 := by rw [hi0]; simp [hzs]
  have hbw : g < w.heap.size := World.block_lt_of_cell? w _ (hcs 0 _ (List.getElem?_eq_getElem (by omega)))
  have hvw : vb < w.heap.size := blk_lt hy
  have htl : (inner.take (i * 2)).length = i * 2 := by rw [List.length_take, hil]; omega
  have hdl : (inner.drop (i * 2)).length = (n - i) * 2 := by rw [List.length_drop, hil]; omega
  have hold : (Builtin.firstCells i0.size i (.slice (some ⟨g, 0, none⟩) i c)).run Tryz.prog w.drew = .ok (inner.take (i * 2)).toArray w.drew := by
    rw [hzs]
    exact run_firstCells_some w.drew 2 i ⟨g, 0, none⟩ i c (inner.take (i * 2)) htl (fun j v hj => by
      rw [Addr.add_lit, Nat.zero_add]
      rw [List.getElem?_take] at hj
      split at hj
      · exact hcs j v hj
      · cases hj)
  obtain ⟨G, hG⟩ : ∃ G, G = grownCap w (n + 1) c 66 := ⟨_, rfl⟩
  obtain ⟨Z1, hZ1⟩ : ∃ Z1, Z1 = Builtin.zeroCells (Value.agg #[.string ⟨#[]⟩, .string ⟨#[]⟩]).cells (n + 1 - i) := ⟨_, rfl⟩
  obtain ⟨Z2, hZ2⟩ : ∃ Z2, Z2 = Builtin.zeroCells (Value.agg #[.string ⟨#[]⟩, .string ⟨#[]⟩]).cells (G - (n + 1)) := ⟨_, rfl⟩
  have hrz : ∀ ty, (Builtin.append_ #[41, 3] ty #[.slice (some ⟨g, 0, none⟩) i c, .int .i64 ((n : Int) + 1 - (i : Int))]).run Tryz.prog w =
      .ok (.slice (some ⟨w.heap.size, 0, none⟩) (n + 1) G) (w.drew.alloc (.cells ((inner.take (i * 2)).toArray ++ Z1 ++ Z2) 66)) := fun ty => by
    have h := Lib.run_append_grow_zeros (P := Tryz.prog) w 41 3 ty 66 i0 _ .i64 .i64 Tryz.underlying41 Tryz.underlying3 hi0 hz0 (some ⟨g, 0, none⟩) i c (inner.take (i * 2)) hold (n + 1 - i) (by omega) (by omega) (by omega) (by omega) (by rw [hzb]; omega) (by rw [hzb, show i + (n + 1 - i) = n + 1 by omega]; exact growslice_fits hroom (by omega))
    rw [show i + (n + 1 - i) = n + 1 by omega, ← hG] at h
    rw [hZ1, hZ2, show (n : Int) + 1 - (i : Int) = ((n + 1 - i : Nat) : Int) by omega]
    exact h
  have hGn : n + 1 ≤ G := by rw [hG]; exact grownCap_ge w _ _ _
  have hGm : G ≤ maxLen := by rw [hG]; exact grownCap_le_maxLen w _ _ _ (by unfold maxLen; omega)
  have hs1 : Z1.size = (n + 1) * 2 - i * 2 := by rw [hZ1]; simp [size_zeroCells, Value.cells]; omega
  have hs2 : Z2.size = (G - (n + 1)) * 2 := by rw [hZ2]; simp [size_zeroCells, Value.cells]
  have hs3 : i * 2 + Z1.size + Z2.size = G * 2 := by omega
  obtain ⟨ROW, hROW⟩ : ∃ ROW : Array Value, ROW = (inner.take (i * 2)).toArray ++ Z1 ++ Z2 := ⟨_, rfl⟩
  rw [← hROW] at hrz
  have hRl : ROW.size = G * 2 := by rw [hROW, Array.size_append, Array.size_append, List.size_toArray, htl, hs3]
  obtain ⟨W1, hW1⟩ : ∃ W1, W1 = w.drew.alloc (.cells ROW 66) := ⟨_, rfl⟩
  rw [← hW1] at hrz
  have hN : ∀ j, j < (n + 1) * 2 → (W1.cell? ⟨w.heap.size, j, none⟩).isSome = true := fun j hj => by
    rw [hW1, World.cell?_alloc_at (w := w.drew) ROW _ w.heap.size j rfl, Array.getElem?_eq_getElem (by omega)]; rfl
  have hNf : ∀ j, W1.frozen? ⟨w.heap.size, j, none⟩ = false := fun j => by rw [hW1]; exact World.frozen?_alloc_at (w := w.drew) ROW _ w.heap.size j rfl
  have hOb : ∀ j v, w.cell? ⟨g, j, none⟩ = some v → W1.cell? ⟨g, j, none⟩ = some v := fun j v h => by rw [hW1, World.cell?_alloc_past (w := w.drew) _ g j hbw]; exact h
  have hOv : ∀ j v, w.cell? ⟨vb, j, none⟩ = some v → W1.cell? ⟨vb, j, none⟩ = some v := fun j v h => by rw [hW1, World.cell?_alloc_past (w := w.drew) _ vb j hvw]; exact h
  have hm1 : Nat.min 1 (n + 1 - i) = 1 := by simp only [Nat.min_def]; split <;> omega
  have hm2 : Nat.min (n - i) (n - i) = n - i := Nat.min_self _
  have hcpA : ∀ (W : World), (∀ x, W.cell? x = W1.cell? x) → (∀ x, W.frozen? x = W1.frozen? x) → ∀ ty dc, (Builtin.copy_ #[41, 41] ty #[.slice (some ⟨w.heap.size, i * 2, none⟩) (n + 1 - i) dc, .slice (some ⟨vb, 0, none⟩) 1 1]).run Tryz.prog W = .ok (goInt 1) (W.setCells w.heap.size (i * 2) [y, z]) := fun W hWc hWf ty dc => by
    have h := copy_sz (P := Tryz.prog) W 41 41 ty 66 w.heap.size (i * 2) (n + 1 - i) dc ⟨vb, 0, none⟩ 1 1 2 [y, z] Tryz.underlying41 hsz (by rw [hm1]; rfl) (fun j v hj => by
        rw [Addr.add_lit, hWc, Nat.zero_add]
        refine hOv _ _ ?_
        have := blk_cell hy j
        rw [List.getElem?_toArray] at this
        exact this.trans hj)
      (fun j hj => by rw [hWc]; exact hN _ (by simp at hj; omega)) (fun j hj => by rw [hWf]; exact hNf _) (fun v hv => by
        rcases List.mem_cons.1 hv with rfl | hv
        · exact h1y
        · rw [List.mem_singleton.1 hv]; exact h1z)
    rw [hm1] at h
    exact h
  have hgN : g ≠ w.heap.size := by omega
  have hcpB : ∀ (W : World), (∀ x, W.cell? x = (W1.setCells w.heap.size (i * 2) [y, z]).cell? x) → (∀ x, W.frozen? x = (W1.setCells w.heap.size (i * 2) [y, z]).frozen? x) → ∀ ty dc sc, (Builtin.copy_ #[41, 41] ty #[.slice (some ⟨w.heap.size, (i + 1) * 2, none⟩) (n - i) dc, .slice (some ⟨g, i * 2, none⟩) (n - i) sc]).run Tryz.prog W = .ok (goInt ((n - i : Nat) : Int)) (W.setCells w.heap.size ((i + 1) * 2) (inner.drop (i * 2))) := fun W hWc hWf ty dc sc => by
    have h := copy_sz (P := Tryz.prog) W 41 41 ty 66 w.heap.size ((i + 1) * 2) (n - i) dc ⟨g, i * 2, none⟩ (n - i) sc 2 (inner.drop (i * 2)) Tryz.underlying41 hsz (by rw [hdl, hm2]) (fun j v hj => by
        rw [Addr.add_lit, hWc, World.cell?_setCells_out _ _ _ _ _ (fun h _ => absurd h hgN)]
        rw [List.getElem?_drop] at hj
        exact hOb _ v (hcs _ v hj))
      (fun j hj => by rw [hWc]; exact isSome_setCells w.heap.size [y, z] (i * 2) W1 (fun t ht => hN _ (by simp at ht; omega)) _ (hN _ (by omega))) (fun j hj => by rw [hWf, World.frozen?_setCells]; exact hNf _) (fun v hv => h1c v (List.mem_of_mem_drop hv))
    rw [hm2] at h
    exact h
  have HEnd : Hid (n + 1 ≤ G ∧ G ≤ maxLen ∧ Z1.size = (n + 1) * 2 - i * 2 ∧ i * 2 + Z1.size + Z2.size = G * 2) := Lib.hid ⟨hGn, hGm, hs1, hs3⟩
  have HROW := Lib.hid hROW
  have hG63 : G ≤ 9223372036854775807 := by unfold maxLen at hGm; omega
  subst hW1
  have hE1 : ∀ x, ((w.alloc (.cells ROW 66)).drew).cell? x = (w.drew.alloc (.cells ROW 66)).cell? x := fun x => rfl
  have hE2 : ∀ x, ((w.alloc (.cells ROW 66)).drew).frozen? x = (w.drew.alloc (.cells ROW 66)).frozen? x := fun x => rfl
  have hF1 : ∀ x, (((w.alloc (.cells ROW 66)).drew.setCells w.heap.size (i * 2) [y, z]).drew).cell? x = ((w.drew.alloc (.cells ROW 66)).setCells w.heap.size (i * 2) [y, z]).cell? x := fun x => rfl
  have hF2 : ∀ x, (((w.alloc (.cells ROW 66)).drew.setCells w.heap.size (i * 2) [y, z]).drew).frozen? x = ((w.drew.alloc (.cells ROW 66)).setCells w.heap.size (i * 2) [y, z]).frozen? x := fun x => rfl
  have hw1 : IntKind.i64.wrap ((n : Int) + 1) = (n : Int) + 1 := by rw [IntWalk.i64_left, wrap_in (by omega)]
  have hw2 : IntKind.i64.wrap ((i : Int) + 1) = (i : Int) + 1 := by rw [IntWalk.i64_left, wrap_in (by omega)]
  have hw3 : IntKind.i64.wrap ((n : Int) + 1 - (i : Int)) = (n : Int) + 1 - (i : Int) := by rw [IntWalk.i64_left, wrap_in (by omega)]
  have hz2 : ¬ ((i : Int) = (n : Int)) := by omega
  have hz3 : (c : Int) < (n : Int) + 1 := by omega
  have hin : i ≤ n := by omega
  have hic : i ≤ c := by omega
  have htn : ((i : Int) + 1).toNat = i + 1 := by omega
  have hb1 : (0 : Int) ≤ (i : Int) + 1 := by omega
  have hGi : ¬ (G = i) := by omega
  have hGim : ¬ (G = i + 1) := by omega
  have hci : ¬ (c = i) := by omega
  have hb3 : (i : Int) ≤ (n : Int) + 1 := by omega
  have hb5 : (i : Int) + 1 ≤ (n : Int) + 1 := by omega
  have hb6 : n + 1 - (i + 1) = n - i := by omega
  clear hcs hy h1c h1y h1z hil hdl htl hold hROW hRl hN hNf hOb hOv hZ1 hZ2 hG hs1 hs2 hs3 hGm hi0 hz0 hzs hzb hbw hvw hm1 hm2
  go_enter Tryz.func49, Tryz.ntmps49
  go_wp2_with (first
    | (at_builtin; refine Lib.wpList_append_run _ rfl _ _ _ _ rfl _ _ rfl rfl _ _ (hrz _) ?_)
    | (at_builtin; refine wpList_copy_runI _ rfl _ _ 41 41 rfl _ _ rfl rfl (hcpA _ hE1 hE2 _ _) ?_))
  go_region_law_o (refine step_copy_runI rfl _ _ 41 41 rfl (.slice (some ⟨w.heap.size, (i + 1) * 2, none⟩) (n - i) (G - (i + 1))) (.slice (some ⟨g, i * 2, none⟩) (n - i) (c - i)) (by simp [Act.eval, Act.put]) (by simp [Act.eval, Act.put]) (hcpB _ hF1 hF2 _ (G - (i + 1)) (c - i)) ?_)
  go_wp2
  go_ret
  exact ⟨G, Z1, Z2, rfl, HEnd.out.1, HEnd.out.2.1, HEnd.out.2.2.1, HEnd.out.2.2.2, by rw [HROW.out]⟩
set_option maxHeartbeats 2000000 in
set_option maxRecDepth 100000 in
theorem insA_end (A : Option Addr) (c n vb : Nat) (inner : List Value) (y z : Value) (base : Nat) (w : World) (hown : w.ownsRow base 66 2 (.slice A n c) n inner) (hy : w.heap[vb]? = some (.cells #[y, z] 66 (0, 0))) (h1y : y.oneCell' = true) (h1z : z.oneCell' = true) (hn : n ≤ 1000) (hb : base ≤ w.heap.size) :
    Calls Tryz.prog 49 #[.slice A n c, .int .i64 n, .slice (some ⟨vb, 0, none⟩) 1 1] w fun e w' => ∃ v', e = .returned v' ∧ w'.ownsRow base 66 2 v' (n + 1) (inner ++ [y, z]) ∧ w.grownBy w' (Value.slice A n c).ownBlock ∧ (v'.ownBlock = (Value.slice A n c).ownBlock ∨ v'.ownBlock = some w.heap.size) := by
  have hnc := own_le hown
  obtain ⟨i0, hi, hz0, hz1, hz2⟩ := info_parts attr_info
  have hnews : ∀ j u, [y, z][j]? = some u → w.cell? ((⟨vb, 0, none⟩ : Addr).add j) = some u := fun j u hj => by
    rw [Addr.add_lit, Nat.zero_add]
    have := blk_cell hy j
    rw [List.getElem?_toArray] at this
    exact this.trans hj
  have hone : ∀ u ∈ [y, z], u.oneCell' = true := fun v hv => by
    rcases List.mem_cons.1 hv with rfl | hv
    · exact h1y
    · rw [List.mem_singleton.1 hv]; exact h1z
  have HO := Lib.hid hown
  have HN := Lib.hid hnews
  have H1 := Lib.hid hone
  clear hown hnews hy hone h1y h1z
  have hq : (n : Int) ≤ (c : Int) := by omega
  by_cases hc : c = n
  all_goals
    go_enter Tryz.func49, Tryz.ntmps49
    go_upto_region 7 with fail
    go_wp2_with ((at_builtin; refine wpList_append_own_at _ rfl _ _ 41 rfl base 66 i0 (.agg #[.string ⟨#[]⟩, .string ⟨#[]⟩]) 2 32 Tryz.underlying41 hi hz0 hz1 hz2 rfl (by decide) (.slice A n c) n inner rfl HO.out ⟨vb, 0, none⟩ 1 1 [y, z] rfl rfl HN.out H1.out (by unfold maxLen; omega) (by omega) hb ?_; intro v1 w1 hown1 hg1 _ hat1; have HR := Lib.hid (⟨hown1, hg1, hat1⟩ : _ ∧ _ ∧ _); clear hown1 hg1 hat1))
    go_ret
    exact ⟨_, rfl, HR.out.1, HR.out.2.1, HR.out.2.2⟩
theorem insA_any (A : Option Addr) (c n i vb : Nat) (inner : List Value) (y z : Value) (base : Nat) (w : World) (hown : w.ownsRow base 66 2 (.slice A n c) n inner) (h1c : ∀ v ∈ inner, v.oneCell' = true) (hy : w.heap[vb]? = some (.cells #[y, z] 66 (0, 0))) (hvb : some vb ≠ (Value.slice A n c).ownBlock) (h1y : y.oneCell' = true) (h1z : z.oneCell' = true) (hi : i ≤ n) (hn : n ≤ 1000) (hb : base ≤ w.heap.size) :
    Calls Tryz.prog 49 #[.slice A n c, .int .i64 i, .slice (some ⟨vb, 0, none⟩) 1 1] w fun e w' => ∃ v', e = .returned v' ∧ w'.ownsRow base 66 2 v' (n + 1) (inner.take (i * 2) ++ [y, z] ++ inner.drop (i * 2)) ∧ w.grownBy w' (Value.slice A n c).ownBlock ∧ (v'.ownBlock = (Value.slice A n c).ownBlock ∨ v'.ownBlock = some w.heap.size) := by
  by_cases hin : i < n
  · obtain ⟨hil, ho⟩ := hown
    obtain ⟨g, c', cur, hv, hB, hg, hnc, hcm, hcs, hct⟩ := ho.resolve_left (fun h => by have := h.2; omega)
    injection hv with hv1 hv2 hv3
    subst hv1 hv3
    have hgv : vb ≠ g := fun e => hvb (by rw [e]; rfl)
    have hcell : ∀ j v, inner[j]? = some v → w.cell? ⟨g, j, none⟩ = some v := fun t u hu => by
      rw [blk_cell hg t, ← Array.getElem?_toList]
      rw [← hct, List.getElem?_take] at hu
      split at hu
      · exact hu
      · cases hu
    by_cases hroom : n + 1 ≤ c
    · refine (insA_shift g c n i vb inner y z w hin hroom hn (by unfold maxLen at hcm; omega) hgv hil hcell (fun j hj => ?_) (fun j => blk_frozen hg _) hy h1c h1y h1z ⟨66, c * 2, by simp [World.shape?, hg, hcs], by omega⟩).mono ?_
      · rw [blk_cell hg, Array.getElem?_eq_getElem (by rw [hcs]; omega)]; rfl
      · rintro e w' ⟨rfl, rfl⟩
        have hfin := own_inS (w := w.drew) (k := i * 2) (s := 0) (news := [y, z]) (blk_drew hg) hB hroom hcm hcs hct (by omega) rfl
        rw [show i * 2 + 2 = (i + 1) * 2 by omega] at hfin
        exact ⟨_, rfl, hfin.1, ⟨hfin.2.os, hfin.2.tape, hfin.2.output, hfin.2.size, hfin.2.block⟩, .inl rfl⟩
    · refine (insA_grow g c n i vb inner y z w hin hnc (by omega) hn hil hcell hy h1c h1y h1z).mono ?_
      rintro e w' ⟨G, Z1, Z2, rfl, hG, hGm, hz1, hz2, rfl⟩
      have hfin := own_anewS (e := 66) (news := [y, z]) (Z1 := Z1) (Z2 := Z2) hb hil (k := i * 2) (by omega) rfl hG hGm hz2 hz1
      rw [show i * 2 + 2 = (i + 1) * 2 by omega] at hfin
      exact ⟨_, rfl, hfin.1, ⟨hfin.2.os, hfin.2.tape, hfin.2.output, hfin.2.size, fun k hk _ => hfin.2.block k hk (by simp)⟩, .inr rfl⟩
  · have e : i = n := by omega
    subst e
    have hl : inner.length = i * 2 := hown.1
    rw [List.take_of_length_le (by omega), List.drop_of_length_le (by omega), List.append_nil]
    exact insA_end A c i vb inner y z base w hown hy h1y h1z hn hb
end Go.Proofs.YtmcinclecpeakaaGreatDoor.ApA
/- Package record: the undoer: dropped (region 4 written by mkrece.py). -/
namespace Go.Proofs.YtmcinclecpeakaaGreatDoor.ApA
open Go.RowKit Go.Proofs.YtmcinclecpeakaaGreatDoorW.PrintWords Go.Proofs.YtmcinclecpeakaaGreatDoorW.PrintLast Go.Proofs.YtmcinclecpeakaaGreatDoorW.PrintMore Go.Proofs.YtmcinclecpeakaaGreatDoor.PRR Go.Proofs.YtmcinclecpeakaaGreatDoor.DocP Go.Proofs.YtmcinclecpeakaaGreatDoor.DocC
set_option linter.unusedVariables false
set_option linter.unusedSimpArgs false
def T4dr : Bool × List (List Nat × List Nat) := (true, [([], []), ([], []), ([1], [1]), ([2], [2]), ([3], [3]), ([], []), ([5], [5]), ([], []), ([7], [7]), ([8], [8]), ([], []), ([10], [10]), ([9, 11], [9, 11]), ([12], [12]), ([4, 6, 13], [4, 6, 13]), ([0, 0, 1, 2, 3, 4, 5, 6, 7, 8, 9, 10, 11, 12, 13, 14], [0]), ([15, 0, 1, 2, 3, 4, 5, 6, 7, 8, 9, 10, 11, 12, 13, 14], [15]), ([16, 14, 14, 0, 1, 2, 3, 4, 5, 6, 7, 8, 9, 10, 11, 12, 13, 14], [14, 16])])
def B4dr : List Nat := [0, 0, 2, 6, 14, 0, 32, 0, 128, 384, 0, 1024, 3968, 8064, 16382, 32767, 65535, 131071]
theorem tab4dr : rtab .any (opsOf Tryz.f33 4) = T4dr ∧ waitsOk T4dr.2 B4dr = true := ⟨by kernel_rfl, by kernel_rfl⟩
def T2dr : Bool × List (List Nat × List Nat) := (true, [([], []), ([0], [0]), ([1], [1]), ([2], [2]), ([3, 2], [2, 3]), ([4, 2], [2, 4]), ([5, 2], [2, 5]), ([6, 2], [2, 6]), ([2, 7], [2, 7]), ([8, 2], [8]), ([9], [9]), ([10, 9], [9, 10]), ([11, 9], [9, 11]), ([9, 12], [9, 12]), ([13, 9], [13]), ([14], [14]), ([15, 14], [14, 15]), ([14], [14]), ([17, 14], [14, 17]), ([18, 14], [14, 18]), ([19, 14], [14, 19]), ([20, 14], [14, 20]), ([16, 21, 14], [14, 16, 21]), ([14, 22], [14, 22]), ([23, 14], [23]), ([24], [24]), ([25, 24], [24, 25]), ([26, 24], [24, 26]), ([27, 24], [24, 27]), ([24], [24]), ([29, 24], [24, 29]), ([30, 24], [24, 30]), ([28, 31, 24, 24], [24, 28, 31]), ([32, 24], [24, 32]), ([24, 33], [24, 33])])
def B2dr : List Nat := [0, 1, 3, 7, 15, 31, 63, 127, 255, 511, 1023, 2047, 4095, 8191, 16383, 32767, 65535, 32767, 163839, 425983, 950271, 1998847, 4194303, 8388607, 16777215, 33554431, 67108863, 134217727, 268435455, 33554431, 570425343, 1644167167, 4294967295, 8589934591, 17179869183]
theorem tab2dr : rtab .any (opsOf Tryz.f33 2) = T2dr ∧ waitsOk T2dr.2 B2dr = true := ⟨by kernel_rfl, by kernel_rfl⟩
theorem attrC_single (nm v : ByteArray) : Reps attrC 2 [⟨nm, v⟩] [.string nm, .string v] := by
  refine ⟨rfl, fun j x hx => ?_⟩
  have hj : j = 0 := by
    have := (List.getElem?_eq_some_iff.1 hx).1
    simpa using this
  subst hj
  have hx' : x = ⟨nm, v⟩ := by simpa using hx.symm
  subst hx'
  rfl
set_option maxRecDepth 100000 in
set_option maxHeartbeats 8000000 in
theorem u_dropped (s : Stp) (A8 A11 : Option Addr) (n8 n11 c8 c11 : Nat) (l : List S43) (q : Bool) (b : Nat) (w0 w : World) (hw : Below w0.heap.size w0 w) (hE : Ud w w0.heap.size b l q) (hin : In l.length s.f0.f1) (hkd : (rd_T43 l s.f0.f1).f0 = 2) (h40 : 0 ≤ s.f4) (h4l : s.f4 ≤ ((rd_T43 l s.f0.f1).f2.length : Int)) (hnm : nmF s.f0.f4 (rd_T43 l s.f0.f1).f2 < 0) (hlm : (rd_T43 l s.f0.f1).f2.length ≤ 1000) :
    Calls Tryz.prog 33 #[.pointer (some ⟨b, 0, none⟩), .agg (stepV s A8 A11 n8 n11 c8 c11)] w fun u w' => u = .returned (.bool true) ∧ Ud w' w0.heap.size b (l.set s.f0.f1.toNat { rd_T43 l s.f0.f1 with f2 := (rd_T43 l s.f0.f1).f2.take s.f4.toNat ++ ⟨s.f0.f4, s.f2⟩ :: (rd_T43 l s.f0.f1).f2.drop s.f4.toNat }) q ∧ Below w0.heap.size w0 w' ∧ TF w w' := by
  obtain ⟨h0, h1⟩ := hin
  have hxi := rd_some l ⟨h0, h1⟩
  obtain ⟨gr, c, n, hn, hB, hbr, hgr, hgb, hbw, hblk, ⟨cells, hty⟩, hS⟩ := ud_form hE (i := s.f0.f1.toNat) (by omega)
  obtain ⟨hn2, hnc, hrow⟩ := Kd.S_reads' hS
  obtain ⟨adi, A2, c2, A5, c5, ei, i0, -, i2, -, -, -, h2l, h2, -⟩ := at_T43 hrow s.f0.f1 h0 h1
  cases ei
  have hbx := step_box w s A8 A11 n8 n11 c8 c11 (Below.refl _ _)
  have hb1 : Below w.heap.size w (w.alloc (.cells (stepV s A8 A11 n8 n11 c8 c11) 48)) := below_alloc (Below.refl _ _) _
  obtain ⟨w1, hw1⟩ : ∃ w1, w1 = w.alloc (.cells (stepV s A8 A11 n8 n11 c8 c11) 48) := ⟨_, rfl⟩
  rw [← hw1] at hbx hb1
  have HW1 := Lib.hid hw1
  clear hw1
  generalize rd_T43 l s.f0.f1 = x at *
  rw [hkd] at i0
  obtain ⟨k, hk⟩ : ∃ k, k = s.f0.f1.toNat := ⟨_, rfl⟩
  rw [← hk] at i0 i2 hxi ⊢
  obtain ⟨ix, hix⟩ : ∃ ix : Nat, (ix : Int) = s.f4 := ⟨s.f4.toNat, by omega⟩
  rw [← hix, Int.toNat_natCast]
  rw [← hix] at h4l
  have hin' : k < n := by omega
  have hixl : ix ≤ x.f2.length := by omega
  have i0' : w.cell? ⟨gr, k * 6, none⟩ = some (.int .i64 2) := by simpa [add_at] using i0
  have i2' : w.cell? ⟨gr, k * 6 + 2, none⟩ = some (.slice A2 x.f2.length c2) := by simpa [add_at] using i2
  obtain ⟨⟨inner0, hown, hrep0⟩, -⟩ := ed_attrs0 hS hin' hxi i2'
  have HPl : Hid (∀ W : World, Below w1.heap.size w1 W → Calls Tryz.prog 47 #[.slice A2 x.f2.length c2, .string s.f0.f4] W fun u w' => u = .returned (.int .i64 (nmF s.f0.f4 x.f2)) ∧ Below w1.heap.size w1 w') := Lib.hid (fun W hb =>
    (record_place.calls _ c2 x.f2 s.f0.f4 (nmF s.f0.f4 x.f2) W (Kd.C_below h2 (hb1.trans (hb.mono hb1.size))) h2l rfl).mono (fun u w' ⟨h1, h2⟩ => ⟨h1, hb.trans (h2.mono hb.size)⟩))
  obtain ⟨m2, hm2⟩ : ∃ m2, m2 = x.f2.length := ⟨_, rfl⟩
  rw [← hm2] at HPl i2' hixl hown
  have HX : Hid (∀ W : World, Below w1.heap.size w1 W → (W.cell? ⟨gr, k * 6 + 2, none⟩ = some (.slice A2 m2 c2) ∧ W.cell? ⟨w.heap.size, 15, none⟩ = some (.int .i64 (ix : Int)) ∧ W.cell? ⟨w.heap.size, 4, none⟩ = some (.string s.f0.f4) ∧ W.cell? ⟨w.heap.size, 13, none⟩ = some (.string s.f2)) ∧ W.cell? ⟨gr, k * 6, none⟩ = some (.int .i64 2)) := Lib.hid (fun W hW => by
    have hbw := hb1.trans (hW.mono hb1.size)
    have hx := blk_below hbx hW
    exact ⟨⟨pw_cell_below hbw i2', by rw [hix]; exact (blk_cell hx 15).trans rfl, (blk_cell hx 4).trans rfl, (blk_cell hx 13).trans rfl⟩, pw_cell_below hbw i0'⟩)
  have HDl : Hid (∀ (W : World) (vb : Nat), Below w1.heap.size w1 W → w1.heap.size ≤ vb → W.heap[vb]? = some (.cells #[.string s.f0.f4, .string s.f2] 66 (0, 0)) → Calls Tryz.prog 49 #[.slice A2 m2 c2, .int .i64 ix, .slice (some ⟨vb, 0, none⟩) 1 1] W fun u w' => ∃ A6 c6, u = .returned (.slice A6 (m2 + 1) c6) ∧ (w'.cell? ⟨gr, k * 6 + 2, none⟩ = some (.slice A2 m2 c2) ∧ w'.cell? ⟨w.heap.size, 15, none⟩ = some (.int .i64 (ix : Int)) ∧ w'.cell? ⟨w.heap.size, 4, none⟩ = some (.string s.f0.f4) ∧ w'.cell? ⟨w.heap.size, 13, none⟩ = some (.string s.f2)) ∧ w'.frozen? ⟨gr, k * 6 + 2, none⟩ = false ∧ Ud (w'.setCell ⟨gr, k * 6 + 2, none⟩ (.slice A6 (m2 + 1) c6)) w0.heap.size b (l.set k { x with f2 := (x.f2.take ix ++ ⟨s.f0.f4, s.f2⟩ :: x.f2.drop ix) }) q ∧ Below w0.heap.size w0 (w'.setCell ⟨gr, k * 6 + 2, none⟩ (.slice A6 (m2 + 1) c6)) ∧ TF w (w'.setCell ⟨gr, k * 6 + 2, none⟩ (.slice A6 (m2 + 1) c6))) :=
    Lib.hid (fun W vb hW1 hvb hc => by
      have hW := hb1.trans (hW1.mono hb1.size)
      obtain ⟨⟨inner, ho, hrep⟩, hK⟩ := ed_attrs (Kd.S_below hS hW) hin' hxi (pw_cell_below hW i2')
      have hlt := own_lt hown
      have hgrne := own_ne hown hty (by decide)
      have ho0 := ho
      rw [← hm2] at ho
      refine (insA_any A2 c2 m2 ix vb inner _ _ w0.heap.size W ho (attrC_one _ _ hrep) hc (fun he => by have := hlt vb he.symm; have := hb1.size; omega) rfl rfl hixl (by omega) (Nat.le_trans hw.size hW.size)).mono ?_
      rintro u w' ⟨v', rfl, ho', hg', hat'⟩
      obtain ⟨A6, c6, rfl⟩ := own_slice ho'
      have hbw := blk_grown (blk_below hbx hW1) hg' (fun he => by have := hlt w.heap.size he.symm; omega)
      have hgrW : w'.heap[gr]? = w.heap[gr]? := (hg'.block gr (Nat.lt_of_lt_of_le (blk_lt hty) hW.size) hgrne).trans (hW.block gr (blk_lt hty))
      have hbb := blk_grown (blk_below hblk hW) hg' (own_ne hown hblk (by decide))
      have hle : (x.f2.take ix ++ ⟨s.f0.f4, s.f2⟩ :: x.f2.drop ix).length = m2 + 1 := by simp; omega
      have hrow' := hK W w' (.slice A6 (m2 + 1) c6) (x.f2.take ix ++ ⟨s.f0.f4, s.f2⟩ :: x.f2.drop ix) _ (Below.refl _ _) hg' (by rw [hle]; exact ho') (by
        have h := Kd.reps_append (Kd.reps_append (Kd.reps_take hrep (m := ix) (by omega)) (attrC_single s.f0.f4 s.f2)) (Kd.reps_drop (m := ix) hrep)
        rw [List.append_assoc] at h
        exact h) (hat'.imp id (fun h => ⟨_, h, Nat.le_refl _⟩)) (by simp [Value.oneCell'])
      refine ⟨A6, c6, rfl, ⟨(World.cell?_of_block hgrW).trans i2', by rw [hix]; exact (blk_cell hbw 15).trans rfl, (blk_cell hbw 4).trans rfl, (blk_cell hbw 13).trans rfl⟩, blk_frozen (hgrW.trans hty) _, ⟨_, hB, blk_far hbb (Ne.symm hgb) _, hrow'⟩, ?_, (TF.below hW).trans ((TF.grown hg' (fun g he => by
        obtain ⟨cs, hc⟩ := own_typed hown g he
        exact ⟨cs, _, blk_below hc hW, by decide⟩)).trans (TF.set (hgrW.trans hty) (by decide) _ _))⟩
      exact ((hw.trans (hW.mono hw.size)).grown hg' (Nat.le_trans hw.size hW.size) (own_base hown)).setCell hbr _)
  have z1 : w1.cell? ⟨w.heap.size, 1, none⟩ = some (.int .i64 s.f0.f1) := (blk_cell hbx 1).trans rfl
  have HNd : Hid (Calls Tryz.prog 48 #[.pointer (some ⟨b, 0, none⟩), .int .i64 s.f0.f1] w1 fun u w' => u = .returned (.pointer (some ⟨gr, k * 6, none⟩)) ∧ w1 = w') :=
    Lib.hid (by rw [hk]; exact unode_in b gr n c s.f0.f1 w1 (pw_cell_below hb1 ((blk_cell hblk 0).trans rfl)) ⟨h0, by omega⟩)
  have hgrw1 : gr < w1.heap.size := Nat.lt_of_lt_of_le hgr hb1.size
  have hww1 : w.heap.size < w1.heap.size := blk_lt hbx
  have hixd : decide ((m2 : Int) < (ix : Int)) = false := decide_eq_false (by omega)
  have hixm : (ix : Int) ≤ (m2 : Int) := by omega
  have hi0d : decide ((ix : Int) < 0) = false := decide_eq_false (by omega)
  have hixe : decide (m2 < ix) = false := decide_eq_false (by omega)
  have hnmd : decide (0 ≤ nmF s.f0.f4 x.f2) = false := decide_eq_false (by omega)
  generalize nmF s.f0.f4 x.f2 = nn at HPl hnmd
  clear hE hblk hS hw hB hn hxi hrow hty hn2 hnc hbx hb1 h0 h1 hk hgb hbw cells hnm hlm hix i0 i2 i0' i2' hown hrep0 hm2 h2 h2l hkd h40 h4l
  unfold stepV HC at HW1 ⊢
  go_enter Tryz.func33, Tryz.ntmps33
  go_wp2_with fail
  rw [← HW1.out]
  refine HNd.out.mono ?_
  rintro u w' ⟨rfl, rfl⟩
  obtain ⟨⟨e2, e15, e4, e13⟩, e0⟩ := HX.out w1 (Below.refl _ _)
  go_upto_region 2 with fail
  go_cut [45] (fun s45 wx => s45 = .bool false ∧ Hid (Below w1.heap.size w1 wx))
  case first =>
    refine start_ (n := 35) (S := fun w' => w'.cell? ⟨gr, k * 6, none⟩ = some (.int .i64 2) ∧ w'.cell? ⟨gr, k * 6 + 2, none⟩ = some (.slice A2 m2 c2) ∧ w'.cell? ⟨w.heap.size, 15, none⟩ = some (.int .i64 (ix : Int)) ∧ w'.cell? ⟨w.heap.size, 4, none⟩ = some (.string s.f0.f4) ∧ w'.cell? ⟨w.heap.size, 13, none⟩ = some (.string s.f2)) (ds := []) #[false, false, false, false, false, false, false, false, false, false, false, false, false, false, false, false, false, false, false, false, false, false, false, false, false, false, false, false, false, false, false, false, false, false, false] (by kernel_rfl) rfl rfl ⟨(HX.out _ (below_drew (Below.refl _ _))).2, (HX.out _ (below_drew (Below.refl _ _))).1⟩ (fun hHeld => ?_)
    refine with_tabW tab2dr.1 tab2dr.2 (fun HT_ HW_ => ?_)
    have hbr := below_drew (Below.refl w1.heap.size w1)
    generalize w1.drew = w_0 at hHeld hbr ⊢
    refine pure_ (i := 0) (N := some 11) (v := ?_) (a' := ?_) #[true, false, false, false, false, false, false, false, false, false, false, false, false, false, false, false, false, false, false, false, false, false, false, false, false, false, false, false, false, false, false, false, false, false, false] rfl rfl (any_of HT_.out (by kernel_rfl)) (fun _ _ _ h => h) (Or.inl ⟨by rfl, ?_⟩) ?_ ?_
    rotate_left
    · intro w'
      go_simp
      with_reducible rfl
    rotate_left
    · simp only [Act.put, List.setIfInBounds_toArray, List.set_cons_zero, List.set_cons_succ, i64_w, i32_w]
      rfl
    refine pure_ (i := 1) (N := some 12) (v := ?_) (a' := ?_) #[true, true, false, false, false, false, false, false, false, false, false, false, false, false, false, false, false, false, false, false, false, false, false, false, false, false, false, false, false, false, false, false, false, false, false] rfl rfl (any_of HT_.out (by kernel_rfl)) (fun _ _ _ h => h) (Or.inl ⟨by rfl, ?_⟩) ?_ ?_
    rotate_left
    · intro w'
      go_simp
      with_reducible rfl
    rotate_left
    · simp only [Act.put, List.setIfInBounds_toArray, List.set_cons_zero, List.set_cons_succ, i64_w, i32_w]
      rfl
    refine pure_ (i := 2) (N := some 13) (v := ?_) (a' := ?_) #[true, true, true, false, false, false, false, false, false, false, false, false, false, false, false, false, false, false, false, false, false, false, false, false, false, false, false, false, false, false, false, false, false, false, false] rfl rfl (any_of HT_.out (by kernel_rfl)) (fun _ _ _ h => h) (Or.inl ⟨by rfl, ?_⟩) ?_ ?_
    rotate_left
    · intro w'
      go_simp
      with_reducible rfl
    rotate_left
    · simp only [Act.put, List.setIfInBounds_toArray, List.set_cons_zero, List.set_cons_succ, i64_w, i32_w]
      rfl
    refine pure_ (i := 3) (N := some 14) (v := ?_) (a' := ?_) #[true, true, true, true, false, false, false, false, false, false, false, false, false, false, false, false, false, false, false, false, false, false, false, false, false, false, false, false, false, false, false, false, false, false, false] rfl rfl (any_of HT_.out (by kernel_rfl)) (fun _ _ _ h => h) (Or.inl ⟨by rfl, ?_⟩) ?_ ?_
    rotate_left
    · intro w'
      go_simp
      with_reducible rfl
    rotate_left
    · simp only [Act.put, List.setIfInBounds_toArray, List.set_cons_zero, List.set_cons_succ, i64_w, i32_w]
      rfl
    refine pure_ (i := 4) (N := some 15) (v := ?_) (a' := ?_) #[true, true, true, true, true, false, false, false, false, false, false, false, false, false, false, false, false, false, false, false, false, false, false, false, false, false, false, false, false, false, false, false, false, false, false] rfl rfl (any_of HT_.out (by kernel_rfl)) (fun _ _ _ h => h) (Or.inl ⟨by rfl, ?_⟩) ?_ ?_
    rotate_left
    · intro w'
      go_simp
      with_reducible rfl
    rotate_left
    · simp only [Act.put, List.setIfInBounds_toArray, List.set_cons_zero, List.set_cons_succ, i64_w, i32_w]
      rfl
    refine pure_ (i := 5) (N := some 16) (v := ?_) (a' := ?_) #[true, true, true, true, true, true, false, false, false, false, false, false, false, false, false, false, false, false, false, false, false, false, false, false, false, false, false, false, false, false, false, false, false, false, false] rfl rfl (any_of HT_.out (by kernel_rfl)) (fun _ _ _ h => h) (Or.inl ⟨by rfl, ?_⟩) ?_ ?_
    rotate_left
    · intro w'
      go_simp
      with_reducible rfl
    rotate_left
    · simp only [Act.put, List.setIfInBounds_toArray, List.set_cons_zero, List.set_cons_succ, i64_w, i32_w]
      rfl
    refine take_ (i := 6) (N := some 17) (v := ?_) (a' := ?_) #[true, true, true, true, true, true, true, false, false, false, false, false, false, false, false, false, false, false, false, false, false, false, false, false, false, false, false, false, false, false, false, false, false, false, false] rfl rfl (take_ofW HT_.out HW_.out (by kernel_rfl)) (fun _ _ _ h => h) (Or.inl ⟨by rfl, ?_⟩) hHeld ?_ ?_
    rotate_left
    · rintro w' ⟨s0, s1, s2, s3, s4⟩
      go_simp
      with_reducible rfl
    rotate_left
    · simp only [Act.put, List.setIfInBounds_toArray, List.set_cons_zero, List.set_cons_succ, i64_w, i32_w]
      rfl
    refine pure_ (i := 7) (N := some 18) (v := ?_) (a' := ?_) #[true, true, true, true, true, true, true, true, false, false, false, false, false, false, false, false, false, false, false, false, false, false, false, false, false, false, false, false, false, false, false, false, false, false, false] rfl rfl (any_of HT_.out (by kernel_rfl)) (fun _ _ _ h => h) (Or.inl ⟨by rfl, ?_⟩) ?_ ?_
    rotate_left
    · intro w'
      go_simp
      with_reducible rfl
    rotate_left
    · simp only [Act.put, List.setIfInBounds_toArray, List.set_cons_zero, List.set_cons_succ, i64_w, i32_w]
      rfl
    refine pure_ (i := 8) (N := some 19) (v := ?_) (a' := ?_) #[true, true, true, true, true, true, true, true, true, false, false, false, false, false, false, false, false, false, false, false, false, false, false, false, false, false, false, false, false, false, false, false, false, false, false] rfl rfl (any_of HT_.out (by kernel_rfl)) (fun _ _ _ h => h) (Or.inl ⟨by rfl, ?_⟩) ?_ ?_
    rotate_left
    · intro w'
      go_simp
      with_reducible rfl
    rotate_left
    · simp only [Act.put, List.setIfInBounds_toArray, List.set_cons_zero, List.set_cons_succ, i64_w, i32_w]
      rfl
    refine pure_ (i := 9) (N := some 20) (v := ?_) (a' := ?_) #[true, true, true, true, true, true, true, true, true, true, false, false, false, false, false, false, false, false, false, false, false, false, false, false, false, false, false, false, false, false, false, false, false, false, false] rfl rfl (any_of HT_.out (by kernel_rfl)) (fun _ _ _ h => h) (Or.inl ⟨by rfl, ?_⟩) ?_ ?_
    rotate_left
    · intro w'
      go_simp
      with_reducible rfl
    rotate_left
    · simp only [Act.put, List.setIfInBounds_toArray, List.set_cons_zero, List.set_cons_succ, i64_w, i32_w]
      rfl
    refine pure_ (i := 10) (N := some 21) (v := ?_) (a' := ?_) #[true, true, true, true, true, true, true, true, true, true, true, false, false, false, false, false, false, false, false, false, false, false, false, false, false, false, false, false, false, false, false, false, false, false, false] rfl rfl (any_of HT_.out (by kernel_rfl)) (fun _ _ _ h => h) (Or.inl ⟨by rfl, ?_⟩) ?_ ?_
    rotate_left
    · intro w'
      go_simp
      with_reducible rfl
    rotate_left
    · simp only [Act.put, List.setIfInBounds_toArray, List.set_cons_zero, List.set_cons_succ, i64_w, i32_w]
      rfl
    refine take_ (i := 11) (N := some 22) (v := ?_) (a' := ?_) #[true, true, true, true, true, true, true, true, true, true, true, true, false, false, false, false, false, false, false, false, false, false, false, false, false, false, false, false, false, false, false, false, false, false, false] rfl rfl (take_ofW HT_.out HW_.out (by kernel_rfl)) (fun _ _ _ h => h) (Or.inl ⟨by rfl, ?_⟩) hHeld ?_ ?_
    rotate_left
    · rintro w' ⟨s0, s1, s2, s3, s4⟩
      go_simp
      with_reducible rfl
    rotate_left
    · simp only [Act.put, List.setIfInBounds_toArray, List.set_cons_zero, List.set_cons_succ, i64_w, i32_w]
      rfl
    refine pure_ (i := 12) (N := some 23) (v := ?_) (a' := ?_) #[true, true, true, true, true, true, true, true, true, true, true, true, true, false, false, false, false, false, false, false, false, false, false, false, false, false, false, false, false, false, false, false, false, false, false] rfl rfl (any_of HT_.out (by kernel_rfl)) (fun _ _ _ h => h) (Or.inl ⟨by rfl, ?_⟩) ?_ ?_
    rotate_left
    · intro w'
      go_simp
      with_reducible rfl
    rotate_left
    · simp only [Act.put, List.setIfInBounds_toArray, List.set_cons_zero, List.set_cons_succ, i64_w, i32_w]
      rfl
    refine pure_ (i := 13) (N := some 24) (v := ?_) (a' := ?_) #[true, true, true, true, true, true, true, true, true, true, true, true, true, true, false, false, false, false, false, false, false, false, false, false, false, false, false, false, false, false, false, false, false, false, false] rfl rfl (any_of HT_.out (by kernel_rfl)) (fun _ _ _ h => h) (Or.inl ⟨by rfl, ?_⟩) ?_ ?_
    rotate_left
    · intro w'
      go_simp
      with_reducible rfl
    rotate_left
    · simp only [Act.put, List.setIfInBounds_toArray, List.set_cons_zero, List.set_cons_succ, i64_w, i32_w]
      rfl
    refine pure_ (i := 14) (N := some 25) (v := ?_) (a' := ?_) #[true, true, true, true, true, true, true, true, true, true, true, true, true, true, true, false, false, false, false, false, false, false, false, false, false, false, false, false, false, false, false, false, false, false, false] rfl rfl (any_of HT_.out (by kernel_rfl)) (fun _ _ _ h => h) (Or.inl ⟨by rfl, ?_⟩) ?_ ?_
    rotate_left
    · intro w'
      go_simp
      with_reducible rfl
    rotate_left
    · simp only [Act.put, List.setIfInBounds_toArray, List.set_cons_zero, List.set_cons_succ, i64_w, i32_w]
      rfl
    refine pure_ (i := 15) (N := some 26) (v := ?_) (a' := ?_) #[true, true, true, true, true, true, true, true, true, true, true, true, true, true, true, true, false, false, false, false, false, false, false, false, false, false, false, false, false, false, false, false, false, false, false] rfl rfl (any_of HT_.out (by kernel_rfl)) (fun _ _ _ h => h) (Or.inl ⟨by rfl, ?_⟩) ?_ ?_
    rotate_left
    · intro w'
      go_simp
      with_reducible rfl
    rotate_left
    · simp only [Act.put, List.setIfInBounds_toArray, List.set_cons_zero, List.set_cons_succ, i64_w, i32_w]
      rfl
    refine pure_ (i := 17) (N := some 28) (v := ?_) (a' := ?_) #[true, true, true, true, true, true, true, true, true, true, true, true, true, true, true, true, false, true, false, false, false, false, false, false, false, false, false, false, false, false, false, false, false, false, false] rfl rfl (any_of HT_.out (by kernel_rfl)) (fun _ _ _ h => h) (Or.inl ⟨by rfl, ?_⟩) ?_ ?_
    rotate_left
    · intro w'
      go_simp
      with_reducible rfl
    rotate_left
    · simp only [Act.put, List.setIfInBounds_toArray, List.set_cons_zero, List.set_cons_succ, i64_w, i32_w]
      rfl
    refine pure_ (i := 18) (N := some 29) (v := ?_) (a' := ?_) #[true, true, true, true, true, true, true, true, true, true, true, true, true, true, true, true, false, true, true, false, false, false, false, false, false, false, false, false, false, false, false, false, false, false, false] rfl rfl (any_of HT_.out (by kernel_rfl)) (fun _ _ _ h => h) (Or.inl ⟨by rfl, ?_⟩) ?_ ?_
    rotate_left
    · intro w'
      go_simp
      with_reducible rfl
    rotate_left
    · simp only [Act.put, List.setIfInBounds_toArray, List.set_cons_zero, List.set_cons_succ, i64_w, i32_w]
      rfl
    refine pure_ (i := 19) (N := some 30) (v := ?_) (a' := ?_) #[true, true, true, true, true, true, true, true, true, true, true, true, true, true, true, true, false, true, true, true, false, false, false, false, false, false, false, false, false, false, false, false, false, false, false] rfl rfl (any_of HT_.out (by kernel_rfl)) (fun _ _ _ h => h) (Or.inl ⟨by rfl, ?_⟩) ?_ ?_
    rotate_left
    · intro w'
      go_simp
      with_reducible rfl
    rotate_left
    · simp only [Act.put, List.setIfInBounds_toArray, List.set_cons_zero, List.set_cons_succ, i64_w, i32_w]
      rfl
    refine take_ (i := 16) (N := some 27) (v := ?_) (a' := ?_) #[true, true, true, true, true, true, true, true, true, true, true, true, true, true, true, true, true, true, true, true, false, false, false, false, false, false, false, false, false, false, false, false, false, false, false] rfl rfl (take_ofW HT_.out HW_.out (by kernel_rfl)) (fun _ _ _ h => h) (Or.inl ⟨by rfl, ?_⟩) hHeld ?_ ?_
    rotate_left
    · rintro w' ⟨s0, s1, s2, s3, s4⟩
      go_simp
      with_reducible rfl
    rotate_left
    · simp only [Act.put, List.setIfInBounds_toArray, List.set_cons_zero, List.set_cons_succ, i64_w, i32_w]
      rfl
    refine take_ (i := 20) (N := some 31) (v := ?_) (a' := ?_) #[true, true, true, true, true, true, true, true, true, true, true, true, true, true, true, true, true, true, true, true, true, false, false, false, false, false, false, false, false, false, false, false, false, false, false] rfl rfl (take_ofW HT_.out HW_.out (by kernel_rfl)) (fun _ _ _ h => h) (Or.inl ⟨by rfl, ?_⟩) hHeld ?_ ?_
    rotate_left
    · rintro w' ⟨s0, s1, s2, s3, s4⟩
      go_simp
      with_reducible rfl
    rotate_left
    · simp only [Act.put, List.setIfInBounds_toArray, List.set_cons_zero, List.set_cons_succ, i64_w, i32_w]
      rfl
    refine pure_ (i := 21) (N := some 32) (v := ?_) (a' := ?_) #[true, true, true, true, true, true, true, true, true, true, true, true, true, true, true, true, true, true, true, true, true, true, false, false, false, false, false, false, false, false, false, false, false, false, false] rfl rfl (any_of HT_.out (by kernel_rfl)) (fun _ _ _ h => h) (Or.inl ⟨by rfl, ?_⟩) ?_ ?_
    rotate_left
    · intro w'
      go_simp
      with_reducible rfl
    rotate_left
    · simp only [Act.put, List.setIfInBounds_toArray, List.set_cons_zero, List.set_cons_succ, i64_w, i32_w]
      rfl
    refine pure_ (i := 22) (N := some 33) (v := ?_) (a' := ?_) #[true, true, true, true, true, true, true, true, true, true, true, true, true, true, true, true, true, true, true, true, true, true, true, false, false, false, false, false, false, false, false, false, false, false, false] rfl rfl (any_of HT_.out (by kernel_rfl)) (fun _ _ _ h => h) (Or.inl ⟨by rfl, ?_⟩) ?_ ?_
    rotate_left
    · intro w'
      go_simp
      with_reducible rfl
    rotate_left
    · simp only [Act.put, List.setIfInBounds_toArray, List.set_cons_zero, List.set_cons_succ, i64_w, i32_w]
      rfl
    refine pure_ (i := 23) (N := some 34) (v := ?_) (a' := ?_) #[true, true, true, true, true, true, true, true, true, true, true, true, true, true, true, true, true, true, true, true, true, true, true, true, false, false, false, false, false, false, false, false, false, false, false] rfl rfl (any_of HT_.out (by kernel_rfl)) (fun _ _ _ h => h) (Or.inl ⟨by rfl, ?_⟩) ?_ ?_
    rotate_left
    · intro w'
      go_simp
      with_reducible rfl
    rotate_left
    · simp only [Act.put, List.setIfInBounds_toArray, List.set_cons_zero, List.set_cons_succ, i64_w, i32_w]
      rfl
    refine pure_ (i := 24) (N := some 35) (v := ?_) (a' := ?_) #[true, true, true, true, true, true, true, true, true, true, true, true, true, true, true, true, true, true, true, true, true, true, true, true, true, false, false, false, false, false, false, false, false, false, false] rfl rfl (any_of HT_.out (by kernel_rfl)) (fun _ _ _ h => h) (Or.inl ⟨by rfl, ?_⟩) ?_ ?_
    rotate_left
    · intro w'
      go_simp
      with_reducible rfl
    rotate_left
    · simp only [Act.put, List.setIfInBounds_toArray, List.set_cons_zero, List.set_cons_succ, i64_w, i32_w]
      rfl
    refine pure_ (i := 25) (N := some 36) (v := ?_) (a' := ?_) #[true, true, true, true, true, true, true, true, true, true, true, true, true, true, true, true, true, true, true, true, true, true, true, true, true, true, false, false, false, false, false, false, false, false, false] rfl rfl (any_of HT_.out (by kernel_rfl)) (fun _ _ _ h => h) (Or.inl ⟨by rfl, ?_⟩) ?_ ?_
    rotate_left
    · intro w'
      go_simp
      with_reducible rfl
    rotate_left
    · simp only [Act.put, List.setIfInBounds_toArray, List.set_cons_zero, List.set_cons_succ, i64_w, i32_w]
      rfl
    refine pure_ (i := 26) (N := some 37) (v := ?_) (a' := ?_) #[true, true, true, true, true, true, true, true, true, true, true, true, true, true, true, true, true, true, true, true, true, true, true, true, true, true, true, false, false, false, false, false, false, false, false] rfl rfl (any_of HT_.out (by kernel_rfl)) (fun _ _ _ h => h) (Or.inl ⟨by rfl, ?_⟩) ?_ ?_
    rotate_left
    · intro w'
      go_simp
      with_reducible rfl
    rotate_left
    · simp only [Act.put, List.setIfInBounds_toArray, List.set_cons_zero, List.set_cons_succ, i64_w, i32_w]
      rfl
    refine pure_ (i := 27) (N := some 38) (v := ?_) (a' := ?_) #[true, true, true, true, true, true, true, true, true, true, true, true, true, true, true, true, true, true, true, true, true, true, true, true, true, true, true, true, false, false, false, false, false, false, false] rfl rfl (any_of HT_.out (by kernel_rfl)) (fun _ _ _ h => h) (Or.inl ⟨by rfl, ?_⟩) ?_ ?_
    rotate_left
    · intro w'
      go_simp
      with_reducible rfl
    rotate_left
    · simp only [Act.put, List.setIfInBounds_toArray, List.set_cons_zero, List.set_cons_succ, i64_w, i32_w]
      rfl
    refine pure_ (i := 29) (N := some 40) (v := ?_) (a' := ?_) #[true, true, true, true, true, true, true, true, true, true, true, true, true, true, true, true, true, true, true, true, true, true, true, true, true, true, true, true, false, true, false, false, false, false, false] rfl rfl (any_of HT_.out (by kernel_rfl)) (fun _ _ _ h => h) (Or.inl ⟨by rfl, ?_⟩) ?_ ?_
    rotate_left
    · intro w'
      go_simp
      with_reducible rfl
    rotate_left
    · simp only [Act.put, List.setIfInBounds_toArray, List.set_cons_zero, List.set_cons_succ, i64_w, i32_w]
      rfl
    refine pure_ (i := 30) (N := some 41) (v := ?_) (a' := ?_) #[true, true, true, true, true, true, true, true, true, true, true, true, true, true, true, true, true, true, true, true, true, true, true, true, true, true, true, true, false, true, true, false, false, false, false] rfl rfl (any_of HT_.out (by kernel_rfl)) (fun _ _ _ h => h) (Or.inl ⟨by rfl, ?_⟩) ?_ ?_
    rotate_left
    · intro w'
      go_simp
      with_reducible rfl
    rotate_left
    · simp only [Act.put, List.setIfInBounds_toArray, List.set_cons_zero, List.set_cons_succ, i64_w, i32_w]
      rfl
    refine take_ (i := 28) (N := some 39) (v := ?_) (a' := ?_) #[true, true, true, true, true, true, true, true, true, true, true, true, true, true, true, true, true, true, true, true, true, true, true, true, true, true, true, true, true, true, true, false, false, false, false] rfl rfl (take_ofW HT_.out HW_.out (by kernel_rfl)) (fun _ _ _ h => h) (Or.inl ⟨by rfl, ?_⟩) hHeld ?_ ?_
    rotate_left
    · rintro w' ⟨s0, s1, s2, s3, s4⟩
      go_simp
      with_reducible rfl
    rotate_left
    · simp only [Act.put, List.setIfInBounds_toArray, List.set_cons_zero, List.set_cons_succ, i64_w, i32_w]
      rfl
    refine take_ (i := 31) (N := some 42) (v := ?_) (a' := ?_) #[true, true, true, true, true, true, true, true, true, true, true, true, true, true, true, true, true, true, true, true, true, true, true, true, true, true, true, true, true, true, true, true, false, false, false] rfl rfl (take_ofW HT_.out HW_.out (by kernel_rfl)) (fun _ _ _ h => h) (Or.inl ⟨by rfl, ?_⟩) hHeld ?_ ?_
    rotate_left
    · rintro w' ⟨s0, s1, s2, s3, s4⟩
      go_simp
      with_reducible rfl
    rotate_left
    · simp only [Act.put, List.setIfInBounds_toArray, List.set_cons_zero, List.set_cons_succ, i64_w, i32_w]
      rfl
    refine one_ (i := 32) (N := some 43) #[true, true, true, true, true, true, true, true, true, true, true, true, true, true, true, true, true, true, true, true, true, true, true, true, true, true, true, true, true, true, true, true, true, false, false] rfl rfl (one_of HT_.out (by kernel_rfl)) (by decide) (fun K hK => ?_)
    refine goes_ Tryz.func47 (by kernel_rfl) rfl #[.slice A2 m2 c2, .string s.f0.f4] (by rfl) rfl rfl (by (try simp only [List.map_toArray, List.map_cons, List.map_nil]); first | done | rfl) ?_
    refine (HPl.out _ hbr).mono ?_
    rintro u_ w4 ⟨rfl, hb2⟩
    refine ⟨_, rfl, ?_⟩
    refine hK.out _ _ ⟨(HX.out _ hb2).2, (HX.out _ hb2).1⟩ (fun hHeld => ?_)
    clear hK K
    refine norm_ (a' := ?_) ?_ ?_
    rotate_left
    · show Act.put _ (some 43) _ = _
      simp only [Act.put, List.setIfInBounds_toArray, List.set_cons_zero, List.set_cons_succ, i64_w, i32_w]
      rfl
    refine pure_ (i := 33) (N := some 44) (v := ?_) (a' := ?_) #[true, true, true, true, true, true, true, true, true, true, true, true, true, true, true, true, true, true, true, true, true, true, true, true, true, true, true, true, true, true, true, true, true, true, false] rfl rfl (any_of HT_.out (by kernel_rfl)) (fun _ _ _ h => h) (Or.inl ⟨by rfl, ?_⟩) ?_ ?_
    rotate_left
    · intro w'
      go_simp
      with_reducible rfl
    rotate_left
    · simp only [Act.put, List.setIfInBounds_toArray, List.set_cons_zero, List.set_cons_succ, i64_w, i32_w]
      rfl
    refine pure_ (i := 34) (N := some 45) (v := ?_) (a' := ?_) #[true, true, true, true, true, true, true, true, true, true, true, true, true, true, true, true, true, true, true, true, true, true, true, true, true, true, true, true, true, true, true, true, true, true, true] rfl rfl (any_of HT_.out (by kernel_rfl)) (fun _ _ _ h => h) (Or.inl ⟨by rfl, ?_⟩) ?_ ?_
    rotate_left
    · intro w'
      go_simp
      with_reducible rfl
    rotate_left
    · simp only [Act.put, List.setIfInBounds_toArray, List.set_cons_zero, List.set_cons_succ, i64_w, i32_w]
      rfl
    refine done_ (done_of HT_.out (by kernel_rfl)) ?_
    go_wp2_with fail
    go_meet
    exact ⟨rfl, Lib.hid hb2⟩
  case rest =>
    obtain ⟨rfl, HB3⟩ := hcut
    rename World => w3
    clear e2 e15 e4 e13 e0 z1
    have HX3 : Hid (∀ W : World, Below w3.heap.size w3 W → W.cell? ⟨gr, k * 6 + 2, none⟩ = some (.slice A2 m2 c2) ∧ W.cell? ⟨w.heap.size, 15, none⟩ = some (.int .i64 (ix : Int)) ∧ W.cell? ⟨w.heap.size, 4, none⟩ = some (.string s.f0.f4) ∧ W.cell? ⟨w.heap.size, 13, none⟩ = some (.string s.f2)) := Lib.hid (fun W h => (HX.out W (HB3.out.trans (h.mono HB3.out.size))).1)
    have HD3 : Hid (∀ (W : World) (vb : Nat), Below w3.heap.size w3 W → w3.heap.size ≤ vb → W.heap[vb]? = some (.cells #[.string s.f0.f4, .string s.f2] 66 (0, 0)) → Calls Tryz.prog 49 #[.slice A2 m2 c2, .int .i64 ix, .slice (some ⟨vb, 0, none⟩) 1 1] W fun u w' => ∃ A6 c6, u = .returned (.slice A6 (m2 + 1) c6) ∧ (w'.cell? ⟨gr, k * 6 + 2, none⟩ = some (.slice A2 m2 c2) ∧ w'.cell? ⟨w.heap.size, 15, none⟩ = some (.int .i64 (ix : Int)) ∧ w'.cell? ⟨w.heap.size, 4, none⟩ = some (.string s.f0.f4) ∧ w'.cell? ⟨w.heap.size, 13, none⟩ = some (.string s.f2)) ∧ w'.frozen? ⟨gr, k * 6 + 2, none⟩ = false ∧ Ud (w'.setCell ⟨gr, k * 6 + 2, none⟩ (.slice A6 (m2 + 1) c6)) w0.heap.size b (l.set k { x with f2 := (x.f2.take ix ++ ⟨s.f0.f4, s.f2⟩ :: x.f2.drop ix) }) q ∧ Below w0.heap.size w0 (w'.setCell ⟨gr, k * 6 + 2, none⟩ (.slice A6 (m2 + 1) c6)) ∧ TF w (w'.setCell ⟨gr, k * 6 + 2, none⟩ (.slice A6 (m2 + 1) c6))) := Lib.hid (fun W vb h h2 h3 => HDl.out W vb (HB3.out.trans (h.mono HB3.out.size)) (Nat.le_trans HB3.out.size h2) h3)
    clear HX HDl
    go_upto_region 4 with fail
    refine start_ (n := 18) (S := fun w' => w'.cell? ⟨gr, k * 6 + 2, none⟩ = some (.slice A2 m2 c2) ∧ w'.cell? ⟨w.heap.size, 15, none⟩ = some (.int .i64 (ix : Int)) ∧ w'.cell? ⟨w.heap.size, 4, none⟩ = some (.string s.f0.f4) ∧ w'.cell? ⟨w.heap.size, 13, none⟩ = some (.string s.f2)) (ds := [17]) #[false, false, false, false, false, false, false, false, false, false, false, false, false, false, false, false, false, false] (by kernel_rfl) rfl rfl (HX3.out _ (below_drew (Below.refl _ _))) (fun hHeld => ?_)
    refine with_tabW tab4dr.1 tab4dr.2 (fun HT_ HW_ => ?_)
    have hbr := below_drew (Below.refl w3.heap.size w3)
    generalize w3.drew = w_0 at hHeld hbr ⊢
    refine pure_ (i := 0) (N := some 46) (v := ?_) (a' := ?_) #[true, false, false, false, false, false, false, false, false, false, false, false, false, false, false, false, false, false] rfl rfl (any_of HT_.out (by kernel_rfl)) (fun _ _ _ h => h) (Or.inl ⟨by rfl, ?_⟩) ?_ ?_
    rotate_left
    · intro w'
      go_simp
      with_reducible rfl
    rotate_left
    · simp only [Act.put, List.setIfInBounds_toArray, List.set_cons_zero, List.set_cons_succ, i64_w, i32_w]
      rfl
    refine pure_ (i := 1) (N := some 47) (v := ?_) (a' := ?_) #[true, true, false, false, false, false, false, false, false, false, false, false, false, false, false, false, false, false] rfl rfl (any_of HT_.out (by kernel_rfl)) (fun _ _ _ h => h) (Or.inl ⟨by rfl, ?_⟩) ?_ ?_
    rotate_left
    · intro w'
      go_simp
      with_reducible rfl
    rotate_left
    · simp only [Act.put, List.setIfInBounds_toArray, List.set_cons_zero, List.set_cons_succ, i64_w, i32_w]
      rfl
    refine pure_ (i := 2) (N := some 48) (v := ?_) (a' := ?_) #[true, true, true, false, false, false, false, false, false, false, false, false, false, false, false, false, false, false] rfl rfl (any_of HT_.out (by kernel_rfl)) (fun _ _ _ h => h) (Or.inl ⟨by rfl, ?_⟩) ?_ ?_
    rotate_left
    · intro w'
      go_simp
      with_reducible rfl
    rotate_left
    · simp only [Act.put, List.setIfInBounds_toArray, List.set_cons_zero, List.set_cons_succ, i64_w, i32_w]
      rfl
    refine pure_ (i := 3) (N := some 49) (v := ?_) (a' := ?_) #[true, true, true, true, false, false, false, false, false, false, false, false, false, false, false, false, false, false] rfl rfl (any_of HT_.out (by kernel_rfl)) (fun _ _ _ h => h) (Or.inl ⟨by rfl, ?_⟩) ?_ ?_
    rotate_left
    · intro w'
      go_simp
      with_reducible rfl
    rotate_left
    · simp only [Act.put, List.setIfInBounds_toArray, List.set_cons_zero, List.set_cons_succ, i64_w, i32_w]
      rfl
    refine pure_ (i := 5) (N := some 51) (v := ?_) (a' := ?_) #[true, true, true, true, false, true, false, false, false, false, false, false, false, false, false, false, false, false] rfl rfl (any_of HT_.out (by kernel_rfl)) (fun _ _ _ h => h) (Or.inl ⟨by rfl, ?_⟩) ?_ ?_
    rotate_left
    · intro w'
      go_simp
      with_reducible rfl
    rotate_left
    · simp only [Act.put, List.setIfInBounds_toArray, List.set_cons_zero, List.set_cons_succ, i64_w, i32_w]
      rfl
    refine pure_ (i := 7) (N := some 53) (v := ?_) (a' := ?_) #[true, true, true, true, false, true, false, true, false, false, false, false, false, false, false, false, false, false] rfl rfl (any_of HT_.out (by kernel_rfl)) (fun _ _ _ h => h) (Or.inl ⟨by rfl, ?_⟩) ?_ ?_
    rotate_left
    · intro w'
      go_simp
      with_reducible rfl
    rotate_left
    · simp only [Act.put, List.setIfInBounds_toArray, List.set_cons_zero, List.set_cons_succ, i64_w, i32_w]
      rfl
    refine pure_ (i := 8) (N := some 54) (v := ?_) (a' := ?_) #[true, true, true, true, false, true, false, true, true, false, false, false, false, false, false, false, false, false] rfl rfl (any_of HT_.out (by kernel_rfl)) (fun _ _ _ h => h) (Or.inl ⟨by rfl, ?_⟩) ?_ ?_
    rotate_left
    · intro w'
      go_simp
      with_reducible rfl
    rotate_left
    · simp only [Act.put, List.setIfInBounds_toArray, List.set_cons_zero, List.set_cons_succ, i64_w, i32_w]
      rfl
    refine pure_ (i := 10) (N := some 56) (v := ?_) (a' := ?_) #[true, true, true, true, false, true, false, true, true, false, true, false, false, false, false, false, false, false] rfl rfl (any_of HT_.out (by kernel_rfl)) (fun _ _ _ h => h) (Or.inl ⟨by rfl, ?_⟩) ?_ ?_
    rotate_left
    · intro w'
      go_simp
      with_reducible rfl
    rotate_left
    · simp only [Act.put, List.setIfInBounds_toArray, List.set_cons_zero, List.set_cons_succ, i64_w, i32_w]
      rfl
    refine take_ (i := 4) (N := some 50) (v := ?_) (a' := ?_) #[true, true, true, true, true, true, false, true, true, false, true, false, false, false, false, false, false, false] rfl rfl (take_ofW HT_.out HW_.out (by kernel_rfl)) (fun _ _ _ h => h) (Or.inl ⟨by rfl, ?_⟩) hHeld ?_ ?_
    rotate_left
    · rintro w' ⟨s0, s1, s2, s3⟩
      go_simp
      with_reducible rfl
    rotate_left
    · simp only [Act.put, List.setIfInBounds_toArray, List.set_cons_zero, List.set_cons_succ, i64_w, i32_w]
      rfl
    refine take_ (i := 6) (N := some 52) (v := ?_) (a' := ?_) #[true, true, true, true, true, true, true, true, true, false, true, false, false, false, false, false, false, false] rfl rfl (take_ofW HT_.out HW_.out (by kernel_rfl)) (fun _ _ _ h => h) (Or.inl ⟨by rfl, ?_⟩) hHeld ?_ ?_
    rotate_left
    · rintro w' ⟨s0, s1, s2, s3⟩
      go_simp
      with_reducible rfl
    rotate_left
    · simp only [Act.put, List.setIfInBounds_toArray, List.set_cons_zero, List.set_cons_succ, i64_w, i32_w]
      rfl
    refine take_ (i := 9) (N := some 55) (v := ?_) (a' := ?_) #[true, true, true, true, true, true, true, true, true, true, true, false, false, false, false, false, false, false] rfl rfl (take_ofW HT_.out HW_.out (by kernel_rfl)) (fun _ _ _ h => h) (Or.inl ⟨by rfl, ?_⟩) hHeld ?_ ?_
    rotate_left
    · rintro w' ⟨s0, s1, s2, s3⟩
      go_simp
      with_reducible rfl
    rotate_left
    · simp only [Act.put, List.setIfInBounds_toArray, List.set_cons_zero, List.set_cons_succ, i64_w, i32_w]
      rfl
    refine take_ (i := 11) (N := some 57) (v := ?_) (a' := ?_) #[true, true, true, true, true, true, true, true, true, true, true, true, false, false, false, false, false, false] rfl rfl (take_ofW HT_.out HW_.out (by kernel_rfl)) (fun _ _ _ h => h) (Or.inl ⟨by rfl, ?_⟩) hHeld ?_ ?_
    rotate_left
    · rintro w' ⟨s0, s1, s2, s3⟩
      go_simp
      with_reducible rfl
    rotate_left
    · simp only [Act.put, List.setIfInBounds_toArray, List.set_cons_zero, List.set_cons_succ, i64_w, i32_w]
      rfl
    refine pure_ (i := 12) (N := some 58) (v := ?_) (a' := ?_) #[true, true, true, true, true, true, true, true, true, true, true, true, true, false, false, false, false, false] rfl rfl (any_of HT_.out (by kernel_rfl)) (fun _ _ _ h => h) (Or.inl ⟨by rfl, ?_⟩) ?_ ?_
    rotate_left
    · intro w'
      go_simp
      with_reducible rfl
    rotate_left
    · simp only [Act.put, List.setIfInBounds_toArray, List.set_cons_zero, List.set_cons_succ, i64_w, i32_w]
      rfl
    refine one_ (i := 13) (N := some 59) #[true, true, true, true, true, true, true, true, true, true, true, true, true, true, false, false, false, false] rfl rfl (one_of HT_.out (by kernel_rfl)) (by decide) (fun K hK => ?_)
    refine event_step (by rfl) (v := .slice (some ⟨w_0.heap.size, 0, none⟩) 1 1) (w1 := w_0.alloc (.cells #[.string s.f0.f4, .string s.f2] 66)) (by first | (go_simp; done) | (go_simp; rfl)) ?_
    have hkl := blk_new w_0 (.cells #[.string s.f0.f4, .string s.f2] 66)
    have hvb : w3.heap.size ≤ w_0.heap.size := hbr.size
    replace hbr : Below w3.heap.size w3 (w_0.alloc (.cells #[.string s.f0.f4, .string s.f2] 66)) := below_alloc hbr _
    generalize w_0.alloc (.cells #[.string s.f0.f4, .string s.f2] 66) = w_l at hkl hbr ⊢
    generalize w_0.heap.size = vb at hkl hvb ⊢
    refine hK.out _ _ (HX3.out _ hbr) (fun hHeld => ?_)
    clear hK K
    refine norm_ (a' := ?_) ?_ ?_
    rotate_left
    · show Act.put _ (some 59) _ = _
      simp only [Act.put, List.setIfInBounds_toArray, List.set_cons_zero, List.set_cons_succ, i64_w, i32_w]
      rfl
    refine one_ (i := 14) (N := some 60) #[true, true, true, true, true, true, true, true, true, true, true, true, true, true, true, false, false, false] rfl rfl (one_of HT_.out (by kernel_rfl)) (by decide) (fun K hK => ?_)
    refine goes_ Tryz.func49 (by kernel_rfl) rfl #[.slice A2 m2 c2, .int .i64 (ix : Int), .slice (some ⟨vb, 0, none⟩) 1 1] (by rfl) rfl rfl (by (try simp only [List.map_toArray, List.map_cons, List.map_nil]); first | done | rfl) ?_
    refine (HD3.out w_l vb hbr hvb hkl).mono ?_
    rintro u_ w4 ⟨A6, c6, rfl, ⟨f2, f15, f4, f13⟩, hff, hF⟩
    refine ⟨_, rfl, ?_⟩
    refine hK.out _ _ ⟨f2, f15, f4, f13⟩ (fun hHeld => ?_)
    clear hK K
    refine norm_ (a' := ?_) ?_ ?_
    rotate_left
    · show Act.put _ (some 60) _ = _
      simp only [Act.put, List.setIfInBounds_toArray, List.set_cons_zero, List.set_cons_succ, i64_w, i32_w]
      rfl
    refine pure_ (i := 15) (N := some 61) (v := ?_) (a' := ?_) #[true, true, true, true, true, true, true, true, true, true, true, true, true, true, true, true, false, false] rfl rfl (any_of HT_.out (by kernel_rfl)) (fun _ _ _ h => h) (Or.inl ⟨by rfl, ?_⟩) ?_ ?_
    rotate_left
    · intro w'
      go_simp
      with_reducible rfl
    rotate_left
    · simp only [Act.put, List.setIfInBounds_toArray, List.set_cons_zero, List.set_cons_succ, i64_w, i32_w]
      rfl
    refine pure_ (i := 16) (N := some 62) (v := ?_) (a' := ?_) #[true, true, true, true, true, true, true, true, true, true, true, true, true, true, true, true, true, false] rfl rfl (any_of HT_.out (by kernel_rfl)) (fun _ _ _ h => h) (Or.inl ⟨by rfl, ?_⟩) ?_ ?_
    rotate_left
    · intro w'
      go_simp
      with_reducible rfl
    rotate_left
    · simp only [Act.put, List.setIfInBounds_toArray, List.set_cons_zero, List.set_cons_succ, i64_w, i32_w]
      rfl
    refine last_ (i := 17) (N := none) #[true, true, true, true, true, true, true, true, true, true, true, true, true, true, true, true, true, true] rfl rfl (one_of HT_.out (by kernel_rfl)) (by decide) (fun K hK => ?_)
    refine skip_ (w1 := ?_) (by rfl) rfl ?_ ?_
    rotate_left
    · go_simp
      rfl
    refine hK.out _ _ ?_
    clear hK K
    refine done_ (done_of HT_.out (by kernel_rfl)) ?_
    have HF := Lib.hid hF
    clear hF f2 f15 f4 f13 hff
    go_wp2_with fail
    go_ret
    exact ⟨rfl, HF.out⟩
end Go.Proofs.YtmcinclecpeakaaGreatDoor.ApA
