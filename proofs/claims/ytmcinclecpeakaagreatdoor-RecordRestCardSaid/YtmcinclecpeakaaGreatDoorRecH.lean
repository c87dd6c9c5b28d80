import Derived.Test.YtmcinclecpeakaaGreatDoorGRecB
import Derived.Test.YtmcinclecpeakaaGreatDoorGRecD
/- Package record: the undoer: undone. -/
namespace Go.Proofs.YtmcinclecpeakaaGreatDoor.ApA
open Go.RowKit Go.Proofs.YtmcinclecpeakaaGreatDoorW.PrintWords Go.Proofs.YtmcinclecpeakaaGreatDoorW.PrintLast Go.Proofs.YtmcinclecpeakaaGreatDoorW.PrintMore Go.Proofs.YtmcinclecpeakaaGreatDoor.PRR Go.Proofs.YtmcinclecpeakaaGreatDoor.DocP Go.Proofs.YtmcinclecpeakaaGreatDoor.DocC
set_option linter.unusedVariables false
set_option linter.unusedSimpArgs false
/-- What a step undone comes to. -/
def UP (w0 w : World) (b : Nat) (l : List S43) (q : Bool) (u : Ending) (w' : World) : Prop := u = .returned (.bool true) ∧ Ud w' w0.heap.size b l q ∧ Below w0.heap.size w0 w' ∧ TF w w'
theorem pre_attr {q : Bool} {l l1 : List S43} (hd : DocOk l1) (s : Stp) (A8 A11 : Option Addr) (n8 n11 c8 c11 : Nat) (b : Nat) (w0 w : World) (hw : Below w0.heap.size w0 w) (hE : Ud w w0.heap.size b l1 q) (hk : s.f0.f0 = 1) (hu : undoS l1 s = some l) :
    Calls Tryz.prog 32 #[.pointer (some ⟨b, 0, none⟩), .agg (stepV s A8 A11 n8 n11 c8 c11)] w (UP w0 w b l q) := by
  unfold undoS at hu
  rw [if_pos hk] at hu
  unfold undoAttr at hu
  split at hu
  · rename_i hin
    have hlm : (rd_T43 l1 s.f0.f1).f2.length ≤ 1000 := Nat.le_trans (hd.oneOk hin).2.2.2.2.1.1 (by decide)
    have hlt := idx_lt (fun y : S66 => y.f0.toList == s.f0.f4.toList) (rd_T43 l1 s.f0.f1).f2
    have hlt' : nmF s.f0.f4 (rd_T43 l1 s.f0.f1).f2 < ((rd_T43 l1 s.f0.f1).f2.length : Int) ∨ nmF s.f0.f4 (rd_T43 l1 s.f0.f1).f2 = -1 := hlt
    split at hu
    · rename_i hc
      obtain ⟨i, hi⟩ : ∃ i : Nat, nmF s.f0.f4 (rd_T43 l1 s.f0.f1).f2 = i := ⟨_, (Int.toNat_of_nonneg hc.1).symm⟩
      rw [hi] at hu hlt'
      rw [Int.toNat_natCast] at hu
      injection hu with hu
      subst hu
      exact u_attr s A8 A11 n8 n11 c8 c11 l1 q b w0 w hw hE hin i hi _ (.inl ⟨hc.2, by omega, rfl⟩) hlm
    · rename_i hnc
      split at hu
      · rename_i hc
        obtain ⟨i, hi⟩ : ∃ i : Nat, nmF s.f0.f4 (rd_T43 l1 s.f0.f1).f2 = i := ⟨_, (Int.toNat_of_nonneg hc.1).symm⟩
        have hc2 := hc.2
        have hf : s.f1 = false := by
          cases h : s.f1 with
          | false => rfl
          | true => exact absurd ⟨hc.1, h⟩ hnc
        rw [hi] at hu hc2
        rw [Int.toNat_natCast] at hu
        injection hu with hu
        subst hu
        exact u_attr s A8 A11 n8 n11 c8 c11 l1 q b w0 w hw hE hin i hi _ (.inr ⟨hf, by omega, rfl⟩) hlm
      · cases hu
  · cases hu
theorem pre_dropped {q : Bool} {l l1 : List S43} (hd : DocOk l1) (s : Stp) (A8 A11 : Option Addr) (n8 n11 c8 c11 : Nat) (b : Nat) (w0 w : World) (hw : Below w0.heap.size w0 w) (hE : Ud w w0.heap.size b l1 q) (hk : s.f0.f0 = 2) (hu : undoS l1 s = some l) :
    Calls Tryz.prog 33 #[.pointer (some ⟨b, 0, none⟩), .agg (stepV s A8 A11 n8 n11 c8 c11)] w (UP w0 w b l q) := by
  unfold undoS at hu
  rw [if_neg (by omega)] at hu
  rw [if_pos hk] at hu
  unfold undoDrop at hu
  split at hu
  · rename_i hc
    injection hu with hu
    subst hu
    exact u_dropped s A8 A11 n8 n11 c8 c11 l1 q b w0 w hw hE hc.1 hc.2.1 hc.2.2.1 hc.2.2.2.1 hc.2.2.2.2 (Nat.le_trans (hd.oneOk hc.1).2.2.2.2.1.1 (by decide))
  · cases hu
theorem pre_text {q : Bool} {l l1 : List S43} (hd : DocOk l1) (s : Stp) (A8 A11 : Option Addr) (n8 n11 c8 c11 : Nat) (b : Nat) (w0 w : World) (hw : Below w0.heap.size w0 w) (hE : Ud w w0.heap.size b l1 q) (hk : s.f0.f0 = 3) (hu : undoS l1 s = some l) :
    Calls Tryz.prog 34 #[.pointer (some ⟨b, 0, none⟩), .agg (stepV s A8 A11 n8 n11 c8 c11)] w (UP w0 w b l q) := by
  unfold undoS at hu
  rw [if_neg (by omega)] at hu
  rw [if_neg (by omega)] at hu
  rw [if_pos hk] at hu
  unfold undoText at hu
  split at hu
  · rename_i hc
    injection hu with hu
    subst hu
    exact u_text s A8 A11 n8 n11 c8 c11 l1 q b w0 w hw hE hc.1 hc.2
  · cases hu
theorem pre_made {q : Bool} {l l1 : List S43} (hd : DocOk l1) (s : Stp) (A8 A11 : Option Addr) (n8 n11 c8 c11 : Nat) (b : Nat) (w0 w : World) (hw : Below w0.heap.size w0 w) (hE : Ud w w0.heap.size b l1 q) (hk : s.f0.f0 = 4) (hu : undoS l1 s = some l) :
    Calls Tryz.prog 35 #[.pointer (some ⟨b, 0, none⟩), .agg (stepV s A8 A11 n8 n11 c8 c11)] w (UP w0 w b l q) := by
  unfold undoS at hu
  rw [if_neg (by omega)] at hu
  rw [if_neg (by omega)] at hu
  rw [if_neg (by omega)] at hu
  rw [if_pos hk] at hu
  unfold undoMake at hu
  split at hu
  · rename_i hc
    injection hu with hu
    subst hu
    exact u_made s A8 A11 n8 n11 c8 c11 l1 q b w0 w hw hE hc.1 hc.2.1 hc.2.2.1 hc.2.2.2 (Nat.le_trans hd.len (by decide))
  · cases hu
theorem pre_inserted {q : Bool} {l l1 : List S43} (hd : DocOk l1) (s : Stp) (A8 A11 : Option Addr) (n8 n11 c8 c11 : Nat) (b : Nat) (w0 w : World) (hw : Below w0.heap.size w0 w) (hE : Ud w w0.heap.size b l1 q) (hk : s.f0.f0 = 5) (hu : undoS l1 s = some l) :
    Calls Tryz.prog 36 #[.pointer (some ⟨b, 0, none⟩), .agg (stepV s A8 A11 n8 n11 c8 c11)] w (UP w0 w b l q) := by
  unfold undoS at hu
  rw [if_neg (by omega)] at hu
  rw [if_neg (by omega)] at hu
  rw [if_neg (by omega)] at hu
  rw [if_neg (by omega)] at hu
  rw [if_pos hk] at hu
  unfold undoInsert at hu
  split at hu
  · rename_i hc
    injection hu with hu
    subst hu
    exact u_inserted s A8 A11 n8 n11 c8 c11 l1 q b w0 w hw hE hc.1 hc.2.1 hc.2.2.1 hc.2.2.2.1 hc.2.2.2.2.1 hc.2.2.2.2.2 (Nat.le_trans (hd.kids_le hc.1) (by decide))
  · cases hu
theorem pre_removed {q : Bool} {l l1 : List S43} (hd : DocOk l1) (s : Stp) (A8 A11 : Option Addr) (n8 n11 c8 c11 : Nat) (b : Nat) (w0 w : World) (hw : Below w0.heap.size w0 w) (hE : Ud w w0.heap.size b l1 q) (hk : s.f0.f0 = 6) (hu : undoS l1 s = some l) :
    Calls Tryz.prog 37 #[.pointer (some ⟨b, 0, none⟩), .agg (stepV s A8 A11 n8 n11 c8 c11)] w (UP w0 w b l q) := by
  unfold undoS at hu
  rw [if_neg (by omega)] at hu
  rw [if_neg (by omega)] at hu
  rw [if_neg (by omega)] at hu
  rw [if_neg (by omega)] at hu
  rw [if_neg (by omega)] at hu
  rw [if_pos hk] at hu
  unfold undoRemove at hu
  split at hu
  · rename_i hc
    injection hu with hu
    subst hu
    exact u_removed s A8 A11 n8 n11 c8 c11 l1 q b w0 w hw hE hc.1 hc.2.1 hc.2.2.1 hc.2.2.2.1 hc.2.2.2.2.1 hc.2.2.2.2.2.1 hc.2.2.2.2.2.2 (Nat.le_trans (hd.kids_le hc.1) (by decide))
  · cases hu
set_option maxRecDepth 100000 in
set_option maxHeartbeats 4000000 in
theorem undone_calls {q : Bool} {l l1 : List S43} (hd : DocOk l1) (s : Stp) (A8 A11 : Option Addr) (n8 n11 c8 c11 : Nat) (b : Nat) (w0 w : World) (hw : Below w0.heap.size w0 w) (hE : Ud w w0.heap.size b l1 q) (hk : 1 ≤ s.f0.f0 ∧ s.f0.f0 ≤ 6) (hu : undoS l1 s = some l) :
    Calls Tryz.prog 18 #[.pointer (some ⟨b, 0, none⟩), .agg (stepV s A8 A11 n8 n11 c8 c11)] w (UP w0 w b l q) := by
  have hb1 : Below w.heap.size w (w.alloc (.cells (stepV s A8 A11 n8 n11 c8 c11) 48)) := below_alloc (Below.refl _ _) _
  have hE1 := hE.below hb1
  have hw1 := hw.trans (hb1.mono hw.size)
  have hbx := step_box w s A8 A11 n8 n11 c8 c11 (Below.refl _ _)
  obtain ⟨w1, hW1⟩ : ∃ w1, w1 = w.alloc (.cells (stepV s A8 A11 n8 n11 c8 c11) 48) := ⟨_, rfl⟩
  rw [← hW1] at hE1 hw1 hbx
  have z0 : w1.cell? ⟨w.heap.size, 0, none⟩ = some (.int .i64 s.f0.f0) := (blk_cell hbx 0).trans rfl
  have z1 : w1.cell? ⟨w.heap.size, 1, none⟩ = some (.int .i64 s.f0.f1) := (blk_cell hbx 1).trans rfl
  have z2 : w1.cell? ⟨w.heap.size, 2, none⟩ = some (.int .i64 s.f0.f2) := (blk_cell hbx 2).trans rfl
  have z3 : w1.cell? ⟨w.heap.size, 3, none⟩ = some (.int .i64 s.f0.f3) := (blk_cell hbx 3).trans rfl
  have z4 : w1.cell? ⟨w.heap.size, 4, none⟩ = some (.string s.f0.f4) := (blk_cell hbx 4).trans rfl
  have z5 : w1.cell? ⟨w.heap.size, 5, none⟩ = some (.string s.f0.f5) := (blk_cell hbx 5).trans rfl
  have z6 : w1.cell? ⟨w.heap.size, 6, none⟩ = some (.int .i64 s.f0.f6.f0) := (blk_cell hbx 6).trans rfl
  have z7 : w1.cell? ⟨w.heap.size, 7, none⟩ = some (.string s.f0.f6.f1) := (blk_cell hbx 7).trans rfl
  have z8 : w1.cell? ⟨w.heap.size, 8, none⟩ = some (.slice A8 n8 c8) := (blk_cell hbx 8).trans rfl
  have z9 : w1.cell? ⟨w.heap.size, 9, none⟩ = some (.string s.f0.f6.f3) := (blk_cell hbx 9).trans rfl
  have z10 : w1.cell? ⟨w.heap.size, 10, none⟩ = some (.int .i64 s.f0.f6.f4) := (blk_cell hbx 10).trans rfl
  have z11 : w1.cell? ⟨w.heap.size, 11, none⟩ = some (.slice A11 n11 c11) := (blk_cell hbx 11).trans rfl
  have z12 : w1.cell? ⟨w.heap.size, 12, none⟩ = some (.bool s.f1) := (blk_cell hbx 12).trans rfl
  have z13 : w1.cell? ⟨w.heap.size, 13, none⟩ = some (.string s.f2) := (blk_cell hbx 13).trans rfl
  have z14 : w1.cell? ⟨w.heap.size, 14, none⟩ = some (.int .i64 s.f3) := (blk_cell hbx 14).trans rfl
  have z15 : w1.cell? ⟨w.heap.size, 15, none⟩ = some (.int .i64 s.f4) := (blk_cell hbx 15).trans rfl
  have HTF := Lib.hid (TF.below hb1)
  rw [← hW1] at HTF
  have HW1 := Lib.hid hW1
  clear hW1 hbx hb1
  unfold stepV HC at HW1
  have hkk : s.f0.f0 = 1 ∨ s.f0.f0 = 2 ∨ s.f0.f0 = 3 ∨ s.f0.f0 = 4 ∨ s.f0.f0 = 5 ∨ s.f0.f0 = 6 := by omega
  rcases hkk with hk1 | hk1 | hk1 | hk1 | hk1 | hk1
  · have HU := Lib.hid (pre_attr hd s A8 A11 n8 n11 c8 c11 b w0 w1 hw1 hE1 hk1 hu)
    unfold stepV HC at HU ⊢
    have b1 : (s.f0.f0 == 1) = true := by rw [hk1]; rfl
    clear hk hk1 hu hw hE hE1 hw1 hd
    go_enter Tryz.func18, Tryz.ntmps18
    go_upto_region 1 with fail
    rw [← HW1.out]
    go_wp2_with fail
    refine HU.out.mono ?_
    rintro u w' ⟨rfl, hU⟩
    have HF := Lib.hid hU
    clear hU
    go_wp2_with fail
    go_ret
    exact ⟨rfl, HF.out.1, HF.out.2.1, HTF.out.trans HF.out.2.2⟩
  · have HU := Lib.hid (pre_dropped hd s A8 A11 n8 n11 c8 c11 b w0 w1 hw1 hE1 hk1 hu)
    unfold stepV HC at HU ⊢
    have b1 : (s.f0.f0 == 1) = false := by rw [hk1]; rfl
    have b2 : (s.f0.f0 == 2) = true := by rw [hk1]; rfl
    clear hk hk1 hu hw hE hE1 hw1 hd
    go_enter Tryz.func18, Tryz.ntmps18
    go_upto_region 1 with fail
    rw [← HW1.out]
    go_wp2_with fail
    refine HU.out.mono ?_
    rintro u w' ⟨rfl, hU⟩
    have HF := Lib.hid hU
    clear hU
    go_wp2_with fail
    go_ret
    exact ⟨rfl, HF.out.1, HF.out.2.1, HTF.out.trans HF.out.2.2⟩
  · have HU := Lib.hid (pre_text hd s A8 A11 n8 n11 c8 c11 b w0 w1 hw1 hE1 hk1 hu)
    unfold stepV HC at HU ⊢
    have b1 : (s.f0.f0 == 1) = false := by rw [hk1]; rfl
    have b2 : (s.f0.f0 == 2) = false := by rw [hk1]; rfl
    have b3 : (s.f0.f0 == 3) = true := by rw [hk1]; rfl
    clear hk hk1 hu hw hE hE1 hw1 hd
    go_enter Tryz.func18, Tryz.ntmps18
    go_upto_region 1 with fail
    rw [← HW1.out]
    go_wp2_with fail
    refine HU.out.mono ?_
    rintro u w' ⟨rfl, hU⟩
    have HF := Lib.hid hU
    clear hU
    go_wp2_with fail
    go_ret
    exact ⟨rfl, HF.out.1, HF.out.2.1, HTF.out.trans HF.out.2.2⟩
  · have HU := Lib.hid (pre_made hd s A8 A11 n8 n11 c8 c11 b w0 w1 hw1 hE1 hk1 hu)
    unfold stepV HC at HU ⊢
    have b1 : (s.f0.f0 == 1) = false := by rw [hk1]; rfl
    have b2 : (s.f0.f0 == 2) = false := by rw [hk1]; rfl
    have b3 : (s.f0.f0 == 3) = false := by rw [hk1]; rfl
    have b4 : (s.f0.f0 == 4) = true := by rw [hk1]; rfl
    clear hk hk1 hu hw hE hE1 hw1 hd
    go_enter Tryz.func18, Tryz.ntmps18
    go_upto_region 1 with fail
    rw [← HW1.out]
    go_wp2_with fail
    refine HU.out.mono ?_
    rintro u w' ⟨rfl, hU⟩
    have HF := Lib.hid hU
    clear hU
    go_wp2_with fail
    go_ret
    exact ⟨rfl, HF.out.1, HF.out.2.1, HTF.out.trans HF.out.2.2⟩
  · have HU := Lib.hid (pre_inserted hd s A8 A11 n8 n11 c8 c11 b w0 w1 hw1 hE1 hk1 hu)
    unfold stepV HC at HU ⊢
    have b1 : (s.f0.f0 == 1) = false := by rw [hk1]; rfl
    have b2 : (s.f0.f0 == 2) = false := by rw [hk1]; rfl
    have b3 : (s.f0.f0 == 3) = false := by rw [hk1]; rfl
    have b4 : (s.f0.f0 == 4) = false := by rw [hk1]; rfl
    have b5 : (s.f0.f0 == 5) = true := by rw [hk1]; rfl
    clear hk hk1 hu hw hE hE1 hw1 hd
    go_enter Tryz.func18, Tryz.ntmps18
    go_upto_region 1 with fail
    rw [← HW1.out]
    go_wp2_with fail
    refine HU.out.mono ?_
    rintro u w' ⟨rfl, hU⟩
    have HF := Lib.hid hU
    clear hU
    go_wp2_with fail
    go_ret
    exact ⟨rfl, HF.out.1, HF.out.2.1, HTF.out.trans HF.out.2.2⟩
  · have HU := Lib.hid (pre_removed hd s A8 A11 n8 n11 c8 c11 b w0 w1 hw1 hE1 hk1 hu)
    unfold stepV HC at HU ⊢
    have b1 : (s.f0.f0 == 1) = false := by rw [hk1]; rfl
    have b2 : (s.f0.f0 == 2) = false := by rw [hk1]; rfl
    have b3 : (s.f0.f0 == 3) = false := by rw [hk1]; rfl
    have b4 : (s.f0.f0 == 4) = false := by rw [hk1]; rfl
    have b5 : (s.f0.f0 == 5) = false := by rw [hk1]; rfl
    have b6 : (s.f0.f0 == 6) = true := by rw [hk1]; rfl
    clear hk hk1 hu hw hE hE1 hw1 hd
    go_enter Tryz.func18, Tryz.ntmps18
    go_upto_region 1 with fail
    rw [← HW1.out]
    go_wp2_with fail
    refine HU.out.mono ?_
    rintro u w' ⟨rfl, hU⟩
    have HF := Lib.hid hU
    clear hU
    go_wp2_with fail
    go_ret
    exact ⟨rfl, HF.out.1, HF.out.2.1, HTF.out.trans HF.out.2.2⟩
end Go.Proofs.YtmcinclecpeakaaGreatDoor.ApA
