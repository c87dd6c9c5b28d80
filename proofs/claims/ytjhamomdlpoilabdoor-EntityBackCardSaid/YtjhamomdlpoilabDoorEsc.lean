/- The law EntityBack: the walk of Escape, and of the law. -/
import Derived.Test.YtjhamomdlpoilabDoorEscP
import Derived.Test.YtjhamomdlpoilabDoorSome
namespace Go.Proofs.YtjhamomdlpoilabDoor.Ent
open Go.RowKit Go.Proofs.YtjhamomdlpoilabDoorW.PrintWords Go.Proofs.YtjhamomdlpoilabDoor.Keep
set_option linter.unusedVariables false
set_option linter.unusedSimpArgs false

theorem sz_mk (l : List UInt8) : (ByteArray.mk l.toArray).size = l.length := by simp [ByteArray.size]
theorem dt_mk (l : List UInt8) : (ByteArray.mk l.toArray).data.toList = l := by simp
/-- strings.ReplaceAll, at texts that are not long. -/
theorem repl_any (s : List UInt8) (old new : ByteArray) (m : Int) (w : World) (hs : s.length ≤ 100000) (hm : w.cell? ⟨2, 0, none⟩ = some (.int .i64 m)) (h1 : 1 ≤ old.size) (hn : new.size ≤ 6) :
    Calls Tryd.prog 29 #[.string ⟨s.toArray⟩, .string old, .string new] w fun e w' => e = .returned (.string ⟨(Lib.replaceAll s old.data.toList new.data.toList).toArray⟩) ∧ Below w.heap.size w w' := by
  have hc := Lib.countB_le old h1 s.length ⟨s.toArray⟩ (by rw [sz_mk]; exact Nat.le_refl _)
  rw [sz_mk] at hc
  have hb : (ByteArray.mk s.toArray).size + Lib.countB ⟨s.toArray⟩ old * new.size ≤ 140737488355328 := by
    rw [sz_mk]
    have := Nat.mul_le_mul hc hn
    omega
  have := Tryd.strings_ReplaceAll ⟨s.toArray⟩ old new m w (by rw [sz_mk]; omega) hm h1 hb
  rw [dt_mk] at this
  exact this
theorem r1_le (s : List UInt8) : (r1 s).length ≤ 6 * s.length := by
  rw [r1_eq]
  induction s with
  | nil => simp
  | cons b t ih =>
    rw [List.flatMap_cons, List.length_append]
    have : (fOne 38 tAmp b).length ≤ 6 := by unfold fOne; split <;> simp [tAmp]
    simp only [List.length_cons]
    omega
theorem r2_le (s : List UInt8) : (r2 s).length ≤ 6 * s.length := by
  rw [r2_eq]
  exact escG_le _ (fun b => by unfold fOne; split <;> simp [tAmp]) s
theorem flat_le (c : UInt8) (new : List UInt8) (h : new.length ≤ 6) (s : List UInt8) : (s.flatMap (fOne c new)).length ≤ 6 * s.length := by
  induction s with
  | nil => simp
  | cons b t ih =>
    rw [List.flatMap_cons, List.length_append]
    have : (fOne c new b).length ≤ 6 := by
      unfold fOne
      split
      · exact h
      · simp
    simp only [List.length_cons]
    omega
theorem r3_le (s : List UInt8) : (Lib.replaceAll (r2 s) [60] tLt).length ≤ 36 * s.length := by
  rw [replaceAll_subst (by decide) (by decide), subst_one _ _ _ _ (Nat.le_refl _)]
  have h1 := flat_le 60 tLt (by decide) (r2 s)
  have h2 := r2_le s
  omega

set_option maxRecDepth 100000 in
set_option maxHeartbeats 4000000 in
theorem escape_any (s : List UInt8) (attr : Bool) (m : Int) (w : World) (hs : s.length ≤ 200) (hm : w.cell? ⟨2, 0, none⟩ = some (.int .i64 m)) :
    Calls Tryd.prog 14 #[.string ⟨s.toArray⟩, .bool attr] w fun e w' => e = .returned (.string ⟨(if attr then escV s else escT s).toArray⟩) ∧ Below w.heap.size w w' := by
  have hl1 := r1_le s
  have hl2 := r2_le s
  have hl3 := r3_le s
  have HM := Lib.hid hm
  have HA : Hid (∀ W, W.cell? ⟨2, 0, none⟩ = some (.int .i64 m) → Calls Tryd.prog 29 #[.string ⟨s.toArray⟩, .string ⟨#[38]⟩, .string ⟨#[38, 97, 109, 112, 59]⟩] W fun e w' => e = .returned (.string ⟨(r1 s).toArray⟩) ∧ Below W.heap.size W w') := Lib.hid (fun W h => repl_any s ⟨#[38]⟩ ⟨#[38, 97, 109, 112, 59]⟩ m W (by omega) h (by decide) (by decide))
  have HN : Hid (∀ W, W.cell? ⟨2, 0, none⟩ = some (.int .i64 m) → Calls Tryd.prog 29 #[.string ⟨(r1 s).toArray⟩, .string ⟨#[194, 160]⟩, .string ⟨#[38, 110, 98, 115, 112, 59]⟩] W fun e w' => e = .returned (.string ⟨(r2 s).toArray⟩) ∧ Below W.heap.size W w') := Lib.hid (fun W h => repl_any (r1 s) ⟨#[194, 160]⟩ ⟨#[38, 110, 98, 115, 112, 59]⟩ m W (by omega) h (by decide) (by decide))
  have HV : Hid (∀ W, W.cell? ⟨2, 0, none⟩ = some (.int .i64 m) → Calls Tryd.prog 29 #[.string ⟨(r2 s).toArray⟩, .string ⟨#[34]⟩, .string ⟨#[38, 113, 117, 111, 116, 59]⟩] W fun e w' => e = .returned (.string ⟨(escV s).toArray⟩) ∧ Below W.heap.size W w') := Lib.hid (fun W h => by
    have := repl_any (r2 s) ⟨#[34]⟩ ⟨#[38, 113, 117, 111, 116, 59]⟩ m W (by omega) h (by decide) (by decide)
    rw [← rV_eq]; exact this)
  have HL : Hid (∀ W, W.cell? ⟨2, 0, none⟩ = some (.int .i64 m) → Calls Tryd.prog 29 #[.string ⟨(r2 s).toArray⟩, .string ⟨#[60]⟩, .string ⟨#[38, 108, 116, 59]⟩] W fun e w' => e = .returned (.string ⟨(Lib.replaceAll (r2 s) [60] tLt).toArray⟩) ∧ Below W.heap.size W w') := Lib.hid (fun W h => repl_any (r2 s) ⟨#[60]⟩ ⟨#[38, 108, 116, 59]⟩ m W (by omega) h (by decide) (by decide))
  have HG : Hid (∀ W, W.cell? ⟨2, 0, none⟩ = some (.int .i64 m) → Calls Tryd.prog 29 #[.string ⟨(Lib.replaceAll (r2 s) [60] tLt).toArray⟩, .string ⟨#[62]⟩, .string ⟨#[38, 103, 116, 59]⟩] W fun e w' => e = .returned (.string ⟨(escT s).toArray⟩) ∧ Below W.heap.size W w') := Lib.hid (fun W h => by
    have := repl_any (Lib.replaceAll (r2 s) [60] tLt) ⟨#[62]⟩ ⟨#[38, 103, 116, 59]⟩ m W (by omega) h (by decide) (by decide)
    rw [← rT_eq]; exact this)
  clear hm hl1 hl2 hl3
  generalize Lib.replaceAll (r2 s) [60] tLt = s3 at *
  generalize r2 s = s2 at *
  generalize r1 s = s1 at *
  generalize escT s = sT at *
  generalize escV s = sV at *
  cases attr
  · go_enter Tryd.func14, Tryd.ntmps14
    go_wp2_with fail
    refine (HA.out _ HM.out).mono ?_
    rintro e w1 ⟨rfl, hb⟩
    have HB1 := Lib.hid hb
    clear hb
    go_wp2_with fail
    refine (HN.out _ (pw_cell_below HB1.out HM.out)).mono ?_
    rintro e w2 ⟨rfl, hb⟩
    have HB2 := Lib.hid (HB1.out.trans (hb.mono HB1.out.size))
    clear hb
    go_wp2_with fail
    refine (HL.out _ (pw_cell_below HB2.out HM.out)).mono ?_
    rintro e w3 ⟨rfl, hb⟩
    have HB3 := Lib.hid (HB2.out.trans (hb.mono HB2.out.size))
    clear hb
    go_wp2_with fail
    refine (HG.out _ (pw_cell_below HB3.out HM.out)).mono ?_
    rintro e w4 ⟨rfl, hb⟩
    have HB4 := Lib.hid (HB3.out.trans (hb.mono HB3.out.size))
    clear hb
    go_wp2_with fail
    go_ret
    exact ⟨rfl, HB4.out⟩
  · go_enter Tryd.func14, Tryd.ntmps14
    go_wp2_with fail
    refine (HA.out _ HM.out).mono ?_
    rintro e w1 ⟨rfl, hb⟩
    have HB1 := Lib.hid hb
    clear hb
    go_wp2_with fail
    refine (HN.out _ (pw_cell_below HB1.out HM.out)).mono ?_
    rintro e w2 ⟨rfl, hb⟩
    have HB2 := Lib.hid (HB1.out.trans (hb.mono HB1.out.size))
    clear hb
    go_wp2_with fail
    refine (HV.out _ (pw_cell_below HB2.out HM.out)).mono ?_
    rintro e w3 ⟨rfl, hb⟩
    have HB3 := Lib.hid (HB2.out.trans (hb.mono HB2.out.size))
    clear hb
    go_wp2_with fail
    go_ret
    exact ⟨rfl, HB3.out⟩

theorem byte_mem (a : ByteArray) (k : Nat) (h : k < a.size) : a[k] ∈ a.data.toList := by
  have h2 : a.data.toList.drop k = a[k] :: a.data.toList.drop (k + 1) := drop_at a k h
  exact List.mem_of_mem_drop (h2 ▸ List.mem_cons_self)
theorem byte_ne_int {x c : UInt8} (h : x ≠ c) : ((x.toNat : Int) == (c.toNat : Int)) = false := by
  rw [beq_eq_false_iff_ne]
  intro e
  exact h (UInt8.toNat_inj.1 (by omega))
/-- Text, Value: read. -/
theorem text_R (s : List UInt8) (w : World) (hs : s.length ≤ 100000) :
    Calls Tryd.prog 16 #[.string ⟨s.toArray⟩] w fun e w' => e = .returned (.string ⟨(R false s).toArray⟩) ∧ Below w.heap.size w w' := text_any ⟨s.toArray⟩ w (by rw [sz_mk]; omega)
theorem value_R (s : List UInt8) (w : World) (hs : s.length ≤ 100000) :
    Calls Tryd.prog 17 #[.string ⟨s.toArray⟩] w fun e w' => e = .returned (.string ⟨(R true s).toArray⟩) ∧ Below w.heap.size w w' := value_any ⟨s.toArray⟩ w (by rw [sz_mk]; omega)

set_option maxRecDepth 100000 in
set_option maxHeartbeats 4000000 in
theorem entityBack_law (s0 : ByteArray) (m : Int) (w : World) (hs : s0.size ≤ 140737488351232) (hm : w.cell? ⟨2, 0, none⟩ = some (.int .i64 m)) :
    Calls Tryd.prog 5 #[.string s0] w fun e w' => e = .returned (.bool true) ∧ Below w.heap.size w w' := by
  have HM := Lib.hid hm
  clear hm
  go_enter Tryd.func5, Tryd.ntmps5
  go_wp2_with fail
  refine (some_any s0 200 _ hs).mono ?_
  rintro e w' ⟨rfl, rfl⟩
  have hs2 : (s0.extract 0 (min s0.size 200)).size ≤ 200 := by simp; omega
  generalize s0.extract 0 (min s0.size 200) = s1 at *
  obtain ⟨s, rfl⟩ : ∃ s : List UInt8, s1 = ⟨s.toArray⟩ := ⟨s1.data.toList, by cases s1; simp⟩
  rw [sz_mk] at hs2
  have HE : Hid (∀ (attr : Bool) (W : World), W.cell? ⟨2, 0, none⟩ = some (.int .i64 m) → Calls Tryd.prog 14 #[.string ⟨s.toArray⟩, .bool attr] W fun e w' => e = .returned (.string ⟨(if attr then escV s else escT s).toArray⟩) ∧ Below W.heap.size W w') := Lib.hid (fun attr W h => escape_any s attr m W hs2 h)
  have lT := escT_le s
  have lV := escV_le s
  have HTT : Hid (∀ W, Calls Tryd.prog 16 #[.string ⟨(escT s).toArray⟩] W fun e w' => e = .returned (.string ⟨s.toArray⟩) ∧ Below W.heap.size W w') := Lib.hid (fun W => by
    have := text_R (escT s) W (by omega)
    rw [escT_read] at this
    exact this)
  have HVV : Hid (∀ W, Calls Tryd.prog 17 #[.string ⟨(escV s).toArray⟩] W fun e w' => e = .returned (.string ⟨s.toArray⟩) ∧ Below W.heap.size W w') := Lib.hid (fun W => by
    have := value_R (escV s) W (by omega)
    rw [escV_read] at this
    exact this)
  have nT : ∀ b ∈ (ByteArray.mk (escT s).toArray).data.toList, b ≠ 60 ∧ b ≠ 62 := by rw [dt_mk]; exact escT_none s
  have nV : ∀ b ∈ (ByteArray.mk (escV s).toArray).data.toList, b ≠ 34 := by rw [dt_mk]; exact escV_none s
  have zT := sz_mk (escT s)
  have zV := sz_mk (escV s)
  have HNT := Lib.hid nT
  have HNV := Lib.hid nV
  have HET := Lib.hid (HE.out false)
  have HEV := Lib.hid (HE.out true)
  simp only [if_true, if_false, Bool.false_eq_true] at HET HEV
  clear nT nV HE
  generalize ByteArray.mk (escT s).toArray = a at *
  generalize ByteArray.mk (escV s).toArray = b at *
  go_wp2_with fail
  refine (HET.out _ HM.out).mono ?_
  rintro e w1 ⟨rfl, hb⟩
  have HB1 := Lib.hid hb
  clear hb
  go_wp2_with fail
  refine (HEV.out _ (pw_cell_below HB1.out HM.out)).mono ?_
  rintro e w2 ⟨rfl, hb⟩
  have HB2 := Lib.hid (HB1.out.trans (hb.mono HB1.out.size))
  clear hb
  go_wp2_with fail
  go_loop [5] (fun i => ∃ k : Nat, k ≤ a.size ∧ i = .int .i64 k) (fun i => a.size - (intOf i).toNat)
  case atStart => exact ⟨0, Nat.zero_le _, rfl⟩
  case round =>
    obtain ⟨k, hk, rfl⟩ := hrel
    by_cases hlt : k < a.size
    · obtain ⟨q60, q62⟩ := HNT.out a[k] (byte_mem a k hlt)
      have g60 : ((a[k].toNat : Int) == 60) = false := byte_ne_int q60
      have g62 : ((a[k].toNat : Int) == 62) = false := byte_ne_int q62
      go_wp2_with fail
      go_round
      case rel => exact ⟨k + 1, by omega, by go_num⟩
      case measure => simp [intOf]; omega
    · obtain rfl : k = a.size := by omega
      go_wp2_with fail
      go_loop [6] (fun i => ∃ k : Nat, k ≤ b.size ∧ i = .int .i64 k) (fun i => b.size - (intOf i).toNat)
      case atStart => exact ⟨0, Nat.zero_le _, rfl⟩
      case round =>
        obtain ⟨j, hj, rfl⟩ := hrel
        by_cases hlj : j < b.size
        · have g34 : ((b[j].toNat : Int) == 34) = false := byte_ne_int (HNV.out b[j] (byte_mem b j hlj))
          go_wp2_with fail
          go_round
          case rel => exact ⟨j + 1, by omega, by go_num⟩
          case measure => simp [intOf]; omega
        · obtain rfl : j = b.size := by omega
          go_wp2_with fail
          refine (begun_any _).mono ?_
          rintro e w3 ⟨rfl, hb⟩
          have HB3 := Lib.hid (HB2.out.trans (hb.mono HB2.out.size))
          clear hb
          go_wp2_with fail
          refine (HTT.out _).mono ?_
          rintro e w4 ⟨rfl, hb⟩
          have HB4 := Lib.hid (HB3.out.trans (hb.mono HB3.out.size))
          clear hb
          go_wp2_with fail
          refine (HVV.out _).mono ?_
          rintro e w5 ⟨rfl, hb⟩
          have HB5 := Lib.hid (HB4.out.trans (hb.mono HB4.out.size))
          clear hb
          go_wp2_with fail
          go_ret
          exact ⟨by simp, HB5.out⟩
end Go.Proofs.YtjhamomdlpoilabDoor.Ent
