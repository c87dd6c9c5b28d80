/- The law CharsTwice: the walk. -/
import Derived.Test.YtjhamomdlpoilabDoorCharsP
import Derived.Test.YtjhamomdlpoilabDoorSome
import Derived.Test.YtjhamomdlpoilabDoorBegun
import Derived.Test.YtjhamomdlpoilabDoorShelfV
namespace Go.Proofs.YtjhamomdlpoilabDoor.Chars
open Go.RowKit Go.Shelf Go.Proofs.YtjhamomdlpoilabDoorW.PrintWords Go.Proofs.YtjhamomdlpoilabDoor.Keep
set_option linter.unusedVariables false
set_option linter.unusedSimpArgs false

/-- The two tables of unicode/utf8 hold what they hold. -/
def Tabs (w : World) : Prop := Lib.Utf8Tabs (Tryd.laysValid_ren.g 3) (Tryd.laysValid_ren.g 4) w
theorem tabs_below {w W : World} (h : Tabs w) (hb : Below w.heap.size w W) : Tabs W := Utf8Tabs_below h hb

set_option maxHeartbeats 1000000 in
theorem right_any (s : ByteArray) (w : World) (hs : s.size ≤ 1000000) (hT : Tabs w) :
    Calls Tryd.prog 11 #[.string s] w fun e w' => e = .returned (.bool (Lib.validD s.data.toList)) ∧ Below w.heap.size w w' := by
  have HV : Hid (Calls Tryd.prog 27 #[.string s] w fun e w' => e = .returned (.bool (Lib.validD s.data.toList)) ∧ Below w.heap.size w w') := Lib.hid (Any.utf8_ValidString Tryd.laysValid s w (by omega) hT)
  go_enter Tryd.func11, Tryd.ntmps11
  go_wp2_with fail
  refine HV.out.mono ?_
  rintro e w' ⟨rfl, hb⟩
  have HB := Lib.hid hb
  clear hb
  go_wp2_with fail
  go_ret
  exact ⟨rfl, HB.out⟩

theorem size_mk (l : List UInt8) : (ByteArray.mk l.toArray).size = l.length := by simp [ByteArray.size]
theorem data_mk (l : List UInt8) : (ByteArray.mk l.toArray).data.toList = l := by simp
theorem app_mk (a b : List UInt8) : (ByteArray.mk a.toArray) ++ (ByteArray.mk b.toArray) = ByteArray.mk (a ++ b).toArray := by
  apply ByteArray.ext
  simp [ByteArray.data_append]

set_option maxRecDepth 100000 in
set_option maxHeartbeats 4000000 in
theorem charsTwice_law (s0 t0 : ByteArray) (w : World) (hs : s0.size ≤ 140737488351232) (ht : t0.size ≤ 140737488351232) (hT : Tabs w) :
    Calls Tryd.prog 3 #[.string s0, .string t0] w fun e w' => e = .returned (.bool true) ∧ Below w.heap.size w w' := by
  go_enter Tryd.func3, Tryd.ntmps3
  go_wp2_with fail
  refine (some_any s0 300 _ hs).mono ?_
  rintro e w' ⟨rfl, rfl⟩
  have hs2 : (s0.extract 0 (min s0.size 300)).size ≤ 300 := by simp; omega
  have ht2 : (t0.extract 0 (min t0.size 300)).size ≤ 300 := by simp; omega
  generalize s0.extract 0 (min s0.size 300) = s at *
  go_wp2_with fail
  refine (clean_any s (by omega) _).mono ?_
  rintro e w1 ⟨rfl, hb1⟩
  have HB1 := Lib.hid hb1
  clear hb1
  go_wp2_with fail
  refine (some_any t0 300 _ ht).mono ?_
  rintro e w' ⟨rfl, rfl⟩
  generalize t0.extract 0 (min t0.size 300) = t at *
  go_wp2_with fail
  refine (clean_any t (by omega) _).mono ?_
  rintro e w2 ⟨rfl, hb2⟩
  have HB2 := Lib.hid (HB1.out.trans (hb2.mono HB1.out.size))
  clear hb2 HB1
  have la := cleanF_le s.data.toList
  have lb := cleanF_le t.data.toList
  rw [len_data] at la lb
  obtain ⟨ra, ea, ga⟩ := clean_form s.data.toList
  obtain ⟨rb, eb, gb⟩ := clean_form t.data.toList
  rw [ea] at la ⊢
  rw [eb] at lb ⊢
  have HGA := Lib.hid ga
  have HGB := Lib.hid gb
  clear ea eb ga gb
  have hsa := size_mk (encL ra)
  have hsb := size_mk (encL rb)
  have hda := data_mk (encL ra)
  have HBY : Hid (∀ b ∈ (ByteArray.mk (encL ra).toArray).data.toList, b.toNat ≠ 0 ∧ b.toNat ≠ 13) := Lib.hid (by rw [hda]; exact good_bytes ra HGA.out)
  have HAA : Hid (∀ W, Calls Tryd.prog 8 #[.string ⟨(encL ra).toArray⟩] W fun e w' => e = .returned (.string ⟨(encL ra).toArray⟩) ∧ Below W.heap.size W w') := Lib.hid (fun W => by
    have := clean_any ⟨(encL ra).toArray⟩ (by omega) W
    rw [hda, clean_good ra HGA.out] at this
    exact this)
  have HAB : Hid (∀ W, Calls Tryd.prog 8 #[.string (ByteArray.mk (encL ra).toArray ++ ByteArray.mk (encL rb).toArray)] W fun e w' => e = .returned (.string (ByteArray.mk (encL ra).toArray ++ ByteArray.mk (encL rb).toArray)) ∧ Below W.heap.size W w') := Lib.hid (fun W => by
    have := clean_any ⟨(encL (ra ++ rb)).toArray⟩ (by rw [size_mk, encL_app, List.length_append]; omega) W
    rw [data_mk, clean_good _ (by
      intro x hx
      rcases List.mem_append.1 hx with hx | hx
      · exact HGA.out x hx
      · exact HGB.out x hx), encL_app, ← app_mk] at this
    exact this)
  have HRA : Hid (∀ W, Tabs W → Calls Tryd.prog 11 #[.string ⟨(encL ra).toArray⟩] W fun e w' => e = .returned (.bool true) ∧ Below W.heap.size W w') := Lib.hid (fun W hW => by
    have := right_any ⟨(encL ra).toArray⟩ W (by omega) hW
    rw [hda, validD_encL] at this
    exact this)
  have hlen : (ByteArray.mk (encL ra).toArray).size + (ByteArray.mk (encL rb).toArray).size ≤ 2400 := by omega
  clear HGA HGB hda la lb hsa hsb
  generalize ByteArray.mk (encL ra).toArray = a at *
  generalize ByteArray.mk (encL rb).toArray = b at *
  have HT := Lib.hid hT
  clear hT
  go_wp2_with fail
  go_loop [7] (fun i => ∃ k : Nat, k ≤ a.size ∧ i = .int .i64 k) (fun i => a.size - (intOf i).toNat)
  case atStart => exact ⟨0, Nat.zero_le _, rfl⟩
  case round =>
    obtain ⟨k, hk, rfl⟩ := hrel
    by_cases hlt : k < a.size
    · obtain ⟨q0, q13⟩ := HBY.out a[k] (by
        have h2 : a.data.toList.drop k = a[k] :: a.data.toList.drop (k + 1) := drop_at a k hlt
        exact List.mem_of_mem_drop (h2 ▸ List.mem_cons_self))
      have hc := a[k].toNat_lt
      have g0 : ((a[k].toNat : Int) == 0) = false := by rw [beq_eq_false_iff_ne]; omega
      have g13 : ((a[k].toNat : Int) == 13) = false := by rw [beq_eq_false_iff_ne]; omega
      go_wp2_with fail
      go_round
      case rel => exact ⟨k + 1, by omega, by go_num⟩
      case measure => simp [intOf]; omega
    · obtain rfl : k = a.size := by omega
      go_wp2_with fail
      refine (begun_any _).mono ?_
      rintro e w3 ⟨rfl, hb⟩
      have HB3 := Lib.hid (HB2.out.trans (hb.mono HB2.out.size))
      clear hb
      go_wp2_with fail
      refine (HRA.out _ (tabs_below HT.out HB3.out)).mono ?_
      rintro e w4 ⟨rfl, hb⟩
      have HB4 := Lib.hid (HB3.out.trans (hb.mono HB3.out.size))
      clear hb
      go_wp2_with fail
      refine (HAA.out _).mono ?_
      rintro e w5 ⟨rfl, hb⟩
      have HB5 := Lib.hid (HB4.out.trans (hb.mono HB4.out.size))
      clear hb
      go_wp2_with fail
      refine (HAB.out _).mono ?_
      rintro e w6 ⟨rfl, hb⟩
      have HB6 := Lib.hid (HB5.out.trans (hb.mono HB5.out.size))
      clear hb
      go_wp2_with fail
      go_ret
      exact ⟨by simp, HB6.out⟩
end Go.Proofs.YtjhamomdlpoilabDoor.Chars
