import Derived.Test.YtjhamomdlpoilaaOpenP
import Derived.Test.YtjhamomdlpoilaaOpenC
namespace Go.Proofs.Ytjhamomdlpoilaa.OpenW
open Go.RowKit

theorem gone_fmt {x : ByteArray} (h : oneB x implied = true) : oneB x fmtl = false := by
  have hw := implied_words h
  rw [← oneB_congr (a := ⟨x.data.toList.toArray⟩) (by simp) fmtl]
  generalize x.data.toList = l at *
  simp only [List.mem_cons, List.not_mem_nil, or_false] at hw
  rcases hw with rfl | rfl | rfl | rfl | rfl | rfl | rfl <;> decide +kernel
theorem heading_gone {x : ByteArray} (h : oneB x implied = true) (w : World) : Calls Try.prog 18 #[.string x] w fun e w' => e = .returned (.bool false) ∧ w = w' := by
  by_cases h2 : x.size = 2
  · refine heading_two x w h2 ?_
    have hw := implied_words h
    have e : x.data.toList[0]? = some x[0] := Lib.data_getElem? x 0 (by omega)
    intro e2
    rw [e2] at e
    generalize x.data.toList = l at *
    simp only [List.mem_cons, List.not_mem_nil, or_false] at hw
    rcases hw with rfl | rfl | rfl | rfl | rfl | rfl | rfl <;> simp at e
  · exact heading_any x w h2

theorem rs_take {w : World} {A : Option Addr} {n : Nat} {ss : List ByteArray} (h : RS w A n ss) (k : Nat) (hk : k ≤ n) : RS w A k (ss.take k) := by
  obtain ⟨h1, h2, h3, h4⟩ := h
  refine ⟨by simp; omega, by omega, fun s hs => h3 s (List.mem_of_mem_take hs), fun h0 => ?_⟩
  obtain ⟨ad, rfl, hc⟩ := h4 (by omega)
  refine ⟨ad, rfl, fun j hj => ?_⟩
  rw [hc j (by omega), List.getD_eq_getElem?_getD, List.getD_eq_getElem?_getD, List.getElem?_take, if_pos hj]

set_option maxHeartbeats 1000000 in
/-- The law, from its cut on. -/
theorem ends_law (A : Option Addr) (n c : Nat) (ss : List ByteArray) (but : ByteArray) (m : Int) (w : World) (hr : RS w A n ss) (hnc : n ≤ c) (hm : w.cell? ⟨0, 0, none⟩ = some (.int .i64 m)) :
    Calls Try.prog 6 #[.slice A n c, .string but] w fun e w' => e = .returned (.bool true) ∧ Below w.heap.size w w' := by
  obtain ⟨k, hk, hk2, hmin⟩ : ∃ k : Nat, k ≤ n ∧ k ≤ 50 ∧ (min (n : Int) 50).toNat = k := ⟨_, by omega, by omega, rfl⟩
  have hrk := rs_take hr k hk
  have HR := Lib.hid hrk
  have hn : n ≤ 9223372036854775807 := hr.2.1
  have hkc : k ≤ c := by omega
  have HM := Lib.hid hm
  have HMIN := Lib.hid hmin
  clear hrk hr hmin hm
  generalize htt : ss.take k = tt at HR
  have htl : tt.length = k := HR.out.1
  have HTL := Lib.hid htl
  clear htl htt
  obtain ⟨d, hd⟩ : ∃ d : Nat, endsR but tt.reverse = d := ⟨_, rfl⟩
  have hdk : d ≤ k := by have := endsR_le but tt.reverse; rw [List.length_reverse] at this; have := HTL.out; omega
  have HD := Lib.hid hd
  clear hd
  go_enter Try.func6, Try.ntmps6
  go_wp2_with fail
  rw [HMIN.out]
  refine (implied_any A k c tt but m _ (by omega) HR.out HM.out).mono ?_
  rintro e w' ⟨rfl, rfl⟩
  rw [HD.out]
  go_wp2_with fail
  have hag : endsR but (tt.take (k - d)).reverse = 0 := by have := ends_again but tt; rw [HD.out, HTL.out] at this; exact this
  have HAG := Lib.hid hag
  clear hag
  refine (implied_any A (k - d) c (tt.take (k - d)) but m _ (by omega) (rs_take HR.out (k - d) (by omega)) HM.out).mono ?_
  rintro e w' ⟨rfl, rfl⟩
  rw [HAG.out]
  go_wp2_with fail
  go_loop [9] (fun i => ∃ q : Nat, k - d ≤ q ∧ q ≤ k ∧ i = .int .i64 q) (fun i => k - (intOf i).toNat)
  case atStart => exact ⟨k - d, by omega, by omega, by go_num⟩
  case round =>
    obtain ⟨q, hq1, hq2, rfl⟩ := hrel
    by_cases hq : q < k
    · obtain ⟨ad, rfl, hcell⟩ := HR.out.2.2.2 (by omega)
      have hj := hcell q hq
      have hz := size_getD HR.out.2.2.1 q
      obtain ⟨hx1, hx2⟩ := ends_gone but tt q (by have := HTL.out; have := HD.out; omega) (by have := HTL.out; omega)
      have HX2 := Lib.hid hx2
      clear hcell hx2
      generalize tt.getD q ByteArray.empty = x at *
      have g1 : (x.toList == but.toList) = false := by simpa using hx1
      clear hx1
      go_wp2_with fail
      refine (formatting_any x m _ hz HM.out).mono ?_
      rintro e w' ⟨rfl, rfl⟩
      rw [gone_fmt HX2.out]
      go_wp2_with fail
      refine (heading_gone HX2.out _).mono ?_
      rintro e w' ⟨rfl, rfl⟩
      go_wp2_with fail
      go_round
      case rel => exact ⟨q + 1, by omega, by omega, by go_num⟩
      case measure => simp [intOf]; omega
    · go_wp2_with fail
      refine (begun_any m _ HM.out).mono ?_
      rintro e w' ⟨rfl, hb⟩
      have HB := Lib.hid hb
      clear hb
      go_wp2_with fail
      go_ret
      exact ⟨rfl, HB.out⟩
end Go.Proofs.Ytjhamomdlpoilaa.OpenW
