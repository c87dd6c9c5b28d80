import Derived.Test.YtjhamomdlpoilaaOpenA
namespace Go.Proofs.Ytjhamomdlpoilaa.OpenW
open Go.RowKit

/-- A slice of texts that is read. -/
def RS (w : World) (A : Option Addr) (n : Nat) (ss : List ByteArray) : Prop :=
  ss.length = n ∧ n ≤ 9223372036854775807 ∧ (∀ s ∈ ss, s.size ≤ 140737488351232) ∧ (0 < n → ∃ ad, A = some ad ∧ ∀ j, j < n → w.cell? (ad.add j) = some (.string (ss.getD j ByteArray.empty)))

def hasR (name : ByteArray) (scope : Int) : List ByteArray → Bool
  | [] => false
  | x :: r => if x.toList == name.toList then true else if barB x scope then false else hasR name scope r

theorem rev_take_succ (ss : List ByteArray) (k : Nat) (h : k < ss.length) : (ss.take (k + 1)).reverse = ss.getD k ByteArray.empty :: (ss.take k).reverse := by
  rw [List.take_succ_eq_append_getElem h, List.reverse_append, List.getD_eq_getElem?_getD, List.getElem?_eq_getElem h]
  rfl
theorem size_getD {ss : List ByteArray} (h : ∀ s ∈ ss, s.size ≤ 140737488351232) (k : Nat) : (ss.getD k ByteArray.empty).size ≤ 140737488351232 := by
  rw [List.getD_eq_getElem?_getD]
  by_cases hk : k < ss.length
  · rw [List.getElem?_eq_getElem hk]; exact h _ (List.getElem_mem hk)
  · rw [List.getElem?_eq_none (by omega)]; decide

set_option maxHeartbeats 400000 in
theorem has_any (A : Option Addr) (n c : Nat) (ss : List ByteArray) (name : ByteArray) (scope m : Int) (w : World) (hr : RS w A n ss) (hm : w.cell? ⟨0, 0, none⟩ = some (.int .i64 m)) :
    Calls Try.prog 31 #[.slice A n c, .string name, .int .i64 scope] w fun e w' => e = .returned (.bool (hasR name scope ss.reverse)) ∧ w = w' := by
  obtain ⟨hl, hn, hs, hc⟩ := hr
  have HC := Lib.hid hc
  have HL := Lib.hid hl
  clear hc hl
  go_enter Try.func31, Try.ntmps31
  go_wp2_with fail
  go_loop [7] (fun i => ∃ k : Nat, k ≤ n ∧ i = .int .i64 ((k : Int) - 1) ∧ Hid (hasR name scope ss.reverse = hasR name scope (ss.take k).reverse)) (fun i => (intOf i + 1).toNat)
  case atStart => exact ⟨n, Nat.le_refl _, rfl, Lib.hid (by rw [← HL.out, List.take_length])⟩
  case round =>
    obtain ⟨k, hk, rfl, HR⟩ := hrel
    by_cases h0 : k = 0
    · subst h0
      go_wp2_with fail
      go_ret
      exact ⟨ret_bool (by rw [HR.out]; rfl), rfl⟩
    · obtain ⟨j, rfl⟩ : ∃ j, k = j + 1 := ⟨k - 1, by omega⟩
      obtain ⟨ad, rfl, hcell⟩ := HC.out (by omega)
      have hj := hcell j (by omega)
      have hz := size_getD hs j
      have hsucc : hasR name scope (ss.take (j + 1)).reverse = (if (ss.getD j ByteArray.empty).toList == name.toList then true else if barB (ss.getD j ByteArray.empty) scope then false else hasR name scope (ss.take j).reverse) := by
        rw [rev_take_succ ss j (by have := HL.out; omega)]; rfl
      have HS := Lib.hid hsucc
      clear hsucc h0 hcell hs
      generalize ss.getD j ByteArray.empty = x at *
      by_cases h1 : x.toList = name.toList
      · have HX := Lib.hid (show hasR name scope ss.reverse = true by rw [HR.out, HS.out, h1]; simp)
        have g1 : (x.toList == name.toList) = true := by simpa using h1
        clear h1
        go_wp2_with fail
        go_ret
        exact ⟨ret_bool HX.out.symm, rfl⟩
      · have g1 : (x.toList == name.toList) = false := by simpa using h1
        by_cases h2 : barB x scope = true
        · have HX := Lib.hid (show hasR name scope ss.reverse = false by rw [HR.out, HS.out, h2, g1]; rfl)
          have H2 := Lib.hid h2
          clear h1 h2
          go_wp2_with fail
          refine (bar_any x scope m _ hz hm).mono ?_
          rintro e w' ⟨rfl, rfl⟩
          rw [H2.out]
          go_wp2_with fail
          go_ret
          exact ⟨ret_bool HX.out.symm, rfl⟩
        · have h3 : barB x scope = false := by simpa using h2
          have HX : Hid (hasR name scope ss.reverse = hasR name scope (ss.take j).reverse) := Lib.hid (by rw [HR.out, HS.out, h3, g1]; rfl)
          have H2 := Lib.hid h3
          clear h1 h2 h3
          go_wp2_with fail
          refine (bar_any x scope m _ hz hm).mono ?_
          rintro e w' ⟨rfl, rfl⟩
          rw [H2.out]
          go_wp2_with fail
          go_round
          case rel => exact ⟨j, by omega, by go_num, HX⟩
          case measure => simp [intOf]

/-- 'In': its two results. -/
def inB (name : ByteArray) (scope : Int) (ss : List ByteArray) : Bool := if scope < 1 ∨ scope > 5 then false else if 60 < ss.length then false else hasR name scope ss.reverse
def inE (scope : Int) (n : Nat) : Int := if scope < 1 ∨ scope > 5 then 1 else if 60 < n then 2 else 0
set_option maxHeartbeats 400000 in
theorem in_any (A : Option Addr) (n c : Nat) (ss : List ByteArray) (name : ByteArray) (scope m : Int) (w : World) (h1 : 1 ≤ scope) (h5 : scope ≤ 5) (h60 : n ≤ 60) (hr : RS w A n ss) (hm : w.cell? ⟨0, 0, none⟩ = some (.int .i64 m)) :
    Calls Try.prog 14 #[.slice A n c, .string name, .int .i64 scope] w fun e w' => e = .returned (.tuple #[.bool (hasR name scope ss.reverse), .int .i64 0]) ∧ w = w' := by
  have HR := Lib.hid hr
  clear hr
  go_enter Try.func14, Try.ntmps14
  go_wp2_with fail
  refine (has_any A n c ss name scope m _ HR.out hm).mono ?_
  rintro e w' ⟨rfl, rfl⟩
  go_wp2_with fail
  go_ret2
  exact ⟨rfl, rfl⟩

def endsR (but : ByteArray) : List ByteArray → Nat
  | [] => 0
  | x :: r => if x.toList == but.toList then 0 else if oneB x implied then endsR but r + 1 else 0
theorem endsR_le (but : ByteArray) : ∀ l : List ByteArray, endsR but l ≤ l.length
  | [] => Nat.le_refl _
  | x :: r => by
    have := endsR_le but r
    simp only [endsR, List.length_cons]
    split <;> (try split) <;> omega
set_option maxHeartbeats 400000 in
theorem ends_any (A : Option Addr) (n c : Nat) (ss : List ByteArray) (but : ByteArray) (m : Int) (w : World) (hr : RS w A n ss) (hm : w.cell? ⟨0, 0, none⟩ = some (.int .i64 m)) :
    Calls Try.prog 33 #[.slice A n c, .string but] w fun e w' => e = .returned (.int .i64 (endsR but ss.reverse)) ∧ w = w' := by
  obtain ⟨hl, hn, hs, hc⟩ := hr
  have HC := Lib.hid hc
  have HL := Lib.hid hl
  clear hc hl
  go_enter Try.func33, Try.ntmps33
  go_wp2_with fail
  go_loop [4, 5] (fun q i => ∃ k d : Nat, k + d = n ∧ i = .int .i64 ((k : Int) - 1) ∧ q = .int .i64 d ∧ Hid (endsR but ss.reverse = endsR but (ss.take k).reverse + d)) (fun _ i => (intOf i + 1).toNat)
  case atStart => exact ⟨n, 0, rfl, rfl, rfl, Lib.hid (by rw [← HL.out, List.take_length]; rfl)⟩
  case round =>
    obtain ⟨k, d, hk, rfl, rfl, HR⟩ := hrel
    have HK := Lib.hid hk
    have hk1 : k ≤ n := by omega
    have hd1 : k + d ≤ n := by omega
    clear hk
    by_cases h0 : k = 0
    · subst h0
      go_wp2_with fail
      go_ret
      exact ⟨ret_int (by rw [HR.out]; simp [endsR]), rfl⟩
    · obtain ⟨j, rfl⟩ : ∃ j, k = j + 1 := ⟨k - 1, by omega⟩
      obtain ⟨ad, rfl, hcell⟩ := HC.out (by omega)
      have hj := hcell j (by omega)
      have hz := size_getD hs j
      have hsucc : endsR but (ss.take (j + 1)).reverse = (if (ss.getD j ByteArray.empty).toList == but.toList then 0 else if oneB (ss.getD j ByteArray.empty) implied then endsR but (ss.take j).reverse + 1 else 0) := by
        rw [rev_take_succ ss j (by have := HL.out; omega)]; rfl
      have HS := Lib.hid hsucc
      clear hsucc h0 hcell hs
      generalize ss.getD j ByteArray.empty = x at *
      by_cases h1 : x.toList = but.toList
      · have HX := Lib.hid (show endsR but ss.reverse = d by rw [HR.out, HS.out, h1]; simp)
        have g1 : (x.toList == but.toList) = true := by simpa using h1
        clear h1
        go_wp2_with fail
        go_ret
        exact ⟨ret_int (by rw [HX.out]), rfl⟩
      · have g1 : (x.toList == but.toList) = false := by simpa using h1
        by_cases h2 : oneB x implied = true
        · have HX : Hid (endsR but ss.reverse = endsR but (ss.take j).reverse + (d + 1)) := Lib.hid (by rw [HR.out, HS.out, h2, g1]; simp; omega)
          have H2 := Lib.hid h2
          clear h1 h2
          go_wp2_with fail
          refine (one_any x implied m _ (by decide) hz hm).mono ?_
          rintro e w' ⟨rfl, rfl⟩
          rw [H2.out]
          go_wp2_with fail
          go_round
          case rel => exact ⟨j, d + 1, by have := HK.out; omega, by go_num, by go_num, HX⟩
          case measure => simp [intOf]
        · have h3 : oneB x implied = false := by simpa using h2
          have HX : Hid (endsR but ss.reverse = d) := Lib.hid (by rw [HR.out, HS.out, h3, g1]; simp)
          have H2 := Lib.hid h3
          clear h1 h2 h3
          go_wp2_with fail
          refine (one_any x implied m _ (by decide) hz hm).mono ?_
          rintro e w' ⟨rfl, rfl⟩
          rw [H2.out]
          go_wp2_with fail
          go_ret
          exact ⟨ret_int (by rw [HX.out]), rfl⟩

set_option maxHeartbeats 400000 in
theorem implied_any (A : Option Addr) (n c : Nat) (ss : List ByteArray) (but : ByteArray) (m : Int) (w : World) (h60 : n ≤ 60) (hr : RS w A n ss) (hm : w.cell? ⟨0, 0, none⟩ = some (.int .i64 m)) :
    Calls Try.prog 16 #[.slice A n c, .string but] w fun e w' => e = .returned (.tuple #[.int .i64 (endsR but ss.reverse), .int .i64 0]) ∧ w = w' := by
  have HR := Lib.hid hr
  clear hr
  go_enter Try.func16, Try.ntmps16
  go_wp2_with fail
  refine (ends_any A n c ss but m _ HR.out hm).mono ?_
  rintro e w' ⟨rfl, rfl⟩
  go_wp2_with fail
  go_ret2
  exact ⟨rfl, rfl⟩
end Go.Proofs.Ytjhamomdlpoilaa.OpenW
