/- Package active: items, markers, Check. -/
import Derived.Test.YtdheifnebkkjhaaWWords
import Derived.Test.YtdheifnebkkjhaaProg
import Derived.WalkKit
import Derived.WalkSpells
import Derived.Lib.Hide
namespace Go.Proofs.Ytdheifnebkkjhaa.Act
open Go.RowKit Go.Proofs.YtdheifnebkkjhaaW.PrintWords
set_option linter.unusedVariables false
set_option linter.unusedSimpArgs false

/-- An item as it lies: its node, its name, the slice of its attributes. -/
structure It where
  node : Int
  name : ByteArray
  A : Option Addr
  n : Nat
  c : Nat
def itCells (x : It) : List Value := [.int .i64 x.node, .string x.name, .slice x.A x.n x.c]
def itVal (x : It) : Value := .agg #[.int .i64 x.node, .string x.name, .slice x.A x.n x.c]
def badF (x : It) : Bool := decide (x.node < -1) || (x.node == -1 && (!(x.name.toList == []) || decide (0 < x.n)))

set_option maxHeartbeats 1000000 in
theorem marker_any (x : It) (w : World) :
    Calls Try.prog 20 #[itVal x] w fun e w' => e = .returned (.bool (x.node == -1)) ∧ Below w.heap.size w w' := by
  obtain ⟨nd, nm, A, n, c⟩ := x
  unfold itVal
  go_enter Try.func20, Try.ntmps20
  go_wp2_with fail
  go_ret
  exact ⟨rfl, (Below.refl _ w).alloc (Nat.le_refl _) _⟩
set_option maxHeartbeats 2000000 in
theorem check1_any (x : It) (w : World) :
    Calls Try.prog 19 #[itVal x] w fun e w' => e = .returned (.bool (badF x)) ∧ Below w.heap.size w w' := by
  obtain ⟨nd, nm, A, n, c⟩ := x
  have HM : Hid (∀ W, Calls Try.prog 20 #[.agg #[.int .i64 nd, .string nm, .slice A n c]] W fun e w' => e = .returned (.bool (nd == -1)) ∧ Below W.heap.size W w') := Lib.hid (fun W => marker_any ⟨nd, nm, A, n, c⟩ W)
  by_cases h1 : nd < -1
  · have HR : Hid (badF ⟨nd, nm, A, n, c⟩ = true) := Lib.hid (by simp [badF, h1])
    unfold itVal
    go_enter Try.func19, Try.ntmps19
    go_wp2_with fail
    go_ret
    exact ⟨by rw [HR.out]; rfl, (Below.refl _ w).alloc (Nat.le_refl _) _⟩
  · by_cases h2 : nd = -1
    · subst h2
      have HR : Hid (badF ⟨-1, nm, A, n, c⟩ = (!(nm.toList == []) || decide (0 < n))) := Lib.hid (by simp [badF])
      unfold itVal
      go_enter Try.func19, Try.ntmps19
      go_wp2_with fail
      refine (HM.out _).mono ?_
      rintro e w1 ⟨rfl, hb⟩
      have hB := (((Below.refl _ w).alloc (Nat.le_refl _) (.cells #[.int .i64 (-1), .string nm, .slice A n c] 26))).trans (hb.mono (by simp))
      have hk := blk_below (blk_new w (.cells #[.int .i64 (-1), .string nm, .slice A n c] 26)) hb
      have c1 := blk_cell hk 1
      have c2 := blk_cell hk 2
      simp only [List.getElem?_toArray, List.getElem?_cons_succ, List.getElem?_cons_zero] at c1 c2
      have HB := Lib.hid hB
      clear hb hB hk
      go_wp2_with fail
      · rename_i h
        go_ret
        exact ⟨by rw [HR.out, show (nm.toList == []) = true from by rw [h]; rfl]; rfl, HB.out⟩
      · rename_i h
        go_ret
        exact ⟨by rw [HR.out, show (nm.toList == []) = false from by simpa using h]; rfl, HB.out⟩
    · have hm : (nd == -1) = false := by simpa using h2
      have HR : Hid (badF ⟨nd, nm, A, n, c⟩ = false) := Lib.hid (by simp [badF, h2]; omega)
      unfold itVal
      go_enter Try.func19, Try.ntmps19
      go_wp2_with fail
      refine (HM.out _).mono ?_
      rintro e w1 ⟨rfl, hb⟩
      have hB := (((Below.refl _ w).alloc (Nat.le_refl _) (.cells #[.int .i64 nd, .string nm, .slice A n c] 26))).trans (hb.mono (by simp))
      have HB := Lib.hid hB
      clear hb hB
      rw [hm]
      go_wp2_with fail
      go_ret
      exact ⟨by rw [HR.out]; rfl, HB.out⟩

/-- The first place at which p holds; -1: there is none. -/
def idxF {α : Type} (p : α → Bool) (xs : List α) : Int := match xs.findIdx? p with | some i => (i : Int) | none => -1
theorem idxF_some {α : Type} {p : α → Bool} {xs : List α} {k : Nat} (h : xs.findIdx? p = some k) : idxF p xs = k := by unfold idxF; rw [h]
theorem idxF_none {α : Type} {p : α → Bool} {xs : List α} (h : xs.findIdx? p = none) : idxF p xs = -1 := by unfold idxF; rw [h]
/-- A row of items that is read. -/
def RIt (w : World) (A : Option Addr) (n : Nat) (xs : List It) : Prop := ReadsRow (fun x cs => cs = itCells x) 3 w A n xs
def zIt : It := ⟨0, ByteArray.empty, none, 0, 0⟩
/-- The three cells of an item of a row, as the walk spells them. -/
theorem RIt.cells {w : World} {A : Option Addr} {n : Nat} {xs : List It} (h : RIt w A n xs) (k : Nat) (hk : k < n) :
    ∃ ad, A = some ad ∧ w.cell? (ad.add (k * 3)) = some (.int .i64 (xs.getD k zIt).node) ∧ w.cell? ⟨(ad.add (k * 3)).block, (ad.add (k * 3)).off + 1, none⟩ = some (.string (xs.getD k zIt).name) ∧
      w.cell? ⟨(ad.add (k * 3)).block, (ad.add (k * 3)).off + 2, none⟩ = some (.slice (xs.getD k zIt).A (xs.getD k zIt).n (xs.getD k zIt).c) := by
  obtain ⟨ad, c, e, hl, rfl, hc⟩ := ReadsRow.get_ h zIt (k : Int) (by omega) (by omega)
  rw [Int.toNat_natCast] at hc
  refine ⟨ad, e, ?_, ?_, ?_⟩
  · exact hc 0 _ rfl
  · rw [← add_field ad (k * 3) 1 (by decide)]; exact hc 1 _ rfl
  · rw [← add_field ad (k * 3) 2 (by decide)]; exact hc 2 _ rfl
theorem RIt.below {w W : World} {A : Option Addr} {n : Nat} {xs : List It} (h : RIt w A n xs) (hb : Below w.heap.size w W) : RIt W A n xs := ReadsRow.imp_ h hb (fun _ _ hp => hp)
theorem RIt.len {w : World} {A : Option Addr} {n : Nat} {xs : List It} (h : RIt w A n xs) : xs.length = n := h.1
set_option maxHeartbeats 2000000 in
theorem indexFunc_any (A : Option Addr) (n c : Nat) (xs : List It) (w : World) (hr : RIt w A n xs) :
    Calls Try.prog 25 #[.slice A n c, .func (.func 19) #[] #[]] w fun e w' => e = .returned (.int .i64 (idxF badF xs)) ∧ Below w.heap.size w w' := by
  go_enter Try.func25, Try.ntmps25
  go_wp2_with fail
  have hnm : n ≤ 9223372036854775807 := hr.2.1
  have HL := Lib.hid hr.len
  have HR := Lib.hid hr
  clear hr
  go_loopw [8] (fun i wr => ∃ k : Nat, k ≤ n ∧ i = .int .i64 k ∧ Hid (∀ j, j < k → badF (xs.getD j zIt) = false) ∧ Hid (Below w.heap.size w wr))
    (fun i _ => n - (intOf i).toNat)
  case atStart => exact ⟨0, Nat.zero_le _, rfl, Lib.hid (fun j h => absurd h (Nat.not_lt_zero _)), Lib.hid (Below.refl _ _)⟩
  case round =>
    obtain ⟨k, hk, rfl, HN, HB⟩ := hrel
    by_cases hlt : k < n
    · obtain ⟨ad, rfl, c0, c1, c2⟩ := (HR.out.below HB.out).cells k hlt
      have HC : Hid (∀ W, Calls Try.prog 19 #[itVal (xs.getD k zIt)] W fun e w' => e = .returned (.bool (badF (xs.getD k zIt))) ∧ Below W.heap.size W w') := Lib.hid (fun W => check1_any _ W)
      obtain ⟨x, hx⟩ : ∃ x, x = xs.getD k zIt := ⟨_, rfl⟩
      have HX := Lib.hid hx
      rw [← hx] at c0 c1 c2 HC
      clear hx
      go_wp2_with fail
      refine (HC.out _).mono ?_
      rintro e w1 ⟨rfl, hb⟩
      have HB1 := Lib.hid (HB.out.trans (hb.mono HB.out.size))
      clear hb c0 c1 c2
      by_cases hbad : badF x = true
      · have HE : Hid (idxF badF xs = k) := Lib.hid (by
          have hl := HL.out
          refine idxF_some ?_
          rw [List.findIdx?_eq_some_iff_getElem]
          refine ⟨by omega, ?_, fun j hj => ?_⟩
          · have e : xs[k] = x := by rw [HX.out, List.getD_eq_getElem?_getD, List.getElem?_eq_getElem (by omega)]; rfl
            rw [e]; exact hbad
          · have := HN.out j hj
            rw [List.getD_eq_getElem?_getD, List.getElem?_eq_getElem (by omega)] at this
            simpa using this)
        rw [hbad]
        go_wp2_with fail
        go_ret
        exact ⟨by rw [HE.out]; rfl, HB1.out⟩
      · have hbad : badF x = false := by simpa using hbad
        have HN1 : Hid (∀ j, j < k + 1 → badF (xs.getD j zIt) = false) := Lib.hid (fun j hj => by
          by_cases e : j = k
          · rw [e, ← HX.out]; exact hbad
          · exact HN.out j (by omega))
        rw [hbad]
        go_wp2_with fail
        go_roundw
        case rel => exact ⟨k + 1, by omega, by go_num, HN1, HB1⟩
        case measure => simp [intOf]; omega
    · obtain rfl : k = n := by omega
      have HE : Hid (idxF badF xs = -1) := Lib.hid (by
        have hl := HL.out
        refine idxF_none ?_
        rw [List.findIdx?_eq_none_iff]
        intro x hx
        obtain ⟨j, hj, rfl⟩ := List.mem_iff_getElem.1 hx
        have := HN.out j (by omega)
        rw [List.getD_eq_getElem?_getD, List.getElem?_eq_getElem hj] at this
        simpa using this)
      go_wp2_with fail
      go_ret
      exact ⟨by rw [HE.out]; rfl, HB.out⟩
end Go.Proofs.Ytdheifnebkkjhaa.Act
