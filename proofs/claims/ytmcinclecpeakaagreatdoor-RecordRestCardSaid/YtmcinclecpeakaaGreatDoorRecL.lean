import Derived.Test.YtmcinclecpeakaaGreatDoorGRecI
import Derived.Test.YtmcinclecpeakaaGreatDoorRecJ
import Derived.Test.YtmcinclecpeakaaGreatDoorSame
import Derived.Deep.QuietTactic
import Derived.Deep.RegionHeld3
/- What the laws of RECORD have in common (written by mkrecl.py). -/
namespace Go.Proofs.YtmcinclecpeakaaGreatDoor.ApA
open Go.RowKit Go.Proofs.YtmcinclecpeakaaGreatDoorW.PrintWords Go.Proofs.YtmcinclecpeakaaGreatDoorW.PrintLast Go.Proofs.YtmcinclecpeakaaGreatDoorW.PrintMore Go.Proofs.YtmcinclecpeakaaGreatDoor.PRR Go.Proofs.YtmcinclecpeakaaGreatDoor.DocP Go.Proofs.YtmcinclecpeakaaGreatDoor.DocC
attribute [local go_sem] max2_int min2_int max_two min_two max_three min_three max_four min_four
set_option linter.unusedVariables false
set_option linter.unusedSimpArgs false
set_option maxHeartbeats 2000000 in
set_option maxRecDepth 100000 in
theorem few_any (A : Option Addr) (n c m : Nat) (q : Bool) (w : World) (hn : n ≤ c) (hm : n ≤ 9223372036854775807) (hm2 : m ≤ 9223372036854775807) :
    Calls Tryz.prog 6 #[.agg #[.slice A n c, .bool q], .int .i64 m] w fun e w' => e = .returned (.agg #[.slice A (min n m) c, .bool q]) ∧ Below w.heap.size w w' := by
  by_cases hmn : m < n
  · have HJ : Hid (min n m = m) := Lib.hid (by omega)
    go_enter Tryz.func6, Tryz.ntmps6
    go_wp2_with fail
    exact bodyPost_ret (v := .agg #[.slice A m c, .bool q]) (by simp [results, Tryz.results6, go_sem]) rfl ⟨by rw [HJ.out], (((Below.refl _ w).alloc (Nat.le_refl _) _).alloc (by simp) _)⟩
  · have HJ : Hid (min n m = n) := Lib.hid (by omega)
    go_enter Tryz.func6, Tryz.ntmps6
    go_wp2_with fail
    exact bodyPost_ret (v := .agg #[.slice A n c, .bool q]) (by simp [results, Tryz.results6, go_sem]) rfl ⟨by rw [HJ.out], (((Below.refl _ w).alloc (Nat.le_refl _) _).alloc (by simp) _)⟩
theorem short_doc {l : List S43} (h : DocOk l) : Same.Short l := ⟨h.len, fun x hx => by
  obtain ⟨k, hk, rfl⟩ := List.mem_iff_getElem.1 hx
  have hin : In l.length (k : Int) := ⟨by omega, by omega⟩
  have e : rd_T43 l (k : Int) = l[k] := by
    unfold rd_T43
    rw [Int.toNat_natCast, List.getD_eq_getElem?_getD, List.getElem?_eq_getElem hk]
    rfl
  rw [← e]
  exact ⟨(h.oneOk hin).2.2.2.2.1.1, h.kids_le hin⟩⟩
theorem fit_cut {l : List S43} (h : Fit l) (n : Nat) : Fit (l.take n) := fun i => by
  by_cases hi : i.toNat < n
  · have e : rd_T43 (l.take n) i = rd_T43 l i := by
      unfold rd_T43
      rw [List.getD_eq_getElem?_getD, List.getD_eq_getElem?_getD, List.getElem?_take, if_pos hi]
    show ((rd_T43 (l.take n) i).f5).length ≤ _
    rw [e]
    exact h i
  · show ((rd_T43 (l.take n) i).f5).length ≤ _
    unfold rd_T43
    rw [List.getD_eq_getElem?_getD, List.getElem?_take, if_neg hi]
    decide
/-- A document in a box of its own. -/
structure BX (W : World) (g : Nat) (A : Option Addr) (n c : Nat) (q : Bool) (l : List S43) : Prop where
  blk : W.heap[g]? = some (.cells #[.slice A n c, .bool q] 24 (0, 0))
  rd : n = l.length ∧ n ≤ c ∧ Kd.C k43 W A l.length l
theorem BX.on {W W' : World} {g : Nat} {A : Option Addr} {n c : Nat} {q : Bool} {l : List S43} (h : BX W g A n c q l) (hb : Below W.heap.size W W') : BX W' g A n c q l := ⟨blk_below h.blk hb, h.rd.1, h.rd.2.1, Kd.C_below h.rd.2.2 hb⟩
theorem BX.of {W : World} {A : Option Addr} {n c : Nat} {q : Bool} {l : List S43} (h : n = l.length ∧ n ≤ c ∧ Kd.C k43 W A l.length l) : BX (W.alloc (.cells #[.slice A n c, .bool q] 24)) W.heap.size A n c q l := ⟨blk_new W _, h.1, h.2.1, Kd.C_alloc h.2.2 _⟩
theorem BX.cells {W : World} {g : Nat} {A : Option Addr} {n c : Nat} {q : Bool} {l : List S43} (h : BX W g A n c q l) : W.cell? ⟨g, 0, none⟩ = some (.slice A n c) ∧ W.cell? ⟨g, 1, none⟩ = some (.bool q) := ⟨(blk_cell h.blk 0).trans rfl, (blk_cell h.blk 1).trans rfl⟩
/-- sameDoc of two documents that are one. -/
theorem same_two {l : List S43} (hd : DocOk l) {q : Bool} {W : World} {g g' : Nat} {A B : Option Addr} {n c n' d : Nat} (hA : BX W g A n c q l) (hB : BX W g' B n' d q l) : Calls Tryz.prog 11 #[.agg #[.slice A n c, .bool q], .agg #[.slice B n' d, .bool q]] W fun u w' => u = .returned (.bool true) ∧ Below W.heap.size W w' := by
  obtain ⟨h1, h2, h3⟩ := hA.rd
  obtain ⟨k1, k2, k3⟩ := hB.rd
  subst h1 k1
  exact Same.sameDoc_calls l q A B c d W h3 h2 k3 k2 (short_doc hd)
/-- The document, cut, in its box. -/
structure T1 (w W : World) (A : Option Addr) (n c : Nat) (q : Bool) (l : List S43) : Prop where
  bx : BX W w.heap.size A n c q l
  below : Below w.heap.size w W
theorem T1.on {w W W' : World} {A : Option Addr} {n c : Nat} {q : Bool} {l : List S43} (h : T1 w W A n c q l) (hb : Below W.heap.size W W') : T1 w W' A n c q l := ⟨h.bx.on hb, h.below.trans (hb.mono h.below.size)⟩
end Go.Proofs.YtmcinclecpeakaaGreatDoor.ApA
