/- Package clerestorykeep1: charsBegun. -/
import Derived.Test.YtjhamomdlpoilabDoorChars4
namespace Go.Proofs.YtjhamomdlpoilabDoor.Chars
open Go.RowKit Go.Shelf Go.Proofs.YtjhamomdlpoilabDoorW.PrintWords
set_option linter.unusedVariables false
set_option linter.unusedSimpArgs false

theorem begun_clean : cleanF [97, 13, 10, 98, 13, 99, 0, 255] = [97, 10, 98, 10, 99, 239, 191, 189, 239, 191, 189] := by kernel_rfl
theorem begun_enc : encL [97, -1] = [97, 239, 191, 189] := by kernel_rfl
theorem rd_lit2 (w : World) (a b : Int) : ReadsInt (w.alloc (.cells #[.int .i32 a, .int .i32 b] 21)) .i32 (some ⟨w.heap.size, 0, none⟩) 2 [a, b] := by
  have h := own_lit w 0 21 .i32 [a, b] (Nat.zero_le _) (by simp)
  obtain ⟨A, c, e, hr⟩ := own_reads h
  cases e
  exact hr

set_option maxRecDepth 100000 in
set_option maxHeartbeats 4000000 in
theorem begun_any (w : World) :
    Calls Tryd.prog 10 #[] w fun e w' => e = .returned (.bool true) ∧ Below w.heap.size w w' := by
  have HB := Lib.hid begun_clean
  have HE := Lib.hid begun_enc
  go_enter Tryd.func10, Tryd.ntmps10
  go_wp2_with fail
  refine (clean_any ⟨#[97, 13, 10, 98, 13, 99, 0, 255]⟩ (by decide) _).mono ?_
  rintro e w1 ⟨rfl, hb⟩
  have H1 := Lib.hid hb
  clear hb
  rw [show (ByteArray.mk #[97, 13, 10, 98, 13, 99, 0, 255]).data.toList = [97, 13, 10, 98, 13, 99, 0, 255] from rfl, HB.out]
  go_wp2_with fail
  refine (encode_any _ 2 2 [97, -1] _ (rd_lit2 w1 97 (-1)) (by decide) (by decide)).mono ?_
  rintro e w2 ⟨rfl, hb⟩
  have H2 := Lib.hid ((H1.out.trans (((Below.refl _ w1).alloc (Nat.le_refl _) _).mono H1.out.size)).trans (hb.mono (by have := H1.out.size; simp; omega)))
  clear hb
  rw [HE.out]
  go_wp2_with fail
  go_ret
  exact ⟨by kernel_rfl, H2.out⟩
end Go.Proofs.YtjhamomdlpoilabDoor.Chars
