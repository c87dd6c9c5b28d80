/- Package chars: From, of units; charsBegun. -/
import Derived.Test.YtjhamomdlpoilabChars6
namespace Go.Proofs.Ytjhamomdlpoilab.Chars
open Go.RowKit Go.Shelf Go.Proofs.YtjhamomdlpoilabW.PrintWords
set_option linter.unusedVariables false
set_option linter.unusedSimpArgs false

theorem units_any (small : Bool) (s : ByteArray) (w : World) (hs : s.size ≤ 1000000) :
    Calls Try.prog 10 #[.string s, .int .i64 (if small then 1 else 0)] w fun e w' => ∃ v, e = .returned v ∧ w'.ownsRow w.heap.size 21 1 v (unitsF small s.data.toList).length (nums .i32 (unitsF small s.data.toList)) ∧ Below w.heap.size w w' := by
  cases small
  · exact units_0 s w hs
  · exact units_1 s w hs
theorem pairedF_le : ∀ l : List Int, (pairedF l).length ≤ l.length
  | [] => by simp [pairedF]
  | [a] => by simp [pairedF]
  | a :: b :: t => by
    have h1 := pairedF_le t
    have h2 := pairedF_le (b :: t)
    simp only [pairedF]
    split
    · simp only [List.length_cons]; omega
    · simp only [List.length_cons] at h2 ⊢; omega
theorem pairedF_rng : ∀ (l : List Int), (∀ x ∈ l, 0 ≤ x ∧ x < 65536) → ∀ x ∈ pairedF l, 0 ≤ x ∧ x ≤ 1114111
  | [], _, x, h => by simp [pairedF] at h
  | [a], ha, x, h => by
    simp only [pairedF, List.mem_singleton] at h
    subst h
    have := ha x (by simp)
    omega
  | a :: b :: t, ha, x, h => by
    have h1 := ha a (by simp)
    have h2 := ha b (by simp)
    simp only [pairedF] at h
    split at h
    · rcases List.mem_cons.1 h with h | h
      · subst h; omega
      · exact pairedF_rng t (fun y hy => ha y (by simp [hy])) x h
    · rcases List.mem_cons.1 h with h | h
      · subst h; omega
      · exact pairedF_rng (b :: t) (fun y hy => ha y (List.mem_cons_of_mem _ hy)) x h

set_option maxRecDepth 100000 in
set_option maxHeartbeats 4000000 in
theorem from_units (small : Bool) (s : ByteArray) (w : World) (hs : s.size ≤ 4000) (he : s.size % 2 = 0) :
    Calls Try.prog 6 #[.string s, .int .i64 (if small then 3 else 2)] w fun e w' => e = .returned (.tuple #[.string ⟨(encL (pairedF (unitsF small s.data.toList))).toArray⟩, .int .i64 0]) ∧ Below w.heap.size w w' := by
  have hu := unitsF_le small s.data.toList
  rw [len_data] at hu
  have hp := pairedF_le (unitsF small s.data.toList)
  have HR := Lib.hid (unitsF_rng small s.data.toList)
  have HP := Lib.hid (pairedF_rng (unitsF small s.data.toList) (unitsF_rng small s.data.toList))
  have HU : Hid (∀ W, Calls Try.prog 10 #[.string s, .int .i64 (if small then 1 else 0)] W fun e w' => ∃ v, e = .returned v ∧ w'.ownsRow W.heap.size 21 1 v (unitsF small s.data.toList).length (nums .i32 (unitsF small s.data.toList)) ∧ Below W.heap.size W w') := Lib.hid (fun W => units_any small s W (by omega))
  generalize unitsF small s.data.toList = us at *
  generalize hps : pairedF us = ps at *
  have hodd : ((s.size : Int) % 2 == 1) = false := by rw [beq_eq_false_iff_ne]; omega
  cases small
  all_goals
    simp only [if_true, if_false, Bool.false_eq_true] at HU ⊢
    go_enter Try.func6, Try.ntmps6
    go_wp2_with fail
    refine (HU.out _).mono ?_
    rintro e w1 ⟨v, rfl, hown, hb⟩
    obtain ⟨A, c, rfl, hrd⟩ := own_reads hown
    have HRD := Lib.hid hrd
    have HB := Lib.hid hb
    clear hown hrd hb
    go_wp2_with fail
    refine (paired_any A us.length c us _ HRD.out HR.out (by omega)).mono ?_
    rintro e w2 ⟨v2, rfl, hown, hb⟩
    rw [hps] at hown
    obtain ⟨A2, c2, rfl, hrd⟩ := own_reads hown
    have HRD2 := Lib.hid hrd
    have HB2 := Lib.hid (HB.out.trans (hb.mono HB.out.size))
    clear hown hrd hb
    go_wp2_with fail
    refine (encode_any A2 ps.length c2 ps _ HRD2.out (fun r hr => by have := HP.out r hr; omega) (by omega)).mono ?_
    rintro e w3 ⟨rfl, hb⟩
    have HB3 := Lib.hid (HB2.out.trans (hb.mono HB2.out.size))
    clear hb
    go_wp2_with fail
    go_ret2
    exact ⟨rfl, HB3.out⟩

theorem begun_clean : cleanF [97, 13, 10, 98, 13, 99, 0, 255] = [97, 10, 98, 10, 99, 239, 191, 189, 239, 191, 189] := by kernel_rfl
theorem begun_enc : encL [97, -1] = [97, 239, 191, 189] := by kernel_rfl
theorem rd_lit2 (w : World) (a b : Int) : ReadsInt (w.alloc (.cells #[.int .i32 a, .int .i32 b] 21)) .i32 (some ⟨w.heap.size, 0, none⟩) 2 [a, b] := by
  have h := own_lit w 0 21 .i32 [a, b] (Nat.zero_le _) (by simp)
  obtain ⟨A, c, e, hr⟩ := own_reads h
  cases e
  exact hr

set_option maxRecDepth 100000 in
set_option maxHeartbeats 4000000 in
theorem begun_any (w : World) :
    Calls Try.prog 5 #[] w fun e w' => e = .returned (.bool true) ∧ Below w.heap.size w w' := by
  have HB := Lib.hid begun_clean
  have HE := Lib.hid begun_enc
  go_enter Try.func5, Try.ntmps5
  go_wp2_with fail
  refine (clean_any ⟨#[97, 13, 10, 98, 13, 99, 0, 255]⟩ (by decide) _).mono ?_
  rintro e w1 ⟨rfl, hb⟩
  have H1 := Lib.hid hb
  clear hb
  rw [show (ByteArray.mk #[97, 13, 10, 98, 13, 99, 0, 255]).data.toList = [97, 13, 10, 98, 13, 99, 0, 255] from rfl, HB.out]
  go_wp2_with fail
  refine (encode_any _ 2 2 [97, -1] _ (rd_lit2 w1 97 (-1)) (by decide) (by decide)).mono ?_
  rintro e w2 ⟨rfl, hb⟩
  have H2 := Lib.hid ((H1.out.trans (((Below.refl _ w1).alloc (Nat.le_refl _) _).mono H1.out.size)).trans (hb.mono (by have := H1.out.size; simp; omega)))
  clear hb
  rw [HE.out]
  go_wp2_with fail
  go_ret
  exact ⟨by kernel_rfl, H2.out⟩
end Go.Proofs.Ytjhamomdlpoilab.Chars
