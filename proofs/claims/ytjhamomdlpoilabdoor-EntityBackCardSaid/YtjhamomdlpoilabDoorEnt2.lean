/- Package entity: word, semicolon, sign, number. -/
import Derived.Test.YtjhamomdlpoilabDoorEnt1
namespace Go.Proofs.YtjhamomdlpoilabDoor.Ent
open Go.RowKit Go.Proofs.YtjhamomdlpoilabDoorW.PrintWords Go.Proofs.YtjhamomdlpoilabDoor.Chars

/-- A letter, a digit, or an equals sign? -/
def wordF (b : UInt8) : Bool := b.toNat == 61 || (decide (48 ≤ b.toNat ∧ b.toNat ≤ 57) || decide (97 ≤ (b ||| 32).toNat ∧ (b ||| 32).toNat ≤ 122))
set_option maxHeartbeats 1000000 in
theorem word_any (b : UInt8) (w : World) :
    Calls Tryd.prog 77 #[.int .u8 b.toNat] w fun e w' => e = .returned (.bool (wordF b)) ∧ w = w' := by
  have ho := or32 b
  have hb := b.toNat_lt
  have hc := (b ||| 32).toNat_lt
  have hd : wordF b = (b.toNat == 61 || (decide (48 ≤ b.toNat ∧ b.toNat ≤ 57) || decide (97 ≤ (b ||| 32).toNat ∧ (b ||| 32).toNat ≤ 122))) := rfl
  generalize (b ||| 32).toNat = y at *
  generalize b.toNat = x at *
  generalize wordF b = d at *
  have HD := Lib.hid hd
  clear hd
  by_cases h1 : x = 61
  · have HF : Hid (d = true) := Lib.hid (by rw [HD.out, h1]; rfl)
    subst h1
    clear HD
    go_enter Tryd.func77, Tryd.ntmps77
    go_wp2
    go_ret
    exact ⟨ret_bool (by (rw [HF.out]) <;> (simp; omega)), rfl⟩
  · have g1 : ((x : Int) == 61) = false := by rw [beq_eq_false_iff_ne]; omega
    have e1 : (x == 61) = false := by rw [beq_eq_false_iff_ne]; exact h1
    by_cases h2 : 48 ≤ x ∧ x ≤ 57
    · have HF : Hid (d = true) := Lib.hid (by rw [HD.out, e1]; simp [h2])
      obtain ⟨h2a, h2b⟩ := h2
      clear HD h1 e1
      go_enter Tryd.func77, Tryd.ntmps77
      go_wp2
      go_ret
      exact ⟨ret_bool (by (rw [HF.out]) <;> (simp; omega)), rfl⟩
    · by_cases h3 : 97 ≤ y ∧ y ≤ 122
      · have HF : Hid (d = true) := Lib.hid (by rw [HD.out, e1]; simp [h3])
        obtain ⟨h3a, h3b⟩ := h3
        clear HD h1 e1
        by_cases h4 : 48 ≤ x
        · have h5 : 57 < x := by omega
          clear h2
          go_enter Tryd.func77, Tryd.ntmps77
          go_wp2
          go_ret
          exact ⟨ret_bool (by (rw [HF.out]) <;> (simp; omega)), rfl⟩
        · clear h2
          go_enter Tryd.func77, Tryd.ntmps77
          go_wp2
          go_ret
          exact ⟨ret_bool (by (rw [HF.out]) <;> (simp; omega)), rfl⟩
      · have HF : Hid (d = false) := Lib.hid (by rw [HD.out, e1]; simp only [h2, h3, decide_false, Bool.or_self])
        clear HD h1 e1
        by_cases h4 : 48 ≤ x
        · have h5 : 57 < x := by omega
          clear h2
          by_cases h6 : 97 ≤ y
          · have h7 : 122 < y := by omega
            clear h3
            go_enter Tryd.func77, Tryd.ntmps77
            go_wp2
            go_ret
            exact ⟨ret_bool (by (rw [HF.out]) <;> (simp; omega)), rfl⟩
          · clear h3
            go_enter Tryd.func77, Tryd.ntmps77
            go_wp2
            go_ret
            exact ⟨ret_bool (by (rw [HF.out]) <;> (simp; omega)), rfl⟩
        · clear h2
          by_cases h6 : 97 ≤ y
          · have h7 : 122 < y := by omega
            clear h3
            go_enter Tryd.func77, Tryd.ntmps77
            go_wp2
            go_ret
            exact ⟨ret_bool (by (rw [HF.out]) <;> (simp; omega)), rfl⟩
          · clear h3
            go_enter Tryd.func77, Tryd.ntmps77
            go_wp2
            go_ret
            exact ⟨ret_bool (by (rw [HF.out]) <;> (simp; omega)), rfl⟩

/-- One byte more, if a semicolon stands there. -/
def semF (s : ByteArray) (n : Nat) : Nat := if s.data.toList[n]? = some 59 then n + 1 else n
theorem semF_le (s : ByteArray) (n : Nat) (h : n ≤ s.size) : n ≤ semF s n ∧ semF s n ≤ s.size := by
  unfold semF
  split
  · rename_i h1
    have := (List.getElem?_eq_some_iff.1 h1).1
    have e : s.data.toList.length = s.size := by rw [Array.length_toList]; rfl
    omega
  · omega
set_option maxHeartbeats 1000000 in
theorem semicolon_any (s : ByteArray) (n : Nat) (w : World) (h : n ≤ s.size) (hs : s.size ≤ 140737488351232) :
    Calls Tryd.prog 74 #[.string s, .int .i64 n] w fun e w' => e = .returned (.int .i64 (semF s n)) ∧ w = w' := by
  by_cases h1 : n < s.size
  · have hg : s.data.toList[n]? = some s[n] := Lib.data_getElem? s n h1
    by_cases h2 : s[n] = 59
    · have HF : Hid (semF s n = n + 1) := Lib.hid (by unfold semF; rw [hg, h2]; rfl)
      have g2 : ((s[n].toNat : Int) == 59) = true := by rw [h2]; rfl
      clear hg h2
      go_enter Tryd.func74, Tryd.ntmps74
      go_wp2
      go_ret
      exact ⟨ret_int (by rw [HF.out]; rfl), rfl⟩
    · have HF : Hid (semF s n = n) := Lib.hid (by unfold semF; rw [hg, if_neg (by intro e; exact h2 (Option.some.inj e))])
      have g2 : ((s[n].toNat : Int) == 59) = false := by
        rw [beq_eq_false_iff_ne]
        intro e
        exact h2 (UInt8.toNat_inj.1 (by simpa using (by omega : s[n].toNat = 59)))
      clear hg h2
      go_enter Tryd.func74, Tryd.ntmps74
      go_wp2
      go_ret
      exact ⟨ret_int (by rw [HF.out]), rfl⟩
  · have e : s.data.toList.length = s.size := by rw [Array.length_toList]; rfl
    have HF : Hid (semF s n = n) := Lib.hid (by unfold semF; rw [List.getElem?_eq_none (by omega), if_neg (by simp)])
    clear e
    go_enter Tryd.func74, Tryd.ntmps74
    go_wp2
    go_ret
    exact ⟨ret_int (by rw [HF.out]), rfl⟩

/-- A sign by its number. -/
def signF (n : Int) : List UInt8 := Lib.encodeRune (if n = 0 ∨ n = 13 then 65533 else n)
theorem signF_le (n : Int) : (signF n).length ≤ 4 := encodeRune_le _
theorem reads_one (w : World) (x : Int) (t : TypeId) : ReadsInt (w.alloc (.cells #[.int .i32 x] t)) .i32 (some ⟨w.heap.size, 0, none⟩) 1 [x] := by
  refine ⟨rfl, by decide, fun _ => ⟨_, rfl, fun j hj => ?_⟩⟩
  obtain rfl : j = 0 := by omega
  go_simp
set_option maxHeartbeats 1000000 in
theorem sign_any (n : Int) (w : World) (h0 : 0 ≤ n) (h1 : n ≤ 2097152) :
    Calls Tryd.prog 73 #[.int .i64 n] w fun e w' => e = .returned (.string ⟨(signF n).toArray⟩) ∧ Below w.heap.size w w' := by
  by_cases h : n = 0 ∨ n = 13
  · have HF : Hid (signF n = encL [65533]) := Lib.hid (by unfold signF; rw [if_pos h]; simp [encL])
    rcases h with rfl | rfl
    all_goals
      go_enter Tryd.func73, Tryd.ntmps73
      go_wp2_with fail
      refine (encode_any _ 1 1 [65533] _ (reads_one _ _ _) (by simp) (by decide)).mono ?_
      rintro e w' ⟨rfl, hb⟩
      have HB := Lib.hid hb
      clear hb
      go_wp2_with fail
      go_ret
      exact ⟨by rw [HF.out]; rfl, ((Below.refl _ _).alloc (Nat.le_refl _) _).trans (HB.out.mono (by simp))⟩
  · have HF : Hid (signF n = encL [n]) := Lib.hid (by unfold signF; rw [if_neg h]; simp [encL])
    have g0 : (n == 0) = false := by rw [beq_eq_false_iff_ne]; omega
    have g1 : (n == 13) = false := by rw [beq_eq_false_iff_ne]; omega
    clear h
    go_enter Tryd.func73, Tryd.ntmps73
    go_wp2_with fail
    refine (encode_any _ 1 1 [n] _ (reads_one _ _ _) (by simp; omega) (by decide)).mono ?_
    rintro e w' ⟨rfl, hb⟩
    have HB := Lib.hid hb
    clear hb
    go_wp2_with fail
    go_ret
    exact ⟨by rw [HF.out]; rfl, ((Below.refl _ _).alloc (Nat.le_refl _) _).trans (HB.out.mono (by simp))⟩
end Go.Proofs.YtjhamomdlpoilabDoor.Ent
