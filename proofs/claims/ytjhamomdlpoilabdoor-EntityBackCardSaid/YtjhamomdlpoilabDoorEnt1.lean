/- Package entity, the small functions: digit, word, semicolon, sign. -/
import Derived.Test.YtjhamomdlpoilabDoorNames
namespace Go.Proofs.YtjhamomdlpoilabDoor.Ent
open Go.RowKit Go.Proofs.YtjhamomdlpoilabDoorW.PrintWords

theorem ret_bool {a b : Bool} (h : a = b) : Ending.returned (.bool a) = .returned (.bool b) := by rw [h]
theorem ret_int {k : IntKind} {a b : Int} (h : a = b) : Ending.returned (.int k a) = .returned (.int k b) := by rw [h]
theorem or32 (b : UInt8) : Go.bits .or .u8 (b.toNat : Int) 32 = ((b ||| 32).toNat : Int) := by
  have h : ∀ x : Fin 256, Go.bits .or .u8 (x.val : Int) 32 = (((UInt8.ofNat x.val) ||| 32).toNat : Int) := by decide +kernel
  have := h ⟨b.toNat, b.toNat_lt⟩
  simpa using this

/-- A digit of a base; -1: it is none. -/
def digF (b : UInt8) (base : Int) : Int :=
  let n : Int := if 48 ≤ b.toNat ∧ b.toNat ≤ 57 then b.toNat - 48 else if 97 ≤ (b ||| 32).toNat ∧ (b ||| 32).toNat ≤ 102 then (b ||| 32).toNat - 97 + 10 else -1
  if n ≥ base then -1 else n
theorem digF_le (b : UInt8) (base : Int) : -1 ≤ digF b base ∧ digF b base ≤ 15 := by
  unfold digF
  have := b.toNat_lt
  dsimp only
  split <;> split <;> (try split) <;> omega

set_option maxHeartbeats 1000000 in
theorem digit_any (b : UInt8) (base : Int) (w : World) :
    Calls Tryd.prog 72 #[.int .u8 b.toNat, .int .i64 base] w fun e w' => e = .returned (.int .i64 (digF b base)) ∧ w = w' := by
  have ho := or32 b
  have hb := b.toNat_lt
  have hc := (b ||| 32).toNat_lt
  have hd : digF b base = (let n : Int := if 48 ≤ b.toNat ∧ b.toNat ≤ 57 then b.toNat - 48 else if 97 ≤ (b ||| 32).toNat ∧ (b ||| 32).toNat ≤ 102 then (b ||| 32).toNat - 97 + 10 else -1
      if n ≥ base then -1 else n) := rfl
  generalize (b ||| 32).toNat = y at *
  generalize b.toNat = x at *
  generalize digF b base = d at *
  have HD := Lib.hid hd
  clear hd
  by_cases h1 : 48 ≤ x ∧ x ≤ 57
  · obtain ⟨h1a, h1b⟩ := h1
    have HE : Hid (d = if (x : Int) - 48 ≥ base then -1 else (x : Int) - 48) := Lib.hid (by rw [HD.out]; simp only [h1a, h1b, and_self, if_true])
    clear HD
    by_cases h2 : (x : Int) - 48 ≥ base
    · have HF : Hid (d = -1) := Lib.hid (by rw [HE.out, if_pos h2])
      clear HE
      go_enter Tryd.func72, Tryd.ntmps72
      go_wp2
      all_goals go_ret
      all_goals exact ⟨ret_int HF.out.symm, rfl⟩
    · have HF : Hid (d = (x : Int) - 48) := Lib.hid (by rw [HE.out, if_neg h2])
      clear HE
      go_enter Tryd.func72, Tryd.ntmps72
      go_wp2
      all_goals go_ret
      all_goals exact ⟨ret_int HF.out.symm, rfl⟩
  · by_cases h3 : 97 ≤ y ∧ y ≤ 102
    · obtain ⟨h3a, h3b⟩ := h3
      have HE : Hid (d = if (y : Int) - 97 + 10 ≥ base then -1 else (y : Int) - 97 + 10) := Lib.hid (by rw [HD.out]; simp only [if_neg h1, h3a, h3b, and_self, if_true])
      clear HD
      by_cases h2 : (y : Int) - 97 + 10 ≥ base
      · have HF : Hid (d = -1) := Lib.hid (by rw [HE.out, if_pos h2])
        clear HE
        by_cases h4 : 48 ≤ x
        · have h5 : 57 < x := by omega
          clear h1
          go_enter Tryd.func72, Tryd.ntmps72
          go_wp2
          all_goals go_ret
          all_goals exact ⟨ret_int HF.out.symm, rfl⟩
        · clear h1
          go_enter Tryd.func72, Tryd.ntmps72
          go_wp2
          all_goals go_ret
          all_goals exact ⟨ret_int HF.out.symm, rfl⟩
      · have HF : Hid (d = (y : Int) - 97 + 10) := Lib.hid (by rw [HE.out, if_neg h2])
        clear HE
        by_cases h4 : 48 ≤ x
        · have h5 : 57 < x := by omega
          clear h1
          go_enter Tryd.func72, Tryd.ntmps72
          go_wp2
          all_goals go_ret
          all_goals exact ⟨ret_int HF.out.symm, rfl⟩
        · clear h1
          go_enter Tryd.func72, Tryd.ntmps72
          go_wp2
          all_goals go_ret
          all_goals exact ⟨ret_int HF.out.symm, rfl⟩
    · have HF : Hid (d = -1) := Lib.hid (by rw [HD.out]; simp only [if_neg h1, if_neg h3]; split <;> rfl)
      clear HD
      by_cases h4 : 48 ≤ x
      · have h5 : 57 < x := by omega
        clear h1
        by_cases h6 : 97 ≤ y
        · have h7 : 102 < y := by omega
          clear h3
          by_cases h8 : base ≤ -1
          all_goals
            go_enter Tryd.func72, Tryd.ntmps72
            go_wp2
            all_goals go_ret
            all_goals exact ⟨ret_int HF.out.symm, rfl⟩
        · clear h3
          by_cases h8 : base ≤ -1
          all_goals
            go_enter Tryd.func72, Tryd.ntmps72
            go_wp2
            all_goals go_ret
            all_goals exact ⟨ret_int HF.out.symm, rfl⟩
      · clear h1
        by_cases h6 : 97 ≤ y
        · have h7 : 102 < y := by omega
          clear h3
          by_cases h8 : base ≤ -1
          all_goals
            go_enter Tryd.func72, Tryd.ntmps72
            go_wp2
            all_goals go_ret
            all_goals exact ⟨ret_int HF.out.symm, rfl⟩
        · clear h3
          by_cases h8 : base ≤ -1
          all_goals
            go_enter Tryd.func72, Tryd.ntmps72
            go_wp2
            all_goals go_ret
            all_goals exact ⟨ret_int HF.out.symm, rfl⟩
end Go.Proofs.YtjhamomdlpoilabDoor.Ent
