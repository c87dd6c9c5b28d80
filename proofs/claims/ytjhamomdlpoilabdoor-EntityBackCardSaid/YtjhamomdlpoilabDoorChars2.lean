/- Package chars: reading a sign: lead, one. -/
import Derived.Test.YtjhamomdlpoilabDoorChars1
import Derived.Deep.QuietTactic
import Derived.BigQuiet
import Derived.Outline
namespace Go.Proofs.YtjhamomdlpoilabDoor.Chars
open Go.RowKit Go.Proofs.YtjhamomdlpoilabDoorW.PrintWords
set_option linter.unusedVariables false
set_option linter.unusedSimpArgs false

theorem ret_int {k : IntKind} {a b : Int} (h : a = b) : Ending.returned (.int k a) = .returned (.int k b) := by rw [h]
/-- A lead byte: how many are behind it; the bounds of the first of these. -/
structure Lead where
  more : Int
  low : Nat
  high : Nat
def leadF (b : Nat) : Lead :=
  if b < 128 then ⟨0, 128, 191⟩ else if b < 194 then ⟨-1, 128, 191⟩ else if b ≤ 223 then ⟨1, 128, 191⟩ else if b = 224 then ⟨2, 160, 191⟩ else if b = 237 then ⟨2, 128, 159⟩ else if b ≤ 239 then ⟨2, 128, 191⟩
  else if b = 240 then ⟨3, 144, 191⟩ else if b = 244 then ⟨3, 128, 143⟩ else if b ≤ 243 then ⟨3, 128, 191⟩ else ⟨-1, 128, 191⟩
theorem lead_ok (b : Nat) : -1 ≤ (leadF b).more ∧ (leadF b).more ≤ 3 ∧ (leadF b).low ≤ 191 ∧ (leadF b).high ≤ 191 := by
  unfold leadF
  repeat' split
  all_goals decide
set_option maxRecDepth 100000 in
set_option maxHeartbeats 1000000 in
theorem lead_0 (b : Nat) (w : World) (hc : b < 128) :
    Calls Tryd.prog 55 #[.int .u8 (b : Int)] w fun e w' => e = .returned (.tuple #[.int .i64 0, .int .u8 128, .int .u8 191]) ∧ w = w' := by
  have g224 : ((b : Int) == 224) = false := by rw [beq_eq_false_iff_ne]; omega
  have g237 : ((b : Int) == 237) = false := by rw [beq_eq_false_iff_ne]; omega
  have g240 : ((b : Int) == 240) = false := by rw [beq_eq_false_iff_ne]; omega
  have g244 : ((b : Int) == 244) = false := by rw [beq_eq_false_iff_ne]; omega
  go_enter Tryd.func55, Tryd.ntmps55
  go_wp2
  go_ret3
  exact ⟨rfl, rfl⟩
set_option maxRecDepth 100000 in
set_option maxHeartbeats 1000000 in
theorem lead_1 (b : Nat) (w : World) (hc : 128 ≤ b ∧ b < 194) :
    Calls Tryd.prog 55 #[.int .u8 (b : Int)] w fun e w' => e = .returned (.tuple #[.int .i64 (-1), .int .u8 128, .int .u8 191]) ∧ w = w' := by
  obtain ⟨hc1, hc2⟩ := hc
  have g224 : ((b : Int) == 224) = false := by rw [beq_eq_false_iff_ne]; omega
  have g237 : ((b : Int) == 237) = false := by rw [beq_eq_false_iff_ne]; omega
  have g240 : ((b : Int) == 240) = false := by rw [beq_eq_false_iff_ne]; omega
  have g244 : ((b : Int) == 244) = false := by rw [beq_eq_false_iff_ne]; omega
  go_enter Tryd.func55, Tryd.ntmps55
  go_wp2
  go_ret3
  exact ⟨rfl, rfl⟩
set_option maxRecDepth 100000 in
set_option maxHeartbeats 1000000 in
theorem lead_2 (b : Nat) (w : World) (hc : 194 ≤ b ∧ b ≤ 223) :
    Calls Tryd.prog 55 #[.int .u8 (b : Int)] w fun e w' => e = .returned (.tuple #[.int .i64 1, .int .u8 128, .int .u8 191]) ∧ w = w' := by
  obtain ⟨hc1, hc2⟩ := hc
  have g224 : ((b : Int) == 224) = false := by rw [beq_eq_false_iff_ne]; omega
  have g237 : ((b : Int) == 237) = false := by rw [beq_eq_false_iff_ne]; omega
  have g240 : ((b : Int) == 240) = false := by rw [beq_eq_false_iff_ne]; omega
  have g244 : ((b : Int) == 244) = false := by rw [beq_eq_false_iff_ne]; omega
  go_enter Tryd.func55, Tryd.ntmps55
  go_wp2
  go_ret3
  exact ⟨rfl, rfl⟩
set_option maxRecDepth 100000 in
set_option maxHeartbeats 1000000 in
theorem lead_3 (w : World) :
    Calls Tryd.prog 55 #[.int .u8 224] w fun e w' => e = .returned (.tuple #[.int .i64 2, .int .u8 160, .int .u8 191]) ∧ w = w' := by
  go_enter Tryd.func55, Tryd.ntmps55
  go_wp2
  go_ret3
  exact ⟨rfl, rfl⟩
set_option maxRecDepth 100000 in
set_option maxHeartbeats 1000000 in
theorem lead_4 (b : Nat) (w : World) (hc : 225 ≤ b ∧ b ≤ 236) :
    Calls Tryd.prog 55 #[.int .u8 (b : Int)] w fun e w' => e = .returned (.tuple #[.int .i64 2, .int .u8 128, .int .u8 191]) ∧ w = w' := by
  obtain ⟨hc1, hc2⟩ := hc
  have g224 : ((b : Int) == 224) = false := by rw [beq_eq_false_iff_ne]; omega
  have g237 : ((b : Int) == 237) = false := by rw [beq_eq_false_iff_ne]; omega
  have g240 : ((b : Int) == 240) = false := by rw [beq_eq_false_iff_ne]; omega
  have g244 : ((b : Int) == 244) = false := by rw [beq_eq_false_iff_ne]; omega
  go_enter Tryd.func55, Tryd.ntmps55
  go_wp2
  go_ret3
  exact ⟨rfl, rfl⟩
set_option maxRecDepth 100000 in
set_option maxHeartbeats 1000000 in
theorem lead_5 (w : World) :
    Calls Tryd.prog 55 #[.int .u8 237] w fun e w' => e = .returned (.tuple #[.int .i64 2, .int .u8 128, .int .u8 159]) ∧ w = w' := by
  go_enter Tryd.func55, Tryd.ntmps55
  go_wp2
  go_ret3
  exact ⟨rfl, rfl⟩
set_option maxRecDepth 100000 in
set_option maxHeartbeats 1000000 in
theorem lead_6 (b : Nat) (w : World) (hc : 238 ≤ b ∧ b ≤ 239) :
    Calls Tryd.prog 55 #[.int .u8 (b : Int)] w fun e w' => e = .returned (.tuple #[.int .i64 2, .int .u8 128, .int .u8 191]) ∧ w = w' := by
  obtain ⟨hc1, hc2⟩ := hc
  have g224 : ((b : Int) == 224) = false := by rw [beq_eq_false_iff_ne]; omega
  have g237 : ((b : Int) == 237) = false := by rw [beq_eq_false_iff_ne]; omega
  have g240 : ((b : Int) == 240) = false := by rw [beq_eq_false_iff_ne]; omega
  have g244 : ((b : Int) == 244) = false := by rw [beq_eq_false_iff_ne]; omega
  go_enter Tryd.func55, Tryd.ntmps55
  go_wp2
  go_ret3
  exact ⟨rfl, rfl⟩
set_option maxRecDepth 100000 in
set_option maxHeartbeats 1000000 in
theorem lead_7 (w : World) :
    Calls Tryd.prog 55 #[.int .u8 240] w fun e w' => e = .returned (.tuple #[.int .i64 3, .int .u8 144, .int .u8 191]) ∧ w = w' := by
  go_enter Tryd.func55, Tryd.ntmps55
  go_wp2
  go_ret3
  exact ⟨rfl, rfl⟩
set_option maxRecDepth 100000 in
set_option maxHeartbeats 1000000 in
theorem lead_8 (b : Nat) (w : World) (hc : 241 ≤ b ∧ b ≤ 243) :
    Calls Tryd.prog 55 #[.int .u8 (b : Int)] w fun e w' => e = .returned (.tuple #[.int .i64 3, .int .u8 128, .int .u8 191]) ∧ w = w' := by
  obtain ⟨hc1, hc2⟩ := hc
  have g224 : ((b : Int) == 224) = false := by rw [beq_eq_false_iff_ne]; omega
  have g237 : ((b : Int) == 237) = false := by rw [beq_eq_false_iff_ne]; omega
  have g240 : ((b : Int) == 240) = false := by rw [beq_eq_false_iff_ne]; omega
  have g244 : ((b : Int) == 244) = false := by rw [beq_eq_false_iff_ne]; omega
  go_enter Tryd.func55, Tryd.ntmps55
  go_wp2
  go_ret3
  exact ⟨rfl, rfl⟩
set_option maxRecDepth 100000 in
set_option maxHeartbeats 1000000 in
theorem lead_9 (w : World) :
    Calls Tryd.prog 55 #[.int .u8 244] w fun e w' => e = .returned (.tuple #[.int .i64 3, .int .u8 128, .int .u8 143]) ∧ w = w' := by
  go_enter Tryd.func55, Tryd.ntmps55
  go_wp2
  go_ret3
  exact ⟨rfl, rfl⟩
set_option maxRecDepth 100000 in
set_option maxHeartbeats 1000000 in
theorem lead_10 (b : Nat) (w : World) (hc : 245 ≤ b ∧ b < 256) :
    Calls Tryd.prog 55 #[.int .u8 (b : Int)] w fun e w' => e = .returned (.tuple #[.int .i64 (-1), .int .u8 128, .int .u8 191]) ∧ w = w' := by
  obtain ⟨hc1, hc2⟩ := hc
  have g224 : ((b : Int) == 224) = false := by rw [beq_eq_false_iff_ne]; omega
  have g237 : ((b : Int) == 237) = false := by rw [beq_eq_false_iff_ne]; omega
  have g240 : ((b : Int) == 240) = false := by rw [beq_eq_false_iff_ne]; omega
  have g244 : ((b : Int) == 244) = false := by rw [beq_eq_false_iff_ne]; omega
  go_enter Tryd.func55, Tryd.ntmps55
  go_wp2
  go_ret3
  exact ⟨rfl, rfl⟩
theorem lead_any (b : Nat) (hb : b < 256) (w : World) :
    Calls Tryd.prog 55 #[.int .u8 (b : Int)] w fun e w' => e = .returned (.tuple #[.int .i64 (leadF b).more, .int .u8 (leadF b).low, .int .u8 (leadF b).high]) ∧ w = w' := by
  by_cases c0 : b < 128
  · have e : leadF b = ⟨0, 128, 191⟩ := by
      unfold leadF
      (repeat' split) <;> first | rfl | omega
    rw [e]
    exact lead_0 b w c0
  by_cases c1 : 128 ≤ b ∧ b < 194
  · have e : leadF b = ⟨(-1), 128, 191⟩ := by
      unfold leadF
      (repeat' split) <;> first | rfl | omega
    rw [e]
    exact lead_1 b w c1
  by_cases c2 : 194 ≤ b ∧ b ≤ 223
  · have e : leadF b = ⟨1, 128, 191⟩ := by
      unfold leadF
      (repeat' split) <;> first | rfl | omega
    rw [e]
    exact lead_2 b w c2
  by_cases c3 : b = 224
  · have e : leadF b = ⟨2, 160, 191⟩ := by
      unfold leadF
      (repeat' split) <;> first | rfl | omega
    rw [e]
    subst c3; exact lead_3 w
  by_cases c4 : 225 ≤ b ∧ b ≤ 236
  · have e : leadF b = ⟨2, 128, 191⟩ := by
      unfold leadF
      (repeat' split) <;> first | rfl | omega
    rw [e]
    exact lead_4 b w c4
  by_cases c5 : b = 237
  · have e : leadF b = ⟨2, 128, 159⟩ := by
      unfold leadF
      (repeat' split) <;> first | rfl | omega
    rw [e]
    subst c5; exact lead_5 w
  by_cases c6 : 238 ≤ b ∧ b ≤ 239
  · have e : leadF b = ⟨2, 128, 191⟩ := by
      unfold leadF
      (repeat' split) <;> first | rfl | omega
    rw [e]
    exact lead_6 b w c6
  by_cases c7 : b = 240
  · have e : leadF b = ⟨3, 144, 191⟩ := by
      unfold leadF
      (repeat' split) <;> first | rfl | omega
    rw [e]
    subst c7; exact lead_7 w
  by_cases c8 : 241 ≤ b ∧ b ≤ 243
  · have e : leadF b = ⟨3, 128, 191⟩ := by
      unfold leadF
      (repeat' split) <;> first | rfl | omega
    rw [e]
    exact lead_8 b w c8
  by_cases c9 : b = 244
  · have e : leadF b = ⟨3, 128, 143⟩ := by
      unfold leadF
      (repeat' split) <;> first | rfl | omega
    rw [e]
    subst c9; exact lead_9 w
  by_cases c10 : 245 ≤ b ∧ b < 256
  · have e : leadF b = ⟨(-1), 128, 191⟩ := by
      unfold leadF
      (repeat' split) <;> first | rfl | omega
    rw [e]
    exact lead_10 b w c10
  omega

/-- What stands behind a lead byte: so many more; the bounds of the next one; what is read; how many bytes were. -/
def contF : Nat → Nat → Nat → Int → List UInt8 → Nat → Int × Nat
  | 0, _, _, n, _, i => (n, i)
  | _ + 1, _, _, _, [], i => (65533, i)
  | r + 1, low, high, n, c :: t, i => if c.toNat < low ∨ high < c.toNat then (65533, i) else contF r 128 191 (n * 64 + (c.toNat : Int) % 64) t (i + 1)
/-- One sign at the head of a text, and how many bytes it is. -/
def oneF : List UInt8 → Int × Nat
  | [] => (65533, 1)
  | c :: t => if (leadF c.toNat).more < 0 then (65533, 1) else if (leadF c.toNat).more = 0 then ((c.toNat : Int), 1)
      else contF (leadF c.toNat).more.toNat (leadF c.toNat).low (leadF c.toNat).high ((c.toNat : Int) % (2 : Int) ^ (6 - (leadF c.toNat).more.toNat)) t 1
theorem contF_le : ∀ (r low high : Nat) (n : Int) (l : List UInt8) (i : Nat), i ≤ (contF r low high n l i).2 ∧ (contF r low high n l i).2 ≤ i + l.length
  | 0, _, _, _, l, i => ⟨Nat.le_refl _, Nat.le_add_right _ _⟩
  | _ + 1, _, _, _, [], i => ⟨Nat.le_refl _, Nat.le_add_right _ _⟩
  | r + 1, low, high, n, c :: t, i => by
    have := contF_le r 128 191 (n * 64 + (c.toNat : Int) % 64) t (i + 1)
    simp only [contF, List.length_cons]
    split
    · dsimp only; omega
    · omega
theorem oneF_le (l : List UInt8) (h : l ≠ []) : 1 ≤ (oneF l).2 ∧ (oneF l).2 ≤ l.length := by
  cases l with
  | nil => exact absurd rfl h
  | cons c t =>
    simp only [oneF, List.length_cons]
    split
    · dsimp only; omega
    · split
      · dsimp only; omega
      · have := contF_le (leadF c.toNat).more.toNat (leadF c.toNat).low (leadF c.toNat).high ((c.toNat : Int) % (2 : Int) ^ (6 - (leadF c.toNat).more.toNat)) t 1
        omega
theorem len_data (s : ByteArray) : s.data.toList.length = s.size := by rw [Array.length_toList]; rfl
theorem drop_at (s : ByteArray) (k : Nat) (h : k < s.size) : s.data.toList.drop k = s[k] :: s.data.toList.drop (k + 1) := by
  have e := len_data s
  rw [List.drop_eq_getElem_cons (by omega)]
  rfl
theorem drop_end (s : ByteArray) (k : Nat) (h : s.size ≤ k) : s.data.toList.drop k = [] := by
  have e := len_data s
  exact List.drop_eq_nil_iff.2 (by omega)
theorem and31 (x : Int) (h0 : 0 ≤ x) (h1 : x < 256) : Go.bits .and .i32 x 31 = x % 32 := bits_mask .i32 31 (by decide) wraps_i32 5 (by decide) x h0 (by omega)
theorem and15 (x : Int) (h0 : 0 ≤ x) (h1 : x < 256) : Go.bits .and .i32 x 15 = x % 16 := bits_mask .i32 31 (by decide) wraps_i32 4 (by decide) x h0 (by omega)
theorem and7 (x : Int) (h0 : 0 ≤ x) (h1 : x < 256) : Go.bits .and .i32 x 7 = x % 8 := bits_mask .i32 31 (by decide) wraps_i32 3 (by decide) x h0 (by omega)
theorem ret_two {a a' b b' : Int} (h1 : a = a') (h2 : b = b') : Ending.returned (.tuple #[.int .i32 a, .int .i64 b]) = .returned (.tuple #[.int .i32 a', .int .i64 b']) := by rw [h1, h2]

set_option maxRecDepth 100000 in
set_option maxHeartbeats 2000000 in
theorem one_any (s : ByteArray) (w : World) (h1 : 0 < s.size) (hs : s.size ≤ 140737488351232) :
    Calls Tryd.prog 38 #[.string s] w fun e w' => e = .returned (.tuple #[.int .i32 (oneF s.data.toList).1, .int .i64 (oneF s.data.toList).2]) ∧ Drawn0 w w' := by
  have hb := s[0].toNat_lt
  have hd : s.data.toList = s[0] :: s.data.toList.drop 1 := drop_at s 0 h1
  obtain ⟨k1, k2, k3, k4⟩ := lead_ok s[0].toNat
  have HF : Hid (oneF s.data.toList = _) := Lib.hid (congrArg oneF hd)
  clear hd
  by_cases hneg : (leadF s[0].toNat).more < 0
  · have HR : Hid (oneF s.data.toList = (65533, 1)) := Lib.hid (by rw [HF.out]; simp only [oneF]; rw [if_pos hneg])
    clear HF
    go_enter Tryd.func38, Tryd.ntmps38
    go_wp2_with fail
    refine (lead_any _ hb _).mono ?_
    rintro e w' ⟨rfl, rfl⟩
    go_wp2_with fail
    go_ret2
    exact ⟨ret_two (by rw [HR.out]) (by rw [HR.out]; rfl), Drawn0.refl _⟩
  · by_cases hz : (leadF s[0].toNat).more = 0
    · have HR : Hid (oneF s.data.toList = ((s[0].toNat : Int), 1)) := Lib.hid (by rw [HF.out]; simp only [oneF]; rw [if_neg hneg, if_pos hz])
      clear HF
      have HZ := Lib.hid hz
      clear hz
      go_enter Tryd.func38, Tryd.ntmps38
      go_wp2_with fail
      refine (lead_any _ hb _).mono ?_
      rintro e w' ⟨rfl, rfl⟩
      rw [HZ.out]
      go_wp2_with fail
      go_ret2
      exact ⟨ret_two (by rw [HR.out]) (by rw [HR.out]; rfl), Drawn0.refl _⟩
    · have HR : Hid (oneF s.data.toList = contF (leadF s[0].toNat).more.toNat (leadF s[0].toNat).low (leadF s[0].toNat).high ((s[0].toNat : Int) % (2 : Int) ^ (6 - (leadF s[0].toNat).more.toNat)) (s.data.toList.drop 1) 1) := Lib.hid (by rw [HF.out]; simp only [oneF]; rw [if_neg hneg, if_neg hz])
      clear HF
      obtain ⟨M, hM⟩ : ∃ M : Nat, (leadF s[0].toNat).more = M := ⟨(leadF s[0].toNat).more.toNat, by omega⟩
      have hM3 : M = 1 ∨ M = 2 ∨ M = 3 := by omega
      have HLEAD := Lib.hid (lead_any s[0].toNat hb)
      rw [hM] at HR HLEAD
      rw [Int.toNat_natCast] at HR
      clear hneg hz hM k1 k2
      generalize (leadF s[0].toNat).low = L at *
      generalize (leadF s[0].toNat).high = H at *
      rcases hM3 with rfl | rfl | rfl
      · have hand := and31 (s[0].toNat : Int) (by omega) (by omega)
        have hr2 : Hid (oneF s.data.toList = contF 1 L H ((s[0].toNat : Int) % 32) (s.data.toList.drop 1) 1) := Lib.hid (by rw [HR.out]; rfl)
        clear HR
        go_enter Tryd.func38, Tryd.ntmps38
        go_wp2_with fail
        refine (HLEAD.out _).mono ?_
        rintro e w' ⟨rfl, rfl⟩
        go_wp2_with fail
        go_quiet (fail)
        go_wp2_with fail
        go_loop [5, 6, 7, 8] (fun lo hi n i => ∃ (k l h : Nat) (x : Int), lo = .int .u8 l ∧ hi = .int .u8 h ∧ n = .int .i32 x ∧ i = .int .i64 k ∧ 1 ≤ k ∧ k ≤ 1 + 1 ∧ k ≤ s.size ∧ l ≤ 191 ∧ h ≤ 191 ∧ 0 ≤ x ∧ (x < 32 ∨ (2 ≤ k ∧ x < 2048) ∨ (3 ≤ k ∧ x < 131072) ∨ (4 ≤ k ∧ x < 8388608)) ∧ Hid (contF 1 L H ((s[0].toNat : Int) % 32) (s.data.toList.drop 1) 1 = contF (1 + 1 - k) l h x (s.data.toList.drop k) k))
          (fun _ _ _ i => 1 + 1 - (intOf i).toNat)
        case atStart => exact ⟨1, L, H, (s[0].toNat : Int) % 32, rfl, rfl, rfl, rfl, by omega, by omega, by omega, k3, k4, by omega, by omega, Lib.hid rfl⟩
        case round =>
          obtain ⟨k, l, h, x, rfl, rfl, rfl, rfl, hk1, hk2, hk3, hl, hh, hx0, hx1, HK⟩ := hrel
          by_cases hgo : k ≤ 1
          · by_cases hend : k = s.size
            · have HE : Hid (oneF s.data.toList = (65533, k)) := Lib.hid (by rw [hr2.out, HK.out, drop_end s k (by omega), show 1 + 1 - k = (1 - k) + 1 by omega]; rfl)
              have g : ((k : Int) == (s.size : Int)) = true := by rw [beq_iff_eq]; omega
              clear hend HK
              go_wp2_with fail
              go_ret2
              exact ⟨ret_two (by rw [HE.out]) (by rw [HE.out]), Drawn0.step (Drawn0.refl _) _⟩
            · have hlt : k < s.size := by omega
              have g : ((k : Int) == (s.size : Int)) = false := by rw [beq_eq_false_iff_ne]; omega
              have hc := s[k].toNat_lt
              have HS : Hid (contF (1 + 1 - k) l h x (s.data.toList.drop k) k = if s[k].toNat < l ∨ h < s[k].toNat then (65533, k) else contF (1 + 1 - (k + 1)) 128 191 (x * 64 + (s[k].toNat : Int) % 64) (s.data.toList.drop (k + 1)) (k + 1)) := Lib.hid (by rw [drop_at s k hlt, show 1 + 1 - k = (1 + 1 - (k + 1)) + 1 by omega]; rfl)
              clear hend
              by_cases hlo : s[k].toNat < l
              · have HE : Hid (oneF s.data.toList = (65533, k)) := Lib.hid (by rw [hr2.out, HK.out, HS.out, if_pos (.inl hlo)])
                clear HS HK
                go_wp2_with fail
                go_ret2
                exact ⟨ret_two (by rw [HE.out]) (by rw [HE.out]), Drawn0.step (Drawn0.refl _) _⟩
              · by_cases hhi : h < s[k].toNat
                · have HE : Hid (oneF s.data.toList = (65533, k)) := Lib.hid (by rw [hr2.out, HK.out, HS.out, if_pos (.inr hhi)])
                  clear HS HK
                  go_wp2_with fail
                  go_ret2
                  exact ⟨ret_two (by rw [HE.out]) (by rw [HE.out]), Drawn0.step (Drawn0.refl _) _⟩
                · have HE : Hid (contF 1 L H ((s[0].toNat : Int) % 32) (s.data.toList.drop 1) 1 = contF (1 + 1 - (k + 1)) 128 191 (x * 64 + (s[k].toNat : Int) % 64) (s.data.toList.drop (k + 1)) (k + 1)) := Lib.hid (by rw [HK.out, HS.out, if_neg (by omega)])
                  have ha := u8_and63 (x := (s[k].toNat : Int)) (by omega) (by omega)
                  have ho := i32_or6 (x := x * 64) (y := (s[k].toNat : Int) % 64) (by omega) (by omega) (by omega) (by omega) (by omega)
                  clear HS HK
                  go_wp2_with fail
                  go_round
                  case rel => exact ⟨k + 1, 128, 191, x * 64 + (s[k].toNat : Int) % 64, rfl, rfl, rfl, by go_num, by omega, by omega, by omega, by omega, by omega, by omega, by omega, HE⟩
                  case measure => simp [intOf]; omega
          · obtain rfl : k = 1 + 1 := by omega
            have HE : Hid (oneF s.data.toList = (x, 1 + 1)) := Lib.hid (by rw [hr2.out, HK.out]; rfl)
            clear HK
            go_wp2_with fail
            go_ret2
            exact ⟨ret_two (by rw [HE.out]) (by rw [HE.out]; rfl), Drawn0.step (Drawn0.refl _) _⟩
      · have hand := and15 (s[0].toNat : Int) (by omega) (by omega)
        have hr2 : Hid (oneF s.data.toList = contF 2 L H ((s[0].toNat : Int) % 16) (s.data.toList.drop 1) 1) := Lib.hid (by rw [HR.out]; rfl)
        clear HR
        go_enter Tryd.func38, Tryd.ntmps38
        go_wp2_with fail
        refine (HLEAD.out _).mono ?_
        rintro e w' ⟨rfl, rfl⟩
        go_wp2_with fail
        go_quiet (fail)
        go_wp2_with fail
        go_loop [5, 6, 7, 8] (fun lo hi n i => ∃ (k l h : Nat) (x : Int), lo = .int .u8 l ∧ hi = .int .u8 h ∧ n = .int .i32 x ∧ i = .int .i64 k ∧ 1 ≤ k ∧ k ≤ 2 + 1 ∧ k ≤ s.size ∧ l ≤ 191 ∧ h ≤ 191 ∧ 0 ≤ x ∧ (x < 32 ∨ (2 ≤ k ∧ x < 2048) ∨ (3 ≤ k ∧ x < 131072) ∨ (4 ≤ k ∧ x < 8388608)) ∧ Hid (contF 2 L H ((s[0].toNat : Int) % 16) (s.data.toList.drop 1) 1 = contF (2 + 1 - k) l h x (s.data.toList.drop k) k))
          (fun _ _ _ i => 2 + 1 - (intOf i).toNat)
        case atStart => exact ⟨1, L, H, (s[0].toNat : Int) % 16, rfl, rfl, rfl, rfl, by omega, by omega, by omega, k3, k4, by omega, by omega, Lib.hid rfl⟩
        case round =>
          obtain ⟨k, l, h, x, rfl, rfl, rfl, rfl, hk1, hk2, hk3, hl, hh, hx0, hx1, HK⟩ := hrel
          by_cases hgo : k ≤ 2
          · by_cases hend : k = s.size
            · have HE : Hid (oneF s.data.toList = (65533, k)) := Lib.hid (by rw [hr2.out, HK.out, drop_end s k (by omega), show 2 + 1 - k = (2 - k) + 1 by omega]; rfl)
              have g : ((k : Int) == (s.size : Int)) = true := by rw [beq_iff_eq]; omega
              clear hend HK
              go_wp2_with fail
              go_ret2
              exact ⟨ret_two (by rw [HE.out]) (by rw [HE.out]), Drawn0.step (Drawn0.refl _) _⟩
            · have hlt : k < s.size := by omega
              have g : ((k : Int) == (s.size : Int)) = false := by rw [beq_eq_false_iff_ne]; omega
              have hc := s[k].toNat_lt
              have HS : Hid (contF (2 + 1 - k) l h x (s.data.toList.drop k) k = if s[k].toNat < l ∨ h < s[k].toNat then (65533, k) else contF (2 + 1 - (k + 1)) 128 191 (x * 64 + (s[k].toNat : Int) % 64) (s.data.toList.drop (k + 1)) (k + 1)) := Lib.hid (by rw [drop_at s k hlt, show 2 + 1 - k = (2 + 1 - (k + 1)) + 1 by omega]; rfl)
              clear hend
              by_cases hlo : s[k].toNat < l
              · have HE : Hid (oneF s.data.toList = (65533, k)) := Lib.hid (by rw [hr2.out, HK.out, HS.out, if_pos (.inl hlo)])
                clear HS HK
                go_wp2_with fail
                go_ret2
                exact ⟨ret_two (by rw [HE.out]) (by rw [HE.out]), Drawn0.step (Drawn0.refl _) _⟩
              · by_cases hhi : h < s[k].toNat
                · have HE : Hid (oneF s.data.toList = (65533, k)) := Lib.hid (by rw [hr2.out, HK.out, HS.out, if_pos (.inr hhi)])
                  clear HS HK
                  go_wp2_with fail
                  go_ret2
                  exact ⟨ret_two (by rw [HE.out]) (by rw [HE.out]), Drawn0.step (Drawn0.refl _) _⟩
                · have HE : Hid (contF 2 L H ((s[0].toNat : Int) % 16) (s.data.toList.drop 1) 1 = contF (2 + 1 - (k + 1)) 128 191 (x * 64 + (s[k].toNat : Int) % 64) (s.data.toList.drop (k + 1)) (k + 1)) := Lib.hid (by rw [HK.out, HS.out, if_neg (by omega)])
                  have ha := u8_and63 (x := (s[k].toNat : Int)) (by omega) (by omega)
                  have ho := i32_or6 (x := x * 64) (y := (s[k].toNat : Int) % 64) (by omega) (by omega) (by omega) (by omega) (by omega)
                  clear HS HK
                  go_wp2_with fail
                  go_round
                  case rel => exact ⟨k + 1, 128, 191, x * 64 + (s[k].toNat : Int) % 64, rfl, rfl, rfl, by go_num, by omega, by omega, by omega, by omega, by omega, by omega, by omega, HE⟩
                  case measure => simp [intOf]; omega
          · obtain rfl : k = 2 + 1 := by omega
            have HE : Hid (oneF s.data.toList = (x, 2 + 1)) := Lib.hid (by rw [hr2.out, HK.out]; rfl)
            clear HK
            go_wp2_with fail
            go_ret2
            exact ⟨ret_two (by rw [HE.out]) (by rw [HE.out]; rfl), Drawn0.step (Drawn0.refl _) _⟩
      · have hand := and7 (s[0].toNat : Int) (by omega) (by omega)
        have hr2 : Hid (oneF s.data.toList = contF 3 L H ((s[0].toNat : Int) % 8) (s.data.toList.drop 1) 1) := Lib.hid (by rw [HR.out]; rfl)
        clear HR
        go_enter Tryd.func38, Tryd.ntmps38
        go_wp2_with fail
        refine (HLEAD.out _).mono ?_
        rintro e w' ⟨rfl, rfl⟩
        go_wp2_with fail
        go_quiet (fail)
        go_wp2_with fail
        go_loop [5, 6, 7, 8] (fun lo hi n i => ∃ (k l h : Nat) (x : Int), lo = .int .u8 l ∧ hi = .int .u8 h ∧ n = .int .i32 x ∧ i = .int .i64 k ∧ 1 ≤ k ∧ k ≤ 3 + 1 ∧ k ≤ s.size ∧ l ≤ 191 ∧ h ≤ 191 ∧ 0 ≤ x ∧ (x < 32 ∨ (2 ≤ k ∧ x < 2048) ∨ (3 ≤ k ∧ x < 131072) ∨ (4 ≤ k ∧ x < 8388608)) ∧ Hid (contF 3 L H ((s[0].toNat : Int) % 8) (s.data.toList.drop 1) 1 = contF (3 + 1 - k) l h x (s.data.toList.drop k) k))
          (fun _ _ _ i => 3 + 1 - (intOf i).toNat)
        case atStart => exact ⟨1, L, H, (s[0].toNat : Int) % 8, rfl, rfl, rfl, rfl, by omega, by omega, by omega, k3, k4, by omega, by omega, Lib.hid rfl⟩
        case round =>
          obtain ⟨k, l, h, x, rfl, rfl, rfl, rfl, hk1, hk2, hk3, hl, hh, hx0, hx1, HK⟩ := hrel
          by_cases hgo : k ≤ 3
          · by_cases hend : k = s.size
            · have HE : Hid (oneF s.data.toList = (65533, k)) := Lib.hid (by rw [hr2.out, HK.out, drop_end s k (by omega), show 3 + 1 - k = (3 - k) + 1 by omega]; rfl)
              have g : ((k : Int) == (s.size : Int)) = true := by rw [beq_iff_eq]; omega
              clear hend HK
              go_wp2_with fail
              go_ret2
              exact ⟨ret_two (by rw [HE.out]) (by rw [HE.out]), Drawn0.step (Drawn0.refl _) _⟩
            · have hlt : k < s.size := by omega
              have g : ((k : Int) == (s.size : Int)) = false := by rw [beq_eq_false_iff_ne]; omega
              have hc := s[k].toNat_lt
              have HS : Hid (contF (3 + 1 - k) l h x (s.data.toList.drop k) k = if s[k].toNat < l ∨ h < s[k].toNat then (65533, k) else contF (3 + 1 - (k + 1)) 128 191 (x * 64 + (s[k].toNat : Int) % 64) (s.data.toList.drop (k + 1)) (k + 1)) := Lib.hid (by rw [drop_at s k hlt, show 3 + 1 - k = (3 + 1 - (k + 1)) + 1 by omega]; rfl)
              clear hend
              by_cases hlo : s[k].toNat < l
              · have HE : Hid (oneF s.data.toList = (65533, k)) := Lib.hid (by rw [hr2.out, HK.out, HS.out, if_pos (.inl hlo)])
                clear HS HK
                go_wp2_with fail
                go_ret2
                exact ⟨ret_two (by rw [HE.out]) (by rw [HE.out]), Drawn0.step (Drawn0.refl _) _⟩
              · by_cases hhi : h < s[k].toNat
                · have HE : Hid (oneF s.data.toList = (65533, k)) := Lib.hid (by rw [hr2.out, HK.out, HS.out, if_pos (.inr hhi)])
                  clear HS HK
                  go_wp2_with fail
                  go_ret2
                  exact ⟨ret_two (by rw [HE.out]) (by rw [HE.out]), Drawn0.step (Drawn0.refl _) _⟩
                · have HE : Hid (contF 3 L H ((s[0].toNat : Int) % 8) (s.data.toList.drop 1) 1 = contF (3 + 1 - (k + 1)) 128 191 (x * 64 + (s[k].toNat : Int) % 64) (s.data.toList.drop (k + 1)) (k + 1)) := Lib.hid (by rw [HK.out, HS.out, if_neg (by omega)])
                  have ha := u8_and63 (x := (s[k].toNat : Int)) (by omega) (by omega)
                  have ho := i32_or6 (x := x * 64) (y := (s[k].toNat : Int) % 64) (by omega) (by omega) (by omega) (by omega) (by omega)
                  clear HS HK
                  go_wp2_with fail
                  go_round
                  case rel => exact ⟨k + 1, 128, 191, x * 64 + (s[k].toNat : Int) % 64, rfl, rfl, rfl, by go_num, by omega, by omega, by omega, by omega, by omega, by omega, by omega, HE⟩
                  case measure => simp [intOf]; omega
          · obtain rfl : k = 3 + 1 := by omega
            have HE : Hid (oneF s.data.toList = (x, 3 + 1)) := Lib.hid (by rw [hr2.out, HK.out]; rfl)
            clear HK
            go_wp2_with fail
            go_ret2
            exact ⟨ret_two (by rw [HE.out]) (by rw [HE.out]; rfl), Drawn0.step (Drawn0.refl _) _⟩
end Go.Proofs.YtjhamomdlpoilabDoor.Chars
