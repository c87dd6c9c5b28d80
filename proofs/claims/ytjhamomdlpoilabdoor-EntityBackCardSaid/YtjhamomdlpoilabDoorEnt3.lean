/- Package entity: number. -/
import Derived.Test.YtjhamomdlpoilabDoorEnt2
namespace Go.Proofs.YtjhamomdlpoilabDoor.Ent
open Go.RowKit Go.Proofs.YtjhamomdlpoilabDoorW.PrintWords Go.Proofs.YtjhamomdlpoilabDoor.Chars

/-- The digits at the head of a text: their number, and how many they are. -/
def numL (base : Int) : List UInt8 → Int → Int × Nat
  | [], v => (v, 0)
  | c :: r, v => if 0 ≤ digF c base then ((numL base r (min (base * v + digF c base) 2097152)).1, (numL base r (min (base * v + digF c base) 2097152)).2 + 1) else (v, 0)
theorem numL_le (base : Int) : ∀ (l : List UInt8) (v : Int), (numL base l v).2 ≤ l.length
  | [], v => Nat.le_refl _
  | c :: r, v => by
    have := numL_le base r (min (base * v + digF c base) 2097152)
    simp only [numL, List.length_cons]
    split
    · dsimp only; omega
    · omega
theorem numL_val (base : Int) (hb : 0 ≤ base) : ∀ (l : List UInt8) (v : Int), 0 ≤ v → v ≤ 2097152 → 0 ≤ (numL base l v).1 ∧ (numL base l v).1 ≤ 2097152
  | [], v, h0, h1 => ⟨h0, h1⟩
  | c :: r, v, h0, h1 => by
    simp only [numL]
    split
    · rename_i h
      have := Int.mul_nonneg hb h0
      exact numL_val base hb r _ (by omega) (by omega)
    · exact ⟨h0, h1⟩
/-- Is it told by sixteens? -/
def xB (s : ByteArray) : Bool := match s.data.toList[2]? with
  | some c => decide ((c ||| 32).toNat = 120)
  | none => false
def numberF (s : ByteArray) : List UInt8 × Nat :=
  let base : Int := if xB s then 16 else 10
  let at0 : Nat := if xB s then 3 else 2
  let p := numL base (s.data.toList.drop at0) 0
  if p.2 = 0 then ([], 0) else (signF p.1, semF s (at0 + p.2))
theorem drop_at (s : ByteArray) (k : Nat) (h : k < s.size) : s.data.toList.drop k = s[k] :: s.data.toList.drop (k + 1) := by
  have e : s.data.toList.length = s.size := by rw [Array.length_toList]; rfl
  rw [List.drop_eq_getElem_cons (by omega)]
  rfl
theorem drop_end (s : ByteArray) (k : Nat) (h : s.size ≤ k) : s.data.toList.drop k = [] := by
  have e : s.data.toList.length = s.size := by rw [Array.length_toList]; rfl
  exact List.drop_eq_nil_iff.2 (by omega)
theorem ret_two {l1 l2 : List UInt8} {a b : Int} (h1 : l1 = l2) (h2 : a = b) : Ending.returned (.tuple #[.string ⟨l1.toArray⟩, .int .i64 a]) = .returned (.tuple #[.string ⟨l2.toArray⟩, .int .i64 b]) := by rw [h1, h2]

set_option maxHeartbeats 2000000 in
theorem number_x (s : ByteArray) (w : World) (h2 : 2 ≤ s.size) (hs : s.size ≤ 1000000) (hx : xB s = true) :
    Calls Tryd.prog 62 #[.string s] w fun e w' => e = .returned (.tuple #[.string ⟨(numberF s).1.toArray⟩, .int .i64 (numberF s).2]) ∧ Below w.heap.size w w' := by
  have hn : numberF s = (if (numL 16 (s.data.toList.drop 3) 0).2 = 0 then ([], 0) else (signF (numL 16 (s.data.toList.drop 3) 0).1, semF s (3 + (numL 16 (s.data.toList.drop 3) 0).2))) := by
    unfold numberF; rw [hx]; rfl
  have HN := Lib.hid hn
  clear hn
  obtain ⟨h3, hc⟩ : ∃ h3 : 2 < s.size, (s[2] ||| 32).toNat = 120 := by
    have h3 : 2 < s.size := by
      by_cases h : 2 < s.size
      · exact h
      · have e0 : s.data.toList.length = s.size := by rw [Array.length_toList]; rfl
        have : s.data.toList[2]? = none := List.getElem?_eq_none (by omega)
        rw [xB, this] at hx
        exact absurd hx (by simp)
    refine ⟨h3, ?_⟩
    have := Lib.data_getElem? s 2 h3
    rw [xB, this] at hx
    simpa using hx
  have ho := or32 s[2]
  rw [hc] at ho
  clear hc hx
  have e0 : s.data.toList.length = s.size := by rw [Array.length_toList]; rfl
  have E0 := Lib.hid e0
  clear e0
  go_enter Tryd.func62, Tryd.ntmps62
  go_wp2_with fail
  go_loopw [5, 6] (fun at_ v wr => ∃ (k : Nat) (x : Int), 3 ≤ k ∧ k ≤ s.size ∧ at_ = .int .i64 k ∧ v = .int .i64 x ∧ 0 ≤ x ∧ x ≤ 2097152 ∧ wr = w ∧ Hid ((numL 16 (s.data.toList.drop 3) 0) = ((numL 16 (s.data.toList.drop k) x).1, (numL 16 (s.data.toList.drop k) x).2 + (k - 3))))
    (fun at_ _ _ => s.size - (intOf at_).toNat)
  case atStart => exact ⟨3, 0, by omega, by omega, rfl, rfl, by omega, by omega, rfl, Lib.hid (by simp)⟩
  case round =>
    obtain ⟨k, x, hk1, hk2, rfl, rfl, hx0, hx1, rfl, HR⟩ := hrel
    by_cases hlt : k < s.size
    · have HD := Lib.hid (drop_at s k hlt)
      have hdl := digF_le s[k] 16
      by_cases hd : 0 ≤ digF s[k] 16
      · have HS : Hid (numL 16 (s.data.toList.drop k) x = ((numL 16 (s.data.toList.drop (k + 1)) (min (16 * x + digF s[k] 16) 2097152)).1, (numL 16 (s.data.toList.drop (k + 1)) (min (16 * x + digF s[k] 16) 2097152)).2 + 1)) := Lib.hid (by rw [HD.out]; simp only [numL]; rw [if_pos hd])
        go_wp2_with fail
        refine (digit_any s[k] 16 _).mono ?_
        rintro e w' ⟨rfl, rfl⟩
        go_wp2_with fail
        refine (digit_any s[k] 16 _).mono ?_
        rintro e w' ⟨rfl, rfl⟩
        go_wp2_with fail
        go_roundw
        case rel => exact ⟨k + 1, min (16 * x + digF s[k] 16) 2097152, by omega, by omega, by go_num, by go_num, by omega, by omega, by first | rfl | trivial, Lib.hid (by rw [HR.out, HS.out]; simp only [Prod.mk.injEq, true_and]; omega)⟩
        case measure => simp [intOf]; omega
      · have HS : Hid (numL 16 (s.data.toList.drop k) x = (x, 0)) := Lib.hid (by rw [HD.out]; simp only [numL]; rw [if_neg hd])
        have HE : Hid (numL 16 (s.data.toList.drop 3) 0 = (x, k - 3)) := Lib.hid (by rw [HR.out, HS.out]; simp)
        clear HS HR
        by_cases hk : k = 3
        · have g : ((k : Int) == 3) = true := by rw [beq_iff_eq]; omega
          have HF : Hid (numberF s = ([], 0)) := Lib.hid (by rw [HN.out, HE.out, if_pos (by dsimp only; omega)])
          clear hk
          go_wp2_with fail
          refine (digit_any s[k] 16 _).mono ?_
          rintro e w' ⟨rfl, rfl⟩
          go_wp2_with fail
          go_ret2
          exact ⟨ret_two (by rw [HF.out]) (by rw [HF.out]; rfl), Below.refl _ _⟩
        · have g : ((k : Int) == 3) = false := by rw [beq_eq_false_iff_ne]; omega
          have HF : Hid (numberF s = (signF x, semF s k)) := Lib.hid (by rw [HN.out, HE.out, if_neg (by dsimp only; omega)]; dsimp only; rw [show 3 + (k - 3) = k by omega])
          clear hk
          go_wp2_with fail
          refine (digit_any s[k] 16 _).mono ?_
          rintro e w' ⟨rfl, rfl⟩
          go_wp2_with fail
          refine (sign_any x _ hx0 hx1).mono ?_
          rintro e w' ⟨rfl, hb⟩
          have HB := Lib.hid hb
          clear hb
          go_wp2_with fail
          refine (semicolon_any s k _ (by omega) (by omega)).mono ?_
          rintro e w'' ⟨rfl, rfl⟩
          go_wp2_with fail
          go_ret2
          exact ⟨ret_two (by rw [HF.out]) (by rw [HF.out]), HB.out⟩
    · obtain rfl : k = s.size := by omega
      have HS : Hid (numL 16 (s.data.toList.drop s.size) x = (x, 0)) := Lib.hid (by rw [drop_end s _ (Nat.le_refl _)]; rfl)
      have HE : Hid (numL 16 (s.data.toList.drop 3) 0 = (x, s.size - 3)) := Lib.hid (by rw [HR.out, HS.out]; simp)
      clear HS HR
      by_cases hk : s.size = 3
      · have g : ((s.size : Int) == 3) = true := by rw [beq_iff_eq]; omega
        have HF : Hid (numberF s = ([], 0)) := Lib.hid (by rw [HN.out, HE.out, if_pos (by dsimp only; omega)])
        clear hk
        go_wp2_with fail
        go_ret2
        exact ⟨ret_two (by rw [HF.out]) (by rw [HF.out]; rfl), Below.refl _ _⟩
      · have g : ((s.size : Int) == 3) = false := by rw [beq_eq_false_iff_ne]; omega
        have HF : Hid (numberF s = (signF x, semF s s.size)) := Lib.hid (by rw [HN.out, HE.out, if_neg (by dsimp only; omega)]; dsimp only; rw [show 3 + (s.size - 3) = s.size by omega])
        clear hk
        go_wp2_with fail
        refine (sign_any x _ hx0 hx1).mono ?_
        rintro e w' ⟨rfl, hb⟩
        have HB := Lib.hid hb
        clear hb
        go_wp2_with fail
        refine (semicolon_any s s.size _ (by omega) (by omega)).mono ?_
        rintro e w'' ⟨rfl, rfl⟩
        go_wp2_with fail
        go_ret2
        exact ⟨ret_two (by rw [HF.out]) (by rw [HF.out]), HB.out⟩

set_option maxHeartbeats 2000000 in
theorem number_d (s : ByteArray) (w : World) (h2 : 2 ≤ s.size) (hs : s.size ≤ 1000000) (hx : xB s = false) (h3 : 2 < s.size) :
    Calls Tryd.prog 62 #[.string s] w fun e w' => e = .returned (.tuple #[.string ⟨(numberF s).1.toArray⟩, .int .i64 (numberF s).2]) ∧ Below w.heap.size w w' := by
  have hn : numberF s = (if (numL 10 (s.data.toList.drop 2) 0).2 = 0 then ([], 0) else (signF (numL 10 (s.data.toList.drop 2) 0).1, semF s (2 + (numL 10 (s.data.toList.drop 2) 0).2))) := by
    unfold numberF; rw [hx]; rfl
  have HN := Lib.hid hn
  clear hn
  have hd3 : (s[2] ||| 32).toNat ≠ 120 := by
    have := Lib.data_getElem? s 2 h3
    rw [xB, this] at hx
    simpa using hx
  have ho : (Go.bits .or .u8 (s[2].toNat : Int) 32 == 120) = false := by rw [or32, beq_eq_false_iff_ne]; omega
  clear hx hd3
  have e0 : s.data.toList.length = s.size := by rw [Array.length_toList]; rfl
  have E0 := Lib.hid e0
  clear e0
  go_enter Tryd.func62, Tryd.ntmps62
  go_wp2_with fail
  go_loopw [5, 6] (fun at_ v wr => ∃ (k : Nat) (x : Int), 2 ≤ k ∧ k ≤ s.size ∧ at_ = .int .i64 k ∧ v = .int .i64 x ∧ 0 ≤ x ∧ x ≤ 2097152 ∧ wr = w ∧ Hid ((numL 10 (s.data.toList.drop 2) 0) = ((numL 10 (s.data.toList.drop k) x).1, (numL 10 (s.data.toList.drop k) x).2 + (k - 2))))
    (fun at_ _ _ => s.size - (intOf at_).toNat)
  case atStart => exact ⟨2, 0, by omega, by omega, rfl, rfl, by omega, by omega, rfl, Lib.hid (by simp)⟩
  case round =>
    obtain ⟨k, x, hk1, hk2, rfl, rfl, hx0, hx1, rfl, HR⟩ := hrel
    by_cases hlt : k < s.size
    · have HD := Lib.hid (drop_at s k hlt)
      have hdl := digF_le s[k] 10
      by_cases hd : 0 ≤ digF s[k] 10
      · have HS : Hid (numL 10 (s.data.toList.drop k) x = ((numL 10 (s.data.toList.drop (k + 1)) (min (10 * x + digF s[k] 10) 2097152)).1, (numL 10 (s.data.toList.drop (k + 1)) (min (10 * x + digF s[k] 10) 2097152)).2 + 1)) := Lib.hid (by rw [HD.out]; simp only [numL]; rw [if_pos hd])
        go_wp2_with fail
        refine (digit_any s[k] 10 _).mono ?_
        rintro e w' ⟨rfl, rfl⟩
        go_wp2_with fail
        refine (digit_any s[k] 10 _).mono ?_
        rintro e w' ⟨rfl, rfl⟩
        go_wp2_with fail
        go_roundw
        case rel => exact ⟨k + 1, min (10 * x + digF s[k] 10) 2097152, by omega, by omega, by go_num, by go_num, by omega, by omega, by first | rfl | trivial, Lib.hid (by rw [HR.out, HS.out]; simp only [Prod.mk.injEq, true_and]; omega)⟩
        case measure => simp [intOf]; omega
      · have HS : Hid (numL 10 (s.data.toList.drop k) x = (x, 0)) := Lib.hid (by rw [HD.out]; simp only [numL]; rw [if_neg hd])
        have HE : Hid (numL 10 (s.data.toList.drop 2) 0 = (x, k - 2)) := Lib.hid (by rw [HR.out, HS.out]; simp)
        clear HS HR
        by_cases hk : k = 2
        · have g : ((k : Int) == 2) = true := by rw [beq_iff_eq]; omega
          have HF : Hid (numberF s = ([], 0)) := Lib.hid (by rw [HN.out, HE.out, if_pos (by dsimp only; omega)])
          clear hk
          go_wp2_with fail
          refine (digit_any s[k] 10 _).mono ?_
          rintro e w' ⟨rfl, rfl⟩
          go_wp2_with fail
          go_ret2
          exact ⟨ret_two (by rw [HF.out]) (by rw [HF.out]; rfl), Below.refl _ _⟩
        · have g : ((k : Int) == 2) = false := by rw [beq_eq_false_iff_ne]; omega
          have HF : Hid (numberF s = (signF x, semF s k)) := Lib.hid (by rw [HN.out, HE.out, if_neg (by dsimp only; omega)]; dsimp only; rw [show 2 + (k - 2) = k by omega])
          clear hk
          go_wp2_with fail
          refine (digit_any s[k] 10 _).mono ?_
          rintro e w' ⟨rfl, rfl⟩
          go_wp2_with fail
          refine (sign_any x _ hx0 hx1).mono ?_
          rintro e w' ⟨rfl, hb⟩
          have HB := Lib.hid hb
          clear hb
          go_wp2_with fail
          refine (semicolon_any s k _ (by omega) (by omega)).mono ?_
          rintro e w'' ⟨rfl, rfl⟩
          go_wp2_with fail
          go_ret2
          exact ⟨ret_two (by rw [HF.out]) (by rw [HF.out]), HB.out⟩
    · obtain rfl : k = s.size := by omega
      have HS : Hid (numL 10 (s.data.toList.drop s.size) x = (x, 0)) := Lib.hid (by rw [drop_end s _ (Nat.le_refl _)]; rfl)
      have HE : Hid (numL 10 (s.data.toList.drop 2) 0 = (x, s.size - 2)) := Lib.hid (by rw [HR.out, HS.out]; simp)
      clear HS HR
      by_cases hk : s.size = 2
      · have g : ((s.size : Int) == 2) = true := by rw [beq_iff_eq]; omega
        have HF : Hid (numberF s = ([], 0)) := Lib.hid (by rw [HN.out, HE.out, if_pos (by dsimp only; omega)])
        clear hk
        go_wp2_with fail
        go_ret2
        exact ⟨ret_two (by rw [HF.out]) (by rw [HF.out]; rfl), Below.refl _ _⟩
      · have g : ((s.size : Int) == 2) = false := by rw [beq_eq_false_iff_ne]; omega
        have HF : Hid (numberF s = (signF x, semF s s.size)) := Lib.hid (by rw [HN.out, HE.out, if_neg (by dsimp only; omega)]; dsimp only; rw [show 2 + (s.size - 2) = s.size by omega])
        clear hk
        go_wp2_with fail
        refine (sign_any x _ hx0 hx1).mono ?_
        rintro e w' ⟨rfl, hb⟩
        have HB := Lib.hid hb
        clear hb
        go_wp2_with fail
        refine (semicolon_any s s.size _ (by omega) (by omega)).mono ?_
        rintro e w'' ⟨rfl, rfl⟩
        go_wp2_with fail
        go_ret2
        exact ⟨ret_two (by rw [HF.out]) (by rw [HF.out]), HB.out⟩

set_option maxHeartbeats 2000000 in
theorem number_e (s : ByteArray) (w : World) (h2 : 2 ≤ s.size) (hx : xB s = false) (h3 : ¬ 2 < s.size) :
    Calls Tryd.prog 62 #[.string s] w fun e w' => e = .returned (.tuple #[.string ⟨(numberF s).1.toArray⟩, .int .i64 (numberF s).2]) ∧ Below w.heap.size w w' := by
  have HF : Hid (numberF s = ([], 0)) := Lib.hid (by unfold numberF; rw [hx]; simp only [Bool.false_eq_true, if_false]; rw [drop_end s 2 (by omega)]; rfl)
  clear hx
  have h4 : s.size ≤ 2 := by omega
  clear h3
  go_enter Tryd.func62, Tryd.ntmps62
  go_wp2_with fail
  go_loopw [5, 6] (fun at_ v wr => at_ = .int .i64 2 ∧ v = .int .i64 0 ∧ wr = w) (fun at_ _ _ => s.size - (intOf at_).toNat)
  case atStart => exact ⟨rfl, rfl, rfl⟩
  case round =>
    obtain ⟨rfl, rfl, rfl⟩ := hrel
    go_wp2_with fail
    go_ret2
    exact ⟨ret_two (by rw [HF.out]) (by rw [HF.out]; rfl), Below.refl _ _⟩

theorem number_any (s : ByteArray) (w : World) (h2 : 2 ≤ s.size) (hs : s.size ≤ 1000000) :
    Calls Tryd.prog 62 #[.string s] w fun e w' => e = .returned (.tuple #[.string ⟨(numberF s).1.toArray⟩, .int .i64 (numberF s).2]) ∧ Below w.heap.size w w' := by
  cases hx : xB s with
  | true => exact number_x s w h2 hs hx
  | false =>
    by_cases h3 : 2 < s.size
    · exact number_d s w h2 hs hx h3
    · exact number_e s w h2 hx h3
end Go.Proofs.YtjhamomdlpoilabDoor.Ent
