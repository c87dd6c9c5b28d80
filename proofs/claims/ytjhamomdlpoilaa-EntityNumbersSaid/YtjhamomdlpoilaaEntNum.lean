/- What the law EntityNumbers does, call by call: for every number and every text it returns true, and makes memory alone. -/
import Derived.Test.YtjhamomdlpoilaaEntPlain
namespace Go.Proofs.Ytjhamomdlpoilaa.Ent
open Go.RowKit Go.Proofs.YtjhamomdlpoilaaW.PrintWords Go.Proofs.Ytjhamomdlpoilaa.Chars
set_option linter.unusedVariables false
set_option linter.unusedSimpArgs false

/-- The value of digits, behind what came before. -/
def valF (base : Int) : List UInt8 → Int → Int
  | [], v => v
  | c :: r, v => valF base r (base * v + digF c base)
def digsB (base : Int) (l : List UInt8) : Prop := ∀ c ∈ l, 0 ≤ digF c base
theorem numL_digs (base : Int) (hb : 1 ≤ base) (rest : List UInt8) (hr : ∀ c, rest[0]? = some c → digF c base < 0) : ∀ (l : List UInt8) (v : Int), 0 ≤ v → digsB base l →
    numL base (l ++ rest) (min v 2097152) = (min (valF base l v) 2097152, l.length)
  | [], v, h0, _ => by
    cases rest with
    | nil => rfl
    | cons c r =>
      have := hr c rfl
      simp only [List.nil_append, numL]
      rw [if_neg (by omega)]
      rfl
  | c :: r, v, h0, hd => by
    have hc := hd c (by simp)
    have hm := Int.mul_nonneg (show 0 ≤ base by omega) h0
    have ih := numL_digs base hb rest hr r (base * v + digF c base) (by omega) (fun x hx => hd x (List.mem_cons_of_mem _ hx))
    have e : min (base * min v 2097152 + digF c base) 2097152 = min (base * v + digF c base) 2097152 := by
      by_cases h : v ≤ 2097152
      · rw [show min v 2097152 = v by omega]
      · rw [show min v 2097152 = 2097152 by omega]
        have h1 : base * 2097152 ≤ base * v := Int.mul_le_mul_of_nonneg_left (by omega) (by omega)
        have h2 : (1 : Int) * 2097152 ≤ base * 2097152 := Int.mul_le_mul_of_nonneg_right hb (by omega)
        omega
    simp only [List.cons_append, numL, valF, List.length_cons]
    rw [if_pos hc, e, ih]

/-- The digits' bytes. -/
def decT : ByteArray := { data := #[48, 49, 50, 51, 52, 53, 54, 55, 56, 57] }
def hexT : ByteArray := { data := #[48, 49, 50, 51, 52, 53, 54, 55, 56, 57, 97, 98, 99, 100, 101, 102] }
theorem dec_dig (d : Nat) (h : d < 10) : ∃ c : UInt8, (decT.extract d (d + 1)).data.toList = [c] ∧ digF c 10 = d ∧ (c ||| 32).toNat ≠ 120 := by
  have H : ∀ i : Fin 10, ((decT.extract i.val (i.val + 1)).data.toList = [UInt8.ofNat (48 + i.val)] ∧ digF (UInt8.ofNat (48 + i.val)) 10 = i.val ∧ ((UInt8.ofNat (48 + i.val)) ||| 32).toNat ≠ 120) := by decide +kernel
  exact ⟨_, H ⟨d, h⟩⟩
theorem hex_dig (d : Nat) (h : d < 16) : ∃ c : UInt8, (hexT.extract d (d + 1)).data.toList = [c] ∧ digF c 16 = d := by
  have H : ∀ i : Fin 16, ((hexT.extract i.val (i.val + 1)).data.toList = [if i.val < 10 then UInt8.ofNat (48 + i.val) else UInt8.ofNat (87 + i.val)] ∧ digF (if i.val < 10 then UInt8.ofNat (48 + i.val) else UInt8.ofNat (87 + i.val)) 16 = i.val) := by decide +kernel
  exact ⟨_, H ⟨d, h⟩⟩

/-- What a loop over digits keeps: k is what is left, t what is told, n the whole. -/
structure Dig (base : Int) (n k : Nat) (t : ByteArray) : Prop where
  val : valF base t.data.toList k = n
  digs : digsB base t.data.toList
  noX : base = 10 → ∀ c, t.data.toList[0]? = some c → (c ||| 32).toNat ≠ 120
  len : k * 2 ^ t.size ≤ 4194304
  len2 : t.size ≤ 23
  full : t.size = 0 → k = n
theorem Dig.start (base : Int) (n : Nat) (hn : n ≤ 4194304) : Dig base n n ⟨#[]⟩ := ⟨rfl, by intro c hc; simp at hc, by simp, (by show n * 2 ^ 0 ≤ 4194304; omega), by decide, fun _ => rfl⟩
theorem Dig.step10 {n k : Nat} {t : ByteArray} (h : Dig 10 n k t) (hg : 0 < k ∨ t.size = 0) : Dig 10 n (k / 10) (decT.extract (k % 10) (k % 10 + 1) ++ t) := by
  obtain ⟨c, h1, h2, h3⟩ := dec_dig (k % 10) (by omega)
  have hd : (decT.extract (k % 10) (k % 10 + 1) ++ t).data.toList = c :: t.data.toList := by rw [ByteArray.data_append, Array.toList_append, h1]; rfl
  have hs : (decT.extract (k % 10) (k % 10 + 1) ++ t).size = t.size + 1 := by rw [← len_data, hd, List.length_cons, len_data]
  refine ⟨?_, ?_, ?_, ?_, ?_, ?_⟩
  · rw [hd]
    simp only [valF]
    rw [h2]
    have : (10 : Int) * ((k / 10 : Nat) : Int) + ((k % 10 : Nat) : Int) = k := by omega
    rw [this]
    exact h.val
  · rw [hd]
    intro x hx
    rcases List.mem_cons.1 hx with rfl | hx
    · omega
    · exact h.digs x hx
  · rw [hd]
    intro _ x hx
    obtain rfl : c = x := by simpa using hx
    exact h3
  · rw [hs, Nat.pow_succ]
    have := h.len
    have h4 : k / 10 * (2 ^ t.size * 2) ≤ k * 2 ^ t.size := by
      rw [Nat.mul_comm (2 ^ t.size) 2, ← Nat.mul_assoc]
      exact Nat.mul_le_mul_right _ (by omega)
    omega
  · rw [hs]
    rcases hg with hk | h0
    · have := h.len
      have h5 : 2 ^ t.size ≤ k * 2 ^ t.size := Nat.le_mul_of_pos_left _ hk
      by_cases h6 : t.size ≤ 22
      · omega
      · have h7 : 2 ^ 23 ≤ 2 ^ t.size := Nat.pow_le_pow_right (by omega) (by omega)
        omega
    · omega
  · rw [hs]; omega
theorem Dig.step16 {n k : Nat} {t : ByteArray} (h : Dig 16 n k t) (hg : 0 < k ∨ t.size = 0) : Dig 16 n (k / 16) (hexT.extract (k % 16) (k % 16 + 1) ++ t) := by
  obtain ⟨c, h1, h2⟩ := hex_dig (k % 16) (by omega)
  have hd : (hexT.extract (k % 16) (k % 16 + 1) ++ t).data.toList = c :: t.data.toList := by rw [ByteArray.data_append, Array.toList_append, h1]; rfl
  have hs : (hexT.extract (k % 16) (k % 16 + 1) ++ t).size = t.size + 1 := by rw [← len_data, hd, List.length_cons, len_data]
  refine ⟨?_, ?_, ?_, ?_, ?_, ?_⟩
  · rw [hd]
    simp only [valF]
    rw [h2]
    have : (16 : Int) * ((k / 16 : Nat) : Int) + ((k % 16 : Nat) : Int) = k := by omega
    rw [this]
    exact h.val
  · rw [hd]
    intro x hx
    rcases List.mem_cons.1 hx with rfl | hx
    · omega
    · exact h.digs x hx
  · intro e; exact absurd e (by decide)
  · rw [hs, Nat.pow_succ]
    have := h.len
    have h4 : k / 16 * (2 ^ t.size * 2) ≤ k * 2 ^ t.size := by
      rw [Nat.mul_comm (2 ^ t.size) 2, ← Nat.mul_assoc]
      exact Nat.mul_le_mul_right _ (by omega)
    omega
  · rw [hs]
    rcases hg with hk | h0
    · have := h.len
      have h5 : 2 ^ t.size ≤ k * 2 ^ t.size := Nat.le_mul_of_pos_left _ hk
      by_cases h6 : t.size ≤ 22
      · omega
      · have h7 : 2 ^ 23 ≤ 2 ^ t.size := Nat.pow_le_pow_right (by omega) (by omega)
        omega
    · omega
  · rw [hs]; omega

/-- A number by tens, whatever one sign stands behind it that is no digit. -/
theorem find_ten {n : Nat} {t s : ByteArray} {e : UInt8} {more : List UInt8} (attr : Bool) (h : Dig 10 n 0 t) (ht : t.size ≠ 0) (hs : s.data.toList = 38 :: 35 :: (t.data.toList ++ e :: more)) (he : digF e 10 < 0) :
    findF s attr = (signF (min (n : Int) 2097152), if e = 59 then t.size + 3 else t.size + 2) := by
  have hl := len_data t
  obtain ⟨c, r, hc⟩ : ∃ c r, t.data.toList = c :: r := by
    cases ht' : t.data.toList with
    | nil => rw [ht'] at hl; simp at hl; omega
    | cons c r => exact ⟨c, r, rfl⟩
  have hx : xB s = false := by
    have h2 : s.data.toList[2]? = some c := by rw [hs, hc]; rfl
    have := h.noX rfl c (by rw [hc]; rfl)
    unfold xB
    rw [h2]
    simpa using this
  have hd : s.data.toList.drop 2 = t.data.toList ++ e :: more := by rw [hs]; rfl
  have hn := numL_digs 10 (by decide) (e :: more) (by intro x hx; obtain rfl : e = x := by simpa using hx
                                                      exact he) t.data.toList 0 (by decide) h.digs
  have hv : valF 10 t.data.toList 0 = n := h.val
  rw [hv] at hn
  have hf : findF s attr = numberF s := by unfold findF; rw [hs]; rfl
  rw [hf]
  unfold numberF
  rw [hx]
  simp only [Bool.false_eq_true, if_false]
  rw [hd]
  have hn' : numL 10 (t.data.toList ++ e :: more) 0 = (min (n : Int) 2097152, t.data.toList.length) := hn
  rw [hn', hl]
  dsimp only
  rw [if_neg ht]
  congr 1
  unfold semF
  have hg : s.data.toList[2 + t.size]? = some e := by
    rw [hs, show 2 + t.size = t.size + 1 + 1 by omega]
    simp only [List.getElem?_cons_succ]
    rw [List.getElem?_append_right (by omega), hl]
    simp
  rw [hg]
  by_cases c5 : e = 59
  · rw [if_pos (by rw [c5]), if_pos c5]; omega
  · rw [if_neg (by intro h; exact c5 (Option.some.inj h)), if_neg c5]; omega
theorem find_hex {n : Nat} {t s : ByteArray} {more : List UInt8} (attr : Bool) (h : Dig 16 n 0 t) (ht : t.size ≠ 0) (hs : s.data.toList = 38 :: 35 :: 120 :: (t.data.toList ++ 59 :: more)) :
    findF s attr = (signF (min (n : Int) 2097152), t.size + 4) := by
  have hl := len_data t
  have hx : xB s = true := by
    have h2 : s.data.toList[2]? = some 120 := by rw [hs]; rfl
    unfold xB
    rw [h2]
    decide
  have hd : s.data.toList.drop 3 = t.data.toList ++ 59 :: more := by rw [hs]; rfl
  have hn := numL_digs 16 (by decide) (59 :: more) (by intro x hx; obtain rfl : 59 = x := by simpa using hx
                                                       decide) t.data.toList 0 (by decide) h.digs
  have hv : valF 16 t.data.toList 0 = n := h.val
  rw [hv] at hn
  have hf : findF s attr = numberF s := by unfold findF; rw [hs]; rfl
  rw [hf]
  unfold numberF
  rw [hx]
  simp only [if_true]
  rw [hd]
  have hn' : numL 16 (t.data.toList ++ 59 :: more) 0 = (min (n : Int) 2097152, t.data.toList.length) := hn
  rw [hn', hl]
  dsimp only
  rw [if_neg ht]
  congr 1
  unfold semF
  have hg : s.data.toList[3 + t.size]? = some 59 := by
    rw [hs, show 3 + t.size = t.size + 1 + 1 + 1 by omega]
    simp only [List.getElem?_cons_succ]
    rw [List.getElem?_append_right (by omega), hl]
    simp
  rw [hg, if_pos rfl]
  omega
theorem signF_pos (n : Int) : 1 ≤ (signF n).length := by
  have := Lib.runeCells_le (if n = 0 ∨ n = 13 then 65533 else n)
  rw [Lib.runeCells_length] at this
  exact this.1
end Go.Proofs.Ytjhamomdlpoilaa.Ent
