import Derived.Test.YtjhamomdlpoilaaOpenB
namespace Go.Proofs.Ytjhamomdlpoilaa.OpenW

/-- The words of a list: what stands behind each blank, up to the next one. -/
def wordsOf : List UInt8 → List (List UInt8)
  | [] => []
  | c :: r => if c = 32 then r.takeWhile (fun x => x != 32) :: wordsOf r else wordsOf r

theorem takeWhile_name (name rest : List UInt8) (h : ∀ x ∈ name, x ≠ 32) : (name ++ 32 :: rest).takeWhile (fun x => x != 32) = name := by
  induction name with
  | nil => simp
  | cons a t ih =>
    have ha : (a != 32) = true := by simpa using h a (by simp)
    rw [List.cons_append, List.takeWhile_cons, if_pos ha, ih (fun x hx => h x (List.mem_cons_of_mem _ hx))]

theorem mem_words : ∀ (l name : List UInt8) (i : Nat), (∀ x ∈ name, x ≠ 32) → Lib.occAt l (32 :: (name ++ [32])) i = true → name ∈ wordsOf l
  | [], name, i, _, h => by simp [Lib.occAt] at h
  | c :: r, name, 0, hn, h => by
    have h1 := List.isPrefixOf_iff_prefix.1 (show (32 :: (name ++ [32])).isPrefixOf (c :: r) = true from h)
    obtain ⟨t, ht⟩ := h1
    have hc : c = 32 := by simpa using (List.cons.inj ht).1.symm
    have hr : r = name ++ 32 :: t := by simpa using (List.cons.inj ht).2.symm
    subst hc hr
    simp [wordsOf, takeWhile_name name t hn]
  | c :: r, name, i + 1, hn, h => by
    have h1 : Lib.occAt r (32 :: (name ++ [32])) i = true := by simpa [Lib.occAt] using h
    have := mem_words r name i hn h1
    unfold wordsOf
    split
    · exact List.mem_cons_of_mem _ this
    · exact this

theorem no_blank {l : List UInt8} (h : ¬ 0 ≤ Lib.indexByte l 32) : ∀ x ∈ l, x ≠ 32 := by
  have h1 := Lib.indexByte_ge l 32
  have h2 : Lib.indexByte l 32 = -1 := by omega
  intro x hx e
  subst e
  obtain ⟨k, hk⟩ := List.getElem?_of_mem hx
  exact Lib.indexByte_none h2 k hk

theorem one_words {name list : ByteArray} (h : oneB name list = true) : name.data.toList ∈ wordsOf list.data.toList := by
  simp only [oneB, Bool.and_eq_true, Bool.not_eq_true', decide_eq_false_iff_not] at h
  obtain ⟨_, h2, h3⟩ := h
  have h4 : 0 ≤ Lib.index list.data.toList (32 :: (name.data.toList ++ [32])) := by simpa [Lib.contains] using h3
  rcases Lib.index_spec list.data.toList (32 :: (name.data.toList ++ [32])) with ⟨h5, _⟩ | ⟨i, _, _, h6, _⟩
  · omega
  · exact mem_words _ _ i (no_blank h2) h6

/-- Word by word: what is in one list is in another. -/
def subB (a b : ByteArray) : Bool := (wordsOf a.data.toList).all fun x => x.isEmpty || oneB ⟨x.toArray⟩ b
theorem oneB_congr {a b : ByteArray} (h : a.data.toList = b.data.toList) (l : ByteArray) : oneB a l = oneB b l := by simp [oneB, h]
theorem one_sub {a b name : ByteArray} (hs : subB a b = true) (h : oneB name a = true) : oneB name b = true := by
  have hw := one_words h
  have hne : name.data.toList.isEmpty = false := by
    simp only [oneB, Bool.and_eq_true] at h
    simpa using h.1
  have h1 := List.all_eq_true.1 hs _ hw
  simp only [hne, Bool.false_or] at h1
  rw [← oneB_congr (a := ⟨name.data.toList.toArray⟩) (by simp) b]
  exact h1

theorem sub_T : subB barsT bars = true := by decide +kernel
theorem sub_L : subB bars barsL = true := by decide +kernel
theorem sub_B : subB bars barsB = true := by decide +kernel

/-! Implied ends -/
theorem implied_words {name : ByteArray} (h : oneB name implied = true) : name.data.toList ∈ [[100, 100], [100, 116], [108, 105], [111, 112, 116, 103, 114, 111, 117, 112], [111, 112, 116, 105, 111, 110], [112], []] := by
  have := one_words h
  have e : wordsOf implied.data.toList = [[100, 100], [100, 116], [108, 105], [111, 112, 116, 103, 114, 111, 117, 112], [111, 112, 116, 105, 111, 110], [112], []] := by decide +kernel
  rw [e] at this
  exact this

theorem endsR_drop (but : ByteArray) : ∀ l : List ByteArray, endsR but (l.drop (endsR but l)) = 0
  | [] => rfl
  | x :: r => by
    by_cases h1 : (x.toList == but.toList) = true
    · have e : endsR but (x :: r) = 0 := by simp [endsR, h1]
      rw [e, List.drop_zero, e]
    · by_cases h2 : oneB x implied = true
      · have e : endsR but (x :: r) = endsR but r + 1 := by simp only [endsR]; rw [if_neg h1, if_pos h2]
        rw [e, List.drop_succ_cons]
        exact endsR_drop but r
      · have e : endsR but (x :: r) = 0 := by simp only [endsR]; rw [if_neg h1, if_neg h2]
        rw [e, List.drop_zero, e]

theorem endsR_mem (but : ByteArray) : ∀ (l : List ByteArray) (j : Nat), j < endsR but l → (l.getD j ByteArray.empty).toList ≠ but.toList ∧ oneB (l.getD j ByteArray.empty) implied = true
  | [], j, h => by simp [endsR] at h
  | x :: r, j, h => by
    simp only [endsR] at h
    split at h
    · omega
    · rename_i h1
      split at h
      · rename_i h2
        cases j with
        | zero => exact ⟨by simpa using h1, h2⟩
        | succ j => simpa using endsR_mem but r j (by omega)
      · omega

/-- What the law asks of the names that go. -/
theorem ends_gone (but : ByteArray) (l : List ByteArray) (i : Nat) (h1 : l.length - endsR but l.reverse ≤ i) (h2 : i < l.length) :
    (l.getD i ByteArray.empty).toList ≠ but.toList ∧ oneB (l.getD i ByteArray.empty) implied = true := by
  have hle := endsR_le but l.reverse
  rw [List.length_reverse] at hle
  have := endsR_mem but l.reverse (l.length - 1 - i) (by omega)
  have e : l.reverse.getD (l.length - 1 - i) ByteArray.empty = l.getD i ByteArray.empty := by
    rw [List.getD_eq_getElem?_getD, List.getD_eq_getElem?_getD, List.getElem?_reverse (by omega)]
    congr 2
    omega
  rw [e] at this
  exact this

theorem ends_again (but : ByteArray) (l : List ByteArray) : endsR but (l.take (l.length - endsR but l.reverse)).reverse = 0 := by
  have := endsR_drop but l.reverse
  rw [List.drop_reverse] at this
  exact this
end Go.Proofs.Ytjhamomdlpoilaa.OpenW
