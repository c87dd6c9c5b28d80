/- Package entity: Find, read, Text, Value. -/
import Derived.Test.YtjhamomdlpoilabDoorEnt4
namespace Go.Proofs.YtjhamomdlpoilabDoor.Ent
open Go.RowKit Go.Proofs.YtjhamomdlpoilabDoorW.PrintWords Go.Proofs.YtjhamomdlpoilabDoor.Chars

theorem len_data (s : ByteArray) : s.data.toList.length = s.size := by rw [Array.length_toList]; rfl
theorem foldF_le (s : ByteArray) (h1 : 1 ≤ s.size) : ∀ k, k ≤ 48 → (foldF s k).2 ≤ s.size ∧ (foldF s k).1.length ≤ 4
  | 0, _ => by simp [foldF]
  | k + 1, h => by
    have ih := foldF_le s h1 k (by omega)
    rw [foldF_succ s k (by omega)]
    unfold stepF
    split
    · rename_i hh
      split
      · exact ih
      · exact ⟨(semF_le s _ (hit_room hh h1)).2, signF_le _⟩
    · exact ih
theorem ite_pair {p : Prop} [Decidable p] {a b : List UInt8 × Nat} (P : List UInt8 × Nat → Prop) (ha : P a) (hb : P b) : P (if p then a else b) := by split <;> assumption
theorem namedF_le (s : ByteArray) (attr : Bool) (h1 : 1 ≤ s.size) : (namedF s attr).2 ≤ s.size ∧ (namedF s attr).1.length ≤ 4 := by
  rw [namedF_eq]
  exact ite_pair (fun x => x.2 ≤ s.size ∧ x.1.length ≤ 4) (by simp) (foldF_le s h1 48 (by omega))
theorem numberF_le (s : ByteArray) : (numberF s).2 ≤ s.size ∧ (numberF s).1.length ≤ 4 := by
  unfold numberF
  dsimp only
  generalize hb : (if xB s = true then (16 : Int) else 10) = base
  generalize ha : (if xB s = true then 3 else 2) = at0
  clear hb ha
  have := numL_le base (s.data.toList.drop at0) 0
  rw [List.length_drop, len_data] at this
  by_cases h : (numL base (s.data.toList.drop at0) 0).2 = 0
  · rw [if_pos h]; simp
  · rw [if_neg h]
    exact ⟨(semF_le s _ (by omega)).2, signF_le _⟩

def findF (s : ByteArray) (attr : Bool) : List UInt8 × Nat :=
  if s.data.toList[0]? = some 38 then (if s.data.toList[1]? = some 35 then numberF s else namedF s attr) else ([], 0)
theorem findF_le (s : ByteArray) (attr : Bool) : (findF s attr).2 ≤ s.size ∧ (findF s attr).1.length ≤ 4 := by
  unfold findF
  split
  · rename_i h
    have h1 : 1 ≤ s.size := by
      have := (List.getElem?_eq_some_iff.1 h).1
      rw [len_data] at this
      omega
    split
    · exact numberF_le s
    · exact namedF_le s attr h1
  · simp
theorem toList_ne (s : ByteArray) (h : 0 < s.size) : s.toList ≠ [] := by
  intro e
  rw [Lib.toList_data] at e
  have := len_data s
  rw [e] at this
  simp at this
  omega
theorem empty_ne (s : ByteArray) (h : 0 < s.size) : s.toList.isEmpty = false := by
  cases e : s.toList with
  | nil => exact absurd e (toList_ne s h)
  | cons _ _ => rfl
theorem Builder_below {T e : TypeId} {B b : Nat} {bs : List Value} {W W1 : World} (hb : b < W.heap.size) (h : Lib.IsBuilderF T e B b bs W) (hw : Below W.heap.size W W1) : Lib.IsBuilderF T e B b bs W1 := by
  have key : ∀ p, Lib.BuilderAtF T e B b p bs W → Lib.BuilderAtF T e B b p bs W1 := by
    intro p ⟨h1, v, h2, ⟨h3, h4⟩, h5⟩
    refine ⟨h1, v, (hw.block b hb).trans h2, ⟨h3, ?_⟩, h5⟩
    rcases h4 with h4 | ⟨g, cap, cur, fz, hv, hg, hh, r⟩
    · exact .inl h4
    · exact .inr ⟨g, cap, cur, fz, hv, hg, (hw.block g (Bldr.lt_of_heap hh)).trans hh, r⟩
  rcases h with h | h
  · exact .inl (key _ h)
  · exact .inr (key _ h)
theorem byte_beq (x : UInt8) (n : Nat) (hn : n < 256) : ((x.toNat : Int) == (n : Int)) = decide (x = UInt8.ofNat n) := by
  by_cases h : x = UInt8.ofNat n
  · subst h; simp; omega
  · have : x.toNat ≠ n := fun e => h (by rw [← e]; simp)
    simp [h]; omega

set_option maxHeartbeats 2000000 in
theorem find_any (s : ByteArray) (attr : Bool) (w : World) (hs : s.size ≤ 1000000) :
    Calls Tryd.prog 44 #[.string s, .bool attr] w fun e w' => e = .returned (.tuple #[.string ⟨(findF s attr).1.toArray⟩, .int .i64 (findF s attr).2]) ∧ Below w.heap.size w w' := by
  by_cases h0 : s.size = 0
  · have HR : Hid (findF s attr = ([], 0)) := Lib.hid (by unfold findF; rw [List.getElem?_eq_none (by rw [len_data]; omega), if_neg (by simp)])
    have e : s.toList = [] := by
      rw [Lib.toList_data]
      exact List.length_eq_zero_iff.1 (by rw [len_data]; exact h0)
    clear h0
    go_enter Tryd.func44, Tryd.ntmps44
    go_wp2_with fail
    go_ret2
    exact ⟨ret_two (by rw [HR.out]) (by rw [HR.out]; rfl), Below.refl _ _⟩
  · have h1 : 0 < s.size := by omega
    have hne := toList_ne s h1
    have hem := empty_ne s h1
    have hg0 : s.data.toList[0]? = some s[0] := Lib.data_getElem? s 0 h1
    clear h0
    by_cases h38 : s[0] = 38
    · have g : ((s[0].toNat : Int) == 38) = true := by rw [h38]; rfl
      have g' : ((s[0].toNat : Int) != 38) = false := by rw [h38]; rfl
      by_cases h2 : 1 < s.size
      · have hg1 : s.data.toList[1]? = some s[1] := Lib.data_getElem? s 1 h2
        by_cases h35 : s[1] = 35
        · have HR : Hid (findF s attr = numberF s) := Lib.hid (by unfold findF; rw [hg0, hg1, h38, h35]; rfl)
          have g2 : ((s[1].toNat : Int) == 35) = true := by rw [h35]; rfl
          clear hg0 hg1 h38 h35
          go_enter Tryd.func44, Tryd.ntmps44
          go_wp2_with fail
          refine (number_any s _ (by omega) hs).mono ?_
          rintro e w' ⟨rfl, hb⟩
          have HB := Lib.hid hb
          clear hb
          go_wp2_with fail
          go_ret2
          exact ⟨ret_two (by rw [HR.out]) (by rw [HR.out]), HB.out⟩
        · have HR : Hid (findF s attr = namedF s attr) := Lib.hid (by unfold findF; rw [hg0, hg1, h38, if_pos rfl, if_neg (by intro e; exact h35 (Option.some.inj e))])
          have g2 : ((s[1].toNat : Int) == 35) = false := by
            rw [beq_eq_false_iff_ne]
            intro e
            exact h35 (UInt8.toNat_inj.1 (by simpa using (by omega : s[1].toNat = 35)))
          clear hg0 hg1 h38 h35
          go_enter Tryd.func44, Tryd.ntmps44
          go_wp2_with fail
          refine (named_any s attr _ (by omega) hs).mono ?_
          rintro e w' ⟨rfl, hb⟩
          have HB := Lib.hid hb
          clear hb
          go_wp2_with fail
          go_ret2
          exact ⟨ret_two (by rw [HR.out]) (by rw [HR.out]), HB.out⟩
      · have HR : Hid (findF s attr = namedF s attr) := Lib.hid (by unfold findF; rw [hg0, h38, if_pos rfl, List.getElem?_eq_none (by rw [len_data]; omega), if_neg (by simp)])
        clear hg0 h38
        go_enter Tryd.func44, Tryd.ntmps44
        go_wp2_with fail
        refine (named_any s attr _ (by omega) hs).mono ?_
        rintro e w' ⟨rfl, hb⟩
        have HB := Lib.hid hb
        clear hb
        go_wp2_with fail
        go_ret2
        exact ⟨ret_two (by rw [HR.out]) (by rw [HR.out]), HB.out⟩
    · have HR : Hid (findF s attr = ([], 0)) := Lib.hid (by unfold findF; rw [hg0, if_neg (by intro e; exact h38 (Option.some.inj e))])
      have g : ((s[0].toNat : Int) == 38) = false := by
        rw [beq_eq_false_iff_ne]
        intro e
        exact h38 (UInt8.toNat_inj.1 (by simpa using (by omega : s[0].toNat = 38)))
      have g' : ((s[0].toNat : Int) != 38) = true := by simpa [bne] using g
      clear hg0 h38
      go_enter Tryd.func44, Tryd.ntmps44
      go_wp2_with fail
      go_ret2
      exact ⟨ret_two (by rw [HR.out]) (by rw [HR.out]; rfl), Below.refl _ _⟩

/-- All references of a text, read; k: how many steps at the most. -/
def readK (attr : Bool) : Nat → ByteArray → List UInt8
  | 0, _ => []
  | k + 1, s => if s.size = 0 then [] else if (findF s attr).2 = 0 then s.data.toList.take 1 ++ readK attr k (s.extract 1 s.size) else (findF s attr).1 ++ readK attr k (s.extract (findF s attr).2 s.size)
theorem ext_size (s : ByteArray) (n : Nat) (_h : n ≤ s.size) : (s.extract n s.size).size = s.size - n := by simp
theorem readK_fuel (attr : Bool) : ∀ (k : Nat) (s : ByteArray), s.size ≤ k → readK attr k s = readK attr s.size s
  | 0, s, h => by
    have : s.size = 0 := by omega
    rw [this]
  | k + 1, s, h => by
    by_cases h0 : s.size = 0
    · rw [h0]; simp only [readK]; rw [if_pos h0]
    · obtain ⟨m, hm⟩ : ∃ m, s.size = m + 1 := ⟨s.size - 1, by omega⟩
      have hle := (findF_le s attr).1
      rw [hm]
      simp only [readK]
      rw [if_neg h0, if_neg h0]
      have e1 := ext_size s 1 (by omega)
      have e2 := ext_size s _ hle
      by_cases hf : (findF s attr).2 = 0
      · rw [if_pos hf, if_pos hf, readK_fuel attr k _ (by omega), readK_fuel attr m _ (by omega)]
      · rw [if_neg hf, if_neg hf, readK_fuel attr k _ (by omega), readK_fuel attr m _ (by omega)]
def readF (attr : Bool) (s : ByteArray) : List UInt8 := readK attr s.size s
theorem readF_nil (attr : Bool) (s : ByteArray) (h : s.size = 0) : readF attr s = [] := by unfold readF; rw [h]; rfl
theorem readF_cons (attr : Bool) (s : ByteArray) (h : 0 < s.size) : readF attr s = (if (findF s attr).2 = 0 then s.data.toList.take 1 ++ readF attr (s.extract 1 s.size) else (findF s attr).1 ++ readF attr (s.extract (findF s attr).2 s.size)) := by
  obtain ⟨m, hm⟩ : ∃ m, s.size = m + 1 := ⟨s.size - 1, by omega⟩
  have hle := (findF_le s attr).1
  have e1 := ext_size s 1 (by omega)
  have e2 := ext_size s _ hle
  have e3 : readF attr s = readK attr (m + 1) s := by unfold readF; rw [hm]
  rw [e3]
  simp only [readK]
  rw [if_neg (by omega)]
  by_cases hf : (findF s attr).2 = 0
  · rw [if_pos hf, if_pos hf, readK_fuel attr m _ (by omega)]; rfl
  · rw [if_neg hf, if_neg hf, readK_fuel attr m _ (by omega)]; rfl

set_option maxHeartbeats 2000000 in
theorem read_any (s : ByteArray) (attr : Bool) (w : World) (hs : s.size ≤ 1000000) :
    Calls Tryd.prog 30 #[.string s, .bool attr] w fun e w' => e = .returned (.string ⟨(readF attr s).toArray⟩) ∧ Below w.heap.size w w' := by
  go_enter Tryd.func30, Tryd.ntmps30
  go_wp2_with fail
  go_loopw [0, 6, 7] (fun x _ _ wr => ∃ (r : ByteArray) (out : List UInt8), x = .string r ∧ r.size ≤ s.size ∧ out.length + 4 * r.size ≤ 4 * s.size ∧ Hid (readF attr s = out ++ readF attr r) ∧ Hid (Lib.IsBuilderF 48 5 w.heap.size w.heap.size (Lib.byteCells out) wr) ∧ Hid (Below w.heap.size w wr) ∧ w.heap.size < wr.heap.size)
    (fun x _ _ _ => match x with | .string r => r.size | _ => 0)
  case atStart => exact ⟨s, [], rfl, Nat.le_refl _, by simp, Lib.hid rfl, Lib.hid (Lib.IsBuilderF.of (Lib.fresh_isBuilder _ _ w)), Lib.hid ((Below.refl _ _).alloc (Nat.le_refl _) _), by simp⟩
  case round =>
    obtain ⟨r, out, rfl, hr1, hr2, HR, HI, HB, hsz⟩ := hrel
    by_cases h0 : r.size = 0
    · have e : r.toList = [] := by
        rw [Lib.toList_data]
        exact List.length_eq_zero_iff.1 (by rw [len_data]; exact h0)
      have HE : Hid (readF attr s = out) := Lib.hid (by rw [HR.out, readF_nil attr r h0, List.append_nil])
      clear h0
      go_wp2_with fail
      refine (Tryd.Builder_String_any_k w.heap.size w.heap.size out wr HI.out (Nat.le_of_lt hsz)).mono ?_
      rintro e w1 ⟨rfl, _, h3, _⟩
      have H3 := Lib.hid h3
      clear h3
      go_wp2_with fail
      go_ret
      exact ⟨by rw [HE.out]; rfl, HB.out.trans H3.out⟩
    · have h1 : 0 < r.size := by omega
      have hne := toList_ne r h1
      have hem := empty_ne r h1
      have HC := Lib.hid (readF_cons attr r h1)
      obtain ⟨hf1, hf2⟩ := findF_le r attr
      clear h0
      go_wp2_with fail
      refine (find_any r attr wr (by omega)).mono ?_
      rintro e w1 ⟨rfl, hb1⟩
      generalize findF r attr = f at *
      obtain ⟨ft, fn⟩ := f
      dsimp only at *
      have HI1 := Lib.hid (Builder_below hsz HI.out hb1)
      have HB1 : Hid (Below w.heap.size w w1) := Lib.hid (HB.out.trans (hb1.mono (Nat.le_of_lt hsz)))
      have hsz1 : w.heap.size < w1.heap.size := Nat.lt_of_lt_of_le hsz hb1.size
      clear hb1
      by_cases hn : fn = 0
      · subst hn
        have hex : (r.extract 0 1).data.toList = r.data.toList.take 1 := by simp [ByteArray.data_extract]
        have HE : Hid (readF attr s = (out ++ r.data.toList.take 1) ++ readF attr (r.extract 1 r.size)) := Lib.hid (by rw [HR.out, HC.out, if_pos rfl, List.append_assoc])
        have htl : (r.data.toList.take 1).length ≤ 1 := List.length_take_le _ _
        have HX := Lib.hid hex
        clear hex
        have hsx : (r.extract 0 1).size = 1 := by simp; omega
        go_wp2_with fail
        refine (Bldr.writeString w.heap.size w.heap.size _ (r.extract 0 1) w1 HI1.out (by rw [Lib.byteCells_length, hsx]; omega) (Nat.le_of_lt hsz1)).mono ?_
        rintro e w2 ⟨rfl, h1', h2', _⟩
        have HI2 : Hid (Lib.IsBuilderF 48 5 w.heap.size w.heap.size (Lib.byteCells (out ++ r.data.toList.take 1)) w2) := Lib.hid (by rw [Lib.byteCells_append, ← HX.out]; exact h1')
        have HB2 : Hid (Below w.heap.size w w2) := Lib.hid (HB1.out.trans h2')
        have hsz2 : w.heap.size < w2.heap.size := Nat.lt_of_lt_of_le hsz1 h2'.size
        clear h1' h2' hsx
        go_wp2_with fail
        go_roundw
        case rel => exact ⟨r.extract 1 r.size, out ++ r.data.toList.take 1, rfl, by rw [ext_size r 1 (by omega)]; omega, by rw [ext_size r 1 (by omega), List.length_append]; omega, HE, HI2, HB2, hsz2⟩
        case measure => simp; omega
      · have g : ((fn : Int) == 0) = false := by rw [beq_eq_false_iff_ne]; omega
        have HE : Hid (readF attr s = (out ++ ft) ++ readF attr (r.extract fn r.size)) := Lib.hid (by rw [HR.out, HC.out, if_neg hn, List.append_assoc])
        have hfl : (⟨ft.toArray⟩ : ByteArray).size = ft.length := rfl
        have HFL := Lib.hid hfl
        clear hfl
        go_wp2_with fail
        refine (Bldr.writeString w.heap.size w.heap.size _ ⟨ft.toArray⟩ w1 HI1.out (by rw [Lib.byteCells_length, HFL.out]; omega) (Nat.le_of_lt hsz1)).mono ?_
        rintro e w2 ⟨rfl, h1', h2', _⟩
        have HI2 : Hid (Lib.IsBuilderF 48 5 w.heap.size w.heap.size (Lib.byteCells (out ++ ft)) w2) := Lib.hid (by rw [Lib.byteCells_append]; exact h1')
        have HB2 : Hid (Below w.heap.size w w2) := Lib.hid (HB1.out.trans h2')
        have hsz2 : w.heap.size < w2.heap.size := Nat.lt_of_lt_of_le hsz1 h2'.size
        clear h1' h2'
        go_wp2_with fail
        go_roundw
        case rel => exact ⟨r.extract fn r.size, out ++ ft, rfl, by rw [ext_size r fn hf1]; omega, by rw [ext_size r fn hf1, List.length_append]; omega, HE, HI2, HB2, hsz2⟩
        case measure => simp; omega

set_option maxHeartbeats 2000000 in
theorem text_any (s : ByteArray) (w : World) (hs : s.size ≤ 1000000) :
    Calls Tryd.prog 16 #[.string s] w fun e w' => e = .returned (.string ⟨(readF false s).toArray⟩) ∧ Below w.heap.size w w' := by
  go_enter Tryd.func16, Tryd.ntmps16
  go_wp2_with fail
  refine (read_any s false _ hs).mono ?_
  rintro e w' ⟨rfl, hb⟩
  have HB := Lib.hid hb
  clear hb
  go_wp2_with fail
  go_ret
  exact ⟨rfl, HB.out⟩
set_option maxHeartbeats 2000000 in
theorem value_any (s : ByteArray) (w : World) (hs : s.size ≤ 1000000) :
    Calls Tryd.prog 17 #[.string s] w fun e w' => e = .returned (.string ⟨(readF true s).toArray⟩) ∧ Below w.heap.size w w' := by
  go_enter Tryd.func17, Tryd.ntmps17
  go_wp2_with fail
  refine (read_any s true _ hs).mono ?_
  rintro e w' ⟨rfl, hb⟩
  have HB := Lib.hid hb
  clear hb
  go_wp2_with fail
  go_ret
  exact ⟨rfl, HB.out⟩
end Go.Proofs.YtjhamomdlpoilabDoor.Ent
