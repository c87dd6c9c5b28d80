/- What the law EntityPlain does, call by call: for every two texts it returns true, and makes memory alone. -/
import Derived.Test.YtjhamomdlpoilaaEnt5
import Derived.WalkSpells
namespace Go.Proofs.Ytjhamomdlpoilaa.Ent
open Go.RowKit Go.Proofs.YtjhamomdlpoilaaW.PrintWords Go.Proofs.Ytjhamomdlpoilaa.Chars
set_option linter.unusedVariables false
set_option linter.unusedSimpArgs false

theorem ext_data (s : ByteArray) (n : Nat) : (s.extract n s.size).data.toList = s.data.toList.drop n := Lib.extract_to_end s n
theorem data_inj {a b : ByteArray} (h : a.data.toList = b.data.toList) : a = b := WideShapes.bytes_inj h
/-- Ahead of what bears no ampersand all is as it stands. -/
theorem readF_plain (attr : Bool) : ∀ (l : List UInt8) (s t : ByteArray), (∀ x ∈ l, x ≠ 38) → s.data.toList = l ++ t.data.toList → readF attr s = l ++ readF attr t
  | [], s, t, _, h => by rw [data_inj (a := s) (b := t) (by simpa using h)]; rfl
  | c :: r, s, t, hl, h => by
    have h1 : 0 < s.size := by
      have := len_data s
      rw [h] at this
      simp at this
      omega
    have h0 : s.data.toList[0]? = some c := by rw [h]; rfl
    have hf : findF s attr = ([], 0) := by
      unfold findF
      rw [h0, if_neg (by intro e; exact hl c (by simp) (Option.some.inj e))]
    have h2 : (s.extract 1 s.size).data.toList = r ++ t.data.toList := by rw [ext_data, h]; rfl
    rw [readF_cons attr s h1, hf, if_pos rfl, readF_plain attr r _ t (fun x hx => hl x (List.mem_cons_of_mem _ hx)) h2, h]
    rfl
theorem readF_len (attr : Bool) : ∀ (n : Nat) (s : ByteArray), s.size = n → (readF attr s).length ≤ 4 * s.size := by
  intro n
  induction n using Nat.strongRecOn with
  | ind n ih =>
    intro s hs
    by_cases h0 : s.size = 0
    · rw [readF_nil attr s h0]; simp
    · rw [readF_cons attr s (by omega)]
      obtain ⟨h1, h2⟩ := findF_le s attr
      have e1 := ext_size s 1 (by omega)
      have e2 := ext_size s _ h1
      split
      · have := ih (s.size - 1) (by omega) _ e1
        have h3 : (s.data.toList.take 1).length ≤ 1 := List.length_take_le _ _
        rw [List.length_append]
        omega
      · have := ih (s.size - (findF s attr).2) (by omega) _ e2
        rw [List.length_append]
        omega
theorem readF_self (attr : Bool) (s : ByteArray) (h : ∀ x ∈ s.data.toList, x ≠ 38) : readF attr s = s.data.toList := by
  rw [readF_plain attr s.data.toList s ⟨#[]⟩ h (by simp), readF_nil attr _ rfl, List.append_nil]
theorem readF_app (attr : Bool) (s t : ByteArray) (h : ∀ x ∈ s.data.toList, x ≠ 38) : readF attr (s ++ t) = s.data.toList ++ readF attr t :=
  readF_plain attr s.data.toList (s ++ t) t h (by simp [ByteArray.data_append])

set_option maxHeartbeats 1000000 in
theorem some_any (s : ByteArray) (m : Nat) (w : World) (hs : s.size ≤ 140737488351232) :
    Calls Try.prog 19 #[.string s, .int .i64 m] w fun e w' => e = .returned (.string (s.extract 0 (min s.size m))) ∧ w = w' := by
  have h1 : (min (s.size : Int) m).toNat = min s.size m := by omega
  have H1 := Lib.hid h1
  clear h1
  go_enter Try.func19, Try.ntmps19
  go_wp2_with fail
  go_ret
  exact ⟨by rw [← H1.out]; rfl, rfl⟩

set_option maxRecDepth 100000 in
set_option maxHeartbeats 1000000 in
theorem begun_any (w : World) : Calls Try.prog 20 #[] w fun e w' => e = .returned (.bool true) ∧ Below w.heap.size w w' := by
  have e1 : readF false { data := #[38, 108, 116, 59, 38, 97, 109, 112, 59, 38, 99, 111, 112, 121, 38, 35, 120, 52, 49] } = [60, 38, 194, 169, 65] := by decide +kernel
  have e2 : readF true { data := #[38, 99, 111, 112, 121, 61, 49, 38, 108, 116, 59] } = [38, 99, 111, 112, 121, 61, 49, 60] := by decide +kernel
  have E1 := Lib.hid e1
  have E2 := Lib.hid e2
  clear e1 e2
  go_enter Try.func20, Try.ntmps20
  go_wp2_with fail
  refine (text_any _ _ (by decide)).mono ?_
  rintro e w1 ⟨rfl, h1⟩
  rw [E1.out]
  have H1 := Lib.hid h1
  clear h1
  go_wp2_with fail
  refine (value_any _ _ (by decide)).mono ?_
  rintro e w2 ⟨rfl, h2⟩
  rw [E2.out]
  have H2 := Lib.hid h2
  clear h2
  go_wp2_with fail
  go_ret
  exact ⟨rfl, H1.out.trans (H2.out.mono H1.out.size)⟩

/-- What is left without the ampersands. -/
def plainL (l : List UInt8) : List UInt8 := l.filter fun x => x != 38
theorem plainL_snoc (s : ByteArray) (k : Nat) (h : k < s.size) : plainL (s.data.toList.take (k + 1)) = plainL (s.data.toList.take k) ++ if s[k] = 38 then [] else [s[k]] := by
  have hl := len_data s
  have e : s.data.toList[k]'(by omega) = s[k] := rfl
  rw [List.take_succ_eq_append_getElem (by omega), e]
  unfold plainL
  rw [List.filter_append]
  by_cases c : s[k] = 38 <;> simp [List.filter_cons, c]

set_option maxRecDepth 100000 in
set_option maxHeartbeats 2000000 in
theorem plain_law (s0 t0 : ByteArray) (w : World) (hs : s0.size ≤ 140737488351232) (ht : t0.size ≤ 140737488351232) :
    Calls Try.prog 7 #[.string s0, .string t0] w fun e w' => e = .returned (.bool true) ∧ Below w.heap.size w w' := by
  go_enter Try.func7, Try.ntmps7
  go_wp2_with fail
  refine (some_any s0 200 _ hs).mono ?_
  rintro e w' ⟨rfl, rfl⟩
  go_wp2_with fail
  refine (some_any t0 200 _ ht).mono ?_
  rintro e w' ⟨rfl, rfl⟩
  have hs2 : (s0.extract 0 (min s0.size 200)).size ≤ 200 := by simp; omega
  have ht2 : (t0.extract 0 (min t0.size 200)).size ≤ 200 := by simp; omega
  generalize s0.extract 0 (min s0.size 200) = s at *
  generalize t0.extract 0 (min t0.size 200) = t at *
  go_wp2_with fail
  go_loop [5, 6] (fun p i => ∃ (k : Nat) (q : ByteArray), k ≤ s.size ∧ i = .int .i64 k ∧ p = .string q ∧ q.size ≤ k ∧ Hid (q.data.toList = plainL (s.data.toList.take k))) (fun _ i => s.size - (intOf i).toNat)
  case atStart => exact ⟨0, ⟨#[]⟩, Nat.zero_le _, rfl, rfl, Nat.le_refl _, Lib.hid rfl⟩
  case round =>
    obtain ⟨k, q, hk, rfl, rfl, hq, HQ⟩ := hrel
    by_cases hlt : k < s.size
    · have HS := Lib.hid (plainL_snoc s k hlt)
      by_cases hc : s[k] = 38
      · have g : ((s[k].toNat : Int) == 38) = true := by rw [hc]; rfl
        have g' : ((s[k].toNat : Int) != 38) = false := by rw [hc]; rfl
        have HN : Hid (q.data.toList = plainL (s.data.toList.take (k + 1))) := Lib.hid (by rw [HS.out, if_pos hc, List.append_nil]; exact HQ.out)
        clear hc
        go_wp2_with fail
        go_round
        case rel => exact ⟨k + 1, q, by omega, by go_num, rfl, by omega, HN⟩
        case measure => simp [intOf]; omega
      · have g : ((s[k].toNat : Int) == 38) = false := by
          rw [beq_eq_false_iff_ne]
          intro e
          exact hc (UInt8.toNat_inj.1 (by simpa using (by omega : s[k].toNat = 38)))
        have g' : ((s[k].toNat : Int) != 38) = true := by simpa [bne] using g
        have hex : (s.extract k (k + 1)).data.toList = [s[k]] := by
          have hl := len_data s
          have e : s.data.toList[k]'(by omega) = s[k] := rfl
          rw [ByteArray.data_extract, Array.toList_extract, List.extract_eq_take_drop, List.drop_eq_getElem_cons (by omega), e]
          simp
        have HN : Hid ((q ++ s.extract k (k + 1)).data.toList = plainL (s.data.toList.take (k + 1))) := Lib.hid (by rw [HS.out, if_neg hc, ByteArray.data_append, Array.toList_append, hex, HQ.out])
        have hsz : (q ++ s.extract k (k + 1)).size ≤ k + 1 := by
          rw [← len_data, HN.out]
          unfold plainL
          exact Nat.le_trans (List.length_filter_le _ _) (List.length_take_le _ _)
        clear hc hex
        go_wp2_with fail
        go_round
        case rel => exact ⟨k + 1, q ++ s.extract k (k + 1), by omega, by go_num, rfl, hsz, HN⟩
        case measure => simp [intOf]; omega
    · have hno : ∀ x ∈ q.data.toList, x ≠ 38 := by
        rw [HQ.out]
        intro x hx
        have := (List.mem_filter.1 hx).2
        simpa using this
      have hl1 := readF_len false _ t rfl
      have hl2 := readF_len true _ t rfl
      have HA := Lib.hid (fun a => readF_self a q hno)
      have HB := Lib.hid (fun a => readF_app a q t hno)
      clear hno
      go_wp2_with fail
      refine (begun_any _).mono ?_
      rintro e w1 ⟨rfl, h1⟩
      have H1 := Lib.hid h1
      clear h1
      go_wp2_with fail
      refine (text_any q _ (by omega)).mono ?_
      rintro e w2 ⟨rfl, h2⟩
      rw [HA.out]
      have H2 := Lib.hid h2
      clear h2
      go_wp2_with fail
      refine (value_any q _ (by omega)).mono ?_
      rintro e w3 ⟨rfl, h3⟩
      rw [HA.out]
      have H3 := Lib.hid h3
      clear h3
      go_wp2_with fail
      refine (text_any (q ++ t) _ (by rw [ByteArray.size_append]; omega)).mono ?_
      rintro e w4 ⟨rfl, h4⟩
      rw [HB.out]
      have H4 := Lib.hid h4
      clear h4
      go_wp2_with fail
      refine (text_any t _ (by omega)).mono ?_
      rintro e w5 ⟨rfl, h5⟩
      have heq1 : q.data.toList ++ readF false t = (q ++ (⟨(readF false t).toArray⟩ : ByteArray)).toList := by simp [Lib.toList_data, ByteArray.data_append]
      have H5 := Lib.hid h5
      clear h5
      go_wp2_with fail
      refine (value_any (q ++ t) _ (by rw [ByteArray.size_append]; omega)).mono ?_
      rintro e w6 ⟨rfl, h6⟩
      rw [HB.out]
      have H6 := Lib.hid h6
      clear h6
      clear heq1
      go_wp2_with fail
      refine (value_any t _ (by omega)).mono ?_
      rintro e w7 ⟨rfl, h7⟩
      have heq2 : q.data.toList ++ readF true t = (q ++ (⟨(readF true t).toArray⟩ : ByteArray)).toList := by simp [Lib.toList_data, ByteArray.data_append]
      have H7 := Lib.hid h7
      clear h7
      go_wp2_with fail
      go_ret
      refine ⟨rfl, ?_⟩
      have b1 := H1.out
      have b2 := b1.trans (H2.out.mono b1.size)
      have b3 := b2.trans (H3.out.mono b2.size)
      have b4 := b3.trans (H4.out.mono b3.size)
      have b5 := b4.trans (H5.out.mono b4.size)
      have b6 := b5.trans (H6.out.mono b5.size)
      exact b6.trans (H7.out.mono b6.size)
end Go.Proofs.Ytjhamomdlpoilaa.Ent
