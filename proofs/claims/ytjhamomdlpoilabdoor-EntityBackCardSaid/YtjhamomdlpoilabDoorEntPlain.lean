/- What the law EntityPlain does, call by call: for every two texts it returns true, and makes memory alone. -/
import Derived.Test.YtjhamomdlpoilabDoorEnt5
import Derived.WalkSpells
namespace Go.Proofs.YtjhamomdlpoilabDoor.Ent
open Go.RowKit Go.Proofs.YtjhamomdlpoilabDoorW.PrintWords Go.Proofs.YtjhamomdlpoilabDoor.Chars
set_option linter.unusedVariables false
set_option linter.unusedSimpArgs false

theorem ext_data (s : ByteArray) (n : Nat) : (s.extract n s.size).data.toList = s.data.toList.drop n := Lib.extract_to_end s n
theorem data_inj {a b : ByteArray} (h : a.data.toList = b.data.toList) : a = b := WideShapes.bytes_inj h
/-- Ahead of what bears no ampersand all is as it stands. -/
theorem readF_plain (attr : Bool) : ∀ (l : List UInt8) (s t : ByteArray), (∀ x ∈ l, x ≠ 38) → s.data.toList = l ++ t.data.toList → readF attr s = l ++ readF attr t
  | [], s, t, _, h => by rw [data_inj (a := s) (b := t) (by simpa using h)]; rfl
  | c :: r, s, t, hl, h => by
    have h1 : 0 < s.size := by
      have := len_data s
      rw [h] at this
      simp at this
      omega
    have h0 : s.data.toList[0]? = some c := by rw [h]; rfl
    have hf : findF s attr = ([], 0) := by
      unfold findF
      rw [h0, if_neg (by intro e; exact hl c (by simp) (Option.some.inj e))]
    have h2 : (s.extract 1 s.size).data.toList = r ++ t.data.toList := by rw [ext_data, h]; rfl
    rw [readF_cons attr s h1, hf, if_pos rfl, readF_plain attr r _ t (fun x hx => hl x (List.mem_cons_of_mem _ hx)) h2, h]
    rfl
theorem readF_len (attr : Bool) : ∀ (n : Nat) (s : ByteArray), s.size = n → (readF attr s).length ≤ 4 * s.size := by
  intro n
  induction n using Nat.strongRecOn with
  | ind n ih =>
    intro s hs
    by_cases h0 : s.size = 0
    · rw [readF_nil attr s h0]; simp
    · rw [readF_cons attr s (by omega)]
      obtain ⟨h1, h2⟩ := findF_le s attr
      have e1 := ext_size s 1 (by omega)
      have e2 := ext_size s _ h1
      split
      · have := ih (s.size - 1) (by omega) _ e1
        have h3 : (s.data.toList.take 1).length ≤ 1 := List.length_take_le _ _
        rw [List.length_append]
        omega
      · have := ih (s.size - (findF s attr).2) (by omega) _ e2
        rw [List.length_append]
        omega
theorem readF_self (attr : Bool) (s : ByteArray) (h : ∀ x ∈ s.data.toList, x ≠ 38) : readF attr s = s.data.toList := by
  rw [readF_plain attr s.data.toList s ⟨#[]⟩ h (by simp), readF_nil attr _ rfl, List.append_nil]
theorem readF_app (attr : Bool) (s t : ByteArray) (h : ∀ x ∈ s.data.toList, x ≠ 38) : readF attr (s ++ t) = s.data.toList ++ readF attr t :=
  readF_plain attr s.data.toList (s ++ t) t h (by simp [ByteArray.data_append])

set_option maxHeartbeats 1000000 in
theorem some_any (s : ByteArray) (m : Nat) (w : World) (hs : s.size ≤ 140737488351232) :
    Calls Tryd.prog 9 #[.string s, .int .i64 m] w fun e w' => e = .returned (.string (s.extract 0 (min s.size m))) ∧ w = w' := by
  have h1 : (min (s.size : Int) m).toNat = min s.size m := by omega
  have H1 := Lib.hid h1
  clear h1
  go_enter Tryd.func9, Tryd.ntmps9
  go_wp2_with fail
  go_ret
  exact ⟨by rw [← H1.out]; rfl, rfl⟩

set_option maxRecDepth 100000 in
set_option maxHeartbeats 1000000 in
theorem begun_any (w : World) : Calls Tryd.prog 15 #[] w fun e w' => e = .returned (.bool true) ∧ Below w.heap.size w w' := by
  have e1 : readF false { data := #[38, 108, 116, 59, 38, 97, 109, 112, 59, 38, 99, 111, 112, 121, 38, 35, 120, 52, 49] } = [60, 38, 194, 169, 65] := by decide +kernel
  have e2 : readF true { data := #[38, 99, 111, 112, 121, 61, 49, 38, 108, 116, 59] } = [38, 99, 111, 112, 121, 61, 49, 60] := by decide +kernel
  have E1 := Lib.hid e1
  have E2 := Lib.hid e2
  clear e1 e2
  go_enter Tryd.func15, Tryd.ntmps15
  go_wp2_with fail
  refine (text_any _ _ (by decide)).mono ?_
  rintro e w1 ⟨rfl, h1⟩
  rw [E1.out]
  have H1 := Lib.hid h1
  clear h1
  go_wp2_with fail
  refine (value_any _ _ (by decide)).mono ?_
  rintro e w2 ⟨rfl, h2⟩
  rw [E2.out]
  have H2 := Lib.hid h2
  clear h2
  go_wp2_with fail
  go_ret
  exact ⟨rfl, H1.out.trans (H2.out.mono H1.out.size)⟩

end Go.Proofs.YtjhamomdlpoilabDoor.Ent
