/- What the law EntityNumbers does, call by call: for every number and every text it returns true, and makes memory alone. -/
import Derived.Test.YtjhamomdlpoilaaEntNum
namespace Go.Proofs.Ytjhamomdlpoilaa.Ent
open Go.RowKit Go.Proofs.YtjhamomdlpoilaaW.PrintWords Go.Proofs.Ytjhamomdlpoilaa.Chars
set_option linter.unusedVariables false
set_option linter.unusedSimpArgs false

/-- Is it the empty text? -/
def emp : Value → Nat
  | .string q => if q.size = 0 then 1 else 0
  | _ => 0
theorem emp_pos {q : ByteArray} (h : q.size ≠ 0) : emp (.string q) = 0 := if_neg h
theorem emp_le (q : ByteArray) : emp (.string q) ≤ 1 := by simp only [emp]; split <;> omega
theorem emp_one {q : ByteArray} (h : q.size = 0) : emp (.string q) = 1 := if_pos h
theorem ext_pos (T q : ByteArray) (d : Nat) (h : d + 1 ≤ T.size) : (T.extract d (d + 1) ++ q).size ≠ 0 := by rw [ByteArray.size_append]; simp; omega

set_option maxRecDepth 100000 in
set_option maxHeartbeats 2000000 in
theorem numbers_law (n : Int) (m0 : ByteArray) (w : World) (hm : m0.size ≤ 140737488351232) :
    Calls Try.prog 8 #[.int .i64 n, .string m0] w fun e w' => e = .returned (.bool true) ∧ Below w.heap.size w w' := by
  by_cases hout : n < 0 ∨ 4194304 < n
  · rcases hout with h | h
    · go_enter Try.func8, Try.ntmps8
      go_wp2_with fail
      refine (some_any m0 50 _ hm).mono ?_
      rintro e w' ⟨rfl, rfl⟩
      go_wp2_with fail
      refine (begun_any _).mono ?_
      rintro e w1 ⟨rfl, h1⟩
      have H1 := Lib.hid h1
      clear h1
      go_wp2_with fail
      go_ret
      exact ⟨rfl, H1.out⟩
    · have h0 : ¬ n < 0 := by omega
      go_enter Try.func8, Try.ntmps8
      go_wp2_with fail
      refine (some_any m0 50 _ hm).mono ?_
      rintro e w' ⟨rfl, rfl⟩
      go_wp2_with fail
      refine (begun_any _).mono ?_
      rintro e w1 ⟨rfl, h1⟩
      have H1 := Lib.hid h1
      clear h1
      go_wp2_with fail
      go_ret
      exact ⟨rfl, H1.out⟩
  · obtain ⟨N, rfl⟩ := Int.eq_ofNat_of_zero_le (show 0 ≤ n by omega)
    have hN : N ≤ 4194304 := by omega
    clear hout
    go_enter Try.func8, Try.ntmps8
    go_wp2_with fail
    refine (some_any m0 50 _ hm).mono ?_
    rintro e w' ⟨rfl, rfl⟩
    have hms : (m0.extract 0 (min m0.size 50)).size ≤ 50 := by simp; omega
    generalize m0.extract 0 (min m0.size 50) = more at *
    go_wp2_with fail
    go_loop [5, 7] (fun t i => ∃ (k : Nat) (q : ByteArray), i = .int .i64 k ∧ t = .string q ∧ k ≤ 4194304 ∧ q.size ≤ 23 ∧ Hid (Dig 10 N k q)) (fun t i => 2 * (intOf i).toNat + emp t)
    case atStart => exact ⟨N, ⟨#[]⟩, rfl, rfl, hN, by decide, Lib.hid (Dig.start 10 N hN)⟩
    case round =>
      obtain ⟨k, q, rfl, rfl, hk, hq, HD⟩ := hrel
      by_cases hgo : 0 < k ∨ q.size = 0
      · have HN := Lib.hid (HD.out.step10 hgo)
        have hsz := HN.out.len2
        have hpre : (0 < k) ∨ (k = 0 ∧ q.toList = []) := by
          by_cases h : 0 < k
          · exact .inl h
          · refine .inr ⟨by omega, ?_⟩
            rw [Lib.toList_data]
            exact List.length_eq_zero_iff.1 (by rw [len_data]; omega)
        have K1 := Lib.hid (emp_pos (ext_pos decT q (k % 10) (by show k % 10 + 1 ≤ 10; omega)))
        have K2 := Lib.hid (emp_le q)
        rcases hpre with h | ⟨rfl, h⟩
        · clear hgo
          go_wp2_with fail
          go_round
          case rel => exact ⟨_, decT.extract (k % 10) (k % 10 + 1) ++ q, by go_num, rfl, by omega, hsz, HN⟩
          case measure =>
            have key : 2 * (k / 10) + emp (.string (decT.extract (k % 10) (k % 10 + 1) ++ q)) < 2 * k + emp (.string q) := by rw [K1.out]; omega
            exact key
        · have K3 := Lib.hid (emp_one (q := q) (by rcases hgo with h | h <;> omega))
          clear hgo
          go_wp2_with fail
          go_round
          case rel => exact ⟨0, decT.extract (0 % 10) (0 % 10 + 1) ++ q, rfl, rfl, by omega, hsz, HN⟩
          case measure =>
            have key : 2 * 0 + emp (.string (decT.extract (0 % 10) (0 % 10 + 1) ++ q)) < 2 * 0 + emp (.string q) := by rw [K1.out, K3.out]; decide
            exact key
      · obtain ⟨rfl, hq0⟩ : k = 0 ∧ q.size ≠ 0 := by omega
        have hqe : q.toList.isEmpty = false := empty_ne q (by omega)
        have hqn : q.toList ≠ [] := toList_ne q (by omega)
        clear hgo
        go_wp2_with fail
        clear hqe hqn
        go_loop [6, 8] (fun t i => ∃ (k : Nat) (q : ByteArray), i = .int .i64 k ∧ t = .string q ∧ k ≤ 4194304 ∧ q.size ≤ 23 ∧ Hid (Dig 16 N k q)) (fun t i => 2 * (intOf i).toNat + emp t)
        case atStart => exact ⟨N, ⟨#[]⟩, rfl, rfl, hN, by decide, Lib.hid (Dig.start 16 N hN)⟩
        case round =>
          obtain ⟨k, x, rfl, rfl, hk, hx, HX⟩ := hrel
          by_cases hgo : 0 < k ∨ x.size = 0
          · have HN := Lib.hid (HX.out.step16 hgo)
            have hsz := HN.out.len2
            have hpre : (0 < k) ∨ (k = 0 ∧ x.toList = []) := by
              by_cases h : 0 < k
              · exact .inl h
              · refine .inr ⟨by omega, ?_⟩
                rw [Lib.toList_data]
                exact List.length_eq_zero_iff.1 (by rw [len_data]; omega)
            have K1 := Lib.hid (emp_pos (ext_pos hexT x (k % 16) (by show k % 16 + 1 ≤ 16; omega)))
            have K2 := Lib.hid (emp_le x)
            rcases hpre with h | ⟨rfl, h⟩
            · clear hgo
              go_wp2_with fail
              go_round
              case rel => exact ⟨_, hexT.extract (k % 16) (k % 16 + 1) ++ x, by go_num, rfl, by omega, hsz, HN⟩
              case measure =>
                have key : 2 * (k / 16) + emp (.string (hexT.extract (k % 16) (k % 16 + 1) ++ x)) < 2 * k + emp (.string x) := by rw [K1.out]; omega
                exact key
            · have K3 := Lib.hid (emp_one (q := x) (by rcases hgo with h | h <;> omega))
              clear hgo
              go_wp2_with fail
              go_round
              case rel => exact ⟨0, hexT.extract (0 % 16) (0 % 16 + 1) ++ x, rfl, rfl, by omega, hsz, HN⟩
              case measure =>
                have key : 2 * 0 + emp (.string (hexT.extract (0 % 16) (0 % 16 + 1) ++ x)) < 2 * 0 + emp (.string x) := by rw [K1.out, K3.out]; decide
                exact key
          · obtain ⟨rfl, hx0⟩ : k = 0 ∧ x.size ≠ 0 := by omega
            have hxe : x.toList.isEmpty = false := empty_ne x (by omega)
            have hxn : x.toList ≠ [] := toList_ne x (by omega)
            have F1 := Lib.hid (find_ten (e := 59) (more := more.data.toList) (s := (⟨#[38, 35]⟩ : ByteArray) ++ q ++ ⟨#[59]⟩ ++ more) true HD.out hq0 (by simp [ByteArray.data_append]) (by decide))
            have F2 := Lib.hid (find_hex (more := more.data.toList) (s := (⟨#[38, 35, 120]⟩ : ByteArray) ++ x ++ ⟨#[59]⟩ ++ more) false HX.out hx0 (by simp [ByteArray.data_append]))
            have F3 := Lib.hid (find_ten (e := 33) (more := more.data.toList) (s := (⟨#[38, 35]⟩ : ByteArray) ++ q ++ ⟨#[33]⟩ ++ more) true HD.out hq0 (by simp [ByteArray.data_append]) (by decide))
            have hsg := signF_pos (min (N : Int) 2097152)
            clear hgo
            go_wp2_with fail
            clear hxe hxn
            refine (find_any _ true _ (by rw [ByteArray.size_append, ByteArray.size_append, ByteArray.size_append]; show 2 + _ + 1 + _ ≤ 1000000; omega)).mono ?_
            rintro e w1 ⟨rfl, h1⟩
            rw [F1.out]
            have H1 := Lib.hid h1
            clear h1
            go_wp2_with fail
            refine (find_any _ false _ (by rw [ByteArray.size_append, ByteArray.size_append, ByteArray.size_append]; show 3 + _ + 1 + _ ≤ 1000000; omega)).mono ?_
            rintro e w2 ⟨rfl, h2⟩
            rw [F2.out]
            have H2 := Lib.hid h2
            clear h2
            go_wp2_with fail
            refine (find_any _ true _ (by rw [ByteArray.size_append, ByteArray.size_append, ByteArray.size_append]; show 2 + _ + 1 + _ ≤ 1000000; omega)).mono ?_
            rintro e w3 ⟨rfl, h3⟩
            rw [F3.out]
            have H3 := Lib.hid h3
            clear h3
            go_wp2_with fail
            refine (begun_any _).mono ?_
            rintro e w4 ⟨rfl, h4⟩
            have H4 := Lib.hid h4
            clear h4
            generalize signF (min (N : Int) 2097152) = sg at *
            have hsn : sg ≠ [] := by intro e; rw [e] at hsg; simp at hsg
            go_wp2_with fail
            go_ret
            refine ⟨ret_bool (by cases sg with | nil => exact absurd rfl hsn | cons _ _ => rfl), ?_⟩
            have b1 := H1.out
            have b2 := b1.trans (H2.out.mono b1.size)
            have b3 := b2.trans (H3.out.mono b2.size)
            exact b3.trans (H4.out.mono b3.size)
end Go.Proofs.Ytjhamomdlpoilaa.Ent
