/- The law CharsBack: the walk. -/
import Derived.Test.YtjhamomdlpoilabDoorTwice
namespace Go.Proofs.YtjhamomdlpoilabDoor.Chars
open Go.RowKit Go.Shelf Go.Proofs.YtjhamomdlpoilabDoorW.PrintWords Go.Proofs.YtjhamomdlpoilabDoor.Keep
set_option linter.unusedVariables false
set_option linter.unusedSimpArgs false

theorem norm_lo {x : Int} (h : 0 ≤ x ∧ x < 55296) : norm x = x := norm_of (by rw [valid_iff]; omega)
theorem norm_hi {x : Int} (h : 57343 < x ∧ x ≤ 1114111) : norm x = x := norm_of (by rw [valid_iff]; omega)
theorem norm_not {x : Int} (h : x < 0 ∨ (55296 ≤ x ∧ x ≤ 57343) ∨ 1114111 < x) : norm x = 65533 := by
  unfold norm
  rw [if_neg]
  rw [valid_iff]
  omega
theorem decF_rng (l : List UInt8) : ∀ r ∈ decF l, -2147483648 ≤ r ∧ r ≤ 2147483647 := by
  suffices h : ∀ (k p : Nat) (l : List UInt8), ∀ x ∈ signsK k p l, -2147483648 ≤ x.2 ∧ x.2 ≤ 2147483647 by
    intro r hr
    obtain ⟨x, hx, rfl⟩ := List.mem_map.1 hr
    exact h _ _ _ x hx
  intro k
  induction k with
  | zero => intro p l x hx; simp [signsK] at hx
  | succ k ih =>
    intro p l x hx
    simp only [signsK] at hx
    split at hx
    · simp at hx
    · rcases List.mem_cons.1 hx with e | hx
      · subst e
        have := oneF_rng l
        dsimp only
        omega
      · exact ih _ _ x hx
theorem getD_map_norm (xs : List Int) (k : Nat) (h : k < xs.length) : (xs.map norm).getD k 0 = norm (xs.getD k 0) := by
  rw [List.getD_eq_getElem?_getD, List.getD_eq_getElem?_getD, List.getElem?_map, List.getElem?_eq_getElem h]
  rfl
set_option maxRecDepth 100000 in
set_option maxHeartbeats 4000000 in
theorem charsBack_law (A : Option Addr) (c : Nat) (ls : List Int) (s0 : ByteArray) (w : World) (hr : ReadsInt w .i32 A ls.length ls) (hc : ls.length ≤ c) (h32 : ∀ x ∈ ls, -2147483648 ≤ x ∧ x ≤ 2147483647) (hs : s0.size ≤ 140737488351232) (hT : Tabs w) :
    Calls Tryd.prog 4 #[.slice A ls.length c, .string s0] w fun e w' => e = .returned (.bool true) ∧ Below w.heap.size w w' := by
  obtain ⟨i0, hi, hz0, hz1, hz2⟩ := info_parts infoI32
  obtain ⟨m, hm⟩ : ∃ m : Nat, m = min ls.length 200 := ⟨_, rfl⟩
  obtain ⟨hcut, hrd, hcap⟩ := print_take_int (P := Tryd.prog) (k := .i32) 27 21 Tryd.underlying27 hi hz1 A c ls (m : Int) (by omega) (by omega) hc
  have HR := Lib.hid (hrd w hr)
  obtain ⟨xs, hxs⟩ : ∃ xs, xs = ls.take (m : Int).toNat := ⟨_, rfl⟩
  have H32 : Hid (∀ x ∈ xs, -2147483648 ≤ x ∧ x ≤ 2147483647) := Lib.hid (fun x hx => h32 x (by rw [hxs] at hx; exact List.mem_of_mem_take hx))
  rw [← hxs] at hcut HR hcap
  have hxl : xs.length = m := by rw [hxs, List.length_take]; omega
  have hmin : min (ls.length : Int) 200 = (m : Int) := by omega
  rw [hxl] at hcut HR hcap
  have hcutq := hcut
  rw [hm] at hcutq
  clear hxs hr hrd h32
  have HT := Lib.hid hT
  clear hT
  have HSM : Hid (∀ W, Calls Tryd.prog 9 #[.string s0, .int .i64 300] W fun e w' => e = .returned (.string (s0.extract 0 (min s0.size 300))) ∧ w' = W) := Lib.hid (fun W => (some_any s0 300 W hs).mono fun e w' h => ⟨h.1, h.2.symm⟩)
  go_enter Tryd.func4, Tryd.ntmps4
  go_wp2_with fail
  go_quiet ((go_at_call 9; exact Calls.quiet_of_same (HSM.out _)))
  have hs2 : (s0.extract 0 (min s0.size 300)).size ≤ 300 := by simp; omega
  generalize s0.extract 0 (min s0.size 300) = s at *
  rw [← hm]
  have HRD : Hid (ReadsInt (w.drewN nq) .i32 A m xs) := Lib.hid (HR.out.below (pw_below_drewN (Below.refl _ _) _))
  have HBD : Hid (Below w.heap.size w (w.drewN nq)) := Lib.hid (pw_below_drewN (Below.refl _ _) _)
  generalize w.drewN nq = wq at *
  go_wp2_with fail
  rw [← hm]
  clear hcut hcutq hmin
  have hm200 : m ≤ 200 := by omega
  have HXL := Lib.hid hxl
  clear hxl hm
  refine (encode_any A m c xs _ HRD.out H32.out (by omega)).mono ?_
  rintro e w1 ⟨rfl, hb⟩
  have HB1 := Lib.hid (HBD.out.trans (hb.mono HBD.out.size))
  clear hb
  go_wp2_with fail
  have hle : (ByteArray.mk (encL xs).toArray).size ≤ 1000000 := by
    have := encL_le xs
    have := HXL.out
    rw [size_mk]; omega
  refine (decode_any ⟨(encL xs).toArray⟩ hle _).mono ?_
  rintro e w2 ⟨v, rfl, hown, hb⟩
  rw [data_mk, dec_encL] at hown
  obtain ⟨A2, c2, rfl, hrd2⟩ := own_reads (k := .i32) (xs := xs.map norm) hown
  have HR2 := Lib.hid hrd2
  have HB2 := Lib.hid (HB1.out.trans (hb.mono HB1.out.size))
  have hnl : (xs.map norm).length = m := by rw [List.length_map]; exact HXL.out
  rw [hnl] at HR2 ⊢
  clear hown hrd2 hb hnl hle
  go_wp2_with fail
  refine (begun_any _).mono ?_
  rintro e w3 ⟨rfl, hb⟩
  have HB3 := Lib.hid (HB2.out.trans (hb.mono HB2.out.size))
  have HR3 := Lib.hid (HR2.out.below hb)
  clear hb HR2
  go_wp2_with fail
  go_loopw [6] (fun i wr => ∃ k : Nat, k ≤ m ∧ i = .int .i64 k ∧ Hid (Below w3.heap.size w3 wr))
    (fun i _ => m - (intOf i).toNat)
  case atStart => exact ⟨0, Nat.zero_le _, rfl, Lib.hid (Below.refl _ _)⟩
  case round =>
    obtain ⟨k, hk, rfl, HBW⟩ := hrel
    by_cases hlt : k < m
    · obtain ⟨ad, rfl, hcell⟩ := HR.out.2.2 (by omega)
      obtain ⟨ad2, rfl, hcell2⟩ := HR3.out.2.2 (by omega)
      have hc1 := pw_cell_below (HB3.out.trans (HBW.out.mono HB3.out.size)) (hcell k hlt)
      have hc2 := pw_cell_below HBW.out (hcell2 k hlt)
      rw [getD_map_norm xs k (by have := HXL.out; omega)] at hc2
      clear hcell hcell2
      generalize xs.getD k 0 = x at *
      by_cases h1 : x < 0
      · have b1 : (65533 != (65533 : Int)) = false := by decide
        rw [norm_not (by omega)] at hc2
        go_wp2_with fail
        go_quiet (fail)
        go_wp2_with fail
        go_roundw
        case rel => exact ⟨k + 1, by omega, by go_num, Lib.hid (pw_below_drewN HBW.out _)⟩
        case measure => simp [intOf]; omega
      by_cases h2 : x < 55296
      · have b1 : (x != x) = false := by simp
        rw [norm_lo (by omega)] at hc2
        go_wp2_with fail
        go_quiet (fail)
        go_wp2_with fail
        go_roundw
        case rel => exact ⟨k + 1, by omega, by go_num, Lib.hid (pw_below_drewN HBW.out _)⟩
        case measure => simp [intOf]; omega
      by_cases h3 : x ≤ 57343
      · have b1 : (65533 != (65533 : Int)) = false := by decide
        rw [norm_not (by omega)] at hc2
        go_wp2_with fail
        go_quiet (fail)
        go_wp2_with fail
        go_roundw
        case rel => exact ⟨k + 1, by omega, by go_num, Lib.hid (pw_below_drewN HBW.out _)⟩
        case measure => simp [intOf]; omega
      by_cases h4 : x ≤ 1114111
      · have b1 : (x != x) = false := by simp
        rw [norm_hi (by omega)] at hc2
        go_wp2_with fail
        go_quiet (fail)
        go_wp2_with fail
        go_roundw
        case rel => exact ⟨k + 1, by omega, by go_num, Lib.hid (pw_below_drewN HBW.out _)⟩
        case measure => simp [intOf]; omega
      · have b1 : (65533 != (65533 : Int)) = false := by decide
        rw [norm_not (by omega)] at hc2
        go_wp2_with fail
        go_quiet (fail)
        go_wp2_with fail
        go_roundw
        case rel => exact ⟨k + 1, by omega, by go_num, Lib.hid (pw_below_drewN HBW.out _)⟩
        case measure => simp [intOf]; omega
    · obtain rfl : k = m := by omega
      have HB4 := Lib.hid (HB3.out.trans (HBW.out.mono HB3.out.size))
      go_wp2_with fail
      refine (decode_any s (by omega) _).mono ?_
      rintro e w4 ⟨v, rfl, hown, hb⟩
      obtain ⟨A4, c4, rfl, hrd4⟩ := own_reads (k := .i32) (xs := decF s.data.toList) hown
      have HR4 := Lib.hid hrd4
      have HB5 := Lib.hid (HB4.out.trans (hb.mono HB4.out.size))
      have hdl := decF_le s.data.toList
      rw [len_data] at hdl
      have HDR : Hid (∀ r ∈ decF s.data.toList, -2147483648 ≤ r ∧ r ≤ 2147483647) := Lib.hid (decF_rng s.data.toList)
      have HRI : Hid ((encL (decF s.data.toList) = s.data.toList) ↔ Lib.validD s.data.toList = true) := Lib.hid (right_iff _)
      clear hown hrd4 hb
      generalize decF s.data.toList = ds at *
      go_wp2_with fail
      refine (encode_any A4 ds.length c4 ds _ HR4.out HDR.out (by omega)).mono ?_
      rintro e w5 ⟨rfl, hb⟩
      have HB6 := Lib.hid (HB5.out.trans (hb.mono HB5.out.size))
      clear hb
      have hel := encL_le ds
      have HV := Lib.hid (validD_encL ds)
      have HTS : Hid ((ByteArray.mk (encL ds).toArray = s) ↔ Lib.validD s.data.toList = true) := Lib.hid (by
        rw [← HRI.out]
        constructor
        · intro e; rw [← e]
        · intro e; exact WideShapes.bytes_inj (by rw [data_mk]; exact e))
      have hsz5 := size_mk (encL ds)
      have HVD : Hid (Lib.validD (ByteArray.mk (encL ds).toArray).data.toList = true) := Lib.hid (by rw [data_mk]; exact HV.out)
      generalize ByteArray.mk (encL ds).toArray = t at *
      go_wp2_with fail
      refine (right_any t _ (by omega) (tabs_below HT.out HB6.out)).mono ?_
      rintro e w6 ⟨rfl, hb⟩
      have HB7 := Lib.hid (HB6.out.trans (hb.mono HB6.out.size))
      clear hb
      rw [HVD.out]
      go_wp2_with fail
      refine (right_any s _ (by omega) (tabs_below HT.out HB7.out)).mono ?_
      rintro e w7 ⟨rfl, hb⟩
      have HB8 := Lib.hid (HB7.out.trans (hb.mono HB7.out.size))
      clear hb
      generalize Lib.validD s.data.toList = vs at *
      have hfin : ((t.toList == s.toList) == vs) = true := by
        have h := HTS.out
        rw [Lib.toList_data, Lib.toList_data]
        cases vs
        · have hne : t.data.toList ≠ s.data.toList := fun e => Bool.noConfusion (h.1 (WideShapes.bytes_inj e))
          rw [beq_eq_false_iff_ne.2 hne]
          rfl
        · rw [h.2 rfl]; first | done | simp
      have HF := Lib.hid hfin
      clear hfin
      go_wp2_with fail
      go_ret
      exact ⟨congrArg (fun b => Ending.returned (.bool b)) HF.out, HB8.out⟩
theorem charsBack_row (A : Option Addr) (n c : Nat) (ls : List Int) (s0 : ByteArray) (w : World) (hr : ReadsInt w .i32 A n ls) (hc : n ≤ c ∧ ∀ x ∈ ls, (Lit.int .i32 x).wf = true) (hs : s0.size ≤ 140737488351232) (hT : Tabs w) :
    Calls Tryd.prog 4 #[.slice A n c, .string s0] w fun e w' => e = .returned (.bool true) ∧ Below w.heap.size w w' := by
  obtain rfl := hr.1
  refine charsBack_law A c ls s0 w hr hc.1 (fun x hx => ?_) hs hT
  have := hc.2 x hx
  simp [Lit.wf] at this
  have h1 : IntKind.i32.min = -2147483648 := by decide
  have h2 : IntKind.i32.max = 2147483647 := by decide
  omega
end Go.Proofs.YtjhamomdlpoilabDoor.Chars
