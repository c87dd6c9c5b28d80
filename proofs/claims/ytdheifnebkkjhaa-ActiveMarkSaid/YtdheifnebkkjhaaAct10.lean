/- Package active: Found, Find, Clear. -/
import Derived.Test.YtdheifnebkkjhaaAct9
namespace Go.Proofs.Ytdheifnebkkjhaa.Act
open Go.RowKit Go.Proofs.YtdheifnebkkjhaaW.PrintWords
set_option linter.unusedVariables false
set_option linter.unusedSimpArgs false

def foundK (L : List Sk) (nm : ByteArray) : Nat → Int
  | 0 => -1
  | k + 1 => if k < lastS L then -1 else if (L.getD k zSk).2.1.toList == nm.toList then (k : Int) else foundK L nm k
theorem foundK_ge (L : List Sk) (nm : ByteArray) : ∀ k, -1 ≤ foundK L nm k ∧ foundK L nm k < k
  | 0 => by simp [foundK]
  | k + 1 => by
    have := foundK_ge L nm k
    simp only [foundK]
    split
    · omega
    · split <;> omega
set_option maxHeartbeats 4000000 in
theorem found_any (A : Option Addr) (n c : Nat) (xs : List It) (nm : ByteArray) (w : World) (hr : RIt w A n xs) :
    Calls Try.prog 14 #[.slice A n c, .string nm] w fun e w' => e = .returned (.int .i64 (foundK (xs.map sk) nm n)) ∧ Below w.heap.size w w' := by
  have hnm : n ≤ 9223372036854775807 := hr.2.1
  have HL := Lib.hid hr.len
  have HR := Lib.hid hr
  have HLa : Hid (∀ W, Below w.heap.size w W → Calls Try.prog 21 #[.slice A n c] W fun e w' => e = .returned (.int .i64 (lastS (xs.map sk))) ∧ Below w.heap.size w w') := Lib.hid (fun W hb => (last_any A n c xs W (hr.below hb)).mono (fun e w' h => ⟨by rw [← lastF_sk]; exact h.1, hb.trans (h.2.mono hb.size)⟩))
  clear hr
  go_enter Try.func14, Try.ntmps14
  have hw0 : IntKind.i64.wrap ((n : Int) - 1) = (n : Int) - 1 := by rw [IntKind.wrap_i64]; omega
  go_wp2_with fail
  have H0 : Hid (∃ i : Int, i = (n : Int) - 1 ∧ ((i = -1 ∧ foundK (xs.map sk) nm n = -1) ∨ ∃ m : Nat, m < n ∧ i = m ∧ foundK (xs.map sk) nm n = foundK (xs.map sk) nm (m + 1))) := Lib.hid (by
    refine ⟨_, rfl, ?_⟩
    cases n with
    | zero => exact .inl ⟨rfl, rfl⟩
    | succ m => exact .inr ⟨m, Nat.lt_succ_self m, by omega, rfl⟩)
  obtain ⟨i0, hi0, HI⟩ := H0.out
  rw [← hi0]
  have HI := Lib.hid HI
  clear hw0 hi0 H0
  go_loopw [5] (fun i wr => ∃ j : Int, i = .int .i64 j ∧ Hid (Below w.heap.size w wr) ∧ Hid ((j = -1 ∧ foundK (xs.map sk) nm n = -1) ∨ ∃ m : Nat, m < n ∧ j = m ∧ foundK (xs.map sk) nm n = foundK (xs.map sk) nm (m + 1)))
    (fun i _ => (intOf i + 1).toNat)
  case atStart => exact ⟨i0, rfl, Lib.hid (Below.refl _ _), HI⟩
  case round =>
    obtain ⟨j, rfl, HB, HJ⟩ := hrel
    clear HI
    rcases HJ.out with ⟨rfl, hj⟩ | ⟨m, hm, rfl, hj⟩
    · have HE := Lib.hid hj
      clear HJ hj
      go_wp2_with fail
      refine (HLa.out _ HB.out).mono ?_
      rintro e w1 ⟨rfl, hb⟩
      have HB1 := Lib.hid hb
      clear hb
      have hlt : ¬ (((lastS (xs.map sk) : Nat) : Int) ≤ -1) := by omega
      go_wp2_with fail
      go_ret
      exact ⟨by rw [HE.out]; rfl, HB1.out⟩
    · have HE := Lib.hid hj
      clear HJ hj
      obtain ⟨ad, rfl, c0, c1, c2⟩ := (HR.out.below HB.out).cells m hm
      have HC : Hid (∀ W, Below w.heap.size w W → W.cell? ⟨(ad.add (m * 3)).block, (ad.add (m * 3)).off + 1, none⟩ = some (.string ((xs.map sk).getD m zSk).2.1)) := Lib.hid (fun W hb => by
        obtain ⟨ad', e, -, c1, -⟩ := (HR.out.below hb).cells m hm
        injection e with e
        subst e
        rw [getD_sk]
        exact c1)
      clear c0 c1 c2
      go_wp2_with fail
      refine (HLa.out _ HB.out).mono ?_
      rintro e w1 ⟨rfl, hb⟩
      have HB1 := Lib.hid hb
      clear hb
      by_cases hlt : lastS (xs.map sk) ≤ m
      · have c1 := HC.out w1 HB1.out
        have HF : Hid (foundK (xs.map sk) nm n = if ((xs.map sk).getD m zSk).2.1.toList == nm.toList then (m : Int) else foundK (xs.map sk) nm m) := Lib.hid (by rw [HE.out]; simp only [foundK]; rw [if_neg (by omega)])
        generalize ((xs.map sk).getD m zSk).2.1 = s1 at *
        have hwm : IntKind.i64.wrap ((m : Int) - 1) = (m : Int) - 1 := by rw [IntKind.wrap_i64]; omega
        by_cases hs : s1.toList = nm.toList
        · have HF1 : Hid (foundK (xs.map sk) nm n = m) := Lib.hid (by rw [HF.out, hs]; simp)
          go_wp2_with fail
          go_ret
          exact ⟨by rw [HF1.out]; rfl, HB1.out⟩
        · have HF1 : Hid (foundK (xs.map sk) nm n = foundK (xs.map sk) nm m) := Lib.hid (by rw [HF.out, if_neg (by simpa using hs)])
          have hs' : (s1.toList == nm.toList) = false := by simpa using hs
          go_wp2_with fail
          go_roundw
          case rel =>
            refine ⟨(m : Int) - 1, rfl, HB1, Lib.hid ?_⟩
            cases m with
            | zero => exact .inl ⟨by omega, by rw [HF1.out]; rfl⟩
            | succ q => exact .inr ⟨q, by omega, by omega, HF1.out⟩
          case measure => simp [intOf, hwm]; try omega
      · have HF1 : Hid (foundK (xs.map sk) nm n = -1) := Lib.hid (by rw [HE.out]; simp only [foundK]; rw [if_pos (by omega)])
        go_wp2_with fail
        go_ret
        exact ⟨by rw [HF1.out]; rfl, HB1.out⟩
set_option maxHeartbeats 4000000 in
theorem find_any (A : Option Addr) (n c : Nat) (xs : List It) (nm : ByteArray) (w : World) (hr : RIt w A n xs) :
    Calls Try.prog 6 #[.slice A n c, .string nm] w fun e w' => Below w.heap.size w w' ∧
      ((chkS (xs.map sk) ≠ 0 ∧ e = .returned (.tuple #[.int .i64 0, .bool false, .int .i64 (chkS (xs.map sk))])) ∨
       (chkS (xs.map sk) = 0 ∧ e = .returned (.tuple #[.int .i64 (max (foundK (xs.map sk) nm n) 0), .bool (decide (0 ≤ foundK (xs.map sk) nm n)), .int .i64 0]))) := by
  have HC : Hid (∀ W, Below w.heap.size w W → Calls Try.prog 12 #[.slice A n c] W fun e w' => e = .returned (.int .i64 (chkS (xs.map sk))) ∧ Below w.heap.size w w') := Lib.hid (fun W hb => (check_any A n c xs W (hr.below hb)).mono (fun e w' h => ⟨by rw [← chkF_sk]; exact h.1, hb.trans (h.2.mono hb.size)⟩))
  have HF : Hid (∀ W, Below w.heap.size w W → Calls Try.prog 14 #[.slice A n c, .string nm] W fun e w' => e = .returned (.int .i64 (foundK (xs.map sk) nm n)) ∧ Below w.heap.size w w') := Lib.hid (fun W hb => (found_any A n c xs nm W (hr.below hb)).mono (fun e w' h => ⟨h.1, hb.trans (h.2.mono hb.size)⟩))
  clear hr
  obtain ⟨z, hz⟩ : ∃ z, z = chkS (xs.map sk) := ⟨_, rfl⟩
  rw [← hz] at HC
  have HZ := Lib.hid hz
  clear hz
  obtain ⟨f, hf⟩ : ∃ f, f = foundK (xs.map sk) nm n := ⟨_, rfl⟩
  rw [← hf] at HF
  have HFo := Lib.hid hf
  clear hf
  go_enter Try.func6, Try.ntmps6
  go_wp2_with fail
  refine (HC.out _ (Below.refl _ _)).mono ?_
  rintro e w1 ⟨rfl, hb⟩
  have HB := Lib.hid hb
  clear hb
  by_cases h0 : z = 0
  · subst h0
    go_wp2_with fail
    refine (HF.out _ HB.out).mono ?_
    rintro e w2 ⟨rfl, hb⟩
    have HB2 := Lib.hid hb
    clear hb
    rcases Decidable.em (f < 0) with h | h
    · have hmx : max f 0 = 0 := by omega
      have hge : ¬ (0 ≤ f) := by omega
      go_wp2_with fail
      go_ret3
      refine ⟨HB2.out, .inr ⟨HZ.out.symm, ?_⟩⟩
      rw [← HFo.out, hmx, decide_eq_false (Int.not_le.2 h)]
      rfl
    · have hmx : max f 0 = f := by omega
      have hge : 0 ≤ f := by omega
      go_wp2_with fail
      go_ret3
      refine ⟨HB2.out, .inr ⟨HZ.out.symm, ?_⟩⟩
      rw [← HFo.out, hmx, decide_eq_true hge]
      rfl
  · go_wp2_with fail
    go_ret3
    refine ⟨HB.out, .inl ⟨fun e => h0 (HZ.out.trans e), ?_⟩⟩
    rw [← HZ.out]
    rfl
theorem RIt.take {w : World} {A : Option Addr} {n m : Nat} {xs : List It} (h : RIt w A n xs) (hm : m ≤ n) : RIt w A m (xs.take m) := by
  refine ⟨by rw [List.length_take, h.1]; omega, by have := h.2.1; omega, fun h0 => ?_⟩
  obtain ⟨ad, e, hc⟩ := h.2.2 (by omega)
  refine ⟨ad, e, fun j p hj => hc j p ?_⟩
  rw [List.getElem?_take] at hj
  split at hj
  · exact hj
  · cases hj
theorem lastS_le (L : List Sk) : lastS L ≤ L.length := by
  have : ∀ k, lastSK L k ≤ k := by
    intro k
    induction k with
    | zero => exact Nat.le_refl _
    | succ k ih => simp only [lastSK]; split <;> omega
  exact this _
set_option maxHeartbeats 4000000 in
theorem cleared_any (A : Option Addr) (n c : Nat) (xs : List It) (w : World) (hr : RIt w A n xs) (hc : n ≤ c) (hc9 : c ≤ 9223372036854775807) :
    Calls Try.prog 16 #[.slice A n c] w fun e w' => e = .returned (.slice A (lastS (xs.map sk) - 1) c) ∧ Below w.heap.size w w' := by
  have hle : lastS (xs.map sk) ≤ n := by have := lastS_le (xs.map sk); rw [List.length_map, hr.len] at this; exact this
  have HLa : Hid (∀ W, Below w.heap.size w W → Calls Try.prog 21 #[.slice A n c] W fun e w' => e = .returned (.int .i64 (lastS (xs.map sk))) ∧ Below w.heap.size w w') := Lib.hid (fun W hb => (last_any A n c xs W (hr.below hb)).mono (fun e w' h => ⟨by rw [← lastF_sk]; exact h.1, hb.trans (h.2.mono hb.size)⟩))
  clear hr
  generalize lastS (xs.map sk) = m at *
  have hwm : IntKind.i64.wrap ((m : Int) - 1) = (m : Int) - 1 := by rw [IntKind.wrap_i64]; omega
  have hmc : m ≤ c := by omega
  go_enter Try.func16, Try.ntmps16
  go_wp2_with (refine (HLa.out _ ?_).mono ?_; ((repeat (first | refine below_alloc ?_ _ | refine below_drew ?_)); exact Below.refl _ _); rintro e w1 ⟨rfl, hb⟩)
  · go_ret
    refine ⟨?_, hb⟩
    rw [show m - 1 = 0 from by omega]
    rfl
  · go_ret
    exact ⟨rfl, hb⟩
set_option maxHeartbeats 4000000 in
theorem clear_any (A : Option Addr) (n c : Nat) (xs : List It) (w : World) (hr : RIt w A n xs) (ha : ∀ x ∈ xs, RA w x) (hn : n ≤ 1000) :
    Calls Try.prog 9 #[.slice A n c] w fun e w' => Below w.heap.size w w' ∧
      ((chkS (xs.map sk) ≠ 0 ∧ e = .returned (.tuple #[.slice none 0 0, .int .i64 (chkS (xs.map sk))])) ∨
       (chkS (xs.map sk) = 0 ∧ ∃ A' c' zs, e = .returned (.tuple #[.slice A' zs.length c', .int .i64 0]) ∧ RIt w' A' zs.length zs ∧ zs.map sk = (xs.map sk).take (lastS (xs.map sk) - 1))) := by
  have HC : Hid (∀ W, Below w.heap.size w W → Calls Try.prog 12 #[.slice A n c] W fun e w' => e = .returned (.int .i64 (chkS (xs.map sk))) ∧ Below w.heap.size w w') := Lib.hid (fun W hb => (check_any A n c xs W (hr.below hb)).mono (fun e w' h => ⟨by rw [← chkF_sk]; exact h.1, hb.trans (h.2.mono hb.size)⟩))
  have HO : Hid (∀ W, Below w.heap.size w W → Calls Try.prog 10 #[.slice A n c] W fun e w' => ∃ A' c' ys, e = .returned (.slice A' n c') ∧ OIt w' W.heap.size (.slice A' n c') ys ∧ ys.length = n ∧ ys.map sk = xs.map sk ∧ Below w.heap.size w w') := Lib.hid (fun W hb => by
    refine (own_any A n c xs W (hr.below hb) (fun x hx => (ha x hx).below hb) hn).mono ?_
    rintro e w' ⟨v, ys, rfl, hl, hs, hb'⟩
    have hyl : ys.length = n := by have := congrArg List.length hs; simp only [List.length_map] at this; rw [this]; exact hr.len
    have ho := hl.1
    obtain ⟨A', c', rfl⟩ := own_slice ho
    rw [hyl] at ho ⊢
    exact ⟨A', c', ys, rfl, ho, hyl, hs, hb.trans (hb'.mono hb.size)⟩)
  clear hr ha
  go_enter Try.func9, Try.ntmps9
  go_wp2_with fail
  refine (HC.out _ (Below.refl _ _)).mono ?_
  rintro e w1 ⟨rfl, hb⟩
  have HB := Lib.hid hb
  clear hb
  obtain ⟨z, hz⟩ : ∃ z, z = chkS (xs.map sk) := ⟨_, rfl⟩
  rw [← hz]
  have HZ := Lib.hid hz
  clear hz
  by_cases h0 : z = 0
  · subst h0
    go_wp2_with fail
    refine (HO.out _ HB.out).mono ?_
    rintro e w2 ⟨A', c', ys, rfl, ho, hyl, hs, hb2⟩
    have hrd := ho.reads
    obtain ⟨A9, c9, e9, hrd⟩ := hrd
    injection e9 with e9 e10 e11
    subst e9
    rw [hyl] at hrd
    have hc : n ≤ c' := by have := own_le ho; omega
    have hc9 : c' ≤ 9223372036854775807 := by
      rcases ho.2 with ⟨h, _⟩ | ⟨g', cap, cur, h, _, _, _, h2, _⟩
      · injection h with _ _ h
        omega
      · injection h with _ _ h
        subst h
        unfold maxLen at h2
        omega
    have HCl := Lib.hid (cleared_any A' n c' ys w2 hrd hc hc9)
    have HB2 := Lib.hid hb2
    have HS := Lib.hid hs
    have HRd := Lib.hid hrd
    have HYl := Lib.hid hyl
    clear e10 e11 ho hrd hyl hs hb2 hc hc9
    go_wp2_with fail
    refine HCl.out.mono ?_
    rintro e w3 ⟨rfl, hb3⟩
    have HB3 := Lib.hid hb3
    clear hb3
    go_wp2_with fail
    go_ret2
    have hle : lastS (ys.map sk) ≤ n := by have := lastS_le (ys.map sk); rw [List.length_map, HYl.out] at this; exact this
    have htl : (ys.take (lastS (ys.map sk) - 1)).length = lastS (ys.map sk) - 1 := by rw [List.length_take, HYl.out]; omega
    refine ⟨HB2.out.trans (HB3.out.mono HB2.out.size), .inr ⟨HZ.out.symm, A', c', ys.take (lastS (ys.map sk) - 1), by rw [htl]; rfl, ?_, ?_⟩⟩
    · rw [htl]
      exact (HRd.out.below HB3.out).take (by omega)
    · rw [List.map_take, HS.out]
  · go_wp2_with fail
    go_ret2
    exact ⟨HB.out, .inl ⟨fun e => h0 (HZ.out.trans e), by rw [HZ.out]; rfl⟩⟩
end Go.Proofs.Ytdheifnebkkjhaa.Act
