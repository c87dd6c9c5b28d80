/- Package entity: named. -/
import Derived.Test.YtjhamomdlpoilabDoorEnt3
import Derived.Deep.QuietTactic
import Derived.BigQuiet
import Derived.Outline
namespace Go.Proofs.YtjhamomdlpoilabDoor.Ent
open Go.RowKit Go.Proofs.YtjhamomdlpoilabDoorW.PrintWords Go.Proofs.YtjhamomdlpoilabDoor.Chars

def hitF (s : ByteArray) (x : Nm) : Bool := Lib.hasPrefix (s.data.toList.drop 1) x.word.data.toList
def stepF (s : ByteArray) (st : List UInt8 × Nat) (x : Nm) : List UInt8 × Nat :=
  if hitF s x then (if (semF s (x.word.size + 1) = x.word.size + 1 ∧ x.bare = false) ∨ semF s (x.word.size + 1) ≤ st.2 then st else (signF x.sign, semF s (x.word.size + 1))) else st
def foldF (s : ByteArray) (k : Nat) : List UInt8 × Nat := (tab.take k).foldl (stepF s) ([], 0)
def z : Nm := ⟨ByteArray.empty, 0, false⟩
theorem tab_len : tab.length = 48 := rfl
theorem foldF_succ (s : ByteArray) (k : Nat) (h : k < 48) : foldF s (k + 1) = stepF s (foldF s k) (tab.getD k z) := by
  have hl : k < tab.length := h
  unfold foldF
  rw [List.take_succ_eq_append_getElem hl, List.foldl_append, List.getD_eq_getElem?_getD, List.getElem?_eq_getElem hl]
  rfl
theorem tab_ok (k : Nat) : 0 ≤ (tab.getD k z).sign ∧ (tab.getD k z).sign ≤ 2097152 ∧ (tab.getD k z).word.size ≤ 6 := by
  by_cases h : k < 48
  · have H : ∀ i : Fin 48, 0 ≤ (tab.getD i.val z).sign ∧ (tab.getD i.val z).sign ≤ 2097152 ∧ (tab.getD i.val z).word.size ≤ 6 := by decide +kernel
    exact H ⟨k, h⟩
  · rw [List.getD_eq_getElem?_getD, List.getElem?_eq_none (show tab.length ≤ k by rw [tab_len]; omega)]
    decide
theorem hit_room {s : ByteArray} {x : Nm} (h : hitF s x = true) (h1 : 1 ≤ s.size) : x.word.size + 1 ≤ s.size := by
  have e0 : s.data.toList.length = s.size := by rw [Array.length_toList]; rfl
  have e1 : x.word.data.toList.length = x.word.size := by rw [Array.length_toList]; rfl
  have h2 : x.word.data.toList <+: s.data.toList.drop 1 := by
    unfold hitF Lib.hasPrefix at h
    exact List.isPrefixOf_iff_prefix.1 h
  have := h2.length_le
  rw [List.length_drop] at this
  omega
theorem flat_get : ∀ (l : List Nm) (k j : Nat), j < 3 → k < l.length → (l.flatMap nmCells)[k * 3 + j]? = (nmCells (l.getD k z))[j]?
  | [], k, j, _, h => by simp at h
  | x :: r, 0, j, hj, _ => by
    rw [List.flatMap_cons, List.getElem?_append_left (by simp [nmCells]; omega)]
    simp
  | x :: r, k + 1, j, hj, h => by
    rw [List.flatMap_cons, List.getElem?_append_right (by simp [nmCells]; omega)]
    have e : (k + 1) * 3 + j - (nmCells x).length = k * 3 + j := by simp [nmCells]; omega
    rw [e, flat_get r k j hj (by simpa using h)]
    simp
theorem tab_cell (w : World) (k j : Nat) (hk : k < 48) (hj : j < 3) (v : Value) (hv : (nmCells (tab.getD k z))[j]? = some v) :
    (w.alloc (.cells (tab.flatMap nmCells).toArray 113)).cell? ⟨w.heap.size, k * 3 + j, none⟩ = some v := by
  have h := flat_get tab k j hj hk
  rw [hv] at h
  have hh : (w.alloc (.cells (tab.flatMap nmCells).toArray 113)).heap[w.heap.size]? = some (.cells (tab.flatMap nmCells).toArray 113) := heap_alloc_new _ _
  rw [Lib.cell_of_heap hh]
  simpa using h

def namedF (s : ByteArray) (attr : Bool) : List UInt8 × Nat :=
  if attr = true ∧ 0 < (foldF s 48).2 ∧ s.data.toList[(foldF s 48).2 - 1]? ≠ some 59 ∧ (match s.data.toList[(foldF s 48).2]? with | some c => wordF c | none => false) = true then ([], 0) else foldF s 48

theorem namedF_eq (s : ByteArray) (attr : Bool) : namedF s attr = (if attr = true ∧ 0 < (foldF s 48).2 ∧ s.data.toList[(foldF s 48).2 - 1]? ≠ some 59 ∧ (match s.data.toList[(foldF s 48).2]? with | some c => wordF c | none => false) = true then ([], 0) else foldF s 48) := rfl
set_option maxHeartbeats 2000000 in
theorem named_any (s : ByteArray) (attr : Bool) (w : World) (h1 : 1 ≤ s.size) (hs : s.size ≤ 1000000) :
    Calls Tryd.prog 63 #[.string s, .bool attr] w fun e w' => e = .returned (.tuple #[.string ⟨(namedF s attr).1.toArray⟩, .int .i64 (namedF s attr).2]) ∧ Below w.heap.size w w' := by
  go_enter Tryd.func63, Tryd.ntmps63
  go_wp2_with fail
  refine (names_any _).mono ?_
  rintro e w0 ⟨rfl, hw0⟩
  have HC := Lib.hid (fun k (hk : k < 48) => And.intro (tab_cell w k 0 hk (by decide) _ rfl) (And.intro (tab_cell w k 1 hk (by decide) _ rfl) (tab_cell w k 2 hk (by decide) _ rfl)))
  rw [hw0] at HC
  have HW : Hid (Below w.heap.size w w0) := Lib.hid (by rw [← hw0]; exact (Below.refl _ _).alloc (Nat.le_refl _) _)
  have hsz : w.heap.size < w0.heap.size := by rw [← hw0]; simp
  clear hw0
  go_wp2_with fail
  go_loopw [6, 7, 9, 10, 11, 14] (fun t m _ _ _ i wr => ∃ k : Nat, k ≤ 48 ∧ i = .int .i64 k ∧ t = .string ⟨(foldF s k).1.toArray⟩ ∧ m = .int .i64 (foldF s k).2 ∧ (foldF s k).2 ≤ s.size ∧ Hid (Below w0.heap.size w0 wr))
    (fun _ _ _ _ _ i _ => 48 - (intOf i).toNat)
  case atStart => exact ⟨0, by omega, rfl, rfl, rfl, by simp [foldF], Lib.hid (Below.refl _ _)⟩
  case round =>
    obtain ⟨k, hk, rfl, rfl, rfl, hm, HB⟩ := hrel
    by_cases hlt : k < 48
    · obtain ⟨hc0, hc1, hc2⟩ := HC.out k hlt
      have d0 := pw_cell_below HB.out hc0
      have d1 := pw_cell_below HB.out hc1
      have d2 := pw_cell_below HB.out hc2
      have HF := Lib.hid (foldF_succ s k hlt)
      obtain ⟨ok1, ok2, ok3⟩ := tab_ok k
      clear hc0 hc1 hc2
      generalize tab.getD k z = x at *
      obtain ⟨xw, xs, xb⟩ := x
      simp only [Nat.add_zero] at *
      have hex : (s.extract 1 s.size).data.toList = s.data.toList.drop 1 := Lib.extract_to_end s 1
      have HX := Lib.hid hex
      clear hex
      go_wp2_with fail
      by_cases hh : hitF s ⟨xw, xs, xb⟩ = true
      · have hroom : xw.size + 1 ≤ s.size := hit_room hh h1
        have hpre : Lib.hasPrefix (s.extract 1 s.size).data.toList xw.data.toList = true := by rw [HX.out]; exact hh
        have HP := Lib.hid hpre
        have HH := Lib.hid hh
        clear hpre hh
        have hcall := fun W => Tryd.strings_HasPrefix (s.extract 1 s.size) xw W
        rw [HP.out] at hcall
        have HCALL := Lib.hid hcall
        clear hcall
        go_quiet ((go_at_call 76; exact Calls.quiet_of_same (HCALL.out _)))
        have hsem : ∀ W, Calls Tryd.prog 74 #[.string s, .int .i64 ((xw.size : Int) + 1)] W fun e w' => e = .returned (.int .i64 (semF s (xw.size + 1))) ∧ W = w' := fun W => semicolon_any s (xw.size + 1) W hroom (by omega)
        have HSEM := Lib.hid hsem
        clear hsem
        obtain ⟨he1, he2⟩ := semF_le s (xw.size + 1) hroom
        have hst : stepF s (foldF s k) ⟨xw, xs, xb⟩ = (if (semF s (xw.size + 1) = xw.size + 1 ∧ xb = false) ∨ semF s (xw.size + 1) ≤ (foldF s k).2 then foldF s k else (signF xs, semF s (xw.size + 1))) := by
          unfold stepF; rw [if_pos HH.out]
        have HST : Hid (foldF s (k + 1) = _) := Lib.hid (HF.out.trans hst)
        clear hst
        have HBN : Hid (Below w0.heap.size w0 ((wr.alloc (Obj.cells #[Value.string xw, Value.int IntKind.i32 xs, Value.bool xb] 113)).drewN nq)) := Lib.hid (pw_below_drewN (HB.out.alloc HB.out.size _) nq)
        generalize semF s (xw.size + 1) = en at *
        by_cases hle : en ≤ (foldF s k).2
        · have HS : Hid (foldF s (k + 1) = foldF s k) := Lib.hid (by rw [HST.out, if_pos (.inr hle)])
          clear HST
          cases xb with
          | true =>
            have g : ((en : Int) == (xw.size : Int) + 1) = true ∨ ((en : Int) == (xw.size : Int) + 1) = false := by cases ((en : Int) == (xw.size : Int) + 1) <;> simp
            rcases g with g | g
            all_goals
              go_wp2_with fail
              refine (HSEM.out _).mono ?_
              rintro e w' ⟨rfl, rfl⟩
              go_wp2_with fail
              go_roundw
              case rel => exact ⟨k + 1, by omega, by go_num, by rw [HS.out], by rw [HS.out], by rw [HS.out]; exact hm, HBN⟩
              case measure => simp [intOf]; omega
          | false =>
            have g : ((en : Int) == (xw.size : Int) + 1) = true ∨ ((en : Int) == (xw.size : Int) + 1) = false := by cases ((en : Int) == (xw.size : Int) + 1) <;> simp
            rcases g with g | g
            all_goals
              go_wp2_with fail
              refine (HSEM.out _).mono ?_
              rintro e w' ⟨rfl, rfl⟩
              go_wp2_with fail
              go_roundw
              case rel => exact ⟨k + 1, by omega, by go_num, by rw [HS.out], by rw [HS.out], by rw [HS.out]; exact hm, HBN⟩
              case measure => simp [intOf]; omega
        · by_cases hen : en = xw.size + 1
          · have g : ((en : Int) == (xw.size : Int) + 1) = true := by rw [beq_iff_eq]; omega
            cases xb with
            | false =>
              have HS : Hid (foldF s (k + 1) = foldF s k) := Lib.hid (by rw [HST.out, if_pos (.inl ⟨hen, rfl⟩)])
              clear HST hen
              go_wp2_with fail
              refine (HSEM.out _).mono ?_
              rintro e w' ⟨rfl, rfl⟩
              go_wp2_with fail
              go_roundw
              case rel => exact ⟨k + 1, by omega, by go_num, by rw [HS.out], by rw [HS.out], by rw [HS.out]; exact hm, HBN⟩
              case measure => simp [intOf]; omega
            | true =>
              have HS : Hid (foldF s (k + 1) = (signF xs, en)) := Lib.hid (by rw [HST.out, if_neg (by simp; omega)])
              clear HST hen
              go_wp2_with fail
              refine (HSEM.out _).mono ?_
              rintro e w' ⟨rfl, rfl⟩
              go_wp2_with fail
              refine (sign_any xs _ ok1 ok2).mono ?_
              rintro e w3 ⟨rfl, hb3⟩
              have HB3 : Hid (Below w0.heap.size w0 w3) := Lib.hid (HBN.out.trans (hb3.mono HBN.out.size))
              clear hb3
              go_wp2_with fail
              go_roundw
              case rel => exact ⟨k + 1, by omega, by go_num, by rw [HS.out], by rw [HS.out], by rw [HS.out]; exact he2, HB3⟩
              case measure => simp [intOf]; omega
          · have g : ((en : Int) == (xw.size : Int) + 1) = false := by rw [beq_eq_false_iff_ne]; omega
            have HS : Hid (foldF s (k + 1) = (signF xs, en)) := Lib.hid (by rw [HST.out, if_neg (by intro h; rcases h with h | h <;> omega)])
            clear HST hen
            go_wp2_with fail
            refine (HSEM.out _).mono ?_
            rintro e w' ⟨rfl, rfl⟩
            go_wp2_with fail
            refine (sign_any xs _ ok1 ok2).mono ?_
            rintro e w3 ⟨rfl, hb3⟩
            have HB3 : Hid (Below w0.heap.size w0 w3) := Lib.hid (HBN.out.trans (hb3.mono HBN.out.size))
            clear hb3
            go_wp2_with fail
            go_roundw
            case rel => exact ⟨k + 1, by omega, by go_num, by rw [HS.out], by rw [HS.out], by rw [HS.out]; exact he2, HB3⟩
            case measure => simp [intOf]; omega
      · have hh2 : hitF s ⟨xw, xs, xb⟩ = false := by simpa using hh
        have hpre : Lib.hasPrefix (s.extract 1 s.size).data.toList xw.data.toList = false := by rw [HX.out]; exact hh2
        have HP := Lib.hid hpre
        have HS : Hid (foldF s (k + 1) = foldF s k) := Lib.hid (by rw [HF.out]; unfold stepF; rw [if_neg hh])
        clear hpre hh hh2
        have hcall := fun W => Tryd.strings_HasPrefix (s.extract 1 s.size) xw W
        rw [HP.out] at hcall
        have HCALL := Lib.hid hcall
        clear hcall
        go_quiet ((go_at_call 76; exact Calls.quiet_of_same (HCALL.out _)))
        have HBN : Hid (Below w0.heap.size w0 ((wr.alloc (Obj.cells #[Value.string xw, Value.int IntKind.i32 xs, Value.bool xb] 113)).drewN nq)) := Lib.hid (pw_below_drewN (HB.out.alloc HB.out.size _) nq)
        go_wp2_with fail
        go_roundw
        case rel => exact ⟨k + 1, by omega, by go_num, by rw [HS.out], by rw [HS.out], by rw [HS.out]; exact hm, HBN⟩
        case measure => simp [intOf]; omega
    · obtain rfl : k = 48 := by omega
      have HBE : Hid (Below w.heap.size w wr) := Lib.hid (HW.out.trans (HB.out.mono (Nat.le_of_lt hsz)))
      have HN := Lib.hid (namedF_eq s attr)
      generalize foldF s 48 = st at *
      obtain ⟨tx, m0⟩ := st
      dsimp only at *
      cases attr with
      | false =>
        have HR : Hid (namedF s false = (tx, m0)) := Lib.hid (by rw [HN.out, if_neg (by simp)])
        clear HN
        go_wp2_with fail
        go_ret2
        exact ⟨ret_two (by rw [HR.out]) (by rw [HR.out]), HBE.out⟩
      | true =>
        by_cases h0 : m0 = 0
        · subst h0
          have HR : Hid (namedF s true = (tx, 0)) := Lib.hid (by rw [HN.out, if_neg (by simp)])
          clear HN
          go_wp2_with fail
          go_ret2
          exact ⟨ret_two (by rw [HR.out]) (by rw [HR.out]), HBE.out⟩
        · have h0' : 0 < m0 := by omega
          have hi : m0 - 1 < s.size := by omega
          have hg : s.data.toList[m0 - 1]? = some s[m0 - 1] := Lib.data_getElem? s (m0 - 1) hi
          clear h0
          by_cases h59 : s[m0 - 1] = 59
          · have HR : Hid (namedF s true = (tx, m0)) := Lib.hid (by rw [HN.out, hg, h59, if_neg (by simp)])
            have g : ((s[m0 - 1].toNat : Int) == 59) = true := by rw [h59]; rfl
            have g2 : ((s[m0 - 1].toNat : Int) != 59) = false := by rw [h59]; rfl
            clear HN hg h59
            go_wp2_with fail
            go_ret2
            exact ⟨ret_two (by rw [HR.out]) (by rw [HR.out]), HBE.out⟩
          · have g : ((s[m0 - 1].toNat : Int) == 59) = false := by
              rw [beq_eq_false_iff_ne]
              intro e
              exact h59 (UInt8.toNat_inj.1 (by simpa using (by omega : s[m0 - 1].toNat = 59)))
            have g2 : ((s[m0 - 1].toNat : Int) != 59) = true := by simpa [bne] using g
            by_cases hend : m0 < s.size
            · have hg2 : s.data.toList[m0]? = some s[m0] := Lib.data_getElem? s m0 hend
              cases hwd : wordF s[m0] with
              | true =>
                have HR : Hid (namedF s true = ([], 0)) := Lib.hid (by rw [HN.out, hg, hg2, if_pos ⟨rfl, h0', (fun e => h59 (Option.some.inj e)), hwd⟩])
                have HWD := Lib.hid hwd
                clear HN hg hg2 h59 hwd
                go_wp2_with fail
                refine (word_any s[m0] _).mono ?_
                rintro e w' ⟨rfl, rfl⟩
                rw [HWD.out]
                go_wp2_with fail
                go_ret2
                exact ⟨ret_two (by rw [HR.out]) (by rw [HR.out]; rfl), HBE.out⟩
              | false =>
                have HR : Hid (namedF s true = (tx, m0)) := Lib.hid (by rw [HN.out, hg, hg2, if_neg (by simp [hwd])])
                have HWD := Lib.hid hwd
                clear HN hg hg2 h59 hwd
                go_wp2_with fail
                refine (word_any s[m0] _).mono ?_
                rintro e w' ⟨rfl, rfl⟩
                rw [HWD.out]
                go_wp2_with fail
                go_ret2
                exact ⟨ret_two (by rw [HR.out]) (by rw [HR.out]), HBE.out⟩
            · have e0 : s.data.toList.length = s.size := by rw [Array.length_toList]; rfl
              have HR : Hid (namedF s true = (tx, m0)) := Lib.hid (by rw [HN.out, List.getElem?_eq_none (show s.data.toList.length ≤ m0 by omega), if_neg (by simp)])
              clear HN hg h59 e0
              go_wp2_with fail
              go_ret2
              exact ⟨ret_two (by rw [HR.out]) (by rw [HR.out]), HBE.out⟩
end Go.Proofs.YtjhamomdlpoilabDoor.Ent
