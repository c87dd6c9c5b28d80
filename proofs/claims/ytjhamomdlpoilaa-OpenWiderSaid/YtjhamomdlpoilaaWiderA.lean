/- What the law OpenWider does, call by call, for every list of texts that is read: it returns true, and makes memory alone. Conditions: none but the sizes that every reading has. -/
import Derived.Test.YtjhamomdlpoilaaWWords
import Derived.Test.YtjhamomdlpoilaaOpenP
import Derived.Test.YtjhamomdlpoilaaOpenC
import Derived.Outline
namespace Go.Proofs.Ytjhamomdlpoilaa.OpenW
open Go.RowKit Go.Proofs.YtjhamomdlpoilaaW.PrintWords

theorem rs_take {w : World} {A : Option Addr} {n : Nat} {ss : List ByteArray} (h : RS w A n ss) (k : Nat) (hk : k ≤ n) : RS w A k (ss.take k) := by
  obtain ⟨h1, h2, h3, h4⟩ := h
  refine ⟨by simp; omega, by omega, fun s hs => h3 s (List.mem_of_mem_take hs), fun h0 => ?_⟩
  obtain ⟨ad, rfl, hc⟩ := h4 (by omega)
  refine ⟨ad, rfl, fun j hj => ?_⟩
  rw [hc j (by omega), List.getD_eq_getElem?_getD, List.getD_eq_getElem?_getD, List.getElem?_take, if_pos hj]

theorem info9 : (Try.prog.info? 9).map (fun i => (i.zero, i.size, i.bytes)) = some (some (.string ⟨#[]⟩), 1, 16) := by kernel_rfl
def span : ByteArray := { data := #[115, 112, 97, 110] }
theorem RS_of {w : World} {A : Option Addr} {n : Nat} {ss : List ByteArray} (h : ReadsOf Value.string ByteArray.empty w A n ss) (hs : ∀ s ∈ ss, s.size ≤ 140737488351232) : RS w A n ss := ⟨h.1, h.2.1, hs, h.2.2⟩
theorem RS_to {w : World} {A : Option Addr} {n : Nat} {ss : List ByteArray} (h : RS w A n ss) : ReadsOf Value.string ByteArray.empty w A n ss := ⟨h.1, h.2.1, h.2.2.2⟩
theorem RS_below {w w1 : World} {A : Option Addr} {n : Nat} {ss : List ByteArray} (h : RS w A n ss) (hb : Below w.heap.size w w1) : RS w1 A n ss := RS_of ((RS_to h).below hb) h.2.2.1
theorem cell_below {w w1 : World} {a : Addr} {v : Value} (h : w.cell? a = some v) (hb : Below w.heap.size w w1) : w1.cell? a = some v := pw_cell_below hb h
/-- The array of the answers, block B: what its cells hold ahead of scope s. -/
structure Arr (B : Nat) (f : Nat → Bool) (s : Nat) (W : World) : Prop where
  cell : ∀ j, j < 6 → W.cell? ⟨B, j, none⟩ = some (.bool (if 1 ≤ j ∧ j < s then f j else false))
  free : ∀ j, j < 6 → W.frozen? ⟨B, j, none⟩ = false
theorem Arr.below {B : Nat} {f : Nat → Bool} {s : Nat} {W W1 : World} (h : Arr B f s W) (hB : B < W.heap.size) (hb : Below W.heap.size W W1) : Arr B f s W1 :=
  ⟨fun j hj => (hb.cell (p := ⟨B, j, none⟩) hB).trans (h.cell j hj), fun j hj => (hb.frozen (p := ⟨B, j, none⟩) hB).trans (h.free j hj)⟩

theorem Arr.store {B : Nat} {f : Nat → Bool} {s : Nat} {W : World} (h : Arr B f s W) (h1 : 1 ≤ s) (h5 : s < 6) {a : Bool} (ha : a = f s) : Arr B f (s + 1) (W.setCell ⟨B, s, none⟩ (.bool a)) := by
  refine ⟨fun j hj => ?_, fun j hj => (World.frozen?_setCell _ _ _ _).trans (h.free j hj)⟩
  by_cases e : j = s
  · subst e
    rw [World.cell?_setCell_same _ _ _ (h.cell j hj), if_pos (by omega), ha]
  · rw [World.cell?_setCell_other _ _ _ _ (by intro e2; injection e2 with _ e3; exact e e3.symm), h.cell j hj]
    by_cases c : 1 ≤ j ∧ j < s
    · rw [if_pos c, if_pos (by omega)]
    · rw [if_neg c, if_neg (by omega)]

theorem Arr.first (W : World) (f : Nat → Bool) (t : TypeId) : Arr W.heap.size f 1 (W.alloc (Obj.cells #[.bool false, .bool false, .bool false, .bool false, .bool false, .bool false] t)) := by
  refine ⟨fun j hj => ?_, fun j hj => ?_⟩
  · have e : (if 1 ≤ j ∧ j < 1 then f j else false) = false := if_neg (by omega)
    rw [e]
    have : j = 0 ∨ j = 1 ∨ j = 2 ∨ j = 3 ∨ j = 4 ∨ j = 5 := by omega
    rcases this with rfl | rfl | rfl | rfl | rfl | rfl <;> go_simp
  · go_simp
/-- Fewer bars: no narrower. -/
theorem has_mono {name : ByteArray} {s1 s2 : Int} (h : ∀ x : ByteArray, barB x s2 = true → barB x s1 = true) : ∀ l : List ByteArray, hasR name s1 l = true → hasR name s2 l = true
  | [], h1 => by simp [hasR] at h1
  | x :: r, h1 => by
    simp only [hasR] at h1 ⊢
    by_cases e : (x.toList == name.toList) = true
    · rw [if_pos e]
    · rw [if_neg e] at h1 ⊢
      by_cases e2 : barB x s1 = true
      · rw [if_pos e2] at h1
        exact absurd h1 (by simp)
      · rw [if_neg e2] at h1
        rw [if_neg (fun e3 => e2 (h x e3))]
        exact has_mono h r h1
theorem has_LA {name : ByteArray} {l : List ByteArray} (h : hasR name 2 l = true) : hasR name 1 l = true :=
  has_mono (fun x hx => by simp [barB] at hx ⊢; exact one_sub sub_L hx) l h
theorem has_BA {name : ByteArray} {l : List ByteArray} (h : hasR name 3 l = true) : hasR name 1 l = true :=
  has_mono (fun x hx => by simp [barB] at hx ⊢; exact one_sub sub_B hx) l h
theorem has_AT {name : ByteArray} {l : List ByteArray} (h : hasR name 1 l = true) : hasR name 4 l = true :=
  has_mono (fun x hx => by simp [barB] at hx ⊢; exact one_sub sub_T hx) l h

/-- Behind the list and one name more. -/
theorem has_more (name x : ByteArray) (scope : Int) (tt : List ByteArray) : hasR name scope (tt ++ [x]).reverse = (if x.toList == name.toList then true else if barB x scope then false else hasR name scope tt.reverse) := by
  rw [List.reverse_append]; rfl
theorem span_bar (s : Nat) (h1 : 1 ≤ s) (h5 : s ≤ 4) : barB span s = false := by
  have : s = 1 ∨ s = 2 ∨ s = 3 ∨ s = 4 := by omega
  rcases this with rfl | rfl | rfl | rfl <;> decide +kernel
theorem own_to_RS {W : World} {base n : Nat} {v : Value} {tt : List ByteArray} (h : W.ownsRow base 9 1 v n (encs Value.string tt)) (hs : ∀ s ∈ tt, s.size ≤ 140737488351232) : ∃ A c, v = .slice A n c ∧ RS W A n tt := by
  obtain ⟨A, c, he, hr⟩ := own_reads_of (d := ByteArray.empty) h
  exact ⟨A, c, he, RS_of hr hs⟩

set_option maxRecDepth 100000 in
set_option maxHeartbeats 1000000 in
theorem wider_law (A : Option Addr) (n c : Nat) (ss : List ByteArray) (name more : ByteArray) (hmore : more.size ≤ 140737488351232) (m : Int) (w : World) (hr : RS w A n ss) (hnc : n ≤ c) (hm : w.cell? ⟨0, 0, none⟩ = some (.int .i64 m)) :
    Calls Try.prog 5 #[.slice A n c, .string name, .string more] w fun e w' => e = .returned (.bool true) ∧ Below w.heap.size w w' := by
  obtain ⟨k, hk, hk2, hmin⟩ : ∃ k : Nat, k ≤ n ∧ k ≤ 50 ∧ (min (n : Int) 50).toNat = k := ⟨_, by omega, by omega, rfl⟩
  have hrk := rs_take hr k hk
  have HR := Lib.hid hrk
  have hn : n ≤ 9223372036854775807 := hr.2.1
  have hkc : k ≤ c := by omega
  have HM := Lib.hid hm
  have HMIN := Lib.hid hmin
  clear hrk hr hmin hm
  generalize htt : ss.take k = tt at HR
  have htl : tt.length = k := HR.out.1
  have HTL := Lib.hid htl
  clear htl htt
  go_enter Try.func5, Try.ntmps5
  go_wp2_with fail
  rw [HMIN.out]
  go_loopw [6, 8, 9, 10, 11, 12] (fun _ i _ _ _ _ wr => ∃ s : Nat, 1 ≤ s ∧ s ≤ 6 ∧ i = .int .i64 s ∧ Hid (Below w.heap.size w wr) ∧ w.heap.size < wr.heap.size ∧ Hid (Arr w.heap.size (fun j => hasR name j tt.reverse) s wr))
    (fun _ i _ _ _ _ _ => 6 - (intOf i).toNat)
  case atStart => exact ⟨1, by omega, by omega, rfl, Lib.hid ((Below.refl _ _).alloc (Nat.le_refl _) _), by simp, Lib.hid (Arr.first _ _ _)⟩
  case round =>
    obtain ⟨s, hs1, hs6, rfl, HB, hsz, HA⟩ := hrel
    by_cases h5 : s ≤ 5
    · go_wp2_with fail
      refine (in_any A k c tt name s m wr (by omega) (by omega) (by omega) (RS_below HR.out HB.out) (cell_below HM.out HB.out)).mono ?_
      rintro e w' ⟨rfl, rfl⟩
      obtain ⟨a, ha⟩ : ∃ a, a = hasR name s tt.reverse := ⟨_, rfl⟩
      rw [← ha]
      have HHA := Lib.hid ha
      clear ha
      go_wp2_with (first | (at_builtin; refine print_append_row_of (w0 := wr) Value.string ByteArray.empty wr.heap.size rfl (.tmp 32) (.tmp 33) 22 9 (.string ⟨#[]⟩) 16 rfl Try.underlying22 info9 rfl (by decide) (fun _ => rfl) _ [] tt A k c rfl rfl ?c1 ?c2 ?c3 ?c4 ?c5 ?c6))
      case c1 => exact own_lit_of (enc := Value.string) wr wr.heap.size 9 [] (Nat.le_refl _) (by decide)
      case c2 => exact RS_to (RS_below (RS_below HR.out HB.out) ((Below.refl _ _).alloc (Nat.le_refl _) _))
      case c3 => exact (Below.refl _ _).alloc (Nat.le_refl _) _
      case c4 => simp
      case c5 => simp; omega
      case c6 =>
        intro v1 w1 hown hB1 _ _
        have HO := Lib.hid hown
        have HB1 := Lib.hid hB1
        clear hown hB1
        go_wp2_with (first | (at_builtin; refine print_append_of (w0 := wr) Value.string wr.heap.size rfl (.tmp 34) (.tmp 35) 22 9 (.string ⟨#[]⟩) 16 rfl Try.underlying22 info9 rfl (by decide) v1 tt span rfl rfl rfl HO.out HB1.out HB1.out.size ?d1 ?d2))
        case d1 => rw [HTL.out]; omega
        case d2 =>
          intro v2 w2 hown2 hB2 _ _
          obtain ⟨A2, c2, rfl, hrs2⟩ := own_to_RS (tt := tt ++ [span]) hown2 (by
            intro x hx
            rcases List.mem_append.1 hx with hx | hx
            · exact HR.out.2.2.1 x hx
            · rw [List.mem_singleton.1 hx]; decide)
          have HRS2 := Lib.hid hrs2
          have HB2 := Lib.hid hB2
          clear hown2 hrs2 hB2
          go_wp2_with fail
          refine (in_any A2 _ c2 (tt ++ [span]) name s m w2 (by omega) (by omega) (by have := HTL.out; omega) HRS2.out (cell_below (cell_below HM.out HB.out) HB2.out)).mono ?_
          rintro e w' ⟨rfl, rfl⟩
          have HA2 := Lib.hid (HA.out.below hsz HB2.out)
          have hsz2 : w.heap.size < w2.heap.size := Nat.lt_of_lt_of_le hsz HB2.out.size
          have hcell := HA2.out.cell s (by omega)
          have hfree := HA2.out.free s (by omega)
          obtain ⟨b, hb⟩ : ∃ b, b = hasR name s (tt ++ [span]).reverse := ⟨_, rfl⟩
          rw [← hb]
          by_cases e5 : s = 5
          · have g : ((s : Int) != 5) = false := by rw [bne_eq_false_iff_eq]; omega
            clear hb e5
            go_wp2_with fail
            go_roundw
            case rel => exact ⟨s + 1, by omega, by omega, by go_num, Lib.hid ((HB.out.trans (HB2.out.mono (Nat.le_of_lt hsz))).setCell (p := ⟨w.heap.size, s, none⟩) (Nat.le_refl _) _), by simpa using hsz2, Lib.hid (HA2.out.store hs1 (by omega) HHA.out)⟩
            case measure => simp [intOf]; omega
          · by_cases en : name.toList = [115, 112, 97, 110]
            · have g : ((s : Int) != 5) = true := by rw [bne_iff_ne]; omega
              clear hb e5
              go_wp2_with fail
              go_roundw
              case rel => exact ⟨s + 1, by omega, by omega, by go_num, Lib.hid ((HB.out.trans (HB2.out.mono (Nat.le_of_lt hsz))).setCell (p := ⟨w.heap.size, s, none⟩) (Nat.le_refl _) _), by simpa using hsz2, Lib.hid (HA2.out.store hs1 (by omega) HHA.out)⟩
              case measure => simp [intOf]; omega
            · have hba : b = a := by
                rw [hb, HHA.out, has_more, span_bar s hs1 (by omega)]
                have : (span.toList == name.toList) = false := by
                  rw [beq_eq_false_iff_ne]
                  intro h
                  exact en (by rw [← h, Lib.toList_data]; rfl)
                rw [this]; rfl
              subst hba
              have g : ((s : Int) != 5) = true := by rw [bne_iff_ne]; omega
              clear hb e5
              go_wp2_with fail
              go_roundw
              case rel => exact ⟨s + 1, by omega, by omega, by go_num, Lib.hid ((HB.out.trans (HB2.out.mono (Nat.le_of_lt hsz))).setCell (p := ⟨w.heap.size, s, none⟩) (Nat.le_refl _) _), by simpa using hsz2, Lib.hid (HA2.out.store hs1 (by omega) HHA.out)⟩
              case measure => simp [intOf]; omega
    · obtain rfl : s = 6 := by omega
      go_wp2_with (first | (at_builtin; refine print_append_row_of (w0 := wr) Value.string ByteArray.empty wr.heap.size rfl (.tmp 65) (.tmp 66) 22 9 (.string ⟨#[]⟩) 16 rfl Try.underlying22 info9 rfl (by decide) (fun _ => rfl) _ [] tt A k c rfl rfl ?c1 ?c2 ?c3 ?c4 ?c5 ?c6))
      case c1 => exact own_lit_of (enc := Value.string) wr wr.heap.size 9 [] (Nat.le_refl _) (by decide)
      case c2 => exact RS_to (RS_below (RS_below HR.out HB.out) ((Below.refl _ _).alloc (Nat.le_refl _) _))
      case c3 => exact (Below.refl _ _).alloc (Nat.le_refl _) _
      case c4 => simp
      case c5 => simp; omega
      case c6 =>
        intro v1 w1 hown hB1 _ _
        have HO := Lib.hid hown
        have HB1 := Lib.hid hB1
        clear hown hB1
        go_wp2_with (first | (at_builtin; refine print_append_of (w0 := wr) Value.string wr.heap.size rfl (.tmp 67) (.tmp 69) 22 9 (.string ⟨#[]⟩) 16 rfl Try.underlying22 info9 rfl (by decide) v1 tt more rfl rfl rfl HO.out HB1.out HB1.out.size ?d1 ?d2))
        case d1 => rw [HTL.out]; omega
        case d2 =>
          intro v2 w2 hown2 hB2 _ _
          obtain ⟨A2, c2, rfl, hrs2⟩ := own_to_RS (tt := tt ++ [more]) hown2 (by
            intro x hx
            rcases List.mem_append.1 hx with hx | hx
            · exact HR.out.2.2.1 x hx
            · rw [List.mem_singleton.1 hx]; exact hmore)
          have HRS2 := Lib.hid hrs2
          have HB2 := Lib.hid hB2
          clear hown2 hrs2 hB2
          go_wp2_with fail
          refine (in_any A2 _ c2 (tt ++ [more]) more 1 m w2 (by omega) (by omega) (by have := HTL.out; omega) HRS2.out (cell_below (cell_below HM.out HB.out) HB2.out)).mono ?_
          rintro e w' ⟨rfl, rfl⟩
          rw [has_more, if_pos (by simp)]
          go_wp2_with fail
          refine (begun_any m w2 (cell_below (cell_below HM.out HB.out) HB2.out)).mono ?_
          rintro e w3 ⟨rfl, hB3⟩
          have hsz2 : w.heap.size < w2.heap.size := Nat.lt_of_lt_of_le hsz HB2.out.size
          have HA3 := Lib.hid ((HA.out.below hsz HB2.out).below hsz2 hB3)
          have HBE : Hid (Below w.heap.size w w3) := Lib.hid ((HB.out.trans (HB2.out.mono (Nat.le_of_lt hsz))).trans (hB3.mono (Nat.le_of_lt hsz2)))
          clear hB3
          have h1 : w3.cell? ⟨w.heap.size, 1, none⟩ = some (.bool (hasR name 1 tt.reverse)) := by simpa using HA3.out.cell 1 (by omega)
          have h2 : w3.cell? ⟨w.heap.size, 2, none⟩ = some (.bool (hasR name 2 tt.reverse)) := by simpa using HA3.out.cell 2 (by omega)
          have h3 : w3.cell? ⟨w.heap.size, 3, none⟩ = some (.bool (hasR name 3 tt.reverse)) := by simpa using HA3.out.cell 3 (by omega)
          have h4 : w3.cell? ⟨w.heap.size, 4, none⟩ = some (.bool (hasR name 4 tt.reverse)) := by simpa using HA3.out.cell 4 (by omega)
          have i1 : hasR name 2 tt.reverse = true → hasR name 1 tt.reverse = true := has_LA
          have i2 : hasR name 3 tt.reverse = true → hasR name 1 tt.reverse = true := has_BA
          have i3 : hasR name 1 tt.reverse = true → hasR name 4 tt.reverse = true := has_AT
          clear HA3 HA
          generalize hasR name 1 tt.reverse = b1 at *
          generalize hasR name 2 tt.reverse = b2 at *
          generalize hasR name 3 tt.reverse = b3 at *
          generalize hasR name 4 tt.reverse = b4 at *
          cases b1 with
          | true =>
            obtain rfl : b4 = true := i3 rfl
            clear i1 i2 i3
            cases b2 <;> cases b3
            all_goals
              go_wp2_with fail
              go_ret
              exact ⟨rfl, HBE.out⟩
          | false =>
            obtain rfl : b2 = false := by cases b2 with | false => rfl | true => exact absurd (i1 rfl) (by decide)
            obtain rfl : b3 = false := by cases b3 with | false => rfl | true => exact absurd (i2 rfl) (by decide)
            clear i1 i2 i3
            cases b4
            all_goals
              go_wp2_with fail
              go_ret
              exact ⟨rfl, HBE.out⟩
end Go.Proofs.Ytjhamomdlpoilaa.OpenW
