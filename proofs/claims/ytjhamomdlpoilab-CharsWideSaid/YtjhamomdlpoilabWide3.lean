/- Package clerestorykeep1, CharsWide: the walk. -/
import Derived.Test.YtjhamomdlpoilabWide2
namespace Go.Proofs.Ytjhamomdlpoilab.Chars
open Go.RowKit Go.Shelf Go.Proofs.YtjhamomdlpoilabW.PrintWords
set_option linter.unusedVariables false
set_option linter.unusedSimpArgs false

/-- Everything behind the cut: xs is what is left of the argument. -/
structure WideI (w0 : World) (A : Option Addr) (xs : List Int) (k : Nat) (W : World) : Prop where
  two : Two w0.heap.size w0.heap.size (w0.heap.size + 1) (bigB (unitsL (xs.take k))) (smallB (unitsL (xs.take k))) W
  ok : ∀ x ∈ xs.take k, wideOk x
  below : Below w0.heap.size w0 W
theorem wideI_step {w0 W W1 : World} {A : Option Addr} {xs : List Int} {k : Nat} {x : Int} (H : WideI w0 A xs k W) (hk : xs.take (k + 1) = xs.take k ++ [x]) (hx : wideOk x)
    (h2 : Two w0.heap.size w0.heap.size (w0.heap.size + 1) (bigB (unitsL (xs.take k)) ++ bigB (unitsOf x)) (smallB (unitsL (xs.take k)) ++ smallB (unitsOf x)) W1) (hb : Below w0.heap.size W W1) : WideI w0 A xs (k + 1) W1 := by
  refine ⟨?_, ?_, H.below.trans hb⟩
  · rw [hk, unitsL_snoc, bigB_app, smallB_app]; exact h2
  · intro y hy
    rw [hk] at hy
    rcases List.mem_append.1 hy with hy | hy
    · exact H.ok y hy
    · rw [List.mem_singleton.1 hy]; exact hx

set_option maxRecDepth 100000 in
set_option maxHeartbeats 4000000 in
theorem charsWide_law (A : Option Addr) (c : Nat) (ls : List Int) (w : World) (hr : ReadsInt w .i32 A ls.length ls) (hc : ls.length ≤ c) :
    Calls Try.prog 3 #[.slice A ls.length c] w fun e w' => e = .returned (.bool true) ∧ Below w.heap.size w w' := by
  obtain ⟨i0, hi, hz0, hz1, hz2⟩ := info_parts infoI32
  obtain ⟨m, hm⟩ : ∃ m : Nat, m = min ls.length 200 := ⟨_, rfl⟩
  obtain ⟨hcut, hrd, hcap⟩ := print_take_int (P := Try.prog) (k := .i32) 22 21 Try.underlying22 hi hz1 A c ls (m : Int) (by omega) (by omega) hc
  have HR := Lib.hid (hrd w hr)
  obtain ⟨xs, hxs⟩ : ∃ xs, xs = ls.take (m : Int).toNat := ⟨_, rfl⟩
  rw [← hxs] at hcut HR hcap
  have hxl : xs.length = m := by rw [hxs, List.length_take]; omega
  have hmin : min (ls.length : Int) 200 = (m : Int) := by omega
  rw [hxl] at hcut HR hcap
  clear hxs hr hrd
  go_enter Try.func3, Try.ntmps3
  go_wp2_with fail
  rw [← hm]
  clear hcut hmin
  have hm200 : m ≤ 200 := by omega
  have HXL := Lib.hid hxl
  clear hxl hm
  go_loopw [6] (fun i wr => ∃ k : Nat, k ≤ m ∧ i = .int .i64 k ∧ Hid (WideI w A xs k wr))
    (fun i _ => m - (intOf i).toNat)
  case atStart =>
    refine ⟨0, Nat.zero_le _, rfl, Lib.hid ⟨⟨.slice none 0 0, .slice none 0 0, ?_, ?_, own_nil _ _ _ _, own_nil _ _ _ _, ne_nil _⟩, by simp, ((Below.refl _ w).alloc (Nat.le_refl _) _).alloc (by simp) _⟩⟩
    · exact (Boxed.new w 23 (.slice none 0 0)).alloc _
    · have := Boxed.new (w.alloc (.cells #[.slice none 0 0] 23)) 23 (.slice none 0 0)
      rw [World.size_alloc] at this
      exact this
  case round =>
    obtain ⟨k, hk, rfl, HI⟩ := hrel
    by_cases hlt : k < m
    · obtain ⟨ad, rfl, hcell⟩ := HR.out.2.2 (by omega)
      have hcw := Lib.hid (hcell k hlt)
      have hc1 := pw_cell_below HI.out.below hcw.out
      have HT : Hid (xs.take (k + 1) = xs.take k ++ [xs.getD k 0]) := Lib.hid (by
        have := HXL.out
        rw [List.take_succ_eq_append_getElem (by omega), List.getD_eq_getElem?_getD, List.getElem?_eq_getElem (by omega)]
        rfl)
      clear hcell
      generalize xs.getD k 0 = x at *
      by_cases hbad : x < 0
      · go_wp2_with fail
        refine (begun_any _).mono ?_
        rintro e w1 ⟨rfl, hb⟩
        have HB := Lib.hid (HI.out.below.trans (hb.mono HI.out.below.size))
        clear hb
        go_wp2_with fail
        go_ret
        exact ⟨rfl, HB.out⟩
      by_cases hbad2 : 1114111 < x
      · go_wp2_with fail
        refine (begun_any _).mono ?_
        rintro e w1 ⟨rfl, hb⟩
        have HB := Lib.hid (HI.out.below.trans (hb.mono HI.out.below.size))
        clear hb
        go_wp2_with fail
        go_ret
        exact ⟨rfl, HB.out⟩
      by_cases hbad3 : 55296 ≤ x ∧ x ≤ 57343
      · obtain ⟨g1, g2⟩ := hbad3
        go_wp2_with fail
        refine (begun_any _).mono ?_
        rintro e w1 ⟨rfl, hb⟩
        have HB := Lib.hid (HI.out.below.trans (hb.mono HI.out.below.size))
        clear hb
        go_wp2_with fail
        go_ret
        exact ⟨rfl, HB.out⟩
      have hok : wideOk x := ⟨by omega, by omega, by omega⟩
      have HOK := Lib.hid hok
      have hlen1 : (bigB (unitsL (xs.take k))).length ≤ 900000 := by
        have h1 := unitsL_le (xs.take k)
        have h2 := List.length_take_le k xs
        rw [bigB_len]; omega
      have hlen2 : (smallB (unitsL (xs.take k))).length ≤ 900000 := by
        have h1 := unitsL_le (xs.take k)
        have h2 := List.length_take_le k xs
        rw [smallB_len]; omega
      have hsz := HI.out.below.size
      by_cases h16 : x < 65536
      · rcases hok.2.2 with g | g
        · go_wp2_with fail
          refine (put_any w.heap.size w.heap.size (w.heap.size + 1) x (by omega) h16 _ _ _ (by omega) (Nat.le_refl _) (by omega) hsz (by omega) (by omega) HI.out.two).mono ?_
          rintro e w1 ⟨rfl, h2, hb⟩
          have HI2 : Hid (WideI w (some ad) xs (k + 1) w1) := Lib.hid (wideI_step HI.out HT.out HOK.out (by rw [unitsOf, if_pos h16, bigB_one, smallB_one]; exact h2) hb)
          clear h2 hb
          go_wp2_with fail
          go_roundw
          case rel => exact ⟨k + 1, by omega, by go_num, HI2⟩
          case measure => simp [intOf]; omega
        · go_wp2_with fail
          refine (put_any w.heap.size w.heap.size (w.heap.size + 1) x (by omega) h16 _ _ _ (by omega) (Nat.le_refl _) (by omega) hsz (by omega) (by omega) HI.out.two).mono ?_
          rintro e w1 ⟨rfl, h2, hb⟩
          have HI2 : Hid (WideI w (some ad) xs (k + 1) w1) := Lib.hid (wideI_step HI.out HT.out HOK.out (by rw [unitsOf, if_pos h16, bigB_one, smallB_one]; exact h2) hb)
          clear h2 hb
          go_wp2_with fail
          go_roundw
          case rel => exact ⟨k + 1, by omega, by go_num, HI2⟩
          case measure => simp [intOf]; omega
      · have g : 57343 < x := by omega
        have f1 := i32_and1023b (x := x - 65536) (by omega) (by omega)
        go_wp2_with fail
        refine (put_any w.heap.size w.heap.size (w.heap.size + 1) (55296 + (x - 65536) / 1024) (by omega) (by omega) _ _ _ (by omega) (Nat.le_refl _) (by omega) hsz (by omega) (by omega) HI.out.two).mono ?_
        rintro e w1 ⟨rfl, h2, hb⟩
        have H2 := Lib.hid h2
        have HB := Lib.hid hb
        have hc2 := pw_cell_below (HI.out.below.trans HB.out) (hcw.out)
        have hsz1 : w.heap.size ≤ w1.heap.size := Nat.le_trans hsz hb.size
        clear h2 hb hc1
        go_wp2_with fail
        refine (put_any w.heap.size w.heap.size (w.heap.size + 1) (56320 + (x - 65536) % 1024) (by omega) (by omega) _ _ _ (by omega) (Nat.le_refl _) (by omega) hsz1 (by simp; omega) (by simp; omega) H2.out).mono ?_
        rintro e w2 ⟨rfl, h2, hb⟩
        have HI2 : Hid (WideI w (some ad) xs (k + 1) w2) := Lib.hid (wideI_step HI.out HT.out HOK.out (by rw [unitsOf, if_neg (by omega)]; simpa [bigB, smallB] using h2) (HB.out.trans hb))
        clear h2 hb
        go_wp2_with fail
        go_roundw
        case rel => exact ⟨k + 1, by omega, by go_num, HI2⟩
        case measure => simp [intOf]; omega
    · obtain rfl : k = m := by omega
      have HTK : Hid (xs.take k = xs) := Lib.hid (List.take_of_length_le (by have := HXL.out; omega))
      obtain ⟨vb, vs, kb, ks, ob, os, _⟩ := HI.out.two.rows
      have hok := HI.out.ok
      rw [HTK.out] at ob os hok
      have HW := Lib.hid HI.out.below
      have PB := Lib.hid (units_big _ (unitsL_rng xs hok))
      have PS := Lib.hid (units_small _ (unitsL_rng xs hok))
      have PP := Lib.hid (paired_units xs hok)
      have lb := bigB_len (unitsL xs)
      have ls2 := smallB_len (unitsL xs)
      have lu := unitsL_le xs
      have hxl := HXL.out
      clear HI HTK
      have zb := strOfNums_size (bigB (unitsL xs))
      have zs := strOfNums_size (smallB (unitsL xs))
      have db := strOfNums_data (bigB (unitsL xs))
      have ds := strOfNums_data (smallB (unitsL xs))
      have hconv := own_string (P := Try.prog) (src := 23) (dst := 9) Try.underlying23 Try.underlying5 Try.underlying9 ob
      have cb := kb.cell
      have HFB : Hid (∀ W, Calls Try.prog 6 #[.string (strOfNums (bigB (unitsL xs))), .int .i64 2] W fun e w' => e = .returned (.tuple #[.string ⟨(encL xs).toArray⟩, .int .i64 0]) ∧ Below W.heap.size W w') := Lib.hid (fun W => by
        have := from_units false (strOfNums (bigB (unitsL xs))) W (by omega) (by omega)
        rw [db, PB.out, PP.out] at this
        exact this)
      have HFS : Hid (∀ W, Calls Try.prog 6 #[.string (strOfNums (smallB (unitsL xs))), .int .i64 3] W fun e w' => e = .returned (.tuple #[.string ⟨(encL xs).toArray⟩, .int .i64 0]) ∧ Below W.heap.size W w') := Lib.hid (fun W => by
        have := from_units true (strOfNums (smallB (unitsL xs))) W (by omega) (by omega)
        rw [ds, PS.out, PP.out] at this
        exact this)
      have KS := Lib.hid ks
      have OS := Lib.hid os
      have HOK := Lib.hid hok
      clear zb zs db ds lb ls2 lu kb ks ob os hok PB PS PP
      generalize strOfNums (bigB (unitsL xs)) = sb at *
      generalize hss : strOfNums (smallB (unitsL xs)) = ss at *
      have HSS := Lib.hid hss
      clear hss
      go_wp2_with fail
      refine (HFB.out _).mono ?_
      rintro e w1 ⟨rfl, hb⟩
      have HB1 := Lib.hid (HW.out.trans (hb.mono HW.out.size))
      have cs := pw_cell_below hb KS.out.cell
      have hconv2 := own_string (P := Try.prog) (src := 23) (dst := 9) Try.underlying23 Try.underlying5 Try.underlying9 (pw_own_below OS.out hb)
      rw [HSS.out] at hconv2
      clear hb hconv cb
      go_wp2_with fail
      refine (HFS.out _).mono ?_
      rintro e w2 ⟨rfl, hb⟩
      have HB2 := Lib.hid (HB1.out.trans (hb.mono HB1.out.size))
      clear hb hconv2 cs
      go_wp2_with fail
      refine (begun_any _).mono ?_
      rintro e w3 ⟨rfl, hb⟩
      have HB3 := Lib.hid (HB2.out.trans (hb.mono HB2.out.size))
      clear hb
      go_wp2_with fail
      refine (encode_any A k c xs _ (HR.out.below (HB3.out.mono (Nat.le_refl _))) (fun r hr => by have := HOK.out r hr; unfold wideOk at this; omega) (by omega)).mono ?_
      rintro e w4 ⟨rfl, hb⟩
      have HB4 := Lib.hid (HB3.out.trans (hb.mono HB3.out.size))
      clear hb
      go_wp2_with fail
      go_ret
      exact ⟨by simp, HB4.out⟩
theorem charsWide_row (A : Option Addr) (n c : Nat) (ls : List Int) (w : World) (hr : ReadsInt w .i32 A n ls) (hc : n ≤ c) :
    Calls Try.prog 3 #[.slice A n c] w fun e w' => e = .returned (.bool true) ∧ Below w.heap.size w w' := by
  obtain rfl := hr.1
  exact charsWide_law A c ls w hr hc
end Go.Proofs.Ytjhamomdlpoilab.Chars
