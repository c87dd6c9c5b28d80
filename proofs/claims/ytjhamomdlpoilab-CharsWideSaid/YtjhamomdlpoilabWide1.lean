/- Package clerestorykeep1, CharsWide: the closure that puts a unit. -/
import Derived.Test.YtjhamomdlpoilabChars7
namespace Go.Proofs.Ytjhamomdlpoilab.Chars
open Go.RowKit Go.Shelf Go.Proofs.YtjhamomdlpoilabW.PrintWords
set_option linter.unusedVariables false
set_option linter.unusedSimpArgs false

theorem infoU8 : (Try.prog.info? 5).map (fun i => (i.zero, i.size, i.bytes)) = some (some (.int .u8 0), 1, 1) := by kernel_rfl
/-- Two boxes, each with a row of bytes of the call's own. -/
structure Two (n0 Bb Bs : Nat) (xs ys : List Int) (W : World) : Prop where
  rows : ∃ vb vs, Boxed W Bb 23 vb ∧ Boxed W Bs 23 vs ∧ W.ownsRow n0 5 1 vb xs.length (nums .u8 xs) ∧ W.ownsRow n0 5 1 vs ys.length (nums .u8 ys) ∧ NeRow vb vs
theorem rd_u8 (w : World) (a b : Int) : ReadsInt (w.alloc (.cells #[.int .u8 a, .int .u8 b] 5)) .u8 (some ⟨w.heap.size, 0, none⟩) 2 [a, b] := by
  have h := own_lit w 0 5 .u8 [a, b] (Nat.zero_le _) (by simp)
  obtain ⟨A, c, e, hr⟩ := own_reads h
  cases e
  exact hr

set_option maxRecDepth 100000 in
set_option maxHeartbeats 4000000 in
theorem put_any (n0 Bb Bs : Nat) (x : Int) (h0 : 0 ≤ x) (h1 : x < 65536) (xs ys : List Int) (w : World) (hne : Bb ≠ Bs) (hb : n0 ≤ Bb) (hs : n0 ≤ Bs) (hn : n0 ≤ w.heap.size) (hx : xs.length ≤ 1000000) (hy : ys.length ≤ 1000000) (H : Two n0 Bb Bs xs ys w) :
    Calls Try.prog 4 #[.int .i32 x, .pointer (some ⟨Bb, 0, none⟩), .pointer (some ⟨Bs, 0, none⟩)] w fun e w' => e = .returned (.tuple #[]) ∧ Two n0 Bb Bs (xs ++ [x / 256, x % 256]) (ys ++ [x % 256, x / 256]) w' ∧ Below n0 w w' := by
  obtain ⟨vb, vs, kb, ks, ob, os, ne⟩ := H.rows
  have cb := kb.cell
  have fb := kb.frozen
  have KS := Lib.hid ks
  have KB := Lib.hid kb
  have OB := Lib.hid ob
  have OS := Lib.hid os
  have NE := Lib.hid ne
  have w1 : IntKind.u8.wrap (x / 256) = x / 256 := by rw [IntKind.wrap_u8]; omega
  have w2 : IntKind.u8.wrap x = x % 256 := by rw [IntKind.wrap_u8]
  clear H ob os ne ks kb
  go_enter Try.func4, Try.ntmps4
  go_wp2_with ((at_builtin; refine print_append_row (w0 := w) (W := w.alloc (.cells #[.int .u8 (x / 256), .int .u8 (x % 256)] 5)) n0 rfl (.tmp 4) (.tmp 10) 23 5 .u8 1 rfl Try.underlying23 infoU8 (by decide) vb xs [x / 256, x % 256] _ 2 2 rfl rfl (OB.out.alloc _) (rd_u8 w _ _) ((Below.refl n0 w).alloc hn _) (by simp; omega) (by omega) ?c1))
  case c1 =>
    intro v1 wA hown hbA hg hat
    obtain ⟨A1, c1, rfl⟩ := own_slice hown
    have kbA : Boxed wA Bb 23 vb := (KB.out.alloc _).kept hg (by have := Boxed.not_row KB.out (by decide) OB.out; exact this)
    have ksA : Boxed wA Bs 23 vs := (KS.out.alloc _).kept hg (by have := Boxed.not_row KS.out (by decide) OB.out; exact this)
    have osA := own_other (OS.out.alloc _) hg (ne_other NE.out)
    have neA := ne_append NE.out (hat.imp id (fun ⟨b, e, h⟩ => ⟨b, e, by omega⟩)) OS.out
    have hsA : n0 ≤ wA.heap.size := Nat.le_trans hn hbA.size
    have kb1 := kbA.set (.slice A1 (xs.length + 2) c1)
    have ks1 : Boxed (wA.setCell ⟨Bb, 0, none⟩ (.slice A1 (xs.length + 2) c1)) Bs 23 vs := ksA.other (fun e => hne e.symm) _
    have ob1 := own_setCell hown (p := ⟨Bb, 0, none⟩) (Boxed.not_row kbA (by decide) hown) (.slice A1 (xs.length + 2) c1)
    have os1 := own_setCell osA (p := ⟨Bb, 0, none⟩) (Boxed.not_row kbA (by decide) osA) (.slice A1 (xs.length + 2) c1)
    have b1 := hbA.setCell (p := ⟨Bb, 0, none⟩) hb (.slice A1 (xs.length + 2) c1)
    have cA := kbA.cell
    have fA := kbA.frozen
    have cS := ksA.cell
    have fS := ksA.frozen
    clear ksA osA hown hbA hg hat cb fb KB OB KS OS NE
    have HKA := Lib.hid kbA
    clear kbA
    have HK1 := Lib.hid kb1
    have HS1 := Lib.hid ks1
    have HB1 := Lib.hid ob1
    have HO1 := Lib.hid os1
    have HN1 := Lib.hid neA
    have HW1 := Lib.hid b1
    clear kb1 ks1 ob1 os1 neA b1
    obtain ⟨W1, hW1⟩ : ∃ W1, W1 = wA.setCell ⟨Bb, 0, none⟩ (.slice A1 (xs.length + 2) c1) := ⟨_, rfl⟩
    have hs1 : n0 ≤ W1.heap.size := by rw [hW1]; simpa using hsA
    go_wp2_with ((at_builtin; rw [← hW1] at HK1 HS1 HB1 HO1 HW1 ⊢; refine print_append_row (w0 := w) (W := W1.alloc (.cells #[.int .u8 (x % 256), .int .u8 (x / 256)] 5)) n0 (by rfl) (.tmp 12) (.tmp 18) 23 5 .u8 1 (by rfl) Try.underlying23 infoU8 (by decide) vs ys [x % 256, x / 256] (some ⟨W1.heap.size, 0, none⟩) 2 2 (by rfl) (by rw [show W1.heap.size = wA.heap.size by rw [hW1]; simp]; rfl) (HO1.out.alloc _) (rd_u8 W1 _ _) (HW1.out.alloc hs1 _) (by simp; omega) (by omega) ?c2))
    case c2 =>
      intro v2 wB hown hbB hg hat
      subst hW1
      obtain ⟨A2, c2, rfl⟩ := own_slice hown
      have kbB : Boxed wB Bb 23 _ := (HK1.out.alloc _).kept hg (Boxed.not_row HK1.out (by decide) HO1.out)
      have ksB : Boxed wB Bs 23 vs := (HS1.out.alloc _).kept hg (Boxed.not_row HS1.out (by decide) HO1.out)
      have obB := own_other (HB1.out.alloc _) hg (ne_other (ne_symm HN1.out))
      have neB := ne_append (ne_symm HN1.out) (hat.imp id (fun ⟨b, e, h⟩ => ⟨b, e, by simp; omega⟩)) HB1.out
      have kb2 := kbB.other hne (.slice A2 (ys.length + 2) c2)
      have ks2 := ksB.set (.slice A2 (ys.length + 2) c2)
      have os2 := own_setCell hown (p := ⟨Bs, 0, none⟩) (Boxed.not_row ksB (by decide) hown) (.slice A2 (ys.length + 2) c2)
      have ob2 := own_setCell obB (p := ⟨Bs, 0, none⟩) (Boxed.not_row ksB (by decide) obB) (.slice A2 (ys.length + 2) c2)
      have b2 := hbB.setCell (p := ⟨Bs, 0, none⟩) hs (.slice A2 (ys.length + 2) c2)
      have cB := ksB.cell
      have fB := ksB.frozen
      have HZ : Hid (Two n0 Bb Bs (xs ++ [x / 256, x % 256]) (ys ++ [x % 256, x / 256]) (wB.setCell ⟨Bs, 0, none⟩ (.slice A2 (ys.length + 2) c2)) ∧ Below n0 w (wB.setCell ⟨Bs, 0, none⟩ (.slice A2 (ys.length + 2) c2))) :=
        Lib.hid ⟨⟨_, _, kb2, ks2, by simpa using ob2, by simpa using os2, ne_symm neB⟩, b2⟩
      clear kbB ksB obB neB kb2 ks2 os2 ob2 b2 hown hbB hg hat cA fA cS fS
      go_wp2_with fail
      go_end0
      exact ⟨rfl, HZ.out⟩
end Go.Proofs.Ytjhamomdlpoilab.Chars
