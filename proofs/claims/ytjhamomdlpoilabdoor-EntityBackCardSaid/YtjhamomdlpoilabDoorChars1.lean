/- Package chars: writing signs. 'write' adds a sign's bytes to a builder; 'Encode' is the bytes of all signs, one behind the other. -/
import Derived.Test.YtjhamomdlpoilabDoorBldr
import Derived.Test.YtjhamomdlpoilabDoorWWords
namespace Go.Proofs.YtjhamomdlpoilabDoor.Chars
open Go.RowKit Go.Proofs.YtjhamomdlpoilabDoorW.PrintWords

theorem encode_wrong {r : Int} (h : Lib.validRune r = false) : Lib.encodeRune r = Lib.encodeRune 65533 := by
  have e : Lib.encodeRuneZ r = [239, 191, 189] := by
    simp only [Lib.validRune] at h
    simp only [Lib.encodeRuneZ]
    simp at h
    rw [if_neg (by omega), if_neg (by omega), if_neg (by omega), if_neg (by omega)]
  have e2 : Lib.encodeRuneZ 65533 = [239, 191, 189] := by decide
  simp [Lib.encodeRune, e, e2]

set_option maxHeartbeats 1000000 in
theorem write_any (B b : Nat) (l : List UInt8) (r : Int) (hr0 : -2147483648 ≤ r) (hr1 : r ≤ 2147483647) (w : World) (h : Lib.IsBuilderF 48 5 B b (Lib.byteCells l) w) (hlen : l.length + 4 ≤ 140737488355328) (hBw : B ≤ w.heap.size) :
    Calls Tryd.prog 28 #[.pointer (some ⟨b, 0, none⟩), .int .i32 r] w fun e w' => e = .returned (.tuple #[]) ∧ (Lib.IsBuilderF 48 5 B b (Lib.byteCells (l ++ Lib.encodeRune r)) w' ∧ Below B w w' ∧ Lib.OthersKept 5 (some b) w w') := by
  have HI := Lib.hid h
  clear h
  have hl : (Lib.byteCells l).length + 4 ≤ 140737488355328 := by rw [Lib.byteCells_length]; exact hlen
  by_cases hv : Lib.validRune r = true
  · have HV := Lib.hid hv
    clear hv
    go_enter Tryd.func28, Tryd.ntmps28
    go_wp2_with fail
    refine (Tryd.utf8_ValidRune _ _).mono ?_
    rintro e w' ⟨rfl, rfl⟩
    rw [HV.out]
    go_wp2_with fail
    refine (Bldr.writeRune B b _ r hr0 hr1 _ HI.out hl hBw).mono ?_
    rintro e w1 ⟨rfl, h1, h2, h3⟩
    have H1 := Lib.hid h1
    have H2 := Lib.hid h2
    have H3 := Lib.hid h3
    clear h1 h2 h3
    go_wp2_with fail
    go_end0
    refine ⟨rfl, ?_, H2.out, H3.out⟩
    have := H1.out
    rwa [← Lib.byteCells_encodeRune, ← Lib.byteCells_append] at this
  · have hv : Lib.validRune r = false := by simpa using hv
    have HE := Lib.hid (encode_wrong hv)
    have HV := Lib.hid hv
    clear hv
    go_enter Tryd.func28, Tryd.ntmps28
    go_wp2_with fail
    refine (Tryd.utf8_ValidRune _ _).mono ?_
    rintro e w' ⟨rfl, rfl⟩
    rw [HV.out]
    go_wp2_with fail
    refine (Bldr.writeRune B b _ 65533 (by decide) (by decide) _ HI.out hl hBw).mono ?_
    rintro e w1 ⟨rfl, h1, h2, h3⟩
    have H1 := Lib.hid h1
    have H2 := Lib.hid h2
    have H3 := Lib.hid h3
    clear h1 h2 h3
    go_wp2_with fail
    go_end0
    refine ⟨rfl, ?_, H2.out, H3.out⟩
    have := H1.out
    rw [HE.out]
    rwa [← Lib.byteCells_encodeRune, ← Lib.byteCells_append] at this

/-- The bytes of signs. -/
def encL (rs : List Int) : List UInt8 := rs.flatMap Lib.encodeRune
theorem encodeRune_le (r : Int) : (Lib.encodeRune r).length ≤ 4 := by
  have := Lib.runeCells_le r
  simp [Lib.encodeRune, Lib.runeCells] at this ⊢
  omega
theorem encL_le (rs : List Int) : (encL rs).length ≤ 4 * rs.length := by
  induction rs with
  | nil => simp [encL]
  | cons r t ih =>
    have := encodeRune_le r
    simp only [encL, List.flatMap_cons, List.length_append, List.length_cons] at ih ⊢
    omega
theorem encL_snoc (rs : List Int) (k : Nat) (h : k < rs.length) : encL (rs.take (k + 1)) = encL (rs.take k) ++ Lib.encodeRune (rs.getD k 0) := by
  rw [List.take_succ_eq_append_getElem h, List.getD_eq_getElem?_getD, List.getElem?_eq_getElem h]
  simp only [encL, List.flatMap_append, List.flatMap_cons, List.flatMap_nil, List.append_nil, Option.getD_some]

set_option maxHeartbeats 1000000 in
theorem encode_any (A : Option Addr) (n c : Nat) (rs : List Int) (w : World) (hr : ReadsInt w .i32 A n rs) (h32 : ∀ r ∈ rs, -2147483648 ≤ r ∧ r ≤ 2147483647) (hn : n ≤ 1000000) :
    Calls Tryd.prog 13 #[.slice A n c] w fun e w' => e = .returned (.string ⟨(encL rs).toArray⟩) ∧ Below w.heap.size w w' := by
  have HL := Lib.hid hr.1
  have HC := Lib.hid hr
  have H32 := Lib.hid h32
  clear hr h32
  go_enter Tryd.func13, Tryd.ntmps13
  go_wp2_with fail
  go_loopw [5, 8] (fun _ i wr => ∃ k : Nat, k ≤ n ∧ i = .int .i64 k ∧ Hid (Lib.IsBuilderF 48 5 w.heap.size w.heap.size (Lib.byteCells (encL (rs.take k))) wr) ∧ Hid (Below w.heap.size w wr) ∧ w.heap.size < wr.heap.size)
    (fun _ i _ => n - (intOf i).toNat)
  case atStart => exact ⟨0, Nat.zero_le _, rfl, Lib.hid (Lib.IsBuilderF.of (Lib.fresh_isBuilder _ _ w)), Lib.hid ((Below.refl _ _).alloc (Nat.le_refl _) _), by simp⟩
  case round =>
    obtain ⟨k, hk, rfl, HI, HB, hsz⟩ := hrel
    by_cases hlt : k < n
    · obtain ⟨ad, rfl, hcell⟩ := HC.out.2.2 (by omega)
      have hc := pw_cell_below HB.out (hcell k hlt)
      have hrange := H32.out (rs.getD k 0) (by
        rw [List.getD_eq_getElem?_getD, List.getElem?_eq_getElem (by have := HL.out; omega)]
        exact List.getElem_mem _)
      have HS := Lib.hid (encL_snoc rs k (by have := HL.out; omega))
      have hlen : (encL (rs.take k)).length + 4 ≤ 140737488355328 := by
        have := encL_le (rs.take k)
        have := List.length_take_le k rs
        omega
      clear hcell
      generalize rs.getD k 0 = r at *
      obtain ⟨h0, h1⟩ := hrange
      go_wp2_with fail
      refine (write_any w.heap.size w.heap.size (encL (rs.take k)) r h0 h1 wr HI.out hlen (Nat.le_of_lt hsz)).mono ?_
      rintro e w1 ⟨rfl, h2, h3, _⟩
      have H2 := Lib.hid h2
      have H3 := Lib.hid h3
      have hsz1 : w.heap.size < w1.heap.size := Nat.lt_of_lt_of_le hsz h3.size
      clear h2 h3
      go_wp2_with fail
      go_roundw
      case rel => exact ⟨k + 1, by omega, by go_num, Lib.hid (by rw [HS.out]; exact H2.out), Lib.hid (HB.out.trans H3.out), hsz1⟩
      case measure => simp [intOf]; omega
    · obtain rfl : k = n := by omega
      have HT : Hid (rs.take k = rs) := Lib.hid (List.take_of_length_le (by have := HL.out; omega))
      go_wp2_with fail
      have h1 := HI.out
      rw [HT.out] at h1
      refine (Tryd.Builder_String_any_k w.heap.size w.heap.size (encL rs) wr h1 (Nat.le_of_lt hsz)).mono ?_
      rintro e w1 ⟨rfl, _, h3, _⟩
      have H3 := Lib.hid h3
      clear h1 h3
      go_wp2_with fail
      go_ret
      exact ⟨rfl, HB.out.trans H3.out⟩
end Go.Proofs.YtjhamomdlpoilabDoor.Chars
