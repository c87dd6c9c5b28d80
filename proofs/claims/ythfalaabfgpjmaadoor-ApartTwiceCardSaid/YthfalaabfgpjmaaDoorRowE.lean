/- A list of edits that came in, opened. -/
import Derived.Test.YthfalaabfgpjmaaDoorRowD
namespace Go.Proofs.YthfalaabfgpjmaaDoor.RowD
open Go.ChangeShapes Go.WideShapes Go.ChangeAt Go.RowKit Go.Deep Go.Joins Go.Proofs.YthfalaabfgpjmaaDoorW.PrintWords Go.Proofs.YthfalaabfgpjmaaDoor.PAP
set_option linter.unusedVariables false
section
variable {H : Type} {enc : TypeId × Value → H} {W : World} {base : Nat} {spare : Nat → Bool} {held : Bool}
set_option maxRecDepth 100000 in
theorem opens_edit : Opens enc W base spare held 30 k30 := fun n cs x h => by
  obtain ⟨xs, m, _, _, hcl, hxl, hf⟩ := DataW.trod_struct Tryd.underlying30 h
  have hlen : cs.length = 12 := hcl.trans (by kernel_rfl)
  match cs, hlen with
  | [c0, c1, c2, c3, c4, c5, c6, c7, c8, c9, c10, c11], _ =>
    have g0 := hf 0 _ rfl
    have g1 := hf 1 _ rfl
    have g2 := hf 2 _ rfl
    have g3 := hf 3 _ rfl
    have g4 := hf 4 _ rfl
    have g5 := hf 5 _ rfl
    have g6 := hf 6 _ rfl
    rw [List.getElem?_eq_getElem (by rw [hxl]; decide)] at g0 g1 g2 g3 g4 g5 g6
    obtain ⟨a0, e0⟩ := opens_int Tryd.underlying3 _ _ _ g0
    obtain ⟨a1, e1⟩ := opens_int Tryd.underlying3 _ _ _ g1
    obtain ⟨a2, e2⟩ := opens_int Tryd.underlying3 _ _ _ g2
    obtain ⟨a3, e3⟩ := opens_int Tryd.underlying3 _ _ _ g3
    obtain ⟨a4, e4⟩ := opens_string Tryd.underlying9 _ _ _ g4
    obtain ⟨a5, e5⟩ := opens_string Tryd.underlying9 _ _ _ g5
    obtain ⟨a6, e6⟩ := opens_node _ _ _ g6
    have h0 : [c0] = [.int .i64 a0] := e0
    have h1 : [c1] = [.int .i64 a1] := e1
    have h2 : [c2] = [.int .i64 a2] := e2
    have h3 : [c3] = [.int .i64 a3] := e3
    have h4 : [c4] = [.string a4] := e4
    have h5 : [c5] = [.string a5] := e5
    have h6 : k28.K W a6 [c6, c7, c8, c9, c10, c11] := e6
    obtain ⟨A8, n8, A11, n11, he, l8, r8, l11, r11⟩ := k28_open h6
    injection h0 with h0
    injection h1 with h1
    injection h2 with h2
    injection h3 with h3
    injection h4 with h4
    injection h5 with h5
    injection he with i6 he
    injection he with i7 he
    injection he with i8 he
    injection he with i9 he
    injection he with i10 he
    injection he with i11 _
    subst h0 h1 h2 h3 h4 h5 i6 i7 i8 i9 i10 i11
    exact ⟨⟨a0, a1, a2, a3, a4, a5, a6⟩, k30_mk W ⟨a0, a1, a2, a3, a4, a5, a6⟩ l8 r8 l11 r11⟩
set_option maxRecDepth 100000 in
/-- A list of edits that came in. -/
theorem open_edits {A : Option Addr} {len cap : Nat} {d : DataW H} {p : List MemPlace} (h : DataW.Trod enc Tryd.prog W base spare held 38 (.slice A len cap) d p) :
    ∃ es : List S30, len = es.length ∧ Kd.C k30 W A es.length es ∧ es.length ≤ cap := by
  obtain ⟨fuel, hf⟩ := h
  obtain ⟨a0, e0⟩ := opens_slice Tryd.underlying38 (by kernel_rfl) opens_edit _ _ _ hf
  have h0 : (Kd.slice 30 k30).K W a0 [.slice A len cap] := e0
  obtain ⟨A', c', h0, l0, r0⟩ := h0
  injection h0 with h0
  injection h0 with h1 h2 h3
  subst h1 h2 h3
  exact ⟨a0, rfl, r0, l0⟩
end
end Go.Proofs.YthfalaabfgpjmaaDoor.RowD
