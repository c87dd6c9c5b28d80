/- A point, and a span, that came in, opened: two numbers, four. -/
import Derived.Test.YtlgoaphdhgidoaaDoorRowD
namespace Go.Proofs.YtlgoaphdhgidoaaDoor.RowD
open Go.ChangeShapes Go.WideShapes Go.ChangeAt Go.RowKit Go.Deep Go.Joins Go.Proofs.YtlgoaphdhgidoaaDoorW.PrintWords Go.Proofs.YtlgoaphdhgidoaaDoor.PSY
set_option linter.unusedVariables false
section
variable {H : Type} {enc : TypeId × Value → H} {W : World} {base : Nat} {spare : Nat → Bool} {held : Bool}
set_option maxRecDepth 100000 in
theorem opens_point {n : Nat} {cs : List Value} {x : DataW H × List MemPlace} (h : DataW.trod enc Tryd.prog W base spare held n 27 cs = some x) : ∃ (a b : Int), cs = [.int .i64 a, .int .i64 b] := by
  obtain ⟨xs, m, _, _, hcl, hxl, hg⟩ := DataW.trod_struct Tryd.underlying27 h
  have hl : cs.length = 2 := hcl.trans (by kernel_rfl)
  match cs, hl with
  | [c0, c1], _ =>
    have g0 := hg 0 _ rfl
    have g1 := hg 1 _ rfl
    rw [List.getElem?_eq_getElem (by rw [hxl]; decide)] at g0 g1
    obtain ⟨a0, e0⟩ := opens_int Tryd.underlying3 _ _ _ g0
    obtain ⟨a1, e1⟩ := opens_int Tryd.underlying3 _ _ _ g1
    have h0 : [c0] = [.int .i64 a0] := e0
    have h1 : [c1] = [.int .i64 a1] := e1
    injection h0 with h0
    injection h1 with h1
    subst h0 h1
    exact ⟨a0, a1, rfl⟩
set_option maxRecDepth 100000 in
theorem open_point {r : Reach} {b0 : Nat} {v : Value} {d : DataW H} {p : List MemPlace} (hv : Value.okWide Tryd.prog W r b0 27 v) (h : DataW.Trod enc Tryd.prog W base spare held 27 v d p) :
    ∃ (a b : Int), v = .agg #[.int .i64 a, .int .i64 b] := by
  obtain ⟨cs, rfl, hsz⟩ := okWide_struct Tryd.underlying27 hv
  obtain ⟨l⟩ := cs
  obtain ⟨fuel, hf⟩ := h
  obtain ⟨a, b, e⟩ := opens_point hf
  have e' : l = [.int .i64 a, .int .i64 b] := e
  subst e'
  exact ⟨a, b, rfl⟩
set_option maxRecDepth 100000 in
theorem open_span {r : Reach} {b0 : Nat} {v : Value} {d : DataW H} {p : List MemPlace} (hv : Value.okWide Tryd.prog W r b0 29 v) (h : DataW.Trod enc Tryd.prog W base spare held 29 v d p) :
    ∃ (a s b t : Int), v = .agg #[.int .i64 a, .int .i64 s, .int .i64 b, .int .i64 t] := by
  obtain ⟨cs, rfl, hsz⟩ := okWide_struct Tryd.underlying29 hv
  obtain ⟨l⟩ := cs
  have hl : l.length = 4 := hsz.trans (by kernel_rfl)
  match l, hl with
  | [c0, c1, c2, c3], _ =>
    obtain ⟨fuel, hf⟩ := h
    obtain ⟨xs, m, _, _, _, hxl, hg⟩ := DataW.trod_struct Tryd.underlying29 hf
    have g0 := hg 0 _ rfl
    have g1 := hg 1 _ rfl
    rw [List.getElem?_eq_getElem (by rw [hxl]; decide)] at g0 g1
    obtain ⟨a, s, e0⟩ := opens_point g0
    obtain ⟨b, t, e1⟩ := opens_point g1
    have h0 : [c0, c1] = [.int .i64 a, .int .i64 s] := e0
    have h1 : [c2, c3] = [.int .i64 b, .int .i64 t] := e1
    injection h0 with h0 h0'
    injection h0' with h0' _
    injection h1 with h1 h1'
    injection h1' with h1' _
    subst h0 h0' h1 h1'
    exact ⟨a, s, b, t, rfl⟩
end
end Go.Proofs.YtlgoaphdhgidoaaDoor.RowD
