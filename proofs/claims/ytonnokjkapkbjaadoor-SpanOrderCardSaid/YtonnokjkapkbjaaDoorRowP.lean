/- A point that came in, opened: two numbers. -/
import Derived.Test.YtonnokjkapkbjaaDoorRowD
namespace Go.Proofs.YtonnokjkapkbjaaDoor.RowD
open Go.ChangeShapes Go.WideShapes Go.ChangeAt Go.RowKit Go.Deep Go.Joins Go.Proofs.YtonnokjkapkbjaaDoorW.PrintWords Go.Proofs.YtonnokjkapkbjaaDoor.PSO
set_option linter.unusedVariables false
section
variable {H : Type} {enc : TypeId × Value → H} {W : World} {base : Nat} {spare : Nat → Bool} {held : Bool}
set_option maxRecDepth 100000 in
theorem open_point {r : Reach} {b0 : Nat} {v : Value} {d : DataW H} {p : List MemPlace} (hv : Value.okWide Tryd.prog W r b0 26 v) (h : DataW.Trod enc Tryd.prog W base spare held 26 v d p) :
    ∃ (a b : Int), v = .agg #[.int .i64 a, .int .i64 b] := by
  obtain ⟨cs, rfl, hsz⟩ := okWide_struct Tryd.underlying26 hv
  obtain ⟨l⟩ := cs
  have hl : l.length = 2 := hsz.trans (by kernel_rfl)
  match l, hl with
  | [c0, c1], _ =>
    obtain ⟨fuel, hf⟩ := h
    obtain ⟨xs, m, _, _, _, hxl, hg⟩ := DataW.trod_struct Tryd.underlying26 hf
    have g0 := hg 0 _ rfl
    have g1 := hg 1 _ rfl
    rw [List.getElem?_eq_getElem (by rw [hxl]; decide)] at g0 g1
    obtain ⟨a0, e0⟩ := opens_int Tryd.underlying3 _ _ _ g0
    obtain ⟨a1, e1⟩ := opens_int Tryd.underlying3 _ _ _ g1
    have h0 : [c0] = [.int .i64 a0] := e0
    have h1 : [c1] = [.int .i64 a1] := e1
    injection h0 with h0
    injection h1 with h1
    subst h0 h1
    exact ⟨a0, a1, rfl⟩
end
end Go.Proofs.YtonnokjkapkbjaaDoor.RowD
