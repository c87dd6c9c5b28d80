/- One edit that came in, opened. -/
import Derived.Test.YthfalaabfgpjmaaDoorRowE
namespace Go.Proofs.YthfalaabfgpjmaaDoor.RowD
open Go.ChangeShapes Go.WideShapes Go.ChangeAt Go.RowKit Go.Deep Go.Joins Go.Proofs.YthfalaabfgpjmaaDoorW.PrintWords Go.Proofs.YthfalaabfgpjmaaDoor.PAP
set_option linter.unusedVariables false
section
variable {H : Type} {enc : TypeId × Value → H} {W : World} {base : Nat} {spare : Nat → Bool} {held : Bool}
set_option maxRecDepth 100000 in
theorem open_edit {r : Reach} {b0 : Nat} {v : Value} {d : DataW H} {p : List MemPlace} (hv : Value.okWide Tryd.prog W r b0 30 v) (h : DataW.Trod enc Tryd.prog W base spare held 30 v d p) :
    ∃ (e : S30) (A8 A11 : Option Addr) (c8 c11 : Nat), v = .agg #[.int .i64 e.f0, .int .i64 e.f1, .int .i64 e.f2, .int .i64 e.f3, .string e.f4, .string e.f5, .int .i64 e.f6.f0, .string e.f6.f1, .slice A8 e.f6.f2.length c8, .string e.f6.f3, .int .i64 e.f6.f4, .slice A11 e.f6.f5.length c11] ∧
      e.f6.f2.length ≤ c8 ∧ Kd.C k61 W A8 e.f6.f2.length e.f6.f2 ∧ e.f6.f5.length ≤ c11 ∧ Kd.C (Kd.int .i64) W A11 e.f6.f5.length e.f6.f5 := by
  obtain ⟨cs, rfl, hsz⟩ := okWide_struct Tryd.underlying30 hv
  obtain ⟨l⟩ := cs
  obtain ⟨fuel, hf⟩ := h
  obtain ⟨e, he⟩ := opens_edit _ _ _ hf
  obtain ⟨A8, c8, A11, c11, e', l8, g8, l11, g11⟩ := k30_open he
  have e'' : l = _ := e'
  subst e''
  exact ⟨e, A8, A11, c8, c11, rfl, l8, g8, l11, g11⟩
end
end Go.Proofs.YthfalaabfgpjmaaDoor.RowD
