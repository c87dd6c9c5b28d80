/- A document that came in, opened: its nodes as a list. -/
import Derived.Test.YthfalaabfgpjmaaDoorPAPx0
import Derived.Deep.Slices
import Derived.Deep.Fields
import Derived.ChangeSame
import Derived.Lib.SmallJoins
namespace Go.Proofs.YthfalaabfgpjmaaDoor.RowD
open Go.ChangeShapes Go.WideShapes Go.ChangeAt Go.RowKit Go.Deep Go.Joins Go.Proofs.YthfalaabfgpjmaaDoorW.PrintWords Go.Proofs.YthfalaabfgpjmaaDoor.PAP
set_option linter.unusedVariables false
set_option linter.unusedSimpArgs false

section
variable {H : Type} {enc : TypeId × Value → H} {W : World} {base : Nat} {spare : Nat → Bool} {held : Bool}
/-- What can be read is read by a kind. -/
def Opens {α : Type} (enc : TypeId × Value → H) (W : World) (base : Nat) (spare : Nat → Bool) (held : Bool) (t : TypeId) (d : Kd α) : Prop :=
  ∀ n cs x, DataW.trod enc Tryd.prog W base spare held n t cs = some x → ∃ a, d.K W a cs
theorem opens_int {t : TypeId} {k : IntKind} (ht : Tryd.prog.underlying t = some (.int k)) : Opens enc W base spare held t (Kd.int k) := fun n cs x h => by
  obtain ⟨z, rfl, _, _⟩ := DataW.trod_int ht h
  exact ⟨z, rfl⟩
theorem opens_string {t : TypeId} (ht : Tryd.prog.underlying t = some .string) : Opens enc W base spare held t Kd.string := fun n cs x h => by
  obtain ⟨z, rfl, _, _⟩ := DataW.trod_string ht h
  exact ⟨z, rfl⟩
theorem opens_bool {t : TypeId} (ht : Tryd.prog.underlying t = some .bool) : Opens enc W base spare held t Kd.bool := fun n cs x h => by
  obtain ⟨z, rfl, _⟩ := DataW.trod_bool ht h
  exact ⟨z, rfl⟩
theorem opens_slice {α : Type} {t e : TypeId} {d : Kd α} (ht : Tryd.prog.underlying t = some (.slice e)) (hc : Tryd.prog.cellsOf e = d.sz) (hd : Opens enc W base spare held e d) : Opens enc W base spare held t (Kd.slice e d) := fun n cs x h => by
  rcases open_slice ht h with ⟨rfl, _⟩ | ⟨a, len, cap, m, n', D, Pl, rfl, hb, hl, hm, hmm, hx0, hi⟩
  · exact ⟨[], none, 0, rfl, Nat.le_refl _, rfl, by simp, fun h => absurd h (Nat.lt_irrefl 0)⟩
  · have hlm : len ≤ m := by rw [hmm]; split <;> omega
    have hex : ∀ i, i < len → ∃ x, ∃ cs', W.cells? base (a.add (i * Tryd.prog.cellsOf e)) (Tryd.prog.cellsOf e) = some cs' ∧ d.K W x cs' := fun i hlt => by
      obtain ⟨cs', h1, h2⟩ := hi i (by omega)
      obtain ⟨x, hx⟩ := hd _ _ _ h2
      exact ⟨x, cs', h1, hx⟩
    have : ∃ xs : List α, xs.length = len ∧ ∀ i x, xs[i]? = some x → ∃ cs', W.cells? base (a.add (i * Tryd.prog.cellsOf e)) (Tryd.prog.cellsOf e) = some cs' ∧ d.K W x cs' := by
      clear hi hl hm hmm hlm h hx0
      induction len with
      | zero => exact ⟨[], rfl, fun i x hx => by simp at hx⟩
      | succ len ih =>
        obtain ⟨xs, h1, h2⟩ := ih (fun i hlt => hex i (by omega))
        obtain ⟨y, cs', h3, h4⟩ := hex len (by omega)
        refine ⟨xs ++ [y], by simp [h1], fun i x hx => ?_⟩
        by_cases hlt : i < len
        · rw [List.getElem?_append_left (by omega)] at hx
          exact h2 i x hx
        · have hi' : i = len := by
            have := (List.getElem?_eq_some_iff.1 hx).1
            simp [h1] at this
            omega
          subst hi'
          rw [List.getElem?_append_right (by omega), h1] at hx
          simp at hx
          subst hx
          exact ⟨cs', h3, h4⟩
    obtain ⟨xs, hxl, hxs⟩ := this
    subst hxl
    refine ⟨xs, some a, cap, rfl, hl, rfl, by unfold maxLen at hm; omega, fun _ => ⟨a, rfl, fun j p hj => ?_⟩⟩
    obtain ⟨cs', h1, h2⟩ := hxs j p hj
    obtain ⟨_, h3, h4⟩ := World.cells?_some h1
    refine ⟨cs', h3.trans hc, h2, fun i u hu => ?_⟩
    have hlt := (List.getElem?_eq_some_iff.1 hu).1
    have h5 := h4 i (by omega)
    rw [Go.Deep.add_add, hu, hc] at h5
    exact h5
set_option maxRecDepth 100000 in
theorem opens_attr : Opens enc W base spare held 61 k61 := fun n cs x h => by
  obtain ⟨xs, m, _, _, hcl, hxl, hf⟩ := DataW.trod_struct Tryd.underlying61 h
  have hlen : cs.length = 2 := hcl.trans (by kernel_rfl)
  match cs, hlen with
  | [c0, c1], _ =>
    have g0 := hf 0 _ rfl
    have g1 := hf 1 _ rfl
    rw [List.getElem?_eq_getElem (by rw [hxl]; decide)] at g0 g1
    obtain ⟨a0, e0⟩ := opens_string Tryd.underlying9 _ _ _ g0
    obtain ⟨a1, e1⟩ := opens_string Tryd.underlying9 _ _ _ g1
    have e0' : [c0] = [.string a0] := e0
    have e1' : [c1] = [.string a1] := e1
    injection e0' with e0'
    injection e1' with e1'
    subst e0' e1'
    exact ⟨⟨a0, a1⟩, k61_mk W ⟨a0, a1⟩⟩
set_option maxRecDepth 100000 in
theorem opens_node : Opens enc W base spare held 28 k28 := fun n cs x h => by
  obtain ⟨xs, m, _, _, hcl, hxl, hf⟩ := DataW.trod_struct Tryd.underlying28 h
  have hlen : cs.length = 6 := hcl.trans (by kernel_rfl)
  match cs, hlen with
  | [c0, c1, c2, c3, c4, c5], _ =>
    have g0 := hf 0 _ rfl
    have g1 := hf 1 _ rfl
    have g2 := hf 2 _ rfl
    have g3 := hf 3 _ rfl
    have g4 := hf 4 _ rfl
    have g5 := hf 5 _ rfl
    rw [List.getElem?_eq_getElem (by rw [hxl]; decide)] at g0 g1 g2 g3 g4 g5
    obtain ⟨a0, e0⟩ := opens_int Tryd.underlying3 _ _ _ g0
    obtain ⟨a1, e1⟩ := opens_string Tryd.underlying9 _ _ _ g1
    obtain ⟨a2, e2⟩ := opens_slice Tryd.underlying25 (by kernel_rfl) opens_attr _ _ _ g2
    obtain ⟨a3, e3⟩ := opens_string Tryd.underlying9 _ _ _ g3
    obtain ⟨a4, e4⟩ := opens_int Tryd.underlying3 _ _ _ g4
    obtain ⟨a5, e5⟩ := opens_slice Tryd.underlying26 (by kernel_rfl) (opens_int Tryd.underlying3) _ _ _ g5
    have h0 : [c0] = [.int .i64 a0] := e0
    have h1 : [c1] = [.string a1] := e1
    have h3 : [c3] = [.string a3] := e3
    have h4 : [c4] = [.int .i64 a4] := e4
    have h2 : (Kd.slice 61 k61).K W a2 [c2] := e2
    have h5 : (Kd.slice 3 (Kd.int .i64)).K W a5 [c5] := e5
    obtain ⟨A2, n2, h2, l2, r2⟩ := h2
    obtain ⟨A5, n5, h5, l5, r5⟩ := h5
    injection h0 with h0
    injection h1 with h1
    injection h2 with h2
    injection h3 with h3
    injection h4 with h4
    injection h5 with h5
    subst h0 h1 h2 h3 h4 h5
    exact ⟨⟨a0, a1, a2, a3, a4, a5⟩, k28_mk W ⟨a0, a1, a2, a3, a4, a5⟩ l2 r2 l5 r5⟩
set_option maxRecDepth 100000 in
/-- A document that came in. -/
theorem open_doc {r : Reach} {b0 : Nat} {v : Value} {d : DataW H} {p : List MemPlace} (hv : Value.okWide Tryd.prog W r b0 24 v) (h : DataW.Trod enc Tryd.prog W base spare held 24 v d p) :
    ∃ (A : Option Addr) (l : List S28) (c : Nat) (q : Bool), v = .agg #[.slice A l.length c, .bool q] ∧ l.length ≤ c ∧ Kd.C k28 W A l.length l := by
  obtain ⟨cs, rfl, hsz⟩ := okWide_struct Tryd.underlying24 hv
  obtain ⟨l⟩ := cs
  have hl : l.length = 2 := hsz.trans (by kernel_rfl)
  match l, hl with
  | [c0, c1], _ =>
    obtain ⟨fuel, hf⟩ := h
    obtain ⟨xs, m, _, _, _, hxl, hg⟩ := DataW.trod_struct Tryd.underlying24 hf
    have g0 := hg 0 _ rfl
    have g1 := hg 1 _ rfl
    rw [List.getElem?_eq_getElem (by rw [hxl]; decide)] at g0 g1
    obtain ⟨a0, e0⟩ := opens_slice Tryd.underlying22 (by kernel_rfl) opens_node _ _ _ g0
    obtain ⟨a1, e1⟩ := opens_bool Tryd.underlying4 _ _ _ g1
    have h0 : (Kd.slice 28 k28).K W a0 [c0] := e0
    have h1 : [c1] = [.bool a1] := e1
    obtain ⟨A, c, h0, l0, r0⟩ := h0
    injection h0 with h0
    injection h1 with h1
    subst h0 h1
    exact ⟨A, a0, c, a1, rfl, l0, r0⟩
/-- No row of kids is longer than a row may be. -/
theorem fit_doc {A : Option Addr} {l : List S28} (h : Kd.C k28 W A l.length l) (i : Int) : (rd_T28 l i).f5.length ≤ 9223372036854775807 := by
  by_cases hi : i.toNat < l.length
  · obtain ⟨ad, A2, c2, A5, c5, _, _, _, _, _, _, _, _, _, _, g5⟩ := at_T28 h (i.toNat : Int) (by omega) (by omega)
    have e : rd_T28 l (i.toNat : Int) = rd_T28 l i := by unfold rd_T28; rw [Int.toNat_natCast]
    rw [e] at g5
    exact g5.2.1
  · unfold rd_T28
    rw [List.getD_eq_getElem?_getD, List.getElem?_eq_none (by omega)]
    decide
end
end Go.Proofs.YthfalaabfgpjmaaDoor.RowD
