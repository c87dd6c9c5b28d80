import Derived.Test.YtmcinclecpeakaaGreatDoorPRRx0
import Derived.Deep.Slices
import Derived.Deep.Fields
import Derived.ChangeSame
import Derived.Lib.SmallJoins
import Derived.Deep.Strs
import Derived.SizedLaws
/- A document that came in, opened: its nodes as a list. -/
namespace Go.Proofs.YtmcinclecpeakaaGreatDoor.RowD
open Go.ChangeShapes Go.WideShapes Go.ChangeAt Go.RowKit Go.Deep Go.Joins Go.Proofs.YtmcinclecpeakaaGreatDoorW.PrintWords Go.Proofs.YtmcinclecpeakaaGreatDoor.PRR
set_option linter.unusedVariables false
set_option linter.unusedSimpArgs false

section
variable {H : Type} {enc : TypeId × Value → H} {W : World} {base : Nat} {spare : Nat → Bool} {held : Bool}
/-- What can be read is read by a kind. -/
def Opens {α : Type} (enc : TypeId × Value → H) (W : World) (base : Nat) (spare : Nat → Bool) (held : Bool) (t : TypeId) (d : Kd α) : Prop :=
  ∀ n cs x, DataW.trod enc Tryz.prog W base spare held n t cs = some x → ∃ a, d.K W a cs
theorem opens_int {t : TypeId} {k : IntKind} (ht : Tryz.prog.underlying t = some (.int k)) : Opens enc W base spare held t (Kd.int k) := fun n cs x h => by
  obtain ⟨z, rfl, _, _⟩ := DataW.trod_int ht h
  exact ⟨z, rfl⟩
theorem opens_string {t : TypeId} (ht : Tryz.prog.underlying t = some .string) : Opens enc W base spare held t Kd.string := fun n cs x h => by
  obtain ⟨z, rfl, _, _⟩ := DataW.trod_string ht h
  exact ⟨z, rfl⟩
theorem opens_bool {t : TypeId} (ht : Tryz.prog.underlying t = some .bool) : Opens enc W base spare held t Kd.bool := fun n cs x h => by
  obtain ⟨z, rfl, _⟩ := DataW.trod_bool ht h
  exact ⟨z, rfl⟩
theorem opens_slice {α : Type} {t e : TypeId} {d : Kd α} (ht : Tryz.prog.underlying t = some (.slice e)) (hc : Tryz.prog.cellsOf e = d.sz) (hd : Opens enc W base spare held e d) : Opens enc W base spare held t (Kd.slice e d) := fun n cs x h => by
  rcases open_slice ht h with ⟨rfl, _⟩ | ⟨a, len, cap, m, n', D, Pl, rfl, hb, hl, hm, hmm, hx0, hi⟩
  · exact ⟨[], none, 0, rfl, Nat.le_refl _, rfl, by simp, fun h => absurd h (Nat.lt_irrefl 0)⟩
  · have hlm : len ≤ m := by rw [hmm]; split <;> omega
    have hex : ∀ i, i < len → ∃ x, ∃ cs', W.cells? base (a.add (i * Tryz.prog.cellsOf e)) (Tryz.prog.cellsOf e) = some cs' ∧ d.K W x cs' := fun i hlt => by
      obtain ⟨cs', h1, h2⟩ := hi i (by omega)
      obtain ⟨x, hx⟩ := hd _ _ _ h2
      exact ⟨x, cs', h1, hx⟩
    have : ∃ xs : List α, xs.length = len ∧ ∀ i x, xs[i]? = some x → ∃ cs', W.cells? base (a.add (i * Tryz.prog.cellsOf e)) (Tryz.prog.cellsOf e) = some cs' ∧ d.K W x cs' := by
      clear hi hl hm hmm hlm h hx0
      induction len with
      | zero => exact ⟨[], rfl, fun i x hx => by simp at hx⟩
      | succ len ih =>
        obtain ⟨xs, h1, h2⟩ := ih (fun i hlt => hex i (by omega))
        obtain ⟨y, cs', h3, h4⟩ := hex len (by omega)
        refine ⟨xs ++ [y], by simp [h1], fun i x hx => ?_⟩
        by_cases hlt : i < len
        · rw [List.getElem?_append_left (by omega)] at hx
          exact h2 i x hx
        · have hi' : i = len := by
            have := (List.getElem?_eq_some_iff.1 hx).1
            simp [h1] at this
            omega
          subst hi'
          rw [List.getElem?_append_right (by omega), h1] at hx
          simp at hx
          subst hx
          exact ⟨cs', h3, h4⟩
    obtain ⟨xs, hxl, hxs⟩ := this
    subst hxl
    refine ⟨xs, some a, cap, rfl, hl, rfl, by unfold maxLen at hm; omega, fun _ => ⟨a, rfl, fun j p hj => ?_⟩⟩
    obtain ⟨cs', h1, h2⟩ := hxs j p hj
    obtain ⟨_, h3, h4⟩ := World.cells?_some h1
    refine ⟨cs', h3.trans hc, h2, fun i u hu => ?_⟩
    have hlt := (List.getElem?_eq_some_iff.1 hu).1
    have h5 := h4 i (by omega)
    rw [Go.Deep.add_add, hu, hc] at h5
    exact h5
set_option maxRecDepth 100000 in
theorem opens_attr : Opens enc W base spare held 66 k66 := fun n cs x h => by
  obtain ⟨xs, m, _, _, hcl, hxl, hf⟩ := DataW.trod_struct Tryz.underlying66 h
  have hlen : cs.length = 2 := hcl.trans (by kernel_rfl)
  match cs, hlen with
  | [c0, c1], _ =>
    have g0 := hf 0 _ rfl
    have g1 := hf 1 _ rfl
    rw [List.getElem?_eq_getElem (by rw [hxl]; decide)] at g0 g1
    obtain ⟨a0, e0⟩ := opens_string Tryz.underlying9 _ _ _ g0
    obtain ⟨a1, e1⟩ := opens_string Tryz.underlying9 _ _ _ g1
    have e0' : [c0] = [.string a0] := e0
    have e1' : [c1] = [.string a1] := e1
    injection e0' with e0'
    injection e1' with e1'
    subst e0' e1'
    exact ⟨⟨a0, a1⟩, k66_mk W ⟨a0, a1⟩⟩
set_option maxRecDepth 100000 in
theorem opens_node : Opens enc W base spare held 43 k43 := fun n cs x h => by
  obtain ⟨xs, m, _, _, hcl, hxl, hf⟩ := DataW.trod_struct Tryz.underlying43 h
  have hlen : cs.length = 6 := hcl.trans (by kernel_rfl)
  match cs, hlen with
  | [c0, c1, c2, c3, c4, c5], _ =>
    have g0 := hf 0 _ rfl
    have g1 := hf 1 _ rfl
    have g2 := hf 2 _ rfl
    have g3 := hf 3 _ rfl
    have g4 := hf 4 _ rfl
    have g5 := hf 5 _ rfl
    rw [List.getElem?_eq_getElem (by rw [hxl]; decide)] at g0 g1 g2 g3 g4 g5
    obtain ⟨a0, e0⟩ := opens_int Tryz.underlying3 _ _ _ g0
    obtain ⟨a1, e1⟩ := opens_string Tryz.underlying9 _ _ _ g1
    obtain ⟨a2, e2⟩ := opens_slice Tryz.underlying41 (by kernel_rfl) opens_attr _ _ _ g2
    obtain ⟨a3, e3⟩ := opens_string Tryz.underlying9 _ _ _ g3
    obtain ⟨a4, e4⟩ := opens_int Tryz.underlying3 _ _ _ g4
    obtain ⟨a5, e5⟩ := opens_slice Tryz.underlying38 (by kernel_rfl) (opens_int Tryz.underlying3) _ _ _ g5
    have h0 : [c0] = [.int .i64 a0] := e0
    have h1 : [c1] = [.string a1] := e1
    have h3 : [c3] = [.string a3] := e3
    have h4 : [c4] = [.int .i64 a4] := e4
    have h2 : (Kd.slice 66 k66).K W a2 [c2] := e2
    have h5 : (Kd.slice 3 (Kd.int .i64)).K W a5 [c5] := e5
    obtain ⟨A2, n2, h2, l2, r2⟩ := h2
    obtain ⟨A5, n5, h5, l5, r5⟩ := h5
    injection h0 with h0
    injection h1 with h1
    injection h2 with h2
    injection h3 with h3
    injection h4 with h4
    injection h5 with h5
    subst h0 h1 h2 h3 h4 h5
    exact ⟨⟨a0, a1, a2, a3, a4, a5⟩, k43_mk W ⟨a0, a1, a2, a3, a4, a5⟩ l2 r2 l5 r5⟩
set_option maxRecDepth 100000 in
/-- A document that came in. -/
theorem open_doc {r : Reach} {b0 : Nat} {v : Value} {d : DataW H} {p : List MemPlace} (hv : Value.okWide Tryz.prog W r b0 24 v) (h : DataW.Trod enc Tryz.prog W base spare held 24 v d p) :
    ∃ (A : Option Addr) (l : List S43) (c : Nat) (q : Bool), v = .agg #[.slice A l.length c, .bool q] ∧ l.length ≤ c ∧ Kd.C k43 W A l.length l := by
  obtain ⟨cs, rfl, hsz⟩ := okWide_struct Tryz.underlying24 hv
  obtain ⟨l⟩ := cs
  have hl : l.length = 2 := hsz.trans (by kernel_rfl)
  match l, hl with
  | [c0, c1], _ =>
    obtain ⟨fuel, hf⟩ := h
    obtain ⟨xs, m, _, _, _, hxl, hg⟩ := DataW.trod_struct Tryz.underlying24 hf
    have g0 := hg 0 _ rfl
    have g1 := hg 1 _ rfl
    rw [List.getElem?_eq_getElem (by rw [hxl]; decide)] at g0 g1
    obtain ⟨a0, e0⟩ := opens_slice Tryz.underlying22 (by kernel_rfl) opens_node _ _ _ g0
    obtain ⟨a1, e1⟩ := opens_bool Tryz.underlying4 _ _ _ g1
    have h0 : (Kd.slice 43 k43).K W a0 [c0] := e0
    have h1 : [c1] = [.bool a1] := e1
    obtain ⟨A, c, h0, l0, r0⟩ := h0
    injection h0 with h0
    injection h1 with h1
    subst h0 h1
    exact ⟨A, a0, c, a1, rfl, l0, r0⟩
/-- No row of kids is longer than a row may be. -/
theorem fit_doc {A : Option Addr} {l : List S43} (h : Kd.C k43 W A l.length l) (i : Int) : (rd_T43 l i).f5.length ≤ 9223372036854775807 := by
  by_cases hi : i.toNat < l.length
  · obtain ⟨ad, A2, c2, A5, c5, _, _, _, _, _, _, _, _, _, _, g5⟩ := at_T43 h (i.toNat : Int) (by omega) (by omega)
    have e : rd_T43 l (i.toNat : Int) = rd_T43 l i := by unfold rd_T43; rw [Int.toNat_natCast]
    rw [e] at g5
    exact g5.2.1
  · unfold rd_T43
    rw [List.getD_eq_getElem?_getD, List.getElem?_eq_none (by omega)]
    decide
end
end Go.Proofs.YtmcinclecpeakaaGreatDoor.RowD
/- A list of edits that came in, opened. -/
namespace Go.Proofs.YtmcinclecpeakaaGreatDoor.RowD
open Go.ChangeShapes Go.WideShapes Go.ChangeAt Go.RowKit Go.Deep Go.Joins Go.Proofs.YtmcinclecpeakaaGreatDoorW.PrintWords Go.Proofs.YtmcinclecpeakaaGreatDoor.PRR
set_option linter.unusedVariables false
section
variable {H : Type} {enc : TypeId × Value → H} {W : World} {base : Nat} {spare : Nat → Bool} {held : Bool}
set_option maxRecDepth 100000 in
theorem opens_edit : Opens enc W base spare held 45 k45 := fun n cs x h => by
  obtain ⟨xs, m, _, _, hcl, hxl, hf⟩ := DataW.trod_struct Tryz.underlying45 h
  have hlen : cs.length = 12 := hcl.trans (by kernel_rfl)
  match cs, hlen with
  | [c0, c1, c2, c3, c4, c5, c6, c7, c8, c9, c10, c11], _ =>
    have g0 := hf 0 _ rfl
    have g1 := hf 1 _ rfl
    have g2 := hf 2 _ rfl
    have g3 := hf 3 _ rfl
    have g4 := hf 4 _ rfl
    have g5 := hf 5 _ rfl
    have g6 := hf 6 _ rfl
    rw [List.getElem?_eq_getElem (by rw [hxl]; decide)] at g0 g1 g2 g3 g4 g5 g6
    obtain ⟨a0, e0⟩ := opens_int Tryz.underlying3 _ _ _ g0
    obtain ⟨a1, e1⟩ := opens_int Tryz.underlying3 _ _ _ g1
    obtain ⟨a2, e2⟩ := opens_int Tryz.underlying3 _ _ _ g2
    obtain ⟨a3, e3⟩ := opens_int Tryz.underlying3 _ _ _ g3
    obtain ⟨a4, e4⟩ := opens_string Tryz.underlying9 _ _ _ g4
    obtain ⟨a5, e5⟩ := opens_string Tryz.underlying9 _ _ _ g5
    obtain ⟨a6, e6⟩ := opens_node _ _ _ g6
    have h0 : [c0] = [.int .i64 a0] := e0
    have h1 : [c1] = [.int .i64 a1] := e1
    have h2 : [c2] = [.int .i64 a2] := e2
    have h3 : [c3] = [.int .i64 a3] := e3
    have h4 : [c4] = [.string a4] := e4
    have h5 : [c5] = [.string a5] := e5
    have h6 : k43.K W a6 [c6, c7, c8, c9, c10, c11] := e6
    obtain ⟨A8, n8, A11, n11, he, l8, r8, l11, r11⟩ := k43_open h6
    injection h0 with h0
    injection h1 with h1
    injection h2 with h2
    injection h3 with h3
    injection h4 with h4
    injection h5 with h5
    injection he with i6 he
    injection he with i7 he
    injection he with i8 he
    injection he with i9 he
    injection he with i10 he
    injection he with i11 _
    subst h0 h1 h2 h3 h4 h5 i6 i7 i8 i9 i10 i11
    exact ⟨⟨a0, a1, a2, a3, a4, a5, a6⟩, k45_mk W ⟨a0, a1, a2, a3, a4, a5, a6⟩ l8 r8 l11 r11⟩
set_option maxRecDepth 100000 in
/-- A list of edits that came in. -/
theorem open_edits {A : Option Addr} {len cap : Nat} {d : DataW H} {p : List MemPlace} (h : DataW.Trod enc Tryz.prog W base spare held 25 (.slice A len cap) d p) :
    ∃ es : List S45, len = es.length ∧ Kd.C k45 W A es.length es ∧ es.length ≤ cap := by
  obtain ⟨fuel, hf⟩ := h
  obtain ⟨a0, e0⟩ := opens_slice Tryz.underlying25 (by kernel_rfl) opens_edit _ _ _ hf
  have h0 : (Kd.slice 45 k45).K W a0 [.slice A len cap] := e0
  obtain ⟨A', c', h0, l0, r0⟩ := h0
  injection h0 with h0
  injection h0 with h1 h2 h3
  subst h1 h2 h3
  exact ⟨a0, rfl, r0, l0⟩
end
end Go.Proofs.YtmcinclecpeakaaGreatDoor.RowD
/- A list of edits, or texts, that came in, opened; how long an edit's own rows may be. -/
namespace Go.Proofs.YtmcinclecpeakaaGreatDoor.RowD
open Go.ChangeShapes Go.WideShapes Go.ChangeAt Go.RowKit Go.Deep Go.Joins Go.Proofs.YtmcinclecpeakaaGreatDoorW.PrintWords Go.Proofs.YtmcinclecpeakaaGreatDoor.PRR
set_option linter.unusedVariables false
set_option linter.unusedSimpArgs false
section
variable {H : Type} {enc : TypeId × Value → H} {W : World} {base : Nat} {spare : Nat → Bool} {held : Bool}
/-- What can be read, of a size that fits, is read so. -/
def OpensW {α : Type} (enc : TypeId × Value → H) (W : World) (base : Nat) (spare : Nat → Bool) (held : Bool) (t : TypeId) (d : Kd α) (ok : α → Prop) : Prop :=
  ∀ n cs x, DataW.trod enc Tryz.prog W base spare held n t cs = some x → (∀ k ∈ x.1.weights Tryz.prog t, k ≤ reachBytes) → ∃ a, d.K W a cs ∧ ok a
theorem OpensW.of {α : Type} {t : TypeId} {d : Kd α} (h : Opens enc W base spare held t d) : OpensW enc W base spare held t d (fun _ => True) := fun n cs x hx _ => by
  obtain ⟨a, ha⟩ := h n cs x hx
  exact ⟨a, ha, trivial⟩
theorem weights_all {e : TypeId} : ∀ {l : List (DataW H)} {d : DataW H}, d ∈ l → ∀ k ∈ d.weights Tryz.prog e, k ∈ DataW.weightsAll Tryz.prog e l
  | y :: r, d, hd, k, hk => by
    simp only [DataW.weightsAll]
    rcases List.mem_cons.1 hd with rfl | hd
    · exact List.mem_append_left _ hk
    · exact List.mem_append_right _ (weights_all hd k hk)
/-- A slice of what can be opened. -/
theorem opens_sliceW {α : Type} {t e : TypeId} {d : Kd α} {ok : α → Prop} {n : Nat} {cs : List Value} {x : DataW H × List MemPlace} (ht : Tryz.prog.underlying t = some (.slice e)) (hc : Tryz.prog.cellsOf e = d.sz) (hd : OpensW enc W base spare held e d ok)
    (h : DataW.trod enc Tryz.prog W base spare held n t cs = some x) (hw : ∀ k ∈ x.1.weights Tryz.prog t, k ≤ reachBytes) :
    ∃ (xs : List α) (A : Option Addr) (c : Nat), cs = [.slice A xs.length c] ∧ xs.length ≤ c ∧ Kd.C d W A xs.length xs ∧ (∀ a ∈ xs, ok a) ∧ xs.length * Tryz.prog.bytesOf e ≤ reachBytes := by
  rcases open_slice ht h with ⟨rfl, rfl⟩ | ⟨a, len, cap, m, n', D, Pl, rfl, hb, hl, hm, hmm, rfl, hi⟩
  · exact ⟨[], none, 0, rfl, Nat.le_refl _, ⟨rfl, by simp, fun h => absurd h (Nat.lt_irrefl 0)⟩, by simp, by simp⟩
  · have hlm : len ≤ m := by rw [hmm]; split <;> omega
    have hw1 : (((List.range len).map D).length + ((List.range (m - len)).map fun j => D (len + j)).length) * Tryz.prog.bytesOf e ≤ reachBytes := hw _ (by simp only [DataW.weights, ht]; exact List.mem_cons_self)
    have hwi : ∀ i, i < len → ∀ k ∈ (D i).weights Tryz.prog e, k ≤ reachBytes := fun i hlt k hk => hw k (by
      simp only [DataW.weights, ht]
      exact List.mem_cons_of_mem _ (List.mem_append_left _ (weights_all (List.mem_map.2 ⟨i, List.mem_range.2 hlt, rfl⟩) k hk)))
    have hex : ∀ i, i < len → ∃ x, ∃ cs', W.cells? base (a.add (i * Tryz.prog.cellsOf e)) (Tryz.prog.cellsOf e) = some cs' ∧ d.K W x cs' ∧ ok x := fun i hlt => by
      obtain ⟨cs', h1, h2⟩ := hi i (by omega)
      obtain ⟨x, hx, ho⟩ := hd _ _ _ h2 (hwi i hlt)
      exact ⟨x, cs', h1, hx, ho⟩
    have : ∃ xs : List α, xs.length = len ∧ (∀ x ∈ xs, ok x) ∧ ∀ i x, xs[i]? = some x → ∃ cs', W.cells? base (a.add (i * Tryz.prog.cellsOf e)) (Tryz.prog.cellsOf e) = some cs' ∧ d.K W x cs' := by
      clear hi hl hm hmm hlm h hw hw1 hwi
      induction len with
      | zero => exact ⟨[], rfl, by simp, fun i x hx => by simp at hx⟩
      | succ len ih =>
        obtain ⟨xs, h1, ho, h2⟩ := ih (fun i hlt => hex i (by omega))
        obtain ⟨y, cs', h3, h4, h5⟩ := hex len (by omega)
        refine ⟨xs ++ [y], by simp [h1], fun x hx => ?_, fun i x hx => ?_⟩
        · rcases List.mem_append.1 hx with hx | hx
          · exact ho x hx
          · rw [List.mem_singleton] at hx; subst hx; exact h5
        by_cases hlt : i < len
        · rw [List.getElem?_append_left (by omega)] at hx
          exact h2 i x hx
        · have hi' : i = len := by
            have := (List.getElem?_eq_some_iff.1 hx).1
            simp [h1] at this
            omega
          subst hi'
          rw [List.getElem?_append_right (by omega), h1] at hx
          simp at hx
          subst hx
          exact ⟨cs', h3, h4⟩
    obtain ⟨xs, hxl, ho, hxs⟩ := this
    subst hxl
    refine ⟨xs, a, cap, rfl, hl, ⟨rfl, by unfold maxLen at hm; omega, fun _ => ⟨a, rfl, fun j p hj => ?_⟩⟩, ho, ?_⟩
    · obtain ⟨cs', h1, h2⟩ := hxs j p hj
      obtain ⟨_, h3, h4⟩ := World.cells?_some h1
      refine ⟨cs', h3.trans hc, h2, fun i u hu => ?_⟩
      have hlt := (List.getElem?_eq_some_iff.1 hu).1
      have h5 := h4 i (by omega)
      rw [Go.Deep.add_add, hu, hc] at h5
      exact h5
    · refine Nat.le_trans (Nat.mul_le_mul_right _ ?_) hw1
      simp

def okN (x : S43) : Prop := x.f2.length ≤ 4398046511104 ∧ x.f5.length ≤ 17592186044416
set_option maxRecDepth 100000 in
theorem opens_nodeW : OpensW enc W base spare held 43 k43 okN := fun n cs x h hw => by
  obtain ⟨xs, m, _, rfl, hcl, hxl, hf⟩ := DataW.trod_struct Tryz.underlying43 h
  have hlen : cs.length = 6 := hcl.trans (by kernel_rfl)
  match cs, hlen, xs, hxl with
  | [c0, c1, c2, c3, c4, c5], _, [y0, y1, y2, y3, y4, y5], _ =>
    have g0 := hf 0 _ rfl
    have g1 := hf 1 _ rfl
    have g2 := hf 2 _ rfl
    have g3 := hf 3 _ rfl
    have g4 := hf 4 _ rfl
    have g5 := hf 5 _ rfl
    have hw2 : ∀ k ∈ y2.1.weights Tryz.prog 41, k ≤ reachBytes := fun k hk => hw k (by
      simp only [DataW.weights, Tryz.underlying43]
      exact DataW.weights_mem_each (j := 2) rfl rfl k hk)
    have hw5 : ∀ k ∈ y5.1.weights Tryz.prog 38, k ≤ reachBytes := fun k hk => hw k (by
      simp only [DataW.weights, Tryz.underlying43]
      exact DataW.weights_mem_each (j := 5) rfl rfl k hk)
    obtain ⟨a0, e0⟩ := opens_int Tryz.underlying3 _ _ _ g0
    obtain ⟨a1, e1⟩ := opens_string Tryz.underlying9 _ _ _ g1
    obtain ⟨a2, A2, n2, h2, l2, r2, _, b2⟩ := opens_sliceW Tryz.underlying41 (by kernel_rfl) (OpensW.of opens_attr) g2 hw2
    obtain ⟨a3, e3⟩ := opens_string Tryz.underlying9 _ _ _ g3
    obtain ⟨a4, e4⟩ := opens_int Tryz.underlying3 _ _ _ g4
    obtain ⟨a5, A5, n5, h5, l5, r5, _, b5⟩ := opens_sliceW Tryz.underlying38 (by kernel_rfl) (OpensW.of (opens_int Tryz.underlying3)) g5 hw5
    have h0 : [c0] = [.int .i64 a0] := e0
    have h1 : [c1] = [.string a1] := e1
    have h3 : [c3] = [.string a3] := e3
    have h4 : [c4] = [.int .i64 a4] := e4
    have h2' : [c2] = [.slice A2 a2.length n2] := h2
    have h5' : [c5] = [.slice A5 a5.length n5] := h5
    injection h0 with h0
    injection h1 with h1
    injection h2' with h2'
    injection h3 with h3
    injection h4 with h4
    injection h5' with h5'
    subst h0 h1 h2' h3 h4 h5'
    refine ⟨⟨a0, a1, a2, a3, a4, a5⟩, k43_mk W ⟨a0, a1, a2, a3, a4, a5⟩ l2 r2 l5 r5, ?_, ?_⟩
    · have hbb : Tryz.prog.bytesOf 66 = 32 := by kernel_rfl
      rw [hbb] at b2
      unfold reachBytes at b2
      show a2.length ≤ _
      omega
    · have hbb : Tryz.prog.bytesOf 3 = 8 := by kernel_rfl
      rw [hbb] at b5
      unfold reachBytes at b5
      show a5.length ≤ _
      omega
def okE (x : S45) : Prop := okN x.f6
set_option maxRecDepth 100000 in
theorem opens_editW : OpensW enc W base spare held 45 k45 okE := fun n cs x h hw => by
  obtain ⟨xs, m, _, rfl, hcl, hxl, hf⟩ := DataW.trod_struct Tryz.underlying45 h
  have hlen : cs.length = 12 := hcl.trans (by kernel_rfl)
  match cs, hlen, xs, hxl with
  | [c0, c1, c2, c3, c4, c5, c6, c7, c8, c9, c10, c11], _, [y0, y1, y2, y3, y4, y5, y6], _ =>
    have g0 := hf 0 _ rfl
    have g1 := hf 1 _ rfl
    have g2 := hf 2 _ rfl
    have g3 := hf 3 _ rfl
    have g4 := hf 4 _ rfl
    have g5 := hf 5 _ rfl
    have g6 := hf 6 _ rfl
    have hw6 : ∀ k ∈ y6.1.weights Tryz.prog 43, k ≤ reachBytes := fun k hk => hw k (by
      simp only [DataW.weights, Tryz.underlying45]
      exact DataW.weights_mem_each (j := 6) rfl rfl k hk)
    obtain ⟨a0, e0⟩ := opens_int Tryz.underlying3 _ _ _ g0
    obtain ⟨a1, e1⟩ := opens_int Tryz.underlying3 _ _ _ g1
    obtain ⟨a2, e2⟩ := opens_int Tryz.underlying3 _ _ _ g2
    obtain ⟨a3, e3⟩ := opens_int Tryz.underlying3 _ _ _ g3
    obtain ⟨a4, e4⟩ := opens_string Tryz.underlying9 _ _ _ g4
    obtain ⟨a5, e5⟩ := opens_string Tryz.underlying9 _ _ _ g5
    obtain ⟨a6, e6, o6⟩ := opens_nodeW _ _ _ g6 hw6
    have h0 : [c0] = [.int .i64 a0] := e0
    have h1 : [c1] = [.int .i64 a1] := e1
    have h2 : [c2] = [.int .i64 a2] := e2
    have h3 : [c3] = [.int .i64 a3] := e3
    have h4 : [c4] = [.string a4] := e4
    have h5 : [c5] = [.string a5] := e5
    have h6 : k43.K W a6 [c6, c7, c8, c9, c10, c11] := e6
    obtain ⟨A8, n8, A11, n11, he, l8, r8, l11, r11⟩ := k43_open h6
    injection h0 with h0
    injection h1 with h1
    injection h2 with h2
    injection h3 with h3
    injection h4 with h4
    injection h5 with h5
    injection he with i6 he
    injection he with i7 he
    injection he with i8 he
    injection he with i9 he
    injection he with i10 he
    injection he with i11 _
    subst h0 h1 h2 h3 h4 h5 i6 i7 i8 i9 i10 i11
    exact ⟨⟨a0, a1, a2, a3, a4, a5, a6⟩, k45_mk W ⟨a0, a1, a2, a3, a4, a5, a6⟩ l8 r8 l11 r11, o6⟩
/-- A list of edits that came in. -/
theorem open_editsW {A : Option Addr} {len cap : Nat} {d : DataW H} {p : List MemPlace} {ts : List TypeId} {ds : List (DataW H)} {j : Nat}
    (hsz : (DataW.weightsEach Tryz.prog ts ds).all (· ≤ reachBytes) = true) (ht : ts[j]? = some 25) (hd : ds[j]? = some d)
    (h : DataW.Trod enc Tryz.prog W base spare held 25 (.slice A len cap) d p) :
    ∃ es : List S45, len = es.length ∧ Kd.C k45 W A es.length es ∧ es.length ≤ cap ∧ ∀ x ∈ es, okE x := by
  obtain ⟨fuel, hf⟩ := h
  obtain ⟨xs, A', c, e, hl, hr, ho, _⟩ := opens_sliceW Tryz.underlying25 (by kernel_rfl) opens_editW hf (fun k hk => of_decide_eq_true (List.all_eq_true.1 hsz _ (DataW.weights_mem_each ht hd k hk)))
  have e' : [Value.slice A len cap] = [.slice A' xs.length c] := e
  injection e' with e'
  injection e' with e1 e2 e3
  subst e1 e2 e3
  exact ⟨xs, rfl, hr, hl, ho⟩
end
end Go.Proofs.YtmcinclecpeakaaGreatDoor.RowD
