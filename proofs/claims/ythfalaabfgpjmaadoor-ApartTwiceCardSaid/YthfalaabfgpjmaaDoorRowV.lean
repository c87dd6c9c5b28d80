/- A list of edits, or texts, that came in, opened; how long an edit's own rows may be. -/
import Derived.Test.YthfalaabfgpjmaaDoorRowE
import Derived.Deep.Strs
import Derived.SizedLaws
namespace Go.Proofs.YthfalaabfgpjmaaDoor.RowD
open Go.ChangeShapes Go.WideShapes Go.ChangeAt Go.RowKit Go.Deep Go.Joins Go.Proofs.YthfalaabfgpjmaaDoorW.PrintWords Go.Proofs.YthfalaabfgpjmaaDoor.PAP
set_option linter.unusedVariables false
set_option linter.unusedSimpArgs false
section
variable {H : Type} {enc : TypeId × Value → H} {W : World} {base : Nat} {spare : Nat → Bool} {held : Bool}
/-- What can be read, of a size that fits, is read so. -/
def OpensW {α : Type} (enc : TypeId × Value → H) (W : World) (base : Nat) (spare : Nat → Bool) (held : Bool) (t : TypeId) (d : Kd α) (ok : α → Prop) : Prop :=
  ∀ n cs x, DataW.trod enc Tryd.prog W base spare held n t cs = some x → (∀ k ∈ x.1.weights Tryd.prog t, k ≤ reachBytes) → ∃ a, d.K W a cs ∧ ok a
theorem OpensW.of {α : Type} {t : TypeId} {d : Kd α} (h : Opens enc W base spare held t d) : OpensW enc W base spare held t d (fun _ => True) := fun n cs x hx _ => by
  obtain ⟨a, ha⟩ := h n cs x hx
  exact ⟨a, ha, trivial⟩
theorem weights_all {e : TypeId} : ∀ {l : List (DataW H)} {d : DataW H}, d ∈ l → ∀ k ∈ d.weights Tryd.prog e, k ∈ DataW.weightsAll Tryd.prog e l
  | y :: r, d, hd, k, hk => by
    simp only [DataW.weightsAll]
    rcases List.mem_cons.1 hd with rfl | hd
    · exact List.mem_append_left _ hk
    · exact List.mem_append_right _ (weights_all hd k hk)
/-- A slice of what can be opened. -/
theorem opens_sliceW {α : Type} {t e : TypeId} {d : Kd α} {ok : α → Prop} {n : Nat} {cs : List Value} {x : DataW H × List MemPlace} (ht : Tryd.prog.underlying t = some (.slice e)) (hc : Tryd.prog.cellsOf e = d.sz) (hd : OpensW enc W base spare held e d ok)
    (h : DataW.trod enc Tryd.prog W base spare held n t cs = some x) (hw : ∀ k ∈ x.1.weights Tryd.prog t, k ≤ reachBytes) :
    ∃ (xs : List α) (A : Option Addr) (c : Nat), cs = [.slice A xs.length c] ∧ xs.length ≤ c ∧ Kd.C d W A xs.length xs ∧ (∀ a ∈ xs, ok a) ∧ xs.length * Tryd.prog.bytesOf e ≤ reachBytes := by
  rcases open_slice ht h with ⟨rfl, rfl⟩ | ⟨a, len, cap, m, n', D, Pl, rfl, hb, hl, hm, hmm, rfl, hi⟩
  · exact ⟨[], none, 0, rfl, Nat.le_refl _, ⟨rfl, by simp, fun h => absurd h (Nat.lt_irrefl 0)⟩, by simp, by simp⟩
  · have hlm : len ≤ m := by rw [hmm]; split <;> omega
    have hw1 : (((List.range len).map D).length + ((List.range (m - len)).map fun j => D (len + j)).length) * Tryd.prog.bytesOf e ≤ reachBytes := hw _ (by simp only [DataW.weights, ht]; exact List.mem_cons_self)
    have hwi : ∀ i, i < len → ∀ k ∈ (D i).weights Tryd.prog e, k ≤ reachBytes := fun i hlt k hk => hw k (by
      simp only [DataW.weights, ht]
      exact List.mem_cons_of_mem _ (List.mem_append_left _ (weights_all (List.mem_map.2 ⟨i, List.mem_range.2 hlt, rfl⟩) k hk)))
    have hex : ∀ i, i < len → ∃ x, ∃ cs', W.cells? base (a.add (i * Tryd.prog.cellsOf e)) (Tryd.prog.cellsOf e) = some cs' ∧ d.K W x cs' ∧ ok x := fun i hlt => by
      obtain ⟨cs', h1, h2⟩ := hi i (by omega)
      obtain ⟨x, hx, ho⟩ := hd _ _ _ h2 (hwi i hlt)
      exact ⟨x, cs', h1, hx, ho⟩
    have : ∃ xs : List α, xs.length = len ∧ (∀ x ∈ xs, ok x) ∧ ∀ i x, xs[i]? = some x → ∃ cs', W.cells? base (a.add (i * Tryd.prog.cellsOf e)) (Tryd.prog.cellsOf e) = some cs' ∧ d.K W x cs' := by
      clear hi hl hm hmm hlm h hw hw1 hwi
      induction len with
      | zero => exact ⟨[], rfl, by simp, fun i x hx => by simp at hx⟩
      | succ len ih =>
        obtain ⟨xs, h1, ho, h2⟩ := ih (fun i hlt => hex i (by omega))
        obtain ⟨y, cs', h3, h4, h5⟩ := hex len (by omega)
        refine ⟨xs ++ [y], by simp [h1], fun x hx => ?_, fun i x hx => ?_⟩
        · rcases List.mem_append.1 hx with hx | hx
          · exact ho x hx
          · rw [List.mem_singleton] at hx; subst hx; exact h5
        by_cases hlt : i < len
        · rw [List.getElem?_append_left (by omega)] at hx
          exact h2 i x hx
        · have hi' : i = len := by
            have := (List.getElem?_eq_some_iff.1 hx).1
            simp [h1] at this
            omega
          subst hi'
          rw [List.getElem?_append_right (by omega), h1] at hx
          simp at hx
          subst hx
          exact ⟨cs', h3, h4⟩
    obtain ⟨xs, hxl, ho, hxs⟩ := this
    subst hxl
    refine ⟨xs, a, cap, rfl, hl, ⟨rfl, by unfold maxLen at hm; omega, fun _ => ⟨a, rfl, fun j p hj => ?_⟩⟩, ho, ?_⟩
    · obtain ⟨cs', h1, h2⟩ := hxs j p hj
      obtain ⟨_, h3, h4⟩ := World.cells?_some h1
      refine ⟨cs', h3.trans hc, h2, fun i u hu => ?_⟩
      have hlt := (List.getElem?_eq_some_iff.1 hu).1
      have h5 := h4 i (by omega)
      rw [Go.Deep.add_add, hu, hc] at h5
      exact h5
    · refine Nat.le_trans (Nat.mul_le_mul_right _ ?_) hw1
      simp

def okN (x : S28) : Prop := x.f2.length ≤ 4398046511104 ∧ x.f5.length ≤ 17592186044416
set_option maxRecDepth 100000 in
theorem opens_nodeW : OpensW enc W base spare held 28 k28 okN := fun n cs x h hw => by
  obtain ⟨xs, m, _, rfl, hcl, hxl, hf⟩ := DataW.trod_struct Tryd.underlying28 h
  have hlen : cs.length = 6 := hcl.trans (by kernel_rfl)
  match cs, hlen, xs, hxl with
  | [c0, c1, c2, c3, c4, c5], _, [y0, y1, y2, y3, y4, y5], _ =>
    have g0 := hf 0 _ rfl
    have g1 := hf 1 _ rfl
    have g2 := hf 2 _ rfl
    have g3 := hf 3 _ rfl
    have g4 := hf 4 _ rfl
    have g5 := hf 5 _ rfl
    have hw2 : ∀ k ∈ y2.1.weights Tryd.prog 25, k ≤ reachBytes := fun k hk => hw k (by
      simp only [DataW.weights, Tryd.underlying28]
      exact DataW.weights_mem_each (j := 2) rfl rfl k hk)
    have hw5 : ∀ k ∈ y5.1.weights Tryd.prog 26, k ≤ reachBytes := fun k hk => hw k (by
      simp only [DataW.weights, Tryd.underlying28]
      exact DataW.weights_mem_each (j := 5) rfl rfl k hk)
    obtain ⟨a0, e0⟩ := opens_int Tryd.underlying3 _ _ _ g0
    obtain ⟨a1, e1⟩ := opens_string Tryd.underlying9 _ _ _ g1
    obtain ⟨a2, A2, n2, h2, l2, r2, _, b2⟩ := opens_sliceW Tryd.underlying25 (by kernel_rfl) (OpensW.of opens_attr) g2 hw2
    obtain ⟨a3, e3⟩ := opens_string Tryd.underlying9 _ _ _ g3
    obtain ⟨a4, e4⟩ := opens_int Tryd.underlying3 _ _ _ g4
    obtain ⟨a5, A5, n5, h5, l5, r5, _, b5⟩ := opens_sliceW Tryd.underlying26 (by kernel_rfl) (OpensW.of (opens_int Tryd.underlying3)) g5 hw5
    have h0 : [c0] = [.int .i64 a0] := e0
    have h1 : [c1] = [.string a1] := e1
    have h3 : [c3] = [.string a3] := e3
    have h4 : [c4] = [.int .i64 a4] := e4
    have h2' : [c2] = [.slice A2 a2.length n2] := h2
    have h5' : [c5] = [.slice A5 a5.length n5] := h5
    injection h0 with h0
    injection h1 with h1
    injection h2' with h2'
    injection h3 with h3
    injection h4 with h4
    injection h5' with h5'
    subst h0 h1 h2' h3 h4 h5'
    refine ⟨⟨a0, a1, a2, a3, a4, a5⟩, k28_mk W ⟨a0, a1, a2, a3, a4, a5⟩ l2 r2 l5 r5, ?_, ?_⟩
    · have hbb : Tryd.prog.bytesOf 61 = 32 := by kernel_rfl
      rw [hbb] at b2
      unfold reachBytes at b2
      show a2.length ≤ _
      omega
    · have hbb : Tryd.prog.bytesOf 3 = 8 := by kernel_rfl
      rw [hbb] at b5
      unfold reachBytes at b5
      show a5.length ≤ _
      omega
def okE (x : S30) : Prop := okN x.f6
set_option maxRecDepth 100000 in
theorem opens_editW : OpensW enc W base spare held 30 k30 okE := fun n cs x h hw => by
  obtain ⟨xs, m, _, rfl, hcl, hxl, hf⟩ := DataW.trod_struct Tryd.underlying30 h
  have hlen : cs.length = 12 := hcl.trans (by kernel_rfl)
  match cs, hlen, xs, hxl with
  | [c0, c1, c2, c3, c4, c5, c6, c7, c8, c9, c10, c11], _, [y0, y1, y2, y3, y4, y5, y6], _ =>
    have g0 := hf 0 _ rfl
    have g1 := hf 1 _ rfl
    have g2 := hf 2 _ rfl
    have g3 := hf 3 _ rfl
    have g4 := hf 4 _ rfl
    have g5 := hf 5 _ rfl
    have g6 := hf 6 _ rfl
    have hw6 : ∀ k ∈ y6.1.weights Tryd.prog 28, k ≤ reachBytes := fun k hk => hw k (by
      simp only [DataW.weights, Tryd.underlying30]
      exact DataW.weights_mem_each (j := 6) rfl rfl k hk)
    obtain ⟨a0, e0⟩ := opens_int Tryd.underlying3 _ _ _ g0
    obtain ⟨a1, e1⟩ := opens_int Tryd.underlying3 _ _ _ g1
    obtain ⟨a2, e2⟩ := opens_int Tryd.underlying3 _ _ _ g2
    obtain ⟨a3, e3⟩ := opens_int Tryd.underlying3 _ _ _ g3
    obtain ⟨a4, e4⟩ := opens_string Tryd.underlying9 _ _ _ g4
    obtain ⟨a5, e5⟩ := opens_string Tryd.underlying9 _ _ _ g5
    obtain ⟨a6, e6, o6⟩ := opens_nodeW _ _ _ g6 hw6
    have h0 : [c0] = [.int .i64 a0] := e0
    have h1 : [c1] = [.int .i64 a1] := e1
    have h2 : [c2] = [.int .i64 a2] := e2
    have h3 : [c3] = [.int .i64 a3] := e3
    have h4 : [c4] = [.string a4] := e4
    have h5 : [c5] = [.string a5] := e5
    have h6 : k28.K W a6 [c6, c7, c8, c9, c10, c11] := e6
    obtain ⟨A8, n8, A11, n11, he, l8, r8, l11, r11⟩ := k28_open h6
    injection h0 with h0
    injection h1 with h1
    injection h2 with h2
    injection h3 with h3
    injection h4 with h4
    injection h5 with h5
    injection he with i6 he
    injection he with i7 he
    injection he with i8 he
    injection he with i9 he
    injection he with i10 he
    injection he with i11 _
    subst h0 h1 h2 h3 h4 h5 i6 i7 i8 i9 i10 i11
    exact ⟨⟨a0, a1, a2, a3, a4, a5, a6⟩, k30_mk W ⟨a0, a1, a2, a3, a4, a5, a6⟩ l8 r8 l11 r11, o6⟩
/-- A list of edits that came in. -/
theorem open_editsW {A : Option Addr} {len cap : Nat} {d : DataW H} {p : List MemPlace} {ts : List TypeId} {ds : List (DataW H)} {j : Nat}
    (hsz : (DataW.weightsEach Tryd.prog ts ds).all (· ≤ reachBytes) = true) (ht : ts[j]? = some 38) (hd : ds[j]? = some d)
    (h : DataW.Trod enc Tryd.prog W base spare held 38 (.slice A len cap) d p) :
    ∃ es : List S30, len = es.length ∧ Kd.C k30 W A es.length es ∧ es.length ≤ cap ∧ ∀ x ∈ es, okE x := by
  obtain ⟨fuel, hf⟩ := h
  obtain ⟨xs, A', c, e, hl, hr, ho, _⟩ := opens_sliceW Tryd.underlying38 (by kernel_rfl) opens_editW hf (fun k hk => of_decide_eq_true (List.all_eq_true.1 hsz _ (DataW.weights_mem_each ht hd k hk)))
  have e' : [Value.slice A len cap] = [.slice A' xs.length c] := e
  injection e' with e'
  injection e' with e1 e2 e3
  subst e1 e2 e3
  exact ⟨xs, rfl, hr, hl, ho⟩
/-- A slice of texts that came in. -/
theorem open_texts {A : Option Addr} {len cap : Nat} {d : DataW H} {p : List MemPlace} (h : DataW.Trod enc Tryd.prog W base spare held 41 (.slice A len cap) d p) :
    ∃ ss : List ByteArray, len = ss.length ∧ Kd.C Kd.string W A ss.length ss ∧ ss.length ≤ cap := by
  obtain ⟨fuel, hf⟩ := h
  obtain ⟨a0, e0⟩ := opens_slice Tryd.underlying41 (by kernel_rfl) (opens_string Tryd.underlying9) _ _ _ hf
  have h0 : (Kd.slice 9 Kd.string).K W a0 [.slice A len cap] := e0
  obtain ⟨A', c', h0, l0, r0⟩ := h0
  injection h0 with h0
  injection h0 with h1 h2 h3
  subst h1 h2 h3
  exact ⟨a0, rfl, r0, l0⟩
end
end Go.Proofs.YthfalaabfgpjmaaDoor.RowD
