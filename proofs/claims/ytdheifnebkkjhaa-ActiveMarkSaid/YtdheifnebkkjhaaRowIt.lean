/- Items that came in, opened; slices of numbers. -/
import Derived.Test.YtdheifnebkkjhaaRowAct
import Derived.Test.YtdheifnebkkjhaaAct15
import Derived.Deep.Slices
import Derived.Deep.Fields
import Derived.Deep.Strs
import Derived.ChangeSame
namespace Go.Proofs.Ytdheifnebkkjhaa.RowIt
open Go.ChangeShapes Go.WideShapes Go.ChangeAt Go.RowKit Go.Deep Go.Proofs.YtdheifnebkkjhaaW.PrintWords Go.Proofs.Ytdheifnebkkjhaa.Act
set_option linter.unusedVariables false
set_option linter.unusedSimpArgs false

section
variable {H : Type} {enc : TypeId × Value → H} {W : World} {base : Nat} {spare : Nat → Bool} {held : Bool}
/-- What can be read, of a size that fits, is read so. -/
def Opens {α : Type} (enc : TypeId × Value → H) (W : World) (base : Nat) (spare : Nat → Bool) (held : Bool) (t : TypeId) (R : α → List Value → Prop) (ok : α → Prop) : Prop :=
  ∀ n cs x, DataW.trod enc Try.prog W base spare held n t cs = some x → (∀ k ∈ x.1.weights Try.prog t, k ≤ reachBytes) → ∃ a, R a cs ∧ ok a
theorem weights_all {e : TypeId} : ∀ {l : List (DataW H)} {d : DataW H}, d ∈ l → ∀ k ∈ d.weights Try.prog e, k ∈ DataW.weightsAll Try.prog e l
  | y :: r, d, hd, k, hk => by
    simp only [DataW.weightsAll]
    rcases List.mem_cons.1 hd with rfl | hd
    · exact List.mem_append_left _ hk
    · exact List.mem_append_right _ (weights_all hd k hk)
/-- A slice of what can be opened. -/
theorem opens_slice {α : Type} {t e : TypeId} {R : α → List Value → Prop} {ok : α → Prop} {sz n : Nat} {cs : List Value} {x : DataW H × List MemPlace} (ht : Try.prog.underlying t = some (.slice e)) (hc : Try.prog.cellsOf e = sz) (hd : Opens enc W base spare held e R ok)
    (h : DataW.trod enc Try.prog W base spare held n t cs = some x) (hw : ∀ k ∈ x.1.weights Try.prog t, k ≤ reachBytes) :
    ∃ (xs : List α) (A : Option Addr) (c : Nat), cs = [.slice A xs.length c] ∧ xs.length ≤ c ∧ ReadsRow R sz W A xs.length xs ∧ (∀ a ∈ xs, ok a) ∧ xs.length * Try.prog.bytesOf e ≤ reachBytes := by
  rcases open_slice ht h with ⟨rfl, rfl⟩ | ⟨a, len, cap, m, n', D, Pl, rfl, hb, hl, hm, hmm, rfl, hi⟩
  · exact ⟨[], none, 0, rfl, Nat.le_refl _, ⟨rfl, by simp, fun h => absurd h (Nat.lt_irrefl 0)⟩, by simp, by simp⟩
  · have hlm : len ≤ m := by rw [hmm]; split <;> omega
    have hw1 : (((List.range len).map D).length + ((List.range (m - len)).map fun j => D (len + j)).length) * Try.prog.bytesOf e ≤ reachBytes := hw _ (by simp only [DataW.weights, ht]; exact List.mem_cons_self)
    have hwi : ∀ i, i < len → ∀ k ∈ (D i).weights Try.prog e, k ≤ reachBytes := fun i hlt k hk => hw k (by
      simp only [DataW.weights, ht]
      exact List.mem_cons_of_mem _ (List.mem_append_left _ (weights_all (List.mem_map.2 ⟨i, List.mem_range.2 hlt, rfl⟩) k hk)))
    have hex : ∀ i, i < len → ∃ x, ∃ cs', W.cells? base (a.add (i * Try.prog.cellsOf e)) (Try.prog.cellsOf e) = some cs' ∧ R x cs' ∧ ok x := fun i hlt => by
      obtain ⟨cs', h1, h2⟩ := hi i (by omega)
      obtain ⟨x, hx, ho⟩ := hd _ _ _ h2 (hwi i hlt)
      exact ⟨x, cs', h1, hx, ho⟩
    have : ∃ xs : List α, xs.length = len ∧ (∀ x ∈ xs, ok x) ∧ ∀ i x, xs[i]? = some x → ∃ cs', W.cells? base (a.add (i * Try.prog.cellsOf e)) (Try.prog.cellsOf e) = some cs' ∧ R x cs' := by
      clear hi hl hm hmm hlm h hw hw1 hwi
      induction len with
      | zero => exact ⟨[], rfl, by simp, fun i x hx => by simp at hx⟩
      | succ len ih =>
        obtain ⟨xs, h1, ho, h2⟩ := ih (fun i hlt => hex i (by omega))
        obtain ⟨y, cs', h3, h4, h5⟩ := hex len (by omega)
        refine ⟨xs ++ [y], by simp [h1], fun x hx => ?_, fun i x hx => ?_⟩
        · rcases List.mem_append.1 hx with hx | hx
          · exact ho x hx
          · rw [List.mem_singleton] at hx; subst hx; exact h5
        by_cases hlt : i < len
        · rw [List.getElem?_append_left (by omega)] at hx
          exact h2 i x hx
        · have hi' : i = len := by
            have := (List.getElem?_eq_some_iff.1 hx).1
            simp [h1] at this
            omega
          subst hi'
          rw [List.getElem?_append_right (by omega), h1] at hx
          simp at hx
          subst hx
          exact ⟨cs', h3, h4⟩
    obtain ⟨xs, hxl, ho, hxs⟩ := this
    subst hxl
    refine ⟨xs, a, cap, rfl, hl, ⟨rfl, by unfold maxLen at hm; omega, fun _ => ⟨a, rfl, fun j p hj => ?_⟩⟩, ho, ?_⟩
    · obtain ⟨cs', h1, h2⟩ := hxs j p hj
      obtain ⟨_, h3, h4⟩ := World.cells?_some h1
      refine ⟨cs', h3.trans hc, h2, fun i u hu => ?_⟩
      have hlt := (List.getElem?_eq_some_iff.1 hu).1
      have h5 := h4 i (by omega)
      rw [Go.Deep.add_add, hu, hc] at h5
      exact h5
    · refine Nat.le_trans (Nat.mul_le_mul_right _ ?_) hw1
      simp
set_option maxRecDepth 100000 in
theorem opens_attr : Opens enc W base spare held 46 (fun (p : ByteArray × ByteArray) cs => cs = prCells p) (fun _ => True) := fun n cs x h _ => by
  obtain ⟨xs, m, _, _, hcl, hxl, hf⟩ := DataW.trod_struct Try.underlying46 h
  have hlen : cs.length = 2 := hcl.trans (by kernel_rfl)
  match cs, hlen with
  | [c0, c1], _ =>
    have g0 := hf 0 _ rfl
    have g1 := hf 1 _ rfl
    rw [List.getElem?_eq_getElem (by rw [hxl]; decide)] at g0 g1
    obtain ⟨a0, e0, _, _⟩ := DataW.trod_string Try.underlying9 g0
    obtain ⟨a1, e1, _, _⟩ := DataW.trod_string Try.underlying9 g1
    have e0' : [c0] = [.string a0] := e0
    have e1' : [c1] = [.string a1] := e1
    injection e0' with e0'
    injection e1' with e1'
    subst e0' e1'
    exact ⟨(a0, a1), rfl, trivial⟩
set_option maxRecDepth 100000 in
theorem opens_item : Opens enc W base spare held 26 (fun (x : It) cs => cs = itCells x) (RA W) := fun n cs x h hw => by
  obtain ⟨y0, y1, y2, m, rfl, hcl, g0, g1, g2⟩ := trod_struct3 Try.underlying26 h
  have hlen : cs.length = 3 := hcl.trans (by kernel_rfl)
  match cs, hlen with
  | [c0, c1, c2], _ =>
    have hw2 : ∀ k ∈ y2.1.weights Try.prog 24, k ≤ reachBytes := fun k hk => hw k (by
      simp only [DataW.weights, Try.underlying26]
      exact DataW.weights_mem_each (j := 2) rfl rfl k hk)
    obtain ⟨a0, e0, _, _⟩ := DataW.trod_int Try.underlying3 g0
    obtain ⟨a1, e1, _, _⟩ := DataW.trod_string Try.underlying9 g1
    obtain ⟨ys, A, c, e2, hl, hr, _, hb⟩ := opens_slice (sz := 2) Try.underlying24 (by kernel_rfl) opens_attr g2 hw2
    have e0' : [c0] = [.int .i64 a0] := e0
    have e1' : [c1] = [.string a1] := e1
    have e2' : [c2] = [.slice A ys.length c] := e2
    injection e0' with e0'
    injection e1' with e1'
    injection e2' with e2'
    subst e0' e1' e2'
    refine ⟨⟨a0, a1, A, ys.length, c⟩, rfl, ?_, ys, hr⟩
    have hbb : Try.prog.bytesOf 46 = 32 := by kernel_rfl
    rw [hbb] at hb
    unfold reachBytes at hb
    simp only
    omega
/-- A list of items that came in. -/
theorem open_items {A : Option Addr} {len cap : Nat} {d : DataW H} {ps : List MemPlace} {ts : List TypeId} {ds : List (DataW H)} {j : Nat}
    (hsz : (DataW.weightsEach Try.prog ts ds).all (· ≤ reachBytes) = true) (ht : ts[j]? = some 23) (hd : ds[j]? = some d)
    (h : DataW.Trod enc Try.prog W base spare held 23 (.slice A len cap) d ps) : ∃ xs, RIt W A len xs ∧ ((∀ x ∈ xs, RA W x) ∧ len ≤ cap) := by
  obtain ⟨fuel, hf⟩ := h
  obtain ⟨xs, A', c, e, hl, hr, ho, _⟩ := opens_slice (sz := 3) Try.underlying23 (by kernel_rfl) opens_item hf (fun k hk => of_decide_eq_true (List.all_eq_true.1 hsz _ (DataW.weights_mem_each ht hd k hk)))
  have e' : [Value.slice A len cap] = [.slice A' xs.length c] := e
  injection e' with e'
  injection e' with e1 e2 e3
  subst e1 e2 e3
  exact ⟨xs, hr, ho, hl⟩
end
theorem open_nums {H : Type} {enc : TypeId × Value → H} {P : Program} {W : World} {base : Nat} {t e : TypeId} {k : IntKind} {A : Option Addr} {len cap : Nat} {d : DataW H} {ps : List MemPlace}
    (hu : P.underlying t = some (.slice e)) (he : P.underlying e = some (.int k)) (hc : P.cellsOf e = 1)
    (h : DataW.Trod enc P W base (fun _ => true) true t (.slice A len cap) d ps) : ∃ _xs : List Int, len ≤ 9223372036854775807 ∧ len ≤ cap := by
  obtain ⟨fuel, hf⟩ := h
  rcases open_ints hu he hc hf with ⟨hcs, _⟩ | ⟨a, l, c, zs, hcs, _, hl, hm, hlen, hx, hcell, hw⟩
  · simp [Value.cells] at hcs
    obtain ⟨rfl, rfl, rfl⟩ := hcs
    exact ⟨[], by decide, Nat.le_refl _⟩
  · simp [Value.cells] at hcs
    obtain ⟨rfl, rfl, rfl⟩ := hcs
    exact ⟨zs, by unfold maxLen at hm; omega, hl⟩
end Go.Proofs.Ytdheifnebkkjhaa.RowIt
