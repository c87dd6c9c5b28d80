/- Lists of edits: all at once, and in two parts. -/
import Derived.Test.YthfalaabfgpjmaaDoorDocJ
namespace Go.Proofs.YthfalaabfgpjmaaDoor.DocC
open Go.RowKit Go.Proofs.YthfalaabfgpjmaaDoorW.PrintWords Go.Proofs.YthfalaabfgpjmaaDoor.PAP Go.Proofs.YthfalaabfgpjmaaDoor.DocP
set_option linter.unusedVariables false
set_option linter.unusedSimpArgs false
theorem ev_of {α : Type} {g : Nat → Option α} {r : α} (hg : ∀ k, LeO (g k) (g (k + 1))) {K : Nat} (h : g K = some r) : Ev g r := by
  refine ⟨K, fun k hk => ?_⟩
  obtain ⟨m, rfl⟩ : ∃ m, k = K + m := ⟨k - K, by omega⟩
  clear hk
  induction m with
  | zero => exact h
  | succ m ih => exact hg (K + m) r ih
theorem edit_made (k : Nat) (l : List S28) (q : Bool) (m1 m2 : Int) (e : S30) : (editF k l q m1 e).map (fun p => (p.1, p.2.1)) = (editF k l q m2 e).map (fun p => (p.1, p.2.1)) := by
  unfold editF
  repeat' split
  all_goals first | rfl | (rw [Option.map_map, Option.map_map]; rfl)
theorem edit_any {l : List S28} {q : Bool} {m1 : Int} {e : S30} {r : Int} {l' : List S28} {m : Int} (h : Ev (fun k => editF k l q m1 e) (r, l', m)) (m2 : Int) : ∃ m', Ev (fun k => editF k l q m2 e) (r, l', m') := by
  obtain ⟨K, hK⟩ := h
  have key : ∀ k, K ≤ k → ∃ m', editF k l q m2 e = some (r, l', m') := fun k hk => by
    have h1 := edit_made k l q m1 m2 e
    have h2 : editF k l q m1 e = some (r, l', m) := hK k hk
    rw [h2] at h1
    cases h3 : editF k l q m2 e with
    | none => rw [h3] at h1; cases h1
    | some p =>
      rw [h3] at h1
      obtain ⟨a, b, c⟩ := p
      have h4 := Option.some.inj h1
      injection h4 with h5 h6
      simp only at h5 h6
      subst h5 h6
      exact ⟨c, rfl⟩
  obtain ⟨m', hm⟩ := key K (Nat.le_refl _)
  exact ⟨m', ev_of (fun k => editF_mono l q m2 e k) hm⟩
/-- A list of edits: it comes to an error at one of them, or to a document; what is behind it goes on from there. -/
theorem go_good (q : Bool) : ∀ (es : List S30) (l : List S28), DocOk l → ∃ (r : Int) (l' : List S28) (j : Nat), (r = 0 → DocOk l' ∧ Keeps l l' ∧ l'.length ≤ l.length + es.length) ∧ (r ≠ 0 → j < es.length) ∧
    ∀ (ms : List S30) (made i : Int), (r ≠ 0 → Ev (fun k => allGo k q (es ++ ms) l made i) ([], false, i + j, r)) ∧
      (r = 0 → ∀ v, (∀ made', Ev (fun k => allGo k q ms l' made' (i + es.length)) v) → Ev (fun k => allGo k q (es ++ ms) l made i) v) := by
  intro es
  induction es with
  | nil =>
    intro l hl
    refine ⟨0, l, 0, fun _ => ⟨hl, Keeps.refl l, by simp⟩, fun h => absurd rfl h, fun ms made i => ⟨fun h => absurd rfl h, fun _ v hv => ?_⟩⟩
    have := hv made
    simpa using this
  | cons e es ih =>
    intro l hl
    obtain ⟨r1, l1, m1, h1, h2⟩ := edit_good (q := q) hl 0 e
    by_cases hr : r1 = 0
    · subst hr
      obtain ⟨hd1, hk1, hlen⟩ := h2 rfl
      obtain ⟨r, l', j, h3, h4, h5⟩ := ih l1 hd1
      refine ⟨r, l', j + 1, fun h0 => ⟨(h3 h0).1, hk1.trans (h3 h0).2.1, ?_⟩, fun h0 => by have := h4 h0; simp only [List.length_cons]; omega, fun ms made i => ⟨fun h0 => ?_, fun h0 v hv => ?_⟩⟩
      · have := (h3 h0).2.2
        simp only [List.length_cons]
        rcases hlen with h | h <;> omega
      · obtain ⟨m', hm'⟩ := edit_any h1 made
        refine Ev.congr (f := fun k => (editF k l q made e).bind fun t => if t.1 = 0 then allGo k q (es ++ ms) t.2.1 t.2.2 (i + 1) else some ([], false, i, t.1)) (fun k => rfl) ?_
        refine Ev.bind (f := fun k t => if t.1 = 0 then allGo k q (es ++ ms) t.2.1 t.2.2 (i + 1) else some ([], false, i, t.1)) hm' ?_
        have h6 := (h5 ms m' (i + 1)).1 h0
        rw [show i + 1 + (j : Int) = i + ((j + 1 : Nat) : Int) from by omega] at h6
        exact Ev.congr (fun k => if_pos rfl) h6
      · obtain ⟨m', hm'⟩ := edit_any h1 made
        refine Ev.congr (f := fun k => (editF k l q made e).bind fun t => if t.1 = 0 then allGo k q (es ++ ms) t.2.1 t.2.2 (i + 1) else some ([], false, i, t.1)) (fun k => rfl) ?_
        refine Ev.bind (f := fun k t => if t.1 = 0 then allGo k q (es ++ ms) t.2.1 t.2.2 (i + 1) else some ([], false, i, t.1)) hm' ?_
        refine Ev.congr (fun k => if_pos rfl) ((h5 ms m' (i + 1)).2 h0 v (fun made' => ?_))
        have h7 := hv made'
        rw [show i + ((e :: es).length : Int) = i + 1 + (es.length : Int) from by simp only [List.length_cons]; omega] at h7
        exact h7
    · refine ⟨r1, l1, 0, fun h0 => absurd h0 hr, fun _ => by simp, fun ms made i => ⟨fun _ => ?_, fun h0 => absurd h0 hr⟩⟩
      obtain ⟨m', hm'⟩ := edit_any h1 made
      refine Ev.congr (f := fun k => (editF k l q made e).bind fun t => if t.1 = 0 then allGo k q (es ++ ms) t.2.1 t.2.2 (i + 1) else some ([], false, i, t.1)) (fun k => rfl) ?_
      refine Ev.bind (f := fun k t => if t.1 = 0 then allGo k q (es ++ ms) t.2.1 t.2.2 (i + 1) else some ([], false, i, t.1)) hm' ?_
      refine Ev.congr (f := fun _ => some ([], false, i + ((0 : Nat) : Int), r1)) (fun k => (if_neg hr).trans (by simp)) (Ev.now _)
/-- All of a document that is right. -/
theorem all_doc {l : List S28} (hl : DocOk l) (q : Bool) (es : List S30) (he : es.length ≤ 40) {v : List S28 × Bool × Int × Int} (h : Ev (fun k => allGo k q es l 0 0) v) : Ev (fun k => dom_All.f k l q es) v := by
  unfold dom_All.f
  refine Ev.bind (f := fun k c => if c = 0 then (if es.length > 40 then some ([], false, 0, 2) else if allOk l = true then allGo k q es l 0 0 else none) else some ([], false, 0, c)) (check_ok hl hl.fit) ?_
  exact Ev.congr (fun k => (if_pos rfl).trans ((if_neg (by omega)).trans (if_pos hl.all))) h
theorem all_bad {l : List S28} {q : Bool} {c : Int} (h : Ev (fun k => dom_Check.f k l q) c) (hc : c ≠ 0) (es : List S30) : Ev (fun k => dom_All.f k l q es) ([], false, 0, c) := by
  unfold dom_All.f
  refine Ev.bind (f := fun k c => if c = 0 then (if es.length > 40 then some ([], false, 0, 2) else if allOk l = true then allGo k q es l 0 0 else none) else some ([], false, 0, c)) h ?_
  exact Ev.congr (f := fun _ => some ([], false, 0, c)) (fun k => if_neg hc) (Ev.now _)
/-- What a list of edits comes to, of a document that is right. -/
theorem all_good {l : List S28} (hl : DocOk l) (q : Bool) (es : List S30) (he : es.length ≤ 40) : ∃ (r : Int) (l' : List S28) (j : Nat), (r = 0 → DocOk l' ∧ Keeps l l' ∧ l'.length ≤ l.length + es.length) ∧ (r ≠ 0 → j < es.length) ∧
    Ev (fun k => dom_All.f k l q es) (if r = 0 then (l', q, 0, 0) else ([], false, (j : Int), r)) ∧
    ∀ (ms : List S30), es.length + ms.length ≤ 40 → (r ≠ 0 → Ev (fun k => dom_All.f k l q (es ++ ms)) ([], false, (j : Int), r)) ∧
      (r = 0 → ∀ v, (∀ made, Ev (fun k => allGo k q ms l' made es.length) v) → Ev (fun k => dom_All.f k l q (es ++ ms)) v) := by
  obtain ⟨r, l', j, h1, h2, h3⟩ := go_good q es l hl
  refine ⟨r, l', j, h1, h2, ?_, fun ms hm => ⟨fun h0 => ?_, fun h0 v hv => ?_⟩⟩
  · refine all_doc hl q es he ?_
    have h4 := h3 [] 0 0
    rw [List.append_nil] at h4
    by_cases hr : r = 0
    · rw [if_pos hr]
      exact h4.2 hr _ (fun made' => Ev.now _)
    · rw [if_neg hr]
      have := h4.1 hr
      rw [Int.zero_add] at this
      exact this
  · have := (h3 ms 0 0).1 h0
    rw [Int.zero_add] at this
    exact all_doc hl q (es ++ ms) (by rw [List.length_append]; exact hm) this
  · refine all_doc hl q (es ++ ms) (by rw [List.length_append]; exact hm) ((h3 ms 0 0).2 h0 v (fun made' => ?_))
    rw [Int.zero_add]
    exact hv made'
/-- In two parts, and at once. -/
theorem both_plain (l : List S28) (q : Bool) (hf : Fit l) (es ms : List S30) (he : es.length ≤ 20) (hm : ms.length ≤ 20) : ∃ (l1 : List S28) (q1 : Bool) (i1 e1 : Int), Ev (fun k => dom_All.f k l q es) (l1, q1, i1, e1) ∧ (e1 ≠ 0 → l1 = [] ∧ (i1 = 0 ∨ 0 ≤ i1 ∧ i1 < (es.length : Int))) ∧
    (e1 = 0 → ∃ (l2 : List S28) (q2 : Bool) (i2 i3 e2 : Int), Ev (fun k => dom_All.f k l1 q1 ms) (l2, q2, i2, e2) ∧ Ev (fun k => dom_All.f k l q (es ++ ms)) (l2, q2, i3, e2) ∧ l2.length ≤ 200 ∧ Fit l2 ∧ (∀ x ∈ l2, x.f2.length ≤ 12 ∧ x.f5.length ≤ 200) ∧ (e2 = 0 → i2 = 0 ∧ i3 = 0) ∧ (e2 ≠ 0 → i3 = (es.length : Int) + i2 ∧ 0 ≤ i2 ∧ i2 < 20)) := by
  obtain ⟨c, hc, _⟩ := check_ev l q hf
  by_cases h0 : c = 0
  rotate_left
  · exact ⟨[], false, 0, c, all_bad hc h0 es, fun _ => ⟨rfl, .inl rfl⟩, fun h => absurd h h0⟩
  subst h0
  have hl := check_doc hc hf
  obtain ⟨r1, l1, j1, h1, h2, h3, h4⟩ := all_good hl q es (by omega)
  by_cases hr : r1 = 0
  rotate_left
  · rw [if_neg hr] at h3
    exact ⟨[], false, j1, r1, h3, fun _ => ⟨rfl, .inr ⟨by omega, by have := h2 hr; omega⟩⟩, fun h => absurd h hr⟩
  rw [if_pos hr] at h3
  refine ⟨l1, q, 0, 0, h3, fun h => absurd rfl h, fun _ => ?_⟩
  have hl1 := (h1 hr).1
  obtain ⟨r2, l2, j2, g1, g2, g3, g4⟩ := all_good hl1 q ms (by omega)
  obtain ⟨r2', l2', j2', f1, f2, f3⟩ := go_good q ms l1 hl1
  have hgo := f3 [] 0 0
  rw [List.append_nil] at hgo
  have hx : ∀ (x : List S28), DocOk x → ∀ y ∈ x, y.f2.length ≤ 12 ∧ y.f5.length ≤ 200 := fun x hx y hy => by
    obtain ⟨i, hi, rfl⟩ := List.getElem_of_mem hy
    have hin : In x.length (i : Int) := ⟨by omega, by omega⟩
    have e : rd_T28 x (i : Int) = x[i] := by
      unfold rd_T28
      rw [Int.toNat_natCast, List.getD_eq_getElem?_getD, List.getElem?_eq_getElem hi]; rfl
    have h1 := (hx.oneOk hin).2.2.2.2.1.1
    have h2 : (rd_T28 x (i : Int)).f5.length ≤ 200 := hx.kids_le hin
    rw [e] at h1 h2
    exact ⟨h1, h2⟩
  by_cases hr2 : r2' = 0
  · have e1 : Ev (fun k => dom_All.f k l1 q ms) (l2', q, 0, 0) := all_doc hl1 q ms (by omega) (hgo.2 hr2 _ (fun _ => Ev.now _))
    have e2 : Ev (fun k => dom_All.f k l q (es ++ ms)) (l2', q, 0, 0) := (h4 ms (by omega)).2 hr _ (fun made => by
      have := (f3 [] made es.length).2 hr2 (l2', q, 0, 0) (fun _ => Ev.now _)
      rw [List.append_nil] at this
      exact this)
    exact ⟨l2', q, 0, 0, 0, e1, e2, (f1 hr2).1.len, (f1 hr2).1.fit, hx _ (f1 hr2).1, fun _ => ⟨rfl, rfl⟩, fun h => absurd rfl h⟩
  · have e1 : Ev (fun k => dom_All.f k l1 q ms) ([], false, (j2' : Int), r2') := all_doc hl1 q ms (by omega) (by have := hgo.1 hr2; rw [Int.zero_add] at this; exact this)
    have e2 : Ev (fun k => dom_All.f k l q (es ++ ms)) ([], false, (es.length : Int) + j2', r2') := (h4 ms (by omega)).2 hr _ (fun made => by
      have := (f3 [] made es.length).1 hr2
      rw [List.append_nil] at this
      exact this)
    exact ⟨[], false, j2', _, r2', e1, e2, by simp, fun i => by show (rd_T28 [] i).f5.length ≤ _; unfold rd_T28; rw [List.getD_eq_getElem?_getD, List.getElem?_nil]; decide, fun x hx => (by cases hx), fun h => absurd h hr2, fun _ => ⟨rfl, by omega, by have := f2 hr2; omega⟩⟩
end Go.Proofs.YthfalaabfgpjmaaDoor.DocC
