import Derived.Test.YtmcinclecpeakaaGreatDoorDocJ
/- Lists of edits: all at once, and in two parts. -/
namespace Go.Proofs.YtmcinclecpeakaaGreatDoor.DocC
open Go.RowKit Go.Proofs.YtmcinclecpeakaaGreatDoorW.PrintWords Go.Proofs.YtmcinclecpeakaaGreatDoor.PRR Go.Proofs.YtmcinclecpeakaaGreatDoor.DocP
set_option linter.unusedVariables false
set_option linter.unusedSimpArgs false
theorem ev_of {α : Type} {g : Nat → Option α} {r : α} (hg : ∀ k, LeO (g k) (g (k + 1))) {K : Nat} (h : g K = some r) : Ev g r := by
  refine ⟨K, fun k hk => ?_⟩
  obtain ⟨m, rfl⟩ : ∃ m, k = K + m := ⟨k - K, by omega⟩
  clear hk
  induction m with
  | zero => exact h
  | succ m ih => exact hg (K + m) r ih
theorem edit_made (k : Nat) (l : List S43) (q : Bool) (m1 m2 : Int) (e : S45) : (editF k l q m1 e).map (fun p => (p.1, p.2.1)) = (editF k l q m2 e).map (fun p => (p.1, p.2.1)) := by
  unfold editF
  repeat' split
  all_goals first | rfl | (rw [Option.map_map, Option.map_map]; rfl)
theorem edit_any {l : List S43} {q : Bool} {m1 : Int} {e : S45} {r : Int} {l' : List S43} {m : Int} (h : Ev (fun k => editF k l q m1 e) (r, l', m)) (m2 : Int) : ∃ m', Ev (fun k => editF k l q m2 e) (r, l', m') := by
  obtain ⟨K, hK⟩ := h
  have key : ∀ k, K ≤ k → ∃ m', editF k l q m2 e = some (r, l', m') := fun k hk => by
    have h1 := edit_made k l q m1 m2 e
    have h2 : editF k l q m1 e = some (r, l', m) := hK k hk
    rw [h2] at h1
    cases h3 : editF k l q m2 e with
    | none => rw [h3] at h1; cases h1
    | some p =>
      rw [h3] at h1
      obtain ⟨a, b, c⟩ := p
      have h4 := Option.some.inj h1
      injection h4 with h5 h6
      simp only at h5 h6
      subst h5 h6
      exact ⟨c, rfl⟩
  obtain ⟨m', hm⟩ := key K (Nat.le_refl _)
  exact ⟨m', ev_of (fun k => editF_mono l q m2 e k) hm⟩
/-- A list of edits: it comes to an error at one of them, or to a document; what is behind it goes on from there. -/
theorem go_good (q : Bool) : ∀ (es : List S45) (l : List S43), DocOk l → ∃ (r : Int) (l' : List S43) (j : Nat), (r = 0 → DocOk l' ∧ Keeps l l' ∧ l'.length ≤ l.length + es.length) ∧ (r ≠ 0 → j < es.length) ∧
    ∀ (ms : List S45) (made i : Int), (r ≠ 0 → Ev (fun k => allGo k q (es ++ ms) l made i) ([], false, i + j, r)) ∧
      (r = 0 → ∀ v, (∀ made', Ev (fun k => allGo k q ms l' made' (i + es.length)) v) → Ev (fun k => allGo k q (es ++ ms) l made i) v) := by
  intro es
  induction es with
  | nil =>
    intro l hl
    refine ⟨0, l, 0, fun _ => ⟨hl, Keeps.refl l, by simp⟩, fun h => absurd rfl h, fun ms made i => ⟨fun h => absurd rfl h, fun _ v hv => ?_⟩⟩
    have := hv made
    simpa using this
  | cons e es ih =>
    intro l hl
    obtain ⟨r1, l1, m1, h1, h2⟩ := edit_good (q := q) hl 0 e
    by_cases hr : r1 = 0
    · subst hr
      obtain ⟨hd1, hk1, hlen⟩ := h2 rfl
      obtain ⟨r, l', j, h3, h4, h5⟩ := ih l1 hd1
      refine ⟨r, l', j + 1, fun h0 => ⟨(h3 h0).1, hk1.trans (h3 h0).2.1, ?_⟩, fun h0 => by have := h4 h0; simp only [List.length_cons]; omega, fun ms made i => ⟨fun h0 => ?_, fun h0 v hv => ?_⟩⟩
      · have := (h3 h0).2.2
        simp only [List.length_cons]
        rcases hlen with h | h <;> omega
      · obtain ⟨m', hm'⟩ := edit_any h1 made
        refine Ev.congr (f := fun k => (editF k l q made e).bind fun t => if t.1 = 0 then allGo k q (es ++ ms) t.2.1 t.2.2 (i + 1) else some ([], false, i, t.1)) (fun k => rfl) ?_
        refine Ev.bind (f := fun k t => if t.1 = 0 then allGo k q (es ++ ms) t.2.1 t.2.2 (i + 1) else some ([], false, i, t.1)) hm' ?_
        have h6 := (h5 ms m' (i + 1)).1 h0
        rw [show i + 1 + (j : Int) = i + ((j + 1 : Nat) : Int) from by omega] at h6
        exact Ev.congr (fun k => if_pos rfl) h6
      · obtain ⟨m', hm'⟩ := edit_any h1 made
        refine Ev.congr (f := fun k => (editF k l q made e).bind fun t => if t.1 = 0 then allGo k q (es ++ ms) t.2.1 t.2.2 (i + 1) else some ([], false, i, t.1)) (fun k => rfl) ?_
        refine Ev.bind (f := fun k t => if t.1 = 0 then allGo k q (es ++ ms) t.2.1 t.2.2 (i + 1) else some ([], false, i, t.1)) hm' ?_
        refine Ev.congr (fun k => if_pos rfl) ((h5 ms m' (i + 1)).2 h0 v (fun made' => ?_))
        have h7 := hv made'
        rw [show i + ((e :: es).length : Int) = i + 1 + (es.length : Int) from by simp only [List.length_cons]; omega] at h7
        exact h7
    · refine ⟨r1, l1, 0, fun h0 => absurd h0 hr, fun _ => by simp, fun ms made i => ⟨fun _ => ?_, fun h0 => absurd h0 hr⟩⟩
      obtain ⟨m', hm'⟩ := edit_any h1 made
      refine Ev.congr (f := fun k => (editF k l q made e).bind fun t => if t.1 = 0 then allGo k q (es ++ ms) t.2.1 t.2.2 (i + 1) else some ([], false, i, t.1)) (fun k => rfl) ?_
      refine Ev.bind (f := fun k t => if t.1 = 0 then allGo k q (es ++ ms) t.2.1 t.2.2 (i + 1) else some ([], false, i, t.1)) hm' ?_
      refine Ev.congr (f := fun _ => some ([], false, i + ((0 : Nat) : Int), r1)) (fun k => (if_neg hr).trans (by simp)) (Ev.now _)
/-- All of a document that is right. -/
theorem all_doc {l : List S43} (hl : DocOk l) (q : Bool) (es : List S45) (he : es.length ≤ 40) {v : List S43 × Bool × Int × Int} (h : Ev (fun k => allGo k q es l 0 0) v) : Ev (fun k => dom_All.f k l q es) v := by
  unfold dom_All.f
  refine Ev.bind (f := fun k c => if c = 0 then (if es.length > 40 then some ([], false, 0, 2) else if allOk l = true then allGo k q es l 0 0 else none) else some ([], false, 0, c)) (check_ok hl hl.fit) ?_
  exact Ev.congr (fun k => (if_pos rfl).trans ((if_neg (by omega)).trans (if_pos hl.all))) h
theorem all_bad {l : List S43} {q : Bool} {c : Int} (h : Ev (fun k => dom_Check.f k l q) c) (hc : c ≠ 0) (es : List S45) : Ev (fun k => dom_All.f k l q es) ([], false, 0, c) := by
  unfold dom_All.f
  refine Ev.bind (f := fun k c => if c = 0 then (if es.length > 40 then some ([], false, 0, 2) else if allOk l = true then allGo k q es l 0 0 else none) else some ([], false, 0, c)) h ?_
  exact Ev.congr (f := fun _ => some ([], false, 0, c)) (fun k => if_neg hc) (Ev.now _)
/-- What a list of edits comes to, of a document that is right. -/
theorem all_good {l : List S43} (hl : DocOk l) (q : Bool) (es : List S45) (he : es.length ≤ 40) : ∃ (r : Int) (l' : List S43) (j : Nat), (r = 0 → DocOk l' ∧ Keeps l l' ∧ l'.length ≤ l.length + es.length) ∧ (r ≠ 0 → j < es.length) ∧
    Ev (fun k => dom_All.f k l q es) (if r = 0 then (l', q, 0, 0) else ([], false, (j : Int), r)) ∧
    ∀ (ms : List S45), es.length + ms.length ≤ 40 → (r ≠ 0 → Ev (fun k => dom_All.f k l q (es ++ ms)) ([], false, (j : Int), r)) ∧
      (r = 0 → ∀ v, (∀ made, Ev (fun k => allGo k q ms l' made es.length) v) → Ev (fun k => dom_All.f k l q (es ++ ms)) v) := by
  obtain ⟨r, l', j, h1, h2, h3⟩ := go_good q es l hl
  refine ⟨r, l', j, h1, h2, ?_, fun ms hm => ⟨fun h0 => ?_, fun h0 v hv => ?_⟩⟩
  · refine all_doc hl q es he ?_
    have h4 := h3 [] 0 0
    rw [List.append_nil] at h4
    by_cases hr : r = 0
    · rw [if_pos hr]
      exact h4.2 hr _ (fun made' => Ev.now _)
    · rw [if_neg hr]
      have := h4.1 hr
      rw [Int.zero_add] at this
      exact this
  · have := (h3 ms 0 0).1 h0
    rw [Int.zero_add] at this
    exact all_doc hl q (es ++ ms) (by rw [List.length_append]; exact hm) this
  · refine all_doc hl q (es ++ ms) (by rw [List.length_append]; exact hm) ((h3 ms 0 0).2 h0 v (fun made' => ?_))
    rw [Int.zero_add]
    exact hv made'
/-- In two parts, and at once. -/
theorem both_plain (l : List S43) (q : Bool) (hf : Fit l) (es ms : List S45) (he : es.length ≤ 20) (hm : ms.length ≤ 20) : ∃ (l1 : List S43) (q1 : Bool) (i1 e1 : Int), Ev (fun k => dom_All.f k l q es) (l1, q1, i1, e1) ∧ (e1 ≠ 0 → l1 = [] ∧ (i1 = 0 ∨ 0 ≤ i1 ∧ i1 < (es.length : Int))) ∧
    (e1 = 0 → ∃ (l2 : List S43) (q2 : Bool) (i2 i3 e2 : Int), Ev (fun k => dom_All.f k l1 q1 ms) (l2, q2, i2, e2) ∧ Ev (fun k => dom_All.f k l q (es ++ ms)) (l2, q2, i3, e2) ∧ l2.length ≤ 200 ∧ Fit l2 ∧ (∀ x ∈ l2, x.f2.length ≤ 12 ∧ x.f5.length ≤ 200) ∧ (e2 = 0 → i2 = 0 ∧ i3 = 0) ∧ (e2 ≠ 0 → i3 = (es.length : Int) + i2 ∧ 0 ≤ i2 ∧ i2 < 20)) := by
  obtain ⟨c, hc, _⟩ := check_ev l q hf
  by_cases h0 : c = 0
  rotate_left
  · exact ⟨[], false, 0, c, all_bad hc h0 es, fun _ => ⟨rfl, .inl rfl⟩, fun h => absurd h h0⟩
  subst h0
  have hl := check_doc hc hf
  obtain ⟨r1, l1, j1, h1, h2, h3, h4⟩ := all_good hl q es (by omega)
  by_cases hr : r1 = 0
  rotate_left
  · rw [if_neg hr] at h3
    exact ⟨[], false, j1, r1, h3, fun _ => ⟨rfl, .inr ⟨by omega, by have := h2 hr; omega⟩⟩, fun h => absurd h hr⟩
  rw [if_pos hr] at h3
  refine ⟨l1, q, 0, 0, h3, fun h => absurd rfl h, fun _ => ?_⟩
  have hl1 := (h1 hr).1
  obtain ⟨r2, l2, j2, g1, g2, g3, g4⟩ := all_good hl1 q ms (by omega)
  obtain ⟨r2', l2', j2', f1, f2, f3⟩ := go_good q ms l1 hl1
  have hgo := f3 [] 0 0
  rw [List.append_nil] at hgo
  have hx : ∀ (x : List S43), DocOk x → ∀ y ∈ x, y.f2.length ≤ 12 ∧ y.f5.length ≤ 200 := fun x hx y hy => by
    obtain ⟨i, hi, rfl⟩ := List.getElem_of_mem hy
    have hin : In x.length (i : Int) := ⟨by omega, by omega⟩
    have e : rd_T43 x (i : Int) = x[i] := by
      unfold rd_T43
      rw [Int.toNat_natCast, List.getD_eq_getElem?_getD, List.getElem?_eq_getElem hi]; rfl
    have h1 := (hx.oneOk hin).2.2.2.2.1.1
    have h2 : (rd_T43 x (i : Int)).f5.length ≤ 200 := hx.kids_le hin
    rw [e] at h1 h2
    exact ⟨h1, h2⟩
  by_cases hr2 : r2' = 0
  · have e1 : Ev (fun k => dom_All.f k l1 q ms) (l2', q, 0, 0) := all_doc hl1 q ms (by omega) (hgo.2 hr2 _ (fun _ => Ev.now _))
    have e2 : Ev (fun k => dom_All.f k l q (es ++ ms)) (l2', q, 0, 0) := (h4 ms (by omega)).2 hr _ (fun made => by
      have := (f3 [] made es.length).2 hr2 (l2', q, 0, 0) (fun _ => Ev.now _)
      rw [List.append_nil] at this
      exact this)
    exact ⟨l2', q, 0, 0, 0, e1, e2, (f1 hr2).1.len, (f1 hr2).1.fit, hx _ (f1 hr2).1, fun _ => ⟨rfl, rfl⟩, fun h => absurd rfl h⟩
  · have e1 : Ev (fun k => dom_All.f k l1 q ms) ([], false, (j2' : Int), r2') := all_doc hl1 q ms (by omega) (by have := hgo.1 hr2; rw [Int.zero_add] at this; exact this)
    have e2 : Ev (fun k => dom_All.f k l q (es ++ ms)) ([], false, (es.length : Int) + j2', r2') := (h4 ms (by omega)).2 hr _ (fun made => by
      have := (f3 [] made es.length).1 hr2
      rw [List.append_nil] at this
      exact this)
    exact ⟨[], false, j2', _, r2', e1, e2, by simp, fun i => by show (rd_T43 [] i).f5.length ≤ _; unfold rd_T43; rw [List.getD_eq_getElem?_getD, List.getElem?_nil]; decide, fun x hx => (by cases hx), fun h => absurd h hr2, fun _ => ⟨rfl, by omega, by have := f2 hr2; omega⟩⟩
end Go.Proofs.YtmcinclecpeakaaGreatDoor.DocC
/- dom.Apply of a document that is right. -/
namespace Go.Proofs.YtmcinclecpeakaaGreatDoor.DocC
open Go.RowKit Go.Proofs.YtmcinclecpeakaaGreatDoorW.PrintWords Go.Proofs.YtmcinclecpeakaaGreatDoor.PRR Go.Proofs.YtmcinclecpeakaaGreatDoor.DocP
set_option linter.unusedVariables false
set_option linter.unusedSimpArgs false
section
variable {l : List S43} {q : Bool}
theorem apply_good (h : DocOk l) (e : S45) : ∃ r l' m, Ev (fun k => dom_Apply.f k l q e.f0 e.f1 e.f2 e.f3 e.f4 e.f5 e.f6.f0 e.f6.f1 e.f6.f2 e.f6.f3 e.f6.f4 e.f6.f5) (if r = 0 then (l', q, m, 0) else ([], false, 0, r)) ∧ (r = 0 → DocOk l' ∧ Keeps l l' ∧ ((m = 0 ∧ l'.length = l.length) ∨ (m = (l.length : Int) ∧ l'.length = l.length + 1))) := by
  obtain ⟨r, l', m, h1, h2⟩ := edit_good (q := q) h 0 e
  refine ⟨r, l', m, ?_, h2⟩
  unfold dom_Apply.f
  refine Ev.bind (f := fun k c => if c = 0 then (if allOk l = true then (editF k l q 0 ⟨e.f0, e.f1, e.f2, e.f3, e.f4, e.f5, ⟨e.f6.f0, e.f6.f1, e.f6.f2, e.f6.f3, e.f6.f4, e.f6.f5⟩⟩).bind fun t => if t.1 = 0 then some (t.2.1, q, t.2.2, 0) else some ([], false, 0, t.1) else none) else some ([], false, 0, c)) (check_ok h h.fit) (Ev.congr (fun k => (if_pos rfl).trans (if_pos h.all)) ?_)
  refine Ev.bind (f := fun k t => if t.1 = 0 then some (t.2.1, q, t.2.2, 0) else some ([], false, 0, t.1)) h1 ?_
  by_cases hr : r = 0
  · subst hr
    exact Ev.now _
  · simp only [if_neg hr]
    exact Ev.now _
end
end Go.Proofs.YtmcinclecpeakaaGreatDoor.DocC
/- What an edit does to a document, kind by kind. -/
namespace Go.Proofs.YtmcinclecpeakaaGreatDoor.DocC
open Go.RowKit Go.Proofs.YtmcinclecpeakaaGreatDoorW.PrintWords Go.Proofs.YtmcinclecpeakaaGreatDoor.PRR Go.Proofs.YtmcinclecpeakaaGreatDoor.DocP
set_option linter.unusedVariables false
set_option linter.unusedSimpArgs false
section
variable {l : List S43} {q : Bool}
/-- What an edit comes to that may be done. -/
inductive Eff (l : List S43) (e : S45) : List S43 → Prop
  | text (h0 : e.f0 = 3) (hi : In l.length e.f1) (hk : (rd_T43 l e.f1).f0 = 3 ∨ (rd_T43 l e.f1).f0 = 4) (hv : e.f5.size ≤ 400) : Eff l e (l.set e.f1.toNat { rd_T43 l e.f1 with f3 := e.f5 })
  | attr {ats : List S66} (h0 : e.f0 = 1) (hi : In l.length e.f1) (hk : (rd_T43 l e.f1).f0 = 2) (hn : dom_attrName.f e.f4 = some true) (hv : e.f5.size ≤ 400)
      (ha : (idxF (fun x => x.f0.toList == e.f4.toList) (rd_T43 l e.f1).f2 < 0 ∧ ats = (rd_T43 l e.f1).f2 ++ [⟨e.f4, e.f5⟩]) ∨ ∃ i : Nat, i < (rd_T43 l e.f1).f2.length ∧ idxF (fun x => x.f0.toList == e.f4.toList) (rd_T43 l e.f1).f2 = i ∧ ats = (rd_T43 l e.f1).f2.set i ⟨((rd_T43 l e.f1).f2.getD i ⟨⟨#[]⟩, ⟨#[]⟩⟩).f0, e.f5⟩) : Eff l e (l.set e.f1.toNat { rd_T43 l e.f1 with f2 := ats })
  | drop {i : Nat} (h0 : e.f0 = 2) (hi : In l.length e.f1) (hk : (rd_T43 l e.f1).f0 = 2) (hix : idxF (fun x => x.f0.toList == e.f4.toList) (rd_T43 l e.f1).f2 = i) (hl : i < (rd_T43 l e.f1).f2.length) : Eff l e (l.set e.f1.toNat { rd_T43 l e.f1 with f2 := (rd_T43 l e.f1).f2.eraseIdx i })
  | make (h0 : e.f0 = 4) (hk : e.f6.f5 = []) (h1 : e.f6.f0 ≠ 1) (hl : l.length < 200) (ho : OneOk e.f6) : Eff l e (l ++ [⟨e.f6.f0, e.f6.f1, e.f6.f2, e.f6.f3, -1, []⟩])
  | insert {p : Nat} (h0 : e.f0 = 5) (hi : In l.length e.f1) (hj : In l.length e.f2) (hki : (rd_T43 l e.f1).f0 = 1 ∨ (rd_T43 l e.f1).f0 = 2) (hkj : (rd_T43 l e.f2).f0 ≠ 1) (htx : ¬ ((rd_T43 l e.f1).f0 = 1 ∧ (rd_T43 l e.f2).f0 = 3)) (hpj : par l e.f2 < 0) (hp : p ≤ (kids l e.f1).length)
      (hpl : (e.f3 = -1 ∧ p = (kids l e.f1).length) ∨ (e.f3 ≠ -1 ∧ ix (kids l e.f1) e.f3 = p)) (hnu : ¬ Under (par l) e.f2 e.f1) : Eff l e ((l.set e.f1.toNat { rd_T43 l e.f1 with f5 := (kids l e.f1).take p ++ e.f2 :: (kids l e.f1).drop p }).set e.f2.toNat { rd_T43 l e.f2 with f4 := e.f1 })
  | remove {i : Nat} (h0 : e.f0 = 6) (hi : In l.length e.f1) (hk : (rd_T43 l e.f1).f0 ≠ 1) (hp : 0 ≤ par l e.f1) (hpi : In l.length (par l e.f1)) (hne : par l e.f1 ≠ e.f1) (hl : i < (kids l (par l e.f1)).length) (hg : (kids l (par l e.f1))[i] = e.f1) (hix : ix (kids l (par l e.f1)) e.f1 = i) :
      Eff l e ((l.set (par l e.f1).toNat { rd_T43 l (par l e.f1) with f5 := (kids l (par l e.f1)).eraseIdx i }).set e.f1.toNat { rd_T43 l e.f1 with f4 := -1 })
def FineE (l : List S43) (e : S45) (t : Int × List S43) : Prop := t.1 = 0 → Eff l e t.2
theorem place_is {ks : List Int} {be p : Int} (h : Ev (fun k => placeF k ks be) p) (hp : 0 ≤ p) (hk : ks.length ≤ 200) : (be = -1 ∧ p.toNat = ks.length) ∨ (be ≠ -1 ∧ ix ks be = (p.toNat : Nat)) := by
  unfold placeF at h
  by_cases hb : be = -1
  · simp only [if_pos hb] at h
    have := ev_one h (Ev.now _)
    exact .inl ⟨hb, by omega⟩
  · simp only [if_neg hb] at h
    have := ev_one h (jx_ev ks be (by omega))
    exact .inr ⟨hb, by omega⟩
theorem text_eff (h : DocOk l) (e : S45) (h0 : e.f0 = 3) : FineE l e (textF l e) := by
  unfold textF FineE
  by_cases hi : 0 ≤ e.f1 ∧ e.f1 < (l.length : Int)
  · rw [if_pos hi]
    by_cases hk : (rd_T43 l e.f1).f0 = 3 ∨ (rd_T43 l e.f1).f0 = 4
    · rw [if_pos hk]
      split
      · intro h; exact absurd h (by show (2 : Int) ≠ 0; decide)
      · intro _
        exact .text h0 hi hk (by omega)
    · rw [if_neg hk]; intro h; exact absurd h (by show (7 : Int) ≠ 0; decide)
  · rw [if_neg hi]; intro h; exact absurd h (by show (5 : Int) ≠ 0; decide)
theorem attr_eff (h : DocOk l) (e : S45) (h0 : e.f0 = 1) : ∃ t, attrF l e = some t ∧ FineE l e t := by
  unfold attrF FineE
  by_cases hi : 0 ≤ e.f1 ∧ e.f1 < (l.length : Int)
  · rw [if_pos hi]
    by_cases hk : (rd_T43 l e.f1).f0 = 2
    · rw [if_pos hk]
      have ho := (h.oneOk hi).2.2.2.2.1
      rw [if_pos (by have := ho.1; omega), find_is]
      obtain ⟨nm, hnm⟩ := attrName_some e.f4
      rw [hnm]
      show ∃ t, (if nm = false then _ else _) = some t ∧ _
      generalize hix : idxF (fun x => x.f0.toList == e.f4.toList) (rd_T43 l e.f1).f2 = i
      by_cases c1 : nm = false
      · rw [if_pos c1]; exact ⟨_, rfl, fun h => absurd h (by show (3 : Int) ≠ 0; decide)⟩
      have hn1 : nm = true := by cases nm with | true => rfl | false => exact absurd rfl c1
      rw [if_neg c1]
      by_cases c2 : 400 < (e.f5.size : Int)
      · rw [if_pos c2]; exact ⟨_, rfl, fun h => absurd h (by show (2 : Int) ≠ 0; decide)⟩
      rw [if_neg c2]
      by_cases c3 : i < 0 ∧ (rd_T43 l e.f1).f2.length = 12
      · rw [if_pos c3]; exact ⟨_, rfl, fun h => absurd h (by show (2 : Int) ≠ 0; decide)⟩
      rw [if_neg c3]
      by_cases c4 : i < 0
      · rw [if_pos c4]
        exact ⟨_, rfl, fun _ => .attr h0 hi hk (by rw [hnm, hn1]) (by omega) (.inl ⟨by rw [hix]; exact c4, rfl⟩)⟩
      · rw [if_neg c4]
        have hlt : i < ((rd_T43 l e.f1).f2.length : Int) := by
          rcases idx_lt (fun x => x.f0.toList == e.f4.toList) (rd_T43 l e.f1).f2 with h | h
          · rw [hix] at h; exact h
          · rw [hix] at h; omega
        rw [if_pos hlt]
        have hlt' : i.toNat < (rd_T43 l e.f1).f2.length := by omega
        have hset := ho.set hlt' (v := e.f5) (by omega)
        have e2 : (rd_T66 (rd_T43 l e.f1).f2 i).f0 = ((rd_T43 l e.f1).f2[i.toNat]).f0 := by
          unfold rd_T66
          rw [List.getD_eq_getElem?_getD, List.getElem?_eq_getElem hlt']
          rfl
        rw [e2]
        exact ⟨_, rfl, fun _ => .attr h0 hi hk (by rw [hnm, hn1]) (by omega) (.inr ⟨i.toNat, hlt', by rw [hix]; omega, by rw [List.getD_eq_getElem?_getD, List.getElem?_eq_getElem hlt']; rfl⟩)⟩
    · rw [if_neg hk]; exact ⟨_, rfl, fun h => absurd h (by show (7 : Int) ≠ 0; decide)⟩
  · rw [if_neg hi]; exact ⟨_, rfl, fun h => absurd h (by show (5 : Int) ≠ 0; decide)⟩
theorem drop_eff (h : DocOk l) (e : S45) (h0 : e.f0 = 2) : ∃ t, dropF l e = some t ∧ FineE l e t := by
  unfold dropF FineE
  by_cases hi : 0 ≤ e.f1 ∧ e.f1 < (l.length : Int)
  · rw [if_pos hi]
    by_cases hk : (rd_T43 l e.f1).f0 = 2
    · rw [if_pos hk]
      have ho := (h.oneOk hi).2.2.2.2.1
      rw [if_pos (by have := ho.1; omega), find_is]
      show ∃ t, (if idxF _ _ < 0 then _ else _) = some t ∧ _
      by_cases c4 : idxF (fun x => x.f0.toList == e.f4.toList) (rd_T43 l e.f1).f2 < 0
      · rw [if_pos c4]; exact ⟨_, rfl, fun h => absurd h (by show (5 : Int) ≠ 0; decide)⟩
      · rw [if_neg c4]
        have hlt : idxF (fun x => x.f0.toList == e.f4.toList) (rd_T43 l e.f1).f2 < ((rd_T43 l e.f1).f2.length : Int) := by
          rcases idx_lt (fun x => x.f0.toList == e.f4.toList) (rd_T43 l e.f1).f2 with h | h
          · exact h
          · omega
        rw [if_pos hlt]
        exact ⟨_, rfl, fun _ => .drop (i := (idxF (fun x => x.f0.toList == e.f4.toList) (rd_T43 l e.f1).f2).toNat) h0 hi hk (by omega) (by omega)⟩
    · rw [if_neg hk]; exact ⟨_, rfl, fun h => absurd h (by show (7 : Int) ≠ 0; decide)⟩
  · rw [if_neg hi]; exact ⟨_, rfl, fun h => absurd h (by show (5 : Int) ≠ 0; decide)⟩
theorem remove_eff (h : DocOk l) (e : S45) (h0 : e.f0 = 6) : ∃ t, Ev (fun k => removeF k l e) t ∧ FineE l e t := by
  unfold removeF FineE
  by_cases hi : 0 ≤ e.f1 ∧ e.f1 < (l.length : Int)
  · simp only [if_pos hi]
    by_cases hk : (rd_T43 l e.f1).f0 = 1
    · simp only [if_pos hk]; exact ⟨_, Ev.now _, fun h => absurd h (by show (7 : Int) ≠ 0; decide)⟩
    simp only [if_neg hk]
    by_cases hp : (rd_T43 l e.f1).f4 < 0
    · simp only [if_pos hp]; exact ⟨_, Ev.now _, fun h => absurd h (by show (5 : Int) ≠ 0; decide)⟩
    simp only [if_neg hp]
    have hp0 : 0 ≤ par l e.f1 := Int.not_lt.1 hp
    obtain ⟨ii, hil, hix1, hix2, hpin⟩ := h.wf.place hi hp0
    have hne : par l e.f1 ≠ e.f1 := fun hh => by
      obtain ⟨d, _, hd⟩ := h.wf.dep e.f1 hi.1 hi.2
      have : ∀ d, Dep (par l) e.f1 d → False := by
        intro d
        induction d with
        | zero => intro hd; cases hd with | top h => omega
        | succ d ih =>
          intro hd
          cases hd with
          | up h0 hd => rw [hh] at hd; exact ih hd
      exact this d hd
    have hk200 := h.kids_le hpin
    have hcond : (rd_T43 l e.f1).f4 < (l.length : Int) ∧ (rd_T43 l e.f1).f4 ≠ e.f1 ∧ (rd_T43 l (rd_T43 l e.f1).f4).f5.length ≤ 1000 := ⟨hpin.2, hne, by show (kids l (par l e.f1)).length ≤ 1000; omega⟩
    simp only [if_pos hcond]
    have hev := jx_ev (kids l (par l e.f1)) e.f1 (by omega)
    rw [hix2] at hev
    refine ⟨_, Ev.bind (f := fun k i => if 0 ≤ i ∧ i < ((rd_T43 l (rd_T43 l e.f1).f4).f5.length : Int) then some (0, (l.set (rd_T43 l e.f1).f4.toNat { rd_T43 l (rd_T43 l e.f1).f4 with f5 := (rd_T43 l (rd_T43 l e.f1).f4).f5.eraseIdx i.toNat }).set e.f1.toNat { rd_T43 l e.f1 with f4 := -1 }) else none) hev (Ev.congr (fun k => if_pos ⟨by omega, by show (ii : Int) < ((kids l (par l e.f1)).length : Int); omega⟩) (Ev.now _)), fun _ => ?_⟩
    rw [Int.toNat_natCast]
    exact .remove h0 hi hk hp0 hpin hne hil hix1 hix2
  · simp only [if_neg hi]; exact ⟨_, Ev.now _, fun h => absurd h (by show (5 : Int) ≠ 0; decide)⟩
theorem make_eff (h : DocOk l) (e : S45) (h0 : e.f0 = 4) : ∃ r l' m, Ev (fun k => makeF k l e) (r, l', m) ∧ (r = 0 → Eff l e l' ∧ m = (l.length : Int)) := by
  unfold makeF
  by_cases c1 : e.f6.f5 = []
  · simp only [if_pos c1]
    by_cases c2 : e.f6.f0 = 1
    · simp only [if_pos c2]; exact ⟨_, _, _, Ev.now _, fun h => absurd h (by decide)⟩
    simp only [if_neg c2]
    obtain ⟨r, hr, hok⟩ := one_val e.f6
    by_cases hr0 : r = 0
    · have ho := hok.1 hr0
      have ha : e.f6.f2.length ≤ 12 := ho.2.2.2.2.1.1
      by_cases hl : l.length < 200
      · refine ⟨0, l ++ [⟨e.f6.f0, e.f6.f1, e.f6.f2, e.f6.f3, -1, []⟩], l.length, Ev.bind (f := fun k r => if r = 0 then _ else _) hr (Ev.congr (fun k => (if_pos hr0).trans (if_pos ⟨hl, by omega⟩)) (Ev.now _)), fun _ => ⟨?_, rfl⟩⟩
        exact .make h0 c1 c2 hl ho
      · refine ⟨2, l, l.length, Ev.bind (f := fun k r => if r = 0 then _ else _) hr (Ev.congr (fun k => (if_pos hr0).trans ((if_neg (fun h => hl h.1)).trans (if_pos (by have := h.len; omega)))) (Ev.now _)), fun h => absurd h (by decide)⟩
    · exact ⟨r, l, l.length, Ev.bind (f := fun k r => if r = 0 then _ else _) hr (Ev.congr (fun k => if_neg hr0) (Ev.now _)), fun h => absurd h hr0⟩
  · simp only [if_neg c1]; exact ⟨_, _, _, Ev.now _, fun h => absurd h (by decide)⟩
set_option maxHeartbeats 2000000 in
theorem insert_eff (h : DocOk l) (e : S45) (h0 : e.f0 = 5) : ∃ t, Ev (fun k => insertF k l q e) t ∧ FineE l e t := by
  unfold insertF FineE
  by_cases hi : (0 ≤ e.f1 ∧ e.f1 < (l.length : Int)) ∧ (0 ≤ e.f2 ∧ e.f2 < (l.length : Int))
  · simp only [if_pos hi]
    obtain ⟨hi, hj⟩ := hi
    obtain ⟨pb, hpb⟩ := parent_some (rd_T43 l e.f1).f0
    simp only [hpb, Option.bind_some]
    by_cases c1 : pb = false ∨ (rd_T43 l e.f2).f0 = 1 ∨ ((rd_T43 l e.f1).f0 = 1 ∧ (rd_T43 l e.f2).f0 = 3)
    · simp only [if_pos c1]; exact ⟨_, Ev.now _, fun h => absurd h (by show (7 : Int) ≠ 0; decide)⟩
    simp only [if_neg c1]
    by_cases c2 : 0 ≤ (rd_T43 l e.f2).f4
    · simp only [if_pos c2]; exact ⟨_, Ev.now _, fun h => absurd h (by show (9 : Int) ≠ 0; decide)⟩
    simp only [if_neg c2]
    have hk200 := h.kids_le hi
    have hk1000 : (rd_T43 l e.f1).f5.length ≤ 1000 := by show (kids l e.f1).length ≤ 1000; omega
    simp only [if_pos hk1000]
    obtain ⟨p, hp, hple⟩ := place_ev (rd_T43 l e.f1).f5 e.f3 hk200
    obtain ⟨di, hd40, hdi⟩ := h.wf.dep e.f1 hi.1 hi.2
    obtain ⟨bb, hbb, hbu⟩ := below_ev h.wf hj.1 di e.f1 hi hdi
    obtain ⟨dj, hj40, hdj⟩ := h.wf.dep e.f2 hj.1 hj.2
    obtain ⟨r, hr, hr0, hr1, hr2⟩ := deep_ev h.wf 40 dj e.f2 hj hdj (by omega)
    have hup := upv_ev (q := q) h.wf h.len hi hdi
    by_cases c3 : p < 0
    · exact ⟨_, Ev.bind (f := fun k p => if p < 0 then _ else _) hp (Ev.congr (fun k => if_pos c3) (Ev.now _)), fun h => absurd h (by show (5 : Int) ≠ 0; decide)⟩
    by_cases c4 : bb = true
    · exact ⟨_, Ev.bind (f := fun k p => if p < 0 then _ else _) hp (Ev.congr (fun k => if_neg c3) (Ev.bind (f := fun k bb => if bb = true then _ else _) hbb (Ev.congr (fun k => if_pos c4) (Ev.now _)))), fun h => absurd h (by show (8 : Int) ≠ 0; decide)⟩
    have HEw := Lib.hid (show wrap64 (wrap64 ((di : Int) + 1) + r) = di + 1 + r from by rw [wrap_in (x := (di : Int) + 1) (by omega), wrap_in (by omega)])
    by_cases c5 : 40 < wrap64 (wrap64 ((di : Int) + 1) + r)
    · exact ⟨_, Ev.bind (f := fun k p => if p < 0 then _ else _) hp (Ev.congr (fun k => if_neg c3) (Ev.bind (f := fun k bb => if bb = true then _ else _) hbb (Ev.congr (fun k => if_neg c4) (Ev.bind (f := fun k u => (deepF l k e.f2).bind fun dp => if 40 < wrap64 (wrap64 (u + 1) + dp) then _ else _) hup (Ev.bind (f := fun k dp => if 40 < wrap64 (wrap64 ((di : Int) + 1) + dp) then _ else _) hr (Ev.congr (fun k => if_pos c5) (Ev.now _))))))), fun h => absurd h (by show (2 : Int) ≠ 0; decide)⟩
    refine ⟨_, Ev.bind (f := fun k p => if p < 0 then _ else _) hp (Ev.congr (fun k => if_neg c3) (Ev.bind (f := fun k bb => if bb = true then _ else _) hbb (Ev.congr (fun k => if_neg c4) (Ev.bind (f := fun k u => (deepF l k e.f2).bind fun dp => if 40 < wrap64 (wrap64 (u + 1) + dp) then _ else _) hup (Ev.bind (f := fun k dp => if 40 < wrap64 (wrap64 ((di : Int) + 1) + dp) then _ else _) hr (Ev.congr (fun k => (if_neg c5).trans (if_pos hple)) (Ev.now _))))))), fun _ => ?_⟩
    rw [HEw.out] at c5
    clear HEw
    have hpj : par l e.f2 < 0 := Int.not_le.1 c2
    have hnu : ¬ Under (par l) e.f2 e.f1 := fun hu => c4 (hbu.2 hu)
    have hdj0 : dj = 0 := hdj.fn (.top hpj)
    have hki : (rd_T43 l e.f1).f0 = 1 ∨ (rd_T43 l e.f1).f0 = 2 := by
      have hpt : pb = true := by cases pb with | true => rfl | false => exact absurd (.inl rfl) c1
      rw [hpt] at hpb
      exact parent_is hpb
    have hnk : e.f2 ∉ kids l e.f1 := fun hh => by
      have := (h.wf.kid_in hi hh).2
      have := hi.1
      omega
    exact .insert h0 hi hj hki (fun hh => c1 (.inr (.inl hh))) (fun hh => c1 (.inr (.inr hh))) hpj (show p.toNat ≤ (rd_T43 l e.f1).f5.length by omega) (place_is hp (by omega) hk200) hnu
  · simp only [if_neg hi]; exact ⟨_, Ev.now _, fun h => absurd h (by show (5 : Int) ≠ 0; decide)⟩
/-- Every edit that comes to a document does what its kind says. -/
theorem edit_eff (h : DocOk l) {made : Int} {e : S45} {l' : List S43} {m : Int} (hev : Ev (fun k => editF k l q made e) (0, l', m)) : Eff l e l' ∧ ((e.f0 = 4 ∧ m = (l.length : Int)) ∨ (e.f0 ≠ 4 ∧ m = made)) := by
  unfold editF at hev
  by_cases d3 : e.f0 = 3
  · simp only [if_pos d3] at hev
    have h1 := ev_one hev (Ev.now _)
    injection h1 with h2 h3
    injection h3 with h3 h4
    exact ⟨by have := text_eff h e d3 h2.symm; rw [← h3] at this; exact this, .inr ⟨by omega, h4⟩⟩
  simp only [if_neg d3] at hev
  by_cases d4 : e.f0 = 4
  · simp only [if_pos d4] at hev
    obtain ⟨r, l2, m2, h1, h2⟩ := make_eff h e d4
    have h3 := ev_one hev h1
    injection h3 with h4 h5
    injection h5 with h5 h6
    subst h5 h6
    exact ⟨(h2 h4.symm).1, .inl ⟨d4, (h2 h4.symm).2⟩⟩
  simp only [if_neg d4] at hev
  have key : ∀ {g : Nat → Option (Int × List S43)} {t : Int × List S43}, Ev (fun k => (g k).map (fun p => (p.1, p.2, made))) (0, l', m) → Ev g t → FineE l e t → Eff l e l' ∧ m = made := by
    intro g t h1 h2 h3
    have h4 := ev_one h1 (ev_map h2 _)
    injection h4 with h5 h6
    injection h6 with h6 h7
    subst h6
    exact ⟨h3 h5.symm, h7⟩
  by_cases d5 : e.f0 = 5
  · simp only [if_pos d5] at hev
    obtain ⟨t, h1, h2⟩ := insert_eff (q := q) h e d5
    exact ⟨(key hev h1 h2).1, .inr ⟨d4, (key hev h1 h2).2⟩⟩
  simp only [if_neg d5] at hev
  by_cases d1 : e.f0 = 1
  · simp only [if_pos d1] at hev
    obtain ⟨t, h1, h2⟩ := attr_eff h e d1
    have h3 : Ev (fun _ => attrF l e) t := Ev.congr (fun _ => h1) (Ev.now _)
    exact ⟨(key hev h3 h2).1, .inr ⟨d4, (key hev h3 h2).2⟩⟩
  simp only [if_neg d1] at hev
  by_cases d2 : e.f0 = 2
  · simp only [if_pos d2] at hev
    obtain ⟨t, h1, h2⟩ := drop_eff h e d2
    have h3 : Ev (fun _ => dropF l e) t := Ev.congr (fun _ => h1) (Ev.now _)
    exact ⟨(key hev h3 h2).1, .inr ⟨d4, (key hev h3 h2).2⟩⟩
  simp only [if_neg d2] at hev
  by_cases d6 : e.f0 = 6
  · simp only [if_pos d6] at hev
    obtain ⟨t, h1, h2⟩ := remove_eff h e d6
    exact ⟨(key hev h1 h2).1, .inr ⟨d4, (key hev h1 h2).2⟩⟩
  simp only [if_neg d6] at hev
  have h1 := ev_one hev (Ev.now _)
  injection h1 with h2
  exact absurd h2 (by decide)
end
end Go.Proofs.YtmcinclecpeakaaGreatDoor.DocC
