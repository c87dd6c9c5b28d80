/- What is folded does the same. -/
import Derived.Test.YthfalaabfgpjmaaDoorApF
import Derived.Test.YthfalaabfgpjmaaDoorApR
namespace Go.Proofs.YthfalaabfgpjmaaDoor.ApA
open Go.RowKit Go.Proofs.YthfalaabfgpjmaaDoorW.PrintWords Go.Proofs.YthfalaabfgpjmaaDoorW.PrintLast Go.Proofs.YthfalaabfgpjmaaDoorW.PrintMore Go.Proofs.YthfalaabfgpjmaaDoor.PAP Go.Proofs.YthfalaabfgpjmaaDoor.DocP Go.Proofs.YthfalaabfgpjmaaDoor.DocC
set_option linter.unusedVariables false
set_option linter.unusedSimpArgs false
/-- An edit that is done. -/
def Done (q : Bool) (l : List S28) (e : S30) (l1 : List S28) : Prop := DocOk l ∧ DocOk l1 ∧ Eff l e l1 ∧ DocC.Can l e
theorem Done.ev {q : Bool} {l l1 : List S28} {e : S30} (h : Done q l e l1) (made : Int) : ∃ m, Ev (fun k => editF k l q made e) (0, l1, m) := by
  obtain ⟨m, h1, _⟩ := edit_done (q := q) h.1 h.2.2.1 h.2.2.2 made
  exact ⟨m, h1⟩
theorem Done.of {q : Bool} {l l1 : List S28} {e : S30} {made m : Int} (h : DocOk l) (hev : Ev (fun k => editF k l q made e) (0, l1, m)) : Done q l e l1 := by
  obtain ⟨r, l', m', h1, h2⟩ := edit_good (q := q) h made e
  have h3 := ev_one hev h1
  injection h3 with h4 h5
  injection h5 with h5 h6
  subst h4 h5
  have hE := (edit_eff h hev).1
  have hc := eff_can h hE (h2 rfl).1
  exact ⟨h, (h2 rfl).1, hE, hc.1, hc.2⟩
/-- Edits that are done, one behind the other. -/
inductive Run (q : Bool) : List S28 → List S30 → List S28 → Prop
  | nil {l} (h : DocOk l) : Run q l [] l
  | cons {l e l1 es l2} (h : Done q l e l1) (hr : Run q l1 es l2) : Run q l (e :: es) l2
theorem Run.go {q : Bool} {l l2 : List S28} {es : List S30} (h : Run q l es l2) : ∀ made i, Ev (fun k => allGo k q es l made i) (l2, q, 0, 0) := by
  induction h with
  | nil h => intro made i; exact Ev.now _
  | cons h hr ih =>
    rename_i l e l1 es l2
    intro made i
    obtain ⟨m, h1⟩ := h.ev made
    show Ev (fun k => (editF k l q made e).bind fun t => if t.1 = 0 then allGo k q es t.2.1 t.2.2 (i + 1) else some ([], false, i, t.1)) _
    exact Ev.bind (f := fun k t => if t.1 = 0 then allGo k q es t.2.1 t.2.2 (i + 1) else some ([], false, i, t.1)) h1 (Ev.congr (fun k => if_pos rfl) (ih m (i + 1)))
theorem Run.docs {q : Bool} {l l2 : List S28} {es : List S30} (h : Run q l es l2) : DocOk l ∧ DocOk l2 := by
  induction h with
  | nil h => exact ⟨h, h⟩
  | cons h hr ih => exact ⟨h.1, ih.2⟩
theorem Run.all {q : Bool} {l l2 : List S28} {es : List S30} (h : Run q l es l2) (h40 : es.length ≤ 40) : Ev (fun k => dom_All.f k l q es) (l2, q, 0, 0) := all_doc h.docs.1 q es h40 (h.go 0 0)
theorem run_of_go {q : Bool} : ∀ (es : List S30) (l : List S28) (made i : Int) (l2 : List S28) (q2 : Bool) (j : Int), DocOk l → Ev (fun k => allGo k q es l made i) (l2, q2, j, 0) → Run q l es l2
  | [], l, made, i, l2, q2, j, h, hev => by
    have h1 := ev_one hev (Ev.now (l, q, 0, 0))
    injection h1 with h2 _
    subst h2
    exact .nil h
  | e :: es, l, made, i, l2, q2, j, h, hev => by
    obtain ⟨r, l1, m, h1, h2⟩ := edit_good (q := q) h made e
    have h3 : Ev (fun k => (editF k l q made e).bind fun t => if t.1 = 0 then allGo k q es t.2.1 t.2.2 (i + 1) else some ([], false, i, t.1)) (l2, q2, j, 0) := hev
    by_cases hr : r = 0
    · subst hr
      obtain ⟨r2, l3, j2, h4, _, h5⟩ := go_good q es l1 (h2 rfl).1
      have h6 := h5 [] m (i + 1)
      rw [List.append_nil] at h6
      by_cases hr2 : r2 = 0
      · have h7 : Ev (fun k => allGo k q es l1 m (i + 1)) (l3, q, 0, 0) := h6.2 hr2 _ (fun _ => Ev.now _)
        have h8 := ev_one h3 (Ev.bind (f := fun k t => if t.1 = 0 then allGo k q es t.2.1 t.2.2 (i + 1) else some ([], false, i, t.1)) h1 (Ev.congr (fun k => if_pos rfl) h7))
        injection h8 with h9 _
        subst h9
        exact .cons (Done.of h h1) (run_of_go es l1 m (i + 1) l2 q 0 (h2 rfl).1 h7)
      · have h7 := h6.1 hr2
        have h8 := ev_one h3 (Ev.bind (f := fun k t => if t.1 = 0 then allGo k q es t.2.1 t.2.2 (i + 1) else some ([], false, i, t.1)) h1 (Ev.congr (fun k => if_pos rfl) h7))
        injection h8 with _ h9
        injection h9 with _ h9
        injection h9 with _ h9
        exact absurd h9.symm hr2
    · have h8 := ev_one h3 (Ev.bind (f := fun k t => if t.1 = 0 then allGo k q es t.2.1 t.2.2 (i + 1) else some ([], false, i, t.1)) h1 (Ev.congr (f := fun _ => some ([], false, i, r)) (fun k => if_neg hr) (Ev.now _)))
      injection h8 with _ h9
      injection h9 with _ h9
      injection h9 with _ h9
      exact absurd h9.symm hr
/-- What dom.All comes to, for whatever document and edits. -/
theorem all_any {l : List S28} (hf : Fit l) (q : Bool) (es : List S30) : ∃ l2 q2 i er, Ev (fun k => dom_All.f k l q es) (l2, q2, i, er) ∧ (er = 0 → es.length ≤ 40 ∧ Run q l es l2) := by
  obtain ⟨c, hc, _⟩ := check_ev l q hf
  by_cases hc0 : c = 0
  · subst hc0
    have h := check_doc hc hf
    by_cases h40 : es.length ≤ 40
    · obtain ⟨r, l2, j, h1, h2, h3, _⟩ := all_good h q es h40
      by_cases hr : r = 0
      · subst hr
        rw [if_pos rfl] at h3
        refine ⟨_, _, _, _, h3, fun _ => ⟨h40, ?_⟩⟩
        obtain ⟨r2, l3, j2, g1, _, g3⟩ := go_good q es l h
        have g4 := g3 [] 0 0
        rw [List.append_nil] at g4
        by_cases hr2 : r2 = 0
        · have g5 := g4.2 hr2 _ (fun _ => Ev.now (l3, q, 0, 0))
          have g6 := ev_one h3 (all_doc h q es h40 g5)
          injection g6 with g7 _
          subst g7
          exact run_of_go es l 0 0 l2 q 0 h g5
        · have g6 := ev_one h3 (all_doc h q es h40 (g4.1 hr2))
          injection g6 with _ g7
          injection g7 with _ g7
          injection g7 with _ g7
          exact absurd g7.symm hr2
      · rw [if_neg hr] at h3
        exact ⟨_, _, _, _, h3, fun h => absurd h hr⟩
    · refine ⟨[], false, 0, 2, ?_, fun h => absurd h (by decide)⟩
      unfold dom_All.f
      exact Ev.bind (f := fun k c => if c = 0 then (if es.length > 40 then some ([], false, 0, 2) else if allOk l = true then allGo k q es l 0 0 else none) else some ([], false, 0, c)) hc (Ev.congr (f := fun _ => some ([], false, 0, 2)) (fun k => (if_pos rfl).trans (if_pos (by omega))) (Ev.now _))
  · exact ⟨_, _, _, _, all_bad hc hc0 es, fun h => absurd h hc0⟩
theorem Run.append {q : Bool} {l m l2 : List S28} {a b : List S30} (h : Run q l a m) (h' : Run q m b l2) : Run q l (a ++ b) l2 := by
  induction h with
  | nil h => exact h'
  | cons h hr ih => exact .cons h (ih h')
theorem Run.split {q : Bool} : ∀ (a : List S30) {b : List S30} {l l2 : List S28}, Run q l (a ++ b) l2 → ∃ m, Run q l a m ∧ Run q m b l2
  | [], b, l, l2, h => ⟨l, .nil h.docs.1, h⟩
  | e :: a, b, l, l2, h => by
    cases h with
    | cons h hr =>
      obtain ⟨m, h1, h2⟩ := Run.split a hr
      exact ⟨m, .cons h h1, h2⟩
theorem bytes_ext {a b : ByteArray} (h : a.toList = b.toList) : a = b := by
  rw [Lib.toList_data, Lib.toList_data] at h
  cases a with
  | mk x =>
    cases b with
    | mk y =>
      congr 1
      exact Array.toList_inj.1 h
/-! ### Two edits as one -/
theorem join_is {a b : S30} {r : Bool} (h : joinE a b = some r) : (r = true ∧ a.f0 = 3 ∧ b.f0 = 3 ∧ a.f1 = b.f1) ∨ (r = true ∧ a.f0 = 1 ∧ b.f0 = 1 ∧ a.f1 = b.f1 ∧ a.f4 = b.f4) ∨ (r = false ∧ a.f0 = 5 ∧ b.f0 = 6 ∧ a.f2 = b.f1) := by
  unfold joinE joinB at h
  split at h
  · next c => exact .inl ⟨(Option.some.inj h).symm, c⟩
  split at h
  · next c => exact .inr (.inl ⟨(Option.some.inj h).symm, c.1, c.2.1, c.2.2.1, bytes_ext c.2.2.2⟩)
  split at h
  · next c => exact .inr (.inr ⟨(Option.some.inj h).symm, c⟩)
  · cases h
theorem idx_app {α : Type} (p : α → Bool) (xs : List α) (y : α) (h : idxF p xs < 0) (hy : p y = true) : idxF p (xs ++ [y]) = xs.length := by
  refine idxF_some ?_
  rw [List.findIdx?_eq_some_iff_getElem]
  refine ⟨by simp, by simpa using hy, fun j hj => ?_⟩
  have := idx_neg.1 h xs[j] (List.getElem_mem hj)
  rw [List.getElem_append_left hj]
  simpa using this
theorem idx_set {α : Type} (p : α → Bool) (xs : List α) (i : Nat) (y : α) (hi : idxF p xs = i) (hl : i < xs.length) (hy : p y = true) : idxF p (xs.set i y) = i := by
  unfold idxF at hi
  cases hf : xs.findIdx? p with
  | none => rw [hf] at hi; simp at hi
  | some j =>
    rw [hf] at hi
    have hj : j = i := by
      have h9 : (j : Int) = (i : Int) := hi
      omega
    subst hj
    obtain ⟨_, _, h3⟩ := List.findIdx?_eq_some_iff_getElem.1 hf
    refine idxF_some ?_
    rw [List.findIdx?_eq_some_iff_getElem]
    refine ⟨by simpa using hl, by simpa using hy, fun k hk => ?_⟩
    rw [List.getElem_set_ne (by omega)]
    exact h3 k hk
theorem ats_twice (a b : S30) (hn : a.f4 = b.f4) (l : List S61) : atsF b (atsF a l) = atsF b l := by
  have hp : ∀ v, (fun x : S61 => x.f0.toList == b.f4.toList) ⟨b.f4, v⟩ = true := fun v => by simp
  have e1 : atsF a l = if idxF (fun x => x.f0.toList == b.f4.toList) l < 0 then l ++ [⟨b.f4, a.f5⟩] else l.set (idxF (fun x => x.f0.toList == b.f4.toList) l).toNat ⟨(l.getD (idxF (fun x => x.f0.toList == b.f4.toList) l).toNat ⟨⟨#[]⟩, ⟨#[]⟩⟩).f0, a.f5⟩ := by
    unfold atsF
    rw [hn]
  rw [e1]
  by_cases h : idxF (fun x : S61 => x.f0.toList == b.f4.toList) l < 0
  · rw [if_pos h]
    have h2 := idx_app _ l ⟨b.f4, a.f5⟩ h (hp _)
    unfold atsF
    rw [if_pos h, h2, if_neg (by omega), Int.toNat_natCast, List.set_append_right _ _ (Nat.le_refl _), Nat.sub_self]
    congr 1
    rw [List.getD_eq_getElem?_getD, List.getElem?_append_right (Nat.le_refl _), Nat.sub_self]
    rfl
  · rw [if_neg h]
    have hlt : idxF (fun x : S61 => x.f0.toList == b.f4.toList) l < (l.length : Int) := by
      rcases idx_lt (fun x : S61 => x.f0.toList == b.f4.toList) l with g | g
      · exact g
      · omega
    obtain ⟨i, hi⟩ : ∃ i : Nat, idxF (fun x : S61 => x.f0.toList == b.f4.toList) l = i := ⟨(idxF (fun x : S61 => x.f0.toList == b.f4.toList) l).toNat, by omega⟩
    have hil : i < l.length := by omega
    have hnm : (l.getD i ⟨⟨#[]⟩, ⟨#[]⟩⟩).f0.toList == b.f4.toList := by
      have hi2 := hi
      unfold idxF at hi2
      cases hf : l.findIdx? (fun x : S61 => x.f0.toList == b.f4.toList) with
      | none => rw [hf] at hi2; simp at hi2
      | some j =>
        rw [hf] at hi2
        have hj : j = i := by
          have h9 : (j : Int) = (i : Int) := hi2
          omega
        subst hj
        obtain ⟨_, g2, _⟩ := List.findIdx?_eq_some_iff_getElem.1 hf
        rw [List.getD_eq_getElem?_getD, List.getElem?_eq_getElem hil]
        exact g2
    have h2 := idx_set _ l i ⟨(l.getD i ⟨⟨#[]⟩, ⟨#[]⟩⟩).f0, a.f5⟩ hi hil hnm
    rw [hi, Int.toNat_natCast]
    unfold atsF
    rw [hi, h2, if_neg (by omega), if_neg (by omega), Int.toNat_natCast, List.set_set]
    congr 2
    rw [List.getD_eq_getElem?_getD, List.getElem?_set_self hil]
    rfl
theorem set_set_rd (l : List S28) {i : Int} (hi : In l.length i) (y z : S28) : (l.set i.toNat y).set i.toNat z = l.set i.toNat z := List.set_set ..
theorem join_run {q : Bool} {l l2 : List S28} {a b : S30} (h : Run q l [a, b] l2) (hj : joinE a b = some true) : Run q l [b] l2 := by
  cases h with
  | @cons _ _ l1 _ _ h1 hr =>
    cases hr with
    | @cons _ _ l3 _ _ h2 hr =>
      cases hr with
      | nil h3 =>
        obtain ⟨d1, d2, e1, c1⟩ := h1
        obtain ⟨_, d3, e2, c2⟩ := h2
        refine .cons ?_ (.nil h3)
        rcases join_is hj with ⟨_, ha, hb, h12⟩ | ⟨_, ha, hb, h12, h4⟩ | ⟨hf, _⟩
        · cases e1 with
          | text h0 hi hk hv =>
            cases e2 with
            | text h0' hi' hk' hv' =>
              have hr1 : rd_T28 (l.set a.f1.toNat { rd_T28 l a.f1 with f3 := a.f5 }) b.f1 = { rd_T28 l b.f1 with f3 := a.f5 } := by
                rw [← h12, rd_set2 l hi, if_pos rfl]
              have hE := Eff.text (l := l) (e := b) hb (by rw [← h12]; exact hi) (by rw [← h12]; exact hk) hv'
              have e : (l.set a.f1.toNat { rd_T28 l a.f1 with f3 := a.f5 }).set b.f1.toNat { rd_T28 (l.set a.f1.toNat { rd_T28 l a.f1 with f3 := a.f5 }) b.f1 with f3 := b.f5 } = l.set b.f1.toNat { rd_T28 l b.f1 with f3 := b.f5 } := by
                rw [hr1, h12, List.set_set]
              rw [e] at d3 ⊢
              exact ⟨d1, d3, hE, fun h => by omega, fun h => by omega⟩
            | _ => omega
          | _ => omega
        · have u1 := eff_upd e1
          have u2 := eff_upd e2
          cases e1 with
          | @attr ats1 h0 hi hk hnm hv hat =>
            have hlt := (eff_can d1 (Eff.attr h0 hi hk hnm hv hat) d2).1
            cases e2 with
            | @attr ats2 h0' hi' hk' hnm' hv' hat' =>
              have hib : In l.length b.f1 := by rw [← h12]; exact hi
              have hkb : (rd_T28 l b.f1).f0 = 2 := by rw [← h12]; exact hk
              have hE : Eff l b (upd l b) := by
                have hu : upd l b = l.set b.f1.toNat { rd_T28 l b.f1 with f2 := atsF b (rd_T28 l b.f1).f2 } := by unfold upd; rw [if_neg (by omega), if_pos hb]
                rw [hu]
                refine Eff.attr hb hib hkb hnm' hv' ?_
                unfold atsF
                by_cases hx : idxF (fun x => x.f0.toList == b.f4.toList) (rd_T28 l b.f1).f2 < 0
                · exact .inl ⟨hx, if_pos hx⟩
                · have hxl : idxF (fun x => x.f0.toList == b.f4.toList) (rd_T28 l b.f1).f2 < ((rd_T28 l b.f1).f2.length : Int) := by
                    rcases idx_lt (fun x => x.f0.toList == b.f4.toList) (rd_T28 l b.f1).f2 with g | g
                    · exact g
                    · omega
                  exact .inr ⟨_, by omega, by omega, if_neg hx⟩
              have hl1 : upd l a = l.set b.f1.toNat { rd_T28 l b.f1 with f2 := atsF a (rd_T28 l b.f1).f2 } := by unfold upd; rw [if_neg (by omega), if_pos ha, h12]
              have e : upd (upd l a) b = upd l b := by
                have hr1 : rd_T28 (upd l a) b.f1 = { rd_T28 l b.f1 with f2 := atsF a (rd_T28 l b.f1).f2 } := by rw [hl1, rd_set2 l hib, if_pos rfl]
                have hu : ∀ m, upd m b = m.set b.f1.toNat { rd_T28 m b.f1 with f2 := atsF b (rd_T28 m b.f1).f2 } := fun m => by unfold upd; rw [if_neg (by omega), if_pos hb]
                rw [hu, hu, hr1, ats_twice a b h4, hl1, List.set_set]
              rw [u2, u1, e] at d3 ⊢
              refine ⟨d1, d3, hE, fun _ hx => ?_, fun h => by omega⟩
              rw [← h12] at hx ⊢
              rw [← h4] at hx
              exact hlt ha hx
            | _ => omega
          | _ => omega
        · cases hf
theorem eta4 (r : S28) (h : r.f4 = -1) (v : Int) : ({ ({ r with f4 := v } : S28) with f4 := -1 } : S28) = r := by
  cases r
  simp only at h
  subst h
  rfl
theorem gone_run {q : Bool} {l l2 : List S28} {a b : S30} (h : Run q l [a, b] l2) (hj : joinE a b = some false) : Run q l [] l2 := by
  cases h with
  | @cons _ _ l1 _ _ h1 hr =>
    cases hr with
    | @cons _ _ l3 _ _ h2 hr =>
      cases hr with
      | nil h3 =>
        obtain ⟨d1, d2, e1, c1⟩ := h1
        obtain ⟨_, d3, e2, c2⟩ := h2
        rcases join_is hj with ⟨hf, _⟩ | ⟨hf, _⟩ | ⟨_, ha, hb, h21⟩
        · cases hf
        · cases hf
        cases e1 with
        | @insert p h0 hi hj' hki hkj htx hpj hp hpl hnu =>
          have hne : a.f1 ≠ a.f2 := fun hh => hnu (by rw [hh]; exact .refl)
          have hP : ∀ j, 0 ≤ j → rd_T28 ((l.set a.f1.toNat { rd_T28 l a.f1 with f5 := (kids l a.f1).take p ++ a.f2 :: (kids l a.f1).drop p }).set a.f2.toNat { rd_T28 l a.f2 with f4 := a.f1 }) j = if j = a.f2 then { rd_T28 l a.f2 with f4 := a.f1 } else if j = a.f1 then { rd_T28 l a.f1 with f5 := (kids l a.f1).take p ++ a.f2 :: (kids l a.f1).drop p } else rd_T28 l j := fun j hj => rd_two l hi hj' _ _ j hj
          generalize hl1 : ((l.set a.f1.toNat { rd_T28 l a.f1 with f5 := (kids l a.f1).take p ++ a.f2 :: (kids l a.f1).drop p }).set a.f2.toNat { rd_T28 l a.f2 with f4 := a.f1 }) = l1 at *
          have hlen : l1.length = l.length := by rw [← hl1]; simp
          cases e2 with
          | @remove i g0 gi gk gp gpi gne gl gg gix =>
            have h21' : b.f1 = a.f2 := h21.symm
            simp only [h21'] at gi gp gpi gne gg gix gl ⊢
            have hpar : par l1 a.f2 = a.f1 := by
              show (rd_T28 l1 a.f2).f4 = _
              rw [hP _ hj'.1, if_pos rfl]
            have hk1 : kids l1 a.f1 = (kids l a.f1).take p ++ a.f2 :: (kids l a.f1).drop p := by
              show (rd_T28 l1 a.f1).f5 = _
              rw [hP _ hi.1, if_neg hne, if_pos rfl]
            have hi1 : In l1.length a.f1 := by rw [hlen]; exact hi
            have hnd := d2.wf.nodup a.f1 hi1.1 hi1.2
            have hip : i = p := by
              have q1 : i < (kids l1 a.f1).length := by rw [← hpar]; exact gl
              have q2 : (kids l1 a.f1)[i] = a.f2 := by
                have := gg
                simp only [hpar] at this
                exact this
              have q3 : p < (kids l1 a.f1).length := by rw [hk1]; simp; omega
              have q4 : (kids l1 a.f1)[p] = a.f2 := by
                simp only [hk1]
                rw [List.getElem_append_right (by rw [List.length_take]; omega)]
                simp [Nat.min_eq_left hp]
              exact (List.getElem_inj hnd).1 (q2.trans q4.symm)
            have hker : (kids l1 (par l1 a.f2)).eraseIdx i = kids l a.f1 := by
              rw [hpar, hk1, hip, List.eraseIdx_append_of_length_le (by rw [List.length_take]; omega), List.length_take, Nat.min_eq_left hp, Nat.sub_self]
              simp
            have hz : par l a.f2 = -1 := by
              rcases d1.wf.par_or hj' with g | g
              · exact g
              · have := g.1.1; omega
            rw [hker, hpar]
            have hfin : (l1.set a.f1.toNat { rd_T28 l1 a.f1 with f5 := kids l a.f1 }).set a.f2.toNat { rd_T28 l1 a.f2 with f4 := -1 } = l := by
              refine List.ext_getElem? fun n => ?_
              have hrd : ∀ j : Int, In l.length j → (n : Int) = j → l[n]? = some (rd_T28 l j) := fun j hj hn => by
                unfold rd_T28
                have : j.toNat = n := by omega
                rw [this, List.getD_eq_getElem?_getD, List.getElem?_eq_getElem (by have := hj.2; omega)]
                rfl
              by_cases c2 : (n : Int) = a.f2
              · rw [set_at _ _ c2 (by rw [List.length_set]; rw [hlen]; exact hj'), hrd _ hj' c2, hP _ hj'.1, if_pos rfl]
                exact congrArg some (eta4 _ hz _)
              · rw [set_far _ _ c2 hj'.1]
                by_cases c1 : (n : Int) = a.f1
                · rw [set_at _ _ c1 hi1, hrd _ hi c1, hP _ hi.1, if_neg hne, if_pos rfl]
                · rw [set_far _ _ c1 hi.1, ← hl1, set_far _ _ c2 hj'.1, set_far _ _ c1 hi.1]
            rw [hfin]
            exact .nil d1
          | _ => omega
        | _ => omega
end Go.Proofs.YthfalaabfgpjmaaDoor.ApA
