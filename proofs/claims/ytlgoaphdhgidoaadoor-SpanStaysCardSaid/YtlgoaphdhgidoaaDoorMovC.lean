/- One round of the law SpanStays, plainly: an edit, the range behind it, and its check. -/
import Derived.Test.YtlgoaphdhgidoaaDoorMovB
import Derived.Test.YtlgoaphdhgidoaaDoorDocL
namespace Go.Proofs.YtlgoaphdhgidoaaDoor.DocC
open Go.RowKit Go.Proofs.YtlgoaphdhgidoaaDoorW.PrintWords Go.Proofs.YtlgoaphdhgidoaaDoor.PSY Go.Proofs.YtlgoaphdhgidoaaDoor.DocP Go.Proofs.YtlgoaphdhgidoaaDoor.DocT
set_option linter.unusedVariables false
set_option linter.unusedSimpArgs false
section
variable {l : List S37} {q : Bool}
theorem span_ev (hf : Fit l) (hb : Brief l) (a s b t : Int) : ∃ e, Ev (fun k => span_span.f k l q a s b t) (l, q, e) ∧ (e = 0 ↔ (Good l q ∧ OkP l a s ∧ OkP l b t ∧ lexlt (pp l b t) (pp l a s) = false)) := by
  obtain ⟨e, he, hd⟩ := points_ev l q hf hb a s b t
  by_cases h0 : e = 0
  · obtain ⟨hg, h1, h2⟩ := hd.1 h0
    obtain ⟨r, hr, hr1, hr2⟩ := order_ev l q hg hf hb h1 h2
    by_cases hp : r > 0
    · refine ⟨9, Ev.bind (f := fun k (bt : List S37 × Bool × Int) => (if bt.2.2 = 0 then ((span_ranger_order.f k bt.1 bt.2.1 a s b t).bind fun t218 => (if t218 > 0 then (some (bt.1, bt.2.1, (9 : Int))) else (some (bt.1, bt.2.1, bt.2.2)))) else (some (bt.1, bt.2.1, bt.2.2)))) he (Ev.congr (f := fun k => (span_ranger_order.f k l q a s b t).bind fun t218 => (if t218 > 0 then (some (l, q, (9 : Int))) else (some (l, q, e)))) (fun k => by rw [if_pos h0]) (Ev.bind (f := fun _ t218 => (if t218 > 0 then (some (l, q, (9 : Int))) else (some (l, q, e)))) hr (Ev.congr (f := fun _ => some (l, q, 9)) (fun k => by rw [if_pos hp]) (Ev.now _)))), ?_⟩
      refine ⟨fun h => (by cases h), fun h => ?_⟩
      have := hr2.1 hp
      rw [h.2.2.2] at this
      cases this
    · refine ⟨e, Ev.bind (f := fun k (bt : List S37 × Bool × Int) => (if bt.2.2 = 0 then ((span_ranger_order.f k bt.1 bt.2.1 a s b t).bind fun t218 => (if t218 > 0 then (some (bt.1, bt.2.1, (9 : Int))) else (some (bt.1, bt.2.1, bt.2.2)))) else (some (bt.1, bt.2.1, bt.2.2)))) he (Ev.congr (f := fun k => (span_ranger_order.f k l q a s b t).bind fun t218 => (if t218 > 0 then (some (l, q, (9 : Int))) else (some (l, q, e)))) (fun k => by rw [if_pos h0]) (Ev.bind (f := fun _ t218 => (if t218 > 0 then (some (l, q, (9 : Int))) else (some (l, q, e)))) hr (Ev.congr (f := fun _ => some (l, q, e)) (fun k => by rw [if_neg hp]) (Ev.now _)))), ?_⟩
      refine ⟨fun _ => ⟨hg, h1, h2, ?_⟩, fun _ => h0⟩
      cases hx : lexlt (pp l b t) (pp l a s) with
      | false => rfl
      | true => exact absurd (hr2.2 hx) hp
  · refine ⟨e, Ev.bind (f := fun k (bt : List S37 × Bool × Int) => (if bt.2.2 = 0 then ((span_ranger_order.f k bt.1 bt.2.1 a s b t).bind fun t218 => (if t218 > 0 then (some (bt.1, bt.2.1, (9 : Int))) else (some (bt.1, bt.2.1, bt.2.2)))) else (some (bt.1, bt.2.1, bt.2.2)))) he (Ev.congr (f := fun _ => some (l, q, e)) (fun k => by rw [if_neg h0]) (Ev.now _)), fun h => absurd h h0, fun h => hd.2 ⟨h.1, h.2.1, h.2.2.1⟩⟩
theorem DocOk.brief (h : DocOk l) : Brief l := fun i => by
  by_cases hi : i.toNat < l.length
  · have hin : In l.length ((i.toNat : Nat) : Int) := ⟨by omega, by omega⟩
    have := (h.oneOk hin).2.2.2.2.2.1
    rw [rd_same l (i := ((i.toNat : Nat) : Int)) (j := i) (by omega)]
    exact this
  · unfold rd_T37
    rw [List.getD_eq_getElem?_getD, List.getElem?_eq_none (by omega)]
    decide
/-- Up from a node: is it below x? -/
theorem movedGo_ev (hw : WF l.length (par l) (kids l)) {x : Int} (hx : 0 ≤ x) (up i a t : Int) : ∀ (d : Nat) (n : Int), In l.length n → Dep (par l) n d → ∃ r, Ev (fun k => movedGo l x up i a t k n) r ∧ (Under (par l) x n → r = (up, i)) ∧ (¬ Under (par l) x n → r = (a, t)) := by
  intro d
  induction d with
  | zero =>
    intro n hn hd
    have hp : par l n < 0 := by cases hd with | top h => exact h
    by_cases he : n = x
    · subst he
      exact ⟨(up, i), Ev.step (f := fun _ => some (up, i)) (fun k => by simp only [movedGo]; rw [if_pos hn.1, if_pos trivial]) (Ev.now _), fun _ => rfl, fun h => absurd .refl h⟩
    · refine ⟨(a, t), Ev.step (f := fun k => movedGo l x up i a t k (par l n)) (fun k => by simp only [movedGo]; rw [if_pos hn.1, if_neg he, if_pos hn.2]) (Ev.step (f := fun _ => some (a, t)) (fun k => by simp only [movedGo]; rw [if_neg (by omega)]) (Ev.now _)), fun h => ?_, fun _ => rfl⟩
      cases h with
      | refl => exact absurd rfl he
      | up h1 _ => omega
  | succ d ih =>
    intro n hn hd
    cases hd with
    | up hp hd =>
      by_cases he : n = x
      · subst he
        exact ⟨(up, i), Ev.step (f := fun _ => some (up, i)) (fun k => by simp only [movedGo]; rw [if_pos hn.1, if_pos trivial]) (Ev.now _), fun _ => rfl, fun h => absurd .refl h⟩
      · obtain ⟨r, h1, h2, h3⟩ := ih (par l n) (WFin hw hn hp) hd
        refine ⟨r, Ev.step (f := fun k => movedGo l x up i a t k (par l n)) (fun k => by simp only [movedGo]; rw [if_pos hn.1, if_neg he, if_pos hn.2]) h1, fun h => h2 ?_, fun h => h3 (fun h' => h (.up hp h'))⟩
        cases h with
        | refl => exact absurd rfl he
        | up _ h => exact h
/-- The point that is moved. -/
theorem moved_ev (hd : DocOk l) {e : S39} {l' : List S37} (he : Eff l e l') {a t : Int} (h : OkP l a t) : Ev (fun k => span_ranger_moved.f k l q a t e.f0 e.f1 e.f2 e.f3 e.f4 e.f5 e.f6.f0 e.f6.f1 e.f6.f2 e.f6.f3 e.f6.f4 e.f6.f5) (movedP l e a t) := by
  have hrl := room_le l hd.wf hd.len hd.brief h.1
  have ht : 0 ≤ t ∧ t ≤ 1000000 := ⟨h.2.1, by have := h.2.2.1; omega⟩
  unfold span_ranger_moved.f movedP
  refine Ev.congr (fun k => if_pos ht) ?_
  cases he with
  | text h0 hi hk hv =>
    refine Ev.congr (fun k => (if_neg (by omega)).trans ((if_neg (by omega)).trans (if_pos h0))) ?_
    rw [if_neg (show ¬ e.f0 = 5 by omega), if_neg (show ¬ e.f0 = 6 by omega), if_pos h0]
    exact Ev.now _
  | attr h0 hi hk hn hv hats =>
    refine Ev.congr (fun k => (if_neg (by omega)).trans ((if_neg (by omega)).trans (if_neg (by omega)))) ?_
    rw [if_neg (show ¬ e.f0 = 5 by omega), if_neg (show ¬ e.f0 = 6 by omega), if_neg (show ¬ e.f0 = 3 by omega)]
    exact Ev.now _
  | drop h0 hi hk hix hl =>
    refine Ev.congr (fun k => (if_neg (by omega)).trans ((if_neg (by omega)).trans (if_neg (by omega)))) ?_
    rw [if_neg (show ¬ e.f0 = 5 by omega), if_neg (show ¬ e.f0 = 6 by omega), if_neg (show ¬ e.f0 = 3 by omega)]
    exact Ev.now _
  | make h0 hk h1 hl ho =>
    refine Ev.congr (fun k => (if_neg (by omega)).trans ((if_neg (by omega)).trans (if_neg (by omega)))) ?_
    rw [if_neg (show ¬ e.f0 = 5 by omega), if_neg (show ¬ e.f0 = 6 by omega), if_neg (show ¬ e.f0 = 3 by omega)]
    exact Ev.now _
  | @insert p h0 hi hj hki hkj htx hpj hp hpl hnu =>
    refine Ev.congr (fun k => if_pos h0) ?_
    rw [if_pos h0]
    have hk200 := hd.kids_le hi
    refine Ev.bind (f := fun k rm => (if e.f3 ≥ 0 then slices_Index_int_int.f k (rd_T37 l e.f1).f5 e.f3 else some rm).bind fun i => some (a, if a = e.f1 ∧ t > i then t + 1 else t)) (Ev.congr (f := fun _ => some (roomP l e.f1)) (fun k => room_f l q hi) (Ev.now _)) ?_
    by_cases hb : e.f3 ≥ 0
    · rw [if_pos hb]
      refine Ev.bind (f := fun _ i => some (a, if a = e.f1 ∧ t > i then t + 1 else t)) (Ev.congr (fun k => if_pos hb) (jx_ev (kids l e.f1) e.f3 (by omega))) (Ev.now _)
    · rw [if_neg hb]
      exact Ev.bind (f := fun _ i => some (a, if a = e.f1 ∧ t > i then t + 1 else t)) (Ev.congr (f := fun _ => some (roomP l e.f1)) (fun k => if_neg hb) (Ev.now _)) (Ev.now _)
  | @remove i h0 hi hk hp hpi hne hl hg hix =>
    refine Ev.congr (fun k => (if_neg (by omega)).trans (if_pos h0)) ?_
    rw [if_neg (show ¬ e.f0 = 5 by omega), if_pos h0]
    have hk200 := hd.kids_le hpi
    refine Ev.congr (fun k => if_pos ⟨hi, hpi⟩) ?_
    have hev := jx_ev (kids l (par l e.f1)) e.f1 (by omega)
    refine Ev.bind (f := fun k i => movedGo l e.f1 (rd_T37 l e.f1).f4 i a (if a = (rd_T37 l e.f1).f4 ∧ t > i then t - 1 else t) k a) hev ?_
    obtain ⟨d, _, hdep⟩ := hd.wf.dep a h.1.1 h.1.2
    obtain ⟨r, h1, h2, h3⟩ := movedGo_ev hd.wf hi.1 (par l e.f1) (ix (kids l (par l e.f1)) e.f1) a (if a = par l e.f1 ∧ t > ix (kids l (par l e.f1)) e.f1 then t - 1 else t) d a h.1 hdep
    by_cases hu : Under (par l) e.f1 a
    · rw [if_pos hu, ← h2 hu]
      exact h1
    · rw [if_neg hu, ← h3 hu]
      exact h1
/-- One round. -/
theorem round_plain (q : Bool) (hf : Fit l) (hb : Brief l) (e : S39) (a s b t : Int) : ∃ (l2 : List S37) (q2 : Bool) (made er a' s' b' t' fe : Int), Ev (fun k => dom_Apply.f k l q e.f0 e.f1 e.f2 e.f3 e.f4 e.f5 e.f6.f0 e.f6.f1 e.f6.f2 e.f6.f3 e.f6.f4 e.f6.f5) (l2, q2, made, er) ∧
    Ev (fun k => span_After.f k l q e.f0 e.f1 e.f2 e.f3 e.f4 e.f5 e.f6.f0 e.f6.f1 e.f6.f2 e.f6.f3 e.f6.f4 e.f6.f5 a s b t) (a', s', b', t', fe) ∧ (fe ≠ 0 → a' = 0 ∧ s' = 0 ∧ b' = 0 ∧ t' = 0) ∧
    (fe = 0 → er = 0 ∧ Fit l2 ∧ Brief l2 ∧ Ev (fun k => span_Check.f k l2 q2 a' s' b' t') 0 ∧ (a = b → s = t → a' = b' ∧ s' = t')) := by
  obtain ⟨se, hse, hsd⟩ := span_ev (q := q) hf hb a s b t
  have hA : ∃ (l2 : List S37) (q2 : Bool) (made er : Int), Ev (fun k => dom_Apply.f k l q e.f0 e.f1 e.f2 e.f3 e.f4 e.f5 e.f6.f0 e.f6.f1 e.f6.f2 e.f6.f3 e.f6.f4 e.f6.f5) (l2, q2, made, er) ∧ (er = 0 → q2 = q ∧ DocOk l ∧ DocOk l2 ∧ Eff l e l2) := by
    obtain ⟨c, hc, _⟩ := check_ev l q hf
    by_cases h0 : c = 0
    · subst h0
      have hd := check_doc hc hf
      obtain ⟨r, l', m, h1, h2⟩ := apply_good (q := q) hd e
      obtain ⟨r0, l0, m0, g1, g2⟩ := edit_good (q := q) hd 0 e
      by_cases hr : r0 = 0
      · subst hr
        have heff := (edit_eff hd g1).1
        have hap : Ev (fun k => dom_Apply.f k l q e.f0 e.f1 e.f2 e.f3 e.f4 e.f5 e.f6.f0 e.f6.f1 e.f6.f2 e.f6.f3 e.f6.f4 e.f6.f5) (l0, q, m0, 0) := by
          unfold dom_Apply.f
          refine Ev.bind (f := fun k c => if c = 0 then (if allOk l = true then (editF k l q 0 ⟨e.f0, e.f1, e.f2, e.f3, e.f4, e.f5, ⟨e.f6.f0, e.f6.f1, e.f6.f2, e.f6.f3, e.f6.f4, e.f6.f5⟩⟩).bind fun t => if t.1 = 0 then some (t.2.1, q, t.2.2, 0) else some ([], false, 0, t.1) else none) else some ([], false, 0, c)) hc (Ev.congr (fun k => (if_pos rfl).trans (if_pos hd.all)) ?_)
          refine Ev.bind (f := fun k t => if t.1 = 0 then some (t.2.1, q, t.2.2, 0) else some ([], false, 0, t.1)) g1 ?_
          exact Ev.congr (f := fun _ => some (l0, q, m0, 0)) (fun k => if_pos rfl) (Ev.now _)
        exact ⟨l0, q, m0, 0, hap, fun _ => ⟨rfl, hd, (g2 rfl).1, heff⟩⟩
      · have hap : Ev (fun k => dom_Apply.f k l q e.f0 e.f1 e.f2 e.f3 e.f4 e.f5 e.f6.f0 e.f6.f1 e.f6.f2 e.f6.f3 e.f6.f4 e.f6.f5) ([], false, 0, r0) := by
          unfold dom_Apply.f
          refine Ev.bind (f := fun k c => if c = 0 then (if allOk l = true then (editF k l q 0 ⟨e.f0, e.f1, e.f2, e.f3, e.f4, e.f5, ⟨e.f6.f0, e.f6.f1, e.f6.f2, e.f6.f3, e.f6.f4, e.f6.f5⟩⟩).bind fun t => if t.1 = 0 then some (t.2.1, q, t.2.2, 0) else some ([], false, 0, t.1) else none) else some ([], false, 0, c)) hc (Ev.congr (fun k => (if_pos rfl).trans (if_pos hd.all)) ?_)
          refine Ev.bind (f := fun k t => if t.1 = 0 then some (t.2.1, q, t.2.2, 0) else some ([], false, 0, t.1)) g1 ?_
          exact Ev.congr (f := fun _ => some ([], false, 0, r0)) (fun k => if_neg hr) (Ev.now _)
        exact ⟨[], false, 0, r0, hap, fun h => absurd h hr⟩
    · have hap : Ev (fun k => dom_Apply.f k l q e.f0 e.f1 e.f2 e.f3 e.f4 e.f5 e.f6.f0 e.f6.f1 e.f6.f2 e.f6.f3 e.f6.f4 e.f6.f5) ([], false, 0, c) := by
        unfold dom_Apply.f
        refine Ev.bind (f := fun k c => if c = 0 then (if allOk l = true then (editF k l q 0 ⟨e.f0, e.f1, e.f2, e.f3, e.f4, e.f5, ⟨e.f6.f0, e.f6.f1, e.f6.f2, e.f6.f3, e.f6.f4, e.f6.f5⟩⟩).bind fun t => if t.1 = 0 then some (t.2.1, q, t.2.2, 0) else some ([], false, 0, t.1) else none) else some ([], false, 0, c)) hc ?_
        exact Ev.congr (f := fun _ => some ([], false, 0, c)) (fun k => if_neg h0) (Ev.now _)
      exact ⟨[], false, 0, c, hap, fun h => absurd h h0⟩
  obtain ⟨l2, q2, made, er, hap, hgood⟩ := hA
  by_cases hs0 : se = 0
  · subst hs0
    obtain ⟨hg, ha, hbt, hle⟩ := hsd.1 rfl
    by_cases her : er = 0
    · subst her
      obtain ⟨rfl, hd, hd2, heff⟩ := hgood rfl
      obtain ⟨k1, k2, k3⟩ := range_stays hd heff ha hbt hle
      have m1 := moved_ev (q := q2) hd heff ha
      have m2 := moved_ev (q := q2) hd heff hbt
      obtain ⟨ce, hce, hcd⟩ := span_ev (q := q2) hd2.fit hd2.brief (movedP l e a s).1 (movedP l e a s).2 (movedP l e b t).1 (movedP l e b t).2
      have hce0 : ce = 0 := hcd.2 ⟨check_ok hd2 hd2.fit, k1, k2, k3⟩
      subst hce0
      refine ⟨l2, q2, made, 0, (movedP l e a s).1, (movedP l e a s).2, (movedP l e b t).1, (movedP l e b t).2, 0, hap, ?_, fun h => absurd rfl h, fun _ => ⟨rfl, hd2.fit, hd2.brief, ?_, fun e1 e2 => by subst e1 e2; exact ⟨rfl, rfl⟩⟩⟩
      · unfold span_After.f
        refine Ev.bind (f := fun k (bt : List S37 × Bool × Int) => if bt.2.2 = 0 then (dom_Apply.f k l q2 e.f0 e.f1 e.f2 e.f3 e.f4 e.f5 e.f6.f0 e.f6.f1 e.f6.f2 e.f6.f3 e.f6.f4 e.f6.f5).bind fun x => if x.2.2.2 = 0 then (span_ranger_moved.f k bt.1 bt.2.1 a s e.f0 e.f1 e.f2 e.f3 e.f4 e.f5 e.f6.f0 e.f6.f1 e.f6.f2 e.f6.f3 e.f6.f4 e.f6.f5).bind fun p => (span_ranger_moved.f k bt.1 bt.2.1 b t e.f0 e.f1 e.f2 e.f3 e.f4 e.f5 e.f6.f0 e.f6.f1 e.f6.f2 e.f6.f3 e.f6.f4 e.f6.f5).bind fun p2 => some (p.1, p.2, p2.1, p2.2, 0) else some (0, 0, 0, 0, x.2.2.2) else some (0, 0, 0, 0, bt.2.2)) hse (Ev.congr (fun k => if_pos rfl) ?_)
        refine Ev.bind (f := fun k (x : List S37 × Bool × Int × Int) => if x.2.2.2 = 0 then (span_ranger_moved.f k l q2 a s e.f0 e.f1 e.f2 e.f3 e.f4 e.f5 e.f6.f0 e.f6.f1 e.f6.f2 e.f6.f3 e.f6.f4 e.f6.f5).bind fun p => (span_ranger_moved.f k l q2 b t e.f0 e.f1 e.f2 e.f3 e.f4 e.f5 e.f6.f0 e.f6.f1 e.f6.f2 e.f6.f3 e.f6.f4 e.f6.f5).bind fun p2 => some (p.1, p.2, p2.1, p2.2, 0) else some (0, 0, 0, 0, x.2.2.2)) hap (Ev.congr (fun k => if_pos rfl) ?_)
        refine Ev.bind (f := fun k (p : Int × Int) => (span_ranger_moved.f k l q2 b t e.f0 e.f1 e.f2 e.f3 e.f4 e.f5 e.f6.f0 e.f6.f1 e.f6.f2 e.f6.f3 e.f6.f4 e.f6.f5).bind fun p2 => some (p.1, p.2, p2.1, p2.2, 0)) m1 ?_
        exact Ev.bind (f := fun k (p2 : Int × Int) => some ((movedP l e a s).1, (movedP l e a s).2, p2.1, p2.2, 0)) m2 (Ev.now _)
      · unfold span_Check.f
        exact Ev.bind (f := fun _ (bt : List S37 × Bool × Int) => some bt.2.2) hce (Ev.now _)
    · refine ⟨l2, q2, made, er, 0, 0, 0, 0, er, hap, ?_, fun _ => ⟨rfl, rfl, rfl, rfl⟩, fun h => absurd h her⟩
      unfold span_After.f
      refine Ev.bind (f := fun k (bt : List S37 × Bool × Int) => if bt.2.2 = 0 then (dom_Apply.f k l q e.f0 e.f1 e.f2 e.f3 e.f4 e.f5 e.f6.f0 e.f6.f1 e.f6.f2 e.f6.f3 e.f6.f4 e.f6.f5).bind fun x => if x.2.2.2 = 0 then (span_ranger_moved.f k bt.1 bt.2.1 a s e.f0 e.f1 e.f2 e.f3 e.f4 e.f5 e.f6.f0 e.f6.f1 e.f6.f2 e.f6.f3 e.f6.f4 e.f6.f5).bind fun p => (span_ranger_moved.f k bt.1 bt.2.1 b t e.f0 e.f1 e.f2 e.f3 e.f4 e.f5 e.f6.f0 e.f6.f1 e.f6.f2 e.f6.f3 e.f6.f4 e.f6.f5).bind fun p2 => some (p.1, p.2, p2.1, p2.2, 0) else some (0, 0, 0, 0, x.2.2.2) else some (0, 0, 0, 0, bt.2.2)) hse (Ev.congr (fun k => if_pos rfl) ?_)
      refine Ev.bind (f := fun k (x : List S37 × Bool × Int × Int) => if x.2.2.2 = 0 then (span_ranger_moved.f k l q a s e.f0 e.f1 e.f2 e.f3 e.f4 e.f5 e.f6.f0 e.f6.f1 e.f6.f2 e.f6.f3 e.f6.f4 e.f6.f5).bind fun p => (span_ranger_moved.f k l q b t e.f0 e.f1 e.f2 e.f3 e.f4 e.f5 e.f6.f0 e.f6.f1 e.f6.f2 e.f6.f3 e.f6.f4 e.f6.f5).bind fun p2 => some (p.1, p.2, p2.1, p2.2, 0) else some (0, 0, 0, 0, x.2.2.2)) hap ?_
      exact Ev.congr (f := fun _ => some (0, 0, 0, 0, er)) (fun k => if_neg her) (Ev.now _)
  · refine ⟨l2, q2, made, er, 0, 0, 0, 0, se, hap, ?_, fun _ => ⟨rfl, rfl, rfl, rfl⟩, fun h => absurd h hs0⟩
    unfold span_After.f
    refine Ev.bind (f := fun k (bt : List S37 × Bool × Int) => if bt.2.2 = 0 then (dom_Apply.f k l q e.f0 e.f1 e.f2 e.f3 e.f4 e.f5 e.f6.f0 e.f6.f1 e.f6.f2 e.f6.f3 e.f6.f4 e.f6.f5).bind fun x => if x.2.2.2 = 0 then (span_ranger_moved.f k bt.1 bt.2.1 a s e.f0 e.f1 e.f2 e.f3 e.f4 e.f5 e.f6.f0 e.f6.f1 e.f6.f2 e.f6.f3 e.f6.f4 e.f6.f5).bind fun p => (span_ranger_moved.f k bt.1 bt.2.1 b t e.f0 e.f1 e.f2 e.f3 e.f4 e.f5 e.f6.f0 e.f6.f1 e.f6.f2 e.f6.f3 e.f6.f4 e.f6.f5).bind fun p2 => some (p.1, p.2, p2.1, p2.2, 0) else some (0, 0, 0, 0, x.2.2.2) else some (0, 0, 0, 0, bt.2.2)) hse ?_
    exact Ev.congr (f := fun _ => some (0, 0, 0, 0, se)) (fun k => if_neg hs0) (Ev.now _)
end
end Go.Proofs.YtlgoaphdhgidoaaDoor.DocC
