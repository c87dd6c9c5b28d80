/- dom.Apply of a document that is right. -/
import Derived.Test.YthfalaabfgpjmaaDoorDocJ
namespace Go.Proofs.YthfalaabfgpjmaaDoor.DocC
open Go.RowKit Go.Proofs.YthfalaabfgpjmaaDoorW.PrintWords Go.Proofs.YthfalaabfgpjmaaDoor.PAP Go.Proofs.YthfalaabfgpjmaaDoor.DocP
set_option linter.unusedVariables false
set_option linter.unusedSimpArgs false
section
variable {l : List S28} {q : Bool}
theorem apply_good (h : DocOk l) (e : S30) : ∃ r l' m, Ev (fun k => dom_Apply.f k l q e.f0 e.f1 e.f2 e.f3 e.f4 e.f5 e.f6.f0 e.f6.f1 e.f6.f2 e.f6.f3 e.f6.f4 e.f6.f5) (if r = 0 then (l', q, m, 0) else ([], false, 0, r)) ∧ (r = 0 → DocOk l' ∧ Keeps l l' ∧ ((m = 0 ∧ l'.length = l.length) ∨ (m = (l.length : Int) ∧ l'.length = l.length + 1))) := by
  obtain ⟨r, l', m, h1, h2⟩ := edit_good (q := q) h 0 e
  refine ⟨r, l', m, ?_, h2⟩
  unfold dom_Apply.f
  refine Ev.bind (f := fun k c => if c = 0 then (if allOk l = true then (editF k l q 0 ⟨e.f0, e.f1, e.f2, e.f3, e.f4, e.f5, ⟨e.f6.f0, e.f6.f1, e.f6.f2, e.f6.f3, e.f6.f4, e.f6.f5⟩⟩).bind fun t => if t.1 = 0 then some (t.2.1, q, t.2.2, 0) else some ([], false, 0, t.1) else none) else some ([], false, 0, c)) (check_ok h h.fit) (Ev.congr (fun k => (if_pos rfl).trans (if_pos h.all)) ?_)
  refine Ev.bind (f := fun k t => if t.1 = 0 then some (t.2.1, q, t.2.2, 0) else some ([], false, 0, t.1)) h1 ?_
  by_cases hr : r = 0
  · subst hr
    exact Ev.now _
  · simp only [if_neg hr]
    exact Ev.now _
end
end Go.Proofs.YthfalaabfgpjmaaDoor.DocC
