/- The law SpanOrder, plainly: the printed function always comes to true. -/
import Derived.Test.YtonnokjkapkbjaaDoorDocS
namespace Go.Proofs.YtonnokjkapkbjaaDoor.DocC
open Go.RowKit Go.Proofs.YtonnokjkapkbjaaDoorW.PrintWords Go.Proofs.YtonnokjkapkbjaaDoor.PSO Go.Proofs.YtonnokjkapkbjaaDoor.DocP
set_option linter.unusedVariables false
theorem spanbegun_ev : Ev (fun k => clerestorykeep1_spanBegun.f k) true := Ev.of clerestorykeep1_spanBegun.mono (k := 60) (by kernel_rfl)
/-! ### brief -/
def cutT (x : S41) : S41 := ⟨x.f0, x.f1, x.f2, x.f3.extract 0 (mn (x.f3.size : Int) 30).toNat, x.f4, x.f5⟩
def briefL (l : List S41) : List S41 := (l.take (mn (l.length : Int) 25).toNat).map cutT
theorem some_f (a : ByteArray) : clerestorykeep1_some.f a 30 = some (a.extract 0 (mn (a.size : Int) 30).toNat) := by
  have : 0 ≤ mn (a.size : Int) 30 ∧ mn (a.size : Int) 30 ≤ a.size := by unfold mn; split <;> omega
  simp only [clerestorykeep1_some.f]
  rw [if_pos this.1, if_pos this.2]
theorem few_f (l : List S41) (q : Bool) : clerestorykeep1_few.f l q 25 = some (l.take (mn (l.length : Int) 25).toNat, q) := by
  have : 0 ≤ mn (l.length : Int) 25 ∧ mn (l.length : Int) 25 ≤ l.length := by unfold mn; split <;> omega
  simp only [clerestorykeep1_few.f]
  rw [if_pos this.1, if_pos this.2]
theorem brief_go (q : Bool) (t : List S41) : ∀ (m i : Nat) (x : List S41), x.length ≤ 1000 → i + m = x.length → Ev (fun k => clerestorykeep1_brief.l0 k x (i : Int) t q) (x.take i ++ (x.drop i).map cutT, q) := by
  intro m
  induction m with
  | zero =>
    intro i x hx hi
    rw [List.take_of_length_le (by omega), List.drop_eq_nil_of_le (by omega), List.map_nil, List.append_nil]
    refine Ev.step (f := fun _ => some (x, q)) (fun k => ?_) (Ev.now _)
    simp only [clerestorykeep1_brief.l0]
    rw [if_neg (by omega)]
  | succ m ih =>
    intro i x hx hi
    have hil : i < x.length := by omega
    have hr : rd_T41 x (i : Int) = x[i] := by unfold rd_T41; rw [Int.toNat_natCast, List.getD_eq_getElem?_getD, List.getElem?_eq_getElem hil]; rfl
    have h1 := ih (i + 1) (x.set i (cutT x[i])) (by simpa using hx) (by simp; omega)
    have e : (x.set i (cutT x[i])).take (i + 1) ++ ((x.set i (cutT x[i])).drop (i + 1)).map cutT = x.take i ++ (x.drop i).map cutT := by
      rw [List.drop_set_of_lt (by omega), List.drop_eq_getElem_cons hil, List.map_cons, List.take_succ_eq_append_getElem (by simpa using hil), List.getElem_set_self, List.take_set_of_le (by omega), List.append_assoc]
      rfl
    rw [e] at h1
    refine Ev.step (f := fun k => clerestorykeep1_brief.l0 k (x.set i (cutT x[i])) ((i + 1 : Nat) : Int) t q) (fun k => ?_) h1
    simp only [clerestorykeep1_brief.l0]
    rw [if_pos (by omega), if_pos (by omega), some_f, Option.bind_some, hr, Int.toNat_natCast, wrap_in (by omega)]
    rfl
theorem brief_ev (l : List S41) (q : Bool) : Ev (fun k => clerestorykeep1_brief.f k l q) (briefL l, q) := by
  have hlen : (l.take (mn (l.length : Int) 25).toNat).length ≤ 25 := by
    rw [List.length_take]
    have : mn (l.length : Int) 25 ≤ 25 := by unfold mn; split <;> omega
    omega
  have h := brief_go q (l.take (mn (l.length : Int) 25).toNat) (l.take (mn (l.length : Int) 25).toNat).length 0 (l.take (mn (l.length : Int) 25).toNat) (by omega) (by omega)
  rw [List.take_zero, List.drop_zero, List.nil_append] at h
  refine Ev.congr (fun k => ?_) h
  simp only [clerestorykeep1_brief.f, few_f, Option.bind_some]
  rw [if_pos (by simp only [List.length_nil]; omega)]
  rfl
theorem rd_brief (l : List S41) (i : Int) : (rd_T41 (briefL l) i).f5.length ≤ (rd_T41 l i).f5.length ∧ (rd_T41 (briefL l) i).f3.size ≤ 30 := by
  unfold rd_T41 briefL
  rw [List.getD_eq_getElem?_getD, List.getD_eq_getElem?_getD, List.getElem?_map, List.getElem?_take]
  split
  · cases h : l[i.toNat]? with
    | none => exact ⟨Nat.zero_le _, by decide⟩
    | some x =>
      refine ⟨Nat.le_refl _, ?_⟩
      show (x.f3.extract 0 (mn (x.f3.size : Int) 30).toNat).size ≤ 30
      have : mn (x.f3.size : Int) 30 ≤ 30 := by unfold mn; split <;> omega
      rw [ByteArray.size_extract]
      omega
  · exact ⟨Nat.zero_le _, by decide⟩
section
variable (l : List S41) (q : Bool)
theorem so_j1 (hf : Fit l) (hb : Brief l) (a s b t c u : Int) (hg : Good l q) (ha : OkP l a s) (hbt : OkP l b t) :
    Ev (fun k => clerestorykeep1_SpanOrder.j1 k (lexlt (pp l a s) (pp l b t)) false l q a s b t c u) true := by
  obtain ⟨z, g, h1, d1, d2, d3⟩ := less_ev l q hf hb b t c u
  obtain ⟨w, h, h2, f1, f2, f3⟩ := less_ev l q hf hb a s c u
  refine Ev.step (f := fun k => (span_Less.f k l q b t c u).bind fun bt => ((span_Less.f k l q a s c u).bind fun bt2 => ((clerestorykeep1_spanBegun.f k).bind fun t' => (if t' = true then (if bt.2 = 0 then (if bt2.2 = 0 then (if (lexlt (pp l a s) (pp l b t)) = true then (if bt.1 = true then (some bt2.1) else (some true)) else (some true)) else (some false)) else (some true)) else (some false))))) (fun k => ?_) ?_
  · show clerestorykeep1_SpanOrder.j1 (k + 1) _ false l q a s b t c u = _
    simp only [clerestorykeep1_SpanOrder.j1]
    rw [if_neg (by decide)]
  · refine Ev.bind (f := fun k (bt : Bool × Int) => ((span_Less.f k l q a s c u).bind fun bt2 => ((clerestorykeep1_spanBegun.f k).bind fun t' => (if t' = true then (if bt.2 = 0 then (if bt2.2 = 0 then (if (lexlt (pp l a s) (pp l b t)) = true then (if bt.1 = true then (some bt2.1) else (some true)) else (some true)) else (some false)) else (some true)) else (some false))))) h1 ?_
    refine Ev.bind (f := fun k (bt2 : Bool × Int) => ((clerestorykeep1_spanBegun.f k).bind fun t' => (if t' = true then (if g = 0 then (if bt2.2 = 0 then (if (lexlt (pp l a s) (pp l b t)) = true then (if z = true then (some bt2.1) else (some true)) else (some true)) else (some false)) else (some true)) else (some false)))) h2 ?_
    refine Ev.bind (f := fun _ t' => (if t' = true then (if g = 0 then (if h = 0 then (if (lexlt (pp l a s) (pp l b t)) = true then (if z = true then (some w) else (some true)) else (some true)) else (some false)) else (some true)) else (some false))) spanbegun_ev ?_
    refine Ev.congr (f := fun _ => some true) (fun k => ?_) (Ev.now true)
    rw [if_pos rfl]
    by_cases hg0 : g = 0
    · rw [if_pos hg0]
      have hc := (d1.1 hg0).2.2
      have hh := f1.2 ⟨hg, ha, hc⟩
      rw [if_pos hh]
      cases hx : lexlt (pp l a s) (pp l b t) with
      | false => rw [if_neg (by decide)]
      | true =>
        rw [if_pos rfl]
        cases hz : z with
        | false => rw [if_neg (by decide)]
        | true =>
          rw [if_pos rfl, f2 hh, lexlt_trans _ _ _ hx ((d2 hg0).symm.trans hz)]
    · rw [if_neg hg0]
theorem SpanOrder_L (a s b t c u : Int) (hf : Fit l) (hb : Brief l) : Ev (fun k => (span_Less.f k l q a s b t).bind fun bt => ((span_Less.f k l q b t a s).bind fun bt2 => (if bt.2 = 0 then (clerestorykeep1_SpanOrder.j0 k bt.1 bt2.1 (bt2.2 != 0) l q a s b t c u) else (clerestorykeep1_SpanOrder.j0 k bt.1 bt2.1 true l q a s b t c u)))) true := by
  obtain ⟨x, e, h1, d1, d2, d3⟩ := less_ev l q hf hb a s b t
  obtain ⟨y, f, h2, f1, f2, f3⟩ := less_ev l q hf hb b t a s
  have hbad : ∀ b1 : Bool, x = false → y = false → Ev (fun k => clerestorykeep1_SpanOrder.j0 k x y true l q a s b t c u) true := fun b1 hx hy => by
    refine Ev.step (f := fun k => (clerestorykeep1_spanBegun.f k).bind fun t' => (if t' = true then (if x = true then (some false) else (some (!y))) else (some false))) (fun k => ?_) (Ev.bind (f := fun _ t' => (if t' = true then (if x = true then (some false) else (some (!y))) else (some false))) spanbegun_ev (Ev.congr (f := fun _ => some true) (fun k => by rw [hx, hy]; rfl) (Ev.now true)))
    show clerestorykeep1_SpanOrder.j0 (k + 1) x y true l q a s b t c u = _
    simp only [clerestorykeep1_SpanOrder.j0]
    rw [if_pos trivial]
  refine Ev.bind (f := fun k (bt : Bool × Int) => ((span_Less.f k l q b t a s).bind fun bt2 => (if bt.2 = 0 then (clerestorykeep1_SpanOrder.j0 k bt.1 bt2.1 (bt2.2 != 0) l q a s b t c u) else (clerestorykeep1_SpanOrder.j0 k bt.1 bt2.1 true l q a s b t c u)))) h1 ?_
  refine Ev.bind (f := fun k (bt2 : Bool × Int) => (if e = 0 then (clerestorykeep1_SpanOrder.j0 k x bt2.1 (bt2.2 != 0) l q a s b t c u) else (clerestorykeep1_SpanOrder.j0 k x bt2.1 true l q a s b t c u))) h2 ?_
  by_cases he : e = 0
  · obtain ⟨hg, ha, hbt⟩ := d1.1 he
    have hf0 := f1.2 ⟨hg, hbt, ha⟩
    have hx := d2 he
    have hy := f2 hf0
    have hw := (hg.wf hf).2
    have hne : (x != y) = (!(a == b) || (!(s == t))) := by
      by_cases hab : a = b ∧ s = t
      · obtain ⟨rfl, rfl⟩ := hab
        rw [hx, hy, lexlt_irr]
        simp
      · have hpp : pp l a s ≠ pp l b t := fun h => hab (pp_inj l hw ha hbt h)
        have hr : (!(a == b) || (!(s == t))) = true := by
          by_cases h1 : a = b
          · have : s ≠ t := fun h => hab ⟨h1, h⟩
            simp [this]
          · simp [h1]
        rw [hr, hx, hy]
        rcases lexlt_total _ _ hpp with h | h
        · rw [h, lexlt_asym _ _ h]; rfl
        · rw [h, lexlt_asym _ _ h]; rfl
    have hxy : x = true → y = false := fun h => by rw [hy]; exact lexlt_asym _ _ (hx ▸ h)
    refine Ev.congr (f := fun k => clerestorykeep1_SpanOrder.j0 k x y false l q a s b t c u) (fun k => by rw [if_pos he, hf0]; rfl) ?_
    refine Ev.step (f := fun k => clerestorykeep1_SpanOrder.j1 k (lexlt (pp l a s) (pp l b t)) false l q a s b t c u) (fun k => ?_) (so_j1 l q hf hb a s b t c u hg ha hbt)
    show clerestorykeep1_SpanOrder.j0 (k + 1) x y false l q a s b t c u = _
    simp only [clerestorykeep1_SpanOrder.j0]
    rw [if_neg (by decide), hne, if_neg (by simp), ← hx]
    cases hxe : x with
    | true => rw [if_pos rfl, hxy hxe]
    | false => rw [if_neg (by decide)]
  · have hf0 : f ≠ 0 := fun h => he (d1.2 (by obtain ⟨h3, h4, h5⟩ := f1.1 h; exact ⟨h3, h5, h4⟩))
    exact Ev.congr (fun k => by rw [if_neg he]) (hbad true (d3 he) (f3 hf0))
end
theorem SpanOrder_ev (l : List S41) (q : Bool) (a s b t c u : Int) (hf : Fit l) : ∃ k, clerestorykeep1_SpanOrder.f k l q a s b t c u = some true := by
  have hf' : Fit (briefL l) := fun i => Nat.le_trans (rd_brief l i).1 (hf i)
  have hb : Brief (briefL l) := fun i => by have := (rd_brief l i).2; omega
  obtain ⟨K, h⟩ := Ev.bind (f := fun k (bt : List S41 × Bool) => (span_Less.f k bt.1 bt.2 a s b t).bind fun bt1 => ((span_Less.f k bt.1 bt.2 b t a s).bind fun bt2 => (if bt1.2 = 0 then (clerestorykeep1_SpanOrder.j0 k bt1.1 bt2.1 (bt2.2 != 0) bt.1 bt.2 a s b t c u) else (clerestorykeep1_SpanOrder.j0 k bt1.1 bt2.1 true bt.1 bt.2 a s b t c u)))) (brief_ev l q) (SpanOrder_L (briefL l) q a s b t c u hf' hb)
  exact ⟨K, h K (Nat.le_refl _)⟩
end Go.Proofs.YtonnokjkapkbjaaDoor.DocC
