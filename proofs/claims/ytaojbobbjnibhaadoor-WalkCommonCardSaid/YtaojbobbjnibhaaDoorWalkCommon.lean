/- The law WalkCommon, plainly: the printed function always comes to true. -/
import Derived.Test.YtaojbobbjnibhaaDoorDocF
import Derived.Test.YtaojbobbjnibhaaDoorDocQ
namespace Go.Proofs.YtaojbobbjnibhaaDoor.DocC
open Go.RowKit Go.Proofs.YtaojbobbjnibhaaDoorW.PrintWords Go.Proofs.YtaojbobbjnibhaaDoor.PCM Go.Proofs.YtaojbobbjnibhaaDoor.DocP
set_option linter.unusedVariables false

theorem few_some' (l : List S35) (q : Bool) : clerestorykeep1_few.f l q 60 = some (l.take (mn (l.length : Int) 60).toNat, q) := by
  have : 0 ≤ mn (l.length : Int) 60 ∧ mn (l.length : Int) 60 ≤ l.length := by unfold mn; split <;> omega
  simp only [clerestorykeep1_few.f]
  rw [if_pos this.1, if_pos this.2]
theorem ix_ge {xs : List Int} {x : Int} : 0 ≤ ix xs x ↔ x ∈ xs := by
  unfold ix
  cases h : xs.findIdx? (· == x) with
  | none =>
    rw [List.findIdx?_eq_none_iff] at h
    constructor
    · intro h; exact absurd h (by decide)
    · intro hx; have := h x hx; simp at this
  | some i =>
    rw [List.findIdx?_eq_some_iff_getElem] at h
    obtain ⟨hi, he, _⟩ := h
    have : xs[i] = x := by simpa using he
    exact ⟨fun _ => this ▸ List.getElem_mem hi, fun _ => Int.natCast_nonneg i⟩
/-- What two ways share. -/
theorem go_spec : ∀ (ps qs : List Int) (m : Int), ∃ s p' q', ps = s ++ p' ∧ qs = s ++ q' ∧ walk_Common.go (some m) ps qs = some (s.getLastD m) ∧ walk_Common.go (some m) qs ps = some (s.getLastD m) ∧ (∀ k, p'.head? = some k → q'.head? = some k → False)
  | [], qs, m => ⟨[], [], qs, rfl, rfl, by cases qs <;> rfl, by cases qs <;> rfl, by simp⟩
  | x :: ps, [], m => ⟨[], x :: ps, [], rfl, rfl, rfl, rfl, by simp⟩
  | x :: ps, y :: qs, m => by
    by_cases e : x = y
    · subst e
      obtain ⟨s, p', q', h1, h2, h3, h4, h5⟩ := go_spec ps qs x
      refine ⟨x :: s, p', q', by rw [h1]; rfl, by rw [h2]; rfl, ?_, ?_, h5⟩
      · simp only [walk_Common.go, if_true]; rw [h3, List.getLastD_cons]
      · simp only [walk_Common.go, if_true]; rw [h4, List.getLastD_cons]
    · refine ⟨[], x :: ps, y :: qs, rfl, rfl, ?_, ?_, ?_⟩
      · simp only [walk_Common.go]; rw [if_neg e]; rfl
      · simp only [walk_Common.go]; rw [if_neg (fun h => e h.symm)]; rfl
      · intro k h1 h2
        simp at h1 h2
        exact e (h1.trans h2.symm)
theorem go_prefix : ∀ (s t : List Int) (m : Int), walk_Common.go (some m) (s ++ t) s = some (s.getLastD m)
  | [], t, m => by cases t <;> rfl
  | x :: s, t, m => by
    rw [List.cons_append]
    simp only [walk_Common.go, if_true]
    rw [go_prefix s t x, List.getLastD_cons]
section
variable {n : Nat} {par : Int → Int} {kids : Int → List Int}
theorem pathL_len (par : Int → Int) : ∀ d a, (pathL par d a).length = d + 1
  | 0, a => rfl
  | d + 1, a => by simp only [pathL]; rw [List.length_append, pathL_len par d, List.length_singleton]
theorem pathL_dep : ∀ (d : Nat) (a : Int), Dep par a d → ∀ (j : Nat) (hj : j < (pathL par d a).length), Dep par (pathL par d a)[j] j
  | 0, a, hd, j, hj => by
    have : j = 0 := by rw [pathL_len] at hj; omega
    subst this
    exact hd
  | d + 1, a, hd, j, hj => by
    cases hd with
    | up hp hd' =>
      by_cases h : j < (pathL par d (par a)).length
      · have e : (pathL par (d + 1) a)[j] = (pathL par d (par a))[j] := List.getElem_append_left h
        rw [e]
        exact pathL_dep d (par a) hd' j h
      · have hj' : j = d + 1 := by rw [pathL_len] at hj h; omega
        subst hj'
        have e : (pathL par (d + 1) a)[d + 1] = a := by
          simp only [pathL]
          rw [List.getElem_append_right (by rw [pathL_len]; omega)]
          simp [pathL_len]
        rw [e]
        exact .up hp hd'
theorem pathL_mem (h : WF n par kids) : ∀ (d : Nat) (a : Int), In n a → Dep par a d → ∀ x ∈ pathL par d a, In n x ∧ (Rt par x ↔ Rt par a)
  | 0, a, ha, _, x, hx => by rw [show x = a from by simpa [pathL] using hx]; exact ⟨ha, Iff.rfl⟩
  | d + 1, a, ha, hd, x, hx => by
    simp only [pathL, List.mem_append, List.mem_singleton] at hx
    rcases hx with hx | rfl
    · cases hd with
      | up hp hd =>
        obtain ⟨h1, h2⟩ := pathL_mem h d (par a) (WFin h ha hp) hd x hx
        exact ⟨h1, h2.trans (Rt_par hp)⟩
    · exact ⟨ha, Iff.rfl⟩
theorem pathL_pre : ∀ (d : Nat) (a b : Int) (db : Nat), Dep par a d → Dep par b db → b ∈ pathL par d a → ∃ t, pathL par d a = pathL par db b ++ t
  | 0, a, b, db, hd, hb, hm => by
    have : b = a := by simpa [pathL] using hm
    subst this
    rw [hb.fn hd]
    exact ⟨[], by simp⟩
  | d + 1, a, b, db, hd, hb, hm => by
    simp only [pathL, List.mem_append, List.mem_singleton] at hm
    rcases hm with hm | rfl
    · cases hd with
      | up hp hd =>
        obtain ⟨t, ht⟩ := pathL_pre d (par a) b db hd hb hm
        exact ⟨t ++ [a], by simp only [pathL]; rw [ht, List.append_assoc]⟩
    · rw [hb.fn hd]
      exact ⟨[], by simp⟩
/-- A node of the tree, with the way to it. -/
structure Nd (n : Nat) (par : Int → Int) (kids : Int → List Int) (a : Int) (d : Nat) (t : List Int) : Prop where
  in_ : In n a
  rt : Rt par a
  dep : Dep par a d
  le : d ≤ 40
  path : pathL par d a = 0 :: t
  last : t.getLastD 0 = a
theorem nd_of (h : WF n par kids) {a : Int} (ha : In n a) (hr : Rt par a) : ∃ d t, Nd n par kids a d t := by
  obtain ⟨d, h40, hd⟩ := h.dep a ha.1 ha.2
  obtain ⟨r, t, e, _, _, hl⟩ := h.path_way d a ha hd
  have er : r = 0 := by
    obtain ⟨d', hd', e'⟩ := hr
    rw [hd'.fn hd, e] at e'
    simpa using e'
  subst er
  exact ⟨d, t, ha, hr, hd, h40, e, hl⟩
theorem getLastD_mem : ∀ (s : List Int) (m : Int), s.getLastD m ∈ m :: s
  | [], m => by simp
  | x :: s, m => by rw [List.getLastD_cons]; exact List.mem_cons_of_mem _ (getLastD_mem s x)
end

section
variable (l : List S35) (q : Bool)
theorem ways_val (hw : WF l.length (par l) (kids l)) : ∀ ns : List Int, (∀ a ∈ ns, In l.length a) → ∃ r, Ev (fun k => walk_check.ways k l q ns) r ∧ (r = 0 ↔ ∀ a ∈ ns, Rt (par l) a) := ways_ev l q hw
theorem check_ok (hg : Good l q) (hf : Fit l) {a b : Int} (ha : In l.length a) (hra : Rt (par l) a) (hb : In l.length b) (hrb : Rt (par l) b) : Ev (fun k => walk_check.f k l q [a, b]) 0 := by
  obtain ⟨r, hr, hd⟩ := wcheck_ev l q hf [a, b]
  have : r = 0 := hd.2 ⟨hg, fun x hx => by
    simp only [List.mem_cons, List.mem_nil_iff, or_false] at hx
    rcases hx with rfl | rfl
    · exact ⟨ha, hra⟩
    · exact ⟨hb, hrb⟩⟩
  rw [this] at hr
  exact hr
theorem within_ev (hg : Good l q) (hf : Fit l) {a b : Int} (ha : In l.length a) (hra : Rt (par l) a) (hb : In l.length b) (hrb : Rt (par l) b) {d : Nat} {t : List Int} (hn : Nd l.length (par l) (kids l) a d t) :
    Ev (fun k => walk_Within.f k l q a b) (decide (b ∈ 0 :: t), 0) := by
  obtain ⟨_, hw⟩ := hg.wf hf
  have hp := path_ev l q hw ha hn.dep hn.le
  rw [hn.path] at hp
  have hlen : (0 :: t).length ≤ 9223372036854775807 := by
    have := pathL_len (par l) d a
    rw [hn.path] at this
    have := hn.le
    omega
  have hi := index_ev (0 :: t) b hlen
  have hc : Ev (fun k => slices_Contains_int_int.f k (0 :: t) b) (decide (b ∈ 0 :: t)) :=
    Ev.bind (f := fun _ x => some (decide (x ≥ 0))) hi (Ev.congr (f := fun _ => some (decide (b ∈ 0 :: t))) (fun k => by
      congr 1
      exact decide_eq_decide.2 ix_ge) (Ev.now _))
  exact Ev.bind (f := fun k e => if e = 0 then (walk_walker_path.f k l q a).bind fun pa => (slices_Contains_int_int.f k pa.1 b).bind fun r => some (r, (0 : Int)) else some (false, e)) (check_ok l q hg hf ha hra hb hrb)
    (Ev.congr (f := fun k => (walk_walker_path.f k l q a).bind fun pa => (slices_Contains_int_int.f k pa.1 b).bind fun r => some (r, (0 : Int))) (fun k => by rw [if_pos rfl]) (Ev.bind (f := fun k (pa : List Int × Bool) => (slices_Contains_int_int.f k pa.1 b).bind fun r => some (r, (0 : Int))) hp (Ev.bind (f := fun _ r => some (r, (0 : Int))) hc (Ev.now _))))
theorem common_ev (hg : Good l q) (hf : Fit l) {a b : Int} {da db : Nat} {ta tb : List Int} (ha : Nd l.length (par l) (kids l) a da ta) (hb : Nd l.length (par l) (kids l) b db tb) {c : Int} (hc : walk_Common.go (some 0) ta tb = some c) :
    Ev (fun k => walk_Common.f k l q a b) (c, 0) := by
  obtain ⟨_, hw⟩ := hg.wf hf
  have pa := path_ev l q hw ha.in_ ha.dep ha.le
  have pb := path_ev l q hw hb.in_ hb.dep hb.le
  rw [ha.path] at pa
  rw [hb.path] at pb
  exact Ev.bind (f := fun k e => if e = 0 then (walk_walker_path.f k l q a).bind fun pa => (walk_walker_path.f k l q b).bind fun pb => (walk_Common.go none pa.1 pb.1).bind fun r => some (r, (0 : Int)) else some (0, e)) (check_ok l q hg hf ha.in_ ha.rt hb.in_ hb.rt)
    (Ev.congr (f := fun k => (walk_walker_path.f k l q a).bind fun pa => (walk_walker_path.f k l q b).bind fun pb => (walk_Common.go none pa.1 pb.1).bind fun r => some (r, (0 : Int))) (fun k => by rw [if_pos rfl])
      (Ev.bind (f := fun k (pa : List Int × Bool) => (walk_walker_path.f k l q b).bind fun pb => (walk_Common.go none pa.1 pb.1).bind fun r => some (r, (0 : Int))) pa (Ev.bind (f := fun _ (pb : List Int × Bool) => (walk_Common.go none (0 :: ta) pb.1).bind fun r => some (r, (0 : Int))) pb
        (Ev.congr (f := fun _ => some (c, 0)) (fun k => by simp only [walk_Common.go, if_true]; rw [hc]; rfl) (Ev.now _)))))
theorem common_l0 (hg : Good l q) (hf : Fit l) {a b c : Int} (hfin : Ev (fun k => (walk_Within.f k l q a b).bind fun bt229 => ((clerestorykeep1_walkBegun.f k).bind fun t231 => (if t231 = true then (if bt229.2 = 0 then (some (bt229.1 == (c == b))) else (some false)) else (some false)))) true)
    (hk : ∀ x ∈ kids l c, ∃ p r, Ev (fun k => walk_Within.f k l q a x) (p, 0) ∧ Ev (fun k => walk_Within.f k l q b x) (r, 0) ∧ ¬ (p = true ∧ r = true)) :
    ∀ (m' i : Nat), i + m' = (kids l c).length → Ev (fun k => clerestorykeep1_WalkCommon.l0 k a b c (kids l c) ((kids l c).length : Int) (i : Int) l q) true := by
  have hfc := hf c
  intro m'
  induction m' with
  | zero =>
    intro i hi
    exact Ev.step (fun k => by simp only [clerestorykeep1_WalkCommon.l0]; rw [if_neg (by omega)]) hfin
  | succ m' ih =>
    intro i hi
    have hil : i < (kids l c).length := by omega
    have hr : rd (kids l c) (i : Int) = (kids l c)[i] := by unfold rd; rw [Int.toNat_natCast, List.getD_eq_getElem?_getD, List.getElem?_eq_getElem hil]; rfl
    obtain ⟨p, r, h1, h2, h3⟩ := hk _ (List.getElem_mem hil)
    have hrest := ih (i + 1) (by omega)
    refine Ev.step (f := fun k => (walk_Within.f k l q a (kids l c)[i]).bind fun bt233 => ((walk_Within.f k l q b (kids l c)[i]).bind fun bt235 => (if bt233.2 = 0 then (if bt235.2 = 0 then (if bt233.1 = true then (if bt235.1 = true then (some false) else (clerestorykeep1_WalkCommon.l0 k a b c (kids l c) ((kids l c).length : Int) (wrap64 ((i : Int) + 1)) l q)) else (clerestorykeep1_WalkCommon.l0 k a b c (kids l c) ((kids l c).length : Int) (wrap64 ((i : Int) + 1)) l q)) else (some false)) else (some false)))) (fun k => by simp only [clerestorykeep1_WalkCommon.l0]; rw [if_pos (by omega), if_pos (by omega), if_pos (by omega), hr]) ?_
    refine Ev.bind (f := fun k (bt233 : Bool × Int) => ((walk_Within.f k l q b (kids l c)[i]).bind fun bt235 => (if bt233.2 = 0 then (if bt235.2 = 0 then (if bt233.1 = true then (if bt235.1 = true then (some false) else (clerestorykeep1_WalkCommon.l0 k a b c (kids l c) ((kids l c).length : Int) (wrap64 ((i : Int) + 1)) l q)) else (clerestorykeep1_WalkCommon.l0 k a b c (kids l c) ((kids l c).length : Int) (wrap64 ((i : Int) + 1)) l q)) else (some false)) else (some false)))) h1 ?_
    refine Ev.bind (f := fun k (bt235 : Bool × Int) => (if (0 : Int) = 0 then (if bt235.2 = 0 then (if p = true then (if bt235.1 = true then (some false) else (clerestorykeep1_WalkCommon.l0 k a b c (kids l c) ((kids l c).length : Int) (wrap64 ((i : Int) + 1)) l q)) else (clerestorykeep1_WalkCommon.l0 k a b c (kids l c) ((kids l c).length : Int) (wrap64 ((i : Int) + 1)) l q)) else (some false)) else (some false))) h2 (Ev.congr (fun k => ?_) hrest)
    simp only [if_true]
    rw [wrap_in (by omega)]
    cases p with
    | false => rfl
    | true =>
      cases r with
      | false => rfl
      | true => exact absurd ⟨rfl, rfl⟩ h3
theorem WalkCommon_L (a b : Int) (hf : Fit l) : ∃ c e, Ev (fun k => walk_Common.f k l q a b) (c, e) ∧ ((e ≠ 0 ∧ c = 0) ∨ (e = 0 ∧
    Ev (fun k => walk_Within.f k l q a c) (true, 0) ∧ Ev (fun k => walk_Within.f k l q b c) (true, 0) ∧ Ev (fun k => walk_Common.f k l q b a) (c, 0) ∧ 0 ≤ c ∧ c < l.length ∧
    (∀ x ∈ kids l c, ∃ p r, Ev (fun k => walk_Within.f k l q a x) (p, 0) ∧ Ev (fun k => walk_Within.f k l q b x) (r, 0) ∧ ¬ (p = true ∧ r = true)) ∧
    Ev (fun k => walk_Within.f k l q a b) (c == b, 0) ∧ Good l q)) := by
  obtain ⟨e, he, hd⟩ := wcheck_ev l q hf [a, b]
  by_cases h0 : e = 0
  · obtain ⟨hg, hin⟩ := hd.1 h0
    obtain ⟨_, hw⟩ := hg.wf hf
    obtain ⟨hia, hra⟩ := hin a (by simp)
    obtain ⟨hib, hrb⟩ := hin b (by simp)
    obtain ⟨da, ta, na⟩ := nd_of hw hia hra
    obtain ⟨db, tb, nb⟩ := nd_of hw hib hrb
    obtain ⟨s, p', q', e1, e2, g1, g2, hmax⟩ := go_spec ta tb 0
    obtain ⟨c, hc⟩ : ∃ c, s.getLastD 0 = c := ⟨_, rfl⟩
    rw [hc] at g1 g2
    have hca : c ∈ 0 :: ta := by
      rw [e1, ← List.cons_append, ← hc]
      exact List.mem_append_left _ (getLastD_mem s 0)
    have hcb : c ∈ 0 :: tb := by
      rw [e2, ← List.cons_append, ← hc]
      exact List.mem_append_left _ (getLastD_mem s 0)
    obtain ⟨hic, hrc'⟩ := pathL_mem hw da a hia na.dep c (by rw [na.path]; exact hca)
    have hrc := hrc'.2 hra
    -- how deep the common node lies
    have hdc : Dep (par l) c s.length := by
      have hlt : s.length < (pathL (par l) da a).length := by rw [na.path, e1]; simp; omega
      have h1 := pathL_dep da a na.dep s.length hlt
      have e3 : (pathL (par l) da a)[s.length] = c := by
        have : (pathL (par l) da a)[s.length]? = some c := by
          rw [na.path, e1, ← hc]
          cases s with
          | nil => rfl
          | cons x s =>
            simp [List.getLastD_eq_getLast?, List.getLast?_eq_getElem?]
            rw [← List.cons_append, List.getElem?_append_left (by simp), List.getElem?_eq_getElem (by simp)]
        rw [List.getElem?_eq_getElem hlt] at this
        exact Option.some.inj this
      rw [e3] at h1
      exact h1
    have hkid : ∀ (u : Int) (du : Nat) (tu p : List Int), Nd l.length (par l) (kids l) u du tu → tu = s ++ p → ∀ x ∈ kids l c, x ∈ 0 :: tu → p.head? = some x := by
      intro u du tu p hu eu x hx hm
      obtain ⟨hix, hpx⟩ := hw.kid_in hic hx
      have hdx : Dep (par l) x (s.length + 1) := .up (by rw [hpx]; exact hic.1) (by rw [hpx]; exact hdc)
      rw [← hu.path] at hm
      obtain ⟨j, hj, ej⟩ := List.mem_iff_getElem.1 hm
      have h1 := pathL_dep du u hu.dep j hj
      rw [ej] at h1
      have := h1.fn hdx
      subst this
      have h2 : (pathL (par l) du u)[s.length + 1]? = some x := by rw [List.getElem?_eq_getElem hj, ej]
      rw [hu.path, eu] at h2
      rw [List.getElem?_cons_succ, List.getElem?_append_right (Nat.le_refl _), Nat.sub_self] at h2
      rw [List.head?_eq_getElem?]
      exact h2
    refine ⟨c, 0, common_ev l q hg hf na nb g1, .inr ⟨rfl, ?_, ?_, common_ev l q hg hf nb na g2, hic.1, hic.2, ?_, ?_, hg⟩⟩
    · have := within_ev l q hg hf hia hra hic hrc na
      rwa [decide_eq_true hca] at this
    · have := within_ev l q hg hf hib hrb hic hrc nb
      rwa [decide_eq_true hcb] at this
    · intro x hx
      obtain ⟨hix, hpx⟩ := hw.kid_in hic hx
      have hrx : Rt (par l) x := (Rt_kid hw hic hx).2 hrc
      refine ⟨_, _, within_ev l q hg hf hia hra hix hrx na, within_ev l q hg hf hib hrb hix hrx nb, fun ⟨h1, h2⟩ => ?_⟩
      exact hmax x (hkid a da ta p' na e1 x hx (of_decide_eq_true h1)) (hkid b db tb q' nb e2 x hx (of_decide_eq_true h2))
    · have h1 := within_ev l q hg hf hia hra hib hrb na
      have h2 : decide (b ∈ 0 :: ta) = (c == b) := by
        by_cases hcb' : c = b
        · rw [hcb'] at hca ⊢
          rw [decide_eq_true hca]; simp
        · rw [show (c == b) = false from by simpa using hcb']
          refine decide_eq_false fun hm => hcb' ?_
          rw [← na.path] at hm
          obtain ⟨t, ht⟩ := pathL_pre da a b db na.dep nb.dep hm
          rw [na.path, nb.path, List.cons_append] at ht
          injection ht with _ ht
          have h3 := go_prefix tb t 0
          rw [← ht, g1, nb.last] at h3
          exact Option.some.inj h3
      rwa [h2] at h1
  · exact ⟨0, e, Ev.bind (f := fun k e => if e = 0 then (walk_walker_path.f k l q a).bind fun pa => (walk_walker_path.f k l q b).bind fun pb => (walk_Common.go none pa.1 pb.1).bind fun r => some (r, (0 : Int)) else some (0, e)) he (Ev.congr (f := fun _ => some (0, e)) (fun k => by rw [if_neg h0]) (Ev.now _)), .inl ⟨h0, rfl⟩⟩
end
theorem WalkCommon_ev (l : List S35) (q : Bool) (a b : Int) (hf : Fit (l.take (mn (l.length : Int) 60).toNat)) : ∃ k, clerestorykeep1_WalkCommon.f k l q a b = some true := by
  have hfew := few_some' l q
  generalize l.take (mn (l.length : Int) 60).toNat = L at hf hfew
  obtain ⟨c, e, h1, h2⟩ := WalkCommon_L L q a b hf
  obtain ⟨K1, h1⟩ := h1
  obtain ⟨K2, hb⟩ := begun_ev
  rcases h2 with ⟨he, hc⟩ | ⟨he, w1, w2, c2, c0, cl, hk, w3, hg⟩
  · refine ⟨K1 + K2, ?_⟩
    have e1 : walk_Common.f (K1 + K2) L q a b = some (c, e) := h1 _ (by omega)
    have e2 : clerestorykeep1_walkBegun.f (K1 + K2) = some true := hb _ (by omega)
    simp only [clerestorykeep1_WalkCommon.f, hfew, Option.bind_some, e1, e2]
    rw [if_neg he, if_pos trivial, hc]; rfl
  · have hl0 := common_l0 L q hg hf (a := a) (b := b) (c := c) (Ev.bind (f := fun k (bt229 : Bool × Int) => ((clerestorykeep1_walkBegun.f k).bind fun t231 => (if t231 = true then (if bt229.2 = 0 then (some (bt229.1 == (c == b))) else (some false)) else (some false)))) w3 (Ev.bind (f := fun _ t231 => (if t231 = true then (if (0 : Int) = 0 then (some ((c == b) == (c == b))) else (some false)) else (some false))) begun_ev (Ev.congr (f := fun _ => some true) (fun k => by rw [if_pos rfl, if_pos rfl]; simp) (Ev.now true)))) hk (kids L c).length 0 (by omega)
    obtain ⟨K3, w1⟩ := w1
    obtain ⟨K4, w2⟩ := w2
    obtain ⟨K5, c2⟩ := c2
    obtain ⟨K6, hl0⟩ := hl0
    obtain ⟨K, hK⟩ : ∃ K, K = K1 + K2 + K3 + K4 + K5 + K6 := ⟨_, rfl⟩
    refine ⟨K + 1, ?_⟩
    have e1 : walk_Common.f (K + 1) L q a b = some (c, e) := h1 _ (by omega)
    have e3 : walk_Within.f (K + 1) L q a c = some (true, 0) := w1 _ (by omega)
    have e4 : walk_Within.f (K + 1) L q b c = some (true, 0) := w2 _ (by omega)
    have e5 : walk_Common.f (K + 1) L q b a = some (c, 0) := c2 _ (by omega)
    have e6 : clerestorykeep1_WalkCommon.l0 K a b c (kids L c) ((kids L c).length : Int) 0 L q = some true := hl0 _ (by omega)
    simp only [clerestorykeep1_WalkCommon.f, hfew, Option.bind_some, e1, e3, e4, e5, if_true]
    rw [if_pos he, show (c != c) = false from by simp]
    simp only [clerestorykeep1_WalkCommon.j0, Bool.false_eq_true, if_false]
    rw [if_pos c0, if_pos cl]
    exact e6
end Go.Proofs.YtaojbobbjnibhaaDoor.DocC
