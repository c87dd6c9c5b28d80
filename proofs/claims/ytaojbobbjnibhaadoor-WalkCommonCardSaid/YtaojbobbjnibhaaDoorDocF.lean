/- walk.check and walk.Step: what they come to. -/
import Derived.Test.YtaojbobbjnibhaaDoorDocE
namespace Go.Proofs.YtaojbobbjnibhaaDoor.DocC
open Go.RowKit Go.Proofs.YtaojbobbjnibhaaDoorW.PrintWords Go.Proofs.YtaojbobbjnibhaaDoor.PCM Go.Proofs.YtaojbobbjnibhaaDoor.DocP
set_option linter.unusedVariables false

/-! ### Roots -/
theorem pathL_ne (par : Int → Int) : ∀ d a, pathL par d a ≠ []
  | 0, a => by simp [pathL]
  | d + 1, a => by simp [pathL]
/-- The way down to a node begins at node 0. -/
def Rt (par : Int → Int) (a : Int) : Prop := ∃ d, Dep par a d ∧ (pathL par d a).head? = some 0
theorem Rt_par {par : Int → Int} {a : Int} (hp : 0 ≤ par a) : Rt par (par a) ↔ Rt par a := by
  constructor
  · rintro ⟨d, hd, h⟩
    refine ⟨d + 1, .up hp hd, ?_⟩
    simp only [pathL]
    rw [List.head?_append, h]; rfl
  · rintro ⟨d, hd, h⟩
    cases hd with
    | top h0 => omega
    | @up _ d _ hd =>
      refine ⟨d, hd, ?_⟩
      simp only [pathL] at h
      rw [List.head?_append] at h
      cases hh : (pathL par d (par a)).head? with
      | none => exact absurd (List.head?_eq_none_iff.1 hh) (pathL_ne par d (par a))
      | some x => rw [hh] at h; exact h
section
variable {n : Nat} {par : Int → Int} {kids : Int → List Int}
theorem Rt_kid (h : WF n par kids) {a k : Int} (ha : In n a) (hk : k ∈ kids a) : Rt par k ↔ Rt par a := by
  obtain ⟨_, e⟩ := h.kid_in ha hk
  rw [← Rt_par (by rw [e]; exact ha.1), e]
theorem Rt_beside (h : WF n par kids) {a b by_ : Int} (ha : In n a) (hb : beside par kids a by_ = b) (h0 : 0 ≤ b) : Rt par b ↔ Rt par a := by
  obtain ⟨_, h2, h3, h4⟩ := h.beside_back ha hb h0
  rw [← Rt_par (a := b) (by omega), h4, Rt_par h3]
theorem over_rt (h : WF n par kids) : ∀ (d : Nat) (a b : Int), In n a → Dep par a d → overF par kids d a = b → 0 ≤ b → In n b ∧ (Rt par b ↔ Rt par a)
  | 0, a, b, ha, _, e, h0 => ⟨(h.beside_back ha e h0).2.1, Rt_beside h ha e h0⟩
  | d + 1, a, b, ha, hd, e, h0 => by
    simp only [overF] at e
    split at e
    · exact ⟨(h.beside_back ha e h0).2.1, Rt_beside h ha e h0⟩
    · cases hd with
      | up hp hd =>
        obtain ⟨h1, h2⟩ := over_rt h d (par a) b (WFin h ha hp) hd e h0
        exact ⟨h1, h2.trans (Rt_par hp)⟩
theorem down_rt (h : WF n par kids) {a b : Int} (hd : Down kids a b) (ha : In n a) : In n b ∧ (Rt par b ↔ Rt par a) := by
  induction hd with
  | leaf _ => exact ⟨ha, Iff.rfl⟩
  | @step a b hk _ ih =>
    obtain ⟨h1, h2⟩ := h.lastKid_in ha hk
    obtain ⟨h3, h4⟩ := ih h1
    have hl : 0 < (kids a).length := List.length_pos_iff.2 hk
    exact ⟨h3, h4.trans (Rt_kid h ha (by rw [lastKid_cons a hl]; exact List.getElem_mem _))⟩
/-- Where a step leads is in the tree, too. -/
theorem step_rt (h : WF n par kids) {d : Nat} {a how b : Int} (ha : In n a) (hd : Dep par a d) (e : stepF par kids d a how = b) (h0 : 0 ≤ b) : In n b ∧ (Rt par b ↔ Rt par a) := by
  unfold stepF at e
  have hpar : par a = b → In n b ∧ (Rt par b ↔ Rt par a) := by
    rintro rfl
    exact ⟨WFin h ha h0, Rt_par h0⟩
  have hkid : ∀ k, k ∈ kids a → In n k ∧ (Rt par k ↔ Rt par a) := fun k hk => ⟨(h.kid_in ha hk).1, Rt_kid h ha hk⟩
  have hfirst : firstKid kids a = b → In n b ∧ (Rt par b ↔ Rt par a) := by
    intro e
    by_cases he : kids a = []
    · rw [firstKid_nil a he] at e; omega
    · have hl : 0 < (kids a).length := List.length_pos_iff.2 he
      rw [firstKid_cons a hl] at e
      exact hkid b (e ▸ List.getElem_mem _)
  have hlast : lastKid kids a = b → In n b ∧ (Rt par b ↔ Rt par a) := by
    intro e
    by_cases he : kids a = []
    · rw [lastKid_nil a he] at e; omega
    · have hl : 0 < (kids a).length := List.length_pos_iff.2 he
      rw [lastKid_cons a hl] at e
      exact hkid b (e ▸ List.getElem_mem _)
  repeat' split at e
  · unfold nextF at e
    split at e
    · exact over_rt h d a b ha hd e h0
    · exact hfirst e
  · unfold lastF at e
    split at e
    · exact hpar e
    · obtain ⟨_, h2, _, _⟩ := h.beside_back ha rfl (show 0 ≤ beside par kids a (-1) by omega)
      obtain ⟨dc, hdc, h8⟩ := h.dep _ h2.1 h2.2
      obtain ⟨h3, h4⟩ := down_rt h (h.down 40 _ dc h2 h8 (by omega)).1 h2
      rw [e] at h3 h4
      exact ⟨h3, h4.trans (Rt_beside h ha rfl (by omega))⟩
  · exact over_rt h d a b ha hd e h0
  · exact hfirst e
  · exact hlast e
  · exact ⟨(h.beside_back ha e h0).2.1, Rt_beside h ha e h0⟩
  · exact ⟨(h.beside_back ha e h0).2.1, Rt_beside h ha e h0⟩
  · exact hpar e
end

section check
variable (l : List S35) (q : Bool)
theorem out_iff (a : Int) : walk_check.out l a = false ↔ In l.length a := by
  unfold walk_check.out In
  simp
theorem ways_ev (hw : WF l.length (par l) (kids l)) : ∀ ns : List Int, (∀ a ∈ ns, In l.length a) → ∃ r, Ev (fun k => walk_check.ways k l q ns) r ∧ (r = 0 ↔ ∀ a ∈ ns, Rt (par l) a)
  | [], _ => ⟨0, Ev.now 0, by simp⟩
  | a :: ns, h => by
    obtain ⟨r, hr, hd⟩ := ways_ev hw ns (fun x hx => h x (List.mem_cons_of_mem _ hx))
    have ha := h a List.mem_cons_self
    obtain ⟨d, h40, hdep⟩ := hw.dep a ha.1 ha.2
    have hp := path_ev l q hw ha hdep h40
    cases hl : pathL (par l) d a with
    | nil => exact absurd hl (pathL_ne _ d a)
    | cons p ps =>
      rw [hl] at hp
      have hrt : Rt (par l) a ↔ p = 0 := by
        constructor
        · rintro ⟨d', hd', e⟩
          rw [hd'.fn hdep, hl] at e
          simpa using e
        · intro e
          exact ⟨d, hdep, by rw [hl, e]; rfl⟩
      by_cases h0 : p = 0
      · refine ⟨r, Ev.bind (f := fun k (b : List Int × Bool) => match b.1 with | [] => none | p :: _ => if p = 0 then walk_check.ways k l q ns else some 5) hp (Ev.congr (fun k => by simp only []; rw [if_pos h0]) hr), ?_⟩
        rw [hd]
        simp only [List.mem_cons, forall_eq_or_imp]
        exact ⟨fun h => ⟨hrt.2 h0, h⟩, fun h => h.2⟩
      · refine ⟨5, Ev.bind (f := fun k (b : List Int × Bool) => match b.1 with | [] => none | p :: _ => if p = 0 then walk_check.ways k l q ns else some 5) hp (Ev.congr (f := fun _ => some 5) (fun k => by simp only []; rw [if_neg h0]) (Ev.now 5)), ?_⟩
        simp only [List.mem_cons, forall_eq_or_imp]
        exact ⟨(fun h => by cases h), fun h => absurd (hrt.1 h.1) h0⟩
/-- A document that may be, for some nodes. -/
def Good (l : List S35) (q : Bool) : Prop := Ev (fun k => dom_Check.f k l q) 0
theorem Good.wf {l : List S35} {q : Bool} (h : Good l q) (hf : Fit l) : l.length ≤ 200 ∧ WF l.length (par l) (kids l) := by
  obtain ⟨r, hr, hd⟩ := check_ev l q hf
  obtain ⟨K, h1⟩ := h
  obtain ⟨K', h2⟩ := hr
  have e := (h1 (K + K') (by omega)).symm.trans (h2 (K + K') (by omega))
  exact hd (Option.some.inj e).symm
theorem wcheck_ev (hf : Fit l) (ns : List Int) : ∃ r, Ev (fun k => walk_check.f k l q ns) r ∧ (r = 0 ↔ (Good l q ∧ ∀ a ∈ ns, In l.length a ∧ Rt (par l) a)) := by
  obtain ⟨e, he, hd⟩ := check_ev l q hf
  have hfun : ∀ r, Ev (fun k => if e = 0 then (if ns.any (walk_check.out l) = true then some 1 else walk_check.ways k l q ns) else some e) r → Ev (fun k => walk_check.f k l q ns) r := fun r h =>
    Ev.bind (f := fun k t => if t = 0 then (if ns.any (walk_check.out l) = true then some 1 else walk_check.ways k l q ns) else some t) he h
  by_cases h0 : e = 0
  · have hg : Good l q := by rw [h0] at he; exact he
    by_cases ho : ns.any (walk_check.out l) = true
    · refine ⟨1, hfun 1 (Ev.congr (f := fun _ => some 1) (fun k => by rw [if_pos h0, if_pos ho]) (Ev.now 1)), (fun h => by cases h), fun ⟨_, h⟩ => ?_⟩
      obtain ⟨a, ha, hoa⟩ := List.any_eq_true.1 ho
      rw [(out_iff l a).2 (h a ha).1] at hoa
      cases hoa
    · have hin : ∀ a ∈ ns, In l.length a := fun a ha => (out_iff l a).1 (by
        cases hc : walk_check.out l a with
        | false => rfl
        | true => exact absurd (List.any_eq_true.2 ⟨a, ha, hc⟩) ho)
      obtain ⟨r, hr, hrt⟩ := ways_ev l q (hd h0).2 ns hin
      refine ⟨r, hfun r (Ev.congr (fun k => by rw [if_pos h0, if_neg ho]) hr), ?_⟩
      rw [hrt]
      exact ⟨fun h => ⟨hg, fun a ha => ⟨hin a ha, h a ha⟩⟩, fun h a ha => (h.2 a ha).2⟩
  · refine ⟨e, hfun e (Ev.congr (f := fun _ => some e) (fun k => by rw [if_neg h0]) (Ev.now e)), fun h => absurd h h0, fun ⟨hg, _⟩ => ?_⟩
    obtain ⟨K, h1⟩ := hg
    obtain ⟨K', h2⟩ := he
    exact (Option.some.inj ((h1 (K + K') (by omega)).symm.trans (h2 (K + K') (by omega)))).symm
/-- What Step tells. -/
structure StepTold (l : List S35) (q : Bool) (a how : Int) (r : Int × Bool × Int) : Prop where
  bad : r.2.2 ≠ 0 → r.1 = 0 ∧ r.2.1 = false
  good : r.2.2 = 0 → Good l q ∧ In l.length a ∧ Rt (par l) a ∧ 1 ≤ how ∧ how ≤ 8 ∧ ∃ d, Dep (par l) a d ∧ r = (if stepF (par l) (kids l) d a how < 0 then 0 else stepF (par l) (kids l) d a how, decide (0 ≤ stepF (par l) (kids l) d a how), 0)
  fine : Good l q → In l.length a → Rt (par l) a → 1 ≤ how → how ≤ 8 → r.2.2 = 0
theorem Step_ev (hf : Fit l) (a how : Int) : ∃ r, Ev (fun k => walk_Step.f k l q a how) r ∧ StepTold l q a how r := by
  obtain ⟨e1, h1, g1⟩ := wcheck_ev l q hf []
  obtain ⟨e2, h2, g2⟩ := wcheck_ev l q hf [a]
  let F : Nat → Int → Option (Int × Bool × Int) := fun k e => if e = 0 then (if how < 1 then some (0, false, 1) else if 8 < how then some (0, false, 1) else
    (walk_check.f k l q [a]).bind fun e2 => if e2 = 0 then (walk_walker_step.f k l q a how).bind fun b => some (if b.1 < 0 then 0 else b.1, decide (0 ≤ b.1), 0) else some (0, false, e2)) else some (0, false, e)
  have hfun : ∀ r, Ev (fun k => F k e1) r → Ev (fun k => walk_Step.f k l q a how) r := fun r h => Ev.bind (f := F) h1 h
  by_cases z1 : e1 = 0
  · have hG : Good l q := (g1.1 z1).1
    by_cases c1 : how < 1
    · exact ⟨_, hfun _ (Ev.congr (f := fun _ => some (0, false, 1)) (fun k => by show F k e1 = _; simp only [F]; rw [if_pos z1, if_pos c1]) (Ev.now _)), ⟨fun _ => ⟨rfl, rfl⟩, (fun h => by cases h), fun _ _ _ h => by omega⟩⟩
    by_cases c8 : 8 < how
    · exact ⟨_, hfun _ (Ev.congr (f := fun _ => some (0, false, 1)) (fun k => by show F k e1 = _; simp only [F]; rw [if_pos z1, if_neg c1, if_pos c8]) (Ev.now _)), ⟨fun _ => ⟨rfl, rfl⟩, (fun h => by cases h), fun _ _ _ _ h => by omega⟩⟩
    let F2 : Nat → Int → Option (Int × Bool × Int) := fun k e2 => if e2 = 0 then (walk_walker_step.f k l q a how).bind fun b => some (if b.1 < 0 then 0 else b.1, decide (0 ≤ b.1), 0) else some (0, false, e2)
    have hfun2 : ∀ r, Ev (fun k => F2 k e2) r → Ev (fun k => walk_Step.f k l q a how) r := fun r h =>
      hfun r (Ev.congr (f := fun k => (walk_check.f k l q [a]).bind (F2 k)) (fun k => by show F k e1 = _; simp only [F]; rw [if_pos z1, if_neg c1, if_neg c8]) (Ev.bind (f := F2) h2 h))
    by_cases z2 : e2 = 0
    · have ha := (g2.1 z2).2 a List.mem_cons_self
      obtain ⟨_, hw⟩ := hG.wf hf
      obtain ⟨d, h40, hd⟩ := hw.dep a ha.1.1 ha.1.2
      have hs := step_ev l q hw hf (how := how) ha.1 hd
      refine ⟨_, hfun2 _ (Ev.congr (f := fun k => (walk_walker_step.f k l q a how).bind fun b => some (if b.1 < 0 then 0 else b.1, decide (0 ≤ b.1), 0)) (fun k => by show F2 k e2 = _; simp only [F2]; rw [if_pos z2]) (Ev.bind (f := fun _ (b : Int × Bool) => some (if b.1 < 0 then 0 else b.1, decide (0 ≤ b.1), (0 : Int))) hs (Ev.now _))), ⟨fun h => absurd rfl h, fun _ => ⟨hG, ha.1, ha.2, by omega, by omega, d, hd, rfl⟩, fun _ _ _ _ _ => rfl⟩⟩
    · refine ⟨_, hfun2 _ (Ev.congr (f := fun _ => some (0, false, e2)) (fun k => by show F2 k e2 = _; simp only [F2]; rw [if_neg z2]) (Ev.now _)), ⟨fun _ => ⟨rfl, rfl⟩, fun h => absurd h z2, fun _ h3 h4 _ _ => ?_⟩⟩
      exact g2.2 ⟨hG, fun x hx => by rw [List.mem_singleton.1 hx]; exact ⟨h3, h4⟩⟩
  · refine ⟨_, hfun _ (Ev.congr (f := fun _ => some (0, false, e1)) (fun k => by show F k e1 = _; simp only [F]; rw [if_neg z1]) (Ev.now _)), ⟨fun _ => ⟨rfl, rfl⟩, fun h => absurd h z1, fun h3 _ _ _ _ => ?_⟩⟩
    exact g1.2 ⟨h3, fun x hx => by simp at hx⟩
end check

theorem fit_take {l : List S35} (h : Fit l) (n : Nat) : Fit (l.take n) := fun i => by
  by_cases hi : i.toNat < n
  · have e : kids (l.take n) i = kids l i := by
      show (rd_T35 (l.take n) i).f5 = (rd_T35 l i).f5
      unfold rd_T35
      rw [List.getD_eq_getElem?_getD, List.getD_eq_getElem?_getD, List.getElem?_take, if_pos hi]
    rw [e]
    exact h i
  · show ((rd_T35 (l.take n) i).f5).length ≤ _
    unfold rd_T35
    rw [List.getD_eq_getElem?_getD, List.getElem?_take, if_neg hi]
    decide
/-! ### WalkBack -/
theorem begun_ev : Ev (fun k => clerestorykeep1_walkBegun.f k) true := Ev.of clerestorykeep1_walkBegun.mono (k := 60) (by kernel_rfl)
end Go.Proofs.YtaojbobbjnibhaaDoor.DocC
