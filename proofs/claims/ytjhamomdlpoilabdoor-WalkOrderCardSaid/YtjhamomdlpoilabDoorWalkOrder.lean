/- The law WalkOrder, plainly: the printed function always comes to true. -/
import Derived.Test.YtjhamomdlpoilabDoorDocF
import Derived.Test.YtjhamomdlpoilabDoorDocQ
namespace Go.Proofs.YtjhamomdlpoilabDoor.DocC
open Go.RowKit Go.Proofs.YtjhamomdlpoilabDoorW.PrintWords Go.Proofs.YtjhamomdlpoilabDoor.PWO Go.Proofs.YtjhamomdlpoilabDoor.DocP
set_option linter.unusedVariables false

theorem few_some' (l : List S61) (q : Bool) : clerestorykeep1_few.f l q 60 = some (l.take (mn (l.length : Int) 60).toNat, q) := by
  have : 0 ≤ mn (l.length : Int) 60 ∧ mn (l.length : Int) 60 ≤ l.length := by unfold mn; split <;> omega
  simp only [clerestorykeep1_few.f]
  rw [if_pos this.1, if_pos this.2]
section
variable (l : List S61) (q : Bool)
/-! ### dom.walk -/
theorem walk_l0 (hf : Fit l) (a : Int) (F : Int → List Int)
    (hF : ∀ k ∈ kids l a, ∀ acc : List Int, acc.length + (F k).length ≤ 1000 → Ev (fun n => dom_walk.f n l q k acc) (acc ++ F k)) :
    ∀ (m' : Nat) (i : Nat) (acc : List Int), i + m' = (kids l a).length → acc.length + (((kids l a).drop i).flatMap F).length ≤ 1000 →
    Ev (fun n => dom_walk.l0 n acc (kids l a) ((kids l a).length : Int) (i : Int) l q) (acc ++ ((kids l a).drop i).flatMap F) := by
  have hfa := hf a
  intro m'
  induction m' with
  | zero =>
    intro i acc hi hl
    rw [List.drop_eq_nil_of_le (by omega), List.flatMap_nil, List.append_nil]
    refine Ev.step (f := fun _ => some acc) (fun k => ?_) (Ev.now _)
    simp only [dom_walk.l0]
    rw [if_neg (by omega)]
  | succ m' ih =>
    intro i acc hi hl
    have hil : i < (kids l a).length := by omega
    have hr : rd (kids l a) (i : Int) = (kids l a)[i] := by unfold rd; rw [Int.toNat_natCast, List.getD_eq_getElem?_getD, List.getElem?_eq_getElem hil]; rfl
    rw [List.drop_eq_getElem_cons hil, List.flatMap_cons] at hl ⊢
    rw [List.length_append] at hl
    have h1 := hF _ (List.getElem_mem hil) acc (by omega)
    have h2 := ih (i + 1) (acc ++ F (kids l a)[i]) (by omega) (by rw [List.length_append]; omega)
    rw [List.append_assoc] at h2
    refine Ev.step (f := fun n => (dom_walk.f n l q (kids l a)[i] acc).bind fun t => dom_walk.l0 n t (kids l a) ((kids l a).length : Int) ((i + 1 : Nat) : Int) l q) (fun k => ?_) (Ev.bind (f := fun n t => dom_walk.l0 n t (kids l a) ((kids l a).length : Int) ((i + 1 : Nat) : Int) l q) h1 h2)
    simp only [dom_walk.l0]
    rw [if_pos (by omega), if_pos (by omega), if_pos (by omega), hr, wrap_in (by omega)]
    rfl
theorem walk_ev (hw : WF l.length (par l) (kids l)) (hf : Fit l) : ∀ (f : Nat) (a : Int) (d : Nat) (acc : List Int), In l.length a → Dep (par l) a d → 40 ≤ f + d → acc.length + (preF (kids l) f a).length ≤ 1000 →
    Ev (fun n => dom_walk.f n l q a acc) (acc ++ preF (kids l) f a) := by
  intro f
  induction f with
  | zero =>
    intro a d acc ha hd h40 hl
    have hk : kids l a = [] := by
      have h1 := (hw.down 0 a d ha hd h40).1
      cases h1 with
      | leaf h => exact h
      | step h _ =>
        exfalso
        obtain ⟨h3, h4⟩ := hw.lastKid_in ha h
        obtain ⟨d', hd', h5⟩ := hw.dep _ h3.1 h3.2
        have := h5.fn (.up (by rw [h4]; exact ha.1) (by rw [h4]; exact hd))
        omega
    simp only [preF, List.length_singleton] at hl ⊢
    have h1 := walk_l0 l q hf a (fun _ => []) (fun k hk' => by rw [hk] at hk'; simp at hk') (kids l a).length 0 (acc ++ [a]) (by omega) (by rw [hk]; simp; omega)
    rw [hk] at h1
    simp only [List.drop_nil, List.flatMap_nil, List.append_nil] at h1
    refine Ev.step (fun k => ?_) h1
    simp only [dom_walk.f]
    rw [if_pos (by omega), if_pos ha.1, if_pos ha.2]
    show dom_walk.l0 k (acc ++ [a]) (kids l a) ((kids l a).length : Int) 0 l q = _
    rw [hk]
    rfl
  | succ f ih =>
    intro a d acc ha hd h40 hl
    simp only [preF, List.length_cons] at hl ⊢
    have h1 := walk_l0 l q hf a (preF (kids l) f) (fun k hk acc' hl' => by
      obtain ⟨h1, h2⟩ := hw.kid_in ha hk
      exact ih k (d + 1) acc' h1 (.up (by rw [h2]; exact ha.1) (by rw [h2]; exact hd)) (by omega) hl') (kids l a).length 0 (acc ++ [a]) (by omega) (by rw [List.drop_zero, List.length_append, List.length_singleton]; omega)
    rw [List.drop_zero, List.append_assoc] at h1
    refine Ev.step (fun k => ?_) h1
    simp only [dom_walk.f]
    rw [if_pos (by omega), if_pos ha.1, if_pos ha.2]
    rfl
/-- The order of the tree. -/
def ord (l : List S61) : List Int := preF (kids l) 40 0
theorem ord_ev (hg : Good l q) (hf : Fit l) : Ev (fun k => dom_Order.f k l q) (ord l, 0) := by
  obtain ⟨hl, hw⟩ := hg.wf hf
  have h0 : In l.length 0 := ⟨by omega, by have := hw.pos; omega⟩
  have hd : Dep (par l) 0 0 := .top (by rw [hw.root]; omega)
  have hlen := hw.len_pre (f := 40) h0 hd
  have h1 := walk_ev l q hw hf 40 0 0 [] h0 hd (by omega) (by simp; omega)
  rw [List.nil_append] at h1
  refine Ev.bind (f := fun k t => if t = 0 then ((dom_walk.f k l q 0 ([] : List Int)).bind fun t => (some (t, 0))) else (some (([] : List Int), t))) hg (Ev.congr (f := fun k => (dom_walk.f k l q 0 ([] : List Int)).bind fun t => (some (t, 0))) (fun k => by rw [if_pos rfl]) (Ev.bind (f := fun _ t => some (t, (0 : Int))) h1 (Ev.now _)))

/-! ### walk.check, once more: which error -/
theorem ways_val (hw : WF l.length (par l) (kids l)) : ∀ ns : List Int, (∀ a ∈ ns, In l.length a) → ∃ r, Ev (fun k => walk_check.ways k l q ns) r ∧ ((r = 0 ∧ ∀ a ∈ ns, Rt (par l) a) ∨ (r = 5 ∧ ¬ ∀ a ∈ ns, Rt (par l) a))
  | [], _ => ⟨0, Ev.now 0, .inl ⟨rfl, by simp⟩⟩
  | a :: ns, h => by
    obtain ⟨r, hr, hd⟩ := ways_val hw ns (fun x hx => h x (List.mem_cons_of_mem _ hx))
    have ha := h a List.mem_cons_self
    obtain ⟨d, h40, hdep⟩ := hw.dep a ha.1 ha.2
    have hp := path_ev l q hw ha hdep h40
    cases hl : pathL (par l) d a with
    | nil => exact absurd hl (pathL_ne _ d a)
    | cons p ps =>
      rw [hl] at hp
      have hrt : Rt (par l) a ↔ p = 0 := by
        constructor
        · rintro ⟨d', hd', e⟩
          rw [hd'.fn hdep, hl] at e
          simpa using e
        · intro e
          exact ⟨d, hdep, by rw [hl, e]; rfl⟩
      by_cases h0 : p = 0
      · refine ⟨r, Ev.bind (f := fun k (b : List Int × Bool) => match b.1 with | [] => none | p :: _ => if p = 0 then walk_check.ways k l q ns else some 5) hp (Ev.congr (fun k => by simp only []; rw [if_pos h0]) hr), ?_⟩
        simp only [List.mem_cons, forall_eq_or_imp]
        rcases hd with ⟨e, h1⟩ | ⟨e, h1⟩
        · exact .inl ⟨e, hrt.2 h0, h1⟩
        · exact .inr ⟨e, fun h => h1 h.2⟩
      · refine ⟨5, Ev.bind (f := fun k (b : List Int × Bool) => match b.1 with | [] => none | p :: _ => if p = 0 then walk_check.ways k l q ns else some 5) hp (Ev.congr (f := fun _ => some 5) (fun k => by simp only []; rw [if_neg h0]) (Ev.now 5)), .inr ⟨rfl, ?_⟩⟩
        simp only [List.mem_cons, forall_eq_or_imp]
        exact fun h => h0 (hrt.1 h.1)
/-- The error that two nodes have. -/
theorem wcheck_two (hg : Good l q) (hf : Fit l) (a b : Int) : ∃ r, Ev (fun k => walk_check.f k l q [a, b]) r ∧ Ev (fun k => walk_check.f k l q [b, a]) r ∧ (r = 0 → (In l.length a ∧ Rt (par l) a) ∧ (In l.length b ∧ Rt (par l) b)) := by
  obtain ⟨_, hw⟩ := hg.wf hf
  have hfun : ∀ ns r, Ev (fun k => if ns.any (walk_check.out l) = true then some 1 else walk_check.ways k l q ns) r → Ev (fun k => walk_check.f k l q ns) r := fun ns r h =>
    Ev.bind (f := fun k t => if t = 0 then (if ns.any (walk_check.out l) = true then some 1 else walk_check.ways k l q ns) else some t) hg (Ev.congr (fun k => by rw [if_pos rfl]) h)
  have hsym : ([b, a].any (walk_check.out l)) = ([a, b].any (walk_check.out l)) := by simp [Bool.or_comm]
  by_cases ho : [a, b].any (walk_check.out l) = true
  · exact ⟨1, hfun _ 1 (Ev.congr (f := fun _ => some 1) (fun k => by rw [if_pos ho]) (Ev.now 1)), hfun _ 1 (Ev.congr (f := fun _ => some 1) (fun k => by rw [if_pos (hsym.trans ho)]) (Ev.now 1)), fun h => by cases h⟩
  · have hin : In l.length a ∧ In l.length b := by
      simp only [List.any_cons, List.any_nil, Bool.or_false, Bool.or_eq_true, not_or, Bool.not_eq_true] at ho
      exact ⟨(out_iff l a).1 ho.1, (out_iff l b).1 ho.2⟩
    obtain ⟨r, h1, e1⟩ := ways_val l q hw [a, b] (by simp only [List.mem_cons, List.mem_nil_iff, or_false]; rintro x (rfl | rfl); exact hin.1; exact hin.2)
    obtain ⟨r', h2, e2⟩ := ways_val l q hw [b, a] (by simp only [List.mem_cons, List.mem_nil_iff, or_false]; rintro x (rfl | rfl); exact hin.2; exact hin.1)
    simp only [List.mem_cons, List.mem_nil_iff, or_false, forall_eq_or_imp, forall_eq] at e1 e2
    have er : r = r' := by
      rcases e1 with ⟨e1, h3, h4⟩ | ⟨e1, h3⟩ <;> rcases e2 with ⟨e2, h5, h6⟩ | ⟨e2, h5⟩
      · omega
      · exact absurd ⟨h4, h3⟩ h5
      · exact absurd ⟨h6, h5⟩ h3
      · omega
    subst er
    refine ⟨r, hfun _ r (Ev.congr (fun k => by rw [if_neg ho]) h1), hfun _ r (Ev.congr (fun k => by rw [if_neg (by rw [hsym]; exact ho)]) h2), fun h0 => ?_⟩
    rcases e1 with ⟨_, h3, h4⟩ | ⟨e1, _⟩
    · exact ⟨⟨hin.1, h3⟩, ⟨hin.2, h4⟩⟩
    · omega

/-! ### walk.Before -/
theorem go_both (hw : WF l.length (par l) (kids l)) (hf : Fit l) : ∀ (ps qs : List Int) (m : Int), In l.length m → WayDown (kids l) m ps → WayDown (kids l) m qs →
    ∃ r s, Ev (fun k => walk_Before.go k l (some m) ps qs) r ∧ Ev (fun k => walk_Before.go k l (some m) qs ps) s ∧ (r ≠ s ↔ ps ≠ qs)
  | [], [], m, _, _, _ => ⟨false, false, Ev.now _, Ev.now _, by simp⟩
  | [], y :: qs, m, _, _, _ => ⟨true, false, Ev.congr (f := fun _ => some true) (fun k => by simp [walk_Before.go]) (Ev.now _), Ev.now _, by simp⟩
  | x :: ps, [], m, _, _, _ => ⟨false, true, Ev.now _, Ev.congr (f := fun _ => some true) (fun k => by simp [walk_Before.go]) (Ev.now _), by simp⟩
  | x :: ps, y :: qs, m, hm, hp, hq => by
    by_cases e : x = y
    · subst e
      obtain ⟨hx, _⟩ := hw.kid_in hm hp.1
      obtain ⟨r, s, h1, h2, h3⟩ := go_both hw hf ps qs x hx hp.2 hq.2
      refine ⟨r, s, Ev.congr (fun k => by simp only [walk_Before.go, if_true]) h1, Ev.congr (fun k => by simp only [walk_Before.go, if_true]) h2, ?_⟩
      rw [h3]
      simp
    · have hfm := hf m
      have hne := hw.ix_ne hm hp.1 hq.1 e
      have i1 := index_ev (kids l m) x hfm
      have i2 := index_ev (kids l m) y hfm
      have hgo : ∀ (u v : Int) (us vs : List Int), u ≠ v → Ev (fun k => slices_Index_int_int.f k (kids l m) u) (ix (kids l m) u) → Ev (fun k => slices_Index_int_int.f k (kids l m) v) (ix (kids l m) v) →
          Ev (fun k => walk_Before.go k l (some m) (u :: us) (v :: vs)) (decide (ix (kids l m) u < ix (kids l m) v)) := fun u v us vs huv hu hv =>
        Ev.congr (fun k => by simp only [walk_Before.go]; rw [if_neg huv, if_pos (show 0 ≤ m ∧ m < (l.length : Int) from hm)]) (Ev.bind (f := fun k a => (slices_Index_int_int.f k (kids l m) v).bind fun b => some (decide (a < b))) hu (Ev.bind (f := fun _ b => some (decide (ix (kids l m) u < b))) hv (Ev.now _)))
      refine ⟨_, _, hgo x y ps qs e i1 i2, hgo y x qs ps (fun h => e h.symm) i2 i1, ?_⟩
      constructor
      · intro _ h
        injection h with h
        exact e h
      · intro _ h
        rcases Int.lt_or_gt_of_ne hne with h1 | h1
        · rw [decide_eq_true h1, decide_eq_false (by omega)] at h; cases h
        · rw [decide_eq_true h1, decide_eq_false (by omega)] at h; cases h
theorem before_both (hg : Good l q) (hf : Fit l) (a b : Int) : ∃ x y e, Ev (fun k => walk_Before.f k l q a b) (x, e) ∧ Ev (fun k => walk_Before.f k l q b a) (y, e) ∧ (e ≠ 0 → x = false ∧ y = false) ∧ (e = 0 → (x ≠ y ↔ a ≠ b)) := by
  obtain ⟨_, hw⟩ := hg.wf hf
  obtain ⟨r, h1, h2, h3⟩ := wcheck_two l q hg hf a b
  have hfun : ∀ u v (z : Bool × Int), Ev (fun k => walk_check.f k l q [u, v]) r → Ev (fun k => if r = 0 then (walk_walker_path.f k l q u).bind fun pa => (walk_walker_path.f k l q v).bind fun pb => (walk_Before.go k l none pa.1 pb.1).bind fun r => some (r, (0 : Int)) else some (false, r)) z → Ev (fun k => walk_Before.f k l q u v) z := fun u v z h h' =>
    Ev.bind (f := fun k e => if e = 0 then (walk_walker_path.f k l q u).bind fun pa => (walk_walker_path.f k l q v).bind fun pb => (walk_Before.go k l none pa.1 pb.1).bind fun r => some (r, (0 : Int)) else some (false, e)) h h'
  by_cases h0 : r = 0
  · obtain ⟨⟨ha, hra⟩, ⟨hb, hrb⟩⟩ := h3 h0
    obtain ⟨da, ka, hda⟩ := hw.dep a ha.1 ha.2
    obtain ⟨db, kb, hdb⟩ := hw.dep b hb.1 hb.2
    have pa := path_ev l q hw ha hda ka
    have pb := path_ev l q hw hb hdb kb
    obtain ⟨ra, ta, ea, hia, wa, la⟩ := hw.path_way da a ha hda
    obtain ⟨rb, tb, eb, hib, wb, lb⟩ := hw.path_way db b hb hdb
    have era : ra = 0 := by
      obtain ⟨d', hd', e⟩ := hra
      rw [hd'.fn hda, ea] at e
      simpa using e
    have erb : rb = 0 := by
      obtain ⟨d', hd', e⟩ := hrb
      rw [hd'.fn hdb, eb] at e
      simpa using e
    subst era erb
    rw [ea] at pa
    rw [eb] at pb
    obtain ⟨x, y, g1, g2, g3⟩ := go_both l hw hf ta tb 0 hia wa wb
    refine ⟨x, y, 0, hfun a b _ h1 (Ev.congr (f := fun k => (walk_walker_path.f k l q a).bind fun pa => (walk_walker_path.f k l q b).bind fun pb => (walk_Before.go k l none pa.1 pb.1).bind fun r => some (r, (0 : Int))) (fun k => by rw [if_pos h0]) ?_), hfun b a _ h2 (Ev.congr (f := fun k => (walk_walker_path.f k l q b).bind fun pa => (walk_walker_path.f k l q a).bind fun pb => (walk_Before.go k l none pa.1 pb.1).bind fun r => some (r, (0 : Int))) (fun k => by rw [if_pos h0]) ?_), fun h => absurd rfl h, fun _ => ?_⟩
    · exact Ev.bind (f := fun k pa => (walk_walker_path.f k l q b).bind fun pb => (walk_Before.go k l none pa.1 pb.1).bind fun r => some (r, (0 : Int))) pa (Ev.bind (f := fun k (pb : List Int × Bool) => (walk_Before.go k l none (0 :: ta) pb.1).bind fun r => some (r, (0 : Int))) pb (Ev.bind (f := fun _ r => some (r, (0 : Int))) (Ev.congr (fun k => by simp only [walk_Before.go, if_true]) g1) (Ev.now _)))
    · exact Ev.bind (f := fun k pa => (walk_walker_path.f k l q a).bind fun pb => (walk_Before.go k l none pa.1 pb.1).bind fun r => some (r, (0 : Int))) pb (Ev.bind (f := fun k (pb : List Int × Bool) => (walk_Before.go k l none (0 :: tb) pb.1).bind fun r => some (r, (0 : Int))) pa (Ev.bind (f := fun _ r => some (r, (0 : Int))) (Ev.congr (fun k => by simp only [walk_Before.go, if_true]) g2) (Ev.now _)))
    · rw [g3]
      constructor
      · intro h e
        subst e
        rw [hda.fn hdb, eb] at ea
        injection ea with _ ea
        exact h ea.symm
      · intro h e
        subst e
        exact h (la.symm.trans lb)
  · exact ⟨false, false, r, hfun a b _ h1 (Ev.congr (f := fun _ => some (false, r)) (fun k => by rw [if_neg h0]) (Ev.now _)), hfun b a _ h2 (Ev.congr (f := fun _ => some (false, r)) (fun k => by rw [if_neg h0]) (Ev.now _)), fun _ => ⟨rfl, rfl⟩, fun h => absurd h h0⟩
/-! ### The law -/
theorem order_end (hg : Good l q) (hf : Fit l) (a b : Int) (L : List Int) (n : Int) (i : Int) (hi : (L.length : Int) ≤ i) : Ev (fun k => clerestorykeep1_WalkOrder.l0 k a b L n i l q) true := by
  obtain ⟨x, y, e, h1, h2, h3, h4⟩ := before_both l q hg hf a b
  refine Ev.step (f := fun k => (walk_Before.f k l q a b).bind fun bt1 => ((walk_Before.f k l q b a).bind fun bt2 => (if bt1.2 = 0 then (clerestorykeep1_WalkOrder.j1 k a b bt1.1 bt1.2 bt2.1 bt2.2 (bt2.2 != 0)) else (clerestorykeep1_WalkOrder.j1 k a b bt1.1 bt1.2 bt2.1 bt2.2 true)))) (fun k => by simp only [clerestorykeep1_WalkOrder.l0]; rw [if_neg (by omega)]) ?_
  refine Ev.bind (f := fun k (bt1 : Bool × Int) => ((walk_Before.f k l q b a).bind fun bt2 => (if bt1.2 = 0 then (clerestorykeep1_WalkOrder.j1 k a b bt1.1 bt1.2 bt2.1 bt2.2 (bt2.2 != 0)) else (clerestorykeep1_WalkOrder.j1 k a b bt1.1 bt1.2 bt2.1 bt2.2 true)))) h1 ?_
  refine Ev.bind (f := fun k (bt2 : Bool × Int) => (if e = 0 then (clerestorykeep1_WalkOrder.j1 k a b x e bt2.1 bt2.2 (bt2.2 != 0)) else (clerestorykeep1_WalkOrder.j1 k a b x e bt2.1 bt2.2 true))) h2 ?_
  by_cases he : e = 0
  · refine Ev.congr (f := fun k => clerestorykeep1_WalkOrder.j1 k a b x e y e false) (fun k => by rw [if_pos he, he]; rfl) ?_
    refine Ev.step (fun k => by simp only [clerestorykeep1_WalkOrder.j1, Bool.false_eq_true, if_false]) (Ev.bind (f := fun _ t => if t = true then (some ((x != y) == (a != b))) else (some false)) begun_ev (Ev.congr (f := fun _ => some true) (fun k => ?_) (Ev.now true)))
    rw [if_pos rfl]
    congr 1
    have h5 := h4 he
    by_cases hab : a = b
    · have hxy : x = y := Classical.byContradiction fun h => h5.1 h hab
      rw [hab, hxy]; simp
    · have hxy := h5.2 hab
      have e1 : (a != b) = true := by simpa using hab
      have e2 : (x != y) = true := by simpa using hxy
      rw [e1, e2]; rfl
  · obtain ⟨hx, hy⟩ := h3 he
    refine Ev.congr (f := fun k => clerestorykeep1_WalkOrder.j1 k a b x e y e true) (fun k => by rw [if_neg he]) ?_
    refine Ev.step (fun k => by simp only [clerestorykeep1_WalkOrder.j1, if_true]) (Ev.bind (f := fun _ t => if t = true then (if x = true then (some false) else (some (!y))) else (some false)) begun_ev (Ev.congr (f := fun _ => some true) (fun k => ?_) (Ev.now true)))
    rw [if_pos rfl, hx, hy]; rfl
theorem order_go (hg : Good l q) (hf : Fit l) (a b : Int) : ∀ (m' : Nat) (i : Nat) (n : Int), i + m' = (ord l).length → (∀ h : i < (ord l).length, n = (ord l)[i]) → Ev (fun k => clerestorykeep1_WalkOrder.l0 k a b (ord l) n (i : Int) l q) true := by
  obtain ⟨hl, hw⟩ := hg.wf hf
  have h0 : In l.length 0 := ⟨by omega, by have := hw.pos; omega⟩
  have hd : Dep (par l) 0 0 := .top (by rw [hw.root]; omega)
  have hlen : (ord l).length ≤ l.length := hw.len_pre (f := 40) h0 hd
  have hov : Over (par l) (kids l) 0 (-1) := by
    have hb : beside (par l) (kids l) 0 1 = -1 := by unfold beside; rw [if_pos (by rw [hw.root]; omega)]
    have := over_top (par := par l) (kids := kids l) (a := 0) (by omega) (by rw [hw.root]; omega)
    rw [hb] at this; exact this
  have hseq : Seq (par l) (kids l) (ord l) (-1) := hw.seq 40 0 0 (-1) h0 hd (by omega) hov
  have hrt : ∀ x ∈ ord l, In l.length x ∧ Rt (par l) x := fun x hx => by
    obtain ⟨h1, h2⟩ := hw.mem_pre 40 0 x h0 hx
    refine ⟨h1, ?_⟩
    have hr0 : Rt (par l) 0 := ⟨0, hd, rfl⟩
    clear hx h1
    induction h2 with
    | refl => exact hr0
    | up hp _ ih => exact (Rt_par hp).1 ih
  intro m'
  induction m' with
  | zero =>
    intro i n hi _
    exact order_end l q hg hf a b (ord l) n i (by omega)
  | succ m' ih =>
    intro i n hi hn
    have hil : i < (ord l).length := by omega
    have hni := hn hil
    obtain ⟨hin, hr⟩ := hrt n (hni ▸ List.getElem_mem hil)
    obtain ⟨r, h1, ht⟩ := Step_ev l q hf n 1
    have hz := ht.fine hg hin hr (by omega) (by omega)
    obtain ⟨_, _, _, _, _, d, hdn, e⟩ := ht.good hz
    have hst : stepF (par l) (kids l) d n 1 = nextF (par l) (kids l) d n := rfl
    obtain ⟨d', hd', hnx⟩ := hseq.at_ i hil
    rw [← hni] at hd' hnx
    rw [hd'.fn hdn] at hnx
    rw [hst, hnx] at e
    have hrd : rd (ord l) (i : Int) = n := by rw [hni]; unfold rd; rw [Int.toNat_natCast, List.getD_eq_getElem?_getD, List.getElem?_eq_getElem hil]; rfl
    obtain ⟨n', hn'⟩ : ∃ n', r = (n', decide (i + 1 < (ord l).length), 0) ∧ ∀ h : i + 1 < (ord l).length, n' = (ord l)[i + 1] := by
      by_cases hlt : i + 1 < (ord l).length
      · rw [dif_pos hlt] at e
        have hx := (hrt _ (List.getElem_mem hlt)).1.1
        rw [if_neg (by omega), decide_eq_true hx] at e
        exact ⟨_, by rw [e, decide_eq_true hlt], fun _ => rfl⟩
      · rw [dif_neg hlt] at e
        exact ⟨0, by rw [e, decide_eq_false hlt]; rfl, fun h => absurd h hlt⟩
    obtain ⟨er, hn1⟩ := hn'
    have hrest := ih (i + 1) n' (by omega) hn1
    refine Ev.step (f := fun k => (walk_Step.f k l q n 1).bind fun bt => (if 0 ≤ (i : Int) then (if n = (rd (ord l) (i : Int)) then (if bt.2.2 = 0 then (if (bt.2.1 != (decide ((wrap64 ((i : Int) + 1)) < ((ord l).length : Int)))) = true then (some false) else (clerestorykeep1_WalkOrder.l0 k a b (ord l) bt.1 (wrap64 ((i : Int) + 1)) l q)) else (some false)) else (some false)) else (none))) (fun k => by simp only [clerestorykeep1_WalkOrder.l0]; rw [if_pos (by omega)]) (Ev.bind (f := fun k (bt : Int × Bool × Int) => (if 0 ≤ (i : Int) then (if n = (rd (ord l) (i : Int)) then (if bt.2.2 = 0 then (if (bt.2.1 != (decide ((wrap64 ((i : Int) + 1)) < ((ord l).length : Int)))) = true then (some false) else (clerestorykeep1_WalkOrder.l0 k a b (ord l) bt.1 (wrap64 ((i : Int) + 1)) l q)) else (some false)) else (some false)) else (none))) h1 (Ev.congr (fun k => ?_) hrest))
    have hdec : decide (((i : Int) + 1) < ((ord l).length : Int)) = decide (i + 1 < (ord l).length) := by
      congr 1
      exact propext ⟨fun _ => by omega, fun _ => by omega⟩
    rw [if_pos (by omega), if_pos hrd.symm, if_pos hz, wrap_in (by omega), hdec, er]
    simp only [bne_self_eq_false, Bool.false_eq_true, if_false]
    rfl
theorem WalkOrder_L (a b : Int) (hf : Fit l) : Ev (fun k => (dom_Order.f k l q).bind fun bt => (if bt.2 = 0 then (clerestorykeep1_WalkOrder.l0 k a b bt.1 0 0 l q) else ((clerestorykeep1_walkBegun.f k).bind fun t => (some t)))) true := by
  obtain ⟨e, he, _⟩ := check_ev l q hf
  by_cases h0 : e = 0
  · have hg : Good l q := by rw [h0] at he; exact he
    have h1 := order_go l q hg hf a b (ord l).length 0 0 (by omega) (fun h => by
      obtain ⟨t, ht⟩ := preF_head (kids l) 40 0
      show (0 : Int) = (preF (kids l) 40 0)[0]'h
      simp [ht])
    exact Ev.bind (f := fun k (bt : List Int × Int) => (if bt.2 = 0 then (clerestorykeep1_WalkOrder.l0 k a b bt.1 0 0 l q) else ((clerestorykeep1_walkBegun.f k).bind fun t => (some t)))) (ord_ev l q hg hf) (Ev.congr (fun k => by rw [if_pos rfl]; rfl) h1)
  · have ho : Ev (fun k => dom_Order.f k l q) (([] : List Int), e) :=
      Ev.bind (f := fun k t => if t = 0 then ((dom_walk.f k l q 0 ([] : List Int)).bind fun t => (some (t, 0))) else (some (([] : List Int), t))) he (Ev.congr (f := fun _ => some (([] : List Int), e)) (fun k => by rw [if_neg h0]) (Ev.now _))
    exact Ev.bind (f := fun k (bt : List Int × Int) => (if bt.2 = 0 then (clerestorykeep1_WalkOrder.l0 k a b bt.1 0 0 l q) else ((clerestorykeep1_walkBegun.f k).bind fun t => (some t)))) ho (Ev.congr (f := fun k => (clerestorykeep1_walkBegun.f k).bind fun t => some t) (fun k => by rw [if_neg h0]) (Ev.bind (f := fun _ t => some t) begun_ev (Ev.now true)))
end
theorem WalkOrder_ev (l : List S61) (q : Bool) (a b : Int) (hf : Fit (l.take (mn (l.length : Int) 60).toNat)) : ∃ k, clerestorykeep1_WalkOrder.f k l q a b = some true :=
  let ⟨K, h⟩ := (Ev.congr (fun k => by simp only [clerestorykeep1_WalkOrder.f, few_some', Option.bind_some]) (WalkOrder_L _ q a b hf) : Ev (fun k => clerestorykeep1_WalkOrder.f k l q a b) true)
  ⟨K, h K (Nat.le_refl _)⟩
end Go.Proofs.YtjhamomdlpoilabDoor.DocC
