/- Edits that do not meet: what may be done alone may be done behind the other. -/
import Derived.Test.YthfalaabfgpjmaaDoorApO
import Derived.Test.YthfalaabfgpjmaaDoorDocK
namespace Go.Proofs.YthfalaabfgpjmaaDoor.DocC
open Go.RowKit Go.Proofs.YthfalaabfgpjmaaDoorW.PrintWords Go.Proofs.YthfalaabfgpjmaaDoor.PAP Go.Proofs.YthfalaabfgpjmaaDoor.DocP
set_option linter.unusedVariables false
set_option linter.unusedSimpArgs false
section
variable {l : List S28} {q : Bool}
/-! ### Roots -/
def IsRoot (l : List S28) (a r : Int) : Prop := Under (par l) r a ∧ par l r < 0 ∧ In l.length r
theorem IsRoot.one {a r s : Int} (h : IsRoot l a r) (h' : IsRoot l a s) : r = s := h.1.one h'.1 (.top h.2.1) (.top h'.2.1)
theorem root_ev (hw : WF l.length (par l) (kids l)) : ∀ (d : Nat) (a : Int), In l.length a → Dep (par l) a d → ∃ r, Ev (fun k => apart_root.f k l q a) r ∧ IsRoot l a r := by
  intro d
  induction d with
  | zero =>
    intro a ha hd
    have hp : par l a < 0 := by cases hd with | top h => exact h
    refine ⟨a, Ev.step (f := fun _ => some a) (fun k => ?_) (Ev.now a), .refl, hp, ha⟩
    show apart_root.l0 (k + 1) a l q = some a
    simp only [apart_root.l0]
    rw [if_pos ha.1, if_pos ha.2, if_neg (show ¬ par l a ≥ 0 by omega)]
  | succ d ih =>
    intro a ha hd
    cases hd with
    | up hp hd =>
      obtain ⟨r, hr, hu, h2, h3⟩ := ih (par l a) (DocT.WFin hw ha hp) hd
      refine ⟨r, Ev.step (fun k => ?_) hr, .up hp hu, h2, h3⟩
      show apart_root.l0 (k + 1) a l q = apart_root.l0 k (par l a) l q
      simp only [apart_root.l0]
      rw [if_pos ha.1, if_pos ha.2, if_pos (show par l a ≥ 0 from hp)]
/-! ### How deep what lies below a node goes: just so deep -/
theorem deepGo_max {d : Nat} : ∀ (xs : List Int) (m : Int), (∀ x ∈ xs, ∃ r, Ev (fun k => deepF l k x) r ∧ 0 ≤ r ∧ r + (d + 1 : Nat) ≤ 40) → 0 ≤ m → m + d ≤ 40 →
    ∀ m', Ev (fun k => deepGo (deepF l k) xs m) m' → m' = m ∨ ∃ x ∈ xs, ∃ r, Ev (fun k => deepF l k x) r ∧ 0 ≤ r ∧ m' = r + 1
  | [], m, _, h0, h1, m', h => .inl (ev_one h (Ev.now m))
  | x :: xs, m, hx, h0, h1, m', h => by
    obtain ⟨r, hr, hr0, hr1⟩ := hx x List.mem_cons_self
    have e : wrap64 (r + 1) = r + 1 := wrap_in (by omega)
    have hm1 : m ≤ mx m (r + 1) ∧ r + 1 ≤ mx m (r + 1) ∧ (mx m (r + 1) = m ∨ mx m (r + 1) = r + 1) := by unfold mx; split <;> omega
    obtain ⟨m2, g1, g2, g3, g4⟩ := deepGo_ev xs (mx m (r + 1)) (fun y hy => hx y (List.mem_cons_of_mem _ hy)) (by omega) (by omega)
    have g5 : Ev (fun k => deepGo (deepF l k) (x :: xs) m) m2 := by
      show Ev (fun k => (deepF l k x).bind fun d => deepGo (deepF l k) xs (mx m (wrap64 (d + 1)))) m2
      refine Ev.bind (f := fun k d => deepGo (deepF l k) xs (mx m (wrap64 (d + 1)))) hr ?_
      rw [e]
      exact g1
    have g6 : m' = m2 := ev_one h g5
    subst g6
    rcases deepGo_max xs (mx m (r + 1)) (fun y hy => hx y (List.mem_cons_of_mem _ hy)) (by omega) (by omega) m' g1 with h2 | ⟨y, hy, s, hs, hs0, hs1⟩
    · rcases hm1.2.2 with h3 | h3
      · exact .inl (by omega)
      · exact .inr ⟨x, List.mem_cons_self, r, hr, hr0, by omega⟩
    · exact .inr ⟨y, List.mem_cons_of_mem _ hy, s, hs, hs0, hs1⟩
theorem deep_max (hw : WF l.length (par l) (kids l)) : ∀ (f : Nat) (d : Nat) (a : Int), In l.length a → Dep (par l) a d → 40 ≤ f + d → ∀ r, Ev (fun k => deepF l k a) r → 0 ≤ r ∧ ∃ x, In l.length x ∧ Under (par l) a x ∧ Dep (par l) x (d + r.toNat) := by
  intro f
  induction f with
  | zero =>
    intro d a ha hd h40 r hr
    obtain ⟨r', h1, h2, h3, h4⟩ := deep_ev hw 0 d a ha hd h40
    have h5 := ev_one hr h1
    subst h5
    have h6 : r = 0 := by omega
    subst h6
    exact ⟨Int.le_refl _, a, ha, .refl, by simpa using hd⟩
  | succ f ih =>
    intro d a ha hd h40 r hr
    have hd40 : d ≤ 40 := by obtain ⟨d', h1, h2⟩ := hw.dep a ha.1 ha.2; rw [hd.fn h2]; exact h1
    have hkid : ∀ c ∈ kids l a, In l.length c ∧ par l c = a ∧ Dep (par l) c (d + 1) := fun c hc => by
      obtain ⟨hc1, hc2⟩ := hw.kid_in ha hc
      exact ⟨hc1, hc2, .up (by rw [hc2]; exact ha.1) (by rw [hc2]; exact hd)⟩
    have hall : ∀ c ∈ kids l a, ∃ r, Ev (fun k => deepF l k c) r ∧ 0 ≤ r ∧ r + (d + 1 : Nat) ≤ 40 := fun c hc => by
      obtain ⟨h1, _, h2⟩ := hkid c hc
      obtain ⟨r, e1, e2, e3, _⟩ := deep_ev hw f (d + 1) c h1 h2 (by omega)
      exact ⟨r, e1, e2, e3⟩
    obtain ⟨m, g1, g2, _, _⟩ := deepGo_ev (l := l) (d := d) (kids l a) 0 hall (Int.le_refl _) (by omega)
    have g5 : Ev (fun k => deepF l k a) m := by
      refine Ev.step (fun k => ?_) g1
      show deepF l (k + 1) a = deepGo (deepF l k) (kids l a) 0
      simp only [deepF]
      rw [if_pos ha.1, if_pos ha.2]
      try rfl
    have g6 := ev_one hr g5
    subst g6
    refine ⟨g2, ?_⟩
    rcases deepGo_max (l := l) (d := d) (kids l a) 0 hall (Int.le_refl _) (by omega) r g1 with h | ⟨c, hc, s, hs, hs0, hs1⟩
    · subst h
      exact ⟨a, ha, .refl, by simpa using hd⟩
    · obtain ⟨h1, h2, h3⟩ := hkid c hc
      obtain ⟨_, x, hx1, hx2, hx3⟩ := ih (d + 1) c h1 h3 (by omega) s hs
      have hu : Under (par l) a c := .up (by rw [h2]; exact ha.1) (by rw [h2]; exact .refl)
      refine ⟨x, hx1, hu.trans hx2, ?_⟩
      rw [show d + r.toNat = d + 1 + s.toNat from by omega]
      exact hx3
/-! ### What may be done is done -/
/-- What else must be for an edit to be done. -/
structure Can (l : List S28) (e : S30) : Prop where
  room : e.f0 = 1 → idxF (fun x => x.f0.toList == e.f4.toList) (rd_T28 l e.f1).f2 < 0 → (rd_T28 l e.f1).f2.length < 12
  deep : e.f0 = 5 → ∃ di, Dep (par l) e.f1 di ∧ ∀ x, In l.length x → Under (par l) e.f2 x → ∀ d, Dep (par l) x d → d + 1 + di ≤ 40
set_option maxHeartbeats 2000000 in
theorem insert_zero (h : DocOk l) {e : S30} {l' : List S28} (hE : Eff l e l') (h0 : e.f0 = 5) (hc : Can l e) : ∃ l2, Ev (fun k => insertF k l q e) (0, l2) := by
  cases hE with
  | @insert p h0' hi hj hki hkj htx hpj hp hpl hnu =>
    unfold insertF
    have hcond : (0 ≤ e.f1 ∧ e.f1 < (l.length : Int)) ∧ (0 ≤ e.f2 ∧ e.f2 < (l.length : Int)) := ⟨hi, hj⟩
    simp only [if_pos hcond]
    obtain ⟨pb, hpb⟩ := parent_some (rd_T28 l e.f1).f0
    simp only [hpb, Option.bind_some]
    have hpt : pb = true := by
      unfold dom_parent.f at hpb
      rcases hki with hk | hk
      · rw [if_pos hk] at hpb; exact (Option.some.inj hpb).symm
      · rw [hk] at hpb; exact (Option.some.inj hpb).symm
    have c1 : ¬ (pb = false ∨ (rd_T28 l e.f2).f0 = 1 ∨ ((rd_T28 l e.f1).f0 = 1 ∧ (rd_T28 l e.f2).f0 = 3)) := by
      rintro (h1 | h1 | h1)
      · rw [hpt] at h1; cases h1
      · exact hkj h1
      · exact htx h1
    simp only [if_neg c1]
    have c2 : ¬ 0 ≤ (rd_T28 l e.f2).f4 := by show ¬ 0 ≤ par l e.f2; omega
    simp only [if_neg c2]
    have hk200 := h.kids_le hi
    have hk1000 : (rd_T28 l e.f1).f5.length ≤ 1000 := by show (kids l e.f1).length ≤ 1000; omega
    simp only [if_pos hk1000]
    obtain ⟨p', hp', hple⟩ := place_ev (rd_T28 l e.f1).f5 e.f3 hk200
    have c3 : ¬ p' < 0 := by
      unfold placeF at hp'
      rcases hpl with ⟨g1, g2⟩ | ⟨g1, g2⟩
      · simp only [if_pos g1] at hp'
        have := ev_one hp' (Ev.now _)
        omega
      · simp only [if_neg g1] at hp'
        have := ev_one hp' (jx_ev _ e.f3 (by omega))
        have g2' : ix (rd_T28 l e.f1).f5 e.f3 = p := g2
        omega
    obtain ⟨di, hdi, hdeep⟩ := hc.deep h0
    obtain ⟨bb, hbb, hbu⟩ := below_ev h.wf hj.1 di e.f1 hi hdi
    have c4 : ¬ bb = true := fun hb => hnu (hbu.1 hb)
    obtain ⟨r, hr, hr0, hr1, hr2⟩ := deep_ev h.wf 40 0 e.f2 hj (.top hpj) (by omega)
    obtain ⟨_, x, hx1, hx2, hx3⟩ := deep_max h.wf 40 0 e.f2 hj (.top hpj) (by omega) r hr
    have hx4 := hdeep x hx1 hx2 _ hx3
    have hup := upv_ev (q := q) h.wf h.len hi hdi
    have c5 : ¬ 40 < wrap64 (wrap64 ((di : Int) + 1) + r) := by rw [wrap_in (x := (di : Int) + 1) (by omega), wrap_in (by omega)]; omega
    exact ⟨_, Ev.bind (f := fun k p => if p < 0 then _ else _) hp' (Ev.congr (fun k => if_neg c3) (Ev.bind (f := fun k bb => if bb = true then _ else _) hbb (Ev.congr (fun k => if_neg c4) (Ev.bind (f := fun k u => (deepF l k e.f2).bind fun dp => if 40 < wrap64 (wrap64 (u + 1) + dp) then _ else _) hup (Ev.bind (f := fun k dp => if 40 < wrap64 (wrap64 ((di : Int) + 1) + dp) then _ else _) hr (Ev.congr (fun k => (if_neg c5).trans (if_pos hple)) (Ev.now _)))))))⟩
  | _ => omega
set_option maxHeartbeats 2000000 in
theorem eff_zero (h : DocOk l) {e : S30} {l' : List S28} (hE : Eff l e l') (hc : Can l e) {made r m : Int} {l2 : List S28} (hev : Ev (fun k => editF k l q made e) (r, l2, m)) : r = 0 := by
  have hE' := hE
  have key : ∀ {g : Nat → Option (Int × List S28)} {t : Int × List S28}, Ev (fun k => (g k).map (fun p => (p.1, p.2, made))) (r, l2, m) → Ev g t → t.1 = 0 → r = 0 := by
    intro g t h1 h2 h3
    have h4 := ev_one h1 (ev_map h2 _)
    injection h4 with h5 h6
    exact h5.trans h3
  unfold editF at hev
  cases hE with
  | text h0 hi hk hv =>
    simp only [if_pos h0] at hev
    have h1 := ev_one hev (Ev.now _)
    injection h1 with h2 h3
    rw [h2]
    unfold textF
    rw [if_pos (show 0 ≤ e.f1 ∧ e.f1 < (l.length : Int) from hi), if_pos hk, if_neg (by omega)]
  | attr h0 hi hk hnm hv ha =>
    simp only [if_neg (show ¬ e.f0 = 3 by omega), if_neg (show ¬ e.f0 = 4 by omega), if_neg (show ¬ e.f0 = 5 by omega), if_pos h0] at hev
    have hA : ∃ t, attrF l e = some t ∧ t.1 = 0 := by
      unfold attrF
      have ho := (h.oneOk hi).2.2.2.2.1
      rw [if_pos (show 0 ≤ e.f1 ∧ e.f1 < (l.length : Int) from hi), if_pos hk, if_pos (by have := ho.1; omega), find_is, hnm]
      have c3 : ¬ (idxF (fun x => x.f0.toList == e.f4.toList) (rd_T28 l e.f1).f2 < 0 ∧ (rd_T28 l e.f1).f2.length = 12) := fun hh => by have := hc.room h0 hh.1; omega
      simp only [Option.bind_some]
      rw [if_neg (by decide : ¬ (true = false)), if_neg (by omega : ¬ 400 < (e.f5.size : Int)), if_neg c3]
      by_cases c4 : idxF (fun x => x.f0.toList == e.f4.toList) (rd_T28 l e.f1).f2 < 0
      · rw [if_pos c4]; exact ⟨_, rfl, rfl⟩
      · rw [if_neg c4]
        have hlt : idxF (fun x => x.f0.toList == e.f4.toList) (rd_T28 l e.f1).f2 < ((rd_T28 l e.f1).f2.length : Int) := by
          rcases idx_lt (fun x => x.f0.toList == e.f4.toList) (rd_T28 l e.f1).f2 with h | h
          · exact h
          · omega
        rw [if_pos hlt]
        exact ⟨_, rfl, rfl⟩
    obtain ⟨t, ht, ht0⟩ := hA
    exact key hev (Ev.congr (fun _ => ht) (Ev.now _)) ht0
  | drop h0 hi hk hix hl =>
    simp only [if_neg (show ¬ e.f0 = 3 by omega), if_neg (show ¬ e.f0 = 4 by omega), if_neg (show ¬ e.f0 = 5 by omega), if_neg (show ¬ e.f0 = 1 by omega), if_pos h0] at hev
    have hA : ∃ t, dropF l e = some t ∧ t.1 = 0 := by
      unfold dropF
      have ho := (h.oneOk hi).2.2.2.2.1
      rw [if_pos (show 0 ≤ e.f1 ∧ e.f1 < (l.length : Int) from hi), if_pos hk, if_pos (by have := ho.1; omega), find_is]
      simp only [Option.bind_some]
      rw [if_neg (by omega), if_pos (by omega)]
      exact ⟨_, rfl, rfl⟩
    obtain ⟨t, ht, ht0⟩ := hA
    exact key hev (Ev.congr (fun _ => ht) (Ev.now _)) ht0
  | make h0 hk h1 hl ho =>
    simp only [if_neg (show ¬ e.f0 = 3 by omega), if_pos h0] at hev
    unfold makeF at hev
    simp only [if_pos hk, if_neg h1] at hev
    obtain ⟨s, hs, hok⟩ := one_val e.f6
    have hs0 := hok.2 ho
    have ha : e.f6.f2.length ≤ 12 := ho.2.2.2.2.1.1
    have h2 := ev_one hev (Ev.bind (f := fun k r => if r = 0 then _ else _) hs (Ev.congr (fun k => (if_pos hs0).trans (if_pos ⟨hl, by omega⟩)) (Ev.now _)))
    injection h2
  | insert h0 hi hj hki hkj htx hpj hp hpl hnu =>
    simp only [if_neg (show ¬ e.f0 = 3 by omega), if_neg (show ¬ e.f0 = 4 by omega), if_pos h0] at hev
    obtain ⟨l3, h3⟩ := insert_zero (q := q) h hE' h0 hc
    exact key hev h3 rfl
  | @remove ii h0 hi hk hp hpin hne hil hix1 hix2 =>
    simp only [if_neg (show ¬ e.f0 = 3 by omega), if_neg (show ¬ e.f0 = 4 by omega), if_neg (show ¬ e.f0 = 5 by omega), if_neg (show ¬ e.f0 = 1 by omega), if_neg (show ¬ e.f0 = 2 by omega), if_pos h0] at hev
    have hA : ∃ l3, Ev (fun k => removeF k l e) (0, l3) := by
      unfold removeF
      have hi' : 0 ≤ e.f1 ∧ e.f1 < (l.length : Int) := hi
      have hp' : ¬ (rd_T28 l e.f1).f4 < 0 := by show ¬ par l e.f1 < 0; omega
      have hk200 := h.kids_le hpin
      have hcond : (rd_T28 l e.f1).f4 < (l.length : Int) ∧ (rd_T28 l e.f1).f4 ≠ e.f1 ∧ (rd_T28 l (rd_T28 l e.f1).f4).f5.length ≤ 1000 := ⟨hpin.2, hne, by show (kids l (par l e.f1)).length ≤ 1000; omega⟩
      simp only [if_pos hi', if_neg hk, if_neg hp', if_pos hcond]
      have hev := jx_ev (kids l (par l e.f1)) e.f1 (by omega)
      rw [hix2] at hev
      exact ⟨_, Ev.bind (f := fun k i => if 0 ≤ i ∧ i < ((rd_T28 l (rd_T28 l e.f1).f4).f5.length : Int) then some (0, (l.set (rd_T28 l e.f1).f4.toNat { rd_T28 l (rd_T28 l e.f1).f4 with f5 := (rd_T28 l (rd_T28 l e.f1).f4).f5.eraseIdx i.toNat }).set e.f1.toNat { rd_T28 l e.f1 with f4 := -1 }) else none) hev (Ev.congr (fun k => if_pos ⟨by omega, by show (ii : Int) < ((kids l (par l e.f1)).length : Int); omega⟩) (Ev.now _))⟩
    obtain ⟨l3, h3⟩ := hA
    exact key hev h3 rfl
end
end Go.Proofs.YthfalaabfgpjmaaDoor.DocC
