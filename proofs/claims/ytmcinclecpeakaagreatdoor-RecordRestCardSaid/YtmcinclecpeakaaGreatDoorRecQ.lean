import Derived.Test.YtmcinclecpeakaaGreatDoorApO
import Derived.Test.YtmcinclecpeakaaGreatDoorGDocK
/- Edits that are done one by one (taken out of XApQ, XApR, XApU by mkrecq.py: nothing of package apart). -/
namespace Go.Proofs.YtmcinclecpeakaaGreatDoor.DocC
open Go.RowKit Go.Proofs.YtmcinclecpeakaaGreatDoorW.PrintWords Go.Proofs.YtmcinclecpeakaaGreatDoor.PRR Go.Proofs.YtmcinclecpeakaaGreatDoor.DocP
set_option linter.unusedVariables false
set_option linter.unusedSimpArgs false
section
variable {l : List S43} {q : Bool}
theorem deepGo_max {d : Nat} : ∀ (xs : List Int) (m : Int), (∀ x ∈ xs, ∃ r, Ev (fun k => deepF l k x) r ∧ 0 ≤ r ∧ r + (d + 1 : Nat) ≤ 40) → 0 ≤ m → m + d ≤ 40 →
    ∀ m', Ev (fun k => deepGo (deepF l k) xs m) m' → m' = m ∨ ∃ x ∈ xs, ∃ r, Ev (fun k => deepF l k x) r ∧ 0 ≤ r ∧ m' = r + 1
  | [], m, _, h0, h1, m', h => .inl (ev_one h (Ev.now m))
  | x :: xs, m, hx, h0, h1, m', h => by
    obtain ⟨r, hr, hr0, hr1⟩ := hx x List.mem_cons_self
    have e : wrap64 (r + 1) = r + 1 := wrap_in (by omega)
    have hm1 : m ≤ mx m (r + 1) ∧ r + 1 ≤ mx m (r + 1) ∧ (mx m (r + 1) = m ∨ mx m (r + 1) = r + 1) := by unfold mx; split <;> omega
    obtain ⟨m2, g1, g2, g3, g4⟩ := deepGo_ev xs (mx m (r + 1)) (fun y hy => hx y (List.mem_cons_of_mem _ hy)) (by omega) (by omega)
    have g5 : Ev (fun k => deepGo (deepF l k) (x :: xs) m) m2 := by
      show Ev (fun k => (deepF l k x).bind fun d => deepGo (deepF l k) xs (mx m (wrap64 (d + 1)))) m2
      refine Ev.bind (f := fun k d => deepGo (deepF l k) xs (mx m (wrap64 (d + 1)))) hr ?_
      rw [e]
      exact g1
    have g6 : m' = m2 := ev_one h g5
    subst g6
    rcases deepGo_max xs (mx m (r + 1)) (fun y hy => hx y (List.mem_cons_of_mem _ hy)) (by omega) (by omega) m' g1 with h2 | ⟨y, hy, s, hs, hs0, hs1⟩
    · rcases hm1.2.2 with h3 | h3
      · exact .inl (by omega)
      · exact .inr ⟨x, List.mem_cons_self, r, hr, hr0, by omega⟩
    · exact .inr ⟨y, List.mem_cons_of_mem _ hy, s, hs, hs0, hs1⟩
theorem deep_max (hw : WF l.length (par l) (kids l)) : ∀ (f : Nat) (d : Nat) (a : Int), In l.length a → Dep (par l) a d → 40 ≤ f + d → ∀ r, Ev (fun k => deepF l k a) r → 0 ≤ r ∧ ∃ x, In l.length x ∧ Under (par l) a x ∧ Dep (par l) x (d + r.toNat) := by
  intro f
  induction f with
  | zero =>
    intro d a ha hd h40 r hr
    obtain ⟨r', h1, h2, h3, h4⟩ := deep_ev hw 0 d a ha hd h40
    have h5 := ev_one hr h1
    subst h5
    have h6 : r = 0 := by omega
    subst h6
    exact ⟨Int.le_refl _, a, ha, .refl, by simpa using hd⟩
  | succ f ih =>
    intro d a ha hd h40 r hr
    have hd40 : d ≤ 40 := by obtain ⟨d', h1, h2⟩ := hw.dep a ha.1 ha.2; rw [hd.fn h2]; exact h1
    have hkid : ∀ c ∈ kids l a, In l.length c ∧ par l c = a ∧ Dep (par l) c (d + 1) := fun c hc => by
      obtain ⟨hc1, hc2⟩ := hw.kid_in ha hc
      exact ⟨hc1, hc2, .up (by rw [hc2]; exact ha.1) (by rw [hc2]; exact hd)⟩
    have hall : ∀ c ∈ kids l a, ∃ r, Ev (fun k => deepF l k c) r ∧ 0 ≤ r ∧ r + (d + 1 : Nat) ≤ 40 := fun c hc => by
      obtain ⟨h1, _, h2⟩ := hkid c hc
      obtain ⟨r, e1, e2, e3, _⟩ := deep_ev hw f (d + 1) c h1 h2 (by omega)
      exact ⟨r, e1, e2, e3⟩
    obtain ⟨m, g1, g2, _, _⟩ := deepGo_ev (l := l) (d := d) (kids l a) 0 hall (Int.le_refl _) (by omega)
    have g5 : Ev (fun k => deepF l k a) m := by
      refine Ev.step (fun k => ?_) g1
      show deepF l (k + 1) a = deepGo (deepF l k) (kids l a) 0
      simp only [deepF]
      rw [if_pos ha.1, if_pos ha.2]
      try rfl
    have g6 := ev_one hr g5
    subst g6
    refine ⟨g2, ?_⟩
    rcases deepGo_max (l := l) (d := d) (kids l a) 0 hall (Int.le_refl _) (by omega) r g1 with h | ⟨c, hc, s, hs, hs0, hs1⟩
    · subst h
      exact ⟨a, ha, .refl, by simpa using hd⟩
    · obtain ⟨h1, h2, h3⟩ := hkid c hc
      obtain ⟨_, x, hx1, hx2, hx3⟩ := ih (d + 1) c h1 h3 (by omega) s hs
      have hu : Under (par l) a c := .up (by rw [h2]; exact ha.1) (by rw [h2]; exact .refl)
      refine ⟨x, hx1, hu.trans hx2, ?_⟩
      rw [show d + r.toNat = d + 1 + s.toNat from by omega]
      exact hx3
/-- The depth that an insert leaves. -/
def Deep (P : Int → Int) (n : Nat) (f1 f2 : Int) : Prop := ∃ di, Dep P f1 di ∧ ∀ x, In n x → Under P f2 x → ∀ d, Dep P x d → d + 1 + di ≤ 40
theorem DocOk.zero (h : DocOk l) {j : Int} (hj : In l.length j) (hk : (rd_T43 l j).f0 ≠ 1) : 0 < j := by
  have h0 := hj.1
  have : j ≠ 0 := fun e => by
    subst e
    exact hk ((h.kind 0 hj).2 rfl)
  omega
theorem par_set (l : List S43) {i : Int} (hi : In l.length i) (y : S43) (hy : y.f4 = par l i) (a : Int) (ha : 0 ≤ a) : par (l.set i.toNat y) a = par l a := by
  show (rd_T43 (l.set i.toNat y) a).f4 = _
  rw [rd_set2 l hi]
  split
  · next e => rw [hy]; exact congrArg S43.f4 (rd_same l (i := i) (j := i) rfl) |>.trans (by show (rd_T43 l i).f4 = (rd_T43 l a).f4; rw [rd_same l e])
  · rfl
theorem par_two (l : List S43) {p x : Int} (hp : In l.length p) (hx : In l.length x) (y z : S43) (hy : y.f4 = par l p) (a : Int) (ha : 0 ≤ a) : par ((l.set p.toNat y).set x.toNat z) a = if a = x then z.f4 else par l a := by
  show (rd_T43 ((l.set p.toNat y).set x.toNat z) a).f4 = _
  rw [rd_two l hp hx y z a ha]
  split
  · rfl
  · split
    · next e => rw [hy, e]
    · rfl
/-- What else an edit that was done has shown. -/
theorem eff_can (h : DocOk l) {f : S45} {l2 : List S43} (hf : Eff l f l2) (h2 : DocOk l2) : (f.f0 = 1 → idxF (fun x => x.f0.toList == f.f4.toList) (rd_T43 l f.f1).f2 < 0 → (rd_T43 l f.f1).f2.length < 12) ∧ (f.f0 = 5 → Deep (par l) l.length f.f1 f.f2) := by
  cases hf with
  | @attr ats h0 hi hk hnm hv ha =>
    refine ⟨fun _ hx => ?_, fun h => by omega⟩
    have hi2 : In (l.set f.f1.toNat { rd_T43 l f.f1 with f2 := ats }).length f.f1 := by rw [List.length_set]; exact hi
    have h3 := (h2.oneOk hi2).2.2.2.2.1.1
    rw [rd_set2 l hi, if_pos rfl] at h3
    rcases ha with ⟨_, h4⟩ | ⟨i, _, h4, _⟩
    · rw [h4] at h3
      simp at h3
      omega
    · omega
  | @insert p h0 hi hj hki hkj htx hpj hp hpl hnu =>
    refine ⟨fun h => by omega, fun _ => ?_⟩
    obtain ⟨di, _, hdi⟩ := h.wf.dep f.f1 hi.1 hi.2
    refine ⟨di, hdi, fun x hx hu d hd => ?_⟩
    have hP : ∀ a, In l.length a → par ((l.set f.f1.toNat { rd_T43 l f.f1 with f5 := (kids l f.f1).take p ++ f.f2 :: (kids l f.f1).drop p }).set f.f2.toNat { rd_T43 l f.f2 with f4 := f.f1 }) a = if a = f.f2 then f.f1 else par l a := fun a ha => par_two l hi hj _ _ (by rfl) a ha.1
    have h3 := dep_in h.wf hP hi hj hpj hdi hnu hu hx d hd
    obtain ⟨d', h4, h5⟩ := h2.wf.dep x hx.1 (by rw [List.length_set, List.length_set]; exact hx.2)
    have := h3.fn h5
    omega
  | _ => exact ⟨fun h => by omega, fun h => by omega⟩
/-- What else must be for an edit to be done. -/
structure Can (l : List S43) (e : S45) : Prop where
  room : e.f0 = 1 → idxF (fun x => x.f0.toList == e.f4.toList) (rd_T43 l e.f1).f2 < 0 → (rd_T43 l e.f1).f2.length < 12
  deep : e.f0 = 5 → ∃ di, Dep (par l) e.f1 di ∧ ∀ x, In l.length x → Under (par l) e.f2 x → ∀ d, Dep (par l) x d → d + 1 + di ≤ 40
set_option maxHeartbeats 2000000 in
theorem insert_zero (h : DocOk l) {e : S45} {l' : List S43} (hE : Eff l e l') (h0 : e.f0 = 5) (hc : Can l e) : ∃ l2, Ev (fun k => insertF k l q e) (0, l2) := by
  cases hE with
  | @insert p h0' hi hj hki hkj htx hpj hp hpl hnu =>
    unfold insertF
    have hcond : (0 ≤ e.f1 ∧ e.f1 < (l.length : Int)) ∧ (0 ≤ e.f2 ∧ e.f2 < (l.length : Int)) := ⟨hi, hj⟩
    simp only [if_pos hcond]
    obtain ⟨pb, hpb⟩ := parent_some (rd_T43 l e.f1).f0
    simp only [hpb, Option.bind_some]
    have hpt : pb = true := by
      unfold dom_parent.f at hpb
      rcases hki with hk | hk
      · rw [if_pos hk] at hpb; exact (Option.some.inj hpb).symm
      · rw [hk] at hpb; exact (Option.some.inj hpb).symm
    have c1 : ¬ (pb = false ∨ (rd_T43 l e.f2).f0 = 1 ∨ ((rd_T43 l e.f1).f0 = 1 ∧ (rd_T43 l e.f2).f0 = 3)) := by
      rintro (h1 | h1 | h1)
      · rw [hpt] at h1; cases h1
      · exact hkj h1
      · exact htx h1
    simp only [if_neg c1]
    have c2 : ¬ 0 ≤ (rd_T43 l e.f2).f4 := by show ¬ 0 ≤ par l e.f2; omega
    simp only [if_neg c2]
    have hk200 := h.kids_le hi
    have hk1000 : (rd_T43 l e.f1).f5.length ≤ 1000 := by show (kids l e.f1).length ≤ 1000; omega
    simp only [if_pos hk1000]
    obtain ⟨p', hp', hple⟩ := place_ev (rd_T43 l e.f1).f5 e.f3 hk200
    have c3 : ¬ p' < 0 := by
      unfold placeF at hp'
      rcases hpl with ⟨g1, g2⟩ | ⟨g1, g2⟩
      · simp only [if_pos g1] at hp'
        have := ev_one hp' (Ev.now _)
        omega
      · simp only [if_neg g1] at hp'
        have := ev_one hp' (jx_ev _ e.f3 (by omega))
        have g2' : ix (rd_T43 l e.f1).f5 e.f3 = p := g2
        omega
    obtain ⟨di, hdi, hdeep⟩ := hc.deep h0
    obtain ⟨bb, hbb, hbu⟩ := below_ev h.wf hj.1 di e.f1 hi hdi
    have c4 : ¬ bb = true := fun hb => hnu (hbu.1 hb)
    obtain ⟨r, hr, hr0, hr1, hr2⟩ := deep_ev h.wf 40 0 e.f2 hj (.top hpj) (by omega)
    obtain ⟨_, x, hx1, hx2, hx3⟩ := deep_max h.wf 40 0 e.f2 hj (.top hpj) (by omega) r hr
    have hx4 := hdeep x hx1 hx2 _ hx3
    have hup := upv_ev (q := q) h.wf h.len hi hdi
    have c5 : ¬ 40 < wrap64 (wrap64 ((di : Int) + 1) + r) := by rw [wrap_in (x := (di : Int) + 1) (by omega), wrap_in (by omega)]; omega
    exact ⟨_, Ev.bind (f := fun k p => if p < 0 then _ else _) hp' (Ev.congr (fun k => if_neg c3) (Ev.bind (f := fun k bb => if bb = true then _ else _) hbb (Ev.congr (fun k => if_neg c4) (Ev.bind (f := fun k u => (deepF l k e.f2).bind fun dp => if 40 < wrap64 (wrap64 (u + 1) + dp) then _ else _) hup (Ev.bind (f := fun k dp => if 40 < wrap64 (wrap64 ((di : Int) + 1) + dp) then _ else _) hr (Ev.congr (fun k => (if_neg c5).trans (if_pos hple)) (Ev.now _)))))))⟩
  | _ => omega
set_option maxHeartbeats 2000000 in
theorem eff_zero (h : DocOk l) {e : S45} {l' : List S43} (hE : Eff l e l') (hc : Can l e) {made r m : Int} {l2 : List S43} (hev : Ev (fun k => editF k l q made e) (r, l2, m)) : r = 0 := by
  have hE' := hE
  have key : ∀ {g : Nat → Option (Int × List S43)} {t : Int × List S43}, Ev (fun k => (g k).map (fun p => (p.1, p.2, made))) (r, l2, m) → Ev g t → t.1 = 0 → r = 0 := by
    intro g t h1 h2 h3
    have h4 := ev_one h1 (ev_map h2 _)
    injection h4 with h5 h6
    exact h5.trans h3
  unfold editF at hev
  cases hE with
  | text h0 hi hk hv =>
    simp only [if_pos h0] at hev
    have h1 := ev_one hev (Ev.now _)
    injection h1 with h2 h3
    rw [h2]
    unfold textF
    rw [if_pos (show 0 ≤ e.f1 ∧ e.f1 < (l.length : Int) from hi), if_pos hk, if_neg (by omega)]
  | attr h0 hi hk hnm hv ha =>
    simp only [if_neg (show ¬ e.f0 = 3 by omega), if_neg (show ¬ e.f0 = 4 by omega), if_neg (show ¬ e.f0 = 5 by omega), if_pos h0] at hev
    have hA : ∃ t, attrF l e = some t ∧ t.1 = 0 := by
      unfold attrF
      have ho := (h.oneOk hi).2.2.2.2.1
      rw [if_pos (show 0 ≤ e.f1 ∧ e.f1 < (l.length : Int) from hi), if_pos hk, if_pos (by have := ho.1; omega), find_is, hnm]
      have c3 : ¬ (idxF (fun x => x.f0.toList == e.f4.toList) (rd_T43 l e.f1).f2 < 0 ∧ (rd_T43 l e.f1).f2.length = 12) := fun hh => by have := hc.room h0 hh.1; omega
      simp only [Option.bind_some]
      rw [if_neg (by decide : ¬ (true = false)), if_neg (by omega : ¬ 400 < (e.f5.size : Int)), if_neg c3]
      by_cases c4 : idxF (fun x => x.f0.toList == e.f4.toList) (rd_T43 l e.f1).f2 < 0
      · rw [if_pos c4]; exact ⟨_, rfl, rfl⟩
      · rw [if_neg c4]
        have hlt : idxF (fun x => x.f0.toList == e.f4.toList) (rd_T43 l e.f1).f2 < ((rd_T43 l e.f1).f2.length : Int) := by
          rcases idx_lt (fun x => x.f0.toList == e.f4.toList) (rd_T43 l e.f1).f2 with h | h
          · exact h
          · omega
        rw [if_pos hlt]
        exact ⟨_, rfl, rfl⟩
    obtain ⟨t, ht, ht0⟩ := hA
    exact key hev (Ev.congr (fun _ => ht) (Ev.now _)) ht0
  | drop h0 hi hk hix hl =>
    simp only [if_neg (show ¬ e.f0 = 3 by omega), if_neg (show ¬ e.f0 = 4 by omega), if_neg (show ¬ e.f0 = 5 by omega), if_neg (show ¬ e.f0 = 1 by omega), if_pos h0] at hev
    have hA : ∃ t, dropF l e = some t ∧ t.1 = 0 := by
      unfold dropF
      have ho := (h.oneOk hi).2.2.2.2.1
      rw [if_pos (show 0 ≤ e.f1 ∧ e.f1 < (l.length : Int) from hi), if_pos hk, if_pos (by have := ho.1; omega), find_is]
      simp only [Option.bind_some]
      rw [if_neg (by omega), if_pos (by omega)]
      exact ⟨_, rfl, rfl⟩
    obtain ⟨t, ht, ht0⟩ := hA
    exact key hev (Ev.congr (fun _ => ht) (Ev.now _)) ht0
  | make h0 hk h1 hl ho =>
    simp only [if_neg (show ¬ e.f0 = 3 by omega), if_pos h0] at hev
    unfold makeF at hev
    simp only [if_pos hk, if_neg h1] at hev
    obtain ⟨s, hs, hok⟩ := one_val e.f6
    have hs0 := hok.2 ho
    have ha : e.f6.f2.length ≤ 12 := ho.2.2.2.2.1.1
    have h2 := ev_one hev (Ev.bind (f := fun k r => if r = 0 then _ else _) hs (Ev.congr (fun k => (if_pos hs0).trans (if_pos ⟨hl, by omega⟩)) (Ev.now _)))
    injection h2
  | insert h0 hi hj hki hkj htx hpj hp hpl hnu =>
    simp only [if_neg (show ¬ e.f0 = 3 by omega), if_neg (show ¬ e.f0 = 4 by omega), if_pos h0] at hev
    obtain ⟨l3, h3⟩ := insert_zero (q := q) h hE' h0 hc
    exact key hev h3 rfl
  | @remove ii h0 hi hk hp hpin hne hil hix1 hix2 =>
    simp only [if_neg (show ¬ e.f0 = 3 by omega), if_neg (show ¬ e.f0 = 4 by omega), if_neg (show ¬ e.f0 = 5 by omega), if_neg (show ¬ e.f0 = 1 by omega), if_neg (show ¬ e.f0 = 2 by omega), if_pos h0] at hev
    have hA : ∃ l3, Ev (fun k => removeF k l e) (0, l3) := by
      unfold removeF
      have hi' : 0 ≤ e.f1 ∧ e.f1 < (l.length : Int) := hi
      have hp' : ¬ (rd_T43 l e.f1).f4 < 0 := by show ¬ par l e.f1 < 0; omega
      have hk200 := h.kids_le hpin
      have hcond : (rd_T43 l e.f1).f4 < (l.length : Int) ∧ (rd_T43 l e.f1).f4 ≠ e.f1 ∧ (rd_T43 l (rd_T43 l e.f1).f4).f5.length ≤ 1000 := ⟨hpin.2, hne, by show (kids l (par l e.f1)).length ≤ 1000; omega⟩
      simp only [if_pos hi', if_neg hk, if_neg hp', if_pos hcond]
      have hev := jx_ev (kids l (par l e.f1)) e.f1 (by omega)
      rw [hix2] at hev
      exact ⟨_, Ev.bind (f := fun k i => if 0 ≤ i ∧ i < ((rd_T43 l (rd_T43 l e.f1).f4).f5.length : Int) then some (0, (l.set (rd_T43 l e.f1).f4.toNat { rd_T43 l (rd_T43 l e.f1).f4 with f5 := (rd_T43 l (rd_T43 l e.f1).f4).f5.eraseIdx i.toNat }).set e.f1.toNat { rd_T43 l e.f1 with f4 := -1 }) else none) hev (Ev.congr (fun k => if_pos ⟨by omega, by show (ii : Int) < ((kids l (par l e.f1)).length : Int); omega⟩) (Ev.now _))⟩
    obtain ⟨l3, h3⟩ := hA
    exact key hev h3 rfl
/-- An edit that may be done, and is: in the editor's words. -/
theorem edit_done {e : S45} {l1 : List S43} (h : DocOk l) (he : Eff l e l1) (hc : Can l e) (made : Int) : ∃ m, Ev (fun k => editF k l q made e) (0, l1, m) ∧ DocOk l1 := by
  obtain ⟨r, l', m, h1, h2⟩ := edit_good (q := q) h made e
  have hr := eff_zero h he hc h1
  subst hr
  have h3 := eff_upd (edit_eff h h1).1
  rw [← eff_upd he] at h3
  subst h3
  exact ⟨m, h1, (h2 rfl).1⟩
end
end Go.Proofs.YtmcinclecpeakaaGreatDoor.DocC
namespace Go.Proofs.YtmcinclecpeakaaGreatDoor.ApA
open Go.RowKit Go.Proofs.YtmcinclecpeakaaGreatDoorW.PrintWords Go.Proofs.YtmcinclecpeakaaGreatDoorW.PrintLast Go.Proofs.YtmcinclecpeakaaGreatDoorW.PrintMore Go.Proofs.YtmcinclecpeakaaGreatDoor.PRR Go.Proofs.YtmcinclecpeakaaGreatDoor.DocP Go.Proofs.YtmcinclecpeakaaGreatDoor.DocC
set_option linter.unusedVariables false
set_option linter.unusedSimpArgs false
/-- An edit that is done. -/
def Done (q : Bool) (l : List S43) (e : S45) (l1 : List S43) : Prop := DocOk l ∧ DocOk l1 ∧ Eff l e l1 ∧ DocC.Can l e
theorem Done.ev {q : Bool} {l l1 : List S43} {e : S45} (h : Done q l e l1) (made : Int) : ∃ m, Ev (fun k => editF k l q made e) (0, l1, m) := by
  obtain ⟨m, h1, _⟩ := edit_done (q := q) h.1 h.2.2.1 h.2.2.2 made
  exact ⟨m, h1⟩
theorem Done.of {q : Bool} {l l1 : List S43} {e : S45} {made m : Int} (h : DocOk l) (hev : Ev (fun k => editF k l q made e) (0, l1, m)) : Done q l e l1 := by
  obtain ⟨r, l', m', h1, h2⟩ := edit_good (q := q) h made e
  have h3 := ev_one hev h1
  injection h3 with h4 h5
  injection h5 with h5 h6
  subst h4 h5
  have hE := (edit_eff h hev).1
  have hc := eff_can h hE (h2 rfl).1
  exact ⟨h, (h2 rfl).1, hE, hc.1, hc.2⟩
/-- Edits that are done, one behind the other. -/
inductive Run (q : Bool) : List S43 → List S45 → List S43 → Prop
  | nil {l} (h : DocOk l) : Run q l [] l
  | cons {l e l1 es l2} (h : Done q l e l1) (hr : Run q l1 es l2) : Run q l (e :: es) l2
theorem Run.go {q : Bool} {l l2 : List S43} {es : List S45} (h : Run q l es l2) : ∀ made i, Ev (fun k => allGo k q es l made i) (l2, q, 0, 0) := by
  induction h with
  | nil h => intro made i; exact Ev.now _
  | cons h hr ih =>
    rename_i l e l1 es l2
    intro made i
    obtain ⟨m, h1⟩ := h.ev made
    show Ev (fun k => (editF k l q made e).bind fun t => if t.1 = 0 then allGo k q es t.2.1 t.2.2 (i + 1) else some ([], false, i, t.1)) _
    exact Ev.bind (f := fun k t => if t.1 = 0 then allGo k q es t.2.1 t.2.2 (i + 1) else some ([], false, i, t.1)) h1 (Ev.congr (fun k => if_pos rfl) (ih m (i + 1)))
theorem Run.docs {q : Bool} {l l2 : List S43} {es : List S45} (h : Run q l es l2) : DocOk l ∧ DocOk l2 := by
  induction h with
  | nil h => exact ⟨h, h⟩
  | cons h hr ih => exact ⟨h.1, ih.2⟩
theorem Run.all {q : Bool} {l l2 : List S43} {es : List S45} (h : Run q l es l2) (h40 : es.length ≤ 40) : Ev (fun k => dom_All.f k l q es) (l2, q, 0, 0) := all_doc h.docs.1 q es h40 (h.go 0 0)
theorem run_of_go {q : Bool} : ∀ (es : List S45) (l : List S43) (made i : Int) (l2 : List S43) (q2 : Bool) (j : Int), DocOk l → Ev (fun k => allGo k q es l made i) (l2, q2, j, 0) → Run q l es l2
  | [], l, made, i, l2, q2, j, h, hev => by
    have h1 := ev_one hev (Ev.now (l, q, 0, 0))
    injection h1 with h2 _
    subst h2
    exact .nil h
  | e :: es, l, made, i, l2, q2, j, h, hev => by
    obtain ⟨r, l1, m, h1, h2⟩ := edit_good (q := q) h made e
    have h3 : Ev (fun k => (editF k l q made e).bind fun t => if t.1 = 0 then allGo k q es t.2.1 t.2.2 (i + 1) else some ([], false, i, t.1)) (l2, q2, j, 0) := hev
    by_cases hr : r = 0
    · subst hr
      obtain ⟨r2, l3, j2, h4, _, h5⟩ := go_good q es l1 (h2 rfl).1
      have h6 := h5 [] m (i + 1)
      rw [List.append_nil] at h6
      by_cases hr2 : r2 = 0
      · have h7 : Ev (fun k => allGo k q es l1 m (i + 1)) (l3, q, 0, 0) := h6.2 hr2 _ (fun _ => Ev.now _)
        have h8 := ev_one h3 (Ev.bind (f := fun k t => if t.1 = 0 then allGo k q es t.2.1 t.2.2 (i + 1) else some ([], false, i, t.1)) h1 (Ev.congr (fun k => if_pos rfl) h7))
        injection h8 with h9 _
        subst h9
        exact .cons (Done.of h h1) (run_of_go es l1 m (i + 1) l2 q 0 (h2 rfl).1 h7)
      · have h7 := h6.1 hr2
        have h8 := ev_one h3 (Ev.bind (f := fun k t => if t.1 = 0 then allGo k q es t.2.1 t.2.2 (i + 1) else some ([], false, i, t.1)) h1 (Ev.congr (fun k => if_pos rfl) h7))
        injection h8 with _ h9
        injection h9 with _ h9
        injection h9 with _ h9
        exact absurd h9.symm hr2
    · have h8 := ev_one h3 (Ev.bind (f := fun k t => if t.1 = 0 then allGo k q es t.2.1 t.2.2 (i + 1) else some ([], false, i, t.1)) h1 (Ev.congr (f := fun _ => some ([], false, i, r)) (fun k => if_neg hr) (Ev.now _)))
      injection h8 with _ h9
      injection h9 with _ h9
      injection h9 with _ h9
      exact absurd h9.symm hr
/-- What dom.All comes to, for whatever document and edits. -/
theorem all_any {l : List S43} (hf : Fit l) (q : Bool) (es : List S45) : ∃ l2 q2 i er, Ev (fun k => dom_All.f k l q es) (l2, q2, i, er) ∧ (er = 0 → es.length ≤ 40 ∧ Run q l es l2) := by
  obtain ⟨c, hc, _⟩ := check_ev l q hf
  by_cases hc0 : c = 0
  · subst hc0
    have h := check_doc hc hf
    by_cases h40 : es.length ≤ 40
    · obtain ⟨r, l2, j, h1, h2, h3, _⟩ := all_good h q es h40
      by_cases hr : r = 0
      · subst hr
        rw [if_pos rfl] at h3
        refine ⟨_, _, _, _, h3, fun _ => ⟨h40, ?_⟩⟩
        obtain ⟨r2, l3, j2, g1, _, g3⟩ := go_good q es l h
        have g4 := g3 [] 0 0
        rw [List.append_nil] at g4
        by_cases hr2 : r2 = 0
        · have g5 := g4.2 hr2 _ (fun _ => Ev.now (l3, q, 0, 0))
          have g6 := ev_one h3 (all_doc h q es h40 g5)
          injection g6 with g7 _
          subst g7
          exact run_of_go es l 0 0 l2 q 0 h g5
        · have g6 := ev_one h3 (all_doc h q es h40 (g4.1 hr2))
          injection g6 with _ g7
          injection g7 with _ g7
          injection g7 with _ g7
          exact absurd g7.symm hr2
      · rw [if_neg hr] at h3
        exact ⟨_, _, _, _, h3, fun h => absurd h hr⟩
    · refine ⟨[], false, 0, 2, ?_, fun h => absurd h (by decide)⟩
      unfold dom_All.f
      exact Ev.bind (f := fun k c => if c = 0 then (if es.length > 40 then some ([], false, 0, 2) else if allOk l = true then allGo k q es l 0 0 else none) else some ([], false, 0, c)) hc (Ev.congr (f := fun _ => some ([], false, 0, 2)) (fun k => (if_pos rfl).trans (if_pos (by omega))) (Ev.now _))
  · exact ⟨_, _, _, _, all_bad hc hc0 es, fun h => absurd h hc0⟩
theorem Run.append {q : Bool} {l m l2 : List S43} {a b : List S45} (h : Run q l a m) (h' : Run q m b l2) : Run q l (a ++ b) l2 := by
  induction h with
  | nil h => exact h'
  | cons h hr ih => exact .cons h (ih h')
theorem Run.split {q : Bool} : ∀ (a : List S45) {b : List S45} {l l2 : List S43}, Run q l (a ++ b) l2 → ∃ m, Run q l a m ∧ Run q m b l2
  | [], b, l, l2, h => ⟨l, .nil h.docs.1, h⟩
  | e :: a, b, l, l2, h => by
    cases h with
    | cons h hr =>
      obtain ⟨m, h1, h2⟩ := Run.split a hr
      exact ⟨m, .cons h h1, h2⟩
theorem bytes_ext {a b : ByteArray} (h : a.toList = b.toList) : a = b := by
  rw [Lib.toList_data, Lib.toList_data] at h
  cases a with
  | mk x =>
    cases b with
    | mk y =>
      congr 1
      exact Array.toList_inj.1 h
theorem idx_app {α : Type} (p : α → Bool) (xs : List α) (y : α) (h : idxF p xs < 0) (hy : p y = true) : idxF p (xs ++ [y]) = xs.length := by
  refine idxF_some ?_
  rw [List.findIdx?_eq_some_iff_getElem]
  refine ⟨by simp, by simpa using hy, fun j hj => ?_⟩
  have := idx_neg.1 h xs[j] (List.getElem_mem hj)
  rw [List.getElem_append_left hj]
  simpa using this
theorem idx_set {α : Type} (p : α → Bool) (xs : List α) (i : Nat) (y : α) (hi : idxF p xs = i) (hl : i < xs.length) (hy : p y = true) : idxF p (xs.set i y) = i := by
  unfold idxF at hi
  cases hf : xs.findIdx? p with
  | none => rw [hf] at hi; simp at hi
  | some j =>
    rw [hf] at hi
    have hj : j = i := by
      have h9 : (j : Int) = (i : Int) := hi
      omega
    subst hj
    obtain ⟨_, _, h3⟩ := List.findIdx?_eq_some_iff_getElem.1 hf
    refine idxF_some ?_
    rw [List.findIdx?_eq_some_iff_getElem]
    refine ⟨by simpa using hl, by simpa using hy, fun k hk => ?_⟩
    rw [List.getElem_set_ne (by omega)]
    exact h3 k hk
end Go.Proofs.YtmcinclecpeakaaGreatDoor.ApA
