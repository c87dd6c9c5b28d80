import Derived.Test.YtmcinclecpeakaaGreatDoorDocD
import Derived.Test.YtmcinclecpeakaaGreatDoorGDocP
/- dom.Check, both ways: it answers 0 just where a document is right. -/
namespace Go.Proofs.YtmcinclecpeakaaGreatDoor.DocC
open Go.RowKit Go.Proofs.YtmcinclecpeakaaGreatDoorW.PrintWords Go.Proofs.YtmcinclecpeakaaGreatDoor.PRR Go.Proofs.YtmcinclecpeakaaGreatDoor.DocP
set_option linter.unusedVariables false
set_option linter.unusedSimpArgs false
theorem ev_one {α : Type} {f : Nat → Option α} {x y : α} (h : Ev f x) (h' : Ev f y) : x = y := by
  obtain ⟨K, h1⟩ := h
  obtain ⟨K', h2⟩ := h'
  exact Option.some.inj ((h1 (K + K') (by omega)).symm.trans (h2 (K + K') (by omega)))
/-- A node that may be, by itself. -/
def OneN (x : S43) : Prop := Ev (fun k => dom_one.f k x.f0 x.f1 x.f2 x.f3 x.f4 x.f5) 0
/-- A document that is right. -/
structure DocOk (l : List S43) : Prop where
  len : l.length ≤ 200
  wf : WF l.length (par l) (kids l)
  kind : ∀ i : Int, In l.length i → ((rd_T43 l i).f0 = 1 ↔ i = 0)
  one : ∀ i : Int, In l.length i → OneN (rd_T43 l i)
  top : ∀ k ∈ kids l 0, (rd_T43 l k).f0 ≠ 3
section
variable (l : List S43) (q : Bool)
theorem kind_b (a i : Int) : ((a == 1) != (i == 0)) = true ↔ ¬ (a = 1 ↔ i = 0) := by
  by_cases h1 : a = 1
  · subst h1
    by_cases h2 : i = 0
    · subst h2; simp
    · simp [h2]
  · have e1 : (a == 1) = false := by simpa using h1
    by_cases h2 : i = 0
    · subst h2; simp [h1]
    · have e2 : (i == 0) = false := by simpa using h2
      rw [e1, e2]; simp [h1, h2]
/-! ### What is wrong is told -/
theorem check_bad {j : Int} (hj : In l.length j) (hl : l.length ≤ 200) (hbad : ¬ ((rd_T43 l j).f0 = 1 ↔ j = 0) ∨ ¬ OneN (rd_T43 l j)) : ∀ (m : Nat) (i : Int), 0 ≤ i → i + m = j → ∃ r, Ev (fun k => dom_Check.l0 k l (l.length : Int) i l q) r ∧ r ≠ 0 := by
  have h1 := hj.2
  intro m
  induction m with
  | zero =>
    intro i h0 he
    have hij : i = j := by omega
    subst hij
    by_cases hkd : ((((rd_T43 l i).f0) == 1) != (i == 0)) = true
    · refine ⟨3, Ev.step (f := fun _ => some 3) (fun k => ?_) (Ev.now 3), by decide⟩
      simp only [dom_Check.l0]
      rw [if_pos (by omega), if_pos h0, if_pos (by omega), if_pos hkd]
    · obtain ⟨u, hu⟩ := one_ev (rd_T43 l i).f0 (rd_T43 l i).f1 (rd_T43 l i).f2 (rd_T43 l i).f3 (rd_T43 l i).f4 (rd_T43 l i).f5
      have hu0 : u ≠ 0 := fun e => by
        rcases hbad with h | h
        · exact h (Classical.byContradiction fun hn => hkd ((kind_b _ _).2 hn))
        · exact h (by rw [e] at hu; exact hu)
      exact ⟨u, Ev.step (fun k => by simp only [dom_Check.l0]; rw [if_pos (by omega), if_pos h0, if_pos (by omega), if_neg hkd]) (Ev.bind (f := fun k t => if t = 0 then dom_Check.l0 k l (l.length : Int) (wrap64 (i + 1)) l q else some t) hu (Ev.congr (f := fun _ => some u) (fun k => by rw [if_neg hu0]) (Ev.now u))), hu0⟩
  | succ m ih =>
    intro i h0 he
    obtain ⟨r, hr, hr0⟩ := ih (i + 1) (by omega) (by omega)
    by_cases hkd : ((((rd_T43 l i).f0) == 1) != (i == 0)) = true
    · refine ⟨3, Ev.step (f := fun _ => some 3) (fun k => ?_) (Ev.now 3), by decide⟩
      simp only [dom_Check.l0]
      rw [if_pos (by omega), if_pos h0, if_pos (by omega), if_pos hkd]
    · obtain ⟨u, hu⟩ := one_ev (rd_T43 l i).f0 (rd_T43 l i).f1 (rd_T43 l i).f2 (rd_T43 l i).f3 (rd_T43 l i).f4 (rd_T43 l i).f5
      by_cases hu0 : u = 0
      · exact ⟨r, Ev.step (fun k => by simp only [dom_Check.l0]; rw [if_pos (by omega), if_pos h0, if_pos (by omega), if_neg hkd]) (Ev.bind (f := fun k t => if t = 0 then dom_Check.l0 k l (l.length : Int) (wrap64 (i + 1)) l q else some t) hu (Ev.congr (fun k => by rw [if_pos hu0, wrap_in (by omega)]) hr)), hr0⟩
      · exact ⟨u, Ev.step (fun k => by simp only [dom_Check.l0]; rw [if_pos (by omega), if_pos h0, if_pos (by omega), if_neg hkd]) (Ev.bind (f := fun k t => if t = 0 then dom_Check.l0 k l (l.length : Int) (wrap64 (i + 1)) l q else some t) hu (Ev.congr (f := fun _ => some u) (fun k => by rw [if_neg hu0]) (Ev.now u))), hu0⟩
theorem top_bad (hl : l.length ≤ 200) (hf : Fit l) (hn : 0 < l.length) : ∀ (m : Nat) (j : Int) (seen : List Bool), seen.length = l.length → 0 ≤ j → j + m = (kids l 0).length → (∃ x ∈ (kids l 0).drop j.toNat, (rd_T43 l x).f0 = 3) →
    ∃ r, Ev (fun k => dom_kids.l1 k seen 0 l (l.length : Int) 0 (kids l 0) ((kids l 0).length : Int) j l q) r ∧ r ≠ 0 := by
  have hfi := hf 0
  intro m
  induction m with
  | zero =>
    intro j seen hs h0 he hx
    rw [List.drop_eq_nil_of_le (by omega)] at hx
    obtain ⟨x, hx, _⟩ := hx
    cases hx
  | succ m ih =>
    intro j seen hs h0 he hbad
    have hjl : j.toNat < (kids l 0).length := by omega
    obtain ⟨x, hx0⟩ : ∃ x, rd (kids l 0) j = x := ⟨_, rfl⟩
    have hx : rd (kids l 0) j = (kids l 0)[j.toNat] := by unfold rd; rw [List.getD_eq_getElem?_getD, List.getElem?_eq_getElem hjl]; rfl
    have hdr : (kids l 0).drop j.toNat = x :: (kids l 0).drop (j + 1).toNat := by
      rw [List.drop_eq_getElem_cons hjl, ← hx, hx0, show (j + 1).toNat = j.toNat + 1 from by omega]
    have hno : (∀ k, dom_kids.l1 (k + 1) seen 0 l (l.length : Int) 0 (kids l 0) ((kids l 0).length : Int) j l q = dom_kids.j2 k seen 0 x l (l.length : Int) 0 (kids l 0) ((kids l 0).length : Int) j true l q) →
        ∃ r, Ev (fun k => dom_kids.l1 k seen 0 l (l.length : Int) 0 (kids l 0) ((kids l 0).length : Int) j l q) r ∧ r ≠ 0 := by
      intro hstep
      exact ⟨3, Ev.step hstep (Ev.step (f := fun _ => some 3) (fun k => by simp only [dom_kids.j2, if_true]) (Ev.now 3)), by decide⟩
    by_cases x0 : x < 0
    · exact hno (fun k => by simp only [dom_kids.l1]; rw [if_pos (by omega), if_pos h0, if_pos (by omega), hx0, if_pos x0])
    by_cases x1 : x ≥ (seen.length : Int)
    · exact hno (fun k => by simp only [dom_kids.l1]; rw [if_pos (by omega), if_pos h0, if_pos (by omega), hx0, if_neg x0, if_pos x1])
    by_cases x2 : par l x = 0
    rotate_left
    · exact hno (fun k => by simp only [dom_kids.l1]; rw [if_pos (by omega), if_pos h0, if_pos (by omega), hx0, if_neg x0, if_neg x1, if_pos (by omega), if_pos (by omega), if_neg x2])
    by_cases x3 : rdOf false seen x = true
    · exact hno (fun k => by simp only [dom_kids.l1]; rw [if_pos (by omega), if_pos h0, if_pos (by omega), hx0, if_neg x0, if_neg x1, if_pos (by omega), if_pos (by omega), if_pos x2, if_pos (by omega), x3])
    have x3 : rdOf false seen x = false := by simpa using x3
    have hst : ∀ k, dom_kids.l1 (k + 1) seen 0 l (l.length : Int) 0 (kids l 0) ((kids l 0).length : Int) j l q = dom_kids.j2 k seen 0 x l (l.length : Int) 0 (kids l 0) ((kids l 0).length : Int) j false l q := fun k => by
      simp only [dom_kids.l1]; rw [if_pos (by omega), if_pos h0, if_pos (by omega), hx0, if_neg x0, if_neg x1, if_pos (by omega), if_pos (by omega), if_pos x2, if_pos (by omega), x3]
    by_cases x4 : (rd_T43 l x).f0 = 3
    · refine ⟨7, Ev.step hst (Ev.step (f := fun _ => some 7) (fun k => ?_) (Ev.now 7)), by decide⟩
      simp only [dom_kids.j2, Bool.false_eq_true, if_false]
      rw [if_pos trivial, if_pos (by omega), if_pos (by omega), if_pos x4]
    · obtain ⟨r, hr, hr0⟩ := ih (j + 1) (seen.set x.toNat true) (by simpa using hs) (by omega) (by omega) (by
        obtain ⟨y, hy, hy3⟩ := hbad
        rw [hdr] at hy
        rcases List.mem_cons.1 hy with rfl | hy
        · exact absurd hy3 x4
        · exact ⟨y, hy, hy3⟩)
      refine ⟨r, Ev.step hst (Ev.step (fun k => ?_) hr), hr0⟩
      show dom_kids.j2 (k + 1) _ _ _ _ _ _ _ _ _ _ _ _ = dom_kids.l1 k (seen.set x.toNat true) 0 l (l.length : Int) 0 (kids l 0) ((kids l 0).length : Int) (j + 1) l q
      simp only [dom_kids.j2, Bool.false_eq_true, if_false]
      rw [if_pos trivial, if_pos (by omega), if_pos (by omega), if_neg x4, if_pos (by omega), wrap_in (by omega)]
/-! ### What is right is told -/
theorem up_ok {n : Nat} {P : Int → Int} {K : Int → List Int} (hw : WF n P K) {a : Int} {d : Nat} (ha : In n a) (hd : Dep P a d) : d < n := by
  have hin : ∀ e, e ≤ d → In n (DocT.ancP P e a) ∧ Dep P (DocT.ancP P e a) (d - e) := fun e he => DocT.anc_dep hw e (d - e) a ha (by rw [show e + (d - e) = d from by omega]; exact hd)
  have hnd : ((List.range (d + 1)).map fun e => DocT.ancP P e a).Nodup := by
    refine List.pairwise_iff_getElem.2 ?_
    intro i j hi hj hij
    simp only [List.length_map, List.length_range] at hj
    simp only [List.getElem_map, List.getElem_range]
    intro e
    have h1 := (hin i (by omega)).2
    have h2 := (hin j (by omega)).2
    rw [e] at h1
    have := h1.fn h2
    omega
  have := nodup_len n _ hnd (fun x hx => by
    obtain ⟨e, he, rfl⟩ := List.mem_map.1 hx
    exact (hin e (by have := List.mem_range.1 he; omega)).1)
  have h2 : d + 1 ≤ n := by simpa using this
  omega
theorem up_run (hw : WF l.length (par l) (kids l)) (hl : l.length ≤ 200) : ∀ (d : Nat) (a m : Int), In l.length a → Dep (par l) a d → 0 ≤ m → m + d ≤ l.length → Ev (fun k => dom_up.l0 k a m l q) (m + d) := by
  intro d
  induction d with
  | zero =>
    intro a m ha hd h0 hm
    have hp : par l a < 0 := by cases hd with | top h => exact h
    rw [show m + ((0 : Nat) : Int) = m from by omega]
    refine Ev.step (f := fun _ => some m) (fun k => ?_) (Ev.now m)
    show dom_up.l0 (k + 1) a m l q = some m
    simp only [dom_up.l0]
    rw [if_pos ha.1, if_pos ha.2, if_neg (show ¬ par l a ≥ 0 by omega)]
  | succ d ih =>
    intro a m ha hd h0 hm
    cases hd with
    | up hp hd =>
      have h1 := ih (par l a) (m + 1) (DocT.WFin hw ha hp) hd (by omega) (by omega)
      rw [show m + 1 + (d : Int) = m + ((d + 1 : Nat) : Int) from by omega] at h1
      refine Ev.step (fun k => ?_) h1
      show dom_up.l0 (k + 1) a m l q = dom_up.l0 k (par l a) (m + 1) l q
      simp only [dom_up.l0]
      rw [if_pos ha.1, if_pos ha.2, if_pos (show par l a ≥ 0 from hp), if_pos (by omega), wrap_in (by omega)]
/-- The marks behind all kids of nodes below i, and j kids of i. -/
def Seen (n : Nat) (K : Int → List Int) (s : List Bool) (i : Int) (j : Nat) : Prop := s.length = n ∧ ∀ x : Int, 0 ≤ x → x < n → (s.getD x.toNat false = true ↔ (∃ a, 0 ≤ a ∧ a < i ∧ x ∈ K a) ∨ x ∈ (K i).take j)
theorem l2_run (hw : WF l.length (par l) (kids l)) (hl : l.length ≤ 200) (s : List Bool) (hs : Seen l.length (kids l) s l.length 0) : ∀ (m : Nat) (x : Int), 0 ≤ x → x + m = l.length → Ev (fun k => dom_kids.l2 k s l (l.length : Int) x l q) 0 := by
  have hp := hw.pos
  have hsl := hs.1
  intro m
  induction m with
  | zero =>
    intro x h0 he
    refine Ev.step (f := fun _ => some 0) (fun k => ?_) (Ev.now 0)
    simp only [dom_kids.l2]
    rw [if_neg (by omega), if_pos (by omega), if_pos hw.root]
  | succ m ih =>
    intro x h0 he
    refine Ev.step (fun k => ?_) (ih (x + 1) (by omega) (by omega))
    show dom_kids.l2 (k + 1) s l (l.length : Int) x l q = dom_kids.l2 k s l (l.length : Int) (x + 1) l q
    simp only [dom_kids.l2]
    rw [if_pos (by omega), if_pos h0, if_pos (by omega), wrap_in (by omega)]
    by_cases hpx : par l x = -1
    · rw [if_pos hpx]
    · rw [if_neg hpx, if_pos (by omega)]
      rcases hw.has x h0 (by omega) with e | ⟨h1, h2, h3⟩
      · exact absurd e hpx
      · have : rdOf false s x = true := (hs.2 x h0 (by omega)).2 (.inl ⟨par l x, h1, h2, h3⟩)
        rw [if_pos this]
theorem l1_run (hw : WF l.length (par l) (kids l)) (htop : ∀ k ∈ kids l 0, (rd_T43 l k).f0 ≠ 3) (hl : l.length ≤ 200) (hf : Fit l) (i : Int) (hi0 : 0 ≤ i) (hi1 : i < l.length)
    (hk : ∀ s : List Bool, Seen l.length (kids l) s (i + 1) 0 → Ev (fun k => dom_kids.l0 k s l (l.length : Int) (i + 1) l q) 0) :
    ∀ (m j : Nat) (s : List Bool), Seen l.length (kids l) s i j → j + m = (kids l i).length → Ev (fun k => dom_kids.l1 k s i l (l.length : Int) i (kids l i) ((kids l i).length : Int) (j : Int) l q) 0 := by
  have hfi := hf i
  intro m
  induction m with
  | zero =>
    intro j s hs he
    refine Ev.step (fun k => ?_) (hk s ⟨hs.1, fun x h0 h1 => ?_⟩)
    · show dom_kids.l1 (k + 1) _ _ _ _ _ _ _ _ _ _ = dom_kids.l0 k s l (l.length : Int) (i + 1) l q
      simp only [dom_kids.l1]
      rw [if_neg (by omega), wrap_in (by omega)]
    · rw [hs.2 x h0 h1, List.take_of_length_le (by omega), List.take_zero]
      constructor
      · rintro (⟨a, h2, h3, h4⟩ | h4)
        · exact .inl ⟨a, h2, by omega, h4⟩
        · exact .inl ⟨i, hi0, by omega, h4⟩
      · rintro (⟨a, h2, h3, h4⟩ | h4)
        · by_cases e : a = i
          · exact .inr (e ▸ h4)
          · exact .inl ⟨a, h2, by omega, h4⟩
        · cases h4
  | succ m ih =>
    intro j s hs he
    have hsl := hs.1
    have hjl : j < (kids l i).length := by omega
    obtain ⟨x, hx0⟩ : ∃ x, rd (kids l i) (j : Int) = x := ⟨_, rfl⟩
    have hx : x = (kids l i)[j] := by rw [← hx0]; unfold rd; rw [Int.toNat_natCast, List.getD_eq_getElem?_getD, List.getElem?_eq_getElem hjl]; rfl
    have hxm : x ∈ kids l i := by rw [hx]; exact List.getElem_mem _
    obtain ⟨h1, h2, h3⟩ := hw.kid i hi0 hi1 x hxm
    have hnd := hw.nodup i hi0 hi1
    have x3 : rdOf false s x = false := by
      cases h : rdOf false s x with
      | false => rfl
      | true =>
        exfalso
        rcases (hs.2 x h1 h2).1 h with ⟨a, h4, h5, h6⟩ | h6
        · have := (hw.kid a h4 (by omega) x h6).2.2
          omega
        · obtain ⟨t, ht, hte⟩ := List.getElem_of_mem h6
          rw [List.length_take] at ht
          rw [List.getElem_take, hx] at hte
          exact List.pairwise_iff_getElem.1 hnd t j (by omega) hjl (by omega) hte
    have hS : Seen l.length (kids l) (s.set x.toNat true) i (j + 1) := by
      refine ⟨by rw [List.length_set]; exact hs.1, fun y h0 hy => ?_⟩
      rw [List.take_succ_eq_append_getElem hjl, ← hx, List.getD_eq_getElem?_getD]
      by_cases e : y = x
      · subst e
        rw [List.getElem?_set_self (by omega)]
        exact ⟨fun _ => .inr (by simp), fun _ => rfl⟩
      · rw [List.getElem?_set_ne (by omega), ← List.getD_eq_getElem?_getD, hs.2 y h0 hy]
        constructor
        · rintro (h | h)
          · exact .inl h
          · exact .inr (List.mem_append_left _ h)
        · rintro (h | h)
          · exact .inl h
          · rcases List.mem_append.1 h with h | h
            · exact .inr h
            · rw [List.mem_singleton] at h; exact absurd h e
    have hst : ∀ k, dom_kids.l1 (k + 1) s i l (l.length : Int) i (kids l i) ((kids l i).length : Int) (j : Int) l q = dom_kids.j2 k s i x l (l.length : Int) i (kids l i) ((kids l i).length : Int) (j : Int) false l q := fun k => by
      simp only [dom_kids.l1]; rw [if_pos (by omega), if_pos (by omega), if_pos (by omega), hx0, if_neg (by omega), if_neg (by omega), if_pos (by omega), if_pos (by omega), if_pos (show par l x = i from h3), if_pos (by omega), x3]
    have h4 := ih (j + 1) (s.set x.toNat true) hS (by omega)
    refine Ev.step hst (Ev.step (fun k => ?_) h4)
    show dom_kids.j2 (k + 1) _ _ _ _ _ _ _ _ _ _ _ _ = dom_kids.l1 k (s.set x.toNat true) i l (l.length : Int) i (kids l i) ((kids l i).length : Int) ((j + 1 : Nat) : Int) l q
    simp only [dom_kids.j2, Bool.false_eq_true, if_false]
    by_cases i0 : i = 0
    · rw [if_pos i0, if_pos (by omega), if_pos (by omega), if_neg (htop x (by rw [← i0]; exact hxm)), if_pos (by omega), wrap_in (by omega)]
      rfl
    · rw [if_neg i0, if_pos (by omega), if_pos (by omega), wrap_in (by omega)]
      rfl
theorem l0_run (hw : WF l.length (par l) (kids l)) (htop : ∀ k ∈ kids l 0, (rd_T43 l k).f0 ≠ 3) (hl : l.length ≤ 200) (hf : Fit l) : ∀ (m : Nat) (i : Int) (s : List Bool), Seen l.length (kids l) s i 0 → 0 ≤ i → i + m = l.length → Ev (fun k => dom_kids.l0 k s l (l.length : Int) i l q) 0 := by
  intro m
  induction m with
  | zero =>
    intro i s hs h0 he
    have hil : i = l.length := by omega
    refine Ev.step (fun k => ?_) (l2_run l q hw hl s (by rw [← hil]; exact hs) l.length 0 (by omega) (by omega))
    show dom_kids.l0 (k + 1) _ _ _ _ _ _ = dom_kids.l2 k s l (l.length : Int) 0 l q
    simp only [dom_kids.l0]
    rw [if_neg (by omega)]
  | succ m ih =>
    intro i s hs h0 he
    have h1 := l1_run l q hw htop hl hf i h0 (by omega) (fun s' hs' => ih (i + 1) s' hs' (by omega) (by omega)) (kids l i).length 0 s hs (by omega)
    refine Ev.step (fun k => ?_) h1
    show dom_kids.l0 (k + 1) _ _ _ _ _ _ = dom_kids.l1 k s i l (l.length : Int) i (kids l i) ((kids l i).length : Int) 0 l q
    simp only [dom_kids.l0]
    rw [if_pos (by omega), if_pos h0, if_pos (by omega)]
theorem check1_run (hw : WF l.length (par l) (kids l)) (hl : l.length ≤ 200) : ∀ (m : Nat) (i : Int), 0 ≤ i → i + m = l.length → Ev (fun k => dom_Check.l1 k (l.length : Int) i l q) 0 := by
  intro m
  induction m with
  | zero =>
    intro i h0 he
    exact Ev.step (f := fun _ => some 0) (fun k => by simp only [dom_Check.l1]; rw [if_neg (by omega)]) (Ev.now 0)
  | succ m ih =>
    intro i h0 he
    have hi : In l.length i := ⟨h0, by omega⟩
    obtain ⟨d, h40, hd⟩ := hw.dep i hi.1 hi.2
    have hlt := up_ok hw hi hd
    have hu := up_run l q hw hl d i 0 hi hd (by omega) (by omega)
    rw [Int.zero_add] at hu
    refine Ev.step (fun k => by simp only [dom_Check.l1]; rw [if_pos (by omega)]) (Ev.bind (f := fun k t => if t > (l.length : Int) then some 8 else if t > 40 then some 2 else dom_Check.l1 k (l.length : Int) (wrap64 (i + 1)) l q) (g := fun k => dom_up.f k l q i) hu (Ev.congr (fun k => by rw [if_neg (by omega), if_neg (by omega), wrap_in (by omega)]) (ih (i + 1) (by omega) (by omega))))
theorem check0_run (hd : DocOk l) (hf : Fit l) : ∀ (m : Nat) (i : Int), 0 ≤ i → i + m = l.length → Ev (fun k => dom_Check.l0 k l (l.length : Int) i l q) 0 := by
  have hl := hd.len
  have hp := hd.wf.pos
  intro m
  induction m with
  | zero =>
    intro i h0 he
    have hS : Seen l.length (kids l) (List.replicate l.length false) 0 0 := ⟨by simp, fun x h1 h2 => by
      rw [List.getD_eq_getElem?_getD, List.getElem?_replicate, if_pos (by omega), List.take_zero]
      constructor
      · intro h; cases h
      · rintro (⟨a, h3, h4, _⟩ | h)
        · omega
        · cases h⟩
    have hk : Ev (fun k => dom_kids.f k l q) 0 := by
      refine Ev.congr (fun k => ?_) (l0_run l q hd.wf hd.top hl hf l.length 0 _ hS (by omega) (by omega))
      simp only [dom_kids.f]
      rw [if_pos (by omega), if_pos (by omega), Int.toNat_natCast]
    exact Ev.step (fun k => by simp only [dom_Check.l0]; rw [if_neg (by omega)]) (Ev.bind (f := fun k t => if t = 0 then dom_Check.l1 k (l.length : Int) 0 l q else some t) hk (Ev.congr (fun k => by rw [if_pos rfl]) (check1_run l q hd.wf hl l.length 0 (by omega) (by omega))))
  | succ m ih =>
    intro i h0 he
    have hi : In l.length i := ⟨h0, by omega⟩
    have hkd : ¬ ((((rd_T43 l i).f0) == 1) != (i == 0)) = true := fun h => (kind_b _ _).1 h (hd.kind i hi)
    exact Ev.step (fun k => by simp only [dom_Check.l0]; rw [if_pos (by omega), if_pos h0, if_pos (by omega), if_neg hkd]) (Ev.bind (f := fun k t => if t = 0 then dom_Check.l0 k l (l.length : Int) (wrap64 (i + 1)) l q else some t) (hd.one i hi) (Ev.congr (fun k => by rw [if_pos rfl, wrap_in (by omega)]) (ih (i + 1) (by omega) (by omega))))
variable {l q}
theorem check_ok (hd : DocOk l) (hf : Fit l) : Ev (fun k => dom_Check.f k l q) 0 := by
  have hl := hd.len
  have hp := hd.wf.pos
  refine Ev.congr (fun k => ?_) (check0_run l q hd hf l.length 0 (by omega) (by omega))
  simp only [dom_Check.f]
  rw [if_neg (by omega), if_neg (by omega)]
theorem check_doc (h : Ev (fun k => dom_Check.f k l q) 0) (hf : Fit l) : DocOk l := by
  obtain ⟨r, hr, hd⟩ := check_ev l q hf
  obtain ⟨hl, hw⟩ := hd (ev_one hr h)
  have hp := hw.pos
  have h0 : Ev (fun k => dom_Check.l0 k l (l.length : Int) 0 l q) 0 := by
    refine Ev.congr (fun k => ?_) h
    simp only [dom_Check.f]
    rw [if_neg (by omega), if_neg (by omega)]
  have hall : ∀ i, In l.length i → ((rd_T43 l i).f0 = 1 ↔ i = 0) ∧ OneN (rd_T43 l i) := fun i hi => by
    refine Classical.byContradiction fun hn => ?_
    obtain ⟨r, hr, hr0⟩ := check_bad l q hi hl (by
      by_cases hk : ((rd_T43 l i).f0 = 1 ↔ i = 0)
      · exact .inr (fun ho => hn ⟨hk, ho⟩)
      · exact .inl hk) i.toNat 0 (Int.le_refl _) (by have := hi.1; omega)
    exact hr0 (ev_one hr h0)
  refine ⟨hl, hw, fun i hi => (hall i hi).1, fun i hi => (hall i hi).2, fun k hk h3 => ?_⟩
  have hrun : ∀ (m : Nat) (i : Int), 0 ≤ i → i + m = l.length → ∃ r, Ev (fun k => dom_Check.l0 k l (l.length : Int) i l q) r ∧ r ≠ 0 := by
    intro m
    induction m with
    | zero =>
      intro i hi0 he
      obtain ⟨r, hr, hr0⟩ := top_bad l q hl hf hp (kids l 0).length 0 (List.replicate l.length false) (by simp) (by omega) (by omega) ⟨k, hk, h3⟩
      have hk0 : Ev (fun k => dom_kids.f k l q) r := by
        refine Ev.congr (fun k => ?_) (Ev.step (f := fun k => dom_kids.l1 k (List.replicate l.length false) 0 l (l.length : Int) 0 (kids l 0) ((kids l 0).length : Int) 0 l q) (g := fun k => dom_kids.l0 k (List.replicate l.length false) l (l.length : Int) 0 l q) (fun k => ?_) hr)
        · simp only [dom_kids.f]
          rw [if_pos (by omega), if_pos (by omega), Int.toNat_natCast]
        · show dom_kids.l0 (k + 1) _ _ _ _ _ _ = _
          simp only [dom_kids.l0]
          rw [if_pos (by omega), if_pos (by omega), if_pos (by omega)]
      exact ⟨r, Ev.step (fun k => by simp only [dom_Check.l0]; rw [if_neg (by omega)]) (Ev.bind (f := fun k t => if t = 0 then dom_Check.l1 k (l.length : Int) 0 l q else some t) hk0 (Ev.congr (f := fun _ => some r) (fun k => by rw [if_neg hr0]) (Ev.now r))), hr0⟩
    | succ m ih =>
      intro i hi0 he
      have hi : In l.length i := ⟨hi0, by omega⟩
      have hkd : ¬ ((((rd_T43 l i).f0) == 1) != (i == 0)) = true := fun h => (kind_b _ _).1 h (hall i hi).1
      obtain ⟨r, hr, hr0⟩ := ih (i + 1) (by omega) (by omega)
      exact ⟨r, Ev.step (fun k => by simp only [dom_Check.l0]; rw [if_pos (by omega), if_pos hi0, if_pos (by omega), if_neg hkd]) (Ev.bind (f := fun k t => if t = 0 then dom_Check.l0 k l (l.length : Int) (wrap64 (i + 1)) l q else some t) (hall i hi).2 (Ev.congr (fun k => by rw [if_pos rfl, wrap_in (by omega)]) hr)), hr0⟩
  obtain ⟨r, hr, hr0⟩ := hrun l.length 0 (by omega) (by omega)
  exact hr0 (ev_one hr h0)
end
end Go.Proofs.YtmcinclecpeakaaGreatDoor.DocC
