/- Points under an edit: a range stays one. -/
import Derived.Test.YtlgoaphdhgidoaaDoorDocW
namespace Go.Proofs.YtlgoaphdhgidoaaDoor.DocC
open Go.RowKit Go.Proofs.YtlgoaphdhgidoaaDoorW.PrintWords Go.Proofs.YtlgoaphdhgidoaaDoor.PSY Go.Proofs.YtlgoaphdhgidoaaDoor.DocP Go.Proofs.YtlgoaphdhgidoaaDoor.DocT
set_option linter.unusedVariables false
set_option linter.unusedSimpArgs false
section
variable {l l' : List S37} {e : S39}
open Classical in
/-- Where a point goes. -/
noncomputable def movedP (l : List S37) (e : S39) (a t : Int) : Int × Int :=
  if e.f0 = 5 then (a, if a = e.f1 ∧ t > (if e.f3 ≥ 0 then ix (kids l e.f1) e.f3 else roomP l e.f1) then t + 1 else t)
  else if e.f0 = 6 then (if Under (par l) e.f1 a then (par l e.f1, ix (kids l (par l e.f1)) e.f1) else (a, if a = par l e.f1 ∧ t > ix (kids l (par l e.f1)) e.f1 then t - 1 else t))
  else if e.f0 = 3 then (a, if a = e.f1 then mn t (e.f5.size : Int) else t) else (a, t)
theorem pp_rp {a t : Int} {d : Nat} (h40 : d ≤ 40) (h : Tr (par l) d a) : pp l a t = rp (par l) (kids l) d a ++ [2 * t] := by
  rw [pp_eq l h40 h.1 h.2, pth_eq]
  rfl
theorem pp_pt {a t : Int} (h : OkP l a t) : Pt (pp l a t) := by
  obtain ⟨_, _, _, d, h40, hd, h0⟩ := h
  rw [pp_rp h40 ⟨hd, h0⟩]
  exact pt_odd _ (rp_odd _ _ _ _) _
theorem kids_leaf (h : DocOk l) {i : Int} (hi : In l.length i) (hk : (rd_T37 l i).f0 = 3 ∨ (rd_T37 l i).f0 = 4) : kids l i = [] := by
  have hb := (h.oneOk hi).2.2.1
  unfold bareB at hb
  simp only [Bool.and_eq_true, Bool.or_eq_true, beq_iff_eq] at hb
  have h2 : (rd_T37 l i).f5.length = 0 := by
    rcases hb.2 with h2 | h2
    · exfalso
      rcases h2 with h2 | h2 <;> rcases hk with h3 | h3 <;> omega
    · exact h2
  exact List.length_eq_zero_iff.1 h2
theorem room_kids {i : Int} (hk : (rd_T37 l i).f0 = 1 ∨ (rd_T37 l i).f0 = 2) : roomP l i = ((kids l i).length : Int) := by
  unfold roomP
  rw [if_neg (by omega)]
/-- What is the same of two documents: the ways up and down, and how far a point may be. -/
theorem okp_same {a t : Int} (hl : l'.length = l.length) (hp : par l' = par l) (hr : roomP l' a = roomP l a) (h : OkP l a t) : OkP l' a t := by
  obtain ⟨h1, h2, h3, h4⟩ := h
  exact ⟨by rw [hl]; exact h1, h2, by rw [hr]; exact h3, by rw [hp]; exact h4⟩
theorem pp_same {a t : Int} (hp : par l' = par l) (hk : kids l' = kids l) : pp l' a t = pp l a t := by
  unfold pp pth
  rw [hp, hk]
theorem own_par {i : Int} (hi : In l.length i) {y : S37} (h4 : y.f4 = (rd_T37 l i).f4) : par (l.set i.toNat y) = par l := funext fun j => by
  show (rd_T37 (l.set i.toNat y) j).f4 = (rd_T37 l j).f4
  rw [rd_set2 l hi]
  split
  · next e => rw [h4, rd_same l e]
  · rfl
theorem own_kids {i : Int} (hi : In l.length i) {y : S37} (h5 : y.f5 = (rd_T37 l i).f5) : kids (l.set i.toNat y) = kids l := funext fun j => by
  show (rd_T37 (l.set i.toNat y) j).f5 = (rd_T37 l j).f5
  rw [rd_set2 l hi]
  split
  · next e => rw [h5, rd_same l e]
  · rfl
/-- An element's attributes turned: points stay. -/
theorem attrs_stay {i a t : Int} (hi : In l.length i) (hk : (rd_T37 l i).f0 = 2) (ats : List S65) (h : OkP l a t) : OkP (l.set i.toNat { rd_T37 l i with f2 := ats }) a t ∧ pp (l.set i.toNat { rd_T37 l i with f2 := ats }) a t = pp l a t := by
  have hp := own_par hi (y := { rd_T37 l i with f2 := ats }) rfl
  have hks := own_kids hi (y := { rd_T37 l i with f2 := ats }) rfl
  refine ⟨okp_same List.length_set hp ?_ h, pp_same hp hks⟩
  unfold roomP
  rw [hks, rd_set2 l hi]
  split
  · next e => rw [← rd_same l e]
  · rfl
/-- A text turned. -/
theorem text_stay (hd : DocOk l) {i : Int} (hi : In l.length i) (hk : (rd_T37 l i).f0 = 3 ∨ (rd_T37 l i).f0 = 4) (v : ByteArray) {a s b t : Int} (ha : OkP l a s) (hb : OkP l b t) (hle : lexlt (pp l b t) (pp l a s) = false) :
    OkP (l.set i.toNat { rd_T37 l i with f3 := v }) a (if a = i then mn s (v.size : Int) else s) ∧ OkP (l.set i.toNat { rd_T37 l i with f3 := v }) b (if b = i then mn t (v.size : Int) else t) ∧
      lexlt (pp (l.set i.toNat { rd_T37 l i with f3 := v }) b (if b = i then mn t (v.size : Int) else t)) (pp (l.set i.toNat { rd_T37 l i with f3 := v }) a (if a = i then mn s (v.size : Int) else s)) = false := by
  have hp := own_par hi (y := { rd_T37 l i with f3 := v }) rfl
  have hks := own_kids hi (y := { rd_T37 l i with f3 := v }) rfl
  have hok : ∀ {a s : Int}, OkP l a s → OkP (l.set i.toNat { rd_T37 l i with f3 := v }) a (if a = i then mn s (v.size : Int) else s) := by
    intro a s h
    obtain ⟨h1, h2, h3, h4⟩ := h
    refine ⟨by rw [List.length_set]; exact h1, ?_, ?_, by rw [hp]; exact h4⟩
    · split
      · unfold mn; split <;> omega
      · exact h2
    · by_cases he : a = i
      · subst he
        rw [if_pos rfl]
        unfold roomP
        rw [rd_set2 l hi, if_pos rfl, if_pos hk]
        show mn s (v.size : Int) ≤ (v.size : Int)
        unfold mn; split <;> omega
      · rw [if_neg he]
        have hne : ¬ a.toNat = i.toNat := fun h => he (by have := h1.1; have := hi.1; omega)
        have hr : roomP (l.set i.toNat { rd_T37 l i with f3 := v }) a = roomP l a := by
          unfold roomP
          rw [hks, rd_set2 l hi, if_neg hne]
        rw [hr]
        exact h3
  refine ⟨hok ha, hok hb, ?_⟩
  rw [pp_same hp hks, pp_same hp hks]
  have hleaf := kids_leaf hd hi hk
  obtain ⟨ha1, ha2, ha3, da, hda40, hda, hta⟩ := ha
  obtain ⟨hb1, hb2, hb3, db, hdb40, hdb, htb⟩ := hb
  rw [pp_rp hda40 ⟨hda, hta⟩, pp_rp hdb40 ⟨hdb, htb⟩] at hle
  rw [pp_rp hda40 ⟨hda, hta⟩, pp_rp hdb40 ⟨hdb, htb⟩]
  unfold rp at hle ⊢
  by_cases hae : a = i
  · by_cases hbe : b = i
    · subst hae hbe
      rw [hdb.fn hda] at hle ⊢
      rw [lexlt_app] at hle ⊢
      rw [if_pos rfl, if_pos rfl]
      simp only [lexlt, Bool.and_false, Bool.or_false, decide_eq_false_iff_not] at hle ⊢
      unfold mn
      repeat' split
      all_goals omega
    · subst hae
      rw [if_neg hbe]
      rw [lexlt_leafR _ _ [2 * (if a = a then mn s (v.size : Int) else s)] [2 * s] (leaf_prefix hd.wf hi hb1 hda hdb hta htb hleaf (fun e => hbe e.symm) t)]
      exact hle
  · by_cases hbe : b = i
    · subst hbe
      rw [if_neg hae]
      rw [lexlt_leafL _ _ [2 * (if b = b then mn t (v.size : Int) else t)] [2 * t] (leaf_prefix hd.wf hi ha1 hdb hda htb hta hleaf (fun e => hae e.symm) s)]
      exact hle
    · rw [if_neg hae, if_neg hbe]
      exact hle
/-- A node made: points stay. -/
theorem make_stay (hd : DocOk l) (y : S37) {a t : Int} (h : OkP l a t) : OkP (l ++ [y]) a t ∧ pp (l ++ [y]) a t = pp l a t := by
  obtain ⟨h1, h2, h3, d, h40, hdep, htop⟩ := h
  have hrd : ∀ b, In l.length b → rd_T37 (l ++ [y]) b = rd_T37 l b := fun b hb => by rw [rd_snoc l y b hb.1, if_neg (by have := hb.2; omega)]
  have key : ∀ (d : Nat) (b : Int), In l.length b → Tr (par l) d b → Tr (par (l ++ [y])) d b ∧ rp (par (l ++ [y])) (kids (l ++ [y])) d b = rp (par l) (kids l) d b := by
    intro d
    induction d with
    | zero =>
      intro b hb h
      obtain ⟨h5, h6⟩ := h.zero
      exact ⟨⟨.top (by show (rd_T37 (l ++ [y]) b).f4 < 0; rw [hrd b hb]; exact h6), h5⟩, rfl⟩
    | succ d ih =>
      intro b hb h
      obtain ⟨h5, h6⟩ := h.up
      have hpb : par (l ++ [y]) b = par l b := by show (rd_T37 (l ++ [y]) b).f4 = _; rw [hrd b hb]
      have hin := WFin hd.wf hb h5
      obtain ⟨h7, h8⟩ := ih (par l b) hin h6
      refine ⟨.mk (by rw [hpb]; exact h5) (by rw [hpb]; exact h7), ?_⟩
      rw [rp_up, rp_up, hpb, h8]
      have : kids (l ++ [y]) (par l b) = kids l (par l b) := by show (rd_T37 (l ++ [y]) (par l b)).f5 = _; rw [hrd _ hin]
      rw [this]
  obtain ⟨h7, h8⟩ := key d a h1 ⟨hdep, htop⟩
  refine ⟨⟨⟨h1.1, by rw [List.length_append, List.length_singleton]; have := h1.2; omega⟩, h2, ?_, d, h40, h7.1, h7.2⟩, ?_⟩
  · unfold roomP
    rw [hrd a h1]
    have : kids (l ++ [y]) a = kids l a := by show (rd_T37 (l ++ [y]) a).f5 = _; rw [hrd a h1]
    rw [this]
    exact h3
  · rw [pp_rp h40 h7, pp_rp h40 ⟨hdep, htop⟩, h8]
/-- A node put in. -/
theorem put_stay (hd : DocOk l) {i j : Int} {p : Nat} (hi : In l.length i) (hj : In l.length j) (hij : i ≠ j) (hki : (rd_T37 l i).f0 = 1 ∨ (rd_T37 l i).f0 = 2) (hkj : (rd_T37 l j).f0 ≠ 1) (hpj : par l j < 0) (hp : p ≤ (kids l i).length)
    (hl' : l' = (l.set i.toNat { rd_T37 l i with f5 := (kids l i).take p ++ j :: (kids l i).drop p }).set j.toNat { rd_T37 l j with f4 := i }) {a t : Int} (h : OkP l a t) :
    OkP l' a (if a = i ∧ t > (p : Int) then t + 1 else t) ∧ pp l' a (if a = i ∧ t > (p : Int) then t + 1 else t) = shiftAt (fun x => if x ≥ 2 * (p : Int) + 1 then x + 2 else x) (spot (par l) (kids l) i) (pp l a t) := by
  obtain ⟨h1, h2, h3, d, h40, hdep, htop⟩ := h
  have hlen : l'.length = l.length := by rw [hl', List.length_set, List.length_set]
  have hrd : ∀ b, In l.length b → rd_T37 l' b = if b = j then { rd_T37 l j with f4 := i } else if b = i then { rd_T37 l i with f5 := (kids l i).take p ++ j :: (kids l i).drop p } else rd_T37 l b := fun b hb => by
    rw [hl']
    exact rd_two l hi hj _ _ b hb.1
  have hP : ∀ b, In l.length b → par l' b = if b = j then i else par l b := fun b hb => by
    show (rd_T37 l' b).f4 = _
    rw [hrd b hb]
    split
    · rfl
    · split
      · next e => subst e; rfl
      · rfl
  have hK : ∀ b, In l.length b → kids l' b = if b = i then (kids l i).take p ++ j :: (kids l i).drop p else kids l b := fun b hb => by
    show (rd_T37 l' b).f5 = _
    rw [hrd b hb]
    by_cases hbj : b = j
    · rw [if_pos hbj, if_neg (fun e => hij (e.symm.trans hbj)), hbj]
    · rw [if_neg hbj]
      split
      · rfl
      · rfl
  have hj0 : j ≠ 0 := fun e => hkj ((hd.kind j hj).2 e)
  obtain ⟨h4, h5⟩ := put_paths hd.wf hi hj hj0 hpj hP hK d a h1 ⟨hdep, htop⟩
  have hspot := spot_iff hd.wf hi h1 ⟨hdep, htop⟩
  refine ⟨⟨by rw [hlen]; exact h1, by split <;> omega, ?_, d, h40, h4.1, h4.2⟩, ?_⟩
  · have hkind : (rd_T37 l' a).f0 = (rd_T37 l a).f0 ∧ (rd_T37 l' a).f3 = (rd_T37 l a).f3 := by
      rw [hrd a h1]
      split
      · next e => subst e; exact ⟨rfl, rfl⟩
      · split
        · next e => subst e; exact ⟨rfl, rfl⟩
        · exact ⟨rfl, rfl⟩
    unfold roomP at h3 ⊢
    rw [hkind.1, hkind.2, hK a h1]
    by_cases he : a = i
    · subst he
      have hnk : ¬ ((rd_T37 l a).f0 = 3 ∨ (rd_T37 l a).f0 = 4) := by omega
      rw [if_neg hnk] at h3
      rw [if_neg hnk, if_pos rfl]
      have : ((kids l a).take p ++ j :: (kids l a).drop p).length = (kids l a).length + 1 := by simp; omega
      rw [this]
      split <;> omega
    · rw [if_neg he, if_neg (fun hh => he hh.1)]
      exact h3
  · rw [pp_rp h40 h4, pp_rp h40 ⟨hdep, htop⟩, h5, shiftAt_snoc]
    congr 2
    by_cases he : a = i
    · rw [if_pos (hspot.2 he)]
      by_cases ht : t > (p : Int)
      · rw [if_pos ⟨he, ht⟩, if_pos (by omega)]; omega
      · rw [if_neg (fun hh => ht hh.2), if_neg (by omega)]
    · rw [if_neg (fun hh => he hh.1), if_neg (fun hh => he (hspot.1 hh))]
theorem cutAt_self (i : Int) : ∀ A : List Int, cutAt i A A = A
  | [] => rfl
  | u :: A => by simp [cutAt, cutAt_self i A]
/-- A node taken out. -/
theorem take_stay (hd : DocOk l) {x : Int} {i : Nat} (hx : In l.length x) (hkx : (rd_T37 l x).f0 ≠ 1) (hp0 : 0 ≤ par l x) (hpi : In l.length (par l x)) (hne : par l x ≠ x) (hl : i < (kids l (par l x)).length) (hg : (kids l (par l x))[i] = x)
    (hl' : l' = (l.set (par l x).toNat { rd_T37 l (par l x) with f5 := (kids l (par l x)).eraseIdx i }).set x.toNat { rd_T37 l x with f4 := -1 }) {a t : Int} (h : OkP l a t) :
    (Under (par l) x a → OkP l' (par l x) i ∧ pp l' (par l x) i = cutAt i (spot (par l) (kids l) (par l x)) (pp l a t)) ∧
    (¬ Under (par l) x a → OkP l' a (if a = par l x ∧ t > (i : Int) then t - 1 else t) ∧ pp l' a (if a = par l x ∧ t > (i : Int) then t - 1 else t) = cutAt i (spot (par l) (kids l) (par l x)) (pp l a t)) := by
  have hlen : l'.length = l.length := by rw [hl', List.length_set, List.length_set]
  have hrd : ∀ b, In l.length b → rd_T37 l' b = if b = x then { rd_T37 l x with f4 := -1 } else if b = par l x then { rd_T37 l (par l x) with f5 := (kids l (par l x)).eraseIdx i } else rd_T37 l b := fun b hb => by
    rw [hl']
    exact rd_two l hpi hx _ _ b hb.1
  have hP : ∀ b, In l.length b → par l' b = if b = x then -1 else par l b := fun b hb => by
    show (rd_T37 l' b).f4 = _
    rw [hrd b hb]
    split
    · rfl
    · split
      · next e => rw [e]
      · rfl
  have hK : ∀ b, In l.length b → kids l' b = if b = par l x then (kids l (par l x)).eraseIdx i else kids l b := fun b hb => by
    show (rd_T37 l' b).f5 = _
    rw [hrd b hb]
    by_cases hbx : b = x
    · rw [if_pos hbx, if_neg (fun e => hne (e.symm.trans hbx)), hbx]
    · rw [if_neg hbx]
      split
      · rfl
      · rfl
  have hkind : ∀ b, In l.length b → (rd_T37 l' b).f0 = (rd_T37 l b).f0 ∧ (rd_T37 l' b).f3 = (rd_T37 l b).f3 := fun b hb => by
    rw [hrd b hb]
    split
    · next e => subst e; exact ⟨rfl, rfl⟩
    · split
      · next e => rw [e]; exact ⟨rfl, rfl⟩
      · exact ⟨rfl, rfl⟩
  have hx0 : x ≠ 0 := fun e => hkx ((hd.kind x hx).2 e)
  have hpk : ¬ ((rd_T37 l (par l x)).f0 = 3 ∨ (rd_T37 l (par l x)).f0 = 4) := fun hk => by
    rw [kids_leaf hd hpi hk] at hl
    exact absurd hl (Nat.not_lt_zero _)
  have hnu : ¬ Under (par l) x (par l x) := fun hu => by
    obtain ⟨dx, _, hdx⟩ := hd.wf.dep x hx.1 hx.2
    obtain ⟨e, he⟩ := hu.dep hdx
    cases hdx with
    | top h => omega
    | up _ h2 => have := he.fn h2; omega
  have her : ((kids l (par l x)).eraseIdx i).length = (kids l (par l x)).length - 1 := by rw [List.length_eraseIdx, if_pos hl]
  have hroom : ∀ b s, In l.length b → b ≠ par l x → s ≤ roomP l b → s ≤ roomP l' b := fun b s hb hne h3 => by
    unfold roomP at h3 ⊢
    rw [(hkind b hb).1, (hkind b hb).2, hK b hb, if_neg hne]
    exact h3
  obtain ⟨h1, h2, h3, d, h40, hdep, htop⟩ := h
  refine ⟨fun hu => ?_, fun hu => ?_⟩
  · obtain ⟨e, r, h4, h5⟩ := under_path hd.wf hx hp0 hl hg hu d h1 ⟨hdep, htop⟩
    obtain ⟨h6, h7, _⟩ := take_paths hd.wf hx hx0 hp0 hl hg hP hK e (par l x) hpi h4 hnu
    obtain ⟨e', he40, he'⟩ := hd.wf.dep (par l x) hpi.1 hpi.2
    have hee : e ≤ 40 := by rw [h4.1.fn he']; exact he40
    rw [spot_eq h4] at h7 ⊢
    rw [cutAt_self] at h7
    refine ⟨⟨by rw [hlen]; exact hpi, by omega, ?_, e, hee, h6.1, h6.2⟩, ?_⟩
    · unfold roomP
      rw [(hkind _ hpi).1, if_neg hpk, hK _ hpi, if_pos rfl, her]
      omega
    · rw [pp_rp hee h6, pp_rp h40 ⟨hdep, htop⟩, h7, h5, List.append_assoc, List.cons_append, cutAt_in]
  · obtain ⟨h6, h7, h8⟩ := take_paths hd.wf hx hx0 hp0 hl hg hP hK d a h1 ⟨hdep, htop⟩ hu
    have hspot := spot_iff hd.wf hpi h1 ⟨hdep, htop⟩
    refine ⟨⟨by rw [hlen]; exact h1, by split <;> omega, ?_, d, h40, h6.1, h6.2⟩, ?_⟩
    · by_cases he : a = par l x
      · subst he
        unfold roomP at h3 ⊢
        rw [if_neg hpk] at h3
        rw [(hkind _ hpi).1, if_neg hpk, hK _ hpi, if_pos rfl, her]
        split <;> omega
      · rw [if_neg (fun hh => he hh.1)]
        exact hroom a t h1 he h3
    · rw [pp_rp h40 h6, pp_rp h40 ⟨hdep, htop⟩, h7, cutAt_snoc _ _ _ _ (by omega) h8]
      congr 2
      by_cases he : a = par l x
      · rw [if_pos (hspot.2 he)]
        by_cases ht : t > (i : Int)
        · rw [if_pos ⟨he, ht⟩, if_pos (by omega)]; omega
        · rw [if_neg (fun hh => ht hh.2), if_neg (by omega)]
      · rw [if_neg (fun hh => he hh.1), if_neg (fun hh => he (hspot.1 hh))]
/-- A range stays one. -/
theorem range_stays (hd : DocOk l) (he : Eff l e l') {a s b t : Int} (ha : OkP l a s) (hb : OkP l b t) (hle : lexlt (pp l b t) (pp l a s) = false) :
    OkP l' (movedP l e a s).1 (movedP l e a s).2 ∧ OkP l' (movedP l e b t).1 (movedP l e b t).2 ∧ lexlt (pp l' (movedP l e b t).1 (movedP l e b t).2) (pp l' (movedP l e a s).1 (movedP l e a s).2) = false := by
  cases he with
  | text h0 hi hk hv =>
    have hm : ∀ a s, movedP l e a s = (a, if a = e.f1 then mn s (e.f5.size : Int) else s) := fun a s => by unfold movedP; rw [if_neg (by omega), if_neg (by omega), if_pos h0]
    rw [hm, hm]
    exact text_stay hd hi hk e.f5 ha hb hle
  | attr h0 hi hk hn hv hats =>
    have hm : ∀ a s, movedP l e a s = (a, s) := fun a s => by unfold movedP; rw [if_neg (by omega), if_neg (by omega), if_neg (by omega)]
    rw [hm, hm]
    obtain ⟨h1, h2⟩ := attrs_stay hi hk _ ha
    obtain ⟨h3, h4⟩ := attrs_stay hi hk _ hb
    exact ⟨h1, h3, by rw [h2, h4]; exact hle⟩
  | drop h0 hi hk hix hl =>
    have hm : ∀ a s, movedP l e a s = (a, s) := fun a s => by unfold movedP; rw [if_neg (by omega), if_neg (by omega), if_neg (by omega)]
    rw [hm, hm]
    obtain ⟨h1, h2⟩ := attrs_stay hi hk _ ha
    obtain ⟨h3, h4⟩ := attrs_stay hi hk _ hb
    exact ⟨h1, h3, by rw [h2, h4]; exact hle⟩
  | make h0 hk h1 hl ho =>
    have hm : ∀ a s, movedP l e a s = (a, s) := fun a s => by unfold movedP; rw [if_neg (by omega), if_neg (by omega), if_neg (by omega)]
    rw [hm, hm]
    obtain ⟨h1, h2⟩ := make_stay hd _ ha
    obtain ⟨h3, h4⟩ := make_stay hd _ hb
    exact ⟨h1, h3, by rw [h2, h4]; exact hle⟩
  | @insert p h0 hi hj hki hkj htx hpj hp hpl hnu =>
    have hplace : (if e.f3 ≥ 0 then ix (kids l e.f1) e.f3 else roomP l e.f1) = (p : Int) := by
      rcases hpl with ⟨h5, h6⟩ | ⟨h5, h6⟩
      · rw [if_neg (by omega), room_kids hki, h6]
      · have hmem : 0 ≤ e.f3 := by
          have hin : e.f3 ∈ kids l e.f1 := by
            refine Classical.byContradiction fun hn => ?_
            have hz : (kids l e.f1).findIdx? (· == e.f3) = none := List.findIdx?_eq_none_iff.2 (fun x hx => by
              have : x ≠ e.f3 := fun e => hn (e ▸ hx)
              simpa using this)
            unfold ix at h6
            rw [hz] at h6
            simp at h6
          exact (hd.wf.kid_in hi hin).1.1
        rw [if_pos hmem, h6]
    have hm : ∀ a s, movedP l e a s = (a, if a = e.f1 ∧ s > (p : Int) then s + 1 else s) := fun a s => by unfold movedP; rw [if_pos h0, hplace]
    rw [hm, hm]
    have hij : e.f1 ≠ e.f2 := fun hh => hnu (by rw [hh]; exact .refl)
    obtain ⟨h1, h2⟩ := put_stay hd hi hj hij hki hkj hpj hp rfl ha
    obtain ⟨h3, h4⟩ := put_stay hd hi hj hij hki hkj hpj hp rfl hb
    refine ⟨h1, h3, ?_⟩
    show lexlt (pp _ b _) (pp _ a _) = false
    rw [h2, h4, shiftAt_lt]
    · exact hle
    · intro x y hxy
      by_cases hx : x ≥ 2 * (p : Int) + 1
      · rw [if_pos hx, if_pos (by omega)]; omega
      · rw [if_neg hx]
        split <;> omega
  | @remove i h0 hi hk hp hpi hne hl hg hix =>
    obtain ⟨l2, hl2⟩ : ∃ l2, l2 = ((l.set (par l e.f1).toNat { rd_T37 l (par l e.f1) with f5 := (kids l (par l e.f1)).eraseIdx i }).set e.f1.toNat { rd_T37 l e.f1 with f4 := -1 }) := ⟨_, rfl⟩
    rw [← hl2]
    have hT : ∀ {a s : Int}, OkP l a s → OkP l2 (movedP l e a s).1 (movedP l e a s).2 ∧ pp l2 (movedP l e a s).1 (movedP l e a s).2 = cutAt i (spot (par l) (kids l) (par l e.f1)) (pp l a s) := by
      intro a s hok
      have h1 := take_stay hd hi hk hp hpi hne hl hg hl2 hok
      by_cases hu : Under (par l) e.f1 a
      · have hm : movedP l e a s = (par l e.f1, (i : Int)) := by unfold movedP; rw [if_neg (by omega), if_pos h0, if_pos hu, hix]
        rw [hm]
        exact h1.1 hu
      · have hm : movedP l e a s = (a, if a = par l e.f1 ∧ s > (i : Int) then s - 1 else s) := by unfold movedP; rw [if_neg (by omega), if_pos h0, if_neg hu, hix]
        rw [hm]
        exact h1.2 hu
    obtain ⟨h1, h2⟩ := hT ha
    obtain ⟨h3, h4⟩ := hT hb
    refine ⟨h1, h3, ?_⟩
    rw [h2, h4]
    exact cutAt_le i _ _ _ (pp_pt ha) (pp_pt hb) hle
end
end Go.Proofs.YtlgoaphdhgidoaaDoor.DocC
