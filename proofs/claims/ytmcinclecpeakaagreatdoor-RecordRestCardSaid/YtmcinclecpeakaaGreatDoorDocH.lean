/- One node and its attributes by themselves, in plain words; edits that turn one node's own fields keep a document right. -/
import Derived.Test.YtmcinclecpeakaaGreatDoorDocG
namespace Go.Proofs.YtmcinclecpeakaaGreatDoor.DocC
open Go.RowKit Go.Proofs.YtmcinclecpeakaaGreatDoorW.PrintWords Go.Proofs.YtmcinclecpeakaaGreatDoor.PRR Go.Proofs.YtmcinclecpeakaaGreatDoor.DocP
set_option linter.unusedVariables false
set_option linter.unusedSimpArgs false
/-! ### Attributes -/
theorem idx_lt {α : Type} (p : α → Bool) (xs : List α) : idxF p xs < (xs.length : Int) ∨ idxF p xs = -1 := by
  unfold idxF
  cases h : xs.findIdx? p with
  | none => exact .inr rfl
  | some k => have := (List.findIdx?_eq_some_iff_getElem.1 h).1; exact .inl (by show (k : Int) < _; omega)
theorem idx_neg {α : Type} {p : α → Bool} {xs : List α} : idxF p xs < 0 ↔ ∀ x ∈ xs, p x = false := by
  unfold idxF
  cases h : xs.findIdx? p with
  | none => exact ⟨fun _ => List.findIdx?_eq_none_iff.1 h, fun _ => by decide⟩
  | some k =>
    obtain ⟨hk, hp, _⟩ := List.findIdx?_eq_some_iff_getElem.1 h
    refine ⟨fun h => by have : (k : Int) < 0 := h; omega, fun h => ?_⟩
    rw [h _ (List.getElem_mem hk)] at hp
    cases hp
/-- Attributes that may be. -/
def AtOk (l : List S66) : Prop := l.length ≤ 12 ∧ (∀ x ∈ l, dom_attrName.f x.f0 = some true ∧ x.f1.size ≤ 400) ∧ (l.map fun x => x.f0.toList).Nodup
/-- As they are looked at, from number i on. -/
def AtI (l : List S66) (i : Nat) : Prop := ∀ j (hj : j < l.length), i ≤ j → (dom_attrName.f l[j].f0 = some true ∧ l[j].f1.size ≤ 400 ∧ ∀ x ∈ l.take j, x.f0.toList ≠ l[j].f0.toList)
theorem attrs_val (l : List S66) (hl : l.length ≤ 12) : ∀ (m i : Nat), i + m = l.length → ∃ r, Ev (fun k => dom_attrs.l0 k l l (l.length : Int) (i : Int)) r ∧ (r = 0 ↔ AtI l i) := by
  intro m
  induction m with
  | zero =>
    intro i he
    exact ⟨0, Ev.step (f := fun _ => some 0) (fun k => by simp only [dom_attrs.l0]; rw [if_neg (by omega)]) (Ev.now 0), fun _ j hj h => by omega, fun _ => rfl⟩
  | succ m ih =>
    intro i he
    have hil : i < l.length := by omega
    have hrd : rd_T66 l (i : Int) = l[i] := by unfold rd_T66; rw [Int.toNat_natCast, List.getD_eq_getElem?_getD, List.getElem?_eq_getElem hil]; rfl
    obtain ⟨r, hr, hd⟩ := ih (i + 1) (by omega)
    obtain ⟨b, hb⟩ := attrName_some (rd_T66 l (i : Int)).f0
    cases b with
    | false =>
      refine ⟨3, Ev.step (f := fun _ => some 3) (fun k => ?_) (Ev.now 3), fun h => (by cases h), fun h => ?_⟩
      · simp only [dom_attrs.l0]
        rw [if_pos (by omega), if_pos (by omega), if_pos (by omega), hb]; rfl
      · have := (h i hil (Nat.le_refl _)).1
        rw [hrd, this] at hb
        cases hb
    | true =>
      by_cases hs : (((rd_T66 l (i : Int)).f1).size : Int) > 400
      · refine ⟨2, Ev.step (f := fun _ => some 2) (fun k => ?_) (Ev.now 2), fun h => (by cases h), fun h => ?_⟩
        · simp only [dom_attrs.l0]
          rw [if_pos (by omega), if_pos (by omega), if_pos (by omega), hb]
          simp only [Option.bind_some, if_true]
          rw [if_pos hs]
        · have := (h i hil (Nat.le_refl _)).2.1
          rw [hrd] at hs
          omega
      · have hx : dom_find.f (l.take (i : Int).toNat) (rd_T66 l (i : Int)).f0 = some (idxF (fun x => x.f0.toList == (rd_T66 l (i : Int)).f0.toList) (l.take (i : Int).toNat)) := rfl
        by_cases hx0 : idxF (fun x => x.f0.toList == (rd_T66 l (i : Int)).f0.toList) (l.take (i : Int).toNat) ≥ 0
        · refine ⟨3, Ev.step (f := fun _ => some 3) (fun k => ?_) (Ev.now 3), fun h => (by cases h), fun h => ?_⟩
          · simp only [dom_attrs.l0]
            rw [if_pos (by omega), if_pos (by omega), if_pos (by omega), hb]
            simp only [Option.bind_some, if_true]
            rw [if_neg hs, if_pos (by omega), hx]
            simp only [Option.bind_some]
            rw [if_pos hx0]
          · exfalso
            have h1 := (h i hil (Nat.le_refl _)).2.2
            have : idxF (fun x => x.f0.toList == (rd_T66 l (i : Int)).f0.toList) (l.take (i : Int).toNat) < 0 := idx_neg.2 (fun x hx => by
              rw [Int.toNat_natCast] at hx
              rw [hrd]
              simpa using h1 x hx)
            omega
        · refine ⟨r, Ev.step (fun k => ?_) hr, ?_⟩
          · show dom_attrs.l0 (k + 1) _ _ _ _ = dom_attrs.l0 k l l (l.length : Int) ((i + 1 : Nat) : Int)
            simp only [dom_attrs.l0]
            rw [if_pos (by omega), if_pos (by omega), if_pos (by omega), hb]
            simp only [Option.bind_some, if_true]
            rw [if_neg hs, if_pos (by omega), hx]
            simp only [Option.bind_some]
            rw [if_neg hx0, wrap_in (by omega)]
            rfl
          · rw [hd]
            refine ⟨fun h j hj hij => ?_, fun h j hj hij => h j hj (by omega)⟩
            by_cases e : j = i
            · subst e
              rw [hrd] at hb hs hx0
              refine ⟨hb, by omega, fun x hx => ?_⟩
              have := idx_neg.1 (show idxF (fun x => x.f0.toList == l[j].f0.toList) (l.take ((j : Nat) : Int).toNat) < 0 by omega) x (by rw [Int.toNat_natCast]; exact hx)
              simpa using this
            · exact h j hj (by omega)
theorem atI_ok (l : List S66) (hl : l.length ≤ 12) : AtI l 0 ↔ AtOk l := by
  constructor
  · intro h
    refine ⟨hl, fun x hx => ?_, ?_⟩
    · obtain ⟨j, hj, rfl⟩ := List.getElem_of_mem hx
      exact ⟨(h j hj (Nat.zero_le _)).1, (h j hj (Nat.zero_le _)).2.1⟩
    · refine List.pairwise_iff_getElem.2 ?_
      intro i j hi hj hij
      simp only [List.length_map] at hi hj
      simp only [List.getElem_map]
      refine (h j hj (Nat.zero_le _)).2.2 l[i] ?_
      rw [List.mem_iff_getElem]
      exact ⟨i, by rw [List.length_take]; omega, by rw [List.getElem_take]⟩
  · rintro ⟨_, h1, h2⟩ j hj _
    refine ⟨(h1 _ (List.getElem_mem hj)).1, (h1 _ (List.getElem_mem hj)).2, fun x hx => ?_⟩
    obtain ⟨i, hi, rfl⟩ := List.getElem_of_mem hx
    rw [List.length_take] at hi
    rw [List.getElem_take]
    have := List.pairwise_iff_getElem.1 h2 i j (by rw [List.length_map]; omega) (by rw [List.length_map]; omega) (by omega)
    simpa using this
theorem attrs_is (l : List S66) : ∃ r, Ev (fun k => dom_attrs.f k l) r ∧ (r = 0 ↔ AtOk l) := by
  by_cases hl : (l.length : Int) > 12
  · exact ⟨2, Ev.congr (f := fun _ => some 2) (fun k => by simp only [dom_attrs.f]; rw [if_pos hl]) (Ev.now 2), fun h => (by cases h), fun h => by have := h.1; omega⟩
  · obtain ⟨r, hr, hd⟩ := attrs_val l (by omega) l.length 0 (by omega)
    exact ⟨r, Ev.congr (fun k => by simp only [dom_attrs.f]; rw [if_neg hl]; rfl) hr, hd.trans (atI_ok l (by omega))⟩
theorem AtOk.snoc {l : List S66} (h : AtOk l) {n v : ByteArray} (hn : dom_attrName.f n = some true) (hv : v.size ≤ 400) (hl : l.length ≠ 12) (hf : idxF (fun x => x.f0.toList == n.toList) l < 0) : AtOk (l ++ [⟨n, v⟩]) := by
  obtain ⟨h1, h2, h3⟩ := h
  refine ⟨by rw [List.length_append, List.length_singleton]; omega, fun x hx => ?_, ?_⟩
  · rcases List.mem_append.1 hx with hx | hx
    · exact h2 x hx
    · rw [List.mem_singleton] at hx; subst hx; exact ⟨hn, hv⟩
  · rw [List.map_append, List.map_singleton]
    refine List.pairwise_append.2 ⟨h3, by simp, fun a ha b hb => ?_⟩
    obtain ⟨x, hx, rfl⟩ := List.mem_map.1 ha
    rw [List.mem_singleton] at hb
    subst hb
    have := idx_neg.1 hf x hx
    simpa using this
theorem AtOk.set {l : List S66} (h : AtOk l) {i : Nat} (hi : i < l.length) {v : ByteArray} (hv : v.size ≤ 400) : AtOk (l.set i ⟨l[i].f0, v⟩) := by
  obtain ⟨h1, h2, h3⟩ := h
  refine ⟨by rw [List.length_set]; exact h1, fun x hx => ?_, ?_⟩
  · rcases List.mem_or_eq_of_mem_set hx with hx | rfl
    · exact h2 x hx
    · exact ⟨(h2 _ (List.getElem_mem hi)).1, hv⟩
  · have : (l.set i ⟨l[i].f0, v⟩).map (fun x => x.f0.toList) = l.map fun x => x.f0.toList := by
      rw [List.map_set]
      refine List.ext_getElem (by simp) fun j hj hj' => ?_
      rw [List.getElem_set]
      split
      · next e => subst e; simp
      · rfl
    rw [this]
    exact h3
theorem AtOk.erase {l : List S66} (h : AtOk l) (i : Nat) : AtOk (l.eraseIdx i) := by
  obtain ⟨h1, h2, h3⟩ := h
  refine ⟨Nat.le_trans (List.length_eraseIdx_le _ _) h1, fun x hx => h2 x (List.mem_of_mem_eraseIdx hx), ?_⟩
  exact h3.sublist ((List.eraseIdx_sublist _ _).map _)
/-! ### One node -/
def OneOk (x : S43) : Prop := 1 ≤ x.f0 ∧ x.f0 ≤ 5 ∧ bareB x.f0 x.f1 x.f2.length x.f3 x.f5.length = true ∧ (x.f0 = 2 → dom_Name.f x.f1 = some true) ∧ AtOk x.f2 ∧ x.f3.size ≤ 400 ∧ x.f1.size ≤ 400
theorem one_val (x : S43) : ∃ r, Ev (fun k => dom_one.f k x.f0 x.f1 x.f2 x.f3 x.f4 x.f5) r ∧ (r = 0 ↔ OneOk x) := by
  obtain ⟨ra, hra, hda⟩ := attrs_is x.f2
  have hj0 : Ev (fun k => dom_one.j0 k true x.f0 x.f1 x.f2 x.f3 x.f4 x.f5) 7 := Ev.step (f := fun _ => some 7) (fun k => by simp only [dom_one.j0, if_true]) (Ev.now 7)
  by_cases h1 : x.f0 < 1
  · exact ⟨7, Ev.congr (fun k => by simp only [dom_one.f]; rw [if_pos h1]) hj0, fun h => (by cases h), fun h => by have := h.1; omega⟩
  by_cases h5 : x.f0 > 5
  · exact ⟨7, Ev.congr (fun k => by simp only [dom_one.f]; rw [if_neg h1, if_pos h5]) hj0, fun h => (by cases h), fun h => by have := h.2.1; omega⟩
  have hb : dom_bare.f x.f0 x.f1 x.f2 x.f3 x.f4 x.f5 = some (bareB x.f0 x.f1 x.f2.length x.f3 x.f5.length) := rfl
  cases hbv : bareB x.f0 x.f1 x.f2.length x.f3 x.f5.length with
  | false =>
    rw [hbv] at hb
    exact ⟨7, Ev.congr (fun k => by simp only [dom_one.f]; rw [if_neg h1, if_neg h5, hb]; rfl) hj0, fun h => (by cases h), fun h => by rw [h.2.2.1] at hbv; cases hbv⟩
  | true =>
    rw [hbv] at hb
    have hj1 : ∃ r, Ev (fun k => dom_one.j1 k x.f0 x.f1 x.f2 x.f3 x.f4 x.f5) r ∧ (r = 0 ↔ (AtOk x.f2 ∧ x.f3.size ≤ 400 ∧ x.f1.size ≤ 400)) := by
      by_cases h0 : ra = 0
      · by_cases c1 : (x.f3.size : Int) > 400
        · exact ⟨2, Ev.step (fun k => by simp only [dom_one.j1]) (Ev.bind (f := fun _ t => if t = 0 then (if (x.f3.size : Int) > 400 then some 2 else if (x.f1.size : Int) > 400 then some 2 else some 0) else some t) hra (Ev.congr (f := fun _ => some 2) (fun k => by rw [if_pos h0, if_pos c1]) (Ev.now 2))), fun h => (by cases h), fun h => by omega⟩
        · by_cases c2 : (x.f1.size : Int) > 400
          · exact ⟨2, Ev.step (fun k => by simp only [dom_one.j1]) (Ev.bind (f := fun _ t => if t = 0 then (if (x.f3.size : Int) > 400 then some 2 else if (x.f1.size : Int) > 400 then some 2 else some 0) else some t) hra (Ev.congr (f := fun _ => some 2) (fun k => by rw [if_pos h0, if_neg c1, if_pos c2]) (Ev.now 2))), fun h => (by cases h), fun h => by omega⟩
          · exact ⟨0, Ev.step (fun k => by simp only [dom_one.j1]) (Ev.bind (f := fun _ t => if t = 0 then (if (x.f3.size : Int) > 400 then some 2 else if (x.f1.size : Int) > 400 then some 2 else some 0) else some t) hra (Ev.congr (f := fun _ => some 0) (fun k => by rw [if_pos h0, if_neg c1, if_neg c2]) (Ev.now 0))), fun _ => ⟨hda.1 h0, by omega, by omega⟩, fun _ => rfl⟩
      · exact ⟨ra, Ev.step (fun k => by simp only [dom_one.j1]) (Ev.bind (f := fun _ t => if t = 0 then (if (x.f3.size : Int) > 400 then some 2 else if (x.f1.size : Int) > 400 then some 2 else some 0) else some t) hra (Ev.congr (f := fun _ => some ra) (fun k => by rw [if_neg h0]) (Ev.now ra))), fun h => absurd h h0, fun h => hda.2 h.1⟩
    obtain ⟨r, hr, hd⟩ := hj1
    have hone : ∀ k, dom_one.f k x.f0 x.f1 x.f2 x.f3 x.f4 x.f5 = dom_one.j0 k false x.f0 x.f1 x.f2 x.f3 x.f4 x.f5 := fun k => by simp only [dom_one.f]; rw [if_neg h1, if_neg h5, hb]; rfl
    by_cases h2 : x.f0 = 2
    · obtain ⟨p, hp⟩ := name_some x.f1
      cases p with
      | false =>
        refine ⟨3, Ev.congr hone (Ev.step (f := fun _ => some 3) (fun k => ?_) (Ev.now 3)), fun h => (by cases h), fun h => by have := h.2.2.2.1 h2; rw [hp] at this; cases this⟩
        simp only [dom_one.j0, Bool.false_eq_true, if_false, hp, Option.bind_some]
        rw [if_pos h2]
      | true =>
        refine ⟨r, Ev.congr hone (Ev.step (fun k => ?_) hr), ?_⟩
        · simp only [dom_one.j0, Bool.false_eq_true, if_false, hp, Option.bind_some, if_true]
          rw [if_pos h2]
        · rw [hd]
          exact ⟨fun h => ⟨by omega, by omega, hbv, fun _ => hp, h.1, h.2.1, h.2.2⟩, fun h => ⟨h.2.2.2.2.1, h.2.2.2.2.2.1, h.2.2.2.2.2.2⟩⟩
    · refine ⟨r, Ev.congr hone (Ev.step (fun k => ?_) hr), ?_⟩
      · simp only [dom_one.j0, Bool.false_eq_true, if_false]
        rw [if_neg h2]
      · rw [hd]
        exact ⟨fun h => ⟨by omega, by omega, hbv, fun e => absurd e h2, h.1, h.2.1, h.2.2⟩, fun h => ⟨h.2.2.2.2.1, h.2.2.2.2.2.1, h.2.2.2.2.2.2⟩⟩
theorem one_iff (x : S43) : OneN x ↔ OneOk x := by
  obtain ⟨r, hr, hd⟩ := one_val x
  constructor
  · intro h
    exact hd.1 (ev_one hr h)
  · intro h
    rw [hd.2 h] at hr
    exact hr
/-! ### Nodes written anew -/
section
variable {l : List S43}
theorem rd_set2 (l : List S43) {i : Int} (hi : In l.length i) (y : S43) (j : Int) : rd_T43 (l.set i.toNat y) j = if j.toNat = i.toNat then y else rd_T43 l j := by
  have h0 := hi.1
  have h1 := hi.2
  unfold rd_T43
  rw [List.getD_eq_getElem?_getD, List.getD_eq_getElem?_getD]
  split
  · next e => rw [e, List.getElem?_set_self (by omega)]; rfl
  · next e => rw [List.getElem?_set_ne (fun h => e h.symm)]
theorem rd_same (l : List S43) {i j : Int} (h : j.toNat = i.toNat) : rd_T43 l j = rd_T43 l i := by unfold rd_T43; rw [h]
/-- One node's own fields turned. -/
theorem DocOk.own (h : DocOk l) {i : Int} (hi : In l.length i) (y : S43) (h0 : y.f0 = (rd_T43 l i).f0) (h4 : y.f4 = (rd_T43 l i).f4) (h5 : y.f5 = (rd_T43 l i).f5) (hy : OneOk y) : DocOk (l.set i.toNat y) := by
  have hpar : par (l.set i.toNat y) = par l := funext fun j => by
    show (rd_T43 (l.set i.toNat y) j).f4 = (rd_T43 l j).f4
    rw [rd_set2 l hi]
    split
    · next e => rw [h4, rd_same l e]
    · rfl
  have hkids : kids (l.set i.toNat y) = kids l := funext fun j => by
    show (rd_T43 (l.set i.toNat y) j).f5 = (rd_T43 l j).f5
    rw [rd_set2 l hi]
    split
    · next e => rw [h5, rd_same l e]
    · rfl
  have hkind : ∀ j, (rd_T43 (l.set i.toNat y) j).f0 = (rd_T43 l j).f0 := fun j => by
    rw [rd_set2 l hi]
    split
    · next e => rw [h0, rd_same l e]
    · rfl
  have hlen : (l.set i.toNat y).length = l.length := List.length_set
  refine ⟨by rw [hlen]; exact h.len, by rw [hlen, hpar, hkids]; exact h.wf, fun j hj => by rw [hkind]; exact h.kind j (by rw [← hlen]; exact hj), fun j hj => ?_, fun k hk => by rw [hkind]; exact h.top k (by rw [← hkids]; exact hk)⟩
  rw [rd_set2 l hi]
  split
  · exact (one_iff y).2 hy
  · exact h.one j (by rw [← hlen]; exact hj)
theorem DocOk.oneOk (h : DocOk l) {i : Int} (hi : In l.length i) : OneOk (rd_T43 l i) := (one_iff _).1 (h.one i hi)
theorem DocOk.text (h : DocOk l) {i : Int} (hi : In l.length i) (hk : (rd_T43 l i).f0 = 3 ∨ (rd_T43 l i).f0 = 4) (v : ByteArray) (hv : v.size ≤ 400) : DocOk (l.set i.toNat { rd_T43 l i with f3 := v }) := by
  refine h.own hi _ rfl rfl rfl ?_
  obtain ⟨h1, h2, h3, h4, h5, h6, h7⟩ := h.oneOk hi
  refine ⟨h1, h2, ?_, h4, h5, hv, h7⟩
  unfold bareB at h3 ⊢
  simp only [Bool.and_eq_true, Bool.or_eq_true, beq_iff_eq] at h3 ⊢
  refine ⟨⟨⟨h3.1.1.1, h3.1.1.2⟩, ?_⟩, h3.2⟩
  rcases hk with e | e
  · exact .inl (.inl e)
  · exact .inl (.inr e)
theorem DocOk.attrs (h : DocOk l) {i : Int} (hi : In l.length i) (hk : (rd_T43 l i).f0 = 2) (ats : List S66) (ha : AtOk ats) : DocOk (l.set i.toNat { rd_T43 l i with f2 := ats }) := by
  refine h.own hi _ rfl rfl rfl ?_
  obtain ⟨h1, h2, h3, h4, h5, h6, h7⟩ := h.oneOk hi
  refine ⟨h1, h2, ?_, h4, ha, h6, h7⟩
  unfold bareB at h3 ⊢
  simp only [Bool.and_eq_true, Bool.or_eq_true, beq_iff_eq] at h3 ⊢
  exact ⟨⟨⟨h3.1.1.1, .inl hk⟩, h3.1.2⟩, h3.2⟩
end
end Go.Proofs.YtmcinclecpeakaaGreatDoor.DocC
