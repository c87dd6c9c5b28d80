/- The editor's helpers (below, deep, the place in a row of kids) and every edit: what they come to; a document stays one. -/
import Derived.Test.YtmcinclecpeakaaGreatDoorDocI
namespace Go.Proofs.YtmcinclecpeakaaGreatDoor.DocC
open Go.RowKit Go.Proofs.YtmcinclecpeakaaGreatDoorW.PrintWords Go.Proofs.YtmcinclecpeakaaGreatDoor.PRR Go.Proofs.YtmcinclecpeakaaGreatDoor.DocP
set_option linter.unusedVariables false
set_option linter.unusedSimpArgs false
section
variable {l : List S43} {q : Bool}
/-! ### Index -/
theorem jx_go (xs : List Int) (x : Int) (hx : xs.length ≤ 9223372036854775807) : ∀ (m' : Nat) (i : Int), 0 ≤ i → i + m' = xs.length →
    Ev (fun k => slices_Index_int_int.l0 k xs x (xs.length : Int) i) (match (xs.drop i.toNat).findIdx? (· == x) with | some j => i + j | none => -1) := by
  intro m'
  induction m' with
  | zero =>
    intro i h0 he
    rw [List.drop_eq_nil_of_le (by omega)]
    refine Ev.step (f := fun _ => some (-1)) (fun k => ?_) (Ev.now (-1))
    simp only [slices_Index_int_int.l0]
    rw [if_neg (by omega)]
  | succ m' ih =>
    intro i h0 he
    have hil : i.toNat < xs.length := by omega
    have hr : rd xs i = xs[i.toNat] := by unfold rd; rw [List.getD_eq_getElem?_getD, List.getElem?_eq_getElem hil]; rfl
    rw [List.drop_eq_getElem_cons hil, List.findIdx?_cons, ← hr]
    by_cases e : x = rd xs i
    · rw [if_pos (by rw [e]; simp)]
      refine Ev.step (f := fun _ => some i) (fun k => ?_) (by simpa using Ev.now i)
      simp only [slices_Index_int_int.l0]
      rw [if_pos (by omega), if_pos h0, if_pos (by omega), if_pos e]
    · rw [if_neg (by simpa using fun h => e h.symm)]
      have h1 := ih (i + 1) (by omega) (by omega)
      rw [show (i + 1).toNat = i.toNat + 1 from by omega] at h1
      have e2 : (match Option.map (fun (i : Nat) => i + 1) (List.findIdx? (· == x) (xs.drop (i.toNat + 1))) with | some (j : Nat) => i + (j : Int) | none => -1) = (match List.findIdx? (· == x) (xs.drop (i.toNat + 1)) with | some (j : Nat) => i + 1 + (j : Int) | none => -1) := by
        cases List.findIdx? (· == x) (xs.drop (i.toNat + 1)) with
        | none => rfl
        | some j => show i + ((j + 1 : Nat) : Int) = i + 1 + (j : Int); omega
      rw [e2]
      refine Ev.step (fun k => ?_) h1
      show slices_Index_int_int.l0 (k + 1) xs x (xs.length : Int) i = slices_Index_int_int.l0 k xs x (xs.length : Int) (i + 1)
      simp only [slices_Index_int_int.l0]
      rw [if_pos (by omega), if_pos h0, if_pos (by omega), if_neg e, wrap_in (by omega)]
theorem jx_ev (xs : List Int) (x : Int) (hx : xs.length ≤ 9223372036854775807) : Ev (fun k => slices_Index_int_int.f k xs x) (ix xs x) := by
  have h := jx_go xs x hx xs.length 0 (by omega) (by omega)
  unfold ix
  rw [show (0 : Int).toNat = 0 from rfl, List.drop_zero] at h
  have e : (match List.findIdx? (· == x) xs with | some j => (0 : Int) + (j : Int) | none => -1) = (match List.findIdx? (· == x) xs with | some i => (i : Int) | none => -1) := by
    cases List.findIdx? (· == x) xs with
    | none => rfl
    | some j => simp
  rw [e] at h
  exact h
theorem ix_lt (xs : List Int) (x : Int) : ix xs x = -1 ∨ (0 ≤ ix xs x ∧ ix xs x < (xs.length : Int)) := by
  unfold ix
  cases h : xs.findIdx? (· == x) with
  | none => exact .inl rfl
  | some i =>
    have := (List.findIdx?_eq_some_iff_getElem.1 h).1
    exact .inr ⟨by show (0 : Int) ≤ (i : Int); omega, by show (i : Int) < _; omega⟩
/-! ### Upwards -/
theorem below_neg {t a : Int} (ht : 0 ≤ t) (ha : a < 0) : Ev (fun k => belowF l k a t) false := by
  refine Ev.step (f := fun _ => some false) (fun k => ?_) (Ev.now false)
  show belowF l (k + 1) a t = some false
  simp only [belowF]
  rw [if_neg (by omega)]
  congr 1
  exact beq_eq_false_iff_ne.2 (by omega)
theorem below_ev (hw : WF l.length (par l) (kids l)) {t : Int} (ht : 0 ≤ t) : ∀ (d : Nat) (a : Int), In l.length a → Dep (par l) a d → ∃ b, Ev (fun k => belowF l k a t) b ∧ (b = true ↔ Under (par l) t a) := by
  intro d
  induction d with
  | zero =>
    intro a ha hd
    have hp : par l a < 0 := by cases hd with | top h => exact h
    by_cases e : a = t
    · refine ⟨true, Ev.step (f := fun _ => some true) (fun k => ?_) (Ev.now true), ⟨fun _ => by rw [e]; exact .refl, fun _ => rfl⟩⟩
      show belowF l (k + 1) a t = some true
      simp only [belowF]
      rw [if_pos ha.1, if_pos e]
    · refine ⟨false, Ev.step (fun k => ?_) (below_neg (l := l) ht hp), ⟨fun h => absurd h (by decide), fun h => ?_⟩⟩
      · show belowF l (k + 1) a t = belowF l k (par l a) t
        simp only [belowF]
        rw [if_pos ha.1, if_neg e, if_pos ha.2]
        try rfl
      · cases h with
        | refl => exact absurd rfl e
        | up h0 _ => omega
  | succ d ih =>
    intro a ha hd
    cases hd with
    | up hp hd =>
      by_cases e : a = t
      · refine ⟨true, Ev.step (f := fun _ => some true) (fun k => ?_) (Ev.now true), ⟨fun _ => by rw [e]; exact .refl, fun _ => rfl⟩⟩
        show belowF l (k + 1) a t = some true
        simp only [belowF]
        rw [if_pos ha.1, if_pos e]
      · obtain ⟨b, h1, h2⟩ := ih (par l a) (DocT.WFin hw ha hp) hd
        refine ⟨b, Ev.step (fun k => ?_) h1, ⟨fun h => .up hp (h2.1 h), fun h => ?_⟩⟩
        · show belowF l (k + 1) a t = belowF l k (par l a) t
          simp only [belowF]
          rw [if_pos ha.1, if_neg e, if_pos ha.2]
          try rfl
        · cases h with
          | refl => exact absurd rfl e
          | up _ h => exact h2.2 h
theorem upv_ev (hw : WF l.length (par l) (kids l)) (hl : l.length ≤ 200) {a : Int} {d : Nat} (ha : In l.length a) (hd : Dep (par l) a d) : Ev (fun k => dom_up.f k l q a) d := by
  have h := up_run l q hw hl d a 0 ha hd (Int.le_refl _) (by have := up_ok hw ha hd; omega)
  rw [Int.zero_add] at h
  exact h
/-! ### Downwards -/
theorem deepGo_ev {d : Nat} : ∀ (xs : List Int) (m : Int), (∀ x ∈ xs, ∃ r, Ev (fun k => deepF l k x) r ∧ 0 ≤ r ∧ r + (d + 1 : Nat) ≤ 40) → 0 ≤ m → m + d ≤ 40 →
    ∃ m', Ev (fun k => deepGo (deepF l k) xs m) m' ∧ m ≤ m' ∧ m' + d ≤ 40 ∧ ∀ x ∈ xs, ∀ r, Ev (fun k => deepF l k x) r → r + 1 ≤ m'
  | [], m, _, h0, h1 => ⟨m, Ev.now m, Int.le_refl _, h1, fun x hx => by cases hx⟩
  | x :: xs, m, hx, h0, h1 => by
    obtain ⟨r, hr, hr0, hr1⟩ := hx x List.mem_cons_self
    have e : wrap64 (r + 1) = r + 1 := wrap_in (by omega)
    obtain ⟨m', g1, g2, g3, g4⟩ := deepGo_ev xs (mx m (r + 1)) (fun y hy => hx y (List.mem_cons_of_mem _ hy)) (by unfold mx; split <;> omega) (by unfold mx; split <;> omega)
    have hm1 : m ≤ mx m (r + 1) ∧ r + 1 ≤ mx m (r + 1) := by unfold mx; split <;> omega
    refine ⟨m', ?_, by omega, g3, fun y hy r' hr' => ?_⟩
    · show Ev (fun k => (deepF l k x).bind fun d => deepGo (deepF l k) xs (mx m (wrap64 (d + 1)))) m'
      refine Ev.bind (f := fun k d => deepGo (deepF l k) xs (mx m (wrap64 (d + 1)))) hr ?_
      rw [e]
      exact g1
    · rcases List.mem_cons.1 hy with rfl | hy
      · rw [ev_one hr' hr]; omega
      · exact g4 y hy r' hr'
theorem deep_ev (hw : WF l.length (par l) (kids l)) : ∀ (f : Nat) (d : Nat) (a : Int), In l.length a → Dep (par l) a d → 40 ≤ f + d → ∃ r, Ev (fun k => deepF l k a) r ∧ 0 ≤ r ∧ r + (d : Nat) ≤ 40 ∧ ∀ x, In l.length x → Under (par l) a x → ∀ e, Dep (par l) x e → (e : Int) ≤ d + r := by
  intro f
  induction f with
  | zero =>
    intro d a ha hd h40
    have hd40 : d ≤ 40 := by obtain ⟨d', h1, h2⟩ := hw.dep a ha.1 ha.2; rw [hd.fn h2]; exact h1
    have hk : kids l a = [] := by
      rcases List.eq_nil_or_concat (kids l a) with h | ⟨t, c, h⟩
      · exact h
      · exfalso
        have hc : c ∈ kids l a := by rw [h]; simp
        obtain ⟨hc1, hc2⟩ := hw.kid_in ha hc
        obtain ⟨d', h1, h2⟩ := hw.dep c hc1.1 hc1.2
        have := h2.fn (.up (by rw [hc2]; exact ha.1) (by rw [hc2]; exact hd))
        omega
    refine ⟨0, Ev.step (f := fun _ => some 0) (fun k => ?_) (Ev.now 0), Int.le_refl _, by omega, fun x hx hu e he => ?_⟩
    · show deepF l (k + 1) a = some 0
      simp only [deepF]
      rw [if_pos ha.1, if_pos ha.2, show (rd_T43 l a).f5 = [] from hk]
      rfl
    · rcases under_kid hw ha hu hx with rfl | ⟨c, hc, _⟩
      · rw [he.fn hd]; omega
      · rw [hk] at hc; cases hc
  | succ f ih =>
    intro d a ha hd h40
    have hd40 : d ≤ 40 := by obtain ⟨d', h1, h2⟩ := hw.dep a ha.1 ha.2; rw [hd.fn h2]; exact h1
    have hkid : ∀ c ∈ kids l a, In l.length c ∧ Dep (par l) c (d + 1) := fun c hc => by
      obtain ⟨hc1, hc2⟩ := hw.kid_in ha hc
      exact ⟨hc1, .up (by rw [hc2]; exact ha.1) (by rw [hc2]; exact hd)⟩
    obtain ⟨m, g1, g2, g3, g4⟩ := deepGo_ev (l := l) (d := d) (kids l a) 0 (fun c hc => by
      obtain ⟨h1, h2⟩ := hkid c hc
      obtain ⟨r, e1, e2, e3, _⟩ := ih (d + 1) c h1 h2 (by omega)
      exact ⟨r, e1, e2, e3⟩) (Int.le_refl _) (by omega)
    refine ⟨m, Ev.step (fun k => ?_) g1, g2, g3, fun x hx hu e he => ?_⟩
    · show deepF l (k + 1) a = deepGo (deepF l k) (kids l a) 0
      simp only [deepF]
      rw [if_pos ha.1, if_pos ha.2]
      try rfl
    · rcases under_kid hw ha hu hx with rfl | ⟨c, hc, hu'⟩
      · rw [he.fn hd]; omega
      · obtain ⟨h1, h2⟩ := hkid c hc
        obtain ⟨r, e1, e2, e3, e4⟩ := ih (d + 1) c h1 h2 (by omega)
        have := e4 x hx hu' e he
        have := g4 c hc r e1
        omega
/-! ### What an edit keeps -/
structure Keeps (l l' : List S43) : Prop where
  len : l.length ≤ l'.length
  same : ∀ i : Int, In l.length i → (rd_T43 l' i).f0 = (rd_T43 l i).f0 ∧ (rd_T43 l' i).f1 = (rd_T43 l i).f1
theorem Keeps.refl (l : List S43) : Keeps l l := ⟨Nat.le_refl _, fun _ _ => ⟨rfl, rfl⟩⟩
theorem Keeps.set {i : Int} (hi : In l.length i) (y : S43) (h0 : y.f0 = (rd_T43 l i).f0) (h1 : y.f1 = (rd_T43 l i).f1) : Keeps l (l.set i.toNat y) := by
  refine ⟨by rw [List.length_set]; exact Nat.le_refl _, fun j hj => ?_⟩
  rw [rd_set2 l hi]
  split
  · next e => rw [rd_same l e]; exact ⟨h0, h1⟩
  · exact ⟨rfl, rfl⟩
theorem Keeps.trans {l l' l'' : List S43} (h : Keeps l l') (h' : Keeps l' l'') : Keeps l l'' :=
  ⟨Nat.le_trans h.len h'.len, fun i hi => by
    have hi' : In l'.length i := ⟨hi.1, by have := hi.2; have := h.len; omega⟩
    exact ⟨(h'.same i hi').1.trans (h.same i hi).1, (h'.same i hi').2.trans (h.same i hi).2⟩⟩
theorem Keeps.set2 {i j : Int} (hi : In l.length i) (hj : In l.length j) (y z : S43) (h0 : y.f0 = (rd_T43 l i).f0) (h1 : y.f1 = (rd_T43 l i).f1) (g0 : z.f0 = (rd_T43 l j).f0) (g1 : z.f1 = (rd_T43 l j).f1) : Keeps l ((l.set i.toNat y).set j.toNat z) := by
  refine ⟨by rw [List.length_set, List.length_set]; exact Nat.le_refl _, fun k hk => ?_⟩
  rw [rd_two l hi hj y z k hk.1]
  split
  · next e => rw [e]; exact ⟨g0, g1⟩
  · split
    · next e => rw [e]; exact ⟨h0, h1⟩
    · exact ⟨rfl, rfl⟩
theorem Keeps.snoc (y : S43) : Keeps l (l ++ [y]) :=
  ⟨by simp, fun i hi => by rw [rd_snoc l y i hi.1, if_neg (by have := hi.2; omega)]; exact ⟨rfl, rfl⟩⟩
/-- What an edit comes to. -/
def Fine (l : List S43) (t : Int × List S43) : Prop := t.1 = 0 → DocOk t.2 ∧ Keeps l t.2 ∧ t.2.length = l.length
theorem text_good (h : DocOk l) (e : S45) : Fine l (textF l e) := by
  unfold textF Fine
  by_cases hi : 0 ≤ e.f1 ∧ e.f1 < (l.length : Int)
  · rw [if_pos hi]
    by_cases hk : (rd_T43 l e.f1).f0 = 3 ∨ (rd_T43 l e.f1).f0 = 4
    · rw [if_pos hk]
      split
      · intro h; exact absurd h (by show (2 : Int) ≠ 0; decide)
      · intro _
        exact ⟨h.text hi hk e.f5 (by omega), Keeps.set hi _ rfl rfl, List.length_set⟩
    · rw [if_neg hk]; intro h; exact absurd h (by show (7 : Int) ≠ 0; decide)
  · rw [if_neg hi]; intro h; exact absurd h (by show (5 : Int) ≠ 0; decide)
theorem find_is (a : List S66) (s : ByteArray) : dom_find.f a s = some (idxF (fun x => x.f0.toList == s.toList) a) := rfl
theorem attr_good (h : DocOk l) (e : S45) : ∃ t, attrF l e = some t ∧ Fine l t := by
  unfold attrF Fine
  by_cases hi : 0 ≤ e.f1 ∧ e.f1 < (l.length : Int)
  · rw [if_pos hi]
    by_cases hk : (rd_T43 l e.f1).f0 = 2
    · rw [if_pos hk]
      have ho := (h.oneOk hi).2.2.2.2.1
      rw [if_pos (by have := ho.1; omega), find_is]
      obtain ⟨nm, hnm⟩ := attrName_some e.f4
      rw [hnm]
      show ∃ t, (if nm = false then _ else _) = some t ∧ _
      generalize hix : idxF (fun x => x.f0.toList == e.f4.toList) (rd_T43 l e.f1).f2 = i
      by_cases c1 : nm = false
      · rw [if_pos c1]; exact ⟨_, rfl, fun h => absurd h (by show (3 : Int) ≠ 0; decide)⟩
      have hn1 : nm = true := by cases nm with | true => rfl | false => exact absurd rfl c1
      rw [if_neg c1]
      by_cases c2 : 400 < (e.f5.size : Int)
      · rw [if_pos c2]; exact ⟨_, rfl, fun h => absurd h (by show (2 : Int) ≠ 0; decide)⟩
      rw [if_neg c2]
      by_cases c3 : i < 0 ∧ (rd_T43 l e.f1).f2.length = 12
      · rw [if_pos c3]; exact ⟨_, rfl, fun h => absurd h (by show (2 : Int) ≠ 0; decide)⟩
      rw [if_neg c3]
      by_cases c4 : i < 0
      · rw [if_pos c4]
        refine ⟨_, rfl, fun _ => ⟨h.attrs hi hk _ (ho.snoc (by rw [hnm, hn1]) (by omega) (fun h => c3 ⟨c4, h⟩) (by rw [hix]; exact c4)), Keeps.set hi _ rfl rfl, List.length_set⟩⟩
      · rw [if_neg c4]
        have hlt : i < ((rd_T43 l e.f1).f2.length : Int) := by
          rcases idx_lt (fun x => x.f0.toList == e.f4.toList) (rd_T43 l e.f1).f2 with h | h
          · rw [hix] at h; exact h
          · rw [hix] at h; omega
        rw [if_pos hlt]
        have hlt' : i.toNat < (rd_T43 l e.f1).f2.length := by omega
        have hset := ho.set hlt' (v := e.f5) (by omega)
        have e2 : (rd_T66 (rd_T43 l e.f1).f2 i).f0 = ((rd_T43 l e.f1).f2[i.toNat]).f0 := by
          unfold rd_T66
          rw [List.getD_eq_getElem?_getD, List.getElem?_eq_getElem hlt']
          rfl
        rw [e2]
        exact ⟨_, rfl, fun _ => ⟨h.attrs hi hk _ hset, Keeps.set hi _ rfl rfl, List.length_set⟩⟩
    · rw [if_neg hk]; exact ⟨_, rfl, fun h => absurd h (by show (7 : Int) ≠ 0; decide)⟩
  · rw [if_neg hi]; exact ⟨_, rfl, fun h => absurd h (by show (5 : Int) ≠ 0; decide)⟩
theorem drop_good (h : DocOk l) (e : S45) : ∃ t, dropF l e = some t ∧ Fine l t := by
  unfold dropF Fine
  by_cases hi : 0 ≤ e.f1 ∧ e.f1 < (l.length : Int)
  · rw [if_pos hi]
    by_cases hk : (rd_T43 l e.f1).f0 = 2
    · rw [if_pos hk]
      have ho := (h.oneOk hi).2.2.2.2.1
      rw [if_pos (by have := ho.1; omega), find_is]
      show ∃ t, (if idxF _ _ < 0 then _ else _) = some t ∧ _
      by_cases c4 : idxF (fun x => x.f0.toList == e.f4.toList) (rd_T43 l e.f1).f2 < 0
      · rw [if_pos c4]; exact ⟨_, rfl, fun h => absurd h (by show (5 : Int) ≠ 0; decide)⟩
      · rw [if_neg c4]
        have hlt : idxF (fun x => x.f0.toList == e.f4.toList) (rd_T43 l e.f1).f2 < ((rd_T43 l e.f1).f2.length : Int) := by
          rcases idx_lt (fun x => x.f0.toList == e.f4.toList) (rd_T43 l e.f1).f2 with h | h
          · exact h
          · omega
        rw [if_pos hlt]
        exact ⟨_, rfl, fun _ => ⟨h.attrs hi hk _ (ho.erase _), Keeps.set hi _ rfl rfl, List.length_set⟩⟩
    · rw [if_neg hk]; exact ⟨_, rfl, fun h => absurd h (by show (7 : Int) ≠ 0; decide)⟩
  · rw [if_neg hi]; exact ⟨_, rfl, fun h => absurd h (by show (5 : Int) ≠ 0; decide)⟩
theorem DocOk.kids_le (h : DocOk l) {i : Int} (hi : In l.length i) : (kids l i).length ≤ 200 := by
  have := nodup_len l.length (kids l i) (h.wf.nodup _ hi.1 hi.2) (fun x hx => (h.wf.kid_in hi hx).1)
  have := h.len
  omega
theorem remove_good (h : DocOk l) (e : S45) : ∃ t, Ev (fun k => removeF k l e) t ∧ Fine l t := by
  unfold removeF Fine
  by_cases hi : 0 ≤ e.f1 ∧ e.f1 < (l.length : Int)
  · simp only [if_pos hi]
    by_cases hk : (rd_T43 l e.f1).f0 = 1
    · simp only [if_pos hk]; exact ⟨_, Ev.now _, fun h => absurd h (by show (7 : Int) ≠ 0; decide)⟩
    simp only [if_neg hk]
    by_cases hp : (rd_T43 l e.f1).f4 < 0
    · simp only [if_pos hp]; exact ⟨_, Ev.now _, fun h => absurd h (by show (5 : Int) ≠ 0; decide)⟩
    simp only [if_neg hp]
    have hp0 : 0 ≤ par l e.f1 := Int.not_lt.1 hp
    obtain ⟨ii, hil, hix1, hix2, hpin⟩ := h.wf.place hi hp0
    have hne : par l e.f1 ≠ e.f1 := fun hh => by
      obtain ⟨d, _, hd⟩ := h.wf.dep e.f1 hi.1 hi.2
      have : ∀ d, Dep (par l) e.f1 d → False := by
        intro d
        induction d with
        | zero => intro hd; cases hd with | top h => omega
        | succ d ih =>
          intro hd
          cases hd with
          | up h0 hd => rw [hh] at hd; exact ih hd
      exact this d hd
    have hk200 := h.kids_le hpin
    have hcond : (rd_T43 l e.f1).f4 < (l.length : Int) ∧ (rd_T43 l e.f1).f4 ≠ e.f1 ∧ (rd_T43 l (rd_T43 l e.f1).f4).f5.length ≤ 1000 := ⟨hpin.2, hne, by show (kids l (par l e.f1)).length ≤ 1000; omega⟩
    simp only [if_pos hcond]
    have hev := jx_ev (kids l (par l e.f1)) e.f1 (by omega)
    rw [hix2] at hev
    refine ⟨_, Ev.bind (f := fun k i => if 0 ≤ i ∧ i < ((rd_T43 l (rd_T43 l e.f1).f4).f5.length : Int) then some (0, (l.set (rd_T43 l e.f1).f4.toNat { rd_T43 l (rd_T43 l e.f1).f4 with f5 := (rd_T43 l (rd_T43 l e.f1).f4).f5.eraseIdx i.toNat }).set e.f1.toNat { rd_T43 l e.f1 with f4 := -1 }) else none) hev (Ev.congr (fun k => if_pos ⟨by omega, by show (ii : Int) < ((kids l (par l e.f1)).length : Int); omega⟩) (Ev.now _)), fun _ => ?_⟩
    rw [Int.toNat_natCast]
    exact ⟨h.remove hi hk rfl hp0 hil hix1, Keeps.set2 hpin hi _ _ rfl rfl rfl rfl, List.length_set.trans List.length_set⟩
  · simp only [if_neg hi]; exact ⟨_, Ev.now _, fun h => absurd h (by show (5 : Int) ≠ 0; decide)⟩
theorem make_good (h : DocOk l) (e : S45) : ∃ r l' m, Ev (fun k => makeF k l e) (r, l', m) ∧ (r = 0 → DocOk l' ∧ Keeps l l' ∧ m = (l.length : Int) ∧ l'.length = l.length + 1) := by
  unfold makeF
  by_cases c1 : e.f6.f5 = []
  · simp only [if_pos c1]
    by_cases c2 : e.f6.f0 = 1
    · simp only [if_pos c2]; exact ⟨_, _, _, Ev.now _, fun h => absurd h (by decide)⟩
    simp only [if_neg c2]
    obtain ⟨r, hr, hok⟩ := one_val e.f6
    by_cases hr0 : r = 0
    · have ho := hok.1 hr0
      have ha : e.f6.f2.length ≤ 12 := ho.2.2.2.2.1.1
      by_cases hl : l.length < 200
      · refine ⟨0, l ++ [⟨e.f6.f0, e.f6.f1, e.f6.f2, e.f6.f3, -1, []⟩], l.length, Ev.bind (f := fun k r => if r = 0 then _ else _) hr (Ev.congr (fun k => (if_pos hr0).trans (if_pos ⟨hl, by omega⟩)) (Ev.now _)), fun _ => ⟨?_, Keeps.snoc _, rfl, by simp⟩⟩
        have ho' := ho.turn (-1) [] (.inr (.inl rfl))
        exact h.make hl ho' c2 rfl rfl
      · refine ⟨2, l, l.length, Ev.bind (f := fun k r => if r = 0 then _ else _) hr (Ev.congr (fun k => (if_pos hr0).trans ((if_neg (fun h => hl h.1)).trans (if_pos (by have := h.len; omega)))) (Ev.now _)), fun h => absurd h (by decide)⟩
    · exact ⟨r, l, l.length, Ev.bind (f := fun k r => if r = 0 then _ else _) hr (Ev.congr (fun k => if_neg hr0) (Ev.now _)), fun h => absurd h hr0⟩
  · simp only [if_neg c1]; exact ⟨_, _, _, Ev.now _, fun h => absurd h (by decide)⟩
theorem parent_is {a : Int} (h : dom_parent.f a = some true) : a = 1 ∨ a = 2 := by
  unfold dom_parent.f at h
  split at h
  · exact .inl ‹_›
  · injection h with h
    exact .inr (by simpa using h)
theorem place_ev (ks : List Int) (be : Int) (hk : ks.length ≤ 200) : ∃ p, Ev (fun k => placeF k ks be) p ∧ p ≤ (ks.length : Int) := by
  unfold placeF
  by_cases h : be = -1
  · simp only [if_pos h]; exact ⟨_, Ev.now _, Int.le_refl _⟩
  · simp only [if_neg h]
    exact ⟨_, jx_ev ks be (by omega), by rcases ix_lt ks be with h | h <;> omega⟩
theorem nodup_put {xs : List Int} (hn : xs.Nodup) {x : Int} (hx : x ∉ xs) (p : Nat) : (∀ k, k ∈ xs.take p ++ x :: xs.drop p ↔ k ∈ xs ∨ k = x) ∧ (xs.take p ++ x :: xs.drop p).Nodup := by
  have hp : (xs.take p ++ x :: xs.drop p).Perm (x :: xs) := by
    have h1 : (xs.take p ++ x :: xs.drop p).Perm (x :: (xs.take p ++ xs.drop p)) := List.perm_middle
    rw [List.take_append_drop] at h1
    exact h1
  exact ⟨fun k => by rw [hp.mem_iff, List.mem_cons]; exact ⟨fun h => h.symm, fun h => h.symm⟩, hp.nodup_iff.2 (List.nodup_cons.2 ⟨hx, hn⟩)⟩
set_option maxHeartbeats 2000000 in
theorem insert_good (h : DocOk l) (e : S45) : ∃ t, Ev (fun k => insertF k l q e) t ∧ Fine l t := by
  unfold insertF Fine
  by_cases hi : (0 ≤ e.f1 ∧ e.f1 < (l.length : Int)) ∧ (0 ≤ e.f2 ∧ e.f2 < (l.length : Int))
  · simp only [if_pos hi]
    obtain ⟨hi, hj⟩ := hi
    obtain ⟨pb, hpb⟩ := parent_some (rd_T43 l e.f1).f0
    simp only [hpb, Option.bind_some]
    by_cases c1 : pb = false ∨ (rd_T43 l e.f2).f0 = 1 ∨ ((rd_T43 l e.f1).f0 = 1 ∧ (rd_T43 l e.f2).f0 = 3)
    · simp only [if_pos c1]; exact ⟨_, Ev.now _, fun h => absurd h (by show (7 : Int) ≠ 0; decide)⟩
    simp only [if_neg c1]
    by_cases c2 : 0 ≤ (rd_T43 l e.f2).f4
    · simp only [if_pos c2]; exact ⟨_, Ev.now _, fun h => absurd h (by show (9 : Int) ≠ 0; decide)⟩
    simp only [if_neg c2]
    have hk200 := h.kids_le hi
    have hk1000 : (rd_T43 l e.f1).f5.length ≤ 1000 := by show (kids l e.f1).length ≤ 1000; omega
    simp only [if_pos hk1000]
    obtain ⟨p, hp, hple⟩ := place_ev (rd_T43 l e.f1).f5 e.f3 hk200
    obtain ⟨di, hd40, hdi⟩ := h.wf.dep e.f1 hi.1 hi.2
    obtain ⟨bb, hbb, hbu⟩ := below_ev h.wf hj.1 di e.f1 hi hdi
    obtain ⟨dj, hj40, hdj⟩ := h.wf.dep e.f2 hj.1 hj.2
    obtain ⟨r, hr, hr0, hr1, hr2⟩ := deep_ev h.wf 40 dj e.f2 hj hdj (by omega)
    have hup := upv_ev (q := q) h.wf h.len hi hdi
    by_cases c3 : p < 0
    · exact ⟨_, Ev.bind (f := fun k p => if p < 0 then _ else _) hp (Ev.congr (fun k => if_pos c3) (Ev.now _)), fun h => absurd h (by show (5 : Int) ≠ 0; decide)⟩
    by_cases c4 : bb = true
    · exact ⟨_, Ev.bind (f := fun k p => if p < 0 then _ else _) hp (Ev.congr (fun k => if_neg c3) (Ev.bind (f := fun k bb => if bb = true then _ else _) hbb (Ev.congr (fun k => if_pos c4) (Ev.now _)))), fun h => absurd h (by show (8 : Int) ≠ 0; decide)⟩
    have HEw := Lib.hid (show wrap64 (wrap64 ((di : Int) + 1) + r) = di + 1 + r from by rw [wrap_in (x := (di : Int) + 1) (by omega), wrap_in (by omega)])
    by_cases c5 : 40 < wrap64 (wrap64 ((di : Int) + 1) + r)
    · exact ⟨_, Ev.bind (f := fun k p => if p < 0 then _ else _) hp (Ev.congr (fun k => if_neg c3) (Ev.bind (f := fun k bb => if bb = true then _ else _) hbb (Ev.congr (fun k => if_neg c4) (Ev.bind (f := fun k u => (deepF l k e.f2).bind fun dp => if 40 < wrap64 (wrap64 (u + 1) + dp) then _ else _) hup (Ev.bind (f := fun k dp => if 40 < wrap64 (wrap64 ((di : Int) + 1) + dp) then _ else _) hr (Ev.congr (fun k => if_pos c5) (Ev.now _))))))), fun h => absurd h (by show (2 : Int) ≠ 0; decide)⟩
    refine ⟨_, Ev.bind (f := fun k p => if p < 0 then _ else _) hp (Ev.congr (fun k => if_neg c3) (Ev.bind (f := fun k bb => if bb = true then _ else _) hbb (Ev.congr (fun k => if_neg c4) (Ev.bind (f := fun k u => (deepF l k e.f2).bind fun dp => if 40 < wrap64 (wrap64 (u + 1) + dp) then _ else _) hup (Ev.bind (f := fun k dp => if 40 < wrap64 (wrap64 ((di : Int) + 1) + dp) then _ else _) hr (Ev.congr (fun k => (if_neg c5).trans (if_pos hple)) (Ev.now _))))))), fun _ => ?_⟩
    rw [HEw.out] at c5
    clear HEw
    have hpj : par l e.f2 < 0 := Int.not_le.1 c2
    have hnu : ¬ Under (par l) e.f2 e.f1 := fun hu => c4 (hbu.2 hu)
    have hdj0 : dj = 0 := hdj.fn (.top hpj)
    have hki : (rd_T43 l e.f1).f0 = 1 ∨ (rd_T43 l e.f1).f0 = 2 := by
      have hpt : pb = true := by cases pb with | true => rfl | false => exact absurd (.inl rfl) c1
      rw [hpt] at hpb
      exact parent_is hpb
    have hnk : e.f2 ∉ kids l e.f1 := fun hh => by
      have := (h.wf.kid_in hi hh).2
      have := hi.1
      omega
    have hput := nodup_put (h.wf.nodup e.f1 hi.1 hi.2) hnk p.toNat
    refine ⟨h.insert hi hj hki (fun hh => c1 (.inr (.inl hh))) (fun hh => c1 (.inr (.inr hh))) hpj hdi hnu (fun k hk hu e' he => ?_) _ hput, Keeps.set2 hi hj _ _ rfl rfl rfl rfl, List.length_set.trans List.length_set⟩
    · have := hr2 k hk hu e' he
      omega
  · simp only [if_neg hi]; exact ⟨_, Ev.now _, fun h => absurd h (by show (5 : Int) ≠ 0; decide)⟩
theorem ev_map {α β : Type} {g : Nat → Option α} {a : α} (h : Ev g a) (f : α → β) : Ev (fun k => (g k).map f) (f a) := by
  obtain ⟨K, hK⟩ := h
  exact ⟨K, fun k hk => by show (g k).map f = _; rw [hK k hk]; rfl⟩
/-- Every edit of a document comes to an error, or to a document. -/
theorem edit_good (h : DocOk l) (made : Int) (e : S45) : ∃ r l' m, Ev (fun k => editF k l q made e) (r, l', m) ∧ (r = 0 → DocOk l' ∧ Keeps l l' ∧ ((m = made ∧ l'.length = l.length) ∨ (m = (l.length : Int) ∧ l'.length = l.length + 1))) := by
  unfold editF
  have F : ∀ t : Int × List S43, Fine l t → (t.1 = 0 → DocOk t.2 ∧ Keeps l t.2 ∧ ((made = made ∧ t.2.length = l.length) ∨ (made = (l.length : Int) ∧ t.2.length = l.length + 1))) := fun t ht h0 => ⟨(ht h0).1, (ht h0).2.1, .inl ⟨rfl, (ht h0).2.2⟩⟩
  by_cases d3 : e.f0 = 3
  · simp only [if_pos d3]
    exact ⟨_, _, _, Ev.now _, F _ (text_good h e)⟩
  simp only [if_neg d3]
  by_cases d4 : e.f0 = 4
  · simp only [if_pos d4]
    obtain ⟨r, l', m, h1, h2⟩ := make_good h e
    exact ⟨r, l', m, h1, fun h0 => ⟨(h2 h0).1, (h2 h0).2.1, .inr (h2 h0).2.2⟩⟩
  simp only [if_neg d4]
  by_cases d5 : e.f0 = 5
  · simp only [if_pos d5]
    obtain ⟨t, h1, h2⟩ := insert_good (q := q) h e
    exact ⟨_, _, _, ev_map h1 _, F _ h2⟩
  simp only [if_neg d5]
  by_cases d1 : e.f0 = 1
  · simp only [if_pos d1]
    obtain ⟨t, h1, h2⟩ := attr_good h e
    exact ⟨_, _, _, ev_map (Ev.congr (fun _ => h1) (Ev.now _)) _, F _ h2⟩
  simp only [if_neg d1]
  by_cases d2 : e.f0 = 2
  · simp only [if_pos d2]
    obtain ⟨t, h1, h2⟩ := drop_good h e
    exact ⟨_, _, _, ev_map (Ev.congr (fun _ => h1) (Ev.now _)) _, F _ h2⟩
  simp only [if_neg d2]
  by_cases d6 : e.f0 = 6
  · simp only [if_pos d6]
    obtain ⟨t, h1, h2⟩ := remove_good h e
    exact ⟨_, _, _, ev_map h1 _, F _ h2⟩
  simp only [if_neg d6]
  exact ⟨_, _, _, Ev.now _, fun h => absurd h (by decide)⟩
theorem DocOk.all (h : DocOk l) : allOk l = true := by
  unfold allOk
  simp only [Bool.and_eq_true, decide_eq_true_eq, List.all_eq_true]
  refine ⟨by have := h.len; omega, fun x hx => ?_⟩
  obtain ⟨i, hi, rfl⟩ := List.getElem_of_mem hx
  have hin : In l.length (i : Int) := ⟨by omega, by omega⟩
  have e : rd_T43 l (i : Int) = l[i] := by
    unfold rd_T43
    rw [Int.toNat_natCast, List.getD_eq_getElem?_getD, List.getElem?_eq_getElem hi]; rfl
  have h1 := (h.oneOk hin).2.2.2.2.1.1
  have h2 : (rd_T43 l (i : Int)).f5.length ≤ 200 := h.kids_le hin
  rw [e] at h1 h2
  exact ⟨by omega, by omega⟩
end
end Go.Proofs.YtmcinclecpeakaaGreatDoor.DocC
