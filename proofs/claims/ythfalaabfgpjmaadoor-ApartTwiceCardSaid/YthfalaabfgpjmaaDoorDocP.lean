/- Trees, told by parents and kids alone: ways through them. No program in sight. -/
namespace Go.Proofs.YthfalaabfgpjmaaDoor.DocP
set_option linter.unusedVariables false
set_option linter.unusedSimpArgs false

/-- From a node up to one without a parent: so many steps. -/
inductive Dep (par : Int → Int) : Int → Nat → Prop
  | top {a : Int} : par a < 0 → Dep par a 0
  | up {a : Int} {d : Nat} : 0 ≤ par a → Dep par (par a) d → Dep par a (d + 1)

/-- What a document is: n nodes, each one's parent, each one's kids. -/
structure WF (n : Nat) (par : Int → Int) (kids : Int → List Int) : Prop where
  pos : 0 < n
  kid : ∀ i : Int, 0 ≤ i → i < n → ∀ k ∈ kids i, 0 ≤ k ∧ k < n ∧ par k = i
  nodup : ∀ i : Int, 0 ≤ i → i < n → (kids i).Nodup
  has : ∀ k : Int, 0 ≤ k → k < n → par k = -1 ∨ (0 ≤ par k ∧ par k < n ∧ k ∈ kids (par k))
  root : par 0 = -1
  dep : ∀ k : Int, 0 ≤ k → k < n → ∃ d, d ≤ 40 ∧ Dep par k d

section
variable {n : Nat} {par : Int → Int} {kids : Int → List Int}
theorem Dep.fn {a : Int} {d d' : Nat} (h : Dep par a d) (h' : Dep par a d') : d = d' := by
  induction h generalizing d' with
  | top h0 => cases h' with
    | top _ => rfl
    | up h1 _ => omega
  | up h0 _ ih => cases h' with
    | top h1 => omega
    | up _ h2 => rw [ih h2]

/-! ### Places in a list -/
def ix (xs : List Int) (x : Int) : Int := match xs.findIdx? (· == x) with | some i => (i : Int) | none => -1
theorem ix_get {xs : List Int} (hn : xs.Nodup) {i : Nat} (hi : i < xs.length) : ix xs xs[i] = i := by
  have h : xs.findIdx? (· == xs[i]) = some i := by
    rw [List.findIdx?_eq_some_iff_getElem]
    refine ⟨hi, by simp, fun j hj => ?_⟩
    have hne : xs[j] ≠ xs[i] := by
      intro e
      have := (List.nodup_iff_pairwise_ne.1 hn)
      rw [List.pairwise_iff_getElem] at this
      exact this j i (by omega) hi hj e
    simpa using hne
  unfold ix; rw [h]
theorem ix_mem {xs : List Int} (hn : xs.Nodup) {x : Int} (hx : x ∈ xs) : ∃ i : Nat, ∃ hi : i < xs.length, xs[i] = x ∧ ix xs x = i := by
  obtain ⟨i, hi, rfl⟩ := List.mem_iff_getElem.1 hx
  exact ⟨i, hi, rfl, ix_get hn hi⟩

/-! ### Beside, above, below -/
def nth (xs : List Int) (i : Int) : Int := if 0 ≤ i ∧ i < xs.length then xs.getD i.toNat 0 else -1
def beside (par : Int → Int) (kids : Int → List Int) (a by_ : Int) : Int := if par a < 0 then -1 else nth (kids (par a)) (ix (kids (par a)) a + by_)
def firstKid (kids : Int → List Int) (a : Int) : Int := nth (kids a) 0
def lastKid (kids : Int → List Int) (a : Int) : Int := nth (kids a) ((kids a).length - 1)
def overF (par : Int → Int) (kids : Int → List Int) : Nat → Int → Int
  | 0, a => beside par kids a 1
  | d + 1, a => if 0 ≤ beside par kids a 1 then beside par kids a 1 else overF par kids d (par a)
def downF (kids : Int → List Int) : Nat → Int → Int
  | 0, a => a
  | f + 1, a => if kids a = [] then a else downF kids f (lastKid kids a)
def pathL (par : Int → Int) : Nat → Int → List Int
  | 0, a => [a]
  | d + 1, a => pathL par d (par a) ++ [a]
def In (n : Nat) (a : Int) : Prop := 0 ≤ a ∧ a < n

theorem nth_nat {xs : List Int} {i : Nat} (hi : i < xs.length) : nth xs (i : Int) = xs[i] := by
  unfold nth; rw [if_pos ⟨by omega, by omega⟩, Int.toNat_natCast, List.getD_eq_getElem?_getD, List.getElem?_eq_getElem hi]; rfl
theorem nth_out {xs : List Int} {i : Int} (h : i < 0 ∨ (xs.length : Int) ≤ i) : nth xs i = -1 := by unfold nth; rw [if_neg (by omega)]
theorem WF.par_or (h : WF n par kids) {a : Int} (ha : In n a) : par a = -1 ∨ (In n (par a) ∧ a ∈ kids (par a)) := by
  rcases h.has a ha.1 ha.2 with e | ⟨h1, h2, h3⟩
  · exact .inl e
  · exact .inr ⟨⟨h1, h2⟩, h3⟩
theorem WF.kid_in (h : WF n par kids) {a k : Int} (ha : In n a) (hk : k ∈ kids a) : In n k ∧ par k = a := by
  obtain ⟨h1, h2, h3⟩ := h.kid a ha.1 ha.2 k hk
  exact ⟨⟨h1, h2⟩, h3⟩
/-- A node that has a parent is one of its kids, at some place. -/
theorem WF.place (h : WF n par kids) {a : Int} (ha : In n a) (hp : 0 ≤ par a) : ∃ i : Nat, ∃ hi : i < (kids (par a)).length, (kids (par a))[i] = a ∧ ix (kids (par a)) a = i ∧ In n (par a) := by
  rcases h.par_or ha with e | ⟨h1, h2⟩
  · omega
  · obtain ⟨i, hi, e, hx⟩ := ix_mem (h.nodup _ h1.1 h1.2) h2
    exact ⟨i, hi, e, hx, h1⟩
/-- Beside the kid at place i. -/
theorem WF.beside_at (h : WF n par kids) {a : Int} (ha : In n a) {i : Nat} (hi : i < (kids a).length) (by_ : Int) : beside par kids (kids a)[i] by_ = nth (kids a) (i + by_) := by
  obtain ⟨hk, hp⟩ := h.kid_in ha (List.getElem_mem hi)
  unfold beside
  rw [hp, if_neg (by have := ha.1; omega), ix_get (h.nodup _ ha.1 ha.2) hi]
theorem firstKid_cons (a : Int) (hi : 0 < (kids a).length) : firstKid kids a = (kids a)[0] := nth_nat hi
theorem lastKid_cons (a : Int) (hi : 0 < (kids a).length) : lastKid kids a = (kids a)[(kids a).length - 1] := by
  unfold lastKid
  rw [show ((kids a).length : Int) - 1 = (((kids a).length - 1 : Nat) : Int) from by omega]
  exact nth_nat (by omega)
theorem firstKid_nil (a : Int) (h : kids a = []) : firstKid kids a = -1 := by unfold firstKid; rw [h]; rfl
theorem lastKid_nil (a : Int) (h : kids a = []) : lastKid kids a = -1 := by unfold lastKid; rw [h]; rfl

/-- Over a node: the one beside it, or beside the nearest one above it. -/
def Over (par : Int → Int) (kids : Int → List Int) (a b : Int) : Prop := ∃ d, Dep par a d ∧ overF par kids d a = b
theorem over_beside {a b : Int} (hb : beside par kids a 1 = b) (h0 : 0 ≤ b) {d : Nat} (hd : Dep par a d) : Over par kids a b := by
  refine ⟨d, hd, ?_⟩
  cases hd with
  | top _ => exact hb
  | up _ _ => simp only [overF]; rw [hb, if_pos h0]
theorem over_up {a b : Int} (hb : beside par kids a 1 < 0) (hp : 0 ≤ par a) (h : Over par kids (par a) b) : Over par kids a b := by
  obtain ⟨d, hd, e⟩ := h
  exact ⟨d + 1, .up hp hd, by simp only [overF]; rw [if_neg (by omega)]; exact e⟩
theorem over_top {a : Int} (hb : beside par kids a 1 < 0) (hp : par a < 0) : Over par kids a (beside par kids a 1) := ⟨0, .top hp, rfl⟩
theorem Over.fn {a b c : Int} (h : Over par kids a b) (h' : Over par kids a c) : b = c := by
  obtain ⟨d, h1, e⟩ := h
  obtain ⟨d', h1', e'⟩ := h'
  rw [h1.fn h1'] at e
  exact e.symm.trans e'
def nextF (par : Int → Int) (kids : Int → List Int) (d : Nat) (a : Int) : Int := if kids a = [] then overF par kids d a else firstKid kids a
def lastF (par : Int → Int) (kids : Int → List Int) (f : Nat) (a : Int) : Int := if beside par kids a (-1) < 0 then par a else downF kids f (beside par kids a (-1))

/-- Down along the last kids, to a node without any. -/
inductive Down (kids : Int → List Int) : Int → Int → Prop
  | leaf {a : Int} : kids a = [] → Down kids a a
  | step {a b : Int} : kids a ≠ [] → Down kids (lastKid kids a) b → Down kids a b
theorem Down.fn {a b c : Int} (h : Down kids a b) (h' : Down kids a c) : b = c := by
  induction h with
  | leaf h0 => cases h' with
    | leaf _ => rfl
    | step h1 _ => exact absurd h0 h1
  | step h0 _ ih => cases h' with
    | leaf h1 => exact absurd h1 h0
    | step _ h2 => exact ih h2
theorem WF.lastKid_in (h : WF n par kids) {a : Int} (ha : In n a) (hk : kids a ≠ []) : In n (lastKid kids a) ∧ par (lastKid kids a) = a := by
  have hl : 0 < (kids a).length := List.length_pos_iff.2 hk
  rw [lastKid_cons a hl]
  exact h.kid_in ha (List.getElem_mem _)
/-- The descent ends, and is what 'downF' tells. -/
theorem WF.down (h : WF n par kids) : ∀ (f : Nat) (a : Int) (d : Nat), In n a → Dep par a d → 40 ≤ f + d → Down kids a (downF kids f a) ∧ In n (downF kids f a)
  | 0, a, d, ha, hd, hf => by
    have hk : kids a = [] := by
      refine Classical.byContradiction fun hk => ?_
      obtain ⟨h1, h2⟩ := h.lastKid_in ha hk
      obtain ⟨d', hd', h3⟩ := h.dep _ h1.1 h1.2
      have := h3.fn (.up (by rw [h2]; exact ha.1) (by rw [h2]; exact hd))
      omega
    exact ⟨.leaf hk, ha⟩
  | f + 1, a, d, ha, hd, hf => by
    simp only [downF]
    split
    · rename_i hk; exact ⟨.leaf hk, ha⟩
    · rename_i hk
      obtain ⟨h1, h2⟩ := h.lastKid_in ha hk
      obtain ⟨h3, h4⟩ := h.down f (lastKid kids a) (d + 1) h1 (.up (by rw [h2]; exact ha.1) (by rw [h2]; exact hd)) (by omega)
      exact ⟨.step hk h3, h4⟩
/-- What lies at the end of a descent is followed by what is over where it began. -/
theorem WF.down_over (h : WF n par kids) {a b : Int} (hd : Down kids a b) (ha : In n a) {c : Int} : Over par kids a c → Over par kids b c := by
  induction hd with
  | leaf _ => exact id
  | @step a b hk _ ih =>
    intro ho
    obtain ⟨h1, h2⟩ := h.lastKid_in ha hk
    have hl : 0 < (kids a).length := List.length_pos_iff.2 hk
    refine ih h1 (over_up ?_ (by rw [h2]; exact ha.1) (by rw [h2]; exact ho))
    rw [lastKid_cons a hl, h.beside_at ha (by omega), nth_out (.inr (by omega))]; omega
/-- Where one climbs without finding anything beside, the descent from there comes back. -/
theorem WF.over_back (h : WF n par kids) : ∀ (d : Nat) (a b : Int), In n a → Dep par a d → overF par kids d a = b → 0 ≤ b →
    ∃ c, beside par kids c 1 = b ∧ In n c ∧ (∀ e, Down kids a e → Down kids c e)
  | 0, a, b, ha, _, e, _ => ⟨a, e, ha, fun _ h => h⟩
  | d + 1, a, b, ha, hd, e, hb => by
    simp only [overF] at e
    split at e
    · exact ⟨a, e, ha, fun _ h => h⟩
    · rename_i hbn
      cases hd with
      | up hp hd =>
        obtain ⟨i, hi, hia, hix, hpi⟩ := h.place ha hp
        obtain ⟨c, h1, h2, h3⟩ := h.over_back d (par a) b hpi hd e hb
        refine ⟨c, h1, h2, fun e he => h3 e ?_⟩
        have hlast : i = (kids (par a)).length - 1 := by
          refine Classical.byContradiction fun hne => hbn ?_
          have hb1 : beside par kids a 1 = (kids (par a))[i + 1]'(by omega) := by
            have := h.beside_at hpi hi 1
            rw [hia] at this
            rw [this, show ((i : Int) + 1) = ((i + 1 : Nat) : Int) from by omega]
            exact nth_nat (by omega)
          rw [hb1]
          exact (h.kid_in hpi (List.getElem_mem _)).1.1
        have hl : lastKid kids (par a) = a := by
          rw [lastKid_cons _ (by omega)]
          subst hlast
          exact hia
        exact .step (by intro e0; rw [e0] at hi; simp at hi) (by rw [hl]; exact he)
/-- What stands beside, one on: one back it is the node. -/
theorem WF.beside_back (h : WF n par kids) {a b by_ : Int} (ha : In n a) (hb : beside par kids a by_ = b) (h0 : 0 ≤ b) : beside par kids b (-by_) = a ∧ In n b ∧ 0 ≤ par a ∧ par b = par a := by
  by_cases hp : par a < 0
  · unfold beside at hb; rw [if_pos hp] at hb; omega
  · obtain ⟨i, hi, hia, hix, hpi⟩ := h.place ha (by omega)
    have h1 := h.beside_at hpi hi by_
    rw [hia] at h1
    rw [h1] at hb
    have hr : 0 ≤ (i : Int) + by_ ∧ (i : Int) + by_ < (kids (par a)).length := by
      refine Classical.byContradiction fun hn => ?_
      rw [nth_out (by omega)] at hb
      omega
    obtain ⟨j, hj⟩ := Int.eq_ofNat_of_zero_le hr.1
    have hjl : j < (kids (par a)).length := by omega
    rw [hj] at hb
    have hbj : (kids (par a))[j] = b := by rw [← hb]; exact (nth_nat hjl).symm
    obtain ⟨hin, hpb⟩ := h.kid_in hpi (List.getElem_mem hjl)
    rw [hbj] at hin hpb
    have h2 := h.beside_at hpi hjl (-by_)
    rw [hbj] at h2
    refine ⟨?_, hin, by omega, hpb⟩
    rw [h2, show ((j : Int) + -by_) = (i : Int) from by omega, nth_nat hi, hia]
/-- Next, and back. -/
theorem WF.next_last (h : WF n par kids) {a b : Int} {d : Nat} (ha : In n a) (hd : Dep par a d) (hb : nextF par kids d a = b) (h0 : 0 ≤ b) {d' : Nat} (hd' : Dep par b d') (hin : In n b) : lastF par kids 40 b = a := by
  unfold nextF at hb
  split at hb
  · rename_i hk
    obtain ⟨c, h1, h2, h3⟩ := h.over_back d a b ha hd hb h0
    obtain ⟨h4, h5, h6, h7⟩ := h.beside_back h2 h1 h0
    unfold lastF
    rw [h4, if_neg (by have := h2.1; omega)]
    obtain ⟨dc, hdc, h8⟩ := h.dep c h2.1 h2.2
    exact (h.down 40 c dc h2 h8 (by omega)).1.fn (h3 a (.leaf hk))
  · rename_i hk
    have hl : 0 < (kids a).length := List.length_pos_iff.2 hk
    rw [firstKid_cons a hl] at hb
    have h1 := h.beside_at ha hl (-1)
    rw [hb, nth_out (.inl (by omega))] at h1
    unfold lastF
    rw [if_pos (by omega), ← hb]
    exact (h.kid_in ha (List.getElem_mem _)).2
/-- Back, and next. -/
theorem WF.last_next (h : WF n par kids) {a b : Int} (ha : In n a) (hb : lastF par kids 40 a = b) (h0 : 0 ≤ b) {d : Nat} (hd : Dep par b d) : nextF par kids d b = a ∧ In n b := by
  unfold lastF at hb
  split at hb
  · rename_i hn
    subst hb
    obtain ⟨i, hi, hia, hix, hpi⟩ := h.place ha h0
    have h1 := h.beside_at hpi hi (-1)
    rw [hia] at h1
    have hi0 : i = 0 := by
      refine Classical.byContradiction fun hne => ?_
      rw [h1, show ((i : Int) + -1) = ((i - 1 : Nat) : Int) from by omega, nth_nat (by omega)] at hn
      have := (h.kid_in hpi (List.getElem_mem (show i - 1 < (kids (par a)).length by omega))).1.1
      omega
    subst hi0
    refine ⟨?_, hpi⟩
    unfold nextF
    rw [if_neg (by intro e; rw [e] at hi; simp at hi), firstKid_cons _ hi, hia]
  · rename_i hn
    obtain ⟨h1, h2, h3, h4⟩ := h.beside_back ha rfl (show 0 ≤ beside par kids a (-1) by omega)
    obtain ⟨dc, hdc, h8⟩ := h.dep _ h2.1 h2.2
    obtain ⟨h5, h6⟩ := h.down 40 _ dc h2 h8 (by omega)
    rw [hb] at h5 h6
    have ho : Over par kids (beside par kids a (-1)) a := over_beside h1 ha.1 h8
    obtain ⟨d', hd', e⟩ := h.down_over h5 h2 ho
    rw [hd.fn hd']
    refine ⟨?_, h6⟩
    have hk : kids b = [] := by
      have : ∀ {x y : Int}, Down kids x y → kids y = [] := by
        intro x y hxy
        induction hxy with
        | leaf h => exact h
        | step _ _ ih => exact ih
      exact this h5
    unfold nextF
    rw [if_pos hk]
    exact e
end
end Go.Proofs.YthfalaabfgpjmaaDoor.DocP
