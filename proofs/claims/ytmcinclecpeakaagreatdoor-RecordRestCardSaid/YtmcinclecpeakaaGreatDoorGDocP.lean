/- Trees, told by parents and kids alone: ways through them. No program in sight. -/
namespace Go.Proofs.YtmcinclecpeakaaGreatDoor.DocP
set_option linter.unusedVariables false
set_option linter.unusedSimpArgs false

/-- From a node up to one without a parent: so many steps. -/
inductive Dep (par : Int → Int) : Int → Nat → Prop
  | top {a : Int} : par a < 0 → Dep par a 0
  | up {a : Int} {d : Nat} : 0 ≤ par a → Dep par (par a) d → Dep par a (d + 1)

/-- What a document is: n nodes, each one's parent, each one's kids. -/
structure WF (n : Nat) (par : Int → Int) (kids : Int → List Int) : Prop where
  pos : 0 < n
  kid : ∀ i : Int, 0 ≤ i → i < n → ∀ k ∈ kids i, 0 ≤ k ∧ k < n ∧ par k = i
  nodup : ∀ i : Int, 0 ≤ i → i < n → (kids i).Nodup
  has : ∀ k : Int, 0 ≤ k → k < n → par k = -1 ∨ (0 ≤ par k ∧ par k < n ∧ k ∈ kids (par k))
  root : par 0 = -1
  dep : ∀ k : Int, 0 ≤ k → k < n → ∃ d, d ≤ 40 ∧ Dep par k d

section
variable {n : Nat} {par : Int → Int} {kids : Int → List Int}
theorem Dep.fn {a : Int} {d d' : Nat} (h : Dep par a d) (h' : Dep par a d') : d = d' := by
  induction h generalizing d' with
  | top h0 => cases h' with
    | top _ => rfl
    | up h1 _ => omega
  | up h0 _ ih => cases h' with
    | top h1 => omega
    | up _ h2 => rw [ih h2]

/-! ### Places in a list -/
def ix (xs : List Int) (x : Int) : Int := match xs.findIdx? (· == x) with | some i => (i : Int) | none => -1
theorem ix_get {xs : List Int} (hn : xs.Nodup) {i : Nat} (hi : i < xs.length) : ix xs xs[i] = i := by
  have h : xs.findIdx? (· == xs[i]) = some i := by
    rw [List.findIdx?_eq_some_iff_getElem]
    refine ⟨hi, by simp, fun j hj => ?_⟩
    have hne : xs[j] ≠ xs[i] := by
      intro e
      have := (List.nodup_iff_pairwise_ne.1 hn)
      rw [List.pairwise_iff_getElem] at this
      exact this j i (by omega) hi hj e
    simpa using hne
  unfold ix; rw [h]
theorem ix_mem {xs : List Int} (hn : xs.Nodup) {x : Int} (hx : x ∈ xs) : ∃ i : Nat, ∃ hi : i < xs.length, xs[i] = x ∧ ix xs x = i := by
  obtain ⟨i, hi, rfl⟩ := List.mem_iff_getElem.1 hx
  exact ⟨i, hi, rfl, ix_get hn hi⟩

/-! ### Beside, above, below -/
def nth (xs : List Int) (i : Int) : Int := if 0 ≤ i ∧ i < xs.length then xs.getD i.toNat 0 else -1
def beside (par : Int → Int) (kids : Int → List Int) (a by_ : Int) : Int := if par a < 0 then -1 else nth (kids (par a)) (ix (kids (par a)) a + by_)
def firstKid (kids : Int → List Int) (a : Int) : Int := nth (kids a) 0
def lastKid (kids : Int → List Int) (a : Int) : Int := nth (kids a) ((kids a).length - 1)
def overF (par : Int → Int) (kids : Int → List Int) : Nat → Int → Int
  | 0, a => beside par kids a 1
  | d + 1, a => if 0 ≤ beside par kids a 1 then beside par kids a 1 else overF par kids d (par a)
def downF (kids : Int → List Int) : Nat → Int → Int
  | 0, a => a
  | f + 1, a => if kids a = [] then a else downF kids f (lastKid kids a)
def pathL (par : Int → Int) : Nat → Int → List Int
  | 0, a => [a]
  | d + 1, a => pathL par d (par a) ++ [a]
def In (n : Nat) (a : Int) : Prop := 0 ≤ a ∧ a < n

theorem nth_nat {xs : List Int} {i : Nat} (hi : i < xs.length) : nth xs (i : Int) = xs[i] := by
  unfold nth; rw [if_pos ⟨by omega, by omega⟩, Int.toNat_natCast, List.getD_eq_getElem?_getD, List.getElem?_eq_getElem hi]; rfl
theorem nth_out {xs : List Int} {i : Int} (h : i < 0 ∨ (xs.length : Int) ≤ i) : nth xs i = -1 := by unfold nth; rw [if_neg (by omega)]
theorem WF.par_or (h : WF n par kids) {a : Int} (ha : In n a) : par a = -1 ∨ (In n (par a) ∧ a ∈ kids (par a)) := by
  rcases h.has a ha.1 ha.2 with e | ⟨h1, h2, h3⟩
  · exact .inl e
  · exact .inr ⟨⟨h1, h2⟩, h3⟩
theorem WF.kid_in (h : WF n par kids) {a k : Int} (ha : In n a) (hk : k ∈ kids a) : In n k ∧ par k = a := by
  obtain ⟨h1, h2, h3⟩ := h.kid a ha.1 ha.2 k hk
  exact ⟨⟨h1, h2⟩, h3⟩
/-- A node that has a parent is one of its kids, at some place. -/
theorem WF.place (h : WF n par kids) {a : Int} (ha : In n a) (hp : 0 ≤ par a) : ∃ i : Nat, ∃ hi : i < (kids (par a)).length, (kids (par a))[i] = a ∧ ix (kids (par a)) a = i ∧ In n (par a) := by
  rcases h.par_or ha with e | ⟨h1, h2⟩
  · omega
  · obtain ⟨i, hi, e, hx⟩ := ix_mem (h.nodup _ h1.1 h1.2) h2
    exact ⟨i, hi, e, hx, h1⟩
/-- Beside the kid at place i. -/
theorem WF.beside_at (h : WF n par kids) {a : Int} (ha : In n a) {i : Nat} (hi : i < (kids a).length) (by_ : Int) : beside par kids (kids a)[i] by_ = nth (kids a) (i + by_) := by
  obtain ⟨hk, hp⟩ := h.kid_in ha (List.getElem_mem hi)
  unfold beside
  rw [hp, if_neg (by have := ha.1; omega), ix_get (h.nodup _ ha.1 ha.2) hi]
theorem firstKid_cons (a : Int) (hi : 0 < (kids a).length) : firstKid kids a = (kids a)[0] := nth_nat hi
theorem lastKid_cons (a : Int) (hi : 0 < (kids a).length) : lastKid kids a = (kids a)[(kids a).length - 1] := by
  unfold lastKid
  rw [show ((kids a).length : Int) - 1 = (((kids a).length - 1 : Nat) : Int) from by omega]
  exact nth_nat (by omega)
theorem firstKid_nil (a : Int) (h : kids a = []) : firstKid kids a = -1 := by unfold firstKid; rw [h]; rfl
theorem lastKid_nil (a : Int) (h : kids a = []) : lastKid kids a = -1 := by unfold lastKid; rw [h]; rfl

/-- Over a node: the one beside it, or beside the nearest one above it. -/
def Over (par : Int → Int) (kids : Int → List Int) (a b : Int) : Prop := ∃ d, Dep par a d ∧ overF par kids d a = b
theorem over_beside {a b : Int} (hb : beside par kids a 1 = b) (h0 : 0 ≤ b) {d : Nat} (hd : Dep par a d) : Over par kids a b := by
  refine ⟨d, hd, ?_⟩
  cases hd with
  | top _ => exact hb
  | up _ _ => simp only [overF]; rw [hb, if_pos h0]
theorem over_up {a b : Int} (hb : beside par kids a 1 < 0) (hp : 0 ≤ par a) (h : Over par kids (par a) b) : Over par kids a b := by
  obtain ⟨d, hd, e⟩ := h
  exact ⟨d + 1, .up hp hd, by simp only [overF]; rw [if_neg (by omega)]; exact e⟩
theorem over_top {a : Int} (hb : beside par kids a 1 < 0) (hp : par a < 0) : Over par kids a (beside par kids a 1) := ⟨0, .top hp, rfl⟩
theorem Over.fn {a b c : Int} (h : Over par kids a b) (h' : Over par kids a c) : b = c := by
  obtain ⟨d, h1, e⟩ := h
  obtain ⟨d', h1', e'⟩ := h'
  rw [h1.fn h1'] at e
  exact e.symm.trans e'
def nextF (par : Int → Int) (kids : Int → List Int) (d : Nat) (a : Int) : Int := if kids a = [] then overF par kids d a else firstKid kids a
def lastF (par : Int → Int) (kids : Int → List Int) (f : Nat) (a : Int) : Int := if beside par kids a (-1) < 0 then par a else downF kids f (beside par kids a (-1))

/-- Down along the last kids, to a node without any. -/
inductive Down (kids : Int → List Int) : Int → Int → Prop
  | leaf {a : Int} : kids a = [] → Down kids a a
  | step {a b : Int} : kids a ≠ [] → Down kids (lastKid kids a) b → Down kids a b
theorem Down.fn {a b c : Int} (h : Down kids a b) (h' : Down kids a c) : b = c := by
  induction h with
  | leaf h0 => cases h' with
    | leaf _ => rfl
    | step h1 _ => exact absurd h0 h1
  | step h0 _ ih => cases h' with
    | leaf h1 => exact absurd h1 h0
    | step _ h2 => exact ih h2
theorem WF.lastKid_in (h : WF n par kids) {a : Int} (ha : In n a) (hk : kids a ≠ []) : In n (lastKid kids a) ∧ par (lastKid kids a) = a := by
  have hl : 0 < (kids a).length := List.length_pos_iff.2 hk
  rw [lastKid_cons a hl]
  exact h.kid_in ha (List.getElem_mem _)
/-- The descent ends, and is what 'downF' tells. -/
theorem WF.down (h : WF n par kids) : ∀ (f : Nat) (a : Int) (d : Nat), In n a → Dep par a d → 40 ≤ f + d → Down kids a (downF kids f a) ∧ In n (downF kids f a)
  | 0, a, d, ha, hd, hf => by
    have hk : kids a = [] := by
      refine Classical.byContradiction fun hk => ?_
      obtain ⟨h1, h2⟩ := h.lastKid_in ha hk
      obtain ⟨d', hd', h3⟩ := h.dep _ h1.1 h1.2
      have := h3.fn (.up (by rw [h2]; exact ha.1) (by rw [h2]; exact hd))
      omega
    exact ⟨.leaf hk, ha⟩
  | f + 1, a, d, ha, hd, hf => by
    simp only [downF]
    split
    · rename_i hk; exact ⟨.leaf hk, ha⟩
    · rename_i hk
      obtain ⟨h1, h2⟩ := h.lastKid_in ha hk
      obtain ⟨h3, h4⟩ := h.down f (lastKid kids a) (d + 1) h1 (.up (by rw [h2]; exact ha.1) (by rw [h2]; exact hd)) (by omega)
      exact ⟨.step hk h3, h4⟩
/-- What lies at the end of a descent is followed by what is over where it began. -/
theorem WF.down_over (h : WF n par kids) {a b : Int} (hd : Down kids a b) (ha : In n a) {c : Int} : Over par kids a c → Over par kids b c := by
  induction hd with
  | leaf _ => exact id
  | @step a b hk _ ih =>
    intro ho
    obtain ⟨h1, h2⟩ := h.lastKid_in ha hk
    have hl : 0 < (kids a).length := List.length_pos_iff.2 hk
    refine ih h1 (over_up ?_ (by rw [h2]; exact ha.1) (by rw [h2]; exact ho))
    rw [lastKid_cons a hl, h.beside_at ha (by omega), nth_out (.inr (by omega))]; omega
/-- Where one climbs without finding anything beside, the descent from there comes back. -/
theorem WF.over_back (h : WF n par kids) : ∀ (d : Nat) (a b : Int), In n a → Dep par a d → overF par kids d a = b → 0 ≤ b →
    ∃ c, beside par kids c 1 = b ∧ In n c ∧ (∀ e, Down kids a e → Down kids c e)
  | 0, a, b, ha, _, e, _ => ⟨a, e, ha, fun _ h => h⟩
  | d + 1, a, b, ha, hd, e, hb => by
    simp only [overF] at e
    split at e
    · exact ⟨a, e, ha, fun _ h => h⟩
    · rename_i hbn
      cases hd with
      | up hp hd =>
        obtain ⟨i, hi, hia, hix, hpi⟩ := h.place ha hp
        obtain ⟨c, h1, h2, h3⟩ := h.over_back d (par a) b hpi hd e hb
        refine ⟨c, h1, h2, fun e he => h3 e ?_⟩
        have hlast : i = (kids (par a)).length - 1 := by
          refine Classical.byContradiction fun hne => hbn ?_
          have hb1 : beside par kids a 1 = (kids (par a))[i + 1]'(by omega) := by
            have := h.beside_at hpi hi 1
            rw [hia] at this
            rw [this, show ((i : Int) + 1) = ((i + 1 : Nat) : Int) from by omega]
            exact nth_nat (by omega)
          rw [hb1]
          exact (h.kid_in hpi (List.getElem_mem _)).1.1
        have hl : lastKid kids (par a) = a := by
          rw [lastKid_cons _ (by omega)]
          subst hlast
          exact hia
        exact .step (by intro e0; rw [e0] at hi; simp at hi) (by rw [hl]; exact he)
/-- What stands beside, one on: one back it is the node. -/
theorem WF.beside_back (h : WF n par kids) {a b by_ : Int} (ha : In n a) (hb : beside par kids a by_ = b) (h0 : 0 ≤ b) : beside par kids b (-by_) = a ∧ In n b ∧ 0 ≤ par a ∧ par b = par a := by
  by_cases hp : par a < 0
  · unfold beside at hb; rw [if_pos hp] at hb; omega
  · obtain ⟨i, hi, hia, hix, hpi⟩ := h.place ha (by omega)
    have h1 := h.beside_at hpi hi by_
    rw [hia] at h1
    rw [h1] at hb
    have hr : 0 ≤ (i : Int) + by_ ∧ (i : Int) + by_ < (kids (par a)).length := by
      refine Classical.byContradiction fun hn => ?_
      rw [nth_out (by omega)] at hb
      omega
    obtain ⟨j, hj⟩ := Int.eq_ofNat_of_zero_le hr.1
    have hjl : j < (kids (par a)).length := by omega
    rw [hj] at hb
    have hbj : (kids (par a))[j] = b := by rw [← hb]; exact (nth_nat hjl).symm
    obtain ⟨hin, hpb⟩ := h.kid_in hpi (List.getElem_mem hjl)
    rw [hbj] at hin hpb
    have h2 := h.beside_at hpi hjl (-by_)
    rw [hbj] at h2
    refine ⟨?_, hin, by omega, hpb⟩
    rw [h2, show ((j : Int) + -by_) = (i : Int) from by omega, nth_nat hi, hia]
/-- Next, and back. -/
theorem WF.next_last (h : WF n par kids) {a b : Int} {d : Nat} (ha : In n a) (hd : Dep par a d) (hb : nextF par kids d a = b) (h0 : 0 ≤ b) {d' : Nat} (hd' : Dep par b d') (hin : In n b) : lastF par kids 40 b = a := by
  unfold nextF at hb
  split at hb
  · rename_i hk
    obtain ⟨c, h1, h2, h3⟩ := h.over_back d a b ha hd hb h0
    obtain ⟨h4, h5, h6, h7⟩ := h.beside_back h2 h1 h0
    unfold lastF
    rw [h4, if_neg (by have := h2.1; omega)]
    obtain ⟨dc, hdc, h8⟩ := h.dep c h2.1 h2.2
    exact (h.down 40 c dc h2 h8 (by omega)).1.fn (h3 a (.leaf hk))
  · rename_i hk
    have hl : 0 < (kids a).length := List.length_pos_iff.2 hk
    rw [firstKid_cons a hl] at hb
    have h1 := h.beside_at ha hl (-1)
    rw [hb, nth_out (.inl (by omega))] at h1
    unfold lastF
    rw [if_pos (by omega), ← hb]
    exact (h.kid_in ha (List.getElem_mem _)).2
/-- Back, and next. -/
theorem WF.last_next (h : WF n par kids) {a b : Int} (ha : In n a) (hb : lastF par kids 40 a = b) (h0 : 0 ≤ b) {d : Nat} (hd : Dep par b d) : nextF par kids d b = a ∧ In n b := by
  unfold lastF at hb
  split at hb
  · rename_i hn
    subst hb
    obtain ⟨i, hi, hia, hix, hpi⟩ := h.place ha h0
    have h1 := h.beside_at hpi hi (-1)
    rw [hia] at h1
    have hi0 : i = 0 := by
      refine Classical.byContradiction fun hne => ?_
      rw [h1, show ((i : Int) + -1) = ((i - 1 : Nat) : Int) from by omega, nth_nat (by omega)] at hn
      have := (h.kid_in hpi (List.getElem_mem (show i - 1 < (kids (par a)).length by omega))).1.1
      omega
    subst hi0
    refine ⟨?_, hpi⟩
    unfold nextF
    rw [if_neg (by intro e; rw [e] at hi; simp at hi), firstKid_cons _ hi, hia]
  · rename_i hn
    obtain ⟨h1, h2, h3, h4⟩ := h.beside_back ha rfl (show 0 ≤ beside par kids a (-1) by omega)
    obtain ⟨dc, hdc, h8⟩ := h.dep _ h2.1 h2.2
    obtain ⟨h5, h6⟩ := h.down 40 _ dc h2 h8 (by omega)
    rw [hb] at h5 h6
    have ho : Over par kids (beside par kids a (-1)) a := over_beside h1 ha.1 h8
    obtain ⟨d', hd', e⟩ := h.down_over h5 h2 ho
    rw [hd.fn hd']
    refine ⟨?_, h6⟩
    have hk : kids b = [] := by
      have : ∀ {x y : Int}, Down kids x y → kids y = [] := by
        intro x y hxy
        induction hxy with
        | leaf h => exact h
        | step _ _ ih => exact ih
      exact this h5
    unfold nextF
    rw [if_pos hk]
    exact e
end
end Go.Proofs.YtmcinclecpeakaaGreatDoor.DocP
/- Trees, told by parents and kids alone: the order, and what stands ahead. No program in sight. -/
namespace Go.Proofs.YtmcinclecpeakaaGreatDoor.DocP
set_option linter.unusedVariables false
set_option linter.unusedSimpArgs false

/-- From a node on: it, and all below it (so many steps deep at most). -/
def preF (kids : Int → List Int) : Nat → Int → List Int
  | 0, a => [a]
  | f + 1, a => a :: (kids a).flatMap (preF kids f)
theorem preF_head (kids : Int → List Int) (f : Nat) (a : Int) : ∃ t, preF kids f a = a :: t := by
  cases f with
  | zero => exact ⟨[], rfl⟩
  | succ f => exact ⟨_, rfl⟩

/-- A list of different numbers below n is no longer than n. -/
theorem nodup_len : ∀ (n : Nat) (l : List Int), l.Nodup → (∀ x ∈ l, 0 ≤ x ∧ x < n) → l.length ≤ n
  | 0, l, _, h => by
    cases l with
    | nil => simp
    | cons x t => have := h x List.mem_cons_self; omega
  | n + 1, l, hn, h => by
    by_cases hm : (n : Int) ∈ l
    · have h1 := nodup_len n (l.erase (n : Int)) (hn.erase _) (fun x hx => by
        obtain ⟨h2, h3⟩ := (List.Nodup.mem_erase_iff hn).1 hx
        have := h x h3
        omega)
      rw [List.length_erase_of_mem hm] at h1
      omega
    · have h1 := nodup_len n l hn (fun x hx => by
        have := h x hx
        have hne : x ≠ (n : Int) := fun e => hm (e ▸ hx)
        omega)
      omega

/-- A node, or one below it. -/
inductive Under (par : Int → Int) (a : Int) : Int → Prop
  | refl : Under par a a
  | up {x : Int} : 0 ≤ par x → Under par a (par x) → Under par a x
section
variable {n : Nat} {par : Int → Int} {kids : Int → List Int}
theorem Under.dep {a x : Int} (h : Under par a x) {d : Nat} (hd : Dep par a d) : ∃ e, Dep par x (d + e) := by
  induction h with
  | refl => exact ⟨0, hd⟩
  | up hp _ ih =>
    obtain ⟨e, he⟩ := ih
    exact ⟨e + 1, .up hp he⟩
theorem Under.one {a b x : Int} (h : Under par a x) (h' : Under par b x) {d : Nat} (ha : Dep par a d) (hb : Dep par b d) : a = b := by
  induction h with
  | refl =>
    cases h' with
    | refl => rfl
    | up hp hu =>
      obtain ⟨e, he⟩ := hu.dep hb
      have := ha.fn (.up hp he)
      omega
  | up hp hu ih =>
    cases h' with
    | refl =>
      obtain ⟨e, he⟩ := hu.dep ha
      have := hb.fn (.up hp he)
      omega
    | up _ hu' => exact ih hu'
theorem Under.trans {a b x : Int} (h : Under par a b) (h' : Under par b x) : Under par a x := by
  induction h' with
  | refl => exact h
  | up hp _ ih => exact .up hp ih
theorem WF.mem_pre (h : WF n par kids) : ∀ (f : Nat) (a x : Int), In n a → x ∈ preF kids f a → In n x ∧ Under par a x
  | 0, a, x, ha, hx => by
    rw [show x = a from by simpa [preF] using hx]
    exact ⟨ha, .refl⟩
  | f + 1, a, x, ha, hx => by
    simp only [preF, List.mem_cons, List.mem_flatMap] at hx
    rcases hx with rfl | ⟨k, hk, hx⟩
    · exact ⟨ha, .refl⟩
    · obtain ⟨h1, h2⟩ := h.kid_in ha hk
      obtain ⟨h3, h4⟩ := h.mem_pre f k x h1 hx
      exact ⟨h3, (Under.up (by rw [h2]; exact ha.1) (by rw [h2]; exact .refl)).trans h4⟩
theorem flat_nodup {f : Int → List Int} : ∀ (ks : List Int), (∀ k ∈ ks, (f k).Nodup) → (∀ k ∈ ks, ∀ k' ∈ ks, k ≠ k' → ∀ x ∈ f k, x ∉ f k') → ks.Nodup → (ks.flatMap f).Nodup
  | [], _, _, _ => by simp
  | k :: ks, h1, h2, h3 => by
    rw [List.flatMap_cons, List.nodup_append]
    rw [List.nodup_cons] at h3
    refine ⟨h1 k List.mem_cons_self, flat_nodup ks (fun x hx => h1 x (List.mem_cons_of_mem _ hx)) (fun a ha b hb => h2 a (List.mem_cons_of_mem _ ha) b (List.mem_cons_of_mem _ hb)) h3.2, fun x hx y hy e => ?_⟩
    subst e
    obtain ⟨k', hk', hy⟩ := List.mem_flatMap.1 hy
    exact h2 k List.mem_cons_self k' (List.mem_cons_of_mem _ hk') (fun e => h3.1 (e ▸ hk')) x hx hy
theorem WF.nodup_pre (h : WF n par kids) : ∀ (f : Nat) (a : Int) (d : Nat), In n a → Dep par a d → (preF kids f a).Nodup
  | 0, a, d, _, _ => by simp [preF]
  | f + 1, a, d, ha, hd => by
    have hkd : ∀ k ∈ kids a, In n k ∧ Dep par k (d + 1) := fun k hk => by
      obtain ⟨h1, h2⟩ := h.kid_in ha hk
      exact ⟨h1, .up (by rw [h2]; exact ha.1) (by rw [h2]; exact hd)⟩
    simp only [preF]
    rw [List.nodup_cons]
    refine ⟨fun hm => ?_, flat_nodup _ (fun k hk => h.nodup_pre f k _ (hkd k hk).1 (hkd k hk).2) (fun k hk k' hk' hne x hx hx' => ?_) (h.nodup a ha.1 ha.2)⟩
    · obtain ⟨k, hk, hx⟩ := List.mem_flatMap.1 hm
      obtain ⟨e, he⟩ := (h.mem_pre f k a (hkd k hk).1 hx).2.dep (hkd k hk).2
      have := hd.fn he
      omega
    · exact hne ((h.mem_pre f k x (hkd k hk).1 hx).2.one (h.mem_pre f k' x (hkd k' hk').1 hx').2 (hkd k hk).2 (hkd k' hk').2)
theorem WF.len_pre (h : WF n par kids) {f : Nat} {a : Int} {d : Nat} (ha : In n a) (hd : Dep par a d) : (preF kids f a).length ≤ n :=
  nodup_len n _ (h.nodup_pre f a d ha hd) (fun x hx => (h.mem_pre f a x ha hx).1)

/-! ### By next one comes through all -/
def Next (par : Int → Int) (kids : Int → List Int) (a b : Int) : Prop := ∃ d, Dep par a d ∧ nextF par kids d a = b
/-- One behind the other, by Next; and behind the last one e. -/
def Seq (par : Int → Int) (kids : Int → List Int) : List Int → Int → Prop
  | [], _ => False
  | [x], e => Next par kids x e
  | x :: y :: t, e => Next par kids x y ∧ Seq par kids (y :: t) e
theorem Seq.append : ∀ {L : List Int} {y : Int} {t : List Int} {e : Int}, Seq par kids L y → Seq par kids (y :: t) e → Seq par kids (L ++ y :: t) e
  | [], _, _, _, h, _ => h.elim
  | [x], _, _, _, h, h' => ⟨h, h'⟩
  | x :: z :: L, _, _, _, h, h' => ⟨h.1, Seq.append h.2 h'⟩
theorem Seq.at_ : ∀ {L : List Int} {e : Int} (i : Nat) (hi : i < L.length), Seq par kids L e → Next par kids L[i] (if h : i + 1 < L.length then L[i + 1] else e)
  | [x], e, 0, _, h => h
  | x :: y :: t, e, 0, _, h => by
    rw [dif_pos (by simp)]
    exact h.1
  | [x], e, i + 1, hi, h => by simp at hi
  | x :: y :: t, e, i + 1, hi, h => by
    have h1 := Seq.at_ (L := y :: t) (e := e) i (by simpa using hi) h.2
    by_cases hl : i + 1 < (y :: t).length
    · rw [dif_pos hl] at h1
      rw [dif_pos (by simpa using hl)]
      exact h1
    · rw [dif_neg hl] at h1
      rw [dif_neg (by simpa using hl)]
      exact h1
theorem WF.seq (h : WF n par kids) : ∀ (f : Nat) (a : Int) (d : Nat) (e : Int), In n a → Dep par a d → 40 ≤ f + d → Over par kids a e → Seq par kids (preF kids f a) e
  | 0, a, d, e, ha, hd, hf, ho => by
    have hk : kids a = [] := by
      refine Classical.byContradiction fun hk => ?_
      obtain ⟨h1, h2⟩ := h.lastKid_in ha hk
      obtain ⟨d', hd', h3⟩ := h.dep _ h1.1 h1.2
      have := h3.fn (.up (by rw [h2]; exact ha.1) (by rw [h2]; exact hd))
      omega
    obtain ⟨d', hd', he⟩ := ho
    exact ⟨d', hd', by unfold nextF; rw [if_pos hk]; exact he⟩
  | f + 1, a, d, e, ha, hd, hf, ho => by
    by_cases hk : kids a = []
    · obtain ⟨d', hd', he⟩ := ho
      simp only [preF, hk, List.flatMap_nil]
      exact ⟨d', hd', by unfold nextF; rw [if_pos hk]; exact he⟩
    · have hkd : ∀ k ∈ kids a, In n k ∧ par k = a ∧ Dep par k (d + 1) := fun k hk => by
        obtain ⟨h1, h2⟩ := h.kid_in ha hk
        exact ⟨h1, h2, .up (by rw [h2]; exact ha.1) (by rw [h2]; exact hd)⟩
      -- the kids from place i on
      have go : ∀ (m i : Nat), i + (m + 1) = (kids a).length → Seq par kids (((kids a).drop i).flatMap (preF kids f)) e := by
        intro m
        induction m with
        | zero =>
          intro i hi
          have hil : i < (kids a).length := by omega
          obtain ⟨h1, h2, h3⟩ := hkd _ (List.getElem_mem hil)
          rw [List.drop_eq_getElem_cons hil, List.drop_eq_nil_of_le (by omega)]
          simp only [List.flatMap_cons, List.flatMap_nil, List.append_nil]
          refine h.seq f _ (d + 1) e h1 h3 (by omega) (over_up ?_ (by rw [h2]; exact ha.1) (by rw [h2]; exact ho))
          rw [h.beside_at ha hil, nth_out (.inr (by omega))]; omega
        | succ m ih =>
          intro i hi
          have hil : i < (kids a).length := by omega
          obtain ⟨h1, h2, h3⟩ := hkd _ (List.getElem_mem hil)
          have hil' : i + 1 < (kids a).length := by omega
          obtain ⟨h1', _, _⟩ := hkd _ (List.getElem_mem hil')
          have hrest := ih (i + 1) (by omega)
          rw [List.drop_eq_getElem_cons hil] 
          rw [List.flatMap_cons]
          have hb : beside par kids (kids a)[i] 1 = (kids a)[i + 1] := by
            rw [h.beside_at ha hil, show ((i : Int) + 1) = ((i + 1 : Nat) : Int) from by omega]
            exact nth_nat hil'
          have hs := h.seq f _ (d + 1) _ h1 h3 (by omega) (over_beside hb h1'.1 h3)
          obtain ⟨t, ht⟩ : ∃ t, ((kids a).drop (i + 1)).flatMap (preF kids f) = (kids a)[i + 1] :: t := by
            obtain ⟨t, ht⟩ := preF_head kids f (kids a)[i + 1]
            exact ⟨_, by rw [List.drop_eq_getElem_cons hil', List.flatMap_cons, ht, List.cons_append]⟩
          rw [ht] at hrest ⊢
          exact hs.append hrest
      have hl : 0 < (kids a).length := List.length_pos_iff.2 hk
      have h0 := go ((kids a).length - 1) 0 (by omega)
      rw [List.drop_zero] at h0
      obtain ⟨t, ht⟩ : ∃ t, (kids a).flatMap (preF kids f) = (kids a)[0] :: t := by
        obtain ⟨t, ht⟩ := preF_head kids f (kids a)[0]
        refine ⟨t ++ ((kids a).drop 1).flatMap (preF kids f), ?_⟩
        conv => lhs; rw [← List.drop_zero (l := kids a), List.drop_eq_getElem_cons hl, List.flatMap_cons, ht, List.cons_append]
      simp only [preF]
      rw [ht] at h0 ⊢
      exact ⟨⟨d, hd, by unfold nextF; rw [if_neg hk]; exact firstKid_cons a hl⟩, h0⟩

/-! ### Ways down -/
/-- A way down from m, m itself not told. -/
def WayDown (kids : Int → List Int) : Int → List Int → Prop
  | _, [] => True
  | m, x :: t => x ∈ kids m ∧ WayDown kids x t
theorem WayDown.snoc : ∀ {t : List Int} {m x : Int}, WayDown kids m t → x ∈ kids (t.getLastD m) → WayDown kids m (t ++ [x])
  | [], m, x, _, h => ⟨h, trivial⟩
  | y :: t, m, x, h, h' => ⟨h.1, WayDown.snoc h.2 (by rw [List.getLastD_cons] at h'; exact h')⟩
/-- The way down to a node: the root, and a way. -/
theorem WF.path_way (h : WF n par kids) : ∀ (d : Nat) (a : Int), In n a → Dep par a d → ∃ r t, pathL par d a = r :: t ∧ In n r ∧ WayDown kids r t ∧ t.getLastD r = a
  | 0, a, ha, _ => ⟨a, [], rfl, ha, trivial, rfl⟩
  | d + 1, a, ha, hd => by
    cases hd with
    | up hp hd =>
      obtain ⟨i, hi, hia, _, hin⟩ := h.place ha hp
      obtain ⟨r, t, h1, h2, h3, h4⟩ := h.path_way d (par a) hin hd
      refine ⟨r, t ++ [a], by simp only [pathL]; rw [h1]; rfl, h2, h3.snoc (by rw [h4]; have hm := List.getElem_mem hi; rw [hia] at hm; exact hm), ?_⟩
      simp [List.getLastD_eq_getLast?]
theorem WF.ix_ne (h : WF n par kids) {m x y : Int} (hm : In n m) (hx : x ∈ kids m) (hy : y ∈ kids m) (hne : x ≠ y) : ix (kids m) x ≠ ix (kids m) y := by
  obtain ⟨i, hi, e, hix⟩ := ix_mem (h.nodup m hm.1 hm.2) hx
  obtain ⟨j, hj, e', hjx⟩ := ix_mem (h.nodup m hm.1 hm.2) hy
  rw [hix, hjx]
  intro e2
  have : i = j := by omega
  subst this
  exact hne (e.symm.trans e')
end
end Go.Proofs.YtmcinclecpeakaaGreatDoor.DocP
/- Trees and points in them, told by paths: what stands ahead of what; the texts of two ranges. No program in sight. -/
namespace Go.Proofs.YtmcinclecpeakaaGreatDoor.DocT
open Go.Proofs.YtmcinclecpeakaaGreatDoor.DocP
set_option linter.unusedVariables false
set_option linter.unusedSimpArgs false

/-! ### Rows of numbers -/
def lexlt : List Int → List Int → Bool
  | _, [] => false
  | [], _ :: _ => true
  | x :: xs, y :: ys => decide (x < y) || (decide (x = y) && lexlt xs ys)
theorem lexlt_irr : ∀ x, lexlt x x = false
  | [] => rfl
  | x :: xs => by simp [lexlt, lexlt_irr xs]
theorem lexlt_asym : ∀ x y, lexlt x y = true → lexlt y x = false
  | _, [], h => by simp [lexlt] at h
  | [], _ :: _, _ => rfl
  | x :: xs, y :: ys, h => by
    simp only [lexlt, Bool.or_eq_true, Bool.and_eq_true, decide_eq_true_eq] at h
    simp only [lexlt, Bool.or_eq_false_iff, Bool.and_eq_false_iff, decide_eq_false_iff_not]
    rcases h with h | ⟨h, h'⟩
    · exact ⟨by omega, .inl (by omega)⟩
    · exact ⟨by omega, .inr (lexlt_asym xs ys h')⟩
theorem lexlt_total : ∀ x y, x ≠ y → lexlt x y = true ∨ lexlt y x = true
  | [], [], h => absurd rfl h
  | [], _ :: _, _ => .inl rfl
  | _ :: _, [], _ => .inr rfl
  | x :: xs, y :: ys, h => by
    simp only [lexlt, Bool.or_eq_true, Bool.and_eq_true, decide_eq_true_eq]
    rcases Int.lt_trichotomy x y with h1 | h1 | h1
    · exact .inl (.inl h1)
    · subst h1
      rcases lexlt_total xs ys (fun e => h (by rw [e])) with h2 | h2
      · exact .inl (.inr ⟨rfl, h2⟩)
      · exact .inr (.inr ⟨rfl, h2⟩)
    · exact .inr (.inl h1)
theorem lexlt_trans : ∀ x y z, lexlt x y = true → lexlt y z = true → lexlt x z = true
  | _, [], _, h, _ => by simp [lexlt] at h
  | _, _ :: _, [], _, h => by simp [lexlt] at h
  | [], _ :: _, _ :: _, _, _ => rfl
  | x :: xs, y :: ys, z :: zs, h, h' => by
    simp only [lexlt, Bool.or_eq_true, Bool.and_eq_true, decide_eq_true_eq] at h h' ⊢
    rcases h with h | ⟨h, h1⟩ <;> rcases h' with h' | ⟨h', h1'⟩
    · exact .inl (by omega)
    · exact .inl (by omega)
    · exact .inl (by omega)
    · exact .inr ⟨by omega, lexlt_trans xs ys zs h1 h1'⟩
theorem lexlt_app : ∀ (p : List Int) (x y : List Int), lexlt (p ++ x) (p ++ y) = lexlt x y
  | [], _, _ => rfl
  | a :: p, x, y => by simp [lexlt, lexlt_app p x y]
theorem lexlt_split {p : List Int} {i j : Int} (h : i < j) (s s' : List Int) : lexlt (p ++ i :: s) (p ++ j :: s') = true := by
  rw [lexlt_app]
  simp only [lexlt, Bool.or_eq_true, decide_eq_true_eq]
  exact .inl h
/-- What is not ahead, and what is. -/
theorem le_lt {x y z : List Int} (h : lexlt y x = false) (h' : lexlt y z = true) : lexlt x z = true := by
  by_cases e : x = y
  · rw [e]; exact h'
  · rcases lexlt_total x y e with h1 | h1
    · exact lexlt_trans _ _ _ h1 h'
    · rw [h1] at h; cases h
theorem lt_le {x y z : List Int} (h : lexlt x y = true) (h' : lexlt z y = false) : lexlt x z = true := by
  by_cases e : y = z
  · rw [← e]; exact h
  · rcases lexlt_total y z e with h1 | h1
    · exact lexlt_trans _ _ _ h h1
    · rw [h1] at h'; cases h'
theorem le_le {x y z : List Int} (h : lexlt y x = false) (h' : lexlt z y = false) : lexlt z x = false := by
  cases hz : lexlt z x with
  | false => rfl
  | true => rw [lt_le hz h] at h'; cases h'
/-- Where the one does not go on from the other it does not matter how the other goes on. -/
theorem lexlt_leafL : ∀ (u w x x' : List Int), ¬ u <+: w → lexlt (u ++ x) w = lexlt (u ++ x') w
  | [], w, x, x', h => absurd (List.nil_prefix) h
  | a :: u, [], x, x', h => rfl
  | a :: u, b :: w, x, x', h => by
    simp only [List.cons_append, lexlt]
    by_cases e : a = b
    · subst e
      rw [lexlt_leafL u w x x' (fun hp => h (List.cons_prefix_cons.2 ⟨rfl, hp⟩))]
    · simp [e]
theorem lexlt_leafR : ∀ (u w x x' : List Int), ¬ u <+: w → lexlt w (u ++ x) = lexlt w (u ++ x')
  | [], w, x, x', h => absurd (List.nil_prefix) h
  | a :: u, [], x, x', h => rfl
  | a :: u, b :: w, x, x', h => by
    simp only [List.cons_append, lexlt]
    by_cases e : a = b
    · subst e
      rw [lexlt_leafR u w x x' (fun hp => h (List.cons_prefix_cons.2 ⟨rfl, hp⟩))]
    · simp [show ¬ b = a from fun h => e h.symm]

/-! ### Paths -/
def upP (par : Int → Int) (kids : Int → List Int) : Nat → Int → List Int
  | 0, _ => []
  | d + 1, a => (2 * ix (kids (par a)) a + 1) :: upP par kids d (par a)
def topP (par : Int → Int) : Nat → Int → Int
  | 0, a => a
  | d + 1, a => topP par d (par a)
def ancP (par : Int → Int) : Nat → Int → Int
  | 0, a => a
  | e + 1, a => ancP par e (par a)
theorem upP_len (par : Int → Int) (kids : Int → List Int) : ∀ d a, (upP par kids d a).length = d
  | 0, _ => rfl
  | d + 1, a => by simp [upP, upP_len par kids d]
theorem upP_add (par : Int → Int) (kids : Int → List Int) : ∀ e d a, upP par kids (e + d) a = upP par kids e a ++ upP par kids d (ancP par e a)
  | 0, d, a => by rw [Nat.zero_add]; rfl
  | e + 1, d, a => by
    rw [show e + 1 + d = (e + d) + 1 from by omega]
    simp only [upP, ancP]
    rw [upP_add par kids e d (par a)]
    rfl
theorem topP_add (par : Int → Int) : ∀ e d a, topP par (e + d) a = topP par d (ancP par e a)
  | 0, d, a => by rw [Nat.zero_add]; rfl
  | e + 1, d, a => by
    rw [show e + 1 + d = (e + d) + 1 from by omega]
    simp only [topP, ancP]
    exact topP_add par e d (par a)
section
variable {n : Nat} {par : Int → Int} {kids : Int → List Int}
theorem WFin (h : WF n par kids) {a : Int} (ha : In n a) (hp : 0 ≤ par a) : In n (par a) := by
  rcases h.par_or ha with e | ⟨h1, _⟩
  · omega
  · exact h1
theorem anc_dep (h : WF n par kids) : ∀ (e d : Nat) (a : Int), In n a → Dep par a (e + d) → In n (ancP par e a) ∧ Dep par (ancP par e a) d
  | 0, d, a, ha, hd => ⟨ha, by rw [Nat.zero_add] at hd; exact hd⟩
  | e + 1, d, a, ha, hd => by
    rw [show e + 1 + d = (e + d) + 1 from by omega] at hd
    cases hd with
    | up hp hd => exact anc_dep h e d (par a) (WFin h ha hp) hd
/-- Above a node there is none without kids. -/
theorem anc_kid (h : WF n par kids) : ∀ (e d : Nat) (a : Int), In n a → Dep par a (e + 1 + d) → kids (ancP par (e + 1) a) ≠ []
  | 0, d, a, ha, hd => by
    rw [show 0 + 1 + d = d + 1 from by omega] at hd
    cases hd with
    | up hp hd =>
      rcases h.par_or ha with e | ⟨_, h2⟩
      · omega
      · intro hk
        simp only [ancP] at hk
        rw [hk] at h2
        cases h2
  | e + 1, d, a, ha, hd => by
    rw [show e + 1 + 1 + d = (e + 1 + d) + 1 from by omega] at hd
    cases hd with
    | up hp hd => exact anc_kid h e d (par a) (WFin h ha hp) hd
theorem upP_inj (hw : WF n par kids) : ∀ (d : Nat) (a b : Int), In n a → In n b → Dep par a d → Dep par b d → topP par d a = 0 → topP par d b = 0 → upP par kids d a = upP par kids d b → a = b
  | 0, a, b, _, _, _, _, h1, h2, _ => h1.trans h2.symm
  | d + 1, a, b, ha, hb, hda, hdb, h1, h2, h => by
    cases hda with
    | up hpa hda =>
      cases hdb with
      | up hpb hdb =>
        simp only [upP, List.cons.injEq] at h
        have hp := upP_inj hw d (par a) (par b) (WFin hw ha hpa) (WFin hw hb hpb) hda hdb h1 h2 h.2
        obtain ⟨i, hi, hia, hie, _⟩ := hw.place ha hpa
        obtain ⟨j, hj, hjb, hje, _⟩ := hw.place hb hpb
        have h3 := h.1
        rw [hie, hje] at h3
        have hij : i = j := by omega
        subst hij
        rw [← hia, ← hjb]
        congr 1
        rw [hp]
theorem upP_odd (par : Int → Int) (kids : Int → List Int) : ∀ d a, ∀ x ∈ upP par kids d a, ∃ i : Int, x = 2 * i + 1
  | 0, _, x, h => by simp [upP] at h
  | d + 1, a, x, h => by
    simp only [upP, List.mem_cons] at h
    rcases h with rfl | h
    · exact ⟨_, rfl⟩
    · exact upP_odd par kids d (par a) x h
/-- A leaf's path leads to no other point. -/
theorem leaf_prefix (hw : WF n par kids) {x a : Int} {dx da : Nat} (hx : In n x) (ha : In n a) (hdx : Dep par x dx) (hda : Dep par a da) (tx : topP par dx x = 0) (ta : topP par da a = 0) (hleaf : kids x = []) (hne : x ≠ a) (t : Int) :
    ¬ (upP par kids dx x).reverse <+: (upP par kids da a).reverse ++ [2 * t] := by
  intro hp
  have hlen := hp.length_le
  simp only [List.length_reverse, upP_len, List.length_append, List.length_singleton] at hlen
  rcases Nat.lt_or_ge da dx with hlt | hge
  · have he : dx = da + 1 := by omega
    have heq := hp.eq_of_length (by simp [upP_len]; omega)
    have hm : 2 * t ∈ (upP par kids dx x).reverse := by rw [heq]; simp
    obtain ⟨i, hi⟩ := upP_odd par kids dx x _ (List.mem_reverse.1 hm)
    omega
  · obtain ⟨e, rfl⟩ : ∃ e, da = e + dx := ⟨da - dx, by omega⟩
    have hpp : (upP par kids dx x).reverse <+: (upP par kids (e + dx) a).reverse := by
      refine List.prefix_of_prefix_length_le hp (List.prefix_append _ _) (by simp [upP_len])
    rw [upP_add, List.reverse_append] at hpp
    have h1 := List.prefix_of_prefix_length_le hpp (List.prefix_append _ _) (by simp [upP_len])
    have h2 := List.reverse_inj.1 (h1.eq_of_length (by simp [upP_len]))
    obtain ⟨hin, hdep⟩ := anc_dep hw e dx a ha hda
    have h3 := upP_inj hw dx x (ancP par e a) hx hin hdx hdep tx (by rw [← topP_add]; exact ta) h2
    cases e with
    | zero => exact hne h3
    | succ e => exact anc_kid hw e dx a ha hda (by rw [← h3]; exact hleaf)
/-- One stands ahead of another one, by a kid's place. -/
def Lt (par : Int → Int) (kids : Int → List Int) (x y : Int) : Prop :=
  ∃ (dx dy : Nat) (p s s' : List Int) (i j : Int), Dep par x dx ∧ Dep par y dy ∧ (upP par kids dx x).reverse = p ++ (2 * i + 1) :: s ∧ (upP par kids dy y).reverse = p ++ (2 * j + 1) :: s' ∧ i < j
theorem Lt.lex {x y : Int} (h : Lt par kids x y) {dx dy : Nat} (hx : Dep par x dx) (hy : Dep par y dy) (t u : Int) : lexlt ((upP par kids dx x).reverse ++ [2 * t]) ((upP par kids dy y).reverse ++ [2 * u]) = true := by
  obtain ⟨dx', dy', p, s, s', i, j, h1, h2, h3, h4, h5⟩ := h
  rw [hx.fn h1, hy.fn h2, h3, h4, List.append_assoc, List.append_assoc, List.cons_append, List.cons_append]
  exact lexlt_split (by omega) _ _
theorem preP (hw : WF n par kids) : ∀ (f : Nat) (a : Int) (da : Nat), In n a → Dep par a da → ∀ z ∈ preF kids f a, ∃ (e : Nat) (r : List Int), Dep par z (da + e) ∧ (upP par kids (da + e) z).reverse = (upP par kids da a).reverse ++ r ∧ topP par (da + e) z = topP par da a
  | 0, a, da, ha, hd, z, hz => by
    simp only [preF, List.mem_singleton] at hz
    subst hz
    exact ⟨0, [], hd, by simp, rfl⟩
  | f + 1, a, da, ha, hd, z, hz => by
    simp only [preF, List.mem_cons, List.mem_flatMap] at hz
    rcases hz with rfl | ⟨c, hc, hz⟩
    · exact ⟨0, [], hd, by simp, rfl⟩
    · obtain ⟨h1, h2⟩ := hw.kid_in ha hc
      have hdc : Dep par c (da + 1) := .up (by rw [h2]; exact ha.1) (by rw [h2]; exact hd)
      obtain ⟨e, r, g1, g2, g3⟩ := preP hw f c (da + 1) h1 hdc z hz
      refine ⟨e + 1, (2 * ix (kids a) c + 1) :: r, by rw [show da + (e + 1) = da + 1 + e from by omega]; exact g1, ?_, ?_⟩
      · rw [show da + (e + 1) = da + 1 + e from by omega, g2]
        simp only [upP, h2, List.reverse_cons, List.append_assoc, List.singleton_append]
      · rw [show da + (e + 1) = da + 1 + e from by omega, g3]
        simp only [topP, h2]
/-- The order: each one stands ahead of those behind it, where it has no kids. -/
theorem preLt (hw : WF n par kids) : ∀ (f : Nat) (a : Int) (da : Nat), In n a → Dep par a da → (preF kids f a).Pairwise (fun x y => kids x = [] → Lt par kids x y)
  | 0, a, da, ha, hd => by simp [preF]
  | f + 1, a, da, ha, hd => by
    simp only [preF]
    rw [List.pairwise_cons]
    refine ⟨fun y hy hk => by rw [hk] at hy; simp at hy, ?_⟩
    rw [List.pairwise_flatMap]
    refine ⟨fun c hc => ?_, ?_⟩
    · obtain ⟨h1, h2⟩ := hw.kid_in ha hc
      exact preLt hw f c (da + 1) h1 (.up (by rw [h2]; exact ha.1) (by rw [h2]; exact hd))
    · rw [List.pairwise_iff_getElem]
      intro i j hi hj hij x hx y hy _
      obtain ⟨h1, h2⟩ := hw.kid_in ha (List.getElem_mem hi)
      obtain ⟨h3, h4⟩ := hw.kid_in ha (List.getElem_mem hj)
      have hdi : Dep par (kids a)[i] (da + 1) := .up (by rw [h2]; exact ha.1) (by rw [h2]; exact hd)
      have hdj : Dep par (kids a)[j] (da + 1) := .up (by rw [h4]; exact ha.1) (by rw [h4]; exact hd)
      obtain ⟨e, r, g1, g2, -⟩ := preP hw f _ (da + 1) h1 hdi x hx
      obtain ⟨e', r', g1', g2', -⟩ := preP hw f _ (da + 1) h3 hdj y hy
      have hnd := hw.nodup a ha.1 ha.2
      refine ⟨da + 1 + e, da + 1 + e', (upP par kids da a).reverse, r, r', i, j, g1, g1', ?_, ?_, by omega⟩
      · rw [g2]
        simp only [upP, h2, List.reverse_cons, List.append_assoc, List.singleton_append]
        rw [ix_get hnd hi]
      · rw [g2']
        simp only [upP, h4, List.reverse_cons, List.append_assoc, List.singleton_append]
        rw [ix_get hnd hj]
/-- The first step of a path leads to a kid of the document's. -/
theorem upP_first (hw : WF n par kids) : ∀ (d : Nat) (a : Int), In n a → Dep par a (d + 1) → topP par (d + 1) a = 0 → ∃ (i : Int) (r : List Int), (upP par kids (d + 1) a).reverse = (2 * i + 1) :: r ∧ 0 ≤ i ∧ i < (kids 0).length
  | 0, a, ha, hd, ht => by
    cases hd with
    | up hp hd =>
      simp only [topP] at ht
      obtain ⟨i, hi, _, hie, _⟩ := hw.place ha hp
      rw [ht] at hie hi
      refine ⟨i, [], ?_, by omega, by omega⟩
      simp only [upP, ht, hie]
      rfl
  | d + 1, a, ha, hd, ht => by
    cases hd with
    | up hp hd =>
      obtain ⟨i, r, h1, h2, h3⟩ := upP_first hw d (par a) (WFin hw ha hp) hd ht
      refine ⟨i, r ++ [2 * ix (kids (par a)) a + 1], ?_, h2, h3⟩
      rw [upP, List.reverse_cons, h1]
      rfl
end
/-! ### Texts in their order -/
/-- What two maps give, one behind the other, where none of the second one stands ahead of one of the first one. -/
theorem flat_two {α : Type} (f g : α → List UInt8) : ∀ (L : List α), L.Pairwise (fun x y => f y ≠ [] → g x = []) → L.flatMap (fun x => f x ++ g x) = L.flatMap f ++ L.flatMap g
  | [], _ => rfl
  | x :: r, h => by
    rw [List.pairwise_cons] at h
    simp only [List.flatMap_cons]
    rw [flat_two f g r h.2]
    by_cases hg : g x = []
    · rw [hg]; simp
    · have hf : r.flatMap f = [] := by
        rw [List.flatMap_eq_nil_iff]
        intro y hy
        exact Classical.byContradiction fun hn => hg (h.1 y hy hn)
      rw [hf]; simp
end Go.Proofs.YtmcinclecpeakaaGreatDoor.DocT
