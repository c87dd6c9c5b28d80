/- Trees and points in them, told by paths: what stands ahead of what; the texts of two ranges. No program in sight. -/
import Derived.Test.YthfalaabfgpjmaaDoorDocQ
namespace Go.Proofs.YthfalaabfgpjmaaDoor.DocT
open Go.Proofs.YthfalaabfgpjmaaDoor.DocP
set_option linter.unusedVariables false
set_option linter.unusedSimpArgs false

/-! ### Rows of numbers -/
def lexlt : List Int → List Int → Bool
  | _, [] => false
  | [], _ :: _ => true
  | x :: xs, y :: ys => decide (x < y) || (decide (x = y) && lexlt xs ys)
theorem lexlt_irr : ∀ x, lexlt x x = false
  | [] => rfl
  | x :: xs => by simp [lexlt, lexlt_irr xs]
theorem lexlt_asym : ∀ x y, lexlt x y = true → lexlt y x = false
  | _, [], h => by simp [lexlt] at h
  | [], _ :: _, _ => rfl
  | x :: xs, y :: ys, h => by
    simp only [lexlt, Bool.or_eq_true, Bool.and_eq_true, decide_eq_true_eq] at h
    simp only [lexlt, Bool.or_eq_false_iff, Bool.and_eq_false_iff, decide_eq_false_iff_not]
    rcases h with h | ⟨h, h'⟩
    · exact ⟨by omega, .inl (by omega)⟩
    · exact ⟨by omega, .inr (lexlt_asym xs ys h')⟩
theorem lexlt_total : ∀ x y, x ≠ y → lexlt x y = true ∨ lexlt y x = true
  | [], [], h => absurd rfl h
  | [], _ :: _, _ => .inl rfl
  | _ :: _, [], _ => .inr rfl
  | x :: xs, y :: ys, h => by
    simp only [lexlt, Bool.or_eq_true, Bool.and_eq_true, decide_eq_true_eq]
    rcases Int.lt_trichotomy x y with h1 | h1 | h1
    · exact .inl (.inl h1)
    · subst h1
      rcases lexlt_total xs ys (fun e => h (by rw [e])) with h2 | h2
      · exact .inl (.inr ⟨rfl, h2⟩)
      · exact .inr (.inr ⟨rfl, h2⟩)
    · exact .inr (.inl h1)
theorem lexlt_trans : ∀ x y z, lexlt x y = true → lexlt y z = true → lexlt x z = true
  | _, [], _, h, _ => by simp [lexlt] at h
  | _, _ :: _, [], _, h => by simp [lexlt] at h
  | [], _ :: _, _ :: _, _, _ => rfl
  | x :: xs, y :: ys, z :: zs, h, h' => by
    simp only [lexlt, Bool.or_eq_true, Bool.and_eq_true, decide_eq_true_eq] at h h' ⊢
    rcases h with h | ⟨h, h1⟩ <;> rcases h' with h' | ⟨h', h1'⟩
    · exact .inl (by omega)
    · exact .inl (by omega)
    · exact .inl (by omega)
    · exact .inr ⟨by omega, lexlt_trans xs ys zs h1 h1'⟩
theorem lexlt_app : ∀ (p : List Int) (x y : List Int), lexlt (p ++ x) (p ++ y) = lexlt x y
  | [], _, _ => rfl
  | a :: p, x, y => by simp [lexlt, lexlt_app p x y]
theorem lexlt_split {p : List Int} {i j : Int} (h : i < j) (s s' : List Int) : lexlt (p ++ i :: s) (p ++ j :: s') = true := by
  rw [lexlt_app]
  simp only [lexlt, Bool.or_eq_true, decide_eq_true_eq]
  exact .inl h
/-- What is not ahead, and what is. -/
theorem le_lt {x y z : List Int} (h : lexlt y x = false) (h' : lexlt y z = true) : lexlt x z = true := by
  by_cases e : x = y
  · rw [e]; exact h'
  · rcases lexlt_total x y e with h1 | h1
    · exact lexlt_trans _ _ _ h1 h'
    · rw [h1] at h; cases h
theorem lt_le {x y z : List Int} (h : lexlt x y = true) (h' : lexlt z y = false) : lexlt x z = true := by
  by_cases e : y = z
  · rw [← e]; exact h
  · rcases lexlt_total y z e with h1 | h1
    · exact lexlt_trans _ _ _ h h1
    · rw [h1] at h'; cases h'
theorem le_le {x y z : List Int} (h : lexlt y x = false) (h' : lexlt z y = false) : lexlt z x = false := by
  cases hz : lexlt z x with
  | false => rfl
  | true => rw [lt_le hz h] at h'; cases h'
/-- Where the one does not go on from the other it does not matter how the other goes on. -/
theorem lexlt_leafL : ∀ (u w x x' : List Int), ¬ u <+: w → lexlt (u ++ x) w = lexlt (u ++ x') w
  | [], w, x, x', h => absurd (List.nil_prefix) h
  | a :: u, [], x, x', h => rfl
  | a :: u, b :: w, x, x', h => by
    simp only [List.cons_append, lexlt]
    by_cases e : a = b
    · subst e
      rw [lexlt_leafL u w x x' (fun hp => h (List.cons_prefix_cons.2 ⟨rfl, hp⟩))]
    · simp [e]
theorem lexlt_leafR : ∀ (u w x x' : List Int), ¬ u <+: w → lexlt w (u ++ x) = lexlt w (u ++ x')
  | [], w, x, x', h => absurd (List.nil_prefix) h
  | a :: u, [], x, x', h => rfl
  | a :: u, b :: w, x, x', h => by
    simp only [List.cons_append, lexlt]
    by_cases e : a = b
    · subst e
      rw [lexlt_leafR u w x x' (fun hp => h (List.cons_prefix_cons.2 ⟨rfl, hp⟩))]
    · simp [show ¬ b = a from fun h => e h.symm]

/-! ### Paths -/
def upP (par : Int → Int) (kids : Int → List Int) : Nat → Int → List Int
  | 0, _ => []
  | d + 1, a => (2 * ix (kids (par a)) a + 1) :: upP par kids d (par a)
def topP (par : Int → Int) : Nat → Int → Int
  | 0, a => a
  | d + 1, a => topP par d (par a)
def ancP (par : Int → Int) : Nat → Int → Int
  | 0, a => a
  | e + 1, a => ancP par e (par a)
theorem upP_len (par : Int → Int) (kids : Int → List Int) : ∀ d a, (upP par kids d a).length = d
  | 0, _ => rfl
  | d + 1, a => by simp [upP, upP_len par kids d]
theorem upP_add (par : Int → Int) (kids : Int → List Int) : ∀ e d a, upP par kids (e + d) a = upP par kids e a ++ upP par kids d (ancP par e a)
  | 0, d, a => by rw [Nat.zero_add]; rfl
  | e + 1, d, a => by
    rw [show e + 1 + d = (e + d) + 1 from by omega]
    simp only [upP, ancP]
    rw [upP_add par kids e d (par a)]
    rfl
theorem topP_add (par : Int → Int) : ∀ e d a, topP par (e + d) a = topP par d (ancP par e a)
  | 0, d, a => by rw [Nat.zero_add]; rfl
  | e + 1, d, a => by
    rw [show e + 1 + d = (e + d) + 1 from by omega]
    simp only [topP, ancP]
    exact topP_add par e d (par a)
section
variable {n : Nat} {par : Int → Int} {kids : Int → List Int}
theorem WFin (h : WF n par kids) {a : Int} (ha : In n a) (hp : 0 ≤ par a) : In n (par a) := by
  rcases h.par_or ha with e | ⟨h1, _⟩
  · omega
  · exact h1
theorem anc_dep (h : WF n par kids) : ∀ (e d : Nat) (a : Int), In n a → Dep par a (e + d) → In n (ancP par e a) ∧ Dep par (ancP par e a) d
  | 0, d, a, ha, hd => ⟨ha, by rw [Nat.zero_add] at hd; exact hd⟩
  | e + 1, d, a, ha, hd => by
    rw [show e + 1 + d = (e + d) + 1 from by omega] at hd
    cases hd with
    | up hp hd => exact anc_dep h e d (par a) (WFin h ha hp) hd
/-- Above a node there is none without kids. -/
theorem anc_kid (h : WF n par kids) : ∀ (e d : Nat) (a : Int), In n a → Dep par a (e + 1 + d) → kids (ancP par (e + 1) a) ≠ []
  | 0, d, a, ha, hd => by
    rw [show 0 + 1 + d = d + 1 from by omega] at hd
    cases hd with
    | up hp hd =>
      rcases h.par_or ha with e | ⟨_, h2⟩
      · omega
      · intro hk
        simp only [ancP] at hk
        rw [hk] at h2
        cases h2
  | e + 1, d, a, ha, hd => by
    rw [show e + 1 + 1 + d = (e + 1 + d) + 1 from by omega] at hd
    cases hd with
    | up hp hd => exact anc_kid h e d (par a) (WFin h ha hp) hd
theorem upP_inj (hw : WF n par kids) : ∀ (d : Nat) (a b : Int), In n a → In n b → Dep par a d → Dep par b d → topP par d a = 0 → topP par d b = 0 → upP par kids d a = upP par kids d b → a = b
  | 0, a, b, _, _, _, _, h1, h2, _ => h1.trans h2.symm
  | d + 1, a, b, ha, hb, hda, hdb, h1, h2, h => by
    cases hda with
    | up hpa hda =>
      cases hdb with
      | up hpb hdb =>
        simp only [upP, List.cons.injEq] at h
        have hp := upP_inj hw d (par a) (par b) (WFin hw ha hpa) (WFin hw hb hpb) hda hdb h1 h2 h.2
        obtain ⟨i, hi, hia, hie, _⟩ := hw.place ha hpa
        obtain ⟨j, hj, hjb, hje, _⟩ := hw.place hb hpb
        have h3 := h.1
        rw [hie, hje] at h3
        have hij : i = j := by omega
        subst hij
        rw [← hia, ← hjb]
        congr 1
        rw [hp]
theorem upP_odd (par : Int → Int) (kids : Int → List Int) : ∀ d a, ∀ x ∈ upP par kids d a, ∃ i : Int, x = 2 * i + 1
  | 0, _, x, h => by simp [upP] at h
  | d + 1, a, x, h => by
    simp only [upP, List.mem_cons] at h
    rcases h with rfl | h
    · exact ⟨_, rfl⟩
    · exact upP_odd par kids d (par a) x h
/-- A leaf's path leads to no other point. -/
theorem leaf_prefix (hw : WF n par kids) {x a : Int} {dx da : Nat} (hx : In n x) (ha : In n a) (hdx : Dep par x dx) (hda : Dep par a da) (tx : topP par dx x = 0) (ta : topP par da a = 0) (hleaf : kids x = []) (hne : x ≠ a) (t : Int) :
    ¬ (upP par kids dx x).reverse <+: (upP par kids da a).reverse ++ [2 * t] := by
  intro hp
  have hlen := hp.length_le
  simp only [List.length_reverse, upP_len, List.length_append, List.length_singleton] at hlen
  rcases Nat.lt_or_ge da dx with hlt | hge
  · have he : dx = da + 1 := by omega
    have heq := hp.eq_of_length (by simp [upP_len]; omega)
    have hm : 2 * t ∈ (upP par kids dx x).reverse := by rw [heq]; simp
    obtain ⟨i, hi⟩ := upP_odd par kids dx x _ (List.mem_reverse.1 hm)
    omega
  · obtain ⟨e, rfl⟩ : ∃ e, da = e + dx := ⟨da - dx, by omega⟩
    have hpp : (upP par kids dx x).reverse <+: (upP par kids (e + dx) a).reverse := by
      refine List.prefix_of_prefix_length_le hp (List.prefix_append _ _) (by simp [upP_len])
    rw [upP_add, List.reverse_append] at hpp
    have h1 := List.prefix_of_prefix_length_le hpp (List.prefix_append _ _) (by simp [upP_len])
    have h2 := List.reverse_inj.1 (h1.eq_of_length (by simp [upP_len]))
    obtain ⟨hin, hdep⟩ := anc_dep hw e dx a ha hda
    have h3 := upP_inj hw dx x (ancP par e a) hx hin hdx hdep tx (by rw [← topP_add]; exact ta) h2
    cases e with
    | zero => exact hne h3
    | succ e => exact anc_kid hw e dx a ha hda (by rw [← h3]; exact hleaf)
/-- One stands ahead of another one, by a kid's place. -/
def Lt (par : Int → Int) (kids : Int → List Int) (x y : Int) : Prop :=
  ∃ (dx dy : Nat) (p s s' : List Int) (i j : Int), Dep par x dx ∧ Dep par y dy ∧ (upP par kids dx x).reverse = p ++ (2 * i + 1) :: s ∧ (upP par kids dy y).reverse = p ++ (2 * j + 1) :: s' ∧ i < j
theorem Lt.lex {x y : Int} (h : Lt par kids x y) {dx dy : Nat} (hx : Dep par x dx) (hy : Dep par y dy) (t u : Int) : lexlt ((upP par kids dx x).reverse ++ [2 * t]) ((upP par kids dy y).reverse ++ [2 * u]) = true := by
  obtain ⟨dx', dy', p, s, s', i, j, h1, h2, h3, h4, h5⟩ := h
  rw [hx.fn h1, hy.fn h2, h3, h4, List.append_assoc, List.append_assoc, List.cons_append, List.cons_append]
  exact lexlt_split (by omega) _ _
theorem preP (hw : WF n par kids) : ∀ (f : Nat) (a : Int) (da : Nat), In n a → Dep par a da → ∀ z ∈ preF kids f a, ∃ (e : Nat) (r : List Int), Dep par z (da + e) ∧ (upP par kids (da + e) z).reverse = (upP par kids da a).reverse ++ r ∧ topP par (da + e) z = topP par da a
  | 0, a, da, ha, hd, z, hz => by
    simp only [preF, List.mem_singleton] at hz
    subst hz
    exact ⟨0, [], hd, by simp, rfl⟩
  | f + 1, a, da, ha, hd, z, hz => by
    simp only [preF, List.mem_cons, List.mem_flatMap] at hz
    rcases hz with rfl | ⟨c, hc, hz⟩
    · exact ⟨0, [], hd, by simp, rfl⟩
    · obtain ⟨h1, h2⟩ := hw.kid_in ha hc
      have hdc : Dep par c (da + 1) := .up (by rw [h2]; exact ha.1) (by rw [h2]; exact hd)
      obtain ⟨e, r, g1, g2, g3⟩ := preP hw f c (da + 1) h1 hdc z hz
      refine ⟨e + 1, (2 * ix (kids a) c + 1) :: r, by rw [show da + (e + 1) = da + 1 + e from by omega]; exact g1, ?_, ?_⟩
      · rw [show da + (e + 1) = da + 1 + e from by omega, g2]
        simp only [upP, h2, List.reverse_cons, List.append_assoc, List.singleton_append]
      · rw [show da + (e + 1) = da + 1 + e from by omega, g3]
        simp only [topP, h2]
/-- The order: each one stands ahead of those behind it, where it has no kids. -/
theorem preLt (hw : WF n par kids) : ∀ (f : Nat) (a : Int) (da : Nat), In n a → Dep par a da → (preF kids f a).Pairwise (fun x y => kids x = [] → Lt par kids x y)
  | 0, a, da, ha, hd => by simp [preF]
  | f + 1, a, da, ha, hd => by
    simp only [preF]
    rw [List.pairwise_cons]
    refine ⟨fun y hy hk => by rw [hk] at hy; simp at hy, ?_⟩
    rw [List.pairwise_flatMap]
    refine ⟨fun c hc => ?_, ?_⟩
    · obtain ⟨h1, h2⟩ := hw.kid_in ha hc
      exact preLt hw f c (da + 1) h1 (.up (by rw [h2]; exact ha.1) (by rw [h2]; exact hd))
    · rw [List.pairwise_iff_getElem]
      intro i j hi hj hij x hx y hy _
      obtain ⟨h1, h2⟩ := hw.kid_in ha (List.getElem_mem hi)
      obtain ⟨h3, h4⟩ := hw.kid_in ha (List.getElem_mem hj)
      have hdi : Dep par (kids a)[i] (da + 1) := .up (by rw [h2]; exact ha.1) (by rw [h2]; exact hd)
      have hdj : Dep par (kids a)[j] (da + 1) := .up (by rw [h4]; exact ha.1) (by rw [h4]; exact hd)
      obtain ⟨e, r, g1, g2, -⟩ := preP hw f _ (da + 1) h1 hdi x hx
      obtain ⟨e', r', g1', g2', -⟩ := preP hw f _ (da + 1) h3 hdj y hy
      have hnd := hw.nodup a ha.1 ha.2
      refine ⟨da + 1 + e, da + 1 + e', (upP par kids da a).reverse, r, r', i, j, g1, g1', ?_, ?_, by omega⟩
      · rw [g2]
        simp only [upP, h2, List.reverse_cons, List.append_assoc, List.singleton_append]
        rw [ix_get hnd hi]
      · rw [g2']
        simp only [upP, h4, List.reverse_cons, List.append_assoc, List.singleton_append]
        rw [ix_get hnd hj]
/-- The first step of a path leads to a kid of the document's. -/
theorem upP_first (hw : WF n par kids) : ∀ (d : Nat) (a : Int), In n a → Dep par a (d + 1) → topP par (d + 1) a = 0 → ∃ (i : Int) (r : List Int), (upP par kids (d + 1) a).reverse = (2 * i + 1) :: r ∧ 0 ≤ i ∧ i < (kids 0).length
  | 0, a, ha, hd, ht => by
    cases hd with
    | up hp hd =>
      simp only [topP] at ht
      obtain ⟨i, hi, _, hie, _⟩ := hw.place ha hp
      rw [ht] at hie hi
      refine ⟨i, [], ?_, by omega, by omega⟩
      simp only [upP, ht, hie]
      rfl
  | d + 1, a, ha, hd, ht => by
    cases hd with
    | up hp hd =>
      obtain ⟨i, r, h1, h2, h3⟩ := upP_first hw d (par a) (WFin hw ha hp) hd ht
      refine ⟨i, r ++ [2 * ix (kids (par a)) a + 1], ?_, h2, h3⟩
      rw [upP, List.reverse_cons, h1]
      rfl
end
/-! ### Texts in their order -/
/-- What two maps give, one behind the other, where none of the second one stands ahead of one of the first one. -/
theorem flat_two {α : Type} (f g : α → List UInt8) : ∀ (L : List α), L.Pairwise (fun x y => f y ≠ [] → g x = []) → L.flatMap (fun x => f x ++ g x) = L.flatMap f ++ L.flatMap g
  | [], _ => rfl
  | x :: r, h => by
    rw [List.pairwise_cons] at h
    simp only [List.flatMap_cons]
    rw [flat_two f g r h.2]
    by_cases hg : g x = []
    · rw [hg]; simp
    · have hf : r.flatMap f = [] := by
        rw [List.flatMap_eq_nil_iff]
        intro y hy
        exact Classical.byContradiction fun hn => hg (h.1 y hy hn)
      rw [hf]; simp
end Go.Proofs.YthfalaabfgpjmaaDoor.DocT
