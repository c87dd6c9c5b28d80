/- Paths under an edit: what is shifted, and what is cut; plain lists and trees. -/
import Derived.Test.YtlgoaphdhgidoaaDoorDocT
namespace Go.Proofs.YtlgoaphdhgidoaaDoor.DocT
open Go.Proofs.YtlgoaphdhgidoaaDoor.DocP
set_option linter.unusedVariables false
set_option linter.unusedSimpArgs false
/-- The sign behind a path's beginning A turned. -/
def shiftAt (f : Int → Int) : List Int → List Int → List Int
  | [], [] => []
  | [], c :: r => f c :: r
  | _ :: _, [] => []
  | u :: A, c :: r => if c = u then c :: shiftAt f A r else c :: r
theorem shiftAt_snoc (f : Int → Int) : ∀ (A x : List Int) (c : Int), shiftAt f A (x ++ [c]) = shiftAt f A x ++ [if x = A then f c else c]
  | [], [], c => by simp [shiftAt]
  | [], d :: r, c => by simp [shiftAt]
  | u :: A, [], c => by
    simp only [List.nil_append, shiftAt]
    split
    · cases A <;> simp [shiftAt]
    · simp
  | u :: A, d :: r, c => by
    simp only [List.cons_append, shiftAt]
    by_cases h : d = u
    · rw [if_pos h, if_pos h, shiftAt_snoc f A r c, List.cons_append]
      simp [h]
    · rw [if_neg h, if_neg h, List.cons_append]
      simp [h]
theorem shiftAt_lt (f : Int → Int) (hf : ∀ x y, x < y → f x < f y) : ∀ (A x y : List Int), lexlt (shiftAt f A x) (shiftAt f A y) = lexlt x y
  | [], [], [] => rfl
  | [], [], _ :: _ => rfl
  | [], _ :: _, [] => rfl
  | [], c :: r, d :: s => by
    have h1 : f c < f d ↔ c < d := ⟨fun h => by
      rcases Int.lt_trichotomy c d with h' | h' | h'
      · exact h'
      · subst h'; omega
      · have := hf d c h'; omega, hf c d⟩
    have h2 : f c = f d ↔ c = d := ⟨fun h => by
      rcases Int.lt_trichotomy c d with h' | h' | h'
      · have := hf c d h'; omega
      · exact h'
      · have := hf d c h'; omega, fun h => by rw [h]⟩
    simp only [shiftAt, lexlt, h1, h2]
  | u :: A, [], [] => rfl
  | u :: A, [], d :: s => by simp only [shiftAt]; split <;> rfl
  | u :: A, c :: r, [] => by simp only [shiftAt]; split <;> rfl
  | u :: A, c :: r, d :: s => by
    simp only [shiftAt]
    by_cases hc : c = u
    · by_cases hd : d = u
      · rw [if_pos hc, if_pos hd]
        simp only [lexlt, shiftAt_lt f hf A r s]
      · rw [if_pos hc, if_neg hd]
        have : ¬ c = d := fun h => hd (h ▸ hc)
        simp [lexlt, this]
    · by_cases hd : d = u
      · rw [if_neg hc, if_pos hd]
        have : ¬ c = d := fun h => hc (h ▸ hd)
        simp [lexlt, this]
      · rw [if_neg hc, if_neg hd]
/-- Where a kid goes: what was below it comes to its place. -/
def cutAt (i : Int) : List Int → List Int → List Int
  | [], [] => []
  | [], c :: r => if c = 2 * i + 1 then [2 * i] else (if c > 2 * i + 1 then c - 2 else c) :: r
  | _ :: _, [] => []
  | u :: A, c :: r => if c = u then c :: cutAt i A r else c :: r
/-- A point's path: signs that are odd, and a last one. -/
def Pt : List Int → Prop
  | [] => True
  | [_] => True
  | c :: d :: r => (∃ k, c = 2 * k + 1) ∧ Pt (d :: r)
theorem Pt.tail {c : Int} {r : List Int} (h : Pt (c :: r)) : Pt r := by
  cases r with
  | nil => trivial
  | cons d s => exact h.2
theorem Pt.even {c : Int} {r : List Int} (h : Pt (2 * c :: r)) : r = [] := by
  cases r with
  | nil => rfl
  | cons d s => obtain ⟨⟨k, hk⟩, _⟩ := h; omega
theorem pt_odd : ∀ (x : List Int), (∀ c ∈ x, ∃ k : Int, c = 2 * k + 1) → ∀ t, Pt (x ++ [t])
  | [], _, t => trivial
  | [c], h, t => ⟨h c (by simp), trivial⟩
  | c :: d :: r, h, t => ⟨h c (by simp), pt_odd (d :: r) (fun a ha => h a (List.mem_cons_of_mem _ ha)) t⟩
theorem cutAt_le (i : Int) : ∀ (A x y : List Int), Pt x → Pt y → lexlt y x = false → lexlt (cutAt i A y) (cutAt i A x) = false
  | [], [], [], _, _, _ => rfl
  | [], [], d :: s, _, _, _ => by simp only [cutAt]; split <;> rfl
  | [], c :: r, [], _, _, h => by simp [lexlt] at h
  | [], c :: r, d :: s, hx, hy, h => by
    simp only [lexlt, Bool.or_eq_false_iff, Bool.and_eq_false_iff, decide_eq_false_iff_not] at h
    obtain ⟨h1, h2⟩ := h
    simp only [cutAt]
    by_cases hc : c = 2 * i + 1
    · rw [if_pos hc]
      by_cases hd : d = 2 * i + 1
      · rw [if_pos hd]; exact lexlt_irr _
      · rw [if_neg hd, if_pos (by omega)]
        simp only [lexlt, Bool.or_eq_false_iff, Bool.and_eq_false_iff, decide_eq_false_iff_not]
        refine ⟨by omega, .inr ?_⟩
        cases s <;> first | rfl | trivial
    · rw [if_neg hc]
      by_cases hd : d = 2 * i + 1
      · rw [if_pos hd, if_neg (by omega)]
        simp only [lexlt, Bool.or_eq_false_iff, Bool.and_eq_false_iff, decide_eq_false_iff_not]
        refine ⟨by omega, ?_⟩
        by_cases he : 2 * i = c
        · subst he
          rw [hx.even]
          exact .inr rfl
        · exact .inl he
      · rw [if_neg hd]
        simp only [lexlt, Bool.or_eq_false_iff, Bool.and_eq_false_iff, decide_eq_false_iff_not]
        by_cases hcd : c = d
        · subst hcd
          refine ⟨by omega, .inr ?_⟩
          rcases h2 with h2 | h2
          · exact absurd rfl h2
          · exact h2
        · have hlt : c < d := by omega
          by_cases hcc : c > 2 * i + 1
          · rw [if_pos hcc, if_pos (by omega)]
            exact ⟨by omega, .inl (by omega)⟩
          · rw [if_neg hcc]
            by_cases hdd : d > 2 * i + 1
            · rw [if_pos hdd]
              refine ⟨by omega, ?_⟩
              by_cases he : d - 2 = c
              · have : c = 2 * i := by omega
                subst this
                rw [hx.even]
                right
                cases s <;> first | rfl | trivial
              · exact .inl he
            · rw [if_neg hdd]
              exact ⟨by omega, .inl (by omega)⟩
  | u :: A, [], [], _, _, _ => rfl
  | u :: A, [], d :: s, _, _, _ => by simp only [cutAt]; split <;> rfl
  | u :: A, c :: r, [], _, _, h => by simp [lexlt] at h
  | u :: A, c :: r, d :: s, hx, hy, h => by
    simp only [lexlt, Bool.or_eq_false_iff, Bool.and_eq_false_iff, decide_eq_false_iff_not] at h
    obtain ⟨h1, h2⟩ := h
    simp only [cutAt]
    by_cases hc : c = u
    · by_cases hd : d = u
      · rw [if_pos hc, if_pos hd]
        simp only [lexlt, Bool.or_eq_false_iff, Bool.and_eq_false_iff, decide_eq_false_iff_not]
        refine ⟨h1, ?_⟩
        rcases h2 with h2 | h2
        · exact .inl h2
        · exact .inr (cutAt_le i A r s hx.tail hy.tail h2)
      · rw [if_pos hc, if_neg hd]
        simp only [lexlt, Bool.or_eq_false_iff, Bool.and_eq_false_iff, decide_eq_false_iff_not]
        exact ⟨h1, .inl (fun he => hd (he.trans hc))⟩
    · by_cases hd : d = u
      · rw [if_neg hc, if_pos hd]
        simp only [lexlt, Bool.or_eq_false_iff, Bool.and_eq_false_iff, decide_eq_false_iff_not]
        exact ⟨h1, .inl (fun he => hc (he.symm.trans hd))⟩
      · rw [if_neg hc, if_neg hd]
        simp only [lexlt, Bool.or_eq_false_iff, Bool.and_eq_false_iff, decide_eq_false_iff_not]
        exact ⟨h1, h2⟩
theorem cutAt_snoc (i : Int) : ∀ (A x : List Int) (c : Int), c ≠ 2 * i + 1 → (∀ r, x ≠ A ++ (2 * i + 1) :: r) → cutAt i A (x ++ [c]) = cutAt i A x ++ [if x = A then (if c > 2 * i + 1 then c - 2 else c) else c]
  | [], [], c, hc, _ => by simp [cutAt, hc]
  | [], d :: r, c, hc, h => by
    have hd : d ≠ 2 * i + 1 := fun e => h r (by rw [e]; rfl)
    simp [cutAt, hd]
  | u :: A, [], c, hc, _ => by
    simp only [List.nil_append, cutAt]
    split
    · next h1 => subst h1; cases A <;> simp [cutAt]
    · simp
  | u :: A, d :: r, c, hc, h => by
    simp only [List.cons_append, cutAt]
    by_cases h1 : d = u
    · rw [if_pos h1, if_pos h1, cutAt_snoc i A r c hc (fun r' he => h r' (by rw [h1, he]; rfl)), List.cons_append]
      simp [h1]
    · rw [if_neg h1, if_neg h1, List.cons_append]
      simp [h1]
theorem cutAt_other (i : Int) : ∀ (A x : List Int) (c : Int), (∀ r, x ≠ A ++ (2 * i + 1) :: r) → ¬ x = A → cutAt i A (x ++ [c]) = cutAt i A x ++ [c]
  | [], [], c, _, h => absurd rfl h
  | [], d :: r, c, h, _ => by
    have hd : d ≠ 2 * i + 1 := fun e => h r (by rw [e]; rfl)
    simp [cutAt, hd]
  | u :: A, [], c, _, _ => by
    simp only [List.nil_append, cutAt]
    split
    · next h1 => subst h1; cases A <;> simp [cutAt]
    · simp
  | u :: A, d :: r, c, h, hne => by
    simp only [List.cons_append, cutAt]
    by_cases h1 : d = u
    · rw [if_pos h1, if_pos h1, cutAt_other i A r c (fun r' he => h r' (by rw [h1, he]; rfl)) (fun he => hne (by rw [h1, he])), List.cons_append]
    · rw [if_neg h1, if_neg h1, List.cons_append]
theorem cutAt_in (i : Int) : ∀ (A r : List Int), cutAt i A (A ++ (2 * i + 1) :: r) = A ++ [2 * i]
  | [], r => by simp [cutAt]
  | u :: A, r => by simp [cutAt, cutAt_in i A r]
/-! ### A path as it is read, from above -/
def rp (par : Int → Int) (kids : Int → List Int) (d : Nat) (a : Int) : List Int := (upP par kids d a).reverse
theorem rp_len (par : Int → Int) (kids : Int → List Int) (d : Nat) (a : Int) : (rp par kids d a).length = d := by simp [rp, upP_len]
theorem rp_up (par : Int → Int) (kids : Int → List Int) (d : Nat) (a : Int) : rp par kids (d + 1) a = rp par kids d (par a) ++ [2 * ix (kids (par a)) a + 1] := by simp [rp, upP]
theorem rp_odd (par : Int → Int) (kids : Int → List Int) (d : Nat) (a : Int) : ∀ x ∈ rp par kids d a, ∃ i : Int, x = 2 * i + 1 := fun x hx => upP_odd par kids d a x (List.mem_reverse.1 hx)
theorem ix_put {xs : List Int} (hn : xs.Nodup) {j a : Int} (ha : a ∈ xs) (hj : j ∉ xs) (p : Nat) : ix (xs.take p ++ j :: xs.drop p) a = if ix xs a ≥ p then ix xs a + 1 else ix xs a := by
  obtain ⟨t, ht, rfl⟩ := List.getElem_of_mem ha
  rw [ix_get hn ht]
  have hput : (xs.take p ++ j :: xs.drop p).Nodup := by
    have hp : (xs.take p ++ j :: xs.drop p).Perm (j :: xs) := by
      have h1 : (xs.take p ++ j :: xs.drop p).Perm (j :: (xs.take p ++ xs.drop p)) := List.perm_middle
      rw [List.take_append_drop] at h1
      exact h1
    exact hp.nodup_iff.2 (List.nodup_cons.2 ⟨hj, hn⟩)
  by_cases h : p ≤ t
  · rw [if_pos (by omega)]
    have hl : t + 1 < (xs.take p ++ j :: xs.drop p).length := by simp; omega
    have he : (xs.take p ++ j :: xs.drop p)[t + 1] = xs[t] := by
      rw [List.getElem_append_right (by simp; omega)]
      have : t + 1 - (xs.take p).length = (t - p) + 1 := by simp; omega
      simp only [this, List.getElem_cons_succ, List.getElem_drop]
      congr 1
      omega
    rw [← he, ix_get hput hl]
    omega
  · rw [if_neg (by omega)]
    have hl : t < (xs.take p ++ j :: xs.drop p).length := by simp; omega
    have he : (xs.take p ++ j :: xs.drop p)[t] = xs[t] := by
      rw [List.getElem_append_left (by simp; omega), List.getElem_take]
    rw [← he, ix_get hput hl]
theorem ix_erase {xs : List Int} (hn : xs.Nodup) {i : Nat} (hi : i < xs.length) {a : Int} (ha : a ∈ xs) (hne : a ≠ xs[i]) : ix xs a ≠ i ∧ ix (xs.eraseIdx i) a = if ix xs a > i then ix xs a - 1 else ix xs a := by
  obtain ⟨t, ht, rfl⟩ := List.getElem_of_mem ha
  rw [ix_get hn ht]
  have hti : t ≠ i := fun e => hne (by subst e; rfl)
  have her : (xs.eraseIdx i).Nodup := hn.sublist (List.eraseIdx_sublist _ _)
  refine ⟨by omega, ?_⟩
  by_cases h : i < t
  · rw [if_pos (by omega)]
    have hl : t - 1 < (xs.eraseIdx i).length := by rw [List.length_eraseIdx, if_pos hi]; omega
    have he : (xs.eraseIdx i)[t - 1] = xs[t] := by
      rw [List.getElem_eraseIdx, dif_neg (by omega)]
      congr 1
      omega
    rw [← he, ix_get her hl]
    omega
  · rw [if_neg (by omega)]
    have hl : t < (xs.eraseIdx i).length := by rw [List.length_eraseIdx, if_pos hi]; omega
    have he : (xs.eraseIdx i)[t] = xs[t] := by
      rw [List.getElem_eraseIdx, dif_pos (by omega)]
    rw [← he, ix_get her hl]
section
variable {n : Nat} {P P' : Int → Int} {K K' : Int → List Int}
/-- In the tree: the way up ends at 0. -/
def Tr (P : Int → Int) (d : Nat) (a : Int) : Prop := Dep P a d ∧ topP P d a = 0
theorem Tr.up {d : Nat} {a : Int} (h : Tr P (d + 1) a) : 0 ≤ P a ∧ Tr P d (P a) := by
  obtain ⟨h1, h2⟩ := h
  cases h1 with
  | up hp hd => exact ⟨hp, hd, h2⟩
theorem Tr.zero {a : Int} (h : Tr P 0 a) : a = 0 ∧ P a < 0 := by
  obtain ⟨h1, h2⟩ := h
  cases h1 with
  | top hp => exact ⟨h2, hp⟩
theorem Tr.mk {d : Nat} {a : Int} (hp : 0 ≤ P a) (h : Tr P d (P a)) : Tr P (d + 1) a := ⟨.up hp h.1, h.2⟩
theorem rp_inj (hw : WF n P K) {d d' : Nat} {a b : Int} (ha : In n a) (hb : In n b) (h : Tr P d a) (h' : Tr P d' b) (he : rp P K d a = rp P K d' b) : a = b := by
  have hd : d = d' := by have := congrArg List.length he; rw [rp_len, rp_len] at this; exact this
  subst hd
  exact upP_inj hw d a b ha hb h.1 h'.1 h.2 h'.2 (List.reverse_inj.1 he)
open Classical in
/-- Where a node stands: its path, or (if it is not in the tree) what is no node's path. -/
noncomputable def spot (P : Int → Int) (K : Int → List Int) (i : Int) : List Int := if h : ∃ d, Tr P d i then rp P K h.choose i else [0]
theorem spot_iff (hw : WF n P K) {i : Int} (hi : In n i) {b : Int} {d : Nat} (hb : In n b) (h : Tr P d b) : rp P K d b = spot P K i ↔ b = i := by
  unfold spot
  by_cases hx : ∃ d, Tr P d i
  · rw [dif_pos hx]
    exact ⟨fun he => rp_inj hw hb hi h hx.choose_spec he, fun he => by subst he; rw [h.1.fn hx.choose_spec.1]⟩
  · rw [dif_neg hx]
    constructor
    · intro he
      obtain ⟨k, hk⟩ := rp_odd P K d b 0 (by rw [he]; simp)
      omega
    · intro he
      subst he
      exact absurd ⟨d, h⟩ hx
theorem spot_eq {i : Int} {d : Nat} (h : Tr P d i) : spot P K i = rp P K d i := by
  have hx : ∃ d, Tr P d i := ⟨d, h⟩
  unfold spot
  rw [dif_pos hx, hx.choose_spec.1.fn h.1]
/-- A node put in: what stands in the tree has its path shifted behind the place. -/
theorem put_paths (hw : WF n P K) {i j : Int} {p : Nat} (hi : In n i) (hj : In n j) (hj0 : j ≠ 0) (hpj : P j < 0) (h1 : ∀ a, In n a → P' a = if a = j then i else P a) (h2 : ∀ a, In n a → K' a = if a = i then (K i).take p ++ j :: (K i).drop p else K a) :
    ∀ (d : Nat) (a : Int), In n a → Tr P d a → Tr P' d a ∧ rp P' K' d a = shiftAt (fun x => if x ≥ 2 * (p : Int) + 1 then x + 2 else x) (spot P K i) (rp P K d a)
  | 0, a, ha, h => by
    obtain ⟨rfl, hp⟩ := h.zero
    have hpa : P' 0 = P 0 := by rw [h1 0 ha, if_neg (fun e => hj0 e.symm)]
    refine ⟨⟨.top (by rw [hpa]; exact hp), rfl⟩, ?_⟩
    have e1 : rp P' K' 0 (0 : Int) = [] := rfl
    have e2 : rp P K 0 (0 : Int) = [] := rfl
    rw [e1, e2]
    cases spot P K i <;> rfl
  | d + 1, a, ha, h => by
    obtain ⟨hp, hu⟩ := h.up
    have haj : a ≠ j := fun e => by subst e; omega
    have hpa : P' a = P a := by rw [h1 a ha, if_neg haj]
    have hpin := WFin hw ha hp
    obtain ⟨h3, h4⟩ := put_paths hw hi hj hj0 hpj h1 h2 d (P a) hpin hu
    refine ⟨.mk (by rw [hpa]; exact hp) (by rw [hpa]; exact h3), ?_⟩
    rw [rp_up, rp_up, hpa, h4, shiftAt_snoc]
    congr 2
    obtain ⟨_, _, hak⟩ := (hw.has a ha.1 ha.2).resolve_left (by omega)
    rw [h2 _ hpin]
    by_cases he : P a = i
    · rw [if_pos he, if_pos ((spot_iff hw hi hpin hu).2 he)]
      rw [he] at hak
      have hnj : j ∉ K i := fun hh => by have := (hw.kid i hi.1 hi.2 j hh).2.2; have := hi.1; omega
      rw [ix_put (hw.nodup i hi.1 hi.2) hak hnj p, he]
      split
      · next hh => rw [if_pos (by omega)]; omega
      · next hh => rw [if_neg (by omega)]
    · rw [if_neg he, if_neg (fun hh => he ((spot_iff hw hi hpin hu).1 hh))]
/-- A node taken out: what stands in the tree, and not below it. -/
theorem take_paths (hw : WF n P K) {x : Int} {i : Nat} (hx : In n x) (hx0 : x ≠ 0) (hp0 : 0 ≤ P x) (hi : i < (K (P x)).length) (hg : (K (P x))[i] = x) (h1 : ∀ a, In n a → P' a = if a = x then -1 else P a) (h2 : ∀ a, In n a → K' a = if a = P x then (K (P x)).eraseIdx i else K a) :
    ∀ (d : Nat) (a : Int), In n a → Tr P d a → ¬ Under P x a → Tr P' d a ∧ rp P' K' d a = cutAt i (spot P K (P x)) (rp P K d a) ∧ ∀ r, rp P K d a ≠ spot P K (P x) ++ (2 * (i : Int) + 1) :: r
  | 0, a, ha, h, hu => by
    obtain ⟨rfl, hp⟩ := h.zero
    have hpa : P' 0 = P 0 := by rw [h1 0 ha, if_neg (fun e => hx0 e.symm)]
    refine ⟨⟨.top (by rw [hpa]; exact hp), rfl⟩, ?_, fun r => by show ([] : List Int) ≠ _; simp⟩
    have e1 : rp P' K' 0 (0 : Int) = [] := rfl
    have e2 : rp P K 0 (0 : Int) = [] := rfl
    rw [e1, e2]
    cases spot P K (P x) <;> rfl
  | d + 1, a, ha, h, hu => by
    obtain ⟨hp, hup⟩ := h.up
    have hax : a ≠ x := fun e => hu (e ▸ .refl)
    have hpa : P' a = P a := by rw [h1 a ha, if_neg hax]
    have hpin := WFin hw ha hp
    have hu2 : ¬ Under P x (P a) := fun hh => hu (.up hp hh)
    obtain ⟨h3, h4, h5⟩ := take_paths hw hx hx0 hp0 hi hg h1 h2 d (P a) hpin hup hu2
    obtain ⟨_, _, hak⟩ := (hw.has a ha.1 ha.2).resolve_left (by omega)
    have hpx := WFin hw hx hp0
    have hne : P a = P x → ix (K (P a)) a ≠ i ∧ ix ((K (P x)).eraseIdx i) a = if ix (K (P a)) a > i then ix (K (P a)) a - 1 else ix (K (P a)) a := fun he => by
      rw [he] at hak ⊢
      exact ix_erase (hw.nodup _ hpx.1 hpx.2) hi hak (fun e => hax (e.trans hg))
    have hlast : rp P K d (P a) = spot P K (P x) → ix (K (P a)) a ≠ i := fun hh => (hne ((spot_iff hw hpx hpin hup).1 hh)).1
    refine ⟨.mk (by rw [hpa]; exact hp) (by rw [hpa]; exact h3), ?_, fun r hr => ?_⟩
    · rw [rp_up, rp_up, hpa, h4]
      by_cases hc : 2 * ix (K (P a)) a + 1 = 2 * (i : Int) + 1
      · -- another level: the index alone is the same
        have hns : ¬ rp P K d (P a) = spot P K (P x) := fun hh => hlast hh (by omega)
        have hpe : P a ≠ P x := fun hh => hns ((spot_iff hw hpx hpin hup).2 hh)
        rw [h2 _ hpin, if_neg hpe]
        exact (cutAt_other _ _ _ _ h5 hns).symm
      · rw [cutAt_snoc _ _ _ _ hc h5]
        congr 2
        rw [h2 _ hpin]
        by_cases he : P a = P x
        · rw [if_pos he, if_pos ((spot_iff hw hpx hpin hup).2 he), (hne he).2]
          split
          · next hh => rw [if_pos (by omega)]; omega
          · next hh => rw [if_neg (by omega)]
        · rw [if_neg he, if_neg (fun hh => he ((spot_iff hw hpx hpin hup).1 hh))]
    · rw [rp_up] at hr
      rcases List.eq_nil_or_concat r with rfl | ⟨r', b, rfl⟩
      · obtain ⟨e1, e2⟩ := List.append_inj' hr rfl
        have := hlast e1
        injection e2 with e2
        omega
      · rw [List.concat_eq_append, ← List.cons_append, ← List.append_assoc] at hr
        obtain ⟨e1, _⟩ := List.append_inj' hr rfl
        exact h5 r' e1
/-- .. and what stands below it. -/
theorem under_path (hw : WF n P K) {x : Int} {i : Nat} (hx : In n x) (hp0 : 0 ≤ P x) (hi : i < (K (P x)).length) (hg : (K (P x))[i] = x) {a : Int} (hu : Under P x a) : ∀ d : Nat, In n a → Tr P d a → ∃ e r, Tr P e (P x) ∧ rp P K d a = rp P K e (P x) ++ (2 * (i : Int) + 1) :: r := by
  induction hu with
  | refl =>
    intro d ha h
    cases d with
    | zero => have := h.zero; omega
    | succ d =>
      have hpx := WFin hw hx hp0
      refine ⟨d, [], h.up.2, ?_⟩
      rw [rp_up]
      have : ix (K (P x)) x = i := by
        have := ix_get (hw.nodup _ hpx.1 hpx.2) hi
        rw [hg] at this
        exact this
      rw [this]
  | @up a hp _ ih =>
    intro d ha h
    cases d with
    | zero => have := h.zero; omega
    | succ d =>
      obtain ⟨e, r, h1, h2⟩ := ih d (WFin hw ha hp) h.up.2
      refine ⟨e, r ++ [2 * ix (K (P a)) a + 1], h1, ?_⟩
      rw [rp_up, h2]
      simp
end
end Go.Proofs.YtlgoaphdhgidoaaDoor.DocT
