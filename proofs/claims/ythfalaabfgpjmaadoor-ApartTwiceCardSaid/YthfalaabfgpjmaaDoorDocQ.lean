/- Trees, told by parents and kids alone: the order, and what stands ahead. No program in sight. -/
import Derived.Test.YthfalaabfgpjmaaDoorDocP
namespace Go.Proofs.YthfalaabfgpjmaaDoor.DocP
set_option linter.unusedVariables false
set_option linter.unusedSimpArgs false

/-- From a node on: it, and all below it (so many steps deep at most). -/
def preF (kids : Int → List Int) : Nat → Int → List Int
  | 0, a => [a]
  | f + 1, a => a :: (kids a).flatMap (preF kids f)
theorem preF_head (kids : Int → List Int) (f : Nat) (a : Int) : ∃ t, preF kids f a = a :: t := by
  cases f with
  | zero => exact ⟨[], rfl⟩
  | succ f => exact ⟨_, rfl⟩

/-- A list of different numbers below n is no longer than n. -/
theorem nodup_len : ∀ (n : Nat) (l : List Int), l.Nodup → (∀ x ∈ l, 0 ≤ x ∧ x < n) → l.length ≤ n
  | 0, l, _, h => by
    cases l with
    | nil => simp
    | cons x t => have := h x List.mem_cons_self; omega
  | n + 1, l, hn, h => by
    by_cases hm : (n : Int) ∈ l
    · have h1 := nodup_len n (l.erase (n : Int)) (hn.erase _) (fun x hx => by
        obtain ⟨h2, h3⟩ := (List.Nodup.mem_erase_iff hn).1 hx
        have := h x h3
        omega)
      rw [List.length_erase_of_mem hm] at h1
      omega
    · have h1 := nodup_len n l hn (fun x hx => by
        have := h x hx
        have hne : x ≠ (n : Int) := fun e => hm (e ▸ hx)
        omega)
      omega

/-- A node, or one below it. -/
inductive Under (par : Int → Int) (a : Int) : Int → Prop
  | refl : Under par a a
  | up {x : Int} : 0 ≤ par x → Under par a (par x) → Under par a x
section
variable {n : Nat} {par : Int → Int} {kids : Int → List Int}
theorem Under.dep {a x : Int} (h : Under par a x) {d : Nat} (hd : Dep par a d) : ∃ e, Dep par x (d + e) := by
  induction h with
  | refl => exact ⟨0, hd⟩
  | up hp _ ih =>
    obtain ⟨e, he⟩ := ih
    exact ⟨e + 1, .up hp he⟩
theorem Under.one {a b x : Int} (h : Under par a x) (h' : Under par b x) {d : Nat} (ha : Dep par a d) (hb : Dep par b d) : a = b := by
  induction h with
  | refl =>
    cases h' with
    | refl => rfl
    | up hp hu =>
      obtain ⟨e, he⟩ := hu.dep hb
      have := ha.fn (.up hp he)
      omega
  | up hp hu ih =>
    cases h' with
    | refl =>
      obtain ⟨e, he⟩ := hu.dep ha
      have := hb.fn (.up hp he)
      omega
    | up _ hu' => exact ih hu'
theorem Under.trans {a b x : Int} (h : Under par a b) (h' : Under par b x) : Under par a x := by
  induction h' with
  | refl => exact h
  | up hp _ ih => exact .up hp ih
theorem WF.mem_pre (h : WF n par kids) : ∀ (f : Nat) (a x : Int), In n a → x ∈ preF kids f a → In n x ∧ Under par a x
  | 0, a, x, ha, hx => by
    rw [show x = a from by simpa [preF] using hx]
    exact ⟨ha, .refl⟩
  | f + 1, a, x, ha, hx => by
    simp only [preF, List.mem_cons, List.mem_flatMap] at hx
    rcases hx with rfl | ⟨k, hk, hx⟩
    · exact ⟨ha, .refl⟩
    · obtain ⟨h1, h2⟩ := h.kid_in ha hk
      obtain ⟨h3, h4⟩ := h.mem_pre f k x h1 hx
      exact ⟨h3, (Under.up (by rw [h2]; exact ha.1) (by rw [h2]; exact .refl)).trans h4⟩
theorem flat_nodup {f : Int → List Int} : ∀ (ks : List Int), (∀ k ∈ ks, (f k).Nodup) → (∀ k ∈ ks, ∀ k' ∈ ks, k ≠ k' → ∀ x ∈ f k, x ∉ f k') → ks.Nodup → (ks.flatMap f).Nodup
  | [], _, _, _ => by simp
  | k :: ks, h1, h2, h3 => by
    rw [List.flatMap_cons, List.nodup_append]
    rw [List.nodup_cons] at h3
    refine ⟨h1 k List.mem_cons_self, flat_nodup ks (fun x hx => h1 x (List.mem_cons_of_mem _ hx)) (fun a ha b hb => h2 a (List.mem_cons_of_mem _ ha) b (List.mem_cons_of_mem _ hb)) h3.2, fun x hx y hy e => ?_⟩
    subst e
    obtain ⟨k', hk', hy⟩ := List.mem_flatMap.1 hy
    exact h2 k List.mem_cons_self k' (List.mem_cons_of_mem _ hk') (fun e => h3.1 (e ▸ hk')) x hx hy
theorem WF.nodup_pre (h : WF n par kids) : ∀ (f : Nat) (a : Int) (d : Nat), In n a → Dep par a d → (preF kids f a).Nodup
  | 0, a, d, _, _ => by simp [preF]
  | f + 1, a, d, ha, hd => by
    have hkd : ∀ k ∈ kids a, In n k ∧ Dep par k (d + 1) := fun k hk => by
      obtain ⟨h1, h2⟩ := h.kid_in ha hk
      exact ⟨h1, .up (by rw [h2]; exact ha.1) (by rw [h2]; exact hd)⟩
    simp only [preF]
    rw [List.nodup_cons]
    refine ⟨fun hm => ?_, flat_nodup _ (fun k hk => h.nodup_pre f k _ (hkd k hk).1 (hkd k hk).2) (fun k hk k' hk' hne x hx hx' => ?_) (h.nodup a ha.1 ha.2)⟩
    · obtain ⟨k, hk, hx⟩ := List.mem_flatMap.1 hm
      obtain ⟨e, he⟩ := (h.mem_pre f k a (hkd k hk).1 hx).2.dep (hkd k hk).2
      have := hd.fn he
      omega
    · exact hne ((h.mem_pre f k x (hkd k hk).1 hx).2.one (h.mem_pre f k' x (hkd k' hk').1 hx').2 (hkd k hk).2 (hkd k' hk').2)
theorem WF.len_pre (h : WF n par kids) {f : Nat} {a : Int} {d : Nat} (ha : In n a) (hd : Dep par a d) : (preF kids f a).length ≤ n :=
  nodup_len n _ (h.nodup_pre f a d ha hd) (fun x hx => (h.mem_pre f a x ha hx).1)

/-! ### By next one comes through all -/
def Next (par : Int → Int) (kids : Int → List Int) (a b : Int) : Prop := ∃ d, Dep par a d ∧ nextF par kids d a = b
/-- One behind the other, by Next; and behind the last one e. -/
def Seq (par : Int → Int) (kids : Int → List Int) : List Int → Int → Prop
  | [], _ => False
  | [x], e => Next par kids x e
  | x :: y :: t, e => Next par kids x y ∧ Seq par kids (y :: t) e
theorem Seq.append : ∀ {L : List Int} {y : Int} {t : List Int} {e : Int}, Seq par kids L y → Seq par kids (y :: t) e → Seq par kids (L ++ y :: t) e
  | [], _, _, _, h, _ => h.elim
  | [x], _, _, _, h, h' => ⟨h, h'⟩
  | x :: z :: L, _, _, _, h, h' => ⟨h.1, Seq.append h.2 h'⟩
theorem Seq.at_ : ∀ {L : List Int} {e : Int} (i : Nat) (hi : i < L.length), Seq par kids L e → Next par kids L[i] (if h : i + 1 < L.length then L[i + 1] else e)
  | [x], e, 0, _, h => h
  | x :: y :: t, e, 0, _, h => by
    rw [dif_pos (by simp)]
    exact h.1
  | [x], e, i + 1, hi, h => by simp at hi
  | x :: y :: t, e, i + 1, hi, h => by
    have h1 := Seq.at_ (L := y :: t) (e := e) i (by simpa using hi) h.2
    by_cases hl : i + 1 < (y :: t).length
    · rw [dif_pos hl] at h1
      rw [dif_pos (by simpa using hl)]
      exact h1
    · rw [dif_neg hl] at h1
      rw [dif_neg (by simpa using hl)]
      exact h1
theorem WF.seq (h : WF n par kids) : ∀ (f : Nat) (a : Int) (d : Nat) (e : Int), In n a → Dep par a d → 40 ≤ f + d → Over par kids a e → Seq par kids (preF kids f a) e
  | 0, a, d, e, ha, hd, hf, ho => by
    have hk : kids a = [] := by
      refine Classical.byContradiction fun hk => ?_
      obtain ⟨h1, h2⟩ := h.lastKid_in ha hk
      obtain ⟨d', hd', h3⟩ := h.dep _ h1.1 h1.2
      have := h3.fn (.up (by rw [h2]; exact ha.1) (by rw [h2]; exact hd))
      omega
    obtain ⟨d', hd', he⟩ := ho
    exact ⟨d', hd', by unfold nextF; rw [if_pos hk]; exact he⟩
  | f + 1, a, d, e, ha, hd, hf, ho => by
    by_cases hk : kids a = []
    · obtain ⟨d', hd', he⟩ := ho
      simp only [preF, hk, List.flatMap_nil]
      exact ⟨d', hd', by unfold nextF; rw [if_pos hk]; exact he⟩
    · have hkd : ∀ k ∈ kids a, In n k ∧ par k = a ∧ Dep par k (d + 1) := fun k hk => by
        obtain ⟨h1, h2⟩ := h.kid_in ha hk
        exact ⟨h1, h2, .up (by rw [h2]; exact ha.1) (by rw [h2]; exact hd)⟩
      -- the kids from place i on
      have go : ∀ (m i : Nat), i + (m + 1) = (kids a).length → Seq par kids (((kids a).drop i).flatMap (preF kids f)) e := by
        intro m
        induction m with
        | zero =>
          intro i hi
          have hil : i < (kids a).length := by omega
          obtain ⟨h1, h2, h3⟩ := hkd _ (List.getElem_mem hil)
          rw [List.drop_eq_getElem_cons hil, List.drop_eq_nil_of_le (by omega)]
          simp only [List.flatMap_cons, List.flatMap_nil, List.append_nil]
          refine h.seq f _ (d + 1) e h1 h3 (by omega) (over_up ?_ (by rw [h2]; exact ha.1) (by rw [h2]; exact ho))
          rw [h.beside_at ha hil, nth_out (.inr (by omega))]; omega
        | succ m ih =>
          intro i hi
          have hil : i < (kids a).length := by omega
          obtain ⟨h1, h2, h3⟩ := hkd _ (List.getElem_mem hil)
          have hil' : i + 1 < (kids a).length := by omega
          obtain ⟨h1', _, _⟩ := hkd _ (List.getElem_mem hil')
          have hrest := ih (i + 1) (by omega)
          rw [List.drop_eq_getElem_cons hil] 
          rw [List.flatMap_cons]
          have hb : beside par kids (kids a)[i] 1 = (kids a)[i + 1] := by
            rw [h.beside_at ha hil, show ((i : Int) + 1) = ((i + 1 : Nat) : Int) from by omega]
            exact nth_nat hil'
          have hs := h.seq f _ (d + 1) _ h1 h3 (by omega) (over_beside hb h1'.1 h3)
          obtain ⟨t, ht⟩ : ∃ t, ((kids a).drop (i + 1)).flatMap (preF kids f) = (kids a)[i + 1] :: t := by
            obtain ⟨t, ht⟩ := preF_head kids f (kids a)[i + 1]
            exact ⟨_, by rw [List.drop_eq_getElem_cons hil', List.flatMap_cons, ht, List.cons_append]⟩
          rw [ht] at hrest ⊢
          exact hs.append hrest
      have hl : 0 < (kids a).length := List.length_pos_iff.2 hk
      have h0 := go ((kids a).length - 1) 0 (by omega)
      rw [List.drop_zero] at h0
      obtain ⟨t, ht⟩ : ∃ t, (kids a).flatMap (preF kids f) = (kids a)[0] :: t := by
        obtain ⟨t, ht⟩ := preF_head kids f (kids a)[0]
        refine ⟨t ++ ((kids a).drop 1).flatMap (preF kids f), ?_⟩
        conv => lhs; rw [← List.drop_zero (l := kids a), List.drop_eq_getElem_cons hl, List.flatMap_cons, ht, List.cons_append]
      simp only [preF]
      rw [ht] at h0 ⊢
      exact ⟨⟨d, hd, by unfold nextF; rw [if_neg hk]; exact firstKid_cons a hl⟩, h0⟩

/-! ### Ways down -/
/-- A way down from m, m itself not told. -/
def WayDown (kids : Int → List Int) : Int → List Int → Prop
  | _, [] => True
  | m, x :: t => x ∈ kids m ∧ WayDown kids x t
theorem WayDown.snoc : ∀ {t : List Int} {m x : Int}, WayDown kids m t → x ∈ kids (t.getLastD m) → WayDown kids m (t ++ [x])
  | [], m, x, _, h => ⟨h, trivial⟩
  | y :: t, m, x, h, h' => ⟨h.1, WayDown.snoc h.2 (by rw [List.getLastD_cons] at h'; exact h')⟩
/-- The way down to a node: the root, and a way. -/
theorem WF.path_way (h : WF n par kids) : ∀ (d : Nat) (a : Int), In n a → Dep par a d → ∃ r t, pathL par d a = r :: t ∧ In n r ∧ WayDown kids r t ∧ t.getLastD r = a
  | 0, a, ha, _ => ⟨a, [], rfl, ha, trivial, rfl⟩
  | d + 1, a, ha, hd => by
    cases hd with
    | up hp hd =>
      obtain ⟨i, hi, hia, _, hin⟩ := h.place ha hp
      obtain ⟨r, t, h1, h2, h3, h4⟩ := h.path_way d (par a) hin hd
      refine ⟨r, t ++ [a], by simp only [pathL]; rw [h1]; rfl, h2, h3.snoc (by rw [h4]; have hm := List.getElem_mem hi; rw [hia] at hm; exact hm), ?_⟩
      simp [List.getLastD_eq_getLast?]
theorem WF.ix_ne (h : WF n par kids) {m x y : Int} (hm : In n m) (hx : x ∈ kids m) (hy : y ∈ kids m) (hne : x ≠ y) : ix (kids m) x ≠ ix (kids m) y := by
  obtain ⟨i, hi, e, hix⟩ := ix_mem (h.nodup m hm.1 hm.2) hx
  obtain ⟨j, hj, e', hjx⟩ := ix_mem (h.nodup m hm.1 hm.2) hy
  rw [hix, hjx]
  intro e2
  have : i = j := by omega
  subst this
  exact hne (e.symm.trans e')
end
end Go.Proofs.YthfalaabfgpjmaaDoor.DocP
