import Derived.Test.YtmcinclecpeakaaGreatDoorPRRx
import Derived.Test.YtmcinclecpeakaaGreatDoorGDocP
/- What the printed functions of dom.Check come to: always something, and with 0 the document is a tree (plain). -/
namespace Go.Proofs.YtmcinclecpeakaaGreatDoor.DocC
open Go.RowKit Go.Proofs.YtmcinclecpeakaaGreatDoorW.PrintWords Go.Proofs.YtmcinclecpeakaaGreatDoor.PRR Go.Proofs.YtmcinclecpeakaaGreatDoor.DocP
set_option linter.unusedVariables false

theorem wrap_in {x : Int} (h : -9223372036854775808 ≤ x ∧ x ≤ 9223372036854775807) : wrap64 x = x := by unfold wrap64; omega
abbrev par (l : List S43) (i : Int) : Int := (rd_T43 l i).f4
abbrev kids (l : List S43) (i : Int) : List Int := (rd_T43 l i).f5
theorem f4_eq (l : List S43) (i : Int) : (rd_T43 l i).f4 = par l i := rfl
theorem f5_eq (l : List S43) (i : Int) : (rd_T43 l i).f5 = kids l i := rfl
/-- No row is longer than a row may be. -/
def Fit (l : List S43) : Prop := ∀ i : Int, (kids l i).length ≤ 9223372036854775807

section up
variable (l : List S43) (q : Bool)
theorem up_ev (hp : ∀ k : Int, 0 ≤ k → k < l.length → par l k = -1 ∨ (0 ≤ par l k ∧ par l k < l.length)) (hl : l.length ≤ 200) : ∀ (m' : Nat) (a m : Int), 0 ≤ a → a < l.length → 0 ≤ m → m + m' = l.length + 1 →
    ∃ r, Ev (fun k => dom_up.l0 k a m l q) r ∧ (r ≤ l.length → ∃ d : Nat, Dep (par l) a d ∧ r = m + d) := by
  intro m'
  induction m' with
  | zero =>
    intro a m h0 h1 hm he
    by_cases hpa : par l a ≥ 0
    · refine ⟨m, Ev.step (f := fun _ => some m) (fun k => ?_) (Ev.now m), fun h => by omega⟩
      show dom_up.l0 (k + 1) a m l q = some m
      simp only [dom_up.l0]
      rw [if_pos h0, if_pos h1, if_pos hpa, if_neg (by omega)]
    · refine ⟨m, Ev.step (f := fun _ => some m) (fun k => ?_) (Ev.now m), fun h => by omega⟩
      show dom_up.l0 (k + 1) a m l q = some m
      simp only [dom_up.l0]
      rw [if_pos h0, if_pos h1, if_neg hpa]
  | succ m' ih =>
    intro a m h0 h1 hm he
    by_cases hpa : par l a ≥ 0
    · have hpr : par l a < l.length := by rcases hp a h0 h1 with e | e <;> omega
      obtain ⟨r, hr, hd⟩ := ih (par l a) (m + 1) hpa hpr (by omega) (by omega)
      refine ⟨r, Ev.step (fun k => ?_) hr, fun h => ?_⟩
      · show dom_up.l0 (k + 1) a m l q = dom_up.l0 k (par l a) (m + 1) l q
        simp only [dom_up.l0]
        rw [if_pos h0, if_pos h1, if_pos hpa, if_pos (by omega), wrap_in (by omega)]
      · obtain ⟨d, hd1, hd2⟩ := hd h
        exact ⟨d + 1, .up hpa hd1, by omega⟩
    · refine ⟨m, Ev.step (f := fun _ => some m) (fun k => ?_) (Ev.now m), fun h => ⟨0, .top (by omega), by omega⟩⟩
      show dom_up.l0 (k + 1) a m l q = some m
      simp only [dom_up.l0]
      rw [if_pos h0, if_pos h1, if_neg hpa]
end up

/-! ### kids -/
/-- Pairs of a node and a kid, each kid marked for the first time. -/
inductive Marks (n : Nat) (par : Int → Int) : List Bool → List (Int × Int) → List Bool → Prop
  | nil {s : List Bool} : Marks n par s [] s
  | cons {s t : List Bool} {i k : Int} {L : List (Int × Int)} : 0 ≤ k → k < n → par k = i → s.getD k.toNat false = false → Marks n par (s.set k.toNat true) L t → Marks n par s ((i, k) :: L) t
theorem Marks.append {n : Nat} {par : Int → Int} {s t u : List Bool} {L L' : List (Int × Int)} (h : Marks n par s L t) (h' : Marks n par t L' u) : Marks n par s (L ++ L') u := by
  induction h with
  | nil => exact h'
  | cons h1 h2 h3 h4 _ ih => exact .cons h1 h2 h3 h4 (ih h')
theorem Marks.facts {n : Nat} {par : Int → Int} {s t : List Bool} {L : List (Int × Int)} (h : Marks n par s L t) (hs : s.length = n) :
    (∀ i k, (i, k) ∈ L → 0 ≤ k ∧ k < n ∧ par k = i ∧ s.getD k.toNat false = false) ∧ (L.map (·.2)).Nodup ∧ (∀ k : Int, 0 ≤ k → t.getD k.toNat false = true → s.getD k.toNat false = true ∨ k ∈ L.map (·.2)) := by
  induction h with
  | nil => exact ⟨fun i k h => by simp at h, by simp, fun k _ h => .inl h⟩
  | @cons s t i k L h1 h2 h3 h4 _ ih =>
    obtain ⟨a, b, c⟩ := ih (by simpa using hs)
    have hset : ∀ x : Int, 0 ≤ x → x ≠ k → (s.set k.toNat true).getD x.toNat false = s.getD x.toNat false := by
      intro x hx hne
      rw [List.getD_eq_getElem?_getD, List.getD_eq_getElem?_getD, List.getElem?_set_ne (by omega)]
    have hsk : (s.set k.toNat true).getD k.toNat false = true := by
      rw [List.getD_eq_getElem?_getD, List.getElem?_set_self (by omega)]; rfl
    refine ⟨fun i' k' hm => ?_, ?_, fun x hx ht => ?_⟩
    · rcases List.mem_cons.1 hm with e | hm
      · injection e with e1 e2
        subst e1 e2
        exact ⟨h1, h2, h3, h4⟩
      · obtain ⟨b1, b2, b3, b4⟩ := a i' k' hm
        refine ⟨b1, b2, b3, ?_⟩
        by_cases e : k' = k
        · rw [e, hsk] at b4; cases b4
        · rwa [hset k' b1 e] at b4
    · rw [List.map_cons, List.nodup_cons]
      refine ⟨fun hm => ?_, b⟩
      obtain ⟨⟨i', k'⟩, hm2, e⟩ := List.mem_map.1 hm
      simp only at e
      obtain ⟨_, _, _, b4⟩ := a i' k' hm2
      rw [e] at b4
      rw [hsk] at b4; cases b4
    · rcases c x hx ht with e | e
      · by_cases ek : x = k
        · exact .inr (by rw [ek]; simp)
        · rw [hset x hx ek] at e; exact .inl e
      · exact .inr (by rw [List.map_cons]; exact List.mem_cons_of_mem _ e)

def pairsF (kids : Int → List Int) : Nat → Int → List (Int × Int)
  | 0, _ => []
  | m + 1, i => (kids i).map (fun k => (i, k)) ++ pairsF kids m (i + 1)
theorem mem_pairs {kids : Int → List Int} : ∀ {m : Nat} {i a k : Int}, (a, k) ∈ pairsF kids m i ↔ i ≤ a ∧ a < i + m ∧ k ∈ kids a
  | 0, i, a, k => by simp only [pairsF, List.not_mem_nil, false_iff]; omega
  | m + 1, i, a, k => by
    simp only [pairsF, List.mem_append, List.mem_map, Prod.mk.injEq, mem_pairs]
    constructor
    · rintro (⟨x, hx, rfl, rfl⟩ | ⟨h1, h2, h3⟩)
      · exact ⟨by omega, by omega, hx⟩
      · exact ⟨by omega, by omega, h3⟩
    · rintro ⟨h1, h2, h3⟩
      by_cases e : i = a
      · subst e; exact .inl ⟨k, h3, rfl, rfl⟩
      · exact .inr ⟨by omega, by omega, h3⟩
theorem nodup_pairs {kids : Int → List Int} : ∀ {m : Nat} {i a : Int}, ((pairsF kids m i).map (·.2)).Nodup → i ≤ a → a < i + m → (kids a).Nodup
  | 0, i, a, _, h1, h2 => by omega
  | m + 1, i, a, h, h1, h2 => by
    simp only [pairsF, List.map_append, List.map_map] at h
    obtain ⟨ha, hb, _⟩ := List.nodup_append.1 h
    by_cases e : i = a
    · subst e
      have : (fun x : Int × Int => x.2) ∘ (fun k => (i, k)) = id := rfl
      rw [this, List.map_id] at ha
      exact ha
    · exact nodup_pairs hb (by omega) (by omega)

section kids
variable (l : List S43) (q : Bool)
/-- What holds at the end of the marking. -/
def Done (seen : List Bool) : Prop := (∀ j : Int, 0 ≤ j → j < l.length → par l j = -1 ∨ seen.getD j.toNat false = true) ∧ par l 0 = -1
theorem l2_ev (hn : 0 < l.length) (hl : l.length ≤ 200) (seen : List Bool) (hs : seen.length = l.length) : ∀ (m' : Nat) (x : Int), 0 ≤ x → x + m' = l.length →
    ∃ r, Ev (fun k => dom_kids.l2 k seen l (l.length : Int) x l q) r ∧ (r = 0 → (∀ j : Int, x ≤ j → j < l.length → par l j = -1 ∨ seen.getD j.toNat false = true) ∧ par l 0 = -1) := by
  intro m'
  induction m' with
  | zero =>
    intro x h0 he
    by_cases hr : par l 0 = -1
    · refine ⟨0, Ev.step (f := fun _ => some 0) (fun k => ?_) (Ev.now 0), fun _ => ⟨fun j h1 h2 => by omega, hr⟩⟩
      simp only [dom_kids.l2]
      rw [if_neg (by omega), if_pos (by omega), if_pos hr]
    · refine ⟨3, Ev.step (f := fun _ => some 3) (fun k => ?_) (Ev.now 3), fun h => by cases h⟩
      simp only [dom_kids.l2]
      rw [if_neg (by omega), if_pos (by omega), if_neg hr]
  | succ m' ih =>
    intro x h0 he
    obtain ⟨r, hr, hd⟩ := ih (x + 1) (by omega) (by omega)
    by_cases hp : par l x = -1
    · refine ⟨r, Ev.step (fun k => ?_) hr, fun h => ⟨fun j h1 h2 => ?_, (hd h).2⟩⟩
      · show dom_kids.l2 (k + 1) seen l (l.length : Int) x l q = dom_kids.l2 k seen l (l.length : Int) (x + 1) l q
        simp only [dom_kids.l2]
        rw [if_pos (by omega), if_pos h0, if_pos (by omega), if_pos hp, wrap_in (by omega)]
      · by_cases e : j = x
        · rw [e]; exact .inl hp
        · exact (hd h).1 j (by omega) h2
    · by_cases hse : rdOf false seen x = true
      · refine ⟨r, Ev.step (fun k => ?_) hr, fun h => ⟨fun j h1 h2 => ?_, (hd h).2⟩⟩
        · show dom_kids.l2 (k + 1) seen l (l.length : Int) x l q = dom_kids.l2 k seen l (l.length : Int) (x + 1) l q
          simp only [dom_kids.l2]
          rw [if_pos (by omega), if_pos h0, if_pos (by omega), if_neg hp, if_pos (by omega), if_pos hse, wrap_in (by omega)]
        · by_cases e : j = x
          · rw [e]; exact .inr hse
          · exact (hd h).1 j (by omega) h2
      · refine ⟨3, Ev.step (f := fun _ => some 3) (fun k => ?_) (Ev.now 3), fun h => by cases h⟩
        simp only [dom_kids.l2]
        rw [if_pos (by omega), if_pos h0, if_pos (by omega), if_neg hp, if_pos (by omega), if_neg hse]
theorem l1_ev (hl : l.length ≤ 200) (hf : Fit l) (G : List Bool → Prop) (i : Int) (hi0 : 0 ≤ i) (hi1 : i < l.length)
    (hk : ∀ s : List Bool, s.length = l.length → ∃ r, Ev (fun k => dom_kids.l0 k s l (l.length : Int) (i + 1) l q) r ∧ (r = 0 → G s)) :
    ∀ (m' : Nat) (j : Int) (seen : List Bool), seen.length = l.length → 0 ≤ j → j + m' = (kids l i).length →
    ∃ r, Ev (fun k => dom_kids.l1 k seen i l (l.length : Int) i (kids l i) ((kids l i).length : Int) j l q) r ∧
      (r = 0 → ∃ t, Marks l.length (par l) seen (((kids l i).drop j.toNat).map (fun k => (i, k))) t ∧ G t) := by
  have hfi := hf i
  intro m'
  induction m' with
  | zero =>
    intro j seen hs h0 he
    obtain ⟨r, hr, hd⟩ := hk seen hs
    refine ⟨r, Ev.step (fun k => ?_) hr, fun h => ⟨seen, ?_, hd h⟩⟩
    · show dom_kids.l1 (k + 1) _ _ _ _ _ _ _ _ _ _ = dom_kids.l0 k seen l (l.length : Int) (i + 1) l q
      simp only [dom_kids.l1]
      rw [if_neg (by omega), wrap_in (by omega)]
    · rw [List.drop_eq_nil_of_le (by omega)]; exact .nil
  | succ m' ih =>
    intro j seen hs h0 he
    have hjl : j.toNat < (kids l i).length := by omega
    obtain ⟨x, hx0⟩ : ∃ x, rd (kids l i) j = x := ⟨_, rfl⟩
    have hx : rd (kids l i) j = (kids l i)[j.toNat] := by unfold rd; rw [List.getD_eq_getElem?_getD, List.getElem?_eq_getElem hjl]; rfl
    have hdr : (kids l i).drop j.toNat = x :: (kids l i).drop (j + 1).toNat := by
      rw [List.drop_eq_getElem_cons hjl, ← hx, hx0, show (j + 1).toNat = j.toNat + 1 from by omega]
    have hno : (∀ k, dom_kids.l1 (k + 1) seen i l (l.length : Int) i (kids l i) ((kids l i).length : Int) j l q = dom_kids.j2 k seen i x l (l.length : Int) i (kids l i) ((kids l i).length : Int) j true l q) →
        ∃ r, Ev (fun k => dom_kids.l1 k seen i l (l.length : Int) i (kids l i) ((kids l i).length : Int) j l q) r ∧ (r = 0 → ∃ t, Marks l.length (par l) seen (((kids l i).drop j.toNat).map (fun k => (i, k))) t ∧ G t) := by
      intro hstep
      exact ⟨3, Ev.step hstep (Ev.step (f := fun _ => some 3) (fun k => by simp only [dom_kids.j2, if_true]) (Ev.now 3)), fun h => by cases h⟩
    by_cases x0 : x < 0
    · exact hno (fun k => by simp only [dom_kids.l1]; rw [if_pos (by omega), if_pos h0, if_pos (by omega), hx0, if_pos x0])
    by_cases x1 : x ≥ (seen.length : Int)
    · exact hno (fun k => by simp only [dom_kids.l1]; rw [if_pos (by omega), if_pos h0, if_pos (by omega), hx0, if_neg x0, if_pos x1])
    by_cases x2 : par l x = i
    rotate_left
    · exact hno (fun k => by simp only [dom_kids.l1]; rw [if_pos (by omega), if_pos h0, if_pos (by omega), hx0, if_neg x0, if_neg x1, if_pos (by omega), if_pos (by omega), if_neg x2])
    by_cases x3 : rdOf false seen x = true
    · exact hno (fun k => by simp only [dom_kids.l1]; rw [if_pos (by omega), if_pos h0, if_pos (by omega), hx0, if_neg x0, if_neg x1, if_pos (by omega), if_pos (by omega), if_pos x2, if_pos (by omega), x3])
    have x3 : rdOf false seen x = false := by simpa using x3
    have hst : ∀ k, dom_kids.l1 (k + 1) seen i l (l.length : Int) i (kids l i) ((kids l i).length : Int) j l q = dom_kids.j2 k seen i x l (l.length : Int) i (kids l i) ((kids l i).length : Int) j false l q := fun k => by
      simp only [dom_kids.l1]; rw [if_pos (by omega), if_pos h0, if_pos (by omega), hx0, if_neg x0, if_neg x1, if_pos (by omega), if_pos (by omega), if_pos x2, if_pos (by omega), x3]
    obtain ⟨r, hr, hd⟩ := ih (j + 1) (seen.set x.toNat true) (by simpa using hs) (by omega) (by omega)
    have hM : ∀ t, Marks l.length (par l) (seen.set x.toNat true) (((kids l i).drop (j + 1).toNat).map (fun k => (i, k))) t → Marks l.length (par l) seen (((kids l i).drop j.toNat).map (fun k => (i, k))) t := fun t ht => by
      rw [hdr, List.map_cons]
      exact .cons (by omega) (by omega) x2 x3 ht
    by_cases i0 : i = 0
    · by_cases x4 : (rd_T43 l x).f0 = 3
      · refine ⟨7, Ev.step hst (Ev.step (f := fun _ => some 7) (fun k => ?_) (Ev.now 7)), fun h => by cases h⟩
        simp only [dom_kids.j2, Bool.false_eq_true, if_false]
        rw [if_pos i0, if_pos (by omega), if_pos (by omega), if_pos x4]
      · refine ⟨r, Ev.step hst (Ev.step (fun k => ?_) hr), fun h => ?_⟩
        · show dom_kids.j2 (k + 1) _ _ _ _ _ _ _ _ _ _ _ _ = dom_kids.l1 k (seen.set x.toNat true) i l (l.length : Int) i (kids l i) ((kids l i).length : Int) (j + 1) l q
          simp only [dom_kids.j2, Bool.false_eq_true, if_false]
          rw [if_pos i0, if_pos (by omega), if_pos (by omega), if_neg x4, if_pos (by omega), wrap_in (by omega)]
        · obtain ⟨t, ht, hg⟩ := hd h
          exact ⟨t, hM t ht, hg⟩
    · refine ⟨r, Ev.step hst (Ev.step (fun k => ?_) hr), fun h => ?_⟩
      · show dom_kids.j2 (k + 1) _ _ _ _ _ _ _ _ _ _ _ _ = dom_kids.l1 k (seen.set x.toNat true) i l (l.length : Int) i (kids l i) ((kids l i).length : Int) (j + 1) l q
        simp only [dom_kids.j2, Bool.false_eq_true, if_false]
        rw [if_neg i0, if_pos (by omega), if_pos (by omega), wrap_in (by omega)]
      · obtain ⟨t, ht, hg⟩ := hd h
        exact ⟨t, hM t ht, hg⟩
theorem l0_ev (hn : 0 < l.length) (hl : l.length ≤ 200) (hf : Fit l) : ∀ (m' : Nat) (i : Int) (seen : List Bool), seen.length = l.length → 0 ≤ i → i + m' = l.length →
    ∃ r, Ev (fun k => dom_kids.l0 k seen l (l.length : Int) i l q) r ∧ (r = 0 → ∃ t, Marks l.length (par l) seen (pairsF (kids l) m' i) t ∧ Done l t) := by
  intro m'
  induction m' with
  | zero =>
    intro i seen hs h0 he
    obtain ⟨r, hr, hd⟩ := l2_ev l q hn hl seen hs l.length 0 (by omega) (by omega)
    refine ⟨r, Ev.step (fun k => ?_) hr, fun h => ⟨seen, .nil, (hd h).1, (hd h).2⟩⟩
    show dom_kids.l0 (k + 1) _ _ _ _ _ _ = dom_kids.l2 k seen l (l.length : Int) 0 l q
    simp only [dom_kids.l0]
    rw [if_neg (by omega)]
  | succ m' ih =>
    intro i seen hs h0 he
    obtain ⟨r, hr, hd⟩ := l1_ev l q hl hf (fun s => ∃ t, Marks l.length (par l) s (pairsF (kids l) m' (i + 1)) t ∧ Done l t) i h0 (by omega) (fun s hs => ih (i + 1) s hs (by omega) (by omega)) (kids l i).length 0 seen hs (by omega) (by omega)
    refine ⟨r, Ev.step (fun k => ?_) hr, fun h => ?_⟩
    · show dom_kids.l0 (k + 1) _ _ _ _ _ _ = dom_kids.l1 k seen i l (l.length : Int) i (kids l i) ((kids l i).length : Int) 0 l q
      simp only [dom_kids.l0]
      rw [if_pos (by omega), if_pos h0, if_pos (by omega)]
    · obtain ⟨t, ht, u, hu, hD⟩ := hd h
      exact ⟨u, ht.append hu, hD⟩
/-- What dom.kids says with 0. -/
structure KidsOk (n : Nat) (par : Int → Int) (kids : Int → List Int) : Prop where
  kid : ∀ i : Int, 0 ≤ i → i < n → ∀ k ∈ kids i, 0 ≤ k ∧ k < n ∧ par k = i
  nodup : ∀ i : Int, 0 ≤ i → i < n → (kids i).Nodup
  has : ∀ k : Int, 0 ≤ k → k < n → par k = -1 ∨ (0 ≤ par k ∧ par k < n ∧ k ∈ kids (par k))
  root : par 0 = -1
theorem kids_ev (hn : 0 < l.length) (hl : l.length ≤ 200) (hf : Fit l) : ∃ r, Ev (fun k => dom_kids.f k l q) r ∧ (r = 0 → KidsOk l.length (par l) (kids l)) := by
  obtain ⟨r, hr, hd⟩ := l0_ev l q hn hl hf l.length 0 (List.replicate l.length false) (by simp) (by omega) (by omega)
  refine ⟨r, Ev.congr (fun k => ?_) hr, fun h => ?_⟩
  · simp only [dom_kids.f]
    rw [if_pos (by omega), if_pos (by omega), Int.toNat_natCast]
  · obtain ⟨t, ht, hD, h0⟩ := hd h
    obtain ⟨a, b, c⟩ := ht.facts (by simp)
    refine ⟨fun i h1 h2 k hk => ?_, fun i h1 h2 => nodup_pairs b h1 (by omega), fun k h1 h2 => ?_, h0⟩
    · obtain ⟨b1, b2, b3, _⟩ := a i k (mem_pairs.2 ⟨by omega, by omega, hk⟩)
      exact ⟨b1, b2, b3⟩
    · rcases hD k h1 h2 with e | e
      · exact .inl e
      · rcases c k h1 e with e | e
        · rw [List.getD_eq_getElem?_getD, List.getElem?_replicate] at e
          split at e <;> cases e
        · obtain ⟨⟨i, k'⟩, hm, e⟩ := List.mem_map.1 e
          simp only at e
          subst e
          obtain ⟨_, _, b3, _⟩ := a i k' hm
          obtain ⟨m1, m2, m3⟩ := mem_pairs.1 hm
          exact .inr ⟨by omega, by omega, by rw [b3]; exact m3⟩
end kids
end Go.Proofs.YtmcinclecpeakaaGreatDoor.DocC
