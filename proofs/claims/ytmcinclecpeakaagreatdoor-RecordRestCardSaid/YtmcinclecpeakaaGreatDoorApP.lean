import Derived.Test.YtmcinclecpeakaaGreatDoorGDocK
import Derived.Lib.SlicesCompact
/- What an edit touches, and what it leaves as it was. -/
namespace Go.Proofs.YtmcinclecpeakaaGreatDoor.DocC
open Go.RowKit Go.Proofs.YtmcinclecpeakaaGreatDoorW.PrintWords Go.Proofs.YtmcinclecpeakaaGreatDoor.PRR Go.Proofs.YtmcinclecpeakaaGreatDoor.DocP
set_option linter.unusedVariables false
set_option linter.unusedSimpArgs false
theorem ev_at {α : Type} {g : Nat → Option α} {r : α} (h : Ev g r) : ∃ k, g k = some r := by
  obtain ⟨K, hK⟩ := h
  exact ⟨K, hK K (Nat.le_refl _)⟩
/-! ### Rows that are sorted and made compact -/
theorem mem_upto (d : Array Int) : ∀ (j m : Nat), j < m → d[j]! ∈ Lib.compactUpTo d m := by
  intro j
  induction j with
  | zero =>
    intro m hm
    unfold Lib.compactUpTo
    exact List.mem_map.2 ⟨0, List.mem_filter.2 ⟨List.mem_range.2 hm, by simp [Lib.keeps]⟩, rfl⟩
  | succ j ih =>
    intro m hm
    by_cases h : Lib.keeps d (j + 1) = true
    · unfold Lib.compactUpTo
      exact List.mem_map.2 ⟨j + 1, List.mem_filter.2 ⟨List.mem_range.2 hm, h⟩, rfl⟩
    · have e : d[j + 1]! = d[j]! := by
        have h' : ¬ (j + 1 = 0 ∨ d[j + 1]! ≠ d[j + 1 - 1]!) := by simpa [Lib.keeps] using h
        by_cases e : d[j + 1]! = d[j]!
        · exact e
        · exact absurd (.inr e) h'
      rw [e]
      exact ih m (by omega)
theorem mem_compact {o : List Int} {x : Int} (h : x ∈ o) : x ∈ Lib.compact o := by
  obtain ⟨j, hj, rfl⟩ := List.mem_iff_getElem.1 h
  have := mem_upto o.toArray j o.length hj
  unfold Lib.compact
  have e : o.toArray[j]! = o[j] := by rw [getElem!_pos o.toArray j (by simpa using hj)]; simp
  rwa [e] at this
theorem compact_mem {o : List Int} {x : Int} (h : x ∈ Lib.compact o) : x ∈ o := by
  unfold Lib.compact Lib.compactUpTo at h
  obtain ⟨j, hj, rfl⟩ := List.mem_map.1 h
  have hj' : j < o.length := List.mem_range.1 (List.mem_filter.1 hj).1
  rw [getElem!_pos o.toArray j (by simpa using hj')]
  simp
/-- The row as it is told: sorted, each once. -/
def told (o : List Int) : List Int := Lib.compact (o.mergeSort fun x y => decide (x ≤ y))
theorem mem_told {o : List Int} {x : Int} : x ∈ told o ↔ x ∈ o :=
  ⟨fun h => List.mem_mergeSort.1 (compact_mem h), fun h => mem_compact (List.mem_mergeSort.2 h)⟩
theorem told_len (o : List Int) : (told o).length ≤ o.length := by
  have h : (told o).length ≤ (o.mergeSort fun x y => decide (x ≤ y)).length := by
    simp only [told, Lib.compact, Lib.compactUpTo, List.length_map]
    exact Nat.le_trans (List.length_filter_le _ _) (by simp)
  rw [List.length_mergeSort] at h
  exact h
section
variable {l : List S43} {q : Bool}
/-- What an edit touches, its root told. -/
def touchG (l : List S43) (e : S45) (top : Int) : List Int :=
  if e.f0 = 4 then [(l.length : Int)] else if e.f0 = 5 then (if 0 < top then [e.f1, e.f2, top] else [e.f1, e.f2])
  else if e.f0 = 6 then [e.f1, par l e.f1] else [e.f1]
theorem touchG_len (l : List S43) (e : S45) (top : Int) : 0 < (touchG l e top).length ∧ (touchG l e top).length ≤ 3 := by
  unfold touchG
  split
  · simp
  split
  · split <;> simp
  split <;> simp
theorem set_far (l : List S43) {i : Int} (y : S43) {n : Nat} (hn : (n : Int) ≠ i) (hi : 0 ≤ i) : (l.set i.toNat y)[n]? = l[n]? := List.getElem?_set_ne (by omega)
/-- What an edit does not touch is as it was. -/
theorem eff_rest {e : S45} {l' : List S43} (h : Eff l e l') (top : Int) {n : Nat} (hn : n < l'.length) (ht : (n : Int) ∉ touchG l e top) : n < l.length ∧ l'[n]? = l[n]? := by
  have g1 : e.f0 ≠ 4 → e.f0 ≠ 5 → e.f0 ≠ 6 → (n : Int) ≠ e.f1 := by
    intro h4 h5 h6 hh
    apply ht
    unfold touchG
    rw [if_neg h4, if_neg h5, if_neg h6, hh]
    exact List.mem_singleton.2 rfl
  cases h with
  | text h0 hi hk hv =>
    rw [List.length_set] at hn
    exact ⟨hn, set_far l _ (g1 (by omega) (by omega) (by omega)) hi.1⟩
  | attr h0 hi hk hnm hv ha =>
    rw [List.length_set] at hn
    exact ⟨hn, set_far l _ (g1 (by omega) (by omega) (by omega)) hi.1⟩
  | drop h0 hi hk hix hl =>
    rw [List.length_set] at hn
    exact ⟨hn, set_far l _ (g1 (by omega) (by omega) (by omega)) hi.1⟩
  | make h0 hk h1 hl ho =>
    have hne : (n : Int) ≠ l.length := by
      intro hh
      apply ht
      unfold touchG
      rw [if_pos h0, hh]
      exact List.mem_singleton.2 rfl
    rw [List.length_append, List.length_singleton] at hn
    have hlt : n < l.length := by omega
    exact ⟨hlt, List.getElem?_append_left hlt⟩
  | insert h0 hi hj hki hkj htx hpj hp hpl hnu =>
    rw [List.length_set, List.length_set] at hn
    have hm : (n : Int) ≠ e.f1 ∧ (n : Int) ≠ e.f2 := by
      constructor
      all_goals
        intro hh
        apply ht
        unfold touchG
        rw [if_neg (by omega), if_pos h0, hh]
        split <;> simp
    exact ⟨hn, (set_far _ _ hm.2 hj.1).trans (set_far l _ hm.1 hi.1)⟩
  | remove h0 hi hk hp hpi hne hl hg hix =>
    rw [List.length_set, List.length_set] at hn
    have hm : (n : Int) ≠ e.f1 ∧ (n : Int) ≠ par l e.f1 := by
      constructor
      all_goals
        intro hh
        apply ht
        unfold touchG
        rw [if_neg (by omega), if_neg (by omega), if_pos h0, hh]
        simp
    exact ⟨hn, (set_far _ _ hm.1 hi.1).trans (set_far l _ hm.2 hpi.1)⟩
end
end Go.Proofs.YtmcinclecpeakaaGreatDoor.DocC
