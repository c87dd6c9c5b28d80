/- Edits that do not meet: in either order they come to the same. -/
import Derived.Test.YtmcinclecpeakaaGreatDoorApP
namespace Go.Proofs.YtmcinclecpeakaaGreatDoor.DocC
open Go.RowKit Go.Proofs.YtmcinclecpeakaaGreatDoorW.PrintWords Go.Proofs.YtmcinclecpeakaaGreatDoor.PRR Go.Proofs.YtmcinclecpeakaaGreatDoor.DocP
set_option linter.unusedVariables false
set_option linter.unusedSimpArgs false
section
variable {l : List S43} {q : Bool}
/-- The attributes behind a setting. -/
def atsF (e : S45) (a : List S66) : List S66 :=
  if idxF (fun x => x.f0.toList == e.f4.toList) a < 0 then a ++ [⟨e.f4, e.f5⟩]
  else a.set (idxF (fun x => x.f0.toList == e.f4.toList) a).toNat ⟨(a.getD (idxF (fun x => x.f0.toList == e.f4.toList) a).toNat ⟨⟨#[]⟩, ⟨#[]⟩⟩).f0, e.f5⟩
/-- The place at which a node is put in. -/
def plF (e : S45) (ks : List Int) : Nat := if e.f3 = -1 then ks.length else (ix ks e.f3).toNat
/-- What an edit makes of a document. -/
def upd (l : List S43) (e : S45) : List S43 :=
  if e.f0 = 3 then l.set e.f1.toNat { rd_T43 l e.f1 with f3 := e.f5 }
  else if e.f0 = 1 then l.set e.f1.toNat { rd_T43 l e.f1 with f2 := atsF e (rd_T43 l e.f1).f2 }
  else if e.f0 = 2 then l.set e.f1.toNat { rd_T43 l e.f1 with f2 := (rd_T43 l e.f1).f2.eraseIdx (idxF (fun x => x.f0.toList == e.f4.toList) (rd_T43 l e.f1).f2).toNat }
  else if e.f0 = 4 then l ++ [⟨e.f6.f0, e.f6.f1, e.f6.f2, e.f6.f3, -1, []⟩]
  else if e.f0 = 5 then (l.set e.f1.toNat { rd_T43 l e.f1 with f5 := (kids l e.f1).take (plF e (kids l e.f1)) ++ e.f2 :: (kids l e.f1).drop (plF e (kids l e.f1)) }).set e.f2.toNat { rd_T43 l e.f2 with f4 := e.f1 }
  else (l.set (par l e.f1).toNat { rd_T43 l (par l e.f1) with f5 := (kids l (par l e.f1)).eraseIdx (ix (kids l (par l e.f1)) e.f1).toNat }).set e.f1.toNat { rd_T43 l e.f1 with f4 := -1 }
theorem eff_upd {e : S45} {l' : List S43} (h : Eff l e l') : l' = upd l e := by
  unfold upd
  cases h with
  | text h0 hi hk hv => rw [if_pos h0]
  | @attr ats h0 hi hk hnm hv ha =>
    rw [if_neg (by omega), if_pos h0]
    have e1 : ats = atsF e (rd_T43 l e.f1).f2 := by
      unfold atsF
      rcases ha with ⟨h1, h2⟩ | ⟨i, h1, h2, h3⟩
      · rw [if_pos h1, h2]
      · rw [if_neg (by rw [h2]; omega), h2, Int.toNat_natCast, h3]
    rw [e1]
  | drop h0 hi hk hix hl => rw [if_neg (by omega), if_neg (by omega), if_pos h0, hix, Int.toNat_natCast]
  | make h0 hk h1 hl ho => rw [if_neg (by omega), if_neg (by omega), if_neg (by omega), if_pos h0]
  | @insert p h0 hi hj hki hkj htx hpj hp hpl hnu =>
    rw [if_neg (by omega), if_neg (by omega), if_neg (by omega), if_neg (by omega), if_pos h0]
    have e1 : plF e (kids l e.f1) = p := by
      unfold plF
      rcases hpl with ⟨h1, h2⟩ | ⟨h1, h2⟩
      · rw [if_pos h1, h2]
      · rw [if_neg h1, h2, Int.toNat_natCast]
    rw [e1]
  | remove h0 hi hk hp hpi hne hl hg hix =>
    rw [if_neg (by omega), if_neg (by omega), if_neg (by omega), if_neg (by omega), if_neg (by omega), hix, Int.toNat_natCast]
theorem upd_len (l : List S43) (e : S45) : (upd l e).length = if e.f0 = 4 then l.length + 1 else l.length := by
  unfold upd
  by_cases h4 : e.f0 = 4
  · rw [if_neg (by omega), if_neg (by omega), if_neg (by omega), if_pos h4, if_pos h4]; simp
  · rw [if_neg h4, if_neg h4]
    split
    · simp
    split
    · simp
    split
    · simp
    split <;> simp
theorem set_at (l : List S43) {i : Int} (y : S43) {n : Nat} (hn : (n : Int) = i) (hi : In l.length i) : (l.set i.toNat y)[n]? = some y := by
  have e : i.toNat = n := by omega
  rw [e, List.getElem?_set_self (by have := hi.2; omega)]
theorem in_of {m : List S43} {i : Int} (hle : l.length ≤ m.length) (hi : In l.length i) : In m.length i := ⟨hi.1, by have := hi.2; omega⟩
set_option maxHeartbeats 1000000 in
/-- An edit does the same wherever the nodes that it touches are the same. -/
theorem eff_local {e : S45} {l1 m : List S43} (h : Eff l e l1) (hle : l.length ≤ m.length) (h4 : e.f0 = 4 → m.length = l.length) (hag : ∀ i ∈ touchG l e 0, In l.length i → rd_T43 m i = rd_T43 l i)
    (hnu' : e.f0 = 5 → ¬ Under (par m) e.f2 e.f1) : Eff m e (upd m e) ∧ ∀ n : Nat, (n : Int) ∈ touchG l e 0 → (upd m e)[n]? = l1[n]? := by
  cases h with
  | text h0 hi hk hv =>
    have ht : touchG l e 0 = [e.f1] := by unfold touchG; rw [if_neg (by omega), if_neg (by omega), if_neg (by omega)]
    have hr := hag e.f1 (by rw [ht]; simp) hi
    have he := Eff.text (l := m) h0 (in_of hle hi) (by rw [hr]; exact hk) hv
    rw [← eff_upd he]
    refine ⟨he, fun n hn => ?_⟩
    rw [ht] at hn
    have hn := List.mem_singleton.1 hn
    rw [set_at _ _ hn (in_of hle hi), set_at _ _ hn hi, hr]
  | @attr ats h0 hi hk hnm hv ha =>
    have ht : touchG l e 0 = [e.f1] := by unfold touchG; rw [if_neg (by omega), if_neg (by omega), if_neg (by omega)]
    have hr := hag e.f1 (by rw [ht]; simp) hi
    have he := Eff.attr (l := m) (ats := ats) h0 (in_of hle hi) (by rw [hr]; exact hk) hnm hv (by rw [hr]; exact ha)
    rw [← eff_upd he]
    refine ⟨he, fun n hn => ?_⟩
    rw [ht] at hn
    have hn := List.mem_singleton.1 hn
    rw [set_at _ _ hn (in_of hle hi), set_at _ _ hn hi, hr]
  | @drop i h0 hi hk hix hl =>
    have ht : touchG l e 0 = [e.f1] := by unfold touchG; rw [if_neg (by omega), if_neg (by omega), if_neg (by omega)]
    have hr := hag e.f1 (by rw [ht]; simp) hi
    have he := Eff.drop (l := m) (i := i) h0 (in_of hle hi) (by rw [hr]; exact hk) (by rw [hr]; exact hix) (by rw [hr]; exact hl)
    rw [← eff_upd he]
    refine ⟨he, fun n hn => ?_⟩
    rw [ht] at hn
    have hn := List.mem_singleton.1 hn
    rw [set_at _ _ hn (in_of hle hi), set_at _ _ hn hi, hr]
  | make h0 hk h1 hl ho =>
    have ht : touchG l e 0 = [(l.length : Int)] := by unfold touchG; rw [if_pos h0]
    have hm := h4 h0
    have he := Eff.make (l := m) h0 hk h1 (by omega) ho
    rw [← eff_upd he]
    refine ⟨he, fun n hn => ?_⟩
    rw [ht] at hn
    have hn : n = l.length := by have := List.mem_singleton.1 hn; omega
    rw [hn, List.getElem?_append_right (by omega), List.getElem?_append_right (Nat.le_refl _), hm]
  | @insert p h0 hi hj hki hkj htx hpj hp hpl hnu =>
    have ht : touchG l e 0 = [e.f1, e.f2] := by unfold touchG; rw [if_neg (by omega), if_pos h0, if_neg (by omega)]
    have hr1 := hag e.f1 (by rw [ht]; simp) hi
    have hr2 := hag e.f2 (by rw [ht]; simp) hj
    have hk1 : kids m e.f1 = kids l e.f1 := by show (rd_T43 m e.f1).f5 = (rd_T43 l e.f1).f5; rw [hr1]
    have hp2 : par m e.f2 = par l e.f2 := by show (rd_T43 m e.f2).f4 = (rd_T43 l e.f2).f4; rw [hr2]
    have he := Eff.insert (l := m) (p := p) h0 (in_of hle hi) (in_of hle hj) (by rw [hr1]; exact hki) (by rw [hr2]; exact hkj) (by rw [hr1, hr2]; exact htx) (by rw [hp2]; exact hpj) (by rw [hk1]; exact hp) (by rw [hk1]; exact hpl) (hnu' h0)
    rw [← eff_upd he]
    refine ⟨he, fun n hn => ?_⟩
    rw [ht] at hn
    rw [hr1, hr2, hk1]
    by_cases c2 : (n : Int) = e.f2
    · rw [set_at _ _ c2 (by rw [List.length_set]; exact in_of hle hj), set_at _ _ c2 (by rw [List.length_set]; exact hj)]
    · have c1 : (n : Int) = e.f1 := by simpa [c2] using hn
      rw [set_far _ _ c2 hj.1, set_far _ _ c2 hj.1, set_at _ _ c1 (in_of hle hi), set_at _ _ c1 hi]
  | @remove i h0 hi hk hp hpi hne hl hg hix =>
    have ht : touchG l e 0 = [e.f1, par l e.f1] := by unfold touchG; rw [if_neg (by omega), if_neg (by omega), if_pos h0]
    have hr1 := hag e.f1 (by rw [ht]; simp) hi
    have hr2 := hag (par l e.f1) (by rw [ht]; simp) hpi
    have hp1 : par m e.f1 = par l e.f1 := by show (rd_T43 m e.f1).f4 = (rd_T43 l e.f1).f4; rw [hr1]
    have hk2 : kids m (par m e.f1) = kids l (par l e.f1) := by rw [hp1]; show (rd_T43 m (par l e.f1)).f5 = (rd_T43 l (par l e.f1)).f5; rw [hr2]
    have he := Eff.remove (l := m) (i := i) h0 (in_of hle hi) (by rw [hr1]; exact hk) (by rw [hp1]; exact hp) (by rw [hp1]; exact in_of hle hpi) (by rw [hp1]; exact hne) (by rw [hk2]; exact hl) (by simp only [hk2]; exact hg) (by rw [hk2]; exact hix)
    rw [← eff_upd he]
    refine ⟨he, fun n hn => ?_⟩
    rw [ht] at hn
    rw [hk2, hp1, hr1, hr2]
    by_cases c2 : (n : Int) = e.f1
    · rw [set_at _ _ c2 (by rw [List.length_set]; exact in_of hle hi), set_at _ _ c2 (by rw [List.length_set]; exact hi)]
    · have c1 : (n : Int) = par l e.f1 := by simpa [c2] using hn
      rw [set_far _ _ c2 hi.1, set_far _ _ c2 hi.1, set_at _ _ c1 (in_of hle hpi), set_at _ _ c1 hpi]
theorem rd_of_get {a b : List S43} {n : Nat} (h : a[n]? = b[n]?) {i : Int} (hi : i = n) : rd_T43 a i = rd_T43 b i := by
  subst hi
  unfold rd_T43
  rw [Int.toNat_natCast, List.getD_eq_getElem?_getD, List.getD_eq_getElem?_getD, h]
/-- What an edit touches lies in the document, or is the new node. -/
theorem touch_in {e : S45} {l1 : List S43} (h : Eff l e l1) {i : Int} (hi : i ∈ touchG l e 0) : (In l.length i ∧ e.f0 ≠ 4) ∨ (i = l.length ∧ e.f0 = 4) := by
  unfold touchG at hi
  cases h with
  | text h0 hin hk hv => rw [if_neg (by omega), if_neg (by omega), if_neg (by omega)] at hi; rw [List.mem_singleton.1 hi]; exact .inl ⟨hin, by omega⟩
  | attr h0 hin hk hnm hv ha => rw [if_neg (by omega), if_neg (by omega), if_neg (by omega)] at hi; rw [List.mem_singleton.1 hi]; exact .inl ⟨hin, by omega⟩
  | drop h0 hin hk hix hl => rw [if_neg (by omega), if_neg (by omega), if_neg (by omega)] at hi; rw [List.mem_singleton.1 hi]; exact .inl ⟨hin, by omega⟩
  | make h0 hk h1 hl ho => rw [if_pos h0] at hi; exact .inr ⟨List.mem_singleton.1 hi, h0⟩
  | insert h0 hin hj hki hkj htx hpj hp hpl hnu =>
    rw [if_neg (by omega), if_pos h0, if_neg (by omega)] at hi
    have : i = e.f1 ∨ i = e.f2 := by simpa using hi
    rcases this with rfl | rfl
    · exact .inl ⟨hin, by omega⟩
    · exact .inl ⟨hj, by omega⟩
  | remove h0 hin hk hp hpi hne hl hg hix =>
    rw [if_neg (by omega), if_neg (by omega), if_pos h0] at hi
    have : i = e.f1 ∨ i = par l e.f1 := by simpa using hi
    rcases this with rfl | rfl
    · exact .inl ⟨hin, by omega⟩
    · exact .inl ⟨hpi, by omega⟩
theorem upd_rest {e : S45} {l1 : List S43} (h : Eff l e l1) {n : Nat} (ht : (n : Int) ∉ touchG l e 0) : (upd l e)[n]? = l[n]? := by
  have hl := upd_len l e
  rw [← eff_upd h] at hl ⊢
  by_cases hn : n < l1.length
  · exact (eff_rest h 0 hn ht).2
  · have hn2 : ¬ n < l.length := by split at hl <;> omega
    rw [List.getElem?_eq_none (by omega), List.getElem?_eq_none (by omega)]
theorem touch_same {e : S45} {l1 m : List S43} (h : Eff l e l1) (hag : ∀ i ∈ touchG l e 0, In l.length i → rd_T43 m i = rd_T43 l i) (h4 : e.f0 = 4 → m.length = l.length) : touchG m e 0 = touchG l e 0 := by
  unfold touchG
  by_cases c4 : e.f0 = 4
  · rw [if_pos c4, if_pos c4, h4 c4]
  · rw [if_neg c4, if_neg c4]
    by_cases c5 : e.f0 = 5
    · rw [if_pos c5, if_pos c5]
    · rw [if_neg c5, if_neg c5]
      by_cases c6 : e.f0 = 6
      · rw [if_pos c6, if_pos c6]
        have hr := hag e.f1 (by unfold touchG; rw [if_neg c4, if_neg c5, if_pos c6]; simp)
        have hin : In l.length e.f1 := by
          cases h with
          | remove h0 hi _ _ _ _ _ _ _ => exact hi
          | _ => omega
        have hp1 : par m e.f1 = par l e.f1 := by show (rd_T43 m e.f1).f4 = (rd_T43 l e.f1).f4; rw [hr hin]
        rw [hp1]
      · rw [if_neg c6, if_neg c6]
/-- Two edits that touch nothing in common: each does behind the other what it does alone; both orders come to the same. -/
theorem eff_both {e f : S45} {l1 l2 : List S43} (he : Eff l e l1) (hf : Eff l f l2) (hd : ∀ i, i ∈ touchG l e 0 → i ∉ touchG l f 0)
    (hne : e.f0 = 5 → ¬ Under (par l2) e.f2 e.f1) (hnf : f.f0 = 5 → ¬ Under (par l1) f.f2 f.f1) : Eff l1 f (upd l1 f) ∧ Eff l2 e (upd l2 e) ∧ upd l1 f = upd l2 e := by
  have h44 : ¬ (e.f0 = 4 ∧ f.f0 = 4) := by
    rintro ⟨h1, h2⟩
    exact hd l.length (by unfold touchG; rw [if_pos h1]; simp) (by unfold touchG; rw [if_pos h2]; simp)
  have hl1 : l1.length = if e.f0 = 4 then l.length + 1 else l.length := by have := upd_len l e; rwa [← eff_upd he] at this
  have hl2 : l2.length = if f.f0 = 4 then l.length + 1 else l.length := by have := upd_len l f; rwa [← eff_upd hf] at this
  have hle1 : l.length ≤ l1.length := by split at hl1 <;> omega
  have hle2 : l.length ≤ l2.length := by split at hl2 <;> omega
  have ag1 : ∀ i ∈ touchG l f 0, In l.length i → rd_T43 l1 i = rd_T43 l i := fun i hi hin => by
    refine rd_of_get (n := i.toNat) ?_ (by have := hin.1; omega)
    have ei : ((i.toNat : Nat) : Int) = i := by have := hin.1; omega
    exact (eff_rest he 0 (n := i.toNat) (by have := hin.2; omega) (by rw [ei]; exact fun h => hd i h hi)).2
  have ag2 : ∀ i ∈ touchG l e 0, In l.length i → rd_T43 l2 i = rd_T43 l i := fun i hi hin => by
    refine rd_of_get (n := i.toNat) ?_ (by have := hin.1; omega)
    have ei : ((i.toNat : Nat) : Int) = i := by have := hin.1; omega
    exact (eff_rest hf 0 (n := i.toNat) (by have := hin.2; omega) (by rw [ei]; exact fun h => hd i hi h)).2
  have g1 := eff_local hf hle1 (fun h => by rw [hl1, if_neg (fun h' => h44 ⟨h', h⟩)]) ag1 hnf
  have g2 := eff_local he hle2 (fun h => by rw [hl2, if_neg (fun h' => h44 ⟨h, h'⟩)]) ag2 hne
  refine ⟨g1.1, g2.1, List.ext_getElem? fun n => ?_⟩
  have t1 := touch_same hf ag1 (fun h => by rw [hl1, if_neg (fun h' => h44 ⟨h', h⟩)])
  have t2 := touch_same he ag2 (fun h => by rw [hl2, if_neg (fun h' => h44 ⟨h, h'⟩)])
  by_cases c1 : (n : Int) ∈ touchG l f 0
  · rw [g1.2 n c1, upd_rest g2.1 (by rw [t2]; exact fun h => hd _ h c1)]
  · rw [upd_rest g1.1 (by rw [t1]; exact c1)]
    by_cases c2 : (n : Int) ∈ touchG l e 0
    · rw [g2.2 n c2]
    · rw [upd_rest g2.1 (by rw [t2]; exact c2), eff_upd he, eff_upd hf, upd_rest he c2, upd_rest hf c1]
end
end Go.Proofs.YtmcinclecpeakaaGreatDoor.DocC
