/- What was done is undone: the plain law. -/
import Derived.Test.YtmcinclecpeakaaGreatDoorRecQ
namespace Go.Proofs.YtmcinclecpeakaaGreatDoor.ApA
open Go.RowKit Go.Proofs.YtmcinclecpeakaaGreatDoorW.PrintWords Go.Proofs.YtmcinclecpeakaaGreatDoorW.PrintLast Go.Proofs.YtmcinclecpeakaaGreatDoorW.PrintMore Go.Proofs.YtmcinclecpeakaaGreatDoor.PRR Go.Proofs.YtmcinclecpeakaaGreatDoor.DocP Go.Proofs.YtmcinclecpeakaaGreatDoor.DocC
set_option linter.unusedVariables false
set_option linter.unusedSimpArgs false
instance (n : Nat) (a : Int) : Decidable (In n a) := inferInstanceAs (Decidable (0 ≤ a ∧ a < n))
/-- A step: its edit (f0), had (f1), was (f2), parent (f3), place (f4). -/
abbrev Stp := S48
/-- The place of an attribute. -/
def nmF (n : ByteArray) (a : List S66) : Int := idxF (fun x => x.f0.toList == n.toList) a
def atF (a : List S66) (i : Int) : S66 := a.getD i.toNat ⟨⟨#[]⟩, ⟨#[]⟩⟩
/-- What is noted of an edit that was done. -/
def noteF (l l1 : List S43) (e : S45) : Stp :=
  if e.f0 = 1 ∨ e.f0 = 2 then
    if 0 ≤ nmF e.f4 (rd_T43 l e.f1).f2 then ⟨e, true, (atF (rd_T43 l e.f1).f2 (nmF e.f4 (rd_T43 l e.f1).f2)).f1, 0, nmF e.f4 (rd_T43 l e.f1).f2⟩
    else ⟨e, false, ⟨#[]⟩, 0, 0⟩
  else if e.f0 = 3 then ⟨e, false, (rd_T43 l e.f1).f3, 0, 0⟩
  else if e.f0 = 4 then ⟨e, false, ⟨#[]⟩, 0, (l.length : Int)⟩
  else if e.f0 = 5 then ⟨e, false, ⟨#[]⟩, -1, ix (kids l1 e.f1) e.f2⟩
  else ⟨e, false, ⟨#[]⟩, par l e.f1, ix (kids l (par l e.f1)) e.f1⟩
def undoAttr (l : List S43) (s : Stp) : Option (List S43) :=
  if In l.length s.f0.f1 then
    if 0 ≤ nmF s.f0.f4 (rd_T43 l s.f0.f1).f2 ∧ s.f1 = true then some (l.set s.f0.f1.toNat { rd_T43 l s.f0.f1 with f2 := (rd_T43 l s.f0.f1).f2.set (nmF s.f0.f4 (rd_T43 l s.f0.f1).f2).toNat ⟨(atF (rd_T43 l s.f0.f1).f2 (nmF s.f0.f4 (rd_T43 l s.f0.f1).f2)).f0, s.f2⟩ })
    else if 0 ≤ nmF s.f0.f4 (rd_T43 l s.f0.f1).f2 ∧ nmF s.f0.f4 (rd_T43 l s.f0.f1).f2 = ((rd_T43 l s.f0.f1).f2.length : Int) - 1 then some (l.set s.f0.f1.toNat { rd_T43 l s.f0.f1 with f2 := (rd_T43 l s.f0.f1).f2.take (nmF s.f0.f4 (rd_T43 l s.f0.f1).f2).toNat })
    else none
  else none
def undoDrop (l : List S43) (s : Stp) : Option (List S43) :=
  if In l.length s.f0.f1 ∧ (rd_T43 l s.f0.f1).f0 = 2 ∧ 0 ≤ s.f4 ∧ s.f4 ≤ ((rd_T43 l s.f0.f1).f2.length : Int) ∧ nmF s.f0.f4 (rd_T43 l s.f0.f1).f2 < 0 then
    some (l.set s.f0.f1.toNat { rd_T43 l s.f0.f1 with f2 := (rd_T43 l s.f0.f1).f2.take s.f4.toNat ++ ⟨s.f0.f4, s.f2⟩ :: (rd_T43 l s.f0.f1).f2.drop s.f4.toNat })
  else none
def undoText (l : List S43) (s : Stp) : Option (List S43) :=
  if In l.length s.f0.f1 ∧ ((rd_T43 l s.f0.f1).f0 = 3 ∨ (rd_T43 l s.f0.f1).f0 = 4) then some (l.set s.f0.f1.toNat { rd_T43 l s.f0.f1 with f3 := s.f2 }) else none
def undoMake (l : List S43) (s : Stp) : Option (List S43) :=
  if s.f4 = (l.length : Int) - 1 ∧ 1 ≤ s.f4 ∧ par l s.f4 = -1 ∧ kids l s.f4 = [] then some (l.take s.f4.toNat) else none
def undoInsert (l : List S43) (s : Stp) : Option (List S43) :=
  if In l.length s.f0.f1 ∧ In l.length s.f0.f2 ∧ s.f0.f1 ≠ s.f0.f2 ∧ 0 ≤ s.f4 ∧ s.f4 < ((kids l s.f0.f1).length : Int) ∧ (kids l s.f0.f1).getD s.f4.toNat 0 = s.f0.f2 then
    some ((l.set s.f0.f1.toNat { rd_T43 l s.f0.f1 with f5 := (kids l s.f0.f1).eraseIdx s.f4.toNat }).set s.f0.f2.toNat { rd_T43 l s.f0.f2 with f4 := -1 })
  else none
def undoRemove (l : List S43) (s : Stp) : Option (List S43) :=
  if In l.length s.f3 ∧ In l.length s.f0.f1 ∧ s.f0.f1 ≠ 0 ∧ s.f3 ≠ s.f0.f1 ∧ par l s.f0.f1 = -1 ∧ 0 ≤ s.f4 ∧ s.f4 ≤ ((kids l s.f3).length : Int) then
    some ((l.set s.f3.toNat { rd_T43 l s.f3 with f5 := (kids l s.f3).take s.f4.toNat ++ s.f0.f1 :: (kids l s.f3).drop s.f4.toNat }).set s.f0.f1.toNat { rd_T43 l s.f0.f1 with f4 := s.f3 })
  else none
/-- A step undone; none: it does not fit (or is none that was noted). -/
def undoS (l : List S43) (s : Stp) : Option (List S43) :=
  if s.f0.f0 = 1 then undoAttr l s else if s.f0.f0 = 2 then undoDrop l s else if s.f0.f0 = 3 then undoText l s
  else if s.f0.f0 = 4 then undoMake l s else if s.f0.f0 = 5 then undoInsert l s else if s.f0.f0 = 6 then undoRemove l s else none
theorem set_back (l : List S43) {i : Int} (hi : In l.length i) (y : S43) : (l.set i.toNat y).set i.toNat (rd_T43 l i) = l := by
  have h0 := hi.1
  have h1 := hi.2
  rw [List.set_set]
  unfold rd_T43
  rw [List.getD_eq_getElem?_getD, List.getElem?_eq_getElem (by omega)]
  exact List.set_getElem_self (by omega)
theorem rd_at (l : List S43) {i : Int} (hi : In l.length i) (y : S43) : rd_T43 (l.set i.toNat y) i = y := by rw [rd_set2 l hi, if_pos rfl]
theorem in_set (l : List S43) {i j : Int} (y : S43) (hj : In l.length j) : In (l.set i.toNat y).length j := by rw [List.length_set]; exact hj
theorem idx_hit {α : Type} {p : α → Bool} {xs : List α} {i : Nat} (h : idxF p xs = i) : ∃ hi : i < xs.length, p xs[i] = true := by
  unfold idxF at h
  cases hf : xs.findIdx? p with
  | none => rw [hf] at h; simp at h
  | some j =>
    rw [hf] at h
    have hj : j = i := by
      have h9 : (j : Int) = (i : Int) := h
      omega
    subst hj
    obtain ⟨h1, h2, _⟩ := List.findIdx?_eq_some_iff_getElem.1 hf
    exact ⟨h1, h2⟩
theorem undo_text {l : List S43} {e : S45} (h0 : e.f0 = 3) (hi : In l.length e.f1) (hk : (rd_T43 l e.f1).f0 = 3 ∨ (rd_T43 l e.f1).f0 = 4) {l1 : List S43}
    (h1 : l1 = l.set e.f1.toNat { rd_T43 l e.f1 with f3 := e.f5 }) : undoS l1 (noteF l l1 e) = some l := by
  have hn : noteF l l1 e = ⟨e, false, (rd_T43 l e.f1).f3, 0, 0⟩ := by unfold noteF; rw [if_neg (by omega), if_pos h0]
  rw [hn, h1]
  unfold undoS
  simp only [if_neg (show ¬ e.f0 = 1 by omega), if_neg (show ¬ e.f0 = 2 by omega), if_pos h0]
  unfold undoText
  simp only [rd_at l hi]
  rw [if_pos ⟨in_set l _ hi, hk⟩]
  exact congrArg some (set_back l hi _)
theorem undo_attr {l : List S43} {e : S45} {ats : List S66} (h0 : e.f0 = 1) (hi : In l.length e.f1)
    (ha : (idxF (fun x => x.f0.toList == e.f4.toList) (rd_T43 l e.f1).f2 < 0 ∧ ats = (rd_T43 l e.f1).f2 ++ [⟨e.f4, e.f5⟩]) ∨ ∃ i : Nat, i < (rd_T43 l e.f1).f2.length ∧ idxF (fun x => x.f0.toList == e.f4.toList) (rd_T43 l e.f1).f2 = i ∧ ats = (rd_T43 l e.f1).f2.set i ⟨((rd_T43 l e.f1).f2.getD i ⟨⟨#[]⟩, ⟨#[]⟩⟩).f0, e.f5⟩)
    {l1 : List S43} (h1 : l1 = l.set e.f1.toNat { rd_T43 l e.f1 with f2 := ats }) : undoS l1 (noteF l l1 e) = some l := by
  rcases ha with ⟨hx, hats⟩ | ⟨i, hil, hx, hats⟩
  · have hn : noteF l l1 e = ⟨e, false, ⟨#[]⟩, 0, 0⟩ := by
      unfold noteF nmF
      rw [if_pos (.inl h0), if_neg (by omega)]
    rw [hn, h1]
    unfold undoS
    simp only [if_pos h0]
    unfold undoAttr nmF
    simp only [rd_at l hi]
    have hx2 : idxF (fun x => x.f0.toList == e.f4.toList) ats = ((rd_T43 l e.f1).f2.length : Int) := by rw [hats]; exact idx_app _ _ _ hx (by simp)
    rw [hx2, if_pos (in_set l _ hi), if_neg (fun h => by cases h.2), if_pos ⟨by omega, by rw [hats]; simp⟩, Int.toNat_natCast]
    have e1 : ats.take (rd_T43 l e.f1).f2.length = (rd_T43 l e.f1).f2 := by rw [hats]; simp
    rw [e1]
    exact congrArg some (set_back l hi _)
  · have hn : noteF l l1 e = ⟨e, true, (atF (rd_T43 l e.f1).f2 i).f1, 0, i⟩ := by
      unfold noteF nmF
      rw [if_pos (.inl h0), hx, if_pos (by omega)]
    rw [hn, h1]
    unfold undoS
    simp only [if_pos h0]
    unfold undoAttr nmF
    simp only [rd_at l hi]
    obtain ⟨_, hp⟩ := idx_hit hx
    have hg : (rd_T43 l e.f1).f2.getD i ⟨⟨#[]⟩, ⟨#[]⟩⟩ = (rd_T43 l e.f1).f2[i] := by rw [List.getD_eq_getElem?_getD, List.getElem?_eq_getElem hil]; rfl
    have hx2 : idxF (fun x => x.f0.toList == e.f4.toList) ats = i := by rw [hats]; exact idx_set _ _ _ _ hx hil (by rw [hg]; exact hp)
    rw [hx2, if_pos (in_set l _ hi), if_pos ⟨by omega, by simp⟩, Int.toNat_natCast]
    have e1 : ats.set i ⟨(atF ats i).f0, (atF (rd_T43 l e.f1).f2 i).f1⟩ = (rd_T43 l e.f1).f2 := by
      unfold atF
      rw [Int.toNat_natCast, hats, List.set_set, List.getD_eq_getElem?_getD, List.getElem?_set_self hil, hg]
      exact List.set_getElem_self hil
    rw [e1]
    exact congrArg some (set_back l hi _)
theorem put_erase {α : Type} (xs : List α) {i : Nat} (hi : i < xs.length) : (xs.eraseIdx i).take i ++ xs[i] :: (xs.eraseIdx i).drop i = xs := by
  rw [List.eraseIdx_eq_take_drop_succ, List.take_append_of_le_length (by simp; omega), List.take_take, Nat.min_self, List.drop_append_of_le_length (by simp; omega), show List.drop i (xs.take i) = [] from List.drop_eq_nil_of_le (by simp; omega), List.nil_append, List.getElem_cons_drop, List.take_append_drop]
theorem erase_put {α : Type} (xs : List α) (x : α) {p : Nat} (hp : p ≤ xs.length) : (xs.take p ++ x :: xs.drop p).eraseIdx p = xs := by
  have e : p = (xs.take p).length := by simp; omega
  rw [List.eraseIdx_append_of_length_le (by simp; omega)]
  have : p - (xs.take p).length = 0 := by omega
  rw [this]
  simp
theorem undo_drop {l : List S43} {e : S45} {i : Nat} (hd : DocOk l) (h0 : e.f0 = 2) (hi : In l.length e.f1) (hk : (rd_T43 l e.f1).f0 = 2) (hix : idxF (fun x => x.f0.toList == e.f4.toList) (rd_T43 l e.f1).f2 = i) (hl : i < (rd_T43 l e.f1).f2.length)
    {l1 : List S43} (h1 : l1 = l.set e.f1.toNat { rd_T43 l e.f1 with f2 := (rd_T43 l e.f1).f2.eraseIdx i }) : undoS l1 (noteF l l1 e) = some l := by
  have hn : noteF l l1 e = ⟨e, true, (atF (rd_T43 l e.f1).f2 i).f1, 0, i⟩ := by
    unfold noteF nmF
    rw [if_pos (.inr h0), hix, if_pos (by omega)]
  rw [hn, h1]
  unfold undoS
  simp only [if_neg (show ¬ e.f0 = 1 by omega), if_pos h0]
  unfold undoDrop nmF
  simp only [rd_at l hi]
  obtain ⟨_, hp⟩ := idx_hit hix
  have hnod := (hd.oneOk hi).2.2.2.2.1.2.2
  have hname : ((rd_T43 l e.f1).f2[i]).f0 = e.f4 := bytes_ext (by simpa using hp)
  have hno : idxF (fun x : S66 => x.f0.toList == e.f4.toList) ((rd_T43 l e.f1).f2.eraseIdx i) < 0 := by
    rw [idx_neg]
    intro x hx
    obtain ⟨j, hj, hjx⟩ := List.mem_eraseIdx_iff_getElem.1 hx
    obtain ⟨hjl, hxe⟩ := hjx
    have hne : ((rd_T43 l e.f1).f2[j]).f0.toList ≠ ((rd_T43 l e.f1).f2[i]).f0.toList := by
      intro hh
      have hpw := List.pairwise_iff_getElem.1 (List.nodup_iff_pairwise_ne.1 hnod)
      rcases Nat.lt_or_ge j i with g | g
      · exact hpw j i (by simpa using hj) (by simpa using hl) g (by simpa using hh)
      · exact hpw i j (by simpa using hl) (by simpa using hj) (by omega) (by simpa using hh.symm)
    rw [← hxe]
    rw [hname] at hne
    simpa using hne
  rw [if_pos ⟨in_set l _ hi, hk, by omega, by rw [List.length_eraseIdx, if_pos hl]; omega, hno⟩, Int.toNat_natCast]
  have hg : atF (rd_T43 l e.f1).f2 i = (rd_T43 l e.f1).f2[i] := by unfold atF; rw [Int.toNat_natCast, List.getD_eq_getElem?_getD, List.getElem?_eq_getElem hl]; rfl
  have e1 : ((rd_T43 l e.f1).f2.eraseIdx i).take i ++ ⟨e.f4, (atF (rd_T43 l e.f1).f2 i).f1⟩ :: ((rd_T43 l e.f1).f2.eraseIdx i).drop i = (rd_T43 l e.f1).f2 := by
    rw [hg, ← hname]
    exact put_erase _ hl
  rw [e1]
  exact congrArg some (set_back l hi _)
theorem undo_make {l : List S43} {e : S45} (hd : DocOk l) (h0 : e.f0 = 4) {l1 : List S43} (h1 : l1 = l ++ [⟨e.f6.f0, e.f6.f1, e.f6.f2, e.f6.f3, -1, []⟩]) : undoS l1 (noteF l l1 e) = some l := by
  have hn : noteF l l1 e = ⟨e, false, ⟨#[]⟩, 0, (l.length : Int)⟩ := by unfold noteF; rw [if_neg (by omega), if_neg (by omega), if_pos h0]
  rw [hn, h1]
  unfold undoS
  simp only [if_neg (show ¬ e.f0 = 1 by omega), if_neg (show ¬ e.f0 = 2 by omega), if_neg (show ¬ e.f0 = 3 by omega), if_pos h0]
  unfold undoMake
  have hr : rd_T43 (l ++ [⟨e.f6.f0, e.f6.f1, e.f6.f2, e.f6.f3, -1, []⟩]) (l.length : Int) = ⟨e.f6.f0, e.f6.f1, e.f6.f2, e.f6.f3, -1, []⟩ := by
    unfold rd_T43
    rw [Int.toNat_natCast, List.getD_eq_getElem?_getD, List.getElem?_append_right (Nat.le_refl _), Nat.sub_self]
    rfl
  have hpos : 1 ≤ l.length := hd.wf.pos
  rw [if_pos ⟨by simp, by show (1 : Int) ≤ (l.length : Int); omega, by show (rd_T43 _ _).f4 = -1; rw [hr], by show (rd_T43 _ _).f5 = []; rw [hr]⟩, Int.toNat_natCast]
  simp
theorem rd_far (l : List S43) {i j : Int} (hi : In l.length i) (hj : 0 ≤ j) (hne : j ≠ i) (y : S43) : rd_T43 (l.set i.toNat y) j = rd_T43 l j := by rw [rd_set2 l hi, if_neg (by have := hi.1; omega)]
theorem set_two (l : List S43) {i j : Int} (hi : In l.length i) (hj : In l.length j) (hne : i ≠ j) (y z : S43) : (((l.set i.toNat y).set j.toNat z).set i.toNat (rd_T43 l i)).set j.toNat (rd_T43 l j) = l := by
  have h1 := hi.1
  have h2 := hj.1
  rw [List.set_comm _ _ (by omega : j.toNat ≠ i.toNat), List.set_set, List.set_set]
  have e1 : l.set i.toNat (rd_T43 l i) = l := by have := set_back l hi (rd_T43 l i); rwa [List.set_set] at this
  rw [e1]
  have := set_back l hj (rd_T43 l j)
  rwa [List.set_set] at this
theorem undo_insert {l : List S43} {e : S45} {p : Nat} (hd : DocOk l) (h0 : e.f0 = 5) (hi : In l.length e.f1) (hj : In l.length e.f2) (hpj : par l e.f2 < 0) (hp : p ≤ (kids l e.f1).length) (hnu : ¬ Under (par l) e.f2 e.f1)
    {l1 : List S43} (h1 : l1 = (l.set e.f1.toNat { rd_T43 l e.f1 with f5 := (kids l e.f1).take p ++ e.f2 :: (kids l e.f1).drop p }).set e.f2.toNat { rd_T43 l e.f2 with f4 := e.f1 }) : undoS l1 (noteF l l1 e) = some l := by
  have hne : e.f1 ≠ e.f2 := fun h => hnu (by rw [h]; exact .refl)
  have hr1 : rd_T43 l1 e.f1 = { rd_T43 l e.f1 with f5 := (kids l e.f1).take p ++ e.f2 :: (kids l e.f1).drop p } := by
    rw [h1, rd_far _ (in_set l _ hj) hi.1 hne, rd_at l hi]
  have hr2 : rd_T43 l1 e.f2 = { rd_T43 l e.f2 with f4 := e.f1 } := by rw [h1, rd_at _ (in_set l _ hj)]
  have hk1 : kids l1 e.f1 = (kids l e.f1).take p ++ e.f2 :: (kids l e.f1).drop p := by show (rd_T43 l1 e.f1).f5 = _; rw [hr1]
  have hlen : l1.length = l.length := by rw [h1]; simp
  have hnk : e.f2 ∉ kids l e.f1 := fun hh => by
    have := (hd.wf.kid_in hi hh).2
    have := hi.1
    omega
  have hix : ix (kids l1 e.f1) e.f2 = p := by
    rw [hk1]
    unfold ix
    have : ((kids l e.f1).take p ++ e.f2 :: (kids l e.f1).drop p).findIdx? (· == e.f2) = some p := by
      rw [List.findIdx?_eq_some_iff_getElem]
      refine ⟨by simp; omega, ?_, fun j hj => ?_⟩
      · rw [List.getElem_append_right (by simp; omega)]
        have : p - ((kids l e.f1).take p).length = 0 := by simp; omega
        simp only [this, List.getElem_cons_zero]
        exact beq_self_eq_true _
      · rw [List.getElem_append_left (by simp; omega), List.getElem_take]
        have : (kids l e.f1)[j] ≠ e.f2 := fun h => hnk (by rw [← h]; exact List.getElem_mem _)
        simpa using this
    rw [this]
  have hn : noteF l l1 e = ⟨e, false, ⟨#[]⟩, -1, (p : Int)⟩ := by
    unfold noteF
    rw [if_neg (by omega), if_neg (by omega), if_neg (by omega), if_pos h0, hix]
  rw [hn]
  unfold undoS
  simp only [if_neg (show ¬ e.f0 = 1 by omega), if_neg (show ¬ e.f0 = 2 by omega), if_neg (show ¬ e.f0 = 3 by omega), if_neg (show ¬ e.f0 = 4 by omega), if_pos h0]
  unfold undoInsert
  simp only [hlen]
  have hpar : par l e.f2 = -1 := by
    rcases hd.wf.par_or hj with h | h
    · exact h
    · have := h.1.1
      omega
  have g1 : (p : Int) < ((kids l1 e.f1).length : Int) := by rw [hk1]; simp; omega
  have g2 : (kids l1 e.f1).getD (p : Int).toNat 0 = e.f2 := by
    rw [hk1, Int.toNat_natCast, List.getD_eq_getElem?_getD, List.getElem?_append_right (by simp; omega)]
    have : p - ((kids l e.f1).take p).length = 0 := by simp; omega
    rw [this]
    rfl
  rw [if_pos ⟨hi, hj, hne, by omega, g1, g2⟩, hr1, hr2, hk1, Int.toNat_natCast, erase_put _ _ hp]
  have e2 : ({ rd_T43 l e.f2 with f4 := -1 } : S43) = rd_T43 l e.f2 := by
    have h9 : (rd_T43 l e.f2).f4 = -1 := hpar
    rw [← h9]
  have e1 : ({ rd_T43 l e.f1 with f5 := kids l e.f1 } : S43) = rd_T43 l e.f1 := rfl
  show some ((l1.set e.f1.toNat { rd_T43 l e.f1 with f5 := kids l e.f1 }).set e.f2.toNat { rd_T43 l e.f2 with f4 := -1 }) = _
  rw [e2, e1, h1]
  exact congrArg some (set_two l hi hj hne _ _)
theorem undo_remove {l : List S43} {e : S45} {i : Nat} (hd : DocOk l) (h0 : e.f0 = 6) (hi : In l.length e.f1) (hk : (rd_T43 l e.f1).f0 ≠ 1) (hpi : In l.length (par l e.f1)) (hne : par l e.f1 ≠ e.f1) (hl : i < (kids l (par l e.f1)).length) (hg : (kids l (par l e.f1))[i] = e.f1) (hix : ix (kids l (par l e.f1)) e.f1 = i)
    {l1 : List S43} (h1 : l1 = (l.set (par l e.f1).toNat { rd_T43 l (par l e.f1) with f5 := (kids l (par l e.f1)).eraseIdx i }).set e.f1.toNat { rd_T43 l e.f1 with f4 := -1 }) : undoS l1 (noteF l l1 e) = some l := by
  have hn : noteF l l1 e = ⟨e, false, ⟨#[]⟩, par l e.f1, (i : Int)⟩ := by
    unfold noteF
    rw [if_neg (by omega), if_neg (by omega), if_neg (by omega), if_neg (by omega), hix]
  have hr1 : rd_T43 l1 (par l e.f1) = { rd_T43 l (par l e.f1) with f5 := (kids l (par l e.f1)).eraseIdx i } := by
    rw [h1, rd_far _ (in_set l _ hi) hpi.1 hne, rd_at l hpi]
  have hr2 : rd_T43 l1 e.f1 = { rd_T43 l e.f1 with f4 := -1 } := by rw [h1, rd_at _ (in_set l _ hi)]
  have hk1 : kids l1 (par l e.f1) = (kids l (par l e.f1)).eraseIdx i := by show (rd_T43 l1 (par l e.f1)).f5 = _; rw [hr1]
  have hlen : l1.length = l.length := by rw [h1]; simp
  have hz : e.f1 ≠ 0 := fun h => hk ((hd.kind e.f1 hi).2 h)
  rw [hn]
  unfold undoS
  simp only [if_neg (show ¬ e.f0 = 1 by omega), if_neg (show ¬ e.f0 = 2 by omega), if_neg (show ¬ e.f0 = 3 by omega), if_neg (show ¬ e.f0 = 4 by omega), if_neg (show ¬ e.f0 = 5 by omega), if_pos h0]
  unfold undoRemove
  simp only [hlen]
  rw [if_pos ⟨hpi, hi, hz, hne, by show (rd_T43 l1 e.f1).f4 = -1; rw [hr2], by omega, by rw [hk1, List.length_eraseIdx, if_pos hl]; omega⟩, hr1, hr2, hk1, Int.toNat_natCast]
  have e0 : ((kids l (par l e.f1)).eraseIdx i).take i ++ e.f1 :: ((kids l (par l e.f1)).eraseIdx i).drop i = kids l (par l e.f1) := by
    have := put_erase (kids l (par l e.f1)) hl
    rwa [hg] at this
  rw [e0]
  show some ((l1.set (par l e.f1).toNat (rd_T43 l (par l e.f1))).set e.f1.toNat (rd_T43 l e.f1)) = _
  rw [h1]
  exact congrArg some (set_two l hpi hi hne _ _)
/-- What was done, and noted, is undone, to each number. -/
theorem undo_done {q : Bool} {l l1 : List S43} {e : S45} (h : Done q l e l1) : undoS l1 (noteF l l1 e) = some l := by
  obtain ⟨hd, _, he, _⟩ := h
  generalize h1 : l1 = m at he
  cases he with
  | text h0 hi hk hv => exact h1 ▸ undo_text h0 hi hk h1
  | attr h0 hi hk hn hv ha => exact h1 ▸ undo_attr h0 hi ha h1
  | drop h0 hi hk hix hl => exact h1 ▸ undo_drop hd h0 hi hk hix hl h1
  | make h0 hk hm hl ho => exact h1 ▸ undo_make hd h0 h1
  | insert h0 hi hj hki hkj htx hpj hp hpl hnu => exact h1 ▸ undo_insert hd h0 hi hj hpj hp hnu h1
  | remove h0 hi hk hp hpi hne hl hg hix => exact h1 ▸ undo_remove hd h0 hi hk hpi hne hl hg hix h1
/-- Edits that were done, one behind the other, with what was noted of them. -/
inductive Rec (q : Bool) : List S43 → List Stp → List S43 → Prop
  | nil {l} (h : DocOk l) : Rec q l [] l
  | cons {l e l1 ss l2} (h : Done q l e l1) (hr : Rec q l1 ss l2) : Rec q l (noteF l l1 e :: ss) l2
def undoAll : List Stp → List S43 → Option (List S43)
  | [], l => some l
  | s :: ss, l => (undoAll ss l).bind fun m => undoS m s
theorem Rec.undone {q : Bool} {l l2 : List S43} {ss : List Stp} (h : Rec q l ss l2) : undoAll ss l2 = some l := by
  induction h with
  | nil h => rfl
  | cons h hr ih =>
    show (undoAll _ _).bind _ = _
    rw [ih]
    exact undo_done h
theorem note_e (l l1 : List S43) (e : S45) : (noteF l l1 e).f0 = e := by
  unfold noteF
  split
  · split <;> rfl
  split
  · rfl
  split
  · rfl
  split <;> rfl
theorem Rec.run {q : Bool} {l l2 : List S43} {ss : List Stp} (h : Rec q l ss l2) : Run q l (ss.map (·.f0)) l2 := by
  induction h with
  | nil h => exact .nil h
  | cons h hr ih =>
    rw [List.map_cons, note_e]
    exact .cons h ih
theorem Run.noted {q : Bool} {l l2 : List S43} {es : List S45} (h : Run q l es l2) : ∃ ss, Rec q l ss l2 ∧ ss.map (·.f0) = es := by
  induction h with
  | nil h => exact ⟨[], .nil h, rfl⟩
  | cons h hr ih =>
    obtain ⟨ss, h1, h2⟩ := ih
    exact ⟨_, .cons h h1, by rw [List.map_cons, note_e, h2]⟩
theorem Rec.split {q : Bool} : ∀ (a : List Stp) {b : List Stp} {l l2 : List S43}, Rec q l (a ++ b) l2 → ∃ m, Rec q l a m ∧ Rec q m b l2
  | [], b, l, l2, h => ⟨l, .nil h.run.docs.1, h⟩
  | e :: a, b, l, l2, h => by
    cases h with
    | cons h hr =>
      obtain ⟨m, h1, h2⟩ := Rec.split a hr
      exact ⟨m, .cons h h1, h2⟩
/-- The nodes of a step. -/
def stepT (s : Stp) : List Int :=
  if s.f0.f0 = 1 ∨ s.f0.f0 = 2 ∨ s.f0.f0 = 3 then [s.f0.f1] else if s.f0.f0 = 5 then [s.f0.f1, s.f0.f2] else if s.f0.f0 = 6 then [s.f0.f1, s.f3] else if s.f0.f0 = 4 then [s.f4] else []
theorem step_touch {l l1 : List S43} {e : S45} (h : Eff l e l1) : stepT (noteF l l1 e) = touchG l e 0 := by
  unfold stepT
  rw [note_e]
  unfold touchG
  cases h with
  | text h0 hi hk hv => rw [if_pos (by omega), if_neg (by omega), if_neg (by omega), if_neg (by omega)]
  | attr h0 hi hk hnm hv ha => rw [if_pos (by omega), if_neg (by omega), if_neg (by omega), if_neg (by omega)]
  | drop h0 hi hk hix hl => rw [if_pos (by omega), if_neg (by omega), if_neg (by omega), if_neg (by omega)]
  | make h0 hk h1 hl ho =>
    rw [if_neg (by omega), if_neg (by omega), if_neg (by omega), if_pos h0, if_pos h0]
    unfold noteF
    rw [if_neg (by omega), if_neg (by omega), if_pos h0]
  | insert h0 hi hj hki hkj htx hpj hp hpl hnu => rw [if_neg (by omega), if_pos h0, if_neg (by omega), if_pos h0]; rfl
  | remove h0 hi hk hp hpi hne hl hg hix =>
    rw [if_neg (by omega), if_neg (by omega), if_pos h0, if_neg (by omega), if_neg (by omega), if_pos h0]
    unfold noteF
    rw [if_neg (by omega), if_neg (by omega), if_neg (by omega), if_neg (by omega)]
/-- What is touched by no step is as it was. -/
theorem Rec.rest {q : Bool} {l l2 : List S43} {ss : List Stp} (h : Rec q l ss l2) : ∀ n : Nat, n < l2.length → (n : Int) ∉ ss.flatMap stepT → n < l.length ∧ l2[n]? = l[n]? := by
  induction h with
  | nil h => intro n hn _; exact ⟨hn, rfl⟩
  | cons h hr ih =>
    intro n hn ht
    rw [List.flatMap_cons, List.mem_append] at ht
    obtain ⟨h1, h2⟩ := ih n hn (fun hh => ht (.inr hh))
    obtain ⟨h3, h4⟩ := eff_rest h.2.2.1 0 h1 (fun hh => ht (.inl (by rw [step_touch h.2.2.1]; exact hh)))
    exact ⟨h3, h2.trans h4⟩
/-- No step's nodes are below 0. -/
theorem Rec.pos {q : Bool} {l l2 : List S43} {ss : List Stp} (h : Rec q l ss l2) : ∀ i ∈ ss.flatMap stepT, 0 ≤ i := by
  induction h with
  | nil h => intro i hi; cases hi
  | cons h hr ih =>
    intro i hi
    rw [List.flatMap_cons, List.mem_append] at hi
    rcases hi with hi | hi
    · rw [step_touch h.2.2.1] at hi
      rcases touch_in h.2.2.1 hi with g | g
      · exact g.1.1
      · omega
    · exact ih i hi
end Go.Proofs.YtmcinclecpeakaaGreatDoor.ApA
