/- dom.Check always comes to something, and with 0 the document is a tree; the walker's functions come to what the plain ones tell. -/
import Derived.Test.YtmcinclecpeakaaGreatDoorDocC
namespace Go.Proofs.YtmcinclecpeakaaGreatDoor.DocC
open Go.RowKit Go.Proofs.YtmcinclecpeakaaGreatDoorW.PrintWords Go.Proofs.YtmcinclecpeakaaGreatDoor.PRR Go.Proofs.YtmcinclecpeakaaGreatDoor.DocP
set_option linter.unusedVariables false

theorem name_some (s : ByteArray) : ∃ b, dom_Name.f s = some b := ⟨_, by unfold dom_Name.f dom_named.f; rw [if_pos (by decide), if_pos (by decide)]; rfl⟩
theorem attrName_some (s : ByteArray) : ∃ b, dom_attrName.f s = some b := ⟨_, by unfold dom_attrName.f dom_named.f; rw [if_pos (by decide), if_pos (by decide), if_pos (by decide)]; rfl⟩
theorem parent_some (a : Int) : ∃ b, dom_parent.f a = some b := by unfold dom_parent.f; split <;> exact ⟨_, rfl⟩
theorem bare_some (a : Int) (b : ByteArray) (c : List S66) (d : ByteArray) (e : Int) (f : List Int) : ∃ r, dom_bare.f a b c d e f = some r := by
  first
    | exact ⟨_, rfl⟩
    | (obtain ⟨p, hp⟩ := parent_some a
       unfold dom_bare.f
       simp only [hp, Option.bind_some]
       repeat' split
       all_goals exact ⟨_, rfl⟩)
theorem find_some (l : List S66) (s : ByteArray) : ∃ r, dom_find.f l s = some r := ⟨_, rfl⟩

section
theorem attrs_go (l : List S66) (hl : l.length ≤ 12) : ∀ (m' : Nat) (i : Int), 0 ≤ i → i + m' = l.length → ∃ r, Ev (fun k => dom_attrs.l0 k l l (l.length : Int) i) r := by
  intro m'
  induction m' with
  | zero =>
    intro i h0 he
    exact ⟨0, Ev.step (f := fun _ => some 0) (fun k => by simp only [dom_attrs.l0]; rw [if_neg (by omega)]) (Ev.now 0)⟩
  | succ m' ih =>
    intro i h0 he
    obtain ⟨r, hr⟩ := ih (i + 1) (by omega) (by omega)
    obtain ⟨b, hb⟩ := attrName_some (rd_T66 l i).f0
    obtain ⟨x, hx⟩ := find_some (l.take (i : Int).toNat) (rd_T66 l i).f0
    cases b with
    | false =>
      refine ⟨3, Ev.step (f := fun _ => some 3) (fun k => ?_) (Ev.now 3)⟩
      simp only [dom_attrs.l0]
      rw [if_pos (by omega), if_pos h0, if_pos (by omega), hb]; rfl
    | true =>
      by_cases hs : (((rd_T66 l i).f1).size : Int) > 400
      · refine ⟨2, Ev.step (f := fun _ => some 2) (fun k => ?_) (Ev.now 2)⟩
        simp only [dom_attrs.l0]
        rw [if_pos (by omega), if_pos h0, if_pos (by omega), hb]
        simp only [Option.bind_some, if_true]
        rw [if_pos hs]
      · by_cases hx0 : x ≥ 0
        · refine ⟨3, Ev.step (f := fun _ => some 3) (fun k => ?_) (Ev.now 3)⟩
          simp only [dom_attrs.l0]
          rw [if_pos (by omega), if_pos h0, if_pos (by omega), hb]
          simp only [Option.bind_some, if_true]
          rw [if_neg hs, if_pos (by omega), hx]
          simp only [Option.bind_some]
          rw [if_pos hx0]
        · refine ⟨r, Ev.step (fun k => ?_) hr⟩
          show dom_attrs.l0 (k + 1) _ _ _ _ = dom_attrs.l0 k l l (l.length : Int) (i + 1)
          simp only [dom_attrs.l0]
          rw [if_pos (by omega), if_pos h0, if_pos (by omega), hb]
          simp only [Option.bind_some, if_true]
          rw [if_neg hs, if_pos (by omega), hx]
          simp only [Option.bind_some]
          rw [if_neg hx0, wrap_in (by omega)]
theorem attrs_ev (l : List S66) : ∃ r, Ev (fun k => dom_attrs.f k l) r := by
  by_cases hl : (l.length : Int) > 12
  · exact ⟨2, Ev.congr (f := fun _ => some 2) (fun k => by simp only [dom_attrs.f]; rw [if_pos hl]) (Ev.now 2)⟩
  · obtain ⟨r, hr⟩ := attrs_go l (by omega) l.length 0 (by omega) (by omega)
    exact ⟨r, Ev.congr (fun k => by simp only [dom_attrs.f]; rw [if_neg hl]) hr⟩
theorem one_j1 (a : Int) (b : ByteArray) (c : List S66) (d : ByteArray) (e : Int) (f : List Int) : ∃ r, Ev (fun k => dom_one.j1 k a b c d e f) r := by
  obtain ⟨r, hr⟩ := attrs_ev c
  by_cases h0 : r = 0
  · by_cases h1 : (d.size : Int) > 400
    · exact ⟨2, Ev.step (fun k => by simp only [dom_one.j1]) (Ev.bind (f := fun _ t => if t = 0 then (if (d.size : Int) > 400 then some 2 else if (b.size : Int) > 400 then some 2 else some 0) else some t) hr (Ev.congr (f := fun _ => some 2) (fun k => by rw [if_pos h0, if_pos h1]) (Ev.now 2)))⟩
    · by_cases h2 : (b.size : Int) > 400
      · exact ⟨2, Ev.step (fun k => by simp only [dom_one.j1]) (Ev.bind (f := fun _ t => if t = 0 then (if (d.size : Int) > 400 then some 2 else if (b.size : Int) > 400 then some 2 else some 0) else some t) hr (Ev.congr (f := fun _ => some 2) (fun k => by rw [if_pos h0, if_neg h1, if_pos h2]) (Ev.now 2)))⟩
      · exact ⟨0, Ev.step (fun k => by simp only [dom_one.j1]) (Ev.bind (f := fun _ t => if t = 0 then (if (d.size : Int) > 400 then some 2 else if (b.size : Int) > 400 then some 2 else some 0) else some t) hr (Ev.congr (f := fun _ => some 0) (fun k => by rw [if_pos h0, if_neg h1, if_neg h2]) (Ev.now 0)))⟩
  · exact ⟨r, Ev.step (fun k => by simp only [dom_one.j1]) (Ev.bind (f := fun _ t => if t = 0 then (if (d.size : Int) > 400 then some 2 else if (b.size : Int) > 400 then some 2 else some 0) else some t) hr (Ev.congr (f := fun _ => some r) (fun k => by rw [if_neg h0]) (Ev.now r)))⟩
theorem one_j0 (x : Bool) (a : Int) (b : ByteArray) (c : List S66) (d : ByteArray) (e : Int) (f : List Int) : ∃ r, Ev (fun k => dom_one.j0 k x a b c d e f) r := by
  obtain ⟨r, hr⟩ := one_j1 a b c d e f
  obtain ⟨p, hp⟩ := name_some b
  cases x with
  | true => exact ⟨7, Ev.step (f := fun _ => some 7) (fun k => by simp only [dom_one.j0, if_true]) (Ev.now 7)⟩
  | false =>
    by_cases h2 : a = 2
    · cases p with
      | true => exact ⟨r, Ev.step (fun k => by simp only [dom_one.j0, Bool.false_eq_true, if_false, hp, Option.bind_some, if_true]; rw [if_pos h2]) hr⟩
      | false => exact ⟨3, Ev.step (f := fun _ => some 3) (fun k => by simp only [dom_one.j0, Bool.false_eq_true, if_false, hp, Option.bind_some]; rw [if_pos h2]) (Ev.now 3)⟩
    · exact ⟨r, Ev.step (fun k => by simp only [dom_one.j0, Bool.false_eq_true, if_false]; rw [if_neg h2]) hr⟩
theorem one_ev (a : Int) (b : ByteArray) (c : List S66) (d : ByteArray) (e : Int) (f : List Int) : ∃ r, Ev (fun k => dom_one.f k a b c d e f) r := by
  obtain ⟨r, hr⟩ := one_j0 true a b c d e f
  obtain ⟨p, hp⟩ := bare_some a b c d e f
  obtain ⟨r', hr'⟩ := one_j0 (!p) a b c d e f
  by_cases h1 : a < 1
  · exact ⟨r, Ev.congr (fun k => by simp only [dom_one.f]; rw [if_pos h1]) hr⟩
  by_cases h5 : a > 5
  · exact ⟨r, Ev.congr (fun k => by simp only [dom_one.f]; rw [if_neg h1, if_pos h5]) hr⟩
  · exact ⟨r', Ev.congr (fun k => by simp only [dom_one.f]; rw [if_neg h1, if_neg h5, hp]; rfl) hr'⟩
end

section check
variable (l : List S43) (q : Bool)
theorem check_l1 (hl : l.length ≤ 200) (hk : KidsOk l.length (par l) (kids l)) : ∀ (m' : Nat) (i : Int), 0 ≤ i → i + m' = l.length →
    ∃ r, Ev (fun k => dom_Check.l1 k (l.length : Int) i l q) r ∧ (r = 0 → ∀ j : Int, i ≤ j → j < l.length → ∃ d, d ≤ 40 ∧ Dep (par l) j d) := by
  intro m'
  induction m' with
  | zero =>
    intro i h0 he
    exact ⟨0, Ev.step (f := fun _ => some 0) (fun k => by simp only [dom_Check.l1]; rw [if_neg (by omega)]) (Ev.now 0), fun _ j h1 h2 => by omega⟩
  | succ m' ih =>
    intro i h0 he
    obtain ⟨r, hr, hd⟩ := ih (i + 1) (by omega) (by omega)
    obtain ⟨u, hu, hdu⟩ := up_ev l q (fun k h1 h2 => (hk.has k h1 h2).imp id (fun h => ⟨h.1, h.2.1⟩)) hl (l.length + 1) i 0 h0 (by omega) (by omega) (by omega)
    have hu' : Ev (fun k => dom_up.f k l q i) u := hu
    by_cases h1 : u > (l.length : Int)
    · exact ⟨8, Ev.step (fun k => by simp only [dom_Check.l1]; rw [if_pos (by omega)]) (Ev.bind (f := fun k t => if t > (l.length : Int) then some 8 else if t > 40 then some 2 else dom_Check.l1 k (l.length : Int) (wrap64 (i + 1)) l q) hu' (Ev.congr (f := fun _ => some 8) (fun k => by rw [if_pos h1]) (Ev.now 8))), fun h => by cases h⟩
    by_cases h2 : u > 40
    · exact ⟨2, Ev.step (fun k => by simp only [dom_Check.l1]; rw [if_pos (by omega)]) (Ev.bind (f := fun k t => if t > (l.length : Int) then some 8 else if t > 40 then some 2 else dom_Check.l1 k (l.length : Int) (wrap64 (i + 1)) l q) hu' (Ev.congr (f := fun _ => some 2) (fun k => by rw [if_neg h1, if_pos h2]) (Ev.now 2))), fun h => by cases h⟩
    refine ⟨r, Ev.step (fun k => by simp only [dom_Check.l1]; rw [if_pos (by omega)]) (Ev.bind (f := fun k t => if t > (l.length : Int) then some 8 else if t > 40 then some 2 else dom_Check.l1 k (l.length : Int) (wrap64 (i + 1)) l q) hu' (Ev.congr (fun k => by rw [if_neg h1, if_neg h2, wrap_in (by omega)]) hr)), fun h j h3 h4 => ?_⟩
    by_cases e : j = i
    · obtain ⟨d, hd1, hd2⟩ := hdu (by omega)
      exact ⟨d, by omega, e ▸ hd1⟩
    · exact hd h j (by omega) h4
theorem check_l0 (hn : 0 < l.length) (hl : l.length ≤ 200) (hf : Fit l) : ∀ (m' : Nat) (i : Int), 0 ≤ i → i + m' = l.length →
    ∃ r, Ev (fun k => dom_Check.l0 k l (l.length : Int) i l q) r ∧ (r = 0 → WF l.length (par l) (kids l)) := by
  intro m'
  induction m' with
  | zero =>
    intro i h0 he
    obtain ⟨r, hr, hd⟩ := kids_ev l q hn hl hf
    by_cases hr0 : r = 0
    · have hK := hd hr0
      obtain ⟨u, hu, hdu⟩ := check_l1 l q hl hK l.length 0 (by omega) (by omega)
      refine ⟨u, Ev.step (fun k => by simp only [dom_Check.l0]; rw [if_neg (by omega)]) (Ev.bind (f := fun k t => if t = 0 then dom_Check.l1 k (l.length : Int) 0 l q else some t) hr (Ev.congr (fun k => by rw [if_pos hr0]) hu)), fun h => ?_⟩
      exact ⟨hn, hK.kid, hK.nodup, hK.has, hK.root, fun k h1 h2 => hdu h k h1 h2⟩
    · exact ⟨r, Ev.step (fun k => by simp only [dom_Check.l0]; rw [if_neg (by omega)]) (Ev.bind (f := fun k t => if t = 0 then dom_Check.l1 k (l.length : Int) 0 l q else some t) hr (Ev.congr (f := fun _ => some r) (fun k => by rw [if_neg hr0]) (Ev.now r))), fun h => absurd h hr0⟩
  | succ m' ih =>
    intro i h0 he
    obtain ⟨r, hr, hd⟩ := ih (i + 1) (by omega) (by omega)
    by_cases hkd : ((((rd_T43 l i).f0) == 1) != (i == 0)) = true
    · refine ⟨3, Ev.step (f := fun _ => some 3) (fun k => ?_) (Ev.now 3), fun h => by cases h⟩
      simp only [dom_Check.l0]
      rw [if_pos (by omega), if_pos h0, if_pos (by omega), if_pos hkd]
    · obtain ⟨u, hu⟩ := one_ev (rd_T43 l i).f0 (rd_T43 l i).f1 (rd_T43 l i).f2 (rd_T43 l i).f3 (rd_T43 l i).f4 (rd_T43 l i).f5
      by_cases hu0 : u = 0
      · refine ⟨r, Ev.step (fun k => by simp only [dom_Check.l0]; rw [if_pos (by omega), if_pos h0, if_pos (by omega), if_neg hkd]) (Ev.bind (f := fun k t => if t = 0 then dom_Check.l0 k l (l.length : Int) (wrap64 (i + 1)) l q else some t) hu (Ev.congr (fun k => by rw [if_pos hu0, wrap_in (by omega)]) hr)), hd⟩
      · exact ⟨u, Ev.step (fun k => by simp only [dom_Check.l0]; rw [if_pos (by omega), if_pos h0, if_pos (by omega), if_neg hkd]) (Ev.bind (f := fun k t => if t = 0 then dom_Check.l0 k l (l.length : Int) (wrap64 (i + 1)) l q else some t) hu (Ev.congr (f := fun _ => some u) (fun k => by rw [if_neg hu0]) (Ev.now u))), fun h => absurd h hu0⟩
theorem check_ev (hf : Fit l) : ∃ r, Ev (fun k => dom_Check.f k l q) r ∧ (r = 0 → l.length ≤ 200 ∧ WF l.length (par l) (kids l)) := by
  by_cases h1 : (l.length : Int) > 200
  · exact ⟨2, Ev.congr (f := fun _ => some 2) (fun k => by simp only [dom_Check.f]; rw [if_pos h1]) (Ev.now 2), fun h => by cases h⟩
  by_cases h2 : (l.length : Int) = 0
  · exact ⟨3, Ev.congr (f := fun _ => some 3) (fun k => by simp only [dom_Check.f]; rw [if_neg h1, if_pos h2]) (Ev.now 3), fun h => by cases h⟩
  · obtain ⟨r, hr, hd⟩ := check_l0 l q (by omega) (by omega) hf l.length 0 (by omega) (by omega)
    exact ⟨r, Ev.congr (fun k => by simp only [dom_Check.f]; rw [if_neg h1, if_neg h2]) hr, fun h => ⟨by omega, hd h⟩⟩
end check
end Go.Proofs.YtmcinclecpeakaaGreatDoor.DocC
