/- Edits that do not meet: done in either order, both may be done, and come to the same. -/
import Derived.Test.YthfalaabfgpjmaaDoorApD
namespace Go.Proofs.YthfalaabfgpjmaaDoor.DocC
open Go.RowKit Go.Proofs.YthfalaabfgpjmaaDoorW.PrintWords Go.Proofs.YthfalaabfgpjmaaDoor.PAP Go.Proofs.YthfalaabfgpjmaaDoor.DocP
set_option linter.unusedVariables false
set_option linter.unusedSimpArgs false
section
variable {n : Nat} {P P' : Int → Int} {K : Int → List Int}
theorem dep_cut' (hw : WF n P K) (h1 : ∀ j, In n j → P' j = P j ∨ P' j = -1) : ∀ {k : Int} {d : Nat}, Dep P k d → In n k → ∃ d', d' ≤ d ∧ Dep P' k d' := by
  intro k d hd
  induction hd with
  | top hp =>
    intro hk
    refine ⟨0, Nat.le_refl _, .top ?_⟩
    rcases h1 _ hk with h | h <;> omega
  | up hp hd ih =>
    rename_i a d
    intro hk
    rcases h1 _ hk with h | h
    · obtain ⟨d', hle, hd'⟩ := ih (DocT.WFin hw hk hp)
      exact ⟨d' + 1, by omega, .up (by rw [h]; exact hp) (by rw [h]; exact hd')⟩
    · exact ⟨0, Nat.zero_le _, .top (by omega)⟩
theorem under_cut (hw : WF n P K) (h1 : ∀ j, In n j → P' j = P j ∨ P' j = -1) {a : Int} : ∀ {x : Int}, Under P' a x → In n x → Under P a x := by
  intro x hu
  induction hu with
  | refl => intro _; exact .refl
  | up hp hu ih =>
    rename_i x
    intro hk
    rcases h1 _ hk with h | h
    · rw [h] at hp ih
      exact .up hp (ih (DocT.WFin hw hk hp))
    · omega
end
section
variable {l : List S28} {q : Bool}
/-- The depth that an insert leaves. -/
def Deep (P : Int → Int) (n : Nat) (f1 f2 : Int) : Prop := ∃ di, Dep P f1 di ∧ ∀ x, In n x → Under P f2 x → ∀ d, Dep P x d → d + 1 + di ≤ 40
theorem DocOk.zero (h : DocOk l) {j : Int} (hj : In l.length j) (hk : (rd_T28 l j).f0 ≠ 1) : 0 < j := by
  have h0 := hj.1
  have : j ≠ 0 := fun e => by
    subst e
    exact hk ((h.kind 0 hj).2 rfl)
  omega
theorem par_set (l : List S28) {i : Int} (hi : In l.length i) (y : S28) (hy : y.f4 = par l i) (a : Int) (ha : 0 ≤ a) : par (l.set i.toNat y) a = par l a := by
  show (rd_T28 (l.set i.toNat y) a).f4 = _
  rw [rd_set2 l hi]
  split
  · next e => rw [hy]; exact congrArg S28.f4 (rd_same l (i := i) (j := i) rfl) |>.trans (by show (rd_T28 l i).f4 = (rd_T28 l a).f4; rw [rd_same l e])
  · rfl
theorem par_two (l : List S28) {p x : Int} (hp : In l.length p) (hx : In l.length x) (y z : S28) (hy : y.f4 = par l p) (a : Int) (ha : 0 ≤ a) : par ((l.set p.toNat y).set x.toNat z) a = if a = x then z.f4 else par l a := by
  show (rd_T28 ((l.set p.toNat y).set x.toNat z) a).f4 = _
  rw [rd_two l hp hx y z a ha]
  split
  · rfl
  · split
    · next e => rw [hy, e]
    · rfl
/-- Behind an edit that does not meet it an insert finds the same room. -/
theorem deep_keeps (h : DocOk l) {e : S30} {l1 : List S28} (he : Eff l e l1) {f1 f2 t1 t2 : Int} (hf1 : In l.length f1) (hf2 : In l.length f2) (hp2 : par l f2 < 0) (h20 : 0 < f2) (hnu : ¬ Under (par l) f2 f1) (hD : Deep (par l) l.length f1 f2)
    (ht1 : e.f0 = 5 → IsRoot l e.f1 t1) (ht2 : IsRoot l f1 t2) (hd1 : f2 ∉ touchG l e t1) (hd2 : e.f0 = 5 → 0 < t2 → t2 ≠ e.f2) : ¬ Under (par l1) f2 f1 ∧ Deep (par l1) l1.length f1 f2 := by
  obtain ⟨di, hdi, hdx⟩ := hD
  have key : ∀ m : Nat, l1.length = m → l.length ≤ m → (∀ j, In l.length j → par l1 j = par l j ∨ par l1 j = -1) → (∀ x, In m x → ¬ In l.length x → ¬ Under (par l1) f2 x) → ¬ Under (par l1) f2 f1 ∧ Deep (par l1) l1.length f1 f2 := by
    intro m hm hle hc hnew
    refine ⟨fun hu => hnu (under_cut h.wf hc hu hf1), ?_⟩
    obtain ⟨di', hdl, hdi'⟩ := dep_cut' h.wf hc hdi hf1
    refine ⟨di', hdi', fun x hx hu d hd => ?_⟩
    rw [hm] at hx
    by_cases hxl : In l.length x
    · obtain ⟨dp, _, hdp⟩ := h.wf.dep x hxl.1 hxl.2
      obtain ⟨d', hdl', hd'⟩ := dep_cut' h.wf hc hdp hxl
      have h1 := hd.fn hd'
      have h2 := hdx x hxl (under_cut h.wf hc hu hxl) dp hdp
      omega
    · exact absurd hu (hnew x hx hxl)
  cases he with
  | text h0 hi hk hv => exact key _ (List.length_set ..) (Nat.le_refl _) (fun j hj => .inl (par_set l hi _ (by rfl) j hj.1)) (fun x hx hn => absurd hx hn)
  | attr h0 hi hk hnm hv ha => exact key _ (List.length_set ..) (Nat.le_refl _) (fun j hj => .inl (par_set l hi _ (by rfl) j hj.1)) (fun x hx hn => absurd hx hn)
  | drop h0 hi hk hix hl => exact key _ (List.length_set ..) (Nat.le_refl _) (fun j hj => .inl (par_set l hi _ (by rfl) j hj.1)) (fun x hx hn => absurd hx hn)
  | make h0 hk h1 hl ho =>
    refine key (l.length + 1) (by simp) (by omega) (fun j hj => .inl ?_) (fun x hx hn hu => ?_)
    · show (rd_T28 (l ++ _) j).f4 = _
      rw [rd_snoc l _ j hj.1, if_neg (by have := hj.2; omega)]
    · have hxe : x = l.length := by
        have h1 := hx.1
        have h2 := hx.2
        by_cases hlt : x < l.length
        · exact absurd ⟨h1, hlt⟩ hn
        · omega
      have hp : par (l ++ [⟨e.f6.f0, e.f6.f1, e.f6.f2, e.f6.f3, -1, []⟩]) x = -1 := by
        show (rd_T28 (l ++ _) x).f4 = _
        rw [rd_snoc l _ x hx.1, if_pos hxe]
      cases hu with
      | refl => exact hn hf2
      | up h3 _ => omega
  | @insert p h0 hi hj hki hkj htx hpj hp hpl hnj =>
    have hP : ∀ a, In l.length a → par ((l.set e.f1.toNat { rd_T28 l e.f1 with f5 := (kids l e.f1).take p ++ e.f2 :: (kids l e.f1).drop p }).set e.f2.toNat { rd_T28 l e.f2 with f4 := e.f1 }) a = if a = e.f2 then e.f1 else par l a := fun a ha => par_two l hi hj _ _ (by rfl) a ha.1
    have hj0 := h.zero hj hkj
    have hr1 := ht1 h0
    have htg : touchG l e t1 = if 0 < t1 then [e.f1, e.f2, t1] else [e.f1, e.f2] := by unfold touchG; rw [if_neg (by omega), if_pos h0]
    have hne : f2 ≠ e.f2 := fun hh => hd1 (by rw [htg, hh]; split <;> simp)
    have ht1n : t1 ≠ f2 := fun hh => hd1 (by rw [htg, if_pos (by omega), hh]; simp)
    have hnu1 : ¬ Under (par l) e.f2 f1 := fun hu => by
      have h1 : IsRoot l f1 e.f2 := ⟨hu, hpj, hj⟩
      have h2 := ht2.one h1
      exact hd2 h0 (by omega) h2
    have hcl : ∀ {x : Int}, Under (par ((l.set e.f1.toNat { rd_T28 l e.f1 with f5 := (kids l e.f1).take p ++ e.f2 :: (kids l e.f1).drop p }).set e.f2.toNat { rd_T28 l e.f2 with f4 := e.f1 })) f2 x → In l.length x → Under (par l) f2 x ∧ ¬ Under (par l) e.f2 x := by
      intro x hu
      induction hu with
      | refl =>
        intro _
        refine ⟨.refl, fun hu => ?_⟩
        cases hu with
        | refl => exact hne rfl
        | up h3 _ => omega
      | up h3 hu ih =>
        rename_i x
        intro hx
        rw [hP x hx] at h3 ih
        by_cases hxj : x = e.f2
        · rw [if_pos hxj] at h3 ih
          have h4 := (ih hi).1
          exact absurd (hr1.one ⟨h4, hp2, hf2⟩) ht1n
        · rw [if_neg hxj] at h3 ih
          obtain ⟨h4, h5⟩ := ih (DocT.WFin h.wf hx h3)
          refine ⟨.up h3 h4, fun hu2 => ?_⟩
          cases hu2 with
          | refl => exact hxj rfl
          | up _ h6 => exact h5 h6
    refine ⟨fun hu => hnu (hcl hu hf1).1, di, dep_out h.wf hP hdi hf1 hnu1, fun x hx hu d hd => ?_⟩
    have hx' : In l.length x := ⟨hx.1, by have := hx.2; simpa using this⟩
    obtain ⟨h4, h5⟩ := hcl hu hx'
    obtain ⟨dp, _, hdp⟩ := h.wf.dep x hx'.1 hx'.2
    have h6 := hd.fn (dep_out h.wf hP hdp hx' h5)
    have h7 := hdx x hx' h4 dp hdp
    omega
  | @remove i h0 hi hk hp hpi hne hl hg hix =>
    refine key _ (by simp) (Nat.le_refl _) (fun j hj => ?_) (fun x hx hn => absurd hx hn)
    by_cases hjx : j = e.f1
    · exact .inr ((par_two l hpi hi _ _ (by rfl) j hj.1).trans (if_pos hjx))
    · exact .inl ((par_two l hpi hi _ _ (by rfl) j hj.1).trans (if_neg hjx))
/-- What else an edit that was done has shown. -/
theorem eff_can (h : DocOk l) {f : S30} {l2 : List S28} (hf : Eff l f l2) (h2 : DocOk l2) : (f.f0 = 1 → idxF (fun x => x.f0.toList == f.f4.toList) (rd_T28 l f.f1).f2 < 0 → (rd_T28 l f.f1).f2.length < 12) ∧ (f.f0 = 5 → Deep (par l) l.length f.f1 f.f2) := by
  cases hf with
  | @attr ats h0 hi hk hnm hv ha =>
    refine ⟨fun _ hx => ?_, fun h => by omega⟩
    have hi2 : In (l.set f.f1.toNat { rd_T28 l f.f1 with f2 := ats }).length f.f1 := by rw [List.length_set]; exact hi
    have h3 := (h2.oneOk hi2).2.2.2.2.1.1
    rw [rd_set2 l hi, if_pos rfl] at h3
    rcases ha with ⟨_, h4⟩ | ⟨i, _, h4, _⟩
    · rw [h4] at h3
      simp at h3
      omega
    · omega
  | @insert p h0 hi hj hki hkj htx hpj hp hpl hnu =>
    refine ⟨fun h => by omega, fun _ => ?_⟩
    obtain ⟨di, _, hdi⟩ := h.wf.dep f.f1 hi.1 hi.2
    refine ⟨di, hdi, fun x hx hu d hd => ?_⟩
    have hP : ∀ a, In l.length a → par ((l.set f.f1.toNat { rd_T28 l f.f1 with f5 := (kids l f.f1).take p ++ f.f2 :: (kids l f.f1).drop p }).set f.f2.toNat { rd_T28 l f.f2 with f4 := f.f1 }) a = if a = f.f2 then f.f1 else par l a := fun a ha => par_two l hi hj _ _ (by rfl) a ha.1
    have h3 := dep_in h.wf hP hi hj hpj hdi hnu hu hx d hd
    obtain ⟨d', h4, h5⟩ := h2.wf.dep x hx.1 (by rw [List.length_set, List.length_set]; exact hx.2)
    have := h3.fn h5
    omega
  | _ => exact ⟨fun h => by omega, fun h => by omega⟩
theorem touch_sub {e : S30} {i t : Int} (h : i ∈ touchG l e 0) : i ∈ touchG l e t := by
  unfold touchG at h ⊢
  split
  · next h4 => rw [if_pos h4] at h; exact h
  · next h4 =>
    rw [if_neg h4] at h
    split
    · next h5 =>
      rw [if_pos h5, if_neg (by omega)] at h
      split
      · have : i = e.f1 ∨ i = e.f2 := by simpa using h
        rcases this with rfl | rfl <;> simp
      · exact h
    · next h5 => rw [if_neg h5] at h; exact h
theorem top_in {e : S30} {t : Int} (h5 : e.f0 = 5) (h : 0 < t) : t ∈ touchG l e t := by
  unfold touchG
  rw [if_neg (by omega), if_pos h5, if_pos h]
  simp
theorem ins_in {e : S30} {t : Int} (h5 : e.f0 = 5) : e.f2 ∈ touchG l e t := by
  unfold touchG
  rw [if_neg (by omega), if_pos h5]
  split <;> simp
/-- Behind e the edit f may be done, and not under itself. -/
theorem one_side (h : DocOk l) {e f : S30} {l1 l2 : List S28} (he : Eff l e l1) (hf : Eff l f l2) (h2 : DocOk l2) {t1 t2 : Int} (ht1 : e.f0 = 5 → IsRoot l e.f1 t1) (ht2 : f.f0 = 5 → IsRoot l f.f1 t2) (hd : ∀ i, i ∈ touchG l e t1 → i ∉ touchG l f t2) : f.f0 = 5 → ¬ Under (par l1) f.f2 f.f1 ∧ Deep (par l1) l1.length f.f1 f.f2 := by
  intro h5
  have hD := (eff_can h hf h2).2 h5
  cases hf with
  | insert h0 hi hj hki hkj htx hpj hp hpl hnu =>
    exact deep_keeps h he hi hj hpj (h.zero hj hkj) hnu hD ht1 (ht2 h5) (fun hm => hd _ hm (ins_in h5)) (fun h5e h0t hh => hd _ (ins_in h5e) (by rw [← hh]; exact top_in h5 h0t))
  | _ => omega
theorem can_behind (h : DocOk l) {e f : S30} {l1 l2 : List S28} (he : Eff l e l1) (hf : Eff l f l2) (h2 : DocOk l2) (hs : f.f0 = 5 → Deep (par l1) l1.length f.f1 f.f2) (hd : ∀ i, i ∈ touchG l e 0 → i ∉ touchG l f 0) : Can l1 f := by
  refine ⟨fun h1 hx => ?_, hs⟩
  have hin : In l.length f.f1 := by
    cases hf with
    | attr h0 hi _ _ _ _ => exact hi
    | _ => omega
  have hl1 : l1.length = if e.f0 = 4 then l.length + 1 else l.length := by have := upd_len l e; rwa [← eff_upd he] at this
  have hr : rd_T28 l1 f.f1 = rd_T28 l f.f1 := by
    refine rd_of_get (n := f.f1.toNat) ?_ (by have := hin.1; omega)
    have ei : ((f.f1.toNat : Nat) : Int) = f.f1 := by have := hin.1; omega
    refine (eff_rest he 0 (n := f.f1.toNat) (by have := hin.2; have := hin.1; split at hl1 <;> omega) ?_).2
    rw [ei]
    intro hm
    refine hd _ hm ?_
    unfold touchG
    rw [if_neg (by omega), if_neg (by omega), if_neg (by omega)]
    simp
  rw [hr] at hx ⊢
  exact (eff_can h hf h2).1 h1 hx
/-- An edit that may be done, and is: in the editor's words. -/
theorem edit_done {e : S30} {l1 : List S28} (h : DocOk l) (he : Eff l e l1) (hc : Can l e) (made : Int) : ∃ m, Ev (fun k => editF k l q made e) (0, l1, m) ∧ DocOk l1 := by
  obtain ⟨r, l', m, h1, h2⟩ := edit_good (q := q) h made e
  have hr := eff_zero h he hc h1
  subst hr
  have h3 := eff_upd (edit_eff h h1).1
  rw [← eff_upd he] at h3
  subst h3
  exact ⟨m, h1, (h2 rfl).1⟩
theorem order_one {e f : S30} {l1 l3 : List S28} (h : DocOk l) (he : Eff l e l1) (hce : Can l e) (hf : Eff l1 f l3) (hcf : Can l1 f) : Ev (fun k => dom_All.f k l q [e, f]) (l3, q, 0, 0) ∧ DocOk l3 := by
  obtain ⟨m, h1, hd1⟩ := edit_done (q := q) h he hce 0
  obtain ⟨m2, h2, hd2⟩ := edit_done (q := q) hd1 hf hcf m
  refine ⟨all_doc h q [e, f] (by simp) ?_, hd2⟩
  show Ev (fun k => (editF k l q 0 e).bind fun t => if t.1 = 0 then allGo k q [f] t.2.1 t.2.2 (0 + 1) else some ([], false, 0, t.1)) _
  refine Ev.bind (f := fun k t => if t.1 = 0 then allGo k q [f] t.2.1 t.2.2 (0 + 1) else some ([], false, 0, t.1)) h1 (Ev.congr (fun k => if_pos rfl) ?_)
  show Ev (fun k => (editF k l1 q m f).bind fun t => if t.1 = 0 then allGo k q [] t.2.1 t.2.2 (0 + 1 + 1) else some ([], false, 0 + 1, t.1)) _
  refine Ev.bind (f := fun k t => if t.1 = 0 then allGo k q [] t.2.1 t.2.2 (0 + 1 + 1) else some ([], false, 0 + 1, t.1)) h2 (Ev.congr (fun k => if_pos rfl) ?_)
  exact Ev.now _
/-- Two edits that touch nothing in common, in both orders. -/
theorem order_both {e f : S30} {l1 l2 : List S28} (h : DocOk l) (he : Eff l e l1) (h1 : DocOk l1) (hf : Eff l f l2) (h2 : DocOk l2) {t1 t2 : Int} (ht1 : e.f0 = 5 → IsRoot l e.f1 t1) (ht2 : f.f0 = 5 → IsRoot l f.f1 t2) (hd : ∀ i, i ∈ touchG l e t1 → i ∉ touchG l f t2) :
    ∃ l3, DocOk l3 ∧ Ev (fun k => dom_All.f k l q [e, f]) (l3, q, 0, 0) ∧ Ev (fun k => dom_All.f k l q [f, e]) (l3, q, 0, 0) := by
  have hd' : ∀ i, i ∈ touchG l f t2 → i ∉ touchG l e t1 := fun i hi hi' => hd i hi' hi
  have s1 := one_side h he hf h2 ht1 ht2 hd
  have s2 := one_side h hf he h1 ht2 ht1 hd'
  have hd0 : ∀ i, i ∈ touchG l e 0 → i ∉ touchG l f 0 := fun i hi hi' => hd i (touch_sub hi) (touch_sub hi')
  have hd0' : ∀ i, i ∈ touchG l f 0 → i ∉ touchG l e 0 := fun i hi hi' => hd0 i hi' hi
  obtain ⟨g1, g2, g3⟩ := eff_both he hf hd0 (fun h5 => (s2 h5).1) (fun h5 => (s1 h5).1)
  have c1 := can_behind h he hf h2 (fun h5 => (s1 h5).2) hd0
  have c2 := can_behind h hf he h1 (fun h5 => (s2 h5).2) hd0'
  have ce : Can l e := ⟨(eff_can h he h1).1, (eff_can h he h1).2⟩
  have cf : Can l f := ⟨(eff_can h hf h2).1, (eff_can h hf h2).2⟩
  obtain ⟨a1, a2⟩ := order_one (q := q) h he ce g1 c1
  obtain ⟨b1, _⟩ := order_one (q := q) h hf cf g2 c2
  rw [← g3] at b1
  exact ⟨_, a2, a1, b1⟩
end
end Go.Proofs.YthfalaabfgpjmaaDoor.DocC
