/- Trees behind an edit: a node taken out, one made, one put in: they stay trees. -/
import Derived.Test.YtmcinclecpeakaaGreatDoorDocH
namespace Go.Proofs.YtmcinclecpeakaaGreatDoor.DocC
open Go.RowKit Go.Proofs.YtmcinclecpeakaaGreatDoorW.PrintWords Go.Proofs.YtmcinclecpeakaaGreatDoor.PRR Go.Proofs.YtmcinclecpeakaaGreatDoor.DocP
set_option linter.unusedVariables false
set_option linter.unusedSimpArgs false
section
variable {n : Nat} {P P' : Int → Int} {K K' : Int → List Int}
/-! ### Without the program -/
theorem dep_cut (hw : WF n P K) {x : Int} (h1 : ∀ j, In n j → P' j = if j = x then -1 else P j) : ∀ {k : Int} {d : Nat}, Dep P k d → In n k → ∃ d', d' ≤ d ∧ Dep P' k d' := by
  intro k d hd
  induction hd with
  | top hp =>
    intro hk
    refine ⟨0, Nat.le_refl _, .top ?_⟩
    rw [h1 _ hk]
    split <;> omega
  | up hp hd ih =>
    rename_i a d
    intro hk
    by_cases e : a = x
    · exact ⟨0, Nat.zero_le _, .top (by rw [h1 _ hk, if_pos e]; omega)⟩
    · obtain ⟨d', hle, hd'⟩ := ih (DocT.WFin hw hk hp)
      have e2 : P' a = P a := by rw [h1 _ hk, if_neg e]
      exact ⟨d' + 1, by omega, .up (by rw [e2]; exact hp) (by rw [e2]; exact hd')⟩
theorem WF.remove (hw : WF n P K) {x p : Int} (hx : In n x) (hx0 : x ≠ 0) (hp : P x = p) (hp0 : 0 ≤ p) (h1 : ∀ j, In n j → P' j = if j = x then -1 else P j)
    (h2 : ∀ j, In n j → (∀ k, k ∈ K' j ↔ k ∈ K j ∧ ¬ (j = p ∧ k = x)) ∧ (K' j).Nodup) : WF n P' K' := by
  have hxp : ∀ j, In n j → x ∈ K j → j = p := fun j hj h => by have := (hw.kid_in hj h).2; omega
  refine ⟨hw.pos, fun i h0 hi k hk => ?_, fun i h0 hi => (h2 i ⟨h0, hi⟩).2, fun k h0 hk => ?_, ?_, fun k h0 hk => ?_⟩
  · obtain ⟨hk1, hk2⟩ := ((h2 i ⟨h0, hi⟩).1 k).1 hk
    obtain ⟨g1, g2, g3⟩ := hw.kid i h0 hi k hk1
    refine ⟨g1, g2, ?_⟩
    rw [h1 k ⟨g1, g2⟩, if_neg (fun e => ?_)]
    · exact g3
    · subst e
      exact hk2 ⟨hxp i ⟨h0, hi⟩ hk1, rfl⟩
  · rw [h1 k ⟨h0, hk⟩]
    split
    · exact .inl rfl
    · next e =>
      rcases hw.has k h0 hk with h | ⟨g1, g2, g3⟩
      · exact .inl h
      · exact .inr ⟨g1, g2, ((h2 _ ⟨g1, g2⟩).1 k).2 ⟨g3, fun h => e h.2⟩⟩
  · rw [h1 0 ⟨by omega, by have := hw.pos; omega⟩, if_neg (fun e => hx0 e.symm)]
    exact hw.root
  · obtain ⟨d, h40, hd⟩ := hw.dep k h0 hk
    obtain ⟨d', hle, hd'⟩ := dep_cut hw h1 hd ⟨h0, hk⟩
    exact ⟨d', by omega, hd'⟩
theorem dep_same (hw : WF n P K) (h1 : ∀ j, In n j → P' j = P j) : ∀ {k : Int} {d : Nat}, Dep P k d → In n k → Dep P' k d := by
  intro k d hd
  induction hd with
  | top hp => intro hk; exact .top (by rw [h1 _ hk]; exact hp)
  | up hp hd ih =>
    intro hk
    exact .up (by rw [h1 _ hk]; exact hp) (by rw [h1 _ hk]; exact ih (DocT.WFin hw hk hp))
theorem WF.make (hw : WF n P K) (h1 : ∀ j, In n j → P' j = P j ∧ K' j = K j) (h2 : P' n = -1) (h3 : K' n = []) : WF (n + 1) P' K' := by
  refine ⟨Nat.succ_pos _, fun i h0 hi k hk => ?_, fun i h0 hi => ?_, fun k h0 hk => ?_, ?_, fun k h0 hk => ?_⟩
  · by_cases e : i = n
    · rw [e, h3] at hk; cases hk
    · have hin : In n i := ⟨h0, by omega⟩
      rw [(h1 i hin).2] at hk
      obtain ⟨g1, g2, g3⟩ := hw.kid i h0 hin.2 k hk
      exact ⟨g1, by omega, by rw [(h1 k ⟨g1, g2⟩).1]; exact g3⟩
  · by_cases e : i = n
    · rw [e, h3]; exact List.nodup_nil
    · have hin : In n i := ⟨h0, by omega⟩
      rw [(h1 i hin).2]
      exact hw.nodup i h0 hin.2
  · by_cases e : k = n
    · rw [e, h2]; exact .inl rfl
    · have hin : In n k := ⟨h0, by omega⟩
      rw [(h1 k hin).1]
      rcases hw.has k h0 hin.2 with h | ⟨g1, g2, g3⟩
      · exact .inl h
      · exact .inr ⟨g1, by omega, by rw [(h1 _ ⟨g1, g2⟩).2]; exact g3⟩
  · rw [(h1 0 ⟨by omega, by have := hw.pos; omega⟩).1]; exact hw.root
  · by_cases e : k = n
    · exact ⟨0, by omega, .top (by rw [e, h2]; omega)⟩
    · have hin : In n k := ⟨h0, by omega⟩
      obtain ⟨d, h40, hd⟩ := hw.dep k h0 hin.2
      exact ⟨d, h40, dep_same hw (fun j hj => (h1 j hj).1) hd hin⟩
theorem dep_out (hw : WF n P K) {i j : Int} (h1 : ∀ a, In n a → P' a = if a = j then i else P a) : ∀ {k : Int} {d : Nat}, Dep P k d → In n k → ¬ Under P j k → Dep P' k d := by
  intro k d hd
  induction hd with
  | top hp =>
    intro hk hu
    refine .top ?_
    rw [h1 _ hk, if_neg (fun e => hu (by rw [e]; exact .refl))]
    exact hp
  | up hp hd ih =>
    rename_i a d
    intro hk hu
    have e2 : P' a = P a := by rw [h1 _ hk, if_neg (fun e => hu (by rw [e]; exact .refl))]
    exact .up (by rw [e2]; exact hp) (by rw [e2]; exact ih (DocT.WFin hw hk hp) (fun h => hu (.up hp h)))
theorem dep_in (hw : WF n P K) {i j : Int} {di : Nat} (h1 : ∀ a, In n a → P' a = if a = j then i else P a) (hi : In n i) (hj : In n j) (hpj : P j < 0) (hdi : Dep P i di) (hnu : ¬ Under P j i) : ∀ {k : Int}, Under P j k → In n k → ∀ e, Dep P k e → Dep P' k (e + 1 + di) := by
  intro k hu
  induction hu with
  | refl =>
    intro hk e hd
    have he : e = 0 := hd.fn (.top hpj)
    subst he
    have e2 : P' j = i := by rw [h1 _ hj, if_pos rfl]
    rw [show 0 + 1 + di = di + 1 from by omega]
    exact .up (by rw [e2]; exact hi.1) (by rw [e2]; exact dep_out hw h1 hdi hi hnu)
  | up hp hu ih =>
    rename_i x
    intro hk e hd
    have hne : x ≠ j := fun h => by rw [h] at hp; omega
    have e2 : P' x = P x := by rw [h1 _ hk, if_neg hne]
    cases hd with
    | top h => omega
    | @up _ d hx2 hd =>
      rw [show d + 1 + 1 + di = (d + 1 + di) + 1 from by omega]
      exact .up (by rw [e2]; exact hp) (by rw [e2]; exact ih (DocT.WFin hw hk hp) d hd)
theorem WF.insert (hw : WF n P K) {i j : Int} {di : Nat} (hi : In n i) (hj : In n j) (hj0 : j ≠ 0) (hpj : P j < 0) (hdi : Dep P i di) (hnu : ¬ Under P j i) (hdeep : ∀ k, In n k → Under P j k → ∀ e, Dep P k e → e + 1 + di ≤ 40)
    (h1 : ∀ a, In n a → P' a = if a = j then i else P a) (h2 : ∀ a, In n a → (∀ k, k ∈ K' a ↔ k ∈ K a ∨ (a = i ∧ k = j)) ∧ (K' a).Nodup) : WF n P' K' := by
  have hjk : ∀ a, In n a → j ∉ K a := fun a ha h => by have := (hw.kid_in ha h).2; have := ha.1; omega
  refine ⟨hw.pos, fun a h0 ha k hk => ?_, fun a h0 ha => (h2 a ⟨h0, ha⟩).2, fun k h0 hk => ?_, ?_, fun k h0 hk => ?_⟩
  · rcases ((h2 a ⟨h0, ha⟩).1 k).1 hk with h | ⟨rfl, rfl⟩
    · obtain ⟨g1, g2, g3⟩ := hw.kid a h0 ha k h
      exact ⟨g1, g2, by rw [h1 k ⟨g1, g2⟩, if_neg (fun e => hjk a ⟨h0, ha⟩ (by rw [← e]; exact h))]; exact g3⟩
    · exact ⟨hj.1, hj.2, by rw [h1 k hj, if_pos rfl]⟩
  · rw [h1 k ⟨h0, hk⟩]
    split
    · next e => exact .inr ⟨hi.1, hi.2, ((h2 i hi).1 k).2 (.inr ⟨rfl, e⟩)⟩
    · rcases hw.has k h0 hk with h | ⟨g1, g2, g3⟩
      · exact .inl h
      · exact .inr ⟨g1, g2, ((h2 _ ⟨g1, g2⟩).1 k).2 (.inl g3)⟩
  · rw [h1 0 ⟨by omega, by have := hw.pos; omega⟩, if_neg (fun e => hj0 e.symm)]
    exact hw.root
  · obtain ⟨d, h40, hd⟩ := hw.dep k h0 hk
    by_cases hu : Under P j k
    · exact ⟨d + 1 + di, hdeep k ⟨h0, hk⟩ hu d hd, dep_in hw h1 hi hj hpj hdi hnu hu ⟨h0, hk⟩ d hd⟩
    · exact ⟨d, h40, dep_out hw h1 hd ⟨h0, hk⟩ hu⟩
/-- Below a node there is one of its kids, or it itself. -/
theorem under_kid (hw : WF n P K) {a : Int} (ha : In n a) : ∀ {x : Int}, Under P a x → In n x → x = a ∨ ∃ c ∈ K a, Under P c x := by
  intro x hu
  induction hu with
  | refl => intro _; exact .inl rfl
  | up hp hu ih =>
    rename_i x
    intro hx
    rcases hw.par_or hx with e | ⟨h1, h2⟩
    · omega
    · rcases ih h1 with e | ⟨c, hc, hu'⟩
      · exact .inr ⟨x, by rw [← e]; exact h2, .refl⟩
      · exact .inr ⟨c, hc, .up hp hu'⟩
end
theorem mem_eraseIdx_nodup {xs : List Int} (hn : xs.Nodup) {i : Nat} (hi : i < xs.length) (k : Int) : k ∈ xs.eraseIdx i ↔ k ∈ xs ∧ k ≠ xs[i] := by
  constructor
  · intro h
    refine ⟨List.mem_of_mem_eraseIdx h, fun e => ?_⟩
    rw [List.eraseIdx_eq_take_drop_succ] at h
    have hsplit : xs = xs.take i ++ xs[i] :: xs.drop (i + 1) := by rw [← List.drop_eq_getElem_cons hi, List.take_append_drop]
    have hn2 : (xs.take i ++ xs[i] :: xs.drop (i + 1)).Nodup := by rw [← hsplit]; exact hn
    obtain ⟨_, h2, h3⟩ := List.pairwise_append.1 hn2
    rw [e] at h
    rcases List.mem_append.1 h with h | h
    · exact h3 _ h _ List.mem_cons_self rfl
    · exact (List.pairwise_cons.1 h2).1 _ h rfl
  · rintro ⟨h, hne⟩
    rw [List.eraseIdx_eq_take_drop_succ]
    have hsplit : xs = xs.take i ++ xs[i] :: xs.drop (i + 1) := by rw [← List.drop_eq_getElem_cons hi, List.take_append_drop]
    rw [hsplit] at h
    rcases List.mem_append.1 h with h | h
    · exact List.mem_append_left _ h
    · rcases List.mem_cons.1 h with h | h
      · exact absurd h hne
      · exact List.mem_append_right _ h
/-! ### Documents -/
section
variable {l : List S43}
theorem DocOk.fit (h : DocOk l) : Fit l := fun i => by
  by_cases hi : i.toNat < l.length
  · have e : kids l i = kids l (i.toNat : Int) := by
      show (rd_T43 l i).f5 = (rd_T43 l (i.toNat : Int)).f5
      rw [rd_same l (show i.toNat = (i.toNat : Int).toNat from by omega)]
    have hin : In l.length (i.toNat : Int) := ⟨by omega, by omega⟩
    have := nodup_len l.length (kids l (i.toNat : Int)) (h.wf.nodup _ hin.1 hin.2) (fun x hx => (h.wf.kid_in hin hx).1)
    have := h.len
    rw [e]
    omega
  · show ((rd_T43 l i).f5).length ≤ _
    unfold rd_T43
    rw [List.getD_eq_getElem?_getD, List.getElem?_eq_none (by omega)]
    decide
theorem bare_kids {a : Int} {b : ByteArray} {c : Nat} {d : ByteArray} {e e' : Nat} (h : bareB a b c d e = true) (he : e ≠ 0 ∨ e' = 0 ∨ a = 1 ∨ a = 2) : bareB a b c d e' = true := by
  unfold bareB at h ⊢
  simp only [Bool.and_eq_true, Bool.or_eq_true, beq_iff_eq] at h ⊢
  refine ⟨h.1, ?_⟩
  rcases he with he | he | he | he
  · rcases h.2 with h | h
    · exact .inl h
    · exact absurd h he
  · exact .inr he
  · exact .inl (.inl he)
  · exact .inl (.inr he)
theorem OneOk.turn {x : S43} (h : OneOk x) (p : Int) (ks : List Int) (hk : x.f5.length ≠ 0 ∨ ks.length = 0 ∨ x.f0 = 1 ∨ x.f0 = 2) : OneOk ⟨x.f0, x.f1, x.f2, x.f3, p, ks⟩ := by
  obtain ⟨h1, h2, h3, h4, h5, h6, h7⟩ := h
  exact ⟨h1, h2, bare_kids h3 hk, h4, h5, h6, h7⟩
/-- Two nodes written anew. -/
theorem rd_two (l : List S43) {p x : Int} (hp : In l.length p) (hx : In l.length x) (y z : S43) (j : Int) (hj : 0 ≤ j) : rd_T43 ((l.set p.toNat y).set x.toNat z) j = if j = x then z else if j = p then y else rd_T43 l j := by
  have hx' : In (l.set p.toNat y).length x := by rw [List.length_set]; exact hx
  have h1 := hp.1
  have h2 := hx.1
  rw [rd_set2 _ hx', rd_set2 l hp]
  by_cases e : j = x
  · rw [if_pos e, if_pos (by rw [e])]
  · rw [if_neg e, if_neg (by omega)]
    by_cases e2 : j = p
    · rw [if_pos e2, if_pos (by rw [e2])]
    · rw [if_neg e2, if_neg (by omega)]
theorem DocOk.remove (h : DocOk l) {x p : Int} (hx : In l.length x) (hk : (rd_T43 l x).f0 ≠ 1) (hp : par l x = p) (hp0 : 0 ≤ p) {i : Nat} (hi : i < (kids l p).length) (hix : (kids l p)[i] = x) :
    DocOk ((l.set p.toNat { rd_T43 l p with f5 := (kids l p).eraseIdx i }).set x.toNat { rd_T43 l x with f4 := -1 }) := by
  have hw := h.wf
  have hpi : In l.length p := by rw [← hp] at hp0 ⊢; exact DocT.WFin hw hx hp0
  have hx0 : x ≠ 0 := fun e => hk ((h.kind x hx).2 e)
  have hxp : x ≠ p := fun e => by
    have hd := hw.dep x hx.1 hx.2
    obtain ⟨d, _, hd⟩ := hd
    have : ∀ d, Dep (par l) x d → False := by
      intro d
      induction d with
      | zero => intro hd; cases hd with | top h => omega
      | succ d ih =>
        intro hd
        cases hd with
        | up h0 hd => rw [hp, ← e] at hd; exact ih hd
    exact this d hd
  have hrd := rd_two l hpi hx { rd_T43 l p with f5 := (kids l p).eraseIdx i } { rd_T43 l x with f4 := -1 }
  have hlen : ((l.set p.toNat { rd_T43 l p with f5 := (kids l p).eraseIdx i }).set x.toNat { rd_T43 l x with f4 := -1 }).length = l.length := by rw [List.length_set, List.length_set]
  generalize hl' : (l.set p.toNat { rd_T43 l p with f5 := (kids l p).eraseIdx i }).set x.toNat { rd_T43 l x with f4 := -1 } = l' at *
  have hkind : ∀ j, 0 ≤ j → (rd_T43 l' j).f0 = (rd_T43 l j).f0 := fun j hj => by
    rw [hrd j hj]
    split
    · next e => rw [e]
    · split
      · next e => rw [e]
      · rfl
  have hnd := hw.nodup p hpi.1 hpi.2
  have hkids : ∀ j, In l.length j → kids l' j = if j = p then (kids l p).eraseIdx i else kids l j := fun j hj => by
    show (rd_T43 l' j).f5 = _
    rw [hrd j hj.1]
    by_cases e : j = x
    · rw [if_pos e, if_neg (fun e2 => hxp (e.symm.trans e2))]
      show (rd_T43 l x).f5 = kids l j
      rw [e]
    · rw [if_neg e]
      split
      · rfl
      · rfl
  have hsub : ∀ j, In l.length j → ∀ k, k ∈ kids l' j ↔ k ∈ kids l j ∧ ¬ (j = p ∧ k = x) := fun j hj k => by
    rw [hkids j hj]
    by_cases e : j = p
    · rw [if_pos e, mem_eraseIdx_nodup hnd hi, hix, e]
      exact ⟨fun h => ⟨h.1, fun h2 => h.2 h2.2⟩, fun h => ⟨h.1, fun h2 => h.2 ⟨rfl, h2⟩⟩⟩
    · rw [if_neg e]
      exact ⟨fun h => ⟨h, fun h2 => e h2.1⟩, fun h => h.1⟩
  refine ⟨by rw [hlen]; exact h.len, ?_, fun j hj => ?_, fun j hj => ?_, fun k hk' => ?_⟩
  · rw [hlen]
    refine WF.remove hw hx hx0 hp hp0 (fun j hj => ?_) (fun j hj => ⟨hsub j hj, ?_⟩)
    · show (rd_T43 l' j).f4 = _
      rw [hrd j hj.1]
      split
      · rfl
      · split
        · next e => rw [e]
        · rfl
    · rw [hkids j hj]
      split
      · exact hnd.sublist (List.eraseIdx_sublist _ _)
      · exact hw.nodup j hj.1 hj.2
  · rw [hlen] at hj
    rw [hkind j hj.1]
    exact h.kind j hj
  · rw [hlen] at hj
    rw [hrd j hj.1]
    split
    · exact (one_iff _).2 ((h.oneOk hx).turn (-1) _ (by
        by_cases e : (rd_T43 l x).f5.length = 0
        · exact .inr (.inl e)
        · exact .inl e))
    · split
      · exact (one_iff _).2 ((h.oneOk hpi).turn _ _ (.inl (by show (kids l p).length ≠ 0; omega)))
      · exact h.one j hj
  · have h00 : In l.length 0 := ⟨Int.le_refl _, by have := hw.pos; omega⟩
    have hk2 := ((hsub 0 h00 k).1 hk').1
    rw [hkind k (hw.kid_in h00 hk2).1.1]
    exact h.top k hk2
theorem rd_snoc (l : List S43) (y : S43) (j : Int) (h0 : 0 ≤ j) : rd_T43 (l ++ [y]) j = if j = l.length then y else rd_T43 l j := by
  unfold rd_T43
  rw [List.getD_eq_getElem?_getD, List.getD_eq_getElem?_getD]
  by_cases e : j = l.length
  · rw [if_pos e, List.getElem?_append_right (by omega), show j.toNat - l.length = 0 from by omega]; rfl
  · rw [if_neg e]
    by_cases h1 : j.toNat < l.length
    · rw [List.getElem?_append_left h1]
    · rw [List.getElem?_eq_none (by rw [List.length_append, List.length_singleton]; omega), List.getElem?_eq_none (by omega)]
theorem DocOk.make (h : DocOk l) (hl : l.length < 200) {y : S43} (hy : OneOk y) (h1 : y.f0 ≠ 1) (h4 : y.f4 = -1) (h5 : y.f5 = []) : DocOk (l ++ [y]) := by
  have hw := h.wf
  have hlen : (l ++ [y]).length = l.length + 1 := by rw [List.length_append, List.length_singleton]
  have hin : ∀ j, In (l ++ [y]).length j → j = l.length ∨ In l.length j := fun j hj => by
    have h1 := hj.1
    have h2 := hj.2
    rw [hlen] at h2
    by_cases e : j = l.length
    · exact .inl e
    · exact .inr ⟨h1, by omega⟩
  have hold : ∀ j, In l.length j → rd_T43 (l ++ [y]) j = rd_T43 l j := fun j hj => by
    rw [rd_snoc l y j hj.1, if_neg (by have := hj.2; omega)]
  have hnew : rd_T43 (l ++ [y]) (l.length : Int) = y := by rw [rd_snoc l y _ (by omega), if_pos rfl]
  refine ⟨by rw [hlen]; omega, ?_, fun j hj => ?_, fun j hj => ?_, fun k hk => ?_⟩
  · rw [hlen]
    refine WF.make hw (fun j hj => ⟨?_, ?_⟩) ?_ ?_
    · show (rd_T43 (l ++ [y]) j).f4 = _
      rw [hold j hj]
    · show (rd_T43 (l ++ [y]) j).f5 = _
      rw [hold j hj]
    · show (rd_T43 (l ++ [y]) (l.length : Int)).f4 = _
      rw [hnew, h4]
    · show (rd_T43 (l ++ [y]) (l.length : Int)).f5 = _
      rw [hnew, h5]
  · rcases hin j hj with e | e
    · rw [e, hnew]
      have := hw.pos
      exact ⟨fun h => absurd h h1, fun h => by omega⟩
    · rw [hold j e]; exact h.kind j e
  · rcases hin j hj with e | e
    · rw [e, hnew]; exact (one_iff y).2 hy
    · rw [hold j e]; exact h.one j e
  · have h00 : In l.length 0 := ⟨Int.le_refl _, by have := hw.pos; omega⟩
    have hk2 : k ∈ kids l 0 := by
      have : kids (l ++ [y]) 0 = kids l 0 := by
        show (rd_T43 (l ++ [y]) 0).f5 = _
        rw [hold 0 h00]
      rw [← this]; exact hk
    rw [hold k (hw.kid_in h00 hk2).1]
    exact h.top k hk2
theorem DocOk.insert (h : DocOk l) {i j : Int} {di : Nat} (hi : In l.length i) (hj : In l.length j) (hki : (rd_T43 l i).f0 = 1 ∨ (rd_T43 l i).f0 = 2) (hkj : (rd_T43 l j).f0 ≠ 1) (htx : ¬ ((rd_T43 l i).f0 = 1 ∧ (rd_T43 l j).f0 = 3))
    (hpj : par l j < 0) (hdi : Dep (par l) i di) (hnu : ¬ Under (par l) j i) (hdeep : ∀ k, In l.length k → Under (par l) j k → ∀ e, Dep (par l) k e → e + 1 + di ≤ 40) (ks : List Int) (hks : (∀ k, k ∈ ks ↔ k ∈ kids l i ∨ k = j) ∧ ks.Nodup) :
    DocOk ((l.set i.toNat { rd_T43 l i with f5 := ks }).set j.toNat { rd_T43 l j with f4 := i }) := by
  have hw := h.wf
  have hj0 : j ≠ 0 := fun e => hkj ((h.kind j hj).2 e)
  have hij : j ≠ i := fun e => hnu (by rw [e]; exact .refl)
  have hrd := rd_two l hi hj { rd_T43 l i with f5 := ks } { rd_T43 l j with f4 := i }
  have hlen : ((l.set i.toNat { rd_T43 l i with f5 := ks }).set j.toNat { rd_T43 l j with f4 := i }).length = l.length := by rw [List.length_set, List.length_set]
  generalize hl' : (l.set i.toNat { rd_T43 l i with f5 := ks }).set j.toNat { rd_T43 l j with f4 := i } = l' at *
  have hkind : ∀ a, 0 ≤ a → (rd_T43 l' a).f0 = (rd_T43 l a).f0 := fun a ha => by
    rw [hrd a ha]
    split
    · next e => rw [e]
    · split
      · next e => rw [e]
      · rfl
  have hkids : ∀ a, In l.length a → kids l' a = if a = i then ks else kids l a := fun a ha => by
    show (rd_T43 l' a).f5 = _
    rw [hrd a ha.1]
    by_cases e : a = j
    · rw [if_pos e, if_neg (fun e2 => hij (e.symm.trans e2))]
      show (rd_T43 l j).f5 = kids l a
      rw [e]
    · rw [if_neg e]
      split
      · rfl
      · rfl
  have hsub : ∀ a, In l.length a → ∀ k, k ∈ kids l' a ↔ k ∈ kids l a ∨ (a = i ∧ k = j) := fun a ha k => by
    rw [hkids a ha]
    by_cases e : a = i
    · rw [if_pos e, hks.1 k, e]
      exact ⟨fun h => h.imp id (fun h => ⟨rfl, h⟩), fun h => h.imp id (fun h => h.2)⟩
    · rw [if_neg e]
      exact ⟨fun h => .inl h, fun h => h.elim id (fun h => absurd h.1 e)⟩
  refine ⟨by rw [hlen]; exact h.len, ?_, fun a ha => ?_, fun a ha => ?_, fun k hk' => ?_⟩
  · rw [hlen]
    refine WF.insert hw hi hj hj0 hpj hdi hnu hdeep (fun a ha => ?_) (fun a ha => ⟨hsub a ha, ?_⟩)
    · show (rd_T43 l' a).f4 = _
      rw [hrd a ha.1]
      split
      · rfl
      · split
        · next e => rw [e]
        · rfl
    · rw [hkids a ha]
      split
      · exact hks.2
      · exact hw.nodup a ha.1 ha.2
  · rw [hlen] at ha
    rw [hkind a ha.1]
    exact h.kind a ha
  · rw [hlen] at ha
    rw [hrd a ha.1]
    split
    · exact (one_iff _).2 ((h.oneOk hj).turn i _ (by
        by_cases e : (rd_T43 l j).f5.length = 0
        · exact .inr (.inl e)
        · exact .inl e))
    · split
      · exact (one_iff _).2 ((h.oneOk hi).turn _ _ (.inr (.inr hki)))
      · exact h.one a ha
  · have h00 : In l.length 0 := ⟨Int.le_refl _, by have := hw.pos; omega⟩
    rcases (hsub 0 h00 k).1 hk' with hk2 | ⟨e1, e2⟩
    · rw [hkind k (hw.kid_in h00 hk2).1.1]
      exact h.top k hk2
    · rw [e2, hkind j hj.1]
      exact fun h3 => htx ⟨by rw [← e1]; exact (h.kind 0 h00).2 rfl, h3⟩
end
end Go.Proofs.YtmcinclecpeakaaGreatDoor.DocC
