/- Package entity, plain: what is escaped is read again. -/
import Derived.Test.YtjhamomdlpoilabDoorEntPlain
import Derived.Test.YtjhamomdlpoilabDoorRepl
namespace Go.Proofs.YtjhamomdlpoilabDoor.Ent
set_option linter.unusedVariables false
set_option linter.unusedSimpArgs false

def tAmp : List UInt8 := [38, 97, 109, 112, 59]
def tLt : List UInt8 := [38, 108, 116, 59]
def tGt : List UInt8 := [38, 103, 116, 59]
def tQuot : List UInt8 := [38, 113, 117, 111, 116, 59]
def tNbsp : List UInt8 := [38, 110, 98, 115, 112, 59]
/-- The two bytes of the blank that is not broken; each other byte by h. -/
def escG (h : UInt8 → List UInt8) : List UInt8 → List UInt8
  | [] => []
  | [b] => h b
  | b :: c :: t => if b = 194 ∧ c = 160 then tNbsp ++ escG h t else h b ++ escG h (c :: t)
def fOne (c : UInt8) (new : List UInt8) (b : UInt8) : List UInt8 := if b = c then new else [b]
theorem subst_one (c : UInt8) (new : List UInt8) : ∀ (n : Nat) (s : List UInt8), s.length ≤ n → subst [c] new n s = s.flatMap (fOne c new)
  | 0, s, h => by obtain rfl := List.eq_nil_of_length_eq_zero (Nat.le_zero.1 h); rfl
  | n + 1, [], _ => rfl
  | n + 1, b :: t, h => by
    simp only [subst, List.flatMap_cons]
    have ih := subst_one c new n t (by simpa using h)
    by_cases hb : b = c
    · subst hb
      rw [if_pos (by simp [List.isPrefixOf])]
      simp only [List.length_singleton, List.drop_succ_cons, List.drop_zero, fOne, if_true]
      rw [ih]
    · rw [if_neg (by simp [List.isPrefixOf]; exact fun e => hb e.symm)]
      simp only [fOne]
      rw [if_neg hb, ih]
      rfl
def S2 (s : List UInt8) : List UInt8 := subst [194, 160] tNbsp s.length s
theorem S2_no (b : UInt8) (t : List UInt8) (h : ¬ List.isPrefixOf [194, 160] (b :: t) = true) : S2 (b :: t) = b :: S2 t := by
  unfold S2
  simp only [List.length_cons, subst]
  rw [if_neg h]
theorem S2_yes (t : List UInt8) : S2 (194 :: 160 :: t) = tNbsp ++ S2 t := by
  unfold S2
  simp only [List.length_cons, subst]
  rw [if_pos (by simp [List.isPrefixOf])]
  simp only [List.length_cons, List.length_nil, List.drop_succ_cons, List.drop_zero]
  rw [subst_fuel (by decide) (t.length + 1) t.length t (by omega) (Nat.le_refl _)]
theorem S2_pass : ∀ (x t : List UInt8), (∀ b ∈ x, b ≠ 194) → S2 (x ++ t) = x ++ S2 t
  | [], t, _ => rfl
  | b :: x, t, h => by
    rw [List.cons_append, S2_no, S2_pass x t (fun y hy => h y (List.mem_cons_of_mem _ hy)), List.cons_append]
    have hb := h b (by simp)
    cases hx : x ++ t with
    | nil => simp [List.isPrefixOf]
    | cons a l => simp [List.isPrefixOf]; intro e; exact absurd e.symm hb
theorem S2_flat : ∀ s : List UInt8, S2 (s.flatMap (fOne 38 tAmp)) = escG (fOne 38 tAmp) s
  | [] => rfl
  | [b] => by
    simp only [List.flatMap_cons, List.flatMap_nil, List.append_nil, escG]
    by_cases hb : b = 38
    · subst hb; rfl
    · simp only [fOne]; rw [if_neg hb, S2_no _ _ (by simp [List.isPrefixOf])]; rfl
  | b :: c :: t => by
    have ih1 := S2_flat t
    have ih2 := S2_flat (c :: t)
    by_cases hbc : b = 194 ∧ c = 160
    · obtain ⟨rfl, rfl⟩ := hbc
      simp only [escG]
      rw [if_pos ⟨trivial, trivial⟩, ← ih1, ← S2_yes]
      rfl
    · simp only [escG]
      rw [if_neg hbc, ← ih2, List.flatMap_cons]
      by_cases hb : b = 38
      · subst hb
        rw [show fOne 38 tAmp 38 = tAmp from rfl, S2_pass _ _ (by decide)]
      · rw [show fOne 38 tAmp b = [b] by unfold fOne; rw [if_neg hb], List.singleton_append, S2_no]
        · rfl
        · simp only [List.flatMap_cons]
          intro e
          by_cases hc : c = 38
          · subst hc
            rw [show fOne 38 tAmp 38 = tAmp from rfl] at e
            simp [tAmp, List.isPrefixOf] at e
          · rw [show fOne 38 tAmp c = [c] by unfold fOne; rw [if_neg hc]] at e
            simp [List.isPrefixOf] at e
            exact hbc ⟨e.1.symm, e.2.symm⟩
theorem escG_flat (h f : UInt8 → List UInt8) (hn : tNbsp.flatMap f = tNbsp) : ∀ s : List UInt8, (escG h s).flatMap f = escG (fun b => (h b).flatMap f) s
  | [] => rfl
  | [b] => rfl
  | b :: c :: t => by
    simp only [escG]
    split
    · rw [List.flatMap_append, hn, escG_flat h f hn t]
    · rw [List.flatMap_append, escG_flat h f hn (c :: t)]
theorem escG_all (h : UInt8 → List UInt8) (P : UInt8 → Prop) (hn : ∀ x ∈ tNbsp, P x) (hh : ∀ b, ∀ x ∈ h b, P x) : ∀ s : List UInt8, ∀ x ∈ escG h s, P x
  | [], x, hx => by simp [escG] at hx
  | [b], x, hx => hh b x hx
  | b :: c :: t, x, hx => by
    simp only [escG] at hx
    split at hx
    · rcases List.mem_append.1 hx with hx | hx
      · exact hn x hx
      · exact escG_all h P hn hh t x hx
    · rcases List.mem_append.1 hx with hx | hx
      · exact hh b x hx
      · exact escG_all h P hn hh (c :: t) x hx
theorem escG_le (h : UInt8 → List UInt8) (hh : ∀ b, (h b).length ≤ 6) : ∀ s : List UInt8, (escG h s).length ≤ 6 * s.length
  | [] => by simp [escG]
  | [b] => by have := hh b; simp only [escG, List.length_singleton]; omega
  | b :: c :: t => by
    have h1 := escG_le h hh t
    have h2 := escG_le h hh (c :: t)
    have h3 := hh b
    simp only [escG, List.length_cons] at h2 ⊢
    split
    · rw [List.length_append, show tNbsp.length = 6 from rfl]; omega
    · rw [List.length_append]; omega

/-- Is a name of the table the word, wherever the word stands ahead of a semicolon? -/
def ck (w : List UInt8) (x : Nm) : Bool :=
  if x.word.data.toList.length ≤ w.length + 1 then x.word.data.toList.isPrefixOf (w ++ [59]) == (x.word.data.toList == w) else !(w ++ [59]).isPrefixOf x.word.data.toList
theorem pre_short : ∀ (p q t : List UInt8), p.length ≤ q.length → p.isPrefixOf (q ++ t) = p.isPrefixOf q
  | [], q, t, _ => by simp [List.isPrefixOf]
  | a :: p, [], t, h => by simp at h
  | a :: p, b :: q, t, h => by
    simp only [List.cons_append, List.isPrefixOf]
    rw [pre_short p q t (by simpa using h)]
theorem pre_long : ∀ (p q t : List UInt8), q.length ≤ p.length → q.isPrefixOf p = false → p.isPrefixOf (q ++ t) = false
  | p, [], t, _, h => by simp [List.isPrefixOf] at h
  | [], b :: q, t, h, _ => by simp at h
  | a :: p, b :: q, t, hl, h => by
    simp only [List.cons_append, List.isPrefixOf] at h ⊢
    by_cases e : a = b
    · subst e
      simp only [beq_self_eq_true, Bool.true_and] at h ⊢
      exact pre_long p q t (by simpa using hl) h
    · rw [beq_eq_false_iff_ne.2 e]; rfl
theorem hit_tok (w t : List UInt8) (s : ByteArray) (hs : s.data.toList = 38 :: (w ++ 59 :: t)) (x : Nm) (h : ck w x = true) : hitF s x = (x.word.data.toList == w) := by
  have e : s.data.toList.drop 1 = (w ++ [59]) ++ t := by rw [hs]; simp
  unfold hitF Lib.hasPrefix
  rw [e]
  unfold ck at h
  split at h
  · rename_i hl
    rw [pre_short _ _ _ (by rw [List.length_append, List.length_singleton]; exact hl)]
    exact beq_iff_eq.1 h
  · rename_i hl
    rw [pre_long _ _ _ (by rw [List.length_append, List.length_singleton]; omega) (by simpa using h)]
    symm
    rw [beq_eq_false_iff_ne]
    intro e2
    rw [e2] at hl
    omega
def stepG (w : List UInt8) (st : List UInt8 × Nat) (x : Nm) : List UInt8 × Nat :=
  if x.word.data.toList == w then (if w.length + 2 ≤ st.2 then st else (signF x.sign, w.length + 2)) else st
theorem step_tok (w t : List UInt8) (s : ByteArray) (hs : s.data.toList = 38 :: (w ++ 59 :: t)) (x : Nm) (h : ck w x = true) (st : List UInt8 × Nat) : stepF s st x = stepG w st x := by
  unfold stepF stepG
  rw [hit_tok w t s hs x h]
  by_cases hx : (x.word.data.toList == w) = true
  · rw [hx]
    simp only [if_true]
    have hw : x.word.data.toList = w := beq_iff_eq.1 hx
    have hz : x.word.size = w.length := by rw [← hw, len_data]
    have hsem : semF s (x.word.size + 1) = w.length + 2 := by
      unfold semF
      rw [hz, hs, if_pos]
      rw [List.getElem?_cons_succ, List.getElem?_append_right (Nat.le_refl _)]
      simp
    rw [hsem, hz]
    by_cases h2 : w.length + 2 ≤ st.2
    · rw [if_pos (.inr h2), if_pos h2]
    · rw [if_neg (by rintro (⟨a, _⟩ | a) <;> omega), if_neg h2]
  · have hx : (x.word.data.toList == w) = false := by simpa using hx
    rw [hx]
    rfl
theorem fold_same {α β : Type} (f g : β → α → β) : ∀ (l : List α) (st : β), (∀ x ∈ l, ∀ st, f st x = g st x) → l.foldl f st = l.foldl g st
  | [], st, _ => rfl
  | x :: l, st, h => by
    rw [List.foldl_cons, List.foldl_cons, h x (by simp) st]
    exact fold_same f g l _ (fun y hy => h y (List.mem_cons_of_mem _ hy))
theorem find_tok (attr : Bool) (w t sg : List UInt8) (c : UInt8) (r : List UInt8) (hw : w = c :: r) (hc : c ≠ 35) (hck : tab.all (ck w) = true) (hf : tab.foldl (stepG w) ([], 0) = (sg, w.length + 2)) (s : ByteArray) (hs : s.data.toList = 38 :: (w ++ 59 :: t)) :
    findF s attr = (sg, w.length + 2) := by
  have hfold : foldF s 48 = (sg, w.length + 2) := by
    unfold foldF
    rw [List.take_of_length_le (by rw [tab_len]; decide), ← hf]
    exact fold_same _ _ _ _ (fun x hx st => step_tok w t s hs x (List.all_eq_true.1 hck x hx) st)
  have h0 : s.data.toList[0]? = some 38 := by rw [hs]; rfl
  have h1 : s.data.toList[1]? = some c := by rw [hs, hw]; rfl
  unfold findF
  rw [h0, h1, if_pos rfl, if_neg (by intro e; exact hc (Option.some.inj e)), namedF_eq, hfold]
  have h59 : s.data.toList[w.length + 2 - 1]? = some 59 := by
    rw [hs, show w.length + 2 - 1 = w.length + 1 by omega, List.getElem?_cons_succ, List.getElem?_append_right (Nat.le_refl _)]
    simp
  rw [if_neg]
  rintro ⟨_, _, a, _⟩
  exact a h59
def R (attr : Bool) (l : List UInt8) : List UInt8 := readF attr ⟨l.toArray⟩
theorem mk_data (s : ByteArray) : (ByteArray.mk s.data.toList.toArray) = s := by
  apply data_inj
  simp
theorem R_nil (attr : Bool) : R attr [] = [] := readF_nil attr _ rfl
theorem R_plain (attr : Bool) (b : UInt8) (t : List UInt8) (h : b ≠ 38) : R attr (b :: t) = b :: R attr t := by
  have := readF_plain attr [b] ⟨(b :: t).toArray⟩ ⟨t.toArray⟩ (by intro x hx; rw [List.mem_singleton.1 hx]; exact h) (by simp)
  exact this
theorem R_tok (attr : Bool) (w sg : List UInt8) (c : UInt8) (r : List UInt8) (hw : w = c :: r) (hc : c ≠ 35) (hck : tab.all (ck w) = true) (hf : tab.foldl (stepG w) ([], 0) = (sg, w.length + 2)) (t : List UInt8) :
    R attr (38 :: (w ++ 59 :: t)) = sg ++ R attr t := by
  have hs : (ByteArray.mk (38 :: (w ++ 59 :: t)).toArray).data.toList = 38 :: (w ++ 59 :: t) := by simp
  have hfd := find_tok attr w t sg c r hw hc hck hf _ hs
  unfold R
  rw [readF_cons attr _ (by rw [← len_data, hs]; simp), hfd, if_neg (by simp)]
  congr 2
  apply data_inj
  rw [ext_data, hs]
  simp only [show w.length + 2 = (w.length + 1) + 1 by omega, List.drop_succ_cons]
  rw [List.drop_append, List.drop_of_length_le (by omega)]
  simp
theorem R_amp (attr : Bool) (t : List UInt8) : R attr (tAmp ++ t) = 38 :: R attr t := R_tok attr [97, 109, 112] [38] 97 [109, 112] rfl (by decide) (by decide +kernel) (by decide +kernel) t
theorem R_lt (attr : Bool) (t : List UInt8) : R attr (tLt ++ t) = 60 :: R attr t := R_tok attr [108, 116] [60] 108 [116] rfl (by decide) (by decide +kernel) (by decide +kernel) t
theorem R_gt (attr : Bool) (t : List UInt8) : R attr (tGt ++ t) = 62 :: R attr t := R_tok attr [103, 116] [62] 103 [116] rfl (by decide) (by decide +kernel) (by decide +kernel) t
theorem R_quot (attr : Bool) (t : List UInt8) : R attr (tQuot ++ t) = 34 :: R attr t := R_tok attr [113, 117, 111, 116] [34] 113 [117, 111, 116] rfl (by decide) (by decide +kernel) (by decide +kernel) t
theorem R_nbsp (attr : Bool) (t : List UInt8) : R attr (tNbsp ++ t) = 194 :: 160 :: R attr t := R_tok attr [110, 98, 115, 112] [194, 160] 110 [98, 115, 112] rfl (by decide) (by decide +kernel) (by decide +kernel) t
/-- What is escaped is read again. -/
theorem R_esc (attr : Bool) (h : UInt8 → List UInt8) (hh : ∀ b t, R attr (h b ++ t) = b :: R attr t) : ∀ s : List UInt8, R attr (escG h s) = s
  | [] => R_nil attr
  | [b] => by
    have := hh b []
    rw [List.append_nil, R_nil] at this
    exact this
  | b :: c :: t => by
    simp only [escG]
    split
    · rename_i e
      obtain ⟨rfl, rfl⟩ := e
      rw [R_nbsp, R_esc attr h hh t]
    · rw [hh, R_esc attr h hh (c :: t)]
/-- A text's bytes, escaped; a value's. -/
def hT (b : UInt8) : List UInt8 := ((fOne 38 tAmp b).flatMap (fOne 60 tLt)).flatMap (fOne 62 tGt)
def hV (b : UInt8) : List UInt8 := (fOne 38 tAmp b).flatMap (fOne 34 tQuot)
theorem hT_cases (b : UInt8) : (b = 38 ∧ hT b = tAmp) ∨ (b = 60 ∧ hT b = tLt) ∨ (b = 62 ∧ hT b = tGt) ∨ (b ≠ 38 ∧ b ≠ 60 ∧ b ≠ 62 ∧ hT b = [b]) := by
  by_cases h1 : b = 38
  · subst h1; exact .inl ⟨rfl, by decide⟩
  · by_cases h2 : b = 60
    · subst h2; exact .inr (.inl ⟨rfl, by decide⟩)
    · by_cases h3 : b = 62
      · subst h3; exact .inr (.inr (.inl ⟨rfl, by decide⟩))
      · refine .inr (.inr (.inr ⟨h1, h2, h3, ?_⟩))
        simp [hT, fOne, h1, h2, h3]
theorem hV_cases (b : UInt8) : (b = 38 ∧ hV b = tAmp) ∨ (b = 34 ∧ hV b = tQuot) ∨ (b ≠ 38 ∧ b ≠ 34 ∧ hV b = [b]) := by
  by_cases h1 : b = 38
  · subst h1; exact .inl ⟨rfl, by decide⟩
  · by_cases h2 : b = 34
    · subst h2; exact .inr (.inl ⟨rfl, by decide⟩)
    · refine .inr (.inr ⟨h1, h2, ?_⟩)
      simp [hV, fOne, h1, h2]
def escT (s : List UInt8) : List UInt8 := escG hT s
def escV (s : List UInt8) : List UInt8 := escG hV s
theorem escT_read (attr : Bool) (s : List UInt8) : R attr (escT s) = s := R_esc attr hT (fun b t => by
  rcases hT_cases b with ⟨rfl, e⟩ | ⟨rfl, e⟩ | ⟨rfl, e⟩ | ⟨h1, _, _, e⟩
  · rw [e]; exact R_amp attr t
  · rw [e]; exact R_lt attr t
  · rw [e]; exact R_gt attr t
  · rw [e]; exact R_plain attr b t h1) s
theorem escV_read (attr : Bool) (s : List UInt8) : R attr (escV s) = s := R_esc attr hV (fun b t => by
  rcases hV_cases b with ⟨rfl, e⟩ | ⟨rfl, e⟩ | ⟨h1, _, e⟩
  · rw [e]; exact R_amp attr t
  · rw [e]; exact R_quot attr t
  · rw [e]; exact R_plain attr b t h1) s
theorem escT_none (s : List UInt8) : ∀ x ∈ escT s, x ≠ 60 ∧ x ≠ 62 := escG_all hT (fun x => x ≠ 60 ∧ x ≠ 62) (by decide) (fun b => by
  rcases hT_cases b with ⟨rfl, e⟩ | ⟨rfl, e⟩ | ⟨rfl, e⟩ | ⟨_, h2, h3, e⟩
  · rw [e]; decide
  · rw [e]; decide
  · rw [e]; decide
  · rw [e]; intro x hx; rw [List.mem_singleton.1 hx]; exact ⟨h2, h3⟩) s
theorem escV_none (s : List UInt8) : ∀ x ∈ escV s, x ≠ 34 := escG_all hV (fun x => x ≠ 34) (by decide) (fun b => by
  rcases hV_cases b with ⟨rfl, e⟩ | ⟨rfl, e⟩ | ⟨_, h2, e⟩
  · rw [e]; decide
  · rw [e]; decide
  · rw [e]; intro x hx; rw [List.mem_singleton.1 hx]; exact h2) s
theorem escT_le (s : List UInt8) : (escT s).length ≤ 6 * s.length := escG_le hT (fun b => by
  rcases hT_cases b with ⟨rfl, e⟩ | ⟨rfl, e⟩ | ⟨rfl, e⟩ | ⟨_, _, _, e⟩ <;> rw [e] <;> simp [tAmp, tLt, tGt]) s
theorem escV_le (s : List UInt8) : (escV s).length ≤ 6 * s.length := escG_le hV (fun b => by
  rcases hV_cases b with ⟨rfl, e⟩ | ⟨rfl, e⟩ | ⟨_, _, e⟩ <;> rw [e] <;> simp [tAmp, tQuot]) s
/-- The chains of strings.ReplaceAll. -/
def r1 (s : List UInt8) : List UInt8 := Lib.replaceAll s [38] tAmp
def r2 (s : List UInt8) : List UInt8 := Lib.replaceAll (r1 s) [194, 160] tNbsp
theorem r1_eq (s : List UInt8) : r1 s = s.flatMap (fOne 38 tAmp) := by
  unfold r1
  rw [replaceAll_subst (by decide) (by decide), subst_one _ _ _ _ (Nat.le_refl _)]
theorem r2_eq (s : List UInt8) : r2 s = escG (fOne 38 tAmp) s := by
  unfold r2
  rw [replaceAll_subst (by decide) (by decide), r1_eq]
  exact S2_flat s
theorem rT_eq (s : List UInt8) : Lib.replaceAll (Lib.replaceAll (r2 s) [60] tLt) [62] tGt = escT s := by
  rw [replaceAll_subst (old := [60]) (by decide) (by decide), subst_one _ _ _ _ (Nat.le_refl _), replaceAll_subst (by decide) (by decide), subst_one _ _ _ _ (Nat.le_refl _), r2_eq, escG_flat _ _ (by decide), escG_flat _ _ (by decide)]
  rfl
theorem rV_eq (s : List UInt8) : Lib.replaceAll (r2 s) [34] tQuot = escV s := by
  rw [replaceAll_subst (by decide) (by decide), subst_one _ _ _ _ (Nat.le_refl _), r2_eq, escG_flat _ _ (by decide)]
  rfl
end Go.Proofs.YtjhamomdlpoilabDoor.Ent
