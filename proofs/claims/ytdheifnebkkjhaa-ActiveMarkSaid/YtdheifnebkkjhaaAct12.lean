/- Law ActiveArk: the plain side: never four alike behind a marker. -/
import Derived.Test.YtdheifnebkkjhaaAct10
namespace Go.Proofs.Ytdheifnebkkjhaa.Act
open Go.RowKit Go.Proofs.YtdheifnebkkjhaaW.PrintWords
set_option linter.unusedVariables false
set_option linter.unusedSimpArgs false

def nmB (s : List UInt8) (y : Sk) : Bool := y.2.1.toList == s
/-- Of no name are four in a row without a marker. -/
def Thr (L : List Sk) : Prop := ∀ a b c : List Sk, L = a ++ b ++ c → (∀ x ∈ b, x.1 ≠ -1) → ∀ s, b.countP (nmB s) ≤ 3
theorem lastSK_no (L : List Sk) : ∀ k j, lastSK L k ≤ j → j < k → (L.getD j zSk).1 ≠ -1
  | 0, j, _, h => absurd h (Nat.not_lt_zero _)
  | k + 1, j, h1, h2 => by
    simp only [lastSK] at h1
    split at h1
    · omega
    · next hne =>
      rcases Nat.lt_or_eq_of_le (Nat.le_of_lt_succ h2) with h | h
      · exact lastSK_no L k j h1 h
      · subst h; simpa using hne
theorem lastSK_is (L : List Sk) : ∀ k, lastSK L k = 0 ∨ (L.getD (lastSK L k - 1) zSk).1 = -1
  | 0 => .inl rfl
  | k + 1 => by
    simp only [lastSK]
    split
    · next h => exact .inr (by simpa using h)
    · exact lastSK_is L k
theorem drop_last_no (L : List Sk) (m : Nat) (hm : lastS L ≤ m) : ∀ x ∈ L.drop m, x.1 ≠ -1 := by
  intro x hx
  obtain ⟨j, hj, rfl⟩ := List.getElem_of_mem hx
  rw [List.length_drop] at hj
  have := lastSK_no L L.length (m + j) (by unfold lastS at hm; omega) (by omega)
  rw [List.getD_eq_getElem?_getD, List.getElem?_eq_getElem (by omega)] at this
  simpa using this
theorem suffix_ge (L a b : List Sk) (h : L = a ++ b) (hb : ∀ x ∈ b, x.1 ≠ -1) : lastS L ≤ a.length := by
  rcases Nat.lt_or_ge a.length (lastS L) with hlt | hge
  · exfalso
    have hle := lastS_le L
    rcases lastSK_is L L.length with h0 | h0
    · unfold lastS at hlt; omega
    · have hi : lastS L - 1 < L.length := by omega
      have e : L.getD (lastS L - 1) zSk = L[lastS L - 1] := by rw [List.getD_eq_getElem?_getD, List.getElem?_eq_getElem hi]; rfl
      change (L.getD (lastS L - 1) zSk).1 = -1 at h0
      rw [e] at h0
      refine hb _ ?_ h0
      have : L[lastS L - 1] = b[lastS L - 1 - a.length]'(by have hl := congrArg List.length h; rw [List.length_append] at hl; omega) := by
        subst h
        rw [List.getElem_append_right (by omega)]
      rw [this]
      exact List.getElem_mem _
  · exact hge
theorem filter_range (p : Sk → Bool) : ∀ (d : Nat) (L : List Sk) (m : Nat), d = L.length - m → ((List.range' m d).filter fun i => p (L.getD i zSk)).length = (L.drop m).countP p
  | 0, L, m, h => by
    rw [List.drop_of_length_le (by omega)]
    rfl
  | d + 1, L, m, h => by
    have hm : m < L.length := by omega
    rw [List.range'_succ, List.drop_eq_getElem_cons hm, List.countP_cons, List.filter_cons, ← filter_range p d L (m + 1) (by omega)]
    have e : L.getD m zSk = L[m] := by rw [List.getD_eq_getElem?_getD, List.getElem?_eq_getElem hm]; rfl
    rw [e]
    cases p L[m] <;> simp
theorem count_drop_le (p : Sk → Bool) (L : List Sk) (m k : Nat) (h : m ≤ k) : (L.drop k).countP p ≤ (L.drop m).countP p := by
  have : L.drop k = (L.drop m).drop (k - m) := by rw [List.drop_drop]; congr 1; omega
  rw [this]
  exact List.Sublist.countP_le (List.drop_sublist _ _)
/-- What is erased leaves it so. -/
theorem Thr.erase {L : List Sk} (h : Thr L) {s0 : Nat} (hs : s0 < L.length) (hne : (L.getD s0 zSk).1 ≠ -1) : Thr (L.eraseIdx s0) := by
  intro a b c e hb s
  have hx : L = (L.eraseIdx s0).take s0 ++ (L.getD s0 zSk :: (L.eraseIdx s0).drop s0) := by
    have e1 : L.getD s0 zSk = L[s0] := by rw [List.getD_eq_getElem?_getD, List.getElem?_eq_getElem hs]; rfl
    rw [e1, List.eraseIdx_eq_take_drop_succ, List.take_append_of_le_length (by rw [List.length_take]; omega), List.take_take, Nat.min_self, List.drop_append_of_le_length (by rw [List.length_take]; omega), List.drop_of_length_le (by rw [List.length_take]; omega), List.nil_append, ← List.drop_eq_getElem_cons hs, List.take_append_drop]
  generalize L.getD s0 zSk = x at *
  rw [e] at hx
  rcases Nat.lt_or_ge s0 a.length with h1 | h1
  · refine h (a.take s0 ++ x :: a.drop s0) b c ?_ hb s
    rw [hx, List.append_assoc a, List.take_append_of_le_length (by omega), List.drop_append_of_le_length (by omega)]
    simp
  · rcases Nat.lt_or_ge s0 (a.length + b.length) with h2 | h2
    · have := h a (b.take (s0 - a.length) ++ x :: b.drop (s0 - a.length)) c (by
        rw [hx, List.append_assoc a, List.take_append, List.drop_append, List.take_of_length_le (by omega), List.drop_of_length_le (by omega), List.take_append_of_le_length (by omega), List.drop_append_of_le_length (by omega)]
        simp) (by
        intro y hy
        rcases List.mem_append.1 hy with hy | hy
        · exact hb y (List.mem_of_mem_take hy)
        · rcases List.mem_cons.1 hy with rfl | hy
          · exact hne
          · exact hb y (List.mem_of_mem_drop hy)) s
      refine Nat.le_trans (List.Sublist.countP_le ?_) this
      have h1 := List.Sublist.append (List.Sublist.refl (b.take (s0 - a.length))) (List.sublist_cons_self x (b.drop (s0 - a.length)))
      rwa [List.take_append_drop] at h1
    · refine h a b (c.take (s0 - a.length - b.length) ++ x :: c.drop (s0 - a.length - b.length)) ?_ hb s
      rw [hx, List.take_append, List.drop_append, List.take_of_length_le (by rw [List.length_append]; omega), List.drop_of_length_le (by rw [List.length_append]; omega), List.length_append]
      simp only [List.nil_append, Nat.sub_sub, List.append_assoc]
/-- One more behind a list whose last ones have at most two of its name. -/
theorem Thr.snoc {L : List Sk} {x : Sk} (h : Thr L) (h2 : x.1 ≠ -1 → ∀ a b : List Sk, L = a ++ b → (∀ y ∈ b, y.1 ≠ -1) → b.countP (nmB x.2.1.toList) ≤ 2) : Thr (L ++ [x]) := by
  intro a b c e hb s
  rcases List.eq_nil_or_concat c with rfl | ⟨c', y, rfl⟩
  · rcases List.eq_nil_or_concat b with rfl | ⟨b', y, rfl⟩
    · simp
    · rw [List.concat_eq_append] at *
      rw [List.append_nil, ← List.append_assoc] at e
      obtain ⟨e1, e2⟩ := List.append_inj' e rfl
      injection e2 with e2
      subst e2
      have hx : x.1 ≠ -1 := hb x (by simp)
      have h3 := h2 hx a b' e1 (fun y hy => hb y (by simp [hy]))
      have h4 := h a b' [] (by rw [List.append_nil]; exact e1) (fun y hy => hb y (by simp [hy])) s
      rw [List.countP_append, List.countP_singleton]
      by_cases hs : nmB s x = true
      · rw [if_pos hs]
        have : s = x.2.1.toList := by unfold nmB at hs; simpa using (eq_of_beq hs).symm
        subst this
        omega
      · rw [if_neg hs]; omega
  · rw [List.concat_eq_append, ← List.append_assoc] at e
    obtain ⟨e1, -⟩ := List.append_inj' e rfl
    exact h a b c' e1 hb s
/-- What Push leaves. -/
theorem Thr.push {L : List Sk} {x : Sk} {S : List Nat} (h : Thr L) (hg : GoodK L x S) (h0 : ∀ y ∈ L, y.2.2 = 0) (hx : x.2.2 = 0) : Thr (pushK L x S) := by
  have hS := hg.2 h0 hx
  have hcnt : S.length = (L.drop (lastS L)).countP (nmB x.2.1.toList) := by rw [hS]; exact filter_range (nmB x.2.1.toList) _ L (lastS L) rfl
  unfold pushK
  split
  · next hc =>
    obtain ⟨s0, S', rfl⟩ : ∃ s0 S', S = s0 :: S' := by cases S with | nil => simp at hc | cons a b => exact ⟨a, b, rfl⟩
    obtain ⟨hs1, hs2⟩ := hg.1 s0 (by simp)
    have hm : s0 ∈ (List.range' (lastS L) (L.length - lastS L)).filter fun i => (L.getD i zSk).2.1.toList == x.2.1.toList := by rw [← hS]; simp
    have hnm : nmB x.2.1.toList (L.getD s0 zSk) = true := (List.mem_filter.1 hm).2
    have hne : (L.getD s0 zSk).1 ≠ -1 := lastSK_no L L.length s0 hs1 hs2
    simp only [List.headD_cons]
    refine (h.erase hs2 hne).snoc (fun _ a b e hb => ?_)
    have hxx : L = (L.eraseIdx s0).take s0 ++ (L.getD s0 zSk :: (L.eraseIdx s0).drop s0) := by
      have e1 : L.getD s0 zSk = L[s0] := by rw [List.getD_eq_getElem?_getD, List.getElem?_eq_getElem hs2]; rfl
      rw [e1, List.eraseIdx_eq_take_drop_succ, List.take_append_of_le_length (by rw [List.length_take]; omega), List.take_take, Nat.min_self, List.drop_append_of_le_length (by rw [List.length_take]; omega), List.drop_of_length_le (by rw [List.length_take]; omega), List.nil_append, ← List.drop_eq_getElem_cons hs2, List.take_append_drop]
    rcases Nat.lt_or_ge s0 a.length with h1 | h1
    · -- it lay ahead of b
      have hb' := h (L.take s0) (L.drop s0) [] (by simp) (drop_last_no L s0 hs1) x.2.1.toList
      have hd : L.drop s0 = L.getD s0 zSk :: (a.drop s0 ++ b) := by
        have hl : L.drop s0 = ((L.eraseIdx s0).take s0 ++ (L.getD s0 zSk :: (L.eraseIdx s0).drop s0)).drop s0 := congrArg (List.drop s0) hxx
        rw [hl, List.drop_append_of_le_length (by rw [List.length_take, e]; simp; omega), List.drop_of_length_le (by rw [List.length_take]; omega), List.nil_append, e, List.drop_append_of_le_length (by omega)]
      rw [hd, List.countP_cons, if_pos hnm, List.countP_append] at hb'
      omega
    · -- it lay in b
      have hb' := h a (b.take (s0 - a.length) ++ L.getD s0 zSk :: b.drop (s0 - a.length)) [] (by
        rw [List.append_nil]
        refine hxx.trans ?_
        rw [e, List.take_append, List.drop_append, List.take_of_length_le (by omega), List.drop_of_length_le (by omega)]
        simp) (by
        intro y hy
        rcases List.mem_append.1 hy with hy | hy
        · exact hb y (List.mem_of_mem_take hy)
        · rcases List.mem_cons.1 hy with rfl | hy
          · exact hne
          · exact hb y (List.mem_of_mem_drop hy)) x.2.1.toList
      rw [List.countP_append, List.countP_cons, if_pos hnm] at hb'
      have : b.countP (nmB x.2.1.toList) = (b.take (s0 - a.length)).countP (nmB x.2.1.toList) + (b.drop (s0 - a.length)).countP (nmB x.2.1.toList) := by rw [← List.countP_append, List.take_append_drop]
      omega
  · next hc =>
    refine h.snoc (fun hx1 a b e hb => ?_)
    have hge := suffix_ge L a b e hb
    have hb2 : b = L.drop a.length := by rw [e, List.drop_left]
    rw [hb2]
    refine Nat.le_trans (count_drop_le _ L (lastS L) a.length hge) ?_
    rw [← hcnt]
    have : ¬ 3 ≤ S.length := fun h3 => hc ⟨hx1, h3⟩
    omega
/-- The list that the law has behind k rounds. -/
def ArkI (L : List Sk) (k : Nat) : Prop := L.length ≤ k ∧ (∀ y ∈ L, y.2.2 = 0 ∧ (y.1 = -1 → y.2.1.toList = []) ∧ -1 ≤ y.1) ∧ Thr L
theorem ok_bad {y : Sk} (h : y.2.2 = 0 ∧ (y.1 = -1 → y.2.1.toList = []) ∧ -1 ≤ y.1) : badS y = false := by
  unfold badS
  obtain ⟨h1, h2, h3⟩ := h
  rw [decide_eq_false (by omega), Bool.false_or]
  by_cases e : y.1 = -1
  · rw [h2 e, h1]; simp
  · rw [show (y.1 == -1) = false from by simpa using e]; rfl
theorem chk_zero {L : List Sk} (h : ∀ y ∈ L, badS y = false) (hl : L.length ≤ 60) : chkS L = 0 := by
  unfold chkS
  rw [if_neg (by omega), idxF_none (by rw [List.findIdx?_eq_none_iff]; exact fun y hy => h y hy)]
  rfl
theorem pushK_last (L : List Sk) (x : Sk) (S : List Nat) : ∃ L1, pushK L x S = L1 ++ [x] ∧ L1.length ≤ L.length ∧ ∀ y ∈ L1, y ∈ L := by
  unfold pushK
  split
  · exact ⟨_, rfl, by rw [List.length_eraseIdx]; split <;> omega, fun y hy => List.mem_of_mem_eraseIdx hy⟩
  · exact ⟨_, rfl, Nat.le_refl _, fun y hy => hy⟩
theorem foundK_last (L1 : List Sk) (x : Sk) (hx : x.1 ≠ -1) : foundK (L1 ++ [x]) x.2.1 (L1.length + 1) = L1.length := by
  have e : (L1 ++ [x]).getD L1.length zSk = x := by rw [List.getD_eq_getElem?_getD, List.getElem?_append_right (Nat.le_refl _), Nat.sub_self]; rfl
  have hl : lastS (L1 ++ [x]) ≤ L1.length := by
    unfold lastS
    rw [List.length_append, List.length_singleton]
    simp only [lastSK]
    rw [e, if_neg (by simpa using hx)]
    have : ∀ k, lastSK (L1 ++ [x]) k ≤ k := by
      intro k
      induction k with
      | zero => exact Nat.le_refl _
      | succ k ih => simp only [lastSK]; split <;> omega
    exact this _
  simp only [foundK]
  rw [if_neg (by omega), e]
  simp
theorem ArkI.nil : ArkI [] 0 := ⟨Nat.le_refl _, fun y hy => by simp at hy, fun a b c h _ s => by
  have : b = [] := by
    have h := congrArg List.length h
    simp only [List.length_append, List.length_nil] at h
    exact List.eq_nil_of_length_eq_zero (by omega)
  rw [this]; simp⟩
theorem ArkI.chk {L : List Sk} {k : Nat} {x : Sk} (h : ArkI L k) (hk : k < 40) (hx : x.2.2 = 0 ∧ (x.1 = -1 → x.2.1.toList = []) ∧ -1 ≤ x.1) : chkS (L ++ [x]) = 0 := by
  refine chk_zero (fun y hy => ?_) (by have := h.1; rw [List.length_append, List.length_singleton]; omega)
  rcases List.mem_append.1 hy with hy | hy
  · exact ok_bad (h.2.1 y hy)
  · rw [List.mem_singleton] at hy; subst hy; exact ok_bad hx
theorem ArkI.chk0 {L : List Sk} {k : Nat} (h : ArkI L k) (hk : k ≤ 40) : chkS L = 0 := chk_zero (fun y hy => ok_bad (h.2.1 y hy)) (by have := h.1; omega)
theorem ArkI.push {L : List Sk} {k : Nat} {x : Sk} {S : List Nat} (h : ArkI L k) (hg : GoodK L x S) (hx : x.2.2 = 0 ∧ (x.1 = -1 → x.2.1.toList = []) ∧ -1 ≤ x.1) : ArkI (pushK L x S) (k + 1) := by
  refine ⟨?_, ?_, h.2.2.push hg (fun y hy => (h.2.1 y hy).1) hx.1⟩
  · obtain ⟨L1, e, h1, h2⟩ := pushK_last L x S
    rw [e, List.length_append, List.length_singleton]
    have := h.1
    omega
  · obtain ⟨L1, e, h1, h2⟩ := pushK_last L x S
    rw [e]
    intro y hy
    rcases List.mem_append.1 hy with hy | hy
    · exact h.2.1 y (h2 y hy)
    · rw [List.mem_singleton] at hy; subst hy; exact hx
/-- How many of one name come up ahead of the next marker. -/
def manyK (L : List Sk) (s : List UInt8) : Nat → Nat → Nat
  | 0, _ => 0
  | d + 1, k => if (L.getD k zSk).1 < 0 then 0 else (if nmB s (L.getD k zSk) then 1 else 0) + manyK L s d (k + 1)
theorem manyK_take (s : List UInt8) : ∀ (d : Nat) (L : List Sk) (k : Nat), d = L.length - k → ∃ b c, L = L.take k ++ b ++ c ∧ (∀ x ∈ b, x.1 ≠ -1) ∧ b.countP (nmB s) = manyK L s d k
  | 0, L, k, h => ⟨[], L.drop k, by simp, by simp, rfl⟩
  | d + 1, L, k, h => by
    have hk : k < L.length := by omega
    have e : L.getD k zSk = L[k] := by rw [List.getD_eq_getElem?_getD, List.getElem?_eq_getElem hk]; rfl
    simp only [manyK]
    rw [e]
    split
    · exact ⟨[], L.drop k, by simp, by simp, rfl⟩
    · next hneg =>
      obtain ⟨b, c, e1, e2, e3⟩ := manyK_take s d L (k + 1) (by omega)
      refine ⟨L[k] :: b, c, ?_, ?_, ?_⟩
      · have e4 : L.take (k + 1) = L.take k ++ [L[k]] := List.take_succ_eq_append_getElem hk
        exact e1.trans (by rw [e4]; simp only [List.append_assoc, List.cons_append, List.nil_append])
      · intro x hx
        rcases List.mem_cons.1 hx with rfl | hx
        · omega
        · exact e2 x hx
      · rw [List.countP_cons, e3]; omega
theorem ArkI.many {L : List Sk} {k : Nat} (h : ArkI L k) (s : List UInt8) (i : Nat) : manyK L s (L.length - i) i ≤ 3 := by
  obtain ⟨b, c, e1, e2, e3⟩ := manyK_take s _ L i rfl
  rw [← e3]
  exact h.2.2 _ b c e1 e2 s
end Go.Proofs.Ytdheifnebkkjhaa.Act
