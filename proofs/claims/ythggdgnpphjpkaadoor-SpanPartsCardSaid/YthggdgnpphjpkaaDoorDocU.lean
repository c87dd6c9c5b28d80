/- The texts of two ranges, one behind the other. No program in sight. -/
import Derived.Test.YthggdgnpphjpkaaDoorDocT
namespace Go.Proofs.YthggdgnpphjpkaaDoor.DocT
open Go.Proofs.YthggdgnpphjpkaaDoor.DocP
set_option linter.unusedVariables false
set_option linter.unusedSimpArgs false

/-- A slice of bytes. -/
def sl (x : List UInt8) (a b : Int) : List UInt8 := (x.drop a.toNat).take (b.toNat - a.toNat)
theorem sl_two (x : List UInt8) {a b c : Int} (h0 : 0 ≤ a) (h1 : a ≤ b) (h2 : b ≤ c) : sl x a b ++ sl x b c = sl x a c := by
  unfold sl
  have e : x.drop b.toNat = (x.drop a.toNat).drop (b.toNat - a.toNat) := by rw [List.drop_drop]; congr 1; omega
  rw [e, show c.toNat - a.toNat = (b.toNat - a.toNat) + (c.toNat - b.toNat) from by omega, List.take_add]
theorem sl_nil (x : List UInt8) {a b : Int} (h : b ≤ a) : sl x a b = [] := by
  unfold sl
  rw [show b.toNat - a.toNat = 0 from by omega, List.take_zero]
theorem sl_all (x : List UInt8) : sl x 0 x.length = x := by
  unfold sl
  rw [show (0 : Int).toNat = 0 from rfl, List.drop_zero, List.take_of_length_le (by omega)]
theorem flat_congr {α β : Type} {f g : α → List β} : ∀ {L : List α}, (∀ x ∈ L, f x = g x) → L.flatMap f = L.flatMap g
  | [], _ => rfl
  | x :: r, h => by rw [List.flatMap_cons, List.flatMap_cons, h x List.mem_cons_self, flat_congr (fun y hy => h y (List.mem_cons_of_mem _ hy))]
section
variable {n : Nat} {par : Int → Int} {kids : Int → List Int} {pq : Int → Int → List Int}
/-- A node of the tree, and its points' paths. -/
def Pt (n : Nat) (par : Int → Int) (kids : Int → List Int) (pq : Int → Int → List Int) (a : Int) : Prop := In n a ∧ ∃ d, Dep par a d ∧ topP par d a = 0 ∧ ∀ t, pq a t = (upP par kids d a).reverse ++ [2 * t]
theorem Pt.same {a : Int} (h : Pt n par kids pq a) (s t : Int) : lexlt (pq a s) (pq a t) = decide (s < t) := by
  obtain ⟨_, d, _, _, hp⟩ := h
  rw [hp, hp, lexlt_app]
  simp only [lexlt, Bool.and_false, Bool.or_false]
  exact decide_eq_decide.2 (by omega)
theorem Pt.ne (hw : WF n par kids) {a b : Int} (ha : Pt n par kids pq a) (hb : Pt n par kids pq b) (hne : a ≠ b) (s t : Int) : pq a s ≠ pq b t := by
  obtain ⟨i1, d, h1, h2, h3⟩ := ha
  obtain ⟨i2, d', h1', h2', h3'⟩ := hb
  rw [h3, h3']
  intro h
  have hl := congrArg List.length h
  simp only [List.length_append, List.length_reverse, upP_len, List.length_singleton] at hl
  obtain rfl : d = d' := by omega
  obtain ⟨e, -⟩ := List.append_inj h (by simp [upP_len])
  exact hne (upP_inj hw d a b i1 i2 h1 h1' h2 h2' (List.reverse_inj.1 e))
theorem Pt.leafL (hw : WF n par kids) {x a : Int} (hx : Pt n par kids pq x) (ha : Pt n par kids pq a) (hl : kids x = []) (hne : a ≠ x) (s s' t : Int) : lexlt (pq x s) (pq a t) = lexlt (pq x s') (pq a t) := by
  obtain ⟨i1, d, h1, h2, h3⟩ := hx
  obtain ⟨i2, d', h1', h2', h3'⟩ := ha
  rw [h3, h3, h3']
  exact lexlt_leafL _ _ _ _ (leaf_prefix hw i1 i2 h1 h1' h2 h2' hl (fun e => hne e.symm) t)
theorem Pt.leafR (hw : WF n par kids) {x a : Int} (hx : Pt n par kids pq x) (ha : Pt n par kids pq a) (hl : kids x = []) (hne : a ≠ x) (s s' t : Int) : lexlt (pq a t) (pq x s) = lexlt (pq a t) (pq x s') := by
  obtain ⟨i1, d, h1, h2, h3⟩ := hx
  obtain ⟨i2, d', h1', h2', h3'⟩ := ha
  rw [h3, h3, h3']
  exact lexlt_leafR _ _ _ _ (leaf_prefix hw i1 i2 h1 h1' h2 h2' hl (fun e => hne e.symm) t)
/-- How far a point is in a text. -/
def cl (pq : Int → Int → List Int) (m x a t : Int) : Int := if a = x then t else if lexlt (pq x 0) (pq a t) = true then m else 0
/-- The part of a text that lies in a range. -/
def partV (pq : Int → Int → List Int) (txt : List UInt8) (x a s b t : Int) : List UInt8 :=
  if a = x then (if b = x then sl txt s t else if lexlt (pq b t) (pq x 0) = true then [] else sl txt s txt.length)
  else if lexlt (pq x 0) (pq a s) = true then [] else (if b = x then sl txt 0 t else if lexlt (pq b t) (pq x 0) = true then [] else sl txt 0 txt.length)
/-- A point that may be in a text. -/
def In2 (txt : List UInt8) (x a t : Int) : Prop := a = x → 0 ≤ t ∧ t ≤ txt.length
theorem cl_in {txt : List UInt8} {x a t : Int} (h : In2 txt x a t) : 0 ≤ cl pq txt.length x a t ∧ cl pq txt.length x a t ≤ txt.length := by
  unfold cl
  split
  · exact h ‹_›
  · split <;> omega
theorem part_cl (hw : WF n par kids) {txt : List UInt8} {x a s b t : Int} (hx : Pt n par kids pq x) (ha : Pt n par kids pq a) (hb : Pt n par kids pq b) (ia : In2 txt x a s) (ib : In2 txt x b t) :
    partV pq txt x a s b t = sl txt (cl pq txt.length x a s) (cl pq txt.length x b t) := by
  have hT : ∀ lo : Int, 0 ≤ lo → (if b = x then sl txt lo t else if lexlt (pq b t) (pq x 0) = true then [] else sl txt lo txt.length) = sl txt lo (cl pq txt.length x b t) := fun lo hlo => by
    unfold cl
    by_cases e : b = x
    · rw [if_pos e, if_pos e]
    · rw [if_neg e, if_neg e]
      cases h : lexlt (pq b t) (pq x 0) with
      | true => rw [if_pos rfl, if_neg (by rw [lexlt_asym _ _ h]; decide), sl_nil _ hlo]
      | false =>
        rw [if_neg (by decide)]
        rcases lexlt_total (pq b t) (pq x 0) (hb.ne hw hx e t 0) with h1 | h1
        · rw [h1] at h; cases h
        · rw [if_pos h1]
  unfold partV
  by_cases e : a = x
  · rw [if_pos e, hT s (ia e).1]
    unfold cl
    rw [if_pos e]
  · rw [if_neg e]
    cases h : lexlt (pq x 0) (pq a s) with
    | true =>
      rw [if_pos rfl]
      have : cl pq txt.length x a s = txt.length := by unfold cl; rw [if_neg e, if_pos h]
      rw [this, sl_nil _ (cl_in ib).2]
    | false =>
      have : cl pq txt.length x a s = 0 := by unfold cl; rw [if_neg e, if_neg (by rw [h]; decide)]
      rw [if_neg (by decide), hT 0 (Int.le_refl _), this]
theorem cl_mono (hw : WF n par kids) {txt : List UInt8} {x a s b t : Int} (hx : Pt n par kids pq x) (ha : Pt n par kids pq a) (hb : Pt n par kids pq b) (hl : kids x = []) (ia : In2 txt x a s) (ib : In2 txt x b t) (hle : lexlt (pq b t) (pq a s) = false) :
    cl pq txt.length x a s ≤ cl pq txt.length x b t := by
  have ca := cl_in (pq := pq) ia
  have cb := cl_in (pq := pq) ib
  by_cases ea : a = x
  · by_cases eb : b = x
    · unfold cl
      rw [if_pos ea, if_pos eb]
      rw [ea, eb, hx.same] at hle
      have := of_decide_eq_false hle
      omega
    · have h1 : lexlt (pq x 0) (pq b t) = true := by
        rw [ea] at hle
        rw [hx.leafR hw hb hl eb s 0 t] at hle
        rcases lexlt_total (pq b t) (pq x 0) (hb.ne hw hx eb t 0) with h | h
        · rw [h] at hle; cases hle
        · exact h
      have : cl pq txt.length x b t = txt.length := by unfold cl; rw [if_neg eb, if_pos h1]
      rw [this]
      exact ca.2
  · cases h : lexlt (pq x 0) (pq a s) with
    | false =>
      have : cl pq txt.length x a s = 0 := by unfold cl; rw [if_neg ea, if_neg (by rw [h]; decide)]
      rw [this]
      exact cb.1
    | true =>
      by_cases eb : b = x
      · rw [eb] at hle
        rw [hx.leafL hw ha hl ea t 0 s, h] at hle
        cases hle
      · have h1 : lexlt (pq x 0) (pq b t) = true := lt_le h hle
        have : cl pq txt.length x b t = txt.length := by unfold cl; rw [if_neg eb, if_pos h1]
        rw [this]
        exact ca.2
/-- Texts in their order, cut at a point. -/
theorem parts_two (hw : WF n par kids) (txt : Int → List UInt8) {a s p u b t : Int} (ha : Pt n par kids pq a) (hp : Pt n par kids pq p) (hb : Pt n par kids pq b)
    (h1 : lexlt (pq p u) (pq a s) = false) (h2 : lexlt (pq b t) (pq p u) = false) (L : List Int) (hL : ∀ x ∈ L, Pt n par kids pq x ∧ kids x = [] ∧ In2 (txt x) x a s ∧ In2 (txt x) x p u ∧ In2 (txt x) x b t)
    (hP : L.Pairwise (fun x y => kids x = [] → Lt par kids x y)) :
    L.flatMap (fun x => partV pq (txt x) x a s b t) = L.flatMap (fun x => partV pq (txt x) x a s p u) ++ L.flatMap (fun x => partV pq (txt x) x p u b t) := by
  rw [← flat_two]
  · refine flat_congr (fun x hx => ?_)
    obtain ⟨q1, q2, q3, q4, q5⟩ := hL x hx
    rw [part_cl hw q1 ha hb q3 q5, part_cl hw q1 ha hp q3 q4, part_cl hw q1 hp hb q4 q5]
    exact (sl_two _ (cl_in q3).1 (cl_mono hw q1 ha hp q2 q3 q4 h1) (cl_mono hw q1 hp hb q2 q4 q5 h2)).symm
  · have hmem : L.Pairwise (fun x y => (kids x = [] → Lt par kids x y) ∧ x ∈ L ∧ y ∈ L) := by
      have : ∀ M : List Int, (∀ z ∈ M, z ∈ L) → M.Pairwise (fun x y => kids x = [] → Lt par kids x y) → M.Pairwise (fun x y => (kids x = [] → Lt par kids x y) ∧ x ∈ L ∧ y ∈ L) := by
        intro M
        induction M with
        | nil => intro _ _; exact List.Pairwise.nil
        | cons z M ih =>
          intro hz hM
          rw [List.pairwise_cons] at hM ⊢
          exact ⟨fun y hy => ⟨hM.1 y hy, hz z List.mem_cons_self, hz y (List.mem_cons_of_mem _ hy)⟩, ih (fun w hw => hz w (List.mem_cons_of_mem _ hw)) hM.2⟩
      exact this L (fun z hz => hz) hP
    refine hmem.imp ?_
    rintro x y ⟨hxy, hx, hy⟩ hf
    obtain ⟨q1, q2, q3, q4, q5⟩ := hL x hx
    obtain ⟨r1, r2, r3, r4, r5⟩ := hL y hy
    have hlt := hxy q2
    have hlex : ∀ v w, lexlt (pq x v) (pq y w) = true := fun v w => by
      obtain ⟨_, dx, hx1, _, hx3⟩ := q1
      obtain ⟨_, dy, hy1, _, hy3⟩ := r1
      rw [hx3, hy3]
      exact hlt.lex hx1 hy1 v w
    rw [part_cl hw q1 hp hb q4 q5]
    rw [part_cl hw r1 ha hp r3 r4] at hf
    have hpos : 0 < cl pq (txt y).length y p u := by
      rcases Int.lt_or_le 0 (cl pq (txt y).length y p u) with h | h
      · exact h
      · exact absurd (sl_nil _ (Int.le_trans h (cl_in r3).1)) hf
    have hyp : lexlt (pq p u) (pq y 0) = false := by
      by_cases e : p = y
      · rw [e, r1.same]
        have := (r4 e).1
        exact decide_eq_false (by omega)
      · unfold cl at hpos
        rw [if_neg e] at hpos
        split at hpos
        · next h => exact lexlt_asym _ _ h
        · omega
    have hne : p ≠ x := fun e => by
      have := hlex u 0
      rw [← e, hyp] at this
      cases this
    have hlt2 : lexlt (pq x 0) (pq p u) = true := lt_le (hlex 0 0) hyp
    have : cl pq (txt x).length x p u = (txt x).length := by unfold cl; rw [if_neg hne, if_pos hlt2]
    rw [this]
    exact sl_nil _ (cl_in q5).2
/-- Of the whole document it is all of a text. -/
theorem part_all (hw : WF n par kids) {txt : List UInt8} {x : Int} (hx : Pt n par kids pq x) (h0 : x ≠ 0) (hz : ∀ t, pq 0 t = [2 * t]) : partV pq txt x 0 0 0 (kids 0).length = txt := by
  obtain ⟨hin, d, hd, ht, hp⟩ := hx
  cases d with
  | zero => exact absurd ht h0
  | succ d =>
    obtain ⟨i, r, e, h1, h2⟩ := upP_first hw d x hin hd ht
    unfold partV
    rw [if_neg (fun e => h0 e.symm), hp, hz, e, hz]
    rw [if_neg (by simp [lexlt]; omega), if_neg (fun e => h0 e.symm), if_neg (by simp [lexlt]; omega), sl_all]
end
end Go.Proofs.YthggdgnpphjpkaaDoor.DocT
