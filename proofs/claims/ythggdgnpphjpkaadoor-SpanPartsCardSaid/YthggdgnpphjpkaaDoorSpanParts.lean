/- The law SpanParts, plainly: the printed function always comes to true. -/
import Derived.Test.YthggdgnpphjpkaaDoorDocV
namespace Go.Proofs.YthggdgnpphjpkaaDoor.DocC
open Go.RowKit Go.Proofs.YthggdgnpphjpkaaDoorW.PrintWords Go.Proofs.YthggdgnpphjpkaaDoor.PSP Go.Proofs.YthggdgnpphjpkaaDoor.DocP Go.Proofs.YthggdgnpphjpkaaDoor.DocT
set_option linter.unusedVariables false
set_option linter.unusedSimpArgs false
theorem ev_det {α : Type} {f : Nat → Option α} {x y : α} (h : Ev f x) (h' : Ev f y) : x = y := by
  obtain ⟨K, h1⟩ := h
  obtain ⟨K', h2⟩ := h'
  exact Option.some.inj ((h1 (K + K') (by omega)).symm.trans (h2 (K + K') (by omega)))
section
variable (l : List S37) (q : Bool)
/-! ### Texts have no kids; the document is no text -/
theorem one_text (b : ByteArray) (c : List S86) (d : ByteArray) (e : Int) (f : List Int) (hf : f ≠ []) : Ev (fun k => dom_one.f k 3 b c d e f) 7 := by
  have hb : dom_bare.f 3 b c d e f = some false := by
    have hl : 0 < f.length := List.length_pos_iff.2 hf
    unfold dom_bare.f bareB
    simp [hl, hf]
  refine Ev.step (f := fun _ => some 7) (fun k => ?_) (Ev.now 7)
  simp only [dom_one.f, hb, Option.bind_some]
  rw [if_neg (by decide), if_neg (by decide)]
  rfl
theorem check_text {j : Int} (hj : In l.length j) (h3 : (rd_T37 l j).f0 = 3) (hk : kids l j ≠ []) (hl : l.length ≤ 200) : ∀ (m : Nat) (i : Int), 0 ≤ i → i + m = j → ∃ r, Ev (fun k => dom_Check.l0 k l (l.length : Int) i l q) r ∧ r ≠ 0 := by
  have h1 := hj.2
  intro m
  induction m with
  | zero =>
    intro i h0 he
    have hij : i = j := by omega
    subst hij
    by_cases hkd : ((((rd_T37 l i).f0) == 1) != (i == 0)) = true
    · refine ⟨3, Ev.step (f := fun _ => some 3) (fun k => ?_) (Ev.now 3), by decide⟩
      simp only [dom_Check.l0]
      rw [if_pos (by omega), if_pos h0, if_pos (by omega), if_pos hkd]
    · have hu := one_text (rd_T37 l i).f1 (rd_T37 l i).f2 (rd_T37 l i).f3 (rd_T37 l i).f4 (rd_T37 l i).f5 hk
      rw [← h3] at hu
      exact ⟨7, Ev.step (fun k => by simp only [dom_Check.l0]; rw [if_pos (by omega), if_pos h0, if_pos (by omega), if_neg hkd]) (Ev.bind (f := fun k t => if t = 0 then dom_Check.l0 k l (l.length : Int) (wrap64 (i + 1)) l q else some t) hu (Ev.congr (f := fun _ => some 7) (fun k => by rw [if_neg (by decide)]) (Ev.now 7))), by decide⟩
  | succ m ih =>
    intro i h0 he
    obtain ⟨r, hr, hr0⟩ := ih (i + 1) (by omega) (by omega)
    by_cases hkd : ((((rd_T37 l i).f0) == 1) != (i == 0)) = true
    · refine ⟨3, Ev.step (f := fun _ => some 3) (fun k => ?_) (Ev.now 3), by decide⟩
      simp only [dom_Check.l0]
      rw [if_pos (by omega), if_pos h0, if_pos (by omega), if_pos hkd]
    · obtain ⟨u, hu⟩ := one_ev (rd_T37 l i).f0 (rd_T37 l i).f1 (rd_T37 l i).f2 (rd_T37 l i).f3 (rd_T37 l i).f4 (rd_T37 l i).f5
      by_cases hu0 : u = 0
      · exact ⟨r, Ev.step (fun k => by simp only [dom_Check.l0]; rw [if_pos (by omega), if_pos h0, if_pos (by omega), if_neg hkd]) (Ev.bind (f := fun k t => if t = 0 then dom_Check.l0 k l (l.length : Int) (wrap64 (i + 1)) l q else some t) hu (Ev.congr (fun k => by rw [if_pos hu0, wrap_in (by omega)]) hr)), hr0⟩
      · exact ⟨u, Ev.step (fun k => by simp only [dom_Check.l0]; rw [if_pos (by omega), if_pos h0, if_pos (by omega), if_neg hkd]) (Ev.bind (f := fun k t => if t = 0 then dom_Check.l0 k l (l.length : Int) (wrap64 (i + 1)) l q else some t) hu (Ev.congr (f := fun _ => some u) (fun k => by rw [if_neg hu0]) (Ev.now u))), hu0⟩
variable {l q}
theorem Good.l0 (h : Good l q) (hf : Fit l) : Ev (fun k => dom_Check.l0 k l (l.length : Int) 0 l q) 0 := by
  obtain ⟨hl, hw⟩ := h.wf hf
  have hp := hw.pos
  refine Ev.congr (fun k => ?_) h
  simp only [dom_Check.f]
  rw [if_neg (by omega), if_neg (by omega)]
theorem Good.leaf (h : Good l q) (hf : Fit l) {j : Int} (hj : In l.length j) (h3 : (rd_T37 l j).f0 = 3) : kids l j = [] := by
  refine Classical.byContradiction fun hk => ?_
  obtain ⟨r, hr, h0⟩ := check_text l q hj h3 hk (h.wf hf).1 j.toNat 0 (Int.le_refl _) (by have := hj.1; omega)
  exact h0 (ev_det (h.l0 hf) hr).symm
theorem Good.root (h : Good l q) (hf : Fit l) : (rd_T37 l 0).f0 = 1 := by
  refine Classical.byContradiction fun hk => ?_
  obtain ⟨hl, hw⟩ := h.wf hf
  have hp := hw.pos
  have h3 : Ev (fun k => dom_Check.l0 k l (l.length : Int) 0 l q) 3 := by
    refine Ev.step (f := fun _ => some 3) (fun k => ?_) (Ev.now 3)
    simp only [dom_Check.l0]
    rw [if_pos (by omega), if_pos (by omega), if_pos (by omega), if_pos (by simpa using hk)]
  have := ev_det (h.l0 hf) h3
  cases this
/-! ### The texts of a range -/
theorem span_ev (hf : Fit l) (hb : Brief l) (a s b t : Int) : ∃ e, Ev (fun k => span_span.f k l q a s b t) (l, q, e) ∧ (e = 0 ↔ (Good l q ∧ OkP l a s ∧ OkP l b t ∧ lexlt (pp l b t) (pp l a s) = false)) := by
  obtain ⟨e, he, hd⟩ := points_ev l q hf hb a s b t
  by_cases h0 : e = 0
  · obtain ⟨hg, h1, h2⟩ := hd.1 h0
    obtain ⟨r, hr, hr1, hr2⟩ := order_ev l q hg hf hb h1 h2
    by_cases hp : r > 0
    · refine ⟨9, Ev.bind (f := fun k (bt : List S37 × Bool × Int) => (if bt.2.2 = 0 then ((span_ranger_order.f k bt.1 bt.2.1 a s b t).bind fun t218 => (if t218 > 0 then (some (bt.1, bt.2.1, (9 : Int))) else (some (bt.1, bt.2.1, bt.2.2)))) else (some (bt.1, bt.2.1, bt.2.2)))) he (Ev.congr (f := fun k => (span_ranger_order.f k l q a s b t).bind fun t218 => (if t218 > 0 then (some (l, q, (9 : Int))) else (some (l, q, e)))) (fun k => by rw [if_pos h0]) (Ev.bind (f := fun _ t218 => (if t218 > 0 then (some (l, q, (9 : Int))) else (some (l, q, e)))) hr (Ev.congr (f := fun _ => some (l, q, 9)) (fun k => by rw [if_pos hp]) (Ev.now _)))), ?_⟩
      refine ⟨fun h => (by cases h), fun h => ?_⟩
      have := hr2.1 hp
      rw [h.2.2.2] at this
      cases this
    · refine ⟨e, Ev.bind (f := fun k (bt : List S37 × Bool × Int) => (if bt.2.2 = 0 then ((span_ranger_order.f k bt.1 bt.2.1 a s b t).bind fun t218 => (if t218 > 0 then (some (bt.1, bt.2.1, (9 : Int))) else (some (bt.1, bt.2.1, bt.2.2)))) else (some (bt.1, bt.2.1, bt.2.2)))) he (Ev.congr (f := fun k => (span_ranger_order.f k l q a s b t).bind fun t218 => (if t218 > 0 then (some (l, q, (9 : Int))) else (some (l, q, e)))) (fun k => by rw [if_pos h0]) (Ev.bind (f := fun _ t218 => (if t218 > 0 then (some (l, q, (9 : Int))) else (some (l, q, e)))) hr (Ev.congr (f := fun _ => some (l, q, e)) (fun k => by rw [if_neg hp]) (Ev.now _)))), ?_⟩
      refine ⟨fun _ => ⟨hg, h1, h2, ?_⟩, fun _ => h0⟩
      cases hx : lexlt (pp l b t) (pp l a s) with
      | false => rfl
      | true => exact absurd (hr2.2 hx) hp
  · refine ⟨e, Ev.bind (f := fun k (bt : List S37 × Bool × Int) => (if bt.2.2 = 0 then ((span_ranger_order.f k bt.1 bt.2.1 a s b t).bind fun t218 => (if t218 > 0 then (some (bt.1, bt.2.1, (9 : Int))) else (some (bt.1, bt.2.1, bt.2.2)))) else (some (bt.1, bt.2.1, bt.2.2)))) he (Ev.congr (f := fun _ => some (l, q, e)) (fun k => by rw [if_neg h0]) (Ev.now _)), fun h => absurd h h0, fun h => hd.2 ⟨h.1, h.2.1, h.2.2.1⟩⟩
/-- A node's text, as bytes. -/
def txt (l : List S37) (x : Int) : List UInt8 := (rd_T37 l x).f3.data.toList
theorem txt_len (l : List S37) (x : Int) : (txt l x).length = (rd_T37 l x).f3.size := by unfold txt; rw [Array.length_toList]; rfl
theorem ext_sl (b : ByteArray) (i j : Int) : (b.extract i.toNat j.toNat).data.toList = sl b.data.toList i j := by
  unfold sl
  simp [ByteArray.data_extract, Array.toList_extract, List.extract_eq_take_drop]
theorem OkP.pt {a t : Int} (h : OkP l a t) : Pt l.length (par l) (kids l) (pp l) a := by
  obtain ⟨h1, _, _, d, h40, hd, h0⟩ := h
  exact ⟨h1, d, hd, h0, fun t => by rw [pp_eq l h40 hd h0, pth_eq]⟩
/-- A text node of the tree. -/
def TxN (l : List S37) (x : Int) : Prop := (rd_T37 l x).f0 = 3 ∧ kids l x = [] ∧ OkP l x 0
theorem OkP.in2 {a t x : Int} (h : OkP l a t) (hx : TxN l x) : In2 (txt l x) x a t := by
  rintro rfl
  obtain ⟨_, h2, h3, _⟩ := h
  unfold roomP at h3
  rw [if_pos (.inl hx.1)] at h3
  exact ⟨h2, by rw [txt_len]; exact h3⟩
theorem pos_pair (l : List S37) {a s t : Int} (h : OkP l a s) (hle : lexlt (pp l a t) (pp l a s) = false) : s ≤ t := by
  have := h.pt.same t s
  rw [this] at hle
  have := of_decide_eq_false hle
  omega
theorem part_j0 (hg : Good l q) (hf : Fit l) (hb : Brief l) {x a s b t : Int} (hx : TxN l x) (hbt : OkP l b t) (lo : Int) (h0 : 0 ≤ lo) (h1 : lo ≤ ((rd_T37 l x).f3.size : Int)) (h2 : b = x → lo ≤ t) :
    ∃ r : ByteArray, Ev (fun k => span_ranger_part.j0 k x (rd_T37 l x).f3 lo ((rd_T37 l x).f3.size : Int) l q a s b t) r ∧ r.data.toList = (if b = x then sl (txt l x) lo t else if lexlt (pp l b t) (pp l x 0) = true then [] else sl (txt l x) lo (txt l x).length) ∧ r.size ≤ 100 := by
  have hsz := hb x
  have hex : ∀ u v : Nat, ((rd_T37 l x).f3.extract u v).size ≤ 100 := fun u v => by rw [ByteArray.size_extract]; omega
  by_cases e : b = x
  · have hin := hbt.in2 hx e
    rw [txt_len] at hin
    refine ⟨(rd_T37 l x).f3.extract lo.toNat t.toNat, Ev.step (f := fun _ => some ((rd_T37 l x).f3.extract lo.toNat t.toNat)) (fun k => ?_) (Ev.now _), ?_, hex _ _⟩
    · show span_ranger_part.j0 (k + 1) x _ lo _ l q a s b t = _
      simp only [span_ranger_part.j0]
      rw [if_pos e, if_pos h0, if_pos (h2 e), if_pos hin.2]
    · rw [if_pos e]; exact ext_sl _ _ _
  · obtain ⟨r, hr, hr1, hr2⟩ := order_ev l q hg hf hb hx.2.2 hbt
    have hj : ∀ k, span_ranger_part.j0 (k + 1) x (rd_T37 l x).f3 lo ((rd_T37 l x).f3.size : Int) l q a s b t = (span_ranger_order.f k l q x 0 b t).bind fun t237 => (if t237 > 0 then (some (⟨#[]⟩ : ByteArray)) else some ((rd_T37 l x).f3.extract lo.toNat ((rd_T37 l x).f3.size : Int).toNat)) := fun k => by
      simp only [span_ranger_part.j0]
      rw [if_neg e, if_pos h0, if_pos h1, if_pos (Int.le_refl _)]
    by_cases hp : r > 0
    · refine ⟨⟨#[]⟩, Ev.step hj (Ev.bind (f := fun _ t237 => (if t237 > 0 then (some (⟨#[]⟩ : ByteArray)) else some ((rd_T37 l x).f3.extract lo.toNat ((rd_T37 l x).f3.size : Int).toNat))) hr (Ev.congr (f := fun _ => some ⟨#[]⟩) (fun k => by rw [if_pos hp]) (Ev.now _))), ?_, by decide⟩
      rw [if_neg e, if_pos (hr2.1 hp)]
    · refine ⟨_, Ev.step hj (Ev.bind (f := fun _ t237 => (if t237 > 0 then (some (⟨#[]⟩ : ByteArray)) else some ((rd_T37 l x).f3.extract lo.toNat ((rd_T37 l x).f3.size : Int).toNat))) hr (Ev.congr (f := fun _ => some ((rd_T37 l x).f3.extract lo.toNat ((rd_T37 l x).f3.size : Int).toNat)) (fun k => by rw [if_neg hp]) (Ev.now _))), ?_, hex _ _⟩
      rw [if_neg e, if_neg (fun h => hp (hr2.2 h)), txt_len]
      exact ext_sl _ _ _
theorem part_ev (hg : Good l q) (hf : Fit l) (hb : Brief l) {x a s b t : Int} (hx : TxN l x) (ha : OkP l a s) (hbt : OkP l b t) (hle : lexlt (pp l b t) (pp l a s) = false) :
    ∃ r : ByteArray, Ev (fun k => span_ranger_part.f k l q x a s b t) r ∧ r.data.toList = partV (pp l) (txt l x) x a s b t ∧ r.size ≤ 100 := by
  have hxi := hx.2.2.1
  by_cases e : a = x
  · have hin := ha.in2 hx e
    rw [txt_len] at hin
    obtain ⟨r, hr, hr1, hr2⟩ := part_j0 (a := a) (s := s) hg hf hb hx hbt s hin.1 hin.2 (fun eb => by rw [eb, ← e] at hle; exact pos_pair l ha hle)
    refine ⟨r, Ev.congr (fun k => ?_) hr, ?_, hr2⟩
    · simp only [span_ranger_part.f]
      rw [if_pos hxi.1, if_pos hxi.2, if_pos e]
    · unfold partV
      rw [if_pos e, hr1]
  · obtain ⟨r, hr, hr1, hr2⟩ := order_ev l q hg hf hb hx.2.2 ha
    have hj : ∀ k, span_ranger_part.f k l q x a s b t = (span_ranger_order.f k l q x 0 a s).bind fun t236 => (if t236 < 0 then (some (⟨#[]⟩ : ByteArray)) else (span_ranger_part.j0 k x (rd_T37 l x).f3 0 ((rd_T37 l x).f3.size : Int) l q a s b t)) := fun k => by
      simp only [span_ranger_part.f]
      rw [if_pos hxi.1, if_pos hxi.2, if_neg e]
    by_cases hn : r < 0
    · refine ⟨⟨#[]⟩, Ev.congr hj (Ev.bind (f := fun k t236 => (if t236 < 0 then (some (⟨#[]⟩ : ByteArray)) else (span_ranger_part.j0 k x (rd_T37 l x).f3 0 ((rd_T37 l x).f3.size : Int) l q a s b t))) hr (Ev.congr (f := fun _ => some ⟨#[]⟩) (fun k => by rw [if_pos hn]) (Ev.now _))), ?_, by decide⟩
      unfold partV
      rw [if_neg e, if_pos (hr1.1 hn)]
    · obtain ⟨v, hv, hv1, hv2⟩ := part_j0 (a := a) (s := s) hg hf hb hx hbt 0 (Int.le_refl _) (by omega) (fun eb => by have := (hbt.in2 hx eb).1; exact this)
      refine ⟨v, Ev.congr hj (Ev.bind (f := fun k t236 => (if t236 < 0 then (some (⟨#[]⟩ : ByteArray)) else (span_ranger_part.j0 k x (rd_T37 l x).f3 0 ((rd_T37 l x).f3.size : Int) l q a s b t))) hr (Ev.congr (fun k => by rw [if_neg hn]) hv)), ?_, hv2⟩
      unfold partV
      rw [if_neg e, if_neg (fun h => hn (hr1.2 h)), hv1]
/-- What a walk over nodes gathers. -/
def gath (l : List S37) (g : Int → List UInt8) (L : List Int) : List UInt8 := L.flatMap fun x => if (rd_T37 l x).f0 = 3 then g x else []
theorem app_data (x y : ByteArray) : (x ++ y).data.toList = x.data.toList ++ y.data.toList := by
  rw [ByteArray.data_append, Array.toList_append]
theorem text_go (hg : Good l q) (hf : Fit l) (hb : Brief l) {a s b t : Int} (ha : OkP l a s) (hbt : OkP l b t) (hle : lexlt (pp l b t) (pp l a s) = false) (L : List Int) (hL : ∀ x ∈ L, In l.length x ∧ ((rd_T37 l x).f0 = 3 → TxN l x)) (hl : L.length ≤ 1000) :
    ∀ (m i : Nat) (acc : ByteArray), i + m = L.length → acc.size ≤ 100 * i → ∃ out : ByteArray, Ev (fun k => span_Text.l0 k acc L (L.length : Int) (i : Int) l q a s b t l q) (out, 0) ∧ out.data.toList = acc.data.toList ++ gath l (fun x => partV (pp l) (txt l x) x a s b t) (L.drop i) ∧ out.size ≤ 100 * L.length := by
  intro m
  induction m with
  | zero =>
    intro i acc hi hs
    refine ⟨acc, Ev.step (f := fun _ => some (acc, 0)) (fun k => ?_) (Ev.now _), ?_, by rw [← hi]; exact hs⟩
    · simp only [span_Text.l0]
      rw [if_neg (by omega)]
    · rw [List.drop_eq_nil_of_le (by omega)]
      simp [gath]
  | succ m ih =>
    intro i acc hi hs
    have hil : i < L.length := by omega
    have hr : rd L (i : Int) = L[i] := by unfold rd; rw [Int.toNat_natCast, List.getD_eq_getElem?_getD, List.getElem?_eq_getElem hil]; rfl
    obtain ⟨hin, htx⟩ := hL L[i] (List.getElem_mem hil)
    by_cases h3 : (rd_T37 l L[i]).f0 = 3
    · obtain ⟨p, hp, hp1, hp2⟩ := part_ev hg hf hb (htx h3) ha hbt hle
      obtain ⟨out, ho, ho1, ho2⟩ := ih (i + 1) (acc ++ p) (by omega) (by rw [ByteArray.size_append]; omega)
      refine ⟨out, Ev.step (f := fun k => (span_ranger_part.f k l q L[i] a s b t).bind fun t252 => (if acc.size + t252.size ≤ 9223372036854775807 then (span_Text.l0 k (acc ++ t252) L (L.length : Int) ((i + 1 : Nat) : Int) l q a s b t l q) else none)) (fun k => ?_) (Ev.bind (f := fun k t252 => (if acc.size + t252.size ≤ 9223372036854775807 then (span_Text.l0 k (acc ++ t252) L (L.length : Int) ((i + 1 : Nat) : Int) l q a s b t l q) else none)) hp (Ev.congr (fun k => by rw [if_pos (by omega)]) ho)), ?_, ho2⟩
      · show span_Text.l0 (k + 1) acc L (L.length : Int) (i : Int) l q a s b t l q = _
        simp only [span_Text.l0]
        rw [if_pos (by omega), if_pos (by omega), if_pos (by omega), hr, if_pos hin.1, if_pos hin.2, if_pos h3, wrap_in (by omega)]
        rfl
      · rw [ho1, app_data, hp1, List.drop_eq_getElem_cons hil]
        simp only [gath, List.flatMap_cons]
        rw [if_pos h3, List.append_assoc]
    · obtain ⟨out, ho, ho1, ho2⟩ := ih (i + 1) acc (by omega) (by omega)
      refine ⟨out, Ev.step (fun k => ?_) ho, ?_, ho2⟩
      · show span_Text.l0 (k + 1) acc L (L.length : Int) (i : Int) l q a s b t l q = span_Text.l0 k acc L (L.length : Int) ((i + 1 : Nat) : Int) l q a s b t l q
        simp only [span_Text.l0]
        rw [if_pos (by omega), if_pos (by omega), if_pos (by omega), hr, if_pos hin.1, if_pos hin.2, if_neg h3, wrap_in (by omega)]
        rfl
      · rw [ho1, List.drop_eq_getElem_cons hil]
        simp only [gath, List.flatMap_cons]
        rw [if_neg h3, List.nil_append]
theorem textof_go (hb : Brief l) (L : List Int) (hL : ∀ x ∈ L, In l.length x) (hl : L.length ≤ 1000) :
    ∀ (m i : Nat) (acc : ByteArray), i + m = L.length → acc.size ≤ 100 * i → ∃ out : ByteArray, Ev (fun k => dom_TextOf.l0 k acc L (L.length : Int) (i : Int) l q) (out, 0) ∧ out.data.toList = acc.data.toList ++ gath l (txt l) (L.drop i) := by
  intro m
  induction m with
  | zero =>
    intro i acc hi hs
    refine ⟨acc, Ev.step (f := fun _ => some (acc, 0)) (fun k => ?_) (Ev.now _), ?_⟩
    · simp only [dom_TextOf.l0]
      rw [if_neg (by omega)]
    · rw [List.drop_eq_nil_of_le (by omega)]
      simp [gath]
  | succ m ih =>
    intro i acc hi hs
    have hil : i < L.length := by omega
    have hr : rd L (i : Int) = L[i] := by unfold rd; rw [Int.toNat_natCast, List.getD_eq_getElem?_getD, List.getElem?_eq_getElem hil]; rfl
    have hin := hL L[i] (List.getElem_mem hil)
    have hsz := hb L[i]
    by_cases h3 : (rd_T37 l L[i]).f0 = 3
    · obtain ⟨out, ho, ho1⟩ := ih (i + 1) (acc ++ (rd_T37 l L[i]).f3) (by omega) (by rw [ByteArray.size_append]; omega)
      refine ⟨out, Ev.step (fun k => ?_) ho, ?_⟩
      · show dom_TextOf.l0 (k + 1) acc L (L.length : Int) (i : Int) l q = dom_TextOf.l0 k (acc ++ (rd_T37 l L[i]).f3) L (L.length : Int) ((i + 1 : Nat) : Int) l q
        simp only [dom_TextOf.l0]
        rw [if_pos (by omega), if_pos (by omega), if_pos (by omega), hr, if_pos hin.1, if_pos hin.2, if_pos h3, if_pos (by omega), wrap_in (by omega)]
        rfl
      · rw [ho1, app_data, List.drop_eq_getElem_cons hil]
        simp only [gath, List.flatMap_cons]
        rw [if_pos h3, List.append_assoc]
        rfl
    · obtain ⟨out, ho, ho1⟩ := ih (i + 1) acc (by omega) (by omega)
      refine ⟨out, Ev.step (fun k => ?_) ho, ?_⟩
      · show dom_TextOf.l0 (k + 1) acc L (L.length : Int) (i : Int) l q = dom_TextOf.l0 k acc L (L.length : Int) ((i + 1 : Nat) : Int) l q
        simp only [dom_TextOf.l0]
        rw [if_pos (by omega), if_pos (by omega), if_pos (by omega), hr, if_pos hin.1, if_pos hin.2, if_neg h3, wrap_in (by omega)]
        rfl
      · rw [ho1, List.drop_eq_getElem_cons hil]
        simp only [gath, List.flatMap_cons]
        rw [if_neg h3, List.nil_append]
theorem gath_filter (l : List S37) (g : Int → List UInt8) : ∀ L : List Int, gath l g L = (L.filter fun x => (rd_T37 l x).f0 == 3).flatMap g
  | [] => rfl
  | x :: L => by
    have := gath_filter l g L
    simp only [gath] at this ⊢
    rw [List.flatMap_cons, List.filter_cons, this]
    by_cases h : (rd_T37 l x).f0 = 3
    · rw [if_pos h, if_pos (by simpa using h), List.flatMap_cons]
    · rw [if_neg h, if_neg (by simpa using h), List.nil_append]
theorem zero_in (hw : WF l.length (par l) (kids l)) : In l.length 0 ∧ Dep (par l) 0 0 := ⟨⟨by omega, by have := hw.pos; omega⟩, .top (by rw [hw.root]; omega)⟩
theorem ord_tx (hg : Good l q) (hf : Fit l) : ∀ x ∈ ord l, In l.length x ∧ ((rd_T37 l x).f0 = 3 → TxN l x) := by
  obtain ⟨hl, hw⟩ := hg.wf hf
  obtain ⟨h0, hd⟩ := zero_in hw
  intro x hx
  have hin := (hw.mem_pre 40 0 x h0 hx).1
  refine ⟨hin, fun h3 => ⟨h3, hg.leaf hf hin h3, hin, Int.le_refl _, ?_, ?_⟩⟩
  · unfold roomP
    rw [if_pos (.inl h3)]
    omega
  · obtain ⟨e, r, h1, _, h2⟩ := preP hw 40 0 0 h0 hd x hx
    obtain ⟨d, h40, hd'⟩ := hw.dep x hin.1 hin.2
    have he := h1.fn hd'
    exact ⟨0 + e, by omega, h1, h2⟩
theorem text_ev (hf : Fit l) (hb : Brief l) (a s b t : Int) : ∃ (out : ByteArray) (e : Int), Ev (fun k => span_Text.f k l q a s b t) (out, e) ∧ (e = 0 ↔ (Good l q ∧ OkP l a s ∧ OkP l b t ∧ lexlt (pp l b t) (pp l a s) = false)) ∧ (e = 0 → out.data.toList = gath l (fun x => partV (pp l) (txt l x) x a s b t) (ord l) ∧ out.size ≤ 20000) := by
  obtain ⟨e, he, hd⟩ := span_ev (q := q) hf hb a s b t
  by_cases h0 : e = 0
  · obtain ⟨hg, ha, hbt, hle⟩ := hd.1 h0
    obtain ⟨hl, hw⟩ := hg.wf hf
    obtain ⟨hz, hdz⟩ := zero_in hw
    have hlen : (ord l).length ≤ 200 := by have := hw.len_pre (f := 40) hz hdz; unfold ord; omega
    obtain ⟨out, ho, ho1, ho2⟩ := text_go hg hf hb ha hbt hle (ord l) (ord_tx hg hf) (by omega) (ord l).length 0 ⟨#[]⟩ (by omega) (by decide)
    refine ⟨out, 0, Ev.bind (f := fun k (bt240 : List S37 × Bool × Int) => (if bt240.2.2 = 0 then ((dom_Order.f k l q).bind fun bt246 => (span_Text.l0 k (⟨#[]⟩ : ByteArray) bt246.1 (bt246.1.length : Int) 0 l q a s b t bt240.1 bt240.2.1)) else (some ((⟨#[]⟩ : ByteArray), bt240.2.2)))) he (Ev.congr (f := fun k => (dom_Order.f k l q).bind fun bt246 => (span_Text.l0 k (⟨#[]⟩ : ByteArray) bt246.1 (bt246.1.length : Int) 0 l q a s b t l q)) (fun k => by rw [if_pos h0]) (Ev.bind (f := fun k (bt246 : List Int × Int) => (span_Text.l0 k (⟨#[]⟩ : ByteArray) bt246.1 (bt246.1.length : Int) 0 l q a s b t l q)) (ord_ev l q hg hf) ho)), ⟨fun _ => ⟨hg, ha, hbt, hle⟩, fun _ => rfl⟩, fun _ => ⟨by rw [ho1]; rfl, by omega⟩⟩
  · exact ⟨⟨#[]⟩, e, Ev.bind (f := fun k (bt240 : List S37 × Bool × Int) => (if bt240.2.2 = 0 then ((dom_Order.f k l q).bind fun bt246 => (span_Text.l0 k (⟨#[]⟩ : ByteArray) bt246.1 (bt246.1.length : Int) 0 l q a s b t bt240.1 bt240.2.1)) else (some ((⟨#[]⟩ : ByteArray), bt240.2.2)))) he (Ev.congr (f := fun _ => some (⟨#[]⟩, e)) (fun k => by rw [if_neg h0]) (Ev.now _)), hd, fun h => absurd h h0⟩
theorem textof_ev (hg : Good l q) (hf : Fit l) (hb : Brief l) : ∃ out : ByteArray, Ev (fun k => dom_TextOf.f k l q 0) (out, 0) ∧ out.data.toList = gath l (txt l) (ord l) := by
  obtain ⟨hl, hw⟩ := hg.wf hf
  obtain ⟨hz, hdz⟩ := zero_in hw
  have hlen0 := hw.len_pre (f := 40) hz hdz
  have hlen : (ord l).length ≤ 200 := by unfold ord; omega
  have h1 := walk_ev l q hw hf 40 0 0 [] hz hdz (by omega) (by simp; omega)
  rw [List.nil_append] at h1
  obtain ⟨out, ho, ho1⟩ := textof_go (q := q) hb (ord l) (fun x hx => (ord_tx hg hf x hx).1) (by omega) (ord l).length 0 ⟨#[]⟩ (by omega) (by decide)
  have h2 := ask_ev l q hg 0
  rw [if_pos (show (0 : Int) ≤ 0 ∧ (0 : Int) < l.length from hz)] at h2
  have hr := hg.root hf
  refine ⟨out, Ev.bind (f := fun k t304 => (if t304 = 0 then (if (0 : Int) ≤ 0 then (if (0 : Int) < (l.length : Int) then (if ((rd_T37 l 0).f0) = 4 then (some ((rd_T37 l 0).f3, 0)) else ((dom_walk.f k l q 0 ([] : List Int)).bind fun t307 => (dom_TextOf.l0 k (⟨#[]⟩ : ByteArray) t307 (t307.length : Int) 0 l q))) else (none)) else (none)) else (some ((⟨#[]⟩ : ByteArray), t304)))) h2 (Ev.congr (f := fun k => (dom_walk.f k l q 0 ([] : List Int)).bind fun t307 => (dom_TextOf.l0 k (⟨#[]⟩ : ByteArray) t307 (t307.length : Int) 0 l q)) (fun k => by rw [if_pos rfl, if_pos (Int.le_refl _), if_pos hz.2, if_neg (by rw [hr]; decide)]) (Ev.bind (f := fun k t307 => (dom_TextOf.l0 k (⟨#[]⟩ : ByteArray) t307 (t307.length : Int) 0 l q)) h1 ho)), by rw [ho1]; rfl⟩
theorem parts_j0 (hg : Good l q) (hf : Fit l) (hb : Brief l) {a s p u b t : Int} (ha : OkP l a s) (hp : OkP l p u) (hbt : OkP l b t) (h1 : lexlt (pp l p u) (pp l a s) = false) (h2 : lexlt (pp l b t) (pp l p u) = false) (x y : ByteArray)
    (hx : x.data.toList = gath l (fun z => partV (pp l) (txt l z) z a s p u) (ord l) ∧ x.size ≤ 20000) (hy : y.data.toList = gath l (fun z => partV (pp l) (txt l z) z p u b t) (ord l) ∧ y.size ≤ 20000) :
    Ev (fun k => clerestorykeep1_SpanParts.j0 k x y false l q a s b t) true := by
  obtain ⟨hl, hw⟩ := hg.wf hf
  obtain ⟨hz, hdz⟩ := zero_in hw
  have hroot := hg.root hf
  have hroom : roomP l 0 = (kids l 0).length := by unfold roomP; rw [if_neg (by rw [hroot]; decide)]
  have htop : ∃ d, d ≤ 40 ∧ Dep (par l) 0 d ∧ topP (par l) d 0 = 0 := ⟨0, by omega, hdz, rfl⟩
  have hk0 : OkP l 0 0 := ⟨hz, Int.le_refl _, by rw [hroom]; omega, htop⟩
  have hk1 : OkP l 0 (kids l 0).length := ⟨hz, by omega, by rw [hroom]; exact Int.le_refl _, htop⟩
  have hz2 : ∀ v, pp l 0 v = [2 * v] := fun v => by rw [pp_eq l (by omega) hdz rfl, pth_eq]; rfl
  obtain ⟨c, ec, hc, dc, fc⟩ := text_ev (q := q) hf hb a s b t
  obtain ⟨w, ew, hw', dw, fw⟩ := text_ev (q := q) hf hb 0 0 0 (kids l 0).length
  obtain ⟨o, ho, ho1⟩ := textof_ev hg hf hb
  have hec : ec = 0 := dc.2 ⟨hg, ha, hbt, le_le h1 h2⟩
  have hew : ew = 0 := dw.2 ⟨hg, hk0, hk1, by rw [hk0.pt.same]; exact decide_eq_false (by omega)⟩
  subst hec hew
  have hLt : ∀ z ∈ (ord l).filter (fun z => (rd_T37 l z).f0 == 3), TxN l z := fun z hz => by
    obtain ⟨m1, m2⟩ := List.mem_filter.1 hz
    exact (ord_tx hg hf z m1).2 (by simpa using m2)
  have e1 : c.data.toList = (x ++ y).data.toList := by
    rw [app_data, hx.1, hy.1, (fc rfl).1, gath_filter, gath_filter, gath_filter]
    exact parts_two hw (txt l) ha.pt hp.pt hbt.pt h1 h2 _ (fun z hz => ⟨(hLt z hz).2.2.pt, (hLt z hz).2.1, ha.in2 (hLt z hz), hp.in2 (hLt z hz), hbt.in2 (hLt z hz)⟩) ((preLt hw 40 0 0 (zero_in hw).1 hdz).filter _)
  have e2 : w.data.toList = o.data.toList := by
    rw [(fw rfl).1, ho1, gath_filter, gath_filter]
    refine flat_congr (fun z hz => part_all hw (hLt z hz).2.2.pt (fun e => ?_) hz2)
    have := (hLt z hz).1
    rw [e, hroot] at this
    cases this
  have hlen : ¬ ((l.length : Int) = 0) := by have := hz.2; omega
  refine Ev.step (f := fun k => (span_Text.f k l q a s b t).bind fun bt325 => ((span_Text.f k l q 0 0 0 (((rd_T37 l 0).f5).length : Int)).bind fun bt328 => ((dom_TextOf.f k l q 0).bind fun bt330 => ((clerestorykeep1_spanBegun.f k).bind fun t332 => (if t332 = true then (if bt325.2 = 0 then (if x.size + y.size ≤ 9223372036854775807 then (if bt325.1.toList = (x ++ y).toList then (if bt328.2 = 0 then (if bt330.2 = 0 then (some (bt328.1.toList == bt330.1.toList)) else (some false)) else (some false)) else (some false)) else (none)) else (some false)) else (some false)))))) (fun k => ?_) ?_
  · show clerestorykeep1_SpanParts.j0 (k + 1) x y false l q a s b t = _
    simp only [clerestorykeep1_SpanParts.j0]
    rw [if_neg (by decide), if_neg hlen]
    simp only [if_pos hz.2]
  · refine Ev.bind (f := fun k (bt325 : ByteArray × Int) => ((span_Text.f k l q 0 0 0 (((rd_T37 l 0).f5).length : Int)).bind fun bt328 => ((dom_TextOf.f k l q 0).bind fun bt330 => ((clerestorykeep1_spanBegun.f k).bind fun t332 => (if t332 = true then (if bt325.2 = 0 then (if x.size + y.size ≤ 9223372036854775807 then (if bt325.1.toList = (x ++ y).toList then (if bt328.2 = 0 then (if bt330.2 = 0 then (some (bt328.1.toList == bt330.1.toList)) else (some false)) else (some false)) else (some false)) else (none)) else (some false)) else (some false)))))) hc ?_
    refine Ev.bind (f := fun k (bt328 : ByteArray × Int) => ((dom_TextOf.f k l q 0).bind fun bt330 => ((clerestorykeep1_spanBegun.f k).bind fun t332 => (if t332 = true then (if (0 : Int) = 0 then (if x.size + y.size ≤ 9223372036854775807 then (if c.toList = (x ++ y).toList then (if bt328.2 = 0 then (if bt330.2 = 0 then (some (bt328.1.toList == bt330.1.toList)) else (some false)) else (some false)) else (some false)) else (none)) else (some false)) else (some false))))) hw' ?_
    refine Ev.bind (f := fun k (bt330 : ByteArray × Int) => ((clerestorykeep1_spanBegun.f k).bind fun t332 => (if t332 = true then (if (0 : Int) = 0 then (if x.size + y.size ≤ 9223372036854775807 then (if c.toList = (x ++ y).toList then (if (0 : Int) = 0 then (if bt330.2 = 0 then (some (w.toList == bt330.1.toList)) else (some false)) else (some false)) else (some false)) else (none)) else (some false)) else (some false)))) ho ?_
    refine Ev.bind (f := fun _ t332 => (if t332 = true then (if (0 : Int) = 0 then (if x.size + y.size ≤ 9223372036854775807 then (if c.toList = (x ++ y).toList then (if (0 : Int) = 0 then (if (0 : Int) = 0 then (some (w.toList == o.toList)) else (some false)) else (some false)) else (some false)) else (none)) else (some false)) else (some false))) spanbegun_ev ?_
    refine Ev.congr (f := fun _ => some true) (fun k => ?_) (Ev.now true)
    have hsx := hx.2
    have hsy := hy.2
    rw [if_pos rfl, if_pos rfl, if_pos (by omega), if_pos (by rw [ByteArray.toList_eq, ByteArray.toList_eq]; exact e1), if_pos rfl, if_pos rfl, ByteArray.toList_eq, ByteArray.toList_eq, e2]
    simp
variable (l q)
theorem SpanParts_L (a s b t p u : Int) (hf : Fit l) (hb : Brief l) : Ev (fun k => (span_Text.f k l q a s p u).bind fun bt320 => ((span_Text.f k l q p u b t).bind fun bt322 => (if bt320.2 = 0 then (clerestorykeep1_SpanParts.j0 k bt320.1 bt322.1 (bt322.2 != 0) l q a s b t) else (clerestorykeep1_SpanParts.j0 k bt320.1 bt322.1 true l q a s b t)))) true := by
  obtain ⟨x, e, h1, d1, f1⟩ := text_ev (q := q) hf hb a s p u
  obtain ⟨y, f, h2, d2, f2⟩ := text_ev (q := q) hf hb p u b t
  have hbad : Ev (fun k => clerestorykeep1_SpanParts.j0 k x y true l q a s b t) true := by
    refine Ev.step (f := fun k => (clerestorykeep1_spanBegun.f k).bind fun t324 => (some t324)) (fun k => ?_) (Ev.bind (f := fun _ t324 => some t324) spanbegun_ev (Ev.now true))
    show clerestorykeep1_SpanParts.j0 (k + 1) x y true l q a s b t = _
    simp only [clerestorykeep1_SpanParts.j0]
    rw [if_pos trivial]
  refine Ev.bind (f := fun k (bt320 : ByteArray × Int) => ((span_Text.f k l q p u b t).bind fun bt322 => (if bt320.2 = 0 then (clerestorykeep1_SpanParts.j0 k bt320.1 bt322.1 (bt322.2 != 0) l q a s b t) else (clerestorykeep1_SpanParts.j0 k bt320.1 bt322.1 true l q a s b t)))) h1 ?_
  refine Ev.bind (f := fun k (bt322 : ByteArray × Int) => (if e = 0 then (clerestorykeep1_SpanParts.j0 k x bt322.1 (bt322.2 != 0) l q a s b t) else (clerestorykeep1_SpanParts.j0 k x bt322.1 true l q a s b t))) h2 ?_
  by_cases he : e = 0
  · by_cases hf0 : f = 0
    · obtain ⟨hg, ha, hp, hle1⟩ := d1.1 he
      obtain ⟨_, _, hbt, hle2⟩ := d2.1 hf0
      exact Ev.congr (fun k => by rw [if_pos he, hf0]; rfl) (parts_j0 hg hf hb ha hp hbt hle1 hle2 x y (f1 he) (f2 hf0))
    · exact Ev.congr (fun k => by rw [if_pos he, show (f != 0) = true from by simpa using hf0]) hbad
  · exact Ev.congr (fun k => by rw [if_neg he]) hbad
end
theorem SpanParts_ev (l : List S37) (q : Bool) (a s b t p u : Int) (hf : Fit l) : ∃ k, clerestorykeep1_SpanParts.f k l q a s b t p u = some true := by
  have hf' : Fit (briefL l) := fun i => Nat.le_trans (rd_brief l i).1 (hf i)
  have hb : Brief (briefL l) := fun i => by have := (rd_brief l i).2; omega
  obtain ⟨K, h⟩ := Ev.bind (f := fun k (bt : List S37 × Bool) => ((span_Text.f k bt.1 bt.2 a s p u).bind fun bt320 => ((span_Text.f k bt.1 bt.2 p u b t).bind fun bt322 => (if bt320.2 = 0 then (clerestorykeep1_SpanParts.j0 k bt320.1 bt322.1 (bt322.2 != 0) bt.1 bt.2 a s b t) else (clerestorykeep1_SpanParts.j0 k bt320.1 bt322.1 true bt.1 bt.2 a s b t))))) (brief_ev l q) (SpanParts_L (briefL l) q a s b t p u hf' hb)
  exact ⟨K, h K (Nat.le_refl _)⟩
end Go.Proofs.YthggdgnpphjpkaaDoor.DocC
