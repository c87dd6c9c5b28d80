/- Documents in their order, and the paths down to their nodes: what the printed functions of dom come to. -/
import Derived.Test.YtaojbobbjnibhaaDoorDocD
import Derived.Test.YtaojbobbjnibhaaDoorDocQ
namespace Go.Proofs.YtaojbobbjnibhaaDoor.DocC
open Go.RowKit Go.Proofs.YtaojbobbjnibhaaDoorW.PrintWords Go.Proofs.YtaojbobbjnibhaaDoor.PDO Go.Proofs.YtaojbobbjnibhaaDoor.DocP
set_option linter.unusedVariables false

theorem pathL_ne (par : Int → Int) : ∀ d a, pathL par d a ≠ []
  | 0, a => by simp [pathL]
  | d + 1, a => by simp [pathL]
/-- The way down to a node begins at node 0. -/
def Rt (par : Int → Int) (a : Int) : Prop := ∃ d, Dep par a d ∧ (pathL par d a).head? = some 0
theorem fit_take {l : List S35} (h : Fit l) (n : Nat) : Fit (l.take n) := fun i => by
  by_cases hi : i.toNat < n
  · have e : kids (l.take n) i = kids l i := by
      show (rd_T35 (l.take n) i).f5 = (rd_T35 l i).f5
      unfold rd_T35
      rw [List.getD_eq_getElem?_getD, List.getD_eq_getElem?_getD, List.getElem?_take, if_pos hi]
    rw [e]
    exact h i
  · show ((rd_T35 (l.take n) i).f5).length ≤ _
    unfold rd_T35
    rw [List.getD_eq_getElem?_getD, List.getElem?_take, if_neg hi]
    decide
/-! ### Reverse -/
def Rv (x y : List Int) (i j : Int) : Prop := y.length = x.length ∧ ∀ m : Int, 0 ≤ m → m < x.length → rd y m = if i ≤ m ∧ m ≤ j then rd x (i + j - m) else rd x m
theorem rd_set {x : List Int} {i m v : Int} (h0 : 0 ≤ i) (hm : 0 ≤ m) (hi : i < x.length) : rd (x.set i.toNat v) m = if m = i then v else rd x m := by
  unfold rd
  rw [List.getD_eq_getElem?_getD, List.getD_eq_getElem?_getD]
  by_cases e : m = i
  · rw [if_pos e, e, List.getElem?_set_self (by omega)]; rfl
  · rw [if_neg e, List.getElem?_set_ne (by omega)]
theorem reverse_go : ∀ (f : Nat) (x : List Int) (i j : Int), 0 ≤ i → i + j = x.length - 1 → j - i ≤ f → x.length ≤ 9223372036854775807 → ∃ y, Ev (fun k => slices_Reverse_int_int.l0 k x i j) y ∧ Rv x y i j
  | 0, x, i, j, h0, he, hf, hx => by
    refine ⟨x, Ev.step (f := fun _ => some x) (fun k => ?_) (Ev.now x), rfl, fun m h1 h2 => ?_⟩
    · simp only [slices_Reverse_int_int.l0]; rw [if_neg (by omega)]
    · split
      · rw [show i + j - m = m from by omega]
      · rfl
  | f + 1, x, i, j, h0, he, hf, hx => by
    by_cases hlt : i < j
    · obtain ⟨y, hy, hl, hr⟩ := reverse_go f ((x.set i.toNat (rd x j)).set j.toNat (rd x i)) (i + 1) (j - 1) (by omega) (by simp; omega) (by omega) (by simpa using hx)
      refine ⟨y, Ev.step (fun k => ?_) hy, by simpa using hl, fun m h1 h2 => ?_⟩
      · show slices_Reverse_int_int.l0 (k + 1) x i j = slices_Reverse_int_int.l0 k ((x.set i.toNat (rd x j)).set j.toNat (rd x i)) (i + 1) (j - 1)
        simp only [slices_Reverse_int_int.l0]
        rw [if_pos hlt, if_pos (by omega), if_pos (by omega), if_pos (by omega), if_pos (by omega), wrap_in (x := i + 1) (by omega), wrap_in (x := j - 1) (by omega)]
      · have hs : ∀ t : Int, 0 ≤ t → rd ((x.set i.toNat (rd x j)).set j.toNat (rd x i)) t = if t = j then rd x i else if t = i then rd x j else rd x t := fun t ht => by
          rw [rd_set (by omega) ht (by rw [List.length_set]; omega)]
          split
          · rfl
          · rw [rd_set h0 ht (by omega)]
        rw [hr m h1 (by simpa using h2)]
        by_cases e1 : m = i
        · rw [if_neg (by omega), hs m h1, if_neg (by omega), if_pos e1, if_pos (by omega), show i + j - m = j from by omega]
        by_cases e2 : m = j
        · rw [if_neg (by omega), hs m h1, if_pos e2, if_pos (by omega), show i + j - m = i from by omega]
        by_cases e3 : i ≤ m ∧ m ≤ j
        · rw [if_pos (by omega), if_pos e3, show i + 1 + (j - 1) - m = i + j - m from by omega, hs _ (by omega), if_neg (by omega), if_neg (by omega)]
        · rw [if_neg (by omega), if_neg e3, hs m h1, if_neg e2, if_neg e1]
    · refine ⟨x, Ev.step (f := fun _ => some x) (fun k => ?_) (Ev.now x), rfl, fun m h1 h2 => ?_⟩
      · simp only [slices_Reverse_int_int.l0]; rw [if_neg (by omega)]
      · split
        · rw [show i + j - m = m from by omega]
        · rfl
theorem reverse_ev (x : List Int) (hx : x.length ≤ 9223372036854775807) : Ev (fun k => slices_Reverse_int_int.f k x) x.reverse := by
  obtain ⟨y, hy, hl, hr⟩ := reverse_go x.length x 0 ((x.length : Int) - 1) (by omega) (by omega) (by omega) hx
  have e : y = x.reverse := by
    refine List.ext_getElem (by simpa using hl) fun m h1 h2 => ?_
    have h3 := hr m (by omega) (by omega)
    rw [if_pos (by omega)] at h3
    unfold rd at h3
    rw [List.getD_eq_getElem?_getD, List.getD_eq_getElem?_getD, Int.toNat_natCast, List.getElem?_eq_getElem h1, List.getElem?_eq_getElem (by omega)] at h3
    rw [List.getElem_reverse]
    have h4 : y[m] = x[((0 : Int) + ((x.length : Int) - 1) - (m : Int)).toNat]'(by omega) := h3
    rw [h4]
    congr 1
    omega
  rw [← e]
  refine Ev.congr (fun k => ?_) hy
  simp only [slices_Reverse_int_int.f]
  rw [wrap_in (by omega)]

section
def upL (par : Int → Int) : Nat → Int → List Int
  | 0, a => [a]
  | d + 1, a => a :: upL par d (par a)
theorem upL_path (par : Int → Int) : ∀ d a, (upL par d a).reverse = pathL par d a
  | 0, a => rfl
  | d + 1, a => by simp only [upL, pathL, List.reverse_cons, upL_path par d]
theorem upL_length (par : Int → Int) : ∀ d a, (upL par d a).length = d + 1
  | 0, a => rfl
  | d + 1, a => by simp only [upL, List.length_cons, upL_length par d]
theorem WFin {n : Nat} {par : Int → Int} {kids : Int → List Int} (h : WF n par kids) {a : Int} (ha : In n a) (hp : 0 ≤ par a) : In n (par a) := by
  rcases h.par_or ha with e | ⟨h1, _⟩
  · omega
  · exact h1
end
/-- A document that may be, for some nodes. -/
def Good (l : List S35) (q : Bool) : Prop := Ev (fun k => dom_Check.f k l q) 0
theorem Good.wf {l : List S35} {q : Bool} (h : Good l q) (hf : Fit l) : l.length ≤ 200 ∧ WF l.length (par l) (kids l) := by
  obtain ⟨r, hr, hd⟩ := check_ev l q hf
  obtain ⟨K, h1⟩ := h
  obtain ⟨K', h2⟩ := hr
  have e := (h1 (K + K') (by omega)).symm.trans (h2 (K + K') (by omega))
  exact hd (Option.some.inj e).symm

theorem few_some' (l : List S35) (q : Bool) : clerestorykeep1_few.f l q 60 = some (l.take (mn (l.length : Int) 60).toNat, q) := by
  have : 0 ≤ mn (l.length : Int) 60 ∧ mn (l.length : Int) 60 ≤ l.length := by unfold mn; split <;> omega
  simp only [clerestorykeep1_few.f]
  rw [if_pos this.1, if_pos this.2]
section
variable (l : List S35) (q : Bool)
/-! ### dom.walk -/
theorem walk_l0 (hf : Fit l) (a : Int) (F : Int → List Int)
    (hF : ∀ k ∈ kids l a, ∀ acc : List Int, acc.length + (F k).length ≤ 1000 → Ev (fun n => dom_walk.f n l q k acc) (acc ++ F k)) :
    ∀ (m' : Nat) (i : Nat) (acc : List Int), i + m' = (kids l a).length → acc.length + (((kids l a).drop i).flatMap F).length ≤ 1000 →
    Ev (fun n => dom_walk.l0 n acc (kids l a) ((kids l a).length : Int) (i : Int) l q) (acc ++ ((kids l a).drop i).flatMap F) := by
  have hfa := hf a
  intro m'
  induction m' with
  | zero =>
    intro i acc hi hl
    rw [List.drop_eq_nil_of_le (by omega), List.flatMap_nil, List.append_nil]
    refine Ev.step (f := fun _ => some acc) (fun k => ?_) (Ev.now _)
    simp only [dom_walk.l0]
    rw [if_neg (by omega)]
  | succ m' ih =>
    intro i acc hi hl
    have hil : i < (kids l a).length := by omega
    have hr : rd (kids l a) (i : Int) = (kids l a)[i] := by unfold rd; rw [Int.toNat_natCast, List.getD_eq_getElem?_getD, List.getElem?_eq_getElem hil]; rfl
    rw [List.drop_eq_getElem_cons hil, List.flatMap_cons] at hl ⊢
    rw [List.length_append] at hl
    have h1 := hF _ (List.getElem_mem hil) acc (by omega)
    have h2 := ih (i + 1) (acc ++ F (kids l a)[i]) (by omega) (by rw [List.length_append]; omega)
    rw [List.append_assoc] at h2
    refine Ev.step (f := fun n => (dom_walk.f n l q (kids l a)[i] acc).bind fun t => dom_walk.l0 n t (kids l a) ((kids l a).length : Int) ((i + 1 : Nat) : Int) l q) (fun k => ?_) (Ev.bind (f := fun n t => dom_walk.l0 n t (kids l a) ((kids l a).length : Int) ((i + 1 : Nat) : Int) l q) h1 h2)
    simp only [dom_walk.l0]
    rw [if_pos (by omega), if_pos (by omega), if_pos (by omega), hr, wrap_in (by omega)]
    rfl
theorem walk_ev (hw : WF l.length (par l) (kids l)) (hf : Fit l) : ∀ (f : Nat) (a : Int) (d : Nat) (acc : List Int), In l.length a → Dep (par l) a d → 40 ≤ f + d → acc.length + (preF (kids l) f a).length ≤ 1000 →
    Ev (fun n => dom_walk.f n l q a acc) (acc ++ preF (kids l) f a) := by
  intro f
  induction f with
  | zero =>
    intro a d acc ha hd h40 hl
    have hk : kids l a = [] := by
      have h1 := (hw.down 0 a d ha hd h40).1
      cases h1 with
      | leaf h => exact h
      | step h _ =>
        exfalso
        obtain ⟨h3, h4⟩ := hw.lastKid_in ha h
        obtain ⟨d', hd', h5⟩ := hw.dep _ h3.1 h3.2
        have := h5.fn (.up (by rw [h4]; exact ha.1) (by rw [h4]; exact hd))
        omega
    simp only [preF, List.length_singleton] at hl ⊢
    have h1 := walk_l0 l q hf a (fun _ => []) (fun k hk' => by rw [hk] at hk'; simp at hk') (kids l a).length 0 (acc ++ [a]) (by omega) (by rw [hk]; simp; omega)
    rw [hk] at h1
    simp only [List.drop_nil, List.flatMap_nil, List.append_nil] at h1
    refine Ev.step (fun k => ?_) h1
    simp only [dom_walk.f]
    rw [if_pos (by omega), if_pos ha.1, if_pos ha.2]
    show dom_walk.l0 k (acc ++ [a]) (kids l a) ((kids l a).length : Int) 0 l q = _
    rw [hk]
    rfl
  | succ f ih =>
    intro a d acc ha hd h40 hl
    simp only [preF, List.length_cons] at hl ⊢
    have h1 := walk_l0 l q hf a (preF (kids l) f) (fun k hk acc' hl' => by
      obtain ⟨h1, h2⟩ := hw.kid_in ha hk
      exact ih k (d + 1) acc' h1 (.up (by rw [h2]; exact ha.1) (by rw [h2]; exact hd)) (by omega) hl') (kids l a).length 0 (acc ++ [a]) (by omega) (by rw [List.drop_zero, List.length_append, List.length_singleton]; omega)
    rw [List.drop_zero, List.append_assoc] at h1
    refine Ev.step (fun k => ?_) h1
    simp only [dom_walk.f]
    rw [if_pos (by omega), if_pos ha.1, if_pos ha.2]
    rfl
/-- The order of the tree. -/
def ord (l : List S35) : List Int := preF (kids l) 40 0
theorem ord_ev (hg : Good l q) (hf : Fit l) : Ev (fun k => dom_Order.f k l q) (ord l, 0) := by
  obtain ⟨hl, hw⟩ := hg.wf hf
  have h0 : In l.length 0 := ⟨by omega, by have := hw.pos; omega⟩
  have hd : Dep (par l) 0 0 := .top (by rw [hw.root]; omega)
  have hlen := hw.len_pre (f := 40) h0 hd
  have h1 := walk_ev l q hw hf 40 0 0 [] h0 hd (by omega) (by simp; omega)
  rw [List.nil_append] at h1
  refine Ev.bind (f := fun k t => if t = 0 then ((dom_walk.f k l q 0 ([] : List Int)).bind fun t => (some (t, 0))) else (some (([] : List Int), t))) hg (Ev.congr (f := fun k => (dom_walk.f k l q 0 ([] : List Int)).bind fun t => (some (t, 0))) (fun k => by rw [if_pos rfl]) (Ev.bind (f := fun _ t => some (t, (0 : Int))) h1 (Ev.now _)))


/-! ### The path down to a node -/
theorem lpath_go (hw : WF l.length (par l) (kids l)) : ∀ (d : Nat) (a : Int) (acc : List Int), In l.length a → Dep (par l) a d → acc.length + d ≤ 1000 →
    Ev (fun k => dom_Path.l0 k a acc l q) (if (pathL (par l) d a).head? = some 0 then ((acc ++ upL (par l) d a).reverse, 0) else ([], 5)) := by
  intro d
  induction d with
  | zero =>
    intro a acc ha hd hl
    have hp : par l a < 0 := by cases hd with | top h => exact h
    have hlen : ((acc ++ [a]).length : Int) = acc.length + 1 := by simp
    have hr : rd (acc ++ [a]) (acc.length : Int) = a := by unfold rd; rw [Int.toNat_natCast, List.getD_eq_getElem?_getD, List.getElem?_append_right (Nat.le_refl _)]; simp
    have h2 : Ev (fun k => if a = 0 then ((slices_Reverse_int_int.f k (acc ++ [a])).bind fun t => some (t, (0 : Int))) else some (([] : List Int), (5 : Int))) (if (pathL (par l) 0 a).head? = some 0 then ((acc ++ upL (par l) 0 a).reverse, 0) else ([], 5)) := by
      simp only [pathL, upL, List.head?_cons, Option.some.injEq]
      by_cases e : a = 0
      · refine Ev.congr (f := fun k => (slices_Reverse_int_int.f k (acc ++ [a])).bind fun t => some (t, (0 : Int))) (fun k => by rw [if_pos e]) ?_
        rw [if_pos e]
        exact Ev.bind (f := fun _ t => some (t, (0 : Int))) (reverse_ev _ (by simp; omega)) (Ev.now _)
      · rw [if_neg e]
        exact Ev.congr (f := fun _ => some (([] : List Int), (5 : Int))) (fun k => by rw [if_neg e]) (Ev.now _)
    refine Ev.step (f := fun k => dom_Path.l0 k (par l a) (acc ++ [a]) l q) (fun k => ?_) (Ev.step (fun k => ?_) h2)
    · show dom_Path.l0 (k + 1) a acc l q = _
      simp only [dom_Path.l0]
      rw [if_pos ha.1, if_pos (by omega), if_pos ha.1, if_pos ha.2]
    · show dom_Path.l0 (k + 1) (par l a) (acc ++ [a]) l q = _
      simp only [dom_Path.l0]
      rw [if_neg (by omega), hlen, wrap_in (by omega), show (acc.length : Int) + 1 - 1 = acc.length from by omega, if_pos (by omega), if_pos (by omega), hr]
  | succ d ih =>
    intro a acc ha hd hl
    cases hd with
    | up hp hd =>
      have h1 := ih (par l a) (acc ++ [a]) (WFin hw ha hp) hd (by simp; omega)
      have hh : (pathL (par l) (d + 1) a).head? = (pathL (par l) d (par l a)).head? := by
        simp only [pathL]
        cases hc : pathL (par l) d (par l a) with
        | nil => exact absurd hc (pathL_ne _ d _)
        | cons x t => rfl
      rw [hh]
      simp only [upL]
      rw [List.append_assoc] at h1
      refine Ev.step (fun k => ?_) h1
      show dom_Path.l0 (k + 1) a acc l q = dom_Path.l0 k (par l a) (acc ++ [a]) l q
      simp only [dom_Path.l0]
      rw [if_pos ha.1, if_pos (by omega), if_pos ha.1, if_pos ha.2]
theorem ask_ev (hg : Good l q) (n : Int) : Ev (fun k => dom_ask.f k l q n) (if 0 ≤ n ∧ n < l.length then 0 else 1) := by
  refine Ev.bind (f := fun _ t => (if t = 0 then (if n < 0 then (some 1) else (if n ≥ (l.length : Int) then (some 1) else (some t))) else (some t))) hg ?_
  refine Ev.congr (f := fun _ => some (if 0 ≤ n ∧ n < l.length then 0 else 1)) (fun k => ?_) (Ev.now _)
  rw [if_pos rfl]
  by_cases h0 : n < 0
  · rw [if_pos h0, if_neg (by omega)]
  · rw [if_neg h0]
    by_cases h1 : n ≥ (l.length : Int)
    · rw [if_pos h1, if_neg (by omega)]
    · rw [if_neg h1, if_pos (by omega)]
theorem lpath_out (hg : Good l q) {n : Int} (h : ¬ (0 ≤ n ∧ n < l.length)) : Ev (fun k => dom_Path.f k l q n) ([], 1) := by
  have h1 := ask_ev l q hg n
  rw [if_neg h] at h1
  exact Ev.bind (f := fun k t => (if t = 0 then (dom_Path.l0 k n ([] : List Int) l q) else (some (([] : List Int), t)))) h1 (Ev.congr (f := fun _ => some (([] : List Int), (1 : Int))) (fun k => by rw [if_neg (by decide)]) (Ev.now _))
theorem lpath_ev (hg : Good l q) (hf : Fit l) {n : Int} (hn : In l.length n) {d : Nat} (hd : Dep (par l) n d) (h40 : d ≤ 40) : Ev (fun k => dom_Path.f k l q n) (if (pathL (par l) d n).head? = some 0 then (pathL (par l) d n, 0) else ([], 5)) := by
  have h1 := ask_ev l q hg n
  rw [if_pos (show 0 ≤ n ∧ n < l.length from hn)] at h1
  have h2 := lpath_go l q (hg.wf hf).2 d n [] hn hd (by simp; omega)
  rw [List.nil_append, upL_path] at h2
  exact Ev.bind (f := fun k t => (if t = 0 then (dom_Path.l0 k n ([] : List Int) l q) else (some (([] : List Int), t)))) h1 (Ev.congr (fun k => by rw [if_pos rfl]) h2)
end
/-! ### sameInts -/
theorem sameInts_ev (x : List Int) (hx : x.length ≤ 1000) : Ev (fun k => clerestorykeep1_sameInts.f k x x) true := by
  have go : ∀ (m : Nat) (i : Nat), i + m = x.length → Ev (fun k => clerestorykeep1_sameInts.l0 k x x (i : Int)) true := by
    intro m
    induction m with
    | zero =>
      intro i hi
      refine Ev.step (f := fun _ => some true) (fun k => ?_) (Ev.now true)
      simp only [clerestorykeep1_sameInts.l0]
      rw [if_neg (by omega)]
    | succ m ih =>
      intro i hi
      refine Ev.step (fun k => ?_) (ih (i + 1) (by omega))
      show clerestorykeep1_sameInts.l0 (k + 1) x x (i : Int) = clerestorykeep1_sameInts.l0 k x x ((i + 1 : Nat) : Int)
      simp only [clerestorykeep1_sameInts.l0]
      rw [if_pos (by omega), if_pos (by omega), if_pos (by omega), if_pos trivial, wrap_in (by omega)]
      rfl
  refine Ev.congr (fun k => ?_) (go x.length 0 (by omega))
  simp only [clerestorykeep1_sameInts.f]
  rw [if_pos trivial]
  rfl

/-! ### What the order holds -/
section
variable {n : Nat} {par : Int → Int} {kids : Int → List Int}
theorem pre_kid : ∀ (f : Nat) (a y k : Int) (da dy : Nat), Dep par a da → (∀ b, In n b → ∀ c ∈ kids b, In n c ∧ par c = b) → In n a → y ∈ preF kids f a → Dep par y dy → dy < da + f → k ∈ kids y → k ∈ preF kids f a
  | 0, a, y, k, da, dy, hd, hk, ha, hy, hdy, hlt, hky => by
    simp only [preF, List.mem_singleton] at hy
    subst hy
    have := hd.fn hdy
    omega
  | f + 1, a, y, k, da, dy, hd, hk, ha, hy, hdy, hlt, hky => by
    simp only [preF, List.mem_cons, List.mem_flatMap] at hy ⊢
    rcases hy with rfl | ⟨c, hc, hyc⟩
    · obtain ⟨t, ht⟩ := preF_head kids f k
      exact .inr ⟨k, hky, by rw [ht]; exact List.mem_cons_self⟩
    · obtain ⟨h1, h2⟩ := hk a ha c hc
      exact .inr ⟨c, hc, pre_kid f c y k (da + 1) dy (.up (by rw [h2]; exact ha.1) (by rw [h2]; exact hd)) hk h1 hyc hdy (by omega) hky⟩
/-- Whatever lies below it is there. -/
theorem pre_all (h : WF n par kids) {f : Nat} {a x : Int} {da : Nat} (hd : Dep par a da) (ha : In n a) (hu : Under par a x) : In n x → ∀ dx, Dep par x dx → dx ≤ da + f → x ∈ preF kids f a := by
  induction hu with
  | refl =>
    intro _ dx _ _
    obtain ⟨t, ht⟩ := preF_head kids f a
    rw [ht]
    exact List.mem_cons_self
  | up hp _ ih =>
    rename_i x _
    intro hx dx hdx hle
    rcases h.par_or hx with e | ⟨h1, h2⟩
    · omega
    · cases hdx with
      | top h0 => omega
      | up h0' hd' =>
        rename_i d'
        exact pre_kid f a _ _ da d' hd (fun b hb c hc => h.kid_in hb hc) ha (ih h1 d' hd' (by omega)) hd' (by omega) h2
/-- A node stands behind its parent. -/
theorem pre_behind : ∀ (f : Nat) (a : Int), (∀ b, In n b → ∀ c ∈ kids b, In n c ∧ par c = b) → In n a → ∀ (P : List Int) (x : Int) (T : List Int), preF kids f a = P ++ x :: T → P ≠ [] → 0 ≤ par x ∧ par x ∈ P
  | 0, a, hk, ha, P, x, T, he, hP => by
    cases P with
    | nil => exact absurd rfl hP
    | cons p P => simp [preF] at he
  | f + 1, a, hk, ha, P, x, T, he, hP => by
    cases P with
    | nil => exact absurd rfl hP
    | cons p P =>
      simp only [preF, List.cons_append, List.cons.injEq] at he
      obtain ⟨rfl, he⟩ := he
      have go : ∀ (ks : List Int), (∀ c ∈ ks, In n c ∧ par c = a) → ∀ (P : List Int) (x : Int) (T : List Int), ks.flatMap (preF kids f) = P ++ x :: T → par x = a ∨ (0 ≤ par x ∧ par x ∈ P) := by
        intro ks
        induction ks with
        | nil => intro _ P x T he; simp at he
        | cons c ks ih =>
          intro hc P x T he
          rw [List.flatMap_cons] at he
          rcases List.append_eq_append_iff.1 he with ⟨C, h1, h2⟩ | ⟨C, h1, h2⟩
          · rcases ih (fun b hb => hc b (List.mem_cons_of_mem _ hb)) C x T h2 with h3 | ⟨h3, h4⟩
            · exact .inl h3
            · exact .inr ⟨h3, by rw [h1]; exact List.mem_append_right _ h4⟩
          · cases C with
            | nil =>
              rw [List.nil_append] at h2
              rcases ih (fun b hb => hc b (List.mem_cons_of_mem _ hb)) [] x T (by rw [List.nil_append]; exact h2.symm) with h3 | ⟨_, h4⟩
              · exact .inl h3
              · cases h4
            | cons y C =>
              rw [List.cons_append, List.cons.injEq] at h2
              obtain ⟨rfl, _⟩ := h2
              by_cases hPe : P = []
              · subst hPe
                obtain ⟨t, ht⟩ := preF_head kids f c
                rw [ht, List.nil_append, List.cons.injEq] at h1
                rw [← h1.1]
                exact .inl (hc c List.mem_cons_self).2
              · exact .inr (pre_behind f c hk (hc c List.mem_cons_self).1 P x C h1 hPe)
      rcases go (kids a) (hk a ha) P x T he with h1 | ⟨h1, h2⟩
      · exact ⟨by rw [h1]; exact ha.1, by rw [h1]; exact List.mem_cons_self⟩
      · exact ⟨h1, List.mem_cons_of_mem _ h2⟩
theorem under_head (h0 : par 0 < 0) : ∀ (d : Nat) (a : Int), Dep par a d → ((pathL par d a).head? = some 0 ↔ Under par 0 a)
  | 0, a, hd => by
    have hp : par a < 0 := by cases hd with | top h => exact h
    simp only [pathL, List.head?_cons, Option.some.injEq]
    constructor
    · rintro rfl; exact .refl
    · intro h
      cases h with
      | refl => rfl
      | up h0 _ => omega
  | d + 1, a, hd => by
    cases hd with
    | up hp hd =>
      have hh : (pathL par (d + 1) a).head? = (pathL par d (par a)).head? := by
        simp only [pathL]
        cases hc : pathL par d (par a) with
        | nil => exact absurd hc (pathL_ne _ d _)
        | cons x t => rfl
      rw [hh, under_head h0 d (par a) hd]
      constructor
      · exact fun h => .up hp h
      · intro h
        cases h with
        | refl => omega
        | up _ h => exact h
end
end Go.Proofs.YtaojbobbjnibhaaDoor.DocC
