/- The walker's printed functions come to what the plain ones tell. -/
import Derived.Test.YtaojbobbjnibhaaDoorDocD
namespace Go.Proofs.YtaojbobbjnibhaaDoor.DocC
open Go.RowKit Go.Proofs.YtaojbobbjnibhaaDoorW.PrintWords Go.Proofs.YtaojbobbjnibhaaDoor.PCM Go.Proofs.YtaojbobbjnibhaaDoor.DocP
set_option linter.unusedVariables false

/-! ### Index -/
theorem index_go (xs : List Int) (x : Int) (hx : xs.length ≤ 9223372036854775807) : ∀ (m' : Nat) (i : Int), 0 ≤ i → i + m' = xs.length →
    Ev (fun k => slices_Index_int_int.l0 k xs x (xs.length : Int) i) (match (xs.drop i.toNat).findIdx? (· == x) with | some j => i + j | none => -1) := by
  intro m'
  induction m' with
  | zero =>
    intro i h0 he
    rw [List.drop_eq_nil_of_le (by omega)]
    refine Ev.step (f := fun _ => some (-1)) (fun k => ?_) (Ev.now (-1))
    simp only [slices_Index_int_int.l0]
    rw [if_neg (by omega)]
  | succ m' ih =>
    intro i h0 he
    have hil : i.toNat < xs.length := by omega
    have hr : rd xs i = xs[i.toNat] := by unfold rd; rw [List.getD_eq_getElem?_getD, List.getElem?_eq_getElem hil]; rfl
    rw [List.drop_eq_getElem_cons hil, List.findIdx?_cons, ← hr]
    by_cases e : x = rd xs i
    · rw [if_pos (by rw [e]; simp)]
      refine Ev.step (f := fun _ => some i) (fun k => ?_) (by simpa using Ev.now i)
      simp only [slices_Index_int_int.l0]
      rw [if_pos (by omega), if_pos h0, if_pos (by omega), if_pos e]
    · rw [if_neg (by simpa using fun h => e h.symm)]
      have h1 := ih (i + 1) (by omega) (by omega)
      rw [show (i + 1).toNat = i.toNat + 1 from by omega] at h1
      have e2 : (match Option.map (fun (i : Nat) => i + 1) (List.findIdx? (· == x) (xs.drop (i.toNat + 1))) with | some (j : Nat) => i + (j : Int) | none => -1) = (match List.findIdx? (· == x) (xs.drop (i.toNat + 1)) with | some (j : Nat) => i + 1 + (j : Int) | none => -1) := by
        cases List.findIdx? (· == x) (xs.drop (i.toNat + 1)) with
        | none => rfl
        | some j => show i + ((j + 1 : Nat) : Int) = i + 1 + (j : Int); omega
      rw [e2]
      refine Ev.step (fun k => ?_) h1
      show slices_Index_int_int.l0 (k + 1) xs x (xs.length : Int) i = slices_Index_int_int.l0 k xs x (xs.length : Int) (i + 1)
      simp only [slices_Index_int_int.l0]
      rw [if_pos (by omega), if_pos h0, if_pos (by omega), if_neg e, wrap_in (by omega)]
theorem index_ev (xs : List Int) (x : Int) (hx : xs.length ≤ 9223372036854775807) : Ev (fun k => slices_Index_int_int.f k xs x) (ix xs x) := by
  have h := index_go xs x hx xs.length 0 (by omega) (by omega)
  unfold ix
  rw [show (0 : Int).toNat = 0 from rfl, List.drop_zero] at h
  have e : (match List.findIdx? (· == x) xs with | some j => (0 : Int) + (j : Int) | none => -1) = (match List.findIdx? (· == x) xs with | some i => (i : Int) | none => -1) := by
    cases List.findIdx? (· == x) xs with
    | none => rfl
    | some j => simp
  rw [e] at h
  exact h

/-! ### Reverse -/
def Rv (x y : List Int) (i j : Int) : Prop := y.length = x.length ∧ ∀ m : Int, 0 ≤ m → m < x.length → rd y m = if i ≤ m ∧ m ≤ j then rd x (i + j - m) else rd x m
theorem rd_set {x : List Int} {i m v : Int} (h0 : 0 ≤ i) (hm : 0 ≤ m) (hi : i < x.length) : rd (x.set i.toNat v) m = if m = i then v else rd x m := by
  unfold rd
  rw [List.getD_eq_getElem?_getD, List.getD_eq_getElem?_getD]
  by_cases e : m = i
  · rw [if_pos e, e, List.getElem?_set_self (by omega)]; rfl
  · rw [if_neg e, List.getElem?_set_ne (by omega)]
theorem reverse_go : ∀ (f : Nat) (x : List Int) (i j : Int), 0 ≤ i → i + j = x.length - 1 → j - i ≤ f → x.length ≤ 9223372036854775807 → ∃ y, Ev (fun k => slices_Reverse_int_int.l0 k x i j) y ∧ Rv x y i j
  | 0, x, i, j, h0, he, hf, hx => by
    refine ⟨x, Ev.step (f := fun _ => some x) (fun k => ?_) (Ev.now x), rfl, fun m h1 h2 => ?_⟩
    · simp only [slices_Reverse_int_int.l0]; rw [if_neg (by omega)]
    · split
      · rw [show i + j - m = m from by omega]
      · rfl
  | f + 1, x, i, j, h0, he, hf, hx => by
    by_cases hlt : i < j
    · obtain ⟨y, hy, hl, hr⟩ := reverse_go f ((x.set i.toNat (rd x j)).set j.toNat (rd x i)) (i + 1) (j - 1) (by omega) (by simp; omega) (by omega) (by simpa using hx)
      refine ⟨y, Ev.step (fun k => ?_) hy, by simpa using hl, fun m h1 h2 => ?_⟩
      · show slices_Reverse_int_int.l0 (k + 1) x i j = slices_Reverse_int_int.l0 k ((x.set i.toNat (rd x j)).set j.toNat (rd x i)) (i + 1) (j - 1)
        simp only [slices_Reverse_int_int.l0]
        rw [if_pos hlt, if_pos (by omega), if_pos (by omega), if_pos (by omega), if_pos (by omega), wrap_in (x := i + 1) (by omega), wrap_in (x := j - 1) (by omega)]
      · have hs : ∀ t : Int, 0 ≤ t → rd ((x.set i.toNat (rd x j)).set j.toNat (rd x i)) t = if t = j then rd x i else if t = i then rd x j else rd x t := fun t ht => by
          rw [rd_set (by omega) ht (by rw [List.length_set]; omega)]
          split
          · rfl
          · rw [rd_set h0 ht (by omega)]
        rw [hr m h1 (by simpa using h2)]
        by_cases e1 : m = i
        · rw [if_neg (by omega), hs m h1, if_neg (by omega), if_pos e1, if_pos (by omega), show i + j - m = j from by omega]
        by_cases e2 : m = j
        · rw [if_neg (by omega), hs m h1, if_pos e2, if_pos (by omega), show i + j - m = i from by omega]
        by_cases e3 : i ≤ m ∧ m ≤ j
        · rw [if_pos (by omega), if_pos e3, show i + 1 + (j - 1) - m = i + j - m from by omega, hs _ (by omega), if_neg (by omega), if_neg (by omega)]
        · rw [if_neg (by omega), if_neg e3, hs m h1, if_neg e2, if_neg e1]
    · refine ⟨x, Ev.step (f := fun _ => some x) (fun k => ?_) (Ev.now x), rfl, fun m h1 h2 => ?_⟩
      · simp only [slices_Reverse_int_int.l0]; rw [if_neg (by omega)]
      · split
        · rw [show i + j - m = m from by omega]
        · rfl
theorem reverse_ev (x : List Int) (hx : x.length ≤ 9223372036854775807) : Ev (fun k => slices_Reverse_int_int.f k x) x.reverse := by
  obtain ⟨y, hy, hl, hr⟩ := reverse_go x.length x 0 ((x.length : Int) - 1) (by omega) (by omega) (by omega) hx
  have e : y = x.reverse := by
    refine List.ext_getElem (by simpa using hl) fun m h1 h2 => ?_
    have h3 := hr m (by omega) (by omega)
    rw [if_pos (by omega)] at h3
    unfold rd at h3
    rw [List.getD_eq_getElem?_getD, List.getD_eq_getElem?_getD, Int.toNat_natCast, List.getElem?_eq_getElem h1, List.getElem?_eq_getElem (by omega)] at h3
    rw [List.getElem_reverse]
    have h4 : y[m] = x[((0 : Int) + ((x.length : Int) - 1) - (m : Int)).toNat]'(by omega) := h3
    rw [h4]
    congr 1
    omega
  rw [← e]
  refine Ev.congr (fun k => ?_) hy
  simp only [slices_Reverse_int_int.f]
  rw [wrap_in (by omega)]

section walker
variable (l : List S35) (q : Bool)
def upL (par : Int → Int) : Nat → Int → List Int
  | 0, a => [a]
  | d + 1, a => a :: upL par d (par a)
theorem upL_path (par : Int → Int) : ∀ d a, (upL par d a).reverse = pathL par d a
  | 0, a => rfl
  | d + 1, a => by simp only [upL, pathL, List.reverse_cons, upL_path par d]
theorem upL_length (par : Int → Int) : ∀ d a, (upL par d a).length = d + 1
  | 0, a => rfl
  | d + 1, a => by simp only [upL, List.length_cons, upL_length par d]
theorem WFin {n : Nat} {par : Int → Int} {kids : Int → List Int} (h : WF n par kids) {a : Int} (ha : In n a) (hp : 0 ≤ par a) : In n (par a) := by
  rcases h.par_or ha with e | ⟨h1, _⟩
  · omega
  · exact h1
theorem path_go (hw : WF l.length (par l) (kids l)) : ∀ (d : Nat) (a : Int) (acc : List Int), In l.length a → Dep (par l) a d → acc.length + d ≤ 1000 → Ev (fun k => walk_walker_path.l0 k a acc l q) ((acc ++ upL (par l) d a).reverse, q) := by
  intro d
  induction d with
  | zero =>
    intro a acc ha hd hl
    have hp : par l a < 0 := by cases hd with | top h => exact h
    refine Ev.step (f := fun k => walk_walker_path.l0 k (par l a) (acc ++ [a]) l q) (fun k => ?_) (Ev.step (f := fun k => (slices_Reverse_int_int.f k (acc ++ [a])).bind fun t => some (t, q)) (fun k => ?_) ?_)
    · show walk_walker_path.l0 (k + 1) a acc l q = _
      simp only [walk_walker_path.l0]
      rw [if_pos ha.1, if_pos (by omega), if_pos ha.1, if_pos ha.2]
    · show walk_walker_path.l0 (k + 1) (par l a) (acc ++ [a]) l q = _
      simp only [walk_walker_path.l0]
      rw [if_neg (by omega)]
    · exact Ev.bind (f := fun _ t => some (t, q)) (reverse_ev _ (by simp; omega)) (Ev.now _)
  | succ d ih =>
    intro a acc ha hd hl
    cases hd with
    | up hp hd =>
      have h1 := ih (par l a) (acc ++ [a]) (WFin hw ha hp) hd (by simp; omega)
      simp only [upL]
      rw [List.append_assoc] at h1
      refine Ev.step (fun k => ?_) h1
      show walk_walker_path.l0 (k + 1) a acc l q = walk_walker_path.l0 k (par l a) (acc ++ [a]) l q
      simp only [walk_walker_path.l0]
      rw [if_pos ha.1, if_pos (by omega), if_pos ha.1, if_pos ha.2]
theorem path_ev (hw : WF l.length (par l) (kids l)) {a : Int} {d : Nat} (ha : In l.length a) (hd : Dep (par l) a d) (h40 : d ≤ 40) : Ev (fun k => walk_walker_path.f k l q a) (pathL (par l) d a, q) := by
  have h := path_go l q hw d a [] ha hd (by simp; omega)
  rw [List.nil_append, upL_path] at h
  exact h
theorem beside_ev (hw : WF l.length (par l) (kids l)) (hf : Fit l) {a by_ : Int} (ha : In l.length a) (hb : by_ = 1 ∨ by_ = -1) : Ev (fun k => walk_walker_beside.f k l q a by_) (beside (par l) (kids l) a by_, q) := by
  by_cases hp : par l a < 0
  · refine Ev.congr (f := fun _ => some (-1, q)) (fun k => ?_) (by unfold beside; rw [if_pos hp]; exact Ev.now _)
    simp only [walk_walker_beside.f]
    rw [if_pos ha.1, if_pos ha.2, if_pos hp]
  · have hi := WFin hw ha (by omega)
    obtain ⟨i, hil, hia, hix, _⟩ := hw.place ha (by omega)
    have hfk := hf (par l a)
    have hI := index_ev (kids l (par l a)) a hfk
    rw [hix] at hI
    unfold beside
    rw [if_neg hp, hix]
    have hwr : wrap64 ((i : Int) + by_) = (i : Int) + by_ := wrap_in (by omega)
    refine Ev.congr (f := fun k => (slices_Index_int_int.f k (kids l (par l a)) a).bind fun t => (if (wrap64 (t + by_)) < 0 then (some ((-1), q)) else (if (wrap64 (t + by_)) ≥ ((kids l (par l a)).length : Int) then (some ((-1), q)) else (if 0 ≤ (wrap64 (t + by_)) then (if (wrap64 (t + by_)) < ((kids l (par l a)).length : Int) then (some (rd (kids l (par l a)) (wrap64 (t + by_)), q)) else (none)) else (none))))) (fun k => ?_) (Ev.bind (f := fun _ t => (if (wrap64 (t + by_)) < 0 then (some ((-1), q)) else (if (wrap64 (t + by_)) ≥ ((kids l (par l a)).length : Int) then (some ((-1), q)) else (if 0 ≤ (wrap64 (t + by_)) then (if (wrap64 (t + by_)) < ((kids l (par l a)).length : Int) then (some (rd (kids l (par l a)) (wrap64 (t + by_)), q)) else (none)) else (none))))) hI ?_)
    · simp only [walk_walker_beside.f]
      rw [if_pos ha.1, if_pos ha.2, if_neg hp, if_pos hi.1, if_pos hi.2]
    · refine Ev.congr (f := fun _ => some (nth (kids l (par l a)) ((i : Int) + by_), q)) (fun k => ?_) (Ev.now _)
      rw [hwr]
      unfold nth
      by_cases h1 : (i : Int) + by_ < 0
      · rw [if_pos h1, if_neg (by omega)]
      · by_cases h2 : (i : Int) + by_ ≥ (kids l (par l a)).length
        · rw [if_neg h1, if_pos h2, if_neg (by omega)]
        · rw [if_neg h1, if_neg h2, if_pos (by omega), if_pos (by omega), if_pos (by omega)]
          rfl
theorem kid_some (hf : Fit l) {a : Int} (ha : In l.length a) (last : Bool) : walk_walker_kid.f l q a last = some (if last = true then lastKid (kids l) a else firstKid (kids l) a, q) := by
  have hfk : ((rd_T35 l a).f5).length ≤ 9223372036854775807 := hf a
  simp only [walk_walker_kid.f]
  rw [if_pos ha.1, if_pos ha.2]
  by_cases h0 : (((rd_T35 l a).f5).length : Int) = 0
  · have he : kids l a = [] := List.eq_nil_of_length_eq_zero (by simpa using h0)
    rw [if_pos h0, lastKid_nil a he, firstKid_nil a he]
    simp
  · rw [if_neg h0]
    cases last with
    | true =>
      rw [if_pos rfl, if_pos rfl, wrap_in (by omega), if_pos (by omega), if_pos (by omega)]
      have : lastKid (kids l) a = rd (rd_T35 l a).f5 (((rd_T35 l a).f5.length : Int) - 1) := by
        show nth (rd_T35 l a).f5 (((rd_T35 l a).f5.length : Int) - 1) = _
        unfold nth
        rw [if_pos (by omega)]
        rfl
      rw [this]
    | false =>
      rw [if_neg (show ¬ (false = true) from by simp), if_neg (show ¬ (false = true) from by simp), if_pos (by omega)]
      have : firstKid (kids l) a = rd (rd_T35 l a).f5 0 := by
        show nth (rd_T35 l a).f5 0 = _
        unfold nth
        rw [if_pos (by omega)]
        rfl
      rw [this]
theorem beside_neg {n : Nat} {par : Int → Int} {kids : Int → List Int} {a by_ : Int} (hw : WF n par kids) (ha : In n a) (h : ¬ 0 ≤ beside par kids a by_) : beside par kids a by_ = -1 := by
  unfold beside at h ⊢
  by_cases hp : par a < 0
  · rw [if_pos hp]
  · rw [if_neg hp] at h ⊢
    by_cases hr : 0 ≤ ix (kids (par a)) a + by_ ∧ ix (kids (par a)) a + by_ < (kids (par a)).length
    · exfalso
      obtain ⟨j, hj⟩ := Int.eq_ofNat_of_zero_le hr.1
      rw [hj] at h hr
      rw [nth_nat (by omega)] at h
      exact h (hw.kid_in (WFin hw ha (by omega)) (List.getElem_mem _)).1.1
    · exact nth_out (by omega)
theorem over_ev (hw : WF l.length (par l) (kids l)) (hf : Fit l) : ∀ (d : Nat) (a : Int), In l.length a → Dep (par l) a d → Ev (fun k => walk_walker_over.f k l q a) (overF (par l) (kids l) d a, q) := by
  intro d
  induction d with
  | zero =>
    intro a ha hd
    have hp : par l a < 0 := by cases hd with | top h => exact h
    have hb := beside_ev l q hw hf ha (by_ := 1) (.inl rfl)
    have hb0 : beside (par l) (kids l) a 1 = -1 := by unfold beside; rw [if_pos hp]
    show Ev (fun k => walk_walker_over.l0 k a l q) (beside (par l) (kids l) a 1, q)
    rw [hb0] at hb ⊢
    refine Ev.step (fun k => by simp only [walk_walker_over.l0]; rw [if_pos ha.1]) (Ev.bind (f := fun k (b : Int × Bool) => if b.1 ≥ 0 then some (b.1, b.2) else if 0 ≤ a then if a < (l.length : Int) then walk_walker_over.l0 k (par l a) l b.2 else none else none) hb (Ev.congr (f := fun k => walk_walker_over.l0 k (par l a) l q) (fun k => ?_) (Ev.step (f := fun _ => some (-1, q)) (fun k => ?_) (Ev.now _))))
    · rw [if_neg (by omega), if_pos ha.1, if_pos ha.2]
    · simp only [walk_walker_over.l0]; rw [if_neg (by omega)]
  | succ d ih =>
    intro a ha hd
    have hb := beside_ev l q hw hf ha (by_ := 1) (.inl rfl)
    cases hd with
    | up hp hd =>
      have h1 := ih (par l a) (WFin hw ha hp) hd
      show Ev (fun k => walk_walker_over.l0 k a l q) (overF (par l) (kids l) (d + 1) a, q)
      simp only [overF]
      refine Ev.step (fun k => by simp only [walk_walker_over.l0]; rw [if_pos ha.1]) (Ev.bind (f := fun k (b : Int × Bool) => if b.1 ≥ 0 then some (b.1, b.2) else if 0 ≤ a then if a < (l.length : Int) then walk_walker_over.l0 k (par l a) l b.2 else none else none) hb ?_)
      by_cases h0 : 0 ≤ beside (par l) (kids l) a 1
      · rw [if_pos h0]
        exact Ev.congr (f := fun _ => some (beside (par l) (kids l) a 1, q)) (fun k => by rw [if_pos h0]) (Ev.now _)
      · rw [if_neg h0]
        exact Ev.congr (fun k => by rw [if_neg h0, if_pos ha.1, if_pos ha.2]; rfl) h1
theorem next_ev (hw : WF l.length (par l) (kids l)) (hf : Fit l) {d : Nat} {a : Int} (ha : In l.length a) (hd : Dep (par l) a d) : Ev (fun k => walk_walker_next.f k l q a) (nextF (par l) (kids l) d a, q) := by
  have hk := kid_some l q hf ha false
  rw [if_neg (by simp)] at hk
  have ho := over_ev l q hw hf d a ha hd
  unfold nextF
  by_cases he : kids l a = []
  · rw [if_pos he]
    refine Ev.congr (fun k => ?_) (Ev.bind (f := fun _ (b : Int × Bool) => some (b.1, b.2)) ho (Ev.now _))
    simp only [walk_walker_next.f, hk, Option.bind_some, firstKid_nil a he]
    rw [if_neg (by omega)]
  · have hl : 0 < (kids l a).length := List.length_pos_iff.2 he
    have h0 : 0 ≤ firstKid (kids l) a := by rw [firstKid_cons a hl]; exact (hw.kid_in ha (List.getElem_mem _)).1.1
    rw [if_neg he]
    refine Ev.congr (f := fun _ => some (firstKid (kids l) a, q)) (fun k => ?_) (Ev.now _)
    simp only [walk_walker_next.f, hk, Option.bind_some]
    rw [if_pos h0]
theorem down_ev (hw : WF l.length (par l) (kids l)) (hf : Fit l) : ∀ (f : Nat) (a : Int) (d : Nat), In l.length a → Dep (par l) a d → 40 ≤ f + d → Ev (fun k => walk_walker_last.l0 k a l q) (downF (kids l) f a, q) := by
  intro f
  induction f with
  | zero =>
    intro a d ha hd h40
    have hk := kid_some l q hf ha true
    rw [if_pos rfl] at hk
    have he : kids l a = [] := by
      have h1 := (hw.down 0 a d ha hd h40).1
      cases h1 with
      | leaf h => exact h
      | step h _ =>
        exfalso
        obtain ⟨h3, h4⟩ := hw.lastKid_in ha h
        obtain ⟨d', hd', h5⟩ := hw.dep _ h3.1 h3.2
        have := h5.fn (.up (by rw [h4]; exact ha.1) (by rw [h4]; exact hd))
        omega
    refine Ev.step (f := fun _ => some (a, q)) (fun k => ?_) (Ev.now _)
    simp only [walk_walker_last.l0, hk, Option.bind_some, lastKid_nil a he]
    rw [if_neg (by omega)]
  | succ f ih =>
    intro a d ha hd h40
    have hk := kid_some l q hf ha true
    rw [if_pos rfl] at hk
    simp only [downF]
    by_cases he : kids l a = []
    · rw [if_pos he]
      refine Ev.step (f := fun _ => some (a, q)) (fun k => ?_) (Ev.now _)
      simp only [walk_walker_last.l0, hk, Option.bind_some, lastKid_nil a he]
      rw [if_neg (by omega)]
    · rw [if_neg he]
      obtain ⟨h3, h4⟩ := hw.lastKid_in ha he
      refine Ev.step (fun k => ?_) (ih (lastKid (kids l) a) (d + 1) h3 (.up (by rw [h4]; exact ha.1) (by rw [h4]; exact hd)) (by omega))
      show walk_walker_last.l0 (k + 1) a l q = walk_walker_last.l0 k (lastKid (kids l) a) l q
      simp only [walk_walker_last.l0, hk, Option.bind_some]
      rw [if_pos h3.1]
theorem last_ev (hw : WF l.length (par l) (kids l)) (hf : Fit l) {a : Int} (ha : In l.length a) : Ev (fun k => walk_walker_last.f k l q a) (lastF (par l) (kids l) 40 a, q) := by
  have hb := beside_ev l q hw hf ha (by_ := -1) (.inr rfl)
  refine Ev.bind (f := fun k (b : Int × Bool) => if b.1 < 0 then (if 0 ≤ a then (if a < (l.length : Int) then some (par l a, b.2) else none) else none) else walk_walker_last.l0 k b.1 l b.2) hb ?_
  unfold lastF
  by_cases h0 : beside (par l) (kids l) a (-1) < 0
  · rw [if_pos h0]
    exact Ev.congr (f := fun _ => some (par l a, q)) (fun k => by rw [if_pos h0, if_pos ha.1, if_pos ha.2]) (Ev.now _)
  · rw [if_neg h0]
    obtain ⟨_, h2, _, _⟩ := hw.beside_back ha rfl (show 0 ≤ beside (par l) (kids l) a (-1) by omega)
    obtain ⟨dc, hdc, h8⟩ := hw.dep _ h2.1 h2.2
    exact Ev.congr (fun k => by rw [if_neg h0]) (down_ev l q hw hf 40 _ dc h2 h8 (by omega))
/-- A step's end. -/
def stepF (par : Int → Int) (kids : Int → List Int) (d : Nat) (a how : Int) : Int :=
  if how = 1 then nextF par kids d a else if how = 2 then lastF par kids 40 a else if how = 3 then overF par kids d a else if how = 4 then firstKid kids a else if how = 5 then lastKid kids a
  else if how = 6 then beside par kids a 1 else if how = 7 then beside par kids a (-1) else par a
theorem step_ev (hw : WF l.length (par l) (kids l)) (hf : Fit l) {d : Nat} {a how : Int} (ha : In l.length a) (hd : Dep (par l) a d) : Ev (fun k => walk_walker_step.f k l q a how) (stepF (par l) (kids l) d a how, q) := by
  unfold stepF
  by_cases h1 : how = 1
  · rw [if_pos h1]
    exact Ev.congr (fun k => by simp only [walk_walker_step.f]; rw [if_pos h1]) (Ev.bind (f := fun _ (b : Int × Bool) => some (b.1, b.2)) (next_ev l q hw hf ha hd) (Ev.now _))
  rw [if_neg h1]
  by_cases h2 : how = 2
  · rw [if_pos h2]
    exact Ev.congr (fun k => by simp only [walk_walker_step.f]; rw [if_neg h1, if_pos h2]) (Ev.bind (f := fun _ (b : Int × Bool) => some (b.1, b.2)) (last_ev l q hw hf ha) (Ev.now _))
  rw [if_neg h2]
  by_cases h3 : how = 3
  · rw [if_pos h3]
    exact Ev.congr (fun k => by simp only [walk_walker_step.f]; rw [if_neg h1, if_neg h2, if_pos h3]) (Ev.bind (f := fun _ (b : Int × Bool) => some (b.1, b.2)) (over_ev l q hw hf d a ha hd) (Ev.now _))
  rw [if_neg h3]
  by_cases h4 : how = 4
  · rw [if_pos h4]
    have hk := kid_some l q hf ha false
    rw [if_neg (by simp)] at hk
    subst h4
    refine Ev.congr (f := fun k => walk_walker_step.j0 k a 4 4 true l q) (fun k => ?_) (Ev.step (f := fun _ => some (firstKid (kids l) a, q)) (fun k => ?_) (Ev.now _))
    · simp [walk_walker_step.f]
    · simp [walk_walker_step.j0, hk]
  rw [if_neg h4]
  by_cases h5 : how = 5
  · rw [if_pos h5]
    have hk := kid_some l q hf ha true
    rw [if_pos rfl] at hk
    subst h5
    refine Ev.congr (f := fun k => walk_walker_step.j0 k a 5 5 true l q) (fun k => ?_) (Ev.step (f := fun _ => some (lastKid (kids l) a, q)) (fun k => ?_) (Ev.now _))
    · simp [walk_walker_step.f]
    · simp [walk_walker_step.j0, hk]
  rw [if_neg h5]
  have hst : ∀ k, walk_walker_step.f k l q a how = walk_walker_step.j0 k a how how false l q := fun k => by
    simp only [walk_walker_step.f]
    rw [if_neg h1, if_neg h2, if_neg h3, if_neg h4, show (how == 5) = false from by simpa using h5]
  refine Ev.congr hst ?_
  by_cases h6 : how = 6
  · rw [if_pos h6]
    exact Ev.step (fun k => by simp only [walk_walker_step.j0, Bool.false_eq_true, if_false]; rw [if_pos h6]) (Ev.bind (f := fun _ (b : Int × Bool) => some (b.1, b.2)) (beside_ev l q hw hf ha (.inl rfl)) (Ev.now _))
  rw [if_neg h6]
  by_cases h7 : how = 7
  · rw [if_pos h7]
    exact Ev.step (fun k => by simp only [walk_walker_step.j0, Bool.false_eq_true, if_false]; rw [if_neg h6, if_pos h7]) (Ev.bind (f := fun _ (b : Int × Bool) => some (b.1, b.2)) (beside_ev l q hw hf ha (.inr rfl)) (Ev.now _))
  rw [if_neg h7]
  exact Ev.step (f := fun _ => some (par l a, q)) (fun k => by simp only [walk_walker_step.j0, Bool.false_eq_true, if_false]; rw [if_neg h6, if_neg h7, if_pos ha.1, if_pos ha.2]) (Ev.now _)
end walker
end Go.Proofs.YtaojbobbjnibhaaDoor.DocC
