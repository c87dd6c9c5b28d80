/- Points in documents, told by their paths: what the printed functions of span come to (XDocV without the walk; texts of up to 400 bytes). -/
import Derived.Test.YtlgoaphdhgidoaaDoorDocM
import Derived.Test.YtlgoaphdhgidoaaDoorMovA
namespace Go.Proofs.YtlgoaphdhgidoaaDoor.DocC
open Go.RowKit Go.Proofs.YtlgoaphdhgidoaaDoorW.PrintWords Go.Proofs.YtlgoaphdhgidoaaDoor.PSY Go.Proofs.YtlgoaphdhgidoaaDoor.DocP Go.Proofs.YtlgoaphdhgidoaaDoor.DocT
set_option linter.unusedVariables false

/-! ### Index -/
theorem index_go (xs : List Int) (x : Int) (hx : xs.length ≤ 9223372036854775807) : ∀ (m' : Nat) (i : Int), 0 ≤ i → i + m' = xs.length →
    Ev (fun k => slices_Index_int_int.l0 k xs x (xs.length : Int) i) (match (xs.drop i.toNat).findIdx? (· == x) with | some j => i + j | none => -1) := by
  intro m'
  induction m' with
  | zero =>
    intro i h0 he
    rw [List.drop_eq_nil_of_le (by omega)]
    refine Ev.step (f := fun _ => some (-1)) (fun k => ?_) (Ev.now (-1))
    simp only [slices_Index_int_int.l0]
    rw [if_neg (by omega)]
  | succ m' ih =>
    intro i h0 he
    have hil : i.toNat < xs.length := by omega
    have hr : rd xs i = xs[i.toNat] := by unfold rd; rw [List.getD_eq_getElem?_getD, List.getElem?_eq_getElem hil]; rfl
    rw [List.drop_eq_getElem_cons hil, List.findIdx?_cons, ← hr]
    by_cases e : x = rd xs i
    · rw [if_pos (by rw [e]; simp)]
      refine Ev.step (f := fun _ => some i) (fun k => ?_) (by simpa using Ev.now i)
      simp only [slices_Index_int_int.l0]
      rw [if_pos (by omega), if_pos h0, if_pos (by omega), if_pos e]
    · rw [if_neg (by simpa using fun h => e h.symm)]
      have h1 := ih (i + 1) (by omega) (by omega)
      rw [show (i + 1).toNat = i.toNat + 1 from by omega] at h1
      have e2 : (match Option.map (fun (i : Nat) => i + 1) (List.findIdx? (· == x) (xs.drop (i.toNat + 1))) with | some (j : Nat) => i + (j : Int) | none => -1) = (match List.findIdx? (· == x) (xs.drop (i.toNat + 1)) with | some (j : Nat) => i + 1 + (j : Int) | none => -1) := by
        cases List.findIdx? (· == x) (xs.drop (i.toNat + 1)) with
        | none => rfl
        | some j => show i + ((j + 1 : Nat) : Int) = i + 1 + (j : Int); omega
      rw [e2]
      refine Ev.step (fun k => ?_) h1
      show slices_Index_int_int.l0 (k + 1) xs x (xs.length : Int) i = slices_Index_int_int.l0 k xs x (xs.length : Int) (i + 1)
      simp only [slices_Index_int_int.l0]
      rw [if_pos (by omega), if_pos h0, if_pos (by omega), if_neg e, wrap_in (by omega)]
theorem index_ev (xs : List Int) (x : Int) (hx : xs.length ≤ 9223372036854775807) : Ev (fun k => slices_Index_int_int.f k xs x) (ix xs x) := by
  have h := index_go xs x hx xs.length 0 (by omega) (by omega)
  unfold ix
  rw [show (0 : Int).toNat = 0 from rfl, List.drop_zero] at h
  have e : (match List.findIdx? (· == x) xs with | some j => (0 : Int) + (j : Int) | none => -1) = (match List.findIdx? (· == x) xs with | some i => (i : Int) | none => -1) := by
    cases List.findIdx? (· == x) xs with
    | none => rfl
    | some j => simp
  rw [e] at h
  exact h

/-! ### Reverse -/
def Rv (x y : List Int) (i j : Int) : Prop := y.length = x.length ∧ ∀ m : Int, 0 ≤ m → m < x.length → rd y m = if i ≤ m ∧ m ≤ j then rd x (i + j - m) else rd x m
theorem rd_set {x : List Int} {i m v : Int} (h0 : 0 ≤ i) (hm : 0 ≤ m) (hi : i < x.length) : rd (x.set i.toNat v) m = if m = i then v else rd x m := by
  unfold rd
  rw [List.getD_eq_getElem?_getD, List.getD_eq_getElem?_getD]
  by_cases e : m = i
  · rw [if_pos e, e, List.getElem?_set_self (by omega)]; rfl
  · rw [if_neg e, List.getElem?_set_ne (by omega)]
theorem reverse_go : ∀ (f : Nat) (x : List Int) (i j : Int), 0 ≤ i → i + j = x.length - 1 → j - i ≤ f → x.length ≤ 9223372036854775807 → ∃ y, Ev (fun k => slices_Reverse_int_int.l0 k x i j) y ∧ Rv x y i j
  | 0, x, i, j, h0, he, hf, hx => by
    refine ⟨x, Ev.step (f := fun _ => some x) (fun k => ?_) (Ev.now x), rfl, fun m h1 h2 => ?_⟩
    · simp only [slices_Reverse_int_int.l0]; rw [if_neg (by omega)]
    · split
      · rw [show i + j - m = m from by omega]
      · rfl
  | f + 1, x, i, j, h0, he, hf, hx => by
    by_cases hlt : i < j
    · obtain ⟨y, hy, hl, hr⟩ := reverse_go f ((x.set i.toNat (rd x j)).set j.toNat (rd x i)) (i + 1) (j - 1) (by omega) (by simp; omega) (by omega) (by simpa using hx)
      refine ⟨y, Ev.step (fun k => ?_) hy, by simpa using hl, fun m h1 h2 => ?_⟩
      · show slices_Reverse_int_int.l0 (k + 1) x i j = slices_Reverse_int_int.l0 k ((x.set i.toNat (rd x j)).set j.toNat (rd x i)) (i + 1) (j - 1)
        simp only [slices_Reverse_int_int.l0]
        rw [if_pos hlt, if_pos (by omega), if_pos (by omega), if_pos (by omega), if_pos (by omega), wrap_in (x := i + 1) (by omega), wrap_in (x := j - 1) (by omega)]
      · have hs : ∀ t : Int, 0 ≤ t → rd ((x.set i.toNat (rd x j)).set j.toNat (rd x i)) t = if t = j then rd x i else if t = i then rd x j else rd x t := fun t ht => by
          rw [rd_set (by omega) ht (by rw [List.length_set]; omega)]
          split
          · rfl
          · rw [rd_set h0 ht (by omega)]
        rw [hr m h1 (by simpa using h2)]
        by_cases e1 : m = i
        · rw [if_neg (by omega), hs m h1, if_neg (by omega), if_pos e1, if_pos (by omega), show i + j - m = j from by omega]
        by_cases e2 : m = j
        · rw [if_neg (by omega), hs m h1, if_pos e2, if_pos (by omega), show i + j - m = i from by omega]
        by_cases e3 : i ≤ m ∧ m ≤ j
        · rw [if_pos (by omega), if_pos e3, show i + 1 + (j - 1) - m = i + j - m from by omega, hs _ (by omega), if_neg (by omega), if_neg (by omega)]
        · rw [if_neg (by omega), if_neg e3, hs m h1, if_neg e2, if_neg e1]
    · refine ⟨x, Ev.step (f := fun _ => some x) (fun k => ?_) (Ev.now x), rfl, fun m h1 h2 => ?_⟩
      · simp only [slices_Reverse_int_int.l0]; rw [if_neg (by omega)]
      · split
        · rw [show i + j - m = m from by omega]
        · rfl
theorem reverse_ev (x : List Int) (hx : x.length ≤ 9223372036854775807) : Ev (fun k => slices_Reverse_int_int.f k x) x.reverse := by
  obtain ⟨y, hy, hl, hr⟩ := reverse_go x.length x 0 ((x.length : Int) - 1) (by omega) (by omega) (by omega) hx
  have e : y = x.reverse := by
    refine List.ext_getElem (by simpa using hl) fun m h1 h2 => ?_
    have h3 := hr m (by omega) (by omega)
    rw [if_pos (by omega)] at h3
    unfold rd at h3
    rw [List.getD_eq_getElem?_getD, List.getD_eq_getElem?_getD, Int.toNat_natCast, List.getElem?_eq_getElem h1, List.getElem?_eq_getElem (by omega)] at h3
    rw [List.getElem_reverse]
    have h4 : y[m] = x[((0 : Int) + ((x.length : Int) - 1) - (m : Int)).toNat]'(by omega) := h3
    rw [h4]
    congr 1
    omega
  rw [← e]
  refine Ev.congr (fun k => ?_) hy
  simp only [slices_Reverse_int_int.f]
  rw [wrap_in (by omega)]

theorem fit_take {l : List S37} (h : Fit l) (n : Nat) : Fit (l.take n) := fun i => by
  by_cases hi : i.toNat < n
  · have e : kids (l.take n) i = kids l i := by
      show (rd_T37 (l.take n) i).f5 = (rd_T37 l i).f5
      unfold rd_T37
      rw [List.getD_eq_getElem?_getD, List.getD_eq_getElem?_getD, List.getElem?_take, if_pos hi]
    rw [e]
    exact h i
  · show ((rd_T37 (l.take n) i).f5).length ≤ _
    unfold rd_T37
    rw [List.getD_eq_getElem?_getD, List.getElem?_take, if_neg hi]
    decide
/-- A document that may be, for some nodes. -/
def Good (l : List S37) (q : Bool) : Prop := Ev (fun k => dom_Check.f k l q) 0
theorem Good.wf {l : List S37} {q : Bool} (h : Good l q) (hf : Fit l) : l.length ≤ 200 ∧ WF l.length (par l) (kids l) := by
  obtain ⟨r, hr, hd⟩ := check_ev l q hf
  obtain ⟨K, h1⟩ := h
  obtain ⟨K', h2⟩ := hr
  have e := (h1 (K + K') (by omega)).symm.trans (h2 (K + K') (by omega))
  exact hd (Option.some.inj e).symm
theorem compare_ev (a b : Int) : Ev (fun _ => cmp_Compare_int.f a b) (if a < b then -1 else if a > b then 1 else 0) := by
  refine Ev.congr (f := fun _ => some (if a < b then -1 else if a > b then 1 else 0)) (fun k => ?_) (Ev.now _)
  have h1 : ∀ z : Int, cmp_isNaN_int.f z = some false := fun z => by simp [cmp_isNaN_int.f]
  simp only [cmp_Compare_int.f, h1, Option.bind_some]
  rw [if_neg (by decide), if_neg (by decide)]
  ((repeat' split) <;> rfl)
theorem compares_go (x y : List Int) (hx : x.length ≤ 1000) (hy : y.length ≤ 1000) : ∀ (m i : Nat), i + m = x.length → i ≤ y.length →
    ∃ t, Ev (fun k => slices_Compare_int_int.l0 k x y x (x.length : Int) (i : Int)) t ∧ (t < 0 ↔ lexlt (x.drop i) (y.drop i) = true) ∧ (0 < t ↔ lexlt (y.drop i) (x.drop i) = true) := by
  intro m
  induction m with
  | zero =>
    intro i hi hiy
    rw [List.drop_eq_nil_of_le (show x.length ≤ i by omega)]
    by_cases h : (x.length : Int) < (y.length : Int)
    · refine ⟨-1, Ev.step (f := fun _ => some (-1)) (fun k => ?_) (Ev.now _), ?_⟩
      · simp only [slices_Compare_int_int.l0]
        rw [if_neg (by omega), if_pos h]
      · rw [List.drop_eq_getElem_cons (by omega)]
        simp [lexlt]
    · refine ⟨0, Ev.step (f := fun _ => some 0) (fun k => ?_) (Ev.now _), ?_⟩
      · simp only [slices_Compare_int_int.l0]
        rw [if_neg (by omega), if_neg h]
      · rw [List.drop_eq_nil_of_le (show y.length ≤ i by omega)]
        simp [lexlt]
  | succ m ih =>
    intro i hi hiy
    have hix : i < x.length := by omega
    have hrx : rd x (i : Int) = x[i] := by unfold rd; rw [Int.toNat_natCast, List.getD_eq_getElem?_getD, List.getElem?_eq_getElem hix]; rfl
    rw [List.drop_eq_getElem_cons hix]
    by_cases hl : i < y.length
    · have hry : rd y (i : Int) = y[i] := by unfold rd; rw [Int.toNat_natCast, List.getD_eq_getElem?_getD, List.getElem?_eq_getElem hl]; rfl
      rw [List.drop_eq_getElem_cons hl]
      have hc := compare_ev x[i] y[i]
      by_cases he : x[i] = y[i]
      · obtain ⟨t, ht, hd⟩ := ih (i + 1) (by omega) (by omega)
        rw [if_neg (by omega), if_neg (by omega)] at hc
        refine ⟨t, Ev.step (f := fun k => (cmp_Compare_int.f x[i] y[i]).bind fun t => (if t = 0 then (slices_Compare_int_int.l0 k x y x (x.length : Int) ((i + 1 : Nat) : Int)) else (some t))) (fun k => ?_) (Ev.bind (f := fun k t => (if t = 0 then (slices_Compare_int_int.l0 k x y x (x.length : Int) ((i + 1 : Nat) : Int)) else (some t))) hc (Ev.congr (fun k => by rw [if_pos rfl]) ht)), ?_⟩
        · simp only [slices_Compare_int_int.l0]
          rw [if_pos (by omega), if_pos (by omega), if_pos (by omega), if_neg (by omega), if_pos (by omega), hrx, hry, wrap_in (by omega)]
          rfl
        · exact ⟨hd.1.trans (by simp [lexlt, he]), hd.2.trans (by simp [lexlt, he])⟩
      · obtain ⟨c, hc0⟩ : ∃ c : Int, (if x[i] < y[i] then -1 else if x[i] > y[i] then 1 else 0) = c := ⟨_, rfl⟩
        rw [hc0] at hc
        have hcn : c ≠ 0 := by rw [← hc0]; ((repeat' split) <;> omega)
        refine ⟨c, Ev.step (f := fun k => (cmp_Compare_int.f x[i] y[i]).bind fun t => (if t = 0 then (slices_Compare_int_int.l0 k x y x (x.length : Int) ((i + 1 : Nat) : Int)) else (some t))) (fun k => ?_) (Ev.bind (f := fun k t => (if t = 0 then (slices_Compare_int_int.l0 k x y x (x.length : Int) ((i + 1 : Nat) : Int)) else (some t))) hc (Ev.congr (f := fun _ => some c) (fun k => by rw [if_neg hcn]) (Ev.now c))), ?_⟩
        · simp only [slices_Compare_int_int.l0]
          rw [if_pos (by omega), if_pos (by omega), if_pos (by omega), if_neg (by omega), if_pos (by omega), hrx, hry, wrap_in (by omega)]
          rfl
        · have he' : ¬ y[i] = x[i] := fun e => he e.symm
          rw [← hc0]
          constructor <;> (simp only [lexlt, he, he', decide_false, Bool.false_and, Bool.or_false, decide_eq_true_eq]; ((repeat' split) <;> omega))
    · refine ⟨1, Ev.step (f := fun _ => some 1) (fun k => ?_) (Ev.now _), ?_⟩
      · simp only [slices_Compare_int_int.l0]
        rw [if_pos (by omega), if_pos (by omega), if_pos (by omega), if_pos (by omega)]
      · rw [List.drop_eq_nil_of_le (show y.length ≤ i by omega)]
        simp [lexlt]
theorem compares_ev (x y : List Int) (hx : x.length ≤ 1000) (hy : y.length ≤ 1000) : ∃ t, Ev (fun k => slices_Compare_int_int.f k x y) t ∧ (t < 0 ↔ lexlt x y = true) ∧ (0 < t ↔ lexlt y x = true) := by
  obtain ⟨t, h1, h2⟩ := compares_go x y hx hy x.length 0 (by omega) (by omega)
  exact ⟨t, h1, by simpa using h2⟩
/-! ### Paths of points -/
section
variable (l : List S37) (q : Bool)
theorem spath_go (hw : WF l.length (par l) (kids l)) (hl200 : l.length ≤ 200) : ∀ (d : Nat) (a : Int) (acc : List Int), In l.length a → Dep (par l) a d → acc.length + d ≤ 1000 →
    Ev (fun k => span_ranger_path.l0 k acc a l q) (if topP (par l) d a = 0 then (acc ++ upP (par l) (kids l) d a).reverse else []) := by
  intro d
  induction d with
  | zero =>
    intro a acc ha hd hl
    have hp : par l a < 0 := by cases hd with | top h => exact h
    simp only [topP, upP, List.append_nil]
    by_cases h0 : a = 0
    · rw [if_pos h0]
      refine Ev.step (f := fun k => (slices_Reverse_int_int.f k acc).bind fun t => some t) (fun k => ?_) (Ev.bind (f := fun _ t => some t) (reverse_ev _ (by omega)) (Ev.now _))
      show span_ranger_path.l0 (k + 1) acc a l q = _
      simp only [span_ranger_path.l0]
      rw [if_neg (by omega)]
    · rw [if_neg h0]
      have := ha.1
      refine Ev.step (f := fun _ => some []) (fun k => ?_) (Ev.now _)
      show span_ranger_path.l0 (k + 1) acc a l q = _
      simp only [span_ranger_path.l0]
      rw [if_pos (by omega), if_pos ha.1, if_pos ha.2, if_pos hp]
  | succ d ih =>
    intro a acc ha hd hl
    cases hd with
    | up hp hd =>
      have hpi := WFin hw ha hp
      have ha0 : 0 < a := by
        have := ha.1
        rcases Int.lt_or_eq_of_le this with h | h
        · exact h
        · rw [← h, hw.root] at hp; omega
      obtain ⟨i, hi, hix, hixe, _⟩ := hw.place ha hp
      have hkl : (kids l (par l a)).length ≤ 200 := by
        have := nodup_len l.length (kids l (par l a)) (hw.nodup _ hpi.1 hpi.2) (fun x hx => (hw.kid_in hpi hx).1)
        omega
      have h1 := ih (par l a) (acc ++ [2 * ix (kids l (par l a)) a + 1]) hpi hd (by simp; omega)
      simp only [topP, upP]
      rw [List.append_assoc] at h1
      refine Ev.step (f := fun k => (slices_Index_int_int.f k (kids l (par l a)) a).bind fun t => (if acc.length < 17592186044416 then (span_ranger_path.l0 k (acc ++ [wrap64 ((wrap64 (2 * t)) + 1)]) (par l a) l q) else (none))) (fun k => ?_) (Ev.bind (f := fun k t => (if acc.length < 17592186044416 then (span_ranger_path.l0 k (acc ++ [wrap64 ((wrap64 (2 * t)) + 1)]) (par l a) l q) else (none))) (index_ev (kids l (par l a)) a (by omega)) (Ev.congr (fun k => ?_) h1))
      · show span_ranger_path.l0 (k + 1) acc a l q = _
        simp only [span_ranger_path.l0]
        rw [if_pos (by omega), if_pos ha.1, if_pos ha.2, if_neg (show ¬ par l a < 0 by omega), if_pos hpi.1, if_pos hpi.2]
      · rw [if_pos (by omega), hixe, wrap_in (x := 2 * (i : Int)) (by omega), wrap_in (by omega)]
/-- The path of a point. -/
def pth (l : List S37) (d : Nat) (a t : Int) : List Int := ([2 * t] ++ upP (par l) (kids l) d a).reverse
theorem pth_eq (l : List S37) (d : Nat) (a t : Int) : pth l d a t = (upP (par l) (kids l) d a).reverse ++ [2 * t] := by simp [pth]
theorem pth_len (l : List S37) (d : Nat) (a t : Int) : (pth l d a t).length = d + 1 := by simp [pth, upP_len]
theorem spath_ev (hw : WF l.length (par l) (kids l)) (hl200 : l.length ≤ 200) {a t : Int} {d : Nat} (ha : In l.length a) (hd : Dep (par l) a d) (h40 : d ≤ 40) (h0 : 0 ≤ t) (ht : t ≤ 1000) : Ev (fun k => span_ranger_path.f k l q a t) (if topP (par l) d a = 0 then pth l d a t else []) := by
  have h1 := spath_go l q hw hl200 d a [2 * t] ha hd (by simp; omega)
  refine Ev.congr (fun k => ?_) h1
  simp only [span_ranger_path.f]
  rw [wrap_in (by omega)]
/-- Texts of some length alone. -/
def Brief (l : List S37) : Prop := ∀ i : Int, (rd_T37 l i).f3.size ≤ 400
/-- How far a point in a node may be. -/
def roomP (l : List S37) (a : Int) : Int := if (rd_T37 l a).f0 = 3 ∨ (rd_T37 l a).f0 = 4 then ((rd_T37 l a).f3.size : Int) else ((kids l a).length : Int)
theorem room_f {a : Int} (ha : In l.length a) : span_ranger_room.f l q a = some (roomP l a) := by
  unfold span_ranger_room.f roomP
  rw [if_pos ha.1, if_pos ha.2]
  by_cases h3 : (rd_T37 l a).f0 = 3
  · rw [if_pos h3, if_pos (.inl h3)]
  · rw [if_neg h3]
    by_cases h4 : (rd_T37 l a).f0 = 4
    · rw [if_pos h4, if_pos (.inr h4)]
    · rw [if_neg h4, if_neg (by simp [h3, h4])]
theorem room_le (hw : WF l.length (par l) (kids l)) (hl200 : l.length ≤ 200) (hb : Brief l) {a : Int} (ha : In l.length a) : roomP l a ≤ 400 := by
  unfold roomP
  split
  · have := hb a
    omega
  · have := nodup_len l.length (kids l a) (hw.nodup _ ha.1 ha.2) (fun x hx => (hw.kid_in ha hx).1)
    omega
/-- A point that may be. -/
def OkP (l : List S37) (a t : Int) : Prop := In l.length a ∧ 0 ≤ t ∧ t ≤ roomP l a ∧ ∃ d, d ≤ 40 ∧ Dep (par l) a d ∧ topP (par l) d a = 0
theorem point_ev (hw : WF l.length (par l) (kids l)) (hl200 : l.length ≤ 200) (hb : Brief l) (a t : Int) : ∃ e, Ev (fun k => span_ranger_point.f k l q a t) e ∧ (e = 0 ↔ OkP l a t) := by
  by_cases h0 : a < 0
  · exact ⟨1, Ev.congr (f := fun _ => some 1) (fun k => by unfold span_ranger_point.f; rw [if_pos h0]) (Ev.now _), by simp only [OkP, In]; constructor <;> intro h <;> omega⟩
  by_cases h1 : (l.length : Int) ≤ a
  · exact ⟨1, Ev.congr (f := fun _ => some 1) (fun k => by unfold span_ranger_point.f; rw [if_neg h0, if_pos h1]) (Ev.now _), by simp only [OkP, In]; constructor <;> intro h <;> omega⟩
  by_cases h2 : t < 0
  · exact ⟨1, Ev.congr (f := fun _ => some 1) (fun k => by unfold span_ranger_point.f; rw [if_neg h0, if_neg h1, if_pos h2]) (Ev.now _), by simp only [OkP, In]; constructor <;> intro h <;> omega⟩
  have ha : In l.length a := ⟨by omega, by omega⟩
  have hr := room_f l q ha
  by_cases h3 : roomP l a < t
  · exact ⟨1, Ev.congr (f := fun _ => some 1) (fun k => by unfold span_ranger_point.f; rw [if_neg h0, if_neg h1, if_neg h2, hr, Option.bind_some, if_pos h3]) (Ev.now _), by simp only [OkP]; constructor <;> intro h <;> omega⟩
  have hrl := room_le l hw hl200 hb ha
  obtain ⟨d, h40, hd⟩ := hw.dep a ha.1 ha.2
  have hp := spath_ev l q hw hl200 ha hd h40 (t := t) (by omega) (by omega)
  by_cases h4 : topP (par l) d a = 0
  · rw [if_pos h4] at hp
    refine ⟨0, Ev.congr (f := fun k => (span_ranger_path.f k l q a t).bind fun r => if r = [] then some 5 else some 0) (fun k => by unfold span_ranger_point.f; rw [if_neg h0, if_neg h1, if_neg h2, hr, Option.bind_some, if_neg h3]) (Ev.bind (f := fun _ r => if r = [] then some (5 : Int) else some 0) hp (Ev.congr (f := fun _ => some 0) (fun k => by rw [if_neg (fun he => by have := congrArg List.length he; rw [pth_len] at this; simp at this)]) (Ev.now _))), ?_⟩
    exact ⟨fun _ => ⟨ha, by omega, by omega, d, h40, hd, h4⟩, fun _ => rfl⟩
  · rw [if_neg h4] at hp
    refine ⟨5, Ev.congr (f := fun k => (span_ranger_path.f k l q a t).bind fun r => if r = [] then some 5 else some 0) (fun k => by unfold span_ranger_point.f; rw [if_neg h0, if_neg h1, if_neg h2, hr, Option.bind_some, if_neg h3]) (Ev.bind (f := fun _ r => if r = [] then some (5 : Int) else some 0) hp (Ev.congr (f := fun _ => some 5) (fun k => by rw [if_pos rfl]) (Ev.now _))), ?_⟩
    refine ⟨fun h => by omega, ?_⟩
    rintro ⟨_, _, _, d', _, hd', h5⟩
    rw [hd'.fn hd] at h5
    exact absurd h5 h4
/-- Two points at once. -/
theorem points_ev (hf : Fit l) (hb : Brief l) (a s b t : Int) : ∃ e, Ev (fun k => span_points.f k l q [⟨a, s⟩, ⟨b, t⟩]) (l, q, e) ∧ (e = 0 ↔ (Good l q ∧ OkP l a s ∧ OkP l b t)) := by
  obtain ⟨c, hc, _⟩ := check_ev l q hf
  by_cases h0 : c = 0
  · have hg : Good l q := by rw [h0] at hc; exact hc
    obtain ⟨hl200, hw⟩ := hg.wf hf
    obtain ⟨e1, p1, d1⟩ := point_ev l q hw hl200 hb a s
    obtain ⟨e2, p2, d2⟩ := point_ev l q hw hl200 hb b t
    have hlen : ((([⟨a, s⟩, ⟨b, t⟩] : List S27).length : Nat) : Int) = 2 := rfl
    have hfin : Ev (fun k => span_points.l0 k [⟨a, s⟩, ⟨b, t⟩] 2 2 l q) (l, q, 0) := Ev.step (f := fun _ => some (l, q, 0)) (fun k => by simp only [span_points.l0]; rw [if_neg (by omega)]) (Ev.now _)
    have hsec : Ev (fun k => span_points.l0 k [⟨a, s⟩, ⟨b, t⟩] 2 1 l q) (l, q, e2) := by
      refine Ev.step (f := fun k => (span_ranger_point.f k l q b t).bind fun t => (if t = 0 then (span_points.l0 k [⟨a, s⟩, ⟨b, _⟩] 2 2 l q) else (some (l, q, t)))) (fun k => ?_) (Ev.bind (f := fun k e => (if e = 0 then (span_points.l0 k [⟨a, s⟩, ⟨b, t⟩] 2 2 l q) else (some (l, q, e)))) p2 ?_)
      · simp only [span_points.l0]
        rw [if_pos (by omega), if_pos (by omega), if_pos (by simp), wrap_in (x := 1 + 1) (by omega)]
        rfl
      · by_cases he : e2 = 0
        · rw [he]
          exact Ev.congr (fun k => by rw [if_pos rfl]) hfin
        · exact Ev.congr (f := fun _ => some (l, q, e2)) (fun k => by rw [if_neg he]) (Ev.now _)
    refine ⟨if e1 = 0 then e2 else e1, Ev.bind (f := fun k c => (if c = 0 then (span_points.l0 k [⟨a, s⟩, ⟨b, t⟩] 2 0 l q) else (some (l, q, c)))) hc (Ev.congr (fun k => by rw [if_pos h0]) ?_), ?_⟩
    · refine Ev.step (f := fun k => (span_ranger_point.f k l q a s).bind fun e => (if e = 0 then (span_points.l0 k [⟨a, s⟩, ⟨b, t⟩] 2 1 l q) else (some (l, q, e)))) (fun k => ?_) (Ev.bind (f := fun k e => (if e = 0 then (span_points.l0 k [⟨a, s⟩, ⟨b, t⟩] 2 1 l q) else (some (l, q, e)))) p1 ?_)
      · simp only [span_points.l0]
        rw [if_pos (by omega), if_pos (by omega), if_pos (by simp), wrap_in (x := 0 + 1) (by omega)]
        rfl
      · by_cases he : e1 = 0
        · rw [he, if_pos rfl]
          exact Ev.congr (fun k => by rw [if_pos rfl]) hsec
        · rw [if_neg he]
          exact Ev.congr (f := fun _ => some (l, q, e1)) (fun k => by rw [if_neg he]) (Ev.now _)
    · by_cases he : e1 = 0
      · rw [if_pos he, d2]
        exact ⟨fun h => ⟨hg, d1.1 he, h⟩, fun h => h.2.2⟩
      · rw [if_neg he]
        exact ⟨fun h => absurd h he, fun h => d1.2 h.2.1⟩
  · refine ⟨c, Ev.bind (f := fun k c => (if c = 0 then (span_points.l0 k [⟨a, s⟩, ⟨b, t⟩] 2 0 l q) else (some (l, q, c)))) hc (Ev.congr (f := fun _ => some (l, q, c)) (fun k => by rw [if_neg h0]) (Ev.now _)), fun h => absurd h h0, fun h => ?_⟩
    obtain ⟨K, h1⟩ := h.1
    obtain ⟨K', h2⟩ := hc
    have := (h1 (K + K') (by omega)).symm.trans (h2 (K + K') (by omega))
    exact (Option.some.inj this).symm
/-- A point's path, whatever way up is told. -/
theorem OkP.dep {a t : Int} (h : OkP l a t) : ∃ d, d ≤ 40 ∧ Dep (par l) a d ∧ topP (par l) d a = 0 := h.2.2.2
open Classical in
noncomputable def pp (l : List S37) (a t : Int) : List Int := if h : ∃ d, d ≤ 40 ∧ Dep (par l) a d ∧ topP (par l) d a = 0 then pth l h.choose a t else []
theorem pp_eq {a t : Int} {d : Nat} (h40 : d ≤ 40) (hd : Dep (par l) a d) (h0 : topP (par l) d a = 0) : pp l a t = pth l d a t := by
  have h : ∃ d, d ≤ 40 ∧ Dep (par l) a d ∧ topP (par l) d a = 0 := ⟨d, h40, hd, h0⟩
  unfold pp
  rw [dif_pos h, h.choose_spec.2.1.fn hd]
theorem order_ev (hg : Good l q) (hf : Fit l) (hb : Brief l) {a s b t : Int} (ha : OkP l a s) (hbt : OkP l b t) : ∃ r, Ev (fun k => span_ranger_order.f k l q a s b t) r ∧ (r < 0 ↔ lexlt (pp l a s) (pp l b t) = true) ∧ (0 < r ↔ lexlt (pp l b t) (pp l a s) = true) := by
  obtain ⟨hl200, hw⟩ := hg.wf hf
  obtain ⟨ha1, ha2, ha3, d, h40, hd, h0⟩ := ha
  obtain ⟨hb1, hb2, hb3, d', h40', hd', h0'⟩ := hbt
  rw [pp_eq l h40 hd h0, pp_eq l h40' hd' h0']
  have hra := room_le l hw hl200 hb ha1
  have hrb := room_le l hw hl200 hb hb1
  by_cases he : a = b
  · subst he
    rw [hd'.fn hd, pth_eq, pth_eq, lexlt_app, lexlt_app]
    have hc := compare_ev s t
    obtain ⟨c, hc0⟩ : ∃ c : Int, (if s < t then -1 else if s > t then 1 else 0) = c := ⟨_, rfl⟩
    rw [hc0] at hc
    refine ⟨c, Ev.congr (f := fun _ => (cmp_Compare_int.f s t).bind fun t => some t) (fun k => by simp only [span_ranger_order.f]; rw [if_pos trivial]) (Ev.bind (f := fun _ t => some t) hc (Ev.now _)), ?_⟩
    rw [← hc0]
    constructor <;> (simp only [lexlt, Bool.and_false, Bool.or_false, decide_eq_true_eq]; ((repeat' split) <;> omega))
  · have p1 := spath_ev l q hw hl200 ha1 hd h40 ha2 (by omega)
    have p2 := spath_ev l q hw hl200 hb1 hd' h40' hb2 (by omega)
    rw [if_pos h0] at p1
    rw [if_pos h0'] at p2
    obtain ⟨r, h1, h2⟩ := compares_ev (pth l d a s) (pth l d' b t) (by rw [pth_len]; omega) (by rw [pth_len]; omega)
    refine ⟨r, Ev.congr (f := fun k => (span_ranger_path.f k l q a s).bind fun x => (span_ranger_path.f k l q b t).bind fun y => (slices_Compare_int_int.f k x y).bind fun t => some t) (fun k => by simp only [span_ranger_order.f]; rw [if_neg he]) (Ev.bind (f := fun k x => (span_ranger_path.f k l q b t).bind fun y => (slices_Compare_int_int.f k x y).bind fun t => some t) p1 (Ev.bind (f := fun k y => (slices_Compare_int_int.f k (pth l d a s) y).bind fun t => some t) p2 (Ev.bind (f := fun _ t => some t) h1 (Ev.now _)))), h2⟩
end
theorem ev_of {α : Type} {g : Nat → Option α} (hm : ∀ k, LeO (g k) (g (k + 1))) {k : Nat} {r : α} (h : g k = some r) : Ev g r := by
  refine ⟨k, fun n hn => ?_⟩
  obtain ⟨m, rfl⟩ : ∃ m, n = k + m := ⟨n - k, by omega⟩
  induction m with
  | zero => exact h
  | succ m ih => exact hm (k + m) r (ih (by omega))
/-! ### brief -/
def cutT (x : S37) : S37 := ⟨x.f0, x.f1, x.f2, x.f3.extract 0 (mn (x.f3.size : Int) 30).toNat, x.f4, x.f5⟩
def briefL (l : List S37) : List S37 := (l.take (mn (l.length : Int) 25).toNat).map cutT
theorem some_f (a : ByteArray) : clerestorykeep1_some.f a 30 = some (a.extract 0 (mn (a.size : Int) 30).toNat) := by
  have : 0 ≤ mn (a.size : Int) 30 ∧ mn (a.size : Int) 30 ≤ a.size := by unfold mn; split <;> omega
  simp only [clerestorykeep1_some.f]
  rw [if_pos this.1, if_pos this.2]
theorem few_f (l : List S37) (q : Bool) : clerestorykeep1_few.f l q 25 = some (l.take (mn (l.length : Int) 25).toNat, q) := by
  have : 0 ≤ mn (l.length : Int) 25 ∧ mn (l.length : Int) 25 ≤ l.length := by unfold mn; split <;> omega
  simp only [clerestorykeep1_few.f]
  rw [if_pos this.1, if_pos this.2]
theorem brief_go (q : Bool) (t : List S37) : ∀ (m i : Nat) (x : List S37), x.length ≤ 1000 → i + m = x.length → Ev (fun k => clerestorykeep1_brief.l0 k x (i : Int) t q) (x.take i ++ (x.drop i).map cutT, q) := by
  intro m
  induction m with
  | zero =>
    intro i x hx hi
    rw [List.take_of_length_le (by omega), List.drop_eq_nil_of_le (by omega), List.map_nil, List.append_nil]
    refine Ev.step (f := fun _ => some (x, q)) (fun k => ?_) (Ev.now _)
    simp only [clerestorykeep1_brief.l0]
    rw [if_neg (by omega)]
  | succ m ih =>
    intro i x hx hi
    have hil : i < x.length := by omega
    have hr : rd_T37 x (i : Int) = x[i] := by unfold rd_T37; rw [Int.toNat_natCast, List.getD_eq_getElem?_getD, List.getElem?_eq_getElem hil]; rfl
    have h1 := ih (i + 1) (x.set i (cutT x[i])) (by simpa using hx) (by simp; omega)
    have e : (x.set i (cutT x[i])).take (i + 1) ++ ((x.set i (cutT x[i])).drop (i + 1)).map cutT = x.take i ++ (x.drop i).map cutT := by
      rw [List.drop_set_of_lt (by omega), List.drop_eq_getElem_cons hil, List.map_cons, List.take_succ_eq_append_getElem (by simpa using hil), List.getElem_set_self, List.take_set_of_le (by omega), List.append_assoc]
      rfl
    rw [e] at h1
    refine Ev.step (f := fun k => clerestorykeep1_brief.l0 k (x.set i (cutT x[i])) ((i + 1 : Nat) : Int) t q) (fun k => ?_) h1
    simp only [clerestorykeep1_brief.l0]
    rw [if_pos (by omega), if_pos (by omega), some_f, Option.bind_some, hr, Int.toNat_natCast, wrap_in (by omega)]
    rfl
theorem brief_ev (l : List S37) (q : Bool) : Ev (fun k => clerestorykeep1_brief.f k l q) (briefL l, q) := by
  have hlen : (l.take (mn (l.length : Int) 25).toNat).length ≤ 25 := by
    rw [List.length_take]
    have : mn (l.length : Int) 25 ≤ 25 := by unfold mn; split <;> omega
    omega
  have h := brief_go q (l.take (mn (l.length : Int) 25).toNat) (l.take (mn (l.length : Int) 25).toNat).length 0 (l.take (mn (l.length : Int) 25).toNat) (by omega) (by omega)
  rw [List.take_zero, List.drop_zero, List.nil_append] at h
  refine Ev.congr (fun k => ?_) h
  simp only [clerestorykeep1_brief.f, few_f, Option.bind_some]
  rw [if_pos (by simp only [List.length_nil]; omega)]
  rfl
theorem rd_brief (l : List S37) (i : Int) : (rd_T37 (briefL l) i).f5.length ≤ (rd_T37 l i).f5.length ∧ (rd_T37 (briefL l) i).f3.size ≤ 30 := by
  unfold rd_T37 briefL
  rw [List.getD_eq_getElem?_getD, List.getD_eq_getElem?_getD, List.getElem?_map, List.getElem?_take]
  split
  · cases h : l[i.toNat]? with
    | none => exact ⟨Nat.zero_le _, by decide⟩
    | some x =>
      refine ⟨Nat.le_refl _, ?_⟩
      show (x.f3.extract 0 (mn (x.f3.size : Int) 30).toNat).size ≤ 30
      have : mn (x.f3.size : Int) 30 ≤ 30 := by unfold mn; split <;> omega
      rw [ByteArray.size_extract]
      omega
  · exact ⟨Nat.zero_le _, by decide⟩
end Go.Proofs.YtlgoaphdhgidoaaDoor.DocC
