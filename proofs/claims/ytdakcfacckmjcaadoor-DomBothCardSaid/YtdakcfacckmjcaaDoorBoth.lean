/- The law DomBoth walked by hand: it returns true. -/
import Derived.Test.YtdakcfacckmjcaaDoorDocK
import Derived.Test.YtdakcfacckmjcaaDoorSame
namespace Go.Proofs.YtdakcfacckmjcaaDoor.Both
open Go.RowKit Go.Proofs.YtdakcfacckmjcaaDoorW.PrintWords Go.Proofs.YtdakcfacckmjcaaDoorW.PrintLast Go.Proofs.YtdakcfacckmjcaaDoorW.PrintMore Go.Proofs.YtdakcfacckmjcaaDoor.PDB Go.Proofs.YtdakcfacckmjcaaDoor.DocP Go.Proofs.YtdakcfacckmjcaaDoor.DocC Go.Proofs.YtdakcfacckmjcaaDoor.Same
attribute [local go_sem] max2_int min2_int max_two min_two max_three min_three max_four min_four
set_option linter.unusedVariables false
set_option linter.unusedSimpArgs false
theorem begun_calls (w : World) : Calls Tryd.prog 6 #[] w fun e w' => e = .returned (.bool true) ∧ Below w.heap.size w w' :=
  clerestorykeep1_domBegun.calls 60 true w (by kernel_rfl)
theorem attr_heap : Kd.Heap k48 := Kd.heap_iso _ (Kd.heap_pair Kd.heap_string Kd.heap_string)
theorem node_heap : Kd.Heap k41 := Kd.heap_iso _ (Kd.heap_pair (Kd.heap_int .i64) (Kd.heap_pair Kd.heap_string (Kd.heap_pair (Kd.heap_slice 48 attr_heap) (Kd.heap_pair Kd.heap_string (Kd.heap_pair (Kd.heap_int .i64) (Kd.heap_slice 3 (Kd.heap_int .i64)))))))
theorem edit_heap : Kd.Heap k43 := Kd.heap_iso _ (Kd.heap_pair (Kd.heap_int .i64) (Kd.heap_pair (Kd.heap_int .i64) (Kd.heap_pair (Kd.heap_int .i64) (Kd.heap_pair (Kd.heap_int .i64) (Kd.heap_pair Kd.heap_string (Kd.heap_pair Kd.heap_string node_heap))))))
/-- A document that is read. -/
def Rd (W : World) (A : Option Addr) (n c : Nat) (l : List S41) : Prop := n = l.length ∧ n ≤ c ∧ Kd.C k41 W A l.length l
theorem Rd.on {W W' : World} {A : Option Addr} {n c : Nat} {l : List S41} (h : Rd W A n c l) (hb : Below W.heap.size W W') : Rd W' A n c l := ⟨h.1, h.2.1, Kd.C_below h.2.2 hb⟩
/-- A document that lies apart from box g. -/
def Dv (W : World) (g : Nat) (A : Option Addr) (n c : Nat) (l : List S41) : Prop := n = l.length ∧ n ≤ c ∧ ∃ ok : Nat → Prop, (∀ k, ok k → k ≠ g) ∧ Kd.F k41 W ok A l.length l
theorem Dv.rd {W : World} {g : Nat} {A : Option Addr} {n c : Nat} {l : List S41} (h : Dv W g A n c l) : Rd W A n c l := by
  obtain ⟨h1, h2, ok, h3, h4⟩ := h
  exact ⟨h1, h2, Kd.F_now h4⟩
theorem Dv.below {W W' : World} {g : Nat} {A : Option Addr} {n c : Nat} {l : List S41} (h : Dv W g A n c l) (hb : Below W.heap.size W W') : Dv W' g A n c l := by
  obtain ⟨h1, h2, ok, h3, h4⟩ := h
  exact ⟨h1, h2, ok, h3, Kd.F_below h4 hb⟩
theorem Dv.set {W : World} {g : Nat} {A : Option Addr} {n c : Nat} {l : List S41} (h : Dv W g A n c l) (i : Nat) (u : Value) : Dv (W.setCell ⟨g, i, none⟩ u) g A n c l := by
  obtain ⟨h1, h2, ok, h3, h4⟩ := h
  exact ⟨h1, h2, ok, h3, Kd.F_far (p := ⟨g, i, none⟩) h4 (fun k hk => h3 k hk) u⟩
/-- A document that lies between two places. -/
def Dw (W : World) (lo hi : Nat) (A : Option Addr) (n c : Nat) (l : List S41) : Prop := n = l.length ∧ n ≤ c ∧ Kd.F k41 W (fun k => lo ≤ k ∧ k < hi) A l.length l
theorem Dw.below {W W' : World} {lo hi : Nat} {A : Option Addr} {n c : Nat} {l : List S41} (h : Dw W lo hi A n c l) (hb : Below W.heap.size W W') : Dw W' lo hi A n c l := ⟨h.1, h.2.1, Kd.F_below h.2.2 hb⟩
theorem Dw.set {W : World} {lo hi : Nat} {A : Option Addr} {n c g : Nat} {l : List S41} (h : Dw W lo hi A n c l) (hg : g < lo ∨ hi ≤ g) (i : Nat) (u : Value) : Dw (W.setCell ⟨g, i, none⟩ u) lo hi A n c l :=
  ⟨h.1, h.2.1, Kd.F_far (p := ⟨g, i, none⟩) h.2.2 (fun k hk => by have h1 := hk.1; have h2 := hk.2; show k ≠ g; omega) u⟩
theorem Dw.rd {W : World} {lo hi : Nat} {A : Option Addr} {n c : Nat} {l : List S41} (h : Dw W lo hi A n c l) : Rd W A n c l := ⟨h.1, h.2.1, Kd.F_now h.2.2⟩
theorem few_at (l : List S41) (q : Bool) : clerestorykeep1_few.f l q 60 = some (l.take (mn (l.length : Int) 60).toNat, q) := by
  unfold clerestorykeep1_few.f
  have h1 : 0 ≤ mn (l.length : Int) 60 := by unfold mn; split <;> omega
  have h2 : mn (l.length : Int) 60 ≤ (l.length : Int) := by unfold mn; split <;> omega
  rw [if_pos h1, if_pos h2]
/-- What the law starts with: the document, cut. -/
theorem few_calls (l : List S41) (q : Bool) (A : Option Addr) (c g : Nat) (w W : World) (hr : Kd.C k41 w A l.length l) (hc : l.length ≤ c) (hb : Below w.heap.size w W) (hg : w.heap.size ≤ g) (hgW : g < W.heap.size) :
    Calls Tryd.prog 4 #[.agg #[.slice A l.length c, .bool q], .int .i64 60] W fun e w' => ∃ A' n' c', e = .returned (.agg #[.slice A' n' c', .bool q]) ∧ Dv w' g A' n' c' (l.take (mn (l.length : Int) 60).toNat) ∧ Below W.heap.size W w' := by
  refine (clerestorykeep1_few.calls (fun k_ => k_ < w.heap.size) A c l q 60 _ q W (Kd.V_mk hc (Kd.F_below (Kd.C_F node_heap hr) hb)) (few_at l q)).mono ?_
  rintro e w' ⟨v, rfl, hv, hb'⟩
  obtain ⟨A', c', rfl⟩ := Kd.V_slice hv
  have h := Kd.V_at hv
  exact ⟨A', _, c', rfl, ⟨rfl, h.2.1, _, fun k hk => by omega, h.2.2⟩, hb'⟩
theorem fit_cut {l : List S41} (h : Fit l) (n : Nat) : Fit (l.take n) := fun i => by
  by_cases hi : i.toNat < n
  · have e : rd_T41 (l.take n) i = rd_T41 l i := by
      unfold rd_T41
      rw [List.getD_eq_getElem?_getD, List.getD_eq_getElem?_getD, List.getElem?_take, if_pos hi]
    show ((rd_T41 (l.take n) i).f5).length ≤ _
    rw [e]
    exact h i
  · show ((rd_T41 (l.take n) i).f5).length ≤ _
    unfold rd_T41
    rw [List.getD_eq_getElem?_getD, List.getElem?_take, if_neg hi]
    decide
theorem all_calls {l : List S41} {es : List S43} {r : List S41} {q q' : Bool} {i er : Int} (h : Ev (fun k => dom_All.f k l q es) (r, q', i, er)) {A A1 : Option Addr} {c c1 : Nat} (W : World) (hr : Kd.C k41 W A l.length l) (hc : l.length ≤ c) (hr1 : Kd.C k43 W A1 es.length es) (hc1 : es.length ≤ c1) :
    Calls Tryd.prog 5 #[.agg #[.slice A l.length c, .bool q], .slice A1 es.length c1] W fun e w' => ∃ A2 n2 c2, e = .returned (.tuple #[.agg #[.slice A2 n2 c2, .bool q'], .int .i64 i, .int .i64 er]) ∧ Dw w' W.heap.size w'.heap.size A2 n2 c2 r ∧ Below W.heap.size W w' := by
  obtain ⟨k, hk⟩ := Ev.rounds h
  refine (dom_All.calls k A c l q A1 c1 es r q' i er W hr hc hr1 hc1 hk).mono ?_
  rintro u w' ⟨v, rfl, hS, hb⟩
  obtain ⟨A', c', rfl⟩ := Kd.S_slice hS
  have h1 := Kd.S_V (base' := 0) (Kd.S_mono (ok' := fun k => W.heap.size ≤ k ∧ k < w'.heap.size) (Kd.S_bound hS) (fun k hk => ⟨hk.2.1, hk.2.2.1⟩))
  exact ⟨A', _, c', rfl, ⟨rfl, (Kd.V_at h1).2.1, (Kd.V_at h1).2.2⟩, hb⟩
/-- What lies at hand behind a call of All. -/
structure StB (W0 W : World) (g : Nat) (A : Option Addr) (n c : Nat) (q : Bool) (l : List S41) : Prop where
  below : Below W0.heap.size W0 W
  box : W.heap[g]? = some (.cells #[.slice A n c, .bool q] 24 (0, 0))
  rd : Rd W A n c l
theorem StB.on {W0 W W' : World} {g : Nat} {A : Option Addr} {n c : Nat} {q : Bool} {l : List S41} (h : StB W0 W g A n c q l) (hb : Below W.heap.size W W') : StB W0 W' g A n c q l :=
  ⟨h.below.trans (hb.mono h.below.size), blk_below h.box hb, h.rd.on hb⟩
theorem StB.from {W0 W1 W : World} {g : Nat} {A : Option Addr} {n c : Nat} {q : Bool} {l : List S41} (h : StB W1 W g A n c q l) (hb : Below W0.heap.size W0 W1) : StB W0 W g A n c q l :=
  ⟨hb.trans (h.below.mono hb.size), h.box, h.rd⟩
theorem stb_new {W0 W : World} {A : Option Addr} {n c : Nat} {q : Bool} {l : List S41} (hb : Below W0.heap.size W0 W) (h : Rd W A n c l) : StB W0 (W.alloc (.cells #[.slice A n c, .bool q] 24)) W.heap.size A n c q l :=
  ⟨hb.alloc hb.size _, blk_new W _, h.on (below_alloc (Below.refl _ _) _)⟩
-- [TABS
def T1 : Bool × List (List Nat × List Nat) := (true, [([], []), ([0], [0]), ([], []), ([], []), ([3], [3]), ([4], [4]), ([2, 5], [2, 5]), ([], []), ([], []), ([8], [8]), ([9], [9]), ([7, 10], [7, 10]), ([1, 1, 0, 1], [1]), ([6, 12, 0, 1, 2, 3, 4, 5, 6, 12], [2, 3, 6]), ([11, 13, 0, 1, 2, 3, 4, 5, 6, 7, 8, 9, 10, 11, 12, 13], [7, 8, 11])])
def B1 : List Nat := [0, 1, 0, 0, 8, 24, 60, 0, 0, 256, 768, 1920, 3, 4223, 16383]
theorem tab1 : rtab .any (opsOf Tryd.f3 1) = T1 ∧ waitsOk T1.2 B1 = true := ⟨by kernel_rfl, by kernel_rfl⟩
def T6 : Bool × List (List Nat × List Nat) := (true, [([], []), ([], []), ([], []), ([1, 2], [1, 2]), ([], []), ([3, 4, 3], [3, 4]), ([0, 5, 5], [0, 5]), ([6], [6]), ([7], [7]), ([7], [7]), ([7], [7]), ([], []), ([11, 8, 6, 0, 1, 2, 3, 4, 5, 6, 7, 8, 11], [8, 11]), ([9, 12, 0, 1, 2, 3, 4, 5, 6, 7, 8, 9, 11, 12], [9]), ([10, 13, 0, 1, 2, 3, 4, 5, 6, 7, 8, 9, 10, 11, 12, 13], [10])])
def B6 : List Nat := [0, 0, 0, 6, 0, 30, 63, 127, 255, 255, 255, 0, 2559, 7167, 16383]
theorem tab6 : rtab .any (opsOf Tryd.f3 6) = T6 ∧ waitsOk T6.2 B6 = true := ⟨by kernel_rfl, by kernel_rfl⟩
-- TABS]
set_option maxRecDepth 100000 in
set_option maxHeartbeats 8000000 in
theorem both (A0 : Option Addr) (c0 : Nat) (l0 : List S41) (q : Bool) (A1 : Option Addr) (c1 : Nat) (es : List S43) (A2 : Option Addr) (c2 : Nat) (ms : List S43) (w : World) (hfit : Fit l0) (hr0 : Kd.C k41 w A0 l0.length l0) (hc0 : l0.length ≤ c0) (hr1 : Kd.C k43 w A1 es.length es) (hc1 : es.length ≤ c1) (hr2 : Kd.C k43 w A2 ms.length ms) (hc2 : ms.length ≤ c2) :
    Calls Tryd.prog 3 #[.agg #[.slice A0 l0.length c0, .bool q], .slice A1 es.length c1, .slice A2 ms.length c2] w fun e w' => e = .returned (.bool true) ∧ Below w.heap.size w w' := by
  obtain ⟨n0, hn0⟩ : ∃ n0, n0 = l0.length := ⟨_, rfl⟩
  obtain ⟨m1, hm1⟩ : ∃ m1, m1 = es.length := ⟨_, rfl⟩
  obtain ⟨m2, hm2⟩ : ∃ m2, m2 = ms.length := ⟨_, rfl⟩
  have hm1s : (m1 : Int) ≤ 9223372036854775807 := by have := hr1.2.1; omega
  have hm2s : (m2 : Int) ≤ 9223372036854775807 := by have := hr2.2.1; omega
  obtain ⟨l1, hl1⟩ : ∃ l1, l1 = l0.take (mn (l0.length : Int) 60).toNat := ⟨_, rfl⟩
  have hf1 : Fit l1 := by rw [hl1]; exact fit_cut hfit _
  obtain ⟨j1, hj1⟩ : ∃ j1 : Nat, (j1 : Int) = (if 20 < (m1 : Int) then 20 else (m1 : Int)) := ⟨(if 20 < (m1 : Int) then 20 else (m1 : Int)).toNat, by split <;> omega⟩
  obtain ⟨j2, hj2⟩ : ∃ j2 : Nat, (j2 : Int) = (if 20 < (m2 : Int) then 20 else (m2 : Int)) := ⟨(if 20 < (m2 : Int) then 20 else (m2 : Int)).toNat, by split <;> omega⟩
  have hjm1 : j1 ≤ m1 := by split at hj1 <;> omega
  have hjm2 : j2 ≤ m2 := by split at hj2 <;> omega
  have hj1s : j1 ≤ 20 := by split at hj1 <;> omega
  have hj2s : j2 ≤ 20 := by split at hj2 <;> omega
  have hE1 : (es.take j1).length = j1 := by rw [List.length_take]; omega
  have hE2 : (ms.take j2).length = j2 := by rw [List.length_take]; omega
  have hC1 : Kd.C k43 w A1 (es.take j1).length (es.take j1) := Kd.C_take hr1 (by omega)
  have hC2 : Kd.C k43 w A2 (ms.take j2).length (ms.take j2) := Kd.C_take hr2 (by omega)
  generalize es.take j1 = E at hE1 hC1
  generalize ms.take j2 = M at hE2 hC2
  obtain ⟨r1, q1, i1, e1, hv1, hbad, hgood⟩ := both_plain l1 q hf1 E M (by omega) (by omega)
  have HF : Hid (∀ W : World, Below w.heap.size w W → w.heap.size < W.heap.size → Calls Tryd.prog 4 #[.agg #[.slice A0 n0 c0, .bool q], .int .i64 60] W fun e w' => ∃ A' n' c', e = .returned (.agg #[.slice A' n' c', .bool q]) ∧ Dv w' w.heap.size A' n' c' l1 ∧ Below W.heap.size W w') :=
    Lib.hid (by rw [hn0, hl1]; exact fun W hb hlt => few_calls l0 q A0 c0 w.heap.size w W hr0 hc0 hb (Nat.le_refl _) hlt)
  have HAll : Hid (∀ (l r : List S41) (q q' : Bool) (i er : Int) (W : World) (A : Option Addr) (n c : Nat), Ev (fun k => dom_All.f k l q E) (r, q', i, er) → Below w.heap.size w W → Rd W A n c l → Calls Tryd.prog 5 #[.agg #[.slice A n c, .bool q], .slice A1 j1 c1] W fun e w' => ∃ A2 n2 c2, e = .returned (.tuple #[.agg #[.slice A2 n2 c2, .bool q'], .int .i64 i, .int .i64 er]) ∧ Dw w' W.heap.size w'.heap.size A2 n2 c2 r ∧ Below W.heap.size W w') :=
    Lib.hid (by
      intro l r q q' i er W A n c hv hb hrd
      rw [← hE1, hrd.1]
      exact all_calls hv W hrd.2.2 (by rw [← hrd.1]; exact hrd.2.1) (Kd.C_below hC1 hb) (by omega))
  have HAll2 : Hid (∀ (l r : List S41) (q q' : Bool) (i er : Int) (W : World) (A : Option Addr) (n c : Nat), Ev (fun k => dom_All.f k l q M) (r, q', i, er) → Below w.heap.size w W → Rd W A n c l → Calls Tryd.prog 5 #[.agg #[.slice A n c, .bool q], .slice A2 j2 c2] W fun e w' => ∃ A2 n2 c2, e = .returned (.tuple #[.agg #[.slice A2 n2 c2, .bool q'], .int .i64 i, .int .i64 er]) ∧ Dw w' W.heap.size w'.heap.size A2 n2 c2 r ∧ Below W.heap.size W w') :=
    Lib.hid (by
      intro l r q q' i er W A n c hv hb hrd
      rw [← hE2, hrd.1]
      exact all_calls hv W hrd.2.2 (by rw [← hrd.1]; exact hrd.2.1) (Kd.C_below hC2 hb) (by omega))
  have HBg := Lib.hid begun_calls
  have HV1 := Lib.hid hv1
  have HG := Lib.hid hgood
  have HBd : Hid (e1 ≠ 0 → r1 = [] ∧ (i1 = 0 ∨ 0 ≤ i1 ∧ i1 < (j1 : Int))) := Lib.hid (by rw [← hE1]; exact hbad)
  have HCE := Lib.hid (And.intro hC1 (And.intro hC2 (And.intro hE1 hE2)))
  have hmc1 : (m1 : Int) ≤ (c1 : Int) := by omega
  have hmc2 : (m2 : Int) ≤ (c2 : Int) := by omega
  have hjc1 : j1 ≤ c1 := by omega
  have hjc2 : j2 ≤ c2 := by omega
  have HJ1 := Lib.hid hj1
  have HJ2 := Lib.hid hj2
  rw [← hn0, ← hm1, ← hm2]
  clear hfit hr0 hc0 hr1 hc1 hr2 hc2 hn0 hm1 hm2 hl1 hf1 hj1 hj2 hE1 hE2 hC1 hC2 hv1 hbad hgood
  go_enter Tryd.func3, Tryd.ntmps3
  go_upto_region 1 with fail
  have hgb : w.heap.size < (w.alloc (.cells #[.slice A0 n0 c0, .bool q] 24)).heap.size := by simp
  have hbox : (w.alloc (.cells #[.slice A0 n0 c0, .bool q] 24)).heap[w.heap.size]? = some (.cells #[.slice A0 n0 c0, .bool q] 24 (0, 0)) := blk_new w _
  have hb0 : Below w.heap.size w (w.alloc (.cells #[.slice A0 n0 c0, .bool q] 24)) := below_alloc (Below.refl _ _) _
  generalize w.alloc (.cells #[.slice A0 n0 c0, .bool q] 24) = w1 at hgb hbox hb0 ⊢
  go_cut [1, 2] (fun s1 s2 wx => s1 = .slice A1 j1 c1 ∧ s2 = .slice A2 j2 c2 ∧ ∃ A' n' c', Hid (StB w wx w.heap.size A' n' c' q l1))
  case first =>
    -- [R1
    refine start_ (n := 15) (S := fun w' => w'.cell? ⟨w.heap.size, 0, none⟩ = some (.slice A0 n0 c0) ∧ w'.cell? ⟨w.heap.size, 1, none⟩ = some (.bool q)) (ds := [12]) #[false, false, false, false, false, false, false, false, false, false, false, false, false, false, false] (by kernel_rfl) rfl rfl ⟨(blk_cell hbox 0).trans rfl, (blk_cell hbox 1).trans rfl⟩ (fun hHeld => ?_)
    refine with_tabW tab1.1 tab1.2 (fun HT_ HW_ => ?_)
    have hbox1 := blk_drew hbox
    have hbw : Below w.heap.size w w1.drew := below_drew hb0
    have hgs : w.heap.size < w1.drew.heap.size := hgb
    generalize w1.drew = w2 at hHeld hbox1 hbw hgs ⊢
    clear hbox hb0 hgb
    have hji1 : (if 20 < (m1 : Int) then 20 else (m1 : Int)) = (j1 : Int) := HJ1.out.symm
    have hji2 : (if 20 < (m2 : Int) then 20 else (m2 : Int)) = (j2 : Int) := HJ2.out.symm
    obtain ⟨i0, hi0, _, _, _⟩ := info_parts info43
    have hcut1 := cut_to (P := Tryd.prog) 25 43 .i64 Tryd.underlying25 hi0 A1 m1 c1 (j1 : Int) (Int.natCast_nonneg j1) (Int.ofNat_le.2 hjm1) (Int.ofNat_le.1 hmc1)
    have hcut2 := cut_to (P := Tryd.prog) 25 43 .i64 Tryd.underlying25 hi0 A2 m2 c2 (j2 : Int) (Int.natCast_nonneg j2) (Int.ofNat_le.2 hjm2) (Int.ofNat_le.1 hmc2)
    rw [Int.toNat_natCast] at hcut1 hcut2
    refine pure_ (i := 2) (N := some 18) (v := ?_) (a' := ?_) #[false, false, true, false, false, false, false, false, false, false, false, false, false, false, false] rfl rfl (any_of HT_.out (by kernel_rfl)) (fun _ _ _ h => h) (Or.inl ⟨by rfl, ?_⟩) ?_ ?_
    rotate_left
    · intro w'
      go_simp
      with_reducible rfl
    rotate_left
    · simp only [Act.put, List.setIfInBounds_toArray, List.set_cons_zero, List.set_cons_succ, i64_w, i32_w]
      rfl
    refine pure_ (i := 3) (N := some 19) (v := ?_) (a' := ?_) #[false, false, true, true, false, false, false, false, false, false, false, false, false, false, false] rfl rfl (any_of HT_.out (by kernel_rfl)) (fun _ _ _ h => h) (Or.inl ⟨by rfl, ?_⟩) ?_ ?_
    rotate_left
    · intro w'
      go_simp
      with_reducible rfl
    rotate_left
    · simp only [Act.put, List.setIfInBounds_toArray, List.set_cons_zero, List.set_cons_succ, i64_w, i32_w]
      rfl
    refine pure_ (i := 4) (N := some 20) (v := ?_) (a' := ?_) #[false, false, true, true, true, false, false, false, false, false, false, false, false, false, false] rfl rfl (any_of HT_.out (by kernel_rfl)) (fun _ _ _ h => h) (Or.inl ⟨by rfl, ?_⟩) ?_ ?_
    rotate_left
    · intro w'
      go_simp
      with_reducible rfl
    rotate_left
    · simp only [Act.put, List.setIfInBounds_toArray, List.set_cons_zero, List.set_cons_succ, i64_w, i32_w]
      rfl
    refine pure_ (i := 5) (N := some 21) (v := ?_) (a' := ?_) #[false, false, true, true, true, true, false, false, false, false, false, false, false, false, false] rfl rfl (any_of HT_.out (by kernel_rfl)) (fun _ _ _ h => h) (Or.inl ⟨by rfl, ?_⟩) ?_ ?_
    rotate_left
    · intro w'
      go_simp
      with_reducible rfl
    rotate_left
    · simp only [Act.put, List.setIfInBounds_toArray, List.set_cons_zero, List.set_cons_succ, i64_w, i32_w]
      rfl
    refine pure_ (i := 6) (N := some 22) (v := ?_) (a' := ?_) #[false, false, true, true, true, true, true, false, false, false, false, false, false, false, false] rfl rfl (any_of HT_.out (by kernel_rfl)) (fun _ _ _ h => h) (Or.inl ⟨by rfl, ?_⟩) ?_ ?_
    rotate_left
    · intro w'
      go_simp
      with_reducible rfl
    rotate_left
    · simp only [Act.put, List.setIfInBounds_toArray, List.set_cons_zero, List.set_cons_succ, i64_w, i32_w]
      rfl
    refine pure_ (i := 7) (N := some 23) (v := ?_) (a' := ?_) #[false, false, true, true, true, true, true, true, false, false, false, false, false, false, false] rfl rfl (any_of HT_.out (by kernel_rfl)) (fun _ _ _ h => h) (Or.inl ⟨by rfl, ?_⟩) ?_ ?_
    rotate_left
    · intro w'
      go_simp
      with_reducible rfl
    rotate_left
    · simp only [Act.put, List.setIfInBounds_toArray, List.set_cons_zero, List.set_cons_succ, i64_w, i32_w]
      rfl
    refine pure_ (i := 8) (N := some 24) (v := ?_) (a' := ?_) #[false, false, true, true, true, true, true, true, true, false, false, false, false, false, false] rfl rfl (any_of HT_.out (by kernel_rfl)) (fun _ _ _ h => h) (Or.inl ⟨by rfl, ?_⟩) ?_ ?_
    rotate_left
    · intro w'
      go_simp
      with_reducible rfl
    rotate_left
    · simp only [Act.put, List.setIfInBounds_toArray, List.set_cons_zero, List.set_cons_succ, i64_w, i32_w]
      rfl
    refine pure_ (i := 9) (N := some 25) (v := ?_) (a' := ?_) #[false, false, true, true, true, true, true, true, true, true, false, false, false, false, false] rfl rfl (any_of HT_.out (by kernel_rfl)) (fun _ _ _ h => h) (Or.inl ⟨by rfl, ?_⟩) ?_ ?_
    rotate_left
    · intro w'
      go_simp
      with_reducible rfl
    rotate_left
    · simp only [Act.put, List.setIfInBounds_toArray, List.set_cons_zero, List.set_cons_succ, i64_w, i32_w]
      rfl
    refine pure_ (i := 10) (N := some 26) (v := ?_) (a' := ?_) #[false, false, true, true, true, true, true, true, true, true, true, false, false, false, false] rfl rfl (any_of HT_.out (by kernel_rfl)) (fun _ _ _ h => h) (Or.inl ⟨by rfl, ?_⟩) ?_ ?_
    rotate_left
    · intro w'
      go_simp
      with_reducible rfl
    rotate_left
    · simp only [Act.put, List.setIfInBounds_toArray, List.set_cons_zero, List.set_cons_succ, i64_w, i32_w]
      rfl
    refine pure_ (i := 11) (N := some 27) (v := ?_) (a' := ?_) #[false, false, true, true, true, true, true, true, true, true, true, true, false, false, false] rfl rfl (any_of HT_.out (by kernel_rfl)) (fun _ _ _ h => h) (Or.inl ⟨by rfl, ?_⟩) ?_ ?_
    rotate_left
    · intro w'
      go_simp
      with_reducible rfl
    rotate_left
    · simp only [Act.put, List.setIfInBounds_toArray, List.set_cons_zero, List.set_cons_succ, i64_w, i32_w]
      rfl
    refine take_ (i := 0) (N := some 16) (v := ?_) (a' := ?_) #[true, false, true, true, true, true, true, true, true, true, true, true, false, false, false] rfl rfl (take_ofW HT_.out HW_.out (by kernel_rfl)) (fun _ _ _ h => h) (Or.inl ⟨by rfl, ?_⟩) hHeld ?_ ?_
    rotate_left
    · rintro w' ⟨s0, s1⟩
      go_simp
      with_reducible rfl
    rotate_left
    · simp only [Act.put, List.setIfInBounds_toArray, List.set_cons_zero, List.set_cons_succ, i64_w, i32_w]
      rfl
    refine one_ (i := 1) (N := some 17) #[true, true, true, true, true, true, true, true, true, true, true, true, false, false, false] rfl rfl (one_of HT_.out (by kernel_rfl)) (by decide) (fun K hK => ?_)
    refine goes_ Tryd.func4 (by kernel_rfl) rfl #[.agg #[.slice A0 n0 c0, .bool q], .int .i64 60] (by rfl) rfl rfl (by (try simp only [List.map_toArray, List.map_cons, List.map_nil]); first | done | rfl) ?_
    refine (HF.out w2 hbw hgs).mono ?_
    rintro u w3 ⟨A', n', c', rfl, hD, hb3⟩
    refine ⟨_, rfl, ?_⟩
    have hbox3 := blk_below hbox1 hb3
    refine hK.out _ _ ⟨(blk_cell hbox3 0).trans rfl, (blk_cell hbox3 1).trans rfl⟩ (fun hHeld => ?_)
    clear hK K
    refine norm_ (a' := ?_) ?_ ?_
    rotate_left
    · show Act.put _ (some 17) _ = _
      simp only [Act.put, List.setIfInBounds_toArray, List.set_cons_zero, List.set_cons_succ, i64_w, i32_w]
      rfl
    refine last_ (i := 12) (N := none) #[true, true, true, true, true, true, true, true, true, true, true, true, true, false, false] rfl rfl (one_of HT_.out (by kernel_rfl)) (by decide) (fun K hK => ?_)
    have hs0 : w3.cell? ⟨w.heap.size, 0, none⟩ = some (.slice A0 n0 c0) := (blk_cell hbox3 0).trans rfl
    have hf0 := blk_frozen hbox3 0
    have hs1 : w3.cell? ⟨w.heap.size, 1, none⟩ = some (.bool q) := (blk_cell hbox3 1).trans rfl
    have hf1 := blk_frozen hbox3 1
    refine skip_ (w1 := ?_) (by rfl) rfl ?_ ?_
    rotate_left
    · go_simp
      rfl
    refine hK.out _ _ ?_
    clear hK K
    refine pure_ (i := 13) (N := some 1) (v := ?_) (a' := ?_) #[true, true, true, true, true, true, true, true, true, true, true, true, true, true, false] rfl rfl (any_of HT_.out (by kernel_rfl)) (fun _ _ _ h => h) (Or.inl ⟨by rfl, ?_⟩) ?_ ?_
    rotate_left
    · intro w'
      go_simp
      with_reducible rfl
    rotate_left
    · simp only [Act.put, List.setIfInBounds_toArray, List.set_cons_zero, List.set_cons_succ, i64_w, i32_w]
      rfl
    refine pure_ (i := 14) (N := some 2) (v := ?_) (a' := ?_) #[true, true, true, true, true, true, true, true, true, true, true, true, true, true, true] rfl rfl (any_of HT_.out (by kernel_rfl)) (fun _ _ _ h => h) (Or.inl ⟨by rfl, ?_⟩) ?_ ?_
    rotate_left
    · intro w'
      go_simp
      with_reducible rfl
    rotate_left
    · simp only [Act.put, List.setIfInBounds_toArray, List.set_cons_zero, List.set_cons_succ, i64_w, i32_w]
      rfl
    refine done_ (done_of HT_.out (by kernel_rfl)) ?_
    go_wp2_with fail
    go_meet
    have hD2 := (hD.set 0 (.slice A' n' c')).set 1 (.bool q)
    exact ⟨rfl, rfl, A', n', c', Lib.hid ⟨((hbw.trans (hb3.mono hbw.size)).setCell (Nat.le_refl _) _).setCell (Nat.le_refl _) _, blk_put (blk_put (cs' := #[.slice A' n' c', .bool q]) hbox3 0 _ rfl) 1 _ rfl, hD2.rd⟩⟩
    -- R1]
  case rest =>
    obtain ⟨rfl, rfl, A', n', c', HX⟩ := hcut
    rename World => wb
    clear HF hgb hbox hb0
    have HE : Hid (∀ W : World, Below wb.heap.size wb W → W.cell? ⟨w.heap.size, 0, none⟩ = some (.slice A' n' c') ∧ W.cell? ⟨w.heap.size, 1, none⟩ = some (.bool q)) :=
      Lib.hid (fun W hb => ⟨(blk_cell (HX.out.on hb).box 0).trans rfl, (blk_cell (HX.out.on hb).box 1).trans rfl⟩)
    go_upto_region 2 with fail
    go_cut [7, 8, 9] (fun s7 s8 s9 wx => s8 = .int .i64 i1 ∧ s9 = .int .i64 e1 ∧ ∃ g A' n' c', s7 = .pointer (some ⟨g, 0, none⟩) ∧ Hid (StB wb wx g A' n' c' q1 r1))
    case first =>
      -- [R2
      obtain ⟨b0, b1⟩ := HE.out wb (Below.refl _ _)
      go_wp2_with fail
      refine (HAll.out _ _ _ _ _ _ wb _ _ _ HV1.out HX.out.below HX.out.rd).mono ?_
      rintro u w_1 ⟨Ar, nr, cr, rfl, hD, hbb⟩
      go_wp2_with fail
      go_meet
      exact ⟨rfl, rfl, _, Ar, nr, cr, rfl, Lib.hid (stb_new hbb hD.rd)⟩
      -- R2]
    case rest =>
      obtain ⟨rfl, rfl, g7, A7, n7, c7, rfl, HY⟩ := hcut
      rename World => wd
      have HXb := Lib.hid HX.out.below
      have HX2 := Lib.hid (HX.out.on HY.out.below)
      clear HX HE HV1
      by_cases he1 : e1 = 0
      case neg =>
        have he1b : (e1 != 0) = true := by simpa using he1
        have he1c : (e1 == 0) = false := by simpa using he1
        obtain ⟨hr1, hi1⟩ := HBd.out he1
        have hn7 : n7 = 0 := by have := HY.out.rd.1; rw [hr1] at this; exact this
        subst hn7
        clear HG hr1
        go_wp2_with fail
        refine (HBg.out wd).mono ?_
        rintro u w3 ⟨rfl, hb3⟩
        have g0 := (blk_cell (HY.out.on hb3).box 0).trans (show #[Value.slice A7 0 c7, .bool q1][0]? = some (.slice A7 0 c7) from rfl)
        have HB3 := Lib.hid ((HY.out.on hb3).from HXb.out |>.below)
        by_cases hi0 : i1 = 0
        · subst hi0
          go_wp2_with fail
          go_ret
          exact ⟨rfl, HB3.out⟩
        · have hi0b : (i1 == 0) = false := by simpa using hi0
          have hi0c : decide (i1 < (j1 : Int)) = true := decide_eq_true (by omega)
          go_wp2_with fail
          go_ret
          exact ⟨rfl, HB3.out⟩
      case pos =>
        subst he1
        obtain ⟨l2, q2, i2, i3, e2, hv2, hv3, hlen, hfit2, hshort, hok, herr⟩ := HG.out rfl
        have HV2 := Lib.hid hv2
        have HV3 := Lib.hid hv3
        have HOk := Lib.hid hok
        have HErr : Hid (e2 ≠ 0 → i3 = (j1 : Int) + i2 ∧ 0 ≤ i2 ∧ i2 < 20) := Lib.hid (by rw [← HCE.out.2.2.1]; exact herr)
        have HSm : Hid (∀ (W : World) (A B : Option Addr) (n n' c d : Nat), Rd W A n c l2 → Rd W B n' d l2 → Calls Tryd.prog 7 #[.agg #[.slice A n c, .bool q2], .agg #[.slice B n' d, .bool q2]] W fun e w' => e = .returned (.bool true) ∧ Below W.heap.size W w') :=
          Lib.hid (by
            intro W A B n n' c d h1 h2
            have e1 := h1.1
            have e2 := h2.1
            subst e1 e2
            exact sameDoc_calls l2 q2 A B c d W h1.2.2 h1.2.1 h2.2.2 h2.2.1 ⟨hlen, hshort⟩)
        clear HG HBd hv2 hv3 hlen hfit2 hshort hok herr
        go_upto_region 5 with fail
        have HE : Hid (∀ W : World, Below wd.heap.size wd W → W.cell? ⟨g7, 0, none⟩ = some (.slice A7 n7 c7) ∧ W.cell? ⟨g7, 1, none⟩ = some (.bool q1)) :=
          Lib.hid (fun W hb => ⟨(blk_cell (HY.out.on hb).box 0).trans rfl, (blk_cell (HY.out.on hb).box 1).trans rfl⟩)
        go_cut [10, 11, 12] (fun s10 s11 s12 wx => s11 = .int .i64 i2 ∧ s12 = .int .i64 e2 ∧ ∃ g A' n' c', s10 = .pointer (some ⟨g, 0, none⟩) ∧ Hid (StB wd wx g A' n' c' q2 l2))
        case first =>
          -- [R5
          obtain ⟨b0, b1⟩ := HE.out wd (Below.refl _ _)
          go_wp2_with fail
          refine (HAll2.out _ _ _ _ _ _ wd _ _ _ HV2.out (HY.out.from HXb.out).below HY.out.rd).mono ?_
          rintro u w_1 ⟨Ar, nr, cr, rfl, hD, hbb⟩
          go_wp2_with fail
          go_meet
          exact ⟨rfl, rfl, _, Ar, nr, cr, rfl, Lib.hid (stb_new hbb hD.rd)⟩
          -- R5]
        case rest =>
          obtain ⟨rfl, rfl, g10, A10, n10, c10, rfl, HY10⟩ := hcut
          rename World => wf
          have HX3 := Lib.hid (HX2.out.on HY10.out.below)
          have HZ : Hid (w.heap.size ≤ wf.heap.size) := Lib.hid HX3.out.below.size
          have HZ2 : Hid (∀ W : World, Below wf.heap.size wf W → Below w.heap.size w W) := Lib.hid (fun W hb => HX3.out.below.trans (hb.mono HX3.out.below.size))
          clear HE HX2 HV2
          have HE : Hid (∀ W : World, Below wf.heap.size wf W → W.cell? ⟨w.heap.size, 0, none⟩ = some (.slice A' n' c') ∧ W.cell? ⟨w.heap.size, 1, none⟩ = some (.bool q)) :=
            Lib.hid (fun W hb => ⟨(blk_cell (HX3.out.on hb).box 0).trans rfl, (blk_cell (HX3.out.on hb).box 1).trans rfl⟩)
          have HAll3 : Hid (∀ (W : World) (A Av : Option Addr) (n c cv : Nat), Rd W A n c l1 → Kd.C k43 W Av (([] : List S43) ++ E ++ M).length (([] : List S43) ++ E ++ M) → (([] : List S43) ++ E ++ M).length ≤ cv → Calls Tryd.prog 5 #[.agg #[.slice A n c, .bool q], .slice Av (([] : List S43) ++ E ++ M).length cv] W fun e w' => ∃ A2 n2 c2, e = .returned (.tuple #[.agg #[.slice A2 n2 c2, .bool q2], .int .i64 i3, .int .i64 e2]) ∧ Dw w' W.heap.size w'.heap.size A2 n2 c2 l2 ∧ Below W.heap.size W w') :=
            Lib.hid (by
              intro W A Av n c cv hrd hc hcv
              rw [hrd.1]
              exact all_calls (es := ([] : List S43) ++ E ++ M) HV3.out W hrd.2.2 (by rw [← hrd.1]; exact hrd.2.1) hc hcv)
          go_upto_region 6 with fail
          go_cut [13, 14, 15] (fun s13 s14 s15 wx => s14 = .int .i64 i3 ∧ s15 = .int .i64 e2 ∧ ∃ g A' n' c', s13 = .pointer (some ⟨g, 0, none⟩) ∧ Hid (StB wf wx g A' n' c' q2 l2))
          case first =>
            -- [R6
            refine start_ (n := 15) (S := fun w' => w'.cell? ⟨w.heap.size, 0, none⟩ = some (.slice A' n' c') ∧ w'.cell? ⟨w.heap.size, 1, none⟩ = some (.bool q)) (ds := [12]) #[false, false, false, false, false, false, false, false, false, false, false, false, false, false, false] (by kernel_rfl) rfl rfl (HE.out _ (below_drew (Below.refl _ _))) (fun hHeld => ?_)
            refine with_tabW tab6.1 tab6.2 (fun HT_ HW_ => ?_)
            have hbr := below_drew (Below.refl wf.heap.size wf)
            generalize wf.drew = w_0 at hHeld hbr ⊢
            refine pure_ (i := 2) (N := some 64) (v := ?_) (a' := ?_) #[false, false, true, false, false, false, false, false, false, false, false, false, false, false, false] rfl rfl (any_of HT_.out (by kernel_rfl)) (fun _ _ _ h => h) (Or.inl ⟨by rfl, ?_⟩) ?_ ?_
            rotate_left
            · intro w'
              go_simp
              with_reducible rfl
            rotate_left
            · simp only [Act.put, List.setIfInBounds_toArray, List.set_cons_zero, List.set_cons_succ, i64_w, i32_w]
              rfl
            refine pure_ (i := 4) (N := some 66) (v := ?_) (a' := ?_) #[false, false, true, false, true, false, false, false, false, false, false, false, false, false, false] rfl rfl (any_of HT_.out (by kernel_rfl)) (fun _ _ _ h => h) (Or.inl ⟨by rfl, ?_⟩) ?_ ?_
            rotate_left
            · intro w'
              go_simp
              with_reducible rfl
            rotate_left
            · simp only [Act.put, List.setIfInBounds_toArray, List.set_cons_zero, List.set_cons_succ, i64_w, i32_w]
              rfl
            refine take_ (i := 0) (N := some 62) (v := ?_) (a' := ?_) #[true, false, true, false, true, false, false, false, false, false, false, false, false, false, false] rfl rfl (take_ofW HT_.out HW_.out (by kernel_rfl)) (fun _ _ _ h => h) (Or.inl ⟨by rfl, ?_⟩) hHeld ?_ ?_
            rotate_left
            · rintro w' ⟨s0, s1⟩
              go_simp
              with_reducible rfl
            rotate_left
            · simp only [Act.put, List.setIfInBounds_toArray, List.set_cons_zero, List.set_cons_succ, i64_w, i32_w]
              rfl
            refine two_ (i := 1) (j := 11) (Ni := some 63) (Nj := some 13) #[true, true, true, false, true, false, false, false, false, false, false, false, false, false, false] #[true, false, true, false, true, false, false, false, false, false, false, true, false, false, false] rfl rfl rfl rfl (two_of HT_.out (by kernel_rfl)) (by decide) (by decide) (fun K hK => ?_) (fun K hK => ?_)
            · refine Kd.N_lit_step k43 (w0 := wf) wf.heap.size 43 (by rfl) (N' := 63) rfl (xs := ([] : List S43)) (inner := []) (ok := fun _ => True) (okp := fun _ => True) (by first | (go_simp; done) | (go_simp; rfl)) ⟨rfl, fun j p hj => by simp at hj⟩ (fun _ _ => trivial) trivial hbr hbr.size (by decide) ?_
              intro v1 w_1 hN hb2 hg hat
              replace hbr := hb2
              obtain ⟨Av, cv, rfl⟩ := Kd.N_slice hN
              clear hb2 hg hat
              refine hK.out _ _ (HE.out _ hbr) (fun hHeld => ?_)
              clear hK K
              refine norm_ (a' := ?_) ?_ ?_
              rotate_left
              · show Act.put _ (some 63) _ = _
                simp only [Act.put, List.setIfInBounds_toArray, List.set_cons_zero, List.set_cons_succ, i64_w, i32_w]
                rfl
              refine two_ (i := 3) (j := 11) (Ni := some 65) (Nj := some 13) #[true, true, true, true, true, false, false, false, false, false, false, false, false, false, false] #[true, true, true, false, true, false, false, false, false, false, false, true, false, false, false] rfl rfl rfl rfl (two_of HT_.out (by kernel_rfl)) (by decide) (by decide) (fun K hK => ?_) (fun K hK => ?_)
              · have hCC := Kd.F_below (Kd.C_F edit_heap (HCE.out.1)) (HZ2.out _ hbr)
                rw [HCE.out.2.2.1] at hCC
                refine Kd.N_append_rows_step k43 (w0 := wf) wf.heap.size (by rfl) (.tmp 63) (.tmp 64) 25 43 (.agg #[(.int .i64 0), (.int .i64 0), (.int .i64 0), (.int .i64 0), (.string ⟨#[]⟩), (.string ⟨#[]⟩), (.int .i64 0), (.string ⟨#[]⟩), (.slice none 0 0), (.string ⟨#[]⟩), (.int .i64 0), (.slice none 0 0)]) 160 (by rfl) Tryd.underlying25 info43 rfl (by decide) (by decide) (.slice Av (([] : List S43)).length cv) (([] : List S43)) E A1 j1 c1 (fun _ => True) (fun k => k < w.heap.size) rfl rfl hN hCC (fun k hk => ⟨trivial, fun he => ?_⟩) (fun _ _ => trivial) hbr hbr.size (by have h1 := HCE.out.2.2.1; have h2 := HCE.out.2.2.2; simp only [List.length_nil, List.length_append]; omega) ?_
                · have h1 := Kd.N_base hN k he.symm; have h2 := HZ.out; omega
                intro v1 w_2 hN2 hb2 hg hat
                replace hbr := hb2
                clear hN hCC
                have hN := hN2
                clear hN2
                obtain ⟨Av, cv, rfl⟩ := Kd.N_slice hN
                clear hb2 hg hat
                refine hK.out _ _ (HE.out _ hbr) (fun hHeld => ?_)
                clear hK K
                refine norm_ (a' := ?_) ?_ ?_
                rotate_left
                · show Act.put _ (some 65) _ = _
                  simp only [Act.put, List.setIfInBounds_toArray, List.set_cons_zero, List.set_cons_succ, i64_w, i32_w]
                  rfl
                refine two_ (i := 5) (j := 11) (Ni := some 67) (Nj := some 13) #[true, true, true, true, true, true, false, false, false, false, false, false, false, false, false] #[true, true, true, true, true, false, false, false, false, false, false, true, false, false, false] rfl rfl rfl rfl (two_of HT_.out (by kernel_rfl)) (by decide) (by decide) (fun K hK => ?_) (fun K hK => ?_)
                · have hCC := Kd.F_below (Kd.C_F edit_heap (HCE.out.2.1)) (HZ2.out _ hbr)
                  rw [HCE.out.2.2.2] at hCC
                  refine Kd.N_append_rows_step k43 (w0 := wf) wf.heap.size (by rfl) (.tmp 65) (.tmp 66) 25 43 (.agg #[(.int .i64 0), (.int .i64 0), (.int .i64 0), (.int .i64 0), (.string ⟨#[]⟩), (.string ⟨#[]⟩), (.int .i64 0), (.string ⟨#[]⟩), (.slice none 0 0), (.string ⟨#[]⟩), (.int .i64 0), (.slice none 0 0)]) 160 (by rfl) Tryd.underlying25 info43 rfl (by decide) (by decide) (.slice Av (([] : List S43) ++ E).length cv) (([] : List S43) ++ E) M A2 j2 c2 (fun _ => True) (fun k => k < w.heap.size) rfl rfl hN hCC (fun k hk => ⟨trivial, fun he => ?_⟩) (fun _ _ => trivial) hbr hbr.size (by have h1 := HCE.out.2.2.1; have h2 := HCE.out.2.2.2; simp only [List.length_nil, List.length_append]; omega) ?_
                  · have h1 := Kd.N_base hN k he.symm; have h2 := HZ.out; omega
                  intro v1 w_3 hN2 hb2 hg hat
                  replace hbr := hb2
                  clear hN hCC
                  have hN := hN2
                  clear hN2
                  obtain ⟨Av, cv, rfl⟩ := Kd.N_slice hN
                  clear hb2 hg hat
                  refine hK.out _ _ (HE.out _ hbr) (fun hHeld => ?_)
                  clear hK K
                  refine norm_ (a' := ?_) ?_ ?_
                  rotate_left
                  · show Act.put _ (some 67) _ = _
                    simp only [Act.put, List.setIfInBounds_toArray, List.set_cons_zero, List.set_cons_succ, i64_w, i32_w]
                    rfl
                  refine two_ (i := 6) (j := 11) (Ni := some 68) (Nj := some 13) #[true, true, true, true, true, true, true, false, false, false, false, false, false, false, false] #[true, true, true, true, true, true, false, false, false, false, false, true, false, false, false] rfl rfl rfl rfl (two_of HT_.out (by kernel_rfl)) (by decide) (by decide) (fun K hK => ?_) (fun K hK => ?_)
                  · refine goes_ Tryd.func5 (by kernel_rfl) rfl #[.agg #[.slice A' n' c', .bool q], .slice Av (([] : List S43) ++ E ++ M).length cv] (by rfl) rfl rfl (by (try simp only [List.map_toArray, List.map_cons, List.map_nil]); first | done | rfl) ?_
                    refine (HAll3.out w_3 _ _ _ _ _ (HX3.out.on hbr).rd (Kd.N_reads' hN).2.2 (Kd.N_reads' hN).2.1).mono ?_
                    rintro u_ w_4 ⟨Ar, nr, cr, rfl, hD, hbb⟩
                    refine ⟨_, rfl, ?_⟩
                    replace hN := Kd.N_below hN hbb
                    have hcw := hbr.size
                    replace hbr := hbr.trans (hbb.mono hbr.size)
                    clear hbb
                    refine hK.out _ _ (HE.out _ hbr) (fun hHeld => ?_)
                    clear hK K
                    refine norm_ (a' := ?_) ?_ ?_
                    rotate_left
                    · show Act.put _ (some 68) _ = _
                      simp only [Act.put, List.setIfInBounds_toArray, List.set_cons_zero, List.set_cons_succ, i64_w, i32_w]
                      rfl
                    refine pure_ (i := 7) (N := some 61) (v := ?_) (a' := ?_) #[true, true, true, true, true, true, true, true, false, false, false, false, false, false, false] rfl rfl (any_of HT_.out (by kernel_rfl)) (fun _ _ _ h => h) (Or.inl ⟨by rfl, ?_⟩) ?_ ?_
                    rotate_left
                    · intro w'
                      go_simp
                      with_reducible rfl
                    rotate_left
                    · simp only [Act.put, List.setIfInBounds_toArray, List.set_cons_zero, List.set_cons_succ, i64_w, i32_w]
                      rfl
                    refine pure_ (i := 8) (N := some 69) (v := ?_) (a' := ?_) #[true, true, true, true, true, true, true, true, true, false, false, false, false, false, false] rfl rfl (any_of HT_.out (by kernel_rfl)) (fun _ _ _ h => h) (Or.inl ⟨by rfl, ?_⟩) ?_ ?_
                    rotate_left
                    · intro w'
                      go_simp
                      with_reducible rfl
                    rotate_left
                    · simp only [Act.put, List.setIfInBounds_toArray, List.set_cons_zero, List.set_cons_succ, i64_w, i32_w]
                      rfl
                    refine pure_ (i := 9) (N := some 70) (v := ?_) (a' := ?_) #[true, true, true, true, true, true, true, true, true, true, false, false, false, false, false] rfl rfl (any_of HT_.out (by kernel_rfl)) (fun _ _ _ h => h) (Or.inl ⟨by rfl, ?_⟩) ?_ ?_
                    rotate_left
                    · intro w'
                      go_simp
                      with_reducible rfl
                    rotate_left
                    · simp only [Act.put, List.setIfInBounds_toArray, List.set_cons_zero, List.set_cons_succ, i64_w, i32_w]
                      rfl
                    refine pure_ (i := 10) (N := some 71) (v := ?_) (a' := ?_) #[true, true, true, true, true, true, true, true, true, true, true, false, false, false, false] rfl rfl (any_of HT_.out (by kernel_rfl)) (fun _ _ _ h => h) (Or.inl ⟨by rfl, ?_⟩) ?_ ?_
                    rotate_left
                    · intro w'
                      go_simp
                      with_reducible rfl
                    rotate_left
                    · simp only [Act.put, List.setIfInBounds_toArray, List.set_cons_zero, List.set_cons_succ, i64_w, i32_w]
                      rfl
                    refine one_ (i := 11) (N := some 13) #[true, true, true, true, true, true, true, true, true, true, true, true, false, false, false] rfl rfl (one_of HT_.out (by kernel_rfl)) (by decide) (fun K hK => ?_)
                    refine box_step ?hg (N := 13) ?hd (cs := #[.slice none 0 0, .bool false]) (t := 24) ?hr ?_; (case hd => rfl); (case hg => rfl); (case hr => first | (go_simp; done) | (go_simp; rfl))
                    intro g13 hg13 w_5 hbox13 hbb
                    have hgr13 : g13 < w_3.heap.size ∨ w_4.heap.size ≤ g13 := .inr (by rw [hg13]; exact Nat.le_refl _)
                    have hge13 : wf.heap.size ≤ g13 := by rw [hg13]; exact hbr.size
                    replace hN := Kd.N_below hN hbb
                    replace hD := hD.below hbb
                    replace hbr := hbr.trans (hbb.mono hbr.size)
                    clear hg13 hbb
                    refine hK.out _ _ (HE.out _ hbr) (fun hHeld => ?_)
                    clear hK K
                    refine norm_ (a' := ?_) ?_ ?_
                    rotate_left
                    · show Act.put _ (some 13) _ = _
                      simp only [Act.put, List.setIfInBounds_toArray, List.set_cons_zero, List.set_cons_succ, i64_w, i32_w]
                      rfl
                    refine last_ (i := 12) (N := none) #[true, true, true, true, true, true, true, true, true, true, true, true, true, false, false] rfl rfl (one_of HT_.out (by kernel_rfl)) (by decide) (fun K hK => ?_)
                    have hs0 := (blk_cell hbox13 0).trans (show #[Value.slice none 0 0, .bool false][0]? = some (.slice none 0 0) from rfl)
                    have hf0 := blk_frozen hbox13 0
                    have hs1 := (blk_cell hbox13 1).trans (show #[Value.slice none 0 0, .bool false][1]? = some (.bool false) from rfl)
                    have hf1 := blk_frozen hbox13 1
                    refine skip_ (w1 := ?_) (by rfl) rfl ?_ ?_
                    rotate_left
                    · go_simp
                      rfl
                    refine hK.out _ _ ?_
                    clear hK K
                    refine pure_ (i := 13) (N := some 14) (v := ?_) (a' := ?_) #[true, true, true, true, true, true, true, true, true, true, true, true, true, true, false] rfl rfl (any_of HT_.out (by kernel_rfl)) (fun _ _ _ h => h) (Or.inl ⟨by rfl, ?_⟩) ?_ ?_
                    rotate_left
                    · intro w'
                      go_simp
                      with_reducible rfl
                    rotate_left
                    · simp only [Act.put, List.setIfInBounds_toArray, List.set_cons_zero, List.set_cons_succ, i64_w, i32_w]
                      rfl
                    refine pure_ (i := 14) (N := some 15) (v := ?_) (a' := ?_) #[true, true, true, true, true, true, true, true, true, true, true, true, true, true, true] rfl rfl (any_of HT_.out (by kernel_rfl)) (fun _ _ _ h => h) (Or.inl ⟨by rfl, ?_⟩) ?_ ?_
                    rotate_left
                    · intro w'
                      go_simp
                      with_reducible rfl
                    rotate_left
                    · simp only [Act.put, List.setIfInBounds_toArray, List.set_cons_zero, List.set_cons_succ, i64_w, i32_w]
                      rfl
                    refine done_ (done_of HT_.out (by kernel_rfl)) ?_
                    go_wp2_with fail
                    go_meet
                    refine ⟨rfl, rfl, g13, Ar, nr, cr, rfl, Lib.hid ⟨(hbr.setCell hge13 _).setCell hge13 _, blk_put (blk_put (cs' := #[.slice Ar nr cr, .bool false]) hbox13 0 _ rfl) 1 _ rfl, ?_⟩⟩
                    exact ((hD.set hgr13 0 _).set hgr13 1 _).rd
                  · refine box_step ?hg (N := 13) ?hd (cs := #[.slice none 0 0, .bool false]) (t := 24) ?hr ?_; (case hd => rfl); (case hg => rfl); (case hr => first | (go_simp; done) | (go_simp; rfl))
                    intro g13 hg13 w_6 hbox13 hbb
                    have hge13 : wf.heap.size ≤ g13 := by rw [hg13]; exact hbr.size
                    replace hN := Kd.N_below hN hbb
                    replace hbr := hbr.trans (hbb.mono hbr.size)
                    clear hg13 hbb
                    refine hK.out _ _ (HE.out _ hbr) (fun hHeld => ?_)
                    clear hK K
                    refine norm_ (a' := ?_) ?_ ?_
                    rotate_left
                    · show Act.put _ (some 13) _ = _
                      simp only [Act.put, List.setIfInBounds_toArray, List.set_cons_zero, List.set_cons_succ, i64_w, i32_w]
                      rfl
                    refine one_ (i := 6) (N := some 68) #[true, true, true, true, true, true, true, false, false, false, false, true, false, false, false] rfl rfl (one_of HT_.out (by kernel_rfl)) (by decide) (fun K hK => ?_)
                    refine goes_ Tryd.func5 (by kernel_rfl) rfl #[.agg #[.slice A' n' c', .bool q], .slice Av (([] : List S43) ++ E ++ M).length cv] (by rfl) rfl rfl (by (try simp only [List.map_toArray, List.map_cons, List.map_nil]); first | done | rfl) ?_
                    refine (HAll3.out w_6 _ _ _ _ _ (HX3.out.on hbr).rd (Kd.N_reads' hN).2.2 (Kd.N_reads' hN).2.1).mono ?_
                    rintro u_ w_7 ⟨Ar, nr, cr, rfl, hD, hbb⟩
                    refine ⟨_, rfl, ?_⟩
                    have hgr13 : g13 < w_6.heap.size ∨ w_7.heap.size ≤ g13 := .inl (blk_lt hbox13)
                    replace hbox13 := blk_below hbox13 hbb
                    replace hN := Kd.N_below hN hbb
                    have hcw := hbr.size
                    replace hbr := hbr.trans (hbb.mono hbr.size)
                    clear hbb
                    refine hK.out _ _ (HE.out _ hbr) (fun hHeld => ?_)
                    clear hK K
                    refine norm_ (a' := ?_) ?_ ?_
                    rotate_left
                    · show Act.put _ (some 68) _ = _
                      simp only [Act.put, List.setIfInBounds_toArray, List.set_cons_zero, List.set_cons_succ, i64_w, i32_w]
                      rfl
                    refine pure_ (i := 7) (N := some 61) (v := ?_) (a' := ?_) #[true, true, true, true, true, true, true, true, false, false, false, true, false, false, false] rfl rfl (any_of HT_.out (by kernel_rfl)) (fun _ _ _ h => h) (Or.inl ⟨by rfl, ?_⟩) ?_ ?_
                    rotate_left
                    · intro w'
                      go_simp
                      with_reducible rfl
                    rotate_left
                    · simp only [Act.put, List.setIfInBounds_toArray, List.set_cons_zero, List.set_cons_succ, i64_w, i32_w]
                      rfl
                    refine pure_ (i := 8) (N := some 69) (v := ?_) (a' := ?_) #[true, true, true, true, true, true, true, true, true, false, false, true, false, false, false] rfl rfl (any_of HT_.out (by kernel_rfl)) (fun _ _ _ h => h) (Or.inl ⟨by rfl, ?_⟩) ?_ ?_
                    rotate_left
                    · intro w'
                      go_simp
                      with_reducible rfl
                    rotate_left
                    · simp only [Act.put, List.setIfInBounds_toArray, List.set_cons_zero, List.set_cons_succ, i64_w, i32_w]
                      rfl
                    refine pure_ (i := 9) (N := some 70) (v := ?_) (a' := ?_) #[true, true, true, true, true, true, true, true, true, true, false, true, false, false, false] rfl rfl (any_of HT_.out (by kernel_rfl)) (fun _ _ _ h => h) (Or.inl ⟨by rfl, ?_⟩) ?_ ?_
                    rotate_left
                    · intro w'
                      go_simp
                      with_reducible rfl
                    rotate_left
                    · simp only [Act.put, List.setIfInBounds_toArray, List.set_cons_zero, List.set_cons_succ, i64_w, i32_w]
                      rfl
                    refine pure_ (i := 10) (N := some 71) (v := ?_) (a' := ?_) #[true, true, true, true, true, true, true, true, true, true, true, true, false, false, false] rfl rfl (any_of HT_.out (by kernel_rfl)) (fun _ _ _ h => h) (Or.inl ⟨by rfl, ?_⟩) ?_ ?_
                    rotate_left
                    · intro w'
                      go_simp
                      with_reducible rfl
                    rotate_left
                    · simp only [Act.put, List.setIfInBounds_toArray, List.set_cons_zero, List.set_cons_succ, i64_w, i32_w]
                      rfl
                    refine last_ (i := 12) (N := none) #[true, true, true, true, true, true, true, true, true, true, true, true, true, false, false] rfl rfl (one_of HT_.out (by kernel_rfl)) (by decide) (fun K hK => ?_)
                    have hs0 := (blk_cell hbox13 0).trans (show #[Value.slice none 0 0, .bool false][0]? = some (.slice none 0 0) from rfl)
                    have hf0 := blk_frozen hbox13 0
                    have hs1 := (blk_cell hbox13 1).trans (show #[Value.slice none 0 0, .bool false][1]? = some (.bool false) from rfl)
                    have hf1 := blk_frozen hbox13 1
                    refine skip_ (w1 := ?_) (by rfl) rfl ?_ ?_
                    rotate_left
                    · go_simp
                      rfl
                    refine hK.out _ _ ?_
                    clear hK K
                    refine pure_ (i := 13) (N := some 14) (v := ?_) (a' := ?_) #[true, true, true, true, true, true, true, true, true, true, true, true, true, true, false] rfl rfl (any_of HT_.out (by kernel_rfl)) (fun _ _ _ h => h) (Or.inl ⟨by rfl, ?_⟩) ?_ ?_
                    rotate_left
                    · intro w'
                      go_simp
                      with_reducible rfl
                    rotate_left
                    · simp only [Act.put, List.setIfInBounds_toArray, List.set_cons_zero, List.set_cons_succ, i64_w, i32_w]
                      rfl
                    refine pure_ (i := 14) (N := some 15) (v := ?_) (a' := ?_) #[true, true, true, true, true, true, true, true, true, true, true, true, true, true, true] rfl rfl (any_of HT_.out (by kernel_rfl)) (fun _ _ _ h => h) (Or.inl ⟨by rfl, ?_⟩) ?_ ?_
                    rotate_left
                    · intro w'
                      go_simp
                      with_reducible rfl
                    rotate_left
                    · simp only [Act.put, List.setIfInBounds_toArray, List.set_cons_zero, List.set_cons_succ, i64_w, i32_w]
                      rfl
                    refine done_ (done_of HT_.out (by kernel_rfl)) ?_
                    go_wp2_with fail
                    go_meet
                    refine ⟨rfl, rfl, g13, Ar, nr, cr, rfl, Lib.hid ⟨(hbr.setCell hge13 _).setCell hge13 _, blk_put (blk_put (cs' := #[.slice Ar nr cr, .bool false]) hbox13 0 _ rfl) 1 _ rfl, ?_⟩⟩
                    exact ((hD.set hgr13 0 _).set hgr13 1 _).rd
                · refine box_step ?hg (N := 13) ?hd (cs := #[.slice none 0 0, .bool false]) (t := 24) ?hr ?_; (case hd => rfl); (case hg => rfl); (case hr => first | (go_simp; done) | (go_simp; rfl))
                  intro g13 hg13 w_8 hbox13 hbb
                  have hge13 : wf.heap.size ≤ g13 := by rw [hg13]; exact hbr.size
                  replace hN := Kd.N_below hN hbb
                  replace hbr := hbr.trans (hbb.mono hbr.size)
                  clear hg13 hbb
                  refine hK.out _ _ (HE.out _ hbr) (fun hHeld => ?_)
                  clear hK K
                  refine norm_ (a' := ?_) ?_ ?_
                  rotate_left
                  · show Act.put _ (some 13) _ = _
                    simp only [Act.put, List.setIfInBounds_toArray, List.set_cons_zero, List.set_cons_succ, i64_w, i32_w]
                    rfl
                  refine one_ (i := 5) (N := some 67) #[true, true, true, true, true, true, false, false, false, false, false, true, false, false, false] rfl rfl (one_of HT_.out (by kernel_rfl)) (by decide) (fun K hK => ?_)
                  have hCC := Kd.F_below (Kd.C_F edit_heap (HCE.out.2.1)) (HZ2.out _ hbr)
                  rw [HCE.out.2.2.2] at hCC
                  refine Kd.N_append_rows_step k43 (w0 := wf) wf.heap.size (by rfl) (.tmp 65) (.tmp 66) 25 43 (.agg #[(.int .i64 0), (.int .i64 0), (.int .i64 0), (.int .i64 0), (.string ⟨#[]⟩), (.string ⟨#[]⟩), (.int .i64 0), (.string ⟨#[]⟩), (.slice none 0 0), (.string ⟨#[]⟩), (.int .i64 0), (.slice none 0 0)]) 160 (by rfl) Tryd.underlying25 info43 rfl (by decide) (by decide) (.slice Av (([] : List S43) ++ E).length cv) (([] : List S43) ++ E) M A2 j2 c2 (fun _ => True) (fun k => k < w.heap.size) rfl rfl hN hCC (fun k hk => ⟨trivial, fun he => ?_⟩) (fun _ _ => trivial) hbr hbr.size (by have h1 := HCE.out.2.2.1; have h2 := HCE.out.2.2.2; simp only [List.length_nil, List.length_append]; omega) ?_
                  · have h1 := Kd.N_base hN k he.symm; have h2 := HZ.out; omega
                  intro v1 w_9 hN2 hb2 hg hat
                  replace hbox13 := blk_grown hbox13 hg (Kd.N_ne hN hbox13 (by decide))
                  replace hbr := hb2
                  clear hN hCC
                  have hN := hN2
                  clear hN2
                  obtain ⟨Av, cv, rfl⟩ := Kd.N_slice hN
                  clear hb2 hg hat
                  refine hK.out _ _ (HE.out _ hbr) (fun hHeld => ?_)
                  clear hK K
                  refine norm_ (a' := ?_) ?_ ?_
                  rotate_left
                  · show Act.put _ (some 67) _ = _
                    simp only [Act.put, List.setIfInBounds_toArray, List.set_cons_zero, List.set_cons_succ, i64_w, i32_w]
                    rfl
                  refine one_ (i := 6) (N := some 68) #[true, true, true, true, true, true, true, false, false, false, false, true, false, false, false] rfl rfl (one_of HT_.out (by kernel_rfl)) (by decide) (fun K hK => ?_)
                  refine goes_ Tryd.func5 (by kernel_rfl) rfl #[.agg #[.slice A' n' c', .bool q], .slice Av (([] : List S43) ++ E ++ M).length cv] (by rfl) rfl rfl (by (try simp only [List.map_toArray, List.map_cons, List.map_nil]); first | done | rfl) ?_
                  refine (HAll3.out w_9 _ _ _ _ _ (HX3.out.on hbr).rd (Kd.N_reads' hN).2.2 (Kd.N_reads' hN).2.1).mono ?_
                  rintro u_ w_10 ⟨Ar, nr, cr, rfl, hD, hbb⟩
                  refine ⟨_, rfl, ?_⟩
                  have hgr13 : g13 < w_9.heap.size ∨ w_10.heap.size ≤ g13 := .inl (blk_lt hbox13)
                  replace hbox13 := blk_below hbox13 hbb
                  replace hN := Kd.N_below hN hbb
                  have hcw := hbr.size
                  replace hbr := hbr.trans (hbb.mono hbr.size)
                  clear hbb
                  refine hK.out _ _ (HE.out _ hbr) (fun hHeld => ?_)
                  clear hK K
                  refine norm_ (a' := ?_) ?_ ?_
                  rotate_left
                  · show Act.put _ (some 68) _ = _
                    simp only [Act.put, List.setIfInBounds_toArray, List.set_cons_zero, List.set_cons_succ, i64_w, i32_w]
                    rfl
                  refine pure_ (i := 7) (N := some 61) (v := ?_) (a' := ?_) #[true, true, true, true, true, true, true, true, false, false, false, true, false, false, false] rfl rfl (any_of HT_.out (by kernel_rfl)) (fun _ _ _ h => h) (Or.inl ⟨by rfl, ?_⟩) ?_ ?_
                  rotate_left
                  · intro w'
                    go_simp
                    with_reducible rfl
                  rotate_left
                  · simp only [Act.put, List.setIfInBounds_toArray, List.set_cons_zero, List.set_cons_succ, i64_w, i32_w]
                    rfl
                  refine pure_ (i := 8) (N := some 69) (v := ?_) (a' := ?_) #[true, true, true, true, true, true, true, true, true, false, false, true, false, false, false] rfl rfl (any_of HT_.out (by kernel_rfl)) (fun _ _ _ h => h) (Or.inl ⟨by rfl, ?_⟩) ?_ ?_
                  rotate_left
                  · intro w'
                    go_simp
                    with_reducible rfl
                  rotate_left
                  · simp only [Act.put, List.setIfInBounds_toArray, List.set_cons_zero, List.set_cons_succ, i64_w, i32_w]
                    rfl
                  refine pure_ (i := 9) (N := some 70) (v := ?_) (a' := ?_) #[true, true, true, true, true, true, true, true, true, true, false, true, false, false, false] rfl rfl (any_of HT_.out (by kernel_rfl)) (fun _ _ _ h => h) (Or.inl ⟨by rfl, ?_⟩) ?_ ?_
                  rotate_left
                  · intro w'
                    go_simp
                    with_reducible rfl
                  rotate_left
                  · simp only [Act.put, List.setIfInBounds_toArray, List.set_cons_zero, List.set_cons_succ, i64_w, i32_w]
                    rfl
                  refine pure_ (i := 10) (N := some 71) (v := ?_) (a' := ?_) #[true, true, true, true, true, true, true, true, true, true, true, true, false, false, false] rfl rfl (any_of HT_.out (by kernel_rfl)) (fun _ _ _ h => h) (Or.inl ⟨by rfl, ?_⟩) ?_ ?_
                  rotate_left
                  · intro w'
                    go_simp
                    with_reducible rfl
                  rotate_left
                  · simp only [Act.put, List.setIfInBounds_toArray, List.set_cons_zero, List.set_cons_succ, i64_w, i32_w]
                    rfl
                  refine last_ (i := 12) (N := none) #[true, true, true, true, true, true, true, true, true, true, true, true, true, false, false] rfl rfl (one_of HT_.out (by kernel_rfl)) (by decide) (fun K hK => ?_)
                  have hs0 := (blk_cell hbox13 0).trans (show #[Value.slice none 0 0, .bool false][0]? = some (.slice none 0 0) from rfl)
                  have hf0 := blk_frozen hbox13 0
                  have hs1 := (blk_cell hbox13 1).trans (show #[Value.slice none 0 0, .bool false][1]? = some (.bool false) from rfl)
                  have hf1 := blk_frozen hbox13 1
                  refine skip_ (w1 := ?_) (by rfl) rfl ?_ ?_
                  rotate_left
                  · go_simp
                    rfl
                  refine hK.out _ _ ?_
                  clear hK K
                  refine pure_ (i := 13) (N := some 14) (v := ?_) (a' := ?_) #[true, true, true, true, true, true, true, true, true, true, true, true, true, true, false] rfl rfl (any_of HT_.out (by kernel_rfl)) (fun _ _ _ h => h) (Or.inl ⟨by rfl, ?_⟩) ?_ ?_
                  rotate_left
                  · intro w'
                    go_simp
                    with_reducible rfl
                  rotate_left
                  · simp only [Act.put, List.setIfInBounds_toArray, List.set_cons_zero, List.set_cons_succ, i64_w, i32_w]
                    rfl
                  refine pure_ (i := 14) (N := some 15) (v := ?_) (a' := ?_) #[true, true, true, true, true, true, true, true, true, true, true, true, true, true, true] rfl rfl (any_of HT_.out (by kernel_rfl)) (fun _ _ _ h => h) (Or.inl ⟨by rfl, ?_⟩) ?_ ?_
                  rotate_left
                  · intro w'
                    go_simp
                    with_reducible rfl
                  rotate_left
                  · simp only [Act.put, List.setIfInBounds_toArray, List.set_cons_zero, List.set_cons_succ, i64_w, i32_w]
                    rfl
                  refine done_ (done_of HT_.out (by kernel_rfl)) ?_
                  go_wp2_with fail
                  go_meet
                  refine ⟨rfl, rfl, g13, Ar, nr, cr, rfl, Lib.hid ⟨(hbr.setCell hge13 _).setCell hge13 _, blk_put (blk_put (cs' := #[.slice Ar nr cr, .bool false]) hbox13 0 _ rfl) 1 _ rfl, ?_⟩⟩
                  exact ((hD.set hgr13 0 _).set hgr13 1 _).rd
              · refine box_step ?hg (N := 13) ?hd (cs := #[.slice none 0 0, .bool false]) (t := 24) ?hr ?_; (case hd => rfl); (case hg => rfl); (case hr => first | (go_simp; done) | (go_simp; rfl))
                intro g13 hg13 w_11 hbox13 hbb
                have hge13 : wf.heap.size ≤ g13 := by rw [hg13]; exact hbr.size
                replace hN := Kd.N_below hN hbb
                replace hbr := hbr.trans (hbb.mono hbr.size)
                clear hg13 hbb
                refine hK.out _ _ (HE.out _ hbr) (fun hHeld => ?_)
                clear hK K
                refine norm_ (a' := ?_) ?_ ?_
                rotate_left
                · show Act.put _ (some 13) _ = _
                  simp only [Act.put, List.setIfInBounds_toArray, List.set_cons_zero, List.set_cons_succ, i64_w, i32_w]
                  rfl
                refine one_ (i := 3) (N := some 65) #[true, true, true, true, true, false, false, false, false, false, false, true, false, false, false] rfl rfl (one_of HT_.out (by kernel_rfl)) (by decide) (fun K hK => ?_)
                have hCC := Kd.F_below (Kd.C_F edit_heap (HCE.out.1)) (HZ2.out _ hbr)
                rw [HCE.out.2.2.1] at hCC
                refine Kd.N_append_rows_step k43 (w0 := wf) wf.heap.size (by rfl) (.tmp 63) (.tmp 64) 25 43 (.agg #[(.int .i64 0), (.int .i64 0), (.int .i64 0), (.int .i64 0), (.string ⟨#[]⟩), (.string ⟨#[]⟩), (.int .i64 0), (.string ⟨#[]⟩), (.slice none 0 0), (.string ⟨#[]⟩), (.int .i64 0), (.slice none 0 0)]) 160 (by rfl) Tryd.underlying25 info43 rfl (by decide) (by decide) (.slice Av (([] : List S43)).length cv) (([] : List S43)) E A1 j1 c1 (fun _ => True) (fun k => k < w.heap.size) rfl rfl hN hCC (fun k hk => ⟨trivial, fun he => ?_⟩) (fun _ _ => trivial) hbr hbr.size (by have h1 := HCE.out.2.2.1; have h2 := HCE.out.2.2.2; simp only [List.length_nil, List.length_append]; omega) ?_
                · have h1 := Kd.N_base hN k he.symm; have h2 := HZ.out; omega
                intro v1 w_12 hN2 hb2 hg hat
                replace hbox13 := blk_grown hbox13 hg (Kd.N_ne hN hbox13 (by decide))
                replace hbr := hb2
                clear hN hCC
                have hN := hN2
                clear hN2
                obtain ⟨Av, cv, rfl⟩ := Kd.N_slice hN
                clear hb2 hg hat
                refine hK.out _ _ (HE.out _ hbr) (fun hHeld => ?_)
                clear hK K
                refine norm_ (a' := ?_) ?_ ?_
                rotate_left
                · show Act.put _ (some 65) _ = _
                  simp only [Act.put, List.setIfInBounds_toArray, List.set_cons_zero, List.set_cons_succ, i64_w, i32_w]
                  rfl
                refine one_ (i := 5) (N := some 67) #[true, true, true, true, true, true, false, false, false, false, false, true, false, false, false] rfl rfl (one_of HT_.out (by kernel_rfl)) (by decide) (fun K hK => ?_)
                have hCC := Kd.F_below (Kd.C_F edit_heap (HCE.out.2.1)) (HZ2.out _ hbr)
                rw [HCE.out.2.2.2] at hCC
                refine Kd.N_append_rows_step k43 (w0 := wf) wf.heap.size (by rfl) (.tmp 65) (.tmp 66) 25 43 (.agg #[(.int .i64 0), (.int .i64 0), (.int .i64 0), (.int .i64 0), (.string ⟨#[]⟩), (.string ⟨#[]⟩), (.int .i64 0), (.string ⟨#[]⟩), (.slice none 0 0), (.string ⟨#[]⟩), (.int .i64 0), (.slice none 0 0)]) 160 (by rfl) Tryd.underlying25 info43 rfl (by decide) (by decide) (.slice Av (([] : List S43) ++ E).length cv) (([] : List S43) ++ E) M A2 j2 c2 (fun _ => True) (fun k => k < w.heap.size) rfl rfl hN hCC (fun k hk => ⟨trivial, fun he => ?_⟩) (fun _ _ => trivial) hbr hbr.size (by have h1 := HCE.out.2.2.1; have h2 := HCE.out.2.2.2; simp only [List.length_nil, List.length_append]; omega) ?_
                · have h1 := Kd.N_base hN k he.symm; have h2 := HZ.out; omega
                intro v1 w_13 hN2 hb2 hg hat
                replace hbox13 := blk_grown hbox13 hg (Kd.N_ne hN hbox13 (by decide))
                replace hbr := hb2
                clear hN hCC
                have hN := hN2
                clear hN2
                obtain ⟨Av, cv, rfl⟩ := Kd.N_slice hN
                clear hb2 hg hat
                refine hK.out _ _ (HE.out _ hbr) (fun hHeld => ?_)
                clear hK K
                refine norm_ (a' := ?_) ?_ ?_
                rotate_left
                · show Act.put _ (some 67) _ = _
                  simp only [Act.put, List.setIfInBounds_toArray, List.set_cons_zero, List.set_cons_succ, i64_w, i32_w]
                  rfl
                refine one_ (i := 6) (N := some 68) #[true, true, true, true, true, true, true, false, false, false, false, true, false, false, false] rfl rfl (one_of HT_.out (by kernel_rfl)) (by decide) (fun K hK => ?_)
                refine goes_ Tryd.func5 (by kernel_rfl) rfl #[.agg #[.slice A' n' c', .bool q], .slice Av (([] : List S43) ++ E ++ M).length cv] (by rfl) rfl rfl (by (try simp only [List.map_toArray, List.map_cons, List.map_nil]); first | done | rfl) ?_
                refine (HAll3.out w_13 _ _ _ _ _ (HX3.out.on hbr).rd (Kd.N_reads' hN).2.2 (Kd.N_reads' hN).2.1).mono ?_
                rintro u_ w_14 ⟨Ar, nr, cr, rfl, hD, hbb⟩
                refine ⟨_, rfl, ?_⟩
                have hgr13 : g13 < w_13.heap.size ∨ w_14.heap.size ≤ g13 := .inl (blk_lt hbox13)
                replace hbox13 := blk_below hbox13 hbb
                replace hN := Kd.N_below hN hbb
                have hcw := hbr.size
                replace hbr := hbr.trans (hbb.mono hbr.size)
                clear hbb
                refine hK.out _ _ (HE.out _ hbr) (fun hHeld => ?_)
                clear hK K
                refine norm_ (a' := ?_) ?_ ?_
                rotate_left
                · show Act.put _ (some 68) _ = _
                  simp only [Act.put, List.setIfInBounds_toArray, List.set_cons_zero, List.set_cons_succ, i64_w, i32_w]
                  rfl
                refine pure_ (i := 7) (N := some 61) (v := ?_) (a' := ?_) #[true, true, true, true, true, true, true, true, false, false, false, true, false, false, false] rfl rfl (any_of HT_.out (by kernel_rfl)) (fun _ _ _ h => h) (Or.inl ⟨by rfl, ?_⟩) ?_ ?_
                rotate_left
                · intro w'
                  go_simp
                  with_reducible rfl
                rotate_left
                · simp only [Act.put, List.setIfInBounds_toArray, List.set_cons_zero, List.set_cons_succ, i64_w, i32_w]
                  rfl
                refine pure_ (i := 8) (N := some 69) (v := ?_) (a' := ?_) #[true, true, true, true, true, true, true, true, true, false, false, true, false, false, false] rfl rfl (any_of HT_.out (by kernel_rfl)) (fun _ _ _ h => h) (Or.inl ⟨by rfl, ?_⟩) ?_ ?_
                rotate_left
                · intro w'
                  go_simp
                  with_reducible rfl
                rotate_left
                · simp only [Act.put, List.setIfInBounds_toArray, List.set_cons_zero, List.set_cons_succ, i64_w, i32_w]
                  rfl
                refine pure_ (i := 9) (N := some 70) (v := ?_) (a' := ?_) #[true, true, true, true, true, true, true, true, true, true, false, true, false, false, false] rfl rfl (any_of HT_.out (by kernel_rfl)) (fun _ _ _ h => h) (Or.inl ⟨by rfl, ?_⟩) ?_ ?_
                rotate_left
                · intro w'
                  go_simp
                  with_reducible rfl
                rotate_left
                · simp only [Act.put, List.setIfInBounds_toArray, List.set_cons_zero, List.set_cons_succ, i64_w, i32_w]
                  rfl
                refine pure_ (i := 10) (N := some 71) (v := ?_) (a' := ?_) #[true, true, true, true, true, true, true, true, true, true, true, true, false, false, false] rfl rfl (any_of HT_.out (by kernel_rfl)) (fun _ _ _ h => h) (Or.inl ⟨by rfl, ?_⟩) ?_ ?_
                rotate_left
                · intro w'
                  go_simp
                  with_reducible rfl
                rotate_left
                · simp only [Act.put, List.setIfInBounds_toArray, List.set_cons_zero, List.set_cons_succ, i64_w, i32_w]
                  rfl
                refine last_ (i := 12) (N := none) #[true, true, true, true, true, true, true, true, true, true, true, true, true, false, false] rfl rfl (one_of HT_.out (by kernel_rfl)) (by decide) (fun K hK => ?_)
                have hs0 := (blk_cell hbox13 0).trans (show #[Value.slice none 0 0, .bool false][0]? = some (.slice none 0 0) from rfl)
                have hf0 := blk_frozen hbox13 0
                have hs1 := (blk_cell hbox13 1).trans (show #[Value.slice none 0 0, .bool false][1]? = some (.bool false) from rfl)
                have hf1 := blk_frozen hbox13 1
                refine skip_ (w1 := ?_) (by rfl) rfl ?_ ?_
                rotate_left
                · go_simp
                  rfl
                refine hK.out _ _ ?_
                clear hK K
                refine pure_ (i := 13) (N := some 14) (v := ?_) (a' := ?_) #[true, true, true, true, true, true, true, true, true, true, true, true, true, true, false] rfl rfl (any_of HT_.out (by kernel_rfl)) (fun _ _ _ h => h) (Or.inl ⟨by rfl, ?_⟩) ?_ ?_
                rotate_left
                · intro w'
                  go_simp
                  with_reducible rfl
                rotate_left
                · simp only [Act.put, List.setIfInBounds_toArray, List.set_cons_zero, List.set_cons_succ, i64_w, i32_w]
                  rfl
                refine pure_ (i := 14) (N := some 15) (v := ?_) (a' := ?_) #[true, true, true, true, true, true, true, true, true, true, true, true, true, true, true] rfl rfl (any_of HT_.out (by kernel_rfl)) (fun _ _ _ h => h) (Or.inl ⟨by rfl, ?_⟩) ?_ ?_
                rotate_left
                · intro w'
                  go_simp
                  with_reducible rfl
                rotate_left
                · simp only [Act.put, List.setIfInBounds_toArray, List.set_cons_zero, List.set_cons_succ, i64_w, i32_w]
                  rfl
                refine done_ (done_of HT_.out (by kernel_rfl)) ?_
                go_wp2_with fail
                go_meet
                refine ⟨rfl, rfl, g13, Ar, nr, cr, rfl, Lib.hid ⟨(hbr.setCell hge13 _).setCell hge13 _, blk_put (blk_put (cs' := #[.slice Ar nr cr, .bool false]) hbox13 0 _ rfl) 1 _ rfl, ?_⟩⟩
                exact ((hD.set hgr13 0 _).set hgr13 1 _).rd
            · refine box_step ?hg (N := 13) ?hd (cs := #[.slice none 0 0, .bool false]) (t := 24) ?hr ?_; (case hd => rfl); (case hg => rfl); (case hr => first | (go_simp; done) | (go_simp; rfl))
              intro g13 hg13 w_15 hbox13 hbb
              have hge13 : wf.heap.size ≤ g13 := by rw [hg13]; exact hbr.size
              replace hbr := hbr.trans (hbb.mono hbr.size)
              clear hg13 hbb
              refine hK.out _ _ (HE.out _ hbr) (fun hHeld => ?_)
              clear hK K
              refine norm_ (a' := ?_) ?_ ?_
              rotate_left
              · show Act.put _ (some 13) _ = _
                simp only [Act.put, List.setIfInBounds_toArray, List.set_cons_zero, List.set_cons_succ, i64_w, i32_w]
                rfl
              refine one_ (i := 1) (N := some 63) #[true, true, true, false, true, false, false, false, false, false, false, true, false, false, false] rfl rfl (one_of HT_.out (by kernel_rfl)) (by decide) (fun K hK => ?_)
              refine Kd.N_lit_step k43 (w0 := wf) wf.heap.size 43 (by rfl) (N' := 63) rfl (xs := ([] : List S43)) (inner := []) (ok := fun _ => True) (okp := fun _ => True) (by first | (go_simp; done) | (go_simp; rfl)) ⟨rfl, fun j p hj => by simp at hj⟩ (fun _ _ => trivial) trivial hbr hbr.size (by decide) ?_
              intro v1 w_16 hN hb2 hg hat
              replace hbox13 := blk_grown hbox13 hg (fun h => by cases h)
              replace hbr := hb2
              obtain ⟨Av, cv, rfl⟩ := Kd.N_slice hN
              clear hb2 hg hat
              refine hK.out _ _ (HE.out _ hbr) (fun hHeld => ?_)
              clear hK K
              refine norm_ (a' := ?_) ?_ ?_
              rotate_left
              · show Act.put _ (some 63) _ = _
                simp only [Act.put, List.setIfInBounds_toArray, List.set_cons_zero, List.set_cons_succ, i64_w, i32_w]
                rfl
              refine one_ (i := 3) (N := some 65) #[true, true, true, true, true, false, false, false, false, false, false, true, false, false, false] rfl rfl (one_of HT_.out (by kernel_rfl)) (by decide) (fun K hK => ?_)
              have hCC := Kd.F_below (Kd.C_F edit_heap (HCE.out.1)) (HZ2.out _ hbr)
              rw [HCE.out.2.2.1] at hCC
              refine Kd.N_append_rows_step k43 (w0 := wf) wf.heap.size (by rfl) (.tmp 63) (.tmp 64) 25 43 (.agg #[(.int .i64 0), (.int .i64 0), (.int .i64 0), (.int .i64 0), (.string ⟨#[]⟩), (.string ⟨#[]⟩), (.int .i64 0), (.string ⟨#[]⟩), (.slice none 0 0), (.string ⟨#[]⟩), (.int .i64 0), (.slice none 0 0)]) 160 (by rfl) Tryd.underlying25 info43 rfl (by decide) (by decide) (.slice Av (([] : List S43)).length cv) (([] : List S43)) E A1 j1 c1 (fun _ => True) (fun k => k < w.heap.size) rfl rfl hN hCC (fun k hk => ⟨trivial, fun he => ?_⟩) (fun _ _ => trivial) hbr hbr.size (by have h1 := HCE.out.2.2.1; have h2 := HCE.out.2.2.2; simp only [List.length_nil, List.length_append]; omega) ?_
              · have h1 := Kd.N_base hN k he.symm; have h2 := HZ.out; omega
              intro v1 w_17 hN2 hb2 hg hat
              replace hbox13 := blk_grown hbox13 hg (Kd.N_ne hN hbox13 (by decide))
              replace hbr := hb2
              clear hN hCC
              have hN := hN2
              clear hN2
              obtain ⟨Av, cv, rfl⟩ := Kd.N_slice hN
              clear hb2 hg hat
              refine hK.out _ _ (HE.out _ hbr) (fun hHeld => ?_)
              clear hK K
              refine norm_ (a' := ?_) ?_ ?_
              rotate_left
              · show Act.put _ (some 65) _ = _
                simp only [Act.put, List.setIfInBounds_toArray, List.set_cons_zero, List.set_cons_succ, i64_w, i32_w]
                rfl
              refine one_ (i := 5) (N := some 67) #[true, true, true, true, true, true, false, false, false, false, false, true, false, false, false] rfl rfl (one_of HT_.out (by kernel_rfl)) (by decide) (fun K hK => ?_)
              have hCC := Kd.F_below (Kd.C_F edit_heap (HCE.out.2.1)) (HZ2.out _ hbr)
              rw [HCE.out.2.2.2] at hCC
              refine Kd.N_append_rows_step k43 (w0 := wf) wf.heap.size (by rfl) (.tmp 65) (.tmp 66) 25 43 (.agg #[(.int .i64 0), (.int .i64 0), (.int .i64 0), (.int .i64 0), (.string ⟨#[]⟩), (.string ⟨#[]⟩), (.int .i64 0), (.string ⟨#[]⟩), (.slice none 0 0), (.string ⟨#[]⟩), (.int .i64 0), (.slice none 0 0)]) 160 (by rfl) Tryd.underlying25 info43 rfl (by decide) (by decide) (.slice Av (([] : List S43) ++ E).length cv) (([] : List S43) ++ E) M A2 j2 c2 (fun _ => True) (fun k => k < w.heap.size) rfl rfl hN hCC (fun k hk => ⟨trivial, fun he => ?_⟩) (fun _ _ => trivial) hbr hbr.size (by have h1 := HCE.out.2.2.1; have h2 := HCE.out.2.2.2; simp only [List.length_nil, List.length_append]; omega) ?_
              · have h1 := Kd.N_base hN k he.symm; have h2 := HZ.out; omega
              intro v1 w_18 hN2 hb2 hg hat
              replace hbox13 := blk_grown hbox13 hg (Kd.N_ne hN hbox13 (by decide))
              replace hbr := hb2
              clear hN hCC
              have hN := hN2
              clear hN2
              obtain ⟨Av, cv, rfl⟩ := Kd.N_slice hN
              clear hb2 hg hat
              refine hK.out _ _ (HE.out _ hbr) (fun hHeld => ?_)
              clear hK K
              refine norm_ (a' := ?_) ?_ ?_
              rotate_left
              · show Act.put _ (some 67) _ = _
                simp only [Act.put, List.setIfInBounds_toArray, List.set_cons_zero, List.set_cons_succ, i64_w, i32_w]
                rfl
              refine one_ (i := 6) (N := some 68) #[true, true, true, true, true, true, true, false, false, false, false, true, false, false, false] rfl rfl (one_of HT_.out (by kernel_rfl)) (by decide) (fun K hK => ?_)
              refine goes_ Tryd.func5 (by kernel_rfl) rfl #[.agg #[.slice A' n' c', .bool q], .slice Av (([] : List S43) ++ E ++ M).length cv] (by rfl) rfl rfl (by (try simp only [List.map_toArray, List.map_cons, List.map_nil]); first | done | rfl) ?_
              refine (HAll3.out w_18 _ _ _ _ _ (HX3.out.on hbr).rd (Kd.N_reads' hN).2.2 (Kd.N_reads' hN).2.1).mono ?_
              rintro u_ w_19 ⟨Ar, nr, cr, rfl, hD, hbb⟩
              refine ⟨_, rfl, ?_⟩
              have hgr13 : g13 < w_18.heap.size ∨ w_19.heap.size ≤ g13 := .inl (blk_lt hbox13)
              replace hbox13 := blk_below hbox13 hbb
              replace hN := Kd.N_below hN hbb
              have hcw := hbr.size
              replace hbr := hbr.trans (hbb.mono hbr.size)
              clear hbb
              refine hK.out _ _ (HE.out _ hbr) (fun hHeld => ?_)
              clear hK K
              refine norm_ (a' := ?_) ?_ ?_
              rotate_left
              · show Act.put _ (some 68) _ = _
                simp only [Act.put, List.setIfInBounds_toArray, List.set_cons_zero, List.set_cons_succ, i64_w, i32_w]
                rfl
              refine pure_ (i := 7) (N := some 61) (v := ?_) (a' := ?_) #[true, true, true, true, true, true, true, true, false, false, false, true, false, false, false] rfl rfl (any_of HT_.out (by kernel_rfl)) (fun _ _ _ h => h) (Or.inl ⟨by rfl, ?_⟩) ?_ ?_
              rotate_left
              · intro w'
                go_simp
                with_reducible rfl
              rotate_left
              · simp only [Act.put, List.setIfInBounds_toArray, List.set_cons_zero, List.set_cons_succ, i64_w, i32_w]
                rfl
              refine pure_ (i := 8) (N := some 69) (v := ?_) (a' := ?_) #[true, true, true, true, true, true, true, true, true, false, false, true, false, false, false] rfl rfl (any_of HT_.out (by kernel_rfl)) (fun _ _ _ h => h) (Or.inl ⟨by rfl, ?_⟩) ?_ ?_
              rotate_left
              · intro w'
                go_simp
                with_reducible rfl
              rotate_left
              · simp only [Act.put, List.setIfInBounds_toArray, List.set_cons_zero, List.set_cons_succ, i64_w, i32_w]
                rfl
              refine pure_ (i := 9) (N := some 70) (v := ?_) (a' := ?_) #[true, true, true, true, true, true, true, true, true, true, false, true, false, false, false] rfl rfl (any_of HT_.out (by kernel_rfl)) (fun _ _ _ h => h) (Or.inl ⟨by rfl, ?_⟩) ?_ ?_
              rotate_left
              · intro w'
                go_simp
                with_reducible rfl
              rotate_left
              · simp only [Act.put, List.setIfInBounds_toArray, List.set_cons_zero, List.set_cons_succ, i64_w, i32_w]
                rfl
              refine pure_ (i := 10) (N := some 71) (v := ?_) (a' := ?_) #[true, true, true, true, true, true, true, true, true, true, true, true, false, false, false] rfl rfl (any_of HT_.out (by kernel_rfl)) (fun _ _ _ h => h) (Or.inl ⟨by rfl, ?_⟩) ?_ ?_
              rotate_left
              · intro w'
                go_simp
                with_reducible rfl
              rotate_left
              · simp only [Act.put, List.setIfInBounds_toArray, List.set_cons_zero, List.set_cons_succ, i64_w, i32_w]
                rfl
              refine last_ (i := 12) (N := none) #[true, true, true, true, true, true, true, true, true, true, true, true, true, false, false] rfl rfl (one_of HT_.out (by kernel_rfl)) (by decide) (fun K hK => ?_)
              have hs0 := (blk_cell hbox13 0).trans (show #[Value.slice none 0 0, .bool false][0]? = some (.slice none 0 0) from rfl)
              have hf0 := blk_frozen hbox13 0
              have hs1 := (blk_cell hbox13 1).trans (show #[Value.slice none 0 0, .bool false][1]? = some (.bool false) from rfl)
              have hf1 := blk_frozen hbox13 1
              refine skip_ (w1 := ?_) (by rfl) rfl ?_ ?_
              rotate_left
              · go_simp
                rfl
              refine hK.out _ _ ?_
              clear hK K
              refine pure_ (i := 13) (N := some 14) (v := ?_) (a' := ?_) #[true, true, true, true, true, true, true, true, true, true, true, true, true, true, false] rfl rfl (any_of HT_.out (by kernel_rfl)) (fun _ _ _ h => h) (Or.inl ⟨by rfl, ?_⟩) ?_ ?_
              rotate_left
              · intro w'
                go_simp
                with_reducible rfl
              rotate_left
              · simp only [Act.put, List.setIfInBounds_toArray, List.set_cons_zero, List.set_cons_succ, i64_w, i32_w]
                rfl
              refine pure_ (i := 14) (N := some 15) (v := ?_) (a' := ?_) #[true, true, true, true, true, true, true, true, true, true, true, true, true, true, true] rfl rfl (any_of HT_.out (by kernel_rfl)) (fun _ _ _ h => h) (Or.inl ⟨by rfl, ?_⟩) ?_ ?_
              rotate_left
              · intro w'
                go_simp
                with_reducible rfl
              rotate_left
              · simp only [Act.put, List.setIfInBounds_toArray, List.set_cons_zero, List.set_cons_succ, i64_w, i32_w]
                rfl
              refine done_ (done_of HT_.out (by kernel_rfl)) ?_
              go_wp2_with fail
              go_meet
              refine ⟨rfl, rfl, g13, Ar, nr, cr, rfl, Lib.hid ⟨(hbr.setCell hge13 _).setCell hge13 _, blk_put (blk_put (cs' := #[.slice Ar nr cr, .bool false]) hbox13 0 _ rfl) 1 _ rfl, ?_⟩⟩
              exact ((hD.set hgr13 0 _).set hgr13 1 _).rd
            -- R6]
          case rest =>
            obtain ⟨rfl, rfl, g13, A13, n13, c13, rfl, HY13⟩ := hcut
            rename World => wg
            have HY11 := Lib.hid ((HY10.out.on HY13.out.below).from (HY.out.from (show Below w.heap.size w wb from HXb.out)).below)
            clear HE HX3 HV3 HAll3 HAll HAll2
            by_cases he2 : e2 = 0
            · subst he2
              obtain ⟨h2, h3⟩ := HOk.out rfl
              subst h2 h3
              go_wp2_with fail
              refine (HBg.out wg).mono ?_
              rintro u w5 ⟨rfl, hb5⟩
              have y0 := (blk_cell (HY11.out.on hb5).box 0).trans (show #[Value.slice A10 n10 c10, .bool q2][0]? = some (.slice A10 n10 c10) from rfl)
              have y1 := (blk_cell (HY11.out.on hb5).box 1).trans (show #[Value.slice A10 n10 c10, .bool q2][1]? = some (.bool q2) from rfl)
              have z0 := (blk_cell (HY13.out.on hb5).box 0).trans (show #[Value.slice A13 n13 c13, .bool q2][0]? = some (.slice A13 n13 c13) from rfl)
              have z1 := (blk_cell (HY13.out.on hb5).box 1).trans (show #[Value.slice A13 n13 c13, .bool q2][1]? = some (.bool q2) from rfl)
              go_wp2_with fail
              refine (HSm.out w5 _ _ _ _ _ _ (HY11.out.on hb5).rd (HY13.out.on hb5).rd).mono ?_
              rintro u w6 ⟨rfl, hb6⟩
              have hbl := (HY11.out.on hb5).below
              go_wp2_with fail
              go_ret
              exact ⟨rfl, hbl.trans (hb6.mono hbl.size)⟩
            · obtain ⟨h3, hi2, hi2s⟩ := HErr.out he2
              subst h3
              have he2b : (e2 != 0) = true := by simpa using he2
              have he2c : (e2 == 0) = false := by simpa using he2
              have hwr : IntKind.i64.wrap ((j1 : Int) + i2) = (j1 : Int) + i2 := by rw [IntKind.wrap_i64]; omega
              go_wp2_with fail
              refine (HBg.out wg).mono ?_
              rintro u w5 ⟨rfl, hb5⟩
              have y0 := (blk_cell (HY11.out.on hb5).box 0).trans (show #[Value.slice A10 n10 c10, .bool q2][0]? = some (.slice A10 n10 c10) from rfl)
              have y1 := (blk_cell (HY11.out.on hb5).box 1).trans (show #[Value.slice A10 n10 c10, .bool q2][1]? = some (.bool q2) from rfl)
              have z0 := (blk_cell (HY13.out.on hb5).box 0).trans (show #[Value.slice A13 n13 c13, .bool q2][0]? = some (.slice A13 n13 c13) from rfl)
              have z1 := (blk_cell (HY13.out.on hb5).box 1).trans (show #[Value.slice A13 n13 c13, .bool q2][1]? = some (.bool q2) from rfl)
              go_wp2_with fail
              refine (HSm.out w5 _ _ _ _ _ _ (HY11.out.on hb5).rd (HY13.out.on hb5).rd).mono ?_
              rintro u w6 ⟨rfl, hb6⟩
              have hbl := (HY11.out.on hb5).below
              go_wp2_with fail
              go_ret
              exact ⟨rfl, hbl.trans (hb6.mono hbl.size)⟩
end Go.Proofs.YtdakcfacckmjcaaDoor.Both
