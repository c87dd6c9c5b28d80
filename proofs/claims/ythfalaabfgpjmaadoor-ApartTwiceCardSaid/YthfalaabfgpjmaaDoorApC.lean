/- Package apart: few, Apply, Touch. -/
import Derived.Test.YthfalaabfgpjmaaDoorApB
import Derived.Test.YthfalaabfgpjmaaDoorApQ
import Derived.Deep.QuietTactic
import Derived.Deep.RegionWith
import Derived.Deep.RegionHeld3
import Derived.Deep.DeepCutAuto
namespace Go.Proofs.YthfalaabfgpjmaaDoor.ApA
open Go.RowKit Go.Proofs.YthfalaabfgpjmaaDoorW.PrintWords Go.Proofs.YthfalaabfgpjmaaDoorW.PrintLast Go.Proofs.YthfalaabfgpjmaaDoorW.PrintMore Go.Proofs.YthfalaabfgpjmaaDoor.PAP Go.Proofs.YthfalaabfgpjmaaDoor.DocP Go.Proofs.YthfalaabfgpjmaaDoor.DocC
attribute [local go_sem] max2_int min2_int max_two min_two max_three min_three max_four min_four
set_option linter.unusedVariables false
set_option linter.unusedSimpArgs false
set_option maxHeartbeats 2000000 in
set_option maxRecDepth 100000 in
theorem few_any (A : Option Addr) (n c m : Nat) (q : Bool) (w : World) (hn : n ≤ c) (hm : n ≤ 9223372036854775807) (hm2 : m ≤ 9223372036854775807) :
    Calls Tryd.prog 6 #[.agg #[.slice A n c, .bool q], .int .i64 m] w fun e w' => e = .returned (.agg #[.slice A (min n m) c, .bool q]) ∧ Below w.heap.size w w' := by
  by_cases hmn : m < n
  · have HJ : Hid (min n m = m) := Lib.hid (by omega)
    go_enter Tryd.func6, Tryd.ntmps6
    go_wp2_with fail
    exact bodyPost_ret (v := .agg #[.slice A m c, .bool q]) (by simp [results, Tryd.results6, go_sem]) rfl ⟨by rw [HJ.out], (((Below.refl _ w).alloc (Nat.le_refl _) _).alloc (by simp) _)⟩
  · have HJ : Hid (min n m = n) := Lib.hid (by omega)
    go_enter Tryd.func6, Tryd.ntmps6
    go_wp2_with fail
    exact bodyPost_ret (v := .agg #[.slice A n c, .bool q]) (by simp [results, Tryd.results6, go_sem]) rfl ⟨by rw [HJ.out], (((Below.refl _ w).alloc (Nat.le_refl _) _).alloc (by simp) _)⟩
/-- What an edit's rows read. -/
structure ReadsE (W : World) (e : S30) (A8 : Option Addr) (c8 : Nat) (A11 : Option Addr) (c11 : Nat) : Prop where
  h8 : Kd.C k61 W A8 e.f6.f2.length e.f6.f2
  l8 : e.f6.f2.length ≤ c8
  h11 : Kd.C (Kd.int .i64) W A11 e.f6.f5.length e.f6.f5
  l11 : e.f6.f5.length ≤ c11
theorem ReadsE.below {W W' : World} {e : S30} {A8 : Option Addr} {c8 : Nat} {A11 : Option Addr} {c11 : Nat} (h : ReadsE W e A8 c8 A11 c11) (hb : Below W.heap.size W W') : ReadsE W' e A8 c8 A11 c11 := ⟨Kd.C_below h.h8 hb, h.l8, Kd.C_below h.h11 hb, h.l11⟩
/-- A document that lies between two places. -/
def Dw (W : World) (lo hi : Nat) (A : Option Addr) (n c : Nat) (l : List S28) : Prop := n = l.length ∧ n ≤ c ∧ Kd.F k28 W (fun k => lo ≤ k ∧ k < hi) A l.length l
theorem Dw.below {W W' : World} {lo hi : Nat} {A : Option Addr} {n c : Nat} {l : List S28} (h : Dw W lo hi A n c l) (hb : Below W.heap.size W W') : Dw W' lo hi A n c l := ⟨h.1, h.2.1, Kd.F_below h.2.2 hb⟩
theorem Dw.set {W : World} {lo hi : Nat} {A : Option Addr} {n c g : Nat} {l : List S28} (h : Dw W lo hi A n c l) (hg : g < lo ∨ hi ≤ g) (i : Nat) (u : Value) : Dw (W.setCell ⟨g, i, none⟩ u) lo hi A n c l :=
  ⟨h.1, h.2.1, Kd.F_far (p := ⟨g, i, none⟩) h.2.2 (fun k hk => by have h1 := hk.1; have h2 := hk.2; show k ≠ g; omega) u⟩
theorem Dw.reads {W : World} {lo hi : Nat} {A : Option Addr} {n c : Nat} {l : List S28} (h : Dw W lo hi A n c l) : Kd.C k28 W A l.length l := Kd.F_now h.2.2
theorem apply_calls {l l2 : List S28} {q q2 : Bool} {made er : Int} {e : S30} (hev : Ev (fun k => dom_Apply.f k l q e.f0 e.f1 e.f2 e.f3 e.f4 e.f5 e.f6.f0 e.f6.f1 e.f6.f2 e.f6.f3 e.f6.f4 e.f6.f5) (l2, q2, made, er)) (A A8 A11 : Option Addr) (c c8 c11 : Nat) (W : World) (hr : Kd.C k28 W A l.length l) (hc : l.length ≤ c) (he : ReadsE W e A8 c8 A11 c11) :
    Calls Tryd.prog 14 #[.agg #[.slice A l.length c, .bool q], .agg #[.int .i64 e.f0, .int .i64 e.f1, .int .i64 e.f2, .int .i64 e.f3, .string e.f4, .string e.f5, .int .i64 e.f6.f0, .string e.f6.f1, .slice A8 e.f6.f2.length c8, .string e.f6.f3, .int .i64 e.f6.f4, .slice A11 e.f6.f5.length c11]] W fun u w' => ∃ A' n' c', u = .returned (.tuple #[.agg #[.slice A' n' c', .bool q2], .int .i64 made, .int .i64 er]) ∧ Dw w' W.heap.size w'.heap.size A' n' c' l2 ∧ Below W.heap.size W w' := by
  obtain ⟨k, hk⟩ := ev_at hev
  refine (dom_Apply.calls k A c l q e.f0 e.f1 e.f2 e.f3 e.f4 e.f5 e.f6.f0 e.f6.f1 A8 c8 e.f6.f2 e.f6.f3 e.f6.f4 A11 c11 e.f6.f5 l2 q2 made er W hr hc he.h8 he.l8 he.h11 he.l11 hk).mono ?_
  rintro u w' ⟨v, rfl, hS, hb⟩
  obtain ⟨A', c', rfl⟩ := Kd.S_slice hS
  have h1 := Kd.S_V (base' := 0) (Kd.S_mono (ok' := fun k => W.heap.size ≤ k ∧ k < w'.heap.size) (Kd.S_bound hS) (fun k hk => ⟨hk.2.1, hk.2.2.1⟩))
  exact ⟨A', _, c', rfl, ⟨rfl, (Kd.V_at h1).2.1, (Kd.V_at h1).2.2⟩, hb⟩
/-- What Touch comes to. -/
structure TouchR (l : List S28) (q : Bool) (e : S30) (er : Int) (o : List Int) (l2 : List S28) (q2 : Bool) (made : Int) : Prop where
  ev : Ev (fun k => dom_Apply.f k l q e.f0 e.f1 e.f2 e.f3 e.f4 e.f5 e.f6.f0 e.f6.f1 e.f6.f2 e.f6.f3 e.f6.f4 e.f6.f5) (l2, q2, made, er)
  ok : er = 0 → DocOk l ∧ DocOk l2 ∧ Eff l e l2 ∧ q2 = q
  top : er = 0 → ∃ top, (e.f0 = 5 → IsRoot l e.f1 top) ∧ o = told (touchG l e top)
  bad : er ≠ 0 → o = []
theorem touch_plain {l : List S28} (hf : Fit l) (q : Bool) (e : S30) : ∃ er o l2 q2 made, TouchR l q e er o l2 q2 made := by
  obtain ⟨c, hc, _⟩ := check_ev l q hf
  by_cases hc0 : c = 0
  · subst hc0
    have h := check_doc hc hf
    obtain ⟨r, l', m, h1, h2⟩ := apply_good (q := q) h e
    by_cases hr : r = 0
    · subst hr
      rw [if_pos rfl] at h1
      obtain ⟨r2, l3, m2, g1, g2⟩ := edit_good (q := q) h 0 e
      have hE : Eff l e l' := by
        have h3 : Ev (fun k => dom_Apply.f k l q e.f0 e.f1 e.f2 e.f3 e.f4 e.f5 e.f6.f0 e.f6.f1 e.f6.f2 e.f6.f3 e.f6.f4 e.f6.f5) (if r2 = 0 then (l3, q, m2, 0) else ([], false, 0, r2)) := by
          unfold dom_Apply.f
          refine Ev.bind (f := fun k c => if c = 0 then (if allOk l = true then (editF k l q 0 ⟨e.f0, e.f1, e.f2, e.f3, e.f4, e.f5, ⟨e.f6.f0, e.f6.f1, e.f6.f2, e.f6.f3, e.f6.f4, e.f6.f5⟩⟩).bind fun t => if t.1 = 0 then some (t.2.1, q, t.2.2, 0) else some ([], false, 0, t.1) else none) else some ([], false, 0, c)) (check_ok h h.fit) (Ev.congr (fun k => (if_pos rfl).trans (if_pos h.all)) ?_)
          refine Ev.bind (f := fun k t => if t.1 = 0 then some (t.2.1, q, t.2.2, 0) else some ([], false, 0, t.1)) g1 ?_
          by_cases hr : r2 = 0
          · subst hr
            exact Ev.now _
          · simp only [if_neg hr]
            exact Ev.now _
        have h4 := ev_one h1 h3
        by_cases hr2 : r2 = 0
        · subst hr2
          rw [if_pos rfl] at h4
          injection h4 with h5 h6
          subst h5
          exact (edit_eff h g1).1
        · rw [if_neg hr2] at h4
          injection h4 with h5 h6
          injection h6 with h6 h7
          injection h7 with h7 h8
          exact absurd h8.symm hr2
      have htop : ∃ top, (e.f0 = 5 → IsRoot l e.f1 top) := by
        by_cases h5 : e.f0 = 5
        · have hin : In l.length e.f1 := by
            cases hE with
            | insert h0 hi _ _ _ _ _ _ _ _ => exact hi
            | _ => omega
          obtain ⟨d, _, hd⟩ := h.wf.dep e.f1 hin.1 hin.2
          obtain ⟨r, _, hr⟩ := root_ev (q := q) h.wf d e.f1 hin hd
          exact ⟨r, fun _ => hr⟩
        · exact ⟨0, fun h => absurd h h5⟩
      obtain ⟨top, ht⟩ := htop
      exact ⟨0, told (touchG l e top), l', q, m, h1, fun _ => ⟨h, (h2 rfl).1, hE, rfl⟩, fun _ => ⟨top, ht, rfl⟩, fun h => absurd rfl h⟩
    · rw [if_neg hr] at h1
      exact ⟨r, [], [], false, 0, h1, fun h => absurd h hr, fun h => absurd h hr, fun _ => rfl⟩
  · refine ⟨c, [], [], false, 0, ?_, fun h => absurd h hc0, fun h => absurd h hc0, fun _ => rfl⟩
    unfold dom_Apply.f
    refine Ev.bind (f := fun k c => if c = 0 then (if allOk l = true then (editF k l q 0 ⟨e.f0, e.f1, e.f2, e.f3, e.f4, e.f5, ⟨e.f6.f0, e.f6.f1, e.f6.f2, e.f6.f3, e.f6.f4, e.f6.f5⟩⟩).bind fun t => if t.1 = 0 then some (t.2.1, q, t.2.2, 0) else some ([], false, 0, t.1) else none) else some ([], false, 0, c)) hc (Ev.congr (fun k => if_neg hc0) (Ev.now _))
theorem touched_any {l l2 : List S28} {e : S30} (h : DocOk l) (he : Eff l e l2) (q : Bool) (top : Int) (ht : e.f0 = 5 → IsRoot l e.f1 top) (w : World) (A A8 A11 : Option Addr) (c n8 c8 n11 c11 : Nat) (hr : Kd.C k28 w A l.length l) (hc : l.length ≤ c) :
    Calls Tryd.prog 25 #[.agg #[.slice A l.length c, .bool q], .agg #[.int .i64 e.f0, .int .i64 e.f1, .int .i64 e.f2, .int .i64 e.f3, .string e.f4, .string e.f5, .int .i64 e.f6.f0, .string e.f6.f1, .slice A8 n8 c8, .string e.f6.f3, .int .i64 e.f6.f4, .slice A11 n11 c11]] w fun u w' => ∃ v : Value, u = .returned v ∧ Kd.R (Kd.int .i64) 3 w' w.heap.size (fun _ => True) v (told (touchG l e top)) ∧ Below w.heap.size w w' := by
  unfold touchG
  by_cases h4 : e.f0 = 4
  · rw [if_pos h4]
    exact touched_make w A A8 A11 l.length c n8 n11 c8 c11 q e.f0 e.f1 e.f2 e.f3 _ _ _ _ _ _ h4
  rw [if_neg h4]
  by_cases h5 : e.f0 = 5
  · rw [if_pos h5]
    have hin : In l.length e.f1 := by
      cases he with
      | insert h0 hi _ _ _ _ _ _ _ _ => exact hi
      | _ => omega
    obtain ⟨d, _, hd⟩ := h.wf.dep e.f1 hin.1 hin.2
    obtain ⟨r, hr1, hr2⟩ := root_ev (q := q) h.wf d e.f1 hin hd
    have e1 := (ht h5).one hr2
    subst e1
    by_cases hp : 0 < top
    · rw [if_pos hp]
      exact touched_insert1 w A A8 A11 l.length c n8 n11 c8 c11 q e.f0 e.f1 e.f2 e.f3 _ _ _ _ _ _ h5 l hr rfl hc top hr1 hp
    · rw [if_neg hp]
      exact touched_insert0 w A A8 A11 l.length c n8 n11 c8 c11 q e.f0 e.f1 e.f2 e.f3 _ _ _ _ _ _ h5 l hr rfl hc top hr1 hp
  rw [if_neg h5]
  by_cases h6 : e.f0 = 6
  · rw [if_pos h6]
    have hin : In l.length e.f1 := by
      cases he with
      | remove h0 hi _ _ _ _ _ _ _ => exact hi
      | _ => omega
    exact touched_remove w A A8 A11 l.length c n8 n11 c8 c11 q e.f0 e.f1 e.f2 e.f3 _ _ _ _ _ _ h6 l hr rfl hc hin
  rw [if_neg h6]
  exact touched_one w A A8 A11 l.length c n8 n11 c8 c11 q e.f0 e.f1 e.f2 e.f3 _ _ _ _ _ _ h4 h5 h6
set_option maxHeartbeats 4000000 in
set_option maxRecDepth 100000 in
theorem touch_calls {l l2 : List S28} {q q2 : Bool} {e : S30} {er made : Int} {o : List Int} (h : TouchR l q e er o l2 q2 made) (A A8 A11 : Option Addr) (c c8 c11 : Nat) (w : World) (hr : Kd.C k28 w A l.length l) (hc : l.length ≤ c) (he : ReadsE w e A8 c8 A11 c11) :
    Calls Tryd.prog 13 #[.agg #[.slice A l.length c, .bool q], .agg #[.int .i64 e.f0, .int .i64 e.f1, .int .i64 e.f2, .int .i64 e.f3, .string e.f4, .string e.f5, .int .i64 e.f6.f0, .string e.f6.f1, .slice A8 e.f6.f2.length c8, .string e.f6.f3, .int .i64 e.f6.f4, .slice A11 e.f6.f5.length c11]] w fun u w' => ∃ v : Value, u = .returned (.tuple #[v, .int .i64 er]) ∧ Kd.R (Kd.int .i64) 3 w' w.heap.size (fun _ => True) v o ∧ Below w.heap.size w w' := by
  obtain ⟨n, hn⟩ : ∃ n, n = l.length := ⟨_, rfl⟩
  obtain ⟨n8, hn8⟩ : ∃ n8, n8 = e.f6.f2.length := ⟨_, rfl⟩
  obtain ⟨n11, hn11⟩ : ∃ n11, n11 = e.f6.f5.length := ⟨_, rfl⟩
  have HAp : Hid (∀ W : World, Below w.heap.size w W → Calls Tryd.prog 14 #[.agg #[.slice A n c, .bool q], .agg #[.int .i64 e.f0, .int .i64 e.f1, .int .i64 e.f2, .int .i64 e.f3, .string e.f4, .string e.f5, .int .i64 e.f6.f0, .string e.f6.f1, .slice A8 n8 c8, .string e.f6.f3, .int .i64 e.f6.f4, .slice A11 n11 c11]] W fun u w' => ∃ A' n' c', u = .returned (.tuple #[.agg #[.slice A' n' c', .bool q2], .int .i64 made, .int .i64 er]) ∧ Below W.heap.size W w') := Lib.hid (fun W hb => by
    subst hn hn8 hn11
    refine (apply_calls h.ev A A8 A11 c c8 c11 W (Kd.C_below hr hb) hc (he.below hb)).mono ?_
    rintro u w' ⟨A', n', c', rfl, _, hb'⟩
    exact ⟨A', n', c', rfl, hb'⟩)
  have HT : Hid (er = 0 → ∀ W : World, Below w.heap.size w W → Calls Tryd.prog 25 #[.agg #[.slice A n c, .bool q], .agg #[.int .i64 e.f0, .int .i64 e.f1, .int .i64 e.f2, .int .i64 e.f3, .string e.f4, .string e.f5, .int .i64 e.f6.f0, .string e.f6.f1, .slice A8 n8 c8, .string e.f6.f3, .int .i64 e.f6.f4, .slice A11 n11 c11]] W fun u w' => ∃ A' c', u = .returned (.slice A' o.length c') ∧ Kd.R (Kd.int .i64) 3 w' w.heap.size (fun _ => True) (.slice A' o.length c') o ∧ Below w.heap.size w w') := Lib.hid (fun h0 W hb => by
    obtain ⟨h1, h2, h3, h4⟩ := h.ok h0
    obtain ⟨top, ht, ho⟩ := h.top h0
    subst hn hn8 hn11
    refine (touched_any h1 h3 q top ht W A A8 A11 c _ c8 _ c11 (Kd.C_below hr hb) hc).mono ?_
    rintro u w' ⟨v, rfl, h5, h6⟩
    rw [← ho] at h5
    have h7 := Kd.own_of_R h5
    obtain ⟨A', c', rfl⟩ := own_slice h7
    exact ⟨A', c', rfl, Kd.R_lower h5 hb.size, hb.trans (h6.mono hb.size)⟩)
  have HO : Hid (er ≠ 0 → o = []) := Lib.hid h.bad
  have HL : Hid (o = [] → ∀ W : World, Kd.R (Kd.int .i64) 3 W w.heap.size (fun _ => True) (.slice none 0 0) o) := Lib.hid (fun h W => by subst h; exact Kd.R_of_own (own_nil _ _ _ _) (fun _ _ => trivial))
  have HBx : Hid (∀ w1, Below ((w.alloc (.cells #[.slice A n c, .bool q] 24)).alloc (.cells #[.int .i64 e.f0, .int .i64 e.f1, .int .i64 e.f2, .int .i64 e.f3, .string e.f4, .string e.f5, .int .i64 e.f6.f0, .string e.f6.f1, .slice A8 n8 c8, .string e.f6.f3, .int .i64 e.f6.f4, .slice A11 n11 c11] 30)).heap.size ((w.alloc (.cells #[.slice A n c, .bool q] 24)).alloc (.cells #[.int .i64 e.f0, .int .i64 e.f1, .int .i64 e.f2, .int .i64 e.f3, .string e.f4, .string e.f5, .int .i64 e.f6.f0, .string e.f6.f1, .slice A8 n8 c8, .string e.f6.f3, .int .i64 e.f6.f4, .slice A11 n11 c11] 30)) w1 → w1.heap[w.heap.size]? = some (.cells #[.slice A n c, .bool q] 24 (0, 0)) ∧ w1.heap[w.heap.size + 1]? = some (.cells #[.int .i64 e.f0, .int .i64 e.f1, .int .i64 e.f2, .int .i64 e.f3, .string e.f4, .string e.f5, .int .i64 e.f6.f0, .string e.f6.f1, .slice A8 n8 c8, .string e.f6.f3, .int .i64 e.f6.f4, .slice A11 n11 c11] 30 (0, 0)) ∧ Below w.heap.size w w1 ∧ w.heap.size + 1 < w1.heap.size) := Lib.hid (fun w1 hb => by
    have hs := hb.size
    simp at hs
    exact ⟨blk_below (blk_below (blk_new w _) (below_alloc (Below.refl _ _) _)) hb, blk_below (by simpa using blk_new (w.alloc (.cells #[.slice A n c, .bool q] 24)) (.cells #[.int .i64 e.f0, .int .i64 e.f1, .int .i64 e.f2, .int .i64 e.f3, .string e.f4, .string e.f5, .int .i64 e.f6.f0, .string e.f6.f1, .slice A8 n8 c8, .string e.f6.f3, .int .i64 e.f6.f4, .slice A11 n11 c11] 30)) hb, (below_alloc (below_alloc (Below.refl _ _) _) _).trans (hb.mono (by simp; omega)), by omega⟩)
  rw [← hn, ← hn8, ← hn11]
  clear hn hn8 hn11 hr hc he h
  generalize e.f0 = f0 at *
  generalize e.f1 = f1 at *
  generalize e.f2 = f2 at *
  generalize e.f3 = f3 at *
  generalize e.f4 = f4 at *
  generalize e.f5 = f5 at *
  generalize e.f6.f0 = g0 at *
  generalize e.f6.f1 = g1 at *
  generalize e.f6.f3 = g3 at *
  generalize e.f6.f4 = g4 at *
  go_enter Tryd.func13, Tryd.ntmps13
  go_wp2_with fail
  refine (HAp.out _ (below_alloc (below_alloc (Below.refl _ _) _) _)).mono ?_
  rintro u w1 ⟨A', n', c', rfl, hb1⟩
  obtain ⟨x0, x1, hb, hsz⟩ := HBx.out w1 hb1
  have hs0 : w.heap.size < w1.heap.size := by omega
  have HB := Lib.hid hb
  clear hb hb1 HBx HAp
  have b0 : w1.cell? ⟨w.heap.size, 0, none⟩ = some (.slice A n c) := (blk_cell x0 0).trans rfl
  have b1 : w1.cell? ⟨w.heap.size, 1, none⟩ = some (.bool q) := (blk_cell x0 1).trans rfl
  have d0 : w1.cell? ⟨w.heap.size + 1, 0, none⟩ = some (.int .i64 f0) := (blk_cell x1 0).trans rfl
  have d1 : w1.cell? ⟨w.heap.size + 1, 1, none⟩ = some (.int .i64 f1) := (blk_cell x1 1).trans rfl
  have d2 : w1.cell? ⟨w.heap.size + 1, 2, none⟩ = some (.int .i64 f2) := (blk_cell x1 2).trans rfl
  have d3 : w1.cell? ⟨w.heap.size + 1, 3, none⟩ = some (.int .i64 f3) := (blk_cell x1 3).trans rfl
  have d4 : w1.cell? ⟨w.heap.size + 1, 4, none⟩ = some (.string f4) := (blk_cell x1 4).trans rfl
  have d5 : w1.cell? ⟨w.heap.size + 1, 5, none⟩ = some (.string f5) := (blk_cell x1 5).trans rfl
  have d6 : w1.cell? ⟨w.heap.size + 1, 6, none⟩ = some (.int .i64 g0) := (blk_cell x1 6).trans rfl
  have d7 : w1.cell? ⟨w.heap.size + 1, 7, none⟩ = some (.string g1) := (blk_cell x1 7).trans rfl
  have d8 : w1.cell? ⟨w.heap.size + 1, 8, none⟩ = some (.slice A8 n8 c8) := (blk_cell x1 8).trans rfl
  have d9 : w1.cell? ⟨w.heap.size + 1, 9, none⟩ = some (.string g3) := (blk_cell x1 9).trans rfl
  have d10 : w1.cell? ⟨w.heap.size + 1, 10, none⟩ = some (.int .i64 g4) := (blk_cell x1 10).trans rfl
  have d11 : w1.cell? ⟨w.heap.size + 1, 11, none⟩ = some (.slice A11 n11 c11) := (blk_cell x1 11).trans rfl
  clear x0 x1
  by_cases h0 : er = 0
  · have HT1 := Lib.hid (HT.out h0)
    subst h0
    clear HT HO HL
    go_wp2_with fail
    refine (HT1.out _ (by (repeat (first | refine below_alloc ?_ _ | refine below_drew ?_ | refine Below.setCell ?_ (by simp; omega) _)); exact HB.out)).mono ?_
    rintro u w2 ⟨A2, c2, rfl, hR, hb2⟩
    have HR2 := Lib.hid hR
    have HB2 := Lib.hid hb2
    clear hR hb2
    go_wp2_with fail
    go_ret2
    exact ⟨_, rfl, HR2.out, HB2.out⟩
  · have e0 : (er == 0) = false := by simpa using h0
    have e1 : (er != 0) = true := by simpa using h0
    have HL1 := Lib.hid (HL.out (HO.out h0))
    clear h0 HT HO HL
    go_wp2_with fail
    go_ret2
    exact ⟨_, rfl, HL1.out _, by (repeat (first | refine below_alloc ?_ _ | refine below_drew ?_ | refine Below.setCell ?_ (by simp; omega) _)); exact HB.out⟩
end Go.Proofs.YthfalaabfgpjmaaDoor.ApA
