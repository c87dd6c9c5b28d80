/- The law SpanStays walked by hand: it returns true. -/
import Derived.Test.YtlgoaphdhgidoaaDoorMovC
import Derived.WalkSpells
import Derived.Lib.Hide
import Derived.Deep.QuietTactic
import Derived.Deep.RegionWith
import Derived.Deep.RegionHeld3
import Derived.Deep.DeepCutAuto
import Derived.IntWalk
namespace Go.Proofs.YtlgoaphdhgidoaaDoor.SpanSt
open Go.RowKit Go.Proofs.YtlgoaphdhgidoaaDoorW.PrintWords Go.Proofs.YtlgoaphdhgidoaaDoorW.PrintLast Go.Proofs.YtlgoaphdhgidoaaDoorW.PrintMore Go.Proofs.YtlgoaphdhgidoaaDoor.PSY Go.Proofs.YtlgoaphdhgidoaaDoor.DocP Go.Proofs.YtlgoaphdhgidoaaDoor.DocC
attribute [local go_sem] max2_int min2_int max_two min_two max_three min_three max_four min_four
set_option linter.unusedVariables false
set_option linter.unusedSimpArgs false
theorem ev_rounds {α : Type} {g : Nat → Option α} {r : α} (h : Ev g r) : ∃ k, g k = some r := by
  obtain ⟨K, hK⟩ := h
  exact ⟨K, hK K (Nat.le_refl _)⟩
-- [BEGUN
theorem spanbegun_ev : Ev (fun k => clerestorykeep1_spanBegun.f k) true := ev_of clerestorykeep1_spanBegun.mono (k := 60) (by kernel_rfl)
theorem begun_calls (w : World) : Calls Tryd.prog 8 #[] w fun e w' => e = .returned (.bool true) ∧ Below w.heap.size w w' :=
  let ⟨k, hk⟩ := ev_rounds spanbegun_ev
  clerestorykeep1_spanBegun.calls k true w hk
-- BEGUN]
/-- A document that is read. -/
def Rd (W : World) (A : Option Addr) (n c : Nat) (l : List S37) : Prop := n = l.length ∧ n ≤ c ∧ Kd.C k37 W A l.length l
/-- A document that lies apart from boxes g and g + 1. -/
def Dv (W : World) (g : Nat) (A : Option Addr) (n c : Nat) (l : List S37) : Prop := n = l.length ∧ n ≤ c ∧ ∃ ok : Nat → Prop, (∀ k, ok k → k ≠ g ∧ k ≠ g + 1) ∧ Kd.F k37 W ok A l.length l
theorem Dv.rd {W : World} {g : Nat} {A : Option Addr} {n c : Nat} {l : List S37} (h : Dv W g A n c l) : Rd W A n c l := by
  obtain ⟨h1, h2, ok, h3, h4⟩ := h
  exact ⟨h1, h2, Kd.F_now h4⟩
theorem Dv.below {W W' : World} {g : Nat} {A : Option Addr} {n c : Nat} {l : List S37} (h : Dv W g A n c l) (hb : Below W.heap.size W W') : Dv W' g A n c l := by
  obtain ⟨h1, h2, ok, h3, h4⟩ := h
  exact ⟨h1, h2, ok, h3, Kd.F_below h4 hb⟩
theorem Dv.set {W : World} {g : Nat} {A : Option Addr} {n c : Nat} {l : List S37} (h : Dv W g A n c l) (i : Nat) (u : Value) : Dv (W.setCell ⟨g, i, none⟩ u) g A n c l := by
  obtain ⟨h1, h2, ok, h3, h4⟩ := h
  exact ⟨h1, h2, ok, h3, Kd.F_far (p := ⟨g, i, none⟩) h4 (fun k hk => (h3 k hk).1) u⟩
theorem Dv.set2 {W : World} {g : Nat} {A : Option Addr} {n c : Nat} {l : List S37} (h : Dv W g A n c l) (i : Nat) (u : Value) : Dv (W.setCell ⟨g + 1, i, none⟩ u) g A n c l := by
  obtain ⟨h1, h2, ok, h3, h4⟩ := h
  exact ⟨h1, h2, ok, h3, Kd.F_far (p := ⟨g + 1, i, none⟩) h4 (fun k hk => (h3 k hk).2) u⟩
/-- A document that lies between two places. -/
def Dw (W : World) (lo hi : Nat) (A : Option Addr) (n c : Nat) (l : List S37) : Prop := n = l.length ∧ n ≤ c ∧ Kd.F k37 W (fun k => lo ≤ k ∧ k < hi) A l.length l
theorem Dw.below {W W' : World} {lo hi : Nat} {A : Option Addr} {n c : Nat} {l : List S37} (h : Dw W lo hi A n c l) (hb : Below W.heap.size W W') : Dw W' lo hi A n c l := ⟨h.1, h.2.1, Kd.F_below h.2.2 hb⟩
theorem Dw.set {W : World} {lo hi : Nat} {A : Option Addr} {n c g : Nat} {l : List S37} (h : Dw W lo hi A n c l) (hg : g < lo ∨ hi ≤ g) (i : Nat) (u : Value) : Dw (W.setCell ⟨g, i, none⟩ u) lo hi A n c l :=
  ⟨h.1, h.2.1, Kd.F_far (p := ⟨g, i, none⟩) h.2.2 (fun k hk => by have h1 := hk.1; have h2 := hk.2; show k ≠ g; omega) u⟩
theorem Dw.dv {W : World} {lo hi : Nat} {A : Option Addr} {n c g : Nat} {l : List S37} (h : Dw W lo hi A n c l) (hg : g + 1 < lo) : Dv W g A n c l := ⟨h.1, h.2.1, _, fun k hk => by have := hk.1; omega, h.2.2⟩
/-- What the law starts with. -/
theorem brief_calls (l : List S37) (q : Bool) (A : Option Addr) (c : Nat) (w W : World) (hr : Kd.C k37 w A l.length l) (hc : l.length ≤ c) (hb : Below w.heap.size w W) (hlt : w.heap.size + 1 < W.heap.size) :
    Calls Tryd.prog 4 #[.agg #[.slice A l.length c, .bool q]] W fun e w' => ∃ A' n' c', e = .returned (.agg #[.slice A' n' c', .bool q]) ∧ Dv w' w.heap.size A' n' c' (briefL l) ∧ Below W.heap.size W w' := by
  obtain ⟨k, hk⟩ := ev_rounds (brief_ev l q)
  refine (clerestorykeep1_brief.calls k (fun k_ => k_ < w.heap.size) A c l q (briefL l) q W (Kd.V_mk hc (Kd.F_below (Kd.C_F af_node_heap hr) hb)) hk).mono ?_
  rintro e w' ⟨v, rfl, hv, hb'⟩
  obtain ⟨A', c', rfl⟩ := Kd.N_slice hv
  have h := Kd.N_reads' hv
  exact ⟨A', _, c', rfl, ⟨rfl, h.2.1, _, fun k hk => by omega, Kd.N_F hv⟩, hb'⟩
/-- What lies at the loop's head. -/
structure StI (w W : World) (A : Option Addr) (n c : Nat) (q : Bool) (l : List S37) (a s b t : Int) : Prop where
  b3 : W.heap[w.heap.size]? = some (.cells #[.slice A n c, .bool q] 24 (0, 0))
  b5 : W.heap[w.heap.size + 1]? = some (.cells #[.int .i64 a, .int .i64 s, .int .i64 b, .int .i64 t] 29 (0, 0))
  dv : Dv W w.heap.size A n c l
  below : Below w.heap.size w W
  fit : Fit l
  brief : Brief l
theorem StI.on {w W W' : World} {A : Option Addr} {n c : Nat} {q : Bool} {l : List S37} {a s b t : Int} (h : StI w W A n c q l a s b t) (hb : Below W.heap.size W W') : StI w W' A n c q l a s b t :=
  ⟨blk_below h.b3 hb, blk_below h.b5 hb, h.dv.below hb, h.below.trans (hb.mono h.below.size), h.fit, h.brief⟩
/-- .. and behind a store into a box that is none of the two. -/
theorem StI.far {w W : World} {A : Option Addr} {n c : Nat} {q : Bool} {l : List S37} {a s b t : Int} {g lim : Nat} (h : StI w W A n c q l a s b t) (hlim : lim ≤ g) (h3 : g ≠ w.heap.size) (h5 : g ≠ w.heap.size + 1) (hw : w.heap.size ≤ g)
    (hd : n = l.length ∧ n ≤ c ∧ ∃ ok : Nat → Prop, (∀ k, ok k → (k ≠ w.heap.size ∧ k ≠ w.heap.size + 1) ∧ k < lim) ∧ Kd.F k37 W ok A l.length l) (i : Nat) (u : Value) :
    StI w (W.setCell ⟨g, i, none⟩ u) A n c q l a s b t :=
  ⟨blk_far h.b3 (Ne.symm h3) _, blk_far h.b5 (Ne.symm h5) _, by
    obtain ⟨h1, h2, ok, hk, hF⟩ := hd
    exact ⟨h1, h2, ok, fun k hk' => (hk k hk').1, Kd.F_far (p := ⟨g, i, none⟩) hF (fun k hk' => by have := (hk k hk').2; show k ≠ g; omega) u⟩, h.below.setCell hw _, h.fit, h.brief⟩
/-- What is known of an older document behind a round's box. -/
theorem Dv.over {W W' : World} {g g' : Nat} {A : Option Addr} {n c : Nat} {l : List S37} (h : Dv W g A n c l) (hb : Below W.heap.size W W') (hg : W.heap.size ≤ g') (us : List (Nat × Value)) : Dv (us.foldl (fun X p => X.setCell ⟨g', p.1, none⟩ p.2) W') g A n c l := by
  obtain ⟨h1, h2, ok, h3, h4⟩ := h
  refine ⟨h1, h2, fun k => ok k ∧ k < W.heap.size, fun k hk => h3 k hk.1, ?_⟩
  have h5 := Kd.F_below (Kd.F_bound h4) hb
  clear h4 hb
  induction us generalizing W' with
  | nil => exact h5
  | cons p us ih => exact ih (Kd.F_far (p := ⟨g', p.1, none⟩) h5 (fun k hk => by have := hk.2; show k ≠ g'; omega) p.2)
theorem apply_calls {l l2 : List S37} {q q2 : Bool} {made er : Int} {e : S39} (hev : Ev (fun k => dom_Apply.f k l q e.f0 e.f1 e.f2 e.f3 e.f4 e.f5 e.f6.f0 e.f6.f1 e.f6.f2 e.f6.f3 e.f6.f4 e.f6.f5) (l2, q2, made, er)) {A A8 A11 : Option Addr} {c c8 c11 : Nat} (W : World) (hr : Kd.C k37 W A l.length l) (hc : l.length ≤ c) (h8 : Kd.C k65 W A8 e.f6.f2.length e.f6.f2) (l8 : e.f6.f2.length ≤ c8) (h11 : Kd.C (Kd.int .i64) W A11 e.f6.f5.length e.f6.f5) (l11 : e.f6.f5.length ≤ c11) :
    Calls Tryd.prog 5 #[.agg #[.slice A l.length c, .bool q], .agg #[.int .i64 e.f0, .int .i64 e.f1, .int .i64 e.f2, .int .i64 e.f3, .string e.f4, .string e.f5, .int .i64 e.f6.f0, .string e.f6.f1, .slice A8 e.f6.f2.length c8, .string e.f6.f3, .int .i64 e.f6.f4, .slice A11 e.f6.f5.length c11]] W fun u w' => ∃ A' n' c', u = .returned (.tuple #[.agg #[.slice A' n' c', .bool q2], .int .i64 made, .int .i64 er]) ∧ Dw w' W.heap.size w'.heap.size A' n' c' l2 ∧ Below W.heap.size W w' := by
  obtain ⟨k, hk⟩ := ev_rounds hev
  refine (dom_Apply.calls k A c l q e.f0 e.f1 e.f2 e.f3 e.f4 e.f5 e.f6.f0 e.f6.f1 A8 c8 e.f6.f2 e.f6.f3 e.f6.f4 A11 c11 e.f6.f5 l2 q2 made er W hr hc h8 l8 h11 l11 hk).mono ?_
  rintro u w' ⟨v, rfl, hS, hb⟩
  obtain ⟨A', c', rfl⟩ := Kd.S_slice hS
  have h1 := Kd.S_V (base' := 0) (Kd.S_mono (ok' := fun k => W.heap.size ≤ k ∧ k < w'.heap.size) (Kd.S_bound hS) (fun k hk => ⟨hk.2.1, hk.2.2.1⟩))
  exact ⟨A', _, c', rfl, ⟨rfl, (Kd.V_at h1).2.1, (Kd.V_at h1).2.2⟩, hb⟩
/-- What lies ready behind Apply. -/
structure StX (w W : World) (g : Nat) (A A' : Option Addr) (n c n' c' : Nat) (q q2 : Bool) (l l2 : List S37) (a s b t : Int) : Prop where
  old : StI w W A n c q l a s b t
  box : W.heap[g]? = some (.cells #[.slice A' n' c', .bool q2] 24 (0, 0))
  dv : Dv W w.heap.size A' n' c' l2
  ne : g ≠ w.heap.size ∧ g ≠ w.heap.size + 1
theorem StX.on {w W W' : World} {g : Nat} {A A' : Option Addr} {n c n' c' : Nat} {q q2 : Bool} {l l2 : List S37} {a s b t : Int} (h : StX w W g A A' n c n' c' q q2 l l2 a s b t) (hb : Below W.heap.size W W') : StX w W' g A A' n c n' c' q q2 l l2 a s b t :=
  ⟨h.old.on hb, blk_below h.box hb, h.dv.below hb, h.ne⟩
/-- .. and behind After. -/
structure StY (w W : World) (g g2 : Nat) (A A' : Option Addr) (n c n' c' : Nat) (q q2 : Bool) (l l2 : List S37) (a s b t a' s' b' t' : Int) : Prop where
  x : StX w W g A A' n c n' c' q q2 l l2 a s b t
  box2 : W.heap[g2]? = some (.cells #[.int .i64 a', .int .i64 s', .int .i64 b', .int .i64 t'] 29 (0, 0))
  ne2 : g2 ≠ w.heap.size ∧ g2 ≠ w.heap.size + 1
theorem StY.on {w W W' : World} {g g2 : Nat} {A A' : Option Addr} {n c n' c' : Nat} {q q2 : Bool} {l l2 : List S37} {a s b t a' s' b' t' : Int} (h : StY w W g g2 A A' n c n' c' q q2 l l2 a s b t a' s' b' t') (hb : Below W.heap.size W W') : StY w W' g g2 A A' n c n' c' q q2 l l2 a s b t a' s' b' t' :=
  ⟨h.x.on hb, blk_below h.box2 hb, h.ne2⟩
theorem StI.next {w W : World} {A : Option Addr} {n c : Nat} {q : Bool} {l : List S37} {a s b t : Int} (h3 : W.heap[w.heap.size]? = some (.cells #[.slice A n c, .bool q] 24 (0, 0))) (h5 : W.heap[w.heap.size + 1]? = some (.cells #[.int .i64 a, .int .i64 s, .int .i64 b, .int .i64 t] 29 (0, 0))) (hv : Dv W w.heap.size A n c l) (hb : Below w.heap.size w W) (hf : Fit l) (hr : Brief l) (a' s' b' t' : Int) :
    StI w ((((W.setCell ⟨w.heap.size + 1, 0, none⟩ (.int .i64 a')).setCell ⟨w.heap.size + 1, 1, none⟩ (.int .i64 s')).setCell ⟨w.heap.size + 1, 2, none⟩ (.int .i64 b')).setCell ⟨w.heap.size + 1, 3, none⟩ (.int .i64 t')) A n c q l a' s' b' t' := by
  have hle : w.heap.size ≤ w.heap.size + 1 := Nat.le_succ _
  have hne : w.heap.size ≠ w.heap.size + 1 := by omega
  have k1 := blk_put (cs' := #[.int .i64 a', .int .i64 s, .int .i64 b, .int .i64 t]) h5 0 _ rfl
  have k2 := blk_put (cs' := #[.int .i64 a', .int .i64 s', .int .i64 b, .int .i64 t]) k1 1 _ rfl
  have k3 := blk_put (cs' := #[.int .i64 a', .int .i64 s', .int .i64 b', .int .i64 t]) k2 2 _ rfl
  have k4 := blk_put (cs' := #[.int .i64 a', .int .i64 s', .int .i64 b', .int .i64 t']) k3 3 _ rfl
  exact ⟨af_far h3 hne _ _ _ _, k4, (((hv.set2 0 _).set2 1 _).set2 2 _).set2 3 _, (((hb.setCell hle _).setCell hle _).setCell hle _).setCell hle _, hf, hr⟩
theorem st_begin (w : World) (D Sp : Array Value) : ((w.alloc (.cells D 24)).alloc (.cells Sp 29)).heap[w.heap.size]? = some (.cells D 24 (0, 0)) ∧ ((w.alloc (.cells D 24)).alloc (.cells Sp 29)).heap[w.heap.size + 1]? = some (.cells Sp 29 (0, 0)) ∧ Below w.heap.size w ((w.alloc (.cells D 24)).alloc (.cells Sp 29)) ∧ w.heap.size + 1 < ((w.alloc (.cells D 24)).alloc (.cells Sp 29)).heap.size :=
  ⟨blk_below (blk_new w _) (below_alloc (Below.refl _ _) _), by simpa using blk_new (w.alloc (.cells D 24)) (.cells Sp 29), below_alloc (below_alloc (Below.refl _ w) _) _, by simp⟩
theorem infoE : (Tryd.prog.info? 39).map (fun i => (i.zero, i.size, i.bytes)) = some (some (.agg #[(.int .i64 0), (.int .i64 0), (.int .i64 0), (.int .i64 0), (.string ⟨#[]⟩), (.string ⟨#[]⟩), (.int .i64 0), (.string ⟨#[]⟩), (.slice none 0 0), (.string ⟨#[]⟩), (.int .i64 0), (.slice none 0 0)]), 12, 160) := by kernel_rfl
-- [TABS
def T1 : Bool × List (List Nat × List Nat) := (true, [([], []), ([0], [0]), ([], []), ([], []), ([3], [3]), ([4], [4]), ([2, 5], [2, 5]), ([1, 1, 0, 1], [1]), ([6, 7, 0, 1, 2, 3, 4, 5, 6, 7], [2, 3, 6])])
def B1 : List Nat := [0, 1, 0, 0, 8, 24, 60, 3, 255]
theorem tab1 : rtab .any (opsOf Tryd.f3 1) = T1 ∧ waitsOk T1.2 B1 = true := ⟨by kernel_rfl, by kernel_rfl⟩
def T5 : Bool × List (List Nat × List Nat) := (true, [([], []), ([], []), ([], []), ([1, 2], [1, 2]), ([3], [3]), ([0, 4], [0, 4]), ([5], [5]), ([6], [6]), ([6], [6]), ([6], [6]), ([], []), ([10, 7, 5, 0, 1, 2, 3, 4, 5, 6, 7, 10], [7, 10]), ([8, 11, 0, 1, 2, 3, 4, 5, 6, 7, 8, 10, 11], [8]), ([9, 12, 0, 1, 2, 3, 4, 5, 6, 7, 8, 9, 10, 11, 12], [9])])
def B5 : List Nat := [0, 0, 0, 6, 14, 31, 63, 127, 127, 127, 0, 1279, 3583, 8191]
theorem tab5 : rtab .any (opsOf Tryd.f3 5) = T5 ∧ waitsOk T5.2 B5 = true := ⟨by kernel_rfl, by kernel_rfl⟩
def T6 : Bool × List (List Nat × List Nat) := (true, [([], []), ([], []), ([], []), ([1, 2], [1, 2]), ([3], [3]), ([], []), ([0, 4, 5], [0, 4, 5]), ([6], [6]), ([7], [7]), ([7], [7]), ([], []), ([10, 8, 6, 0, 1, 2, 3, 4, 5, 6, 7, 8, 10], [8, 10]), ([9, 11, 0, 1, 2, 3, 4, 5, 6, 7, 8, 9, 10, 11], [9])])
def B6 : List Nat := [0, 0, 0, 6, 14, 0, 63, 127, 255, 255, 0, 1535, 4095]
theorem tab6 : rtab .any (opsOf Tryd.f3 6) = T6 ∧ waitsOk T6.2 B6 = true := ⟨by kernel_rfl, by kernel_rfl⟩
def T14 : Bool × List (List Nat × List Nat) := (true, [([], []), ([], []), ([0, 0], [0]), ([1, 2, 0, 1, 2], [1])])
def B14 : List Nat := [0, 0, 1, 7]
theorem tab14 : rtab .any (opsOf Tryd.f3 14) = T14 ∧ waitsOk T14.2 B14 = true := ⟨by kernel_rfl, by kernel_rfl⟩
-- TABS]
set_option maxRecDepth 100000 in
set_option maxHeartbeats 8000000 in
theorem stays (A0 : Option Addr) (c0 : Nat) (l0 : List S37) (q0 : Bool) (A1 : Option Addr) (c1 : Nat) (es : List S39) (a0 s0 b0 t0 : Int) (w : World) (hfit : Fit l0) (hr0 : Kd.C k37 w A0 l0.length l0) (hc0 : l0.length ≤ c0) (hr1 : Kd.C k39 w A1 es.length es) (hc1 : es.length ≤ c1) :
    Calls Tryd.prog 3 #[.agg #[.slice A0 l0.length c0, .bool q0], .slice A1 es.length c1, .agg #[.int .i64 a0, .int .i64 s0, .int .i64 b0, .int .i64 t0]] w fun e w' => e = .returned (.bool true) ∧ Below w.heap.size w w' := by
  obtain ⟨n0, hn0⟩ : ∃ n0, n0 = l0.length := ⟨_, rfl⟩
  obtain ⟨m1, hm1⟩ : ∃ m1, m1 = es.length := ⟨_, rfl⟩
  have hm1s : (m1 : Int) ≤ 9223372036854775807 := by have := hr1.2.1; omega
  have HF : Hid (∀ W : World, Below w.heap.size w W → w.heap.size + 1 < W.heap.size → Calls Tryd.prog 4 #[.agg #[.slice A0 n0 c0, .bool q0]] W fun e w' => ∃ A' n' c', e = .returned (.agg #[.slice A' n' c', .bool q0]) ∧ Dv w' w.heap.size A' n' c' (briefL l0) ∧ Below W.heap.size W w') :=
    Lib.hid (by rw [hn0]; exact fun W hb hlt => brief_calls l0 q0 A0 c0 w W hr0 hc0 hb hlt)
  have HFit : Hid (Fit (briefL l0) ∧ Brief (briefL l0)) := Lib.hid ⟨fun i => Nat.le_trans (rd_brief l0 i).1 (hfit i), fun i => Nat.le_trans (rd_brief l0 i).2 (by decide)⟩
  have HR1 := Lib.hid hr1
  have HBg := Lib.hid begun_calls
  have HM := Lib.hid hm1
  have hmc : (m1 : Int) ≤ (c1 : Int) := by omega
  rw [← hn0, ← hm1]
  clear hfit hr0 hc0 hr1 hc1 hn0 hm1
  have HW0 := Lib.hid (st_begin w #[.slice A0 n0 c0, .bool q0] #[.int .i64 a0, .int .i64 s0, .int .i64 b0, .int .i64 t0])
  go_enter Tryd.func3, Tryd.ntmps3
  go_upto_region 1 with fail
  obtain ⟨jn, hjn⟩ : ∃ jn : Nat, (jn : Int) = (if 20 < (m1 : Int) then 20 else (m1 : Int)) := ⟨(if 20 < (m1 : Int) then 20 else (m1 : Int)).toNat, by split <;> omega⟩
  have hjm : jn ≤ m1 := by split at hjn <;> omega
  have hjc : jn ≤ c1 := by omega
  have HJn := Lib.hid hjn
  clear hjn
  generalize ((w.alloc (.cells #[.slice A0 n0 c0, .bool q0] 24)).alloc (.cells #[.int .i64 a0, .int .i64 s0, .int .i64 b0, .int .i64 t0] 29)) = w1 at HW0 ⊢
  go_cut [1] (fun s1 wx => s1 = .slice A1 jn c1 ∧ ∃ A' n' c', Hid (StI w wx A' n' c' q0 (briefL l0) a0 s0 b0 t0))
  case first =>
    -- [R1
    obtain ⟨hbox, hbx5, hb0, hgb⟩ := HW0.out
    refine start_ (n := 9) (S := fun w' => w'.cell? ⟨w.heap.size, 0, none⟩ = some (.slice A0 n0 c0) ∧ w'.cell? ⟨w.heap.size, 1, none⟩ = some (.bool q0)) (ds := [7]) #[false, false, false, false, false, false, false, false, false] (by kernel_rfl) rfl rfl ⟨(blk_cell hbox 0).trans rfl, (blk_cell hbox 1).trans rfl⟩ (fun hHeld => ?_)
    refine with_tabW tab1.1 tab1.2 (fun HT_ HW_ => ?_)
    have hbox1 := blk_drew hbox
    have hboxs := blk_drew hbx5
    have hbw : Below w.heap.size w w1.drew := below_drew hb0
    have hgs : w.heap.size + 1 < w1.drew.heap.size := hgb
    generalize w1.drew = w2 at hHeld hbox1 hboxs hbw hgs ⊢
    clear hbox hb0 hgb hbx5
    have hji : (if 20 < (m1 : Int) then 20 else (m1 : Int)) = (jn : Int) := HJn.out.symm
    obtain ⟨i0, hi0, _, _, _⟩ := info_parts infoE
    have hcut := cut_to (P := Tryd.prog) 25 39 .i64 Tryd.underlying25 hi0 A1 m1 c1 (jn : Int) (Int.natCast_nonneg jn) (Int.ofNat_le.2 hjm) (Int.ofNat_le.1 hmc)
    rw [Int.toNat_natCast] at hcut
    refine pure_ (i := 2) (N := some 15) (v := ?_) (a' := ?_) #[false, false, true, false, false, false, false, false, false] rfl rfl (any_of HT_.out (by kernel_rfl)) (fun _ _ _ h => h) (Or.inl ⟨by rfl, ?_⟩) ?_ ?_
    rotate_left
    · intro w'
      go_simp
      with_reducible rfl
    rotate_left
    · simp only [Act.put, List.setIfInBounds_toArray, List.set_cons_zero, List.set_cons_succ, i64_w, i32_w]
      rfl
    refine pure_ (i := 3) (N := some 16) (v := ?_) (a' := ?_) #[false, false, true, true, false, false, false, false, false] rfl rfl (any_of HT_.out (by kernel_rfl)) (fun _ _ _ h => h) (Or.inl ⟨by rfl, ?_⟩) ?_ ?_
    rotate_left
    · intro w'
      go_simp
      with_reducible rfl
    rotate_left
    · simp only [Act.put, List.setIfInBounds_toArray, List.set_cons_zero, List.set_cons_succ, i64_w, i32_w]
      rfl
    refine pure_ (i := 4) (N := some 17) (v := ?_) (a' := ?_) #[false, false, true, true, true, false, false, false, false] rfl rfl (any_of HT_.out (by kernel_rfl)) (fun _ _ _ h => h) (Or.inl ⟨by rfl, ?_⟩) ?_ ?_
    rotate_left
    · intro w'
      go_simp
      with_reducible rfl
    rotate_left
    · simp only [Act.put, List.setIfInBounds_toArray, List.set_cons_zero, List.set_cons_succ, i64_w, i32_w]
      rfl
    refine pure_ (i := 5) (N := some 18) (v := ?_) (a' := ?_) #[false, false, true, true, true, true, false, false, false] rfl rfl (any_of HT_.out (by kernel_rfl)) (fun _ _ _ h => h) (Or.inl ⟨by rfl, ?_⟩) ?_ ?_
    rotate_left
    · intro w'
      go_simp
      with_reducible rfl
    rotate_left
    · simp only [Act.put, List.setIfInBounds_toArray, List.set_cons_zero, List.set_cons_succ, i64_w, i32_w]
      rfl
    refine pure_ (i := 6) (N := some 19) (v := ?_) (a' := ?_) #[false, false, true, true, true, true, true, false, false] rfl rfl (any_of HT_.out (by kernel_rfl)) (fun _ _ _ h => h) (Or.inl ⟨by rfl, ?_⟩) ?_ ?_
    rotate_left
    · intro w'
      go_simp
      with_reducible rfl
    rotate_left
    · simp only [Act.put, List.setIfInBounds_toArray, List.set_cons_zero, List.set_cons_succ, i64_w, i32_w]
      rfl
    refine take_ (i := 0) (N := some 13) (v := ?_) (a' := ?_) #[true, false, true, true, true, true, true, false, false] rfl rfl (take_ofW HT_.out HW_.out (by kernel_rfl)) (fun _ _ _ h => h) (Or.inl ⟨by rfl, ?_⟩) hHeld ?_ ?_
    rotate_left
    · rintro w' ⟨s0, s1⟩
      go_simp
      with_reducible rfl
    rotate_left
    · simp only [Act.put, List.setIfInBounds_toArray, List.set_cons_zero, List.set_cons_succ, i64_w, i32_w]
      rfl
    refine one_ (i := 1) (N := some 14) #[true, true, true, true, true, true, true, false, false] rfl rfl (one_of HT_.out (by kernel_rfl)) (by decide) (fun K hK => ?_)
    refine goes_ Tryd.func4 (by kernel_rfl) rfl #[.agg #[.slice A0 n0 c0, .bool q0]] (by rfl) rfl rfl (by (try simp only [List.map_toArray, List.map_cons, List.map_nil]); first | done | rfl) ?_
    refine (HF.out w2 hbw hgs).mono ?_
    rintro u w3 ⟨A', n', c', rfl, hD, hb3⟩
    refine ⟨_, rfl, ?_⟩
    have hbox3 := blk_below hbox1 hb3
    have hbox5 := blk_below hboxs hb3
    refine hK.out _ _ ⟨(blk_cell hbox3 0).trans rfl, (blk_cell hbox3 1).trans rfl⟩ (fun hHeld => ?_)
    clear hK K
    refine norm_ (a' := ?_) ?_ ?_
    rotate_left
    · show Act.put _ (some 14) _ = _
      simp only [Act.put, List.setIfInBounds_toArray, List.set_cons_zero, List.set_cons_succ, i64_w, i32_w]
      rfl
    refine last_ (i := 7) (N := none) #[true, true, true, true, true, true, true, true, false] rfl rfl (one_of HT_.out (by kernel_rfl)) (by decide) (fun K hK => ?_)
    have hs0 : w3.cell? ⟨w.heap.size, 0, none⟩ = some (.slice A0 n0 c0) := (blk_cell hbox3 0).trans rfl
    have hf0 := blk_frozen hbox3 0
    have hs1 : w3.cell? ⟨w.heap.size, 1, none⟩ = some (.bool q0) := (blk_cell hbox3 1).trans rfl
    have hf1 := blk_frozen hbox3 1
    refine skip_ (w1 := ?_) (by rfl) rfl ?_ ?_
    rotate_left
    · go_simp
      rfl
    refine hK.out _ _ ?_
    clear hK K
    refine pure_ (i := 8) (N := some 1) (v := ?_) (a' := ?_) #[true, true, true, true, true, true, true, true, true] rfl rfl (any_of HT_.out (by kernel_rfl)) (fun _ _ _ h => h) (Or.inl ⟨by rfl, ?_⟩) ?_ ?_
    rotate_left
    · intro w'
      go_simp
      with_reducible rfl
    rotate_left
    · simp only [Act.put, List.setIfInBounds_toArray, List.set_cons_zero, List.set_cons_succ, i64_w, i32_w]
      rfl
    refine done_ (done_of HT_.out (by kernel_rfl)) ?_
    go_wp2_with fail
    go_meet
    exact ⟨rfl, A', n', c', Lib.hid ⟨blk_put (blk_put (cs' := #[.slice A' n' c', .bool q0]) hbox3 0 _ rfl) 1 _ rfl, blk_far (blk_far hbox5 (show w.heap.size + 1 ≠ w.heap.size by omega) _) (show w.heap.size + 1 ≠ w.heap.size by omega) _, (hD.set 0 _).set 1 _, ((hbw.trans (hb3.mono hbw.size)).setCell (Nat.le_refl _) _).setCell (Nat.le_refl _) _, HFit.out.1, HFit.out.2⟩⟩
    -- R1]
  case rest =>
    obtain ⟨rfl, A', n', c', HI⟩ := hcut
    rename World => wb
    clear HF HW0 HFit
    go_wp2_with fail
    go_loopw [7] (fun i wr => ∃ (k : Nat) (A : Option Addr) (n c : Nat) (q : Bool) (l : List S37) (a s b t : Int), k ≤ jn ∧ i = .int .i64 k ∧ Hid (StI w wr A n c q l a s b t)) (fun i _ => jn - (intOf i).toNat)
    case atStart => exact ⟨0, A', n', c', q0, briefL l0, a0, s0, b0, t0, Nat.zero_le _, rfl, HI⟩
    case round =>
      obtain ⟨k, A, n, c, q, l, a, s, b, t, hk, rfl, HS⟩ := hrel
      clear HI
      by_cases hlt : k < jn
      · obtain ⟨ad, A8, c8, A11, c11, eA, d0, d1, d2, d3, d4, d5, d6, d7, d8, d9, d10, d11, l8, h8, l11, h11⟩ := at_T39 HR1.out (k : Int) (by omega) (by have := HM.out; omega)
        rw [Int.toNat_natCast] at d0 d1 d2 d3 d4 d5 d6 d7 d8 d9 d10 d11
        generalize rd_T39 es (k : Int) = e at d0 d1 d2 d3 d4 d5 d6 d7 d8 d9 d10 d11 l8 h8 l11 h11
        obtain ⟨l2, q2, made, er, a', s', b', t', fe, hap, haf, hbad, hgood⟩ := round_plain q HS.out.fit HS.out.brief e a s b t
        obtain ⟨n8, hn8⟩ : ∃ n8, n8 = e.f6.f2.length := ⟨_, rfl⟩
        obtain ⟨n11, hn11⟩ : ∃ n11, n11 = e.f6.f5.length := ⟨_, rfl⟩
        have HAp : Hid (∀ W : World, Below wr.heap.size wr W → Calls Tryd.prog 5 #[.agg #[.slice A n c, .bool q], .agg #[.int .i64 e.f0, .int .i64 e.f1, .int .i64 e.f2, .int .i64 e.f3, .string e.f4, .string e.f5, .int .i64 e.f6.f0, .string e.f6.f1, .slice A8 n8 c8, .string e.f6.f3, .int .i64 e.f6.f4, .slice A11 n11 c11]] W fun u w' => ∃ A' n' c', u = .returned (.tuple #[.agg #[.slice A' n' c', .bool q2], .int .i64 made, .int .i64 er]) ∧ Dw w' W.heap.size w'.heap.size A' n' c' l2 ∧ Below W.heap.size W w') :=
          Lib.hid (by
            rw [hn8, hn11]
            intro W hb
            have hS := HS.out.on hb
            rw [hS.dv.1]
            exact apply_calls hap W hS.dv.rd.2.2 (by rw [← hS.dv.1]; exact hS.dv.rd.2.1) (Kd.C_below h8 hS.below) l8 (Kd.C_below h11 hS.below) l11)
        obtain ⟨ka, hka⟩ := ev_rounds haf
        have HAf : Hid (∀ W : World, StI w W A n c q l a s b t → Calls Tryd.prog 6 #[.agg #[.slice A n c, .bool q], .agg #[.int .i64 e.f0, .int .i64 e.f1, .int .i64 e.f2, .int .i64 e.f3, .string e.f4, .string e.f5, .int .i64 e.f6.f0, .string e.f6.f1, .slice A8 n8 c8, .string e.f6.f3, .int .i64 e.f6.f4, .slice A11 n11 c11], .agg #[.int .i64 a, .int .i64 s, .int .i64 b, .int .i64 t]] W fun u w' => u = .returned (.tuple #[.agg #[.int .i64 a', .int .i64 s', .int .i64 b', .int .i64 t'], .int .i64 fe]) ∧ Below W.heap.size W w') :=
          Lib.hid (by
            rw [hn8, hn11]
            intro W hS
            rw [hS.dv.1]
            exact span_After.calls ka A c l q e.f0 e.f1 e.f2 e.f3 e.f4 e.f5 e.f6.f0 e.f6.f1 A8 c8 e.f6.f2 e.f6.f3 e.f6.f4 A11 c11 e.f6.f5 a s b t a' s' b' t' fe W hS.dv.rd.2.2 (by rw [← hS.dv.1]; exact hS.dv.rd.2.1) (Kd.C_below h8 hS.below) l8 (Kd.C_below h11 hS.below) l11 hka)
        rw [← hn8] at d8
        rw [← hn11] at d11
        have HD : Hid (∀ W : World, Below w.heap.size w W → W.cell? (ad.add (k * 12)) = some (.int .i64 e.f0) ∧ W.cell? ⟨(ad.add (k * 12)).block, (ad.add (k * 12)).off + 1, none⟩ = some (.int .i64 e.f1) ∧ W.cell? ⟨(ad.add (k * 12)).block, (ad.add (k * 12)).off + 2, none⟩ = some (.int .i64 e.f2) ∧ W.cell? ⟨(ad.add (k * 12)).block, (ad.add (k * 12)).off + 3, none⟩ = some (.int .i64 e.f3) ∧ W.cell? ⟨(ad.add (k * 12)).block, (ad.add (k * 12)).off + 4, none⟩ = some (.string e.f4) ∧ W.cell? ⟨(ad.add (k * 12)).block, (ad.add (k * 12)).off + 5, none⟩ = some (.string e.f5) ∧ W.cell? ⟨(ad.add (k * 12)).block, (ad.add (k * 12)).off + 6, none⟩ = some (.int .i64 e.f6.f0) ∧ W.cell? ⟨(ad.add (k * 12)).block, (ad.add (k * 12)).off + 7, none⟩ = some (.string e.f6.f1) ∧ W.cell? ⟨(ad.add (k * 12)).block, (ad.add (k * 12)).off + 8, none⟩ = some (.slice A8 n8 c8) ∧ W.cell? ⟨(ad.add (k * 12)).block, (ad.add (k * 12)).off + 9, none⟩ = some (.string e.f6.f3) ∧ W.cell? ⟨(ad.add (k * 12)).block, (ad.add (k * 12)).off + 10, none⟩ = some (.int .i64 e.f6.f4) ∧ W.cell? ⟨(ad.add (k * 12)).block, (ad.add (k * 12)).off + 11, none⟩ = some (.slice A11 n11 c11)) :=
          Lib.hid (fun W hb => ⟨pw_cell_below hb d0, pw_cell_below hb d1, pw_cell_below hb d2, pw_cell_below hb d3, pw_cell_below hb d4, pw_cell_below hb d5, pw_cell_below hb d6, pw_cell_below hb d7, pw_cell_below hb d8, pw_cell_below hb d9, pw_cell_below hb d10, pw_cell_below hb d11⟩)
        have HBad := Lib.hid hbad
        have HGood := Lib.hid hgood
        have hwlt : w.heap.size + 1 < wr.heap.size := blk_lt HS.out.b5
        subst eA
        clear d0 d1 d2 d3 d4 d5 d6 d7 d8 d9 d10 d11 l8 h8 l11 h11 hap haf hka hn8 hn11 hbad hgood
        have HE : Hid (∀ W : World, Below wr.heap.size wr W → W.cell? ⟨w.heap.size, 0, none⟩ = some (.slice A n c) ∧ W.cell? ⟨w.heap.size, 1, none⟩ = some (.bool q) ∧ W.cell? (ad.add (k * 12)) = some (.int .i64 e.f0) ∧ W.cell? ⟨(ad.add (k * 12)).block, (ad.add (k * 12)).off + 1, none⟩ = some (.int .i64 e.f1) ∧ W.cell? ⟨(ad.add (k * 12)).block, (ad.add (k * 12)).off + 2, none⟩ = some (.int .i64 e.f2) ∧ W.cell? ⟨(ad.add (k * 12)).block, (ad.add (k * 12)).off + 3, none⟩ = some (.int .i64 e.f3) ∧ W.cell? ⟨(ad.add (k * 12)).block, (ad.add (k * 12)).off + 4, none⟩ = some (.string e.f4) ∧ W.cell? ⟨(ad.add (k * 12)).block, (ad.add (k * 12)).off + 5, none⟩ = some (.string e.f5) ∧ W.cell? ⟨(ad.add (k * 12)).block, (ad.add (k * 12)).off + 6, none⟩ = some (.int .i64 e.f6.f0) ∧ W.cell? ⟨(ad.add (k * 12)).block, (ad.add (k * 12)).off + 7, none⟩ = some (.string e.f6.f1) ∧ W.cell? ⟨(ad.add (k * 12)).block, (ad.add (k * 12)).off + 8, none⟩ = some (.slice A8 n8 c8) ∧ W.cell? ⟨(ad.add (k * 12)).block, (ad.add (k * 12)).off + 9, none⟩ = some (.string e.f6.f3) ∧ W.cell? ⟨(ad.add (k * 12)).block, (ad.add (k * 12)).off + 10, none⟩ = some (.int .i64 e.f6.f4) ∧ W.cell? ⟨(ad.add (k * 12)).block, (ad.add (k * 12)).off + 11, none⟩ = some (.slice A11 n11 c11)) :=
          Lib.hid (fun W hb => ⟨(blk_cell (HS.out.on hb).b3 0).trans rfl, (blk_cell (HS.out.on hb).b3 1).trans rfl, HD.out W (HS.out.on hb).below⟩)
        go_upto_region 5 with fail
        go_cut [8, 9, 10] (fun s8 s9 s10 wx => s9 = .int .i64 made ∧ s10 = .int .i64 er ∧ ∃ g A' n' c', s8 = .pointer (some ⟨g, 0, none⟩) ∧ Hid (StX w wx g A A' n c n' c' q q2 l l2 a s b t))
        case first =>
          -- [R5
          refine start_ (n := 14) (S := fun w' => w'.cell? ⟨w.heap.size, 0, none⟩ = some (.slice A n c) ∧ w'.cell? ⟨w.heap.size, 1, none⟩ = some (.bool q) ∧ w'.cell? (ad.add (k * 12)) = some (.int .i64 e.f0) ∧ w'.cell? ⟨(ad.add (k * 12)).block, (ad.add (k * 12)).off + 1, none⟩ = some (.int .i64 e.f1) ∧ w'.cell? ⟨(ad.add (k * 12)).block, (ad.add (k * 12)).off + 2, none⟩ = some (.int .i64 e.f2) ∧ w'.cell? ⟨(ad.add (k * 12)).block, (ad.add (k * 12)).off + 3, none⟩ = some (.int .i64 e.f3) ∧ w'.cell? ⟨(ad.add (k * 12)).block, (ad.add (k * 12)).off + 4, none⟩ = some (.string e.f4) ∧ w'.cell? ⟨(ad.add (k * 12)).block, (ad.add (k * 12)).off + 5, none⟩ = some (.string e.f5) ∧ w'.cell? ⟨(ad.add (k * 12)).block, (ad.add (k * 12)).off + 6, none⟩ = some (.int .i64 e.f6.f0) ∧ w'.cell? ⟨(ad.add (k * 12)).block, (ad.add (k * 12)).off + 7, none⟩ = some (.string e.f6.f1) ∧ w'.cell? ⟨(ad.add (k * 12)).block, (ad.add (k * 12)).off + 8, none⟩ = some (.slice A8 n8 c8) ∧ w'.cell? ⟨(ad.add (k * 12)).block, (ad.add (k * 12)).off + 9, none⟩ = some (.string e.f6.f3) ∧ w'.cell? ⟨(ad.add (k * 12)).block, (ad.add (k * 12)).off + 10, none⟩ = some (.int .i64 e.f6.f4) ∧ w'.cell? ⟨(ad.add (k * 12)).block, (ad.add (k * 12)).off + 11, none⟩ = some (.slice A11 n11 c11)) (ds := [11]) #[false, false, false, false, false, false, false, false, false, false, false, false, false, false] (by kernel_rfl) rfl rfl (HE.out _ (below_drew (Below.refl _ _))) (fun hHeld => ?_)
          refine with_tabW tab5.1 tab5.2 (fun HT_ HW_ => ?_)
          have hbr := below_drew (Below.refl wr.heap.size wr)
          generalize wr.drew = w_0 at hHeld hbr ⊢
          refine pure_ (i := 1) (N := some 28) (v := ?_) (a' := ?_) #[false, true, false, false, false, false, false, false, false, false, false, false, false, false] rfl rfl (any_of HT_.out (by kernel_rfl)) (fun _ _ _ h => h) (Or.inl ⟨by rfl, ?_⟩) ?_ ?_
          rotate_left
          · intro w'
            go_simp
            with_reducible rfl
          rotate_left
          · simp only [Act.put, List.setIfInBounds_toArray, List.set_cons_zero, List.set_cons_succ, i64_w, i32_w]
            rfl
          refine pure_ (i := 2) (N := some 29) (v := ?_) (a' := ?_) #[false, true, true, false, false, false, false, false, false, false, false, false, false, false] rfl rfl (any_of HT_.out (by kernel_rfl)) (fun _ _ _ h => h) (Or.inl ⟨by rfl, ?_⟩) ?_ ?_
          rotate_left
          · intro w'
            go_simp
            with_reducible rfl
          rotate_left
          · simp only [Act.put, List.setIfInBounds_toArray, List.set_cons_zero, List.set_cons_succ, i64_w, i32_w]
            rfl
          refine pure_ (i := 3) (N := some 30) (v := ?_) (a' := ?_) #[false, true, true, true, false, false, false, false, false, false, false, false, false, false] rfl rfl (any_of HT_.out (by kernel_rfl)) (fun _ _ _ h => h) (Or.inl ⟨by rfl, ?_⟩) ?_ ?_
          rotate_left
          · intro w'
            go_simp
            with_reducible rfl
          rotate_left
          · simp only [Act.put, List.setIfInBounds_toArray, List.set_cons_zero, List.set_cons_succ, i64_w, i32_w]
            rfl
          refine take_ (i := 0) (N := some 27) (v := ?_) (a' := ?_) #[true, true, true, true, false, false, false, false, false, false, false, false, false, false] rfl rfl (take_ofW HT_.out HW_.out (by kernel_rfl)) (fun _ _ _ h => h) (Or.inl ⟨by rfl, ?_⟩) hHeld ?_ ?_
          rotate_left
          · rintro w' ⟨s0, s1, s2, s3, s4, s5, s6, s7, s8, s9, s10, s11, s12, s13⟩
            go_simp
            with_reducible rfl
          rotate_left
          · simp only [Act.put, List.setIfInBounds_toArray, List.set_cons_zero, List.set_cons_succ, i64_w, i32_w]
            rfl
          refine take_ (i := 4) (N := some 31) (v := ?_) (a' := ?_) #[true, true, true, true, true, false, false, false, false, false, false, false, false, false] rfl rfl (take_ofW HT_.out HW_.out (by kernel_rfl)) (fun _ _ _ h => h) (Or.inl ⟨by rfl, ?_⟩) hHeld ?_ ?_
          rotate_left
          · rintro w' ⟨s0, s1, s2, s3, s4, s5, s6, s7, s8, s9, s10, s11, s12, s13⟩
            go_simp
            with_reducible rfl
          rotate_left
          · simp only [Act.put, List.setIfInBounds_toArray, List.set_cons_zero, List.set_cons_succ, i64_w, i32_w]
            rfl
          refine two_ (i := 5) (j := 10) (Ni := some 32) (Nj := some 8) #[true, true, true, true, true, true, false, false, false, false, false, false, false, false] #[true, true, true, true, true, false, false, false, false, false, true, false, false, false] rfl rfl rfl rfl (two_of HT_.out (by kernel_rfl)) (by decide) (by decide) (fun K hK => ?_) (fun K hK => ?_)
          · refine goes_ Tryd.func5 (by kernel_rfl) rfl #[.agg #[.slice A n c, .bool q], .agg #[.int .i64 e.f0, .int .i64 e.f1, .int .i64 e.f2, .int .i64 e.f3, .string e.f4, .string e.f5, .int .i64 e.f6.f0, .string e.f6.f1, .slice A8 n8 c8, .string e.f6.f3, .int .i64 e.f6.f4, .slice A11 n11 c11]] (by rfl) rfl rfl (by (try simp only [List.map_toArray, List.map_cons, List.map_nil]); first | done | rfl) ?_
            refine (HAp.out w_0 hbr).mono ?_
            rintro u_ w_1 ⟨Ar, nr, cr, rfl, hD, hbb⟩
            refine ⟨_, rfl, ?_⟩
            have hlo : w.heap.size + 1 < w_0.heap.size := Nat.lt_of_lt_of_le hwlt hbr.size
            have hcw := hbr.size
            replace hbr := hbr.trans (hbb.mono hbr.size)
            clear hbb
            refine hK.out _ _ (HE.out _ hbr) (fun hHeld => ?_)
            clear hK K
            refine norm_ (a' := ?_) ?_ ?_
            rotate_left
            · show Act.put _ (some 32) _ = _
              simp only [Act.put, List.setIfInBounds_toArray, List.set_cons_zero, List.set_cons_succ, i64_w, i32_w]
              rfl
            refine pure_ (i := 6) (N := some 26) (v := ?_) (a' := ?_) #[true, true, true, true, true, true, true, false, false, false, false, false, false, false] rfl rfl (any_of HT_.out (by kernel_rfl)) (fun _ _ _ h => h) (Or.inl ⟨by rfl, ?_⟩) ?_ ?_
            rotate_left
            · intro w'
              go_simp
              with_reducible rfl
            rotate_left
            · simp only [Act.put, List.setIfInBounds_toArray, List.set_cons_zero, List.set_cons_succ, i64_w, i32_w]
              rfl
            refine pure_ (i := 7) (N := some 33) (v := ?_) (a' := ?_) #[true, true, true, true, true, true, true, true, false, false, false, false, false, false] rfl rfl (any_of HT_.out (by kernel_rfl)) (fun _ _ _ h => h) (Or.inl ⟨by rfl, ?_⟩) ?_ ?_
            rotate_left
            · intro w'
              go_simp
              with_reducible rfl
            rotate_left
            · simp only [Act.put, List.setIfInBounds_toArray, List.set_cons_zero, List.set_cons_succ, i64_w, i32_w]
              rfl
            refine pure_ (i := 8) (N := some 34) (v := ?_) (a' := ?_) #[true, true, true, true, true, true, true, true, true, false, false, false, false, false] rfl rfl (any_of HT_.out (by kernel_rfl)) (fun _ _ _ h => h) (Or.inl ⟨by rfl, ?_⟩) ?_ ?_
            rotate_left
            · intro w'
              go_simp
              with_reducible rfl
            rotate_left
            · simp only [Act.put, List.setIfInBounds_toArray, List.set_cons_zero, List.set_cons_succ, i64_w, i32_w]
              rfl
            refine pure_ (i := 9) (N := some 35) (v := ?_) (a' := ?_) #[true, true, true, true, true, true, true, true, true, true, false, false, false, false] rfl rfl (any_of HT_.out (by kernel_rfl)) (fun _ _ _ h => h) (Or.inl ⟨by rfl, ?_⟩) ?_ ?_
            rotate_left
            · intro w'
              go_simp
              with_reducible rfl
            rotate_left
            · simp only [Act.put, List.setIfInBounds_toArray, List.set_cons_zero, List.set_cons_succ, i64_w, i32_w]
              rfl
            refine one_ (i := 10) (N := some 8) #[true, true, true, true, true, true, true, true, true, true, true, false, false, false] rfl rfl (one_of HT_.out (by kernel_rfl)) (by decide) (fun K hK => ?_)
            refine box_step ?hg (N := 8) ?hd (cs := #[.slice none 0 0, .bool false]) (t := 24) ?hr ?_; (case hd => rfl); (case hg => rfl); (case hr => first | (go_simp; done) | (go_simp; rfl))
            intro g8 hg8 w_2 hbox8 hbb
            have hgr8 : g8 < w_0.heap.size ∨ w_1.heap.size ≤ g8 := .inr (by rw [hg8]; exact Nat.le_refl _)
            have hge8 : wr.heap.size ≤ g8 := by rw [hg8]; exact hbr.size
            replace hD := hD.below hbb
            replace hbr := hbr.trans (hbb.mono hbr.size)
            clear hg8 hbb
            refine hK.out _ _ (HE.out _ hbr) (fun hHeld => ?_)
            clear hK K
            refine norm_ (a' := ?_) ?_ ?_
            rotate_left
            · show Act.put _ (some 8) _ = _
              simp only [Act.put, List.setIfInBounds_toArray, List.set_cons_zero, List.set_cons_succ, i64_w, i32_w]
              rfl
            refine last_ (i := 11) (N := none) #[true, true, true, true, true, true, true, true, true, true, true, true, false, false] rfl rfl (one_of HT_.out (by kernel_rfl)) (by decide) (fun K hK => ?_)
            have hs0 := (blk_cell hbox8 0).trans (show (#[.slice none 0 0, .bool false] : Array Value)[0]? = some (.slice none 0 0) from rfl)
            have hf0 := blk_frozen hbox8 0
            have hs1 := (blk_cell hbox8 1).trans (show (#[.slice none 0 0, .bool false] : Array Value)[1]? = some (.bool false) from rfl)
            have hf1 := blk_frozen hbox8 1
            refine skip_ (w1 := ?_) (by rfl) rfl ?_ ?_
            rotate_left
            · go_simp
              rfl
            refine hK.out _ _ ?_
            clear hK K
            refine pure_ (i := 12) (N := some 9) (v := ?_) (a' := ?_) #[true, true, true, true, true, true, true, true, true, true, true, true, true, false] rfl rfl (any_of HT_.out (by kernel_rfl)) (fun _ _ _ h => h) (Or.inl ⟨by rfl, ?_⟩) ?_ ?_
            rotate_left
            · intro w'
              go_simp
              with_reducible rfl
            rotate_left
            · simp only [Act.put, List.setIfInBounds_toArray, List.set_cons_zero, List.set_cons_succ, i64_w, i32_w]
              rfl
            refine pure_ (i := 13) (N := some 10) (v := ?_) (a' := ?_) #[true, true, true, true, true, true, true, true, true, true, true, true, true, true] rfl rfl (any_of HT_.out (by kernel_rfl)) (fun _ _ _ h => h) (Or.inl ⟨by rfl, ?_⟩) ?_ ?_
            rotate_left
            · intro w'
              go_simp
              with_reducible rfl
            rotate_left
            · simp only [Act.put, List.setIfInBounds_toArray, List.set_cons_zero, List.set_cons_succ, i64_w, i32_w]
              rfl
            refine done_ (done_of HT_.out (by kernel_rfl)) ?_
            go_wp2_with fail
            go_meet
            have hn3 : g8 ≠ w.heap.size := by have := hwlt; omega
            have hn5 : g8 ≠ w.heap.size + 1 := by have := hwlt; omega
            have hwg : w.heap.size ≤ g8 := by have := hwlt; omega
            have hS := HS.out.on hbr
            refine ⟨rfl, rfl, g8, Ar, nr, cr, rfl, Lib.hid ⟨⟨blk_far (blk_far hS.b3 (Ne.symm hn3) _) (Ne.symm hn3) _, blk_far (blk_far hS.b5 (Ne.symm hn5) _) (Ne.symm hn5) _, HS.out.dv.over hbr hge8 [(0, .slice Ar nr cr), (1, .bool q2)], (hS.below.setCell hwg _).setCell hwg _, hS.fit, hS.brief⟩, blk_put (blk_put (cs' := #[.slice Ar nr cr, .bool false]) hbox8 0 _ rfl) 1 _ rfl, ((hD.set hgr8 0 _).set hgr8 1 _).dv hlo, hn3, hn5⟩⟩
          · refine box_step ?hg (N := 8) ?hd (cs := #[.slice none 0 0, .bool false]) (t := 24) ?hr ?_; (case hd => rfl); (case hg => rfl); (case hr => first | (go_simp; done) | (go_simp; rfl))
            intro g8 hg8 w_3 hbox8 hbb
            have hge8 : wr.heap.size ≤ g8 := by rw [hg8]; exact hbr.size
            replace hbr := hbr.trans (hbb.mono hbr.size)
            clear hg8 hbb
            refine hK.out _ _ (HE.out _ hbr) (fun hHeld => ?_)
            clear hK K
            refine norm_ (a' := ?_) ?_ ?_
            rotate_left
            · show Act.put _ (some 8) _ = _
              simp only [Act.put, List.setIfInBounds_toArray, List.set_cons_zero, List.set_cons_succ, i64_w, i32_w]
              rfl
            refine one_ (i := 5) (N := some 32) #[true, true, true, true, true, true, false, false, false, false, true, false, false, false] rfl rfl (one_of HT_.out (by kernel_rfl)) (by decide) (fun K hK => ?_)
            refine goes_ Tryd.func5 (by kernel_rfl) rfl #[.agg #[.slice A n c, .bool q], .agg #[.int .i64 e.f0, .int .i64 e.f1, .int .i64 e.f2, .int .i64 e.f3, .string e.f4, .string e.f5, .int .i64 e.f6.f0, .string e.f6.f1, .slice A8 n8 c8, .string e.f6.f3, .int .i64 e.f6.f4, .slice A11 n11 c11]] (by rfl) rfl rfl (by (try simp only [List.map_toArray, List.map_cons, List.map_nil]); first | done | rfl) ?_
            refine (HAp.out w_3 hbr).mono ?_
            rintro u_ w_4 ⟨Ar, nr, cr, rfl, hD, hbb⟩
            refine ⟨_, rfl, ?_⟩
            have hgr8 : g8 < w_3.heap.size ∨ w_4.heap.size ≤ g8 := .inl (blk_lt hbox8)
            have hlo : w.heap.size + 1 < w_3.heap.size := Nat.lt_of_lt_of_le hwlt hbr.size
            replace hbox8 := blk_below hbox8 hbb
            have hcw := hbr.size
            replace hbr := hbr.trans (hbb.mono hbr.size)
            clear hbb
            refine hK.out _ _ (HE.out _ hbr) (fun hHeld => ?_)
            clear hK K
            refine norm_ (a' := ?_) ?_ ?_
            rotate_left
            · show Act.put _ (some 32) _ = _
              simp only [Act.put, List.setIfInBounds_toArray, List.set_cons_zero, List.set_cons_succ, i64_w, i32_w]
              rfl
            refine pure_ (i := 6) (N := some 26) (v := ?_) (a' := ?_) #[true, true, true, true, true, true, true, false, false, false, true, false, false, false] rfl rfl (any_of HT_.out (by kernel_rfl)) (fun _ _ _ h => h) (Or.inl ⟨by rfl, ?_⟩) ?_ ?_
            rotate_left
            · intro w'
              go_simp
              with_reducible rfl
            rotate_left
            · simp only [Act.put, List.setIfInBounds_toArray, List.set_cons_zero, List.set_cons_succ, i64_w, i32_w]
              rfl
            refine pure_ (i := 7) (N := some 33) (v := ?_) (a' := ?_) #[true, true, true, true, true, true, true, true, false, false, true, false, false, false] rfl rfl (any_of HT_.out (by kernel_rfl)) (fun _ _ _ h => h) (Or.inl ⟨by rfl, ?_⟩) ?_ ?_
            rotate_left
            · intro w'
              go_simp
              with_reducible rfl
            rotate_left
            · simp only [Act.put, List.setIfInBounds_toArray, List.set_cons_zero, List.set_cons_succ, i64_w, i32_w]
              rfl
            refine pure_ (i := 8) (N := some 34) (v := ?_) (a' := ?_) #[true, true, true, true, true, true, true, true, true, false, true, false, false, false] rfl rfl (any_of HT_.out (by kernel_rfl)) (fun _ _ _ h => h) (Or.inl ⟨by rfl, ?_⟩) ?_ ?_
            rotate_left
            · intro w'
              go_simp
              with_reducible rfl
            rotate_left
            · simp only [Act.put, List.setIfInBounds_toArray, List.set_cons_zero, List.set_cons_succ, i64_w, i32_w]
              rfl
            refine pure_ (i := 9) (N := some 35) (v := ?_) (a' := ?_) #[true, true, true, true, true, true, true, true, true, true, true, false, false, false] rfl rfl (any_of HT_.out (by kernel_rfl)) (fun _ _ _ h => h) (Or.inl ⟨by rfl, ?_⟩) ?_ ?_
            rotate_left
            · intro w'
              go_simp
              with_reducible rfl
            rotate_left
            · simp only [Act.put, List.setIfInBounds_toArray, List.set_cons_zero, List.set_cons_succ, i64_w, i32_w]
              rfl
            refine last_ (i := 11) (N := none) #[true, true, true, true, true, true, true, true, true, true, true, true, false, false] rfl rfl (one_of HT_.out (by kernel_rfl)) (by decide) (fun K hK => ?_)
            have hs0 := (blk_cell hbox8 0).trans (show (#[.slice none 0 0, .bool false] : Array Value)[0]? = some (.slice none 0 0) from rfl)
            have hf0 := blk_frozen hbox8 0
            have hs1 := (blk_cell hbox8 1).trans (show (#[.slice none 0 0, .bool false] : Array Value)[1]? = some (.bool false) from rfl)
            have hf1 := blk_frozen hbox8 1
            refine skip_ (w1 := ?_) (by rfl) rfl ?_ ?_
            rotate_left
            · go_simp
              rfl
            refine hK.out _ _ ?_
            clear hK K
            refine pure_ (i := 12) (N := some 9) (v := ?_) (a' := ?_) #[true, true, true, true, true, true, true, true, true, true, true, true, true, false] rfl rfl (any_of HT_.out (by kernel_rfl)) (fun _ _ _ h => h) (Or.inl ⟨by rfl, ?_⟩) ?_ ?_
            rotate_left
            · intro w'
              go_simp
              with_reducible rfl
            rotate_left
            · simp only [Act.put, List.setIfInBounds_toArray, List.set_cons_zero, List.set_cons_succ, i64_w, i32_w]
              rfl
            refine pure_ (i := 13) (N := some 10) (v := ?_) (a' := ?_) #[true, true, true, true, true, true, true, true, true, true, true, true, true, true] rfl rfl (any_of HT_.out (by kernel_rfl)) (fun _ _ _ h => h) (Or.inl ⟨by rfl, ?_⟩) ?_ ?_
            rotate_left
            · intro w'
              go_simp
              with_reducible rfl
            rotate_left
            · simp only [Act.put, List.setIfInBounds_toArray, List.set_cons_zero, List.set_cons_succ, i64_w, i32_w]
              rfl
            refine done_ (done_of HT_.out (by kernel_rfl)) ?_
            go_wp2_with fail
            go_meet
            have hn3 : g8 ≠ w.heap.size := by have := hwlt; omega
            have hn5 : g8 ≠ w.heap.size + 1 := by have := hwlt; omega
            have hwg : w.heap.size ≤ g8 := by have := hwlt; omega
            have hS := HS.out.on hbr
            refine ⟨rfl, rfl, g8, Ar, nr, cr, rfl, Lib.hid ⟨⟨blk_far (blk_far hS.b3 (Ne.symm hn3) _) (Ne.symm hn3) _, blk_far (blk_far hS.b5 (Ne.symm hn5) _) (Ne.symm hn5) _, HS.out.dv.over hbr hge8 [(0, .slice Ar nr cr), (1, .bool q2)], (hS.below.setCell hwg _).setCell hwg _, hS.fit, hS.brief⟩, blk_put (blk_put (cs' := #[.slice Ar nr cr, .bool false]) hbox8 0 _ rfl) 1 _ rfl, ((hD.set hgr8 0 _).set hgr8 1 _).dv hlo, hn3, hn5⟩⟩
          -- R5]
        case rest =>
          obtain ⟨rfl, rfl, g8, A2, n2, c2, rfl, HX⟩ := hcut
          rename World => wd
          clear HAp HE
          have HE : Hid (∀ W : World, Below wd.heap.size wd W → W.cell? ⟨w.heap.size, 0, none⟩ = some (.slice A n c) ∧ W.cell? ⟨w.heap.size, 1, none⟩ = some (.bool q) ∧ W.cell? ⟨w.heap.size + 1, 0, none⟩ = some (.int .i64 a) ∧ W.cell? ⟨w.heap.size + 1, 1, none⟩ = some (.int .i64 s) ∧ W.cell? ⟨w.heap.size + 1, 2, none⟩ = some (.int .i64 b) ∧ W.cell? ⟨w.heap.size + 1, 3, none⟩ = some (.int .i64 t) ∧ W.cell? (ad.add (k * 12)) = some (.int .i64 e.f0) ∧ W.cell? ⟨(ad.add (k * 12)).block, (ad.add (k * 12)).off + 1, none⟩ = some (.int .i64 e.f1) ∧ W.cell? ⟨(ad.add (k * 12)).block, (ad.add (k * 12)).off + 2, none⟩ = some (.int .i64 e.f2) ∧ W.cell? ⟨(ad.add (k * 12)).block, (ad.add (k * 12)).off + 3, none⟩ = some (.int .i64 e.f3) ∧ W.cell? ⟨(ad.add (k * 12)).block, (ad.add (k * 12)).off + 4, none⟩ = some (.string e.f4) ∧ W.cell? ⟨(ad.add (k * 12)).block, (ad.add (k * 12)).off + 5, none⟩ = some (.string e.f5) ∧ W.cell? ⟨(ad.add (k * 12)).block, (ad.add (k * 12)).off + 6, none⟩ = some (.int .i64 e.f6.f0) ∧ W.cell? ⟨(ad.add (k * 12)).block, (ad.add (k * 12)).off + 7, none⟩ = some (.string e.f6.f1) ∧ W.cell? ⟨(ad.add (k * 12)).block, (ad.add (k * 12)).off + 8, none⟩ = some (.slice A8 n8 c8) ∧ W.cell? ⟨(ad.add (k * 12)).block, (ad.add (k * 12)).off + 9, none⟩ = some (.string e.f6.f3) ∧ W.cell? ⟨(ad.add (k * 12)).block, (ad.add (k * 12)).off + 10, none⟩ = some (.int .i64 e.f6.f4) ∧ W.cell? ⟨(ad.add (k * 12)).block, (ad.add (k * 12)).off + 11, none⟩ = some (.slice A11 n11 c11)) :=
            Lib.hid (fun W hb => ⟨(blk_cell (HX.out.on hb).old.b3 0).trans rfl, (blk_cell (HX.out.on hb).old.b3 1).trans rfl, (blk_cell (HX.out.on hb).old.b5 0).trans rfl, (blk_cell (HX.out.on hb).old.b5 1).trans rfl, (blk_cell (HX.out.on hb).old.b5 2).trans rfl, (blk_cell (HX.out.on hb).old.b5 3).trans rfl, HD.out W (HX.out.on hb).old.below⟩)
          have hwlt2 : w.heap.size + 1 < wd.heap.size := blk_lt HX.out.old.b5
          go_upto_region 6 with fail
          go_cut [11, 12] (fun s11 s12 wx => s12 = .int .i64 fe ∧ ∃ g2, s11 = .pointer (some ⟨g2, 0, none⟩) ∧ Hid (StY w wx g8 g2 A A2 n c n2 c2 q q2 l l2 a s b t a' s' b' t'))
          case first =>
            -- [R6
            refine start_ (n := 13) (S := fun w' => w'.cell? ⟨w.heap.size, 0, none⟩ = some (.slice A n c) ∧ w'.cell? ⟨w.heap.size, 1, none⟩ = some (.bool q) ∧ w'.cell? ⟨w.heap.size + 1, 0, none⟩ = some (.int .i64 a) ∧ w'.cell? ⟨w.heap.size + 1, 1, none⟩ = some (.int .i64 s) ∧ w'.cell? ⟨w.heap.size + 1, 2, none⟩ = some (.int .i64 b) ∧ w'.cell? ⟨w.heap.size + 1, 3, none⟩ = some (.int .i64 t) ∧ w'.cell? (ad.add (k * 12)) = some (.int .i64 e.f0) ∧ w'.cell? ⟨(ad.add (k * 12)).block, (ad.add (k * 12)).off + 1, none⟩ = some (.int .i64 e.f1) ∧ w'.cell? ⟨(ad.add (k * 12)).block, (ad.add (k * 12)).off + 2, none⟩ = some (.int .i64 e.f2) ∧ w'.cell? ⟨(ad.add (k * 12)).block, (ad.add (k * 12)).off + 3, none⟩ = some (.int .i64 e.f3) ∧ w'.cell? ⟨(ad.add (k * 12)).block, (ad.add (k * 12)).off + 4, none⟩ = some (.string e.f4) ∧ w'.cell? ⟨(ad.add (k * 12)).block, (ad.add (k * 12)).off + 5, none⟩ = some (.string e.f5) ∧ w'.cell? ⟨(ad.add (k * 12)).block, (ad.add (k * 12)).off + 6, none⟩ = some (.int .i64 e.f6.f0) ∧ w'.cell? ⟨(ad.add (k * 12)).block, (ad.add (k * 12)).off + 7, none⟩ = some (.string e.f6.f1) ∧ w'.cell? ⟨(ad.add (k * 12)).block, (ad.add (k * 12)).off + 8, none⟩ = some (.slice A8 n8 c8) ∧ w'.cell? ⟨(ad.add (k * 12)).block, (ad.add (k * 12)).off + 9, none⟩ = some (.string e.f6.f3) ∧ w'.cell? ⟨(ad.add (k * 12)).block, (ad.add (k * 12)).off + 10, none⟩ = some (.int .i64 e.f6.f4) ∧ w'.cell? ⟨(ad.add (k * 12)).block, (ad.add (k * 12)).off + 11, none⟩ = some (.slice A11 n11 c11)) (ds := [11]) #[false, false, false, false, false, false, false, false, false, false, false, false, false] (by kernel_rfl) rfl rfl (HE.out _ (below_drew (Below.refl _ _))) (fun hHeld => ?_)
            refine with_tabW tab6.1 tab6.2 (fun HT_ HW_ => ?_)
            have hbr := below_drew (Below.refl wd.heap.size wd)
            generalize wd.drew = w_0 at hHeld hbr ⊢
            refine pure_ (i := 1) (N := some 38) (v := ?_) (a' := ?_) #[false, true, false, false, false, false, false, false, false, false, false, false, false] rfl rfl (any_of HT_.out (by kernel_rfl)) (fun _ _ _ h => h) (Or.inl ⟨by rfl, ?_⟩) ?_ ?_
            rotate_left
            · intro w'
              go_simp
              with_reducible rfl
            rotate_left
            · simp only [Act.put, List.setIfInBounds_toArray, List.set_cons_zero, List.set_cons_succ, i64_w, i32_w]
              rfl
            refine pure_ (i := 2) (N := some 39) (v := ?_) (a' := ?_) #[false, true, true, false, false, false, false, false, false, false, false, false, false] rfl rfl (any_of HT_.out (by kernel_rfl)) (fun _ _ _ h => h) (Or.inl ⟨by rfl, ?_⟩) ?_ ?_
            rotate_left
            · intro w'
              go_simp
              with_reducible rfl
            rotate_left
            · simp only [Act.put, List.setIfInBounds_toArray, List.set_cons_zero, List.set_cons_succ, i64_w, i32_w]
              rfl
            refine pure_ (i := 3) (N := some 40) (v := ?_) (a' := ?_) #[false, true, true, true, false, false, false, false, false, false, false, false, false] rfl rfl (any_of HT_.out (by kernel_rfl)) (fun _ _ _ h => h) (Or.inl ⟨by rfl, ?_⟩) ?_ ?_
            rotate_left
            · intro w'
              go_simp
              with_reducible rfl
            rotate_left
            · simp only [Act.put, List.setIfInBounds_toArray, List.set_cons_zero, List.set_cons_succ, i64_w, i32_w]
              rfl
            refine take_ (i := 0) (N := some 37) (v := ?_) (a' := ?_) #[true, true, true, true, false, false, false, false, false, false, false, false, false] rfl rfl (take_ofW HT_.out HW_.out (by kernel_rfl)) (fun _ _ _ h => h) (Or.inl ⟨by rfl, ?_⟩) hHeld ?_ ?_
            rotate_left
            · rintro w' ⟨s0, s1, s2, s3, s4, s5, s6, s7, s8, s9, s10, s11, s12, s13, s14, s15, s16, s17⟩
              go_simp
              with_reducible rfl
            rotate_left
            · simp only [Act.put, List.setIfInBounds_toArray, List.set_cons_zero, List.set_cons_succ, i64_w, i32_w]
              rfl
            refine take_ (i := 4) (N := some 41) (v := ?_) (a' := ?_) #[true, true, true, true, true, false, false, false, false, false, false, false, false] rfl rfl (take_ofW HT_.out HW_.out (by kernel_rfl)) (fun _ _ _ h => h) (Or.inl ⟨by rfl, ?_⟩) hHeld ?_ ?_
            rotate_left
            · rintro w' ⟨s0, s1, s2, s3, s4, s5, s6, s7, s8, s9, s10, s11, s12, s13, s14, s15, s16, s17⟩
              go_simp
              with_reducible rfl
            rotate_left
            · simp only [Act.put, List.setIfInBounds_toArray, List.set_cons_zero, List.set_cons_succ, i64_w, i32_w]
              rfl
            refine take_ (i := 5) (N := some 42) (v := ?_) (a' := ?_) #[true, true, true, true, true, true, false, false, false, false, false, false, false] rfl rfl (take_ofW HT_.out HW_.out (by kernel_rfl)) (fun _ _ _ h => h) (Or.inl ⟨by rfl, ?_⟩) hHeld ?_ ?_
            rotate_left
            · rintro w' ⟨s0, s1, s2, s3, s4, s5, s6, s7, s8, s9, s10, s11, s12, s13, s14, s15, s16, s17⟩
              go_simp
              with_reducible rfl
            rotate_left
            · simp only [Act.put, List.setIfInBounds_toArray, List.set_cons_zero, List.set_cons_succ, i64_w, i32_w]
              rfl
            refine two_ (i := 6) (j := 10) (Ni := some 43) (Nj := some 11) #[true, true, true, true, true, true, true, false, false, false, false, false, false] #[true, true, true, true, true, true, false, false, false, false, true, false, false] rfl rfl rfl rfl (two_of HT_.out (by kernel_rfl)) (by decide) (by decide) (fun K hK => ?_) (fun K hK => ?_)
            · refine goes_ Tryd.func6 (by kernel_rfl) rfl #[.agg #[.slice A n c, .bool q], .agg #[.int .i64 e.f0, .int .i64 e.f1, .int .i64 e.f2, .int .i64 e.f3, .string e.f4, .string e.f5, .int .i64 e.f6.f0, .string e.f6.f1, .slice A8 n8 c8, .string e.f6.f3, .int .i64 e.f6.f4, .slice A11 n11 c11], .agg #[.int .i64 a, .int .i64 s, .int .i64 b, .int .i64 t]] (by rfl) rfl rfl (by (try simp only [List.map_toArray, List.map_cons, List.map_nil]); first | done | rfl) ?_
              refine (HAf.out w_0 (HX.out.on hbr).old).mono ?_
              rintro u_ w_1 ⟨rfl, hbb⟩
              refine ⟨_, rfl, ?_⟩
              have hcw := hbr.size
              replace hbr := hbr.trans (hbb.mono hbr.size)
              clear hbb
              refine hK.out _ _ (HE.out _ hbr) (fun hHeld => ?_)
              clear hK K
              refine norm_ (a' := ?_) ?_ ?_
              rotate_left
              · show Act.put _ (some 43) _ = _
                simp only [Act.put, List.setIfInBounds_toArray, List.set_cons_zero, List.set_cons_succ, i64_w, i32_w]
                rfl
              refine pure_ (i := 7) (N := some 36) (v := ?_) (a' := ?_) #[true, true, true, true, true, true, true, true, false, false, false, false, false] rfl rfl (any_of HT_.out (by kernel_rfl)) (fun _ _ _ h => h) (Or.inl ⟨by rfl, ?_⟩) ?_ ?_
              rotate_left
              · intro w'
                go_simp
                with_reducible rfl
              rotate_left
              · simp only [Act.put, List.setIfInBounds_toArray, List.set_cons_zero, List.set_cons_succ, i64_w, i32_w]
                rfl
              refine pure_ (i := 8) (N := some 44) (v := ?_) (a' := ?_) #[true, true, true, true, true, true, true, true, true, false, false, false, false] rfl rfl (any_of HT_.out (by kernel_rfl)) (fun _ _ _ h => h) (Or.inl ⟨by rfl, ?_⟩) ?_ ?_
              rotate_left
              · intro w'
                go_simp
                with_reducible rfl
              rotate_left
              · simp only [Act.put, List.setIfInBounds_toArray, List.set_cons_zero, List.set_cons_succ, i64_w, i32_w]
                rfl
              refine pure_ (i := 9) (N := some 45) (v := ?_) (a' := ?_) #[true, true, true, true, true, true, true, true, true, true, false, false, false] rfl rfl (any_of HT_.out (by kernel_rfl)) (fun _ _ _ h => h) (Or.inl ⟨by rfl, ?_⟩) ?_ ?_
              rotate_left
              · intro w'
                go_simp
                with_reducible rfl
              rotate_left
              · simp only [Act.put, List.setIfInBounds_toArray, List.set_cons_zero, List.set_cons_succ, i64_w, i32_w]
                rfl
              refine one_ (i := 10) (N := some 11) #[true, true, true, true, true, true, true, true, true, true, true, false, false] rfl rfl (one_of HT_.out (by kernel_rfl)) (by decide) (fun K hK => ?_)
              refine box_step ?hg (N := 11) ?hd (cs := #[.int .i64 0, .int .i64 0, .int .i64 0, .int .i64 0]) (t := 29) ?hr ?_; (case hd => rfl); (case hg => rfl); (case hr => first | (go_simp; done) | (go_simp; rfl))
              intro g11 hg11 w_2 hbox11 hbb
              have hge11 : wd.heap.size ≤ g11 := by rw [hg11]; exact hbr.size
              replace hbr := hbr.trans (hbb.mono hbr.size)
              clear hg11 hbb
              refine hK.out _ _ (HE.out _ hbr) (fun hHeld => ?_)
              clear hK K
              refine norm_ (a' := ?_) ?_ ?_
              rotate_left
              · show Act.put _ (some 11) _ = _
                simp only [Act.put, List.setIfInBounds_toArray, List.set_cons_zero, List.set_cons_succ, i64_w, i32_w]
                rfl
              refine last_ (i := 11) (N := none) #[true, true, true, true, true, true, true, true, true, true, true, true, false] rfl rfl (one_of HT_.out (by kernel_rfl)) (by decide) (fun K hK => ?_)
              have hs0 := (blk_cell hbox11 0).trans (show (#[.int .i64 0, .int .i64 0, .int .i64 0, .int .i64 0] : Array Value)[0]? = some (.int .i64 0) from rfl)
              have hf0 := blk_frozen hbox11 0
              have hs1 := (blk_cell hbox11 1).trans (show (#[.int .i64 0, .int .i64 0, .int .i64 0, .int .i64 0] : Array Value)[1]? = some (.int .i64 0) from rfl)
              have hf1 := blk_frozen hbox11 1
              have hs2 := (blk_cell hbox11 2).trans (show (#[.int .i64 0, .int .i64 0, .int .i64 0, .int .i64 0] : Array Value)[2]? = some (.int .i64 0) from rfl)
              have hf2 := blk_frozen hbox11 2
              have hs3 := (blk_cell hbox11 3).trans (show (#[.int .i64 0, .int .i64 0, .int .i64 0, .int .i64 0] : Array Value)[3]? = some (.int .i64 0) from rfl)
              have hf3 := blk_frozen hbox11 3
              refine skip_ (w1 := ?_) (by rfl) rfl ?_ ?_
              rotate_left
              · go_simp
                rfl
              refine hK.out _ _ ?_
              clear hK K
              refine pure_ (i := 12) (N := some 12) (v := ?_) (a' := ?_) #[true, true, true, true, true, true, true, true, true, true, true, true, true] rfl rfl (any_of HT_.out (by kernel_rfl)) (fun _ _ _ h => h) (Or.inl ⟨by rfl, ?_⟩) ?_ ?_
              rotate_left
              · intro w'
                go_simp
                with_reducible rfl
              rotate_left
              · simp only [Act.put, List.setIfInBounds_toArray, List.set_cons_zero, List.set_cons_succ, i64_w, i32_w]
                rfl
              refine done_ (done_of HT_.out (by kernel_rfl)) ?_
              go_wp2_with fail
              go_meet
              have hn3 : g11 ≠ w.heap.size := by have := hwlt2; omega
              have hn5 : g11 ≠ w.heap.size + 1 := by have := hwlt2; omega
              have hn8 : g11 ≠ g8 := by have := blk_lt HX.out.box; omega
              have hwg : w.heap.size ≤ g11 := by have := hwlt2; omega
              have hX := HX.out.on hbr
              have F4 : ∀ {g : Nat} {cs : Array Value} {ty : TypeId} {W : World}, W.heap[g]? = some (.cells cs ty (0, 0)) → g11 ≠ g → ((((W.setCell ⟨g11, 0, none⟩ (.int .i64 a')).setCell ⟨g11, 1, none⟩ (.int .i64 s')).setCell ⟨g11, 2, none⟩ (.int .i64 b')).setCell ⟨g11, 3, none⟩ (.int .i64 t')).heap[g]? = some (.cells cs ty (0, 0)) := fun h hne => af_far h (Ne.symm hne) _ _ _ _
              refine ⟨rfl, g11, rfl, Lib.hid ⟨⟨⟨F4 hX.old.b3 hn3, F4 hX.old.b5 hn5, HX.out.old.dv.over hbr hge11 [(0, .int .i64 a'), (1, .int .i64 s'), (2, .int .i64 b'), (3, .int .i64 t')], (((hX.old.below.setCell hwg _).setCell hwg _).setCell hwg _).setCell hwg _, hX.old.fit, hX.old.brief⟩, F4 hX.box hn8, HX.out.dv.over hbr hge11 [(0, .int .i64 a'), (1, .int .i64 s'), (2, .int .i64 b'), (3, .int .i64 t')], hX.ne⟩, blk_put (blk_put (cs' := #[.int .i64 a', .int .i64 s', .int .i64 b', .int .i64 0]) (blk_put (cs' := #[.int .i64 a', .int .i64 s', .int .i64 0, .int .i64 0]) (blk_put (cs' := #[.int .i64 a', .int .i64 0, .int .i64 0, .int .i64 0]) hbox11 0 _ rfl) 1 _ rfl) 2 _ rfl) 3 _ rfl, hn3, hn5⟩⟩
            · refine box_step ?hg (N := 11) ?hd (cs := #[.int .i64 0, .int .i64 0, .int .i64 0, .int .i64 0]) (t := 29) ?hr ?_; (case hd => rfl); (case hg => rfl); (case hr => first | (go_simp; done) | (go_simp; rfl))
              intro g11 hg11 w_3 hbox11 hbb
              have hge11 : wd.heap.size ≤ g11 := by rw [hg11]; exact hbr.size
              replace hbr := hbr.trans (hbb.mono hbr.size)
              clear hg11 hbb
              refine hK.out _ _ (HE.out _ hbr) (fun hHeld => ?_)
              clear hK K
              refine norm_ (a' := ?_) ?_ ?_
              rotate_left
              · show Act.put _ (some 11) _ = _
                simp only [Act.put, List.setIfInBounds_toArray, List.set_cons_zero, List.set_cons_succ, i64_w, i32_w]
                rfl
              refine one_ (i := 6) (N := some 43) #[true, true, true, true, true, true, true, false, false, false, true, false, false] rfl rfl (one_of HT_.out (by kernel_rfl)) (by decide) (fun K hK => ?_)
              refine goes_ Tryd.func6 (by kernel_rfl) rfl #[.agg #[.slice A n c, .bool q], .agg #[.int .i64 e.f0, .int .i64 e.f1, .int .i64 e.f2, .int .i64 e.f3, .string e.f4, .string e.f5, .int .i64 e.f6.f0, .string e.f6.f1, .slice A8 n8 c8, .string e.f6.f3, .int .i64 e.f6.f4, .slice A11 n11 c11], .agg #[.int .i64 a, .int .i64 s, .int .i64 b, .int .i64 t]] (by rfl) rfl rfl (by (try simp only [List.map_toArray, List.map_cons, List.map_nil]); first | done | rfl) ?_
              refine (HAf.out w_3 (HX.out.on hbr).old).mono ?_
              rintro u_ w_4 ⟨rfl, hbb⟩
              refine ⟨_, rfl, ?_⟩
              replace hbox11 := blk_below hbox11 hbb
              have hcw := hbr.size
              replace hbr := hbr.trans (hbb.mono hbr.size)
              clear hbb
              refine hK.out _ _ (HE.out _ hbr) (fun hHeld => ?_)
              clear hK K
              refine norm_ (a' := ?_) ?_ ?_
              rotate_left
              · show Act.put _ (some 43) _ = _
                simp only [Act.put, List.setIfInBounds_toArray, List.set_cons_zero, List.set_cons_succ, i64_w, i32_w]
                rfl
              refine pure_ (i := 7) (N := some 36) (v := ?_) (a' := ?_) #[true, true, true, true, true, true, true, true, false, false, true, false, false] rfl rfl (any_of HT_.out (by kernel_rfl)) (fun _ _ _ h => h) (Or.inl ⟨by rfl, ?_⟩) ?_ ?_
              rotate_left
              · intro w'
                go_simp
                with_reducible rfl
              rotate_left
              · simp only [Act.put, List.setIfInBounds_toArray, List.set_cons_zero, List.set_cons_succ, i64_w, i32_w]
                rfl
              refine pure_ (i := 8) (N := some 44) (v := ?_) (a' := ?_) #[true, true, true, true, true, true, true, true, true, false, true, false, false] rfl rfl (any_of HT_.out (by kernel_rfl)) (fun _ _ _ h => h) (Or.inl ⟨by rfl, ?_⟩) ?_ ?_
              rotate_left
              · intro w'
                go_simp
                with_reducible rfl
              rotate_left
              · simp only [Act.put, List.setIfInBounds_toArray, List.set_cons_zero, List.set_cons_succ, i64_w, i32_w]
                rfl
              refine pure_ (i := 9) (N := some 45) (v := ?_) (a' := ?_) #[true, true, true, true, true, true, true, true, true, true, true, false, false] rfl rfl (any_of HT_.out (by kernel_rfl)) (fun _ _ _ h => h) (Or.inl ⟨by rfl, ?_⟩) ?_ ?_
              rotate_left
              · intro w'
                go_simp
                with_reducible rfl
              rotate_left
              · simp only [Act.put, List.setIfInBounds_toArray, List.set_cons_zero, List.set_cons_succ, i64_w, i32_w]
                rfl
              refine last_ (i := 11) (N := none) #[true, true, true, true, true, true, true, true, true, true, true, true, false] rfl rfl (one_of HT_.out (by kernel_rfl)) (by decide) (fun K hK => ?_)
              have hs0 := (blk_cell hbox11 0).trans (show (#[.int .i64 0, .int .i64 0, .int .i64 0, .int .i64 0] : Array Value)[0]? = some (.int .i64 0) from rfl)
              have hf0 := blk_frozen hbox11 0
              have hs1 := (blk_cell hbox11 1).trans (show (#[.int .i64 0, .int .i64 0, .int .i64 0, .int .i64 0] : Array Value)[1]? = some (.int .i64 0) from rfl)
              have hf1 := blk_frozen hbox11 1
              have hs2 := (blk_cell hbox11 2).trans (show (#[.int .i64 0, .int .i64 0, .int .i64 0, .int .i64 0] : Array Value)[2]? = some (.int .i64 0) from rfl)
              have hf2 := blk_frozen hbox11 2
              have hs3 := (blk_cell hbox11 3).trans (show (#[.int .i64 0, .int .i64 0, .int .i64 0, .int .i64 0] : Array Value)[3]? = some (.int .i64 0) from rfl)
              have hf3 := blk_frozen hbox11 3
              refine skip_ (w1 := ?_) (by rfl) rfl ?_ ?_
              rotate_left
              · go_simp
                rfl
              refine hK.out _ _ ?_
              clear hK K
              refine pure_ (i := 12) (N := some 12) (v := ?_) (a' := ?_) #[true, true, true, true, true, true, true, true, true, true, true, true, true] rfl rfl (any_of HT_.out (by kernel_rfl)) (fun _ _ _ h => h) (Or.inl ⟨by rfl, ?_⟩) ?_ ?_
              rotate_left
              · intro w'
                go_simp
                with_reducible rfl
              rotate_left
              · simp only [Act.put, List.setIfInBounds_toArray, List.set_cons_zero, List.set_cons_succ, i64_w, i32_w]
                rfl
              refine done_ (done_of HT_.out (by kernel_rfl)) ?_
              go_wp2_with fail
              go_meet
              have hn3 : g11 ≠ w.heap.size := by have := hwlt2; omega
              have hn5 : g11 ≠ w.heap.size + 1 := by have := hwlt2; omega
              have hn8 : g11 ≠ g8 := by have := blk_lt HX.out.box; omega
              have hwg : w.heap.size ≤ g11 := by have := hwlt2; omega
              have hX := HX.out.on hbr
              have F4 : ∀ {g : Nat} {cs : Array Value} {ty : TypeId} {W : World}, W.heap[g]? = some (.cells cs ty (0, 0)) → g11 ≠ g → ((((W.setCell ⟨g11, 0, none⟩ (.int .i64 a')).setCell ⟨g11, 1, none⟩ (.int .i64 s')).setCell ⟨g11, 2, none⟩ (.int .i64 b')).setCell ⟨g11, 3, none⟩ (.int .i64 t')).heap[g]? = some (.cells cs ty (0, 0)) := fun h hne => af_far h (Ne.symm hne) _ _ _ _
              refine ⟨rfl, g11, rfl, Lib.hid ⟨⟨⟨F4 hX.old.b3 hn3, F4 hX.old.b5 hn5, HX.out.old.dv.over hbr hge11 [(0, .int .i64 a'), (1, .int .i64 s'), (2, .int .i64 b'), (3, .int .i64 t')], (((hX.old.below.setCell hwg _).setCell hwg _).setCell hwg _).setCell hwg _, hX.old.fit, hX.old.brief⟩, F4 hX.box hn8, HX.out.dv.over hbr hge11 [(0, .int .i64 a'), (1, .int .i64 s'), (2, .int .i64 b'), (3, .int .i64 t')], hX.ne⟩, blk_put (blk_put (cs' := #[.int .i64 a', .int .i64 s', .int .i64 b', .int .i64 0]) (blk_put (cs' := #[.int .i64 a', .int .i64 s', .int .i64 0, .int .i64 0]) (blk_put (cs' := #[.int .i64 a', .int .i64 0, .int .i64 0, .int .i64 0]) hbox11 0 _ rfl) 1 _ rfl) 2 _ rfl) 3 _ rfl, hn3, hn5⟩⟩
            -- R6]
          case rest =>
            obtain ⟨rfl, g11, rfl, HY⟩ := hcut
            rename World => wf
            clear HAf HE HX HD
            have g0 := (blk_cell HY.out.box2 0).trans (show #[Value.int .i64 a', .int .i64 s', .int .i64 b', .int .i64 t'][0]? = some (.int .i64 a') from rfl)
            have g1 := (blk_cell HY.out.box2 1).trans (show #[Value.int .i64 a', .int .i64 s', .int .i64 b', .int .i64 t'][1]? = some (.int .i64 s') from rfl)
            have g2 := (blk_cell HY.out.box2 2).trans (show #[Value.int .i64 a', .int .i64 s', .int .i64 b', .int .i64 t'][2]? = some (.int .i64 b') from rfl)
            have g3 := (blk_cell HY.out.box2 3).trans (show #[Value.int .i64 a', .int .i64 s', .int .i64 b', .int .i64 t'][3]? = some (.int .i64 t') from rfl)
            by_cases hfe : fe = 0
            case neg =>
              have hfb : (fe != 0) = true := by simpa using hfe
              have hfc : (fe == 0) = false := by simpa using hfe
              obtain ⟨h1, h2, h3, h4⟩ := HBad.out hfe
              subst h1 h2 h3 h4
              clear HBad HGood
              go_wp2_with fail
              go_roundw
              case rel => exact ⟨k + 1, A, n, c, q, l, a, s, b, t, by omega, by go_num, Lib.hid HY.out.x.old⟩
              case measure => simp [intOf]; omega
            case pos =>
              subst hfe
              obtain ⟨hg1, hg2, hg3, hg4, hg5⟩ := HGood.out rfl
              subst hg1
              obtain ⟨kc, hkc⟩ := ev_rounds hg4
              have HCk : Hid (∀ W : World, StY w W g8 g11 A A2 n c n2 c2 q q2 l l2 a s b t a' s' b' t' → Calls Tryd.prog 7 #[.agg #[.slice A2 n2 c2, .bool q2], .agg #[.int .i64 a', .int .i64 s', .int .i64 b', .int .i64 t']] W fun u w' => u = .returned (.int .i64 0) ∧ Below W.heap.size W w') :=
                Lib.hid (fun W hY => by
                  rw [hY.x.dv.1]
                  exact span_Check.calls kc A2 c2 l2 q2 a' s' b' t' 0 W hY.x.dv.rd.2.2 (by rw [← hY.x.dv.1]; exact hY.x.dv.rd.2.1) hkc)
              have HFB : Hid (Fit l2 ∧ Brief l2) := Lib.hid ⟨hg2, hg3⟩
              have HSame := Lib.hid hg5
              clear HBad HGood hg2 hg3 hg4 hg5 hkc
              have x0 := (blk_cell HY.out.x.box 0).trans (show #[Value.slice A2 n2 c2, .bool q2][0]? = some (.slice A2 n2 c2) from rfl)
              have x1 := (blk_cell HY.out.x.box 1).trans (show #[Value.slice A2 n2 c2, .bool q2][1]? = some (.bool q2) from rfl)
              go_wp2_with fail
              refine (HCk.out wf HY.out).mono ?_
              rintro u wh ⟨rfl, hb5⟩
              have HY5 := Lib.hid (HY.out.on hb5)
              clear g0 g1 g2 g3 x0 x1 HY HCk hb5
              have g0 := (blk_cell HY5.out.box2 0).trans (show #[Value.int .i64 a', .int .i64 s', .int .i64 b', .int .i64 t'][0]? = some (.int .i64 a') from rfl)
              have g1 := (blk_cell HY5.out.box2 1).trans (show #[Value.int .i64 a', .int .i64 s', .int .i64 b', .int .i64 t'][1]? = some (.int .i64 s') from rfl)
              have g2 := (blk_cell HY5.out.box2 2).trans (show #[Value.int .i64 a', .int .i64 s', .int .i64 b', .int .i64 t'][2]? = some (.int .i64 b') from rfl)
              have g3 := (blk_cell HY5.out.box2 3).trans (show #[Value.int .i64 a', .int .i64 s', .int .i64 b', .int .i64 t'][3]? = some (.int .i64 t') from rfl)
              have p0 := (blk_cell HY5.out.x.old.b5 0).trans (show #[Value.int .i64 a, .int .i64 s, .int .i64 b, .int .i64 t][0]? = some (.int .i64 a) from rfl)
              have p1 := (blk_cell HY5.out.x.old.b5 1).trans (show #[Value.int .i64 a, .int .i64 s, .int .i64 b, .int .i64 t][1]? = some (.int .i64 s) from rfl)
              have p2 := (blk_cell HY5.out.x.old.b5 2).trans (show #[Value.int .i64 a, .int .i64 s, .int .i64 b, .int .i64 t][2]? = some (.int .i64 b) from rfl)
              have p3 := (blk_cell HY5.out.x.old.b5 3).trans (show #[Value.int .i64 a, .int .i64 s, .int .i64 b, .int .i64 t][3]? = some (.int .i64 t) from rfl)
              go_wp2_with fail
              all_goals try (rename_i h1 h2 h3 h4; exact absurd (HSame.out h1 h2).2 h4)
              all_goals try (rename_i h1 h2 h3; exact absurd (HSame.out h1 h2).1 h3)
              all_goals first | (rename_i h1 h2 h3 h4; have hz : s' = t' := h4; clear h1 h2 h3 h4 hz) | (rename_i h1 h2; have hz : a = b := h1; clear h1 h2 hz) | skip
              all_goals clear g0 g1 g2 g3 p0 p1 p2 p3
              all_goals
                -- [R14
                refine start_ (n := 4) (S := fun w' => w'.cell? ⟨g8, 0, none⟩ = some (.slice A2 n2 c2) ∧ w'.cell? ⟨g8, 1, none⟩ = some (.bool q2) ∧ w'.cell? ⟨g11, 0, none⟩ = some (.int .i64 a') ∧ w'.cell? ⟨g11, 1, none⟩ = some (.int .i64 s') ∧ w'.cell? ⟨g11, 2, none⟩ = some (.int .i64 b') ∧ w'.cell? ⟨g11, 3, none⟩ = some (.int .i64 t')) (ds := [3]) #[false, false, false, false] (by kernel_rfl) rfl rfl ⟨(blk_cell (HY5.out.on (below_drew (Below.refl _ _))).x.box 0).trans rfl, (blk_cell (HY5.out.on (below_drew (Below.refl _ _))).x.box 1).trans rfl, (blk_cell (HY5.out.on (below_drew (Below.refl _ _))).box2 0).trans rfl, (blk_cell (HY5.out.on (below_drew (Below.refl _ _))).box2 1).trans rfl, (blk_cell (HY5.out.on (below_drew (Below.refl _ _))).box2 2).trans rfl, (blk_cell (HY5.out.on (below_drew (Below.refl _ _))).box2 3).trans rfl⟩ (fun hHeld => ?_)
                refine with_tabW tab14.1 tab14.2 (fun HT_ HW_ => ?_)
                have HY6 := HY5.out.on (below_drew (Below.refl _ _))
                generalize wh.drew = w_0 at hHeld HY6 ⊢
                refine take_ (i := 0) (N := some 71) (v := ?_) (a' := ?_) #[true, false, false, false] rfl rfl (take_ofW HT_.out HW_.out (by kernel_rfl)) (fun _ _ _ h => h) (Or.inl ⟨by rfl, ?_⟩) hHeld ?_ ?_
                rotate_left
                · rintro w' ⟨s0, s1, s2, s3, s4, s5⟩
                  go_simp
                  with_reducible rfl
                rotate_left
                · simp only [Act.put, List.setIfInBounds_toArray, List.set_cons_zero, List.set_cons_succ, i64_w, i32_w]
                  rfl
                refine take_ (i := 1) (N := some 72) (v := ?_) (a' := ?_) #[true, true, false, false] rfl rfl (take_ofW HT_.out HW_.out (by kernel_rfl)) (fun _ _ _ h => h) (Or.inl ⟨by rfl, ?_⟩) hHeld ?_ ?_
                rotate_left
                · rintro w' ⟨s0, s1, s2, s3, s4, s5⟩
                  go_simp
                  with_reducible rfl
                rotate_left
                · simp only [Act.put, List.setIfInBounds_toArray, List.set_cons_zero, List.set_cons_succ, i64_w, i32_w]
                  rfl
                refine one_ (i := 2) (N := none) #[true, true, true, false] rfl rfl (one_of HT_.out (by kernel_rfl)) (by decide) (fun K hK => ?_)
                have hb3 := HY6.x.old.b3
                have hs0 := (blk_cell hb3 0).trans (show #[Value.slice A n c, .bool q][0]? = some (.slice A n c) from rfl)
                have hf0 := blk_frozen hb3 0
                have hs1 := (blk_cell hb3 1).trans (show #[Value.slice A n c, .bool q][1]? = some (.bool q) from rfl)
                have hf1 := blk_frozen hb3 1
                refine skip_ (w1 := ?_) (by rfl) rfl ?_ ?_
                rotate_left
                · go_simp
                  rfl
                have hx8 := blk_far (p := ⟨w.heap.size, 1, none⟩) (blk_far (p := ⟨w.heap.size, 0, none⟩) HY6.x.box HY6.x.ne.1 (.slice A2 n2 c2)) HY6.x.ne.1 (.bool q2)
                have hx11 := blk_far (p := ⟨w.heap.size, 1, none⟩) (blk_far (p := ⟨w.heap.size, 0, none⟩) HY6.box2 HY6.ne2.1 (.slice A2 n2 c2)) HY6.ne2.1 (.bool q2)
                refine hK.out _ _ ⟨(blk_cell hx8 0).trans rfl, (blk_cell hx8 1).trans rfl, (blk_cell hx11 0).trans rfl, (blk_cell hx11 1).trans rfl, (blk_cell hx11 2).trans rfl, (blk_cell hx11 3).trans rfl⟩ (fun hHeld => ?_)
                clear hK K hx8 hx11
                have h5 : ((w_0.setCell ⟨w.heap.size, 0, none⟩ (.slice A2 n2 c2)).setCell ⟨w.heap.size, 1, none⟩ (.bool q2)).heap[w.heap.size + 1]? = some (.cells #[.int .i64 a, .int .i64 s, .int .i64 b, .int .i64 t] 29 (0, 0)) := blk_far (blk_far HY6.x.old.b5 (show w.heap.size + 1 ≠ w.heap.size by omega) _) (show w.heap.size + 1 ≠ w.heap.size by omega) _
                have h3 : ((w_0.setCell ⟨w.heap.size, 0, none⟩ (.slice A2 n2 c2)).setCell ⟨w.heap.size, 1, none⟩ (.bool q2)).heap[w.heap.size]? = some (.cells #[.slice A2 n2 c2, .bool q2] 24 (0, 0)) := blk_put (blk_put (cs' := #[.slice A2 n2 c2, .bool q]) hb3 0 _ rfl) 1 _ rfl
                have hv : Dv ((w_0.setCell ⟨w.heap.size, 0, none⟩ (.slice A2 n2 c2)).setCell ⟨w.heap.size, 1, none⟩ (.bool q2)) w.heap.size A2 n2 c2 l2 := (HY6.x.dv.set 0 _).set 1 _
                have hbl : Below w.heap.size w ((w_0.setCell ⟨w.heap.size, 0, none⟩ (.slice A2 n2 c2)).setCell ⟨w.heap.size, 1, none⟩ (.bool q2)) := (HY6.x.old.below.setCell (Nat.le_refl _) _).setCell (Nat.le_refl _) _
                clear hs0 hf0 hs1 hf1 hb3 HY6
                generalize (w_0.setCell ⟨w.heap.size, 0, none⟩ (.slice A2 n2 c2)).setCell ⟨w.heap.size, 1, none⟩ (.bool q2) = w_1 at hHeld h5 h3 hv hbl ⊢
                refine last_ (i := 3) (N := none) #[true, true, true, true] rfl rfl (one_of HT_.out (by kernel_rfl)) (by decide) (fun K hK => ?_)
                have hs0 := (blk_cell h5 0).trans (show #[Value.int .i64 a, .int .i64 s, .int .i64 b, .int .i64 t][0]? = some (.int .i64 a) from rfl)
                have hf0 := blk_frozen h5 0
                have hs1 := (blk_cell h5 1).trans (show #[Value.int .i64 a, .int .i64 s, .int .i64 b, .int .i64 t][1]? = some (.int .i64 s) from rfl)
                have hf1 := blk_frozen h5 1
                have hs2 := (blk_cell h5 2).trans (show #[Value.int .i64 a, .int .i64 s, .int .i64 b, .int .i64 t][2]? = some (.int .i64 b) from rfl)
                have hf2 := blk_frozen h5 2
                have hs3 := (blk_cell h5 3).trans (show #[Value.int .i64 a, .int .i64 s, .int .i64 b, .int .i64 t][3]? = some (.int .i64 t) from rfl)
                have hf3 := blk_frozen h5 3
                refine skip_ (w1 := ?_) (by rfl) rfl ?_ ?_
                rotate_left
                · go_simp
                  rfl
                refine hK.out _ _ ?_
                clear hK K
                refine done_ (done_of HT_.out (by kernel_rfl)) ?_
                go_wp2_with fail
                go_roundw
                case rel => exact ⟨k + 1, A2, n2, c2, q2, l2, a', s', b', t', by omega, by go_num, Lib.hid (StI.next h3 h5 hv hbl HFB.out.1 HFB.out.2 _ _ _ _)⟩
                case measure => simp [intOf]; omega
                -- R14]
      · go_wp2_with fail
        refine (HBg.out wr).mono ?_
        rintro u w3 ⟨rfl, hb3⟩
        go_wp2_with fail
        go_ret
        exact ⟨rfl, HS.out.below.trans (hb3.mono HS.out.below.size)⟩
end Go.Proofs.YtlgoaphdhgidoaaDoor.SpanSt
