/- The law DomStays walked by hand: it returns true. -/
import Derived.Test.YthcfbjllohmfoaaDoorDocJ
import Derived.WalkSpells
import Derived.Lib.Hide
import Derived.Deep.QuietTactic
import Derived.Deep.RegionWith
import Derived.Deep.RegionHeld3
import Derived.Deep.DeepCutAuto
import Derived.IntWalk
namespace Go.Proofs.YthcfbjllohmfoaaDoor.Stays
open Go.RowKit Go.Proofs.YthcfbjllohmfoaaDoorW.PrintWords Go.Proofs.YthcfbjllohmfoaaDoorW.PrintLast Go.Proofs.YthcfbjllohmfoaaDoorW.PrintMore Go.Proofs.YthcfbjllohmfoaaDoor.PDS Go.Proofs.YthcfbjllohmfoaaDoor.DocP Go.Proofs.YthcfbjllohmfoaaDoor.DocC
attribute [local go_sem] max2_int min2_int max_two min_two max_three min_three max_four min_four
set_option linter.unusedVariables false
set_option linter.unusedSimpArgs false

theorem begun_calls (w : World) : Calls Tryd.prog 6 #[] w fun e w' => e = .returned (.bool true) ∧ Below w.heap.size w w' :=
  clerestorykeep1_domBegun.calls 60 true w (by kernel_rfl)
theorem attr_heap : Kd.Heap k56 := Kd.heap_iso _ (Kd.heap_pair Kd.heap_string Kd.heap_string)
theorem node_heap : Kd.Heap k35 := Kd.heap_iso _ (Kd.heap_pair (Kd.heap_int .i64) (Kd.heap_pair Kd.heap_string (Kd.heap_pair (Kd.heap_slice 56 attr_heap) (Kd.heap_pair Kd.heap_string (Kd.heap_pair (Kd.heap_int .i64) (Kd.heap_slice 3 (Kd.heap_int .i64)))))))
/-- A document that lies apart from box g. -/
def Dv (W : World) (g : Nat) (A : Option Addr) (n c : Nat) (l : List S35) : Prop := n = l.length ∧ n ≤ c ∧ ∃ ok : Nat → Prop, (∀ k, ok k → k ≠ g) ∧ Kd.F k35 W ok A l.length l
theorem Dv.reads {W : World} {g : Nat} {A : Option Addr} {n c : Nat} {l : List S35} (h : Dv W g A n c l) : Kd.C k35 W A l.length l ∧ l.length ≤ c := by
  obtain ⟨h1, h2, ok, h3, h4⟩ := h
  exact ⟨Kd.F_now h4, by omega⟩
theorem Dv.below {W W' : World} {g : Nat} {A : Option Addr} {n c : Nat} {l : List S35} (h : Dv W g A n c l) (hb : Below W.heap.size W W') : Dv W' g A n c l := by
  obtain ⟨h1, h2, ok, h3, h4⟩ := h
  exact ⟨h1, h2, ok, h3, Kd.F_below h4 hb⟩
theorem Dv.set {W : World} {g : Nat} {A : Option Addr} {n c : Nat} {l : List S35} (h : Dv W g A n c l) (i : Nat) (u : Value) : Dv (W.setCell ⟨g, i, none⟩ u) g A n c l := by
  obtain ⟨h1, h2, ok, h3, h4⟩ := h
  exact ⟨h1, h2, ok, h3, Kd.F_far (p := ⟨g, i, none⟩) h4 (fun k hk => h3 k hk) u⟩
theorem Dv.over {W W' : World} {g g' : Nat} {A : Option Addr} {n c : Nat} {l : List S35} (h : Dv W g A n c l) (hb : Below W.heap.size W W') (hg : W.heap.size ≤ g') (i j : Nat) (u v : Value) : Dv ((W'.setCell ⟨g', i, none⟩ u).setCell ⟨g', j, none⟩ v) g A n c l := by
  obtain ⟨h1, h2, ok, h3, h4⟩ := h
  have hne : ∀ k, ok k ∧ k < W.heap.size → k ≠ g' := fun k hk => by have := hk.2; omega
  exact ⟨h1, h2, _, fun k hk => h3 k hk.1, Kd.F_far (p := ⟨g', j, none⟩) (Kd.F_far (p := ⟨g', i, none⟩) (Kd.F_below (Kd.F_bound h4) hb) hne u) hne v⟩
theorem check_calls {l : List S35} {q : Bool} {r : Int} (h : Ev (fun k => dom_Check.f k l q) r) {A : Option Addr} {c : Nat} (W : World) (hr : Kd.C k35 W A l.length l) (hc : l.length ≤ c) :
    Calls Tryd.prog 5 #[.agg #[.slice A l.length c, .bool q]] W fun e w' => e = .returned (.int .i64 r) ∧ Below W.heap.size W w' := by
  obtain ⟨k, hk⟩ := Ev.rounds h
  exact dom_Check.calls k A c l q r W hr hc hk
theorem few_at (l : List S35) (q : Bool) : clerestorykeep1_few.f l q 60 = some (l.take (mn (l.length : Int) 60).toNat, q) := by
  unfold clerestorykeep1_few.f
  have h1 : 0 ≤ mn (l.length : Int) 60 := by unfold mn; split <;> omega
  have h2 : mn (l.length : Int) 60 ≤ (l.length : Int) := by unfold mn; split <;> omega
  rw [if_pos h1, if_pos h2]
/-- What the law starts with: the document, cut. -/
theorem few_calls (l : List S35) (q : Bool) (A : Option Addr) (c g : Nat) (w W : World) (hr : Kd.C k35 w A l.length l) (hc : l.length ≤ c) (hb : Below w.heap.size w W) (hg : w.heap.size ≤ g) (hgW : g < W.heap.size) :
    Calls Tryd.prog 4 #[.agg #[.slice A l.length c, .bool q], .int .i64 60] W fun e w' => ∃ A' n' c', e = .returned (.agg #[.slice A' n' c', .bool q]) ∧ Dv w' g A' n' c' (l.take (mn (l.length : Int) 60).toNat) ∧ Below W.heap.size W w' := by
  refine (clerestorykeep1_few.calls (fun k_ => k_ < w.heap.size) A c l q 60 _ q W (Kd.V_mk hc (Kd.F_below (Kd.C_F node_heap hr) hb)) (few_at l q)).mono ?_
  rintro e w' ⟨v, rfl, hv, hb'⟩
  obtain ⟨A', c', rfl⟩ := Kd.V_slice hv
  have h := Kd.V_at hv
  exact ⟨A', _, c', rfl, ⟨rfl, h.2.1, _, fun k hk => by omega, h.2.2⟩, hb'⟩
theorem fit_cut {l : List S35} (h : Fit l) (n : Nat) : Fit (l.take n) := fun i => by
  by_cases hi : i.toNat < n
  · have e : rd_T35 (l.take n) i = rd_T35 l i := by
      unfold rd_T35
      rw [List.getD_eq_getElem?_getD, List.getD_eq_getElem?_getD, List.getElem?_take, if_pos hi]
    show ((rd_T35 (l.take n) i).f5).length ≤ _
    rw [e]
    exact h i
  · show ((rd_T35 (l.take n) i).f5).length ≤ _
    unfold rd_T35
    rw [List.getD_eq_getElem?_getD, List.getElem?_take, if_neg hi]
    decide
theorem fit_ok {l : List S35} (h : DocOk l) : Fit l := fun i => by
  have key : ∀ j : Int, In l.length j → (kids l j).length ≤ 9223372036854775807 := fun j hj => Nat.le_trans (h.kids_le hj) (by decide)
  by_cases hi : i.toNat < l.length
  · have e : kids l i = kids l ((i.toNat : Nat) : Int) := by
      show (rd_T35 l i).f5 = (rd_T35 l ((i.toNat : Nat) : Int)).f5
      rw [rd_same l (i := ((i.toNat : Nat) : Int)) (j := i) (by omega)]
    rw [e]
    exact key _ ⟨by omega, by omega⟩
  · show ((rd_T35 l i).f5).length ≤ _
    unfold rd_T35
    rw [List.getD_eq_getElem?_getD, List.getElem?_eq_none (by omega)]
    decide
/-- What lies at the loop's head. -/
structure StI (w W : World) (A : Option Addr) (n c : Nat) (q : Bool) (l : List S35) : Prop where
  box : W.heap[w.heap.size]? = some (.cells #[.slice A n c, .bool q] 24 (0, 0))
  dv : Dv W w.heap.size A n c l
  below : Below w.heap.size w W
  ok : DocOk l
theorem StI.on {w W W' : World} {A : Option Addr} {n c : Nat} {q : Bool} {l : List S35} (h : StI w W A n c q l) (hb : Below W.heap.size W W') : StI w W' A n c q l :=
  ⟨blk_below h.box hb, h.dv.below hb, h.below.trans (hb.mono h.below.size), h.ok⟩
/-- A document that lies between two places. -/
def Dw (W : World) (lo hi : Nat) (A : Option Addr) (n c : Nat) (l : List S35) : Prop := n = l.length ∧ n ≤ c ∧ Kd.F k35 W (fun k => lo ≤ k ∧ k < hi) A l.length l
theorem Dw.below {W W' : World} {lo hi : Nat} {A : Option Addr} {n c : Nat} {l : List S35} (h : Dw W lo hi A n c l) (hb : Below W.heap.size W W') : Dw W' lo hi A n c l := ⟨h.1, h.2.1, Kd.F_below h.2.2 hb⟩
theorem Dw.set {W : World} {lo hi : Nat} {A : Option Addr} {n c g : Nat} {l : List S35} (h : Dw W lo hi A n c l) (hg : g < lo ∨ hi ≤ g) (i : Nat) (u : Value) : Dw (W.setCell ⟨g, i, none⟩ u) lo hi A n c l :=
  ⟨h.1, h.2.1, Kd.F_far (p := ⟨g, i, none⟩) h.2.2 (fun k hk => by have h1 := hk.1; have h2 := hk.2; show k ≠ g; omega) u⟩
theorem Dw.dv {W : World} {lo hi : Nat} {A : Option Addr} {n c g : Nat} {l : List S35} (h : Dw W lo hi A n c l) (hg : g < lo) : Dv W g A n c l := ⟨h.1, h.2.1, _, fun k hk => by have := hk.1; omega, h.2.2⟩
/-- What Apply comes to. -/
structure ApR (l l2 : List S35) (q q2 : Bool) (made er : Int) : Prop where
  ok : er = 0 → q2 = q ∧ DocOk l2 ∧ Keeps l l2 ∧ (made = 0 ∨ made = (l2.length : Int) - 1)
  bad : er ≠ 0 → l2 = [] ∧ made = 0
theorem apply_calls {l : List S35} (h : DocOk l) (q : Bool) (e : S37) : ∃ l2 q2 made er, ApR l l2 q q2 made er ∧ ∀ (A A8 A11 : Option Addr) (c c8 c11 : Nat) (W : World), Kd.C k35 W A l.length l → l.length ≤ c → Kd.C k56 W A8 e.f6.f2.length e.f6.f2 → e.f6.f2.length ≤ c8 → Kd.C (Kd.int .i64) W A11 e.f6.f5.length e.f6.f5 → e.f6.f5.length ≤ c11 →
    Calls Tryd.prog 7 #[.agg #[.slice A l.length c, .bool q], .agg #[.int .i64 e.f0, .int .i64 e.f1, .int .i64 e.f2, .int .i64 e.f3, .string e.f4, .string e.f5, .int .i64 e.f6.f0, .string e.f6.f1, .slice A8 e.f6.f2.length c8, .string e.f6.f3, .int .i64 e.f6.f4, .slice A11 e.f6.f5.length c11]] W fun u w' => ∃ A' n' c', u = .returned (.tuple #[.agg #[.slice A' n' c', .bool q2], .int .i64 made, .int .i64 er]) ∧ Dw w' W.heap.size w'.heap.size A' n' c' l2 ∧ Below W.heap.size W w' := by
  obtain ⟨r, l', m, h1, h2⟩ := apply_good (q := q) h e
  have hC : ∀ (l2 : List S35) (q2 : Bool) (made er : Int), Ev (fun k => dom_Apply.f k l q e.f0 e.f1 e.f2 e.f3 e.f4 e.f5 e.f6.f0 e.f6.f1 e.f6.f2 e.f6.f3 e.f6.f4 e.f6.f5) (l2, q2, made, er) → ∀ (A A8 A11 : Option Addr) (c c8 c11 : Nat) (W : World), Kd.C k35 W A l.length l → l.length ≤ c → Kd.C k56 W A8 e.f6.f2.length e.f6.f2 → e.f6.f2.length ≤ c8 → Kd.C (Kd.int .i64) W A11 e.f6.f5.length e.f6.f5 → e.f6.f5.length ≤ c11 →
      Calls Tryd.prog 7 #[.agg #[.slice A l.length c, .bool q], .agg #[.int .i64 e.f0, .int .i64 e.f1, .int .i64 e.f2, .int .i64 e.f3, .string e.f4, .string e.f5, .int .i64 e.f6.f0, .string e.f6.f1, .slice A8 e.f6.f2.length c8, .string e.f6.f3, .int .i64 e.f6.f4, .slice A11 e.f6.f5.length c11]] W fun u w' => ∃ A' n' c', u = .returned (.tuple #[.agg #[.slice A' n' c', .bool q2], .int .i64 made, .int .i64 er]) ∧ Dw w' W.heap.size w'.heap.size A' n' c' l2 ∧ Below W.heap.size W w' := fun l2 q2 made er hev A A8 A11 c c8 c11 W hr hc h8 l8 h11 l11 => by
    obtain ⟨k, hk⟩ := Ev.rounds hev
    refine (dom_Apply.calls k A c l q e.f0 e.f1 e.f2 e.f3 e.f4 e.f5 e.f6.f0 e.f6.f1 A8 c8 e.f6.f2 e.f6.f3 e.f6.f4 A11 c11 e.f6.f5 l2 q2 made er W hr hc h8 l8 h11 l11 hk).mono ?_
    rintro u w' ⟨v, rfl, hS, hb⟩
    obtain ⟨A', c', rfl⟩ := Kd.S_slice hS
    have h1 := Kd.S_V (base' := 0) (Kd.S_mono (ok' := fun k => W.heap.size ≤ k ∧ k < w'.heap.size) (Kd.S_bound hS) (fun k hk => ⟨hk.2.1, hk.2.2.1⟩))
    exact ⟨A', _, c', rfl, ⟨rfl, (Kd.V_at h1).2.1, (Kd.V_at h1).2.2⟩, hb⟩
  by_cases hr : r = 0
  · rw [if_pos hr] at h1
    refine ⟨l', q, m, 0, ⟨fun _ => ⟨rfl, (h2 hr).1, (h2 hr).2.1, ?_⟩, fun h => absurd rfl h⟩, hC _ _ _ _ h1⟩
    rcases (h2 hr).2.2 with ⟨g1, g2⟩ | ⟨g1, g2⟩
    · exact .inl g1
    · exact .inr (by rw [g1, g2]; omega)
  · rw [if_neg hr] at h1
    exact ⟨[], false, 0, r, ⟨fun h => absurd h hr, fun _ => ⟨rfl, rfl⟩⟩, hC _ _ _ _ h1⟩
/-- What lies ready behind Apply. -/
structure StX (w W : World) (g : Nat) (A A' : Option Addr) (n c n' c' : Nat) (q q2 : Bool) (l l2 : List S35) : Prop where
  old : StI w W A n c q l
  box : W.heap[g]? = some (.cells #[.slice A' n' c', .bool q2] 24 (0, 0))
  dv : Dv W w.heap.size A' n' c' l2
  ne : g ≠ w.heap.size
theorem StX.on {w W W' : World} {g : Nat} {A A' : Option Addr} {n c n' c' : Nat} {q q2 : Bool} {l l2 : List S35} (h : StX w W g A A' n c n' c' q q2 l l2) (hb : Below W.heap.size W W') : StX w W' g A A' n c n' c' q q2 l l2 :=
  ⟨h.old.on hb, blk_below h.box hb, h.dv.below hb, h.ne⟩
def T1 : Bool × List (List Nat × List Nat) := (true, [([], []), ([0], [0]), ([], []), ([], []), ([3], [3]), ([4], [4]), ([2, 5], [2, 5]), ([1, 1, 0, 1], [1]), ([6, 7, 0, 1, 2, 3, 4, 5, 6, 7], [2, 3, 6])])
def B1 : List Nat := [0, 1, 0, 0, 8, 24, 60, 3, 255]
theorem tab1 : rtab .any (opsOf Tryd.f3 1) = T1 ∧ waitsOk T1.2 B1 = true := ⟨by kernel_rfl, by kernel_rfl⟩
def T7 : Bool × List (List Nat × List Nat) := (true, [([], []), ([], []), ([], []), ([1, 2], [1, 2]), ([3], [3]), ([0, 4], [0, 4]), ([5], [5]), ([6], [6]), ([6], [6]), ([6], [6]), ([], []), ([10, 7, 5, 0, 1, 2, 3, 4, 5, 6, 7, 10], [7, 10]), ([8, 11, 0, 1, 2, 3, 4, 5, 6, 7, 8, 10, 11], [8]), ([9, 12, 0, 1, 2, 3, 4, 5, 6, 7, 8, 9, 10, 11, 12], [9])])
def B7 : List Nat := [0, 0, 0, 6, 14, 31, 63, 127, 127, 127, 0, 1279, 3583, 8191]
theorem tab7 : rtab .any (opsOf Tryd.f3 7) = T7 ∧ waitsOk T7.2 B7 = true := ⟨by kernel_rfl, by kernel_rfl⟩
set_option maxRecDepth 100000 in
set_option maxHeartbeats 8000000 in
theorem stays (A0 : Option Addr) (c0 : Nat) (l0 : List S35) (q : Bool) (A1 : Option Addr) (c1 : Nat) (es : List S37) (w : World) (hfit : Fit l0) (hr0 : Kd.C k35 w A0 l0.length l0) (hc0 : l0.length ≤ c0) (hr1 : Kd.C k37 w A1 es.length es) (hc1 : es.length ≤ c1) :
    Calls Tryd.prog 3 #[.agg #[.slice A0 l0.length c0, .bool q], .slice A1 es.length c1] w fun e w' => e = .returned (.bool true) ∧ Below w.heap.size w w' := by
  obtain ⟨n0, hn0⟩ : ∃ n0, n0 = l0.length := ⟨_, rfl⟩
  obtain ⟨m1, hm1⟩ : ∃ m1, m1 = es.length := ⟨_, rfl⟩
  have hm1s : (m1 : Int) ≤ 9223372036854775807 := by have := hr1.2.1; omega
  obtain ⟨l1, hl1⟩ : ∃ l1, l1 = l0.take (mn (l0.length : Int) 60).toNat := ⟨_, rfl⟩
  have hf1 : Fit l1 := by rw [hl1]; exact fit_cut hfit _
  obtain ⟨ck, hck, _⟩ := check_ev l1 q hf1
  have HD : Hid (ck = 0 → DocOk l1) := Lib.hid (fun h => by subst h; exact check_doc hck hf1)
  have HF : Hid (∀ W : World, Below w.heap.size w W → w.heap.size < W.heap.size → Calls Tryd.prog 4 #[.agg #[.slice A0 n0 c0, .bool q], .int .i64 60] W fun e w' => ∃ A' n' c', e = .returned (.agg #[.slice A' n' c', .bool q]) ∧ Dv w' w.heap.size A' n' c' l1 ∧ Below W.heap.size W w') :=
    Lib.hid (by rw [hn0, hl1]; exact fun W hb hlt => few_calls l0 q A0 c0 w.heap.size w W hr0 hc0 hb (Nat.le_refl _) hlt)
  have HCk : Hid (∀ (W : World) (A : Option Addr) (n c : Nat), Dv W w.heap.size A n c l1 → Calls Tryd.prog 5 #[.agg #[.slice A n c, .bool q]] W fun e w' => e = .returned (.int .i64 ck) ∧ Below W.heap.size W w') :=
    Lib.hid (fun W A n c h => by rw [h.1]; exact check_calls hck W h.reads.1 h.reads.2)
  have HR1 := Lib.hid hr1
  have HBg := Lib.hid begun_calls
  have HM := Lib.hid hm1
  have hmc : (m1 : Int) ≤ (c1 : Int) := by omega
  rw [← hn0, ← hm1]
  clear hfit hr0 hc0 hr1 hc1 hn0 hm1 hl1 hf1 hck
  go_enter Tryd.func3, Tryd.ntmps3
  go_upto_region 1 with fail
  have hgb : w.heap.size < (w.alloc (.cells #[.slice A0 n0 c0, .bool q] 24)).heap.size := by simp
  have hbox : (w.alloc (.cells #[.slice A0 n0 c0, .bool q] 24)).heap[w.heap.size]? = some (.cells #[.slice A0 n0 c0, .bool q] 24 (0, 0)) := blk_new w _
  have hb0 : Below w.heap.size w (w.alloc (.cells #[.slice A0 n0 c0, .bool q] 24)) := below_alloc (Below.refl _ _) _
  obtain ⟨jn, hjn⟩ : ∃ jn : Nat, (jn : Int) = (if 30 < (m1 : Int) then 30 else (m1 : Int)) := ⟨(if 30 < (m1 : Int) then 30 else (m1 : Int)).toNat, by split <;> omega⟩
  have hjm : jn ≤ m1 := by split at hjn <;> omega
  have hjc : jn ≤ c1 := by omega
  have HJn := Lib.hid hjn
  clear hjn
  generalize w.alloc (.cells #[.slice A0 n0 c0, .bool q] 24) = w1 at hgb hbox hb0 ⊢
  go_cut [1] (fun s1 wx => s1 = .slice A1 jn c1 ∧ ∃ A' n' c', Hid (wx.heap[w.heap.size]? = some (.cells #[.slice A' n' c', .bool q] 24 (0, 0)) ∧ Dv wx w.heap.size A' n' c' l1 ∧ Below w.heap.size w wx))
  case first =>
    -- [R1
    refine start_ (n := 9) (S := fun w' => w'.cell? ⟨w.heap.size, 0, none⟩ = some (.slice A0 n0 c0) ∧ w'.cell? ⟨w.heap.size, 1, none⟩ = some (.bool q)) (ds := [7]) #[false, false, false, false, false, false, false, false, false] (by kernel_rfl) rfl rfl ⟨(blk_cell hbox 0).trans rfl, (blk_cell hbox 1).trans rfl⟩ (fun hHeld => ?_)
    refine with_tabW tab1.1 tab1.2 (fun HT_ HW_ => ?_)
    have hbox1 := blk_drew hbox
    have hbw : Below w.heap.size w w1.drew := below_drew hb0
    have hgs : w.heap.size < w1.drew.heap.size := hgb
    generalize w1.drew = w2 at hHeld hbox1 hbw hgs ⊢
    clear hbox hb0 hgb
    have hji : (if 30 < (m1 : Int) then 30 else (m1 : Int)) = (jn : Int) := HJn.out.symm
    obtain ⟨i0, hi0, _, _, _⟩ := info_parts info37
    have hcut := cut_to (P := Tryd.prog) 25 37 .i64 Tryd.underlying25 hi0 A1 m1 c1 (jn : Int) (Int.natCast_nonneg jn) (Int.ofNat_le.2 hjm) (Int.ofNat_le.1 hmc)
    rw [Int.toNat_natCast] at hcut
    refine pure_ (i := 2) (N := some 12) (v := ?_) (a' := ?_) #[false, false, true, false, false, false, false, false, false] rfl rfl (any_of HT_.out (by kernel_rfl)) (fun _ _ _ h => h) (Or.inl ⟨by rfl, ?_⟩) ?_ ?_
    rotate_left
    · intro w'
      go_simp
      with_reducible rfl
    rotate_left
    · simp only [Act.put, List.setIfInBounds_toArray, List.set_cons_zero, List.set_cons_succ, i64_w, i32_w]
      rfl
    refine pure_ (i := 3) (N := some 13) (v := ?_) (a' := ?_) #[false, false, true, true, false, false, false, false, false] rfl rfl (any_of HT_.out (by kernel_rfl)) (fun _ _ _ h => h) (Or.inl ⟨by rfl, ?_⟩) ?_ ?_
    rotate_left
    · intro w'
      go_simp
      with_reducible rfl
    rotate_left
    · simp only [Act.put, List.setIfInBounds_toArray, List.set_cons_zero, List.set_cons_succ, i64_w, i32_w]
      rfl
    refine pure_ (i := 4) (N := some 14) (v := ?_) (a' := ?_) #[false, false, true, true, true, false, false, false, false] rfl rfl (any_of HT_.out (by kernel_rfl)) (fun _ _ _ h => h) (Or.inl ⟨by rfl, ?_⟩) ?_ ?_
    rotate_left
    · intro w'
      go_simp
      with_reducible rfl
    rotate_left
    · simp only [Act.put, List.setIfInBounds_toArray, List.set_cons_zero, List.set_cons_succ, i64_w, i32_w]
      rfl
    refine pure_ (i := 5) (N := some 15) (v := ?_) (a' := ?_) #[false, false, true, true, true, true, false, false, false] rfl rfl (any_of HT_.out (by kernel_rfl)) (fun _ _ _ h => h) (Or.inl ⟨by rfl, ?_⟩) ?_ ?_
    rotate_left
    · intro w'
      go_simp
      with_reducible rfl
    rotate_left
    · simp only [Act.put, List.setIfInBounds_toArray, List.set_cons_zero, List.set_cons_succ, i64_w, i32_w]
      rfl
    refine pure_ (i := 6) (N := some 16) (v := ?_) (a' := ?_) #[false, false, true, true, true, true, true, false, false] rfl rfl (any_of HT_.out (by kernel_rfl)) (fun _ _ _ h => h) (Or.inl ⟨by rfl, ?_⟩) ?_ ?_
    rotate_left
    · intro w'
      go_simp
      with_reducible rfl
    rotate_left
    · simp only [Act.put, List.setIfInBounds_toArray, List.set_cons_zero, List.set_cons_succ, i64_w, i32_w]
      rfl
    refine take_ (i := 0) (N := some 10) (v := ?_) (a' := ?_) #[true, false, true, true, true, true, true, false, false] rfl rfl (take_ofW HT_.out HW_.out (by kernel_rfl)) (fun _ _ _ h => h) (Or.inl ⟨by rfl, ?_⟩) hHeld ?_ ?_
    rotate_left
    · rintro w' ⟨s0, s1⟩
      go_simp
      with_reducible rfl
    rotate_left
    · simp only [Act.put, List.setIfInBounds_toArray, List.set_cons_zero, List.set_cons_succ, i64_w, i32_w]
      rfl
    refine one_ (i := 1) (N := some 11) #[true, true, true, true, true, true, true, false, false] rfl rfl (one_of HT_.out (by kernel_rfl)) (by decide) (fun K hK => ?_)
    refine goes_ Tryd.func4 (by kernel_rfl) rfl #[.agg #[.slice A0 n0 c0, .bool q], .int .i64 60] (by rfl) rfl rfl (by (try simp only [List.map_toArray, List.map_cons, List.map_nil]); first | done | rfl) ?_
    refine (HF.out w2 hbw hgs).mono ?_
    rintro u w3 ⟨A', n', c', rfl, hD, hb3⟩
    refine ⟨_, rfl, ?_⟩
    have hbox3 := blk_below hbox1 hb3
    refine hK.out _ _ ⟨(blk_cell hbox3 0).trans rfl, (blk_cell hbox3 1).trans rfl⟩ (fun hHeld => ?_)
    clear hK K
    refine norm_ (a' := ?_) ?_ ?_
    rotate_left
    · show Act.put _ (some 11) _ = _
      simp only [Act.put, List.setIfInBounds_toArray, List.set_cons_zero, List.set_cons_succ, i64_w, i32_w]
      rfl
    refine last_ (i := 7) (N := none) #[true, true, true, true, true, true, true, true, false] rfl rfl (one_of HT_.out (by kernel_rfl)) (by decide) (fun K hK => ?_)
    have hs0 : w3.cell? ⟨w.heap.size, 0, none⟩ = some (.slice A0 n0 c0) := (blk_cell hbox3 0).trans rfl
    have hf0 := blk_frozen hbox3 0
    have hs1 : w3.cell? ⟨w.heap.size, 1, none⟩ = some (.bool q) := (blk_cell hbox3 1).trans rfl
    have hf1 := blk_frozen hbox3 1
    refine skip_ (w1 := ?_) (by rfl) rfl ?_ ?_
    rotate_left
    · go_simp
      rfl
    refine hK.out _ _ ?_
    clear hK K
    refine pure_ (i := 8) (N := some 1) (v := ?_) (a' := ?_) #[true, true, true, true, true, true, true, true, true] rfl rfl (any_of HT_.out (by kernel_rfl)) (fun _ _ _ h => h) (Or.inl ⟨by rfl, ?_⟩) ?_ ?_
    rotate_left
    · intro w'
      go_simp
      with_reducible rfl
    rotate_left
    · simp only [Act.put, List.setIfInBounds_toArray, List.set_cons_zero, List.set_cons_succ, i64_w, i32_w]
      rfl
    refine done_ (done_of HT_.out (by kernel_rfl)) ?_
    go_wp2_with fail
    go_meet
    exact ⟨rfl, A', n', c', Lib.hid ⟨blk_put (blk_put (cs' := #[.slice A' n' c', .bool q]) hbox3 0 _ rfl) 1 _ rfl, (hD.set 0 _).set 1 _, ((hbw.trans (hb3.mono hbw.size)).setCell (Nat.le_refl _) _).setCell (Nat.le_refl _) _⟩⟩
    -- R1]
  case rest =>
    obtain ⟨rfl, A', n', c', HX⟩ := hcut
    rename_i wc hcw
    clear HF hgb hbox hb0
    have b0 := (blk_cell HX.out.1 0).trans rfl
    have b1 := (blk_cell HX.out.1 1).trans rfl
    go_wp2_with fail
    refine (HCk.out wc A' n' c' HX.out.2.1).mono ?_
    rintro u w2 ⟨rfl, hb2⟩
    have HX2 := Lib.hid (⟨blk_below HX.out.1 hb2, HX.out.2.1.below hb2, HX.out.2.2.trans (hb2.mono HX.out.2.2.size)⟩ : w2.heap[w.heap.size]? = some (.cells #[.slice A' n' c', .bool q] 24 (0, 0)) ∧ Dv w2 w.heap.size A' n' c' l1 ∧ Below w.heap.size w w2)
    clear HX HCk b0 b1 hb2
    by_cases hck : ck = 0
    case neg =>
      have hckb : (ck != 0) = true := by simpa using hck
      have hckb2 : (ck == 0) = false := by simpa using hck
      go_wp2_with fail
      refine (HBg.out w2).mono ?_
      rintro u w3 ⟨rfl, hb3⟩
      go_wp2_with fail
      go_ret
      exact ⟨rfl, HX2.out.2.2.trans (hb3.mono HX2.out.2.2.size)⟩
    case pos =>
      subst hck
      have HI : Hid (StI w w2 A' n' c' q l1) := Lib.hid ⟨HX2.out.1, HX2.out.2.1, HX2.out.2.2, HD.out rfl⟩
      clear HX2 HD
      go_wp2_with fail
      go_loopw [5] (fun i wr => ∃ (t : Nat) (A : Option Addr) (n c : Nat) (l : List S35), t ≤ jn ∧ i = .int .i64 t ∧ Hid (StI w wr A n c q l)) (fun i _ => jn - (intOf i).toNat)
      case atStart => exact ⟨0, A', n', c', l1, Nat.zero_le _, rfl, HI⟩
      case round =>
        obtain ⟨t, A, n, c, l, ht, rfl, HS⟩ := hrel
        clear HI
        by_cases hlt : t < jn
        · obtain ⟨ad, A8, c8, A11, c11, eA, d0, d1, d2, d3, d4, d5, d6, d7, d8, d9, d10, d11, l8, h8, l11, h11⟩ := at_T37 HR1.out (t : Int) (by omega) (by have := HM.out; omega)
          rw [Int.toNat_natCast] at d0 d1 d2 d3 d4 d5 d6 d7 d8 d9 d10 d11
          generalize rd_T37 es (t : Int) = e at d0 d1 d2 d3 d4 d5 d6 d7 d8 d9 d10 d11 l8 h8 l11 h11
          obtain ⟨l2, q2, made, er, hR, hAp⟩ := apply_calls HS.out.ok q e
          obtain ⟨n8, hn8⟩ : ∃ n8, n8 = e.f6.f2.length := ⟨_, rfl⟩
          obtain ⟨n11, hn11⟩ : ∃ n11, n11 = e.f6.f5.length := ⟨_, rfl⟩
          have HAp : Hid (∀ W : World, Below wr.heap.size wr W → Calls Tryd.prog 7 #[.agg #[.slice A n c, .bool q], .agg #[.int .i64 e.f0, .int .i64 e.f1, .int .i64 e.f2, .int .i64 e.f3, .string e.f4, .string e.f5, .int .i64 e.f6.f0, .string e.f6.f1, .slice A8 n8 c8, .string e.f6.f3, .int .i64 e.f6.f4, .slice A11 n11 c11]] W fun u w' => ∃ A' n' c', u = .returned (.tuple #[.agg #[.slice A' n' c', .bool q2], .int .i64 made, .int .i64 er]) ∧ Dw w' W.heap.size w'.heap.size A' n' c' l2 ∧ Below W.heap.size W w') := Lib.hid (by
            rw [hn8, hn11]
            intro W hb
            have hS := HS.out.on hb
            rw [hS.dv.1]
            exact hAp A A8 A11 c c8 c11 W hS.dv.reads.1 hS.dv.reads.2 (Kd.C_below h8 hS.below) l8 (Kd.C_below h11 hS.below) l11)
          rw [← hn8] at d8
          rw [← hn11] at d11
          have HE : Hid (∀ W : World, Below wr.heap.size wr W → W.cell? ⟨w.heap.size, 0, none⟩ = some (.slice A n c) ∧ W.cell? ⟨w.heap.size, 1, none⟩ = some (.bool q) ∧ W.cell? (ad.add (t * 12)) = some (.int .i64 e.f0) ∧ W.cell? ⟨(ad.add (t * 12)).block, (ad.add (t * 12)).off + 1, none⟩ = some (.int .i64 e.f1) ∧ W.cell? ⟨(ad.add (t * 12)).block, (ad.add (t * 12)).off + 2, none⟩ = some (.int .i64 e.f2) ∧ W.cell? ⟨(ad.add (t * 12)).block, (ad.add (t * 12)).off + 3, none⟩ = some (.int .i64 e.f3) ∧ W.cell? ⟨(ad.add (t * 12)).block, (ad.add (t * 12)).off + 4, none⟩ = some (.string e.f4) ∧ W.cell? ⟨(ad.add (t * 12)).block, (ad.add (t * 12)).off + 5, none⟩ = some (.string e.f5) ∧ W.cell? ⟨(ad.add (t * 12)).block, (ad.add (t * 12)).off + 6, none⟩ = some (.int .i64 e.f6.f0) ∧ W.cell? ⟨(ad.add (t * 12)).block, (ad.add (t * 12)).off + 7, none⟩ = some (.string e.f6.f1) ∧ W.cell? ⟨(ad.add (t * 12)).block, (ad.add (t * 12)).off + 8, none⟩ = some (.slice A8 n8 c8) ∧ W.cell? ⟨(ad.add (t * 12)).block, (ad.add (t * 12)).off + 9, none⟩ = some (.string e.f6.f3) ∧ W.cell? ⟨(ad.add (t * 12)).block, (ad.add (t * 12)).off + 10, none⟩ = some (.int .i64 e.f6.f4) ∧ W.cell? ⟨(ad.add (t * 12)).block, (ad.add (t * 12)).off + 11, none⟩ = some (.slice A11 n11 c11)) :=
            Lib.hid (fun W hb => by
              have hS := HS.out.on hb
              exact ⟨(blk_cell hS.box 0).trans rfl, (blk_cell hS.box 1).trans rfl, pw_cell_below hS.below d0, pw_cell_below hS.below d1, pw_cell_below hS.below d2, pw_cell_below hS.below d3, pw_cell_below hS.below d4, pw_cell_below hS.below d5, pw_cell_below hS.below d6, pw_cell_below hS.below d7, pw_cell_below hS.below d8, pw_cell_below hS.below d9, pw_cell_below hS.below d10, pw_cell_below hS.below d11⟩)
          have HR := Lib.hid hR
          have hwlt : w.heap.size < wr.heap.size := blk_lt HS.out.box
          subst eA
          clear d0 d1 d2 d3 d4 d5 d6 d7 d8 d9 d10 d11 l8 h8 l11 h11 hAp hn8 hn11 hR
          go_upto_region 7 with fail
          go_cut [6, 7, 8] (fun s6 s7 s8 wx => s7 = .int .i64 made ∧ s8 = .int .i64 er ∧ ∃ g A' n' c', s6 = .pointer (some ⟨g, 0, none⟩) ∧ Hid (StX w wx g A A' n c n' c' q q2 l l2))
          case first =>
            -- [R7
            refine start_ (n := 14) (S := fun w' => w'.cell? ⟨w.heap.size, 0, none⟩ = some (.slice A n c) ∧ w'.cell? ⟨w.heap.size, 1, none⟩ = some (.bool q) ∧ w'.cell? (ad.add (t * 12)) = some (.int .i64 e.f0) ∧ w'.cell? ⟨(ad.add (t * 12)).block, (ad.add (t * 12)).off + 1, none⟩ = some (.int .i64 e.f1) ∧ w'.cell? ⟨(ad.add (t * 12)).block, (ad.add (t * 12)).off + 2, none⟩ = some (.int .i64 e.f2) ∧ w'.cell? ⟨(ad.add (t * 12)).block, (ad.add (t * 12)).off + 3, none⟩ = some (.int .i64 e.f3) ∧ w'.cell? ⟨(ad.add (t * 12)).block, (ad.add (t * 12)).off + 4, none⟩ = some (.string e.f4) ∧ w'.cell? ⟨(ad.add (t * 12)).block, (ad.add (t * 12)).off + 5, none⟩ = some (.string e.f5) ∧ w'.cell? ⟨(ad.add (t * 12)).block, (ad.add (t * 12)).off + 6, none⟩ = some (.int .i64 e.f6.f0) ∧ w'.cell? ⟨(ad.add (t * 12)).block, (ad.add (t * 12)).off + 7, none⟩ = some (.string e.f6.f1) ∧ w'.cell? ⟨(ad.add (t * 12)).block, (ad.add (t * 12)).off + 8, none⟩ = some (.slice A8 n8 c8) ∧ w'.cell? ⟨(ad.add (t * 12)).block, (ad.add (t * 12)).off + 9, none⟩ = some (.string e.f6.f3) ∧ w'.cell? ⟨(ad.add (t * 12)).block, (ad.add (t * 12)).off + 10, none⟩ = some (.int .i64 e.f6.f4) ∧ w'.cell? ⟨(ad.add (t * 12)).block, (ad.add (t * 12)).off + 11, none⟩ = some (.slice A11 n11 c11)) (ds := [11]) #[false, false, false, false, false, false, false, false, false, false, false, false, false, false] (by kernel_rfl) rfl rfl (HE.out _ (below_drew (Below.refl _ _))) (fun hHeld => ?_)
            refine with_tabW tab7.1 tab7.2 (fun HT_ HW_ => ?_)
            have hb1 := below_drew (Below.refl wr.heap.size wr)
            generalize wr.drew = w3 at hHeld hb1 ⊢
            refine pure_ (i := 1) (N := some 29) (v := ?_) (a' := ?_) #[false, true, false, false, false, false, false, false, false, false, false, false, false, false] rfl rfl (any_of HT_.out (by kernel_rfl)) (fun _ _ _ h => h) (Or.inl ⟨by rfl, ?_⟩) ?_ ?_
            rotate_left
            · intro w'
              go_simp
              with_reducible rfl
            rotate_left
            · simp only [Act.put, List.setIfInBounds_toArray, List.set_cons_zero, List.set_cons_succ, i64_w, i32_w]
              rfl
            refine pure_ (i := 2) (N := some 30) (v := ?_) (a' := ?_) #[false, true, true, false, false, false, false, false, false, false, false, false, false, false] rfl rfl (any_of HT_.out (by kernel_rfl)) (fun _ _ _ h => h) (Or.inl ⟨by rfl, ?_⟩) ?_ ?_
            rotate_left
            · intro w'
              go_simp
              with_reducible rfl
            rotate_left
            · simp only [Act.put, List.setIfInBounds_toArray, List.set_cons_zero, List.set_cons_succ, i64_w, i32_w]
              rfl
            refine pure_ (i := 3) (N := some 31) (v := ?_) (a' := ?_) #[false, true, true, true, false, false, false, false, false, false, false, false, false, false] rfl rfl (any_of HT_.out (by kernel_rfl)) (fun _ _ _ h => h) (Or.inl ⟨by rfl, ?_⟩) ?_ ?_
            rotate_left
            · intro w'
              go_simp
              with_reducible rfl
            rotate_left
            · simp only [Act.put, List.setIfInBounds_toArray, List.set_cons_zero, List.set_cons_succ, i64_w, i32_w]
              rfl
            refine take_ (i := 0) (N := some 28) (v := ?_) (a' := ?_) #[true, true, true, true, false, false, false, false, false, false, false, false, false, false] rfl rfl (take_ofW HT_.out HW_.out (by kernel_rfl)) (fun _ _ _ h => h) (Or.inl ⟨by rfl, ?_⟩) hHeld ?_ ?_
            rotate_left
            · rintro w' ⟨s0, s1, s2, s3, s4, s5, s6, s7, s8, s9, s10, s11, s12, s13⟩
              go_simp
              with_reducible rfl
            rotate_left
            · simp only [Act.put, List.setIfInBounds_toArray, List.set_cons_zero, List.set_cons_succ, i64_w, i32_w]
              rfl
            refine take_ (i := 4) (N := some 32) (v := ?_) (a' := ?_) #[true, true, true, true, true, false, false, false, false, false, false, false, false, false] rfl rfl (take_ofW HT_.out HW_.out (by kernel_rfl)) (fun _ _ _ h => h) (Or.inl ⟨by rfl, ?_⟩) hHeld ?_ ?_
            rotate_left
            · rintro w' ⟨s0, s1, s2, s3, s4, s5, s6, s7, s8, s9, s10, s11, s12, s13⟩
              go_simp
              with_reducible rfl
            rotate_left
            · simp only [Act.put, List.setIfInBounds_toArray, List.set_cons_zero, List.set_cons_succ, i64_w, i32_w]
              rfl
            refine two_ (i := 5) (j := 10) (Ni := some 33) (Nj := some 6) #[true, true, true, true, true, true, false, false, false, false, false, false, false, false] #[true, true, true, true, true, false, false, false, false, false, true, false, false, false] rfl rfl rfl rfl (two_of HT_.out (by kernel_rfl)) (by decide) (by decide) (fun K hK => ?_) (fun K hK => ?_)
            · skip
              refine goes_ Tryd.func7 (by kernel_rfl) rfl #[.agg #[.slice A n c, .bool q], .agg #[.int .i64 e.f0, .int .i64 e.f1, .int .i64 e.f2, .int .i64 e.f3, .string e.f4, .string e.f5, .int .i64 e.f6.f0, .string e.f6.f1, .slice A8 n8 c8, .string e.f6.f3, .int .i64 e.f6.f4, .slice A11 n11 c11]] (by rfl) rfl rfl (by (try simp only [List.map_toArray, List.map_cons, List.map_nil]); first | done | rfl) ?_
              refine (HAp.out w3 hb1).mono ?_
              rintro u w4 ⟨A2, n2, c2, rfl, hD, hbc⟩
              refine ⟨_, rfl, ?_⟩
              have hbr := hb1.trans (hbc.mono hb1.size)
              refine hK.out _ _ (HE.out _ hbr) (fun hHeld => ?_)
              clear hK K
              refine norm_ (a' := ?_) ?_ ?_
              rotate_left
              · show Act.put _ (some 33) _ = _
                simp only [Act.put, List.setIfInBounds_toArray, List.set_cons_zero, List.set_cons_succ, i64_w, i32_w]
                rfl
              refine pure_ (i := 6) (N := some 27) (v := ?_) (a' := ?_) #[true, true, true, true, true, true, true, false, false, false, false, false, false, false] rfl rfl (any_of HT_.out (by kernel_rfl)) (fun _ _ _ h => h) (Or.inl ⟨by rfl, ?_⟩) ?_ ?_
              rotate_left
              · intro w'
                go_simp
                with_reducible rfl
              rotate_left
              · simp only [Act.put, List.setIfInBounds_toArray, List.set_cons_zero, List.set_cons_succ, i64_w, i32_w]
                rfl
              refine pure_ (i := 7) (N := some 34) (v := ?_) (a' := ?_) #[true, true, true, true, true, true, true, true, false, false, false, false, false, false] rfl rfl (any_of HT_.out (by kernel_rfl)) (fun _ _ _ h => h) (Or.inl ⟨by rfl, ?_⟩) ?_ ?_
              rotate_left
              · intro w'
                go_simp
                with_reducible rfl
              rotate_left
              · simp only [Act.put, List.setIfInBounds_toArray, List.set_cons_zero, List.set_cons_succ, i64_w, i32_w]
                rfl
              refine pure_ (i := 8) (N := some 35) (v := ?_) (a' := ?_) #[true, true, true, true, true, true, true, true, true, false, false, false, false, false] rfl rfl (any_of HT_.out (by kernel_rfl)) (fun _ _ _ h => h) (Or.inl ⟨by rfl, ?_⟩) ?_ ?_
              rotate_left
              · intro w'
                go_simp
                with_reducible rfl
              rotate_left
              · simp only [Act.put, List.setIfInBounds_toArray, List.set_cons_zero, List.set_cons_succ, i64_w, i32_w]
                rfl
              refine pure_ (i := 9) (N := some 36) (v := ?_) (a' := ?_) #[true, true, true, true, true, true, true, true, true, true, false, false, false, false] rfl rfl (any_of HT_.out (by kernel_rfl)) (fun _ _ _ h => h) (Or.inl ⟨by rfl, ?_⟩) ?_ ?_
              rotate_left
              · intro w'
                go_simp
                with_reducible rfl
              rotate_left
              · simp only [Act.put, List.setIfInBounds_toArray, List.set_cons_zero, List.set_cons_succ, i64_w, i32_w]
                rfl
              refine one_ (i := 10) (N := some 6) #[true, true, true, true, true, true, true, true, true, true, true, false, false, false] rfl rfl (one_of HT_.out (by kernel_rfl)) (by decide) (fun K hK => ?_)
              refine box_step ?hg (N := 6) ?hd (cs := #[.slice none 0 0, .bool false]) (t := 24) ?hr ?_; (case hd => rfl); (case hg => rfl); (case hr => first | (go_simp; done) | (go_simp; rfl))
              intro g hg w5 hbox hbb
              replace hD := hD.below hbb
              replace hbr := hbr.trans (hbb.mono hbr.size)
              have hlo : w.heap.size < w3.heap.size := Nat.lt_of_lt_of_le hwlt hb1.size
              have hgr : g < w3.heap.size ∨ w4.heap.size ≤ g := .inr (Nat.le_of_eq hg.symm)
              have hgo : w3.heap.size ≤ g := by rw [hg]; exact hbc.size
              clear hg
              refine hK.out _ _ (HE.out _ hbr) (fun hHeld => ?_)
              clear hK K
              refine norm_ (a' := ?_) ?_ ?_
              rotate_left
              · show Act.put _ (some 6) _ = _
                simp only [Act.put, List.setIfInBounds_toArray, List.set_cons_zero, List.set_cons_succ, i64_w, i32_w]
                rfl
              refine last_ (i := 11) (N := none) #[true, true, true, true, true, true, true, true, true, true, true, true, false, false] rfl rfl (one_of HT_.out (by kernel_rfl)) (by decide) (fun K hK => ?_)
              have hs0 := (blk_cell hbox 0).trans (show #[Value.slice none 0 0, .bool false][0]? = some (.slice none 0 0) from rfl)
              have hf0 := blk_frozen hbox 0
              have hs1 := (blk_cell hbox 1).trans (show #[Value.slice none 0 0, .bool false][1]? = some (.bool false) from rfl)
              have hf1 := blk_frozen hbox 1
              refine skip_ (w1 := ?_) (by rfl) rfl ?_ ?_
              rotate_left
              · go_simp
                rfl
              refine hK.out _ _ ?_
              clear hK K
              refine pure_ (i := 12) (N := some 7) (v := ?_) (a' := ?_) #[true, true, true, true, true, true, true, true, true, true, true, true, true, false] rfl rfl (any_of HT_.out (by kernel_rfl)) (fun _ _ _ h => h) (Or.inl ⟨by rfl, ?_⟩) ?_ ?_
              rotate_left
              · intro w'
                go_simp
                with_reducible rfl
              rotate_left
              · simp only [Act.put, List.setIfInBounds_toArray, List.set_cons_zero, List.set_cons_succ, i64_w, i32_w]
                rfl
              refine pure_ (i := 13) (N := some 8) (v := ?_) (a' := ?_) #[true, true, true, true, true, true, true, true, true, true, true, true, true, true] rfl rfl (any_of HT_.out (by kernel_rfl)) (fun _ _ _ h => h) (Or.inl ⟨by rfl, ?_⟩) ?_ ?_
              rotate_left
              · intro w'
                go_simp
                with_reducible rfl
              rotate_left
              · simp only [Act.put, List.setIfInBounds_toArray, List.set_cons_zero, List.set_cons_succ, i64_w, i32_w]
                rfl
              refine done_ (done_of HT_.out (by kernel_rfl)) ?_
              go_wp2_with fail
              go_meet
              refine ⟨rfl, rfl, g, A2, n2, c2, rfl, Lib.hid ?_⟩
              have hS := HS.out.on hbr
              have hgw : g ≠ w.heap.size := by have := hb1.size; omega
              have hwg : w.heap.size ≤ g := by have := hb1.size; have := hS.below.size; have := HS.out.below.size; omega
              exact ⟨⟨blk_far (blk_far hS.box (Ne.symm hgw) _) (Ne.symm hgw) _, HS.out.dv.over hbr (Nat.le_trans hb1.size hgo) _ _ _ _, (hS.below.setCell hwg _).setCell hwg _, hS.ok⟩, blk_put (blk_put (cs' := #[.slice A2 n2 c2, .bool false]) hbox 0 _ rfl) 1 _ rfl, ((hD.set hgr 0 _).set hgr 1 _).dv hlo, hgw⟩
            · skip
              refine box_step ?hg (N := 6) ?hd (cs := #[.slice none 0 0, .bool false]) (t := 24) ?hr ?_; (case hd => rfl); (case hg => rfl); (case hr => first | (go_simp; done) | (go_simp; rfl))
              intro g hg w4 hbox hbb
              have hb4 := hb1.trans (hbb.mono hb1.size)
              refine hK.out _ _ (HE.out _ hb4) (fun hHeld => ?_)
              clear hK K
              refine norm_ (a' := ?_) ?_ ?_
              rotate_left
              · show Act.put _ (some 6) _ = _
                simp only [Act.put, List.setIfInBounds_toArray, List.set_cons_zero, List.set_cons_succ, i64_w, i32_w]
                rfl
              refine one_ (i := 5) (N := some 33) #[true, true, true, true, true, true, false, false, false, false, true, false, false, false] rfl rfl (one_of HT_.out (by kernel_rfl)) (by decide) (fun K hK => ?_)
              refine goes_ Tryd.func7 (by kernel_rfl) rfl #[.agg #[.slice A n c, .bool q], .agg #[.int .i64 e.f0, .int .i64 e.f1, .int .i64 e.f2, .int .i64 e.f3, .string e.f4, .string e.f5, .int .i64 e.f6.f0, .string e.f6.f1, .slice A8 n8 c8, .string e.f6.f3, .int .i64 e.f6.f4, .slice A11 n11 c11]] (by rfl) rfl rfl (by (try simp only [List.map_toArray, List.map_cons, List.map_nil]); first | done | rfl) ?_
              refine (HAp.out w4 hb4).mono ?_
              rintro u w5 ⟨A2, n2, c2, rfl, hD, hbc⟩
              refine ⟨_, rfl, ?_⟩
              have hbr := hb4.trans (hbc.mono hb4.size)
              refine hK.out _ _ (HE.out _ hbr) (fun hHeld => ?_)
              clear hK K
              refine norm_ (a' := ?_) ?_ ?_
              rotate_left
              · show Act.put _ (some 33) _ = _
                simp only [Act.put, List.setIfInBounds_toArray, List.set_cons_zero, List.set_cons_succ, i64_w, i32_w]
                rfl
              have hglt := blk_lt hbox
              replace hbox := blk_below hbox hbc
              have hg4 : g < w4.heap.size := hglt
              have hlo : w.heap.size < w4.heap.size := Nat.lt_of_lt_of_le hwlt hb4.size
              have hgr : g < w4.heap.size ∨ w5.heap.size ≤ g := .inl hg4
              have hgo : w3.heap.size ≤ g := Nat.le_of_eq hg.symm
              clear hg
              refine pure_ (i := 6) (N := some 27) (v := ?_) (a' := ?_) #[true, true, true, true, true, true, true, false, false, false, true, false, false, false] rfl rfl (any_of HT_.out (by kernel_rfl)) (fun _ _ _ h => h) (Or.inl ⟨by rfl, ?_⟩) ?_ ?_
              rotate_left
              · intro w'
                go_simp
                with_reducible rfl
              rotate_left
              · simp only [Act.put, List.setIfInBounds_toArray, List.set_cons_zero, List.set_cons_succ, i64_w, i32_w]
                rfl
              refine pure_ (i := 7) (N := some 34) (v := ?_) (a' := ?_) #[true, true, true, true, true, true, true, true, false, false, true, false, false, false] rfl rfl (any_of HT_.out (by kernel_rfl)) (fun _ _ _ h => h) (Or.inl ⟨by rfl, ?_⟩) ?_ ?_
              rotate_left
              · intro w'
                go_simp
                with_reducible rfl
              rotate_left
              · simp only [Act.put, List.setIfInBounds_toArray, List.set_cons_zero, List.set_cons_succ, i64_w, i32_w]
                rfl
              refine pure_ (i := 8) (N := some 35) (v := ?_) (a' := ?_) #[true, true, true, true, true, true, true, true, true, false, true, false, false, false] rfl rfl (any_of HT_.out (by kernel_rfl)) (fun _ _ _ h => h) (Or.inl ⟨by rfl, ?_⟩) ?_ ?_
              rotate_left
              · intro w'
                go_simp
                with_reducible rfl
              rotate_left
              · simp only [Act.put, List.setIfInBounds_toArray, List.set_cons_zero, List.set_cons_succ, i64_w, i32_w]
                rfl
              refine pure_ (i := 9) (N := some 36) (v := ?_) (a' := ?_) #[true, true, true, true, true, true, true, true, true, true, true, false, false, false] rfl rfl (any_of HT_.out (by kernel_rfl)) (fun _ _ _ h => h) (Or.inl ⟨by rfl, ?_⟩) ?_ ?_
              rotate_left
              · intro w'
                go_simp
                with_reducible rfl
              rotate_left
              · simp only [Act.put, List.setIfInBounds_toArray, List.set_cons_zero, List.set_cons_succ, i64_w, i32_w]
                rfl
              refine last_ (i := 11) (N := none) #[true, true, true, true, true, true, true, true, true, true, true, true, false, false] rfl rfl (one_of HT_.out (by kernel_rfl)) (by decide) (fun K hK => ?_)
              have hs0 := (blk_cell hbox 0).trans (show #[Value.slice none 0 0, .bool false][0]? = some (.slice none 0 0) from rfl)
              have hf0 := blk_frozen hbox 0
              have hs1 := (blk_cell hbox 1).trans (show #[Value.slice none 0 0, .bool false][1]? = some (.bool false) from rfl)
              have hf1 := blk_frozen hbox 1
              refine skip_ (w1 := ?_) (by rfl) rfl ?_ ?_
              rotate_left
              · go_simp
                rfl
              refine hK.out _ _ ?_
              clear hK K
              refine pure_ (i := 12) (N := some 7) (v := ?_) (a' := ?_) #[true, true, true, true, true, true, true, true, true, true, true, true, true, false] rfl rfl (any_of HT_.out (by kernel_rfl)) (fun _ _ _ h => h) (Or.inl ⟨by rfl, ?_⟩) ?_ ?_
              rotate_left
              · intro w'
                go_simp
                with_reducible rfl
              rotate_left
              · simp only [Act.put, List.setIfInBounds_toArray, List.set_cons_zero, List.set_cons_succ, i64_w, i32_w]
                rfl
              refine pure_ (i := 13) (N := some 8) (v := ?_) (a' := ?_) #[true, true, true, true, true, true, true, true, true, true, true, true, true, true] rfl rfl (any_of HT_.out (by kernel_rfl)) (fun _ _ _ h => h) (Or.inl ⟨by rfl, ?_⟩) ?_ ?_
              rotate_left
              · intro w'
                go_simp
                with_reducible rfl
              rotate_left
              · simp only [Act.put, List.setIfInBounds_toArray, List.set_cons_zero, List.set_cons_succ, i64_w, i32_w]
                rfl
              refine done_ (done_of HT_.out (by kernel_rfl)) ?_
              go_wp2_with fail
              go_meet
              refine ⟨rfl, rfl, g, A2, n2, c2, rfl, Lib.hid ?_⟩
              have hS := HS.out.on hbr
              have hgw : g ≠ w.heap.size := by have := hb1.size; omega
              have hwg : w.heap.size ≤ g := by have := hb1.size; have := hS.below.size; have := HS.out.below.size; omega
              exact ⟨⟨blk_far (blk_far hS.box (Ne.symm hgw) _) (Ne.symm hgw) _, HS.out.dv.over hbr (Nat.le_trans hb1.size hgo) _ _ _ _, (hS.below.setCell hwg _).setCell hwg _, hS.ok⟩, blk_put (blk_put (cs' := #[.slice A2 n2 c2, .bool false]) hbox 0 _ rfl) 1 _ rfl, ((hD.set hgr 0 _).set hgr 1 _).dv hlo, hgw⟩
            -- R7]
          case rest =>
            obtain ⟨rfl, rfl, g, A2, n2, c2, rfl, HX⟩ := hcut
            rename_i wx hcx
            clear HAp HE
            have hn2 : n2 = l2.length := HX.out.dv.1
            by_cases her : er = 0
            case neg =>
              have herb : (er != 0) = true := by simpa using her
              obtain ⟨hl2, hm2⟩ := HR.out.bad her
              subst hl2 hm2
              have hn20 : n2 = 0 := hn2
              subst hn20
              have g0 := (blk_cell HX.out.box 0).trans (show #[Value.slice A2 0 c2, .bool q2][0]? = some (.slice A2 0 c2) from rfl)
              clear hn2 HR
              go_wp2_with fail
              go_roundw
              case rel => exact ⟨t + 1, A, n, c, l, by omega, by simp, Lib.hid HX.out.old⟩
              case measure => simp [intOf]; omega
            case pos =>
              subst her
              obtain ⟨hq2, hdoc2, hkeep, hmd⟩ := HR.out.ok rfl
              subst hq2
              have hC2 := Lib.hid (check_ok (q := q2) hdoc2 (fit_ok hdoc2))
              have HC2 : Hid (∀ W : World, Below wc.heap.size wc W → Calls Tryd.prog 5 #[.agg #[.slice A2 n2 c2, .bool q2]] W fun e w' => e = .returned (.int .i64 0) ∧ Below W.heap.size W w') :=
                Lib.hid (fun W hb => by
                  have hX := HX.out.on hb
                  rw [hn2]
                  exact check_calls hC2.out W hX.dv.reads.1 hX.dv.reads.2)
              have HKp := Lib.hid hkeep
              have HD2 := Lib.hid hdoc2
              have HE2 : Hid (∀ W : World, Below wc.heap.size wc W → W.cell? ⟨w.heap.size, 0, none⟩ = some (.slice A n c) ∧ W.cell? ⟨w.heap.size, 1, none⟩ = some (.bool q2) ∧ W.cell? ⟨g, 0, none⟩ = some (.slice A2 n2 c2) ∧ W.cell? ⟨g, 1, none⟩ = some (.bool q2)) :=
                Lib.hid (fun W hb => by
                  have hX := HX.out.on hb
                  exact ⟨(blk_cell hX.old.box 0).trans rfl, (blk_cell hX.old.box 1).trans rfl, (blk_cell hX.box 0).trans rfl, (blk_cell hX.box 1).trans rfl⟩)
              have hnn : n ≤ n2 := by have h1 := hkeep.len; have h2 := HX.out.old.dv.1; omega
              have hn2s : n2 ≤ 200 := by have := hdoc2.len; omega
              have hn1 : n = l.length := HX.out.old.dv.1
              have HM2 : Hid (made = 0 ∨ made = (n2 : Int) - 1) := Lib.hid (by rw [hn2]; exact hmd)
              have HN := Lib.hid hn1
              have HN2 := Lib.hid hn2
              clear hmd hdoc2 hkeep HR hn1 hn2 hC2
              obtain ⟨b0, b1, g0, g1⟩ := HE2.out wc (Below.refl _ _)
              go_wp2_with fail
              refine (HC2.out wc (Below.refl _ _)).mono ?_
              rintro u w4 ⟨rfl, hb4⟩
              clear b0 b1 g0 g1
              obtain ⟨b0, b1, g0, g1⟩ := HE2.out w4 hb4
              have hltb : decide ((n2 : Int) < (n : Int)) = false := decide_eq_false (by omega)
              have hltb2 : ((n2 : Int) < (n : Int)) = False := eq_false (by omega)
              have HX4 := Lib.hid (HX.out.on hb4)
              have hmf : ((made != 0) = true ∧ (made != (n2 : Int) - 1) = true) = False := by
                refine eq_false (fun h => ?_)
                rcases HM2.out with e | e
                · rw [e] at h; exact absurd h.1 (by decide)
                · rw [e] at h; exact absurd h.2 (by simp)
              clear HX HC2 HE2 hb4
              go_wp2_with fail
              all_goals try (exfalso; rename_i h; exact cast hmf h)
              all_goals
                go_loopw [9] (fun i w5 => ∃ k : Nat, k ≤ n ∧ i = .int .i64 k ∧ Hid (StX w w5 g A A2 n c n2 c2 q2 q2 l l2)) (fun i _ => n - (intOf i).toNat)
                case atStart => exact ⟨0, Nat.zero_le _, rfl, HX4⟩
                case round =>
                  obtain ⟨k, hk, rfl, HX5⟩ := hrel
                  clear HX4 b0 b1 g0 g1
                  have b0 := (blk_cell HX5.out.old.box 0).trans (show #[Value.slice A n c, .bool q2][0]? = some (.slice A n c) from rfl)
                  have b1 := (blk_cell HX5.out.old.box 1).trans (show #[Value.slice A n c, .bool q2][1]? = some (.bool q2) from rfl)
                  have g0 := (blk_cell HX5.out.box 0).trans (show #[Value.slice A2 n2 c2, .bool q2][0]? = some (.slice A2 n2 c2) from rfl)
                  have g1 := (blk_cell HX5.out.box 1).trans (show #[Value.slice A2 n2 c2, .bool q2][1]? = some (.bool q2) from rfl)
                  by_cases hkn : k < n
                  · have hkn2 : k < n2 := by omega
                    obtain ⟨ad1, A12, c12, A15, c15, e1, x0, x1, -⟩ := at_T35 HX5.out.old.dv.reads.1 (k : Int) (by omega) (by have := HN.out; omega)
                    obtain ⟨ad2, A22, c22, A25, c25, e2, y0, y1, -⟩ := at_T35 HX5.out.dv.reads.1 (k : Int) (by omega) (by have := HN2.out; omega)
                    obtain ⟨hs0, hs1⟩ := HKp.out.same (k : Int) ⟨by omega, by have := HN.out; omega⟩
                    rw [hs0] at y0
                    rw [hs1] at y1
                    rw [Int.toNat_natCast] at x0 x1 y0 y1
                    generalize (rd_T35 l (k : Int)).f0 = kf at x0 y0
                    generalize (rd_T35 l (k : Int)).f1 = nf at x1 y1
                    subst e1 e2
                    clear hs0 hs1
                    have HX6 : Hid (∀ m, StX w (wr.drewN m) g (some ad1) (some ad2) n c n2 c2 q2 q2 l l2) := Lib.hid (fun m => HX5.out.on (pw_below_drewN (Below.refl _ _) m))
                    go_wp2_with fail
                    go_quiet (fail)
                    go_wp2_with fail
                    go_roundw
                    case rel => exact ⟨k + 1, by omega, by go_num, Lib.hid (HX6.out _)⟩
                    case measure => simp [intOf]; omega
                  · have hkn2 : k = n := by omega
                    subst hkn2
                    have hf0 := blk_frozen HX5.out.old.box 0
                    have hf1 := blk_frozen HX5.out.old.box 1
                    go_wp2_with fail
                    go_roundw
                    case rel =>
                      exact ⟨t + 1, A2, n2, c2, l2, by omega, by simp, Lib.hid ⟨blk_put (blk_put (cs' := #[.slice A2 n2 c2, .bool q2]) HX5.out.old.box 0 _ rfl) 1 _ rfl, (HX5.out.dv.set 0 _).set 1 _, (HX5.out.old.below.setCell (Nat.le_refl _) _).setCell (Nat.le_refl _) _, HD2.out⟩⟩
                    case measure => simp [intOf]; omega
        · go_wp2_with fail
          refine (HBg.out wr).mono ?_
          rintro u w3 ⟨rfl, hb3⟩
          go_wp2_with fail
          go_ret
          exact ⟨rfl, HS.out.below.trans (hb3.mono HS.out.below.size)⟩
end Go.Proofs.YthcfbjllohmfoaaDoor.Stays
