import Derived.RangeFuncBox
import Derived.RangeFuncNested
import Derived.RangeFuncBound
import Derived.RangeFuncCalls
import Derived.RangeFuncLeaves
import Derived.Shelf.Abstract
import Derived.Shelf.RegionOpen
import Derived.WalkKit
import Derived.OwnWalkIn
import Derived.TacticsInMore
import Derived.LoopNIn
import Derived.LoopIn
import Derived.Test.YtmcinclecpeakaaGreatDoorRecA
/- A range over a function whose rounds come in one order: round m is handed encs m, and I m holds ahead of it. -/
namespace Go.Proofs.YtmcinclecpeakaaGreatDoor.ApA
open Go Go.RowKit Go.Shelf
set_option linter.unusedVariables false
set_option linter.unusedSimpArgs false
variable {F : Fence} {n : Nat} {P : Program}
/-- What a round keeps: all below n₀, and one box besides. -/
def KB (n₀ Bs : Nat) (W W' : World) : Prop := Below n₀ W W' ∧ W'.heap[Bs]? = W.heap[Bs]?
theorem KB.trans {n₀ Bs : Nat} {A B C : World} (h : KB n₀ Bs A B) (k : KB n₀ Bs B C) : KB n₀ Bs A C := ⟨h.1.trans k.1, k.2.trans h.2⟩
theorem KB.put {n₀ Bs : Nat} {w : World} (hn : n₀ ≤ w.heap.size) (hB : Bs < w.heap.size) (W : World) (l : Nat) (o o' : Obj) (hl : w.heap.size ≤ l) (h : W.heap[l]? = some o) (hc : o.isCells = false) (hw : o.isWalk = false) : KB n₀ Bs W (W.putObj l o') := ⟨belowK_b (w := w) hn W l o o' hl h hc hw, World.putObj_heap_other (by omega)⟩
/-- What an iterator of N rounds owes: it hands round m what encs m says. -/
def SeqR (F : Fence) (n : Nat) (P : Program) (g : Nat) (lb : Array Value) (encs : Nat → Array Value) (n₀ Bs N : Nat) (w : World) : Prop :=
  ∀ (l : Nat) (J : Nat → World → Prop) (W : World), Below w.heap.size w W → AbidesFrom W.heap.size J →
    (∀ m W1, m < N → J m W1 → YieldAt F (n - 1) P l (encs m) W1 fun e W' => e = .returned (.bool true) ∧ J (m + 1) W' ∧ KB n₀ Bs W1 W') →
    J 0 W → CallsIn F n P g (#[.func (.yield l) #[] #[]] ++ lb) W fun e W' => (∃ v, e = .returned v) ∧ J N W'
def RoundP (B n₀ Bs : Nat) (I : World → Prop) (W : World) (e : Exit) (_ : Act) (W' : World) : Prop := e = .normal ∧ KeepsFrom B W W' ∧ KB n₀ Bs W W' ∧ I W'
theorem rangeR {g : Operand} {ps : Array Tmp} {assign body : Code} {Q : Exit → Act → World → Prop} {a : Act} {w : World}
    (hro : F.round = none) (h1 : 1 ≤ n) {gf : Nat} {lb : Array Value} (hg : a.eval g = .func (.func gf) #[] lb) (hFg : F.fn gf) (eg : ∀ args w, (callFunc gf args).run P w = .ok (.enter gf args) w)
    {encs : Nat → Array Value} {n₀ Bs N : Nat} (hn₀ : n₀ ≤ w.heap.size) (hBs : Bs < w.heap.size) (hseq : SeqR F (n - 1) P gf lb encs n₀ Bs N w) (hps : ∀ m, (encs m).size = ps.size)
    (I : Nat → World → Prop) (hI : OwnFrom w.heap.size I) (h0 : I 0 w) (Ax : Nat → Act → World → Prop) (hAx : ∀ m a', OwnFrom w.heap.size (fun (_ : Unit) W => Ax m a' W))
    (hassign : ∀ (l m : Nat) (W : World) (K : Act → World → Prop), m < N → I m W → (∀ a' W', KeepsFrom w.heap.size W W' → KB n₀ Bs W W' → I m W' → Ax m a' W' → K a' W') →
      assign.wpIn (F.inRound l) (n - 1 - 1) P (Exit.then K (fun _ _ _ => False)) { tmps := (ps.zip (encs m)).foldl (fun t (p, v) => t.setIfInBounds p v) a.tmps, defers := [] } W)
    (hbody : ∀ (l m : Nat) (a' : Act) (W : World), w.heap.size ≤ l → m < N → I m W → Ax m a' W → body.wpIn (F.inRound l) (n - 1 - 1) P (RoundP w.heap.size n₀ Bs (I (m + 1)) W) a' W)
    (hdone : ∀ (D : Nat) (W : World), w.heap.size ≤ D → I N W → W.heap[D]? = some (.deferred (some [])) → Q .normal { a with defers := { target := .collected D, args := #[] } :: a.defers } W) :
    (Code.rangeFunc g ps assign body).wpIn F n P Q a w := by
  refine wpIn_rangeFunc ?_
  intro fn hfn
  rw [hro]
  obtain ⟨rec, hrec⟩ : ∃ rec : LoopState → Loop, rec = fun st => { state := st, pending := none, fn, tmps := a.tmps, params := ps, assign, body, defers := w.heap.size } := ⟨_, rfl⟩
  obtain ⟨W1, hW1⟩ : ∃ W1, W1 = (w.alloc (.deferred (some []))).alloc (.loop (rec .ready)) := ⟨_, rfl⟩
  have hloop : W1.heap[w.heap.size + 1]? = some (.loop (rec .ready)) := by
    rw [hW1]
    have := World.alloc_heap_new (w.alloc (.deferred (some []))) (.loop (rec .ready))
    rwa [World.size_alloc] at this
  have hdef : W1.heap[w.heap.size]? = some (.deferred (some [])) := by
    rw [hW1]
    exact (Below.heap_alloc _ _ _ (by simp)).trans (World.alloc_heap_new w _)
  have hI1 : I 0 W1 := by rw [hW1]; exact hI.alloc _ (hI.alloc _ h0)
  have hbel : Below w.heap.size w W1 := by rw [hW1]; exact ((Below.refl _ w).alloc (Nat.le_refl _) _).alloc (by simp) _
  have hsz1 : W1.heap.size = w.heap.size + 2 := by rw [hW1]; simp
  refine ⟨w.heap.size + 1, [{ target := .collected w.heap.size, args := #[] }], W1, { target := .fn (.func gf) lb, args := #[.func (.yield (w.heap.size + 1)) #[] #[]] }, W1, gf,
    #[.func (.yield (w.heap.size + 1)) #[] #[]] ++ lb, W1, ?_, ?_, ?_, ?_, fun _ => h1, ?_⟩
  · rw [hW1, hrec]
    exact run_enterLoop_outer _ _ _ _ _
  · simp only [resolve, hg]
    simp [go_sem]
  · intro f' hf'
    simp [Target.leads] at hf'
    subst hf'
    exact hFg
  · simp [invoke, go_sem, eg]
  · refine (hseq (w.heap.size + 1) (fun m W => I m W ∧ W.heap[w.heap.size + 1]? = some (.loop (rec .ready)) ∧ W.heap[w.heap.size]? = some (.deferred (some []))) W1 hbel ?_ ?_ ⟨hI1, hloop, hdef⟩).mono ?_
    · intro s A B row hs hg' hr
      exact ⟨hI s A B row hs.1 hg' (fun r e => by obtain ⟨hB, o, ho, hw⟩ := hr r e; exact ⟨by omega, o, ho, Obj.not_cells_of_walk hw⟩), (grownBy_keeps hg' (fun r e => (hr r e).2) hs.2.1 rfl).trans hs.2.1, (grownBy_keeps hg' (fun r e => (hr r e).2) hs.2.2 rfl).trans hs.2.2⟩
    · rintro m W hm ⟨hi, hl, hk⟩
      have hy := run_yield (P := P) (args := encs m) hl (by rw [hrec]; exact hps m)
      rw [hrec] at hy
      refine ⟨fn, _, assign, body, hy, roundIn_of_wpIn hfn (hassign _ m W _ hm hi ?_)⟩
      intro a' Wa hkfa hkpa hia hax
      have hla := hkfa.same _ _ (by omega) hl rfl
      have hka := hkfa.same _ _ (Nat.le_refl _) hk rfl
      have hlta : w.heap.size + 1 < Wa.heap.size := (Array.getElem?_eq_some_iff.1 hla).1
      refine ⟨_, run_beginRound hla (by rw [hrec]), ?_⟩
      obtain ⟨Wb, hWb⟩ : ∃ Wb, Wb = Wa.putObj (w.heap.size + 1) (.loop { rec .ready with state := .busy }) := ⟨_, rfl⟩
      rw [← hWb]
      have hl2 : Wb.heap[w.heap.size + 1]? = some (.loop { rec .ready with state := .busy }) := by rw [hWb]; exact World.putObj_heap_same hlta
      have hk2 : Wb.heap[w.heap.size]? = some (.deferred (some [])) := by rw [hWb]; exact (World.putObj_heap_other (by omega)).trans hka
      have hbb : KB n₀ Bs Wa Wb := by rw [hWb]; exact KB.put hn₀ hBs _ _ _ _ (by omega) hla rfl rfl
      have hib : I m Wb := by rw [hWb]; exact hI.putObj _ hia (by omega) hla rfl
      have haxb : Ax m a' Wb := by rw [hWb]; exact (hAx m a').putObj (s := ()) _ hax (by omega) hla rfl
      refine wpIn_mono (hbody (w.heap.size + 1) m a' Wb (by omega) hm hib haxb) ?_
      rintro e a3 W3 ⟨rfl, hk3, hb3, hi3⟩
      have hl3 := hk3.same _ _ (by omega) hl2 rfl
      have hend := run_endRound (P := P) none hl3
      rw [hrec] at hend
      refine ⟨_, _, hend, rfl, ⟨hI.putObj _ hi3 (by omega) hl3 rfl, ?_, ?_⟩, ?_⟩
      · rw [hrec]
        exact World.putObj_heap_same (Array.getElem?_eq_some_iff.1 hl3).1
      · exact (World.putObj_heap_other (by omega)).trans (hk3.same _ _ (Nat.le_refl _) hk2 rfl)
      · exact hkpa.trans (hbb.trans (hb3.trans (KB.put hn₀ hBs _ _ _ _ (by omega) hl3 rfl rfl)))
    · rintro e W2 ⟨⟨v, rfl⟩, hi, hl, hk⟩
      exact ⟨none, _, by have := run_endLoop (P := P) hl (by rw [hrec]; simp); rw [hrec] at this; exact this, hdone _ _ (Nat.le_refl _) (hI.putObj _ hi (by omega) hl rfl) ((World.putObj_heap_other (by omega)).trans hk)⟩
end Go.Proofs.YtmcinclecpeakaaGreatDoor.ApA
/- slices.Backward over steps: the iterator. -/
namespace Go.Proofs.YtmcinclecpeakaaGreatDoor.ApA
open Go.RowKit Go.Shelf Go.Proofs.YtmcinclecpeakaaGreatDoorW.PrintWords Go.Proofs.YtmcinclecpeakaaGreatDoorW.PrintLast Go.Proofs.YtmcinclecpeakaaGreatDoorW.PrintMore Go.Proofs.YtmcinclecpeakaaGreatDoor.PRR Go.Proofs.YtmcinclecpeakaaGreatDoor.DocP Go.Proofs.YtmcinclecpeakaaGreatDoor.DocC
set_option linter.unusedVariables false
set_option linter.unusedSimpArgs false
attribute [local go_sem] Oper.semAt_some
/-- A step's cells in its row; r: where its own rows lie. -/
structure SC (w : World) (ad : Addr) (j : Nat) (x : Stp) (r : Option Addr × Option Addr × Nat × Nat) : Prop where
  c0 : w.cell? (ad.add (j * 16)) = some (.int .i64 x.f0.f0)
  c1 : w.cell? ⟨(ad.add (j * 16)).block, (ad.add (j * 16)).off + 1, none⟩ = some (.int .i64 x.f0.f1)
  c2 : w.cell? ⟨(ad.add (j * 16)).block, (ad.add (j * 16)).off + 2, none⟩ = some (.int .i64 x.f0.f2)
  c3 : w.cell? ⟨(ad.add (j * 16)).block, (ad.add (j * 16)).off + 3, none⟩ = some (.int .i64 x.f0.f3)
  c4 : w.cell? ⟨(ad.add (j * 16)).block, (ad.add (j * 16)).off + 4, none⟩ = some (.string x.f0.f4)
  c5 : w.cell? ⟨(ad.add (j * 16)).block, (ad.add (j * 16)).off + 5, none⟩ = some (.string x.f0.f5)
  c6 : w.cell? ⟨(ad.add (j * 16)).block, (ad.add (j * 16)).off + 6, none⟩ = some (.int .i64 x.f0.f6.f0)
  c7 : w.cell? ⟨(ad.add (j * 16)).block, (ad.add (j * 16)).off + 7, none⟩ = some (.string x.f0.f6.f1)
  c8 : w.cell? ⟨(ad.add (j * 16)).block, (ad.add (j * 16)).off + 8, none⟩ = some (.slice r.1 x.f0.f6.f2.length r.2.2.1)
  c9 : w.cell? ⟨(ad.add (j * 16)).block, (ad.add (j * 16)).off + 9, none⟩ = some (.string x.f0.f6.f3)
  c10 : w.cell? ⟨(ad.add (j * 16)).block, (ad.add (j * 16)).off + 10, none⟩ = some (.int .i64 x.f0.f6.f4)
  c11 : w.cell? ⟨(ad.add (j * 16)).block, (ad.add (j * 16)).off + 11, none⟩ = some (.slice r.2.1 x.f0.f6.f5.length r.2.2.2)
  c12 : w.cell? ⟨(ad.add (j * 16)).block, (ad.add (j * 16)).off + 12, none⟩ = some (.bool x.f1)
  c13 : w.cell? ⟨(ad.add (j * 16)).block, (ad.add (j * 16)).off + 13, none⟩ = some (.string x.f2)
  c14 : w.cell? ⟨(ad.add (j * 16)).block, (ad.add (j * 16)).off + 14, none⟩ = some (.int .i64 x.f3)
  c15 : w.cell? ⟨(ad.add (j * 16)).block, (ad.add (j * 16)).off + 15, none⟩ = some (.int .i64 x.f4)
theorem SC.below {w w' : World} {ad : Addr} {j : Nat} {x : Stp} {r : Option Addr × Option Addr × Nat × Nat} (h : SC w ad j x r) (hb : Below w.heap.size w w') : SC w' ad j x r :=
  ⟨pw_cell_below hb h.c0, pw_cell_below hb h.c1, pw_cell_below hb h.c2, pw_cell_below hb h.c3, pw_cell_below hb h.c4, pw_cell_below hb h.c5, pw_cell_below hb h.c6, pw_cell_below hb h.c7, pw_cell_below hb h.c8, pw_cell_below hb h.c9, pw_cell_below hb h.c10, pw_cell_below hb h.c11, pw_cell_below hb h.c12, pw_cell_below hb h.c13, pw_cell_below hb h.c14, pw_cell_below hb h.c15⟩
theorem steps_at {w : World} {B : Option Addr} {ss : List Stp} (h : Kd.C k48 w B ss.length ss) (h0 : 0 < ss.length) : ∃ (ad : Addr) (R : Nat → Option Addr × Option Addr × Nat × Nat), B = some ad ∧ ∀ j : Nat, j < ss.length → SC w ad j (rd_T48 ss j) (R j) := by
  obtain ⟨ad, hB, hc⟩ := h.2.2 h0
  have hx : ∀ j : Nat, j < ss.length → ∃ r : Option Addr × Option Addr × Nat × Nat, SC w ad j (rd_T48 ss j) r := fun j hj => by
    obtain ⟨ad', A8, c8, A11, c11, e1, x0, x1, x2, x3, x4, x5, x6, x7, x8, x9, x10, x11, x12, x13, x14, x15, -⟩ := at_T48 h (j : Int) (by omega) (by omega)
    rw [hB] at e1
    injection e1 with e1
    subst e1
    rw [Int.toNat_natCast] at x0 x1 x2 x3 x4 x5 x6 x7 x8 x9 x10 x11 x12 x13 x14 x15
    exact ⟨(A8, A11, c8, c11), ⟨x0, x1, x2, x3, x4, x5, x6, x7, x8, x9, x10, x11, x12, x13, x14, x15⟩⟩
  refine ⟨ad, fun j => if hj : j < ss.length then Classical.choose (hx j hj) else (none, none, 0, 0), hB, fun j hj => ?_⟩
  simp only [dif_pos hj]
  exact Classical.choose_spec (hx j hj)
/-- What round m is handed. -/
def encS (ss : List Stp) (R : Nat → Option Addr × Option Addr × Nat × Nat) (m : Nat) : Array Value :=
  #[.int .i64 ((ss.length - 1 - m : Nat) : Int), .agg (stepV (rd_T48 ss ((ss.length - 1 - m : Nat) : Int)) (R (ss.length - 1 - m)).1 (R (ss.length - 1 - m)).2.1 (rd_T48 ss ((ss.length - 1 - m : Nat) : Int)).f0.f6.f2.length (rd_T48 ss ((ss.length - 1 - m : Nat) : Int)).f0.f6.f5.length (R (ss.length - 1 - m)).2.2.1 (R (ss.length - 1 - m)).2.2.2)]
set_option maxRecDepth 100000 in
set_option maxHeartbeats 4000000 in
theorem backward_seq (n : Nat) (hn : 3 ≤ n) (w0 : World) (B : Option Addr) (d : Nat) (ss : List Stp) (h40 : ss.length ≤ 40) (hr : Kd.C k48 w0 B ss.length ss) (w : World) (hb : Below w0.heap.size w0 w) (Bs : Nat) (hBs : w.heap[Bs]? = some (.cells #[.slice B ss.length d] 27 (0, 0))) (hB0 : w0.heap.size ≤ Bs) :
    ∃ R, SeqR Fence.wide n Tryz.prog 31 #[.pointer (some ⟨Bs, 0, none⟩)] (encS ss R) w0.heap.size Bs ss.length w := by
  obtain ⟨m1, hm1⟩ : ∃ m1, m1 = ss.length := ⟨_, rfl⟩
  by_cases h0 : 0 < ss.length
  · obtain ⟨ad, R, rfl, hA⟩ := steps_at hr h0
    refine ⟨R, fun l J W hW hJ hY hj0 => ?_⟩
    have hbW : Below w0.heap.size w0 W := hb.trans (hW.mono hb.size)
    have hBW := blk_below hBs hW
    have hAt : ∀ W' : World, Below w0.heap.size w0 W' → ∀ j, j < ss.length → SC W' ad j (rd_T48 ss j) (R j) := fun W' hb' j hj => (hA j hj).below hb'
    have HAt := Lib.hid hAt
    have HY := Lib.hid hY
    rw [← hm1] at h40 hBW ⊢
    have HM := Lib.hid hm1
    have hpos : 0 < m1 := by omega
    have HJ0 := Lib.hid hj0
    have HB0 := Lib.hid (⟨hbW, hBW⟩ : _ ∧ _)
    have hw1 : IntKind.i64.wrap ((m1 : Int) - 1) = ((m1 - 1 : Nat) : Int) := by rw [IntWalk.i64_left, wrap_in (by omega)]; omega
    clear hm1 hAt hY hj0 hbW hr hA hb hW hBs h0
    refine callsIn_of_wp Tryz.func31 rfl trivial ?_ rfl
    simp only [Tryz.ntmps31, List.size_toArray, List.length_cons, List.length_nil, Nat.reduceAdd, Nat.reduceSub, Array.replicate_succ, Array.replicate_zero, List.push_toArray, List.append_toArray, List.nil_append, List.cons_append]
    have c0 : W.cell? ⟨Bs, 0, none⟩ = some (.slice (some ad) m1 d) := (blk_cell hBW 0).trans rfl
    clear hBW
    gi_wp2
    gi_loopw [3] (fun i wr => ∃ m : Nat, m ≤ m1 ∧ i = .int .i64 ((m1 : Int) - 1 - m) ∧ Hid (J m wr) ∧ Hid (Below w0.heap.size w0 wr ∧ wr.heap[Bs]? = some (.cells #[.slice (some ad) m1 d] 27 (0, 0)))) (fun i _ => (intOf i + 1).toNat)
    case atStart => exact ⟨0, Nat.zero_le _, by congr 1; omega, HJ0, HB0⟩
    case round =>
      obtain ⟨m, hm, rfl, HJm, HBm⟩ := hrel
      have c1 : wr.cell? ⟨Bs, 0, none⟩ = some (.slice (some ad) m1 d) := (blk_cell HBm.out.2 0).trans rfl
      by_cases hlt : m < m1
      · obtain ⟨j, hj⟩ : ∃ j, j = m1 - 1 - m := ⟨_, rfl⟩
        have hjm : j < m1 := by omega
        have hji : (m1 : Int) - 1 - m = (j : Int) := by omega
        have hje : ss.length - 1 - m = j := by rw [← HM.out]; omega
        obtain ⟨x0, x1, x2, x3, x4, x5, x6, x7, x8, x9, x10, x11, x12, x13, x14, x15⟩ := HAt.out wr HBm.out.1 j (by rw [← HM.out]; exact hjm)
        obtain ⟨fn, tmps, assign, body, hy, hR⟩ := HY.out m wr (by rw [← HM.out]; exact hlt) HJm.out
        unfold encS stepV HC at hy
        rw [hje] at hy
        rw [hji]
        have HRR := Lib.hid hR
        have HJe := Lib.hid hj
        have hw2 : IntKind.i64.wrap ((j : Int) - 1) = (j : Int) - 1 := by rw [IntWalk.i64_left, wrap_in (by omega)]
        clear hR hj hji hje
        generalize rd_T48 ss (j : Int) = x at *
        generalize R j = r at *
        obtain ⟨n8, hn8⟩ : ∃ n8, n8 = x.f0.f6.f2.length := ⟨_, rfl⟩
        obtain ⟨n11, hn11⟩ : ∃ n11, n11 = x.f0.f6.f5.length := ⟨_, rfl⟩
        rw [← hn8] at x8 hy
        rw [← hn11] at x11 hy
        clear hn8 hn11
        gi_wp2
        refine ⟨fun _ => by omega, ?_⟩
        refine HRR.out.mono ?_
        rintro e W3 ⟨rfl, hJ3, hk3⟩
        have HJ3 := Lib.hid hJ3
        have HB3 : Hid (Below w0.heap.size w0 W3 ∧ W3.heap[Bs]? = some (.cells #[.slice (some ad) m1 d] 27 (0, 0))) := Lib.hid ⟨HBm.out.1.trans hk3.1, hk3.2.trans HBm.out.2⟩
        clear hJ3 hk3 x0 x1 x2 x3 x4 x5 x6 x7 x8 x9 x10 x11 x12 x13 x14 x15 hy
        gi_wp2
        go_roundw
        case rel => exact ⟨m + 1, by omega, by have := HJe.out; congr 1; omega, HJ3, HB3⟩
        case measure => (have := HJe.out; simp [intOf]; try omega)
      · obtain rfl : m = m1 := by omega
        have hneg : (m : Int) - 1 - m = -1 := by omega
        rw [hneg]
        gi_wp2
        go_end0
        exact ⟨⟨_, rfl⟩, HJm.out⟩
  · refine ⟨fun _ => (none, none, 0, 0), fun l J W hW hJ hY hj0 => ?_⟩
    obtain ⟨m1, hm1⟩ : ∃ m1, m1 = ss.length := ⟨_, rfl⟩
    have h00 : ss.length = 0 := by omega
    have hBW := blk_below hBs hW
    rw [h00] at hBW ⊢
    have HJ0 := Lib.hid hj0
    clear hr hb hBs hY hj0 hW hm1
    refine callsIn_of_wp Tryz.func31 rfl trivial ?_ rfl
    simp only [Tryz.ntmps31, List.size_toArray, List.length_cons, List.length_nil, Nat.reduceAdd, Nat.reduceSub, Array.replicate_succ, Array.replicate_zero, List.push_toArray, List.append_toArray, List.nil_append, List.cons_append]
    have c0 : W.cell? ⟨Bs, 0, none⟩ = some (.slice B 0 d) := (blk_cell hBW 0).trans rfl
    clear hBW
    gi_wp2
    gi_loopw [3] (fun i wr => i = .int .i64 (-1) ∧ Hid (J 0 wr)) (fun i _ => 0)
    case atStart => exact ⟨rfl, HJ0⟩
    case round =>
      obtain ⟨rfl, HJm⟩ := hrel
      gi_wp2
      go_end0
      exact ⟨⟨_, rfl⟩, HJm.out⟩
end Go.Proofs.YtmcinclecpeakaaGreatDoor.ApA
