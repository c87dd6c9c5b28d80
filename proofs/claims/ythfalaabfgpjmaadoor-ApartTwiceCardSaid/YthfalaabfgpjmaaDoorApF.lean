/- Package apart: Fold, plainly. -/
import Derived.Test.YthfalaabfgpjmaaDoorApE
namespace Go.Proofs.YthfalaabfgpjmaaDoor.ApA
open Go.RowKit Go.Proofs.YthfalaabfgpjmaaDoorW.PrintWords Go.Proofs.YthfalaabfgpjmaaDoorW.PrintLast Go.Proofs.YthfalaabfgpjmaaDoorW.PrintMore Go.Proofs.YthfalaabfgpjmaaDoor.PAP Go.Proofs.YthfalaabfgpjmaaDoor.DocP Go.Proofs.YthfalaabfgpjmaaDoor.DocC
set_option linter.unusedVariables false
set_option linter.unusedSimpArgs false
def joinE (a b : S30) : Option Bool := joinB a.f0 a.f1 a.f2 a.f4 b.f0 b.f1 b.f4
/-- The last two made one, or none, as long as they may be. -/
def redF : Nat → List S30 → List S30
  | 0, o => o
  | k + 1, o => if 2 ≤ o.length then (match joinE (rd_T30 o ((o.length - 2 : Nat) : Int)) (rd_T30 o ((o.length - 1 : Nat) : Int)) with
      | some true => redF k (o.take (o.length - 2) ++ [rd_T30 o ((o.length - 1 : Nat) : Int)])
      | some false => redF k (o.take (o.length - 2))
      | none => o) else o
theorem red_yes {k : Nat} {o : List S30} (h : 2 ≤ o.length) (hj : joinE (rd_T30 o ((o.length - 2 : Nat) : Int)) (rd_T30 o ((o.length - 1 : Nat) : Int)) = some true) : redF (k + 1) o = redF k (o.take (o.length - 2) ++ [rd_T30 o ((o.length - 1 : Nat) : Int)]) := by
  rw [redF, if_pos h, hj]
theorem red_gone {k : Nat} {o : List S30} (h : 2 ≤ o.length) (hj : joinE (rd_T30 o ((o.length - 2 : Nat) : Int)) (rd_T30 o ((o.length - 1 : Nat) : Int)) = some false) : redF (k + 1) o = redF k (o.take (o.length - 2)) := by
  rw [redF, if_pos h, hj]
theorem red_no {k : Nat} {o : List S30} (h : 2 ≤ o.length) (hj : joinE (rd_T30 o ((o.length - 2 : Nat) : Int)) (rd_T30 o ((o.length - 1 : Nat) : Int)) = none) : redF (k + 1) o = o := by
  rw [redF, if_pos h, hj]
theorem red_short {k : Nat} {o : List S30} (h : ¬ 2 ≤ o.length) : redF k o = o := by
  cases k with
  | zero => rfl
  | succ k => rw [redF, if_neg h]
theorem red_len : ∀ (k : Nat) (o : List S30), (redF k o).length ≤ o.length
  | 0, o => Nat.le_refl _
  | k + 1, o => by
    by_cases h : 2 ≤ o.length
    · cases hj : joinE (rd_T30 o ((o.length - 2 : Nat) : Int)) (rd_T30 o ((o.length - 1 : Nat) : Int)) with
      | none => rw [red_no h hj]; exact Nat.le_refl _
      | some b =>
        cases b with
        | true =>
          rw [red_yes h hj]
          refine Nat.le_trans (red_len k _) ?_
          rw [List.length_append, List.length_take, List.length_singleton]
          omega
        | false =>
          rw [red_gone h hj]
          refine Nat.le_trans (red_len k _) ?_
          rw [List.length_take]
          omega
    · rw [red_short h]; exact Nat.le_refl _
/-- What Fold makes of a list of edits. -/
def foldF (es : List S30) : List S30 := es.foldl (fun o e => redF (o.length + 1) (o ++ [e])) []
theorem foldF_take (es : List S30) {k : Nat} (hk : k < es.length) : foldF (es.take (k + 1)) = redF ((foldF (es.take k)).length + 1) (foldF (es.take k) ++ [rd_T30 es k]) := by
  have e : es.take (k + 1) = es.take k ++ [rd_T30 es k] := by
    rw [List.take_succ_eq_append_getElem hk]
    congr 2
    unfold rd_T30
    rw [Int.toNat_natCast, List.getD_eq_getElem?_getD, List.getElem?_eq_getElem hk]
    rfl
  rw [e]
  unfold foldF
  rw [List.foldl_append]
  rfl
theorem foldF_le (es : List S30) : ∀ k, k ≤ es.length → (foldF (es.take k)).length ≤ k
  | 0, _ => by simp [foldF]
  | k + 1, h => by
    rw [foldF_take es (by omega)]
    refine Nat.le_trans (red_len _ _) ?_
    rw [List.length_append, List.length_singleton]
    have := foldF_le es k (by omega)
    omega
/-- What lies ready: the edits so far. -/
structure FI (w W : World) (A : Option Addr) (m c : Nat) (o : List S30) : Prop where
  len : m = o.length
  row : Kd.N k30 30 W w.heap.size (fun _ => True) (.slice A m c) o
  below : Below w.heap.size w W
theorem FI.on {w W W' : World} {A : Option Addr} {m c : Nat} {o : List S30} (h : FI w W A m c o) (hb : Below W.heap.size W W') : FI w W' A m c o := ⟨h.len, Kd.N_below h.row hb, h.below.trans (hb.mono h.below.size)⟩
theorem FI.nil (w W : World) (hb : Below w.heap.size w W) : FI w W none 0 0 [] := ⟨rfl, Kd.N_nil _ _ _ _ _, hb⟩
theorem edit_info : (Tryd.prog.info? 30).map (fun i => (i.zero, i.size, i.bytes)) = some (some (.agg #[.int .i64 0, .int .i64 0, .int .i64 0, .int .i64 0, .string ⟨#[]⟩, .string ⟨#[]⟩, .int .i64 0, .string ⟨#[]⟩, .slice none 0 0, .string ⟨#[]⟩, .int .i64 0, .slice none 0 0]), 12, 160) := by kernel_rfl
/-- The inner loop's head. -/
def FJ (w W : World) (A : Option Addr) (m c : Nat) (R : List S30) : Prop := ∃ o k, FI w W A m c o ∧ m ≤ k ∧ redF k o = R
/-- The outer loop's head. -/
def FH (w W : World) (A : Option Addr) (m c : Nat) (es : List S30) (k : Nat) : Prop := FI w W A m c (foldF (es.take k))
/-- An edit's cells. -/
abbrev EC (x : S30) (A8 : Option Addr) (c8 : Nat) (A11 : Option Addr) (c11 : Nat) : List Value := [.int .i64 x.f0, .int .i64 x.f1, .int .i64 x.f2, .int .i64 x.f3, .string x.f4, .string x.f5, .int .i64 x.f6.f0, .string x.f6.f1, .slice A8 x.f6.f2.length c8, .string x.f6.f3, .int .i64 x.f6.f4, .slice A11 x.f6.f5.length c11]
/-- Behind the two clones: the edit in its box, its rows of its own. -/
structure FG (w W : World) (B : Option Addr) (mm d : Nat) (o : List S30) (x : S30) (A6 : Option Addr) (c6 : Nat) (A7 : Option Addr) (c7 : Nat) (g : Nat) : Prop where
  fi : FI w W B mm d o
  blk : W.heap[g]? = some (.cells (EC x A6 c6 A7 c7).toArray 30 (0, 0))
  fk : Kd.FK k30 W (fun k => g < k) x (EC x A6 c6 A7 c7)
  lt : ∀ k, (Value.slice B mm d).ownBlock = some k → k < g
theorem foldA {w wr W0 w1 w2 : World} {B A8 A11 A6 A7 : Option Addr} {mm d c8 c11 c6 c7 : Nat} {o : List S30} {x : S30} (h : FI w wr B mm d o) (hblk : W0.heap[wr.heap.size]? = some (.cells (EC x A8 c8 A11 c11).toArray 30 (0, 0))) (hb0 : Below wr.heap.size wr W0) (hsz : W0.heap.size = wr.heap.size + 1)
    (hR6 : Kd.R k61 61 w1 w.heap.size (fun k => W0.heap.size ≤ k) (.slice A6 x.f6.f2.length c6) x.f6.f2) (hb6 : Below W0.heap.size W0 w1) (hR7 : Kd.R (Kd.int .i64) 3 w2 w.heap.size (fun k => W0.heap.size ≤ k) (.slice A7 x.f6.f5.length c7) x.f6.f5) (hb7 : Below w1.heap.size w1 w2) :
    FG w ((w2.setCell ⟨wr.heap.size, 8, none⟩ (.slice A6 x.f6.f2.length c6)).setCell ⟨wr.heap.size, 11, none⟩ (.slice A7 x.f6.f5.length c7)) B mm d o x A6 c6 A7 c7 wr.heap.size := by
  have hb02 : Below W0.heap.size W0 w2 := hb6.trans (hb7.mono hb6.size)
  have hbw2 : Below wr.heap.size wr w2 := hb0.trans (hb02.mono (by omega))
  have hne : ∀ k, W0.heap.size ≤ k → k ≠ wr.heap.size := fun k hk => by omega
  have hle := h.below.size
  refine ⟨⟨h.len, ?_, ?_⟩, ?_, ?_, fun k hk => Kd.N_lt h.row k hk⟩
  · exact Kd.N_mono (Kd.N_far (p := ⟨wr.heap.size, 11, none⟩) (Kd.N_far (p := ⟨wr.heap.size, 8, none⟩) (Kd.N_below (Kd.N_bound h.row) hbw2) (fun k hk => by have := hk.2; show k ≠ wr.heap.size; omega) _) (fun k hk => by have := hk.2; show k ≠ wr.heap.size; omega) _) (fun _ _ => trivial)
  · exact ((h.below.trans (hbw2.mono hle)).setCell hle _).setCell hle _
  · exact blk_put (blk_put (cs' := (EC x A6 c6 A11 c11).toArray) (blk_below hblk hb02) 8 _ rfl) 11 _ rfl
  · exact Kd.FK_mono (Kd.FK_of_M (base := w.heap.size) (ok := fun k => W0.heap.size ≤ k) (k30_mkM _ _ _ x (Kd.R_far (p := ⟨wr.heap.size, 11, none⟩) (Kd.R_far (p := ⟨wr.heap.size, 8, none⟩) (Kd.R_below hR6 hb7) hne _) hne _) (Kd.R_far (p := ⟨wr.heap.size, 11, none⟩) (Kd.R_far (p := ⟨wr.heap.size, 8, none⟩) hR7 hne _) hne _))) (fun k hk => by omega)
theorem F_one {W : World} {g g' : Nat} {x : S30} {cs : List Value} (hblk : W.heap[g']? = some (.cells cs.toArray 30 (0, 0))) (hfk : Kd.FK k30 W (fun k => k ≠ g) x cs) (hne : g' ≠ g) : Kd.F k30 W (fun k => k ≠ g) (some ⟨g', 0, none⟩) 1 [x] := by
  intro W' hW
  have hb' : W'.heap[g']? = some (.cells cs.toArray 30 (0, 0)) := (hW g' hne (blk_lt hblk)).trans hblk
  have hk := hfk W' (fun k hk hlt => hW k hk hlt)
  refine ⟨rfl, by decide, fun _ => ⟨⟨g', 0, none⟩, rfl, fun j p hj => ?_⟩⟩
  have hj0 : j = 0 := by
    have := (List.getElem?_eq_some_iff.1 hj).1
    simpa using this
  subst hj0
  have hp : p = x := by simpa using hj.symm
  subst hp
  refine ⟨cs, k30.K_len hk, hk, fun i u hi => ?_⟩
  have := blk_cell hb' i
  rw [List.getElem?_toArray, hi] at this
  rw [add_at, show 0 + (0 * k30.sz + i) = i from by omega]
  exact this
theorem join_none {w W : World} {r : Option Bool} {cs : Array Value} {u : Ending} {w' : World} (h : JoinP W r cs u w') (hr : r = none) (hb : Below w.heap.size w W) : ∃ A n c, u = .returned (.tuple #[.slice A n c, .bool false]) ∧ Below w.heap.size w w' := by
  subst hr
  obtain ⟨⟨A, n, c, h1, _, _⟩, h2⟩ := h
  exact ⟨A, n, c, h1, hb.trans (h2.mono hb.size)⟩
theorem join_yes {w W : World} {r : Option Bool} {cs : Array Value} {u : Ending} {w' : World} (h : JoinP W r cs u w') (hr : r = some true) (hb : Below w.heap.size w W) : ∃ g c, u = .returned (.tuple #[.slice (some ⟨g, 0, none⟩) 1 c, .bool true]) ∧ w.heap.size ≤ g ∧ w'.heap[g]? = some (.cells cs 30 (0, 0)) ∧ Below w.heap.size w w' := by
  subst hr
  obtain ⟨⟨A, n, c, h1, h3, _⟩, h2⟩ := h
  obtain ⟨rfl, g, rfl, h4, h5⟩ := h3 rfl
  exact ⟨g, c, h1, Nat.le_trans hb.size h4, h5, hb.trans (h2.mono hb.size)⟩
theorem join_gone' {w W : World} {r : Option Bool} {cs : Array Value} {u : Ending} {w' : World} (h : JoinP W r cs u w') (hr : r = some false) (hb : Below w.heap.size w W) : ∃ c, u = .returned (.tuple #[.slice none 0 c, .bool true]) ∧ Below w.heap.size w w' := by
  subst hr
  obtain ⟨⟨A, n, c, h1, _, h3⟩, h2⟩ := h
  obtain ⟨rfl, rfl⟩ := h3 rfl
  exact ⟨c, h1, hb.trans (h2.mono hb.size)⟩
/-- What Fold comes to. -/
def FoldP (w : World) (er : Int) (es : List S30) (u : Ending) (w' : World) : Prop := ∃ A' m' c', u = .returned (.tuple #[.slice A' m' c', .int .i64 er]) ∧ Below w.heap.size w w' ∧ (er = 0 → FI w w' A' m' c' (foldF es)) ∧ (er ≠ 0 → m' = 0)
/-- The end of the inner loop. -/
theorem FJ.done {w W : World} {A : Option Addr} {m c k : Nat} {R : List S30} {es : List S30} {o : List S30} (hfi : FI w W A m c o) (ho : o = R) (hR : R = foldF (es.take (k + 1))) (hk : k < es.length) : FH w W A m c es (k + 1) ∧ m ≤ k + 1 := by
  subst ho
  have h1 := foldF_le es (k + 1) (by omega)
  rw [← hR] at h1
  exact ⟨by unfold FH; rw [← hR]; exact hfi, by rw [hfi.len]; exact h1⟩
end Go.Proofs.YthfalaabfgpjmaaDoor.ApA
