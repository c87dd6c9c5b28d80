/- Package apart: touched. -/
import Derived.Test.YthfalaabfgpjmaaDoorApS
namespace Go.Proofs.YthfalaabfgpjmaaDoor.ApA
open Go.RowKit Go.Proofs.YthfalaabfgpjmaaDoorW.PrintWords Go.Proofs.YthfalaabfgpjmaaDoorW.PrintLast Go.Proofs.YthfalaabfgpjmaaDoorW.PrintMore Go.Proofs.YthfalaabfgpjmaaDoor.PAP Go.Proofs.YthfalaabfgpjmaaDoor.DocP Go.Proofs.YthfalaabfgpjmaaDoor.DocC
set_option linter.unusedVariables false
set_option linter.unusedSimpArgs false
theorem sortH (w : World) (o : List Int) (h0 : 0 < o.length) (h3 : o.length ≤ 3) : Hid (∀ (v : Value) (W : World), Kd.R (Kd.int .i64) 3 W w.heap.size (fun _ => True) v o → w.heap.size ≤ W.heap.size → Below w.heap.size w W → Calls Tryd.prog 34 #[v] W fun e w1 => e = .returned (.tuple #[]) ∧ Kd.R (Kd.int .i64) 3 w1 w.heap.size (fun _ => True) v (o.mergeSort fun x y => decide (x ≤ y)) ∧ w.heap.size ≤ w1.heap.size ∧ Below w.heap.size w w1) :=
  Lib.hid (fun v W h1 h2 h4 => (sortR h1 h0 (by omega)).mono (fun e w1 ⟨he, h6, h5⟩ => ⟨he, h6, (h5 w h2 h4).size, h5 w h2 h4⟩))
theorem compactH (w : World) (o : List Int) (h0 : 0 < o.length) (h3 : o.length ≤ 3) : Hid (∀ (v : Value) (W : World), Kd.R (Kd.int .i64) 3 W w.heap.size (fun _ => True) v (o.mergeSort fun x y => decide (x ≤ y)) → w.heap.size ≤ W.heap.size → Below w.heap.size w W → Calls Tryd.prog 35 #[v] W fun e w1 => ∃ v', e = .returned v' ∧ Kd.R (Kd.int .i64) 3 w1 w.heap.size (fun _ => True) v' (told o) ∧ Below w.heap.size w w1) :=
  Lib.hid (fun v W h1 h2 h4 => (compactR h1 (by simpa using h0) (by simp; omega)).mono (fun e w1 ⟨v', he, h6, h5⟩ => ⟨v', he, h6, h5 w h2 h4⟩))
/-- A row of one number, just made. -/
def LitR (w W : World) (s : Nat) (x : Int) : Prop := Kd.R (Kd.int .i64) 3 W w.heap.size (fun _ => True) (.slice (some ⟨s, 0, none⟩) 1 1) [x] ∧ w.heap.size ≤ W.heap.size ∧ Below w.heap.size w W
theorem lit_R {w W : World} {s : Nat} (hs : W.heap.size = s) (hb : Below w.heap.size w W) (x : Int) : LitR w (W.alloc (.cells #[.int .i64 x] 3)) s x := by
  subst hs
  exact ⟨Kd.R_of_own (World.ownsRow_lit W #[.int .i64 x] 1 hb.size (by decide) (by simp)) (fun _ _ => trivial), Nat.le_trans hb.size (by simp), hb.alloc hb.size _⟩
/-- What is known behind an append to a row of one's own. -/
structure ApG (w W : World) (v : Value) (xs : List Int) (X Y : Obj) : Prop where
  own : W.ownsRow w.heap.size 3 1 v xs.length (xs.map (Value.int .i64))
  b0 : W.heap[w.heap.size]? = some X
  b1 : W.heap[w.heap.size + 1]? = some Y
  below : Below w.heap.size w W
  far : ∀ k, v.ownBlock = some k → w.heap.size + 2 ≤ k
theorem ApG.on {w W W' : World} {v : Value} {xs : List Int} {X Y : Obj} (h : ApG w W v xs X Y) (hb : Below W.heap.size W W') : ApG w W' v xs X Y :=
  ⟨pw_own_below h.own hb, blk_below h.b0 hb, blk_below h.b1 hb, h.below.trans (hb.mono h.below.size), h.far⟩
theorem ApG.lit (w : World) (X Y : Obj) (x : Int) : ApG w (((w.alloc X).alloc Y).alloc (.cells #[.int .i64 x] 3)) (.slice (some ⟨w.heap.size + 1 + 1, 0, none⟩) 1 1) [x] X Y := by
  refine ⟨?_, ?_, ?_, ?_, ?_⟩
  · have := World.ownsRow_lit (base := w.heap.size) (e := 3) (size := 1) ((w.alloc X).alloc Y) #[.int .i64 x] 1 (by simp; omega) (by decide) (by simp)
    simpa using this
  · exact blk_below (blk_new w X) (below_alloc (below_alloc (Below.refl _ _) _) _)
  · exact blk_below (by simpa using blk_new (w.alloc X) Y) (below_alloc (Below.refl _ _) _)
  · exact (((Below.refl _ w).alloc (Nat.le_refl _) _).alloc (by simp) _).alloc (by simp; omega) _
  · intro k hk
    simp [Value.ownBlock] at hk
    omega
/-- A number behind a row of one's own. -/
theorem ApG.put {w W W' : World} {v v' : Value} {xs : List Int} {X Y : Obj} {x : Int} (h : ApG w W v xs X Y) (ho : W'.ownsRow w.heap.size 3 1 v' (xs.length + 1) (xs.map (Value.int .i64) ++ [.int .i64 x])) (hg : (W.alloc (.cells #[.int .i64 x] 3)).grownBy W' v.ownBlock) (hv : v'.ownBlock = v.ownBlock ∨ v'.ownBlock = some (W.alloc (.cells #[.int .i64 x] 3)).heap.size) : ApG w W' v' (xs ++ [x]) X Y := by
  have hs := h.below.size
  have l0 : w.heap.size < W.heap.size := blk_lt h.b0
  have l1 : w.heap.size + 1 < W.heap.size := blk_lt h.b1
  refine ⟨by simpa using ho, ?_, ?_, ?_, ?_⟩
  · rw [hg.block _ (by simp; omega) (fun e => by have := h.far _ e.symm; omega), Lib.alloc_old W _ _ l0]
    exact h.b0
  · rw [hg.block _ (by simp; omega) (fun e => by have := h.far _ e.symm; omega), Lib.alloc_old W _ _ l1]
    exact h.b1
  · exact (h.below.alloc hs _).grown hg (by simp; omega) (fun k hk => by have := h.far k hk; omega)
  · intro k hk
    rcases hv with hv | hv
    · exact h.far k (by rw [← hv]; exact hk)
    · rw [hv] at hk
      simp at hk
      omega
set_option maxRecDepth 100000 in
set_option maxHeartbeats 4000000 in
theorem touched_make (w : World) (A A8 A11 : Option Addr) (n c n8 n11 c8 c11 : Nat) (q : Bool) (f0 f1 f2 f3 g0 g4 : Int) (f4 f5 g1 g3 : ByteArray) (h4 : f0 = 4) :
    Calls Tryd.prog 25 #[.agg #[.slice A n c, .bool q], .agg #[.int .i64 f0, .int .i64 f1, .int .i64 f2, .int .i64 f3, .string f4, .string f5, .int .i64 g0, .string g1, .slice A8 n8 c8, .string g3, .int .i64 g4, .slice A11 n11 c11]] w fun u w' => ∃ v : Value, u = .returned v ∧ Kd.R (Kd.int .i64) 3 w' w.heap.size (fun _ => True) v (told [(n : Int)]) ∧ Below w.heap.size w w' := by
  have HS := sortH w [(n : Int)] (by simp) (by simp)
  have HCp := compactH w [(n : Int)] (by simp) (by simp)
  have h4b : (f0 == 4) = true := by simpa using h4
  clear h4
  have HL := Lib.hid (lit_R (w := w) (W := ((w.alloc (.cells #[.slice A n c, .bool q] 24 (0, 0))).alloc (.cells #[.int .i64 f0, .int .i64 f1, .int .i64 f2, .int .i64 f3, .string f4, .string f5, .int .i64 g0, .string g1, .slice A8 n8 c8, .string g3, .int .i64 g4, .slice A11 n11 c11] 30 (0, 0))).alloc (.cells #[.int .i64 f1] 3)) (s := w.heap.size + 1 + 1 + 1) (by simp) ((((Below.refl _ w).alloc (Nat.le_refl _) _).alloc (by simp) _).alloc (by simp; omega) _) (n : Int))
  go_enter Tryd.func25, Tryd.ntmps25
  go_wp2_with fail
  refine (HS.out _ _ HL.out.1 HL.out.2.1 HL.out.2.2).mono ?_
  rintro u w1 ⟨rfl, hr1, hs1, hb1⟩
  have HR1 := Lib.hid hr1
  have HS1 := Lib.hid hs1
  have HB1 := Lib.hid hb1
  clear hr1 hs1 hb1
  go_wp2_with fail
  refine (HCp.out _ _ HR1.out HS1.out HB1.out).mono ?_
  rintro u w2 ⟨v', rfl, hr2, hb2⟩
  have HR2 := Lib.hid hr2
  have HB2 := Lib.hid hb2
  clear hr2 hb2
  go_wp2_with fail
  go_ret
  exact ⟨_, rfl, HR2.out, HB2.out⟩
set_option maxRecDepth 100000 in
set_option maxHeartbeats 4000000 in
theorem touched_one (w : World) (A A8 A11 : Option Addr) (n c n8 n11 c8 c11 : Nat) (q : Bool) (f0 f1 f2 f3 g0 g4 : Int) (f4 f5 g1 g3 : ByteArray) (h4 : f0 ≠ 4) (h5 : f0 ≠ 5) (h6 : f0 ≠ 6) :
    Calls Tryd.prog 25 #[.agg #[.slice A n c, .bool q], .agg #[.int .i64 f0, .int .i64 f1, .int .i64 f2, .int .i64 f3, .string f4, .string f5, .int .i64 g0, .string g1, .slice A8 n8 c8, .string g3, .int .i64 g4, .slice A11 n11 c11]] w fun u w' => ∃ v : Value, u = .returned v ∧ Kd.R (Kd.int .i64) 3 w' w.heap.size (fun _ => True) v (told [f1]) ∧ Below w.heap.size w w' := by
  have HS := sortH w [f1] (by simp) (by simp)
  have HCp := compactH w [f1] (by simp) (by simp)
  have h4b : (f0 == 4) = false := by simpa using h4
  have h5b : (f0 == 5) = false := by simpa using h5
  have h6b : (f0 == 6) = false := by simpa using h6
  clear h4 h5 h6
  have HL := Lib.hid (lit_R (w := w) (W := (w.alloc (.cells #[.slice A n c, .bool q] 24 (0, 0))).alloc (.cells #[.int .i64 f0, .int .i64 f1, .int .i64 f2, .int .i64 f3, .string f4, .string f5, .int .i64 g0, .string g1, .slice A8 n8 c8, .string g3, .int .i64 g4, .slice A11 n11 c11] 30 (0, 0))) (s := w.heap.size + 1 + 1) (by simp) (((Below.refl _ w).alloc (Nat.le_refl _) _).alloc (by simp) _) f1)
  go_enter Tryd.func25, Tryd.ntmps25
  go_wp2_with fail
  refine (HS.out _ _ HL.out.1 HL.out.2.1 HL.out.2.2).mono ?_
  rintro u w1 ⟨rfl, hr1, hs1, hb1⟩
  have HR1 := Lib.hid hr1
  have HS1 := Lib.hid hs1
  have HB1 := Lib.hid hb1
  clear hr1 hs1 hb1
  go_wp2_with fail
  refine (HCp.out _ _ HR1.out HS1.out HB1.out).mono ?_
  rintro u w2 ⟨v', rfl, hr2, hb2⟩
  have HR2 := Lib.hid hr2
  have HB2 := Lib.hid hb2
  clear hr2 hb2
  go_wp2_with fail
  go_ret
  exact ⟨_, rfl, HR2.out, HB2.out⟩
end Go.Proofs.YthfalaabfgpjmaaDoor.ApA
