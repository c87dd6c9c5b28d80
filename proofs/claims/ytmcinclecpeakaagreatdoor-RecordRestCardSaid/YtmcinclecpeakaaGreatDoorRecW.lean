import Derived.Test.YtmcinclecpeakaaGreatDoorGRecT
import Derived.Test.YtmcinclecpeakaaGreatDoorGApS
import Derived.Deep.CutBlock
/- Package record: noted. -/
namespace Go.Proofs.YtmcinclecpeakaaGreatDoor.ApA
open Go.RowKit Go.Proofs.YtmcinclecpeakaaGreatDoorW.PrintWords Go.Proofs.YtmcinclecpeakaaGreatDoorW.PrintLast Go.Proofs.YtmcinclecpeakaaGreatDoorW.PrintMore Go.Proofs.YtmcinclecpeakaaGreatDoor.PRR Go.Proofs.YtmcinclecpeakaaGreatDoor.DocP Go.Proofs.YtmcinclecpeakaaGreatDoor.DocC
set_option linter.unusedVariables false
set_option linter.unusedSimpArgs false
/-- A step's cells at first. -/
def ZH : Array Value := #[.int .i64 0, .int .i64 0, .int .i64 0, .int .i64 0, .string ⟨#[]⟩, .string ⟨#[]⟩, .int .i64 0, .string ⟨#[]⟩, .slice none 0 0, .string ⟨#[]⟩, .int .i64 0, .slice none 0 0, .bool false, .string ⟨#[]⟩, .int .i64 0, .int .i64 0]
theorem put16 (v0 v1 v2 v3 v4 v5 v6 v7 v8 v9 v10 v11 v12 v13 v14 v15 : Value) : (((((((((((((((ZH.setIfInBounds 0 v0).setIfInBounds 1 v1).setIfInBounds 2 v2).setIfInBounds 3 v3).setIfInBounds 4 v4).setIfInBounds 5 v5).setIfInBounds 6 v6).setIfInBounds 7 v7).setIfInBounds 8 v8).setIfInBounds 9 v9).setIfInBounds 10 v10).setIfInBounds 11 v11).setIfInBounds 12 v12).setIfInBounds 13 v13).setIfInBounds 14 v14).setIfInBounds 15 v15 = #[v0, v1, v2, v3, v4, v5, v6, v7, v8, v9, v10, v11, v12, v13, v14, v15] := by
  apply Array.toList_inj.1
  simp only [Array.toList_setIfInBounds]
  rfl
/-- What stands when a step is noted: the documents' boxes, the edit's, the step's. -/
structure NW (w W : World) (A : Option Addr) (n c : Nat) (q : Bool) (A1 : Option Addr) (n1 c1 : Nat) (q1 : Bool) (e : S45) (A8 : Option Addr) (n8 c8 : Nat) (A11 : Option Addr) (n11 c11 : Nat) (cs : Array Value) : Prop where
  below : Below w.heap.size w W
  b0 : W.heap[w.heap.size]? = some (.cells #[.slice A n c, .bool q] 24 (0, 0))
  b1 : W.heap[w.heap.size + 1]? = some (.cells #[.slice A1 n1 c1, .bool q1] 24 (0, 0))
  b2 : W.heap[w.heap.size + 2]? = some (.cells #[.int .i64 e.f0, .int .i64 e.f1, .int .i64 e.f2, .int .i64 e.f3, .string e.f4, .string e.f5, .int .i64 e.f6.f0, .string e.f6.f1, .slice A8 n8 c8, .string e.f6.f3, .int .i64 e.f6.f4, .slice A11 n11 c11] 45 (0, 0))
  b3 : W.heap[w.heap.size + 3]? = some (.cells ZH 48 (0, 0))
  b4 : W.heap[w.heap.size + 4]? = some (.cells cs 48 (0, 0))
theorem NW.start (w : World) (A : Option Addr) (n c : Nat) (q : Bool) (A1 : Option Addr) (n1 c1 : Nat) (q1 : Bool) (e : S45) (A8 : Option Addr) (n8 c8 : Nat) (A11 : Option Addr) (n11 c11 : Nat) (cs : Array Value) :
    NW w (((((w.alloc (.cells #[.slice A n c, .bool q] 24)).alloc (.cells #[.slice A1 n1 c1, .bool q1] 24)).alloc (.cells #[.int .i64 e.f0, .int .i64 e.f1, .int .i64 e.f2, .int .i64 e.f3, .string e.f4, .string e.f5, .int .i64 e.f6.f0, .string e.f6.f1, .slice A8 n8 c8, .string e.f6.f3, .int .i64 e.f6.f4, .slice A11 n11 c11] 45)).alloc (.cells ZH 48)).alloc (.cells cs 48)) A n c q A1 n1 c1 q1 e A8 n8 c8 A11 n11 c11 cs := by
  refine ⟨?_, ?_, ?_, ?_, ?_, ?_⟩
  · exact (((((Below.refl _ w).alloc (Nat.le_refl _) _).alloc (by simp) _).alloc (by simp; omega) _).alloc (by simp; omega) _).alloc (by simp; omega) _
  · exact blk_below (blk_new w _) (below_alloc (below_alloc (below_alloc (below_alloc (Below.refl _ _) _) _) _) _)
  · have h := blk_new (w.alloc (.cells #[.slice A n c, .bool q] 24)) (.cells #[.slice A1 n1 c1, .bool q1] 24)
    have := blk_below h (below_alloc (below_alloc (below_alloc (Below.refl _ _) (.cells #[.int .i64 e.f0, .int .i64 e.f1, .int .i64 e.f2, .int .i64 e.f3, .string e.f4, .string e.f5, .int .i64 e.f6.f0, .string e.f6.f1, .slice A8 n8 c8, .string e.f6.f3, .int .i64 e.f6.f4, .slice A11 n11 c11] 45)) (.cells ZH 48)) (.cells cs 48))
    simpa using this
  · have h := blk_new ((w.alloc (.cells #[.slice A n c, .bool q] 24)).alloc (.cells #[.slice A1 n1 c1, .bool q1] 24)) (.cells #[.int .i64 e.f0, .int .i64 e.f1, .int .i64 e.f2, .int .i64 e.f3, .string e.f4, .string e.f5, .int .i64 e.f6.f0, .string e.f6.f1, .slice A8 n8 c8, .string e.f6.f3, .int .i64 e.f6.f4, .slice A11 n11 c11] 45)
    have := blk_below h (below_alloc (below_alloc (Below.refl _ _) (.cells ZH 48)) (.cells cs 48))
    simpa using this
  · have h := blk_new (((w.alloc (.cells #[.slice A n c, .bool q] 24)).alloc (.cells #[.slice A1 n1 c1, .bool q1] 24)).alloc (.cells #[.int .i64 e.f0, .int .i64 e.f1, .int .i64 e.f2, .int .i64 e.f3, .string e.f4, .string e.f5, .int .i64 e.f6.f0, .string e.f6.f1, .slice A8 n8 c8, .string e.f6.f3, .int .i64 e.f6.f4, .slice A11 n11 c11] 45)) (.cells ZH 48)
    have := blk_below h (below_alloc (Below.refl _ _) (.cells cs 48))
    simpa using this
  · have h := blk_new ((((w.alloc (.cells #[.slice A n c, .bool q] 24)).alloc (.cells #[.slice A1 n1 c1, .bool q1] 24)).alloc (.cells #[.int .i64 e.f0, .int .i64 e.f1, .int .i64 e.f2, .int .i64 e.f3, .string e.f4, .string e.f5, .int .i64 e.f6.f0, .string e.f6.f1, .slice A8 n8 c8, .string e.f6.f3, .int .i64 e.f6.f4, .slice A11 n11 c11] 45)).alloc (.cells ZH 48)) (.cells cs 48)
    simpa using h
section
variable {w W : World} {A : Option Addr} {n c : Nat} {q : Bool} {A1 : Option Addr} {n1 c1 : Nat} {q1 : Bool} {e : S45} {A8 : Option Addr} {n8 c8 : Nat} {A11 : Option Addr} {n11 c11 : Nat} {cs : Array Value}
theorem NW.put (h : NW w W A n c q A1 n1 c1 q1 e A8 n8 c8 A11 n11 c11 cs) (k : Nat) (v : Value) : NW w (W.setCell ⟨w.heap.size + 1 + 1 + 1 + 1, k, none⟩ v) A n c q A1 n1 c1 q1 e A8 n8 c8 A11 n11 c11 (cs.setIfInBounds k v) := by
  have hb3 := h.b3
  exact ⟨h.below.setCell (by show w.heap.size ≤ w.heap.size + 1 + 1 + 1 + 1; omega) _, blk_far h.b0 (by show w.heap.size ≠ w.heap.size + 1 + 1 + 1 + 1; omega) _, blk_far h.b1 (by show w.heap.size + 1 ≠ w.heap.size + 1 + 1 + 1 + 1; omega) _, blk_far h.b2 (by show w.heap.size + 2 ≠ w.heap.size + 1 + 1 + 1 + 1; omega) _, blk_far hb3 (by show w.heap.size + 3 ≠ w.heap.size + 1 + 1 + 1 + 1; omega) _, blk_set h.b4 k v⟩
theorem NW.on {W' : World} {cs' : Array Value} (h : NW w W A n c q A1 n1 c1 q1 e A8 n8 c8 A11 n11 c11 cs) (hb : Below (w.heap.size + 1 + 1 + 1 + 1) W W') (hg : W'.heap[w.heap.size + 1 + 1 + 1 + 1]? = some (.cells cs' 48 (0, 0))) : NW w W' A n c q A1 n1 c1 q1 e A8 n8 c8 A11 n11 c11 cs' := by
  have hb3 := h.b3
  exact ⟨h.below.trans (hb.mono (by omega)), (hb.block _ (by omega)).trans h.b0, (hb.block _ (by omega)).trans h.b1, (hb.block _ (by omega)).trans h.b2, (hb.block _ (by omega)).trans hb3, hg⟩
theorem NW.as {cs' : Array Value} (h : NW w W A n c q A1 n1 c1 q1 e A8 n8 c8 A11 n11 c11 cs) (he : cs = cs') : NW w W A n c q A1 n1 c1 q1 e A8 n8 c8 A11 n11 c11 cs' := he ▸ h
theorem NW.drew (h : NW w W A n c q A1 n1 c1 q1 e A8 n8 c8 A11 n11 c11 cs) (m : Nat) : NW w (W.drewN m) A n c q A1 n1 c1 q1 e A8 n8 c8 A11 n11 c11 cs := ⟨pw_below_drewN h.below m, h.b0, h.b1, h.b2, h.b3, h.b4⟩
end
/-- What noted answers: the step, with rows of its own. -/
def NotedP (w : World) (e : S45) (n8 n11 : Nat) (S : Stp) (u : Ending) (w' : World) : Prop := ∃ A6 c6 A7 c7, u = .returned (.agg (HC e A6 n8 c6 A7 n11 c7 S.f1 S.f2 S.f3 S.f4)) ∧ Kd.R k66 66 w' w.heap.size (fun k => w.heap.size ≤ k) (.slice A6 n8 c6) e.f6.f2 ∧ Kd.R (Kd.int .i64) 3 w' w.heap.size (fun k => w.heap.size ≤ k) (.slice A7 n11 c7) e.f6.f5 ∧ Below w.heap.size w w'
/-- Behind the two clones. -/
structure NX (w W : World) (e : S45) (A6 : Option Addr) (n8 c6 : Nat) (A7 : Option Addr) (n11 c7 : Nat) (S : Stp) : Prop where
  below : Below w.heap.size w W
  b3 : W.heap[w.heap.size + 1 + 1 + 1]? = some (.cells ZH 48 (0, 0))
  b4 : W.heap[w.heap.size + 1 + 1 + 1 + 1]? = some (.cells (HC e A6 n8 c6 A7 n11 c7 S.f1 S.f2 S.f3 S.f4) 48 (0, 0))
  r6 : Kd.R k66 66 W w.heap.size (fun k => w.heap.size + 1 + 1 + 1 + 1 < k) (.slice A6 n8 c6) e.f6.f2
  r7 : Kd.R (Kd.int .i64) 3 W w.heap.size (fun k => w.heap.size + 1 + 1 + 1 + 1 < k) (.slice A7 n11 c7) e.f6.f5
theorem NW.clones {w W w1 w2 : World} {A : Option Addr} {n c : Nat} {q : Bool} {A1 : Option Addr} {n1 c1 : Nat} {q1 : Bool} {e : S45} {A8 : Option Addr} {n8 c8 : Nat} {A11 : Option Addr} {n11 c11 : Nat} {S : Stp} (h : NW w W A n c q A1 n1 c1 q1 e A8 n8 c8 A11 n11 c11 (HC e A8 n8 c8 A11 n11 c11 S.f1 S.f2 S.f3 S.f4))
    {A6 A7 : Option Addr} {c6 c7 : Nat} (hR6 : Kd.R k66 66 w1 w.heap.size (fun k => W.heap.size ≤ k) (.slice A6 n8 c6) e.f6.f2) (hb6 : Below W.heap.size W w1) (hR7 : Kd.R (Kd.int .i64) 3 w2 w.heap.size (fun k => W.heap.size ≤ k) (.slice A7 n11 c7) e.f6.f5) (hb7 : Below w1.heap.size w1 w2) :
    NX w ((w2.setCell ⟨w.heap.size + 1 + 1 + 1 + 1, 8, none⟩ (.slice A6 n8 c6)).setCell ⟨w.heap.size + 1 + 1 + 1 + 1, 11, none⟩ (.slice A7 n11 c7)) e A6 n8 c6 A7 n11 c7 S := by
  have hb02 : Below W.heap.size W w2 := hb6.trans (hb7.mono hb6.size)
  have hsz : w.heap.size + 1 + 1 + 1 + 1 < W.heap.size := blk_lt h.b4
  have hb3 := h.b3
  have hne : ∀ k, W.heap.size ≤ k → k ≠ w.heap.size + 1 + 1 + 1 + 1 := fun k hk => by omega
  have hlt : ∀ k, W.heap.size ≤ k → w.heap.size + 1 + 1 + 1 + 1 < k := fun k hk => by omega
  refine ⟨?_, ?_, ?_, ?_, ?_⟩
  · exact ((h.below.trans (hb02.mono h.below.size)).setCell (by show w.heap.size ≤ w.heap.size + 1 + 1 + 1 + 1; omega) _).setCell (by show w.heap.size ≤ w.heap.size + 1 + 1 + 1 + 1; omega) _
  · exact blk_far (blk_far (blk_below hb3 hb02) (by show w.heap.size + 3 ≠ w.heap.size + 1 + 1 + 1 + 1; omega) _) (by show w.heap.size + 3 ≠ w.heap.size + 1 + 1 + 1 + 1; omega) _
  · exact blk_put (blk_put (cs' := HC e A6 n8 c6 A11 n11 c11 S.f1 S.f2 S.f3 S.f4) (blk_below h.b4 hb02) 8 _ rfl) 11 _ rfl
  · exact Kd.R_mono (Kd.R_far (p := ⟨w.heap.size + 1 + 1 + 1 + 1, 11, none⟩) (Kd.R_far (p := ⟨w.heap.size + 1 + 1 + 1 + 1, 8, none⟩) (Kd.R_below hR6 hb7) hne _) hne _) hlt
  · exact Kd.R_mono (Kd.R_far (p := ⟨w.heap.size + 1 + 1 + 1 + 1, 11, none⟩) (Kd.R_far (p := ⟨w.heap.size + 1 + 1 + 1 + 1, 8, none⟩) hR7 hne _) hne _) hlt
set_option maxHeartbeats 2000000 in
set_option maxRecDepth 100000 in
theorem noted_calls (l l1 : List S43) (q q1 : Bool) (e : S45) (made : Int) (A A1 A8 A11 : Option Addr) (c c1 n8 c8 n11 c11 : Nat) (w : World) (hr : Kd.C k43 w A l.length l) (hr1 : Kd.C k43 w A1 l1.length l1) (hi5 : e.f0 = 5 → In l1.length e.f1 ∧ (kids l1 e.f1).length ≤ 1000) (hd : DocOk l) (hi3 : e.f0 = 3 → In l.length e.f1) (hi1 : e.f0 = 1 ∨ e.f0 = 2 → In l.length e.f1) (hm4 : e.f0 = 4 → made = l.length) (hi6 : e.f0 = 6 → In l.length e.f1 ∧ In l.length (par l e.f1)) (hk16 : 1 ≤ e.f0 ∧ e.f0 ≤ 6)
    (hn8 : n8 = e.f6.f2.length) (hn11 : n11 = e.f6.f5.length) (hr8 : Kd.C k66 w A8 e.f6.f2.length e.f6.f2) (hr11 : Kd.C (Kd.int .i64) w A11 e.f6.f5.length e.f6.f5) (hs8 : e.f6.f2.length ≤ 4398046511104) (hs11 : e.f6.f5.length ≤ 17592186044416) :
    Calls Tryz.prog 15 #[.agg #[.slice A l.length c, .bool q], .agg #[.slice A1 l1.length c1, .bool q1], .agg #[.int .i64 e.f0, .int .i64 e.f1, .int .i64 e.f2, .int .i64 e.f3, .string e.f4, .string e.f5, .int .i64 e.f6.f0, .string e.f6.f1, .slice A8 n8 c8, .string e.f6.f3, .int .i64 e.f6.f4, .slice A11 n11 c11], .int .i64 made] w (NotedP w e n8 n11 (noteF l l1 e)) := by
  obtain ⟨hi5, hk5⟩ : (e.f0 = 5 → In l1.length e.f1) ∧ (e.f0 = 5 → (kids l1 e.f1).length ≤ 1000) := ⟨fun h => (hi5 h).1, fun h => (hi5 h).2⟩
  have HI6 := Lib.hid hi6
  have HK16 := Lib.hid hk16
  have HK5 := Lib.hid hk5
  have HN8 := Lib.hid hn8
  have HN11 := Lib.hid hn11
  have HR8 := Lib.hid hr8
  have HR11 := Lib.hid hr11
  have HS8 := Lib.hid hs8
  have HS11 := Lib.hid hs11
  clear hi6 hk16 hk5 hn8 hn11 hr8 hr11 hs8 hs11
  have HNo : Hid (∃ S : Stp, S = noteF l l1 e) := Lib.hid ⟨_, rfl⟩
  obtain ⟨S, hS⟩ := HNo.out
  clear HNo
  have HS := Lib.hid hS
  clear hS
  have HR := Lib.hid hr
  have HI3 := Lib.hid hi3
  have HM4 := Lib.hid hm4
  have HI1 := Lib.hid hi1
  have HD := Lib.hid hd
  have HI5 := Lib.hid hi5
  have HR1 := Lib.hid hr1
  clear hr hi3 hm4 hi1 hd hi5 hr1
  obtain ⟨n, hn⟩ : ∃ n, n = l.length := ⟨_, rfl⟩
  obtain ⟨n1, hn1⟩ : ∃ n1, n1 = l1.length := ⟨_, rfl⟩
  rw [← hn] at HR HI3 HM4 HI1 HI6
  rw [← hn1] at HR1 HI5
  rw [← hn, ← hn1]
  have HLn := Lib.hid hn
  clear hn hn1
  go_enter Tryz.func15, Tryz.ntmps15
  go_upto_block 0 with fail
  have HN := Lib.hid (NW.start w A n c q A1 n1 c1 q1 e A8 n8 c8 A11 n11 c11 (HC e A8 n8 c8 A11 n11 c11 false ⟨#[]⟩ 0 0))
  unfold HC ZH at HN
  obtain ⟨W0, hW0⟩ : ∃ W0, W0 = (((((w.alloc (.cells #[.slice A n c, .bool q] 24)).alloc (.cells #[.slice A1 n1 c1, .bool q1] 24)).alloc (.cells #[.int .i64 e.f0, .int .i64 e.f1, .int .i64 e.f2, .int .i64 e.f3, .string e.f4, .string e.f5, .int .i64 e.f6.f0, .string e.f6.f1, .slice A8 n8 c8, .string e.f6.f3, .int .i64 e.f6.f4, .slice A11 n11 c11] 45)).alloc (.cells #[.int .i64 0, .int .i64 0, .int .i64 0, .int .i64 0, .string ⟨#[]⟩, .string ⟨#[]⟩, .int .i64 0, .string ⟨#[]⟩, .slice none 0 0, .string ⟨#[]⟩, .int .i64 0, .slice none 0 0, .bool false, .string ⟨#[]⟩, .int .i64 0, .int .i64 0] 48)).alloc (.cells #[.int .i64 e.f0, .int .i64 e.f1, .int .i64 e.f2, .int .i64 e.f3, .string e.f4, .string e.f5, .int .i64 e.f6.f0, .string e.f6.f1, .slice A8 n8 c8, .string e.f6.f3, .int .i64 e.f6.f4, .slice A11 n11 c11, .bool false, .string ⟨#[]⟩, .int .i64 0, .int .i64 0] 48)) := ⟨_, rfl⟩
  rw [← hW0] at HN ⊢
  clear hW0
  go_cut [14] (fun s14 wc => Hid (NW w wc A n c q A1 n1 c1 q1 e A8 n8 c8 A11 n11 c11 (HC e A8 n8 c8 A11 n11 c11 S.f1 S.f2 S.f3 S.f4)))
  case first =>
    have hb := HN.out.below
    have t4 : W0.cell? ⟨w.heap.size + 1 + 1 + 1 + 1, 13, none⟩ = some (.string ⟨#[]⟩) := (blk_cell HN.out.b4 13).trans rfl
    have t5 : W0.cell? ⟨w.heap.size + 1 + 1 + 1 + 1, 14, none⟩ = some (.int .i64 0) := (blk_cell HN.out.b4 14).trans rfl
    have t6 : W0.cell? ⟨w.heap.size + 1 + 1 + 1 + 1, 15, none⟩ = some (.int .i64 0) := (blk_cell HN.out.b4 15).trans rfl
    have f4 : W0.frozen? ⟨w.heap.size + 1 + 1 + 1 + 1, 13, none⟩ = false := blk_frozen HN.out.b4 13
    have f5 : W0.frozen? ⟨w.heap.size + 1 + 1 + 1 + 1, 14, none⟩ = false := blk_frozen HN.out.b4 14
    have f6 : W0.frozen? ⟨w.heap.size + 1 + 1 + 1 + 1, 15, none⟩ = false := blk_frozen HN.out.b4 15
    have z0 : W0.cell? ⟨w.heap.size, 0, none⟩ = some (.slice A n c) := (blk_cell HN.out.b0 0).trans rfl
    have y1 : W0.cell? ⟨w.heap.size + 1 + 1, 1, none⟩ = some (.int .i64 e.f1) := (blk_cell HN.out.b2 1).trans rfl
    have HNd : Hid (In n e.f1 → ∃ ad, A = some ad ∧ W0.cell? ⟨(ad.add (e.f1.toNat * 6)).block, (ad.add (e.f1.toNat * 6)).off + 3, none⟩ = some (.string (rd_T43 l e.f1).f3)) := Lib.hid (fun hi => by
      obtain ⟨ad, A2, c2, A5, c5, e1, h0, h1, h2, h3, _⟩ := at_T43 (Kd.C_below HR.out hb) e.f1 hi.1 hi.2
      exact ⟨ad, e1, h3⟩)
    by_cases h4 : e.f0 = 4
    · have hs : S = ⟨e, false, ⟨#[]⟩, 0, (n : Int)⟩ := by rw [HS.out, HLn.out]; unfold noteF; rw [if_neg (by omega), if_neg (by omega), if_pos h4]
      have hmn := HM4.out h4
      go_wp2_with fail
      go_meet
      refine Lib.hid ?_
      rw [hs]
      exact HN.out.put 15 (.int .i64 n)
    by_cases h3 : e.f0 = 3
    · have hin := HI3.out h3
      have hin0 := hin.1
      have hin1 := hin.2
      obtain ⟨ad, rfl, h9⟩ := HNd.out hin
      have hs : S = ⟨e, false, (rd_T43 l e.f1).f3, 0, 0⟩ := by rw [HS.out]; unfold noteF; rw [if_neg (by omega), if_pos h3]
      go_wp2_with fail
      go_meet
      refine Lib.hid ?_
      rw [hs]
      exact HN.out.put 13 (.string (rd_T43 l e.f1).f3)
    by_cases h12 : e.f0 = 1 ∨ e.f0 = 2
    · have hin := HI1.out h12
      have hin0 := hin.1
      have hin1 := hin.2
      obtain ⟨ad, A2, c2, A5, c5, rfl, x0, x1, x2, x3, x4, x5, g2l, g2, _, _⟩ := at_T43 (Kd.C_below HR.out hb) e.f1 hin0 hin1
      have ha12 : (rd_T43 l e.f1).f2.length ≤ 12 := (HD.out.oneOk (by rw [← HLn.out]; exact hin)).2.2.2.2.1.1
      have hs : HC e A8 n8 c8 A11 n11 c11 S.f1 S.f2 S.f3 S.f4 = (if 0 ≤ nmF e.f4 (rd_T43 l e.f1).f2 then HC e A8 n8 c8 A11 n11 c11 true (atF (rd_T43 l e.f1).f2 (nmF e.f4 (rd_T43 l e.f1).f2)).f1 0 (nmF e.f4 (rd_T43 l e.f1).f2) else HC e A8 n8 c8 A11 n11 c11 false ⟨#[]⟩ 0 0) := by
        rw [HS.out]; unfold noteF; rw [if_pos h12]; split <;> rfl
      have HAc := Lib.hid (attribute_calls (rd_T43 l e.f1) e A2 A5 A8 A11 c2 (rd_T43 l e.f1).f5.length c5 n8 c8 n11 c11 (w.heap.size + 1 + 1 + 1 + 1) W0 g2 g2l (by omega) HN.out.b4)
      rw [← hs] at HAc
      have HHs := Lib.hid hs
      clear hs g2 g2l HNd
      generalize rd_T43 l e.f1 = x at *
      obtain ⟨n2, hn2⟩ : ∃ n2, n2 = x.f2.length := ⟨_, rfl⟩
      obtain ⟨n5, hn5⟩ : ∃ n5, n5 = x.f5.length := ⟨_, rfl⟩
      rw [← hn2] at x2 HAc
      rw [← hn5] at x5 HAc
      clear ha12 hn2 hn5
      rcases h12 with h1 | h2
      · have h11 : (e.f0 == 1) = true := by rw [h1]; rfl
        clear h1 h3 h4
        go_wp2_with fail
        refine HAc.out.mono ?_
        rintro u w2 ⟨rfl, hb2, hg2⟩
        have H2 := Lib.hid (HN.out.on hb2 hg2)
        clear hb2 hg2
        go_wp2_with fail
        go_meet
        exact H2
      · have h21 : (e.f0 == 1) = false := by rw [h2]; rfl
        have h22 : (e.f0 == 2) = true := by rw [h2]; rfl
        clear h2 h3 h4
        go_wp2_with fail
        refine HAc.out.mono ?_
        rintro u w2 ⟨rfl, hb2, hg2⟩
        have H2 := Lib.hid (HN.out.on hb2 hg2)
        clear hb2 hg2
        go_wp2_with fail
        go_meet
        exact H2
    by_cases h5 : e.f0 = 5
    · have hin := HI5.out h5
      have hin0 := hin.1
      have hin1 := hin.2
      obtain ⟨ad, A2, c2, A5, c5, rfl, x0, x1, x2, x3, x4, x5, _, _, g5l, g5⟩ := at_T43 (Kd.C_below HR1.out hb) e.f1 hin0 hin1
      have z1 : W0.cell? ⟨w.heap.size + 1, 0, none⟩ = some (.slice (some ad) n1 c1) := (blk_cell HN.out.b1 0).trans rfl
      have y2 : W0.cell? ⟨w.heap.size + 1 + 1, 2, none⟩ = some (.int .i64 e.f2) := (blk_cell HN.out.b2 2).trans rfl
      have hs : S = ⟨e, false, ⟨#[]⟩, -1, ix (rd_T43 l1 e.f1).f5 e.f2⟩ := by rw [HS.out]; unfold noteF; rw [if_neg (by omega), if_neg (by omega), if_neg (by omega), if_pos h5]
      obtain ⟨kk, hkk⟩ := ev_at (jx_ev (rd_T43 l1 e.f1).f5 e.f2 g5.2.1)
      have HIx : Hid (∀ W : World, Below W0.heap.size W0 W → Calls Tryz.prog 28 #[.slice A5 (rd_T43 l1 e.f1).f5.length c5, .int .i64 e.f2] W fun u w' => u = .returned (.int .i64 (ix (rd_T43 l1 e.f1).f5 e.f2)) ∧ ∃ m, w' = W.drewN m) := Lib.hid (fun W h =>
        (slices_Index_int_int.calls kk A5 c5 _ e.f2 _ W (Kd.C_below g5 h) g5l hkk).mono fun u w' ⟨h1, h2⟩ => ⟨h1, h2.out⟩)
      have HSx := Lib.hid hs
      clear hs g5 g5l hkk HNd
      generalize rd_T43 l1 e.f1 = x at *
      obtain ⟨n5, hn5⟩ : ∃ n5, n5 = x.f5.length := ⟨_, rfl⟩
      rw [← hn5] at x5 HIx
      generalize ix x.f5 e.f2 = p at *
      have b1 : (e.f0 == 1) = false := by rw [h5]; rfl
      have b2 : (e.f0 == 2) = false := by rw [h5]; rfl
      have b3 : (e.f0 == 3) = false := by rw [h5]; rfl
      have b4 : (e.f0 == 4) = false := by rw [h5]; rfl
      have b5 : (e.f0 == 5) = true := by rw [h5]; rfl
      clear h5 h4 h3 h12 hn5
      go_upto_region 11 with fail
      go_region_with (with_reducible refine (HIx.out _ ?_).mono ?_; ((repeat (first | refine below_alloc ?_ _ | refine below_drew ?_)); exact Below.refl _ _); rintro u w2 ⟨rfl, m, rfl⟩)
      all_goals
        go_wp2_with fail
        go_meet
        refine Lib.hid ?_
        rw [HSx.out]
        first
          | exact ((HN.out.drew _).put 14 (.int .i64 (-1))).put 15 (.int .i64 p)
          | exact NW.as (((HN.out.drew _).put 15 (.int .i64 p)).put 14 (.int .i64 (-1))) (by rfl)
    · have h6 : e.f0 = 6 := by have := HK16.out; omega
      obtain ⟨hin, hpin⟩ := HI6.out h6
      have hin0 := hin.1
      have hin1 := hin.2
      have hpin0 := hpin.1
      have hpin1 := hpin.2
      have hs : S = ⟨e, false, ⟨#[]⟩, par l e.f1, ix (rd_T43 l (par l e.f1)).f5 e.f1⟩ := by rw [HS.out]; unfold noteF; rw [if_neg (by omega), if_neg (by omega), if_neg (by omega), if_neg (by omega)]
      obtain ⟨ad, A2, c2, A5, c5, rfl, x0, x1, x2, x3, x4, x5, _, _, _, _⟩ := at_T43 (Kd.C_below HR.out hb) e.f1 hin0 hin1
      clear x0 x1 x2 x3 x5
      obtain ⟨pp, hpp⟩ : ∃ pp, pp = par l e.f1 := ⟨_, rfl⟩
      have x4' : W0.cell? ⟨(ad.add (e.f1.toNat * 6)).block, (ad.add (e.f1.toNat * 6)).off + 4, none⟩ = some (.int .i64 pp) := by rw [hpp]; exact x4
      rw [← hpp] at hpin0 hpin1 hs
      clear x4 hpp hpin hin
      have HN1 : Hid (NW w (W0.setCell ⟨w.heap.size + 1 + 1 + 1 + 1, 14, none⟩ (.int .i64 pp)) (some ad) n c q A1 n1 c1 q1 e A8 n8 c8 A11 n11 c11 (HC e A8 n8 c8 A11 n11 c11 false ⟨#[]⟩ pp 0)) := Lib.hid (HN.out.put 14 (.int .i64 pp))
      have b1 : (e.f0 == 1) = false := by rw [h6]; rfl
      have b2 : (e.f0 == 2) = false := by rw [h6]; rfl
      have b3 : (e.f0 == 3) = false := by rw [h6]; rfl
      have b4 : (e.f0 == 4) = false := by rw [h6]; rfl
      have b5 : (e.f0 == 5) = false := by rw [h6]; rfl
      have b6 : (e.f0 == 6) = true := by rw [h6]; rfl
      have HSx := Lib.hid hs
      clear h3 h4 h5 h6 h12 HNd hs
      go_upto_region 14 with fail
      clear t4 t5 t6 f4 f5 f6 z0 y1 x4'
      obtain ⟨W1, hW1⟩ : ∃ W1, W1 = W0.setCell ⟨w.heap.size + 1 + 1 + 1 + 1, 14, none⟩ (.int .i64 pp) := ⟨_, rfl⟩
      rw [← hW1] at HN1 ⊢
      clear hW1 HN
      have hb1 := HN1.out.below
      have t5 : W1.cell? ⟨w.heap.size + 1 + 1 + 1 + 1, 14, none⟩ = some (.int .i64 pp) := (blk_cell HN1.out.b4 14).trans rfl
      have t6 : W1.cell? ⟨w.heap.size + 1 + 1 + 1 + 1, 15, none⟩ = some (.int .i64 0) := (blk_cell HN1.out.b4 15).trans rfl
      have f6 : W1.frozen? ⟨w.heap.size + 1 + 1 + 1 + 1, 15, none⟩ = false := blk_frozen HN1.out.b4 15
      have z0 : W1.cell? ⟨w.heap.size, 0, none⟩ = some (.slice (some ad) n c) := (blk_cell HN1.out.b0 0).trans rfl
      have y1 : W1.cell? ⟨w.heap.size + 1 + 1, 1, none⟩ = some (.int .i64 e.f1) := (blk_cell HN1.out.b2 1).trans rfl
      obtain ⟨ad', A2', c2', A5', c5', hae, x0, x1, x2, x3, x4, x5, _, _, g5l, g5⟩ := at_T43 (Kd.C_below HR.out hb1) pp hpin0 hpin1
      injection hae with hae
      subst hae
      obtain ⟨kk, hkk⟩ := ev_at (jx_ev (rd_T43 l pp).f5 e.f1 g5.2.1)
      have HIx : Hid (∀ W : World, Below W1.heap.size W1 W → Calls Tryz.prog 28 #[.slice A5' (rd_T43 l pp).f5.length c5', .int .i64 e.f1] W fun u w' => u = .returned (.int .i64 (ix (rd_T43 l pp).f5 e.f1)) ∧ ∃ m, w' = W.drewN m) := Lib.hid (fun W h =>
        (slices_Index_int_int.calls kk A5' c5' _ e.f1 _ W (Kd.C_below g5 h) g5l hkk).mono fun u w' ⟨h1, h2⟩ => ⟨h1, h2.out⟩)
      clear g5 g5l hkk x0 x1 x2 x3 x4 hb
      generalize rd_T43 l pp = x at *
      obtain ⟨n5, hn5⟩ : ∃ n5, n5 = x.f5.length := ⟨_, rfl⟩
      rw [← hn5] at x5 HIx
      generalize ix x.f5 e.f1 = p at *
      clear hn5
      go_region_with (with_reducible refine (HIx.out _ ?_).mono ?_; ((repeat (first | refine below_alloc ?_ _ | refine below_drew ?_)); exact Below.refl _ _); rintro u w2 ⟨rfl, m, rfl⟩)
      all_goals
        go_wp2_with fail
        go_meet
        refine Lib.hid ?_
        rw [HSx.out]
        exact (HN1.out.drew _).put 15 (.int .i64 p)
  case rest =>
    rename World => wc
    have HK := hcut
    clear hcut HN
    have hb := HK.out.below
    have y8 : wc.cell? ⟨w.heap.size + 1 + 1, 8, none⟩ = some (.slice A8 n8 c8) := (blk_cell HK.out.b2 8).trans rfl
    have y11 : wc.cell? ⟨w.heap.size + 1 + 1, 11, none⟩ = some (.slice A11 n11 c11) := (blk_cell HK.out.b2 11).trans rfl
    have HA : Hid (∀ W : World, Below wc.heap.size wc W → Calls Tryz.prog 29 #[.slice A8 n8 c8] W fun e_ w' => ∃ A c, e_ = .returned (.slice A n8 c) ∧ Kd.R k66 66 w' w.heap.size (fun k => wc.heap.size ≤ k) (.slice A n8 c) e.f6.f2 ∧ Below wc.heap.size wc w' ∧ Below W.heap.size W w') :=
      Lib.hid (fun W hb => by
        rw [HN8.out]
        refine (cloneA.calls A8 c8 e.f6.f2 W (Kd.C_below HR8.out (HK.out.below.trans (hb.mono HK.out.below.size))) HS8.out).mono ?_
        rintro e_ w' ⟨v, rfl, hr, hb'⟩
        obtain ⟨A, c, rfl⟩ := Kd.R_slice hr
        exact ⟨A, c, rfl, Kd.R_lower (Kd.R_mono (Kd.R_bound hr) (fun k hk => Nat.le_trans hb.size hk.2.1)) (Nat.le_trans HK.out.below.size hb.size), hb.trans (hb'.mono hb.size), hb'⟩)
    have HC_ : Hid (∀ W : World, Below wc.heap.size wc W → Calls Tryz.prog 30 #[.slice A11 n11 c11] W fun e_ w' => ∃ A c, e_ = .returned (.slice A n11 c) ∧ Kd.R (Kd.int .i64) 3 w' w.heap.size (fun k => wc.heap.size ≤ k) (.slice A n11 c) e.f6.f5 ∧ Below wc.heap.size wc w' ∧ Below W.heap.size W w') :=
      Lib.hid (fun W hb => by
        rw [HN11.out]
        refine (cloneI.calls A11 c11 e.f6.f5 W (Kd.C_below HR11.out (HK.out.below.trans (hb.mono HK.out.below.size))) HS11.out).mono ?_
        rintro e_ w' ⟨v, rfl, hr, hb'⟩
        obtain ⟨A, c, rfl⟩ := Kd.R_slice hr
        exact ⟨A, c, rfl, Kd.R_lower (Kd.R_mono (Kd.R_bound hr) (fun k hk => Nat.le_trans hb.size hk.2.1)) (Nat.le_trans HK.out.below.size hb.size), hb.trans (hb'.mono hb.size), hb'⟩)
    have HE : Hid (∀ W : World, Below wc.heap.size wc W → W.cell? ⟨w.heap.size + 1 + 1, 8, none⟩ = some (.slice A8 n8 c8) ∧ W.cell? ⟨w.heap.size + 1 + 1, 11, none⟩ = some (.slice A11 n11 c11) ∧ W.cell? ⟨w.heap.size + 1 + 1 + 1 + 1, 8, none⟩ = some (.slice A8 n8 c8) ∧ W.cell? ⟨w.heap.size + 1 + 1 + 1 + 1, 11, none⟩ = some (.slice A11 n11 c11) ∧ W.frozen? ⟨w.heap.size + 1 + 1 + 1 + 1, 8, none⟩ = false ∧ W.frozen? ⟨w.heap.size + 1 + 1 + 1 + 1, 11, none⟩ = false) := Lib.hid (fun W hb => by
      have h2 := blk_below HK.out.b2 hb
      have h4 := blk_below HK.out.b4 hb
      exact ⟨(blk_cell h2 8).trans rfl, (blk_cell h2 11).trans rfl, (blk_cell h4 8).trans rfl, (blk_cell h4 11).trans rfl, blk_frozen h4 8, blk_frozen h4 11⟩)
    obtain ⟨e8, e11, g8, g11, q8, q11⟩ := HE.out wc (Below.refl _ _)
    have hgW : w.heap.size + 1 + 1 + 1 + 1 < wc.heap.size := blk_lt HK.out.b4
    have hgW2 : w.heap.size + 1 + 1 < wc.heap.size := by omega
    clear y8 y11 hb
    go_upto_region 15 with fail
    go_cut [75] (fun s75 wx => Hid (∃ A6 c6 A7 c7, NX w wx e A6 n8 c6 A7 n11 c7 S))
    case first =>
      go_region_with (first | (with_reducible refine (HA.out _ ?_).mono ?_; ((repeat (first | refine below_alloc ?_ _ | refine below_drew ?_)); exact Below.refl _ _); rintro e_ w2 ⟨A6, c6, rfl, hR6, hb6, hb6'⟩; obtain ⟨e8a, e11a, g8a, g11a, q8a, q11a⟩ := HE.out _ hb6) | (with_reducible refine (HC_.out _ ?_).mono ?_; ((repeat (first | refine below_alloc ?_ _ | refine below_drew ?_)); exact hb6); rintro e_ w3 ⟨A7, c7, rfl, hR7, hb7, hb7'⟩; obtain ⟨e8b, e11b, g8b, g11b, q8b, q11b⟩ := HE.out _ hb7))
      all_goals
        have HG := Lib.hid (HK.out.clones hR6 hb6 hR7 hb7')
        clear hR6 hb6 hb6' hR7 hb7 hb7' e8a e11a g8a g11a q8a q11a e8b e11b g8b g11b q8b q11b
        go_wp2_with fail
        go_meet
        exact Lib.hid ⟨_, _, _, _, HG.out⟩
    case rest =>
      rename World => wd
      obtain ⟨A6, c6, A7, c7, hG⟩ := hcut.out
      have HG := Lib.hid hG
      have hb3 := hG.b3
      have HB3 := Lib.hid hb3
      unfold ZH at hb3
      have hb4 := hG.b4
      unfold HC at hb4
      clear hcut e8 e11 g8 g11 q8 q11 HA HC_ HE HK
      have z0 : wd.cell? ⟨w.heap.size + 1 + 1 + 1 + 1, 0, none⟩ = some (.int .i64 e.f0) := (blk_cell hb4 0).trans rfl
      have z1 : wd.cell? ⟨w.heap.size + 1 + 1 + 1 + 1, 1, none⟩ = some (.int .i64 e.f1) := (blk_cell hb4 1).trans rfl
      have z2 : wd.cell? ⟨w.heap.size + 1 + 1 + 1 + 1, 2, none⟩ = some (.int .i64 e.f2) := (blk_cell hb4 2).trans rfl
      have z3 : wd.cell? ⟨w.heap.size + 1 + 1 + 1 + 1, 3, none⟩ = some (.int .i64 e.f3) := (blk_cell hb4 3).trans rfl
      have z4 : wd.cell? ⟨w.heap.size + 1 + 1 + 1 + 1, 4, none⟩ = some (.string e.f4) := (blk_cell hb4 4).trans rfl
      have z5 : wd.cell? ⟨w.heap.size + 1 + 1 + 1 + 1, 5, none⟩ = some (.string e.f5) := (blk_cell hb4 5).trans rfl
      have z6 : wd.cell? ⟨w.heap.size + 1 + 1 + 1 + 1, 6, none⟩ = some (.int .i64 e.f6.f0) := (blk_cell hb4 6).trans rfl
      have z7 : wd.cell? ⟨w.heap.size + 1 + 1 + 1 + 1, 7, none⟩ = some (.string e.f6.f1) := (blk_cell hb4 7).trans rfl
      have z8 : wd.cell? ⟨w.heap.size + 1 + 1 + 1 + 1, 8, none⟩ = some (.slice A6 n8 c6) := (blk_cell hb4 8).trans rfl
      have z9 : wd.cell? ⟨w.heap.size + 1 + 1 + 1 + 1, 9, none⟩ = some (.string e.f6.f3) := (blk_cell hb4 9).trans rfl
      have z10 : wd.cell? ⟨w.heap.size + 1 + 1 + 1 + 1, 10, none⟩ = some (.int .i64 e.f6.f4) := (blk_cell hb4 10).trans rfl
      have z11 : wd.cell? ⟨w.heap.size + 1 + 1 + 1 + 1, 11, none⟩ = some (.slice A7 n11 c7) := (blk_cell hb4 11).trans rfl
      have z12 : wd.cell? ⟨w.heap.size + 1 + 1 + 1 + 1, 12, none⟩ = some (.bool S.f1) := (blk_cell hb4 12).trans rfl
      have z13 : wd.cell? ⟨w.heap.size + 1 + 1 + 1 + 1, 13, none⟩ = some (.string S.f2) := (blk_cell hb4 13).trans rfl
      have z14 : wd.cell? ⟨w.heap.size + 1 + 1 + 1 + 1, 14, none⟩ = some (.int .i64 S.f3) := (blk_cell hb4 14).trans rfl
      have z15 : wd.cell? ⟨w.heap.size + 1 + 1 + 1 + 1, 15, none⟩ = some (.int .i64 S.f4) := (blk_cell hb4 15).trans rfl
      have y0 : wd.cell? ⟨w.heap.size + 1 + 1 + 1, 0, none⟩ = some (.int .i64 0) := (blk_cell hb3 0).trans rfl
      have y1 : wd.cell? ⟨w.heap.size + 1 + 1 + 1, 1, none⟩ = some (.int .i64 0) := (blk_cell hb3 1).trans rfl
      have y2 : wd.cell? ⟨w.heap.size + 1 + 1 + 1, 2, none⟩ = some (.int .i64 0) := (blk_cell hb3 2).trans rfl
      have y3 : wd.cell? ⟨w.heap.size + 1 + 1 + 1, 3, none⟩ = some (.int .i64 0) := (blk_cell hb3 3).trans rfl
      have y4 : wd.cell? ⟨w.heap.size + 1 + 1 + 1, 4, none⟩ = some (.string ⟨#[]⟩) := (blk_cell hb3 4).trans rfl
      have y5 : wd.cell? ⟨w.heap.size + 1 + 1 + 1, 5, none⟩ = some (.string ⟨#[]⟩) := (blk_cell hb3 5).trans rfl
      have y6 : wd.cell? ⟨w.heap.size + 1 + 1 + 1, 6, none⟩ = some (.int .i64 0) := (blk_cell hb3 6).trans rfl
      have y7 : wd.cell? ⟨w.heap.size + 1 + 1 + 1, 7, none⟩ = some (.string ⟨#[]⟩) := (blk_cell hb3 7).trans rfl
      have y8 : wd.cell? ⟨w.heap.size + 1 + 1 + 1, 8, none⟩ = some (.slice none 0 0) := (blk_cell hb3 8).trans rfl
      have y9 : wd.cell? ⟨w.heap.size + 1 + 1 + 1, 9, none⟩ = some (.string ⟨#[]⟩) := (blk_cell hb3 9).trans rfl
      have y10 : wd.cell? ⟨w.heap.size + 1 + 1 + 1, 10, none⟩ = some (.int .i64 0) := (blk_cell hb3 10).trans rfl
      have y11 : wd.cell? ⟨w.heap.size + 1 + 1 + 1, 11, none⟩ = some (.slice none 0 0) := (blk_cell hb3 11).trans rfl
      have y12 : wd.cell? ⟨w.heap.size + 1 + 1 + 1, 12, none⟩ = some (.bool false) := (blk_cell hb3 12).trans rfl
      have y13 : wd.cell? ⟨w.heap.size + 1 + 1 + 1, 13, none⟩ = some (.string ⟨#[]⟩) := (blk_cell hb3 13).trans rfl
      have y14 : wd.cell? ⟨w.heap.size + 1 + 1 + 1, 14, none⟩ = some (.int .i64 0) := (blk_cell hb3 14).trans rfl
      have y15 : wd.cell? ⟨w.heap.size + 1 + 1 + 1, 15, none⟩ = some (.int .i64 0) := (blk_cell hb3 15).trans rfl
      have f0 := blk_frozen hb3 0
      have f1 := blk_frozen hb3 1
      have f2 := blk_frozen hb3 2
      have f3 := blk_frozen hb3 3
      have f4 := blk_frozen hb3 4
      have f5 := blk_frozen hb3 5
      have f6 := blk_frozen hb3 6
      have f7 := blk_frozen hb3 7
      have f8 := blk_frozen hb3 8
      have f9 := blk_frozen hb3 9
      have f10 := blk_frozen hb3 10
      have f11 := blk_frozen hb3 11
      have f12 := blk_frozen hb3 12
      have f13 := blk_frozen hb3 13
      have f14 := blk_frozen hb3 14
      have f15 := blk_frozen hb3 15
      clear hb3 hb4 hG
      go_wp2_with fail
      have hh := blk_set (blk_set (blk_set (blk_set (blk_set (blk_set (blk_set (blk_set (blk_set (blk_set (blk_set (blk_set (blk_set (blk_set (blk_set (blk_set (HB3.out) 0 (.int .i64 e.f0)) 1 (.int .i64 e.f1)) 2 (.int .i64 e.f2)) 3 (.int .i64 e.f3)) 4 (.string e.f4)) 5 (.string e.f5)) 6 (.int .i64 e.f6.f0)) 7 (.string e.f6.f1)) 8 (.slice A6 n8 c6)) 9 (.string e.f6.f3)) 10 (.int .i64 e.f6.f4)) 11 (.slice A7 n11 c7)) 12 (.bool S.f1)) 13 (.string S.f2)) 14 (.int .i64 S.f3)) 15 (.int .i64 S.f4)
      rw [put16] at hh
      refine bodyPost_ret (results_cell_row rfl _ _ (w.heap.size + 1 + 1 + 1) 48 (HC e A6 n8 c6 A7 n11 c7 S.f1 S.f2 S.f3 S.f4) (0, 0) _ rfl hh Tryz.underlying48 rfl (by kernel_rfl)) rfl ?_
      refine ⟨A6, c6, A7, c7, by rw [HS.out], ?_, ?_, ?_⟩
      · exact Kd.R_mono (Kd.R_far (p := ⟨w.heap.size + 1 + 1 + 1, 15, none⟩) (Kd.R_far (p := ⟨w.heap.size + 1 + 1 + 1, 14, none⟩) (Kd.R_far (p := ⟨w.heap.size + 1 + 1 + 1, 13, none⟩) (Kd.R_far (p := ⟨w.heap.size + 1 + 1 + 1, 12, none⟩) (Kd.R_far (p := ⟨w.heap.size + 1 + 1 + 1, 11, none⟩) (Kd.R_far (p := ⟨w.heap.size + 1 + 1 + 1, 10, none⟩) (Kd.R_far (p := ⟨w.heap.size + 1 + 1 + 1, 9, none⟩) (Kd.R_far (p := ⟨w.heap.size + 1 + 1 + 1, 8, none⟩) (Kd.R_far (p := ⟨w.heap.size + 1 + 1 + 1, 7, none⟩) (Kd.R_far (p := ⟨w.heap.size + 1 + 1 + 1, 6, none⟩) (Kd.R_far (p := ⟨w.heap.size + 1 + 1 + 1, 5, none⟩) (Kd.R_far (p := ⟨w.heap.size + 1 + 1 + 1, 4, none⟩) (Kd.R_far (p := ⟨w.heap.size + 1 + 1 + 1, 3, none⟩) (Kd.R_far (p := ⟨w.heap.size + 1 + 1 + 1, 2, none⟩) (Kd.R_far (p := ⟨w.heap.size + 1 + 1 + 1, 1, none⟩) (Kd.R_far (p := ⟨w.heap.size + 1 + 1 + 1, 0, none⟩) (HG.out.r6) (fun k hk => by show k ≠ w.heap.size + 1 + 1 + 1; omega) _) (fun k hk => by show k ≠ w.heap.size + 1 + 1 + 1; omega) _) (fun k hk => by show k ≠ w.heap.size + 1 + 1 + 1; omega) _) (fun k hk => by show k ≠ w.heap.size + 1 + 1 + 1; omega) _) (fun k hk => by show k ≠ w.heap.size + 1 + 1 + 1; omega) _) (fun k hk => by show k ≠ w.heap.size + 1 + 1 + 1; omega) _) (fun k hk => by show k ≠ w.heap.size + 1 + 1 + 1; omega) _) (fun k hk => by show k ≠ w.heap.size + 1 + 1 + 1; omega) _) (fun k hk => by show k ≠ w.heap.size + 1 + 1 + 1; omega) _) (fun k hk => by show k ≠ w.heap.size + 1 + 1 + 1; omega) _) (fun k hk => by show k ≠ w.heap.size + 1 + 1 + 1; omega) _) (fun k hk => by show k ≠ w.heap.size + 1 + 1 + 1; omega) _) (fun k hk => by show k ≠ w.heap.size + 1 + 1 + 1; omega) _) (fun k hk => by show k ≠ w.heap.size + 1 + 1 + 1; omega) _) (fun k hk => by show k ≠ w.heap.size + 1 + 1 + 1; omega) _) (fun k hk => by show k ≠ w.heap.size + 1 + 1 + 1; omega) _) (fun k hk => by omega)
      · exact Kd.R_mono (Kd.R_far (p := ⟨w.heap.size + 1 + 1 + 1, 15, none⟩) (Kd.R_far (p := ⟨w.heap.size + 1 + 1 + 1, 14, none⟩) (Kd.R_far (p := ⟨w.heap.size + 1 + 1 + 1, 13, none⟩) (Kd.R_far (p := ⟨w.heap.size + 1 + 1 + 1, 12, none⟩) (Kd.R_far (p := ⟨w.heap.size + 1 + 1 + 1, 11, none⟩) (Kd.R_far (p := ⟨w.heap.size + 1 + 1 + 1, 10, none⟩) (Kd.R_far (p := ⟨w.heap.size + 1 + 1 + 1, 9, none⟩) (Kd.R_far (p := ⟨w.heap.size + 1 + 1 + 1, 8, none⟩) (Kd.R_far (p := ⟨w.heap.size + 1 + 1 + 1, 7, none⟩) (Kd.R_far (p := ⟨w.heap.size + 1 + 1 + 1, 6, none⟩) (Kd.R_far (p := ⟨w.heap.size + 1 + 1 + 1, 5, none⟩) (Kd.R_far (p := ⟨w.heap.size + 1 + 1 + 1, 4, none⟩) (Kd.R_far (p := ⟨w.heap.size + 1 + 1 + 1, 3, none⟩) (Kd.R_far (p := ⟨w.heap.size + 1 + 1 + 1, 2, none⟩) (Kd.R_far (p := ⟨w.heap.size + 1 + 1 + 1, 1, none⟩) (Kd.R_far (p := ⟨w.heap.size + 1 + 1 + 1, 0, none⟩) (HG.out.r7) (fun k hk => by show k ≠ w.heap.size + 1 + 1 + 1; omega) _) (fun k hk => by show k ≠ w.heap.size + 1 + 1 + 1; omega) _) (fun k hk => by show k ≠ w.heap.size + 1 + 1 + 1; omega) _) (fun k hk => by show k ≠ w.heap.size + 1 + 1 + 1; omega) _) (fun k hk => by show k ≠ w.heap.size + 1 + 1 + 1; omega) _) (fun k hk => by show k ≠ w.heap.size + 1 + 1 + 1; omega) _) (fun k hk => by show k ≠ w.heap.size + 1 + 1 + 1; omega) _) (fun k hk => by show k ≠ w.heap.size + 1 + 1 + 1; omega) _) (fun k hk => by show k ≠ w.heap.size + 1 + 1 + 1; omega) _) (fun k hk => by show k ≠ w.heap.size + 1 + 1 + 1; omega) _) (fun k hk => by show k ≠ w.heap.size + 1 + 1 + 1; omega) _) (fun k hk => by show k ≠ w.heap.size + 1 + 1 + 1; omega) _) (fun k hk => by show k ≠ w.heap.size + 1 + 1 + 1; omega) _) (fun k hk => by show k ≠ w.heap.size + 1 + 1 + 1; omega) _) (fun k hk => by show k ≠ w.heap.size + 1 + 1 + 1; omega) _) (fun k hk => by show k ≠ w.heap.size + 1 + 1 + 1; omega) _) (fun k hk => by omega)
      · exact ((((((((((((((((HG.out.below).setCell (by show w.heap.size ≤ w.heap.size + 1 + 1 + 1; omega) _).setCell (by show w.heap.size ≤ w.heap.size + 1 + 1 + 1; omega) _).setCell (by show w.heap.size ≤ w.heap.size + 1 + 1 + 1; omega) _).setCell (by show w.heap.size ≤ w.heap.size + 1 + 1 + 1; omega) _).setCell (by show w.heap.size ≤ w.heap.size + 1 + 1 + 1; omega) _).setCell (by show w.heap.size ≤ w.heap.size + 1 + 1 + 1; omega) _).setCell (by show w.heap.size ≤ w.heap.size + 1 + 1 + 1; omega) _).setCell (by show w.heap.size ≤ w.heap.size + 1 + 1 + 1; omega) _).setCell (by show w.heap.size ≤ w.heap.size + 1 + 1 + 1; omega) _).setCell (by show w.heap.size ≤ w.heap.size + 1 + 1 + 1; omega) _).setCell (by show w.heap.size ≤ w.heap.size + 1 + 1 + 1; omega) _).setCell (by show w.heap.size ≤ w.heap.size + 1 + 1 + 1; omega) _).setCell (by show w.heap.size ≤ w.heap.size + 1 + 1 + 1; omega) _).setCell (by show w.heap.size ≤ w.heap.size + 1 + 1 + 1; omega) _).setCell (by show w.heap.size ≤ w.heap.size + 1 + 1 + 1; omega) _).setCell (by show w.heap.size ≤ w.heap.size + 1 + 1 + 1; omega) _
end Go.Proofs.YtmcinclecpeakaaGreatDoor.ApA
