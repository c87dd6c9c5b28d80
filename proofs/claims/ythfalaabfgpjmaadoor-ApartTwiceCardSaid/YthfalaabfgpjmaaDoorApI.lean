/- The law ApartTouch walked: it returns true. -/
import Derived.Test.YthfalaabfgpjmaaDoorApJ
import Derived.Test.YthfalaabfgpjmaaDoorSame
namespace Go.Proofs.YthfalaabfgpjmaaDoor.ApA
open Go.RowKit Go.Proofs.YthfalaabfgpjmaaDoorW.PrintWords Go.Proofs.YthfalaabfgpjmaaDoorW.PrintLast Go.Proofs.YthfalaabfgpjmaaDoorW.PrintMore Go.Proofs.YthfalaabfgpjmaaDoor.PAP Go.Proofs.YthfalaabfgpjmaaDoor.DocP Go.Proofs.YthfalaabfgpjmaaDoor.DocC
attribute [local go_sem] max2_int min2_int max_two min_two max_three min_three max_four min_four
set_option linter.unusedVariables false
set_option linter.unusedSimpArgs false
theorem fit_cut {l : List S28} (h : Fit l) (n : Nat) : Fit (l.take n) := fun i => by
  by_cases hi : i.toNat < n
  · have e : rd_T28 (l.take n) i = rd_T28 l i := by
      unfold rd_T28
      rw [List.getD_eq_getElem?_getD, List.getD_eq_getElem?_getD, List.getElem?_take, if_pos hi]
    show ((rd_T28 (l.take n) i).f5).length ≤ _
    rw [e]
    exact h i
  · show ((rd_T28 (l.take n) i).f5).length ≤ _
    unfold rd_T28
    rw [List.getD_eq_getElem?_getD, List.getElem?_take, if_neg hi]
    decide
/-- The document, cut, and the edit in their boxes. -/
structure TL (w W : World) (A : Option Addr) (n c : Nat) (q : Bool) (E : Array Value) : Prop where
  b0 : W.heap[w.heap.size]? = some (.cells #[.slice A n c, .bool q] 24 (0, 0))
  b1 : W.heap[w.heap.size + 1]? = some (.cells E 30 (0, 0))
  below : Below w.heap.size w W
theorem TL.on {w W W' : World} {A : Option Addr} {n c : Nat} {q : Bool} {E : Array Value} (h : TL w W A n c q E) (hb : Below W.heap.size W W') : TL w W' A n c q E := ⟨blk_below h.b0 hb, blk_below h.b1 hb, h.below.trans (hb.mono h.below.size)⟩
theorem tl_begin {w w1 : World} {A : Option Addr} {n c n' : Nat} {q : Bool} {E : Array Value} (hb : Below ((w.alloc (.cells #[.slice A n c, .bool q] 24)).alloc (.cells E 30)).heap.size ((w.alloc (.cells #[.slice A n c, .bool q] 24)).alloc (.cells E 30)) w1) :
    TL w w1 A n c q E ∧ TL w ((w1.setCell ⟨w.heap.size, 0, none⟩ (.slice A n' c)).setCell ⟨w.heap.size, 1, none⟩ (.bool q)) A n' c q E := by
  have hs := hb.size
  simp at hs
  have x0 : w1.heap[w.heap.size]? = some (.cells #[.slice A n c, .bool q] 24 (0, 0)) := blk_below (blk_below (blk_new w _) (below_alloc (Below.refl _ _) _)) hb
  have x1 : w1.heap[w.heap.size + 1]? = some (.cells E 30 (0, 0)) := blk_below (by simpa using blk_new (w.alloc (.cells #[.slice A n c, .bool q] 24)) (.cells E 30)) hb
  have x2 : Below w.heap.size w w1 := (below_alloc (below_alloc (Below.refl _ _) _) _).trans (hb.mono (by simp; omega))
  exact ⟨⟨x0, x1, x2⟩, blk_put (blk_put (cs' := #[.slice A n' c, .bool q]) x0 0 _ rfl) 1 _ rfl, blk_far (blk_far x1 (by show w.heap.size + 1 ≠ w.heap.size; omega) _) (by show w.heap.size + 1 ≠ w.heap.size; omega) _, (x2.setCell (Nat.le_refl _) _).setCell (Nat.le_refl _) _⟩
/-- A node by itself, out of a row. -/
theorem one_reads {W : World} {ad : Addr} {c k : Nat} {l : List S28} (h : Kd.C k28 W (some ad) l.length l) (hk : k < l.length) (hc : l.length ≤ c) : Kd.C k28 W (some (ad.add (k * 6))) 1 [rd_T28 l (k : Int)] := by
  have h1 := Kd.C_mid (lo := k) (hi := k + 1) h (by omega) (by omega) hc
  rw [if_neg (by omega)] at h1
  have e : (l.take (k + 1)).drop k = [rd_T28 l (k : Int)] := by
    rw [List.take_succ_eq_append_getElem hk, List.drop_append_of_le_length (by rw [List.length_take]; omega), List.drop_of_length_le (by rw [List.length_take]; omega), List.nil_append]
    congr 1
    unfold rd_T28
    rw [Int.toNat_natCast, List.getD_eq_getElem?_getD, List.getElem?_eq_getElem hk]
    rfl
  rw [e] at h1
  exact h1
theorem short_one {l : List S28} (h : DocOk l) {k : Nat} (hk : k < l.length) : Same.Short [rd_T28 l (k : Int)] := by
  have hin : In l.length (k : Int) := ⟨by omega, by omega⟩
  refine ⟨by simp, fun x hx => ?_⟩
  have e := List.mem_singleton.1 hx
  rw [e]
  exact ⟨(h.oneOk hin).2.2.2.2.1.1, h.kids_le hin⟩
theorem take_snoc (o : List Int) (j : Nat) (h : j < o.length) (x : Int) : inB (o.take (j + 1)) x = (inB (o.take j) x || (o.getD j 0 == x)) := by
  unfold inB
  have e1 : o.take (j + 1) = o.take j ++ [o.getD j 0] := by
    rw [List.take_succ_eq_append_getElem h, List.getD_eq_getElem?_getD, List.getElem?_eq_getElem h]
    rfl
  rw [e1]
  generalize o.getD j 0 = y
  rw [Bool.eq_iff_iff, Bool.or_eq_true, List.contains_iff_mem, List.contains_iff_mem, beq_iff_eq, List.mem_append, List.mem_singleton, eq_comm (a := x)]
/-- What lies ready at the loop. -/
structure TM (w W : World) (g7 : Nat) (A A2 : Option Addr) (n c n2 c2 : Nat) (q q2 : Bool) (A1 : Option Addr) (n1 c1 : Nat) (l l2 : List S28) (o : List Int) : Prop where
  b0 : W.heap[w.heap.size]? = some (.cells #[.slice A n c, .bool q] 24 (0, 0))
  b7 : W.heap[g7]? = some (.cells #[.slice A2 n2 c2, .bool q2] 24 (0, 0))
  ro : RdI W A1 n1 c1 o
  rl : n = l.length ∧ n ≤ c ∧ Kd.C k28 W A l.length l
  r2 : n2 = l2.length ∧ n2 ≤ c2 ∧ Kd.C k28 W A2 l2.length l2
  below : Below w.heap.size w W
theorem TM.on {w W W' : World} {g7 : Nat} {A A2 : Option Addr} {n c n2 c2 : Nat} {q q2 : Bool} {A1 : Option Addr} {n1 c1 : Nat} {l l2 : List S28} {o : List Int} (h : TM w W g7 A A2 n c n2 c2 q q2 A1 n1 c1 l l2 o) (hb : Below W.heap.size W W') : TM w W' g7 A A2 n c n2 c2 q q2 A1 n1 c1 l l2 o :=
  ⟨blk_below h.b0 hb, blk_below h.b7 hb, h.ro.below hb, ⟨h.rl.1, h.rl.2.1, Kd.C_below h.rl.2.2 hb⟩, ⟨h.r2.1, h.r2.2.1, Kd.C_below h.r2.2.2 hb⟩, h.below.trans (hb.mono h.below.size)⟩
set_option maxHeartbeats 8000000 in
set_option maxRecDepth 100000 in
theorem touch_law (l0 : List S28) (q : Bool) (e : S30) (A A8 A11 : Option Addr) (c c8 c11 : Nat) (w : World) (hf : Fit l0) (hr : Kd.C k28 w A l0.length l0) (hc : l0.length ≤ c) (he : ReadsE w e A8 c8 A11 c11) :
    Calls Tryd.prog 5 #[.agg #[.slice A l0.length c, .bool q], .agg #[.int .i64 e.f0, .int .i64 e.f1, .int .i64 e.f2, .int .i64 e.f3, .string e.f4, .string e.f5, .int .i64 e.f6.f0, .string e.f6.f1, .slice A8 e.f6.f2.length c8, .string e.f6.f3, .int .i64 e.f6.f4, .slice A11 e.f6.f5.length c11]] w fun u w' => u = .returned (.bool true) ∧ Below w.heap.size w w' := by
  obtain ⟨n0, hn0⟩ : ∃ n0, n0 = l0.length := ⟨_, rfl⟩
  obtain ⟨n8, hn8⟩ : ∃ n8, n8 = e.f6.f2.length := ⟨_, rfl⟩
  obtain ⟨n11, hn11⟩ : ∃ n11, n11 = e.f6.f5.length := ⟨_, rfl⟩
  obtain ⟨l, hl⟩ : ∃ l, l = l0.take (min n0 50) := ⟨_, rfl⟩
  obtain ⟨n, hn⟩ : ∃ n, n = min n0 50 := ⟨_, rfl⟩
  have hnl : n = l.length := by rw [hl, List.length_take]; omega
  have hrl : Kd.C k28 w A l.length l := by
    rw [hl]
    exact Kd.C_take hr (by omega)
  have hfl : Fit l := by rw [hl]; exact fit_cut hf _
  obtain ⟨er, o, l2, q2, made, hT⟩ := touch_plain hfl q e
  have hm0 : n0 ≤ 9223372036854775807 := by rw [hn0]; exact hr.2.1
  have HFew : Hid (∀ W : World, Calls Tryd.prog 6 #[.agg #[.slice A n0 c, .bool q], .int .i64 50] W fun u w' => u = .returned (.agg #[.slice A n c, .bool q]) ∧ Below W.heap.size W w') := Lib.hid (fun W => by
    rw [hn]
    exact few_any A n0 c 50 q W (by omega) hm0 (by decide))
  have HTo : Hid (∀ W : World, Below w.heap.size w W → Calls Tryd.prog 13 #[.agg #[.slice A n c, .bool q], .agg #[.int .i64 e.f0, .int .i64 e.f1, .int .i64 e.f2, .int .i64 e.f3, .string e.f4, .string e.f5, .int .i64 e.f6.f0, .string e.f6.f1, .slice A8 n8 c8, .string e.f6.f3, .int .i64 e.f6.f4, .slice A11 n11 c11]] W fun u w' => ∃ A' n' c', u = .returned (.tuple #[.slice A' n' c', .int .i64 er]) ∧ RdI w' A' n' c' o ∧ Below W.heap.size W w') := Lib.hid (by
    rw [hnl, hn8, hn11]
    exact fun W hb => touch_reads hT A A8 A11 c c8 c11 W (Kd.C_below hrl hb) (by omega) (he.below hb))
  have HAp : Hid (∀ W : World, Below w.heap.size w W → Calls Tryd.prog 14 #[.agg #[.slice A n c, .bool q], .agg #[.int .i64 e.f0, .int .i64 e.f1, .int .i64 e.f2, .int .i64 e.f3, .string e.f4, .string e.f5, .int .i64 e.f6.f0, .string e.f6.f1, .slice A8 n8 c8, .string e.f6.f3, .int .i64 e.f6.f4, .slice A11 n11 c11]] W fun u w' => ∃ A' n' c', u = .returned (.tuple #[.agg #[.slice A' n' c', .bool q2], .int .i64 made, .int .i64 er]) ∧ (n' = l2.length ∧ n' ≤ c' ∧ Kd.C k28 w' A' l2.length l2) ∧ Below W.heap.size W w') := Lib.hid (by
    rw [hnl, hn8, hn11]
    intro W hb
    refine (apply_calls hT.ev A A8 A11 c c8 c11 W (Kd.C_below hrl hb) (by omega) (he.below hb)).mono ?_
    rintro u w' ⟨A', n', c', rfl, hd, hb'⟩
    exact ⟨A', n', c', rfl, ⟨hd.1, hd.2.1, hd.reads⟩, hb'⟩)
  have HBg : Hid (∀ W : World, Calls Tryd.prog 8 #[] W fun u w' => u = .returned (.bool true) ∧ Below W.heap.size W w') := Lib.hid (fun W => begun_calls W)
  have HTr := Lib.hid hT
  have HRl : Hid (n = l.length ∧ n ≤ c ∧ Kd.C k28 w A l.length l) := Lib.hid ⟨hnl, by omega, hrl⟩
  have hncc : n ≤ c := by omega
  have hn50 : n ≤ 50 := by omega
  have HTl : Hid (∀ w1, Below ((w.alloc (.cells #[.slice A n0 c, .bool q] 24)).alloc (.cells #[.int .i64 e.f0, .int .i64 e.f1, .int .i64 e.f2, .int .i64 e.f3, .string e.f4, .string e.f5, .int .i64 e.f6.f0, .string e.f6.f1, .slice A8 n8 c8, .string e.f6.f3, .int .i64 e.f6.f4, .slice A11 n11 c11] 30)).heap.size ((w.alloc (.cells #[.slice A n0 c, .bool q] 24)).alloc (.cells #[.int .i64 e.f0, .int .i64 e.f1, .int .i64 e.f2, .int .i64 e.f3, .string e.f4, .string e.f5, .int .i64 e.f6.f0, .string e.f6.f1, .slice A8 n8 c8, .string e.f6.f3, .int .i64 e.f6.f4, .slice A11 n11 c11] 30)) w1 → TL w w1 A n0 c q #[.int .i64 e.f0, .int .i64 e.f1, .int .i64 e.f2, .int .i64 e.f3, .string e.f4, .string e.f5, .int .i64 e.f6.f0, .string e.f6.f1, .slice A8 n8 c8, .string e.f6.f3, .int .i64 e.f6.f4, .slice A11 n11 c11] ∧ TL w ((w1.setCell ⟨w.heap.size, 0, none⟩ (.slice A n c)).setCell ⟨w.heap.size, 1, none⟩ (.bool q)) A n c q #[.int .i64 e.f0, .int .i64 e.f1, .int .i64 e.f2, .int .i64 e.f3, .string e.f4, .string e.f5, .int .i64 e.f6.f0, .string e.f6.f1, .slice A8 n8 c8, .string e.f6.f3, .int .i64 e.f6.f4, .slice A11 n11 c11]) := Lib.hid (fun w1 hb => tl_begin hb)
  rw [← hn0, ← hn8, ← hn11]
  clear hl hn hrl hfl hf hr hc he hm0 hnl hn0 hn8 hn11 hT
  generalize e.f0 = f0 at *
  generalize e.f1 = f1 at *
  generalize e.f2 = f2 at *
  generalize e.f3 = f3 at *
  generalize e.f4 = f4 at *
  generalize e.f5 = f5 at *
  generalize e.f6.f0 = g0 at *
  generalize e.f6.f1 = g1 at *
  generalize e.f6.f3 = g3 at *
  generalize e.f6.f4 = g4 at *
  go_enter Tryd.func5, Tryd.ntmps5
  go_wp2_with fail
  refine (HFew.out _).mono ?_
  rintro u w1 ⟨rfl, hb1⟩
  obtain ⟨hT1, hT2⟩ := HTl.out w1 hb1
  have HT2 := Lib.hid hT2
  have hs1 : w.heap.size + 1 < w1.heap.size := blk_lt hT1.b1
  have hs0 : w.heap.size < w1.heap.size := blk_lt hT1.b0
  have p0 : w1.cell? ⟨w.heap.size, 0, none⟩ = some (.slice A n0 c) := (blk_cell hT1.b0 0).trans rfl
  have p1 : w1.cell? ⟨w.heap.size, 1, none⟩ = some (.bool q) := (blk_cell hT1.b0 1).trans rfl
  have p2 : w1.frozen? ⟨w.heap.size, 0, none⟩ = false := blk_frozen hT1.b0 0
  have p3 : w1.frozen? ⟨w.heap.size, 1, none⟩ = false := blk_frozen hT1.b0 1
  have z0 : w1.cell? ⟨w.heap.size + 1, 0, none⟩ = some (.int .i64 f0) := (blk_cell hT1.b1 0).trans rfl
  have z1 : w1.cell? ⟨w.heap.size + 1, 1, none⟩ = some (.int .i64 f1) := (blk_cell hT1.b1 1).trans rfl
  have z2 : w1.cell? ⟨w.heap.size + 1, 2, none⟩ = some (.int .i64 f2) := (blk_cell hT1.b1 2).trans rfl
  have z3 : w1.cell? ⟨w.heap.size + 1, 3, none⟩ = some (.int .i64 f3) := (blk_cell hT1.b1 3).trans rfl
  have z4 : w1.cell? ⟨w.heap.size + 1, 4, none⟩ = some (.string f4) := (blk_cell hT1.b1 4).trans rfl
  have z5 : w1.cell? ⟨w.heap.size + 1, 5, none⟩ = some (.string f5) := (blk_cell hT1.b1 5).trans rfl
  have z6 : w1.cell? ⟨w.heap.size + 1, 6, none⟩ = some (.int .i64 g0) := (blk_cell hT1.b1 6).trans rfl
  have z7 : w1.cell? ⟨w.heap.size + 1, 7, none⟩ = some (.string g1) := (blk_cell hT1.b1 7).trans rfl
  have z8 : w1.cell? ⟨w.heap.size + 1, 8, none⟩ = some (.slice A8 n8 c8) := (blk_cell hT1.b1 8).trans rfl
  have z9 : w1.cell? ⟨w.heap.size + 1, 9, none⟩ = some (.string g3) := (blk_cell hT1.b1 9).trans rfl
  have z10 : w1.cell? ⟨w.heap.size + 1, 10, none⟩ = some (.int .i64 g4) := (blk_cell hT1.b1 10).trans rfl
  have z11 : w1.cell? ⟨w.heap.size + 1, 11, none⟩ = some (.slice A11 n11 c11) := (blk_cell hT1.b1 11).trans rfl
  clear hb1 hT1 hT2 HTl HFew
  go_wp2_with fail
  refine (HTo.out _ HT2.out.below).mono ?_
  rintro u w2 ⟨A1, n1, c1, rfl, hR1, hb2⟩
  have hT3 := HT2.out.on hb2
  have HT3 := Lib.hid hT3
  have HR1 := Lib.hid hR1
  clear hs1 hs0 p0 p1 p2 p3 z0 z1 z2 z3 z4 z5 z6 z7 z8 z9 z10 z11
  have p0 : w2.cell? ⟨w.heap.size, 0, none⟩ = some (.slice A n c) := (blk_cell hT3.b0 0).trans rfl
  have p1 : w2.cell? ⟨w.heap.size, 1, none⟩ = some (.bool q) := (blk_cell hT3.b0 1).trans rfl
  have z0 : w2.cell? ⟨w.heap.size + 1, 0, none⟩ = some (.int .i64 f0) := (blk_cell hT3.b1 0).trans rfl
  have z1 : w2.cell? ⟨w.heap.size + 1, 1, none⟩ = some (.int .i64 f1) := (blk_cell hT3.b1 1).trans rfl
  have z2 : w2.cell? ⟨w.heap.size + 1, 2, none⟩ = some (.int .i64 f2) := (blk_cell hT3.b1 2).trans rfl
  have z3 : w2.cell? ⟨w.heap.size + 1, 3, none⟩ = some (.int .i64 f3) := (blk_cell hT3.b1 3).trans rfl
  have z4 : w2.cell? ⟨w.heap.size + 1, 4, none⟩ = some (.string f4) := (blk_cell hT3.b1 4).trans rfl
  have z5 : w2.cell? ⟨w.heap.size + 1, 5, none⟩ = some (.string f5) := (blk_cell hT3.b1 5).trans rfl
  have z6 : w2.cell? ⟨w.heap.size + 1, 6, none⟩ = some (.int .i64 g0) := (blk_cell hT3.b1 6).trans rfl
  have z7 : w2.cell? ⟨w.heap.size + 1, 7, none⟩ = some (.string g1) := (blk_cell hT3.b1 7).trans rfl
  have z8 : w2.cell? ⟨w.heap.size + 1, 8, none⟩ = some (.slice A8 n8 c8) := (blk_cell hT3.b1 8).trans rfl
  have z9 : w2.cell? ⟨w.heap.size + 1, 9, none⟩ = some (.string g3) := (blk_cell hT3.b1 9).trans rfl
  have z10 : w2.cell? ⟨w.heap.size + 1, 10, none⟩ = some (.int .i64 g4) := (blk_cell hT3.b1 10).trans rfl
  have z11 : w2.cell? ⟨w.heap.size + 1, 11, none⟩ = some (.slice A11 n11 c11) := (blk_cell hT3.b1 11).trans rfl
  clear hT3 hb2 hR1 HTo
  go_wp2_with fail
  refine (HAp.out _ HT3.out.below).mono ?_
  rintro u w3 ⟨A2, n2, c2, rfl, hR2, hb3⟩
  have HM : Hid (TM w (w3.alloc (.cells #[.slice A2 n2 c2, .bool q2] 24)) w3.heap.size A A2 n c n2 c2 q q2 A1 n1 c1 l l2 o) := Lib.hid (by
    have h1 := HT3.out.on hb3
    have ha : Below w3.heap.size w3 (w3.alloc (.cells #[.slice A2 n2 c2, .bool q2] 24)) := (Below.refl _ _).alloc (Nat.le_refl _) _
    have h2 := h1.on ha
    exact ⟨h2.b0, blk_new w3 _, (HR1.out.below hb3).below ha, ⟨HRl.out.1, HRl.out.2.1, Kd.C_below HRl.out.2.2 h2.below⟩, ⟨hR2.1, hR2.2.1, Kd.C_below hR2.2.2 ha⟩, h2.below⟩)
  clear HT2 HT3 HR1 hR2 hb3 HAp p0 p1 z0 z1 z2 z3 z4 z5 z6 z7 z8 z9 z10 z11
  by_cases h0 : er = 0
  · subst h0
    have HRest : Hid (∀ k : Nat, k < n2 → inB o (k : Int) = false → k < n ∧ rd_T28 l2 (k : Int) = rd_T28 l (k : Int)) := Lib.hid (fun k hk hin => by
      obtain ⟨h1, h2, h3, _⟩ := HTr.out.ok rfl
      obtain ⟨top, _, ho⟩ := HTr.out.top rfl
      have hni : (k : Int) ∉ touchG l e top := fun hm => by
        have hm2 := mem_told.2 hm
        rw [← ho] at hm2
        have : inB o k = true := by simpa [inB] using hm2
        rw [this] at hin
        cases hin
      have hr := eff_rest h3 top (n := k) (by have := HM.out.r2.1; omega) hni
      exact ⟨by have := HM.out.rl.1; omega, rd_of_get hr.2 rfl⟩)
    have HDo : Hid (DocOk l) := Lib.hid (HTr.out.ok rfl).1
    have hn2c : n2 ≤ c2 := HM.out.r2.2.1
    have hn2m : n2 ≤ 1000 := by have := HM.out.r2.1; have := (HTr.out.ok rfl).2.1.len; omega
    have hn1m : n1 ≤ 1000 := by
      obtain ⟨top, _, ho⟩ := HTr.out.top rfl
      have h1 := HM.out.ro.1
      have h2 := told_len (touchG l e top)
      have h3 := (touchG_len l e top).2
      rw [ho] at h1
      omega
    clear HTr HRl
    go_wp2_with fail
    generalize w3.alloc (.cells #[.slice A2 n2 c2, .bool q2] 24) = W4 at HM ⊢
    generalize w3.heap.size = g7 at HM ⊢
    go_loopw [10] (fun s10 wr => ∃ k : Nat, k ≤ n2 ∧ s10 = .int .i64 k ∧ Hid (TM w wr g7 A A2 n c n2 c2 q q2 A1 n1 c1 l l2 o)) (fun s10 _ => n2 - (intOf s10).toNat)
    case atStart => exact ⟨0, Nat.zero_le _, rfl, HM⟩
    case round =>
      obtain ⟨k, hk, rfl, HN⟩ := hrel
      clear HM
      have q70 : wr.cell? ⟨g7, 0, none⟩ = some (.slice A2 n2 c2) := (blk_cell HN.out.b7 0).trans rfl
      by_cases hlt : k < n2
      · go_wp2_with fail
        go_loopw [11, 12] (fun s11 s12 wx => ∃ j : Nat, j ≤ n1 ∧ s12 = .int .i64 j ∧ s11 = .bool (inB (o.take j) (k : Int)) ∧ Hid (TM w wx g7 A A2 n c n2 c2 q q2 A1 n1 c1 l l2 o)) (fun _ s12 _ => n1 - (intOf s12).toNat)
        case atStart => exact ⟨0, Nat.zero_le _, rfl, rfl, HN⟩
        case round =>
          obtain ⟨j, hj, rfl, rfl, HN2⟩ := hrel
          clear HN q70
          by_cases hjl : j < n1
          · have hol := HN2.out.ro.1
            obtain ⟨ad, cs, hA1, hcl, hK, hcc⟩ := Kd.C_get HN2.out.ro.2.2 0 (j : Int) (by omega) (by omega)
            rw [Int.toNat_natCast] at hK hcc
            have d0 : wr.cell? (ad.add j) = some (.int .i64 (o.getD j 0)) := by
              have hcs : cs = [.int .i64 (o.getD j 0)] := hK
              subst hcs
              have := hcc 0 _ rfl
              rw [show j * (Kd.int .i64).sz + 0 = j from by show j * 1 + 0 = j; omega] at this
              exact this
            have HS : Hid (inB (o.take (j + 1)) (k : Int) = (inB (o.take j) (k : Int) || (o.getD j 0 == (k : Int)))) := Lib.hid (take_snoc o j (by omega) k)
            subst hA1
            clear hK hcc hcl hol
            generalize o.getD j 0 = y at *
            cases hb : inB (o.take j) (k : Int) with
            | true =>
              have HV : Hid (inB (o.take (j + 1)) (k : Int) = true) := Lib.hid (by rw [HS.out, hb]; rfl)
              clear HS hb
              go_wp2_with fail
              go_roundw
              case rel => exact ⟨j + 1, by omega, by go_num, by rw [HV.out], HN2⟩
              case measure => simp [intOf]; omega
            | false =>
              by_cases hy : y = (k : Int)
              · have HV : Hid (inB (o.take (j + 1)) (k : Int) = true) := Lib.hid (by rw [HS.out, hb, hy]; simp)
                have yb : (y == (k : Int)) = true := by simpa using hy
                clear HS hb hy
                go_wp2_with fail
                go_roundw
                case rel => exact ⟨j + 1, by omega, by go_num, by rw [HV.out], HN2⟩
                case measure => simp [intOf]; omega
              · have yb : (y == (k : Int)) = false := by simpa using hy
                have HV : Hid (inB (o.take (j + 1)) (k : Int) = false) := Lib.hid (by rw [HS.out, hb, yb]; rfl)
                clear HS hb hy
                go_wp2_with fail
                go_roundw
                case rel => exact ⟨j + 1, by omega, by go_num, by rw [HV.out], HN2⟩
                case measure => simp [intOf]; omega
          · obtain rfl : j = n1 := by omega
            have ht : o.take j = o := List.take_of_length_le (by have := HN2.out.ro.1; omega)
            rw [ht]
            clear ht
            cases hb : inB o (k : Int) with
            | true =>
              clear hb
              have HN7 := Lib.hid (fun t => HN2.out.on (pw_below_drewN (Below.refl _ _) t))
              go_upto_region 14 with fail
              go_quiet (fail)
              go_wp2_with fail
              go_roundw
              case rel => exact ⟨k + 1, by omega, by go_num, Lib.hid (HN7.out _)⟩
              case measure => simp [intOf]; omega
            | false =>
              obtain ⟨hkn, hrd⟩ := HRest.out k hlt hb
              have HRd := Lib.hid hrd
              obtain ⟨adL, -, -, -, -, eL, -⟩ := at_T28 HN2.out.rl.2.2 (k : Int) (by omega) (by have := HN2.out.rl.1; omega)
              obtain ⟨adX, -, -, -, -, eX, -⟩ := at_T28 HN2.out.r2.2.2 (k : Int) (by omega) (by have := HN2.out.r2.1; omega)
              subst eL eX
              have HSm : Hid (∀ W : World, Below wr.heap.size wr W → Calls Tryd.prog 10 #[.agg #[.slice (some (adL.add (k * 6))) 1 (c - k), .bool false], .agg #[.slice (some (adX.add (k * 6))) 1 (c2 - k), .bool false]] W fun u w' => u = .returned (.bool true) ∧ Below wr.heap.size wr w' ∧ Below W.heap.size W w') := Lib.hid (fun W hb => by
                have h1 := one_reads HN2.out.rl.2.2 (k := k) (c := c) (by have := HN2.out.rl.1; omega) (by have := HN2.out.rl.1; have := HN2.out.rl.2.1; omega)
                have h2 := one_reads HN2.out.r2.2.2 (k := k) (c := c2) (by have := HN2.out.r2.1; omega) (by have := HN2.out.r2.1; have := HN2.out.r2.2.1; omega)
                rw [HRd.out] at h2
                exact (Same.sameDoc_calls [rd_T28 l (k : Int)] false (some (adL.add (k * 6))) (some (adX.add (k * 6))) (c - k) (c2 - k) W (Kd.C_below h1 hb) (by have := HN2.out.rl.2.1; simp; omega) (Kd.C_below h2 hb) (by simp; omega) (short_one HDo.out (by have := HN2.out.rl.1; omega))).mono (fun u w' h => ⟨h.1, hb.trans (h.2.mono hb.size), h.2⟩))
              have HE : Hid (∀ W : World, Below wr.heap.size wr W → W.cell? ⟨w.heap.size, 0, none⟩ = some (.slice (some adL) n c) ∧ W.cell? ⟨g7, 0, none⟩ = some (.slice (some adX) n2 c2)) := Lib.hid (fun W hb => ⟨(blk_cell (blk_below HN2.out.b0 hb) 0).trans rfl, (blk_cell (blk_below HN2.out.b7 hb) 0).trans rfl⟩)
              have hck : ¬ c = k := by omega
              have hck2 : ¬ c2 = k := by omega
              have hkc : k + 1 ≤ c := by omega
              have hkc2 : k + 1 ≤ c2 := by omega
              have hkd : ¬ (n : Int) ≤ (k : Int) := by omega
              have hw1 : IntKind.i64.wrap ((k : Int) + 1) = (k : Int) + 1 := IntWalk.i64_in _ (by omega)
              have hw2 : ((k : Int) + 1).toNat = k + 1 := by omega
              have hw3 : 0 ≤ (k : Int) + 1 := by omega
              have hv1 : (0 : Int) ≤ (k : Int) := by omega
              have hv2 : (k : Int) ≤ (k : Int) + 1 := by omega
              have hv3 : (k : Int) + 1 ≤ (c : Int) := by omega
              have hv4 : (k : Int) + 1 ≤ (c2 : Int) := by omega
              have hv5 : (k : Int) ≤ (c : Int) := by omega
              have hv6 : (k : Int) ≤ (c2 : Int) := by omega
              have hv7 : k < c := by omega
              have hv8 : k < c2 := by omega
              clear hb hrd
              go_upto_region 14 with fail
              go_region_held3 (fun W => W.cell? ⟨w.heap.size, 0, none⟩ = some (.slice (some adL) n c) ∧ W.cell? ⟨g7, 0, none⟩ = some (.slice (some adX) n2 c2)) (exact HE.out _ (by (repeat (first | refine below_alloc ?_ _ | refine below_drew ?_ | refine Below.setCell ?_ (by simp) _)); first | exact hb5 | exact Below.refl _ _)) (first | (with_reducible refine (HSm.out _ ?_).mono ?_; ((repeat (first | refine below_alloc ?_ _ | refine below_drew ?_)); exact Below.refl _ _); rintro u w5 ⟨rfl, hb5, hb5'⟩))
              all_goals
                have HN5 := Lib.hid (HN2.out.on hb5)
                clear hb5 hb5' hw1 hw2 hw3
                go_wp2_with fail
                go_roundw
                case rel => exact ⟨k + 1, by omega, by go_num, HN5⟩
                case measure => simp [intOf]; omega
      · obtain rfl : k = n2 := by omega
        go_wp2_with fail
        refine (HBg.out _).mono ?_
        rintro u w4 ⟨rfl, hb4⟩
        have HB4 := Lib.hid (HN.out.below.trans (hb4.mono HN.out.below.size))
        clear hb4 HN
        go_wp2_with fail
        go_ret
        exact ⟨rfl, HB4.out⟩
  · have q0 : (er == 0) = false := by simpa using h0
    have q1 : (er != 0) = true := by simpa using h0
    have hn1 : n1 = 0 := by rw [HM.out.ro.1, HTr.out.bad h0]; rfl
    subst hn1
    clear h0 HTr
    go_wp2_with fail
    refine (HBg.out _).mono ?_
    rintro u w4 ⟨rfl, hb4⟩
    have HB4 := Lib.hid (HM.out.below.trans (hb4.mono HM.out.below.size))
    clear hb4 HM
    go_wp2_with fail
    go_ret
    exact ⟨rfl, HB4.out⟩
theorem touch_row (A : Option Addr) (c : Nat) (l : List S28) (q : Bool) (e : S30) (A8 A11 : Option Addr) (c8 c11 : Nat) (W : World) (hf : Fit l) (hr : Kd.C k28 W A l.length l) (hc : l.length ≤ c) (he : ReadsE W e A8 c8 A11 c11) :
    Calls Tryd.prog 5 #[.agg #[.slice A l.length c, .bool q], .agg #[.int .i64 e.f0, .int .i64 e.f1, .int .i64 e.f2, .int .i64 e.f3, .string e.f4, .string e.f5, .int .i64 e.f6.f0, .string e.f6.f1, .slice A8 e.f6.f2.length c8, .string e.f6.f3, .int .i64 e.f6.f4, .slice A11 e.f6.f5.length c11]] W fun u w' => u = .returned (.bool true) ∧ Below W.heap.size W w' := touch_law l q e A A8 A11 c c8 c11 W hf hr hc he
end Go.Proofs.YthfalaabfgpjmaaDoor.ApA
