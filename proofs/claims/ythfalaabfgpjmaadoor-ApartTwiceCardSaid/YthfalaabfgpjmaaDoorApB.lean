/- Package apart: touched, of edits that gather more than one node. -/
import Derived.Test.YthfalaabfgpjmaaDoorApA
namespace Go.Proofs.YthfalaabfgpjmaaDoor.ApA
open Go.RowKit Go.Proofs.YthfalaabfgpjmaaDoorW.PrintWords Go.Proofs.YthfalaabfgpjmaaDoorW.PrintLast Go.Proofs.YthfalaabfgpjmaaDoorW.PrintMore Go.Proofs.YthfalaabfgpjmaaDoor.PAP Go.Proofs.YthfalaabfgpjmaaDoor.DocP Go.Proofs.YthfalaabfgpjmaaDoor.DocC
set_option linter.unusedVariables false
set_option linter.unusedSimpArgs false
theorem news1 (W : World) (x : Int) (t : TypeId) : ∀ (j : Nat) (u : Value), [Value.int .i64 x][j]? = some u → (W.alloc (.cells #[.int .i64 x] t)).cell? ((⟨W.heap.size, 0, none⟩ : Addr).add j) = some u := by
  intro j u hj
  match j, hj with
  | 0, hj => simp at hj; subst hj; simp [Addr.add]
theorem one1 (x : Int) : ∀ u ∈ [Value.int .i64 x], u.oneCell' = true := by
  intro u hu
  simp at hu
  subst hu
  rfl
theorem ApG.R {w W : World} {v : Value} {xs : List Int} {X Y : Obj} (h : ApG w W v xs X Y) : Kd.R (Kd.int .i64) 3 W w.heap.size (fun _ => True) v xs := Kd.R_of_own h.own (fun _ _ => trivial)
theorem two_own {w W : World} {s : Nat} (hs : W.heap.size = s) (hb : w.heap.size ≤ W.heap.size) (a b : Int) (u : World) : (W.alloc (.cells (#[Value.int .i64 a, .int .i64 b] ++ Builtin.zeroCells #[Value.int .i64 0] (grownCap u 2 1 3 - 2)) 3)).drew.ownsRow w.heap.size 3 1 (.slice (some ⟨s, 0, none⟩) 2 (grownCap u 2 1 3)) 2 [.int .i64 a, .int .i64 b] := by
  subst hs
  have hge := grownCap_ge u 2 1 3
  have hcm : grownCap u 2 1 3 ≤ maxLen := grownCap_le_maxLen u 2 1 3 (by decide)
  refine ⟨rfl, .inr ⟨W.heap.size, _, _, rfl, hb, heap_alloc_new W _, hge, hcm, ?_, ?_⟩⟩
  · simp only [Array.size_append, size_zeroCells]
    show 2 + (grownCap u 2 1 3 - 2) * 1 = _
    omega
  · simp
theorem ApG.two (w : World) (X Y : Obj) (a b : Int) : ApG w (((((w.alloc X).alloc Y).alloc (.cells #[.int .i64 a] 3)).alloc (.cells #[.int .i64 b] 3)).alloc (.cells (#[Value.int .i64 a, .int .i64 b] ++ Builtin.zeroCells #[Value.int .i64 0] (grownCap w 2 1 3 - 2)) 3)).drew (.slice (some ⟨w.heap.size + 1 + 1 + 1 + 1, 0, none⟩) 2 (grownCap w 2 1 3)) [a, b] X Y := by
  refine ⟨?_, ?_, ?_, ?_, ?_⟩
  · exact two_own (by simp) (by simp; omega) a b w
  · exact blk_drew (blk_below (blk_new w X) (below_alloc (below_alloc (below_alloc (below_alloc (Below.refl _ _) _) _) _) _))
  · exact blk_drew (blk_below (by simpa using blk_new (w.alloc X) Y) (below_alloc (below_alloc (below_alloc (Below.refl _ _) _) _) _))
  · exact below_drew (below_alloc (below_alloc (below_alloc (below_alloc (below_alloc (Below.refl _ _) _) _) _) _) _)
  · intro k hk
    simp [Value.ownBlock] at hk
    omega
set_option maxRecDepth 100000 in
set_option maxHeartbeats 4000000 in
theorem touched_remove (w : World) (A A8 A11 : Option Addr) (n c n8 n11 c8 c11 : Nat) (q : Bool) (f0 f1 f2 f3 g0 g4 : Int) (f4 f5 g1 g3 : ByteArray) (h6 : f0 = 6) (l : List S28) (hr : Kd.C k28 w A l.length l) (hn : n = l.length) (hc : n ≤ c) (hi1 : In l.length f1) :
    Calls Tryd.prog 25 #[.agg #[.slice A n c, .bool q], .agg #[.int .i64 f0, .int .i64 f1, .int .i64 f2, .int .i64 f3, .string f4, .string f5, .int .i64 g0, .string g1, .slice A8 n8 c8, .string g3, .int .i64 g4, .slice A11 n11 c11]] w fun u w' => ∃ v : Value, u = .returned v ∧ Kd.R (Kd.int .i64) 3 w' w.heap.size (fun _ => True) v (told [f1, par l f1]) ∧ Below w.heap.size w w' := by
  have HS := sortH w [f1, par l f1] (by simp) (by simp)
  have HCp := compactH w [f1, par l f1] (by simp) (by simp)
  have h4b : (f0 == 4) = false := by simpa using (show f0 ≠ 4 by omega)
  have h5b : (f0 == 5) = false := by simpa using (show f0 ≠ 5 by omega)
  have h6b : (f0 == 6) = true := by simpa using h6
  have HG := Lib.hid (ApG.two w (.cells #[.slice A n c, .bool q] 24 (0, 0)) (.cells #[.int .i64 f0, .int .i64 f1, .int .i64 f2, .int .i64 f3, .string f4, .string f5, .int .i64 g0, .string g1, .slice A8 n8 c8, .string g3, .int .i64 g4, .slice A11 n11 c11] 30 (0, 0)) f1 (par l f1))
  have hf0 : 0 ≤ f1 := hi1.1
  have hf1 : f1 < (n : Int) := by have := hi1.2; omega
  obtain ⟨ad, A2, cc2, A5, cc5, e1, x0, x1, x2, x3, x4, x5, x2l, x2r, x5l, x5r⟩ := at_T28 (Kd.C_below hr (ApG.lit w (.cells #[.slice A n c, .bool q] 24 (0, 0)) (.cells #[.int .i64 f0, .int .i64 f1, .int .i64 f2, .int .i64 f3, .string f4, .string f5, .int .i64 g0, .string g1, .slice A8 n8 c8, .string g3, .int .i64 g4, .slice A11 n11 c11] 30 (0, 0)) f1).below) f1 (by omega) (by omega)
  clear x0 x1 x2 x3 x5 x2l x2r x5l x5r
  rw [f4_eq] at x4
  subst e1
  generalize par l f1 = p at *
  clear h6 hr hi1 hn
  go_enter Tryd.func25, Tryd.ntmps25
  go_wp2_with fail
  refine (HS.out _ _ HG.out.R HG.out.below.size HG.out.below).mono ?_
  rintro u w1 ⟨rfl, hr1, hs1, hb1⟩
  have HR1 := Lib.hid hr1
  have HS1 := Lib.hid hs1
  have HB1 := Lib.hid hb1
  clear hr1 hs1 hb1
  go_wp2_with fail
  refine (HCp.out _ _ HR1.out HS1.out HB1.out).mono ?_
  rintro u w2 ⟨v', rfl, hr2, hb2⟩
  have HR2 := Lib.hid hr2
  have HB2 := Lib.hid hb2
  clear hr2 hb2
  go_wp2_with fail
  go_ret
  exact ⟨_, rfl, HR2.out, HB2.out⟩
set_option maxRecDepth 100000 in
set_option maxHeartbeats 4000000 in
theorem touched_insert0 (w : World) (A A8 A11 : Option Addr) (n c n8 n11 c8 c11 : Nat) (q : Bool) (f0 f1 f2 f3 g0 g4 : Int) (f4 f5 g1 g3 : ByteArray) (h5 : f0 = 5) (l : List S28) (hr : Kd.C k28 w A l.length l) (hn : n = l.length) (hc : n ≤ c) (top : Int) (ht : Ev (fun k => apart_root.f k l q f1) top) (hp : ¬ 0 < top) :
    Calls Tryd.prog 25 #[.agg #[.slice A n c, .bool q], .agg #[.int .i64 f0, .int .i64 f1, .int .i64 f2, .int .i64 f3, .string f4, .string f5, .int .i64 g0, .string g1, .slice A8 n8 c8, .string g3, .int .i64 g4, .slice A11 n11 c11]] w fun u w' => ∃ v : Value, u = .returned v ∧ Kd.R (Kd.int .i64) 3 w' w.heap.size (fun _ => True) v (told [f1, f2]) ∧ Below w.heap.size w w' := by
  have HS := sortH w [f1, f2] (by simp) (by simp)
  have HCp := compactH w [f1, f2] (by simp) (by simp)
  have h4b : (f0 == 4) = false := by simpa using (show f0 ≠ 4 by omega)
  have h5b : (f0 == 5) = true := by simpa using h5
  have h6b : (f0 == 6) = false := by simpa using (show f0 ≠ 6 by omega)
  have HG := Lib.hid (ApG.two w (.cells #[.slice A n c, .bool q] 24 (0, 0)) (.cells #[.int .i64 f0, .int .i64 f1, .int .i64 f2, .int .i64 f3, .string f4, .string f5, .int .i64 g0, .string g1, .slice A8 n8 c8, .string g3, .int .i64 g4, .slice A11 n11 c11] 30 (0, 0)) f1 f2)
  obtain ⟨kk, hkk⟩ := ev_at ht
  have HRt : Hid (∀ W : World, Below w.heap.size w W → Calls Tryd.prog 33 #[.agg #[.slice A n c, .bool q], .int .i64 f1] W fun u w' => u = .returned (.int .i64 top) ∧ Below W.heap.size W w') := Lib.hid (fun W hb => by
    subst hn
    exact apart_root.calls kk A c l q f1 top W (Kd.C_below hr hb) hc hkk)
  obtain ⟨i0, hi, hz0, hz1, hz2⟩ := info_parts int_info
  clear h5 hr hn ht hkk
  have hp2 : top ≤ 0 := by omega
  clear hp
  go_enter Tryd.func25, Tryd.ntmps25
  go_wp2_with fail
  refine (HRt.out _ HG.out.below).mono ?_
  rintro u w3 ⟨rfl, hb3⟩
  have HG3 := Lib.hid (HG.out.on hb3)
  have HZ : Hid (grownCap w 2 1 3 ≤ maxLen) := Lib.hid (grownCap_le_maxLen w 2 1 3 (by decide))
  clear hb3 HG
  go_wp2_with fail
  refine (HS.out _ _ HG3.out.R HG3.out.below.size HG3.out.below).mono ?_
  rintro u w1 ⟨rfl, hr1, hs1, hb1⟩
  have HR1 := Lib.hid hr1
  have HS1 := Lib.hid hs1
  have HB1 := Lib.hid hb1
  clear hr1 hs1 hb1
  go_wp2_with fail
  refine (HCp.out _ _ HR1.out HS1.out HB1.out).mono ?_
  rintro u w2 ⟨v', rfl, hr2, hb2⟩
  have HR2 := Lib.hid hr2
  have HB2 := Lib.hid hb2
  clear hr2 hb2
  go_wp2_with fail
  go_ret
  exact ⟨_, rfl, HR2.out, HB2.out⟩
set_option maxRecDepth 100000 in
set_option maxHeartbeats 4000000 in
theorem touched_insert1 (w : World) (A A8 A11 : Option Addr) (n c n8 n11 c8 c11 : Nat) (q : Bool) (f0 f1 f2 f3 g0 g4 : Int) (f4 f5 g1 g3 : ByteArray) (h5 : f0 = 5) (l : List S28) (hr : Kd.C k28 w A l.length l) (hn : n = l.length) (hc : n ≤ c) (top : Int) (ht : Ev (fun k => apart_root.f k l q f1) top) (hp : 0 < top) :
    Calls Tryd.prog 25 #[.agg #[.slice A n c, .bool q], .agg #[.int .i64 f0, .int .i64 f1, .int .i64 f2, .int .i64 f3, .string f4, .string f5, .int .i64 g0, .string g1, .slice A8 n8 c8, .string g3, .int .i64 g4, .slice A11 n11 c11]] w fun u w' => ∃ v : Value, u = .returned v ∧ Kd.R (Kd.int .i64) 3 w' w.heap.size (fun _ => True) v (told [f1, f2, top]) ∧ Below w.heap.size w w' := by
  have HS := sortH w [f1, f2, top] (by simp) (by simp)
  have HCp := compactH w [f1, f2, top] (by simp) (by simp)
  have h4b : (f0 == 4) = false := by simpa using (show f0 ≠ 4 by omega)
  have h5b : (f0 == 5) = true := by simpa using h5
  have h6b : (f0 == 6) = false := by simpa using (show f0 ≠ 6 by omega)
  have HG := Lib.hid (ApG.two w (.cells #[.slice A n c, .bool q] 24 (0, 0)) (.cells #[.int .i64 f0, .int .i64 f1, .int .i64 f2, .int .i64 f3, .string f4, .string f5, .int .i64 g0, .string g1, .slice A8 n8 c8, .string g3, .int .i64 g4, .slice A11 n11 c11] 30 (0, 0)) f1 f2)
  obtain ⟨kk, hkk⟩ := ev_at ht
  have HRt : Hid (∀ W : World, Below w.heap.size w W → Calls Tryd.prog 33 #[.agg #[.slice A n c, .bool q], .int .i64 f1] W fun u w' => u = .returned (.int .i64 top) ∧ Below W.heap.size W w') := Lib.hid (fun W hb => by
    subst hn
    exact apart_root.calls kk A c l q f1 top W (Kd.C_below hr hb) hc hkk)
  obtain ⟨i0, hi, hz0, hz1, hz2⟩ := info_parts int_info
  clear h5 hr hn ht hkk
  go_enter Tryd.func25, Tryd.ntmps25
  go_wp2_with fail
  refine (HRt.out _ HG.out.below).mono ?_
  rintro u w3 ⟨rfl, hb3⟩
  have HG3 := Lib.hid (HG.out.on hb3)
  have HZ : Hid (grownCap w 2 1 3 ≤ maxLen) := Lib.hid (grownCap_le_maxLen w 2 1 3 (by decide))
  clear hb3 HG
  go_wp2_with (at_builtin; refine wpList_append_own_at _ rfl _ _ 26 rfl w.heap.size 3 i0 (.int .i64 0) 1 8 Tryd.underlying26 hi hz0 hz1 hz2 rfl (by decide) _ 2 [.int .i64 f1, .int .i64 f2] rfl (pw_own_below (HG3.out.own) (below_alloc (Below.refl _ _) _)) ⟨_, 0, none⟩ 1 1 [.int .i64 top] rfl rfl (news1 _ _ _) (one1 _) (by decide) (by decide) (by have := HG3.out.below.size; simp; omega) ?c1)
  case c1 =>
    intro v4 w4 ho4 hg4 _ hv4
    have HG4 := Lib.hid (HG3.out.put ho4 hg4 (hv4.imp (fun h => h) (fun h => by rw [h]; simp)))
    have HF : Hid (∃ A' c', v4 = .slice A' 3 c') := Lib.hid (own_slice ho4)
    clear ho4 hg4 hv4 HG3
    obtain ⟨A', c', rfl⟩ := HF.out
    clear HF
    go_wp2_with fail
    refine (HS.out _ _ HG4.out.R HG4.out.below.size HG4.out.below).mono ?_
    rintro u w1 ⟨rfl, hr1, hs1, hb1⟩
    have HR1 := Lib.hid hr1
    have HS1 := Lib.hid hs1
    have HB1 := Lib.hid hb1
    clear hr1 hs1 hb1
    go_wp2_with fail
    refine (HCp.out _ _ HR1.out HS1.out HB1.out).mono ?_
    rintro u w2 ⟨v', rfl, hr2, hb2⟩
    have HR2 := Lib.hid hr2
    have HB2 := Lib.hid hb2
    clear hr2 hb2
    go_wp2_with fail
    go_ret
    exact ⟨_, rfl, HR2.out, HB2.out⟩
end Go.Proofs.YthfalaabfgpjmaaDoor.ApA
