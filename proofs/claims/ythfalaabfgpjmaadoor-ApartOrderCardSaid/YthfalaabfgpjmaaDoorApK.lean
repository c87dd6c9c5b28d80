/- The law ApartOrder walked: it returns true. -/
import Derived.Test.YthfalaabfgpjmaaDoorApI
import Derived.Test.YthfalaabfgpjmaaDoorApR
namespace Go.Proofs.YthfalaabfgpjmaaDoor.ApA
open Go.RowKit Go.Proofs.YthfalaabfgpjmaaDoorW.PrintWords Go.Proofs.YthfalaabfgpjmaaDoorW.PrintLast Go.Proofs.YthfalaabfgpjmaaDoorW.PrintMore Go.Proofs.YthfalaabfgpjmaaDoor.PAP Go.Proofs.YthfalaabfgpjmaaDoor.DocP Go.Proofs.YthfalaabfgpjmaaDoor.DocC
set_option linter.unusedVariables false
set_option linter.unusedSimpArgs false
theorem pair_reads {W : World} {d : Nat} {e f : S30} {A8 A11 B8 B11 : Option Addr} {c8 c11 d8 d11 : Nat} (he : ReadsE W e A8 c8 A11 c11) (hf : ReadsE W f B8 d8 B11 d11) (hd : W.heap[d]? = some (.cells #[.int .i64 e.f0, .int .i64 e.f1, .int .i64 e.f2, .int .i64 e.f3, .string e.f4, .string e.f5, .int .i64 e.f6.f0, .string e.f6.f1, .slice A8 e.f6.f2.length c8, .string e.f6.f3, .int .i64 e.f6.f4, .slice A11 e.f6.f5.length c11, .int .i64 f.f0, .int .i64 f.f1, .int .i64 f.f2, .int .i64 f.f3, .string f.f4, .string f.f5, .int .i64 f.f6.f0, .string f.f6.f1, .slice B8 f.f6.f2.length d8, .string f.f6.f3, .int .i64 f.f6.f4, .slice B11 f.f6.f5.length d11] 30 (0, 0))) : Kd.C k30 W (some ⟨d, 0, none⟩) 2 [e, f] := by
  refine ⟨rfl, by decide, fun _ => ⟨⟨d, 0, none⟩, rfl, fun j p hj => ?_⟩⟩
  have hlt := (List.getElem?_eq_some_iff.1 hj).1
  have hc := fun i u hi => (blk_cell hd i).trans (b := _) (c := some u) hi
  match j, hlt with
  | 0, _ =>
    have hp : p = e := by simpa using hj.symm
    subst hp
    refine ⟨_, rfl, k30_mk W p he.l8 he.h8 he.l11 he.h11, fun i u hi => ?_⟩
    rw [add_at]
    have hil := (List.getElem?_eq_some_iff.1 hi).1
    refine hc _ _ ?_
    match i, hil with
    | 0, _ => exact hi
    | 1, _ => exact hi
    | 2, _ => exact hi
    | 3, _ => exact hi
    | 4, _ => exact hi
    | 5, _ => exact hi
    | 6, _ => exact hi
    | 7, _ => exact hi
    | 8, _ => exact hi
    | 9, _ => exact hi
    | 10, _ => exact hi
    | 11, _ => exact hi
  | 1, _ =>
    have hp : p = f := by simpa using hj.symm
    subst hp
    refine ⟨_, rfl, k30_mk W p hf.l8 hf.h8 hf.l11 hf.h11, fun i u hi => ?_⟩
    rw [add_at]
    have hil := (List.getElem?_eq_some_iff.1 hi).1
    refine hc _ _ ?_
    match i, hil with
    | 0, _ => exact hi
    | 1, _ => exact hi
    | 2, _ => exact hi
    | 3, _ => exact hi
    | 4, _ => exact hi
    | 5, _ => exact hi
    | 6, _ => exact hi
    | 7, _ => exact hi
    | 8, _ => exact hi
    | 9, _ => exact hi
    | 10, _ => exact hi
    | 11, _ => exact hi
/-- The document, cut, and the two edits in their boxes. -/
structure TW (w W : World) (A : Option Addr) (n c : Nat) (q : Bool) (E F : Array Value) : Prop where
  b0 : W.heap[w.heap.size]? = some (.cells #[.slice A n c, .bool q] 24 (0, 0))
  b1 : W.heap[w.heap.size + 1]? = some (.cells E 30 (0, 0))
  b2 : W.heap[w.heap.size + 1 + 1]? = some (.cells F 30 (0, 0))
  below : Below w.heap.size w W
theorem TW.on {w W W' : World} {A : Option Addr} {n c : Nat} {q : Bool} {E F : Array Value} (h : TW w W A n c q E F) (hb : Below W.heap.size W W') : TW w W' A n c q E F := ⟨blk_below h.b0 hb, blk_below h.b1 hb, blk_below h.b2 hb, h.below.trans (hb.mono h.below.size)⟩
theorem tw_begin {w w1 : World} {A : Option Addr} {n c n' : Nat} {q : Bool} {E F : Array Value} (hb : Below (((w.alloc (.cells #[.slice A n c, .bool q] 24)).alloc (.cells E 30)).alloc (.cells F 30)).heap.size (((w.alloc (.cells #[.slice A n c, .bool q] 24)).alloc (.cells E 30)).alloc (.cells F 30)) w1) :
    TW w w1 A n c q E F ∧ TW w ((w1.setCell ⟨w.heap.size, 0, none⟩ (.slice A n' c)).setCell ⟨w.heap.size, 1, none⟩ (.bool q)) A n' c q E F := by
  have hs := hb.size
  simp at hs
  have x0 : w1.heap[w.heap.size]? = some (.cells #[.slice A n c, .bool q] 24 (0, 0)) := blk_below (blk_below (blk_new w _) (below_alloc (below_alloc (Below.refl _ _) _) _)) hb
  have x1 : w1.heap[w.heap.size + 1]? = some (.cells E 30 (0, 0)) := blk_below (blk_below (by simpa using blk_new (w.alloc (.cells #[.slice A n c, .bool q] 24)) (.cells E 30)) (below_alloc (Below.refl _ _) _)) hb
  have x2 : w1.heap[w.heap.size + 1 + 1]? = some (.cells F 30 (0, 0)) := blk_below (by simpa using blk_new ((w.alloc (.cells #[.slice A n c, .bool q] 24)).alloc (.cells E 30)) (.cells F 30)) hb
  have x3 : Below w.heap.size w w1 := (below_alloc (below_alloc (below_alloc (Below.refl _ _) _) _) _).trans (hb.mono (by simp; omega))
  have hne1 : w.heap.size + 1 ≠ w.heap.size := by omega
  have hne2 : w.heap.size + 1 + 1 ≠ w.heap.size := by omega
  exact ⟨⟨x0, x1, x2, x3⟩, blk_put (blk_put (cs' := #[.slice A n' c, .bool q]) x0 0 _ rfl) 1 _ rfl, blk_far (blk_far x1 hne1 _) hne1 _, blk_far (blk_far x2 hne2 _) hne2 _, (x3.setCell (Nat.le_refl _) _).setCell (Nat.le_refl _) _⟩
/-- A document in a box of its own. -/
structure BX (W : World) (g : Nat) (A : Option Addr) (n c : Nat) (q : Bool) (l : List S28) : Prop where
  blk : W.heap[g]? = some (.cells #[.slice A n c, .bool q] 24 (0, 0))
  rd : n = l.length ∧ n ≤ c ∧ Kd.C k28 W A l.length l
theorem BX.on {W W' : World} {g : Nat} {A : Option Addr} {n c : Nat} {q : Bool} {l : List S28} (h : BX W g A n c q l) (hb : Below W.heap.size W W') : BX W' g A n c q l := ⟨blk_below h.blk hb, h.rd.1, h.rd.2.1, Kd.C_below h.rd.2.2 hb⟩
theorem BX.of {W : World} {A : Option Addr} {n c : Nat} {q : Bool} {l : List S28} (h : n = l.length ∧ n ≤ c ∧ Kd.C k28 W A l.length l) : BX (W.alloc (.cells #[.slice A n c, .bool q] 24)) W.heap.size A n c q l := ⟨blk_new W _, h.1, h.2.1, Kd.C_alloc h.2.2 _⟩
theorem short_doc {l : List S28} (h : DocOk l) : Same.Short l := ⟨h.len, fun x hx => by
  obtain ⟨k, hk, rfl⟩ := List.mem_iff_getElem.1 hx
  have hin : In l.length (k : Int) := ⟨by omega, by omega⟩
  have e : rd_T28 l (k : Int) = l[k] := by
    unfold rd_T28
    rw [Int.toNat_natCast, List.getD_eq_getElem?_getD, List.getElem?_eq_getElem hk]
    rfl
  rw [← e]
  exact ⟨(h.oneOk hin).2.2.2.2.1.1, h.kids_le hin⟩⟩
set_option maxHeartbeats 8000000 in
set_option maxRecDepth 100000 in
theorem order_row (A : Option Addr) (c : Nat) (l0 : List S28) (q : Bool) (e : S30) (A8 A11 : Option Addr) (c8 c11 : Nat) (f : S30) (B8 B11 : Option Addr) (d8 d11 : Nat) (w : World) (hf0 : Fit l0) (hr : Kd.C k28 w A l0.length l0) (hc : l0.length ≤ c) (he : ReadsE w e A8 c8 A11 c11) (hf : ReadsE w f B8 d8 B11 d11) :
    Calls Tryd.prog 3 #[.agg #[.slice A l0.length c, .bool q], .agg #[.int .i64 e.f0, .int .i64 e.f1, .int .i64 e.f2, .int .i64 e.f3, .string e.f4, .string e.f5, .int .i64 e.f6.f0, .string e.f6.f1, .slice A8 e.f6.f2.length c8, .string e.f6.f3, .int .i64 e.f6.f4, .slice A11 e.f6.f5.length c11], .agg #[.int .i64 f.f0, .int .i64 f.f1, .int .i64 f.f2, .int .i64 f.f3, .string f.f4, .string f.f5, .int .i64 f.f6.f0, .string f.f6.f1, .slice B8 f.f6.f2.length d8, .string f.f6.f3, .int .i64 f.f6.f4, .slice B11 f.f6.f5.length d11]] w fun u w' => u = .returned (.bool true) ∧ Below w.heap.size w w' := by
  obtain ⟨n0, hn0⟩ : ∃ n0, n0 = l0.length := ⟨_, rfl⟩
  obtain ⟨n8, hn8⟩ : ∃ n8, n8 = e.f6.f2.length := ⟨_, rfl⟩
  obtain ⟨n11, hn11⟩ : ∃ n11, n11 = e.f6.f5.length := ⟨_, rfl⟩
  obtain ⟨p8, hp8⟩ : ∃ p8, p8 = f.f6.f2.length := ⟨_, rfl⟩
  obtain ⟨p11, hp11⟩ : ∃ p11, p11 = f.f6.f5.length := ⟨_, rfl⟩
  obtain ⟨l, hl⟩ : ∃ l, l = l0.take (min n0 50) := ⟨_, rfl⟩
  obtain ⟨n, hn⟩ : ∃ n, n = min n0 50 := ⟨_, rfl⟩
  have hnl : n = l.length := by rw [hl, List.length_take]; omega
  have hrl : Kd.C k28 w A l.length l := by
    rw [hl]
    exact Kd.C_take hr (by omega)
  have hfl : Fit l := by rw [hl]; exact fit_cut hf0 _
  obtain ⟨e1, o1, l1, q1, m1, hT1⟩ := touch_plain hfl q e
  obtain ⟨e2, o2, l2, q2, m2, hT2⟩ := touch_plain hfl q f
  have hm0 : n0 ≤ 9223372036854775807 := by rw [hn0]; exact hr.2.1
  have HFew : Hid (∀ W : World, Calls Tryd.prog 6 #[.agg #[.slice A n0 c, .bool q], .int .i64 50] W fun u w' => u = .returned (.agg #[.slice A n c, .bool q]) ∧ Below W.heap.size W w') := Lib.hid (fun W => by
    rw [hn]
    exact few_any A n0 c 50 q W (by omega) hm0 (by decide))
  have HC1 : Hid (∀ W : World, Below w.heap.size w W → Calls Tryd.prog 7 #[.agg #[.slice A n c, .bool q], .agg #[.int .i64 e.f0, .int .i64 e.f1, .int .i64 e.f2, .int .i64 e.f3, .string e.f4, .string e.f5, .int .i64 e.f6.f0, .string e.f6.f1, .slice A8 n8 c8, .string e.f6.f3, .int .i64 e.f6.f4, .slice A11 n11 c11], .agg #[.int .i64 f.f0, .int .i64 f.f1, .int .i64 f.f2, .int .i64 f.f3, .string f.f4, .string f.f5, .int .i64 f.f6.f0, .string f.f6.f1, .slice B8 p8 d8, .string f.f6.f3, .int .i64 f.f6.f4, .slice B11 p11 d11]] W (ClashP W (clashF e1 o1 e2 o2))) := Lib.hid (by
    rw [hnl, hn8, hn11, hp8, hp11]
    exact fun W hb => clash_calls hT1 hT2 A A8 A11 B8 B11 c c8 c11 d8 d11 W (Kd.C_below hrl hb) (by omega) (he.below hb) (hf.below hb))
  have HC2 : Hid (∀ W : World, Below w.heap.size w W → Calls Tryd.prog 7 #[.agg #[.slice A n c, .bool q], .agg #[.int .i64 f.f0, .int .i64 f.f1, .int .i64 f.f2, .int .i64 f.f3, .string f.f4, .string f.f5, .int .i64 f.f6.f0, .string f.f6.f1, .slice B8 p8 d8, .string f.f6.f3, .int .i64 f.f6.f4, .slice B11 p11 d11], .agg #[.int .i64 e.f0, .int .i64 e.f1, .int .i64 e.f2, .int .i64 e.f3, .string e.f4, .string e.f5, .int .i64 e.f6.f0, .string e.f6.f1, .slice A8 n8 c8, .string e.f6.f3, .int .i64 e.f6.f4, .slice A11 n11 c11]] W (ClashP W (clashF e2 o2 e1 o1))) := Lib.hid (by
    rw [hnl, hn8, hn11, hp8, hp11]
    exact fun W hb => clash_calls hT2 hT1 A B8 B11 A8 A11 c d8 d11 c8 c11 W (Kd.C_below hrl hb) (by omega) (hf.below hb) (he.below hb))
  have HA1 : Hid (∀ (l3 : List S28) (W : World) (g : Nat), Ev (fun k => dom_All.f k l q [e, f]) (l3, q, 0, 0) → Below w.heap.size w W → W.heap[g]? = some (.cells #[.int .i64 e.f0, .int .i64 e.f1, .int .i64 e.f2, .int .i64 e.f3, .string e.f4, .string e.f5, .int .i64 e.f6.f0, .string e.f6.f1, .slice A8 n8 c8, .string e.f6.f3, .int .i64 e.f6.f4, .slice A11 n11 c11, .int .i64 f.f0, .int .i64 f.f1, .int .i64 f.f2, .int .i64 f.f3, .string f.f4, .string f.f5, .int .i64 f.f6.f0, .string f.f6.f1, .slice B8 p8 d8, .string f.f6.f3, .int .i64 f.f6.f4, .slice B11 p11 d11] 30 (0, 0)) → Calls Tryd.prog 9 #[.agg #[.slice A n c, .bool q], .slice (some ⟨g, 0, none⟩) 2 2] W fun u w' => ∃ A' n' c', u = .returned (.tuple #[.agg #[.slice A' n' c', .bool q], .int .i64 0, .int .i64 0]) ∧ (n' = l3.length ∧ n' ≤ c' ∧ Kd.C k28 w' A' l3.length l3) ∧ Below W.heap.size W w') := Lib.hid (by
    rw [hnl, hn8, hn11, hp8, hp11]
    intro l3 W g hev hb hg
    obtain ⟨k, hk⟩ := ev_at hev
    refine (dom_All.calls k A c l q (some ⟨g, 0, none⟩) 2 [e, f] l3 q 0 0 W (Kd.C_below hrl hb) (by omega) (pair_reads (he.below hb) (hf.below hb) hg) (by simp) hk).mono ?_
    rintro u w' ⟨v, rfl, hS, hb'⟩
    obtain ⟨A', c', rfl⟩ := Kd.S_slice hS
    have h1 := Kd.V_at (base := 0) (Kd.S_V (base' := 0) hS)
    exact ⟨A', _, c', rfl, ⟨rfl, h1.2.1, Kd.F_now h1.2.2⟩, hb'⟩)
  have HA2 : Hid (∀ (l3 : List S28) (W : World) (g : Nat), Ev (fun k => dom_All.f k l q [f, e]) (l3, q, 0, 0) → Below w.heap.size w W → W.heap[g]? = some (.cells #[.int .i64 f.f0, .int .i64 f.f1, .int .i64 f.f2, .int .i64 f.f3, .string f.f4, .string f.f5, .int .i64 f.f6.f0, .string f.f6.f1, .slice B8 p8 d8, .string f.f6.f3, .int .i64 f.f6.f4, .slice B11 p11 d11, .int .i64 e.f0, .int .i64 e.f1, .int .i64 e.f2, .int .i64 e.f3, .string e.f4, .string e.f5, .int .i64 e.f6.f0, .string e.f6.f1, .slice A8 n8 c8, .string e.f6.f3, .int .i64 e.f6.f4, .slice A11 n11 c11] 30 (0, 0)) → Calls Tryd.prog 9 #[.agg #[.slice A n c, .bool q], .slice (some ⟨g, 0, none⟩) 2 2] W fun u w' => ∃ A' n' c', u = .returned (.tuple #[.agg #[.slice A' n' c', .bool q], .int .i64 0, .int .i64 0]) ∧ (n' = l3.length ∧ n' ≤ c' ∧ Kd.C k28 w' A' l3.length l3) ∧ Below W.heap.size W w') := Lib.hid (by
    rw [hnl, hn8, hn11, hp8, hp11]
    intro l3 W g hev hb hg
    obtain ⟨k, hk⟩ := ev_at hev
    refine (dom_All.calls k A c l q (some ⟨g, 0, none⟩) 2 [f, e] l3 q 0 0 W (Kd.C_below hrl hb) (by omega) (pair_reads (hf.below hb) (he.below hb) hg) (by simp) hk).mono ?_
    rintro u w' ⟨v, rfl, hS, hb'⟩
    obtain ⟨A', c', rfl⟩ := Kd.S_slice hS
    have h1 := Kd.V_at (base := 0) (Kd.S_V (base' := 0) hS)
    exact ⟨A', _, c', rfl, ⟨rfl, h1.2.1, Kd.F_now h1.2.2⟩, hb'⟩)
  have HBg : Hid (∀ W : World, Calls Tryd.prog 8 #[] W fun u w' => u = .returned (.bool true) ∧ Below W.heap.size W w') := Lib.hid (fun W => begun_calls W)
  have HOr : Hid (e1 = 0 → e2 = 0 → clashB o1 o2 = clashB o2 o1 ∧ (clashB o1 o2 = false → ∃ l3, DocOk l3 ∧ Ev (fun k => dom_All.f k l q [e, f]) (l3, q, 0, 0) ∧ Ev (fun k => dom_All.f k l q [f, e]) (l3, q, 0, 0))) := Lib.hid (fun h1 h2 => by
    obtain ⟨a1, a2, a3, _⟩ := hT1.ok h1
    obtain ⟨_, b2, b3, _⟩ := hT2.ok h2
    obtain ⟨t1, ht1, ho1⟩ := hT1.top h1
    obtain ⟨t2, ht2, ho2⟩ := hT2.top h2
    refine ⟨?_, fun hcl => ?_⟩
    · unfold clashB
      rw [decide_eq_decide, meet_iff, meet_iff]
      exact ⟨fun ⟨x, h, h'⟩ => ⟨x, h', h⟩, fun ⟨x, h, h'⟩ => ⟨x, h', h⟩⟩
    · refine order_both a1 a3 a2 b3 b2 ht1 ht2 (fun i hi hi' => ?_)
      have h3 := of_decide_eq_false hcl
      exact h3 ((meet_iff _ _).2 ⟨i, by rw [ho1]; exact mem_told.2 hi, by rw [ho2]; exact mem_told.2 hi'⟩))
  have HTl : Hid (∀ w1, Below (((w.alloc (.cells #[.slice A n0 c, .bool q] 24)).alloc (.cells #[.int .i64 e.f0, .int .i64 e.f1, .int .i64 e.f2, .int .i64 e.f3, .string e.f4, .string e.f5, .int .i64 e.f6.f0, .string e.f6.f1, .slice A8 n8 c8, .string e.f6.f3, .int .i64 e.f6.f4, .slice A11 n11 c11] 30)).alloc (.cells #[.int .i64 f.f0, .int .i64 f.f1, .int .i64 f.f2, .int .i64 f.f3, .string f.f4, .string f.f5, .int .i64 f.f6.f0, .string f.f6.f1, .slice B8 p8 d8, .string f.f6.f3, .int .i64 f.f6.f4, .slice B11 p11 d11] 30)).heap.size (((w.alloc (.cells #[.slice A n0 c, .bool q] 24)).alloc (.cells #[.int .i64 e.f0, .int .i64 e.f1, .int .i64 e.f2, .int .i64 e.f3, .string e.f4, .string e.f5, .int .i64 e.f6.f0, .string e.f6.f1, .slice A8 n8 c8, .string e.f6.f3, .int .i64 e.f6.f4, .slice A11 n11 c11] 30)).alloc (.cells #[.int .i64 f.f0, .int .i64 f.f1, .int .i64 f.f2, .int .i64 f.f3, .string f.f4, .string f.f5, .int .i64 f.f6.f0, .string f.f6.f1, .slice B8 p8 d8, .string f.f6.f3, .int .i64 f.f6.f4, .slice B11 p11 d11] 30)) w1 → TW w w1 A n0 c q #[.int .i64 e.f0, .int .i64 e.f1, .int .i64 e.f2, .int .i64 e.f3, .string e.f4, .string e.f5, .int .i64 e.f6.f0, .string e.f6.f1, .slice A8 n8 c8, .string e.f6.f3, .int .i64 e.f6.f4, .slice A11 n11 c11] #[.int .i64 f.f0, .int .i64 f.f1, .int .i64 f.f2, .int .i64 f.f3, .string f.f4, .string f.f5, .int .i64 f.f6.f0, .string f.f6.f1, .slice B8 p8 d8, .string f.f6.f3, .int .i64 f.f6.f4, .slice B11 p11 d11] ∧ TW w ((w1.setCell ⟨w.heap.size, 0, none⟩ (.slice A n c)).setCell ⟨w.heap.size, 1, none⟩ (.bool q)) A n c q #[.int .i64 e.f0, .int .i64 e.f1, .int .i64 e.f2, .int .i64 e.f3, .string e.f4, .string e.f5, .int .i64 e.f6.f0, .string e.f6.f1, .slice A8 n8 c8, .string e.f6.f3, .int .i64 e.f6.f4, .slice A11 n11 c11] #[.int .i64 f.f0, .int .i64 f.f1, .int .i64 f.f2, .int .i64 f.f3, .string f.f4, .string f.f5, .int .i64 f.f6.f0, .string f.f6.f1, .slice B8 p8 d8, .string f.f6.f3, .int .i64 f.f6.f4, .slice B11 p11 d11]) := Lib.hid (fun w1 hb => tw_begin hb)
  have hncc : n ≤ c := by omega
  rw [← hn0, ← hn8, ← hn11, ← hp8, ← hp11]
  clear hl hn hrl hfl hf0 hr hc he hf hm0 hnl hn0 hn8 hn11 hp8 hp11 hT1 hT2
  generalize e.f0 = f0 at *
  generalize e.f1 = f1 at *
  generalize e.f2 = f2 at *
  generalize e.f3 = f3 at *
  generalize e.f4 = f4 at *
  generalize e.f5 = f5 at *
  generalize f.f0 = h0 at *
  generalize f.f1 = h1 at *
  generalize f.f2 = h2 at *
  generalize f.f3 = h3 at *
  generalize f.f4 = h4 at *
  generalize f.f5 = h5 at *
  generalize e.f6.f0 = g0 at *
  generalize e.f6.f1 = g1 at *
  generalize e.f6.f3 = g3 at *
  generalize e.f6.f4 = g4 at *
  generalize f.f6.f0 = j0 at *
  generalize f.f6.f1 = j1 at *
  generalize f.f6.f3 = j3 at *
  generalize f.f6.f4 = j4 at *
  go_enter Tryd.func3, Tryd.ntmps3
  go_wp2_with fail
  refine (HFew.out _).mono ?_
  rintro u w1 ⟨rfl, hb1⟩
  obtain ⟨hT1, hT2⟩ := HTl.out w1 hb1
  have HT2 := Lib.hid hT2
  have p0 : w1.cell? ⟨w.heap.size, 0, none⟩ = some (.slice A n0 c) := (blk_cell hT1.b0 0).trans rfl
  have p1 : w1.cell? ⟨w.heap.size, 1, none⟩ = some (.bool q) := (blk_cell hT1.b0 1).trans rfl
  have z0 : w1.cell? ⟨w.heap.size + 1, 0, none⟩ = some (.int .i64 f0) := (blk_cell hT1.b1 0).trans rfl
  have z1 : w1.cell? ⟨w.heap.size + 1, 1, none⟩ = some (.int .i64 f1) := (blk_cell hT1.b1 1).trans rfl
  have z2 : w1.cell? ⟨w.heap.size + 1, 2, none⟩ = some (.int .i64 f2) := (blk_cell hT1.b1 2).trans rfl
  have z3 : w1.cell? ⟨w.heap.size + 1, 3, none⟩ = some (.int .i64 f3) := (blk_cell hT1.b1 3).trans rfl
  have z4 : w1.cell? ⟨w.heap.size + 1, 4, none⟩ = some (.string f4) := (blk_cell hT1.b1 4).trans rfl
  have z5 : w1.cell? ⟨w.heap.size + 1, 5, none⟩ = some (.string f5) := (blk_cell hT1.b1 5).trans rfl
  have z6 : w1.cell? ⟨w.heap.size + 1, 6, none⟩ = some (.int .i64 g0) := (blk_cell hT1.b1 6).trans rfl
  have z7 : w1.cell? ⟨w.heap.size + 1, 7, none⟩ = some (.string g1) := (blk_cell hT1.b1 7).trans rfl
  have z8 : w1.cell? ⟨w.heap.size + 1, 8, none⟩ = some (.slice A8 n8 c8) := (blk_cell hT1.b1 8).trans rfl
  have z9 : w1.cell? ⟨w.heap.size + 1, 9, none⟩ = some (.string g3) := (blk_cell hT1.b1 9).trans rfl
  have z10 : w1.cell? ⟨w.heap.size + 1, 10, none⟩ = some (.int .i64 g4) := (blk_cell hT1.b1 10).trans rfl
  have z11 : w1.cell? ⟨w.heap.size + 1, 11, none⟩ = some (.slice A11 n11 c11) := (blk_cell hT1.b1 11).trans rfl
  have y0 : w1.cell? ⟨w.heap.size + 1 + 1, 0, none⟩ = some (.int .i64 h0) := (blk_cell hT1.b2 0).trans rfl
  have y1 : w1.cell? ⟨w.heap.size + 1 + 1, 1, none⟩ = some (.int .i64 h1) := (blk_cell hT1.b2 1).trans rfl
  have y2 : w1.cell? ⟨w.heap.size + 1 + 1, 2, none⟩ = some (.int .i64 h2) := (blk_cell hT1.b2 2).trans rfl
  have y3 : w1.cell? ⟨w.heap.size + 1 + 1, 3, none⟩ = some (.int .i64 h3) := (blk_cell hT1.b2 3).trans rfl
  have y4 : w1.cell? ⟨w.heap.size + 1 + 1, 4, none⟩ = some (.string h4) := (blk_cell hT1.b2 4).trans rfl
  have y5 : w1.cell? ⟨w.heap.size + 1 + 1, 5, none⟩ = some (.string h5) := (blk_cell hT1.b2 5).trans rfl
  have y6 : w1.cell? ⟨w.heap.size + 1 + 1, 6, none⟩ = some (.int .i64 j0) := (blk_cell hT1.b2 6).trans rfl
  have y7 : w1.cell? ⟨w.heap.size + 1 + 1, 7, none⟩ = some (.string j1) := (blk_cell hT1.b2 7).trans rfl
  have y8 : w1.cell? ⟨w.heap.size + 1 + 1, 8, none⟩ = some (.slice B8 p8 d8) := (blk_cell hT1.b2 8).trans rfl
  have y9 : w1.cell? ⟨w.heap.size + 1 + 1, 9, none⟩ = some (.string j3) := (blk_cell hT1.b2 9).trans rfl
  have y10 : w1.cell? ⟨w.heap.size + 1 + 1, 10, none⟩ = some (.int .i64 j4) := (blk_cell hT1.b2 10).trans rfl
  have y11 : w1.cell? ⟨w.heap.size + 1 + 1, 11, none⟩ = some (.slice B11 p11 d11) := (blk_cell hT1.b2 11).trans rfl
  have hs0 : w.heap.size < w1.heap.size := blk_lt hT1.b0
  have hs1 : w.heap.size + 1 < w1.heap.size := blk_lt hT1.b1
  have hs2 : w.heap.size + 1 + 1 < w1.heap.size := blk_lt hT1.b2
  have p2 : w1.frozen? ⟨w.heap.size, 0, none⟩ = false := blk_frozen hT1.b0 0
  have p3 : w1.frozen? ⟨w.heap.size, 1, none⟩ = false := blk_frozen hT1.b0 1
  clear hb1 hT1 hT2 HTl HFew
  go_wp2_with fail
  refine (HC1.out _ HT2.out.below).mono ?_
  rintro u w2 ⟨rfl, hb2⟩
  have hT3 := HT2.out.on hb2
  have HT3 := Lib.hid hT3
  clear p0 p1 z0 z1 z2 z3 z4 z5 z6 z7 z8 z9 z10 z11 y0 y1 y2 y3 y4 y5 y6 y7 y8 y9 y10 y11 hs0 hs1 hs2 p2 p3
  have p0 : w2.cell? ⟨w.heap.size, 0, none⟩ = some (.slice A n c) := (blk_cell hT3.b0 0).trans rfl
  have p1 : w2.cell? ⟨w.heap.size, 1, none⟩ = some (.bool q) := (blk_cell hT3.b0 1).trans rfl
  have z0 : w2.cell? ⟨w.heap.size + 1, 0, none⟩ = some (.int .i64 f0) := (blk_cell hT3.b1 0).trans rfl
  have z1 : w2.cell? ⟨w.heap.size + 1, 1, none⟩ = some (.int .i64 f1) := (blk_cell hT3.b1 1).trans rfl
  have z2 : w2.cell? ⟨w.heap.size + 1, 2, none⟩ = some (.int .i64 f2) := (blk_cell hT3.b1 2).trans rfl
  have z3 : w2.cell? ⟨w.heap.size + 1, 3, none⟩ = some (.int .i64 f3) := (blk_cell hT3.b1 3).trans rfl
  have z4 : w2.cell? ⟨w.heap.size + 1, 4, none⟩ = some (.string f4) := (blk_cell hT3.b1 4).trans rfl
  have z5 : w2.cell? ⟨w.heap.size + 1, 5, none⟩ = some (.string f5) := (blk_cell hT3.b1 5).trans rfl
  have z6 : w2.cell? ⟨w.heap.size + 1, 6, none⟩ = some (.int .i64 g0) := (blk_cell hT3.b1 6).trans rfl
  have z7 : w2.cell? ⟨w.heap.size + 1, 7, none⟩ = some (.string g1) := (blk_cell hT3.b1 7).trans rfl
  have z8 : w2.cell? ⟨w.heap.size + 1, 8, none⟩ = some (.slice A8 n8 c8) := (blk_cell hT3.b1 8).trans rfl
  have z9 : w2.cell? ⟨w.heap.size + 1, 9, none⟩ = some (.string g3) := (blk_cell hT3.b1 9).trans rfl
  have z10 : w2.cell? ⟨w.heap.size + 1, 10, none⟩ = some (.int .i64 g4) := (blk_cell hT3.b1 10).trans rfl
  have z11 : w2.cell? ⟨w.heap.size + 1, 11, none⟩ = some (.slice A11 n11 c11) := (blk_cell hT3.b1 11).trans rfl
  have y0 : w2.cell? ⟨w.heap.size + 1 + 1, 0, none⟩ = some (.int .i64 h0) := (blk_cell hT3.b2 0).trans rfl
  have y1 : w2.cell? ⟨w.heap.size + 1 + 1, 1, none⟩ = some (.int .i64 h1) := (blk_cell hT3.b2 1).trans rfl
  have y2 : w2.cell? ⟨w.heap.size + 1 + 1, 2, none⟩ = some (.int .i64 h2) := (blk_cell hT3.b2 2).trans rfl
  have y3 : w2.cell? ⟨w.heap.size + 1 + 1, 3, none⟩ = some (.int .i64 h3) := (blk_cell hT3.b2 3).trans rfl
  have y4 : w2.cell? ⟨w.heap.size + 1 + 1, 4, none⟩ = some (.string h4) := (blk_cell hT3.b2 4).trans rfl
  have y5 : w2.cell? ⟨w.heap.size + 1 + 1, 5, none⟩ = some (.string h5) := (blk_cell hT3.b2 5).trans rfl
  have y6 : w2.cell? ⟨w.heap.size + 1 + 1, 6, none⟩ = some (.int .i64 j0) := (blk_cell hT3.b2 6).trans rfl
  have y7 : w2.cell? ⟨w.heap.size + 1 + 1, 7, none⟩ = some (.string j1) := (blk_cell hT3.b2 7).trans rfl
  have y8 : w2.cell? ⟨w.heap.size + 1 + 1, 8, none⟩ = some (.slice B8 p8 d8) := (blk_cell hT3.b2 8).trans rfl
  have y9 : w2.cell? ⟨w.heap.size + 1 + 1, 9, none⟩ = some (.string j3) := (blk_cell hT3.b2 9).trans rfl
  have y10 : w2.cell? ⟨w.heap.size + 1 + 1, 10, none⟩ = some (.int .i64 j4) := (blk_cell hT3.b2 10).trans rfl
  have y11 : w2.cell? ⟨w.heap.size + 1 + 1, 11, none⟩ = some (.slice B11 p11 d11) := (blk_cell hT3.b2 11).trans rfl
  have hs0 : w.heap.size < w2.heap.size := blk_lt hT3.b0
  have hs1 : w.heap.size + 1 < w2.heap.size := blk_lt hT3.b1
  have hs2 : w.heap.size + 1 + 1 < w2.heap.size := blk_lt hT3.b2
  clear hT3 hb2 HC1 HT2
  by_cases h10 : e1 = 0
  · by_cases h20 : e2 = 0
    · subst h10 h20
      obtain ⟨hsy, hor⟩ := HOr.out rfl rfl
      have HV1 : Hid (clashF 0 o1 0 o2 = (clashB o1 o2, 0)) := Lib.hid rfl
      have HV2 : Hid (clashF 0 o2 0 o1 = (clashB o1 o2, 0)) := Lib.hid (by rw [hsy]; rfl)
      have HOo := Lib.hid hor
      clear hsy hor HOr
      rw [HV1.out]
      rw [HV2.out] at HC2
      generalize clashB o1 o2 = cb at *
      go_wp2_with fail
      refine (HC2.out _ HT3.out.below).mono ?_
      rintro u w3 ⟨rfl, hb3⟩
      have hT4 := HT3.out.on hb3
      have HT4 := Lib.hid hT4
      clear p0 p1 z0 z1 z2 z3 z4 z5 z6 z7 z8 z9 z10 z11 y0 y1 y2 y3 y4 y5 y6 y7 y8 y9 y10 y11 hs0 hs1 hs2
      have p0 : w3.cell? ⟨w.heap.size, 0, none⟩ = some (.slice A n c) := (blk_cell hT4.b0 0).trans rfl
      have p1 : w3.cell? ⟨w.heap.size, 1, none⟩ = some (.bool q) := (blk_cell hT4.b0 1).trans rfl
      have z0 : w3.cell? ⟨w.heap.size + 1, 0, none⟩ = some (.int .i64 f0) := (blk_cell hT4.b1 0).trans rfl
      have z1 : w3.cell? ⟨w.heap.size + 1, 1, none⟩ = some (.int .i64 f1) := (blk_cell hT4.b1 1).trans rfl
      have z2 : w3.cell? ⟨w.heap.size + 1, 2, none⟩ = some (.int .i64 f2) := (blk_cell hT4.b1 2).trans rfl
      have z3 : w3.cell? ⟨w.heap.size + 1, 3, none⟩ = some (.int .i64 f3) := (blk_cell hT4.b1 3).trans rfl
      have z4 : w3.cell? ⟨w.heap.size + 1, 4, none⟩ = some (.string f4) := (blk_cell hT4.b1 4).trans rfl
      have z5 : w3.cell? ⟨w.heap.size + 1, 5, none⟩ = some (.string f5) := (blk_cell hT4.b1 5).trans rfl
      have z6 : w3.cell? ⟨w.heap.size + 1, 6, none⟩ = some (.int .i64 g0) := (blk_cell hT4.b1 6).trans rfl
      have z7 : w3.cell? ⟨w.heap.size + 1, 7, none⟩ = some (.string g1) := (blk_cell hT4.b1 7).trans rfl
      have z8 : w3.cell? ⟨w.heap.size + 1, 8, none⟩ = some (.slice A8 n8 c8) := (blk_cell hT4.b1 8).trans rfl
      have z9 : w3.cell? ⟨w.heap.size + 1, 9, none⟩ = some (.string g3) := (blk_cell hT4.b1 9).trans rfl
      have z10 : w3.cell? ⟨w.heap.size + 1, 10, none⟩ = some (.int .i64 g4) := (blk_cell hT4.b1 10).trans rfl
      have z11 : w3.cell? ⟨w.heap.size + 1, 11, none⟩ = some (.slice A11 n11 c11) := (blk_cell hT4.b1 11).trans rfl
      have y0 : w3.cell? ⟨w.heap.size + 1 + 1, 0, none⟩ = some (.int .i64 h0) := (blk_cell hT4.b2 0).trans rfl
      have y1 : w3.cell? ⟨w.heap.size + 1 + 1, 1, none⟩ = some (.int .i64 h1) := (blk_cell hT4.b2 1).trans rfl
      have y2 : w3.cell? ⟨w.heap.size + 1 + 1, 2, none⟩ = some (.int .i64 h2) := (blk_cell hT4.b2 2).trans rfl
      have y3 : w3.cell? ⟨w.heap.size + 1 + 1, 3, none⟩ = some (.int .i64 h3) := (blk_cell hT4.b2 3).trans rfl
      have y4 : w3.cell? ⟨w.heap.size + 1 + 1, 4, none⟩ = some (.string h4) := (blk_cell hT4.b2 4).trans rfl
      have y5 : w3.cell? ⟨w.heap.size + 1 + 1, 5, none⟩ = some (.string h5) := (blk_cell hT4.b2 5).trans rfl
      have y6 : w3.cell? ⟨w.heap.size + 1 + 1, 6, none⟩ = some (.int .i64 j0) := (blk_cell hT4.b2 6).trans rfl
      have y7 : w3.cell? ⟨w.heap.size + 1 + 1, 7, none⟩ = some (.string j1) := (blk_cell hT4.b2 7).trans rfl
      have y8 : w3.cell? ⟨w.heap.size + 1 + 1, 8, none⟩ = some (.slice B8 p8 d8) := (blk_cell hT4.b2 8).trans rfl
      have y9 : w3.cell? ⟨w.heap.size + 1 + 1, 9, none⟩ = some (.string j3) := (blk_cell hT4.b2 9).trans rfl
      have y10 : w3.cell? ⟨w.heap.size + 1 + 1, 10, none⟩ = some (.int .i64 j4) := (blk_cell hT4.b2 10).trans rfl
      have y11 : w3.cell? ⟨w.heap.size + 1 + 1, 11, none⟩ = some (.slice B11 p11 d11) := (blk_cell hT4.b2 11).trans rfl
      have hs0 : w.heap.size < w3.heap.size := blk_lt hT4.b0
      have hs1 : w.heap.size + 1 < w3.heap.size := blk_lt hT4.b1
      have hs2 : w.heap.size + 1 + 1 < w3.heap.size := blk_lt hT4.b2
      clear hT4 hb3 HC2 HT3 HV1 HV2
      cases cb with
      | true =>
        go_wp2_with fail
        refine (HBg.out _).mono ?_
        rintro u w4 ⟨rfl, hb4⟩
        have HB4 := Lib.hid (HT4.out.below.trans (hb4.mono HT4.out.below.size))
        clear hb4 HT4
        go_wp2_with fail
        go_ret
        exact ⟨rfl, HB4.out⟩
      | false =>
        obtain ⟨l3, hd3, hv1, hv2⟩ := HOo.out rfl
        have HD3 := Lib.hid hd3
        have HA1' := Lib.hid (fun W g => HA1.out l3 W g hv1)
        have HA2' := Lib.hid (fun W g => HA2.out l3 W g hv2)
        clear hd3 hv1 hv2 HOo HA1 HA2
        go_wp2_with fail
        refine (HA1'.out _ w3.heap.size (by (repeat (first | refine below_alloc ?_ _ | refine below_drew ?_ | refine Below.setCell ?_ (by simp) _)); exact HT4.out.below) (blk_new w3 _)).mono ?_
        rintro u w4 ⟨A1, n1, c1, rfl, hR1, hb4⟩
        have hT5 : TW w (w4.alloc (.cells #[.slice A1 n1 c1, .bool q] 24)) A n c q #[.int .i64 f0, .int .i64 f1, .int .i64 f2, .int .i64 f3, .string f4, .string f5, .int .i64 g0, .string g1, .slice A8 n8 c8, .string g3, .int .i64 g4, .slice A11 n11 c11] #[.int .i64 h0, .int .i64 h1, .int .i64 h2, .int .i64 h3, .string h4, .string h5, .int .i64 j0, .string j1, .slice B8 p8 d8, .string j3, .int .i64 j4, .slice B11 p11 d11] := (HT4.out.on (((Below.refl _ w3).alloc (Nat.le_refl _) _).trans (hb4.mono (by simp)))).on ((Below.refl _ w4).alloc (Nat.le_refl _) _)
        have HX1 : Hid (BX (w4.alloc (.cells #[.slice A1 n1 c1, .bool q] 24)) w4.heap.size A1 n1 c1 q l3) := Lib.hid (BX.of hR1)
        have hx1 : w4.heap.size < (w4.alloc (.cells #[.slice A1 n1 c1, .bool q] 24)).heap.size := by simp
        clear p0 p1 z0 z1 z2 z3 z4 z5 z6 z7 z8 z9 z10 z11 y0 y1 y2 y3 y4 y5 y6 y7 y8 y9 y10 y11 hs0 hs1 hs2 HA1' HT4 hR1
        go_upto_region 11 with fail
        generalize w4.alloc (.cells #[.slice A1 n1 c1, .bool q] 24) = W5 at hT5 HX1 hx1 ⊢
        generalize w4.heap.size = gx at HX1 hx1 ⊢
        have HT5 := Lib.hid hT5
        have p0 : W5.cell? ⟨w.heap.size, 0, none⟩ = some (.slice A n c) := (blk_cell hT5.b0 0).trans rfl
        have p1 : W5.cell? ⟨w.heap.size, 1, none⟩ = some (.bool q) := (blk_cell hT5.b0 1).trans rfl
        have z0 : W5.cell? ⟨w.heap.size + 1, 0, none⟩ = some (.int .i64 f0) := (blk_cell hT5.b1 0).trans rfl
        have z1 : W5.cell? ⟨w.heap.size + 1, 1, none⟩ = some (.int .i64 f1) := (blk_cell hT5.b1 1).trans rfl
        have z2 : W5.cell? ⟨w.heap.size + 1, 2, none⟩ = some (.int .i64 f2) := (blk_cell hT5.b1 2).trans rfl
        have z3 : W5.cell? ⟨w.heap.size + 1, 3, none⟩ = some (.int .i64 f3) := (blk_cell hT5.b1 3).trans rfl
        have z4 : W5.cell? ⟨w.heap.size + 1, 4, none⟩ = some (.string f4) := (blk_cell hT5.b1 4).trans rfl
        have z5 : W5.cell? ⟨w.heap.size + 1, 5, none⟩ = some (.string f5) := (blk_cell hT5.b1 5).trans rfl
        have z6 : W5.cell? ⟨w.heap.size + 1, 6, none⟩ = some (.int .i64 g0) := (blk_cell hT5.b1 6).trans rfl
        have z7 : W5.cell? ⟨w.heap.size + 1, 7, none⟩ = some (.string g1) := (blk_cell hT5.b1 7).trans rfl
        have z8 : W5.cell? ⟨w.heap.size + 1, 8, none⟩ = some (.slice A8 n8 c8) := (blk_cell hT5.b1 8).trans rfl
        have z9 : W5.cell? ⟨w.heap.size + 1, 9, none⟩ = some (.string g3) := (blk_cell hT5.b1 9).trans rfl
        have z10 : W5.cell? ⟨w.heap.size + 1, 10, none⟩ = some (.int .i64 g4) := (blk_cell hT5.b1 10).trans rfl
        have z11 : W5.cell? ⟨w.heap.size + 1, 11, none⟩ = some (.slice A11 n11 c11) := (blk_cell hT5.b1 11).trans rfl
        have y0 : W5.cell? ⟨w.heap.size + 1 + 1, 0, none⟩ = some (.int .i64 h0) := (blk_cell hT5.b2 0).trans rfl
        have y1 : W5.cell? ⟨w.heap.size + 1 + 1, 1, none⟩ = some (.int .i64 h1) := (blk_cell hT5.b2 1).trans rfl
        have y2 : W5.cell? ⟨w.heap.size + 1 + 1, 2, none⟩ = some (.int .i64 h2) := (blk_cell hT5.b2 2).trans rfl
        have y3 : W5.cell? ⟨w.heap.size + 1 + 1, 3, none⟩ = some (.int .i64 h3) := (blk_cell hT5.b2 3).trans rfl
        have y4 : W5.cell? ⟨w.heap.size + 1 + 1, 4, none⟩ = some (.string h4) := (blk_cell hT5.b2 4).trans rfl
        have y5 : W5.cell? ⟨w.heap.size + 1 + 1, 5, none⟩ = some (.string h5) := (blk_cell hT5.b2 5).trans rfl
        have y6 : W5.cell? ⟨w.heap.size + 1 + 1, 6, none⟩ = some (.int .i64 j0) := (blk_cell hT5.b2 6).trans rfl
        have y7 : W5.cell? ⟨w.heap.size + 1 + 1, 7, none⟩ = some (.string j1) := (blk_cell hT5.b2 7).trans rfl
        have y8 : W5.cell? ⟨w.heap.size + 1 + 1, 8, none⟩ = some (.slice B8 p8 d8) := (blk_cell hT5.b2 8).trans rfl
        have y9 : W5.cell? ⟨w.heap.size + 1 + 1, 9, none⟩ = some (.string j3) := (blk_cell hT5.b2 9).trans rfl
        have y10 : W5.cell? ⟨w.heap.size + 1 + 1, 10, none⟩ = some (.int .i64 j4) := (blk_cell hT5.b2 10).trans rfl
        have y11 : W5.cell? ⟨w.heap.size + 1 + 1, 11, none⟩ = some (.slice B11 p11 d11) := (blk_cell hT5.b2 11).trans rfl
        have hs0 : w.heap.size < W5.heap.size := blk_lt hT5.b0
        have hs1 : w.heap.size + 1 < W5.heap.size := blk_lt hT5.b1
        have hs2 : w.heap.size + 1 + 1 < W5.heap.size := blk_lt hT5.b2
        clear hT5
        go_wp2_with fail
        refine (HA2'.out _ W5.heap.size (by (repeat (first | refine below_alloc ?_ _ | refine below_drew ?_ | refine Below.setCell ?_ (by simp) _)); exact HT5.out.below) (blk_new W5 _)).mono ?_
        rintro u w6 ⟨A2, n2, c2, rfl, hR2, hb6⟩
        have hb56 : Below W5.heap.size W5 w6 := ((Below.refl _ W5).alloc (Nat.le_refl _) _).trans (hb6.mono (by simp))
        have hb57 : Below W5.heap.size W5 (w6.alloc (.cells #[.slice A2 n2 c2, .bool q] 24)) := below_alloc hb56 _
        have HX2 : Hid (BX (w6.alloc (.cells #[.slice A2 n2 c2, .bool q] 24)) w6.heap.size A2 n2 c2 q l3) := Lib.hid (BX.of hR2)
        have HX3 := Lib.hid (HX1.out.on hb57)
        have HB7 := Lib.hid (HT5.out.below.trans (hb57.mono HT5.out.below.size))
        clear p0 p1 z0 z1 z2 z3 z4 z5 z6 z7 z8 z9 z10 z11 y0 y1 y2 y3 y4 y5 y6 y7 y8 y9 y10 y11 hs0 hs1 hs2 HA2' HT5 hR2 hb6 hb56 hb57 HX1 hx1
        go_upto_region 12 with fail
        generalize w6.alloc (.cells #[.slice A2 n2 c2, .bool q] 24) = W7 at HX2 HX3 HB7 ⊢
        generalize w6.heap.size = gy at HX2 ⊢
        go_wp2_with fail
        refine (HBg.out _).mono ?_
        rintro u w8 ⟨rfl, hb8⟩
        have hX4 := HX3.out.on hb8
        have hX5 := HX2.out.on hb8
        have x0 : w8.cell? ⟨gx, 0, none⟩ = some (.slice A1 n1 c1) := (blk_cell hX4.blk 0).trans rfl
        have x1 : w8.cell? ⟨gx, 1, none⟩ = some (.bool q) := (blk_cell hX4.blk 1).trans rfl
        have x2 : w8.cell? ⟨gy, 0, none⟩ = some (.slice A2 n2 c2) := (blk_cell hX5.blk 0).trans rfl
        have x3 : w8.cell? ⟨gy, 1, none⟩ = some (.bool q) := (blk_cell hX5.blk 1).trans rfl
        have HB8 := Lib.hid (HB7.out.trans (hb8.mono HB7.out.size))
        have HSm : Hid (∀ W : World, Below w8.heap.size w8 W → Calls Tryd.prog 10 #[.agg #[.slice A1 n1 c1, .bool q], .agg #[.slice A2 n2 c2, .bool q]] W fun u w' => u = .returned (.bool true) ∧ Below W.heap.size W w') := Lib.hid (fun W hb => by
          obtain ⟨r1, r2, r3⟩ := (hX4.on hb).rd
          obtain ⟨s1, s2, s3⟩ := (hX5.on hb).rd
          rw [r1, s1]
          exact Same.sameDoc_calls l3 q A1 A2 c1 c2 W r3 (by omega) s3 (by omega) (short_doc HD3.out))
        clear hb8 hX4 hX5 HX2 HX3 HB7
        go_wp2_with fail
        refine (HSm.out _ (Below.refl _ _)).mono ?_
        rintro u w9 ⟨rfl, hb9⟩
        have HB9 := Lib.hid (HB8.out.trans (hb9.mono HB8.out.size))
        clear hb9 HSm
        go_wp2_with fail
        go_ret
        exact ⟨rfl, HB9.out⟩
    · have q0 : (e2 == 0) = false := by simpa using h20
      have q1 : (e2 != 0) = true := by simpa using h20
      subst h10
      have HV1 : Hid (clashF 0 o1 e2 o2 = (false, e2)) := Lib.hid (by unfold clashF; rw [if_neg (by decide), if_pos h20])
      have HV2 : Hid (clashF e2 o2 0 o1 = (false, e2)) := Lib.hid (by unfold clashF; rw [if_pos h20])
      clear h20 HOr HA1 HA2
      rw [HV1.out]
      rw [HV2.out] at HC2
      go_wp2_with fail
      refine (HC2.out _ HT3.out.below).mono ?_
      rintro u w3 ⟨rfl, hb3⟩
      have HB3 := Lib.hid (HT3.out.below.trans (hb3.mono HT3.out.below.size))
      clear p0 p1 z0 z1 z2 z3 z4 z5 z6 z7 z8 z9 z10 z11 y0 y1 y2 y3 y4 y5 y6 y7 y8 y9 y10 y11 hs0 hs1 hs2 hb3
      go_wp2_with fail
      refine (HBg.out _).mono ?_
      rintro u w4 ⟨rfl, hb4⟩
      have HB4 := Lib.hid (HB3.out.trans (hb4.mono HB3.out.size))
      clear hb4
      go_wp2_with fail
      go_ret
      exact ⟨rfl, HB4.out⟩
  · have q0 : (e1 == 0) = false := by simpa using h10
    have q1 : (e1 != 0) = true := by simpa using h10
    have HV1 : Hid (clashF e1 o1 e2 o2 = (false, e1)) := Lib.hid (by unfold clashF; rw [if_pos h10])
    have HV2 : Hid ((clashF e2 o2 e1 o1).1 = false) := Lib.hid (by unfold clashF; split <;> first | rfl | rw [if_pos h10])
    obtain ⟨h2, hh2⟩ : ∃ h2, h2 = (clashF e2 o2 e1 o1).2 := ⟨_, rfl⟩
    have HV3 : Hid (clashF e2 o2 e1 o1 = (false, h2)) := Lib.hid (by rw [hh2, ← HV2.out])
    clear h10 HOr HA1 HA2 hh2 HV2
    rw [HV1.out]
    rw [HV3.out] at HC2
    go_wp2_with fail
    refine (HC2.out _ HT3.out.below).mono ?_
    rintro u w3 ⟨rfl, hb3⟩
    have HB3 := Lib.hid (HT3.out.below.trans (hb3.mono HT3.out.below.size))
    clear p0 p1 z0 z1 z2 z3 z4 z5 z6 z7 z8 z9 z10 z11 y0 y1 y2 y3 y4 y5 y6 y7 y8 y9 y10 y11 hs0 hs1 hs2 hb3
    go_wp2_with fail
    refine (HBg.out _).mono ?_
    rintro u w4 ⟨rfl, hb4⟩
    have HB4 := Lib.hid (HB3.out.trans (hb4.mono HB3.out.size))
    clear hb4
    go_wp2_with fail
    go_ret
    exact ⟨rfl, HB4.out⟩
end Go.Proofs.YthfalaabfgpjmaaDoor.ApA
