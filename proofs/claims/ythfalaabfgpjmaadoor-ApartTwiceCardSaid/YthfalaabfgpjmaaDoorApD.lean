/- Package apart: Clash. -/
import Derived.Test.YthfalaabfgpjmaaDoorApC
namespace Go.Proofs.YthfalaabfgpjmaaDoor.ApA
open Go.RowKit Go.Proofs.YthfalaabfgpjmaaDoorW.PrintWords Go.Proofs.YthfalaabfgpjmaaDoorW.PrintLast Go.Proofs.YthfalaabfgpjmaaDoorW.PrintMore Go.Proofs.YthfalaabfgpjmaaDoor.PAP Go.Proofs.YthfalaabfgpjmaaDoor.DocP Go.Proofs.YthfalaabfgpjmaaDoor.DocC
attribute [local go_sem] max2_int min2_int max_two min_two max_three min_three max_four min_four
set_option linter.unusedVariables false
set_option linter.unusedSimpArgs false
/-- Does x stand in b? -/
def inB (b : List Int) (x : Int) : Bool := b.contains x
theorem ix_in (b : List Int) (x : Int) : decide (ix b x ≥ 0) = inB b x := by
  unfold ix inB
  cases h : b.findIdx? (· == x) with
  | none =>
    have h1 : ∀ y ∈ b, (y == x) = false := by simpa [List.findIdx?_eq_none_iff] using h
    have h2 : b.contains x = false := by
      cases e : b.contains x with
      | false => rfl
      | true =>
        have := h1 x (by simpa using e)
        simp at this
    rw [h2]
    decide
  | some i =>
    obtain ⟨hi, h1, _⟩ := List.findIdx?_eq_some_iff_getElem.1 h
    have h2 : b.contains x = true := by
      have : b[i] = x := by simpa using h1
      rw [← this]
      simp
    rw [h2]
    exact decide_eq_true (by show (i : Int) ≥ 0; omega)
theorem meet_iff (a b : List Int) : 0 ≤ idxF (inB b) a ↔ ∃ x, x ∈ a ∧ x ∈ b := by
  have h := idx_neg (p := inB b) (xs := a)
  constructor
  · intro h0
    by_cases hn : ∀ x ∈ a, inB b x = false
    · have := h.2 hn; omega
    · obtain ⟨x, hx⟩ := Classical.not_forall.1 hn
      obtain ⟨h1, h2⟩ := Classical.not_imp.1 hx
      exact ⟨x, h1, by simpa [inB] using h2⟩
  · rintro ⟨x, h1, h2⟩
    by_cases h0 : idxF (inB b) a < 0
    · have h3 := h.1 h0 x h1
      have h4 : inB b x = true := by simpa [inB] using h2
      rw [h4] at h3
      cases h3
    · omega
/-- A row of numbers that is read. -/
def RdI (W : World) (A : Option Addr) (n c : Nat) (xs : List Int) : Prop := n = xs.length ∧ n ≤ c ∧ Kd.C (Kd.int .i64) W A n xs
theorem RdI.below {W W' : World} {A : Option Addr} {n c : Nat} {xs : List Int} (h : RdI W A n c xs) (hb : Below W.heap.size W W') : RdI W' A n c xs := ⟨h.1, h.2.1, Kd.C_below h.2.2 hb⟩
theorem RdI.of {W : World} {base : Nat} {v : Value} {xs : List Int} (h : Kd.R (Kd.int .i64) 3 W base (fun _ => True) v xs) : ∃ A c, v = .slice A xs.length c ∧ RdI W A xs.length c xs := by
  obtain ⟨A, c, rfl⟩ := own_slice (Kd.own_of_R h)
  have h1 := Kd.V_at (base := base) (Kd.R_V h)
  exact ⟨A, c, rfl, rfl, h1.2.1, Kd.F_now h1.2.2⟩
theorem touch_reads {l l2 : List S28} {q q2 : Bool} {e : S30} {er made : Int} {o : List Int} (h : TouchR l q e er o l2 q2 made) (A A8 A11 : Option Addr) (c c8 c11 : Nat) (w : World) (hr : Kd.C k28 w A l.length l) (hc : l.length ≤ c) (he : ReadsE w e A8 c8 A11 c11) :
    Calls Tryd.prog 13 #[.agg #[.slice A l.length c, .bool q], .agg #[.int .i64 e.f0, .int .i64 e.f1, .int .i64 e.f2, .int .i64 e.f3, .string e.f4, .string e.f5, .int .i64 e.f6.f0, .string e.f6.f1, .slice A8 e.f6.f2.length c8, .string e.f6.f3, .int .i64 e.f6.f4, .slice A11 e.f6.f5.length c11]] w fun u w' => ∃ A' n' c', u = .returned (.tuple #[.slice A' n' c', .int .i64 er]) ∧ RdI w' A' n' c' o ∧ Below w.heap.size w w' := by
  refine (touch_calls h A A8 A11 c c8 c11 w hr hc he).mono ?_
  rintro u w' ⟨v, rfl, h1, h2⟩
  obtain ⟨A', c', rfl, h3⟩ := RdI.of h1
  exact ⟨A', _, c', rfl, h3, h2⟩
set_option maxHeartbeats 1000000 in
theorem clash1_one (x : Int) (A : Option Addr) (n c : Nat) (b : List Int) (g : Nat) (w : World) (hc : w.cell? ⟨g, 0, none⟩ = some (.slice A n c)) (hr : RdI w A n c b) :
    Calls Tryd.prog 16 #[.int .i64 x, .pointer (some ⟨g, 0, none⟩)] w fun e w' => e = .returned (.bool (inB b x)) ∧ Below w.heap.size w w' := by
  have hm := hr.2.2.2.1
  obtain ⟨kk, hkk⟩ : ∃ kk, slices_Contains_int_int.f kk b x = some (inB b x) := by
    have h1 := jx_ev b x (by have := hr.1; omega)
    obtain ⟨kk, hkk⟩ := ev_at h1
    exact ⟨kk, by unfold slices_Contains_int_int.f; rw [hkk, Option.bind_some, ix_in]⟩
  have HC : Hid (Calls Tryd.prog 17 #[.slice A n c, .int .i64 x] w fun e w' => e = .returned (.bool (inB b x)) ∧ Below w.heap.size w w') := Lib.hid (by
    obtain ⟨rfl, h2, h3⟩ := hr
    exact (slices_Contains_int_int.calls kk A c b x _ w h3 h2 hkk).mono (fun e w' h => ⟨h.1, h.2.below⟩))
  clear hr hm hkk
  go_enter Tryd.func16, Tryd.ntmps16
  go_wp2_with fail
  refine HC.out.mono ?_
  rintro u w' ⟨rfl, hb⟩
  have HB := Lib.hid hb
  clear hb
  go_wp2_with fail
  go_ret
  exact ⟨rfl, HB.out⟩
set_option maxHeartbeats 2000000 in
theorem clash1_index (A : Option Addr) (n c : Nat) (xs : List Int) (A' : Option Addr) (n' c' : Nat) (b : List Int) (g : Nat) (w : World) (hr : RdI w A n c xs) (hcb : w.cell? ⟨g, 0, none⟩ = some (.slice A' n' c')) (hrb : RdI w A' n' c' b) :
    Calls Tryd.prog 26 #[.slice A n c, .func (.func 16) #[] #[.pointer (some ⟨g, 0, none⟩)]] w fun e w' => e = .returned (.int .i64 (idxF (inB b) xs)) ∧ Below w.heap.size w w' := by
  have hnm : n ≤ 9223372036854775807 := hr.2.2.2.1
  have HC : Hid (∀ (x : Int) (W : World), Below w.heap.size w W → Calls Tryd.prog 16 #[.int .i64 x, .pointer (some ⟨g, 0, none⟩)] W fun e w' => e = .returned (.bool (inB b x)) ∧ Below W.heap.size W w') := Lib.hid (fun x W hb => clash1_one x A' n' c' b g W (pw_cell_below hb hcb) (hrb.below hb))
  have HR := Lib.hid hr
  clear hr hcb hrb
  go_enter Tryd.func26, Tryd.ntmps26
  go_wp2_with fail
  go_loopw [8] (fun i wr => ∃ k : Nat, k ≤ n ∧ i = .int .i64 k ∧ Hid (∀ j, j < k → inB b (xs.getD j 0) = false) ∧ Hid (Below w.heap.size w wr))
    (fun i _ => n - (intOf i).toNat)
  case atStart => exact ⟨0, Nat.zero_le _, rfl, Lib.hid (fun j h => absurd h (Nat.not_lt_zero _)), Lib.hid (Below.refl _ _)⟩
  case round =>
    obtain ⟨k, hk, rfl, HN, HB⟩ := hrel
    by_cases hlt : k < n
    · have hnl := HR.out.1
      obtain ⟨ad, cs, rfl, hcl, hK, hcc⟩ := Kd.C_get HR.out.2.2 0 (k : Int) (by omega) (by omega)
      rw [Int.toNat_natCast] at hK hcc
      have d0 : wr.cell? (ad.add k) = some (.int .i64 (xs.getD k 0)) := by
        have hcs : cs = [.int .i64 (xs.getD k 0)] := hK
        subst hcs
        have := hcc 0 _ rfl
        rw [show k * (Kd.int .i64).sz + 0 = k from by show k * 1 + 0 = k; omega] at this
        exact pw_cell_below HB.out this
      clear hK hcc hcl
      have hget : ∀ h : k < xs.length, xs[k] = xs.getD k 0 := fun h => by rw [List.getD_eq_getElem?_getD, List.getElem?_eq_getElem h]; rfl
      have HX : Hid (∀ h : k < xs.length, xs[k] = xs.getD k 0) := Lib.hid hget
      have HY : Hid (xs.getD k 0 = xs.getD k 0) := Lib.hid rfl
      obtain ⟨x, hx⟩ : ∃ x, x = xs.getD k 0 := ⟨_, rfl⟩
      rw [← hx] at d0
      have HXx := Lib.hid hx
      clear hx hget hnl HY
      go_wp2_with fail
      refine (HC.out x _ HB.out).mono ?_
      rintro e w1 ⟨rfl, hb⟩
      have HB1 := Lib.hid (HB.out.trans (hb.mono HB.out.size))
      clear hb d0
      by_cases hbad : inB b x = true
      · have HE : Hid (idxF (inB b) xs = k) := Lib.hid (by
          have hl := HR.out.1
          refine idxF_some ?_
          rw [List.findIdx?_eq_some_iff_getElem]
          refine ⟨by omega, ?_, fun j hj => ?_⟩
          · show inB b xs[k] = true
            rw [HX.out (by omega), ← HXx.out]; exact hbad
          · have := HN.out j hj
            rw [List.getD_eq_getElem?_getD, List.getElem?_eq_getElem (by omega)] at this
            simpa using this)
        rw [hbad]
        go_wp2_with fail
        go_ret
        exact ⟨by rw [HE.out]; rfl, HB1.out⟩
      · have hbad : inB b x = false := by simpa using hbad
        have HN1 : Hid (∀ j, j < k + 1 → inB b (xs.getD j 0) = false) := Lib.hid (fun j hj => by
          by_cases e : j = k
          · rw [e, ← HXx.out]; exact hbad
          · exact HN.out j (by omega))
        rw [hbad]
        go_wp2_with fail
        go_roundw
        case rel => exact ⟨k + 1, by omega, by go_num, HN1, HB1⟩
        case measure => simp [intOf]; omega
    · obtain rfl : k = n := by omega
      have HE : Hid (idxF (inB b) xs = -1) := Lib.hid (by
        have hl := HR.out.1
        refine idxF_none ?_
        rw [List.findIdx?_eq_none_iff]
        intro x hx
        obtain ⟨j, hj, rfl⟩ := List.mem_iff_getElem.1 hx
        have := HN.out j (by omega)
        rw [List.getD_eq_getElem?_getD, List.getElem?_eq_getElem hj] at this
        simpa using this)
      go_wp2_with fail
      go_ret
      exact ⟨by rw [HE.out]; rfl, HB.out⟩
set_option maxHeartbeats 1000000 in
theorem clash1_contains (A : Option Addr) (n c : Nat) (xs : List Int) (A' : Option Addr) (n' c' : Nat) (b : List Int) (g : Nat) (w : World) (hr : RdI w A n c xs) (hcb : w.cell? ⟨g, 0, none⟩ = some (.slice A' n' c')) (hrb : RdI w A' n' c' b) :
    Calls Tryd.prog 15 #[.slice A n c, .func (.func 16) #[] #[.pointer (some ⟨g, 0, none⟩)]] w fun e w' => e = .returned (.bool (decide (0 ≤ idxF (inB b) xs))) ∧ Below w.heap.size w w' := by
  have HI := Lib.hid (clash1_index A n c xs A' n' c' b g w hr hcb hrb)
  clear hr hcb hrb
  go_enter Tryd.func15, Tryd.ntmps15
  go_wp2_with fail
  refine HI.out.mono ?_
  rintro e w1 ⟨rfl, hb⟩
  have HB := Lib.hid hb
  clear hb
  go_wp2_with fail
  go_ret
  exact ⟨rfl, HB.out⟩
/-- What Clash tells. -/
def clashB (a b : List Int) : Bool := decide (0 ≤ idxF (inB b) a)
def clashF (e1 : Int) (o1 : List Int) (e2 : Int) (o2 : List Int) : Bool × Int := if e1 ≠ 0 then (false, e1) else if e2 ≠ 0 then (false, e2) else (clashB o1 o2, 0)
def ClashP (w : World) (r : Bool × Int) (u : Ending) (w' : World) : Prop := u = .returned (.tuple #[.bool r.1, .int .i64 r.2]) ∧ Below w.heap.size w w'
set_option maxHeartbeats 4000000 in
set_option maxRecDepth 100000 in
theorem clash_calls {l l2 l3 : List S28} {q q2 q3 : Bool} {e f : S30} {e1 m2 e2 m3 : Int} {o1 o2 : List Int} (h1 : TouchR l q e e1 o1 l2 q2 m2) (h2 : TouchR l q f e2 o2 l3 q3 m3) (A A8 A11 B8 B11 : Option Addr) (c c8 c11 d8 d11 : Nat) (w : World) (hr : Kd.C k28 w A l.length l) (hc : l.length ≤ c) (he : ReadsE w e A8 c8 A11 c11) (hf : ReadsE w f B8 d8 B11 d11) :
    Calls Tryd.prog 7 #[.agg #[.slice A l.length c, .bool q], .agg #[.int .i64 e.f0, .int .i64 e.f1, .int .i64 e.f2, .int .i64 e.f3, .string e.f4, .string e.f5, .int .i64 e.f6.f0, .string e.f6.f1, .slice A8 e.f6.f2.length c8, .string e.f6.f3, .int .i64 e.f6.f4, .slice A11 e.f6.f5.length c11], .agg #[.int .i64 f.f0, .int .i64 f.f1, .int .i64 f.f2, .int .i64 f.f3, .string f.f4, .string f.f5, .int .i64 f.f6.f0, .string f.f6.f1, .slice B8 f.f6.f2.length d8, .string f.f6.f3, .int .i64 f.f6.f4, .slice B11 f.f6.f5.length d11]] w (ClashP w (clashF e1 o1 e2 o2)) := by
  obtain ⟨n, hn⟩ : ∃ n, n = l.length := ⟨_, rfl⟩
  obtain ⟨n8, hn8⟩ : ∃ n8, n8 = e.f6.f2.length := ⟨_, rfl⟩
  obtain ⟨n11, hn11⟩ : ∃ n11, n11 = e.f6.f5.length := ⟨_, rfl⟩
  obtain ⟨p8, hp8⟩ : ∃ p8, p8 = f.f6.f2.length := ⟨_, rfl⟩
  obtain ⟨p11, hp11⟩ : ∃ p11, p11 = f.f6.f5.length := ⟨_, rfl⟩
  have HT1 : Hid (∀ W : World, Below w.heap.size w W → Calls Tryd.prog 13 #[.agg #[.slice A n c, .bool q], .agg #[.int .i64 e.f0, .int .i64 e.f1, .int .i64 e.f2, .int .i64 e.f3, .string e.f4, .string e.f5, .int .i64 e.f6.f0, .string e.f6.f1, .slice A8 n8 c8, .string e.f6.f3, .int .i64 e.f6.f4, .slice A11 n11 c11]] W fun u w' => ∃ A' n' c', u = .returned (.tuple #[.slice A' n' c', .int .i64 e1]) ∧ RdI w' A' n' c' o1 ∧ Below W.heap.size W w') := Lib.hid (by
    rw [hn, hn8, hn11]
    exact fun W hb => touch_reads h1 A A8 A11 c c8 c11 W (Kd.C_below hr hb) hc (he.below hb))
  have HT2 : Hid (∀ W : World, Below w.heap.size w W → Calls Tryd.prog 13 #[.agg #[.slice A n c, .bool q], .agg #[.int .i64 f.f0, .int .i64 f.f1, .int .i64 f.f2, .int .i64 f.f3, .string f.f4, .string f.f5, .int .i64 f.f6.f0, .string f.f6.f1, .slice B8 p8 d8, .string f.f6.f3, .int .i64 f.f6.f4, .slice B11 p11 d11]] W fun u w' => ∃ A' n' c', u = .returned (.tuple #[.slice A' n' c', .int .i64 e2]) ∧ RdI w' A' n' c' o2 ∧ Below W.heap.size W w') := Lib.hid (by
    rw [hn, hp8, hp11]
    exact fun W hb => touch_reads h2 A B8 B11 c d8 d11 W (Kd.C_below hr hb) hc (hf.below hb))
  have HBx : Hid (∀ w1, Below (((w.alloc (.cells #[.slice A n c, .bool q] 24)).alloc (.cells #[.int .i64 e.f0, .int .i64 e.f1, .int .i64 e.f2, .int .i64 e.f3, .string e.f4, .string e.f5, .int .i64 e.f6.f0, .string e.f6.f1, .slice A8 n8 c8, .string e.f6.f3, .int .i64 e.f6.f4, .slice A11 n11 c11] 30)).alloc (.cells #[.int .i64 f.f0, .int .i64 f.f1, .int .i64 f.f2, .int .i64 f.f3, .string f.f4, .string f.f5, .int .i64 f.f6.f0, .string f.f6.f1, .slice B8 p8 d8, .string f.f6.f3, .int .i64 f.f6.f4, .slice B11 p11 d11] 30)).heap.size (((w.alloc (.cells #[.slice A n c, .bool q] 24)).alloc (.cells #[.int .i64 e.f0, .int .i64 e.f1, .int .i64 e.f2, .int .i64 e.f3, .string e.f4, .string e.f5, .int .i64 e.f6.f0, .string e.f6.f1, .slice A8 n8 c8, .string e.f6.f3, .int .i64 e.f6.f4, .slice A11 n11 c11] 30)).alloc (.cells #[.int .i64 f.f0, .int .i64 f.f1, .int .i64 f.f2, .int .i64 f.f3, .string f.f4, .string f.f5, .int .i64 f.f6.f0, .string f.f6.f1, .slice B8 p8 d8, .string f.f6.f3, .int .i64 f.f6.f4, .slice B11 p11 d11] 30)) w1 → w1.heap[w.heap.size]? = some (.cells #[.slice A n c, .bool q] 24 (0, 0)) ∧ w1.heap[w.heap.size + 1 + 1]? = some (.cells #[.int .i64 f.f0, .int .i64 f.f1, .int .i64 f.f2, .int .i64 f.f3, .string f.f4, .string f.f5, .int .i64 f.f6.f0, .string f.f6.f1, .slice B8 p8 d8, .string f.f6.f3, .int .i64 f.f6.f4, .slice B11 p11 d11] 30 (0, 0)) ∧ Below w.heap.size w w1 ∧ w.heap.size + 1 + 1 < w1.heap.size) := Lib.hid (fun w1 hb => by
    have hs := hb.size
    simp at hs
    exact ⟨blk_below (blk_below (blk_new w _) (below_alloc (below_alloc (Below.refl _ _) _) _)) hb, blk_below (by simpa using blk_new ((w.alloc (.cells #[.slice A n c, .bool q] 24)).alloc (.cells #[.int .i64 e.f0, .int .i64 e.f1, .int .i64 e.f2, .int .i64 e.f3, .string e.f4, .string e.f5, .int .i64 e.f6.f0, .string e.f6.f1, .slice A8 n8 c8, .string e.f6.f3, .int .i64 e.f6.f4, .slice A11 n11 c11] 30)) (.cells #[.int .i64 f.f0, .int .i64 f.f1, .int .i64 f.f2, .int .i64 f.f3, .string f.f4, .string f.f5, .int .i64 f.f6.f0, .string f.f6.f1, .slice B8 p8 d8, .string f.f6.f3, .int .i64 f.f6.f4, .slice B11 p11 d11] 30)) hb, (below_alloc (below_alloc (below_alloc (Below.refl _ _) _) _) _).trans (hb.mono (by simp; omega)), by omega⟩)
  rw [← hn, ← hn8, ← hn11, ← hp8, ← hp11]
  clear hn hn8 hn11 hp8 hp11 hr hc he hf h1 h2
  generalize e.f0 = f0 at *
  generalize e.f1 = f1 at *
  generalize e.f2 = f2 at *
  generalize e.f3 = f3 at *
  generalize e.f4 = f4 at *
  generalize e.f5 = f5 at *
  generalize f.f0 = h0 at *
  generalize f.f1 = h1 at *
  generalize f.f2 = h2 at *
  generalize f.f3 = h3 at *
  generalize f.f4 = h4 at *
  generalize f.f5 = h5 at *
  generalize e.f6.f0 = g0 at *
  generalize e.f6.f1 = g1 at *
  generalize e.f6.f3 = g3 at *
  generalize e.f6.f4 = g4 at *
  generalize f.f6.f0 = j0 at *
  generalize f.f6.f1 = j1 at *
  generalize f.f6.f3 = j3 at *
  generalize f.f6.f4 = j4 at *
  have HQ : Hid (clashF e1 o1 e2 o2 = clashF e1 o1 e2 o2) := Lib.hid rfl
  go_enter Tryd.func7, Tryd.ntmps7
  go_wp2_with fail
  refine (HT1.out _ (below_alloc (below_alloc (below_alloc (Below.refl _ _) _) _) _)).mono ?_
  rintro u w1 ⟨A1, n1, c1, rfl, hR1, hb1⟩
  obtain ⟨x0, x2, hb, hsz⟩ := HBx.out w1 hb1
  have hs0 : w.heap.size < w1.heap.size := by omega
  have hs1 : w.heap.size + 1 < w1.heap.size := by omega
  have HB := Lib.hid hb
  have HR1 := Lib.hid hR1
  clear hb hb1 HBx HT1 hR1
  have b0 : w1.cell? ⟨w.heap.size, 0, none⟩ = some (.slice A n c) := (blk_cell x0 0).trans rfl
  have b1 : w1.cell? ⟨w.heap.size, 1, none⟩ = some (.bool q) := (blk_cell x0 1).trans rfl
  have z0 : w1.cell? ⟨w.heap.size + 1 + 1, 0, none⟩ = some (.int .i64 h0) := (blk_cell x2 0).trans rfl
  have z1 : w1.cell? ⟨w.heap.size + 1 + 1, 1, none⟩ = some (.int .i64 h1) := (blk_cell x2 1).trans rfl
  have z2 : w1.cell? ⟨w.heap.size + 1 + 1, 2, none⟩ = some (.int .i64 h2) := (blk_cell x2 2).trans rfl
  have z3 : w1.cell? ⟨w.heap.size + 1 + 1, 3, none⟩ = some (.int .i64 h3) := (blk_cell x2 3).trans rfl
  have z4 : w1.cell? ⟨w.heap.size + 1 + 1, 4, none⟩ = some (.string h4) := (blk_cell x2 4).trans rfl
  have z5 : w1.cell? ⟨w.heap.size + 1 + 1, 5, none⟩ = some (.string h5) := (blk_cell x2 5).trans rfl
  have z6 : w1.cell? ⟨w.heap.size + 1 + 1, 6, none⟩ = some (.int .i64 j0) := (blk_cell x2 6).trans rfl
  have z7 : w1.cell? ⟨w.heap.size + 1 + 1, 7, none⟩ = some (.string j1) := (blk_cell x2 7).trans rfl
  have z8 : w1.cell? ⟨w.heap.size + 1 + 1, 8, none⟩ = some (.slice B8 p8 d8) := (blk_cell x2 8).trans rfl
  have z9 : w1.cell? ⟨w.heap.size + 1 + 1, 9, none⟩ = some (.string j3) := (blk_cell x2 9).trans rfl
  have z10 : w1.cell? ⟨w.heap.size + 1 + 1, 10, none⟩ = some (.int .i64 j4) := (blk_cell x2 10).trans rfl
  have z11 : w1.cell? ⟨w.heap.size + 1 + 1, 11, none⟩ = some (.slice B11 p11 d11) := (blk_cell x2 11).trans rfl
  clear x0 x2
  by_cases h0 : e1 = 0
  · subst h0
    go_wp2_with fail
    refine (HT2.out _ HB.out).mono ?_
    rintro u w2 ⟨A2, n2, c2, rfl, hR2, hb2⟩
    have HR1' := Lib.hid (HR1.out.below hb2)
    have HR2 := Lib.hid hR2
    have HB2 := Lib.hid (HB.out.trans (hb2.mono HB.out.size))
    clear HR1 HB hR2 hb2 HT2
    by_cases h3 : e2 = 0
    · subst h3
      have HK : Hid (∀ W : World, Below w2.heap.size w2 W → W.cell? ⟨w2.heap.size, 0, none⟩ = some (.slice A2 n2 c2) → Calls Tryd.prog 15 #[.slice A1 n1 c1, .func (.func 16) #[] #[.pointer (some ⟨w2.heap.size, 0, none⟩)]] W fun e w' => e = .returned (.bool (clashB o1 o2)) ∧ Below W.heap.size W w') :=
        Lib.hid (fun W hb hc => clash1_contains A1 n1 c1 o1 A2 n2 c2 o2 w2.heap.size W (HR1'.out.below hb) hc (HR2.out.below hb))
      have HV : Hid (clashF 0 o1 0 o2 = (clashB o1 o2, 0)) := Lib.hid rfl
      clear HR1' HR2
      generalize clashB o1 o2 = r at *
      go_wp2_with fail
      refine (HK.out _ (by (repeat (first | refine below_alloc ?_ _ | refine below_drew ?_ | refine Below.setCell ?_ (by simp; omega) _)); exact Below.refl _ _) (by simp)).mono ?_
      rintro u w3 ⟨rfl, hb3⟩
      have HB3 := Lib.hid hb3
      clear hb3 HK
      go_wp2_with fail
      go_ret2
      refine ⟨by rw [HV.out] <;> rfl, ?_⟩
      exact (show Below w.heap.size w _ from (by (repeat (first | refine below_alloc ?_ _ | refine below_drew ?_ | refine Below.setCell ?_ (by simp; omega) _)); exact HB2.out)).trans (HB3.out.mono (by have := HB2.out.size; simp; omega))
    · have q0 : (e2 == 0) = false := by simpa using h3
      have q1 : (e2 != 0) = true := by simpa using h3
      have HV : Hid (clashF 0 o1 e2 o2 = (false, e2)) := Lib.hid (by unfold clashF; rw [if_neg (by decide), if_pos h3])
      clear h3
      go_wp2_with fail
      go_ret2
      exact ⟨by rw [HV.out] <;> rfl, (by (repeat (first | refine below_alloc ?_ _ | refine below_drew ?_ | refine Below.setCell ?_ (by simp; omega) _)); exact HB2.out)⟩
  · have q0 : (e1 == 0) = false := by simpa using h0
    have q1 : (e1 != 0) = true := by simpa using h0
    have HV : Hid (clashF e1 o1 e2 o2 = (false, e1)) := Lib.hid (by unfold clashF; rw [if_pos h0])
    clear h0
    go_wp2_with fail
    go_ret2
    exact ⟨by rw [HV.out] <;> rfl, HB.out⟩
end Go.Proofs.YthfalaabfgpjmaaDoor.ApA
