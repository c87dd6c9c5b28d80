/- sameDoc of two documents that are one: true. -/
import Derived.Test.YtmcinclecpeakaaGreatDoorDocJ
import Derived.WalkSpells
import Derived.Lib.Hide
import Derived.Deep.QuietTactic
import Derived.Deep.RegionWith
import Derived.Deep.RegionHeld3
import Derived.Deep.DeepCutAuto
import Derived.IntWalk
namespace Go.Proofs.YtmcinclecpeakaaGreatDoor.Same
open Go.RowKit Go.Proofs.YtmcinclecpeakaaGreatDoorW.PrintWords Go.Proofs.YtmcinclecpeakaaGreatDoorW.PrintMore Go.Proofs.YtmcinclecpeakaaGreatDoor.PRR Go.Proofs.YtmcinclecpeakaaGreatDoor.DocP Go.Proofs.YtmcinclecpeakaaGreatDoor.DocC
attribute [local go_sem] max2_int min2_int max_two min_two max_three min_three max_four min_four
set_option linter.unusedVariables false
set_option linter.unusedSimpArgs false
theorem sameInts_ev (x : List Int) (hx : x.length ≤ 1000) : Ev (fun k => clerestorykeep1_sameInts.f k x x) true := by
  have go : ∀ (m : Nat) (i : Nat), i + m = x.length → Ev (fun k => clerestorykeep1_sameInts.l0 k x x (i : Int)) true := by
    intro m
    induction m with
    | zero =>
      intro i he
      refine Ev.step (f := fun _ => some true) (fun k => ?_) (Ev.now true)
      simp only [clerestorykeep1_sameInts.l0]
      rw [if_neg (by omega)]
    | succ m ih =>
      intro i he
      refine Ev.step (fun k => ?_) (ih (i + 1) (by omega))
      show clerestorykeep1_sameInts.l0 (k + 1) x x (i : Int) = clerestorykeep1_sameInts.l0 k x x ((i + 1 : Nat) : Int)
      simp only [clerestorykeep1_sameInts.l0]
      rw [if_pos (by omega), if_pos (by omega), if_pos (by omega), if_pos trivial, show wrap64 ((i : Int) + 1) = ((i + 1 : Nat) : Int) from by unfold wrap64; omega]
  simp only [clerestorykeep1_sameInts.f]
  refine Ev.congr (fun k => if_pos trivial) (go x.length 0 (by omega))
theorem ev_rounds {α : Type} {g : Nat → Option α} {r : α} (h : Ev g r) : ∃ k, g k = some r := by
  obtain ⟨K, hK⟩ := h
  exact ⟨K, hK K (Nat.le_refl _)⟩
/-- Rows that are short. -/
def Short (l : List S43) : Prop := l.length ≤ 200 ∧ ∀ x ∈ l, x.f2.length ≤ 12 ∧ x.f5.length ≤ 200
theorem Short.at (l : List S43) (h : Short l) {k : Nat} (hk : k < l.length) : (rd_T43 l (k : Int)).f2.length ≤ 12 ∧ (rd_T43 l (k : Int)).f5.length ≤ 200 := by
  have e : rd_T43 l (k : Int) = l[k] := by
    unfold rd_T43
    rw [Int.toNat_natCast, List.getD_eq_getElem?_getD, List.getElem?_eq_getElem hk]; rfl
  rw [e]
  exact h.2 _ (List.getElem_mem hk)
/-- What lies at the loop's head. -/
structure SmI (w W : World) (A B : Option Addr) (n c d : Nat) (q : Bool) : Prop where
  b2 : W.heap[w.heap.size]? = some (.cells #[.slice A n c, .bool q] 24 (0, 0))
  b3 : W.heap[w.heap.size + 1]? = some (.cells #[.slice B n d, .bool q] 24 (0, 0))
  below : Below w.heap.size w W
theorem SmI.on {w W W' : World} {A B : Option Addr} {n c d : Nat} {q : Bool} (h : SmI w W A B n c d q) (hb : Below W.heap.size W W') : SmI w W' A B n c d q :=
  ⟨blk_below h.b2 hb, blk_below h.b3 hb, h.below.trans (hb.mono h.below.size)⟩
theorem sm_begin (w : World) (A B : Option Addr) (n c d : Nat) (q : Bool) : SmI w ((w.alloc (.cells #[.slice A n c, .bool q] 24)).alloc (.cells #[.slice B n d, .bool q] 24)) A B n c d q :=
  ⟨blk_below (blk_new w (.cells #[.slice A n c, .bool q] 24)) (below_alloc (Below.refl _ _) _), by simpa using blk_new (w.alloc (.cells #[.slice A n c, .bool q] 24)) (.cells #[.slice B n d, .bool q] 24), ((Below.refl _ w).alloc (Nat.le_refl _) _).alloc (by simp) _⟩
/-- Two boxes that were made. -/
structure SmX (wr W : World) (g6 g7 : Nat) (X Y : Obj) : Prop where
  b6 : W.heap[g6]? = some X
  b7 : W.heap[g7]? = some Y
  below : Below wr.heap.size wr W
theorem SmX.on {wr W W' : World} {g6 g7 : Nat} {X Y : Obj} (h : SmX wr W g6 g7 X Y) (hb : Below W.heap.size W W') : SmX wr W' g6 g7 X Y :=
  ⟨blk_below h.b6 hb, blk_below h.b7 hb, h.below.trans (hb.mono h.below.size)⟩
theorem sm_two (wr : World) (X Y : Obj) : SmX wr ((wr.alloc X).alloc Y).drew wr.heap.size (wr.heap.size + 1) X Y :=
  ⟨blk_drew (blk_below (blk_new wr X) (below_alloc (Below.refl _ _) _)), blk_drew (by simpa using blk_new (wr.alloc X) Y), below_drew (((Below.refl _ wr).alloc (Nat.le_refl _) _).alloc (by simp) _)⟩
theorem SmX.swap {wr W : World} {g6 g7 : Nat} {X Y : Obj} (h : SmX wr W g6 g7 X Y) : SmX wr W g7 g6 Y X := ⟨h.b7, h.b6, h.below⟩
set_option maxRecDepth 100000 in
set_option maxHeartbeats 8000000 in
theorem sameDoc_calls (l : List S43) (q : Bool) (A B : Option Addr) (c d : Nat) (w : World) (hA : Kd.C k43 w A l.length l) (hcA : l.length ≤ c) (hB : Kd.C k43 w B l.length l) (hcB : l.length ≤ d) (hs : Short l) :
    Calls Tryz.prog 11 #[.agg #[.slice A l.length c, .bool q], .agg #[.slice B l.length d, .bool q]] w fun e w' => e = .returned (.bool true) ∧ Below w.heap.size w w' := by
  obtain ⟨n, hn⟩ : ∃ n, n = l.length := ⟨_, rfl⟩
  have HA := Lib.hid hA
  have HB := Lib.hid hB
  have HS := Lib.hid hs
  have hns : n ≤ 200 := by rw [hn]; exact hs.1
  have hqq : (q != q) = false := by cases q <;> rfl
  have hI0 := Lib.hid (sm_begin w A B n c d q)
  rw [← hn]
  have HN := Lib.hid hn
  clear hA hcA hB hcB hs hn
  go_enter Tryz.func11, Tryz.ntmps11
  go_upto_region 1 with fail
  generalize ((w.alloc (.cells #[.slice A n c, .bool q] 24)).alloc (.cells #[.slice B n d, .bool q] 24)) = w1 at hI0 ⊢
  have b20 := (blk_cell hI0.out.b2 0).trans (show #[Value.slice A n c, .bool q][0]? = some (.slice A n c) from rfl)
  have b21 := (blk_cell hI0.out.b2 1).trans (show #[Value.slice A n c, .bool q][1]? = some (.bool q) from rfl)
  have b30 := (blk_cell hI0.out.b3 0).trans (show #[Value.slice B n d, .bool q][0]? = some (.slice B n d) from rfl)
  have b31 := (blk_cell hI0.out.b3 1).trans (show #[Value.slice B n d, .bool q][1]? = some (.bool q) from rfl)
  go_wp2_with fail
  go_loopw [5] (fun i wr => ∃ k : Nat, k ≤ n ∧ i = .int .i64 k ∧ Hid (SmI w wr A B n c d q)) (fun i _ => n - (intOf i).toNat)
  case atStart => exact ⟨0, Nat.zero_le _, rfl, hI0⟩
  case round =>
    obtain ⟨k, hk, rfl, HI⟩ := hrel
    clear hI0 b20 b21 b30 b31
    have b20 := (blk_cell HI.out.b2 0).trans (show #[Value.slice A n c, .bool q][0]? = some (.slice A n c) from rfl)
    have b30 := (blk_cell HI.out.b3 0).trans (show #[Value.slice B n d, .bool q][0]? = some (.slice B n d) from rfl)
    by_cases hkn : k < n
    · obtain ⟨ad1, A2, c2, A5, c5, e1, x0, x1, x2, x3, x4, x5, x2l, x2r, x5l, x5r⟩ := at_T43 (Kd.C_below HA.out HI.out.below) (k : Int) (by omega) (by have := HN.out; omega)
      obtain ⟨ad2, B2, d2, B5, d5, e2, y0, y1, y2, y3, y4, y5, y2l, y2r, y5l, y5r⟩ := at_T43 (Kd.C_below HB.out HI.out.below) (k : Int) (by omega) (by have := HN.out; omega)
      obtain ⟨hl2, hl5⟩ := Short.at l HS.out (k := k) (by have := HN.out; omega)
      rw [Int.toNat_natCast] at x0 x1 x2 x3 x4 x5 y0 y1 y2 y3 y4 y5
      generalize rd_T43 l (k : Int) = e at x0 x1 x2 x3 x4 x5 y0 y1 y2 y3 y4 y5 x2l x2r x5l x5r y2l y2r y5l y5r hl2 hl5
      have HE : Hid (∀ W : World, Below wr.heap.size wr W → W.cell? ⟨w.heap.size, 0, none⟩ = some (.slice A n c) ∧ W.cell? ⟨w.heap.size + 1, 0, none⟩ = some (.slice B n d) ∧
          W.cell? (ad1.add (k * 6)) = some (.int .i64 e.f0) ∧ W.cell? ⟨(ad1.add (k * 6)).block, (ad1.add (k * 6)).off + 1, none⟩ = some (.string e.f1) ∧ W.cell? ⟨(ad1.add (k * 6)).block, (ad1.add (k * 6)).off + 2, none⟩ = some (.slice A2 e.f2.length c2) ∧ W.cell? ⟨(ad1.add (k * 6)).block, (ad1.add (k * 6)).off + 3, none⟩ = some (.string e.f3) ∧ W.cell? ⟨(ad1.add (k * 6)).block, (ad1.add (k * 6)).off + 4, none⟩ = some (.int .i64 e.f4) ∧ W.cell? ⟨(ad1.add (k * 6)).block, (ad1.add (k * 6)).off + 5, none⟩ = some (.slice A5 e.f5.length c5) ∧
          W.cell? (ad2.add (k * 6)) = some (.int .i64 e.f0) ∧ W.cell? ⟨(ad2.add (k * 6)).block, (ad2.add (k * 6)).off + 1, none⟩ = some (.string e.f1) ∧ W.cell? ⟨(ad2.add (k * 6)).block, (ad2.add (k * 6)).off + 2, none⟩ = some (.slice B2 e.f2.length d2) ∧ W.cell? ⟨(ad2.add (k * 6)).block, (ad2.add (k * 6)).off + 3, none⟩ = some (.string e.f3) ∧ W.cell? ⟨(ad2.add (k * 6)).block, (ad2.add (k * 6)).off + 4, none⟩ = some (.int .i64 e.f4) ∧ W.cell? ⟨(ad2.add (k * 6)).block, (ad2.add (k * 6)).off + 5, none⟩ = some (.slice B5 e.f5.length d5)) :=
        Lib.hid (fun W hb => by
          have hI := HI.out.on hb
          exact ⟨(blk_cell hI.b2 0).trans rfl, (blk_cell hI.b3 0).trans rfl, pw_cell_below hb x0, pw_cell_below hb x1, pw_cell_below hb x2, pw_cell_below hb x3, pw_cell_below hb x4, pw_cell_below hb x5, pw_cell_below hb y0, pw_cell_below hb y1, pw_cell_below hb y2, pw_cell_below hb y3, pw_cell_below hb y4, pw_cell_below hb y5⟩)
      subst e1 e2
      go_upto_region 6 with fail
      go_cut [6, 7] (fun s6 s7 wx => ∃ g6 g7, s6 = .pointer (some ⟨g6, 0, none⟩) ∧ s7 = .pointer (some ⟨g7, 0, none⟩) ∧ Hid (SmX wr wx g6 g7 (.cells #[.int .i64 e.f0, .string e.f1, .slice A2 e.f2.length c2, .string e.f3, .int .i64 e.f4, .slice A5 e.f5.length c5] 43) (.cells #[.int .i64 e.f0, .string e.f1, .slice B2 e.f2.length d2, .string e.f3, .int .i64 e.f4, .slice B5 e.f5.length d5] 43)))
      case first =>
        go_region_held3 (fun W => W.cell? ⟨w.heap.size, 0, none⟩ = some (.slice (some ad1) n c) ∧ W.cell? ⟨w.heap.size + 1, 0, none⟩ = some (.slice (some ad2) n d) ∧ W.cell? (ad1.add (k * 6)) = some (.int .i64 e.f0) ∧ W.cell? ⟨(ad1.add (k * 6)).block, (ad1.add (k * 6)).off + 1, none⟩ = some (.string e.f1) ∧ W.cell? ⟨(ad1.add (k * 6)).block, (ad1.add (k * 6)).off + 2, none⟩ = some (.slice A2 e.f2.length c2) ∧ W.cell? ⟨(ad1.add (k * 6)).block, (ad1.add (k * 6)).off + 3, none⟩ = some (.string e.f3) ∧ W.cell? ⟨(ad1.add (k * 6)).block, (ad1.add (k * 6)).off + 4, none⟩ = some (.int .i64 e.f4) ∧ W.cell? ⟨(ad1.add (k * 6)).block, (ad1.add (k * 6)).off + 5, none⟩ = some (.slice A5 e.f5.length c5) ∧ W.cell? (ad2.add (k * 6)) = some (.int .i64 e.f0) ∧ W.cell? ⟨(ad2.add (k * 6)).block, (ad2.add (k * 6)).off + 1, none⟩ = some (.string e.f1) ∧ W.cell? ⟨(ad2.add (k * 6)).block, (ad2.add (k * 6)).off + 2, none⟩ = some (.slice B2 e.f2.length d2) ∧ W.cell? ⟨(ad2.add (k * 6)).block, (ad2.add (k * 6)).off + 3, none⟩ = some (.string e.f3) ∧ W.cell? ⟨(ad2.add (k * 6)).block, (ad2.add (k * 6)).off + 4, none⟩ = some (.int .i64 e.f4) ∧ W.cell? ⟨(ad2.add (k * 6)).block, (ad2.add (k * 6)).off + 5, none⟩ = some (.slice B5 e.f5.length d5)) (exact HE.out _ (by (repeat (first | refine below_alloc ?_ _ | refine below_drew ?_ | refine Below.setCell ?_ (by simp) _)); exact Below.refl _ _)) (fail)
        all_goals (go_wp2_with fail; go_meet)
        all_goals first | exact ⟨_, _, rfl, rfl, Lib.hid (sm_two _ _ _)⟩ | exact ⟨_, _, rfl, rfl, Lib.hid (sm_two _ _ _).swap⟩
      case rest =>
        obtain ⟨g6, g7, rfl, rfl, HX⟩ := hcut
        obtain ⟨kk, hkk⟩ := ev_rounds (sameInts_ev e.f5 (by omega))
        obtain ⟨n2, hn2⟩ : ∃ n2, n2 = e.f2.length := ⟨_, rfl⟩
        obtain ⟨n5, hn5⟩ : ∃ n5, n5 = e.f5.length := ⟨_, rfl⟩
        have HC : Hid (∀ W : World, Below wr.heap.size wr W → Calls Tryz.prog 22 #[.slice A5 n5 c5, .slice B5 n5 d5] W fun u W' => u = .returned (.bool true) ∧ Below W.heap.size W W') :=
          Lib.hid (by
            rw [hn5]
            exact fun W hb => (clerestorykeep1_sameInts.calls kk A5 c5 e.f5 B5 d5 e.f5 true W (Kd.C_below x5r hb) x5l (Kd.C_below y5r hb) y5l hkk).mono (fun u W' h => ⟨h.1, h.2.below⟩))
        have HR2 := Lib.hid x2r
        have HQ2 := Lib.hid y2r
        rw [← hn2, ← hn5] at HX
        have HN2 := Lib.hid hn2
        have hn2s : n2 ≤ 12 := by omega
        have HL2 : Hid (e.f2.length ≤ c2 ∧ e.f2.length ≤ d2) := Lib.hid ⟨x2l, y2l⟩
        clear HE x0 x1 x2 x3 x4 x5 y0 y1 y2 y3 y4 y5 x2l x2r x5l x5r y2l y2r y5l y5r hl2 hl5 hkk hn2 hn5 b20 b30
        obtain ⟨p0, p1, p2, p3, p4, p5⟩ : wc.cell? ⟨g6, 0, none⟩ = some (.int .i64 e.f0) ∧ wc.cell? ⟨g6, 1, none⟩ = some (.string e.f1) ∧ wc.cell? ⟨g6, 2, none⟩ = some (.slice A2 n2 c2) ∧ wc.cell? ⟨g6, 3, none⟩ = some (.string e.f3) ∧ wc.cell? ⟨g6, 4, none⟩ = some (.int .i64 e.f4) ∧ wc.cell? ⟨g6, 5, none⟩ = some (.slice A5 n5 c5) :=
          ⟨(blk_cell HX.out.b6 0).trans rfl, (blk_cell HX.out.b6 1).trans rfl, (blk_cell HX.out.b6 2).trans rfl, (blk_cell HX.out.b6 3).trans rfl, (blk_cell HX.out.b6 4).trans rfl, (blk_cell HX.out.b6 5).trans rfl⟩
        obtain ⟨r0, r1, r2, r3, r4, r5⟩ : wc.cell? ⟨g7, 0, none⟩ = some (.int .i64 e.f0) ∧ wc.cell? ⟨g7, 1, none⟩ = some (.string e.f1) ∧ wc.cell? ⟨g7, 2, none⟩ = some (.slice B2 n2 d2) ∧ wc.cell? ⟨g7, 3, none⟩ = some (.string e.f3) ∧ wc.cell? ⟨g7, 4, none⟩ = some (.int .i64 e.f4) ∧ wc.cell? ⟨g7, 5, none⟩ = some (.slice B5 n5 d5) :=
          ⟨(blk_cell HX.out.b7 0).trans rfl, (blk_cell HX.out.b7 1).trans rfl, (blk_cell HX.out.b7 2).trans rfl, (blk_cell HX.out.b7 3).trans rfl, (blk_cell HX.out.b7 4).trans rfl, (blk_cell HX.out.b7 5).trans rfl⟩
        generalize e.f0 = f0 at p0 r0 HX
        generalize e.f1 = f1 at p1 r1 HX
        generalize e.f3 = f3 at p3 r3 HX
        generalize e.f4 = f4 at p4 r4 HX
        go_wp2_with fail
        refine (HC.out _ HX.out.below).mono ?_
        rintro u w3 ⟨rfl, hb3⟩
        have HX3 := Lib.hid (HX.out.on hb3)
        clear HX HC hb3 p0 p1 p2 p3 p4 p5 r0 r1 r2 r3 r4 r5
        go_wp2_with fail
        go_loopw [8] (fun j wy => ∃ m : Nat, m ≤ n2 ∧ j = .int .i64 m ∧ Hid (SmX wr wy g6 g7 (.cells #[.int .i64 f0, .string f1, .slice A2 n2 c2, .string f3, .int .i64 f4, .slice A5 n5 c5] 43) (.cells #[.int .i64 f0, .string f1, .slice B2 n2 d2, .string f3, .int .i64 f4, .slice B5 n5 d5] 43))) (fun j _ => n2 - (intOf j).toNat)
        case atStart => exact ⟨0, Nat.zero_le _, rfl, HX3⟩
        case round =>
          obtain ⟨m, hm, rfl, HY⟩ := hrel
          clear HX3
          have p2 := (blk_cell HY.out.b6 2).trans (show #[Value.int .i64 f0, .string f1, .slice A2 n2 c2, .string f3, .int .i64 f4, .slice A5 n5 c5][2]? = some (.slice A2 n2 c2) from rfl)
          have r2 := (blk_cell HY.out.b7 2).trans (show #[Value.int .i64 f0, .string f1, .slice B2 n2 d2, .string f3, .int .i64 f4, .slice B5 n5 d5][2]? = some (.slice B2 n2 d2) from rfl)
          by_cases hmn : m < n2
          · obtain ⟨ad3, e3, s0, s1⟩ := at_T66 (Kd.C_below HR2.out HY.out.below) (m : Int) (by omega) (by have := HN2.out; omega)
            obtain ⟨ad4, e4, t0, t1⟩ := at_T66 (Kd.C_below HQ2.out HY.out.below) (m : Int) (by omega) (by have := HN2.out; omega)
            rw [Int.toNat_natCast] at s0 s1 t0 t1
            generalize (rd_T66 e.f2 (m : Int)).f0 = g0 at s0 t0
            generalize (rd_T66 e.f2 (m : Int)).f1 = g1 at s1 t1
            subst e3 e4
            have hmc : m < c2 := by have := HL2.out.1; have := HN2.out; omega
            have hmd : m < d2 := by have := HL2.out.2; have := HN2.out; omega
            have HY6 := HY.out
            have HY7 := Lib.hid (fun t => HY6.on (pw_below_drewN (Below.refl _ _) t))
            clear HY6
            go_wp2_with fail
            go_quiet (fail)
            go_wp2_with fail
            go_roundw
            case rel => exact ⟨m + 1, by omega, by go_num, Lib.hid (HY7.out _)⟩
            case measure => simp [intOf]; omega
          · have hmn2 : m = n2 := by omega
            subst hmn2
            have HI2 := Lib.hid (HI.out.on HY.out.below)
            go_wp2_with fail
            go_roundw
            case rel => exact ⟨k + 1, by omega, by go_num, HI2⟩
            case measure => simp [intOf]; omega
    · have hkn2 : k = n := by omega
      subst hkn2
      go_wp2_with fail
      go_ret
      exact ⟨rfl, HI.out.below⟩
end Go.Proofs.YtmcinclecpeakaaGreatDoor.Same
