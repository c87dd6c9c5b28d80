/- The law RecordParts walked (written by mkrecl.py). -/
import Derived.Test.YtmcinclecpeakaaGreatDoorRecL
namespace Go.Proofs.YtmcinclecpeakaaGreatDoor.ApA
open Go.RowKit Go.Proofs.YtmcinclecpeakaaGreatDoorW.PrintWords Go.Proofs.YtmcinclecpeakaaGreatDoorW.PrintLast Go.Proofs.YtmcinclecpeakaaGreatDoorW.PrintMore Go.Proofs.YtmcinclecpeakaaGreatDoor.PRR Go.Proofs.YtmcinclecpeakaaGreatDoor.DocP Go.Proofs.YtmcinclecpeakaaGreatDoor.DocC
attribute [local go_sem] max2_int min2_int max_two min_two max_three min_three max_four min_four
set_option linter.unusedVariables false
set_option linter.unusedSimpArgs false
def T1parts : Bool × List (List Nat × List Nat) := (true, [([], []), ([0], [0]), ([], []), ([], []), ([3], [3]), ([4], [4]), ([2, 5], [2, 5]), ([1, 1, 0, 1], [1]), ([6, 7, 0, 1, 2, 3, 4, 5, 6, 7], [2, 3, 6])])
def B1parts : List Nat := [0, 1, 0, 0, 8, 24, 60, 3, 255]
theorem tab1parts : rtab .any (opsOf Tryz.f3 1) = T1parts ∧ waitsOk T1parts.2 B1parts = true := ⟨by kernel_rfl, by kernel_rfl⟩
def T5parts : Bool × List (List Nat × List Nat) := (true, [([], []), ([], []), ([], []), ([1, 2], [1, 2]), ([0, 3], [0, 3]), ([4], [4]), ([5], [5]), ([5], [5]), ([], []), ([8, 6, 4, 0, 1, 2, 3, 4, 5, 6, 8], [6, 8]), ([7, 9, 0, 1, 2, 3, 4, 5, 6, 7, 8, 9], [7])])
def B5parts : List Nat := [0, 0, 0, 6, 15, 31, 63, 63, 0, 383, 1023]
theorem tab5parts : rtab .any (opsOf Tryz.f3 5) = T5parts ∧ waitsOk T5parts.2 B5parts = true := ⟨by kernel_rfl, by kernel_rfl⟩
def T6parts : Bool × List (List Nat × List Nat) := (true, [([], []), ([], []), ([], []), ([1, 2], [1, 2]), ([0, 3], [0, 3]), ([4], [4]), ([5], [5]), ([5], [5]), ([], []), ([8, 6, 4, 0, 1, 2, 3, 4, 5, 6, 8], [6, 8]), ([7, 9, 0, 1, 2, 3, 4, 5, 6, 7, 8, 9], [7])])
def B6parts : List Nat := [0, 0, 0, 6, 15, 31, 63, 63, 0, 383, 1023]
theorem tab6parts : rtab .any (opsOf Tryz.f3 6) = T6parts ∧ waitsOk T6parts.2 B6parts = true := ⟨by kernel_rfl, by kernel_rfl⟩
def T7parts : Bool × List (List Nat × List Nat) := (true, [([], []), ([], []), ([], []), ([1, 2], [1, 2]), ([0, 3], [0, 3]), ([4], [4]), ([5], [5]), ([5], [5]), ([5], [5]), ([], []), ([9, 6, 4, 0, 1, 2, 3, 4, 5, 6, 9], [6, 9]), ([7, 10, 0, 1, 2, 3, 4, 5, 6, 7, 9, 10], [7]), ([8, 11, 0, 1, 2, 3, 4, 5, 6, 7, 8, 9, 10, 11], [8])])
def B7parts : List Nat := [0, 0, 0, 6, 15, 31, 63, 63, 63, 0, 639, 1791, 4095]
theorem tab7parts : rtab .any (opsOf Tryz.f3 7) = T7parts ∧ waitsOk T7parts.2 B7parts = true := ⟨by kernel_rfl, by kernel_rfl⟩
/-- A document in a box, made since. -/
structure PB (W0 W : World) (g : Nat) (A : Option Addr) (n c : Nat) (q : Bool) (l : List S43) : Prop where
 bx : BX W g A n c q l
 below : Below W0.heap.size W0 W
set_option maxHeartbeats 8000000 in
set_option maxRecDepth 100000 in
theorem parts_row (A : Option Addr) (c : Nat) (l0 : List S43) (q : Bool) (A1 : Option Addr) (c1 : Nat) (es : List S45) (at_ : Int) (w : World) (hf0 : Fit l0) (hr : Kd.C k43 w A l0.length l0) (hc : l0.length ≤ c) (hr1 : Kd.C k45 w A1 es.length es) (hc1 : es.length ≤ c1) (hin : ∀ x ∈ es, x.f6.f2.length ≤ 4398046511104 ∧ x.f6.f5.length ≤ 17592186044416) :
  Calls Tryz.prog 3 #[.agg #[.slice A l0.length c, .bool q], .slice A1 es.length c1, .int .i64 at_] w fun u w' => u = .returned (.bool true) ∧ Below w.heap.size w w' := by
 obtain ⟨n0, hn0⟩ : ∃ n0, n0 = l0.length := ⟨_, rfl⟩
 obtain ⟨m1, hm1⟩ : ∃ m1, m1 = es.length := ⟨_, rfl⟩
 obtain ⟨j1, hj1⟩ : ∃ j1 : Nat, (j1 : Int) = (if 40 < (m1 : Int) then 40 else (m1 : Int)) := ⟨(if 40 < (m1 : Int) then 40 else (m1 : Int)).toNat, by split <;> omega⟩
 have hjm1 : j1 ≤ m1 := by split at hj1 <;> omega
 have hj40 : j1 ≤ 40 := by split at hj1 <;> omega
 have hmc1 : m1 ≤ c1 := by omega
 obtain ⟨l, hl⟩ : ∃ l, l = l0.take (min n0 40) := ⟨_, rfl⟩
 obtain ⟨nn, hn⟩ : ∃ nn, nn = min n0 40 := ⟨_, rfl⟩
 have hnl : nn = l.length := by rw [hl, List.length_take]; omega
 have hrl : Kd.C k43 w A l.length l := by
  rw [hl]
  exact Kd.C_take hr (by omega)
 have hfl : Fit l := by rw [hl]; exact fit_cut hf0 _
 have hm0 : n0 ≤ 9223372036854775807 := by rw [hn0]; exact hr.2.1
 have hE1 : (es.take j1).length = j1 := by rw [List.length_take]; omega
 have hC1 : Kd.C k45 w A1 (es.take j1).length (es.take j1) := Kd.C_take hr1 (by omega)
 have hinE : ∀ x ∈ es.take j1, x.f6.f2.length ≤ 4398046511104 ∧ x.f6.f5.length ≤ 17592186044416 := fun x hx => hin x (List.mem_of_mem_take hx)
 generalize es.take j1 = E at hE1 hC1 hinE
 obtain ⟨l2, q2, i1, er, hev, hrun⟩ := all_any hfl q E
 have HFew : Hid (∀ W : World, Calls Tryz.prog 6 #[.agg #[.slice A n0 c, .bool q], .int .i64 40] W fun u w' => u = .returned (.agg #[.slice A nn c, .bool q]) ∧ Below W.heap.size W w') := Lib.hid (fun W => by
  rw [hn]
  exact few_any A n0 c 40 q W (by omega) hm0 (by decide))
 have HDo : Hid (∀ W : World, Below w.heap.size w W → Calls Tryz.prog 7 #[.agg #[.slice A nn c, .bool q], .slice A1 j1 c1] W (DoP W q l l2 E i1 er)) := Lib.hid (by
  rw [hnl, ← hE1]
  exact fun W hb => do_calls hfl hev hinE A A1 c c1 W (Kd.C_below hrl hb) (by omega) (Kd.C_below hC1 hb) (by omega))
 have HAll : Hid (∀ W : World, Below w.heap.size w W → Calls Tryz.prog 10 #[.agg #[.slice A nn c, .bool q], .slice A1 j1 c1] W fun u w' => ∃ A' n' c', u = .returned (.tuple #[.agg #[.slice A' n' c', .bool q2], .int .i64 i1, .int .i64 er]) ∧ (n' = l2.length ∧ n' ≤ c' ∧ Kd.C k43 w' A' l2.length l2) ∧ Below W.heap.size W w') := Lib.hid (by
  obtain ⟨k, hk⟩ := ev_at hev
  rw [hnl, ← hE1]
  intro W hb
  refine (dom_All.calls k A c l q A1 c1 E l2 q2 i1 er W (Kd.C_below hrl hb) (by omega) (Kd.C_below hC1 hb) (by omega) hk).mono ?_
  rintro u w' ⟨v, rfl, hS, hb'⟩
  obtain ⟨A', c', rfl⟩ := Kd.S_slice hS
  exact ⟨A', _, c', rfl, Kd.S_reads' hS, hb'⟩)
 have HRun := Lib.hid (⟨hrun, hev, hE1⟩ : _ ∧ _ ∧ _)
 have HBg : Hid (∀ W : World, Calls Tryz.prog 8 #[] W fun u w' => u = .returned (.bool true) ∧ Below W.heap.size W w') := Lib.hid (fun W => begun_calls W)
 have HRl : Hid (nn = l.length ∧ nn ≤ c ∧ Kd.C k43 w A l.length l) := Lib.hid ⟨hnl, by omega, hrl⟩
 have HCE := Lib.hid hC1
 have HJ1 := Lib.hid hj1
 have hjc1 : j1 ≤ c1 := by omega
 rw [← hn0, ← hm1]
 clear hf0 hr hc hr1 hc1 hin hn0 hm1 hj1 hl hn hnl hrl hfl hm0 hE1 hC1 hinE hev hrun
 go_enter Tryz.func3, Tryz.ntmps3
 go_upto_region 1 with fail
 have hbox : (w.alloc (.cells #[.slice A n0 c, .bool q] 24)).heap[w.heap.size]? = some (.cells #[.slice A n0 c, .bool q] 24 (0, 0)) := blk_new w _
 have hb0 : Below w.heap.size w (w.alloc (.cells #[.slice A n0 c, .bool q] 24)) := below_alloc (Below.refl _ _) _
 generalize w.alloc (.cells #[.slice A n0 c, .bool q] 24) = w1 at hbox hb0 ⊢
 go_cut [1] (fun s1 wx => s1 = .slice A1 j1 c1 ∧ Hid (T1 w wx A nn c q l))
 case first =>
  refine start_ (n := 9) (S := fun w' => w'.cell? ⟨w.heap.size, 0, none⟩ = some (.slice A n0 c) ∧ w'.cell? ⟨w.heap.size, 1, none⟩ = some (.bool q)) (ds := [7]) #[false, false, false, false, false, false, false, false, false] (by kernel_rfl) rfl rfl ⟨(blk_cell hbox 0).trans rfl, (blk_cell hbox 1).trans rfl⟩ (fun hHeld => ?_)
  refine with_tabW tab1parts.1 tab1parts.2 (fun HT_ HW_ => ?_)
  have hbox1 := blk_drew hbox
  have hbw : Below w.heap.size w w1.drew := below_drew hb0
  generalize w1.drew = w2 at hHeld hbox1 hbw ⊢
  clear hbox hb0
  have hji1 : (if 40 < (m1 : Int) then 40 else (m1 : Int)) = (j1 : Int) := HJ1.out.symm
  obtain ⟨i0, hi0, _, _, _⟩ := info_parts edit_info2
  have hcut1 := cut_to (P := Tryz.prog) 25 45 .i64 Tryz.underlying25 hi0 A1 m1 c1 (j1 : Int) (Int.natCast_nonneg j1) (Int.ofNat_le.2 hjm1) hmc1
  rw [Int.toNat_natCast] at hcut1
  refine pure_ (i := 2) (N := some 20) (v := ?_) (a' := ?_) #[false, false, true, false, false, false, false, false, false] rfl rfl (any_of HT_.out (by kernel_rfl)) (fun _ _ _ h => h) (Or.inl ⟨by rfl, ?_⟩) ?_ ?_
  rotate_left
  ·intro w'
   go_simp
   with_reducible rfl
  rotate_left
  ·simp only [Act.put, List.setIfInBounds_toArray, List.set_cons_zero, List.set_cons_succ, i64_w, i32_w]
   rfl
  refine pure_ (i := 3) (N := some 21) (v := ?_) (a' := ?_) #[false, false, true, true, false, false, false, false, false] rfl rfl (any_of HT_.out (by kernel_rfl)) (fun _ _ _ h => h) (Or.inl ⟨by rfl, ?_⟩) ?_ ?_
  rotate_left
  ·intro w'
   go_simp
   with_reducible rfl
  rotate_left
  ·simp only [Act.put, List.setIfInBounds_toArray, List.set_cons_zero, List.set_cons_succ, i64_w, i32_w]
   rfl
  refine pure_ (i := 4) (N := some 22) (v := ?_) (a' := ?_) #[false, false, true, true, true, false, false, false, false] rfl rfl (any_of HT_.out (by kernel_rfl)) (fun _ _ _ h => h) (Or.inl ⟨by rfl, ?_⟩) ?_ ?_
  rotate_left
  ·intro w'
   go_simp
   with_reducible rfl
  rotate_left
  ·simp only [Act.put, List.setIfInBounds_toArray, List.set_cons_zero, List.set_cons_succ, i64_w, i32_w]
   rfl
  refine pure_ (i := 5) (N := some 23) (v := ?_) (a' := ?_) #[false, false, true, true, true, true, false, false, false] rfl rfl (any_of HT_.out (by kernel_rfl)) (fun _ _ _ h => h) (Or.inl ⟨by rfl, ?_⟩) ?_ ?_
  rotate_left
  ·intro w'
   go_simp
   with_reducible rfl
  rotate_left
  ·simp only [Act.put, List.setIfInBounds_toArray, List.set_cons_zero, List.set_cons_succ, i64_w, i32_w]
   rfl
  refine pure_ (i := 6) (N := some 24) (v := ?_) (a' := ?_) #[false, false, true, true, true, true, true, false, false] rfl rfl (any_of HT_.out (by kernel_rfl)) (fun _ _ _ h => h) (Or.inl ⟨by rfl, ?_⟩) ?_ ?_
  rotate_left
  ·intro w'
   go_simp
   with_reducible rfl
  rotate_left
  ·simp only [Act.put, List.setIfInBounds_toArray, List.set_cons_zero, List.set_cons_succ, i64_w, i32_w]
   rfl
  refine take_ (i := 0) (N := some 18) (v := ?_) (a' := ?_) #[true, false, true, true, true, true, true, false, false] rfl rfl (take_ofW HT_.out HW_.out (by kernel_rfl)) (fun _ _ _ h => h) (Or.inl ⟨by rfl, ?_⟩) hHeld ?_ ?_
  rotate_left
  ·rintro w' ⟨s0, s1⟩
   go_simp
   with_reducible rfl
  rotate_left
  ·simp only [Act.put, List.setIfInBounds_toArray, List.set_cons_zero, List.set_cons_succ, i64_w, i32_w]
   rfl
  refine one_ (i := 1) (N := some 19) #[true, true, true, true, true, true, true, false, false] rfl rfl (one_of HT_.out (by kernel_rfl)) (by decide) (fun K hK => ?_)
  refine goes_ Tryz.func6 (by kernel_rfl) rfl #[.agg #[.slice A n0 c, .bool q], .int .i64 40] (by rfl) rfl rfl (by (try simp only [List.map_toArray, List.map_cons, List.map_nil]); first | done | rfl) ?_
  refine (HFew.out w2).mono ?_
  rintro u w3 ⟨rfl, hb3⟩
  refine ⟨_, rfl, ?_⟩
  have hbox3 := blk_below hbox1 hb3
  refine hK.out _ _ ⟨(blk_cell hbox3 0).trans rfl, (blk_cell hbox3 1).trans rfl⟩ (fun hHeld => ?_)
  clear hK K
  refine norm_ (a' := ?_) ?_ ?_
  rotate_left
  ·show Act.put _ (some 19) _ = _
   simp only [Act.put, List.setIfInBounds_toArray, List.set_cons_zero, List.set_cons_succ, i64_w, i32_w]
   rfl
  refine last_ (i := 7) (N := none) #[true, true, true, true, true, true, true, true, false] rfl rfl (one_of HT_.out (by kernel_rfl)) (by decide) (fun K hK => ?_)
  have hs0 : w3.cell? ⟨w.heap.size, 0, none⟩ = some (.slice A n0 c) := (blk_cell hbox3 0).trans rfl
  have hf0 := blk_frozen hbox3 0
  have hs1 : w3.cell? ⟨w.heap.size, 1, none⟩ = some (.bool q) := (blk_cell hbox3 1).trans rfl
  have hf1 := blk_frozen hbox3 1
  refine skip_ (w1 := ?_) (by rfl) rfl ?_ ?_
  rotate_left
  ·go_simp
   rfl
  refine hK.out _ _ ?_
  clear hK K
  refine pure_ (i := 8) (N := some 1) (v := ?_) (a' := ?_) #[true, true, true, true, true, true, true, true, true] rfl rfl (any_of HT_.out (by kernel_rfl)) (fun _ _ _ h => h) (Or.inl ⟨by rfl, ?_⟩) ?_ ?_
  rotate_left
  ·intro w'
   go_simp
   with_reducible rfl
  rotate_left
  ·simp only [Act.put, List.setIfInBounds_toArray, List.set_cons_zero, List.set_cons_succ, i64_w, i32_w]
   rfl
  refine done_ (done_of HT_.out (by kernel_rfl)) ?_
  go_wp2_with fail
  go_meet
  have hbw3 := hbw.trans (hb3.mono hbw.size)
  have hk := blk_put (blk_put (cs' := #[.slice A nn c, .bool q]) hbox3 0 (.slice A nn c) rfl) 1 (.bool q) rfl
  have hbe := (hbw3.setCell (p := ⟨w.heap.size, 0, none⟩) (Nat.le_refl _) (.slice A nn c)).setCell (p := ⟨w.heap.size, 1, none⟩) (Nat.le_refl _) (.bool q)
  exact ⟨rfl, Lib.hid ⟨⟨hk, HRl.out.1, HRl.out.2.1, Kd.C_below HRl.out.2.2 hbe⟩, hbe⟩⟩
 case rest =>
  rename World => W1
  obtain ⟨rfl, HT⟩ := hcut
  clear HFew HJ1
  obtain ⟨p0, p1⟩ := HT.out.bx.cells
  go_upto_region 2 with fail
  go_wp2_with fail
  refine (HDo.out W1 HT.out.below).mono ?_
  rintro u w1 ⟨hb1, hok, hno⟩
  have HT1 := Lib.hid (HT.out.on hb1)
  clear p0 p1 HT HDo HAll
  by_cases h0 : er = 0
  ·obtain ⟨A2, n2, c2, B, d, ss, rfl, hn2, hc2, hd, hr2, hrs, hrec, hfst⟩ := hok h0
   obtain ⟨n1, hn1⟩ : ∃ n1, n1 = ss.length := ⟨_, rfl⟩
   obtain ⟨hrun, hev, hE1⟩ := HRun.out
   obtain ⟨h40, hrn⟩ := hrun h0
   have hsl : ss.length = j1 := by rw [← hE1, ← hfst, List.length_map]
   by_cases hneg : at_ < 0
   ·have e2 : decide (at_ < 0) = true := decide_eq_true hneg
    rw [← hn1]
    clear hok hno hn2 hc2 hd hr2 hrs hrec hfst hn1 hrun hev hE1 h40 hrn hsl HRun hb1 hneg
    subst h0
    go_upto_region 3 with fail
    obtain ⟨W3, hW3⟩ : ∃ W3, W3 = w1.alloc (.cells #[.slice A2 n2 c2, .bool q] 24) := ⟨_, rfl⟩
    have hb3 : Below w1.heap.size w1 W3 := by rw [hW3]; exact below_alloc (Below.refl _ _) _
    rw [← hW3]
    clear hW3
    have HT3 := Lib.hid (HT1.out.on hb3)
    clear hb3
    go_wp2_with fail
    refine (HBg.out W3).mono ?_
    rintro u w5 ⟨rfl, hb5⟩
    have HT4 := Lib.hid (HT3.out.on hb5)
    clear hb5
    go_wp2_with fail
    go_ret
    exact ⟨rfl, HT4.out.below⟩
   ·by_cases hbig : (n1 : Int) < at_
    ·have e2 : decide (at_ < 0) = false := decide_eq_false hneg
     have e3 : decide ((n1 : Int) < at_) = true := decide_eq_true hbig
     rw [← hn1]
     clear hok hno hn2 hc2 hd hr2 hrs hrec hfst hn1 hrun hev hE1 h40 hrn hsl HRun hb1 hneg hbig
     subst h0
     go_upto_region 3 with fail
     obtain ⟨W3, hW3⟩ : ∃ W3, W3 = w1.alloc (.cells #[.slice A2 n2 c2, .bool q] 24) := ⟨_, rfl⟩
     have hb3 : Below w1.heap.size w1 W3 := by rw [hW3]; exact below_alloc (Below.refl _ _) _
     rw [← hW3]
     clear hW3
     have HT3 := Lib.hid (HT1.out.on hb3)
     clear hb3
     go_wp2_with fail
     refine (HBg.out W3).mono ?_
     rintro u w5 ⟨rfl, hb5⟩
     have HT4 := Lib.hid (HT3.out.on hb5)
     clear hb5
     go_wp2_with fail
     go_ret
     exact ⟨rfl, HT4.out.below⟩
    ·obtain ⟨j, hj⟩ : ∃ j : Nat, at_ = (j : Int) := ⟨at_.toNat, by omega⟩
     subst hj
     have hjn : j ≤ n1 := by omega
     have hj40' : ss.length ≤ 40 := by omega
     obtain ⟨m, hra, hrb⟩ := Rec.split (ss.take j) (b := ss.drop j) (by rw [List.take_append_drop]; exact hrec)
     obtain ⟨i5, hi5, _, hz5, _⟩ := info_parts hstep_info
     obtain ⟨i7, hi7, _, _, _⟩ := info_parts edit_info2
     have hcut5 := cut_from (P := Tryz.prog) 27 48 .i64 Tryz.underlying27 hi5 16 hz5 B n1 d (j : Int) (Int.natCast_nonneg j) (Int.ofNat_le.2 hjn)
     have hcut6 := cut_to (P := Tryz.prog) 27 48 .i64 Tryz.underlying27 hi5 B n1 d (j : Int) (Int.natCast_nonneg j) (Int.ofNat_le.2 hjn) (by omega)
     have hcut7 := cut_to (P := Tryz.prog) 25 45 .i64 Tryz.underlying25 hi7 A1 j1 c1 (j : Int) (Int.natCast_nonneg j) (Int.ofNat_le.2 (by omega)) hjc1
     rw [Int.toNat_natCast] at hcut5 hcut6 hcut7
     have hCd : Kd.C k48 w1 (if d = j then B else B.map (·.add (j * 16))) (ss.drop j).length (ss.drop j) := Kd.C_drop hrs (by omega) hd
     have hCt := Kd.C_take (m := j) hrs (by omega)
     have hdl : (ss.drop j).length = n1 - j := by rw [List.length_drop, hn1]
     have htl : (ss.take j).length = j := by rw [List.length_take]; omega
     obtain ⟨B5, hB5⟩ : ∃ B5, B5 = (if d = j then B else B.map (·.add (j * 16))) := ⟨_, rfl⟩
     obtain ⟨n5, hn5⟩ : ∃ n5, n5 = n1 - j := ⟨_, rfl⟩
     obtain ⟨d5, hd5⟩ : ∃ d5, d5 = d - j := ⟨_, rfl⟩
     rw [← hB5, ← hn5, ← hd5] at hcut5
     rw [← hB5] at hCd
     rw [← hn5] at hdl
     have HC5 := Lib.hid hcut5
     have HC6 := Lib.hid hcut6
     have HC7 := Lib.hid hcut7
     have HU5 : Hid (∀ (W : World), Below w1.heap.size w1 W → Calls Tryz.prog 9 #[.agg #[.slice A2 n2 c2, .bool q], .slice B5 n5 d5] W fun u w' => ∃ A' n' c', u = .returned (.tuple #[.agg #[.slice A' n' c', .bool q], .int .i64 0]) ∧ Kd.S k43 43 w' 0 (fun _ => True) (.slice A' n' c') m ∧ Below W.heap.size W w') := Lib.hid (fun W hb => by
      have h := undo_S hrb (by rw [List.length_drop]; omega) A2 B5 c2 d5 W (Kd.C_below hr2 hb) (by omega) (Kd.C_below hCd hb)
      rw [← hn2, hdl] at h
      refine h.mono ?_
      rintro u w' ⟨A', n', c', h1, h2, h3, h4, h5⟩
      exact ⟨A', n', c', h1, h4, h5⟩)
     have HU6 : Hid (∀ (W : World) (A3 : Option Addr) (n3 c3 : Nat), Below w1.heap.size w1 W → (n3 = m.length ∧ n3 ≤ c3 ∧ Kd.C k43 W A3 m.length m) → Calls Tryz.prog 9 #[.agg #[.slice A3 n3 c3, .bool q], .slice B j d] W fun u w' => ∃ A' n' c', u = .returned (.tuple #[.agg #[.slice A' n' c', .bool q], .int .i64 0]) ∧ Kd.S k43 43 w' 0 (fun _ => True) (.slice A' n' c') l ∧ Below W.heap.size W w') := Lib.hid (fun W A3 n3 c3 hb hrd => by
      have h := undo_S hra (by omega) A3 B c3 d W hrd.2.2 (by rw [← hrd.1]; exact hrd.2.1) (Kd.C_below hCt hb)
      rw [← hrd.1, htl] at h
      refine h.mono ?_
      rintro u w' ⟨A', n', c', h1, h2, h3, h4, h5⟩
      exact ⟨A', n', c', h1, h4, h5⟩)
     have HA7 : Hid (∀ W : World, Below w.heap.size w W → Calls Tryz.prog 10 #[.agg #[.slice A nn c, .bool q], .slice A1 j c1] W fun u w' => ∃ A' n' c', u = .returned (.tuple #[.agg #[.slice A' n' c', .bool q], .int .i64 0, .int .i64 0]) ∧ Kd.S k43 43 w' 0 (fun _ => True) (.slice A' n' c') m ∧ Below W.heap.size W w') := Lib.hid (by
      have hrA : Run q l (E.take j) m := by rw [← hfst, ← List.map_take]; exact hra.run
      have htE : (E.take j).length = j := by rw [List.length_take]; omega
      obtain ⟨k, hk⟩ := ev_at (hrA.all (by omega))
      obtain ⟨hnl, hnc, hrl⟩ := HRl.out
      have hC7 := Kd.C_take (m := j) HCE.out (by omega)
      intro W hb
      have h := dom_All.calls k A c l q A1 c1 (E.take j) m q 0 0 W (Kd.C_below hrl hb) (by omega) (Kd.C_below hC7 hb) (by omega) hk
      rw [← hnl, htE] at h
      refine h.mono ?_
      rintro u w' ⟨v, rfl, hS, hb'⟩
      obtain ⟨A', c', rfl⟩ := Kd.S_slice hS
      exact ⟨A', _, c', rfl, Kd.S_lower hS (Nat.zero_le _), hb'⟩)
     have HR2 : Hid (n2 = l2.length ∧ n2 ≤ c2 ∧ Kd.C k43 w1 A2 l2.length l2) := Lib.hid ⟨hn2, hc2, hr2⟩
     have HD := Lib.hid (⟨hra.run.docs.1, hra.run.docs.2⟩ : _ ∧ _)
     have e2 : decide ((j : Int) < 0) = false := decide_eq_false hneg
     have e3 : decide ((n1 : Int) < (j : Int)) = false := decide_eq_false hbig
     have e4 : decide (n1 < j) = false := decide_eq_false (by omega)
     rw [← hn1]
     clear hok hno hn2 hc2 hd hr2 hrs hrec hfst hn1 hrun hev hE1 h40 hrn hsl HRun hb1 hneg hbig hjn hj40' hra hrb hi5 hz5 hi7 hcut5 hcut6 hcut7 hCd hCt hdl htl hB5 hn5 hd5
     subst h0
     go_upto_region 3 with fail
     obtain ⟨W3, hW3⟩ : ∃ W3, W3 = w1.alloc (.cells #[.slice A2 n2 c2, .bool q] 24) := ⟨_, rfl⟩
     have hb3 : Below w1.heap.size w1 W3 := by rw [hW3]; exact below_alloc (Below.refl _ _) _
     have H5 : Hid (BX W3 w1.heap.size A2 n2 c2 q l2) := Lib.hid (by rw [hW3]; exact BX.of HR2.out)
     rw [← hW3]
     clear hW3
     have HT3 := Lib.hid (HT1.out.on hb3)
     have HB3 := Lib.hid hb3
     clear hb3
     go_upto_region 5 with fail
     have HE : Hid (∀ W : World, Below W3.heap.size W3 W → W.cell? ⟨w1.heap.size, 0, none⟩ = some (.slice A2 n2 c2) ∧ W.cell? ⟨w1.heap.size, 1, none⟩ = some (.bool q)) := Lib.hid (fun W hb => (H5.out.on hb).cells)
     go_cut [11, 12] (fun s11 s12 wx => s12 = .int .i64 0 ∧ ∃ g A' n' c', s11 = .pointer (some ⟨g, 0, none⟩) ∧ Hid (PB W3 wx g A' n' c' q m))
     case first =>
      have hcut5 := HC5.out
      refine start_ (n := 11) (S := fun w' => w'.cell? ⟨w1.heap.size, 0, none⟩ = some (.slice A2 n2 c2) ∧ w'.cell? ⟨w1.heap.size, 1, none⟩ = some (.bool q)) (ds := [9]) #[false, false, false, false, false, false, false, false, false, false, false] (by kernel_rfl) rfl rfl (HE.out _ (below_drew (Below.refl _ _))) (fun hHeld => ?_)
      refine with_tabW tab5parts.1 tab5parts.2 (fun HT_ HW_ => ?_)
      have hbr := below_drew (Below.refl W3.heap.size W3)
      generalize W3.drew = w_0 at hHeld hbr ⊢
      refine pure_ (i := 1) (N := some 48) (v := ?_) (a' := ?_) #[false, true, false, false, false, false, false, false, false, false, false] rfl rfl (any_of HT_.out (by kernel_rfl)) (fun _ _ _ h => h) (Or.inl ⟨by rfl, ?_⟩) ?_ ?_
      rotate_left
      ·intro w'
       go_simp
       with_reducible rfl
      rotate_left
      ·simp only [Act.put, List.setIfInBounds_toArray, List.set_cons_zero, List.set_cons_succ, i64_w, i32_w]
       rfl
      refine pure_ (i := 2) (N := some 49) (v := ?_) (a' := ?_) #[false, true, true, false, false, false, false, false, false, false, false] rfl rfl (any_of HT_.out (by kernel_rfl)) (fun _ _ _ h => h) (Or.inl ⟨by rfl, ?_⟩) ?_ ?_
      rotate_left
      ·intro w'
       go_simp
       with_reducible rfl
      rotate_left
      ·simp only [Act.put, List.setIfInBounds_toArray, List.set_cons_zero, List.set_cons_succ, i64_w, i32_w]
       rfl
      refine pure_ (i := 3) (N := some 50) (v := ?_) (a' := ?_) #[false, true, true, true, false, false, false, false, false, false, false] rfl rfl (any_of HT_.out (by kernel_rfl)) (fun _ _ _ h => h) (Or.inl ⟨by rfl, ?_⟩) ?_ ?_
      rotate_left
      ·intro w'
       go_simp
       with_reducible rfl
      rotate_left
      ·simp only [Act.put, List.setIfInBounds_toArray, List.set_cons_zero, List.set_cons_succ, i64_w, i32_w]
       rfl
      refine take_ (i := 0) (N := some 47) (v := ?_) (a' := ?_) #[true, true, true, true, false, false, false, false, false, false, false] rfl rfl (take_ofW HT_.out HW_.out (by kernel_rfl)) (fun _ _ _ h => h) (Or.inl ⟨by rfl, ?_⟩) hHeld ?_ ?_
      rotate_left
      ·rintro w' ⟨s0, s1⟩
       go_simp
       with_reducible rfl
      rotate_left
      ·simp only [Act.put, List.setIfInBounds_toArray, List.set_cons_zero, List.set_cons_succ, i64_w, i32_w]
       rfl
      refine two_ (i := 4) (j := 8) (Ni := some 51) (Nj := some 11) #[true, true, true, true, true, false, false, false, false, false, false] #[true, true, true, true, false, false, false, false, true, false, false] rfl rfl rfl rfl (two_of HT_.out (by kernel_rfl)) (by decide) (by decide) (fun K hK => ?_) (fun K hK => ?_)
      ·refine goes_ Tryz.func9 (by kernel_rfl) rfl #[.agg #[.slice A2 n2 c2, .bool q], .slice B5 n5 d5] (by rfl) rfl rfl (by (try simp only [List.map_toArray, List.map_cons, List.map_nil]); first | done | rfl) ?_
       refine (HU5.out w_0 (HB3.out.trans (hbr.mono HB3.out.size))).mono ?_
       rintro u_ w_1 ⟨Ar, nr, cr, rfl, hS, hbb⟩
       refine ⟨_, rfl, ?_⟩
       replace hbr := hbr.trans (hbb.mono hbr.size)
       clear hbb
       refine hK.out _ _ (HE.out _ hbr) (fun hHeld => ?_)
       clear hK K
       refine norm_ (a' := ?_) ?_ ?_
       rotate_left
       ·show Act.put _ (some 51) _ = _
        simp only [Act.put, List.setIfInBounds_toArray, List.set_cons_zero, List.set_cons_succ, i64_w, i32_w]
        rfl
       refine pure_ (i := 5) (N := some 46) (v := ?_) (a' := ?_) #[true, true, true, true, true, true, false, false, false, false, false] rfl rfl (any_of HT_.out (by kernel_rfl)) (fun _ _ _ h => h) (Or.inl ⟨by rfl, ?_⟩) ?_ ?_
       rotate_left
       ·intro w'
        go_simp
        with_reducible rfl
       rotate_left
       ·simp only [Act.put, List.setIfInBounds_toArray, List.set_cons_zero, List.set_cons_succ, i64_w, i32_w]
        rfl
       refine pure_ (i := 6) (N := some 52) (v := ?_) (a' := ?_) #[true, true, true, true, true, true, true, false, false, false, false] rfl rfl (any_of HT_.out (by kernel_rfl)) (fun _ _ _ h => h) (Or.inl ⟨by rfl, ?_⟩) ?_ ?_
       rotate_left
       ·intro w'
        go_simp
        with_reducible rfl
       rotate_left
       ·simp only [Act.put, List.setIfInBounds_toArray, List.set_cons_zero, List.set_cons_succ, i64_w, i32_w]
        rfl
       refine pure_ (i := 7) (N := some 53) (v := ?_) (a' := ?_) #[true, true, true, true, true, true, true, true, false, false, false] rfl rfl (any_of HT_.out (by kernel_rfl)) (fun _ _ _ h => h) (Or.inl ⟨by rfl, ?_⟩) ?_ ?_
       rotate_left
       ·intro w'
        go_simp
        with_reducible rfl
       rotate_left
       ·simp only [Act.put, List.setIfInBounds_toArray, List.set_cons_zero, List.set_cons_succ, i64_w, i32_w]
        rfl
       refine one_ (i := 8) (N := some 11) #[true, true, true, true, true, true, true, true, true, false, false] rfl rfl (one_of HT_.out (by kernel_rfl)) (by decide) (fun K hK => ?_)
       refine box_step ?hg (N := 11) ?hd (cs := #[.slice none 0 0, .bool false]) (t := 24) ?hr ?_; (case hd => rfl); (case hg => rfl); (case hr => first | (go_simp; done) | (go_simp; rfl))
       intro g5 hg5 w_2 hbox5 hbb
       have hge5 : W3.heap.size ≤ g5 := by rw [hg5]; exact hbr.size
       replace hS := Kd.S_below hS hbb
       replace hbr := hbr.trans (hbb.mono hbr.size)
       clear hg5 hbb
       refine hK.out _ _ (HE.out _ hbr) (fun hHeld => ?_)
       clear hK K
       refine norm_ (a' := ?_) ?_ ?_
       rotate_left
       ·show Act.put _ (some 11) _ = _
        simp only [Act.put, List.setIfInBounds_toArray, List.set_cons_zero, List.set_cons_succ, i64_w, i32_w]
        rfl
       refine last_ (i := 9) (N := none) #[true, true, true, true, true, true, true, true, true, true, false] rfl rfl (one_of HT_.out (by kernel_rfl)) (by decide) (fun K hK => ?_)
       have hs0 := (blk_cell hbox5 0).trans (show #[Value.slice none 0 0, .bool false][0]? = some (.slice none 0 0) from rfl)
       have hf0 := blk_frozen hbox5 0
       have hs1 := (blk_cell hbox5 1).trans (show #[Value.slice none 0 0, .bool false][1]? = some (.bool false) from rfl)
       have hf1 := blk_frozen hbox5 1
       refine skip_ (w1 := ?_) (by rfl) rfl ?_ ?_
       rotate_left
       ·go_simp
        rfl
       refine hK.out _ _ ?_
       clear hK K
       refine pure_ (i := 10) (N := some 12) (v := ?_) (a' := ?_) #[true, true, true, true, true, true, true, true, true, true, true] rfl rfl (any_of HT_.out (by kernel_rfl)) (fun _ _ _ h => h) (Or.inl ⟨by rfl, ?_⟩) ?_ ?_
       rotate_left
       ·intro w'
        go_simp
        with_reducible rfl
       rotate_left
       ·simp only [Act.put, List.setIfInBounds_toArray, List.set_cons_zero, List.set_cons_succ, i64_w, i32_w]
        rfl
       refine done_ (done_of HT_.out (by kernel_rfl)) ?_
       go_wp2_with fail
       go_meet
       have hq1 := blk_put (cs' := #[.slice Ar nr cr, .bool false]) hbox5 0 (.slice Ar nr cr) rfl
       have hS2 := Kd.S_set (Kd.S_set hS hbox5 (by decide) 0 (.slice Ar nr cr)) hq1 (by decide) 1 (.bool q)
       exact ⟨rfl, g5, Ar, nr, cr, rfl, Lib.hid ⟨⟨blk_put (cs' := #[.slice Ar nr cr, .bool q]) hq1 1 (.bool q) rfl, Kd.S_reads' hS2⟩, (hbr.setCell (p := ⟨g5, 0, none⟩) hge5 _).setCell (p := ⟨g5, 1, none⟩) hge5 _⟩⟩
      ·refine box_step ?hg (N := 11) ?hd (cs := #[.slice none 0 0, .bool false]) (t := 24) ?hr ?_; (case hd => rfl); (case hg => rfl); (case hr => first | (go_simp; done) | (go_simp; rfl))
       intro g5 hg5 w_3 hbox5 hbb
       have hge5 : W3.heap.size ≤ g5 := by rw [hg5]; exact hbr.size
       replace hbr := hbr.trans (hbb.mono hbr.size)
       clear hg5 hbb
       refine hK.out _ _ (HE.out _ hbr) (fun hHeld => ?_)
       clear hK K
       refine norm_ (a' := ?_) ?_ ?_
       rotate_left
       ·show Act.put _ (some 11) _ = _
        simp only [Act.put, List.setIfInBounds_toArray, List.set_cons_zero, List.set_cons_succ, i64_w, i32_w]
        rfl
       refine one_ (i := 4) (N := some 51) #[true, true, true, true, true, false, false, false, true, false, false] rfl rfl (one_of HT_.out (by kernel_rfl)) (by decide) (fun K hK => ?_)
       refine goes_ Tryz.func9 (by kernel_rfl) rfl #[.agg #[.slice A2 n2 c2, .bool q], .slice B5 n5 d5] (by rfl) rfl rfl (by (try simp only [List.map_toArray, List.map_cons, List.map_nil]); first | done | rfl) ?_
       refine (HU5.out w_3 (HB3.out.trans (hbr.mono HB3.out.size))).mono ?_
       rintro u_ w_4 ⟨Ar, nr, cr, rfl, hS, hbb⟩
       refine ⟨_, rfl, ?_⟩
       replace hbox5 := blk_below hbox5 hbb
       replace hbr := hbr.trans (hbb.mono hbr.size)
       clear hbb
       refine hK.out _ _ (HE.out _ hbr) (fun hHeld => ?_)
       clear hK K
       refine norm_ (a' := ?_) ?_ ?_
       rotate_left
       ·show Act.put _ (some 51) _ = _
        simp only [Act.put, List.setIfInBounds_toArray, List.set_cons_zero, List.set_cons_succ, i64_w, i32_w]
        rfl
       refine pure_ (i := 5) (N := some 46) (v := ?_) (a' := ?_) #[true, true, true, true, true, true, false, false, true, false, false] rfl rfl (any_of HT_.out (by kernel_rfl)) (fun _ _ _ h => h) (Or.inl ⟨by rfl, ?_⟩) ?_ ?_
       rotate_left
       ·intro w'
        go_simp
        with_reducible rfl
       rotate_left
       ·simp only [Act.put, List.setIfInBounds_toArray, List.set_cons_zero, List.set_cons_succ, i64_w, i32_w]
        rfl
       refine pure_ (i := 6) (N := some 52) (v := ?_) (a' := ?_) #[true, true, true, true, true, true, true, false, true, false, false] rfl rfl (any_of HT_.out (by kernel_rfl)) (fun _ _ _ h => h) (Or.inl ⟨by rfl, ?_⟩) ?_ ?_
       rotate_left
       ·intro w'
        go_simp
        with_reducible rfl
       rotate_left
       ·simp only [Act.put, List.setIfInBounds_toArray, List.set_cons_zero, List.set_cons_succ, i64_w, i32_w]
        rfl
       refine pure_ (i := 7) (N := some 53) (v := ?_) (a' := ?_) #[true, true, true, true, true, true, true, true, true, false, false] rfl rfl (any_of HT_.out (by kernel_rfl)) (fun _ _ _ h => h) (Or.inl ⟨by rfl, ?_⟩) ?_ ?_
       rotate_left
       ·intro w'
        go_simp
        with_reducible rfl
       rotate_left
       ·simp only [Act.put, List.setIfInBounds_toArray, List.set_cons_zero, List.set_cons_succ, i64_w, i32_w]
        rfl
       refine last_ (i := 9) (N := none) #[true, true, true, true, true, true, true, true, true, true, false] rfl rfl (one_of HT_.out (by kernel_rfl)) (by decide) (fun K hK => ?_)
       have hs0 := (blk_cell hbox5 0).trans (show #[Value.slice none 0 0, .bool false][0]? = some (.slice none 0 0) from rfl)
       have hf0 := blk_frozen hbox5 0
       have hs1 := (blk_cell hbox5 1).trans (show #[Value.slice none 0 0, .bool false][1]? = some (.bool false) from rfl)
       have hf1 := blk_frozen hbox5 1
       refine skip_ (w1 := ?_) (by rfl) rfl ?_ ?_
       rotate_left
       ·go_simp
        rfl
       refine hK.out _ _ ?_
       clear hK K
       refine pure_ (i := 10) (N := some 12) (v := ?_) (a' := ?_) #[true, true, true, true, true, true, true, true, true, true, true] rfl rfl (any_of HT_.out (by kernel_rfl)) (fun _ _ _ h => h) (Or.inl ⟨by rfl, ?_⟩) ?_ ?_
       rotate_left
       ·intro w'
        go_simp
        with_reducible rfl
       rotate_left
       ·simp only [Act.put, List.setIfInBounds_toArray, List.set_cons_zero, List.set_cons_succ, i64_w, i32_w]
        rfl
       refine done_ (done_of HT_.out (by kernel_rfl)) ?_
       go_wp2_with fail
       go_meet
       have hq1 := blk_put (cs' := #[.slice Ar nr cr, .bool false]) hbox5 0 (.slice Ar nr cr) rfl
       have hS2 := Kd.S_set (Kd.S_set hS hbox5 (by decide) 0 (.slice Ar nr cr)) hq1 (by decide) 1 (.bool q)
       exact ⟨rfl, g5, Ar, nr, cr, rfl, Lib.hid ⟨⟨blk_put (cs' := #[.slice Ar nr cr, .bool q]) hq1 1 (.bool q) rfl, Kd.S_reads' hS2⟩, (hbr.setCell (p := ⟨g5, 0, none⟩) hge5 _).setCell (p := ⟨g5, 1, none⟩) hge5 _⟩⟩
     case rest =>
      obtain ⟨rfl, g5, A5, m5, c5, rfl, HX5⟩ := hcut
      rename World => W4
      have HT4 := Lib.hid (HT3.out.on HX5.out.below)
      have HB4 := Lib.hid (HB3.out.trans (HX5.out.below.mono HB3.out.size))
      clear HE H5 HT3 HC5 HU5
      have HE : Hid (∀ W : World, Below W4.heap.size W4 W → W.cell? ⟨g5, 0, none⟩ = some (.slice A5 m5 c5) ∧ W.cell? ⟨g5, 1, none⟩ = some (.bool q)) := Lib.hid (fun W hb => (HX5.out.bx.on hb).cells)
      go_upto_region 6 with fail
      go_cut [13, 14] (fun s13 s14 wx => s14 = .int .i64 0 ∧ ∃ g A' n' c', s13 = .pointer (some ⟨g, 0, none⟩) ∧ Hid (PB W4 wx g A' n' c' q l))
      case first =>
       have hcut6 := HC6.out
       refine start_ (n := 11) (S := fun w' => w'.cell? ⟨g5, 0, none⟩ = some (.slice A5 m5 c5) ∧ w'.cell? ⟨g5, 1, none⟩ = some (.bool q)) (ds := [9]) #[false, false, false, false, false, false, false, false, false, false, false] (by kernel_rfl) rfl rfl (HE.out _ (below_drew (Below.refl _ _))) (fun hHeld => ?_)
       refine with_tabW tab6parts.1 tab6parts.2 (fun HT_ HW_ => ?_)
       have hbr := below_drew (Below.refl W4.heap.size W4)
       generalize W4.drew = w_0 at hHeld hbr ⊢
       refine pure_ (i := 1) (N := some 56) (v := ?_) (a' := ?_) #[false, true, false, false, false, false, false, false, false, false, false] rfl rfl (any_of HT_.out (by kernel_rfl)) (fun _ _ _ h => h) (Or.inl ⟨by rfl, ?_⟩) ?_ ?_
       rotate_left
       ·intro w'
        go_simp
        with_reducible rfl
       rotate_left
       ·simp only [Act.put, List.setIfInBounds_toArray, List.set_cons_zero, List.set_cons_succ, i64_w, i32_w]
        rfl
       refine pure_ (i := 2) (N := some 57) (v := ?_) (a' := ?_) #[false, true, true, false, false, false, false, false, false, false, false] rfl rfl (any_of HT_.out (by kernel_rfl)) (fun _ _ _ h => h) (Or.inl ⟨by rfl, ?_⟩) ?_ ?_
       rotate_left
       ·intro w'
        go_simp
        with_reducible rfl
       rotate_left
       ·simp only [Act.put, List.setIfInBounds_toArray, List.set_cons_zero, List.set_cons_succ, i64_w, i32_w]
        rfl
       refine pure_ (i := 3) (N := some 58) (v := ?_) (a' := ?_) #[false, true, true, true, false, false, false, false, false, false, false] rfl rfl (any_of HT_.out (by kernel_rfl)) (fun _ _ _ h => h) (Or.inl ⟨by rfl, ?_⟩) ?_ ?_
       rotate_left
       ·intro w'
        go_simp
        with_reducible rfl
       rotate_left
       ·simp only [Act.put, List.setIfInBounds_toArray, List.set_cons_zero, List.set_cons_succ, i64_w, i32_w]
        rfl
       refine take_ (i := 0) (N := some 55) (v := ?_) (a' := ?_) #[true, true, true, true, false, false, false, false, false, false, false] rfl rfl (take_ofW HT_.out HW_.out (by kernel_rfl)) (fun _ _ _ h => h) (Or.inl ⟨by rfl, ?_⟩) hHeld ?_ ?_
       rotate_left
       ·rintro w' ⟨s0, s1⟩
        go_simp
        with_reducible rfl
       rotate_left
       ·simp only [Act.put, List.setIfInBounds_toArray, List.set_cons_zero, List.set_cons_succ, i64_w, i32_w]
        rfl
       refine two_ (i := 4) (j := 8) (Ni := some 59) (Nj := some 13) #[true, true, true, true, true, false, false, false, false, false, false] #[true, true, true, true, false, false, false, false, true, false, false] rfl rfl rfl rfl (two_of HT_.out (by kernel_rfl)) (by decide) (by decide) (fun K hK => ?_) (fun K hK => ?_)
       ·refine goes_ Tryz.func9 (by kernel_rfl) rfl #[.agg #[.slice A5 m5 c5, .bool q], .slice B j d] (by rfl) rfl rfl (by (try simp only [List.map_toArray, List.map_cons, List.map_nil]); first | done | rfl) ?_
        refine (HU6.out w_0 A5 m5 c5 (HB4.out.trans (hbr.mono HB4.out.size)) (HX5.out.bx.on hbr).rd).mono ?_
        rintro u_ w_1 ⟨Ar, nr, cr, rfl, hS, hbb⟩
        refine ⟨_, rfl, ?_⟩
        replace hbr := hbr.trans (hbb.mono hbr.size)
        clear hbb
        refine hK.out _ _ (HE.out _ hbr) (fun hHeld => ?_)
        clear hK K
        refine norm_ (a' := ?_) ?_ ?_
        rotate_left
        ·show Act.put _ (some 59) _ = _
         simp only [Act.put, List.setIfInBounds_toArray, List.set_cons_zero, List.set_cons_succ, i64_w, i32_w]
         rfl
        refine pure_ (i := 5) (N := some 54) (v := ?_) (a' := ?_) #[true, true, true, true, true, true, false, false, false, false, false] rfl rfl (any_of HT_.out (by kernel_rfl)) (fun _ _ _ h => h) (Or.inl ⟨by rfl, ?_⟩) ?_ ?_
        rotate_left
        ·intro w'
         go_simp
         with_reducible rfl
        rotate_left
        ·simp only [Act.put, List.setIfInBounds_toArray, List.set_cons_zero, List.set_cons_succ, i64_w, i32_w]
         rfl
        refine pure_ (i := 6) (N := some 60) (v := ?_) (a' := ?_) #[true, true, true, true, true, true, true, false, false, false, false] rfl rfl (any_of HT_.out (by kernel_rfl)) (fun _ _ _ h => h) (Or.inl ⟨by rfl, ?_⟩) ?_ ?_
        rotate_left
        ·intro w'
         go_simp
         with_reducible rfl
        rotate_left
        ·simp only [Act.put, List.setIfInBounds_toArray, List.set_cons_zero, List.set_cons_succ, i64_w, i32_w]
         rfl
        refine pure_ (i := 7) (N := some 61) (v := ?_) (a' := ?_) #[true, true, true, true, true, true, true, true, false, false, false] rfl rfl (any_of HT_.out (by kernel_rfl)) (fun _ _ _ h => h) (Or.inl ⟨by rfl, ?_⟩) ?_ ?_
        rotate_left
        ·intro w'
         go_simp
         with_reducible rfl
        rotate_left
        ·simp only [Act.put, List.setIfInBounds_toArray, List.set_cons_zero, List.set_cons_succ, i64_w, i32_w]
         rfl
        refine one_ (i := 8) (N := some 13) #[true, true, true, true, true, true, true, true, true, false, false] rfl rfl (one_of HT_.out (by kernel_rfl)) (by decide) (fun K hK => ?_)
        refine box_step ?hg (N := 13) ?hd (cs := #[.slice none 0 0, .bool false]) (t := 24) ?hr ?_; (case hd => rfl); (case hg => rfl); (case hr => first | (go_simp; done) | (go_simp; rfl))
        intro g6 hg6 w_2 hbox6 hbb
        have hge6 : W4.heap.size ≤ g6 := by rw [hg6]; exact hbr.size
        replace hS := Kd.S_below hS hbb
        replace hbr := hbr.trans (hbb.mono hbr.size)
        clear hg6 hbb
        refine hK.out _ _ (HE.out _ hbr) (fun hHeld => ?_)
        clear hK K
        refine norm_ (a' := ?_) ?_ ?_
        rotate_left
        ·show Act.put _ (some 13) _ = _
         simp only [Act.put, List.setIfInBounds_toArray, List.set_cons_zero, List.set_cons_succ, i64_w, i32_w]
         rfl
        refine last_ (i := 9) (N := none) #[true, true, true, true, true, true, true, true, true, true, false] rfl rfl (one_of HT_.out (by kernel_rfl)) (by decide) (fun K hK => ?_)
        have hs0 := (blk_cell hbox6 0).trans (show #[Value.slice none 0 0, .bool false][0]? = some (.slice none 0 0) from rfl)
        have hf0 := blk_frozen hbox6 0
        have hs1 := (blk_cell hbox6 1).trans (show #[Value.slice none 0 0, .bool false][1]? = some (.bool false) from rfl)
        have hf1 := blk_frozen hbox6 1
        refine skip_ (w1 := ?_) (by rfl) rfl ?_ ?_
        rotate_left
        ·go_simp
         rfl
        refine hK.out _ _ ?_
        clear hK K
        refine pure_ (i := 10) (N := some 14) (v := ?_) (a' := ?_) #[true, true, true, true, true, true, true, true, true, true, true] rfl rfl (any_of HT_.out (by kernel_rfl)) (fun _ _ _ h => h) (Or.inl ⟨by rfl, ?_⟩) ?_ ?_
        rotate_left
        ·intro w'
         go_simp
         with_reducible rfl
        rotate_left
        ·simp only [Act.put, List.setIfInBounds_toArray, List.set_cons_zero, List.set_cons_succ, i64_w, i32_w]
         rfl
        refine done_ (done_of HT_.out (by kernel_rfl)) ?_
        go_wp2_with fail
        go_meet
        have hq1 := blk_put (cs' := #[.slice Ar nr cr, .bool false]) hbox6 0 (.slice Ar nr cr) rfl
        have hS2 := Kd.S_set (Kd.S_set hS hbox6 (by decide) 0 (.slice Ar nr cr)) hq1 (by decide) 1 (.bool q)
        exact ⟨rfl, g6, Ar, nr, cr, rfl, Lib.hid ⟨⟨blk_put (cs' := #[.slice Ar nr cr, .bool q]) hq1 1 (.bool q) rfl, Kd.S_reads' hS2⟩, (hbr.setCell (p := ⟨g6, 0, none⟩) hge6 _).setCell (p := ⟨g6, 1, none⟩) hge6 _⟩⟩
       ·refine box_step ?hg (N := 13) ?hd (cs := #[.slice none 0 0, .bool false]) (t := 24) ?hr ?_; (case hd => rfl); (case hg => rfl); (case hr => first | (go_simp; done) | (go_simp; rfl))
        intro g6 hg6 w_3 hbox6 hbb
        have hge6 : W4.heap.size ≤ g6 := by rw [hg6]; exact hbr.size
        replace hbr := hbr.trans (hbb.mono hbr.size)
        clear hg6 hbb
        refine hK.out _ _ (HE.out _ hbr) (fun hHeld => ?_)
        clear hK K
        refine norm_ (a' := ?_) ?_ ?_
        rotate_left
        ·show Act.put _ (some 13) _ = _
         simp only [Act.put, List.setIfInBounds_toArray, List.set_cons_zero, List.set_cons_succ, i64_w, i32_w]
         rfl
        refine one_ (i := 4) (N := some 59) #[true, true, true, true, true, false, false, false, true, false, false] rfl rfl (one_of HT_.out (by kernel_rfl)) (by decide) (fun K hK => ?_)
        refine goes_ Tryz.func9 (by kernel_rfl) rfl #[.agg #[.slice A5 m5 c5, .bool q], .slice B j d] (by rfl) rfl rfl (by (try simp only [List.map_toArray, List.map_cons, List.map_nil]); first | done | rfl) ?_
        refine (HU6.out w_3 A5 m5 c5 (HB4.out.trans (hbr.mono HB4.out.size)) (HX5.out.bx.on hbr).rd).mono ?_
        rintro u_ w_4 ⟨Ar, nr, cr, rfl, hS, hbb⟩
        refine ⟨_, rfl, ?_⟩
        replace hbox6 := blk_below hbox6 hbb
        replace hbr := hbr.trans (hbb.mono hbr.size)
        clear hbb
        refine hK.out _ _ (HE.out _ hbr) (fun hHeld => ?_)
        clear hK K
        refine norm_ (a' := ?_) ?_ ?_
        rotate_left
        ·show Act.put _ (some 59) _ = _
         simp only [Act.put, List.setIfInBounds_toArray, List.set_cons_zero, List.set_cons_succ, i64_w, i32_w]
         rfl
        refine pure_ (i := 5) (N := some 54) (v := ?_) (a' := ?_) #[true, true, true, true, true, true, false, false, true, false, false] rfl rfl (any_of HT_.out (by kernel_rfl)) (fun _ _ _ h => h) (Or.inl ⟨by rfl, ?_⟩) ?_ ?_
        rotate_left
        ·intro w'
         go_simp
         with_reducible rfl
        rotate_left
        ·simp only [Act.put, List.setIfInBounds_toArray, List.set_cons_zero, List.set_cons_succ, i64_w, i32_w]
         rfl
        refine pure_ (i := 6) (N := some 60) (v := ?_) (a' := ?_) #[true, true, true, true, true, true, true, false, true, false, false] rfl rfl (any_of HT_.out (by kernel_rfl)) (fun _ _ _ h => h) (Or.inl ⟨by rfl, ?_⟩) ?_ ?_
        rotate_left
        ·intro w'
         go_simp
         with_reducible rfl
        rotate_left
        ·simp only [Act.put, List.setIfInBounds_toArray, List.set_cons_zero, List.set_cons_succ, i64_w, i32_w]
         rfl
        refine pure_ (i := 7) (N := some 61) (v := ?_) (a' := ?_) #[true, true, true, true, true, true, true, true, true, false, false] rfl rfl (any_of HT_.out (by kernel_rfl)) (fun _ _ _ h => h) (Or.inl ⟨by rfl, ?_⟩) ?_ ?_
        rotate_left
        ·intro w'
         go_simp
         with_reducible rfl
        rotate_left
        ·simp only [Act.put, List.setIfInBounds_toArray, List.set_cons_zero, List.set_cons_succ, i64_w, i32_w]
         rfl
        refine last_ (i := 9) (N := none) #[true, true, true, true, true, true, true, true, true, true, false] rfl rfl (one_of HT_.out (by kernel_rfl)) (by decide) (fun K hK => ?_)
        have hs0 := (blk_cell hbox6 0).trans (show #[Value.slice none 0 0, .bool false][0]? = some (.slice none 0 0) from rfl)
        have hf0 := blk_frozen hbox6 0
        have hs1 := (blk_cell hbox6 1).trans (show #[Value.slice none 0 0, .bool false][1]? = some (.bool false) from rfl)
        have hf1 := blk_frozen hbox6 1
        refine skip_ (w1 := ?_) (by rfl) rfl ?_ ?_
        rotate_left
        ·go_simp
         rfl
        refine hK.out _ _ ?_
        clear hK K
        refine pure_ (i := 10) (N := some 14) (v := ?_) (a' := ?_) #[true, true, true, true, true, true, true, true, true, true, true] rfl rfl (any_of HT_.out (by kernel_rfl)) (fun _ _ _ h => h) (Or.inl ⟨by rfl, ?_⟩) ?_ ?_
        rotate_left
        ·intro w'
         go_simp
         with_reducible rfl
        rotate_left
        ·simp only [Act.put, List.setIfInBounds_toArray, List.set_cons_zero, List.set_cons_succ, i64_w, i32_w]
         rfl
        refine done_ (done_of HT_.out (by kernel_rfl)) ?_
        go_wp2_with fail
        go_meet
        have hq1 := blk_put (cs' := #[.slice Ar nr cr, .bool false]) hbox6 0 (.slice Ar nr cr) rfl
        have hS2 := Kd.S_set (Kd.S_set hS hbox6 (by decide) 0 (.slice Ar nr cr)) hq1 (by decide) 1 (.bool q)
        exact ⟨rfl, g6, Ar, nr, cr, rfl, Lib.hid ⟨⟨blk_put (cs' := #[.slice Ar nr cr, .bool q]) hq1 1 (.bool q) rfl, Kd.S_reads' hS2⟩, (hbr.setCell (p := ⟨g6, 0, none⟩) hge6 _).setCell (p := ⟨g6, 1, none⟩) hge6 _⟩⟩
      case rest =>
       obtain ⟨rfl, g6, A6, m6, c6, rfl, HX6⟩ := hcut
       rename World => W5
       have HT5 := Lib.hid (HT4.out.on HX6.out.below)
       have H5y := Lib.hid (HX5.out.bx.on HX6.out.below)
       clear HE HT4 HC6 HU6 HX5 HB4 HB3
       have HE : Hid (∀ W : World, Below W5.heap.size W5 W → W.cell? ⟨w.heap.size, 0, none⟩ = some (.slice A nn c) ∧ W.cell? ⟨w.heap.size, 1, none⟩ = some (.bool q)) := Lib.hid (fun W hb => (HT5.out.on hb).bx.cells)
       go_upto_region 7 with fail
       go_cut [15, 16, 17] (fun s15 s16 s17 wx => s16 = .int .i64 0 ∧ s17 = .int .i64 0 ∧ ∃ g A' n' c', s15 = .pointer (some ⟨g, 0, none⟩) ∧ Hid (PB W5 wx g A' n' c' q m))
       case first =>
        have hcut7 := HC7.out
        refine start_ (n := 13) (S := fun w' => w'.cell? ⟨w.heap.size, 0, none⟩ = some (.slice A nn c) ∧ w'.cell? ⟨w.heap.size, 1, none⟩ = some (.bool q)) (ds := [10]) #[false, false, false, false, false, false, false, false, false, false, false, false, false] (by kernel_rfl) rfl rfl (HE.out _ (below_drew (Below.refl _ _))) (fun hHeld => ?_)
        refine with_tabW tab7parts.1 tab7parts.2 (fun HT_ HW_ => ?_)
        have hbr := below_drew (Below.refl W5.heap.size W5)
        generalize W5.drew = w_0 at hHeld hbr ⊢
        refine pure_ (i := 1) (N := some 64) (v := ?_) (a' := ?_) #[false, true, false, false, false, false, false, false, false, false, false, false, false] rfl rfl (any_of HT_.out (by kernel_rfl)) (fun _ _ _ h => h) (Or.inl ⟨by rfl, ?_⟩) ?_ ?_
        rotate_left
        ·intro w'
         go_simp
         with_reducible rfl
        rotate_left
        ·simp only [Act.put, List.setIfInBounds_toArray, List.set_cons_zero, List.set_cons_succ, i64_w, i32_w]
         rfl
        refine pure_ (i := 2) (N := some 65) (v := ?_) (a' := ?_) #[false, true, true, false, false, false, false, false, false, false, false, false, false] rfl rfl (any_of HT_.out (by kernel_rfl)) (fun _ _ _ h => h) (Or.inl ⟨by rfl, ?_⟩) ?_ ?_
        rotate_left
        ·intro w'
         go_simp
         with_reducible rfl
        rotate_left
        ·simp only [Act.put, List.setIfInBounds_toArray, List.set_cons_zero, List.set_cons_succ, i64_w, i32_w]
         rfl
        refine pure_ (i := 3) (N := some 66) (v := ?_) (a' := ?_) #[false, true, true, true, false, false, false, false, false, false, false, false, false] rfl rfl (any_of HT_.out (by kernel_rfl)) (fun _ _ _ h => h) (Or.inl ⟨by rfl, ?_⟩) ?_ ?_
        rotate_left
        ·intro w'
         go_simp
         with_reducible rfl
        rotate_left
        ·simp only [Act.put, List.setIfInBounds_toArray, List.set_cons_zero, List.set_cons_succ, i64_w, i32_w]
         rfl
        refine take_ (i := 0) (N := some 63) (v := ?_) (a' := ?_) #[true, true, true, true, false, false, false, false, false, false, false, false, false] rfl rfl (take_ofW HT_.out HW_.out (by kernel_rfl)) (fun _ _ _ h => h) (Or.inl ⟨by rfl, ?_⟩) hHeld ?_ ?_
        rotate_left
        ·rintro w' ⟨s0, s1⟩
         go_simp
         with_reducible rfl
        rotate_left
        ·simp only [Act.put, List.setIfInBounds_toArray, List.set_cons_zero, List.set_cons_succ, i64_w, i32_w]
         rfl
        refine two_ (i := 4) (j := 9) (Ni := some 67) (Nj := some 15) #[true, true, true, true, true, false, false, false, false, false, false, false, false] #[true, true, true, true, false, false, false, false, false, true, false, false, false] rfl rfl rfl rfl (two_of HT_.out (by kernel_rfl)) (by decide) (by decide) (fun K hK => ?_) (fun K hK => ?_)
        ·refine goes_ Tryz.func10 (by kernel_rfl) rfl #[.agg #[.slice A nn c, .bool q], .slice A1 j c1] (by rfl) rfl rfl (by (try simp only [List.map_toArray, List.map_cons, List.map_nil]); first | done | rfl) ?_
         refine (HA7.out w_0 (HT5.out.below.trans (hbr.mono HT5.out.below.size))).mono ?_
         rintro u_ w_1 ⟨Ar, nr, cr, rfl, hS, hbb⟩
         refine ⟨_, rfl, ?_⟩
         replace hbr := hbr.trans (hbb.mono hbr.size)
         clear hbb
         refine hK.out _ _ (HE.out _ hbr) (fun hHeld => ?_)
         clear hK K
         refine norm_ (a' := ?_) ?_ ?_
         rotate_left
         ·show Act.put _ (some 67) _ = _
          simp only [Act.put, List.setIfInBounds_toArray, List.set_cons_zero, List.set_cons_succ, i64_w, i32_w]
          rfl
         refine pure_ (i := 5) (N := some 62) (v := ?_) (a' := ?_) #[true, true, true, true, true, true, false, false, false, false, false, false, false] rfl rfl (any_of HT_.out (by kernel_rfl)) (fun _ _ _ h => h) (Or.inl ⟨by rfl, ?_⟩) ?_ ?_
         rotate_left
         ·intro w'
          go_simp
          with_reducible rfl
         rotate_left
         ·simp only [Act.put, List.setIfInBounds_toArray, List.set_cons_zero, List.set_cons_succ, i64_w, i32_w]
          rfl
         refine pure_ (i := 6) (N := some 68) (v := ?_) (a' := ?_) #[true, true, true, true, true, true, true, false, false, false, false, false, false] rfl rfl (any_of HT_.out (by kernel_rfl)) (fun _ _ _ h => h) (Or.inl ⟨by rfl, ?_⟩) ?_ ?_
         rotate_left
         ·intro w'
          go_simp
          with_reducible rfl
         rotate_left
         ·simp only [Act.put, List.setIfInBounds_toArray, List.set_cons_zero, List.set_cons_succ, i64_w, i32_w]
          rfl
         refine pure_ (i := 7) (N := some 69) (v := ?_) (a' := ?_) #[true, true, true, true, true, true, true, true, false, false, false, false, false] rfl rfl (any_of HT_.out (by kernel_rfl)) (fun _ _ _ h => h) (Or.inl ⟨by rfl, ?_⟩) ?_ ?_
         rotate_left
         ·intro w'
          go_simp
          with_reducible rfl
         rotate_left
         ·simp only [Act.put, List.setIfInBounds_toArray, List.set_cons_zero, List.set_cons_succ, i64_w, i32_w]
          rfl
         refine pure_ (i := 8) (N := some 70) (v := ?_) (a' := ?_) #[true, true, true, true, true, true, true, true, true, false, false, false, false] rfl rfl (any_of HT_.out (by kernel_rfl)) (fun _ _ _ h => h) (Or.inl ⟨by rfl, ?_⟩) ?_ ?_
         rotate_left
         ·intro w'
          go_simp
          with_reducible rfl
         rotate_left
         ·simp only [Act.put, List.setIfInBounds_toArray, List.set_cons_zero, List.set_cons_succ, i64_w, i32_w]
          rfl
         refine one_ (i := 9) (N := some 15) #[true, true, true, true, true, true, true, true, true, true, false, false, false] rfl rfl (one_of HT_.out (by kernel_rfl)) (by decide) (fun K hK => ?_)
         refine box_step ?hg (N := 15) ?hd (cs := #[.slice none 0 0, .bool false]) (t := 24) ?hr ?_; (case hd => rfl); (case hg => rfl); (case hr => first | (go_simp; done) | (go_simp; rfl))
         intro g7 hg7 w_2 hbox7 hbb
         have hge7 : W5.heap.size ≤ g7 := by rw [hg7]; exact hbr.size
         replace hS := Kd.S_below hS hbb
         replace hbr := hbr.trans (hbb.mono hbr.size)
         clear hg7 hbb
         refine hK.out _ _ (HE.out _ hbr) (fun hHeld => ?_)
         clear hK K
         refine norm_ (a' := ?_) ?_ ?_
         rotate_left
         ·show Act.put _ (some 15) _ = _
          simp only [Act.put, List.setIfInBounds_toArray, List.set_cons_zero, List.set_cons_succ, i64_w, i32_w]
          rfl
         refine last_ (i := 10) (N := none) #[true, true, true, true, true, true, true, true, true, true, true, false, false] rfl rfl (one_of HT_.out (by kernel_rfl)) (by decide) (fun K hK => ?_)
         have hs0 := (blk_cell hbox7 0).trans (show #[Value.slice none 0 0, .bool false][0]? = some (.slice none 0 0) from rfl)
         have hf0 := blk_frozen hbox7 0
         have hs1 := (blk_cell hbox7 1).trans (show #[Value.slice none 0 0, .bool false][1]? = some (.bool false) from rfl)
         have hf1 := blk_frozen hbox7 1
         refine skip_ (w1 := ?_) (by rfl) rfl ?_ ?_
         rotate_left
         ·go_simp
          rfl
         refine hK.out _ _ ?_
         clear hK K
         refine pure_ (i := 11) (N := some 16) (v := ?_) (a' := ?_) #[true, true, true, true, true, true, true, true, true, true, true, true, false] rfl rfl (any_of HT_.out (by kernel_rfl)) (fun _ _ _ h => h) (Or.inl ⟨by rfl, ?_⟩) ?_ ?_
         rotate_left
         ·intro w'
          go_simp
          with_reducible rfl
         rotate_left
         ·simp only [Act.put, List.setIfInBounds_toArray, List.set_cons_zero, List.set_cons_succ, i64_w, i32_w]
          rfl
         refine pure_ (i := 12) (N := some 17) (v := ?_) (a' := ?_) #[true, true, true, true, true, true, true, true, true, true, true, true, true] rfl rfl (any_of HT_.out (by kernel_rfl)) (fun _ _ _ h => h) (Or.inl ⟨by rfl, ?_⟩) ?_ ?_
         rotate_left
         ·intro w'
          go_simp
          with_reducible rfl
         rotate_left
         ·simp only [Act.put, List.setIfInBounds_toArray, List.set_cons_zero, List.set_cons_succ, i64_w, i32_w]
          rfl
         refine done_ (done_of HT_.out (by kernel_rfl)) ?_
         go_wp2_with fail
         go_meet
         have hq1 := blk_put (cs' := #[.slice Ar nr cr, .bool false]) hbox7 0 (.slice Ar nr cr) rfl
         have hS2 := Kd.S_set (Kd.S_set hS hbox7 (by decide) 0 (.slice Ar nr cr)) hq1 (by decide) 1 (.bool q)
         exact ⟨rfl, rfl, g7, Ar, nr, cr, rfl, Lib.hid ⟨⟨blk_put (cs' := #[.slice Ar nr cr, .bool q]) hq1 1 (.bool q) rfl, Kd.S_reads' hS2⟩, (hbr.setCell (p := ⟨g7, 0, none⟩) hge7 _).setCell (p := ⟨g7, 1, none⟩) hge7 _⟩⟩
        ·refine box_step ?hg (N := 15) ?hd (cs := #[.slice none 0 0, .bool false]) (t := 24) ?hr ?_; (case hd => rfl); (case hg => rfl); (case hr => first | (go_simp; done) | (go_simp; rfl))
         intro g7 hg7 w_3 hbox7 hbb
         have hge7 : W5.heap.size ≤ g7 := by rw [hg7]; exact hbr.size
         replace hbr := hbr.trans (hbb.mono hbr.size)
         clear hg7 hbb
         refine hK.out _ _ (HE.out _ hbr) (fun hHeld => ?_)
         clear hK K
         refine norm_ (a' := ?_) ?_ ?_
         rotate_left
         ·show Act.put _ (some 15) _ = _
          simp only [Act.put, List.setIfInBounds_toArray, List.set_cons_zero, List.set_cons_succ, i64_w, i32_w]
          rfl
         refine one_ (i := 4) (N := some 67) #[true, true, true, true, true, false, false, false, false, true, false, false, false] rfl rfl (one_of HT_.out (by kernel_rfl)) (by decide) (fun K hK => ?_)
         refine goes_ Tryz.func10 (by kernel_rfl) rfl #[.agg #[.slice A nn c, .bool q], .slice A1 j c1] (by rfl) rfl rfl (by (try simp only [List.map_toArray, List.map_cons, List.map_nil]); first | done | rfl) ?_
         refine (HA7.out w_3 (HT5.out.below.trans (hbr.mono HT5.out.below.size))).mono ?_
         rintro u_ w_4 ⟨Ar, nr, cr, rfl, hS, hbb⟩
         refine ⟨_, rfl, ?_⟩
         replace hbox7 := blk_below hbox7 hbb
         replace hbr := hbr.trans (hbb.mono hbr.size)
         clear hbb
         refine hK.out _ _ (HE.out _ hbr) (fun hHeld => ?_)
         clear hK K
         refine norm_ (a' := ?_) ?_ ?_
         rotate_left
         ·show Act.put _ (some 67) _ = _
          simp only [Act.put, List.setIfInBounds_toArray, List.set_cons_zero, List.set_cons_succ, i64_w, i32_w]
          rfl
         refine pure_ (i := 5) (N := some 62) (v := ?_) (a' := ?_) #[true, true, true, true, true, true, false, false, false, true, false, false, false] rfl rfl (any_of HT_.out (by kernel_rfl)) (fun _ _ _ h => h) (Or.inl ⟨by rfl, ?_⟩) ?_ ?_
         rotate_left
         ·intro w'
          go_simp
          with_reducible rfl
         rotate_left
         ·simp only [Act.put, List.setIfInBounds_toArray, List.set_cons_zero, List.set_cons_succ, i64_w, i32_w]
          rfl
         refine pure_ (i := 6) (N := some 68) (v := ?_) (a' := ?_) #[true, true, true, true, true, true, true, false, false, true, false, false, false] rfl rfl (any_of HT_.out (by kernel_rfl)) (fun _ _ _ h => h) (Or.inl ⟨by rfl, ?_⟩) ?_ ?_
         rotate_left
         ·intro w'
          go_simp
          with_reducible rfl
         rotate_left
         ·simp only [Act.put, List.setIfInBounds_toArray, List.set_cons_zero, List.set_cons_succ, i64_w, i32_w]
          rfl
         refine pure_ (i := 7) (N := some 69) (v := ?_) (a' := ?_) #[true, true, true, true, true, true, true, true, false, true, false, false, false] rfl rfl (any_of HT_.out (by kernel_rfl)) (fun _ _ _ h => h) (Or.inl ⟨by rfl, ?_⟩) ?_ ?_
         rotate_left
         ·intro w'
          go_simp
          with_reducible rfl
         rotate_left
         ·simp only [Act.put, List.setIfInBounds_toArray, List.set_cons_zero, List.set_cons_succ, i64_w, i32_w]
          rfl
         refine pure_ (i := 8) (N := some 70) (v := ?_) (a' := ?_) #[true, true, true, true, true, true, true, true, true, true, false, false, false] rfl rfl (any_of HT_.out (by kernel_rfl)) (fun _ _ _ h => h) (Or.inl ⟨by rfl, ?_⟩) ?_ ?_
         rotate_left
         ·intro w'
          go_simp
          with_reducible rfl
         rotate_left
         ·simp only [Act.put, List.setIfInBounds_toArray, List.set_cons_zero, List.set_cons_succ, i64_w, i32_w]
          rfl
         refine last_ (i := 10) (N := none) #[true, true, true, true, true, true, true, true, true, true, true, false, false] rfl rfl (one_of HT_.out (by kernel_rfl)) (by decide) (fun K hK => ?_)
         have hs0 := (blk_cell hbox7 0).trans (show #[Value.slice none 0 0, .bool false][0]? = some (.slice none 0 0) from rfl)
         have hf0 := blk_frozen hbox7 0
         have hs1 := (blk_cell hbox7 1).trans (show #[Value.slice none 0 0, .bool false][1]? = some (.bool false) from rfl)
         have hf1 := blk_frozen hbox7 1
         refine skip_ (w1 := ?_) (by rfl) rfl ?_ ?_
         rotate_left
         ·go_simp
          rfl
         refine hK.out _ _ ?_
         clear hK K
         refine pure_ (i := 11) (N := some 16) (v := ?_) (a' := ?_) #[true, true, true, true, true, true, true, true, true, true, true, true, false] rfl rfl (any_of HT_.out (by kernel_rfl)) (fun _ _ _ h => h) (Or.inl ⟨by rfl, ?_⟩) ?_ ?_
         rotate_left
         ·intro w'
          go_simp
          with_reducible rfl
         rotate_left
         ·simp only [Act.put, List.setIfInBounds_toArray, List.set_cons_zero, List.set_cons_succ, i64_w, i32_w]
          rfl
         refine pure_ (i := 12) (N := some 17) (v := ?_) (a' := ?_) #[true, true, true, true, true, true, true, true, true, true, true, true, true] rfl rfl (any_of HT_.out (by kernel_rfl)) (fun _ _ _ h => h) (Or.inl ⟨by rfl, ?_⟩) ?_ ?_
         rotate_left
         ·intro w'
          go_simp
          with_reducible rfl
         rotate_left
         ·simp only [Act.put, List.setIfInBounds_toArray, List.set_cons_zero, List.set_cons_succ, i64_w, i32_w]
          rfl
         refine done_ (done_of HT_.out (by kernel_rfl)) ?_
         go_wp2_with fail
         go_meet
         have hq1 := blk_put (cs' := #[.slice Ar nr cr, .bool false]) hbox7 0 (.slice Ar nr cr) rfl
         have hS2 := Kd.S_set (Kd.S_set hS hbox7 (by decide) 0 (.slice Ar nr cr)) hq1 (by decide) 1 (.bool q)
         exact ⟨rfl, rfl, g7, Ar, nr, cr, rfl, Lib.hid ⟨⟨blk_put (cs' := #[.slice Ar nr cr, .bool q]) hq1 1 (.bool q) rfl, Kd.S_reads' hS2⟩, (hbr.setCell (p := ⟨g7, 0, none⟩) hge7 _).setCell (p := ⟨g7, 1, none⟩) hge7 _⟩⟩
       case rest =>
        obtain ⟨rfl, rfl, g7, A7, m7, c7, rfl, HX7⟩ := hcut
        rename World => W6
        have HT6 := Lib.hid (HT5.out.on HX7.out.below)
        have H5z := Lib.hid (H5y.out.on HX7.out.below)
        have H6z := Lib.hid (HX6.out.bx.on HX7.out.below)
        have H7z := Lib.hid HX7.out.bx
        clear HE HT5 HC7 HA7 H5y HX6 HX7
        go_upto_region 8 with fail
        go_wp2_with fail
        refine (HBg.out W6).mono ?_
        rintro u w5 ⟨rfl, hb5⟩
        have HT7 := Lib.hid (HT6.out.on hb5)
        have Hy := Lib.hid (H5z.out.on hb5)
        have Hz := Lib.hid (H6z.out.on hb5)
        have Hw := Lib.hid (H7z.out.on hb5)
        clear hb5 HT6 H5z H6z H7z HBg
        obtain ⟨x0, x1⟩ := Hy.out.cells
        obtain ⟨y0, y1⟩ := Hw.out.cells
        go_wp2_with fail
        refine (same_two HD.out.2 Hy.out Hw.out).mono ?_
        rintro u w6 ⟨rfl, hb6⟩
        have HT8 := Lib.hid (HT7.out.on hb6)
        have Hz2 := Lib.hid (Hz.out.on hb6)
        clear hb6 x0 x1 y0 y1 HT7 Hy Hz Hw
        obtain ⟨x0, x1⟩ := Hz2.out.cells
        obtain ⟨y0, y1⟩ := HT8.out.bx.cells
        go_wp2_with fail
        refine (same_two HD.out.1 Hz2.out HT8.out.bx).mono ?_
        rintro u w7 ⟨rfl, hb7⟩
        have HT9 := Lib.hid (HT8.out.on hb7)
        clear hb7 x0 x1 y0 y1 HT8 Hz2
        go_wp2_with fail
        go_ret
        exact ⟨rfl, HT9.out.below⟩
  ·obtain rfl := hno h0
   have e1 : (er != 0) = true := by simpa using h0
   clear hok hno h0 HRun hb1
   go_upto_region 3 with fail
   obtain ⟨W3, hW3⟩ : ∃ W3, W3 = w1.alloc (.cells #[.slice none 0 0, .bool false] 24) := ⟨_, rfl⟩
   have hb3 : Below w1.heap.size w1 W3 := by rw [hW3]; exact below_alloc (Below.refl _ _) _
   rw [← hW3]
   clear hW3
   have HT3 := Lib.hid (HT1.out.on hb3)
   clear hb3
   go_wp2_with fail
   refine (HBg.out W3).mono ?_
   rintro u w5 ⟨rfl, hb5⟩
   have HT4 := Lib.hid (HT3.out.on hb5)
   clear hb5
   go_wp2_with fail
   go_ret
   exact ⟨rfl, HT4.out.below⟩
end Go.Proofs.YtmcinclecpeakaaGreatDoor.ApA
