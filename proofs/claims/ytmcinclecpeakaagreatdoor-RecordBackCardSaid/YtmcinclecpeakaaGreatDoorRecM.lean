/- The law RecordBack walked (written by mkrecl.py). -/
import Derived.Test.YtmcinclecpeakaaGreatDoorRecL
namespace Go.Proofs.YtmcinclecpeakaaGreatDoor.ApA
open Go.RowKit Go.Proofs.YtmcinclecpeakaaGreatDoorW.PrintWords Go.Proofs.YtmcinclecpeakaaGreatDoorW.PrintLast Go.Proofs.YtmcinclecpeakaaGreatDoorW.PrintMore Go.Proofs.YtmcinclecpeakaaGreatDoor.PRR Go.Proofs.YtmcinclecpeakaaGreatDoor.DocP Go.Proofs.YtmcinclecpeakaaGreatDoor.DocC
attribute [local go_sem] max2_int min2_int max_two min_two max_three min_three max_four min_four
set_option linter.unusedVariables false
set_option linter.unusedSimpArgs false
def T1back : Bool × List (List Nat × List Nat) := (true, [([], []), ([0], [0]), ([], []), ([], []), ([3], [3]), ([4], [4]), ([2, 5], [2, 5]), ([1, 1, 0, 1], [1]), ([6, 7, 0, 1, 2, 3, 4, 5, 6, 7], [2, 3, 6])])
def B1back : List Nat := [0, 1, 0, 0, 8, 24, 60, 3, 255]
theorem tab1back : rtab .any (opsOf Tryz.f5 1) = T1back ∧ waitsOk T1back.2 B1back = true := ⟨by kernel_rfl, by kernel_rfl⟩
set_option maxHeartbeats 8000000 in
set_option maxRecDepth 100000 in
theorem back_row (A : Option Addr) (c : Nat) (l0 : List S43) (q : Bool) (A1 : Option Addr) (c1 : Nat) (es : List S45) (w : World) (hf0 : Fit l0) (hr : Kd.C k43 w A l0.length l0) (hc : l0.length ≤ c) (hr1 : Kd.C k45 w A1 es.length es) (hc1 : es.length ≤ c1) (hin : ∀ x ∈ es, x.f6.f2.length ≤ 4398046511104 ∧ x.f6.f5.length ≤ 17592186044416) :
    Calls Tryz.prog 5 #[.agg #[.slice A l0.length c, .bool q], .slice A1 es.length c1] w fun u w' => u = .returned (.bool true) ∧ Below w.heap.size w w' := by
  obtain ⟨n0, hn0⟩ : ∃ n0, n0 = l0.length := ⟨_, rfl⟩
  obtain ⟨m1, hm1⟩ : ∃ m1, m1 = es.length := ⟨_, rfl⟩
  obtain ⟨j1, hj1⟩ : ∃ j1 : Nat, (j1 : Int) = (if 40 < (m1 : Int) then 40 else (m1 : Int)) := ⟨(if 40 < (m1 : Int) then 40 else (m1 : Int)).toNat, by split <;> omega⟩
  have hjm1 : j1 ≤ m1 := by split at hj1 <;> omega
  have hj40 : j1 ≤ 40 := by split at hj1 <;> omega
  have hmc1 : m1 ≤ c1 := by omega
  obtain ⟨l, hl⟩ : ∃ l, l = l0.take (min n0 40) := ⟨_, rfl⟩
  obtain ⟨nn, hn⟩ : ∃ nn, nn = min n0 40 := ⟨_, rfl⟩
  have hnl : nn = l.length := by rw [hl, List.length_take]; omega
  have hrl : Kd.C k43 w A l.length l := by
    rw [hl]
    exact Kd.C_take hr (by omega)
  have hfl : Fit l := by rw [hl]; exact fit_cut hf0 _
  have hm0 : n0 ≤ 9223372036854775807 := by rw [hn0]; exact hr.2.1
  have hE1 : (es.take j1).length = j1 := by rw [List.length_take]; omega
  have hC1 : Kd.C k45 w A1 (es.take j1).length (es.take j1) := Kd.C_take hr1 (by omega)
  have hinE : ∀ x ∈ es.take j1, x.f6.f2.length ≤ 4398046511104 ∧ x.f6.f5.length ≤ 17592186044416 := fun x hx => hin x (List.mem_of_mem_take hx)
  generalize es.take j1 = E at hE1 hC1 hinE
  obtain ⟨l2, q2, i1, er, hev, hrun⟩ := all_any hfl q E
  have HFew : Hid (∀ W : World, Calls Tryz.prog 6 #[.agg #[.slice A n0 c, .bool q], .int .i64 40] W fun u w' => u = .returned (.agg #[.slice A nn c, .bool q]) ∧ Below W.heap.size W w') := Lib.hid (fun W => by
    rw [hn]
    exact few_any A n0 c 40 q W (by omega) hm0 (by decide))
  have HDo : Hid (∀ W : World, Below w.heap.size w W → Calls Tryz.prog 7 #[.agg #[.slice A nn c, .bool q], .slice A1 j1 c1] W (DoP W q l l2 E i1 er)) := Lib.hid (by
    rw [hnl, ← hE1]
    exact fun W hb => do_calls hfl hev hinE A A1 c c1 W (Kd.C_below hrl hb) (by omega) (Kd.C_below hC1 hb) (by omega))
  have HAll : Hid (∀ W : World, Below w.heap.size w W → Calls Tryz.prog 10 #[.agg #[.slice A nn c, .bool q], .slice A1 j1 c1] W fun u w' => ∃ A' n' c', u = .returned (.tuple #[.agg #[.slice A' n' c', .bool q2], .int .i64 i1, .int .i64 er]) ∧ (n' = l2.length ∧ n' ≤ c' ∧ Kd.C k43 w' A' l2.length l2) ∧ Below W.heap.size W w') := Lib.hid (by
    obtain ⟨k, hk⟩ := ev_at hev
    rw [hnl, ← hE1]
    intro W hb
    refine (dom_All.calls k A c l q A1 c1 E l2 q2 i1 er W (Kd.C_below hrl hb) (by omega) (Kd.C_below hC1 hb) (by omega) hk).mono ?_
    rintro u w' ⟨v, rfl, hS, hb'⟩
    obtain ⟨A', c', rfl⟩ := Kd.S_slice hS
    exact ⟨A', _, c', rfl, Kd.S_reads' hS, hb'⟩)
  have HRun := Lib.hid (⟨hrun, hev, hE1⟩ : _ ∧ _ ∧ _)
  have HBg : Hid (∀ W : World, Calls Tryz.prog 8 #[] W fun u w' => u = .returned (.bool true) ∧ Below W.heap.size W w') := Lib.hid (fun W => begun_calls W)
  have HRl : Hid (nn = l.length ∧ nn ≤ c ∧ Kd.C k43 w A l.length l) := Lib.hid ⟨hnl, by omega, hrl⟩
  have HCE := Lib.hid hC1
  have HJ1 := Lib.hid hj1
  have hjc1 : j1 ≤ c1 := by omega
  rw [← hn0, ← hm1]
  clear hf0 hr hc hr1 hc1 hin hn0 hm1 hj1 hl hn hnl hrl hfl hm0 hE1 hC1 hinE hev hrun
  go_enter Tryz.func5, Tryz.ntmps5
  go_upto_region 1 with fail
  have hbox : (w.alloc (.cells #[.slice A n0 c, .bool q] 24)).heap[w.heap.size]? = some (.cells #[.slice A n0 c, .bool q] 24 (0, 0)) := blk_new w _
  have hb0 : Below w.heap.size w (w.alloc (.cells #[.slice A n0 c, .bool q] 24)) := below_alloc (Below.refl _ _) _
  generalize w.alloc (.cells #[.slice A n0 c, .bool q] 24) = w1 at hbox hb0 ⊢
  go_cut [1] (fun s1 wx => s1 = .slice A1 j1 c1 ∧ Hid (T1 w wx A nn c q l))
  case first =>
    refine start_ (n := 9) (S := fun w' => w'.cell? ⟨w.heap.size, 0, none⟩ = some (.slice A n0 c) ∧ w'.cell? ⟨w.heap.size, 1, none⟩ = some (.bool q)) (ds := [7]) #[false, false, false, false, false, false, false, false, false] (by kernel_rfl) rfl rfl ⟨(blk_cell hbox 0).trans rfl, (blk_cell hbox 1).trans rfl⟩ (fun hHeld => ?_)
    refine with_tabW tab1back.1 tab1back.2 (fun HT_ HW_ => ?_)
    have hbox1 := blk_drew hbox
    have hbw : Below w.heap.size w w1.drew := below_drew hb0
    generalize w1.drew = w2 at hHeld hbox1 hbw ⊢
    clear hbox hb0
    have hji1 : (if 40 < (m1 : Int) then 40 else (m1 : Int)) = (j1 : Int) := HJ1.out.symm
    obtain ⟨i0, hi0, _, _, _⟩ := info_parts edit_info2
    have hcut1 := cut_to (P := Tryz.prog) 25 45 .i64 Tryz.underlying25 hi0 A1 m1 c1 (j1 : Int) (Int.natCast_nonneg j1) (Int.ofNat_le.2 hjm1) hmc1
    rw [Int.toNat_natCast] at hcut1
    refine pure_ (i := 2) (N := some 18) (v := ?_) (a' := ?_) #[false, false, true, false, false, false, false, false, false] rfl rfl (any_of HT_.out (by kernel_rfl)) (fun _ _ _ h => h) (Or.inl ⟨by rfl, ?_⟩) ?_ ?_
    rotate_left
    · intro w'
      go_simp
      with_reducible rfl
    rotate_left
    · simp only [Act.put, List.setIfInBounds_toArray, List.set_cons_zero, List.set_cons_succ, i64_w, i32_w]
      rfl
    refine pure_ (i := 3) (N := some 19) (v := ?_) (a' := ?_) #[false, false, true, true, false, false, false, false, false] rfl rfl (any_of HT_.out (by kernel_rfl)) (fun _ _ _ h => h) (Or.inl ⟨by rfl, ?_⟩) ?_ ?_
    rotate_left
    · intro w'
      go_simp
      with_reducible rfl
    rotate_left
    · simp only [Act.put, List.setIfInBounds_toArray, List.set_cons_zero, List.set_cons_succ, i64_w, i32_w]
      rfl
    refine pure_ (i := 4) (N := some 20) (v := ?_) (a' := ?_) #[false, false, true, true, true, false, false, false, false] rfl rfl (any_of HT_.out (by kernel_rfl)) (fun _ _ _ h => h) (Or.inl ⟨by rfl, ?_⟩) ?_ ?_
    rotate_left
    · intro w'
      go_simp
      with_reducible rfl
    rotate_left
    · simp only [Act.put, List.setIfInBounds_toArray, List.set_cons_zero, List.set_cons_succ, i64_w, i32_w]
      rfl
    refine pure_ (i := 5) (N := some 21) (v := ?_) (a' := ?_) #[false, false, true, true, true, true, false, false, false] rfl rfl (any_of HT_.out (by kernel_rfl)) (fun _ _ _ h => h) (Or.inl ⟨by rfl, ?_⟩) ?_ ?_
    rotate_left
    · intro w'
      go_simp
      with_reducible rfl
    rotate_left
    · simp only [Act.put, List.setIfInBounds_toArray, List.set_cons_zero, List.set_cons_succ, i64_w, i32_w]
      rfl
    refine pure_ (i := 6) (N := some 22) (v := ?_) (a' := ?_) #[false, false, true, true, true, true, true, false, false] rfl rfl (any_of HT_.out (by kernel_rfl)) (fun _ _ _ h => h) (Or.inl ⟨by rfl, ?_⟩) ?_ ?_
    rotate_left
    · intro w'
      go_simp
      with_reducible rfl
    rotate_left
    · simp only [Act.put, List.setIfInBounds_toArray, List.set_cons_zero, List.set_cons_succ, i64_w, i32_w]
      rfl
    refine take_ (i := 0) (N := some 16) (v := ?_) (a' := ?_) #[true, false, true, true, true, true, true, false, false] rfl rfl (take_ofW HT_.out HW_.out (by kernel_rfl)) (fun _ _ _ h => h) (Or.inl ⟨by rfl, ?_⟩) hHeld ?_ ?_
    rotate_left
    · rintro w' ⟨s0, s1⟩
      go_simp
      with_reducible rfl
    rotate_left
    · simp only [Act.put, List.setIfInBounds_toArray, List.set_cons_zero, List.set_cons_succ, i64_w, i32_w]
      rfl
    refine one_ (i := 1) (N := some 17) #[true, true, true, true, true, true, true, false, false] rfl rfl (one_of HT_.out (by kernel_rfl)) (by decide) (fun K hK => ?_)
    refine goes_ Tryz.func6 (by kernel_rfl) rfl #[.agg #[.slice A n0 c, .bool q], .int .i64 40] (by rfl) rfl rfl (by (try simp only [List.map_toArray, List.map_cons, List.map_nil]); first | done | rfl) ?_
    refine (HFew.out w2).mono ?_
    rintro u w3 ⟨rfl, hb3⟩
    refine ⟨_, rfl, ?_⟩
    have hbox3 := blk_below hbox1 hb3
    refine hK.out _ _ ⟨(blk_cell hbox3 0).trans rfl, (blk_cell hbox3 1).trans rfl⟩ (fun hHeld => ?_)
    clear hK K
    refine norm_ (a' := ?_) ?_ ?_
    rotate_left
    · show Act.put _ (some 17) _ = _
      simp only [Act.put, List.setIfInBounds_toArray, List.set_cons_zero, List.set_cons_succ, i64_w, i32_w]
      rfl
    refine last_ (i := 7) (N := none) #[true, true, true, true, true, true, true, true, false] rfl rfl (one_of HT_.out (by kernel_rfl)) (by decide) (fun K hK => ?_)
    have hs0 : w3.cell? ⟨w.heap.size, 0, none⟩ = some (.slice A n0 c) := (blk_cell hbox3 0).trans rfl
    have hf0 := blk_frozen hbox3 0
    have hs1 : w3.cell? ⟨w.heap.size, 1, none⟩ = some (.bool q) := (blk_cell hbox3 1).trans rfl
    have hf1 := blk_frozen hbox3 1
    refine skip_ (w1 := ?_) (by rfl) rfl ?_ ?_
    rotate_left
    · go_simp
      rfl
    refine hK.out _ _ ?_
    clear hK K
    refine pure_ (i := 8) (N := some 1) (v := ?_) (a' := ?_) #[true, true, true, true, true, true, true, true, true] rfl rfl (any_of HT_.out (by kernel_rfl)) (fun _ _ _ h => h) (Or.inl ⟨by rfl, ?_⟩) ?_ ?_
    rotate_left
    · intro w'
      go_simp
      with_reducible rfl
    rotate_left
    · simp only [Act.put, List.setIfInBounds_toArray, List.set_cons_zero, List.set_cons_succ, i64_w, i32_w]
      rfl
    refine done_ (done_of HT_.out (by kernel_rfl)) ?_
    go_wp2_with fail
    go_meet
    have hbw3 := hbw.trans (hb3.mono hbw.size)
    have hk := blk_put (blk_put (cs' := #[.slice A nn c, .bool q]) hbox3 0 (.slice A nn c) rfl) 1 (.bool q) rfl
    have hbe := (hbw3.setCell (p := ⟨w.heap.size, 0, none⟩) (Nat.le_refl _) (.slice A nn c)).setCell (p := ⟨w.heap.size, 1, none⟩) (Nat.le_refl _) (.bool q)
    exact ⟨rfl, Lib.hid ⟨⟨hk, HRl.out.1, HRl.out.2.1, Kd.C_below HRl.out.2.2 hbe⟩, hbe⟩⟩
  case rest =>
    rename World => W1
    obtain ⟨rfl, HT⟩ := hcut
    clear HFew HJ1
    obtain ⟨p0, p1⟩ := HT.out.bx.cells
    go_upto_region 2 with fail
    go_wp2_with fail
    refine (HDo.out W1 HT.out.below).mono ?_
    rintro u w1 ⟨hb1, hok, hno⟩
    have HT1 := Lib.hid (HT.out.on hb1)
    have hb1' := hb1
    clear p0 p1 HT HDo
    obtain ⟨p0, p1⟩ := HT1.out.bx.cells
    have hlw1 := blk_lt HT1.out.bx.blk
    by_cases h0 : er = 0
    · obtain ⟨A2, n2, c2, B, d, ss, rfl, hn2, hc2, hd, hr2, hrs, hrec, hfst⟩ := hok h0
      obtain ⟨n1, hn1⟩ : ∃ n1, n1 = ss.length := ⟨_, rfl⟩
      obtain ⟨hrun, hev, hE1⟩ := HRun.out
      obtain ⟨h40, hrn⟩ := hrun h0
      have hq2 : q2 = q := by
        subst h0
        have h := ev_one hev (hrn.all h40)
        injection h with _ h
        injection h
      have hsl : ss.length = j1 := by rw [← hE1, ← hfst, List.length_map]
      have hd1 := hrn.docs.1
      have hd2 := hrn.docs.2
      have HUn : Hid (∀ (W : World), Below w1.heap.size w1 W → Calls Tryz.prog 9 #[.agg #[.slice A2 n2 c2, .bool q], .slice B n1 d] W fun u w' => ∃ A' n' c', u = .returned (.tuple #[.agg #[.slice A' n' c', .bool q], .int .i64 0]) ∧ (n' = l.length ∧ n' ≤ c' ∧ Kd.C k43 w' A' l.length l) ∧ Below W.heap.size W w') := Lib.hid (fun W hb => by
        have h := undo_calls hrec (by omega) A2 B c2 d W (Kd.C_below hr2 hb) (by omega) (Kd.C_below hrs hb)
        rw [← hn2, ← hn1] at h
        refine h.mono ?_
        rintro u w' ⟨A', n', c', h1, h2, h3, h4, h5⟩
        exact ⟨A', n', c', h1, ⟨h2, h3, h4⟩, h5⟩)
      have HRe : Hid (∀ (W : World) (A3 : Option Addr) (n3 c3 : Nat), Below w1.heap.size w1 W → (n3 = l.length ∧ n3 ≤ c3 ∧ Kd.C k43 W A3 l.length l) → Calls Tryz.prog 13 #[.agg #[.slice A3 n3 c3, .bool q], .slice B n1 d] W fun u w' => ∃ A' n' c', u = .returned (.tuple #[.agg #[.slice A' n' c', .bool q], .int .i64 0]) ∧ (n' = l2.length ∧ n' ≤ c' ∧ Kd.C k43 w' A' l2.length l2) ∧ Below W.heap.size W w') := Lib.hid (fun W A3 n3 c3 hb hrd => by
        have h := redo_calls hrec (by omega) A3 B c3 d W hrd.2.2 (by rw [← hrd.1]; exact hrd.2.1) (Kd.C_below hrs hb)
        rw [← hrd.1, ← hn1] at h
        refine h.mono ?_
        rintro u w' ⟨A', n', c', h1, h2, h3, h4, h5⟩
        exact ⟨A', n', c', h1, ⟨h2, h3, h4⟩, h5⟩)
      have HR2 : Hid (n2 = l2.length ∧ n2 ≤ c2 ∧ Kd.C k43 w1 A2 l2.length l2) := Lib.hid ⟨hn2, hc2, hr2⟩
      have HD := Lib.hid (⟨hd1, hd2⟩ : _ ∧ _)
      have hnj : n1 = j1 := by omega
      subst hq2 hnj
      rw [← hn1]
      clear hok hno hn2 hc2 hd hr2 hrs hrec hfst hn1 hrun hev hE1 h40 hrn hsl hd1 hd2 HRun hb1 hb1'
      subst h0
      go_upto_region 3 with fail
      -- the document done, in its box
      obtain ⟨W3, hW3⟩ : ∃ W3, W3 = w1.alloc (.cells #[.slice A2 n2 c2, .bool q2] 24) := ⟨_, rfl⟩
      have hb3 : Below w1.heap.size w1 W3 := by rw [hW3]; exact below_alloc (Below.refl _ _) _
      have H5 : Hid (BX W3 w1.heap.size A2 n2 c2 q2 l2) := Lib.hid (by rw [hW3]; exact BX.of HR2.out)
      rw [← hW3]
      clear hW3
      have HT3 := Lib.hid (HT1.out.on hb3)
      have HB3 := Lib.hid hb3
      clear p0 p1 hb3
      obtain ⟨p0, p1⟩ := HT3.out.bx.cells
      go_wp2_with fail
      refine (HAll.out W3 HT3.out.below).mono ?_
      rintro u w2 ⟨A3, n3, c3, rfl, hr3, hb2⟩
      have HT4 := Lib.hid (HT3.out.on hb2)
      have H5b := Lib.hid (H5.out.on hb2)
      have HB4 := Lib.hid (HB3.out.trans (hb2.mono HB3.out.size))
      have HR3 := Lib.hid hr3
      clear p0 p1 hb2 hr3 HT3 H5 HB3 HAll
      go_upto_region 6 with fail
      obtain ⟨W4, hW4⟩ : ∃ W4, W4 = w2.alloc (.cells #[.slice A3 n3 c3, .bool q2] 24) := ⟨_, rfl⟩
      have hb4 : Below w2.heap.size w2 W4 := by rw [hW4]; exact below_alloc (Below.refl _ _) _
      have H9 : Hid (BX W4 w2.heap.size A3 n3 c3 q2 l2) := Lib.hid (by rw [hW4]; exact BX.of HR3.out)
      rw [← hW4]
      clear hW4
      have HT5 := Lib.hid (HT4.out.on hb4)
      have H5c := Lib.hid (H5b.out.on hb4)
      have HB5 := Lib.hid (HB4.out.trans (hb4.mono HB4.out.size))
      clear hb4 HT4 H5b HB4
      obtain ⟨x0, x1⟩ := H5c.out.cells
      go_wp2_with fail
      refine (HUn.out W4 HB5.out).mono ?_
      rintro u w3 ⟨A4, n4, c4, rfl, hr4, hb3⟩
      have HT6 := Lib.hid (HT5.out.on hb3)
      have H5d := Lib.hid (H5c.out.on hb3)
      have H9b := Lib.hid (H9.out.on hb3)
      have HB6 := Lib.hid (HB5.out.trans (hb3.mono HB5.out.size))
      have HR4 := Lib.hid hr4
      clear x0 x1 hb3 hr4 HT5 H5c H9 HB5 HUn
      go_upto_region 7 with fail
      obtain ⟨W5, hW5⟩ : ∃ W5, W5 = w3.alloc (.cells #[.slice A4 n4 c4, .bool q2] 24) := ⟨_, rfl⟩
      have hb5 : Below w3.heap.size w3 W5 := by rw [hW5]; exact below_alloc (Below.refl _ _) _
      have H12 : Hid (BX W5 w3.heap.size A4 n4 c4 q2 l) := Lib.hid (by rw [hW5]; exact BX.of HR4.out)
      rw [← hW5]
      clear hW5
      have HT7 := Lib.hid (HT6.out.on hb5)
      have H5e := Lib.hid (H5d.out.on hb5)
      have H9c := Lib.hid (H9b.out.on hb5)
      have HB7 := Lib.hid (HB6.out.trans (hb5.mono HB6.out.size))
      clear hb5 HT6 H5d H9b HB6
      obtain ⟨x0, x1⟩ := H12.out.cells
      go_wp2_with fail
      refine (HRe.out W5 A4 n4 c4 HB7.out H12.out.rd).mono ?_
      rintro u w4 ⟨A5, n5, c5, rfl, hr5, hb4⟩
      have HT8 := Lib.hid (HT7.out.on hb4)
      have H5f := Lib.hid (H5e.out.on hb4)
      have H9d := Lib.hid (H9c.out.on hb4)
      have H12b := Lib.hid (H12.out.on hb4)
      have HR5 := Lib.hid hr5
      clear x0 x1 hb4 hr5 HT7 H5e H9c H12 HB7 HRe
      go_upto_region 8 with fail
      obtain ⟨W6, hW6⟩ : ∃ W6, W6 = w4.alloc (.cells #[.slice A5 n5 c5, .bool q2] 24) := ⟨_, rfl⟩
      have hb6 : Below w4.heap.size w4 W6 := by rw [hW6]; exact below_alloc (Below.refl _ _) _
      have H14 : Hid (BX W6 w4.heap.size A5 n5 c5 q2 l2) := Lib.hid (by rw [hW6]; exact BX.of HR5.out)
      rw [← hW6]
      clear hW6
      have HT9 := Lib.hid (HT8.out.on hb6)
      have H5g := Lib.hid (H5f.out.on hb6)
      have H9e := Lib.hid (H9d.out.on hb6)
      have H12c := Lib.hid (H12b.out.on hb6)
      clear hb6 HT8 H5f H9d H12b
      go_wp2_with fail
      refine (HBg.out W6).mono ?_
      rintro u w5 ⟨rfl, hb5⟩
      have HTa := Lib.hid (HT9.out.on hb5)
      have H5h := Lib.hid (H5g.out.on hb5)
      have H9f := Lib.hid (H9e.out.on hb5)
      have H12d := Lib.hid (H12c.out.on hb5)
      have H14b := Lib.hid (H14.out.on hb5)
      clear hb5 HT9 H5g H9e H12c H14 HBg
      obtain ⟨x0, x1⟩ := H5h.out.cells
      obtain ⟨y0, y1⟩ := H9f.out.cells
      go_wp2_with fail
      refine (same_two HD.out.2 H5h.out H9f.out).mono ?_
      rintro u w6 ⟨rfl, hb6⟩
      have HTb := Lib.hid (HTa.out.on hb6)
      have H5i := Lib.hid (H5h.out.on hb6)
      have H12e := Lib.hid (H12d.out.on hb6)
      have H14c := Lib.hid (H14b.out.on hb6)
      clear hb6 x0 x1 y0 y1 HTa H5h H9f H12d H14b
      obtain ⟨x0, x1⟩ := H12e.out.cells
      obtain ⟨y0, y1⟩ := HTb.out.bx.cells
      go_wp2_with fail
      refine (same_two HD.out.1 H12e.out HTb.out.bx).mono ?_
      rintro u w7 ⟨rfl, hb7⟩
      have HTc := Lib.hid (HTb.out.on hb7)
      have H5j := Lib.hid (H5i.out.on hb7)
      have H14d := Lib.hid (H14c.out.on hb7)
      clear hb7 x0 x1 y0 y1 HTb H5i H12e H14c
      obtain ⟨x0, x1⟩ := H14d.out.cells
      obtain ⟨y0, y1⟩ := H5j.out.cells
      go_wp2_with fail
      refine (same_two HD.out.2 H14d.out H5j.out).mono ?_
      rintro u w8 ⟨rfl, hb8⟩
      have HTd := Lib.hid (HTc.out.on hb8)
      clear hb8 x0 x1 y0 y1 HTc H5j H14d
      go_wp2_with fail
      go_ret
      exact ⟨rfl, HTd.out.below⟩
    · obtain rfl := hno h0
      have e1 : (er != 0) = true := by simpa using h0
      clear hok hno h0 HRun hb1 hb1'
      go_upto_region 3 with fail
      obtain ⟨W3, hW3⟩ : ∃ W3, W3 = w1.alloc (.cells #[.slice none 0 0, .bool false] 24) := ⟨_, rfl⟩
      have hb3 : Below w1.heap.size w1 W3 := by rw [hW3]; exact below_alloc (Below.refl _ _) _
      rw [← hW3]
      clear hW3
      have HT3 := Lib.hid (HT1.out.on hb3)
      clear p0 p1 hb3
      obtain ⟨p0, p1⟩ := HT3.out.bx.cells
      go_wp2_with fail
      refine (HAll.out W3 HT3.out.below).mono ?_
      rintro u w2 ⟨A3, n3, c3, rfl, hr3, hb2⟩
      have HT4 := Lib.hid (HT3.out.on hb2)
      clear p0 p1 hb2 hr3 HT3 HAll
      go_wp2_with fail
      refine (HBg.out _).mono ?_
      rintro u w5 ⟨rfl, hb5⟩
      have HB9 : Hid (Below w.heap.size w w5) := Lib.hid (by
        have h := below_alloc HT4.out.below (.cells #[.slice A3 n3 c3, .bool q2] 24)
        exact h.trans (hb5.mono h.size))
      clear hb5
      go_wp2_with fail
      go_ret
      exact ⟨rfl, HB9.out⟩
end Go.Proofs.YtmcinclecpeakaaGreatDoor.ApA
