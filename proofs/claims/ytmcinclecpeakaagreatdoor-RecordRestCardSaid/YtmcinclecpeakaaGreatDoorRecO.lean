/- The law RecordRest walked (written by mkrecl.py). -/
import Derived.Test.YtmcinclecpeakaaGreatDoorRecL
namespace Go.Proofs.YtmcinclecpeakaaGreatDoor.ApA
open Go.RowKit Go.Proofs.YtmcinclecpeakaaGreatDoorW.PrintWords Go.Proofs.YtmcinclecpeakaaGreatDoorW.PrintLast Go.Proofs.YtmcinclecpeakaaGreatDoorW.PrintMore Go.Proofs.YtmcinclecpeakaaGreatDoor.PRR Go.Proofs.YtmcinclecpeakaaGreatDoor.DocP Go.Proofs.YtmcinclecpeakaaGreatDoor.DocC
attribute [local go_sem] max2_int min2_int max_two min_two max_three min_three max_four min_four
set_option linter.unusedVariables false
set_option linter.unusedSimpArgs false
def T1rest : Bool × List (List Nat × List Nat) := (true, [([], []), ([0], [0]), ([], []), ([], []), ([3], [3]), ([4], [4]), ([2, 5], [2, 5]), ([1, 1, 0, 1], [1]), ([6, 7, 0, 1, 2, 3, 4, 5, 6, 7], [2, 3, 6])])
def B1rest : List Nat := [0, 1, 0, 0, 8, 24, 60, 3, 255]
theorem tab1rest : rtab .any (opsOf Tryz.f4 1) = T1rest ∧ waitsOk T1rest.2 B1rest = true := ⟨by kernel_rfl, by kernel_rfl⟩
def inB (b : List Int) (x : Int) : Bool := b.contains x
def RdI (W : World) (A : Option Addr) (n c : Nat) (xs : List Int) : Prop := n = xs.length ∧ n ≤ c ∧ Kd.C (Kd.int .i64) W A n xs
theorem RdI.below {W W' : World} {A : Option Addr} {n c : Nat} {xs : List Int} (h : RdI W A n c xs) (hb : Below W.heap.size W W') : RdI W' A n c xs := ⟨h.1, h.2.1, Kd.C_below h.2.2 hb⟩
theorem steps_len (ss : List Stp) : (ss.flatMap stepT).length ≤ 2 * ss.length := by
  induction ss with
  | nil => simp
  | cons s ss ih =>
    have h : (stepT s).length ≤ 2 := by
      unfold stepT
      (repeat' split) <;> simp
    rw [List.flatMap_cons, List.length_append, List.length_cons]
    omega
/-- A node by itself, out of a row. -/
theorem one_reads {W : World} {ad : Addr} {c k : Nat} {l : List S43} (h : Kd.C k43 W (some ad) l.length l) (hk : k < l.length) (hc : l.length ≤ c) : Kd.C k43 W (some (ad.add (k * 6))) 1 [rd_T43 l (k : Int)] := by
  have h1 := Kd.C_mid (lo := k) (hi := k + 1) h (by omega) (by omega) hc
  rw [if_neg (by omega)] at h1
  have e : (l.take (k + 1)).drop k = [rd_T43 l (k : Int)] := by
    rw [List.take_succ_eq_append_getElem hk, List.drop_append_of_le_length (by rw [List.length_take]; omega), List.drop_of_length_le (by rw [List.length_take]; omega), List.nil_append]
    congr 1
    unfold rd_T43
    rw [Int.toNat_natCast, List.getD_eq_getElem?_getD, List.getElem?_eq_getElem hk]
    rfl
  rw [e] at h1
  exact h1
theorem short_one {l : List S43} (h : DocOk l) {k : Nat} (hk : k < l.length) : Same.Short [rd_T43 l (k : Int)] := by
  have hin : In l.length (k : Int) := ⟨by omega, by omega⟩
  refine ⟨by simp, fun x hx => ?_⟩
  have e := List.mem_singleton.1 hx
  rw [e]
  exact ⟨(h.oneOk hin).2.2.2.2.1.1, h.kids_le hin⟩
theorem take_snoc (o : List Int) (j : Nat) (h : j < o.length) (x : Int) : inB (o.take (j + 1)) x = (inB (o.take j) x || (o.getD j 0 == x)) := by
  unfold inB
  have e1 : o.take (j + 1) = o.take j ++ [o.getD j 0] := by
    rw [List.take_succ_eq_append_getElem h, List.getD_eq_getElem?_getD, List.getElem?_eq_getElem h]
    rfl
  rw [e1]
  generalize o.getD j 0 = y
  rw [Bool.eq_iff_iff, Bool.or_eq_true, List.contains_iff_mem, List.contains_iff_mem, beq_iff_eq, List.mem_append, List.mem_singleton, eq_comm (a := x)]
/-- What lies ready at the loop. -/
structure TM (w W : World) (g7 : Nat) (A A2 : Option Addr) (n c n2 c2 : Nat) (q q2 : Bool) (A1 : Option Addr) (n1 c1 : Nat) (l l2 : List S43) (o : List Int) : Prop where
  b0 : W.heap[w.heap.size]? = some (.cells #[.slice A n c, .bool q] 24 (0, 0))
  b7 : W.heap[g7]? = some (.cells #[.slice A2 n2 c2, .bool q2] 24 (0, 0))
  ro : RdI W A1 n1 c1 o
  rl : n = l.length ∧ n ≤ c ∧ Kd.C k43 W A l.length l
  r2 : n2 = l2.length ∧ n2 ≤ c2 ∧ Kd.C k43 W A2 l2.length l2
  below : Below w.heap.size w W
theorem TM.on {w W W' : World} {g7 : Nat} {A A2 : Option Addr} {n c n2 c2 : Nat} {q q2 : Bool} {A1 : Option Addr} {n1 c1 : Nat} {l l2 : List S43} {o : List Int} (h : TM w W g7 A A2 n c n2 c2 q q2 A1 n1 c1 l l2 o) (hb : Below W.heap.size W W') : TM w W' g7 A A2 n c n2 c2 q q2 A1 n1 c1 l l2 o :=
  ⟨blk_below h.b0 hb, blk_below h.b7 hb, h.ro.below hb, ⟨h.rl.1, h.rl.2.1, Kd.C_below h.rl.2.2 hb⟩, ⟨h.r2.1, h.r2.2.1, Kd.C_below h.r2.2.2 hb⟩, h.below.trans (hb.mono h.below.size)⟩
set_option maxHeartbeats 8000000 in
set_option maxRecDepth 100000 in
theorem rest_row (A : Option Addr) (c : Nat) (l0 : List S43) (q : Bool) (A1 : Option Addr) (c1 : Nat) (es : List S45) (w : World) (hf0 : Fit l0) (hr : Kd.C k43 w A l0.length l0) (hc : l0.length ≤ c) (hr1 : Kd.C k45 w A1 es.length es) (hc1 : es.length ≤ c1) (hin : ∀ x ∈ es, x.f6.f2.length ≤ 4398046511104 ∧ x.f6.f5.length ≤ 17592186044416) :
    Calls Tryz.prog 4 #[.agg #[.slice A l0.length c, .bool q], .slice A1 es.length c1] w fun u w' => u = .returned (.bool true) ∧ Below w.heap.size w w' := by
  obtain ⟨n0, hn0⟩ : ∃ n0, n0 = l0.length := ⟨_, rfl⟩
  obtain ⟨m1, hm1⟩ : ∃ m1, m1 = es.length := ⟨_, rfl⟩
  obtain ⟨j1, hj1⟩ : ∃ j1 : Nat, (j1 : Int) = (if 40 < (m1 : Int) then 40 else (m1 : Int)) := ⟨(if 40 < (m1 : Int) then 40 else (m1 : Int)).toNat, by split <;> omega⟩
  have hjm1 : j1 ≤ m1 := by split at hj1 <;> omega
  have hj40 : j1 ≤ 40 := by split at hj1 <;> omega
  have hmc1 : m1 ≤ c1 := by omega
  obtain ⟨l, hl⟩ : ∃ l, l = l0.take (min n0 40) := ⟨_, rfl⟩
  obtain ⟨nn, hn⟩ : ∃ nn, nn = min n0 40 := ⟨_, rfl⟩
  have hnl : nn = l.length := by rw [hl, List.length_take]; omega
  have hrl : Kd.C k43 w A l.length l := by
    rw [hl]
    exact Kd.C_take hr (by omega)
  have hfl : Fit l := by rw [hl]; exact fit_cut hf0 _
  have hm0 : n0 ≤ 9223372036854775807 := by rw [hn0]; exact hr.2.1
  have hE1 : (es.take j1).length = j1 := by rw [List.length_take]; omega
  have hC1 : Kd.C k45 w A1 (es.take j1).length (es.take j1) := Kd.C_take hr1 (by omega)
  have hinE : ∀ x ∈ es.take j1, x.f6.f2.length ≤ 4398046511104 ∧ x.f6.f5.length ≤ 17592186044416 := fun x hx => hin x (List.mem_of_mem_take hx)
  generalize es.take j1 = E at hE1 hC1 hinE
  obtain ⟨l2, q2, i1, er, hev, hrun⟩ := all_any hfl q E
  have HFew : Hid (∀ W : World, Calls Tryz.prog 6 #[.agg #[.slice A n0 c, .bool q], .int .i64 40] W fun u w' => u = .returned (.agg #[.slice A nn c, .bool q]) ∧ Below W.heap.size W w') := Lib.hid (fun W => by
    rw [hn]
    exact few_any A n0 c 40 q W (by omega) hm0 (by decide))
  have HDo : Hid (∀ W : World, Below w.heap.size w W → Calls Tryz.prog 7 #[.agg #[.slice A nn c, .bool q], .slice A1 j1 c1] W (DoP W q l l2 E i1 er)) := Lib.hid (by
    rw [hnl, ← hE1]
    exact fun W hb => do_calls hfl hev hinE A A1 c c1 W (Kd.C_below hrl hb) (by omega) (Kd.C_below hC1 hb) (by omega))
  have HAll : Hid (∀ W : World, Below w.heap.size w W → Calls Tryz.prog 10 #[.agg #[.slice A nn c, .bool q], .slice A1 j1 c1] W fun u w' => ∃ A' n' c', u = .returned (.tuple #[.agg #[.slice A' n' c', .bool q2], .int .i64 i1, .int .i64 er]) ∧ (n' = l2.length ∧ n' ≤ c' ∧ Kd.C k43 w' A' l2.length l2) ∧ Below W.heap.size W w') := Lib.hid (by
    obtain ⟨k, hk⟩ := ev_at hev
    rw [hnl, ← hE1]
    intro W hb
    refine (dom_All.calls k A c l q A1 c1 E l2 q2 i1 er W (Kd.C_below hrl hb) (by omega) (Kd.C_below hC1 hb) (by omega) hk).mono ?_
    rintro u w' ⟨v, rfl, hS, hb'⟩
    obtain ⟨A', c', rfl⟩ := Kd.S_slice hS
    exact ⟨A', _, c', rfl, Kd.S_reads' hS, hb'⟩)
  have HRun := Lib.hid (⟨hrun, hev, hE1⟩ : _ ∧ _ ∧ _)
  have HBg : Hid (∀ W : World, Calls Tryz.prog 8 #[] W fun u w' => u = .returned (.bool true) ∧ Below W.heap.size W w') := Lib.hid (fun W => begun_calls W)
  have HRl : Hid (nn = l.length ∧ nn ≤ c ∧ Kd.C k43 w A l.length l) := Lib.hid ⟨hnl, by omega, hrl⟩
  have HCE := Lib.hid hC1
  have HJ1 := Lib.hid hj1
  have hjc1 : j1 ≤ c1 := by omega
  rw [← hn0, ← hm1]
  clear hf0 hr hc hr1 hc1 hin hn0 hm1 hj1 hl hn hnl hrl hfl hm0 hE1 hC1 hinE hev hrun
  go_enter Tryz.func4, Tryz.ntmps4
  go_upto_region 1 with fail
  have hbox : (w.alloc (.cells #[.slice A n0 c, .bool q] 24)).heap[w.heap.size]? = some (.cells #[.slice A n0 c, .bool q] 24 (0, 0)) := blk_new w _
  have hb0 : Below w.heap.size w (w.alloc (.cells #[.slice A n0 c, .bool q] 24)) := below_alloc (Below.refl _ _) _
  generalize w.alloc (.cells #[.slice A n0 c, .bool q] 24) = w1 at hbox hb0 ⊢
  go_cut [1] (fun s1 wx => s1 = .slice A1 j1 c1 ∧ Hid (T1 w wx A nn c q l))
  case first =>
    refine start_ (n := 9) (S := fun w' => w'.cell? ⟨w.heap.size, 0, none⟩ = some (.slice A n0 c) ∧ w'.cell? ⟨w.heap.size, 1, none⟩ = some (.bool q)) (ds := [7]) #[false, false, false, false, false, false, false, false, false] (by kernel_rfl) rfl rfl ⟨(blk_cell hbox 0).trans rfl, (blk_cell hbox 1).trans rfl⟩ (fun hHeld => ?_)
    refine with_tabW tab1rest.1 tab1rest.2 (fun HT_ HW_ => ?_)
    have hbox1 := blk_drew hbox
    have hbw : Below w.heap.size w w1.drew := below_drew hb0
    generalize w1.drew = w2 at hHeld hbox1 hbw ⊢
    clear hbox hb0
    have hji1 : (if 40 < (m1 : Int) then 40 else (m1 : Int)) = (j1 : Int) := HJ1.out.symm
    obtain ⟨i0, hi0, _, _, _⟩ := info_parts edit_info2
    have hcut1 := cut_to (P := Tryz.prog) 25 45 .i64 Tryz.underlying25 hi0 A1 m1 c1 (j1 : Int) (Int.natCast_nonneg j1) (Int.ofNat_le.2 hjm1) hmc1
    rw [Int.toNat_natCast] at hcut1
    refine pure_ (i := 2) (N := some 15) (v := ?_) (a' := ?_) #[false, false, true, false, false, false, false, false, false] rfl rfl (any_of HT_.out (by kernel_rfl)) (fun _ _ _ h => h) (Or.inl ⟨by rfl, ?_⟩) ?_ ?_
    rotate_left
    · intro w'
      go_simp
      with_reducible rfl
    rotate_left
    · simp only [Act.put, List.setIfInBounds_toArray, List.set_cons_zero, List.set_cons_succ, i64_w, i32_w]
      rfl
    refine pure_ (i := 3) (N := some 16) (v := ?_) (a' := ?_) #[false, false, true, true, false, false, false, false, false] rfl rfl (any_of HT_.out (by kernel_rfl)) (fun _ _ _ h => h) (Or.inl ⟨by rfl, ?_⟩) ?_ ?_
    rotate_left
    · intro w'
      go_simp
      with_reducible rfl
    rotate_left
    · simp only [Act.put, List.setIfInBounds_toArray, List.set_cons_zero, List.set_cons_succ, i64_w, i32_w]
      rfl
    refine pure_ (i := 4) (N := some 17) (v := ?_) (a' := ?_) #[false, false, true, true, true, false, false, false, false] rfl rfl (any_of HT_.out (by kernel_rfl)) (fun _ _ _ h => h) (Or.inl ⟨by rfl, ?_⟩) ?_ ?_
    rotate_left
    · intro w'
      go_simp
      with_reducible rfl
    rotate_left
    · simp only [Act.put, List.setIfInBounds_toArray, List.set_cons_zero, List.set_cons_succ, i64_w, i32_w]
      rfl
    refine pure_ (i := 5) (N := some 18) (v := ?_) (a' := ?_) #[false, false, true, true, true, true, false, false, false] rfl rfl (any_of HT_.out (by kernel_rfl)) (fun _ _ _ h => h) (Or.inl ⟨by rfl, ?_⟩) ?_ ?_
    rotate_left
    · intro w'
      go_simp
      with_reducible rfl
    rotate_left
    · simp only [Act.put, List.setIfInBounds_toArray, List.set_cons_zero, List.set_cons_succ, i64_w, i32_w]
      rfl
    refine pure_ (i := 6) (N := some 19) (v := ?_) (a' := ?_) #[false, false, true, true, true, true, true, false, false] rfl rfl (any_of HT_.out (by kernel_rfl)) (fun _ _ _ h => h) (Or.inl ⟨by rfl, ?_⟩) ?_ ?_
    rotate_left
    · intro w'
      go_simp
      with_reducible rfl
    rotate_left
    · simp only [Act.put, List.setIfInBounds_toArray, List.set_cons_zero, List.set_cons_succ, i64_w, i32_w]
      rfl
    refine take_ (i := 0) (N := some 13) (v := ?_) (a' := ?_) #[true, false, true, true, true, true, true, false, false] rfl rfl (take_ofW HT_.out HW_.out (by kernel_rfl)) (fun _ _ _ h => h) (Or.inl ⟨by rfl, ?_⟩) hHeld ?_ ?_
    rotate_left
    · rintro w' ⟨s0, s1⟩
      go_simp
      with_reducible rfl
    rotate_left
    · simp only [Act.put, List.setIfInBounds_toArray, List.set_cons_zero, List.set_cons_succ, i64_w, i32_w]
      rfl
    refine one_ (i := 1) (N := some 14) #[true, true, true, true, true, true, true, false, false] rfl rfl (one_of HT_.out (by kernel_rfl)) (by decide) (fun K hK => ?_)
    refine goes_ Tryz.func6 (by kernel_rfl) rfl #[.agg #[.slice A n0 c, .bool q], .int .i64 40] (by rfl) rfl rfl (by (try simp only [List.map_toArray, List.map_cons, List.map_nil]); first | done | rfl) ?_
    refine (HFew.out w2).mono ?_
    rintro u w3 ⟨rfl, hb3⟩
    refine ⟨_, rfl, ?_⟩
    have hbox3 := blk_below hbox1 hb3
    refine hK.out _ _ ⟨(blk_cell hbox3 0).trans rfl, (blk_cell hbox3 1).trans rfl⟩ (fun hHeld => ?_)
    clear hK K
    refine norm_ (a' := ?_) ?_ ?_
    rotate_left
    · show Act.put _ (some 14) _ = _
      simp only [Act.put, List.setIfInBounds_toArray, List.set_cons_zero, List.set_cons_succ, i64_w, i32_w]
      rfl
    refine last_ (i := 7) (N := none) #[true, true, true, true, true, true, true, true, false] rfl rfl (one_of HT_.out (by kernel_rfl)) (by decide) (fun K hK => ?_)
    have hs0 : w3.cell? ⟨w.heap.size, 0, none⟩ = some (.slice A n0 c) := (blk_cell hbox3 0).trans rfl
    have hf0 := blk_frozen hbox3 0
    have hs1 : w3.cell? ⟨w.heap.size, 1, none⟩ = some (.bool q) := (blk_cell hbox3 1).trans rfl
    have hf1 := blk_frozen hbox3 1
    refine skip_ (w1 := ?_) (by rfl) rfl ?_ ?_
    rotate_left
    · go_simp
      rfl
    refine hK.out _ _ ?_
    clear hK K
    refine pure_ (i := 8) (N := some 1) (v := ?_) (a' := ?_) #[true, true, true, true, true, true, true, true, true] rfl rfl (any_of HT_.out (by kernel_rfl)) (fun _ _ _ h => h) (Or.inl ⟨by rfl, ?_⟩) ?_ ?_
    rotate_left
    · intro w'
      go_simp
      with_reducible rfl
    rotate_left
    · simp only [Act.put, List.setIfInBounds_toArray, List.set_cons_zero, List.set_cons_succ, i64_w, i32_w]
      rfl
    refine done_ (done_of HT_.out (by kernel_rfl)) ?_
    go_wp2_with fail
    go_meet
    have hbw3 := hbw.trans (hb3.mono hbw.size)
    have hk := blk_put (blk_put (cs' := #[.slice A nn c, .bool q]) hbox3 0 (.slice A nn c) rfl) 1 (.bool q) rfl
    have hbe := (hbw3.setCell (p := ⟨w.heap.size, 0, none⟩) (Nat.le_refl _) (.slice A nn c)).setCell (p := ⟨w.heap.size, 1, none⟩) (Nat.le_refl _) (.bool q)
    exact ⟨rfl, Lib.hid ⟨⟨hk, HRl.out.1, HRl.out.2.1, Kd.C_below HRl.out.2.2 hbe⟩, hbe⟩⟩
  case rest =>
    rename World => W1
    obtain ⟨rfl, HT⟩ := hcut
    clear HFew HJ1
    obtain ⟨p0, p1⟩ := HT.out.bx.cells
    go_upto_region 2 with fail
    go_wp2_with fail
    refine (HDo.out W1 HT.out.below).mono ?_
    rintro u w1 ⟨hb1, hok, hno⟩
    have HT1 := Lib.hid (HT.out.on hb1)
    clear p0 p1 HT HDo HAll
    by_cases h0 : er = 0
    · obtain ⟨A2, n2, c2, B, d, ss, rfl, hn2, hc2, hd, hr2, hrs, hrec, hfst⟩ := hok h0
      obtain ⟨n1, hn1⟩ : ∃ n1, n1 = ss.length := ⟨_, rfl⟩
      obtain ⟨hrun, hev, hE1⟩ := HRun.out
      obtain ⟨h40, hrn⟩ := hrun h0
      have hsl : ss.length = j1 := by rw [← hE1, ← hfst, List.length_map]
      obtain ⟨o, ho⟩ : ∃ o, o = told (ss.flatMap stepT) := ⟨_, rfl⟩
      have hol : o.length ≤ 80 := by
        rw [ho]
        have h1 := told_len (ss.flatMap stepT)
        have h2 := steps_len ss
        omega
      have HTo : Hid (∀ W : World, Below w1.heap.size w1 W → Calls Tryz.prog 12 #[.slice B n1 d] W fun u w' => ∃ A' n' c', u = .returned (.slice A' n' c') ∧ RdI w' A' n' c' o ∧ Below W.heap.size W w') := Lib.hid (fun W hb => by
        have h := touched_calls (by omega) hrec.pos B d W (Kd.C_below hrs hb)
        rw [← hn1, ← ho] at h
        refine h.mono ?_
        rintro u w' ⟨v, rfl, hR⟩
        obtain ⟨A', c', rfl⟩ := Kd.R_slice hR.1
        exact ⟨A', _, c', rfl, Kd.R_reads' hR.1, hR.2⟩)
      have HRest : Hid (∀ k : Nat, k < n2 → inB o (k : Int) = false → k < nn ∧ rd_T43 l2 (k : Int) = rd_T43 l (k : Int)) := Lib.hid (fun k hk hin => by
        have hni : (k : Int) ∉ ss.flatMap stepT := fun hm => by
          have hm2 := mem_told.2 hm
          rw [← ho] at hm2
          have : inB o (k : Int) = true := by simpa [inB] using hm2
          rw [this] at hin
          cases hin
        have hr := hrec.rest k (by omega) hni
        exact ⟨by have := HRl.out.1; omega, rd_of_get hr.2 rfl⟩)
      have HDk : Hid (DocOk l) := Lib.hid hrec.run.docs.1
      have hn2c : n2 ≤ c2 := hc2
      have hn2m : n2 ≤ 1000 := by have := hrec.run.docs.2.len; omega
      have hncc : nn ≤ c := HRl.out.2.1
      have HR2 : Hid (n2 = l2.length ∧ n2 ≤ c2 ∧ Kd.C k43 w1 A2 l2.length l2) := Lib.hid ⟨hn2, hc2, hr2⟩
      have HO := Lib.hid hol
      rw [← hn1]
      clear hok hno hn2 hc2 hd hr2 hrs hrec hfst hn1 hrun hev hE1 h40 hrn hsl HRun hb1 ho hol
      subst h0
      go_upto_region 3 with fail
      obtain ⟨W3, hW3⟩ : ∃ W3, W3 = w1.alloc (.cells #[.slice A2 n2 c2, .bool q] 24) := ⟨_, rfl⟩
      have hb3 : Below w1.heap.size w1 W3 := by rw [hW3]; exact below_alloc (Below.refl _ _) _
      have H5 : Hid (BX W3 w1.heap.size A2 n2 c2 q l2) := Lib.hid (by rw [hW3]; exact BX.of HR2.out)
      rw [← hW3]
      clear hW3
      have HT3 := Lib.hid (HT1.out.on hb3)
      have HB3 := Lib.hid hb3
      clear hb3
      go_wp2_with fail
      refine (HTo.out W3 HB3.out).mono ?_
      rintro u w2 ⟨A9, n9, c9, rfl, hR9, hb2⟩
      have HM : Hid (TM w w2 w1.heap.size A A2 nn c n2 c2 q q A9 n9 c9 l l2 o) := Lib.hid (by
        have h1 := HT3.out.on hb2
        have h2 := H5.out.on hb2
        exact ⟨h1.bx.blk, h2.blk, hR9, h1.bx.rd, h2.rd, h1.below⟩)
      have hn1m : n9 ≤ 1000 := by have := hR9.1; have := HO.out; omega
      clear hR9 hb2 HT1 HT3 H5 HR2 HB3 HTo HRl HO
      generalize w1.heap.size = g7 at HM ⊢
      go_upto_region 6 with fail
      go_wp2_with fail
      go_loopw [10] (fun s10 wr => ∃ k : Nat, k ≤ n2 ∧ s10 = .int .i64 k ∧ Hid (TM w wr g7 A A2 nn c n2 c2 q q A9 n9 c9 l l2 o)) (fun s10 _ => n2 - (intOf s10).toNat)
      case atStart => exact ⟨0, Nat.zero_le _, rfl, HM⟩
      case round =>
        obtain ⟨k, hk, rfl, HN⟩ := hrel
        clear HM
        have q70 : wr.cell? ⟨g7, 0, none⟩ = some (.slice A2 n2 c2) := (blk_cell HN.out.b7 0).trans rfl
        by_cases hlt : k < n2
        · go_wp2_with fail
          go_loopw [11, 12] (fun s11 s12 wx => ∃ j : Nat, j ≤ n9 ∧ s12 = .int .i64 j ∧ s11 = .bool (inB (o.take j) (k : Int)) ∧ Hid (TM w wx g7 A A2 nn c n2 c2 q q A9 n9 c9 l l2 o)) (fun _ s12 _ => n9 - (intOf s12).toNat)
          case atStart => exact ⟨0, Nat.zero_le _, rfl, rfl, HN⟩
          case round =>
            obtain ⟨j, hj, rfl, rfl, HN2⟩ := hrel
            clear HN q70
            by_cases hjl : j < n9
            · have hol := HN2.out.ro.1
              obtain ⟨ad, cs, hA9, hcl, hK, hcc⟩ := Kd.C_get HN2.out.ro.2.2 0 (j : Int) (by omega) (by omega)
              rw [Int.toNat_natCast] at hK hcc
              have d0 : wr.cell? (ad.add j) = some (.int .i64 (o.getD j 0)) := by
                have hcs : cs = [.int .i64 (o.getD j 0)] := hK
                subst hcs
                have := hcc 0 _ rfl
                rw [show j * (Kd.int .i64).sz + 0 = j from by show j * 1 + 0 = j; omega] at this
                exact this
              have HS : Hid (inB (o.take (j + 1)) (k : Int) = (inB (o.take j) (k : Int) || (o.getD j 0 == (k : Int)))) := Lib.hid (take_snoc o j (by omega) k)
              subst hA9
              clear hK hcc hcl hol
              generalize o.getD j 0 = y at *
              cases hb : inB (o.take j) (k : Int) with
              | true =>
                have HV : Hid (inB (o.take (j + 1)) (k : Int) = true) := Lib.hid (by rw [HS.out, hb]; rfl)
                clear HS hb
                go_wp2_with fail
                go_roundw
                case rel => exact ⟨j + 1, by omega, by go_num, by rw [HV.out], HN2⟩
                case measure => simp [intOf]; omega
              | false =>
                by_cases hy : y = (k : Int)
                · have HV : Hid (inB (o.take (j + 1)) (k : Int) = true) := Lib.hid (by rw [HS.out, hb, hy]; simp)
                  have yb : (y == (k : Int)) = true := by simpa using hy
                  clear HS hb hy
                  go_wp2_with fail
                  go_roundw
                  case rel => exact ⟨j + 1, by omega, by go_num, by rw [HV.out], HN2⟩
                  case measure => simp [intOf]; omega
                · have yb : (y == (k : Int)) = false := by simpa using hy
                  have HV : Hid (inB (o.take (j + 1)) (k : Int) = false) := Lib.hid (by rw [HS.out, hb, yb]; rfl)
                  clear HS hb hy
                  go_wp2_with fail
                  go_roundw
                  case rel => exact ⟨j + 1, by omega, by go_num, by rw [HV.out], HN2⟩
                  case measure => simp [intOf]; omega
            · obtain rfl : j = n9 := by omega
              have ht : o.take j = o := List.take_of_length_le (by have := HN2.out.ro.1; omega)
              rw [ht]
              clear ht
              cases hb : inB o (k : Int) with
              | true =>
                clear hb
                have HN7 := Lib.hid (fun t => HN2.out.on (pw_below_drewN (Below.refl _ _) t))
                go_upto_region 14 with fail
                go_quiet (fail)
                go_wp2_with fail
                go_roundw
                case rel => exact ⟨k + 1, by omega, by go_num, Lib.hid (HN7.out _)⟩
                case measure => simp [intOf]; omega
              | false =>
                obtain ⟨hkn, hrd⟩ := HRest.out k hlt hb
                have HRd := Lib.hid hrd
                obtain ⟨adL, -, -, -, -, eL, -⟩ := at_T43 HN2.out.rl.2.2 (k : Int) (by omega) (by have := HN2.out.rl.1; omega)
                obtain ⟨adX, -, -, -, -, eX, -⟩ := at_T43 HN2.out.r2.2.2 (k : Int) (by omega) (by have := HN2.out.r2.1; omega)
                subst eL eX
                have HSm : Hid (∀ W : World, Below wr.heap.size wr W → Calls Tryz.prog 11 #[.agg #[.slice (some (adL.add (k * 6))) 1 (c - k), .bool false], .agg #[.slice (some (adX.add (k * 6))) 1 (c2 - k), .bool false]] W fun u w' => u = .returned (.bool true) ∧ Below wr.heap.size wr w' ∧ Below W.heap.size W w') := Lib.hid (fun W hb => by
                  have h1 := one_reads HN2.out.rl.2.2 (k := k) (c := c) (by have := HN2.out.rl.1; omega) (by have := HN2.out.rl.1; have := HN2.out.rl.2.1; omega)
                  have h2 := one_reads HN2.out.r2.2.2 (k := k) (c := c2) (by have := HN2.out.r2.1; omega) (by have := HN2.out.r2.1; have := HN2.out.r2.2.1; omega)
                  rw [HRd.out] at h2
                  exact (Same.sameDoc_calls [rd_T43 l (k : Int)] false (some (adL.add (k * 6))) (some (adX.add (k * 6))) (c - k) (c2 - k) W (Kd.C_below h1 hb) (by have := HN2.out.rl.2.1; simp; omega) (Kd.C_below h2 hb) (by simp; omega) (short_one HDk.out (by have := HN2.out.rl.1; omega))).mono (fun u w' h => ⟨h.1, hb.trans (h.2.mono hb.size), h.2⟩))
                have HE : Hid (∀ W : World, Below wr.heap.size wr W → W.cell? ⟨w.heap.size, 0, none⟩ = some (.slice (some adL) nn c) ∧ W.cell? ⟨g7, 0, none⟩ = some (.slice (some adX) n2 c2)) := Lib.hid (fun W hb => ⟨(blk_cell (blk_below HN2.out.b0 hb) 0).trans rfl, (blk_cell (blk_below HN2.out.b7 hb) 0).trans rfl⟩)
                have hck : ¬ c = k := by omega
                have hck2 : ¬ c2 = k := by omega
                have hkc : k + 1 ≤ c := by omega
                have hkc2 : k + 1 ≤ c2 := by omega
                have hkd : ¬ (nn : Int) ≤ (k : Int) := by omega
                have hw1 : IntKind.i64.wrap ((k : Int) + 1) = (k : Int) + 1 := IntWalk.i64_in _ (by omega)
                have hw2 : ((k : Int) + 1).toNat = k + 1 := by omega
                have hw3 : 0 ≤ (k : Int) + 1 := by omega
                have hv1 : (0 : Int) ≤ (k : Int) := by omega
                have hv2 : (k : Int) ≤ (k : Int) + 1 := by omega
                have hv3 : (k : Int) + 1 ≤ (c : Int) := by omega
                have hv4 : (k : Int) + 1 ≤ (c2 : Int) := by omega
                have hv5 : (k : Int) ≤ (c : Int) := by omega
                have hv6 : (k : Int) ≤ (c2 : Int) := by omega
                have hv7 : k < c := by omega
                have hv8 : k < c2 := by omega
                clear hb hrd
                go_upto_region 14 with fail
                go_region_held3 (fun W => W.cell? ⟨w.heap.size, 0, none⟩ = some (.slice (some adL) nn c) ∧ W.cell? ⟨g7, 0, none⟩ = some (.slice (some adX) n2 c2)) (exact HE.out _ (by (repeat (first | refine below_alloc ?_ _ | refine below_drew ?_ | refine Below.setCell ?_ (by simp) _)); first | exact hb5 | exact Below.refl _ _)) (first | (with_reducible refine (HSm.out _ ?_).mono ?_; ((repeat (first | refine below_alloc ?_ _ | refine below_drew ?_)); exact Below.refl _ _); rintro u w5 ⟨rfl, hb5, hb5'⟩))
                all_goals
                  have HN5 := Lib.hid (HN2.out.on hb5)
                  clear hb5 hb5' hw1 hw2 hw3
                  go_wp2_with fail
                  go_roundw
                  case rel => exact ⟨k + 1, by omega, by go_num, HN5⟩
                  case measure => simp [intOf]; omega
        · obtain rfl : k = n2 := by omega
          go_wp2_with fail
          refine (HBg.out _).mono ?_
          rintro u w4 ⟨rfl, hb4⟩
          have HB4 := Lib.hid (HN.out.below.trans (hb4.mono HN.out.below.size))
          clear hb4 HN
          go_wp2_with fail
          go_ret
          exact ⟨rfl, HB4.out⟩
    · obtain rfl := hno h0
      have e1 : (er != 0) = true := by simpa using h0
      clear hok hno h0 HRun hb1
      go_upto_region 3 with fail
      obtain ⟨W3, hW3⟩ : ∃ W3, W3 = w1.alloc (.cells #[.slice none 0 0, .bool false] 24) := ⟨_, rfl⟩
      have hb3 : Below w1.heap.size w1 W3 := by rw [hW3]; exact below_alloc (Below.refl _ _) _
      rw [← hW3]
      clear hW3
      have HT3 := Lib.hid (HT1.out.on hb3)
      clear hb3
      go_wp2_with fail
      refine (HBg.out W3).mono ?_
      rintro u w5 ⟨rfl, hb5⟩
      have HT4 := Lib.hid (HT3.out.on hb5)
      clear hb5
      go_wp2_with fail
      go_ret
      exact ⟨rfl, HT4.out.below⟩
end Go.Proofs.YtmcinclecpeakaaGreatDoor.ApA
