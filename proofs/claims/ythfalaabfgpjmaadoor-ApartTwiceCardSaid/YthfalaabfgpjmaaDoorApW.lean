/- The law ApartTwice walked: it returns true. -/
import Derived.Test.YthfalaabfgpjmaaDoorApI
import Derived.Test.YthfalaabfgpjmaaDoorApV
namespace Go.Proofs.YthfalaabfgpjmaaDoor.ApA
open Go.RowKit Go.Proofs.YthfalaabfgpjmaaDoorW.PrintWords Go.Proofs.YthfalaabfgpjmaaDoorW.PrintLast Go.Proofs.YthfalaabfgpjmaaDoorW.PrintMore Go.Proofs.YthfalaabfgpjmaaDoor.PAP Go.Proofs.YthfalaabfgpjmaaDoor.DocP Go.Proofs.YthfalaabfgpjmaaDoor.DocC
attribute [local go_sem] max2_int min2_int max_two min_two max_three min_three max_four min_four
set_option linter.unusedVariables false
set_option linter.unusedSimpArgs false
def T1 : Bool × List (List Nat × List Nat) := (true, [([], []), ([0], [0]), ([], []), ([], []), ([3], [3]), ([4], [4]), ([2, 5], [2, 5]), ([], []), ([], []), ([8], [8]), ([9], [9]), ([7, 10], [7, 10]), ([1, 1, 0, 1], [1]), ([6, 12, 0, 1, 2, 3, 4, 5, 6, 12], [2, 3, 6]), ([11, 13, 0, 1, 2, 3, 4, 5, 6, 7, 8, 9, 10, 11, 12, 13], [7, 8, 11])])
def B1 : List Nat := [0, 1, 0, 0, 8, 24, 60, 0, 0, 256, 768, 1920, 3, 4223, 16383]
theorem tab1 : rtab .any (opsOf Tryd.f4 1) = T1 ∧ waitsOk T1.2 B1 = true := ⟨by kernel_rfl, by kernel_rfl⟩

theorem text_info : (Tryd.prog.info? 9).map (fun i => (i.zero, i.size, i.bytes)) = some (some (.string ⟨#[]⟩), 1, 16) := by kernel_rfl
/-- The texts as they are set. -/
def vsOf (T : List ByteArray) : List ByteArray := T.map fun s => s.extract 0 (min s.size 50)
theorem set_snoc {T : List ByteArray} {num : Int} {SET : List S30} (h : SET = (vsOf T).map (edT' num)) {k : Nat} (hk : k < T.length) : SET.take (k + 1) = SET.take k ++ [edT' num ((T.getD k ⟨#[]⟩).extract 0 (min (T.getD k ⟨#[]⟩).size 50))] := by
  subst h
  rw [List.take_succ_eq_append_getElem (by simp [vsOf]; exact hk)]
  congr 2
  simp only [vsOf, List.getElem_map]
  rw [List.getD_eq_getElem?_getD, List.getElem?_eq_getElem hk]
  rfl
theorem set_at_num {T : List ByteArray} {num : Int} {SET : List S30} (h : SET = (vsOf T).map (edT' num)) {k : Nat} (hk : k < SET.length) : (SET.getD k z30).f1 = num := by
  subst h
  rw [List.getD_eq_getElem?_getD, List.getElem?_eq_getElem hk, Option.getD_some, List.getElem_map]
  rfl
theorem set_fk (W : World) (num : Int) (v : ByteArray) : Kd.FK k30 W (fun _ => False) (edT' num v) [.int .i64 3, .int .i64 num, .int .i64 0, .int .i64 0, .string ⟨#[]⟩, .string v, .int .i64 0, .string ⟨#[]⟩, .slice none 0 0, .string ⟨#[]⟩, .int .i64 0, .slice none 0 0] := fun W' _ => k30_mk W' (edT' num v) (A8 := none) (c8 := 0) (Nat.le_refl 0) (Kd.C_nil _ _) (A11 := none) (c11 := 0) (Nat.le_refl 0) (Kd.C_nil _ _)
/-- The document's box. -/
structure TB (w W : World) (A : Option Addr) (n c : Nat) (q : Bool) : Prop where
  b0 : W.heap[w.heap.size]? = some (.cells #[.slice A n c, .bool q] 24 (0, 0))
  below : Below w.heap.size w W
theorem TB.on {w W W' : World} {A : Option Addr} {n c : Nat} {q : Bool} (h : TB w W A n c q) (hb : Below W.heap.size W W') : TB w W' A n c q := ⟨blk_below h.b0 hb, h.below.trans (hb.mono h.below.size)⟩
theorem TB.grown {w W W' : World} {A B : Option Addr} {n c m d : Nat} {q : Bool} {o : List S30} (h : TB w W A n c q) (hf : FI w W B m d o) (hg : W.grownBy W' (Value.slice B m d).ownBlock) : TB w W' A n c q := by
  refine ⟨(hg.block _ (blk_lt h.b0) (fun e => ?_)).trans h.b0, (h.below.grown hg h.below.size (fun k hk => Kd.N_base hf.row k hk))⟩
  obtain ⟨cells, hty⟩ := Kd.N_typed hf.row _ e.symm
  rw [h.b0] at hty
  injection hty with hty
  injection hty with _ hty _
  exact absurd hty (by decide)
theorem red_mem : ∀ (k : Nat) (o : List S30), ∀ x ∈ redF k o, x ∈ o
  | 0, o, x, h => h
  | k + 1, o, x, h => by
    by_cases h2 : 2 ≤ o.length
    · cases hj : joinE (rd_T30 o ((o.length - 2 : Nat) : Int)) (rd_T30 o ((o.length - 1 : Nat) : Int)) with
      | none => rw [red_no h2 hj] at h; exact h
      | some b =>
        cases b with
        | true =>
          rw [red_yes h2 hj] at h
          have h3 := red_mem k _ x h
          rcases List.mem_append.1 h3 with h4 | h4
          · exact List.mem_of_mem_take h4
          · rw [List.mem_singleton] at h4
            rw [h4, rd_get o (by omega)]
            exact List.getElem_mem _
        | false =>
          rw [red_gone h2 hj] at h
          exact List.mem_of_mem_take (red_mem k _ x h)
    · rw [red_short h2] at h; exact h
theorem fold_mem (es : List S30) : ∀ k, k ≤ es.length → ∀ x ∈ foldF (es.take k), x ∈ es
  | 0, _, x, h => by simp [foldF] at h
  | k + 1, hk, x, h => by
    rw [foldF_take es (by omega)] at h
    rcases List.mem_append.1 (red_mem _ _ x h) with h3 | h3
    · exact fold_mem es k (by omega) x h3
    · rw [List.mem_singleton] at h3
      rw [h3, rd_get es (by omega)]
      exact List.getElem_mem _
set_option maxHeartbeats 8000000 in
set_option maxRecDepth 100000 in
theorem twice_row (A : Option Addr) (c : Nat) (l0 : List S28) (q : Bool) (A1 : Option Addr) (c1 : Nat) (es : List S30) (num : Int) (A3 : Option Addr) (c3 : Nat) (ts : List ByteArray) (w : World) (hf0 : Fit l0) (hr : Kd.C k28 w A l0.length l0) (hc : l0.length ≤ c) (hr1 : Kd.C k30 w A1 es.length es) (hc1 : es.length ≤ c1) (hin : ∀ x ∈ es, x.f6.f2.length ≤ 4398046511104 ∧ x.f6.f5.length ≤ 17592186044416) (hr3 : Kd.C Kd.string w A3 ts.length ts) (hc3 : ts.length ≤ c3) :
    Calls Tryd.prog 4 #[.agg #[.slice A l0.length c, .bool q], .slice A1 es.length c1, .int .i64 num, .slice A3 ts.length c3] w fun u w' => u = .returned (.bool true) ∧ Below w.heap.size w w' := by
  obtain ⟨n0, hn0⟩ : ∃ n0, n0 = l0.length := ⟨_, rfl⟩
  obtain ⟨m1, hm1⟩ : ∃ m1, m1 = es.length := ⟨_, rfl⟩
  obtain ⟨m3, hm3⟩ : ∃ m3, m3 = ts.length := ⟨_, rfl⟩
  obtain ⟨j1, hj1⟩ : ∃ j1 : Nat, (j1 : Int) = (if 40 < (m1 : Int) then 40 else (m1 : Int)) := ⟨(if 40 < (m1 : Int) then 40 else (m1 : Int)).toNat, by split <;> omega⟩
  obtain ⟨j3, hj3⟩ : ∃ j3 : Nat, (j3 : Int) = (if 10 < (m3 : Int) then 10 else (m3 : Int)) := ⟨(if 10 < (m3 : Int) then 10 else (m3 : Int)).toNat, by split <;> omega⟩
  have hjm1 : j1 ≤ m1 := by split at hj1 <;> omega
  have hjm3 : j3 ≤ m3 := by split at hj3 <;> omega
  have hj40 : j1 ≤ 40 := by split at hj1 <;> omega
  have hj10 : j3 ≤ 10 := by split at hj3 <;> omega
  have hmc1 : m1 ≤ c1 := by omega
  have hmc3 : m3 ≤ c3 := by omega
  obtain ⟨l, hl⟩ : ∃ l, l = l0.take (min n0 40) := ⟨_, rfl⟩
  obtain ⟨nn, hn⟩ : ∃ nn, nn = min n0 40 := ⟨_, rfl⟩
  have hnl : nn = l.length := by rw [hl, List.length_take]; omega
  have hrl : Kd.C k28 w A l.length l := by
    rw [hl]
    exact Kd.C_take hr (by omega)
  have hfl : Fit l := by rw [hl]; exact fit_cut hf0 _
  have hm0 : n0 ≤ 9223372036854775807 := by rw [hn0]; exact hr.2.1
  have hE1 : (es.take j1).length = j1 := by rw [List.length_take]; omega
  have hT1 : (ts.take j3).length = j3 := by rw [List.length_take]; omega
  have hC1 : Kd.C k30 w A1 (es.take j1).length (es.take j1) := Kd.C_take hr1 (by omega)
  have hC3 : Kd.C Kd.string w A3 (ts.take j3).length (ts.take j3) := Kd.C_take hr3 (by omega)
  have hinE : ∀ x ∈ es.take j1, x.f6.f2.length ≤ 4398046511104 ∧ x.f6.f5.length ≤ 17592186044416 := fun x hx => hin x (List.mem_of_mem_take hx)
  generalize es.take j1 = E at hE1 hC1 hinE
  generalize ts.take j3 = T at hT1 hC3
  obtain ⟨SET, hSet⟩ : ∃ SET, SET = (vsOf T).map (edT' num) := ⟨_, rfl⟩
  have hSl : SET.length = j3 := by rw [hSet, List.length_map]; simp [vsOf]; exact hT1
  obtain ⟨l2, q2, i1, er, hev, hrun⟩ := all_any hfl q E
  obtain ⟨l4, q4, i4, er3, hev3, _⟩ := all_any hfl q SET
  have HFew : Hid (∀ W : World, Calls Tryd.prog 6 #[.agg #[.slice A n0 c, .bool q], .int .i64 40] W fun u w' => u = .returned (.agg #[.slice A nn c, .bool q]) ∧ Below W.heap.size W w') := Lib.hid (fun W => by
    rw [hn]
    exact few_any A n0 c 40 q W (by omega) hm0 (by decide))
  have HF1 : Hid (∀ W : World, Below w.heap.size w W → Calls Tryd.prog 11 #[.agg #[.slice A nn c, .bool q], .slice A1 j1 c1] W (FoldP W er E)) := Lib.hid (by
    rw [hnl, ← hE1]
    exact fun W hb => fold_calls hev (by omega) hinE A A1 c c1 W (Kd.C_below hrl hb) (by omega) (Kd.C_below hC1 hb) (by omega))
  have HF2 : Hid (er = 0 → ∀ (W : World) (B : Option Addr) (d : Nat), Below w.heap.size w W → Kd.C k30 W B (foldF E).length (foldF E) → (foldF E).length ≤ d → Calls Tryd.prog 11 #[.agg #[.slice A nn c, .bool q], .slice B (foldF E).length d] W (FoldP W 0 (foldF E))) := Lib.hid (fun h0 W B d hb hrd hd => by
    obtain ⟨h40, hrn⟩ := hrun h0
    have hle : (foldF E).length ≤ 40 := by
      have := foldF_le E E.length (Nat.le_refl _)
      rw [List.take_length] at this
      omega
    rw [hnl]
    exact fold_calls ((fold_does hrn).all hle) hle (fun x hx => hinE x (by have := fold_mem E E.length (Nat.le_refl _) x; rw [List.take_length] at this; exact this hx)) A B c d W (Kd.C_below hrl hb) (by omega) hrd hd)
  have HFs : Hid (∀ (W : World) (B : Option Addr) (d : Nat), FI w W B j3 d SET → Calls Tryd.prog 11 #[.agg #[.slice A nn c, .bool q], .slice B j3 d] W (FoldP W er3 SET)) := Lib.hid (fun W B d hfi => by
    have hrd := Kd.N_reads' hfi.row
    rw [hnl, ← hSl]
    exact fold_calls hev3 (by omega) (fun x hx => by
      rw [hSet] at hx
      obtain ⟨v, _, rfl⟩ := List.mem_map.1 hx
      exact ⟨Nat.zero_le _, Nat.zero_le _⟩) A B c d W (Kd.C_below hrl hfi.below) (by omega) hrd.2.2 (by have := hrd.2.1; omega))
  have HBg : Hid (∀ W : World, Calls Tryd.prog 8 #[] W fun u w' => u = .returned (.bool true) ∧ Below W.heap.size W w') := Lib.hid (fun W => begun_calls W)
  have HTx : Hid (T.length = j3 ∧ Kd.C Kd.string w A3 T.length T) := Lib.hid ⟨hT1, hC3⟩
  have HSet := Lib.hid hSet
  have HJ1 := Lib.hid hj1
  have HJ3 := Lib.hid hj3
  have hjc1 : j1 ≤ c1 := by omega
  have hjc3 : j3 ≤ c3 := by omega
  rw [← hn0, ← hm1, ← hm3]
  clear hf0 hr hc hr1 hc1 hin hr3 hc3 hn0 hm1 hm3 hj1 hj3 hl hn hnl hrl hfl hm0 hE1 hT1 hC1 hC3 hinE hSet hSl hev hrun hev3
  go_enter Tryd.func4, Tryd.ntmps4
  go_upto_region 1 with fail
  have hbox : (w.alloc (.cells #[.slice A n0 c, .bool q] 24)).heap[w.heap.size]? = some (.cells #[.slice A n0 c, .bool q] 24 (0, 0)) := blk_new w _
  have hb0 : Below w.heap.size w (w.alloc (.cells #[.slice A n0 c, .bool q] 24)) := below_alloc (Below.refl _ _) _
  generalize w.alloc (.cells #[.slice A n0 c, .bool q] 24) = w1 at hbox hb0 ⊢
  go_cut [1, 3] (fun s1 s3 wx => s1 = .slice A1 j1 c1 ∧ s3 = .slice A3 j3 c3 ∧ Hid (TB w wx A nn c q))
  case first =>
    refine start_ (n := 15) (S := fun w' => w'.cell? ⟨w.heap.size, 0, none⟩ = some (.slice A n0 c) ∧ w'.cell? ⟨w.heap.size, 1, none⟩ = some (.bool q)) (ds := [12]) #[false, false, false, false, false, false, false, false, false, false, false, false, false, false, false] (by kernel_rfl) rfl rfl ⟨(blk_cell hbox 0).trans rfl, (blk_cell hbox 1).trans rfl⟩ (fun hHeld => ?_)
    refine with_tabW tab1.1 tab1.2 (fun HT_ HW_ => ?_)
    have hbox1 := blk_drew hbox
    have hbw : Below w.heap.size w w1.drew := below_drew hb0
    generalize w1.drew = w2 at hHeld hbox1 hbw ⊢
    clear hbox hb0
    have hji1 : (if 40 < (m1 : Int) then 40 else (m1 : Int)) = (j1 : Int) := HJ1.out.symm
    have hji2 : (if 10 < (m3 : Int) then 10 else (m3 : Int)) = (j3 : Int) := HJ3.out.symm
    obtain ⟨i0, hi0, _, _, _⟩ := info_parts edit_info
    obtain ⟨i4, hi4, _, _, _⟩ := info_parts text_info
    have hcut1 := cut_to (P := Tryd.prog) 38 30 .i64 Tryd.underlying38 hi0 A1 m1 c1 (j1 : Int) (Int.natCast_nonneg j1) (Int.ofNat_le.2 hjm1) hmc1
    have hcut2 := cut_to (P := Tryd.prog) 41 9 .i64 Tryd.underlying41 hi4 A3 m3 c3 (j3 : Int) (Int.natCast_nonneg j3) (Int.ofNat_le.2 hjm3) hmc3
    rw [Int.toNat_natCast] at hcut1 hcut2
    refine pure_ (i := 2) (N := some 20) (v := ?_) (a' := ?_) #[false, false, true, false, false, false, false, false, false, false, false, false, false, false, false] rfl rfl (any_of HT_.out (by kernel_rfl)) (fun _ _ _ h => h) (Or.inl ⟨by rfl, ?_⟩) ?_ ?_
    rotate_left
    · intro w'
      go_simp
      with_reducible rfl
    rotate_left
    · simp only [Act.put, List.setIfInBounds_toArray, List.set_cons_zero, List.set_cons_succ, i64_w, i32_w]
      rfl
    refine pure_ (i := 3) (N := some 21) (v := ?_) (a' := ?_) #[false, false, true, true, false, false, false, false, false, false, false, false, false, false, false] rfl rfl (any_of HT_.out (by kernel_rfl)) (fun _ _ _ h => h) (Or.inl ⟨by rfl, ?_⟩) ?_ ?_
    rotate_left
    · intro w'
      go_simp
      with_reducible rfl
    rotate_left
    · simp only [Act.put, List.setIfInBounds_toArray, List.set_cons_zero, List.set_cons_succ, i64_w, i32_w]
      rfl
    refine pure_ (i := 4) (N := some 22) (v := ?_) (a' := ?_) #[false, false, true, true, true, false, false, false, false, false, false, false, false, false, false] rfl rfl (any_of HT_.out (by kernel_rfl)) (fun _ _ _ h => h) (Or.inl ⟨by rfl, ?_⟩) ?_ ?_
    rotate_left
    · intro w'
      go_simp
      with_reducible rfl
    rotate_left
    · simp only [Act.put, List.setIfInBounds_toArray, List.set_cons_zero, List.set_cons_succ, i64_w, i32_w]
      rfl
    refine pure_ (i := 5) (N := some 23) (v := ?_) (a' := ?_) #[false, false, true, true, true, true, false, false, false, false, false, false, false, false, false] rfl rfl (any_of HT_.out (by kernel_rfl)) (fun _ _ _ h => h) (Or.inl ⟨by rfl, ?_⟩) ?_ ?_
    rotate_left
    · intro w'
      go_simp
      with_reducible rfl
    rotate_left
    · simp only [Act.put, List.setIfInBounds_toArray, List.set_cons_zero, List.set_cons_succ, i64_w, i32_w]
      rfl
    refine pure_ (i := 6) (N := some 24) (v := ?_) (a' := ?_) #[false, false, true, true, true, true, true, false, false, false, false, false, false, false, false] rfl rfl (any_of HT_.out (by kernel_rfl)) (fun _ _ _ h => h) (Or.inl ⟨by rfl, ?_⟩) ?_ ?_
    rotate_left
    · intro w'
      go_simp
      with_reducible rfl
    rotate_left
    · simp only [Act.put, List.setIfInBounds_toArray, List.set_cons_zero, List.set_cons_succ, i64_w, i32_w]
      rfl
    refine pure_ (i := 7) (N := some 25) (v := ?_) (a' := ?_) #[false, false, true, true, true, true, true, true, false, false, false, false, false, false, false] rfl rfl (any_of HT_.out (by kernel_rfl)) (fun _ _ _ h => h) (Or.inl ⟨by rfl, ?_⟩) ?_ ?_
    rotate_left
    · intro w'
      go_simp
      with_reducible rfl
    rotate_left
    · simp only [Act.put, List.setIfInBounds_toArray, List.set_cons_zero, List.set_cons_succ, i64_w, i32_w]
      rfl
    refine pure_ (i := 8) (N := some 26) (v := ?_) (a' := ?_) #[false, false, true, true, true, true, true, true, true, false, false, false, false, false, false] rfl rfl (any_of HT_.out (by kernel_rfl)) (fun _ _ _ h => h) (Or.inl ⟨by rfl, ?_⟩) ?_ ?_
    rotate_left
    · intro w'
      go_simp
      with_reducible rfl
    rotate_left
    · simp only [Act.put, List.setIfInBounds_toArray, List.set_cons_zero, List.set_cons_succ, i64_w, i32_w]
      rfl
    refine pure_ (i := 9) (N := some 27) (v := ?_) (a' := ?_) #[false, false, true, true, true, true, true, true, true, true, false, false, false, false, false] rfl rfl (any_of HT_.out (by kernel_rfl)) (fun _ _ _ h => h) (Or.inl ⟨by rfl, ?_⟩) ?_ ?_
    rotate_left
    · intro w'
      go_simp
      with_reducible rfl
    rotate_left
    · simp only [Act.put, List.setIfInBounds_toArray, List.set_cons_zero, List.set_cons_succ, i64_w, i32_w]
      rfl
    refine pure_ (i := 10) (N := some 28) (v := ?_) (a' := ?_) #[false, false, true, true, true, true, true, true, true, true, true, false, false, false, false] rfl rfl (any_of HT_.out (by kernel_rfl)) (fun _ _ _ h => h) (Or.inl ⟨by rfl, ?_⟩) ?_ ?_
    rotate_left
    · intro w'
      go_simp
      with_reducible rfl
    rotate_left
    · simp only [Act.put, List.setIfInBounds_toArray, List.set_cons_zero, List.set_cons_succ, i64_w, i32_w]
      rfl
    refine pure_ (i := 11) (N := some 29) (v := ?_) (a' := ?_) #[false, false, true, true, true, true, true, true, true, true, true, true, false, false, false] rfl rfl (any_of HT_.out (by kernel_rfl)) (fun _ _ _ h => h) (Or.inl ⟨by rfl, ?_⟩) ?_ ?_
    rotate_left
    · intro w'
      go_simp
      with_reducible rfl
    rotate_left
    · simp only [Act.put, List.setIfInBounds_toArray, List.set_cons_zero, List.set_cons_succ, i64_w, i32_w]
      rfl
    refine take_ (i := 0) (N := some 18) (v := ?_) (a' := ?_) #[true, false, true, true, true, true, true, true, true, true, true, true, false, false, false] rfl rfl (take_ofW HT_.out HW_.out (by kernel_rfl)) (fun _ _ _ h => h) (Or.inl ⟨by rfl, ?_⟩) hHeld ?_ ?_
    rotate_left
    · rintro w' ⟨s0, s1⟩
      go_simp
      with_reducible rfl
    rotate_left
    · simp only [Act.put, List.setIfInBounds_toArray, List.set_cons_zero, List.set_cons_succ, i64_w, i32_w]
      rfl
    refine one_ (i := 1) (N := some 19) #[true, true, true, true, true, true, true, true, true, true, true, true, false, false, false] rfl rfl (one_of HT_.out (by kernel_rfl)) (by decide) (fun K hK => ?_)
    refine goes_ Tryd.func6 (by kernel_rfl) rfl #[.agg #[.slice A n0 c, .bool q], .int .i64 40] (by rfl) rfl rfl (by (try simp only [List.map_toArray, List.map_cons, List.map_nil]); first | done | rfl) ?_
    refine (HFew.out w2).mono ?_
    rintro u w3 ⟨rfl, hb3⟩
    refine ⟨_, rfl, ?_⟩
    have hbox3 := blk_below hbox1 hb3
    refine hK.out _ _ ⟨(blk_cell hbox3 0).trans rfl, (blk_cell hbox3 1).trans rfl⟩ (fun hHeld => ?_)
    clear hK K
    refine norm_ (a' := ?_) ?_ ?_
    rotate_left
    · show Act.put _ (some 19) _ = _
      simp only [Act.put, List.setIfInBounds_toArray, List.set_cons_zero, List.set_cons_succ, i64_w, i32_w]
      rfl
    refine last_ (i := 12) (N := none) #[true, true, true, true, true, true, true, true, true, true, true, true, true, false, false] rfl rfl (one_of HT_.out (by kernel_rfl)) (by decide) (fun K hK => ?_)
    have hs0 : w3.cell? ⟨w.heap.size, 0, none⟩ = some (.slice A n0 c) := (blk_cell hbox3 0).trans rfl
    have hf0 := blk_frozen hbox3 0
    have hs1 : w3.cell? ⟨w.heap.size, 1, none⟩ = some (.bool q) := (blk_cell hbox3 1).trans rfl
    have hf1 := blk_frozen hbox3 1
    refine skip_ (w1 := ?_) (by rfl) rfl ?_ ?_
    rotate_left
    · go_simp
      rfl
    refine hK.out _ _ ?_
    clear hK K
    refine pure_ (i := 13) (N := some 1) (v := ?_) (a' := ?_) #[true, true, true, true, true, true, true, true, true, true, true, true, true, true, false] rfl rfl (any_of HT_.out (by kernel_rfl)) (fun _ _ _ h => h) (Or.inl ⟨by rfl, ?_⟩) ?_ ?_
    rotate_left
    · intro w'
      go_simp
      with_reducible rfl
    rotate_left
    · simp only [Act.put, List.setIfInBounds_toArray, List.set_cons_zero, List.set_cons_succ, i64_w, i32_w]
      rfl
    refine pure_ (i := 14) (N := some 3) (v := ?_) (a' := ?_) #[true, true, true, true, true, true, true, true, true, true, true, true, true, true, true] rfl rfl (any_of HT_.out (by kernel_rfl)) (fun _ _ _ h => h) (Or.inl ⟨by rfl, ?_⟩) ?_ ?_
    rotate_left
    · intro w'
      go_simp
      with_reducible rfl
    rotate_left
    · simp only [Act.put, List.setIfInBounds_toArray, List.set_cons_zero, List.set_cons_succ, i64_w, i32_w]
      rfl
    refine done_ (done_of HT_.out (by kernel_rfl)) ?_
    go_wp2_with fail
    go_meet
    exact ⟨rfl, rfl, Lib.hid ⟨blk_put (blk_put (cs' := #[.slice A nn c, .bool q]) hbox3 0 _ rfl) 1 _ rfl, ((hbw.trans (hb3.mono hbw.size)).setCell (Nat.le_refl _) _).setCell (Nat.le_refl _) _⟩⟩
  case rest =>
    obtain ⟨rfl, rfl, HT⟩ := hcut
    clear hbox hb0 HFew HJ1 HJ3
    have p0 : wc.cell? ⟨w.heap.size, 0, none⟩ = some (.slice A nn c) := (blk_cell HT.out.b0 0).trans rfl
    have p1 : wc.cell? ⟨w.heap.size, 1, none⟩ = some (.bool q) := (blk_cell HT.out.b0 1).trans rfl
    by_cases h0 : er = 0
    · go_wp2_with fail
      refine (HF1.out _ HT.out.below).mono ?_
      rintro u w3 ⟨B4, m4, d4, rfl, hb3, hfi, -⟩
      have hfi2 := hfi h0
      have hm4 := hfi2.len
      subst hm4
      have HF2' := Lib.hid (fun W hb => HF2.out h0 W B4 d4 hb)
      have hrd := Kd.N_reads' hfi2.row
      have HT3 := Lib.hid (HT.out.on hb3)
      have hz : Hid (Kd.C k30 w3 B4 (foldF E).length (foldF E) ∧ (foldF E).length ≤ d4) := Lib.hid ⟨hrd.2.2, hrd.2.1⟩
      subst h0
      have HL : Hid ((foldF (foldF E)).length = (foldF E).length) := Lib.hid (by rw [fold_twice])
      clear p0 p1 hb3 hfi hfi2 hrd HT HF1 HF2
      have p0 : w3.cell? ⟨w.heap.size, 0, none⟩ = some (.slice A nn c) := (blk_cell HT3.out.b0 0).trans rfl
      have p1 : w3.cell? ⟨w.heap.size, 1, none⟩ = some (.bool q) := (blk_cell HT3.out.b0 1).trans rfl
      obtain ⟨mf, hmf⟩ : ∃ mf, mf = (foldF E).length := ⟨_, rfl⟩
      have HF3 : Hid (Calls Tryd.prog 11 #[.agg #[.slice A nn c, .bool q], .slice B4 mf d4] w3 (FoldP w3 0 (foldF E))) := Lib.hid (by rw [hmf]; exact HF2'.out w3 HT3.out.below hz.out.1 hz.out.2)
      rw [← hmf]
      rw [← hmf] at HL
      clear hmf HF2' hz
      go_wp2_with fail
      refine HF3.out.mono ?_
      rintro u W5 ⟨B6, m6, d6, rfl, hb5, hfi, -⟩
      have hm6 : m6 = mf := by have := (hfi rfl).len; have := HL.out; omega
      subst hm6
      have HT5 := Lib.hid (HT3.out.on hb5)
      clear p0 p1 hb5 hfi HT3 HF3 HL
      go_wp2_with fail
      have HT5' := HT5.out
      have p0 : W5.cell? ⟨w.heap.size, 0, none⟩ = some (.slice A nn c) := (blk_cell HT5'.b0 0).trans rfl
      have p1 : W5.cell? ⟨w.heap.size, 1, none⟩ = some (.bool q) := (blk_cell HT5'.b0 1).trans rfl
      clear HT5'
      go_loopw [13, 14] (fun s13 s14 wx => ∃ (k : Nat) (B : Option Addr) (d : Nat), k ≤ j3 ∧ s14 = .int .i64 k ∧ s13 = .slice B k d ∧ Hid (TB w wx A nn c q ∧ FI w wx B k d (SET.take k))) (fun _ s14 _ => j3 - (intOf s14).toNat)
      case atStart => exact ⟨0, none, 0, Nat.zero_le _, rfl, rfl, Lib.hid ⟨HT5.out, FI.nil w _ HT5.out.below⟩⟩
      case round =>
        obtain ⟨k, B, d, hk, rfl, rfl, HN⟩ := hrel
        clear HT5 p0 p1
        by_cases hlt : k < j3
        · obtain ⟨ad, cs, hA3, hcl, hK, hcc⟩ := Kd.C_get (Kd.C_below HTx.out.2 HN.out.1.below) ⟨#[]⟩ (k : Int) (by omega) (by have := HTx.out.1; omega)
          rw [Int.toNat_natCast] at hK hcc
          have d0 : wr.cell? (ad.add k) = some (.string (T.getD k ⟨#[]⟩)) := by
            have hcs : cs = [.string (T.getD k ⟨#[]⟩)] := hK
            subst hcs
            have := hcc 0 _ rfl
            rw [show k * Kd.string.sz + 0 = k from by show k * 1 + 0 = k; omega] at this
            exact this
          have HSn : Hid (SET.take (k + 1) = SET.take k ++ [edT' num ((T.getD k ⟨#[]⟩).extract 0 (min (T.getD k ⟨#[]⟩).size 50))]) := Lib.hid (set_snoc HSet.out (by have := HTx.out.1; omega))
          subst hA3
          clear hK hcc hcl
          generalize T.getD k ⟨#[]⟩ = s at *
          have HSo : Hid (∀ W : World, Calls Tryd.prog 12 #[.string s, .int .i64 50] W fun e w' => e = .returned (.string (s.extract 0 (min s.size 50))) ∧ W = w') := Lib.hid (fun W => some_any s 50 W)
          obtain ⟨v, hv⟩ : ∃ v, v = s.extract 0 (min s.size 50) := ⟨_, rfl⟩
          rw [← hv] at HSn HSo
          clear hv
          have HFK : Hid (Kd.FK k30 wr (fun _ => False) (edT' num v) [.int .i64 3, .int .i64 num, .int .i64 0, .int .i64 0, .string ⟨#[]⟩, .string v, .int .i64 0, .string ⟨#[]⟩, .slice none 0 0, .string ⟨#[]⟩, .int .i64 0, .slice none 0 0]) := Lib.hid (set_fk wr num v)
          have HOk : Hid (∀ k, False → True ∧ some k ≠ (Value.slice B k d).ownBlock) := Lib.hid (fun k h => h.elim)
          have HBx : Hid (∀ W' : World, W'.heap.size = W'.heap.size) := Lib.hid (fun _ => rfl)
          have hkt : k < 11 := by omega
          have HLk : Hid ((SET.take k).length = k) := Lib.hid (by have := HN.out.2.len; omega)
          have hkc3 : k < c3 := by omega
          go_wp2_with fail
          refine (HSo.out _).mono ?_
          rintro u w' ⟨rfl, rfl⟩
          go_wp2_with (at_builtin; refine Kd.N_append k30 (w0 := w) w.heap.size rfl _ _ 38 30 (.agg #[.int .i64 0, .int .i64 0, .int .i64 0, .int .i64 0, .string ⟨#[]⟩, .string ⟨#[]⟩, .int .i64 0, .string ⟨#[]⟩, .slice none 0 0, .string ⟨#[]⟩, .int .i64 0, .slice none 0 0]) 160 rfl Tryd.underlying38 edit_info rfl (by decide) (by decide) (.slice B k d) (SET.take k) (edT' num v) [.int .i64 3, .int .i64 num, .int .i64 0, .int .i64 0, .string ⟨#[]⟩, .string v, .int .i64 0, .string ⟨#[]⟩, .slice none 0 0, .string ⟨#[]⟩, .int .i64 0, .slice none 0 0] (fun _ => True) (fun _ => False) rfl rfl HFK.out (fun k h => h.elim) (fun _ _ => trivial) HN.out.2.row HN.out.2.below HN.out.2.below.size (by have := HLk.out; omega) ?c1)
          case c1 =>
            intro v1 w2 hN hB hg hat
            have hlen : (SET.take k ++ [edT' num v]).length = k + 1 := by rw [List.length_append, List.length_singleton, HLk.out]
            obtain ⟨A5, c5, ev1⟩ := Kd.N_slice hN
            rw [hlen] at ev1
            subst ev1
            have HN2 : Hid (TB w w2 A nn c q ∧ FI w w2 A5 (k + 1) c5 (SET.take (k + 1))) := Lib.hid ⟨HN.out.1.grown (HN.out.2) hg, by rw [HSn.out]; exact ⟨hlen.symm, hN, hB⟩⟩
            clear hN hB hg hat hlen HN HFK HOk HSo d0
            go_wp2_with fail
            go_roundw
            case rel => exact ⟨k + 1, A5, c5, by omega, by go_num, rfl, HN2⟩
            case measure => simp [intOf]; omega
        · obtain rfl : k = j3 := by omega
          have ht : SET.take k = SET := List.take_of_length_le (by rw [HSet.out, List.length_map]; unfold vsOf; rw [List.length_map]; have := HTx.out.1; omega)
          rw [ht] at HN
          clear ht
          have p0 : wr.cell? ⟨w.heap.size, 0, none⟩ = some (.slice A nn c) := (blk_cell HN.out.1.b0 0).trans rfl
          have p1 : wr.cell? ⟨w.heap.size, 1, none⟩ = some (.bool q) := (blk_cell HN.out.1.b0 1).trans rfl
          have HFs2 := Lib.hid (HFs.out wr B d HN.out.2)
          clear HFs
          by_cases h3 : er3 = 0
          · by_cases hz : k = 0
            · subst hz
              go_wp2_with fail
              refine HFs2.out.mono ?_
              rintro u w6 ⟨A6, m6, c6, rfl, hb6, hfi, hz6⟩
              have hm6 : m6 = 0 := by
                have h1 := (hfi h3).len
                have h2 : SET = [] := by have := HN.out.2.len; exact List.eq_nil_of_length_eq_zero this.symm
                rw [h2] at h1
                simpa [foldF] using h1
              subst hm6 h3
              have HB6 := Lib.hid (HN.out.1.below.trans (hb6.mono HN.out.1.below.size))
              clear hb6 hfi hz6 HN HFs2 p0 p1
              go_wp2_with fail
              refine (HBg.out _).mono ?_
              rintro u w8 ⟨rfl, hb8⟩
              have HB8 := Lib.hid (HB6.out.trans (hb8.mono HB6.out.size))
              clear hb8
              go_wp2_with fail
              go_ret
              exact ⟨rfl, HB8.out⟩
            · obtain ⟨k1, hk1⟩ : ∃ k1, k = k1 + 1 := ⟨k - 1, by omega⟩
              have HFt : Hid (foldF SET = [rd_T30 SET (k1 : Int)]) := Lib.hid (by
                have h1 := HSet.out
                have h2 := HN.out.2.len
                have h3 : SET.length = (vsOf T).length := by rw [h1, List.length_map]
                have h4 := fold_texts num (vsOf T) k1 (by rw [← h3]; omega)
                rw [← h1, List.take_of_length_le (by omega)] at h4
                exact h4)
              have HK1 := Lib.hid hk1
              have hkz : (k == 0) = false := by simpa using hz
              have hkp : 0 < k := by omega
              have hk1l : k1 < k := by omega
              have hkw : IntKind.i64.wrap ((k : Int) - 1) = (k1 : Int) := by rw [show (k : Int) - 1 = (k1 : Int) by omega]; exact IntWalk.i64_in _ (by omega)
              have hks : (k : Int) - 1 = (k1 : Int) := by omega
              have hkn : ((k : Int) == 0) = false := by simp; omega
              clear hk1 hz
              go_wp2_with fail
              refine HFs2.out.mono ?_
              rintro u w6 ⟨A6, m6, c6, rfl, hb6, hfi, hz6⟩
              have hfi2 := hfi h3
              have hm6 : m6 = 1 := by have h1 := hfi2.len; rw [HFt.out] at h1; exact h1
              subst hm6 h3
              have hN6 := HN.out.2.on hb6
              have hT6 := HN.out.1.on hb6
              rw [HFt.out] at hfi2
              -- the last edit that was set
              obtain ⟨gS, cap, hv, hgb, hgl, cells, hty⟩ := Kd.N_form hN6.row (by have := hN6.len; omega)
              injection hv with hA hn2 hc2
              subst hA
              clear hn2 hc2
              obtain ⟨ca, hcal, hFa, hca, -⟩ := Kd.N_elem hN6.row z30 (k1 : Int) (by omega) (by omega)
              rw [Int.toNat_natCast] at hca hFa
              have hxa : rd_T30 SET (k1 : Int) = SET.getD k1 z30 := by unfold rd_T30; rw [Int.toNat_natCast]
              have hAt : (SET.getD k1 z30).f1 = num := set_at_num HSet.out (by have := hN6.len; omega)
              rw [hxa] at hfi2
              generalize SET.getD k1 z30 = xl at *
              obtain ⟨P8, d8, P11, d11, hcs, -, -, -, -⟩ := k30_open (Kd.FK_now hFa)
              subst hcs
              have eS : w6.cell? ⟨gS, k1 * 12 + 5, none⟩ = some (.string xl.f5) := hca 5 _ rfl
              -- what is folded
              obtain ⟨gF, capF, hvF, -, hglF, cellsF, htyF⟩ := Kd.N_form hfi2.row (by simp)
              injection hvF with hA hn2 hc2
              subst hA
              clear hn2 hc2
              obtain ⟨cb, hcbl, hFb, hcb, -⟩ := Kd.N_elem hfi2.row z30 0 (by decide) (by decide)
              obtain ⟨Q8, b8, Q11, b11, hcs, -, -, -, -⟩ := k30_open (Kd.FK_now hFb)
              subst hcs
              have eF1 : w6.cell? ⟨gF, 1, none⟩ = some (.int .i64 num) := by rw [← hAt]; exact hcb 1 _ rfl
              have eF5 : w6.cell? ⟨gF, 5, none⟩ = some (.string xl.f5) := hcb 5 _ rfl
              have HT6 := Lib.hid hT6
              have hkcc : k1 < d := by have := (Kd.N_reads' hN6.row).2.1; omega
              clear hb6 hfi hz6 HN HFs2 p0 p1 hN6 hT6 hgb hgl hty hcal hFa hca hglF htyF hcbl hFb hcb hxa hAt hfi2
              generalize xl.f5 = vl at eS eF5
              go_wp2_with fail
              refine (HBg.out _).mono ?_
              rintro u w8 ⟨rfl, hb8⟩
              have y1 := pw_cell_below hb8 eF1
              have y5 := pw_cell_below hb8 eF5
              have HB8 := Lib.hid (HT6.out.below.trans (hb8.mono HT6.out.below.size))
              clear hb8 eS eF1 eF5 HT6
              go_wp2_with fail
              go_ret
              exact ⟨rfl, HB8.out⟩
          · have r0 : (er3 == 0) = false := by simpa using h3
            have r1 : (er3 != 0) = true := by simpa using h3
            go_wp2_with fail
            refine HFs2.out.mono ?_
            rintro u w6 ⟨A6, m6, c6, rfl, hb6, -, hz6⟩
            have hm6 := hz6 h3
            subst hm6
            have HB6 := Lib.hid (HN.out.1.below.trans (hb6.mono HN.out.1.below.size))
            clear hb6 hz6 HN HFs2 p0 p1 h3
            go_wp2_with fail
            refine (HBg.out _).mono ?_
            rintro u w8 ⟨rfl, hb8⟩
            have HB8 := Lib.hid (HB6.out.trans (hb8.mono HB6.out.size))
            clear hb8
            go_wp2_with fail
            go_ret
            exact ⟨rfl, HB8.out⟩
    · have q0 : (er == 0) = false := by simpa using h0
      have q1 : (er != 0) = true := by simpa using h0
      go_wp2_with fail
      refine (HF1.out _ HT.out.below).mono ?_
      rintro u W5 ⟨B4, m4, d4, rfl, hb3, -, -⟩
      have HT5 := Lib.hid (HT.out.on hb3)
      clear p0 p1 hb3 HT HF1 HF2 h0
      go_wp2_with fail
      have HT5' := HT5.out
      have p0 : W5.cell? ⟨w.heap.size, 0, none⟩ = some (.slice A nn c) := (blk_cell HT5'.b0 0).trans rfl
      have p1 : W5.cell? ⟨w.heap.size, 1, none⟩ = some (.bool q) := (blk_cell HT5'.b0 1).trans rfl
      clear HT5'
      go_loopw [13, 14] (fun s13 s14 wx => ∃ (k : Nat) (B : Option Addr) (d : Nat), k ≤ j3 ∧ s14 = .int .i64 k ∧ s13 = .slice B k d ∧ Hid (TB w wx A nn c q ∧ FI w wx B k d (SET.take k))) (fun _ s14 _ => j3 - (intOf s14).toNat)
      case atStart => exact ⟨0, none, 0, Nat.zero_le _, rfl, rfl, Lib.hid ⟨HT5.out, FI.nil w _ HT5.out.below⟩⟩
      case round =>
        obtain ⟨k, B, d, hk, rfl, rfl, HN⟩ := hrel
        clear HT5 p0 p1
        by_cases hlt : k < j3
        · obtain ⟨ad, cs, hA3, hcl, hK, hcc⟩ := Kd.C_get (Kd.C_below HTx.out.2 HN.out.1.below) ⟨#[]⟩ (k : Int) (by omega) (by have := HTx.out.1; omega)
          rw [Int.toNat_natCast] at hK hcc
          have d0 : wr.cell? (ad.add k) = some (.string (T.getD k ⟨#[]⟩)) := by
            have hcs : cs = [.string (T.getD k ⟨#[]⟩)] := hK
            subst hcs
            have := hcc 0 _ rfl
            rw [show k * Kd.string.sz + 0 = k from by show k * 1 + 0 = k; omega] at this
            exact this
          have HSn : Hid (SET.take (k + 1) = SET.take k ++ [edT' num ((T.getD k ⟨#[]⟩).extract 0 (min (T.getD k ⟨#[]⟩).size 50))]) := Lib.hid (set_snoc HSet.out (by have := HTx.out.1; omega))
          subst hA3
          clear hK hcc hcl
          generalize T.getD k ⟨#[]⟩ = s at *
          have HSo : Hid (∀ W : World, Calls Tryd.prog 12 #[.string s, .int .i64 50] W fun e w' => e = .returned (.string (s.extract 0 (min s.size 50))) ∧ W = w') := Lib.hid (fun W => some_any s 50 W)
          obtain ⟨v, hv⟩ : ∃ v, v = s.extract 0 (min s.size 50) := ⟨_, rfl⟩
          rw [← hv] at HSn HSo
          clear hv
          have HFK : Hid (Kd.FK k30 wr (fun _ => False) (edT' num v) [.int .i64 3, .int .i64 num, .int .i64 0, .int .i64 0, .string ⟨#[]⟩, .string v, .int .i64 0, .string ⟨#[]⟩, .slice none 0 0, .string ⟨#[]⟩, .int .i64 0, .slice none 0 0]) := Lib.hid (set_fk wr num v)
          have HOk : Hid (∀ k, False → True ∧ some k ≠ (Value.slice B k d).ownBlock) := Lib.hid (fun k h => h.elim)
          have HBx : Hid (∀ W' : World, W'.heap.size = W'.heap.size) := Lib.hid (fun _ => rfl)
          have hkt : k < 11 := by omega
          have HLk : Hid ((SET.take k).length = k) := Lib.hid (by have := HN.out.2.len; omega)
          have hkc3 : k < c3 := by omega
          go_wp2_with fail
          refine (HSo.out _).mono ?_
          rintro u w' ⟨rfl, rfl⟩
          go_wp2_with (at_builtin; refine Kd.N_append k30 (w0 := w) w.heap.size rfl _ _ 38 30 (.agg #[.int .i64 0, .int .i64 0, .int .i64 0, .int .i64 0, .string ⟨#[]⟩, .string ⟨#[]⟩, .int .i64 0, .string ⟨#[]⟩, .slice none 0 0, .string ⟨#[]⟩, .int .i64 0, .slice none 0 0]) 160 rfl Tryd.underlying38 edit_info rfl (by decide) (by decide) (.slice B k d) (SET.take k) (edT' num v) [.int .i64 3, .int .i64 num, .int .i64 0, .int .i64 0, .string ⟨#[]⟩, .string v, .int .i64 0, .string ⟨#[]⟩, .slice none 0 0, .string ⟨#[]⟩, .int .i64 0, .slice none 0 0] (fun _ => True) (fun _ => False) rfl rfl HFK.out (fun k h => h.elim) (fun _ _ => trivial) HN.out.2.row HN.out.2.below HN.out.2.below.size (by have := HLk.out; omega) ?c1)
          case c1 =>
            intro v1 w2 hN hB hg hat
            have hlen : (SET.take k ++ [edT' num v]).length = k + 1 := by rw [List.length_append, List.length_singleton, HLk.out]
            obtain ⟨A5, c5, ev1⟩ := Kd.N_slice hN
            rw [hlen] at ev1
            subst ev1
            have HN2 : Hid (TB w w2 A nn c q ∧ FI w w2 A5 (k + 1) c5 (SET.take (k + 1))) := Lib.hid ⟨HN.out.1.grown (HN.out.2) hg, by rw [HSn.out]; exact ⟨hlen.symm, hN, hB⟩⟩
            clear hN hB hg hat hlen HN HFK HOk HSo d0
            go_wp2_with fail
            go_roundw
            case rel => exact ⟨k + 1, A5, c5, by omega, by go_num, rfl, HN2⟩
            case measure => simp [intOf]; omega
        · obtain rfl : k = j3 := by omega
          have ht : SET.take k = SET := List.take_of_length_le (by rw [HSet.out, List.length_map]; unfold vsOf; rw [List.length_map]; have := HTx.out.1; omega)
          rw [ht] at HN
          clear ht
          have p0 : wr.cell? ⟨w.heap.size, 0, none⟩ = some (.slice A nn c) := (blk_cell HN.out.1.b0 0).trans rfl
          have p1 : wr.cell? ⟨w.heap.size, 1, none⟩ = some (.bool q) := (blk_cell HN.out.1.b0 1).trans rfl
          have HFs2 := Lib.hid (HFs.out wr B d HN.out.2)
          clear HFs
          by_cases h3 : er3 = 0
          · by_cases hz : k = 0
            · subst hz
              go_wp2_with fail
              refine HFs2.out.mono ?_
              rintro u w6 ⟨A6, m6, c6, rfl, hb6, hfi, hz6⟩
              have hm6 : m6 = 0 := by
                have h1 := (hfi h3).len
                have h2 : SET = [] := by have := HN.out.2.len; exact List.eq_nil_of_length_eq_zero this.symm
                rw [h2] at h1
                simpa [foldF] using h1
              subst hm6 h3
              have HB6 := Lib.hid (HN.out.1.below.trans (hb6.mono HN.out.1.below.size))
              clear hb6 hfi hz6 HN HFs2 p0 p1
              go_wp2_with fail
              refine (HBg.out _).mono ?_
              rintro u w8 ⟨rfl, hb8⟩
              have HB8 := Lib.hid (HB6.out.trans (hb8.mono HB6.out.size))
              clear hb8
              go_wp2_with fail
              go_ret
              exact ⟨rfl, HB8.out⟩
            · obtain ⟨k1, hk1⟩ : ∃ k1, k = k1 + 1 := ⟨k - 1, by omega⟩
              have HFt : Hid (foldF SET = [rd_T30 SET (k1 : Int)]) := Lib.hid (by
                have h1 := HSet.out
                have h2 := HN.out.2.len
                have h3 : SET.length = (vsOf T).length := by rw [h1, List.length_map]
                have h4 := fold_texts num (vsOf T) k1 (by rw [← h3]; omega)
                rw [← h1, List.take_of_length_le (by omega)] at h4
                exact h4)
              have HK1 := Lib.hid hk1
              have hkz : (k == 0) = false := by simpa using hz
              have hkp : 0 < k := by omega
              have hk1l : k1 < k := by omega
              have hkw : IntKind.i64.wrap ((k : Int) - 1) = (k1 : Int) := by rw [show (k : Int) - 1 = (k1 : Int) by omega]; exact IntWalk.i64_in _ (by omega)
              have hks : (k : Int) - 1 = (k1 : Int) := by omega
              have hkn : ((k : Int) == 0) = false := by simp; omega
              clear hk1 hz
              go_wp2_with fail
              refine HFs2.out.mono ?_
              rintro u w6 ⟨A6, m6, c6, rfl, hb6, hfi, hz6⟩
              have hfi2 := hfi h3
              have hm6 : m6 = 1 := by have h1 := hfi2.len; rw [HFt.out] at h1; exact h1
              subst hm6 h3
              have hN6 := HN.out.2.on hb6
              have hT6 := HN.out.1.on hb6
              rw [HFt.out] at hfi2
              -- the last edit that was set
              obtain ⟨gS, cap, hv, hgb, hgl, cells, hty⟩ := Kd.N_form hN6.row (by have := hN6.len; omega)
              injection hv with hA hn2 hc2
              subst hA
              clear hn2 hc2
              obtain ⟨ca, hcal, hFa, hca, -⟩ := Kd.N_elem hN6.row z30 (k1 : Int) (by omega) (by omega)
              rw [Int.toNat_natCast] at hca hFa
              have hxa : rd_T30 SET (k1 : Int) = SET.getD k1 z30 := by unfold rd_T30; rw [Int.toNat_natCast]
              have hAt : (SET.getD k1 z30).f1 = num := set_at_num HSet.out (by have := hN6.len; omega)
              rw [hxa] at hfi2
              generalize SET.getD k1 z30 = xl at *
              obtain ⟨P8, d8, P11, d11, hcs, -, -, -, -⟩ := k30_open (Kd.FK_now hFa)
              subst hcs
              have eS : w6.cell? ⟨gS, k1 * 12 + 5, none⟩ = some (.string xl.f5) := hca 5 _ rfl
              -- what is folded
              obtain ⟨gF, capF, hvF, -, hglF, cellsF, htyF⟩ := Kd.N_form hfi2.row (by simp)
              injection hvF with hA hn2 hc2
              subst hA
              clear hn2 hc2
              obtain ⟨cb, hcbl, hFb, hcb, -⟩ := Kd.N_elem hfi2.row z30 0 (by decide) (by decide)
              obtain ⟨Q8, b8, Q11, b11, hcs, -, -, -, -⟩ := k30_open (Kd.FK_now hFb)
              subst hcs
              have eF1 : w6.cell? ⟨gF, 1, none⟩ = some (.int .i64 num) := by rw [← hAt]; exact hcb 1 _ rfl
              have eF5 : w6.cell? ⟨gF, 5, none⟩ = some (.string xl.f5) := hcb 5 _ rfl
              have HT6 := Lib.hid hT6
              have hkcc : k1 < d := by have := (Kd.N_reads' hN6.row).2.1; omega
              clear hb6 hfi hz6 HN HFs2 p0 p1 hN6 hT6 hgb hgl hty hcal hFa hca hglF htyF hcbl hFb hcb hxa hAt hfi2
              generalize xl.f5 = vl at eS eF5
              go_wp2_with fail
              refine (HBg.out _).mono ?_
              rintro u w8 ⟨rfl, hb8⟩
              have y1 := pw_cell_below hb8 eF1
              have y5 := pw_cell_below hb8 eF5
              have HB8 := Lib.hid (HT6.out.below.trans (hb8.mono HT6.out.below.size))
              clear hb8 eS eF1 eF5 HT6
              go_wp2_with fail
              go_ret
              exact ⟨rfl, HB8.out⟩
          · have r0 : (er3 == 0) = false := by simpa using h3
            have r1 : (er3 != 0) = true := by simpa using h3
            go_wp2_with fail
            refine HFs2.out.mono ?_
            rintro u w6 ⟨A6, m6, c6, rfl, hb6, -, hz6⟩
            have hm6 := hz6 h3
            subst hm6
            have HB6 := Lib.hid (HN.out.1.below.trans (hb6.mono HN.out.1.below.size))
            clear hb6 hz6 HN HFs2 p0 p1 h3
            go_wp2_with fail
            refine (HBg.out _).mono ?_
            rintro u w8 ⟨rfl, hb8⟩
            have HB8 := Lib.hid (HB6.out.trans (hb8.mono HB6.out.size))
            clear hb8
            go_wp2_with fail
            go_ret
            exact ⟨rfl, HB8.out⟩
end Go.Proofs.YthfalaabfgpjmaaDoor.ApA
