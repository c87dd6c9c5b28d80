import Derived.Test.YtmcinclecpeakaaGreatDoorRecP
import Derived.Test.YtmcinclecpeakaaGreatDoorGApS
import Derived.Deep.RegionWith
import Derived.Deep.RegionHeld3
import Derived.Deep.DeepCutAuto
/- Package record: Touched: the rows that it makes. -/
namespace Go.Proofs.YtmcinclecpeakaaGreatDoor.ApA
open Go.RowKit Go.Proofs.YtmcinclecpeakaaGreatDoorW.PrintWords Go.Proofs.YtmcinclecpeakaaGreatDoorW.PrintLast Go.Proofs.YtmcinclecpeakaaGreatDoorW.PrintMore Go.Proofs.YtmcinclecpeakaaGreatDoor.PRR Go.Proofs.YtmcinclecpeakaaGreatDoor.DocP Go.Proofs.YtmcinclecpeakaaGreatDoor.DocC Go.Sort Go.Shelf
set_option linter.unusedVariables false
set_option linter.unusedSimpArgs false
/-- A row of numbers of one's own. -/
def RwI (w W : World) (v : Value) (o : List Int) : Prop := Kd.R (Kd.int .i64) 3 W w.heap.size (fun _ => True) v o ∧ Below w.heap.size w W
theorem RwI.nil (w W : World) (hb : Below w.heap.size w W) : RwI w W (.slice none 0 0) [] := ⟨Kd.R_nil _ _ _ _ _, hb⟩
theorem RwI.size {w W : World} {v : Value} {o : List Int} (h : RwI w W v o) : w.heap.size ≤ W.heap.size := h.2.size
theorem sort_any {w W : World} {v : Value} {o : List Int} (h : RwI w W v o) (hs : o.length < 4611686018427387904) : Calls Tryz.prog 24 #[v] W fun e w1 => e = .returned (.tuple #[]) ∧ RwI w w1 v (o.mergeSort fun x y => decide (x ≤ y)) := by
  by_cases h0 : 0 < o.length
  · exact (sortR h.1 h0 hs).mono (fun e w1 ⟨he, h6, h5⟩ => ⟨he, h6, h5 w h.size h.2⟩)
  · obtain rfl : o = [] := List.length_eq_zero_iff.1 (by omega)
    obtain ⟨A, c, rfl⟩ := Kd.R_slice h.1
    refine (show Calls Tryz.prog 24 _ W _ from AnyM.slices_Sort_int_none Tryz.mSort A c W).mono ?_
    rintro e w' ⟨rfl, rfl⟩
    refine ⟨rfl, ?_⟩
    simpa using h
set_option maxHeartbeats 1000000 in
theorem compact_none (A : Option Addr) (c : Nat) (W : World) : Calls Tryz.prog 25 #[.slice A 0 c] W fun e w1 => e = .returned (.slice A 0 c) ∧ w1 = W := by
  go_enter Tryz.func25, Tryz.ntmps25
  go_wp2_with fail
  go_ret
  exact ⟨rfl, rfl⟩
theorem compact_any {w W : World} {v : Value} {o : List Int} (h : RwI w W v (o.mergeSort fun x y => decide (x ≤ y))) (hs : o.length < 4611686018427387904) : Calls Tryz.prog 25 #[v] W fun e w1 => ∃ v', e = .returned v' ∧ RwI w w1 v' (told o) := by
  by_cases h0 : 0 < o.length
  · exact (compactR h.1 (by simpa using h0) (by simpa using hs)).mono (fun e w1 ⟨v', he, h6, h5⟩ => ⟨v', he, h6, h5 w h.size h.2⟩)
  · obtain rfl : o = [] := List.length_eq_zero_iff.1 (by omega)
    obtain ⟨A, c, rfl⟩ := Kd.R_slice h.1
    have e0 : (([] : List Int).mergeSort fun x y => decide (x ≤ y)).length = 0 := by simp
    rw [e0]
    refine (compact_none A c W).mono ?_
    rintro e w' ⟨rfl, rfl⟩
    refine ⟨_, rfl, ?_⟩
    rw [e0] at h
    have e1 : told [] = (([] : List Int).mergeSort fun x y => decide (x ≤ y)) := by unfold told; simp [Lib.compact, Lib.compactUpTo]
    rw [e1]
    exact h
set_option maxHeartbeats 1000000 in
theorem search_none (A : Option Addr) (c : Nat) (W : World) : Calls Tryz.prog 26 #[.slice A 0 c, .int .i64 0] W fun e w1 => ∃ b, e = .returned (.tuple #[.int .i64 0, .bool b]) ∧ Below W.heap.size W w1 := by
  go_enter Tryz.func26, Tryz.ntmps26
  go_wp2_with fail
  go_loopw [7, 8] (fun i j wr => i = .int .i64 0 ∧ j = .int .i64 0 ∧ Hid (Below W.heap.size W wr)) (fun _ _ _ => 0)
  case atStart => exact ⟨rfl, rfl, Lib.hid (Below.refl _ _)⟩
  case round =>
    obtain ⟨rfl, rfl, HB⟩ := hrel
    go_wp2_with fail
    go_ret2
    exact ⟨_, rfl, HB.out⟩
theorem told_sorted (o : List Int) : (told o).Pairwise (· ≤ ·) := by
  unfold told
  have h1 : (o.mergeSort fun x y => decide (x ≤ y)).Pairwise (· ≤ ·) := by
    have := List.pairwise_mergeSort (le := fun x y : Int => decide (x ≤ y)) (by intro a b c; simpa using Int.le_trans) (by intro a b; simpa using Int.le_total a b) o
    simpa using this
  generalize o.mergeSort (fun x y => decide (x ≤ y)) = s at h1
  unfold Lib.compact Lib.compactUpTo
  rw [List.pairwise_map]
  refine ((List.pairwise_lt_range (n := s.length)).filter _).imp_of_mem ?_
  intro a b ha hb hab
  have hb' : b < s.length := List.mem_range.1 (List.mem_filter.1 hb).1
  rw [getElem!_pos s.toArray a (by simp; omega), getElem!_pos s.toArray b (by simpa using hb')]
  simpa using List.pairwise_iff_getElem.1 h1 a b (by omega) hb' hab
theorem add_flat (g j : Nat) : (⟨g, 0, none⟩ : Addr).add j = ⟨g, 0 + j, none⟩ := by
  unfold Addr.add
  split <;> simp_all
theorem search_any {w W : World} {v : Value} {o : List Int} (h : RwI w W v (told o)) (hs : o.length < 4611686018427387904) (hp : ∀ i ∈ o, 0 ≤ i) : Calls Tryz.prog 26 #[v, .int .i64 0] W fun e w1 => ∃ b, e = .returned (.tuple #[.int .i64 0, .bool b]) ∧ RwI w w1 v (told o) := by
  have hlen := told_len o
  obtain ⟨A, c, rfl⟩ := Kd.R_slice h.1
  have key : ∀ w1, Below W.heap.size W w1 → RwI w w1 (.slice A (told o).length c) (told o) := fun w1 hb => ⟨Kd.R_below h.1 hb, h.2.trans (hb.mono h.size)⟩
  by_cases h0 : 0 < (told o).length
  · rcases (Kd.own_of_R h.1).2 with ⟨hv, _⟩ | ⟨g, cap, cur, hv, _⟩
    · injection hv with _ h2 _
      omega
    cases hv
    obtain ⟨_, _, hC⟩ := Kd.R_reads' h.1
    obtain ⟨ad, e, hcell⟩ := (Kd.reads_of_C (d := (0 : Int)) hC).2.2 h0
    injection e with e
    subst e
    have hB := AnyG.slices_BinarySearch_int Tryz.mSearch g 0 (told o).length c (told o) 0 W (Nat.le_refl _) (by omega) (fun j hj => by rw [← add_flat g j]; exact hcell j hj) (by rw [List.take_length]; exact told_sorted o)
    refine (show Calls Tryz.prog 26 _ W _ from hB).mono ?_
    rintro e w1 ⟨rfl, q, rfl⟩
    have hz : ((told o).take (told o).length).countP (fun y => decide (y < 0)) = 0 := by
      rw [List.take_length, List.countP_eq_zero]
      intro y hy
      have := hp y (mem_told.1 hy)
      simpa using this
    refine ⟨_, by rw [hz]; rfl, key _ (pw_below_drewN (Below.refl _ _) q)⟩
  · have e0 : (told o).length = 0 := by omega
    rw [e0] at key ⊢
    refine (search_none A c W).mono ?_
    rintro e w1 ⟨b, rfl, hb⟩
    exact ⟨b, rfl, key w1 hb⟩
/-- The nodes of a step, as the program tells them. -/
theorem nodes_is (s : Stp) : record_nodes.f 1 s.f0.f0 s.f0.f1 s.f0.f2 s.f0.f3 s.f0.f4 s.f0.f5 s.f0.f6.f0 s.f0.f6.f1 s.f0.f6.f2 s.f0.f6.f3 s.f0.f6.f4 s.f0.f6.f5 s.f1 s.f2 s.f3 s.f4 = some (stepT s) := by
  unfold record_nodes.f stepT
  by_cases h1 : s.f0.f0 = 1
  · rw [if_pos h1, if_pos (.inl h1)]
    simp only [record_nodes.j0]
    rw [if_pos (by simpa using h1)]
  rw [if_neg h1]
  by_cases h2 : s.f0.f0 = 2
  · rw [if_pos h2, if_pos (.inr (.inl h2))]
    simp only [record_nodes.j0]
    rw [if_pos (by simpa using h2)]
  rw [if_neg h2]
  simp only [record_nodes.j0]
  by_cases h3 : s.f0.f0 = 3
  · rw [if_pos (by simpa using h3), if_pos (.inr (.inr h3))]
  rw [if_neg (by simpa using h3), if_neg (show ¬ (s.f0.f0 = 1 ∨ s.f0.f0 = 2 ∨ s.f0.f0 = 3) from fun h => by rcases h with h | h | h <;> contradiction)]
  by_cases h5 : s.f0.f0 = 5
  · rw [if_pos h5, if_pos h5]
  rw [if_neg h5, if_neg h5]
  by_cases h6 : s.f0.f0 = 6
  · rw [if_pos h6, if_pos h6]
  rw [if_neg h6, if_neg h6]
  by_cases h4 : s.f0.f0 = 4
  · rw [if_pos h4, if_pos h4]
  rw [if_neg h4, if_neg h4]
theorem stepT_len (s : Stp) : (stepT s).length ≤ 2 := by
  unfold stepT
  split
  · simp
  split
  · simp
  split
  · simp
  split <;> simp
theorem flat_le (ss : List Stp) : (ss.flatMap stepT).length ≤ 2 * ss.length := by
  induction ss with
  | nil => simp
  | cons s ss ih =>
    rw [List.flatMap_cons, List.length_append, List.length_cons]
    have := stepT_len s
    omega
theorem flat_len {ss : List Stp} (h : ss.length ≤ 40) : (ss.flatMap stepT).length < 4611686018427387904 := by
  have := flat_le ss
  omega
end Go.Proofs.YtmcinclecpeakaaGreatDoor.ApA
/- Package record: Touched. -/
namespace Go.Proofs.YtmcinclecpeakaaGreatDoor.ApA
open Go.RowKit Go.Proofs.YtmcinclecpeakaaGreatDoorW.PrintWords Go.Proofs.YtmcinclecpeakaaGreatDoorW.PrintLast Go.Proofs.YtmcinclecpeakaaGreatDoorW.PrintMore Go.Proofs.YtmcinclecpeakaaGreatDoor.PRR Go.Proofs.YtmcinclecpeakaaGreatDoor.DocP Go.Proofs.YtmcinclecpeakaaGreatDoor.DocC
set_option linter.unusedVariables false
set_option linter.unusedSimpArgs false
theorem search_at {w W : World} {A : Option Addr} {m c : Nat} {o : List Int} (hm : m = (told o).length) (h : RwI w W (.slice A m c) (told o)) (hs : o.length < 4611686018427387904) (hp : ∀ i ∈ o, 0 ≤ i) : Calls Tryz.prog 26 #[.slice A m c, .int .i64 0] W fun e w1 => ∃ b, e = .returned (.tuple #[.int .i64 0, .bool b]) ∧ RwI w w1 (.slice A m c) (told o) := by
  subst hm
  exact search_any h hs hp
set_option maxHeartbeats 4000000 in
set_option maxRecDepth 100000 in
theorem touched_calls {ss : List Stp} (h40 : ss.length ≤ 40) (hp : ∀ i ∈ ss.flatMap stepT, 0 ≤ i) (A : Option Addr) (c : Nat) (w : World) (hr : Kd.C k48 w A ss.length ss) :
    Calls Tryz.prog 12 #[.slice A ss.length c] w fun u w' => ∃ v, u = .returned v ∧ RwI w w' v (told (ss.flatMap stepT)) := by
  obtain ⟨n, hn⟩ : ∃ n, n = ss.length := ⟨_, rfl⟩
  have HR := Lib.hid hr
  have HTk : Hid (ss.take n = ss) := Lib.hid (by rw [hn]; exact List.take_length)
  have HLen : Hid ((ss.flatMap stepT).length < 4611686018427387904) := Lib.hid (flat_len (by omega))
  have HP := Lib.hid hp
  rw [← hn] at HR ⊢
  have HN := Lib.hid hn
  have hn40 : n ≤ 40 := by omega
  clear hn hr hp h40
  go_enter Tryz.func12, Tryz.ntmps12
  go_wp2_with fail
  go_loopw [3, 10] (fun s3 s10 wr => ∃ (k : Nat) (a3 : Value), k ≤ n ∧ s10 = .int .i64 k ∧ a3 = s3 ∧ Hid (RwI w wr a3 ((ss.take k).flatMap stepT))) (fun _ s10 _ => n - (intOf s10).toNat)
  case atStart => exact ⟨0, _, Nat.zero_le _, rfl, rfl, Lib.hid (RwI.nil w _ (Below.refl _ _))⟩
  case round =>
    obtain ⟨k, a3, hk, rfl, rfl, HF⟩ := hrel
    by_cases hlt : k < n
    · obtain ⟨ad, A8, c8, A11, c11, e1, x0, x1, x2, x3, x4, x5, x6, x7, x8, x9, x10, x11, x12, x13, x14, x15, g8l, g8, g11l, g11⟩ := at_T48 (Kd.C_below HR.out HF.out.2) (k : Int) (by omega) (by have := HN.out; omega)
      rw [Int.toNat_natCast] at x0 x1 x2 x3 x4 x5 x6 x7 x8 x9 x10 x11 x12 x13 x14 x15
      subst e1
      have HS : Hid ((ss.take (k + 1)).flatMap stepT = (ss.take k).flatMap stepT ++ stepT (rd_T48 ss k)) := Lib.hid (by
        have hl := HN.out
        rw [List.take_add_one, List.flatMap_append]
        unfold rd_T48
        rw [Int.toNat_natCast, List.getD_eq_getElem?_getD, List.getElem?_eq_getElem (by omega)]
        simp)
      have HLe : Hid (((ss.take k).flatMap stepT).length + 2 ≤ 1000) := Lib.hid (by have := flat_le (ss.take k); rw [List.length_take] at this; omega)
      generalize rd_T48 ss k = x at *
      have HNd : Hid (∀ W : World, Below wr.heap.size wr W → Calls Tryz.prog 23 #[.agg #[.int .i64 x.f0.f0, .int .i64 x.f0.f1, .int .i64 x.f0.f2, .int .i64 x.f0.f3, .string x.f0.f4, .string x.f0.f5, .int .i64 x.f0.f6.f0, .string x.f0.f6.f1, .slice A8 x.f0.f6.f2.length c8, .string x.f0.f6.f3, .int .i64 x.f0.f6.f4, .slice A11 x.f0.f6.f5.length c11, .bool x.f1, .string x.f2, .int .i64 x.f3, .int .i64 x.f4]] W fun e w' => ∃ A' n' c', e = .returned (.slice A' n' c') ∧ n' ≤ 2 ∧ Kd.C (Kd.int .i64) w' A' n' (stepT x) ∧ Below wr.heap.size wr w') := Lib.hid (fun W hb => by
        refine (record_nodes.calls 1 x.f0.f0 x.f0.f1 x.f0.f2 x.f0.f3 x.f0.f4 x.f0.f5 x.f0.f6.f0 x.f0.f6.f1 A8 c8 x.f0.f6.f2 x.f0.f6.f3 x.f0.f6.f4 A11 c11 x.f0.f6.f5 x.f1 x.f2 x.f3 x.f4 (stepT x) W (Kd.C_below g8 hb) g8l (Kd.C_below g11 hb) g11l (nodes_is x)).mono ?_
        rintro e w' ⟨v, rfl, h1, h2⟩
        obtain ⟨A', c', rfl⟩ := Kd.R_slice h1
        exact ⟨A', _, c', rfl, stepT_len x, (Kd.R_reads' h1).2.2, hb.trans (h2.mono hb.size)⟩)
      clear g8l g8 g11l g11
      go_wp2_with fail
      refine (HNd.out _ ?_).mono ?_
      · exact (Below.refl _ _).alloc (Nat.le_refl _) _
      rintro u w1 ⟨A', n', c', rfl, hn2, hC, hb1⟩
      have HC := Lib.hid hC
      have HF1 : Hid (RwI w w1 a3 ((ss.take k).flatMap stepT)) := Lib.hid ⟨Kd.R_below HF.out.1 hb1, HF.out.2.trans (hb1.mono HF.out.size)⟩
      clear hC hb1 x0 x1 x2 x3 x4 x5 x6 x7 x8 x9 x10 x11 x12 x13 x14 x15 HNd
      go_wp2_with (at_builtin; refine Kd.R_append_row (Value.int .i64) (0 : Int) (w0 := w) w.heap.size rfl _ _ 38 3 (.int .i64 0) 8 rfl Tryz.underlying38 int_info rfl (by decide) a3 _ _ A' n' c' (fun _ => True) rfl rfl (fun _ _ => trivial) HF1.out.1 HC.out HF1.out.2 HF1.out.size (by have := HLe.out; omega) ?c1)
      case c1 =>
        intro v1 w2 hN hB hg hat
        have HF2 : Hid (RwI w w2 v1 ((ss.take (k + 1)).flatMap stepT)) := Lib.hid ⟨by rw [HS.out]; exact hN, hB⟩
        clear hN hB hg hat
        go_wp2_with fail
        go_roundw
        case rel => exact ⟨k + 1, _, by omega, by go_num, rfl, HF2⟩
        case measure => simp [intOf]; omega
    · obtain rfl : k = n := by omega
      rw [HTk.out] at HF
      go_wp2_with fail
      refine (sort_any HF.out HLen.out).mono ?_
      rintro u w1 ⟨rfl, h1⟩
      have H1 := Lib.hid h1
      clear h1
      go_wp2_with fail
      refine (compact_any H1.out HLen.out).mono ?_
      rintro u w2 ⟨v', rfl, h2⟩
      obtain ⟨A3, c3, rfl⟩ := Kd.R_slice h2.1
      have hl3 : (told (ss.flatMap stepT)).length ≤ c3 := (Kd.R_reads' h2.1).2.1
      have hm3 : (told (ss.flatMap stepT)).length ≤ 1000 := by have := told_len (ss.flatMap stepT); have := flat_le ss; have := HN.out; omega
      obtain ⟨m, hm⟩ : ∃ m, m = (told (ss.flatMap stepT)).length := ⟨_, rfl⟩
      rw [← hm] at h2 hl3 hm3 ⊢
      have HM := Lib.hid hm
      clear hm
      have H2 := Lib.hid h2
      clear h2
      go_wp2_with fail
      refine (search_at HM.out H2.out HLen.out HP.out).mono ?_
      rintro u w3 ⟨b, rfl, h3⟩
      have H3 := Lib.hid h3
      clear h3
      go_wp2_with fail
      go_ret
      exact ⟨_, rfl, H3.out⟩
end Go.Proofs.YtmcinclecpeakaaGreatDoor.ApA
/- Package record: attribute. -/
namespace Go.Proofs.YtmcinclecpeakaaGreatDoor.ApA
open Go.RowKit Go.Proofs.YtmcinclecpeakaaGreatDoorW.PrintWords Go.Proofs.YtmcinclecpeakaaGreatDoorW.PrintLast Go.Proofs.YtmcinclecpeakaaGreatDoorW.PrintMore Go.Proofs.YtmcinclecpeakaaGreatDoor.PRR Go.Proofs.YtmcinclecpeakaaGreatDoor.DocP Go.Proofs.YtmcinclecpeakaaGreatDoor.DocC
set_option linter.unusedVariables false
set_option linter.unusedSimpArgs false
/-- The cells of a step. -/
def HC (e : S45) (A8 : Option Addr) (n8 c8 : Nat) (A11 : Option Addr) (n11 c11 : Nat) (had : Bool) (was : ByteArray) (parent place : Int) : Array Value :=
  #[.int .i64 e.f0, .int .i64 e.f1, .int .i64 e.f2, .int .i64 e.f3, .string e.f4, .string e.f5, .int .i64 e.f6.f0, .string e.f6.f1, .slice A8 n8 c8, .string e.f6.f3, .int .i64 e.f6.f4, .slice A11 n11 c11, .bool had, .string was, .int .i64 parent, .int .i64 place]
set_option maxHeartbeats 2000000 in
set_option maxRecDepth 100000 in
theorem attribute_calls (x : S43) (e : S45) (A2 A5 A8 A11 : Option Addr) (c2 n5 c5 n8 c8 n11 c11 g : Nat) (w : World) (hr : Kd.C k66 w A2 x.f2.length x.f2) (hc : x.f2.length ≤ c2) (hl : x.f2.length ≤ 1000) (hg : w.heap[g]? = some (.cells (HC e A8 n8 c8 A11 n11 c11 false ⟨#[]⟩ 0 0) 48 (0, 0))) :
    Calls Tryz.prog 27 #[.agg #[.int .i64 x.f0, .string x.f1, .slice A2 x.f2.length c2, .string x.f3, .int .i64 x.f4, .slice A5 n5 c5], .pointer (some ⟨g, 0, none⟩)] w fun u w' => u = .returned (.tuple #[]) ∧ Below g w w' ∧
      w'.heap[g]? = some (.cells (if 0 ≤ nmF e.f4 x.f2 then HC e A8 n8 c8 A11 n11 c11 true (atF x.f2 (nmF e.f4 x.f2)).f1 0 (nmF e.f4 x.f2) else HC e A8 n8 c8 A11 n11 c11 false ⟨#[]⟩ 0 0) 48 (0, 0)) := by
  have hlt := idx_lt (fun y : S66 => y.f0.toList == e.f4.toList) x.f2
  have HLt : Hid (nmF e.f4 x.f2 < (x.f2.length : Int) ∨ nmF e.f4 x.f2 = -1) := Lib.hid hlt
  have HPl : Hid (∀ W : World, Below w.heap.size w W → Calls Tryz.prog 47 #[.slice A2 x.f2.length c2, .string e.f4] W fun u w' => u = .returned (.int .i64 (nmF e.f4 x.f2)) ∧ Below w.heap.size w w' ∧ Below W.heap.size W w') := Lib.hid (fun W hb =>
    (record_place.calls A2 c2 x.f2 e.f4 (nmF e.f4 x.f2) W (Kd.C_below hr hb) hc rfl).mono (fun u w' ⟨h1, h2⟩ => ⟨h1, hb.trans (h2.mono hb.size), h2⟩))
  have HR := Lib.hid hr
  have hgl : g < w.heap.size := blk_lt hg
  have HG := Lib.hid hg
  have z4 : (w.alloc (.cells #[.int .i64 x.f0, .string x.f1, .slice A2 x.f2.length c2, .string x.f3, .int .i64 x.f4, .slice A5 n5 c5] 43)).cell? ⟨g, 4, none⟩ = some (.string e.f4) := (blk_cell (blk_below hg ((Below.refl _ w).alloc (Nat.le_refl _) _)) 4).trans rfl
  have HAt : Hid (∀ (W : World), Below w.heap.size w W → 0 ≤ nmF e.f4 x.f2 → ∃ ad, A2 = some ad ∧ W.cell? ⟨(ad.add ((nmF e.f4 x.f2).toNat * 2)).block, (ad.add ((nmF e.f4 x.f2).toNat * 2)).off + 1, none⟩ = some (.string (atF x.f2 (nmF e.f4 x.f2)).f1)) := Lib.hid (fun W hb h0 => by
    obtain ⟨ad, e1, _, h2⟩ := at_T66 (Kd.C_below hr hb) (nmF e.f4 x.f2) h0 (by rcases hlt with h | h <;> (unfold nmF at h0 ⊢; omega))
    exact ⟨ad, e1, h2⟩)
  have z2 : (w.alloc (.cells #[.int .i64 x.f0, .string x.f1, .slice A2 x.f2.length c2, .string x.f3, .int .i64 x.f4, .slice A5 n5 c5] 43)).cell? ⟨w.heap.size, 2, none⟩ = some (.slice A2 x.f2.length c2) := (blk_cell (blk_new w _) 2).trans rfl
  obtain ⟨n2, hn2⟩ : ∃ n2, n2 = x.f2.length := ⟨_, rfl⟩
  rw [← hn2] at HPl HLt hc hl z4 z2 ⊢
  generalize nmF e.f4 x.f2 = i at *
  obtain ⟨R, hRd⟩ : ∃ R, R = (if 0 ≤ i then HC e A8 n8 c8 A11 n11 c11 true (atF x.f2 i).f1 0 i else HC e A8 n8 c8 A11 n11 c11 false ⟨#[]⟩ 0 0) := ⟨_, rfl⟩
  rw [← hRd]
  have HRd := Lib.hid hRd
  clear hRd
  clear hr hg hlt hn2
  go_enter Tryz.func27, Tryz.ntmps27
  go_upto_region 1 with fail
  go_cut [4] (fun s4 wc => s4 = .int .i64 i ∧ Hid (Below w.heap.size w wc ∧ wc.cell? ⟨w.heap.size, 2, none⟩ = some (.slice A2 n2 c2)))
  case first =>
    go_region_with (with_reducible refine (HPl.out _ ?_).mono ?_; ((repeat (first | refine below_alloc ?_ _ | refine below_drew ?_)); exact Below.refl _ _); rintro u w1 ⟨rfl, hb1, hb2⟩)
    all_goals
      have HB1 := Lib.hid (⟨hb1, pw_cell_below hb2 z2⟩ : _ ∧ _)
      clear hb1 hb2
      go_wp2_with fail
      go_meet
      exact ⟨rfl, HB1⟩
  case rest =>
    obtain ⟨rfl, HBB⟩ := hcut
    obtain ⟨hB, y2⟩ := HBB.out
    have HB := Lib.hid hB
    clear hB HBB z2 z4
    by_cases h0 : 0 ≤ i
    · have HRv : Hid (R = HC e A8 n8 c8 A11 n11 c11 true (atF x.f2 i).f1 0 i) := Lib.hid (HRd.out.trans (if_pos h0))
      obtain ⟨ad, rfl, h1⟩ := HAt.out _ HB.out h0
      have hin : i < (n2 : Int) := by rcases HLt.out with h | h <;> omega
      have hgw : g < wc.heap.size := by have := HB.out.size; omega
      have hk := blk_below HG.out HB.out
      have k12 : wc.cell? ⟨g, 12, none⟩ = some (.bool false) := (blk_cell hk 12).trans rfl
      have k13 : wc.cell? ⟨g, 13, none⟩ = some (.string ⟨#[]⟩) := (blk_cell hk 13).trans rfl
      have k15 : wc.cell? ⟨g, 15, none⟩ = some (.int .i64 0) := (blk_cell hk 15).trans rfl
      have q12 := blk_frozen hk 12
      have q13 := blk_frozen hk 13
      have q15 := blk_frozen hk 15
      have HK := Lib.hid hk
      clear hk HPl HAt HR HLt HRd
      go_wp2_with fail
      have hbg : Below g w wc := HB.out.mono (Nat.le_of_lt hgl)
      go_end0
      refine ⟨rfl, ((hbg.setCell (Nat.le_refl _) _).setCell (Nat.le_refl _) _).setCell (Nat.le_refl _) _, ?_⟩
      rw [HRv.out]
      have hh := blk_set (blk_set (blk_set HK.out 12 (.bool true)) 13 (.string (atF x.f2 i).f1)) 15 (.int .i64 i)
      exact hh.trans (by rfl)
    · have HRv : Hid (R = HC e A8 n8 c8 A11 n11 c11 false ⟨#[]⟩ 0 0) := Lib.hid (HRd.out.trans (if_neg h0))
      have hk := blk_below HG.out HB.out
      have hi0 : i < 0 := by omega
      go_wp2_with fail
      go_end0
      exact ⟨rfl, HB.out.mono (Nat.le_of_lt hgl), by rw [HRv.out]; exact hk⟩
end Go.Proofs.YtmcinclecpeakaaGreatDoor.ApA
