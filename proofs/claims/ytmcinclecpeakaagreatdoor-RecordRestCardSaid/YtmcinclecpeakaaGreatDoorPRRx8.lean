-- printed by wip/tools/pr.py (own) through the kit's printer; texts GIVEN by hand stand among them
import Derived.Test.YtmcinclecpeakaaGreatDoorPRRx0
import Derived.Test.YtmcinclecpeakaaGreatDoorPRRx1
import Derived.Test.YtmcinclecpeakaaGreatDoorPRRx6
namespace Go.Proofs.YtmcinclecpeakaaGreatDoor.PRR
open Go.RowKit Go.Proofs.YtmcinclecpeakaaGreatDoorW.PrintWords Go.Proofs.YtmcinclecpeakaaGreatDoorW.PrintLast Go.Proofs.YtmcinclecpeakaaGreatDoorW.PrintMore
attribute [local go_sem] max2_int min2_int max_two min_two max_three min_three max_four min_four   -- for this text's walks alone
set_option linter.unusedVariables false
set_option linter.unusedSimpArgs false

/-! ### slices_Delete_int_int: function 50 -/
/-- 'clear' of one element. -/
theorem run_clear_one {P : Program} (w : World) (t e ty : TypeId) (z : Value) (ht : P.underlying t = some (.slice e)) (hv : ∀ w, (zeroValue e).run P w = .ok z w) (h1 : ∀ u ∈ z.cells.toList, u.oneCell' = true) (b o c : Nat)
  (hc : ∀ j, j < z.cells.toList.length → (w.cell? ⟨b, o + j, none⟩).isSome = true) (hf : ∀ j, j < z.cells.toList.length → w.frozen? ⟨b, o + j, none⟩ = false) :
  (Builtin.clear_ #[t] ty #[.slice (some ⟨b, o, none⟩) 1 c]).run P w = .ok (.tuple #[]) (w.setCells b o z.cells.toList) := by
 have hzc : (Builtin.zeroCells z.cells 1).toList = z.cells.toList := by
  simp only [Builtin.zeroCells]
  apply List.ext_getElem
  ·simp
  ·intro i h1 h2
   have hi : i < z.cells.size := by simpa using h2
   simp [Nat.mod_eq_of_lt hi, hi]
 have hst := run_storeCells_cells (P := P) b o z.cells.toList 0 w (by simpa using hc) (by simpa using hf) h1
 simp only [Nat.add_zero] at hst
 simp [Builtin.clear_, run_underlying ht, hv, hzc, hst]
/-- A row of one's own, one element taken out of it. -/
theorem own_out {B g n c i sz : Nat} {e : TypeId} {w w0 : World} {inner zs : List Value} {cur : Array Value} (hg : w.heap[g]? = some (.cells cur e (0, 0))) (hB : B ≤ g) (hnc : n ≤ c) (hcm : c ≤ maxLen) (hcs : cur.size = c * sz) (hct : cur.toList.take (n * sz) = inner) (hi : i < n) (hz : zs.length = sz) :
  ((w.setCells g (i * sz) (inner.drop ((i + 1) * sz))).setCells g ((n - 1) * sz) zs).ownsRow B e sz (.slice (some ⟨g, 0, none⟩) (n - 1) c) (n - 1) (inner.take (i * sz) ++ inner.drop ((i + 1) * sz)) ∧ w.grownBy ((w.setCells g (i * sz) (inner.drop ((i + 1) * sz))).setCells g ((n - 1) * sz) zs) (some g) := by
 have hmul : n * sz ≤ c * sz := Nat.mul_le_mul_right _ hnc
 have hil : inner.length = n * sz := by rw [← hct, List.length_take, Array.length_toList, hcs]; omega
 have e1 : (i + 1) * sz = i * sz + sz := Nat.succ_mul i sz
 have hin : (i + 1) * sz ≤ n * sz := Nat.mul_le_mul_right _ hi
 have hn1 : (n - 1) * sz + sz = n * sz := by rw [← Nat.succ_mul]; congr 1; omega
 have hdl : (inner.drop ((i + 1) * sz)).length = n * sz - (i + 1) * sz := by rw [List.length_drop, hil]
 obtain ⟨cur1, h1, h2, h3⟩ := setCells_row (inner.drop ((i + 1) * sz)) (i * sz) w cur hg (by rw [hdl, hcs]; omega)
 obtain ⟨cur2, h4, h5, h6⟩ := setCells_row zs ((n - 1) * sz) _ cur1 h1 (by rw [h2, hz, hcs]; omega)
 have hlen : (inner.take (i * sz) ++ inner.drop ((i + 1) * sz)).length = (n - 1) * sz := by rw [List.length_append, List.length_take, hdl, hil]; omega
 refine ⟨⟨hlen, .inr ⟨g, c, cur2, rfl, hB, h4, by omega, hcm, by rw [h5, h2, hcs], ?_⟩⟩, ?_⟩
 ·have ht : (cur.toList.take (i * sz)) = inner.take (i * sz) := by rw [← hct, List.take_take]; congr 1; omega
  rw [h6, List.append_assoc, List.take_append_of_le_length (by rw [List.length_take, Array.length_toList, h2, hcs]; omega), List.take_take, Nat.min_self, h3, ht]
  rw [List.take_append_of_le_length (by rw [hlen]; exact Nat.le_refl _), List.take_of_length_le (by rw [hlen]; exact Nat.le_refl _)]
 ·have a1 := setCells_same g (inner.drop ((i + 1) * sz)) (i * sz) w
  have a2 := setCells_same g zs ((n - 1) * sz) (w.setCells g (i * sz) (inner.drop ((i + 1) * sz)))
  exact ⟨a2.1.trans a1.1, a2.2.1.trans a1.2.1, a2.2.2.1.trans a1.2.2.1, by rw [a2.2.2.2, a1.2.2.2]; exact Nat.le_refl _, fun k _ hk => (setCells_far zs _ k (fun he => hk (by rw [he]))).trans (setCells_far _ _ k (fun he => hk (by rw [he])))⟩
theorem delInt.info : (Tryz.prog.info? 3).map (fun i => (i.zero, i.size, i.bytes)) = some (some (.int .i64 0), 1, 8) := by kernel_rfl
set_option maxRecDepth 1000000 in
set_option maxHeartbeats 4000000 in
/-- One element taken out of a row of one's own. -/
theorem delInt.del (B g n c i : Nat) (inner : List Value) (w : World) (ho : w.ownsRow B 3 1 (.slice (some ⟨g, 0, none⟩) n c) n inner) (hi : i < n) (hone : ∀ u ∈ inner, u.oneCell' = true) (hn : n ≤ 1000000) :
  Calls Tryz.prog 50 #[.slice (some ⟨g, 0, none⟩) n c, .int .i64 i, .int .i64 ((i + 1 : Nat) : Int)] w fun e w' => e = .returned (.slice (some ⟨g, 0, none⟩) (n - 1) c) ∧ w'.ownsRow B 3 1 (.slice (some ⟨g, 0, none⟩) (n - 1) c) (n - 1) (inner.take (i * 1) ++ inner.drop ((i + 1) * 1)) ∧ w.grownBy w' (some g) := by
 obtain ⟨i0, hi0, hz0, hz1, hz2⟩ := info_parts delInt.info
 obtain ⟨hil, ho⟩ := ho
 obtain ⟨g', c', cur, hv, hB, hg, hnc, hcm, hcs, hct⟩ := ho.resolve_left (fun h => by have := h.2; omega)
 injection hv with hv1 hv2 hv3
 injection hv1 with hv1
 injection hv1 with hv1
 subst hv1 hv3
 clear hv2 ho
 have hcl9 : c ≤ 9223372036854775807 := by unfold maxLen at hcm; omega
 have hcell : ∀ t u, inner[t]? = some u → w.cell? ⟨g, t, none⟩ = some u := fun t u hu => by
  rw [blk_cell hg t, ← Array.getElem?_toList]
  rw [← hct, List.getElem?_take] at hu
  split at hu
  ·exact hu
  ·cases hu
 obtain ⟨j, hj⟩ : ∃ j, j = i + 1 := ⟨_, rfl⟩
 rw [← hj]
 obtain ⟨news, hnews⟩ : ∃ news, news = inner.drop (j * 1) := ⟨_, rfl⟩
 have hlen : news.length = (n - j) * 1 := by rw [hnews, List.length_drop, hil]; omega
 obtain ⟨A, hA, hsrc⟩ : ∃ A : Addr, (if c = j then some (⟨g, 0, none⟩ : Addr) else some ⟨g, j, none⟩) = some A ∧ Hid (∀ t u, news[t]? = some u → w.drew.cell? (A.add t) = some u) := by
  by_cases h : c = j
  ·refine ⟨⟨g, 0, none⟩, by simp [h], fun t u hu => ?_⟩
   have h0 : news.length = 0 := by rw [hlen]; omega
   rw [List.length_eq_zero_iff.1 h0] at hu
   simp at hu
  ·refine ⟨⟨g, j, none⟩, by simp [h], fun t u hu => ?_⟩
   rw [hnews, List.getElem?_drop] at hu
   rw [add_at]
   exact hcell _ u (by simpa using hu)
 have s1 : Hid (news.length = (n - j) * 1) := Lib.hid hlen
 have s2 : Hid (∀ u ∈ news, u.oneCell' = true) := Lib.hid (fun u hu => hone u (by rw [hnews] at hu; exact List.mem_of_mem_drop hu))
 have s3 : Hid (∀ t, t < news.length → (w.drew.cell? ⟨g, 0 + i * 1 + t, none⟩).isSome = true ∧ w.drew.frozen? ⟨g, 0 + i * 1 + t, none⟩ = false) := Lib.hid (fun t ht => by
  rw [hlen] at ht
  have hsome : (w.cell? ⟨g, 0 + i * 1 + t, none⟩).isSome = true := by
   rw [blk_cell hg, Array.getElem?_eq_getElem (by rw [hcs]; omega)]
   rfl
  exact ⟨hsome, blk_frozen hg _⟩)
 obtain ⟨W1, hW1⟩ : ∃ W1, W1 = w.drew.setCells g (0 + i * 1) news := ⟨_, rfl⟩
 obtain ⟨cur1, hc1, hc2, hc3⟩ := setCells_row (e := 3) news (0 + i * 1) w.drew cur hg (by rw [hlen, hcs]; omega)
 rw [← hW1] at hc1
 have hcl : ∀ ty, (Builtin.clear_ #[38] ty #[.slice (some ⟨g, (n - 1) * 1, none⟩) 1 (c - (n - 1))]).run Tryz.prog W1 = .ok (.tuple #[]) (W1.setCells g ((n - 1) * 1) ((.int .i64 0) : Value).cells.toList) := fun ty =>
  run_clear_one W1 _ 3 ty (.int .i64 0) Tryz.underlying38 (fun w => by kernel_rfl) (by decide) g ((n - 1) * 1) _ (fun j hj => by
   have hj' : j < 1 := hj
   rw [blk_cell hc1, Array.getElem?_eq_getElem (by rw [hc2, hcs]; omega)]
   rfl) (fun j hj => blk_frozen hc1 _)
 have mixed : Tryz.prog.follows .mixedOrders = true := by kernel_rfl
 have hjn : (j : Int) ≤ n := by omega
 have hcl2 : ∀ ty, (Builtin.clear_ #[38] ty #[.slice (some ⟨g, n - 1, none⟩) 1 (c - (n - 1))]).run Tryz.prog W1 = .ok (.tuple #[]) (W1.setCells g ((n - 1) * 1) ((.int .i64 0) : Value).cells.toList) := fun ty => by
  have h := hcl ty
  rw [show (⟨g, n - 1, none⟩ : Addr) = ⟨g, (n - 1) * 1, none⟩ from by simp]
  exact h
 clear hcl
 have hfin := own_out (w := w.drew) (w0 := w) (zs := ((.int .i64 0) : Value).cells.toList) (i := i) hg hB hnc hcm hcs hct hi rfl
 rw [← hj, ← hnews, show i * 1 = 0 + i * 1 from by omega, ← hW1, show 0 + i * 1 = i * 1 from by omega] at hfin
 have HF : Hid ((W1.setCells g ((n - 1) * 1) ((.int .i64 0) : Value).cells.toList).ownsRow B 3 1 (.slice (some ⟨g, 0, none⟩) (n - 1) c) (n - 1) (inner.take (i * 1) ++ inner.drop (j * 1)) ∧ w.grownBy (W1.setCells g ((n - 1) * 1) ((.int .i64 0) : Value).cells.toList) (some g)) := Lib.hid ⟨by have := hfin.1; rw [hnews] at this; exact this, ⟨hfin.2.os, hfin.2.tape, hfin.2.output, hfin.2.size, hfin.2.block⟩⟩
 have hW : Hid (W1 = w.drew.setCells g (0 + i * 1) news) := Lib.hid hW1
 have hic : i ≤ c := by omega
 have hjc : j ≤ c := by omega
 have hneq : ((i : Int) == (j : Int)) = false := by simp; omega
 have hne2 : ¬ (c = n - 1) := by omega
 have hsub : n - (n - 1) = 1 := by omega
 have hsum : i + (n - j) = n - 1 := by omega
 clear hW1 hc1 hc2 hc3 hfin hcell hnews hlen hg hct hcs hil hone
 have HJ := Lib.hid hj
 clear hj
 go_enter Tryz.func50, Tryz.ntmps50
 go_wp2_with fail
 go_region_law_o (refine step_append_room rfl (.tmp 22) (.tmp 25) 38 rfl 3 i0 1 Tryz.underlying38 hi0 hz1 g 0 i c (by simp [Act.eval, Act.put]) A (n - j) (c - j) news (by simp [Act.eval, Act.put]) s1.out hsrc.out s2.out (by omega) s3.out ?_; rw [← hW.out])
 go_wp2_with fail
 go_ret
 first
  | exact ⟨rfl, HF.out⟩
  | (refine ⟨rfl, ?_⟩; have h := HF.out; simp only [Nat.mul_one] at h ⊢; exact h)

/-! ### api_Attr_83: function 83 -/
theorem delAttr.info : (Tryz.prog.info? 66).map (fun i => (i.zero, i.size, i.bytes)) = some (some (.agg #[.string ⟨#[]⟩, .string ⟨#[]⟩]), 2, 32) := by kernel_rfl
set_option maxRecDepth 1000000 in
set_option maxHeartbeats 4000000 in
/-- One element taken out of a row of one's own. -/
theorem delAttr.del (B g n c i : Nat) (inner : List Value) (w : World) (ho : w.ownsRow B 66 2 (.slice (some ⟨g, 0, none⟩) n c) n inner) (hi : i < n) (hone : ∀ u ∈ inner, u.oneCell' = true) (hn : n ≤ 1000000) :
  Calls Tryz.prog 83 #[.slice (some ⟨g, 0, none⟩) n c, .int .i64 i, .int .i64 ((i + 1 : Nat) : Int)] w fun e w' => e = .returned (.slice (some ⟨g, 0, none⟩) (n - 1) c) ∧ w'.ownsRow B 66 2 (.slice (some ⟨g, 0, none⟩) (n - 1) c) (n - 1) (inner.take (i * 2) ++ inner.drop ((i + 1) * 2)) ∧ w.grownBy w' (some g) := by
 obtain ⟨i0, hi0, hz0, hz1, hz2⟩ := info_parts delAttr.info
 obtain ⟨hil, ho⟩ := ho
 obtain ⟨g', c', cur, hv, hB, hg, hnc, hcm, hcs, hct⟩ := ho.resolve_left (fun h => by have := h.2; omega)
 injection hv with hv1 hv2 hv3
 injection hv1 with hv1
 injection hv1 with hv1
 subst hv1 hv3
 clear hv2 ho
 have hcl9 : c ≤ 9223372036854775807 := by unfold maxLen at hcm; omega
 have hcell : ∀ t u, inner[t]? = some u → w.cell? ⟨g, t, none⟩ = some u := fun t u hu => by
  rw [blk_cell hg t, ← Array.getElem?_toList]
  rw [← hct, List.getElem?_take] at hu
  split at hu
  ·exact hu
  ·cases hu
 obtain ⟨j, hj⟩ : ∃ j, j = i + 1 := ⟨_, rfl⟩
 rw [← hj]
 obtain ⟨news, hnews⟩ : ∃ news, news = inner.drop (j * 2) := ⟨_, rfl⟩
 have hlen : news.length = (n - j) * 2 := by rw [hnews, List.length_drop, hil]; omega
 obtain ⟨A, hA, hsrc⟩ : ∃ A : Addr, (if c = j then some (⟨g, 0, none⟩ : Addr) else some ⟨g, j * 2, none⟩) = some A ∧ Hid (∀ t u, news[t]? = some u → w.drew.cell? (A.add t) = some u) := by
  by_cases h : c = j
  ·refine ⟨⟨g, 0, none⟩, by simp [h], fun t u hu => ?_⟩
   have h0 : news.length = 0 := by rw [hlen]; omega
   rw [List.length_eq_zero_iff.1 h0] at hu
   simp at hu
  ·refine ⟨⟨g, j * 2, none⟩, by simp [h], fun t u hu => ?_⟩
   rw [hnews, List.getElem?_drop] at hu
   rw [add_at]
   exact hcell _ u (by simpa using hu)
 have s1 : Hid (news.length = (n - j) * 2) := Lib.hid hlen
 have s2 : Hid (∀ u ∈ news, u.oneCell' = true) := Lib.hid (fun u hu => hone u (by rw [hnews] at hu; exact List.mem_of_mem_drop hu))
 have s3 : Hid (∀ t, t < news.length → (w.drew.cell? ⟨g, 0 + i * 2 + t, none⟩).isSome = true ∧ w.drew.frozen? ⟨g, 0 + i * 2 + t, none⟩ = false) := Lib.hid (fun t ht => by
  rw [hlen] at ht
  have hsome : (w.cell? ⟨g, 0 + i * 2 + t, none⟩).isSome = true := by
   rw [blk_cell hg, Array.getElem?_eq_getElem (by rw [hcs]; omega)]
   rfl
  exact ⟨hsome, blk_frozen hg _⟩)
 obtain ⟨W1, hW1⟩ : ∃ W1, W1 = w.drew.setCells g (0 + i * 2) news := ⟨_, rfl⟩
 obtain ⟨cur1, hc1, hc2, hc3⟩ := setCells_row (e := 66) news (0 + i * 2) w.drew cur hg (by rw [hlen, hcs]; omega)
 rw [← hW1] at hc1
 have hcl : ∀ ty, (Builtin.clear_ #[41] ty #[.slice (some ⟨g, (n - 1) * 2, none⟩) 1 (c - (n - 1))]).run Tryz.prog W1 = .ok (.tuple #[]) (W1.setCells g ((n - 1) * 2) ((.agg #[.string ⟨#[]⟩, .string ⟨#[]⟩]) : Value).cells.toList) := fun ty =>
  run_clear_one W1 _ 66 ty (.agg #[.string ⟨#[]⟩, .string ⟨#[]⟩]) Tryz.underlying41 (fun w => by kernel_rfl) (by decide) g ((n - 1) * 2) _ (fun j hj => by
   have hj' : j < 2 := hj
   rw [blk_cell hc1, Array.getElem?_eq_getElem (by rw [hc2, hcs]; omega)]
   rfl) (fun j hj => blk_frozen hc1 _)
 have mixed : Tryz.prog.follows .mixedOrders = true := by kernel_rfl
 have hjn : (j : Int) ≤ n := by omega
 have hcl2 : ∀ ty, (Builtin.clear_ #[41] ty #[.slice (some ⟨g, (n - 1) * 2, none⟩) 1 (c - (n - 1))]).run Tryz.prog W1 = .ok (.tuple #[]) (W1.setCells g ((n - 1) * 2) ((.agg #[.string ⟨#[]⟩, .string ⟨#[]⟩]) : Value).cells.toList) := fun ty => by
  have h := hcl ty
  rw [show (⟨g, (n - 1) * 2, none⟩ : Addr) = ⟨g, (n - 1) * 2, none⟩ from by simp]
  exact h
 clear hcl
 have hfin := own_out (w := w.drew) (w0 := w) (zs := ((.agg #[.string ⟨#[]⟩, .string ⟨#[]⟩]) : Value).cells.toList) (i := i) hg hB hnc hcm hcs hct hi rfl
 rw [← hj, ← hnews, show i * 2 = 0 + i * 2 from by omega, ← hW1, show 0 + i * 2 = i * 2 from by omega] at hfin
 have HF : Hid ((W1.setCells g ((n - 1) * 2) ((.agg #[.string ⟨#[]⟩, .string ⟨#[]⟩]) : Value).cells.toList).ownsRow B 66 2 (.slice (some ⟨g, 0, none⟩) (n - 1) c) (n - 1) (inner.take (i * 2) ++ inner.drop (j * 2)) ∧ w.grownBy (W1.setCells g ((n - 1) * 2) ((.agg #[.string ⟨#[]⟩, .string ⟨#[]⟩]) : Value).cells.toList) (some g)) := Lib.hid ⟨by have := hfin.1; rw [hnews] at this; exact this, ⟨hfin.2.os, hfin.2.tape, hfin.2.output, hfin.2.size, hfin.2.block⟩⟩
 have hW : Hid (W1 = w.drew.setCells g (0 + i * 2) news) := Lib.hid hW1
 have hic : i ≤ c := by omega
 have hjc : j ≤ c := by omega
 have hneq : ((i : Int) == (j : Int)) = false := by simp; omega
 have hne2 : ¬ (c = n - 1) := by omega
 have hsub : n - (n - 1) = 1 := by omega
 have hsum : i + (n - j) = n - 1 := by omega
 clear hW1 hc1 hc2 hc3 hfin hcell hnews hlen hg hct hcs hil hone
 have HJ := Lib.hid hj
 clear hj
 go_enter Tryz.func83, Tryz.ntmps83
 go_wp2_with fail
 go_region_law_o (refine step_append_room rfl (.tmp 22) (.tmp 25) 41 rfl 66 i0 2 Tryz.underlying41 hi0 hz1 g 0 i c (by simp [Act.eval, Act.put]) A (n - j) (c - j) news (by simp [Act.eval, Act.put]) s1.out hsrc.out s2.out (by omega) s3.out ?_; rw [← hW.out])
 go_wp2_with fail
 go_ret
 first
  | exact ⟨rfl, HF.out⟩
  | (refine ⟨rfl, ?_⟩; have h := HF.out; simp only [Nat.mul_one] at h ⊢; exact h)

/-! ### dom_editor_drop: function 56 -/
/-- An attribute's cells. -/
def attrC (x : S66) (cs : List Value) : Prop := cs = [.string x.f0, .string x.f1]
theorem attrC_one : ∀ (xs : List S66) (inner : List Value), Reps attrC 2 xs inner → ∀ u ∈ inner, u.oneCell' = true
 | [], inner, h, u, hu => by
  have e : inner = [] := List.eq_nil_of_length_eq_zero (by have := h.1; simpa using this)
  rw [e] at hu
  cases hu
 | x :: xs, inner, h, u, hu => by
  have h1 := h.2 0 x rfl
  have h2 := attrC_one xs (inner.drop (1 * 2)) (Kd.reps_drop (m := 1) h) u
  rw [← List.take_append_drop 2 inner] at hu
  rcases List.mem_append.1 hu with hu | hu
  ·unfold attrC at h1
   rw [Nat.zero_mul, List.drop_zero] at h1
   rw [h1] at hu
   simp only [List.mem_cons, List.mem_nil_iff, or_false] at hu
   rcases hu with rfl | rfl <;> rfl
  ·exact h2 (by simpa using hu)
theorem attrC_erase {xs : List S66} {inner : List Value} (h : Reps attrC 2 xs inner) (i : Nat) : Reps attrC 2 (xs.eraseIdx i) (inner.take (i * 2) ++ inner.drop ((i + 1) * 2)) := by
 rw [List.eraseIdx_eq_take_drop_succ]
 by_cases hi : i ≤ xs.length
 ·exact Kd.reps_append (Kd.reps_take h hi) (Kd.reps_drop h)
 ·have hl := h.1
  have h1 := Kd.reps_drop (m := i + 1) h
  rw [List.take_of_length_le (show xs.length ≤ i by omega), List.take_of_length_le (show inner.length ≤ i * 2 by omega)]
  exact Kd.reps_append h h1
/-- A node's row of attributes is written anew. -/
theorem ed_attrs {B gr n c i : Nat} {wx : World} {l : List S43} {xi : S43} {v2 : Value} (hS : Kd.S k43 43 wx B (fun _ => True) (.slice (some ⟨gr, 0, none⟩) n c) l) (hi : i < n) (hxi : l[i]? = some xi) (hv2 : wx.cell? ⟨gr, i * 6 + 2, none⟩ = some v2) :
  (∃ inner, wx.ownsRow B 66 2 v2 xi.f2.length inner ∧ Reps attrC 2 xi.f2 inner) ∧ ∀ (W W4 : World) (v' : Value) (ys : List S66) (inner' : List Value), Below wx.heap.size wx W → W.grownBy W4 v2.ownBlock → W4.ownsRow B 66 2 v' ys.length inner' → Reps attrC 2 ys inner' → (v'.ownBlock = v2.ownBlock ∨ ∃ k, v'.ownBlock = some k ∧ W.heap.size ≤ k) → v'.oneCell' = true →
   Kd.S k43 43 (W4.setCell ⟨gr, i * 6 + 2, none⟩ v') B (fun _ => True) (.slice (some ⟨gr, 0, none⟩) n c) (l.set i ⟨xi.f0, xi.f1, ys, xi.f3, xi.f4, xi.f5⟩) := by
 have hS2 : Kd.S k43 43 wx B (fun j => True ∧ ¬ wx.heap.size ≤ j) (.slice (some ⟨gr, 0, none⟩) n c) l := Kd.S_mono (Kd.S_bound hS) (fun j hj => ⟨trivial, by have := hj.2.2.1; omega⟩)
 obtain ⟨oki, cc, hcl, hM, hcc, hfr, hoki, hH⟩ := Kd.S_elem hS2 z43 (i : Int) (by omega) (by omega)
 rw [show l.getD (i : Int).toNat z43 = xi from by rw [Int.toNat_natCast, List.getD_eq_getElem?_getD, hxi]; rfl] at hM
 obtain ⟨v2', v5, hcs, hR2, hR5⟩ := k43_openM hM
 subst hcs
 have e2 : wx.cell? ⟨gr, i * 6 + 2, none⟩ = some v2' := hcc 2 _ rfl
 obtain rfl : v2' = v2 := by rw [e2] at hv2; exact Option.some.inj hv2
 have hgt := Kd.S_typed hS gr (by simp [Value.ownBlock])
 have hown : ∃ inner, wx.ownsRow B 66 2 v2' xi.f2.length inner ∧ Reps attrC 2 xi.f2 inner := by
  obtain ⟨_, inner, ho, hr⟩ := hR2
  exact ⟨inner, ho, hr.imp_ (fun x cs hx => k66_openM hx)⟩
 have hown' := hown
 obtain ⟨inner0, ho0, _⟩ := hown'
 refine ⟨hown, fun W W4 v' ys inner' hb hg ho hr hat hone => ?_⟩
 have hgr4 : gr < wx.heap.size := blk_lt hgt.choose_spec
 have hok2 : ∀ k, v2'.ownBlock = some k → oki k ∧ k < wx.heap.size ∧ k ≠ gr := fun k hk => ⟨hR2.1 k hk, own_lt ho0 k hk, (hoki k (hR2.1 k hk)).2⟩
 have hH4 := Kd.H_grown (Kd.H_below (Kd.H_more hH (fun j hj => trivial)) hb) hg (fun k hk => .inl (hok2 k hk).1)
 have h2 := (Kd.H_seg hH4 (by omega) (by omega) (seg := [v']) (j := 2) (by show 2 + 1 ≤ 6; decide) (by simpa using hone)).1
 have h3 : Kd.H k43 43 (W4.setCell ⟨gr, i * 6 + 2, none⟩ v') B (fun _ => True) (.slice (some ⟨gr, 0, none⟩) n c) l (i : Int) (fun j => oki j ∨ wx.heap.size ≤ j) [.int .i64 xi.f0, .string xi.f1, v', .string xi.f3, .int .i64 xi.f4, v5] := h2
 have hR5t := Kd.R_tight rfl hR5
 have hne5 : ∀ k, some k = v5.ownBlock → some k ≠ v2'.ownBlock ∧ k ≠ gr ∧ oki k := fun k hk => by
  obtain ⟨cs5, ht5⟩ := Kd.R_typed hR5 k hk.symm
  refine ⟨fun he => ?_, (hoki k (hR5.1 k hk.symm)).2, hR5.1 k hk.symm⟩
  obtain ⟨cs2, ht2⟩ := Kd.R_typed hR2 k he.symm
  exact blk_ne ht5 ht2 (by decide) rfl
 have hR5' := Kd.R_far (Kd.R_step (Kd.R_below hR5t hb) (fun k hk hlt => hg.block k hlt (hne5 k hk).1)) (p := ⟨gr, i * 6 + 2, none⟩) (fun k hk => (hne5 k hk).2.1) v'
 have hv' : ∀ k, v'.ownBlock = some k → (oki k ∨ wx.heap.size ≤ k) ∧ k ≠ gr := fun k hk => by
  rcases hat with h | ⟨k', h, hk'⟩
  ·obtain ⟨h1, h2, h3⟩ := hok2 k (h ▸ hk)
   exact ⟨.inl h1, h3⟩
  ·rw [h] at hk
   injection hk with hk
   have := hb.size
   exact ⟨.inr (by omega), by omega⟩
 have hR2' : k66.R 66 (W4.setCell ⟨gr, i * 6 + 2, none⟩ v') B (fun k => oki k ∨ wx.heap.size ≤ k) v' ys :=
  ⟨fun k hk => (hv' k hk).1, inner', own_setCell ho (fun he => (hv' gr he.symm).2 rfl) v', hr.imp_ (fun x cs hx => by rw [hx]; exact k66_mkM _ _ _ x)⟩
 have h4 := Kd.H_back h3 (x' := ⟨xi.f0, xi.f1, ys, xi.f3, xi.f4, xi.f5⟩) (okp := fun j => oki j ∨ wx.heap.size ≤ j) (k43_mkM _ _ _ ⟨xi.f0, xi.f1, ys, xi.f3, xi.f4, xi.f5⟩ hR2' (Kd.R_mono hR5' (fun k hk => .inl (hne5 k hk).2.2))) (fun j hj => hj)
 rw [Int.toNat_natCast] at h4
 exact h4
def dropF (l : List S43) (e : S45) : Option (Int × List S43) :=
 if 0 ≤ e.f1 ∧ e.f1 < (l.length : Int) then
  (if (rd_T43 l e.f1).f0 = 2 then
   (if (rd_T43 l e.f1).f2.length ≤ 1000 then
    (dom_find.f (rd_T43 l e.f1).f2 e.f4).bind fun i =>
     if i < 0 then some (5, l) else if i < ((rd_T43 l e.f1).f2.length : Int) then some (0, l.set e.f1.toNat { rd_T43 l e.f1 with f2 := (rd_T43 l e.f1).f2.eraseIdx i.toNat }) else none
   else none)
  else some (7, l))
 else some (5, l)
/-- What lies ready behind slices.Delete. -/
structure DropF (w0 W : World) (b gr n c i : Nat) (q : Bool) (made : Int) (v2 v' : Value) (l : List S43) : Prop where
 below : Below w0.heap.size w0 W
 blk : W.heap[b]? = some (.cells #[.slice (some ⟨gr, 0, none⟩) n c, .bool q, .int .i64 made] 62 (0, 0))
 c2 : W.cell? ⟨gr, i * 6 + 2, none⟩ = some v2
 f2 : W.frozen? ⟨gr, i * 6 + 2, none⟩ = false
 row : Kd.S k43 43 (W.setCell ⟨gr, i * 6 + 2, none⟩ v') w0.heap.size (fun _ => True) (.slice (some ⟨gr, 0, none⟩) n c) l
set_option maxRecDepth 100000 in
set_option maxHeartbeats 4000000 in
theorem drop_calls (e : S45) (A8 A11 : Option Addr) (n8 n11 c8 c11 : Nat) (l : List S43) (q : Bool) (made : Int) (b : Nat) (r : Int) (l' : List S43) (w0 w : World) (hw : Below w0.heap.size w0 w) (hE : Ed w w0.heap.size b l q made) (h : dropF l e = some (r, l')) :
  Calls Tryz.prog 56 #[.pointer (some ⟨b, 0, none⟩), editV e A8 A11 n8 n11 c8 c11] w fun u w' => u = .returned (.int .i64 r) ∧ Ed w' w0.heap.size b l' q made ∧ Below w0.heap.size w0 w' := by
 obtain ⟨A, c, hB, hblk, hS⟩ := ed_open hE
 obtain ⟨n, hn⟩ : ∃ n, n = l.length := ⟨_, rfl⟩
 rw [← hn] at hblk hS
 have HE : Hid (∀ W : World, Below w.heap.size w W → Ed W w0.heap.size b l q made ∧ Below w0.heap.size w0 W) := Lib.hid (fun W h => ⟨hE.below h, hw.trans (h.mono hw.size)⟩)
 have HC : Hid (∀ W : World, Below w.heap.size w W → W.cell? ⟨b, 0, none⟩ = some (.slice A n c)) := Lib.hid (fun W h => pw_cell_below h ((blk_cell hblk 0).trans rfl))
 have HBx := Lib.hid ((Below.refl _ w).alloc (Nat.le_refl _) (.cells #[.int .i64 e.f0, .int .i64 e.f1, .int .i64 e.f2, .int .i64 e.f3, .string e.f4, .string e.f5, .int .i64 e.f6.f0, .string e.f6.f1, .slice A8 n8 c8, .string e.f6.f3, .int .i64 e.f6.f4, .slice A11 n11 c11] 45))
 have hbx4 : (w.alloc (.cells #[.int .i64 e.f0, .int .i64 e.f1, .int .i64 e.f2, .int .i64 e.f3, .string e.f4, .string e.f5, .int .i64 e.f6.f0, .string e.f6.f1, .slice A8 n8 c8, .string e.f6.f3, .int .i64 e.f6.f4, .slice A11 n11 c11] 45)).cell? ⟨w.heap.size, 4, none⟩ = some (.string e.f4) := by simp [go_sem]
 unfold dropF at h
 unfold editV
 by_cases hin : 0 ≤ e.f1 ∧ e.f1 < (l.length : Int)
 ·rw [if_pos hin] at h
  obtain ⟨i, hi⟩ : ∃ i : Nat, (i : Int) = e.f1 := ⟨e.f1.toNat, by omega⟩
  obtain ⟨gr, cap, hv, hbr, hgr, cells, hty⟩ := Kd.S_form hS (by omega)
  injection hv with hA hn' hc'
  subst hA
  clear hn' hc'
  have hgb : gr ≠ b := fun he => blk_ne hty hblk (by decide) he
  obtain ⟨x, hx⟩ : ∃ x, rd_T43 l e.f1 = x := ⟨_, rfl⟩
  have hxi : l[i]? = some x := by
   rw [← hx, ← hi]
   unfold rd_T43
   rw [Int.toNat_natCast, List.getD_eq_getElem?_getD, List.getElem?_eq_getElem (by omega)]
   rfl
  rw [hx, ← hi, Int.toNat_natCast] at h
  obtain ⟨hn2, hnc, hrow⟩ := Kd.S_reads' hS
  obtain ⟨adi, A2, c2, A5, c5, ei, i0, -, i2, -, -, -, h2l, h2, -⟩ := at_T43 hrow (i : Int) (by omega) (by omega)
  cases ei
  rw [hi, hx] at i0 i2 h2l h2
  obtain ⟨m2, hm2⟩ : ∃ m2, m2 = x.f2.length := ⟨_, rfl⟩
  rw [← hm2] at i2
  have i0' : w.cell? ⟨gr, i * 6, none⟩ = some (.int .i64 x.f0) := by simpa [add_at, ← hi] using i0
  have i2' : w.cell? ⟨gr, i * 6 + 2, none⟩ = some (.slice A2 m2 c2) := by simpa [add_at, ← hi] using i2
  by_cases h1 : x.f0 = 2
  ·rw [if_pos h1] at h
   split at h
   case isFalse => exact absurd h (by simp)
   case isTrue hlm =>
   obtain ⟨ix, hix, h⟩ := Option.bind_eq_some_iff.1 h
   have HEl : Hid (∀ W : World, Below w.heap.size w W → Calls Tryz.prog 82 #[.pointer (some ⟨b, 0, none⟩), .int .i64 e.f1] W fun u w' => u = .returned (.tuple #[.pointer (some ⟨gr, i * 6, none⟩), .int .i64 0]) ∧ W = w') :=
    Lib.hid (fun W h => by rw [← hi]; exact element_in b gr n c i W (HC.out W h) (by omega) (pw_cell_below h (by rw [i0', h1])))
   have HFd : Hid (∀ W : World, Below w.heap.size w W → Calls Tryz.prog 81 #[.slice A2 m2 c2, .string e.f4] W fun u w' => u = .returned (.int .i64 ix) ∧ Below W.heap.size W w') :=
    Lib.hid (by rw [hm2]; exact fun W h => dom_find.calls A2 c2 x.f2 e.f4 ix W (Kd.C_below h2 h) h2l hix)
   have HCl : Hid (∀ W1 : World, (w.alloc (.cells #[.int .i64 e.f0, .int .i64 e.f1, .int .i64 e.f2, .int .i64 e.f3, .string e.f4, .string e.f5, .int .i64 e.f6.f0, .string e.f6.f1, .slice A8 n8 c8, .string e.f6.f3, .int .i64 e.f6.f4, .slice A11 n11 c11] 45)) = W1 → Below w.heap.size w W1 ∧ ∀ W : World, Below W1.heap.size W1 W → Below w.heap.size w W ∧ W.cell? ⟨gr, i * 6 + 2, none⟩ = some (.slice A2 m2 c2) ∧ W.cell? ⟨w.heap.size, 4, none⟩ = some (.string e.f4)) :=
    Lib.hid (fun W1 h => by
     subst h
     refine ⟨HBx.out, fun W hW => ?_⟩
     have hbw := HBx.out.trans (hW.mono HBx.out.size)
     exact ⟨hbw, pw_cell_below hbw i2', pw_cell_below hW hbx4⟩)
   by_cases hneg : ix < 0
   ·rw [if_pos hneg] at h
    injection h with h
    injection h with ha hb
    subst ha hb
    have hnb : decide (ix < 0) = true := decide_eq_true hneg
    clear hE hblk hS hw hB hin hx hxi hn2 hnc hrow i0 i2 h2 h2l hm2 i0' i2' hty h1 hn hix hlm hbx4 hgb
    go_enter Tryz.func56, Tryz.ntmps56
    go_wp2_with fail
    obtain ⟨hb1, hcl⟩ := HCl.out _ rfl
    refine (HEl.out _ HBx.out).mono ?_
    rintro u w' ⟨rfl, rfl⟩
    generalize (w.alloc (.cells #[.int .i64 e.f0, .int .i64 e.f1, .int .i64 e.f2, .int .i64 e.f3, .string e.f4, .string e.f5, .int .i64 e.f6.f0, .string e.f6.f1, .slice A8 n8 c8, .string e.f6.f3, .int .i64 e.f6.f4, .slice A11 n11 c11] 45)) = w1 at hb1 hcl
    have HC1 := Lib.hid hcl
    clear hcl hb1 HCl
    have HF1 : Hid (∀ W : World, Below w1.heap.size w1 W → Calls Tryz.prog 81 #[.slice A2 m2 c2, .string e.f4] W fun u w' => u = .returned (.int .i64 ix) ∧ Below w1.heap.size w1 w') := Lib.hid (fun W h => (HFd.out W (HC1.out W h).1).mono fun u w' ⟨h1, h2⟩ => ⟨h1, h.trans (h2.mono h.size)⟩)
    go_upto_region 4 with fail
    go_region_held3 (fun W => W.cell? ⟨gr, i * 6 + 2, none⟩ = some (.slice A2 m2 c2) ∧ W.cell? ⟨w.heap.size, 4, none⟩ = some (.string e.f4)) (exact (HC1.out _ (by (repeat (first | refine below_drew ?_)); first | exact hb2 | exact Below.refl _ _)).2)
     (first | (with_reducible refine (HF1.out _ ?_).mono ?_; ((repeat (first | refine below_drew ?_)); exact Below.refl _ _); rintro u w2 ⟨rfl, hb2⟩))
    all_goals
     have hb2w := (HC1.out w2 hb2).1
     go_wp2_with fail
     go_ret
     exact ⟨rfl, HE.out _ hb2w⟩
   ·rw [if_neg hneg] at h
    split at h
    case isFalse => exact absurd h (by simp)
    case isTrue hlt =>
    obtain ⟨ixn, rfl⟩ : ∃ ixn : Nat, ix = (ixn : Int) := ⟨ix.toNat, by omega⟩
    rw [Int.toNat_natCast] at h
    injection h with h
    injection h with ha hb
    subst ha hb
    have hnb : decide ((ixn : Int) < 0) = false := decide_eq_false hneg
    have hnb' : ((ixn : Int) < 0) = False := eq_false (by omega)
    have hixb : ixn < 1000 := by omega
    obtain ⟨⟨inner0, hown, hrep0⟩, -⟩ := ed_attrs hS (by omega) hxi i2'
    rw [← hm2] at hown
    obtain ⟨g2, hv2, hB2, hg2, cells2, hty2⟩ : ∃ g2, A2 = some ⟨g2, 0, none⟩ ∧ w0.heap.size ≤ g2 ∧ g2 < w.heap.size ∧ ∃ cells, w.heap[g2]? = some (.cells cells 66 (0, 0)) := by
     obtain ⟨_, h2⟩ := hown
     rcases h2 with ⟨_, h2⟩ | ⟨g, cap, cur, hv, hb, hg, _⟩
     ·omega
     ·injection hv with e1 e2 e3
      exact ⟨g, e1, hb, blk_lt hg, cur, hg⟩
    subst hv2
    have hgg2 : gr ≠ g2 := fun he => blk_ne hty hty2 (by decide) he
    have hbg2 : b ≠ g2 := fun he => blk_ne hblk hty2 (by decide) he
    have HDl : Hid (∀ W : World, Below w.heap.size w W → Calls Tryz.prog 83 #[.slice (some ⟨g2, 0, none⟩) m2 c2, .int .i64 ixn, .int .i64 ((ixn + 1 : Nat) : Int)] W fun u w' => u = .returned (.slice (some ⟨g2, 0, none⟩) (m2 - 1) c2) ∧ DropF w0 w' b gr n c i q made (.slice (some ⟨g2, 0, none⟩) m2 c2) (.slice (some ⟨g2, 0, none⟩) (m2 - 1) c2) (l.set i ⟨x.f0, x.f1, x.f2.eraseIdx ixn, x.f3, x.f4, x.f5⟩)) :=
     Lib.hid (fun W hW => by
      obtain ⟨⟨inner, ho, hrep⟩, hK⟩ := ed_attrs (Kd.S_below hS hW) (show i < n by omega) hxi (pw_cell_below hW i2')
      rw [← hm2] at ho
      refine (delAttr.del w0.heap.size g2 m2 c2 ixn inner W ho (by omega) (attrC_one _ _ hrep) (by omega)).mono ?_
      rintro u w' ⟨rfl, ho', hg'⟩
      have hle : (x.f2.eraseIdx ixn).length = m2 - 1 := by rw [List.length_eraseIdx_of_lt (by omega), hm2]
      have hrow' := hK W w' (.slice (some ⟨g2, 0, none⟩) (m2 - 1) c2) (x.f2.eraseIdx ixn) _ (Below.refl _ _) hg' (by rw [hle]; exact ho') (attrC_erase hrep ixn) (.inl rfl) rfl
      have hgrW : w'.heap[gr]? = w.heap[gr]? := (hg'.block gr (Nat.lt_of_lt_of_le hgr hW.size) (fun he => hgg2 (by injection he))).trans (hW.block gr hgr)
      have hbW : w'.heap[b]? = w.heap[b]? := (hg'.block b (Nat.lt_of_lt_of_le (blk_lt hblk) hW.size) (fun he => hbg2 (by injection he))).trans (hW.block b (blk_lt hblk))
      refine ⟨rfl, ⟨?_, hbW.trans hblk, (World.cell?_of_block hgrW).trans i2', blk_frozen (hgrW.trans hty) _, hrow'⟩⟩
      exact (hw.trans (hW.mono hw.size)).grown hg' (Nat.le_trans hw.size hW.size) (fun k hk => by injection hk with hk; rw [← hk]; exact hB2))
    have HFin : Hid (∀ W, DropF w0 W b gr n c i q made (.slice (some ⟨g2, 0, none⟩) m2 c2) (.slice (some ⟨g2, 0, none⟩) (m2 - 1) c2) (l.set i ⟨x.f0, x.f1, x.f2.eraseIdx ixn, x.f3, x.f4, x.f5⟩) → Ed (W.setCell ⟨gr, i * 6 + 2, none⟩ (.slice (some ⟨g2, 0, none⟩) (m2 - 1) c2)) w0.heap.size b (l.set i ⟨x.f0, x.f1, x.f2.eraseIdx ixn, x.f3, x.f4, x.f5⟩) q made ∧ Below w0.heap.size w0 (W.setCell ⟨gr, i * 6 + 2, none⟩ (.slice (some ⟨g2, 0, none⟩) (m2 - 1) c2))) :=
     Lib.hid (fun W hF => ⟨⟨_, hB, blk_far hF.blk (Ne.symm hgb) _, hF.row⟩, hF.below.setCell hbr _⟩)
    clear hE hblk hS hw hB hin hx hxi hn2 hnc hrow i0 i2 h2 h2l hm2 i0' i2' hty h1 hn hix hlm hbx4 hgb hneg hown hrep0 hty2 hB2 hgg2 hbg2
    have hixw : wrap64 ((ixn : Int) + 1) = ((ixn + 1 : Nat) : Int) := by unfold wrap64; omega
    clear hixb hlt
    go_enter Tryz.func56, Tryz.ntmps56
    go_wp2_with fail
    obtain ⟨hb1, hcl⟩ := HCl.out _ rfl
    refine (HEl.out _ HBx.out).mono ?_
    rintro u w' ⟨rfl, rfl⟩
    generalize (w.alloc (.cells #[.int .i64 e.f0, .int .i64 e.f1, .int .i64 e.f2, .int .i64 e.f3, .string e.f4, .string e.f5, .int .i64 e.f6.f0, .string e.f6.f1, .slice A8 n8 c8, .string e.f6.f3, .int .i64 e.f6.f4, .slice A11 n11 c11] 45)) = w1 at hb1 hcl
    have HC1 := Lib.hid hcl
    clear hcl hb1 HCl
    have HF1 : Hid (∀ W : World, Below w1.heap.size w1 W → Calls Tryz.prog 81 #[.slice (some ⟨g2, 0, none⟩) m2 c2, .string e.f4] W fun u w' => u = .returned (.int .i64 (ixn : Int)) ∧ Below w1.heap.size w1 w') := Lib.hid (fun W h => (HFd.out W (HC1.out W h).1).mono fun u w' ⟨h1, h2⟩ => ⟨h1, h.trans (h2.mono h.size)⟩)
    go_upto_region 4 with fail
    go_region_held3 (fun W => W.cell? ⟨gr, i * 6 + 2, none⟩ = some (.slice (some ⟨g2, 0, none⟩) m2 c2) ∧ W.cell? ⟨w.heap.size, 4, none⟩ = some (.string e.f4)) (exact (HC1.out _ (by (repeat (first | refine below_drew ?_)); first | exact hb2 | exact Below.refl _ _)).2)
     (first | (with_reducible refine (HF1.out _ ?_).mono ?_; ((repeat (first | refine below_drew ?_)); exact Below.refl _ _); rintro u w2 ⟨rfl, hb2⟩))
    all_goals
     obtain ⟨hb2w, y2, -⟩ := HC1.out w2 hb2
     go_wp2_with fail
     refine (HDl.out w2 hb2w).mono ?_
     rintro u w3 ⟨rfl, hF⟩
     have f2 := hF.f2
     have c2' := hF.c2
     have HF := Lib.hid hF
     clear hF y2
     go_wp2_with fail
     go_ret
     exact ⟨rfl, HFin.out _ HF.out⟩
  ·rw [if_neg h1] at h
   injection h with h
   injection h with ha hb
   subst ha hb
   have HEl : Hid (∀ W : World, Below w.heap.size w W → Calls Tryz.prog 82 #[.pointer (some ⟨b, 0, none⟩), .int .i64 e.f1] W fun u w' => u = .returned (.tuple #[.pointer none, .int .i64 7]) ∧ W = w') :=
    Lib.hid (fun W h => by rw [← hi]; exact element_kind b gr n c i x.f0 W (HC.out W h) (by omega) (pw_cell_below h i0') h1)
   clear hE hblk hS hw hB hin hx hxi hn2 hnc hrow i0 i2 h2 h2l hm2 i0' i2' hty h1 hn hbx4
   go_enter Tryz.func56, Tryz.ntmps56
   go_wp2_with fail
   refine (HEl.out _ HBx.out).mono ?_
   rintro u w' ⟨rfl, rfl⟩
   go_wp2_with fail
   go_ret
   exact ⟨rfl, HE.out _ HBx.out⟩
 ·rw [if_neg hin] at h
  injection h with h
  injection h with ha hb
  subst ha hb
  have HEl : Hid (∀ W : World, Below w.heap.size w W → Calls Tryz.prog 82 #[.pointer (some ⟨b, 0, none⟩), .int .i64 e.f1] W fun u w' => u = .returned (.tuple #[.pointer none, .int .i64 5]) ∧ W = w') :=
   Lib.hid (fun W h => element_out b n c A e.f1 W (HC.out W h) (by omega))
  clear hE hblk hS hw hB hin hn hbx4
  go_enter Tryz.func56, Tryz.ntmps56
  go_wp2_with fail
  refine (HEl.out _ HBx.out).mono ?_
  rintro u w' ⟨rfl, rfl⟩
  go_wp2_with fail
  go_ret
  exact ⟨rfl, HE.out _ HBx.out⟩

end Go.Proofs.YtmcinclecpeakaaGreatDoor.PRR
