/- slices.Delete of one item out of a row of one's own. -/
import Derived.Test.YtdheifnebkkjhaaWWords
import Derived.Test.YtdheifnebkkjhaaProg
import Derived.WalkKit
import Derived.WalkSpells
import Derived.Lib.Hide
import Derived.Lib.SliceRun
import Derived.Deep.RegionLaw
import Derived.Shelf.RegionOpenPlain
namespace Go.Proofs.Ytdheifnebkkjhaa.Act
open Go.RowKit Go.Proofs.YtdheifnebkkjhaaW.PrintWords
set_option linter.unusedVariables false
set_option linter.unusedSimpArgs false

/-- 'clear' of one element. -/
theorem run_clear_one {P : Program} (w : World) (t e ty : TypeId) (z : Value) (ht : P.underlying t = some (.slice e)) (hv : ∀ w, (zeroValue e).run P w = .ok z w) (h1 : ∀ u ∈ z.cells.toList, u.oneCell' = true) (b o c : Nat)
    (hc : ∀ j, j < z.cells.toList.length → (w.cell? ⟨b, o + j, none⟩).isSome = true) (hf : ∀ j, j < z.cells.toList.length → w.frozen? ⟨b, o + j, none⟩ = false) :
    (Builtin.clear_ #[t] ty #[.slice (some ⟨b, o, none⟩) 1 c]).run P w = .ok (.tuple #[]) (w.setCells b o z.cells.toList) := by
  have hzc : (Builtin.zeroCells z.cells 1).toList = z.cells.toList := by
    simp only [Builtin.zeroCells]
    apply List.ext_getElem
    · simp
    · intro i h1 h2
      have hi : i < z.cells.size := by simpa using h2
      simp [Nat.mod_eq_of_lt hi, hi]
  have hst := run_storeCells_cells (P := P) b o z.cells.toList 0 w (by simpa using hc) (by simpa using hf) h1
  simp only [Nat.add_zero] at hst
  simp [Builtin.clear_, run_underlying ht, hv, hzc, hst]
/-- A row of one's own, one element taken out of it. -/
theorem own_out {B g n c i sz : Nat} {e : TypeId} {w w0 : World} {inner zs : List Value} {cur : Array Value} (hg : w.heap[g]? = some (.cells cur e (0, 0))) (hB : B ≤ g) (hnc : n ≤ c) (hcm : c ≤ maxLen) (hcs : cur.size = c * sz) (hct : cur.toList.take (n * sz) = inner) (hi : i < n) (hz : zs.length = sz) :
    ((w.setCells g (i * sz) (inner.drop ((i + 1) * sz))).setCells g ((n - 1) * sz) zs).ownsRow B e sz (.slice (some ⟨g, 0, none⟩) (n - 1) c) (n - 1) (inner.take (i * sz) ++ inner.drop ((i + 1) * sz)) ∧ w.grownBy ((w.setCells g (i * sz) (inner.drop ((i + 1) * sz))).setCells g ((n - 1) * sz) zs) (some g) := by
  have hmul : n * sz ≤ c * sz := Nat.mul_le_mul_right _ hnc
  have hil : inner.length = n * sz := by rw [← hct, List.length_take, Array.length_toList, hcs]; omega
  have e1 : (i + 1) * sz = i * sz + sz := Nat.succ_mul i sz
  have hin : (i + 1) * sz ≤ n * sz := Nat.mul_le_mul_right _ hi
  have hn1 : (n - 1) * sz + sz = n * sz := by rw [← Nat.succ_mul]; congr 1; omega
  have hdl : (inner.drop ((i + 1) * sz)).length = n * sz - (i + 1) * sz := by rw [List.length_drop, hil]
  obtain ⟨cur1, h1, h2, h3⟩ := setCells_row (inner.drop ((i + 1) * sz)) (i * sz) w cur hg (by rw [hdl, hcs]; omega)
  obtain ⟨cur2, h4, h5, h6⟩ := setCells_row zs ((n - 1) * sz) _ cur1 h1 (by rw [h2, hz, hcs]; omega)
  have hlen : (inner.take (i * sz) ++ inner.drop ((i + 1) * sz)).length = (n - 1) * sz := by rw [List.length_append, List.length_take, hdl, hil]; omega
  refine ⟨⟨hlen, .inr ⟨g, c, cur2, rfl, hB, h4, by omega, hcm, by rw [h5, h2, hcs], ?_⟩⟩, ?_⟩
  · have ht : (cur.toList.take (i * sz)) = inner.take (i * sz) := by rw [← hct, List.take_take]; congr 1; omega
    rw [h6, List.append_assoc, List.take_append_of_le_length (by rw [List.length_take, Array.length_toList, h2, hcs]; omega), List.take_take, Nat.min_self, h3, ht]
    rw [List.take_append_of_le_length (by rw [hlen]; exact Nat.le_refl _), List.take_of_length_le (by rw [hlen]; exact Nat.le_refl _)]
  · have a1 := setCells_same g (inner.drop ((i + 1) * sz)) (i * sz) w
    have a2 := setCells_same g zs ((n - 1) * sz) (w.setCells g (i * sz) (inner.drop ((i + 1) * sz)))
    exact ⟨a2.1.trans a1.1, a2.2.1.trans a1.2.1, a2.2.2.1.trans a1.2.2.1, by rw [a2.2.2.2, a1.2.2.2]; exact Nat.le_refl _, fun k _ hk => (setCells_far zs _ k (fun he => hk (by rw [he]))).trans (setCells_far _ _ k (fun he => hk (by rw [he])))⟩
theorem delIt.info : (Try.prog.info? 26).map (fun i => (i.zero, i.size, i.bytes)) = some (some (.agg #[.int .i64 0, .string ⟨#[]⟩, .slice none 0 0]), 3, 48) := by kernel_rfl
set_option maxRecDepth 1000000 in
set_option maxHeartbeats 4000000 in
/-- One element taken out of a row of one's own. -/
theorem delIt.del (B g n c i : Nat) (inner : List Value) (w : World) (ho : w.ownsRow B 26 3 (.slice (some ⟨g, 0, none⟩) n c) n inner) (hi : i < n) (hone : ∀ u ∈ inner, u.oneCell' = true) (hn : n ≤ 1000000) :
    Calls Try.prog 23 #[.slice (some ⟨g, 0, none⟩) n c, .int .i64 i, .int .i64 ((i + 1 : Nat) : Int)] w fun e w' => e = .returned (.slice (some ⟨g, 0, none⟩) (n - 1) c) ∧ w'.ownsRow B 26 3 (.slice (some ⟨g, 0, none⟩) (n - 1) c) (n - 1) (inner.take (i * 3) ++ inner.drop ((i + 1) * 3)) ∧ w.grownBy w' (some g) := by
  obtain ⟨i0, hi0, hz0, hz1, hz2⟩ := info_parts delIt.info
  obtain ⟨hil, ho⟩ := ho
  obtain ⟨g', c', cur, hv, hB, hg, hnc, hcm, hcs, hct⟩ := ho.resolve_left (fun h => by have := h.2; omega)
  injection hv with hv1 hv2 hv3
  injection hv1 with hv1
  injection hv1 with hv1
  subst hv1 hv3
  clear hv2 ho
  have hcl9 : c ≤ 9223372036854775807 := by unfold maxLen at hcm; omega
  have hcell : ∀ t u, inner[t]? = some u → w.cell? ⟨g, t, none⟩ = some u := fun t u hu => by
    rw [blk_cell hg t, ← Array.getElem?_toList]
    rw [← hct, List.getElem?_take] at hu
    split at hu
    · exact hu
    · cases hu
  obtain ⟨j, hj⟩ : ∃ j, j = i + 1 := ⟨_, rfl⟩
  rw [← hj]
  obtain ⟨news, hnews⟩ : ∃ news, news = inner.drop (j * 3) := ⟨_, rfl⟩
  have hlen : news.length = (n - j) * 3 := by rw [hnews, List.length_drop, hil]; omega
  obtain ⟨A, hA, hsrc⟩ : ∃ A : Addr, (if c = j then some (⟨g, 0, none⟩ : Addr) else some ⟨g, j * 3, none⟩) = some A ∧ Hid (∀ t u, news[t]? = some u → w.drew.cell? (A.add t) = some u) := by
    by_cases h : c = j
    · refine ⟨⟨g, 0, none⟩, by simp [h], fun t u hu => ?_⟩
      have h0 : news.length = 0 := by rw [hlen]; omega
      rw [List.length_eq_zero_iff.1 h0] at hu
      simp at hu
    · refine ⟨⟨g, j * 3, none⟩, by simp [h], fun t u hu => ?_⟩
      rw [hnews, List.getElem?_drop] at hu
      rw [add_at]
      exact hcell _ u (by simpa using hu)
  have s1 : Hid (news.length = (n - j) * 3) := Lib.hid hlen
  have s2 : Hid (∀ u ∈ news, u.oneCell' = true) := Lib.hid (fun u hu => hone u (by rw [hnews] at hu; exact List.mem_of_mem_drop hu))
  have s3 : Hid (∀ t, t < news.length → (w.drew.cell? ⟨g, 0 + i * 3 + t, none⟩).isSome = true ∧ w.drew.frozen? ⟨g, 0 + i * 3 + t, none⟩ = false) := Lib.hid (fun t ht => by
    rw [hlen] at ht
    have hsome : (w.cell? ⟨g, 0 + i * 3 + t, none⟩).isSome = true := by
      rw [blk_cell hg, Array.getElem?_eq_getElem (by rw [hcs]; omega)]
      rfl
    exact ⟨hsome, blk_frozen hg _⟩)
  obtain ⟨W1, hW1⟩ : ∃ W1, W1 = w.drew.setCells g (0 + i * 3) news := ⟨_, rfl⟩
  obtain ⟨cur1, hc1, hc2, hc3⟩ := setCells_row (e := 26) news (0 + i * 3) w.drew cur hg (by rw [hlen, hcs]; omega)
  rw [← hW1] at hc1
  have hcl : ∀ ty, (Builtin.clear_ #[23] ty #[.slice (some ⟨g, (n - 1) * 3, none⟩) 1 (c - (n - 1))]).run Try.prog W1 = .ok (.tuple #[]) (W1.setCells g ((n - 1) * 3) ((.agg #[.int .i64 0, .string ⟨#[]⟩, .slice none 0 0]) : Value).cells.toList) := fun ty =>
    run_clear_one W1 _ 26 ty (.agg #[.int .i64 0, .string ⟨#[]⟩, .slice none 0 0]) Try.underlying23 (fun w => by kernel_rfl) (by decide) g ((n - 1) * 3) _ (fun j hj => by
      have hj' : j < 3 := hj
      rw [blk_cell hc1, Array.getElem?_eq_getElem (by rw [hc2, hcs]; omega)]
      rfl) (fun j hj => blk_frozen hc1 _)
  have mixed : Try.prog.follows .mixedOrders = true := by kernel_rfl
  have hjn : (j : Int) ≤ n := by omega
  have hcl2 : ∀ ty, (Builtin.clear_ #[23] ty #[.slice (some ⟨g, (n - 1) * 3, none⟩) 1 (c - (n - 1))]).run Try.prog W1 = .ok (.tuple #[]) (W1.setCells g ((n - 1) * 3) ((.agg #[.int .i64 0, .string ⟨#[]⟩, .slice none 0 0]) : Value).cells.toList) := fun ty => by
    have h := hcl ty
    rw [show (⟨g, (n - 1) * 3, none⟩ : Addr) = ⟨g, (n - 1) * 3, none⟩ from by simp]
    exact h
  clear hcl
  have hfin := own_out (w := w.drew) (w0 := w) (zs := ((.agg #[.int .i64 0, .string ⟨#[]⟩, .slice none 0 0]) : Value).cells.toList) (i := i) hg hB hnc hcm hcs hct hi rfl
  rw [← hj, ← hnews, show i * 3 = 0 + i * 3 from by omega, ← hW1, show 0 + i * 3 = i * 3 from by omega] at hfin
  have HF : Hid ((W1.setCells g ((n - 1) * 3) ((.agg #[.int .i64 0, .string ⟨#[]⟩, .slice none 0 0]) : Value).cells.toList).ownsRow B 26 3 (.slice (some ⟨g, 0, none⟩) (n - 1) c) (n - 1) (inner.take (i * 3) ++ inner.drop (j * 3)) ∧ w.grownBy (W1.setCells g ((n - 1) * 3) ((.agg #[.int .i64 0, .string ⟨#[]⟩, .slice none 0 0]) : Value).cells.toList) (some g)) := Lib.hid ⟨by have := hfin.1; rw [hnews] at this; exact this, ⟨hfin.2.os, hfin.2.tape, hfin.2.output, hfin.2.size, hfin.2.block⟩⟩
  have hW : Hid (W1 = w.drew.setCells g (0 + i * 3) news) := Lib.hid hW1
  have hic : i ≤ c := by omega
  have hjc : j ≤ c := by omega
  have hneq : ((i : Int) == (j : Int)) = false := by simp; omega
  have hne2 : ¬ (c = n - 1) := by omega
  have hsub : n - (n - 1) = 1 := by omega
  have hsum : i + (n - j) = n - 1 := by omega
  clear hW1 hc1 hc2 hc3 hfin hcell hnews hlen hg hct hcs hil hone
  have HJ := Lib.hid hj
  clear hj
  go_enter Try.func23, Try.ntmps23
  go_wp2_with fail
  go_region_law_o (refine step_append_room rfl (.tmp 22) (.tmp 25) 23 rfl 26 i0 3 Try.underlying23 hi0 hz1 g 0 i c (by simp [Act.eval, Act.put]) A (n - j) (c - j) news (by simp [Act.eval, Act.put]) s1.out hsrc.out s2.out (by omega) s3.out ?_; rw [← hW.out])
  go_wp2_with fail
  go_ret
  first
    | exact ⟨rfl, HF.out⟩
    | (refine ⟨rfl, ?_⟩; have h := HF.out; simp only [Nat.mul_one] at h ⊢; exact h)
end Go.Proofs.Ytdheifnebkkjhaa.Act
