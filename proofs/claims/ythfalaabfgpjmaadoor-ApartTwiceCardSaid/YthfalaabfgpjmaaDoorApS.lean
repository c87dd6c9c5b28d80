/- Package apart: what an edit touches, as the program tells it: sorted, each once. -/
import Derived.Test.YthfalaabfgpjmaaDoorApP
import Derived.Test.YthfalaabfgpjmaaDoorShelfA
import Derived.WalkSpells
import Derived.Lib.Hide
import Derived.Maps.AppendAt
import Derived.Sort.OwnSortedInts
import Derived.Deep.QuietTactic
import Derived.IntWalk
namespace Go.Proofs.YthfalaabfgpjmaaDoor.ApA
open Go.RowKit Go.Proofs.YthfalaabfgpjmaaDoorW.PrintWords Go.Proofs.YthfalaabfgpjmaaDoorW.PrintLast Go.Proofs.YthfalaabfgpjmaaDoorW.PrintMore Go.Proofs.YthfalaabfgpjmaaDoor.PAP Go.Proofs.YthfalaabfgpjmaaDoor.DocP Go.Proofs.YthfalaabfgpjmaaDoor.DocC Go.Sort Go.Shelf
set_option linter.unusedVariables false
set_option linter.unusedSimpArgs false
theorem sort_own (base g cap : Nat) (xs : List Int) (W : World) (hrow : W.ownsRow base 3 1 (.slice (some ⟨g, 0, none⟩) xs.length cap) xs.length (xs.map (Value.int .i64))) (hs : xs.length < 4611686018427387904) :
    Calls Tryd.prog 34 #[.slice (some ⟨g, 0, none⟩) xs.length cap] W fun e w' => e = .returned (.tuple #[]) ∧ w'.ownsRow base 3 1 (.slice (some ⟨g, 0, none⟩) xs.length cap) xs.length ((xs.mergeSort fun x y => decide (x ≤ y)).map (Value.int .i64)) ∧ W.grownBy w' (some g) := by
  rcases hrow.2 with ⟨h0, _⟩ | ⟨g', cap', cur, hv, hbase, hb, h1, h2, h3, h4⟩
  · cases h0
  cases hv
  have h5 : cur.toList.take xs.length = xs.map (Value.int .i64) := by simpa using h4
  have h := AnyM.slices_Sort_int Tryd.mSort g 0 cap xs W (holds_of_blockI hb h5) (Array.getElem?_eq_some_iff.1 hb).1 hs
  refine (show Calls Tryd.prog 34 _ W _ from h).mono ?_
  rintro e w' ⟨rfl, n, os, rfl⟩
  have hl : (xs.mergeSort fun x y => decide (x ≤ y)).length = xs.length := by simp
  exact ⟨rfl, ownsRow_sortedI hl hbase hb h1 h2 h3, grownBy_sortedI _⟩
theorem compact_own (base g cap : Nat) (xs : List Int) (W : World) (hrow : W.ownsRow base 3 1 (.slice (some ⟨g, 0, none⟩) xs.length cap) xs.length (xs.map (Value.int .i64))) (hs : xs.length < 4611686018427387904) :
    Calls Tryd.prog 35 #[.slice (some ⟨g, 0, none⟩) xs.length cap] W fun e w' => e = .returned (.slice (some ⟨g, 0, none⟩) (Lib.compact xs).length cap) ∧ w'.ownsRow base 3 1 (.slice (some ⟨g, 0, none⟩) (Lib.compact xs).length cap) (Lib.compact xs).length ((Lib.compact xs).map (Value.int .i64)) ∧ W.grownBy w' (some g) := by
  rcases hrow.2 with ⟨h0, _⟩ | ⟨g', cap', cur, hv, hbase, hb, h1, h2, h3, h4⟩
  · cases h0
  cases hv
  have h5 : cur.toList.take xs.length = xs.map (Value.int .i64) := by simpa using h4
  have h := AnyE.slices_Compact Tryd.mCompact (Value.int .i64) (fun _ => rfl) (EqlAt.intD _ _ _) (NeqAt.intD _ _ _) 0 Tryd.zeroValue3 g 0 cap xs.toArray W (holds_of_blockI hb h5) (by simpa using (by omega : xs.length ≤ 9223372036854775807)) (by simpa using h1)
  have hcl : (Lib.compact xs).length ≤ xs.length := by
    simp only [Lib.compact, Lib.compactUpTo, List.length_map]
    exact Nat.le_trans (List.length_filter_le _ _) (by simp)
  have h' : Calls Tryd.prog 35 #[.slice (some ⟨g, 0, none⟩) xs.length cap] W fun e w' => e = .returned (.slice (some ⟨g, 0, none⟩) (Lib.compact xs).length cap) ∧ ∃ q, w' = putRow (Value.int .i64) (Sort.ahead W q) g 0 (Lib.compact xs ++ List.replicate (xs.length - (Lib.compact xs).length) 0).toArray := by
    simp only [List.size_toArray] at h
    exact h
  refine h'.mono ?_
  rintro e w' ⟨rfl, q, rfl⟩
  have hl : (Lib.compact xs ++ List.replicate (xs.length - (Lib.compact xs).length) (0 : Int)).length = xs.length := by simp; omega
  have hg0 : ∀ w : World, grow w #[] = w := fun w => by simp [grow]
  have o := ownsRow_sortedI (n := q) (os := #[]) hl hbase hb h1 h2 h3
  have gb := grownBy_sortedI (w := W) (g := g) (n := q) (os := #[]) (Lib.compact xs ++ List.replicate (xs.length - (Lib.compact xs).length) (0 : Int)).toArray
  rw [hg0] at o gb
  refine ⟨rfl, ?_, gb⟩
  rcases o.2 with ⟨h0, _⟩ | ⟨g2, cap2, cur2, hv2, hbase2, hb2, h12, h22, h32, h42⟩
  · cases h0
  cases hv2
  refine ⟨by simp, .inr ⟨g, cap, cur2, rfl, hbase2, hb2, by omega, h22, h32, ?_⟩⟩
  have := congrArg (List.take (Lib.compact xs).length) h42
  rw [List.take_take] at this
  simp only [Nat.mul_one] at this ⊢
  rw [show min (Lib.compact xs).length xs.length = (Lib.compact xs).length by omega] at this
  rw [this, ← List.map_take, List.take_left]
theorem sortR {base : Nat} {xs : List Int} {v : Value} {W : World} (h : Kd.R (Kd.int .i64) 3 W base (fun _ => True) v xs) (h0 : 0 < xs.length) (hs : xs.length < 4611686018427387904) :
    Calls Tryd.prog 34 #[v] W fun e w' => e = .returned (.tuple #[]) ∧ Kd.R (Kd.int .i64) 3 w' base (fun _ => True) v (xs.mergeSort fun x y => decide (x ≤ y)) ∧ ∀ w, base ≤ W.heap.size → Below base w W → Below base w w' := by
  have ho := Kd.own_of_R h
  rcases ho.2 with ⟨_, h1⟩ | ⟨g, cap, cur, rfl, hbase, hb, _, _, _, _⟩
  · rw [h1] at h0; exact absurd h0 (by simp)
  · refine (sort_own base g cap xs W ho hs).mono ?_
    rintro e w' ⟨rfl, h2, h3⟩
    refine ⟨rfl, Kd.R_of_own (by rw [List.length_mergeSort]; exact h2) (fun _ _ => trivial), fun w hsz hw => hw.grown (row := some g) h3 hsz (fun k hk => by cases hk; exact hbase)⟩
theorem compactR {base : Nat} {xs : List Int} {v : Value} {W : World} (h : Kd.R (Kd.int .i64) 3 W base (fun _ => True) v xs) (h0 : 0 < xs.length) (hs : xs.length < 4611686018427387904) :
    Calls Tryd.prog 35 #[v] W fun e w' => ∃ v', e = .returned v' ∧ Kd.R (Kd.int .i64) 3 w' base (fun _ => True) v' (Lib.compact xs) ∧ ∀ w, base ≤ W.heap.size → Below base w W → Below base w w' := by
  have ho := Kd.own_of_R h
  rcases ho.2 with ⟨_, h1⟩ | ⟨g, cap, cur, rfl, hbase, hb, _, _, _, _⟩
  · rw [h1] at h0; exact absurd h0 (by simp)
  · refine (compact_own base g cap xs W ho hs).mono ?_
    rintro e w' ⟨rfl, h2, h3⟩
    exact ⟨_, rfl, Kd.R_of_own h2 (fun _ _ => trivial), fun w hsz hw => hw.grown (row := some g) h3 hsz (fun k hk => by cases hk; exact hbase)⟩
theorem int_info : (Tryd.prog.info? 3).map (fun i => (i.zero, i.size, i.bytes)) = some (some (.int .i64 0), 1, 8) := by kernel_rfl
end Go.Proofs.YthfalaabfgpjmaaDoor.ApA
