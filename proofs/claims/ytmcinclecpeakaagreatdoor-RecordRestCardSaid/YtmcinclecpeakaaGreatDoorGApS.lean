import Derived.Test.YtmcinclecpeakaaGreatDoorApP
import Derived.Test.YtmcinclecpeakaaGreatDoorShelfA
import Derived.WalkSpells
import Derived.Lib.Hide
import Derived.Maps.AppendAt
import Derived.Sort.OwnSortedInts
import Derived.Deep.QuietTactic
import Derived.IntWalk
/- Package apart: what an edit touches, as the program tells it: sorted, each once. -/
namespace Go.Proofs.YtmcinclecpeakaaGreatDoor.ApA
open Go.RowKit Go.Proofs.YtmcinclecpeakaaGreatDoorW.PrintWords Go.Proofs.YtmcinclecpeakaaGreatDoorW.PrintLast Go.Proofs.YtmcinclecpeakaaGreatDoorW.PrintMore Go.Proofs.YtmcinclecpeakaaGreatDoor.PRR Go.Proofs.YtmcinclecpeakaaGreatDoor.DocP Go.Proofs.YtmcinclecpeakaaGreatDoor.DocC Go.Sort Go.Shelf
set_option linter.unusedVariables false
set_option linter.unusedSimpArgs false
theorem sort_own (base g cap : Nat) (xs : List Int) (W : World) (hrow : W.ownsRow base 3 1 (.slice (some ⟨g, 0, none⟩) xs.length cap) xs.length (xs.map (Value.int .i64))) (hs : xs.length < 4611686018427387904) :
    Calls Tryz.prog 24 #[.slice (some ⟨g, 0, none⟩) xs.length cap] W fun e w' => e = .returned (.tuple #[]) ∧ w'.ownsRow base 3 1 (.slice (some ⟨g, 0, none⟩) xs.length cap) xs.length ((xs.mergeSort fun x y => decide (x ≤ y)).map (Value.int .i64)) ∧ W.grownBy w' (some g) := by
  rcases hrow.2 with ⟨h0, _⟩ | ⟨g', cap', cur, hv, hbase, hb, h1, h2, h3, h4⟩
  · cases h0
  cases hv
  have h5 : cur.toList.take xs.length = xs.map (Value.int .i64) := by simpa using h4
  have h := AnyM.slices_Sort_int Tryz.mSort g 0 cap xs W (holds_of_blockI hb h5) (Array.getElem?_eq_some_iff.1 hb).1 hs
  refine (show Calls Tryz.prog 24 _ W _ from h).mono ?_
  rintro e w' ⟨rfl, n, os, rfl⟩
  have hl : (xs.mergeSort fun x y => decide (x ≤ y)).length = xs.length := by simp
  exact ⟨rfl, ownsRow_sortedI hl hbase hb h1 h2 h3, grownBy_sortedI _⟩
theorem compact_own (base g cap : Nat) (xs : List Int) (W : World) (hrow : W.ownsRow base 3 1 (.slice (some ⟨g, 0, none⟩) xs.length cap) xs.length (xs.map (Value.int .i64))) (hs : xs.length < 4611686018427387904) :
    Calls Tryz.prog 25 #[.slice (some ⟨g, 0, none⟩) xs.length cap] W fun e w' => e = .returned (.slice (some ⟨g, 0, none⟩) (Lib.compact xs).length cap) ∧ w'.ownsRow base 3 1 (.slice (some ⟨g, 0, none⟩) (Lib.compact xs).length cap) (Lib.compact xs).length ((Lib.compact xs).map (Value.int .i64)) ∧ W.grownBy w' (some g) := by
  rcases hrow.2 with ⟨h0, _⟩ | ⟨g', cap', cur, hv, hbase, hb, h1, h2, h3, h4⟩
  · cases h0
  cases hv
  have h5 : cur.toList.take xs.length = xs.map (Value.int .i64) := by simpa using h4
  have h := AnyE.slices_Compact Tryz.mCompact (Value.int .i64) (fun _ => rfl) (EqlAt.intD _ _ _) (NeqAt.intD _ _ _) 0 Tryz.zeroValue3 g 0 cap xs.toArray W (holds_of_blockI hb h5) (by simpa using (by omega : xs.length ≤ 9223372036854775807)) (by simpa using h1)
  have hcl : (Lib.compact xs).length ≤ xs.length := by
    simp only [Lib.compact, Lib.compactUpTo, List.length_map]
    exact Nat.le_trans (List.length_filter_le _ _) (by simp)
  have h' : Calls Tryz.prog 25 #[.slice (some ⟨g, 0, none⟩) xs.length cap] W fun e w' => e = .returned (.slice (some ⟨g, 0, none⟩) (Lib.compact xs).length cap) ∧ ∃ q, w' = putRow (Value.int .i64) (Sort.ahead W q) g 0 (Lib.compact xs ++ List.replicate (xs.length - (Lib.compact xs).length) 0).toArray := by
    simp only [List.size_toArray] at h
    exact h
  refine h'.mono ?_
  rintro e w' ⟨rfl, q, rfl⟩
  have hl : (Lib.compact xs ++ List.replicate (xs.length - (Lib.compact xs).length) (0 : Int)).length = xs.length := by simp; omega
  have hg0 : ∀ w : World, grow w #[] = w := fun w => by simp [grow]
  have o := ownsRow_sortedI (n := q) (os := #[]) hl hbase hb h1 h2 h3
  have gb := grownBy_sortedI (w := W) (g := g) (n := q) (os := #[]) (Lib.compact xs ++ List.replicate (xs.length - (Lib.compact xs).length) (0 : Int)).toArray
  rw [hg0] at o gb
  refine ⟨rfl, ?_, gb⟩
  rcases o.2 with ⟨h0, _⟩ | ⟨g2, cap2, cur2, hv2, hbase2, hb2, h12, h22, h32, h42⟩
  · cases h0
  cases hv2
  refine ⟨by simp, .inr ⟨g, cap, cur2, rfl, hbase2, hb2, by omega, h22, h32, ?_⟩⟩
  have := congrArg (List.take (Lib.compact xs).length) h42
  rw [List.take_take] at this
  simp only [Nat.mul_one] at this ⊢
  rw [show min (Lib.compact xs).length xs.length = (Lib.compact xs).length by omega] at this
  rw [this, ← List.map_take, List.take_left]
theorem sortR {base : Nat} {xs : List Int} {v : Value} {W : World} (h : Kd.R (Kd.int .i64) 3 W base (fun _ => True) v xs) (h0 : 0 < xs.length) (hs : xs.length < 4611686018427387904) :
    Calls Tryz.prog 24 #[v] W fun e w' => e = .returned (.tuple #[]) ∧ Kd.R (Kd.int .i64) 3 w' base (fun _ => True) v (xs.mergeSort fun x y => decide (x ≤ y)) ∧ ∀ w, base ≤ W.heap.size → Below base w W → Below base w w' := by
  have ho := Kd.own_of_R h
  rcases ho.2 with ⟨_, h1⟩ | ⟨g, cap, cur, rfl, hbase, hb, _, _, _, _⟩
  · rw [h1] at h0; exact absurd h0 (by simp)
  · refine (sort_own base g cap xs W ho hs).mono ?_
    rintro e w' ⟨rfl, h2, h3⟩
    refine ⟨rfl, Kd.R_of_own (by rw [List.length_mergeSort]; exact h2) (fun _ _ => trivial), fun w hsz hw => hw.grown (row := some g) h3 hsz (fun k hk => by cases hk; exact hbase)⟩
theorem compactR {base : Nat} {xs : List Int} {v : Value} {W : World} (h : Kd.R (Kd.int .i64) 3 W base (fun _ => True) v xs) (h0 : 0 < xs.length) (hs : xs.length < 4611686018427387904) :
    Calls Tryz.prog 25 #[v] W fun e w' => ∃ v', e = .returned v' ∧ Kd.R (Kd.int .i64) 3 w' base (fun _ => True) v' (Lib.compact xs) ∧ ∀ w, base ≤ W.heap.size → Below base w W → Below base w w' := by
  have ho := Kd.own_of_R h
  rcases ho.2 with ⟨_, h1⟩ | ⟨g, cap, cur, rfl, hbase, hb, _, _, _, _⟩
  · rw [h1] at h0; exact absurd h0 (by simp)
  · refine (compact_own base g cap xs W ho hs).mono ?_
    rintro e w' ⟨rfl, h2, h3⟩
    exact ⟨_, rfl, Kd.R_of_own h2 (fun _ _ => trivial), fun w hsz hw => hw.grown (row := some g) h3 hsz (fun k hk => by cases hk; exact hbase)⟩
theorem int_info : (Tryz.prog.info? 3).map (fun i => (i.zero, i.size, i.bytes)) = some (some (.int .i64 0), 1, 8) := by kernel_rfl
end Go.Proofs.YtmcinclecpeakaaGreatDoor.ApA
/- slices.Clone of rows that may be long (so long as a row of that size may be). -/
namespace Go.Proofs.YtmcinclecpeakaaGreatDoor.ApA
open Go.RowKit Go.Proofs.YtmcinclecpeakaaGreatDoorW.PrintWords Go.Proofs.YtmcinclecpeakaaGreatDoorW.PrintLast Go.Proofs.YtmcinclecpeakaaGreatDoorW.PrintMore Go.Proofs.YtmcinclecpeakaaGreatDoor.PRR Go.Proofs.YtmcinclecpeakaaGreatDoor.DocP Go.Proofs.YtmcinclecpeakaaGreatDoor.DocC
set_option linter.unusedVariables false
set_option linter.unusedSimpArgs false
set_option maxRecDepth 100000 in
set_option maxHeartbeats 2000000 in
/-- Clone: a row of one's own with the same cells. -/
theorem cloneI.row (A : Option Addr) (c : Nat) (xs : List (Int)) (w : World) (hr : Kd.C (Kd.int .i64) w A xs.length xs) (hn : xs.length ≤ 17592186044416) :
    Calls Tryz.prog 30 #[.slice A xs.length c] w fun e w' => ∃ v inner, e = .returned v ∧ w'.ownsRow w.heap.size 3 1 v xs.length inner ∧ Reps (Kd.K (Kd.int .i64) w) 1 xs inner ∧ Below w.heap.size w w' := by
  obtain ⟨i0, hi, hz0, hz1, hz2⟩ := info_parts slices_Clone_int_int.info
  obtain ⟨n, hnn⟩ : ∃ n, n = xs.length := ⟨_, rfl⟩
  have heq := fun W : World => Lib.run_eql_slice_nil (P := Tryz.prog) W 38 3 A n c 0 0 Tryz.underlying38
  cases A with
  | none =>
    have h0 : xs = [] := by
      rcases Nat.eq_zero_or_pos xs.length with h | h
      · exact List.eq_nil_of_length_eq_zero h
      · obtain ⟨ad, h, _⟩ := hr.2.2 h; cases h
    subst h0
    clear hr
    rw [← hnn]
    have HN := Lib.hid hnn
    clear hnn
    go_enter Tryz.func30, Tryz.ntmps30
    go_wp2_with fail
    go_ret
    exact ⟨_, [], rfl, by rw [HN.out]; exact own_nil _ _ _ _, Reps.none _ _, Below.refl _ _⟩
  | some ad =>
    obtain ⟨inner, hil, hrep, hone, hcell⟩ := C_inner hr
    have hsz : inner.length = n * 1 := by rw [hil, hnn]; rfl
    have HR := Lib.hid hrep
    have HN := Lib.hid hnn
    rw [← hnn] at hn ⊢
    have HC : Hid (∀ j u, inner[j]? = some u → (w.alloc (.cells #[] 3)).cell? (ad.add j) = some u) := Lib.hid (fun j u hu => pw_cell_below ((Below.refl _ w).alloc (Nat.le_refl _) _) (hcell j u hu))
    clear hr hrep hcell hil hnn
    go_enter Tryz.func30, Tryz.ntmps30
    have hown : (w.alloc (.cells #[] 3)).ownsRow w.heap.size 3 1 (.slice (some ⟨w.heap.size, 0, none⟩) 0 0) 0 [] := World.ownsRow_lit w #[] 0 (Nat.le_refl _) (by decide) (by simp)
    go_wp2_with ((at_builtin; refine wpList_append_own_at _ rfl _ _ 38 rfl w.heap.size 3 i0 (.int .i64 0) 1 8 Tryz.underlying38 hi hz0 hz1 hz2 rfl (by decide) _ 0 [] rfl hown ad n c inner rfl hsz HC.out hone (by unfold maxLen; omega) (by omega) (by simp) ?c1))
    case c1 =>
      intro v1 w1 hown1 hg _ _
      have HO : Hid (w1.ownsRow w.heap.size 3 1 v1 n inner) := Lib.hid (by simpa using hown1)
      have HB : Hid (Below w.heap.size w w1) := Lib.hid (((Below.refl _ w).alloc (Nat.le_refl _) _).grown hg (by simp) (own_base hown))
      clear hown1 hg hown
      go_wp2_with fail
      go_ret
      exact ⟨_, _, rfl, HO.out, HR.out, HB.out⟩

theorem cloneI.calls (A0 : Option Addr) (c0 : Nat) (l0 : List (Int)) (w : World) (hr0 : Kd.C (Kd.int .i64) w A0 l0.length l0) (hn : l0.length ≤ 17592186044416) :
    Calls Tryz.prog 30 #[.slice A0 l0.length c0] w fun e w' => ∃ v0_ : Value, e = .returned v0_ ∧ Kd.R (Kd.int .i64) 3 w' w.heap.size (fun _ => True) v0_ l0 ∧ Below w.heap.size w w' :=
  (cloneI.row A0 c0 l0 w hr0 hn).mono fun e w' ⟨v, inner, he, ho, hr, hb⟩ => ⟨v, he, ⟨fun _ _ => trivial, inner, ho, hr.imp_ (fun _ _ hp => hp)⟩, hb⟩
set_option maxRecDepth 100000 in
set_option maxHeartbeats 2000000 in
/-- Clone: a row of one's own with the same cells. -/
theorem cloneA.row (A : Option Addr) (c : Nat) (xs : List (S66)) (w : World) (hr : Kd.C k66 w A xs.length xs) (hn : xs.length ≤ 4398046511104) :
    Calls Tryz.prog 29 #[.slice A xs.length c] w fun e w' => ∃ v inner, e = .returned v ∧ w'.ownsRow w.heap.size 66 2 v xs.length inner ∧ Reps (Kd.K k66 w) 2 xs inner ∧ Below w.heap.size w w' := by
  obtain ⟨i0, hi, hz0, hz1, hz2⟩ := info_parts api_Attr_29.info
  obtain ⟨n, hnn⟩ : ∃ n, n = xs.length := ⟨_, rfl⟩
  have heq := fun W : World => Lib.run_eql_slice_nil (P := Tryz.prog) W 41 66 A n c 0 0 Tryz.underlying41
  cases A with
  | none =>
    have h0 : xs = [] := by
      rcases Nat.eq_zero_or_pos xs.length with h | h
      · exact List.eq_nil_of_length_eq_zero h
      · obtain ⟨ad, h, _⟩ := hr.2.2 h; cases h
    subst h0
    clear hr
    rw [← hnn]
    have HN := Lib.hid hnn
    clear hnn
    go_enter Tryz.func29, Tryz.ntmps29
    go_wp2_with fail
    go_ret
    exact ⟨_, [], rfl, by rw [HN.out]; exact own_nil _ _ _ _, Reps.none _ _, Below.refl _ _⟩
  | some ad =>
    obtain ⟨inner, hil, hrep, hone, hcell⟩ := C_inner hr
    have hsz : inner.length = n * 2 := by rw [hil, hnn]; rfl
    have HR := Lib.hid hrep
    have HN := Lib.hid hnn
    rw [← hnn] at hn ⊢
    have HC : Hid (∀ j u, inner[j]? = some u → (w.alloc (.cells #[] 66)).cell? (ad.add j) = some u) := Lib.hid (fun j u hu => pw_cell_below ((Below.refl _ w).alloc (Nat.le_refl _) _) (hcell j u hu))
    clear hr hrep hcell hil hnn
    go_enter Tryz.func29, Tryz.ntmps29
    have hown : (w.alloc (.cells #[] 66)).ownsRow w.heap.size 66 2 (.slice (some ⟨w.heap.size, 0, none⟩) 0 0) 0 [] := World.ownsRow_lit w #[] 0 (Nat.le_refl _) (by decide) (by simp)
    go_wp2_with ((at_builtin; refine wpList_append_own_at _ rfl _ _ 41 rfl w.heap.size 66 i0 (.agg #[.string ⟨#[]⟩, .string ⟨#[]⟩]) 2 32 Tryz.underlying41 hi hz0 hz1 hz2 rfl (by decide) _ 0 [] rfl hown ad n c inner rfl hsz HC.out hone (by unfold maxLen; omega) (by omega) (by simp) ?c1))
    case c1 =>
      intro v1 w1 hown1 hg _ _
      have HO : Hid (w1.ownsRow w.heap.size 66 2 v1 n inner) := Lib.hid (by simpa using hown1)
      have HB : Hid (Below w.heap.size w w1) := Lib.hid (((Below.refl _ w).alloc (Nat.le_refl _) _).grown hg (by simp) (own_base hown))
      clear hown1 hg hown
      go_wp2_with fail
      go_ret
      exact ⟨_, _, rfl, HO.out, HR.out, HB.out⟩

theorem cloneA.calls (A0 : Option Addr) (c0 : Nat) (l0 : List (S66)) (w : World) (hr0 : Kd.C k66 w A0 l0.length l0) (hn : l0.length ≤ 4398046511104) :
    Calls Tryz.prog 29 #[.slice A0 l0.length c0] w fun e w' => ∃ v0_ : Value, e = .returned v0_ ∧ Kd.R k66 66 w' w.heap.size (fun _ => True) v0_ l0 ∧ Below w.heap.size w w' :=
  (cloneA.row A0 c0 l0 w hr0 hn).mono fun e w' ⟨v, inner, he, ho, hr, hb⟩ => ⟨v, he, ⟨fun _ _ => trivial, inner, ho, hr.imp_ (fun _ _ hp => hp)⟩, hb⟩
end Go.Proofs.YtmcinclecpeakaaGreatDoor.ApA
