/- Package chars: Decode: a text's signs, as a slice of the call's own. -/
import Derived.Test.YtjhamomdlpoilabDoorChars4
namespace Go.Proofs.YtjhamomdlpoilabDoor.Chars
open Go.RowKit Go.Shelf Go.Proofs.YtjhamomdlpoilabDoorW.PrintWords
set_option linter.unusedVariables false
set_option linter.unusedSimpArgs false
attribute [local go_sem] Oper.semAt_some

/-- A text's signs. -/
def decF (l : List UInt8) : List Int := (signsF l).map (·.2)
theorem signsK_le (k p : Nat) (l : List UInt8) : (signsK k p l).length ≤ l.length := by
  induction k generalizing p l with
  | zero => simp [signsK]
  | succ k ih =>
    simp only [signsK]
    split
    · simp
    · rename_i h
      have := oneF_le l h
      have := ih (p + (oneF l).2) (l.drop (oneF l).2)
      rw [List.length_drop] at this
      simp only [List.length_cons]
      omega
theorem decF_le (l : List UInt8) : (decF l).length ≤ l.length := by
  simp only [decF, List.length_map]
  exact signsK_le _ _ _
def cellsOf (l : List Sg) : List Value := l.map (fun x => Value.int .i32 x.1.2)
theorem cellsOf_snoc (l : List Sg) (x : Sg) : cellsOf (l ++ [x]) = cellsOf l ++ [.int .i32 x.1.2] := by simp [cellsOf]
theorem cellsOf_vals {l : List Sg} {b : List UInt8} (h : vals l = signsF b) : cellsOf l = (decF b).map (Value.int .i32) := by
  simp only [decF, ← h, vals, List.map_map, cellsOf]
  rfl
theorem infoI32 : (Tryd.prog.info? 21).map (fun i => (i.zero, i.size, i.bytes)) = some (some (.int .i32 0), 1, 4) := by kernel_rfl

/-- What a round of Decode keeps. -/
structure DecI (w0 : World) (s : ByteArray) (pre : List Sg) (W : World) : Prop where
  row : ∃ v, Boxed W w0.heap.size 27 v ∧ W.ownsRow w0.heap.size 21 1 v pre.length (cellsOf pre) ∧ True
  text : Boxed W (w0.heap.size + 1) 9 (.string s)
  below : Below w0.heap.size w0 W
theorem decI_own (w0 : World) (s : ByteArray) (B : Nat) (hB : w0.heap.size ≤ B) : OwnFrom B (DecI w0 s) := fun st X Y row h hg hr =>
  ⟨holdsRow_own w0.heap.size w0.heap.size 27 21 1 (fun st => st.length) cellsOf (fun _ _ => True) st X Y row h.row hg (fun r e => (hr r e).2),
    boxed_own (w0.heap.size + 1) _ (fun _ => .string s) st X Y row h.text hg (fun r e => (hr r e).2), ownFrom_below (Nat.le_refl _) hB st X Y row h.below hg hr⟩

set_option maxRecDepth 100000 in
set_option maxHeartbeats 4000000 in
theorem decode_any (s : ByteArray) (hs : s.size ≤ 1000000) (w : World) :
    Calls Tryd.prog 12 #[.string s] w fun e w' => ∃ v, e = .returned v ∧ w'.ownsRow w.heap.size 21 1 v (decF s.data.toList).length ((decF s.data.toList).map (Value.int .i32)) ∧ Below w.heap.size w w' := by
  obtain ⟨i0, hi, hz0, hz1, hz2⟩ := info_parts infoI32
  refine (callsIn_wide (n := 10)).1 ?_
  refine callsIn_of_wp_marks Tryd.func12 rfl trivial ?_ rfl
  simp only [Tryd.ntmps12, List.size_toArray, List.length_cons, List.length_nil, Nat.reduceAdd, Nat.reduceSub, Array.replicate_succ, Array.replicate_zero, List.push_toArray, List.append_toArray, List.nil_append, List.cons_append]
  gi_wp2_with fail
  refine ⟨trivial, ?_⟩
  refine (signs_in Fence.wide _ rfl s _).mono ?_
  rintro e w' ⟨rfl, rfl⟩
  gi_wp2_with fail
  have hI0 : DecI w s [] ((w.alloc (.cells #[.slice none 0 0] 27)).alloc (.cells #[.string s] 9)) :=
    ⟨⟨_, (Boxed.new w 27 (.slice none 0 0)).alloc _, World.ownsRow_nil _ _ _ _, trivial⟩,
      by have := Boxed.new (w.alloc (.cells #[.slice none 0 0] 27)) 9 (.string s); rw [World.size_alloc] at this; exact this,
      ((Below.refl _ w).alloc (Nat.le_refl _) _).alloc (by simp) _⟩
  generalize hW0 : (w.alloc (.cells #[.slice none 0 0] 27)).alloc (.cells #[.string s] 9) = W0 at hI0 ⊢
  have hsz : W0.heap.size = w.heap.size + 2 := by rw [← hW0]; simp
  clear hW0
  refine wpIn_rangeFunc_ownG rfl (by omega) (gf := 37) (lb := #[.pointer (some ⟨w.heap.size + 1, 0, none⟩)]) rfl trivial (enters_of Tryd.func37 (by kernel_rfl) rfl)
    (signs_stops _ (by omega) s hs (w.heap.size + 1) W0 hI0.text) keepBox_t (keepBox_b (by omega)) (Below.refl _ _) (fun _ => rfl)
    (DecI w s) (fun _ _ _ => False) (decI_own w s _ (by omega)) (fun _ _ _ _ _ hs _ _ => hs) hI0
    (fun x => { tmps := #[.string s, undef, .slice none 0 0, .pointer (some ⟨w.heap.size, 0, none⟩), undef, .int .i32 x.1.2, .string s, .func (.func 37) #[] #[.pointer (some ⟨w.heap.size + 1, 0, none⟩)], .int .i64 (x.1.1 : Int), .int .i32 x.1.2, undef, undef, undef, undef, undef], defers := [] }) ?assign ?body ?done ?stop
  case assign =>
    intro l x W K hK
    gi_wp2
    exact hK
  case body =>
    rintro l pre x W H hlt
    obtain ⟨⟨v, hv, hrow, _⟩, ht, hB⟩ := H
    have hc := hv.cell
    have ht0 := ht
    gi_wp2_with (gi_at_builtin; refine wpListIn_append_own _ rfl _ _ 27 rfl w.heap.size 21 i0 (.int .i32 0) 1 4 Tryd.underlying27 hi hz0 hz1 hz2 rfl (by decide) _ _ _ rfl (hrow.alloc _) ⟨W.heap.size, 0, none⟩ 1 1 [.int .i32 x.1.2] rfl rfl (cell_one_new _ _ _) (by simp [Value.oneCell']) (by unfold maxLen; omega) (by omega) (by have := hB.size; simp; omega) ?_; intro v' w1 hown' hgrow _; obtain ⟨g', cap', rfl⟩ := ownsRow_succ hown'; obtain ⟨hv1, hv2, hr2, hk2, hb2⟩ := hv.appended (by decide) hrow hB.size (Nat.le_refl _) hown' hgrow; have hc1 := hv1.cell; have hf1 := hv1.frozen; have ht1 := ((ht.alloc _).kept hgrow (ht.not_row (by decide) hrow)).other (by omega : w.heap.size + 1 ≠ w.heap.size) (.slice (some ⟨g', 0, none⟩) (pre.length + 1) cap'))
    refine ⟨hk2.from _, ?_, ⟨⟨_, hv2, by rw [cellsOf_snoc, List.length_append]; exact hr2, trivial⟩, ht1, hB.trans hb2⟩⟩
    exact ht1.trans (Eq.symm ht0)
  case done =>
    rintro D ys W hD hys H hK
    obtain ⟨⟨v, hv, hrow, _⟩, ht, hB⟩ := H
    have hc := hv.cell
    have hrow2 : W.ownsRow w.heap.size 21 1 v (decF s.data.toList).length ((decF s.data.toList).map (Value.int .i32)) := by
      rw [cellsOf_vals hys] at hrow
      have e : ys.length = (decF s.data.toList).length := by rw [decF, List.length_map, ← hys, vals_len]
      rw [← e]
      exact hrow
    clear hrow hys
    gi_wp2
    refine ⟨by simp, .inl ⟨_, _, rfl, run_takeDeferred hK, ?_⟩⟩
    exact ⟨_, results_tmp rfl _ _ _, v, rfl, ownsRow_putObj hrow2 _ hK rfl, hB.trans (belowK_b (w := w) (Nat.le_refl _) W D _ _ (by omega) hK rfl rfl)⟩
  case stop =>
    rintro D c pre W _ _ h _
    exact h.elim
end Go.Proofs.YtjhamomdlpoilabDoor.Chars
