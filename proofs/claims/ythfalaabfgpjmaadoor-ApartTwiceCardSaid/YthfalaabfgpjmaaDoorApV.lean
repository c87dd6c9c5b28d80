/- What is folded does the same, and is folded no more; texts set again and again are set once. -/
import Derived.Test.YthfalaabfgpjmaaDoorApU
namespace Go.Proofs.YthfalaabfgpjmaaDoor.ApA
open Go.RowKit Go.Proofs.YthfalaabfgpjmaaDoorW.PrintWords Go.Proofs.YthfalaabfgpjmaaDoorW.PrintLast Go.Proofs.YthfalaabfgpjmaaDoorW.PrintMore Go.Proofs.YthfalaabfgpjmaaDoor.PAP Go.Proofs.YthfalaabfgpjmaaDoor.DocP Go.Proofs.YthfalaabfgpjmaaDoor.DocC
set_option linter.unusedVariables false
set_option linter.unusedSimpArgs false
theorem rd_get (o : List S30) {j : Nat} (h : j < o.length) : rd_T30 o (j : Int) = o[j] := by
  unfold rd_T30
  rw [Int.toNat_natCast, List.getD_eq_getElem?_getD, List.getElem?_eq_getElem h]
  rfl
theorem last_two (o : List S30) (h : 2 ≤ o.length) : o = o.take (o.length - 2) ++ [rd_T30 o ((o.length - 2 : Nat) : Int), rd_T30 o ((o.length - 1 : Nat) : Int)] := by
  rw [rd_get o (by omega), rd_get o (by omega)]
  have e1 : o.take (o.length - 2 + 1) = o.take (o.length - 2) ++ [o[o.length - 2]] := List.take_succ_eq_append_getElem (by omega)
  have e2 : o.take (o.length - 1 + 1) = o.take (o.length - 1) ++ [o[o.length - 1]] := List.take_succ_eq_append_getElem (by omega)
  rw [show o.length - 2 + 1 = o.length - 1 by omega] at e1
  rw [show o.length - 1 + 1 = o.length by omega, List.take_length, e1] at e2
  exact e2.trans (by rw [List.append_assoc]; rfl)
theorem red_run {q : Bool} : ∀ (k : Nat) (o : List S30) {l l2 : List S28}, Run q l o l2 → Run q l (redF k o) l2
  | 0, o, l, l2, h => h
  | k + 1, o, l, l2, h => by
    by_cases h2 : 2 ≤ o.length
    · have e := last_two o h2
      cases hj : joinE (rd_T30 o ((o.length - 2 : Nat) : Int)) (rd_T30 o ((o.length - 1 : Nat) : Int)) with
      | none => rw [red_no h2 hj]; exact h
      | some b =>
        have h' := h
        rw [e] at h'
        obtain ⟨m, h3, h4⟩ := Run.split _ h'
        cases b with
        | true =>
          rw [red_yes h2 hj]
          exact red_run k _ (h3.append (join_run h4 hj))
        | false =>
          rw [red_gone h2 hj]
          have h5 := h3.append (gone_run h4 hj)
          rw [List.append_nil] at h5
          exact red_run k _ h5
    · rw [red_short h2]; exact h
theorem fold_run {q : Bool} (es : List S30) : ∀ (k : Nat), k ≤ es.length → ∀ {l l2 : List S28}, Run q l (es.take k) l2 → Run q l (foldF (es.take k)) l2
  | 0, _, l, l2, h => by simpa [foldF] using h
  | k + 1, hk, l, l2, h => by
    rw [foldF_take es (by omega)]
    have e : es.take (k + 1) = es.take k ++ [rd_T30 es (k : Int)] := by
      rw [List.take_succ_eq_append_getElem (by omega), rd_get es (by omega)]
    rw [e] at h
    obtain ⟨m, h1, h2⟩ := Run.split _ h
    exact red_run _ _ ((fold_run es k (by omega) h1).append h2)
/-- No two neighbours that may be one. -/
def Red (o : List S30) : Prop := ∀ j, j + 1 < o.length → joinE (rd_T30 o (j : Int)) (rd_T30 o ((j + 1 : Nat) : Int)) = none
theorem rd_take (o : List S30) {m j : Nat} (h : j < m) : rd_T30 (o.take m) (j : Int) = rd_T30 o (j : Int) := by
  unfold rd_T30
  rw [Int.toNat_natCast, List.getD_eq_getElem?_getD, List.getD_eq_getElem?_getD, List.getElem?_take, if_pos h]
theorem Red.take {o : List S30} (h : Red o) (m : Nat) : Red (o.take m) := fun j hj => by
  rw [List.length_take] at hj
  rw [rd_take o (by omega), rd_take o (by omega)]
  exact h j (by omega)
theorem red_red : ∀ (k : Nat) (o : List S30), o.length ≤ k → Red (o.take (o.length - 1)) → Red (redF k o)
  | 0, o, hk, h => fun j hj => by
    have : (redF 0 o).length = o.length := rfl
    omega
  | k + 1, o, hk, h => by
    by_cases h2 : 2 ≤ o.length
    · cases hj : joinE (rd_T30 o ((o.length - 2 : Nat) : Int)) (rd_T30 o ((o.length - 1 : Nat) : Int)) with
      | none =>
        rw [red_no h2 hj]
        intro j hjl
        by_cases e : j + 1 = o.length - 1
        · rw [show j = o.length - 2 by omega, show o.length - 2 + 1 = o.length - 1 by omega]
          exact hj
        · have h3 := h j (by rw [List.length_take]; omega)
          rw [rd_take o (by omega), rd_take o (by omega)] at h3
          exact h3
      | some b =>
        have h3 : Red (o.take (o.length - 2)) := by
          have h4 := h.take (o.length - 2)
          rw [List.take_take, Nat.min_eq_left (by omega)] at h4
          exact h4
        cases b with
        | true =>
          rw [red_yes h2 hj]
          refine red_red k _ (by rw [List.length_append, List.length_take, List.length_singleton]; omega) ?_
          rw [List.length_append, List.length_singleton, Nat.add_sub_cancel, List.take_left']
          · exact h3
          · rfl
        | false =>
          rw [red_gone h2 hj]
          exact red_red k _ (by rw [List.length_take]; omega) (h3.take _)
    · rw [red_short h2]
      intro j hj
      omega
theorem fold_red (es : List S30) : ∀ k, k ≤ es.length → Red (foldF (es.take k))
  | 0, _ => by
    intro j hj
    simp [foldF] at hj
  | k + 1, hk => by
    rw [foldF_take es (by omega)]
    refine red_red _ _ (by rw [List.length_append, List.length_singleton]; exact Nat.le_refl _) ?_
    rw [List.length_append, List.length_singleton, Nat.add_sub_cancel, List.take_left' rfl]
    exact fold_red es k (by omega)
theorem red_fold (m : List S30) (h : Red m) : ∀ k, k ≤ m.length → foldF (m.take k) = m.take k
  | 0, _ => by simp [foldF]
  | k + 1, hk => by
    rw [foldF_take m (by omega), red_fold m h k (by omega)]
    have e : m.take (k + 1) = m.take k ++ [rd_T30 m (k : Int)] := by
      rw [List.take_succ_eq_append_getElem (by omega), rd_get m (by omega)]
    rw [← e]
    have hl : (m.take (k + 1)).length = k + 1 := by rw [List.length_take]; omega
    have hl2 : (m.take k).length = k := by rw [List.length_take]; omega
    rw [hl2]
    by_cases h2 : 2 ≤ (m.take (k + 1)).length
    · refine red_no h2 ?_
      rw [hl, rd_take m (by omega), rd_take m (by omega)]
      have h3 := h (k - 1) (by omega)
      rw [show k + 1 - 2 = k - 1 by omega, show k + 1 - 1 = k - 1 + 1 by omega]
      exact h3
    · exact red_short h2
/-- What is folded is folded no more. -/
theorem fold_twice (es : List S30) : foldF (foldF es) = foldF es := by
  have h1 := fold_red es es.length (Nat.le_refl _)
  rw [List.take_length] at h1
  have h2 := red_fold _ h1 _ (Nat.le_refl _)
  rw [List.take_length] at h2
  exact h2
theorem fold_does {q : Bool} {es : List S30} {l l2 : List S28} (h : Run q l es l2) : Run q l (foldF es) l2 := by
  have h1 := fold_run (q := q) es es.length (Nat.le_refl _) (l := l) (l2 := l2) (by rw [List.take_length]; exact h)
  rw [List.take_length] at h1
  exact h1
/-- A text set again and again. -/
def edT' (n : Int) (v : ByteArray) : S30 := ⟨3, n, 0, 0, ⟨#[]⟩, v, ⟨0, ⟨#[]⟩, [], ⟨#[]⟩, 0, []⟩⟩
theorem fold_texts (n : Int) (vs : List ByteArray) : ∀ k, k + 1 ≤ vs.length → foldF ((vs.map (edT' n)).take (k + 1)) = [rd_T30 (vs.map (edT' n)) (k : Int)]
  | 0, hk => by
    rw [foldF_take _ (by rw [List.length_map]; omega)]
    have : foldF ((vs.map (edT' n)).take 0) = [] := by simp [foldF]
    rw [this]
    exact red_short (by simp)
  | k + 1, hk => by
    rw [foldF_take _ (by rw [List.length_map]; omega), fold_texts n vs k (by omega)]
    have hr : ∀ j, j < vs.length → rd_T30 (vs.map (edT' n)) (j : Int) = edT' n (vs.getD j ⟨#[]⟩) := fun j hj => by
      rw [rd_get _ (by rw [List.length_map]; exact hj), List.getElem_map, List.getD_eq_getElem?_getD, List.getElem?_eq_getElem hj]
      rfl
    rw [hr k (by omega), hr (k + 1) (by omega)]
    have hj : joinE (edT' n (vs.getD k ⟨#[]⟩)) (edT' n (vs.getD (k + 1) ⟨#[]⟩)) = some true := by
      unfold joinE joinB
      exact if_pos ⟨rfl, rfl, rfl⟩
    refine (red_yes (k := 1) (o := [edT' n (vs.getD k ⟨#[]⟩)] ++ [edT' n (vs.getD (k + 1) ⟨#[]⟩)]) (by simp) hj).trans ?_
    exact red_short (by simp)
set_option maxHeartbeats 1000000 in
theorem some_any (s : ByteArray) (m : Nat) (w : World) :
    Calls Tryd.prog 12 #[.string s, .int .i64 m] w fun e w' => e = .returned (.string (s.extract 0 (min s.size m))) ∧ w = w' := by
  have h1 : (min (s.size : Int) m).toNat = min s.size m := by omega
  have H1 := Lib.hid h1
  clear h1
  go_enter Tryd.func12, Tryd.ntmps12
  go_wp2_with fail
  go_ret
  exact ⟨by rw [← H1.out]; rfl, rfl⟩
end Go.Proofs.YthfalaabfgpjmaaDoor.ApA
