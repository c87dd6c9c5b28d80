/- Package active: own. -/
import Derived.Test.YtdheifnebkkjhaaAct6
namespace Go.Proofs.Ytdheifnebkkjhaa.Act
open Go.RowKit Go.Proofs.YtdheifnebkkjhaaW.PrintWords
set_option linter.unusedVariables false
set_option linter.unusedSimpArgs false

/-- At a round's head: the first k have attributes of their own. -/
def OwnR (w W2 wr : World) (v : Value) (xs ys : List It) (k : Nat) : Prop :=
  Below W2.heap.size W2 wr ∧ Below w.heap.size w W2 ∧ OIt wr W2.heap.size v ys ∧ ys.map sk = xs.map sk ∧ (∀ j, j < k → j < ys.length → RA wr (ys.getD j zIt) ∧ Far v (ys.getD j zIt)) ∧ ∀ j, k ≤ j → ys[j]? = xs[j]?
theorem getD_of {xs : List It} {j : Nat} (h : j < xs.length) : xs.getD j zIt = xs[j] := by rw [List.getD_eq_getElem?_getD, List.getElem?_eq_getElem h]; rfl
theorem ownStep {w W2 wr w1 : World} {g c k : Nat} {xs ys : List It} {zs : List (ByteArray × ByteArray)} {A' : Option Addr} {c' : Nat} (h : OwnR w W2 wr (.slice (some ⟨g, 0, none⟩) xs.length c) xs ys k) (hk : k < xs.length) (hb : Below wr.heap.size wr w1) (hn : (xs.getD k zIt).n ≤ 4398046511104)
    (ho : w1.ownsRow wr.heap.size 46 2 (.slice A' (xs.getD k zIt).n c') (xs.getD k zIt).n (flatPr zs)) (hz : zs.length = (xs.getD k zIt).n) :
    ∃ ys', OwnR w W2 (w1.setCell ⟨g, k * 3 + 2, none⟩ (.slice A' (xs.getD k zIt).n c')) (.slice (some ⟨g, 0, none⟩) xs.length c) xs ys' (k + 1) := by
  obtain ⟨h1, h2, h3, h4, h5, h6⟩ := h
  have hl : ys.length = xs.length := by have := congrArg List.length h4; simpa using this
  have hglt : g < wr.heap.size := own_lt h3 g rfl
  have hge : W2.heap.size ≤ g := own_base h3 g rfl
  have h3' : OIt w1 W2.heap.size (.slice (some ⟨g, 0, none⟩) ys.length c) ys := by rw [hl]; exact pw_own_below h3 hb
  have hyk : ys.getD k zIt = xs.getD k zIt := by rw [List.getD_eq_getElem?_getD, List.getD_eq_getElem?_getD, h6 k (Nat.le_refl _)]
  have hp := OIt.put (n' := (xs.getD k zIt).n) (c' := c') (A' := A') h3' (by omega : k < ys.length)
  rw [hyk] at hp
  generalize hx : xs.getD k zIt = x at *
  have hlen' : (ys.set k ⟨x.node, x.name, A', x.n, c'⟩).length = xs.length := by rw [List.length_set, hl]
  refine ⟨ys.set k ⟨x.node, x.name, A', x.n, c'⟩, (h1.trans (hb.mono h1.size)).setCell hge _, h2, by rw [← hl]; exact hp.1, ?_, ?_, ?_⟩
  · rw [← h4, List.map_set]
    refine List.ext_getElem? fun j => ?_
    rw [List.getElem?_set]
    split
    · next e =>
      subst e
      rw [if_pos (by rw [List.length_map]; omega), List.getElem?_map, h6 k (Nat.le_refl _), ← List.getElem?_map]
      rw [List.getElem?_map, List.getElem?_eq_getElem hk]
      rw [getD_of hk] at hx
      rw [hx]
      rfl
    · rfl
  · intro j hj hjl
    rw [List.length_set] at hjl
    by_cases e : j = k
    · subst e
      have he : (ys.set j ⟨x.node, x.name, A', x.n, c'⟩).getD j zIt = ⟨x.node, x.name, A', x.n, c'⟩ := by
        rw [getD_of (by rw [List.length_set]; exact hjl)]
        simp
      rw [he]
      obtain ⟨A2, c2, e2, hr⟩ := own_reads_row ho (repsPr zs) hz
      injection e2 with e3 e4 e5
      subst e3
      have hfar : ∀ ad, A' = some ad → 0 < x.n → some ad.block ≠ some g := fun ad ea _ => by
        subst ea
        have := own_base ho ad.block rfl
        intro e
        injection e with e
        omega
      exact ⟨RA.grown (w := w1) ⟨hn, zs, hr⟩ hp.2 hfar, hfar⟩
    · have he : (ys.set k ⟨x.node, x.name, A', x.n, c'⟩).getD j zIt = ys.getD j zIt := by
        rw [List.getD_eq_getElem?_getD, List.getD_eq_getElem?_getD, List.getElem?_set_ne (fun e' => e e'.symm)]
      rw [he]
      obtain ⟨ha, hf⟩ := h5 j (by omega) hjl
      exact ⟨(ha.below hb).grown hp.2 hf, hf⟩
  · intro j hj
    rw [List.getElem?_set_ne (by omega)]
    exact h6 j (by omega)

set_option maxRecDepth 100000 in
set_option maxHeartbeats 4000000 in
theorem own_any (A : Option Addr) (n c : Nat) (xs : List It) (w : World) (hr : RIt w A n xs) (ha : ∀ x ∈ xs, RA w x) (hn : n ≤ 1000) :
    Calls Try.prog 10 #[.slice A n c] w fun e w' => ∃ v ys, e = .returned v ∧ LIt w' w.heap.size v ys ∧ ys.map sk = xs.map sk ∧ Below w.heap.size w w' := by
  have HL := Lib.hid hr.len
  have HC : Hid (∀ W, Below w.heap.size w W → Calls Try.prog 11 #[.slice A n c] W fun e w' => ∃ v, e = .returned v ∧ OIt w' W.heap.size v xs ∧ Below W.heap.size W w') := Lib.hid (fun W hb => clone_any A n c xs W (hr.below hb) (by omega))
  have HA := Lib.hid ha
  clear hr ha
  go_enter Try.func10, Try.ntmps10
  go_wp2_with fail
  refine (HC.out _ (Below.refl _ _)).mono ?_
  rintro e w1 ⟨v, rfl, ho, hb⟩
  obtain ⟨A1, c1, rfl, hr1⟩ := ho.reads
  have H0 : Hid (OwnR w w w1 (.slice A1 xs.length c1) xs xs 0) := Lib.hid ⟨hb, Below.refl _ _, ho, rfl, fun j hj => absurd hj (Nat.not_lt_zero _), fun _ _ => rfl⟩
  rw [HL.out] at H0
  clear ho hb hr1 HC
  have HL' := HL.out
  rw [HL']
  clear HL'
  go_wp2_with fail
  go_loopw [9] (fun i wr => ∃ k : Nat, k ≤ n ∧ i = .int .i64 k ∧ Hid (∃ ys, OwnR w w wr (.slice A1 n c1) xs ys k))
    (fun i _ => n - (intOf i).toNat)
  case atStart => exact ⟨0, Nat.zero_le _, rfl, Lib.hid ⟨_, H0.out⟩⟩
  case round =>
    obtain ⟨k, hk, rfl, HO⟩ := hrel
    clear H0
    by_cases hlt : k < n
    · obtain ⟨ys, ho⟩ := HO.out
      have hyl : ys.length = n := by have := congrArg List.length ho.2.2.2.1; simp only [List.length_map] at this; rw [this]; exact HL.out
      obtain ⟨g, cap, hv, -, -⟩ := World.ownsRow.form ho.2.2.1 (by omega)
      injection hv with hA hv1 hv2
      subst hA
      clear hv1 hv2
      have hrd := ho.2.2.1.reads
      obtain ⟨A2, c2, e2, hrd⟩ := hrd
      injection e2 with e2 e3 e4
      subst e2
      clear e3 e4
      obtain ⟨ad, e, -, -, c2⟩ := hrd.cells k (by omega)
      injection e with e
      subst e
      rw [add_at, show (0 + k * 3) = k * 3 from Nat.zero_add _] at c2
      obtain ⟨cells, hty⟩ := own_typed ho.2.2.1 g rfl
      have f2 : wr.frozen? ⟨g, k * 3 + 2, none⟩ = false := blk_frozen hty _
      have hglt : g < wr.heap.size := blk_lt hty
      have hyk : ys.getD k zIt = xs.getD k zIt := by rw [List.getD_eq_getElem?_getD, List.getD_eq_getElem?_getD, ho.2.2.2.2.2 k (Nat.le_refl _)]
      rw [hyk] at c2
      have HX := HA.out (xs.getD k zIt) (by rw [getD_of (by rw [HL.out]; exact hlt)]; exact List.getElem_mem _)
      have HO' := Lib.hid ho
      obtain ⟨hxn, zs, hz⟩ := HX.below (ho.2.1.trans (ho.1.mono ho.2.1.size))
      have HS : Hid (∀ w1 A' c', Below wr.heap.size wr w1 → w1.ownsRow wr.heap.size 46 2 (.slice A' (xs.getD k zIt).n c') (xs.getD k zIt).n (flatPr zs) → ∃ ys', OwnR w w (w1.setCell ⟨g, k * 3 + 2, none⟩ (.slice A' (xs.getD k zIt).n c')) (.slice (some ⟨g, 0, none⟩) n c1) xs ys' (k + 1)) :=
        Lib.hid (fun w1 A' c' hb ho' => by
          have hl := HL.out
          have := ownStep (g := g) (c := c1) (xs := xs) (ys := ys) (k := k) (by rw [hl]; exact HO'.out) (by omega) hb hxn ho' hz.1
          rw [hl] at this
          exact this)
      have HK : Hid (∀ W, wr = W → Calls Try.prog 17 #[.slice (xs.getD k zIt).A (xs.getD k zIt).n (xs.getD k zIt).c] W fun e w' => ∃ A' c', e = .returned (.slice A' (xs.getD k zIt).n c') ∧ w'.ownsRow W.heap.size 46 2 (.slice A' (xs.getD k zIt).n c') (xs.getD k zIt).n (flatPr zs) ∧ Below W.heap.size W w') :=
        Lib.hid (fun W hb => by
          subst hb
          refine (cloneP_any _ _ _ zs _ hz hxn).mono ?_
          rintro e w' ⟨v, rfl, ho, hb⟩
          obtain ⟨A', c', rfl⟩ := own_slice ho
          exact ⟨A', c', rfl, ho, hb⟩)
      clear ho hrd HX hz hyk hty hyl
      generalize xs.getD k zIt = x at *
      go_wp2_with fail
      refine (HK.out _ rfl).mono ?_
      rintro e w2 ⟨A', c', rfl, ho, hb⟩
      have c2' := pw_cell_below hb c2
      have f2' : w2.frozen? ⟨g, k * 3 + 2, none⟩ = false := (hb.frozen (p := ⟨g, k * 3 + 2, none⟩) hglt).trans f2
      have HF := Lib.hid (HS.out _ _ _ hb ho)
      clear ho hb
      go_wp2_with fail
      go_roundw
      case rel => exact ⟨k + 1, by omega, by go_num, HF⟩
      case measure => simp [intOf]; omega
    · go_wp2_with fail
      go_ret
      obtain ⟨ys, h1, -, h3, h4, h5, -⟩ := HO.out
      have hyl : ys.length = n := by have := congrArg List.length h4; simp only [List.length_map] at this; rw [this]; exact HL.out
      refine ⟨_, ys, rfl, ⟨h3, fun x hx => ?_⟩, h4, h1⟩
      obtain ⟨j, hj, rfl⟩ := List.getElem_of_mem hx
      have := h5 j (by omega) hj
      rw [getD_of hj] at this
      exact this
end Go.Proofs.Ytdheifnebkkjhaa.Act
