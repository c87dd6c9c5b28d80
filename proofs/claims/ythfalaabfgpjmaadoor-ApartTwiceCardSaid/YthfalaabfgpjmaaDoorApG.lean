/- Package apart: Fold. -/
import Derived.Test.YthfalaabfgpjmaaDoorApF
import Derived.Test.YthfalaabfgpjmaaDoorApT
namespace Go.Proofs.YthfalaabfgpjmaaDoor.ApA
open Go.RowKit Go.Proofs.YthfalaabfgpjmaaDoorW.PrintWords Go.Proofs.YthfalaabfgpjmaaDoorW.PrintLast Go.Proofs.YthfalaabfgpjmaaDoorW.PrintMore Go.Proofs.YthfalaabfgpjmaaDoor.PAP Go.Proofs.YthfalaabfgpjmaaDoor.DocP Go.Proofs.YthfalaabfgpjmaaDoor.DocC
set_option linter.unusedVariables false
set_option linter.unusedSimpArgs false
set_option maxHeartbeats 8000000 in
set_option maxRecDepth 100000 in
theorem fold_calls {l l2 : List S28} {q q2 : Bool} {es : List S30} {i er : Int} (hev : Ev (fun k => dom_All.f k l q es) (l2, q2, i, er)) (h40 : es.length ≤ 40) (hin : ∀ x ∈ es, x.f6.f2.length ≤ 4398046511104 ∧ x.f6.f5.length ≤ 17592186044416) (A A1 : Option Addr) (c c1 : Nat) (w : World) (hr : Kd.C k28 w A l.length l) (hc : l.length ≤ c) (hr1 : Kd.C k30 w A1 es.length es) (hc1 : es.length ≤ c1) :
    Calls Tryd.prog 11 #[.agg #[.slice A l.length c, .bool q], .slice A1 es.length c1] w (FoldP w er es) := by
  obtain ⟨n, hn⟩ : ∃ n, n = l.length := ⟨_, rfl⟩
  obtain ⟨n1, hn1⟩ : ∃ n1, n1 = es.length := ⟨_, rfl⟩
  have HAll : Hid (∀ W : World, Below w.heap.size w W → Calls Tryd.prog 9 #[.agg #[.slice A n c, .bool q], .slice A1 n1 c1] W fun u w' => ∃ A' n' c', u = .returned (.tuple #[.agg #[.slice A' n' c', .bool q2], .int .i64 i, .int .i64 er]) ∧ Below W.heap.size W w') := Lib.hid (by
    obtain ⟨k, hk⟩ := ev_at hev
    rw [hn, hn1]
    intro W hb
    refine (dom_All.calls k A c l q A1 c1 es l2 q2 i er W (Kd.C_below hr hb) hc (Kd.C_below hr1 hb) hc1 hk).mono ?_
    rintro u w' ⟨v, rfl, hS, hb'⟩
    obtain ⟨A', c', rfl⟩ := Kd.S_slice hS
    exact ⟨A', _, c', rfl, hb'⟩)
  have HR := Lib.hid hr1
  have HIn := Lib.hid hin
  have hn40 : n1 ≤ 40 := by omega
  rw [← hn, ← hn1]
  have HN1 := Lib.hid hn1
  have hc1' : n1 ≤ c1 := by omega
  have HTk : Hid (es.take n1 = es) := Lib.hid (by rw [hn1]; exact List.take_length)
  clear hn hn1 hr hc hr1 hc1 hin hev h40
  go_enter Tryd.func11, Tryd.ntmps11
  go_wp2_with fail
  refine (HAll.out _ (below_alloc (Below.refl _ _) _)).mono ?_
  rintro u w1 ⟨A', n', c', rfl, hb1⟩
  have hb := (below_alloc (Below.refl _ w) (.cells #[.slice A n c, .bool q] 24)).trans (hb1.mono (by simp))
  have HB := Lib.hid hb
  clear hb hb1 HAll
  by_cases h0 : er = 0
  · subst h0
    go_wp2_with fail
    go_loopw [9, 27] (fun s9 s27 wr => ∃ (k m : Nat) (B : Option Addr) (d : Nat), k ≤ n1 ∧ s27 = .int .i64 k ∧ s9 = .slice B m d ∧ m ≤ k ∧ Hid (FH w wr B m d es k)) (fun _ s27 _ => n1 - (intOf s27).toNat)
    case atStart => exact ⟨0, 0, none, 0, Nat.zero_le _, rfl, rfl, Nat.le_refl _, Lib.hid (FI.nil w _ (by (repeat (first | refine below_alloc ?_ _ | refine below_drew ?_ | refine Below.setCell ?_ (by have := HB.out.size; simp; omega) _)); exact HB.out))⟩
    case round =>
      obtain ⟨k, mm, B, d, hk, rfl, rfl, hm, HF⟩ := hrel
      by_cases hlt : k < n1
      · obtain ⟨ad, A8, c8, A11, c11, e1, x0, x1, x2, x3, x4, x5, x6, x7, x8, x9, x10, x11, g8l, g8, g11l, g11⟩ := at_T30 (Kd.C_below HR.out HF.out.below) (k : Int) (by omega) (by have := HN1.out; omega)
        rw [Int.toNat_natCast] at x0 x1 x2 x3 x4 x5 x6 x7 x8 x9 x10 x11
        subst e1
        have hinx := HIn.out (rd_T30 es k) (by
          have hl := HN1.out
          unfold rd_T30
          rw [Int.toNat_natCast, List.getD_eq_getElem?_getD, List.getElem?_eq_getElem (by omega)]
          exact List.getElem_mem _)
        have HS : Hid (foldF (es.take (k + 1)) = redF ((foldF (es.take k)).length + 1) (foldF (es.take k) ++ [rd_T30 es k])) := Lib.hid (foldF_take es (by have := HN1.out; omega))
        have HGe : Hid (wr.heap.size ≤ wr.heap.size) := Lib.hid (Nat.le_refl _)
        generalize rd_T30 es k = x at *
        obtain ⟨n8, hn8⟩ : ∃ n8, n8 = x.f6.f2.length := ⟨_, rfl⟩
        obtain ⟨n11, hn11⟩ : ∃ n11, n11 = x.f6.f5.length := ⟨_, rfl⟩
        rw [← hn8] at x8
        rw [← hn11] at x11
        obtain ⟨W0, hW0⟩ : ∃ W0, W0 = wr.alloc (.cells #[.int .i64 x.f0, .int .i64 x.f1, .int .i64 x.f2, .int .i64 x.f3, .string x.f4, .string x.f5, .int .i64 x.f6.f0, .string x.f6.f1, .slice A8 n8 c8, .string x.f6.f3, .int .i64 x.f6.f4, .slice A11 n11 c11] 30) := ⟨_, rfl⟩
        have hbW0 : Below wr.heap.size wr W0 := by rw [hW0]; exact (Below.refl _ _).alloc (Nat.le_refl _) _
        have hsW0 : W0.heap.size = wr.heap.size + 1 := by rw [hW0]; simp
        have hkW0 : W0.heap[wr.heap.size]? = some (.cells (EC x A8 c8 A11 c11).toArray 30 (0, 0)) := by rw [hW0, hn8, hn11]; exact blk_new wr _
        have HW0 := Lib.hid hW0
        clear hW0
        have HA : Hid (∀ W : World, Below W0.heap.size W0 W → Calls Tryd.prog 22 #[.slice A8 n8 c8] W fun e w' => ∃ A c, e = .returned (.slice A n8 c) ∧ Kd.R k61 61 w' w.heap.size (fun k => W0.heap.size ≤ k) (.slice A n8 c) x.f6.f2 ∧ Below W0.heap.size W0 w' ∧ Below W.heap.size W w') :=
          Lib.hid (fun W hb => by
            rw [hn8]
            refine (cloneA.calls A8 c8 x.f6.f2 W (Kd.C_below g8 (hbW0.trans (hb.mono (by omega)))) (by omega)).mono ?_
            rintro e w' ⟨v, rfl, hr, hb'⟩
            obtain ⟨A, c, rfl⟩ := Kd.R_slice hr
            exact ⟨A, c, rfl, Kd.R_lower (Kd.R_mono (Kd.R_bound hr) (fun k hk => Nat.le_trans hb.size hk.2.1)) (Nat.le_trans (Nat.le_trans HF.out.below.size hbW0.size) hb.size), hb.trans (hb'.mono hb.size), hb'⟩)
        have HC : Hid (∀ W : World, Below W0.heap.size W0 W → Calls Tryd.prog 23 #[.slice A11 n11 c11] W fun e w' => ∃ A c, e = .returned (.slice A n11 c) ∧ Kd.R (Kd.int .i64) 3 w' w.heap.size (fun k => W0.heap.size ≤ k) (.slice A n11 c) x.f6.f5 ∧ Below W0.heap.size W0 w' ∧ Below W.heap.size W w') :=
          Lib.hid (fun W hb => by
            rw [hn11]
            refine (cloneI.calls A11 c11 x.f6.f5 W (Kd.C_below g11 (hbW0.trans (hb.mono (by omega)))) (by omega)).mono ?_
            rintro e w' ⟨v, rfl, hr, hb'⟩
            obtain ⟨A, c, rfl⟩ := Kd.R_slice hr
            exact ⟨A, c, rfl, Kd.R_lower (Kd.R_mono (Kd.R_bound hr) (fun k hk => Nat.le_trans hb.size hk.2.1)) (Nat.le_trans (Nat.le_trans HF.out.below.size hbW0.size) hb.size), hb.trans (hb'.mono hb.size), hb'⟩)
        have HE : Hid (∀ W : World, Below W0.heap.size W0 W → W.cell? ⟨wr.heap.size, 8, none⟩ = some (.slice A8 n8 c8) ∧ W.cell? ⟨wr.heap.size, 11, none⟩ = some (.slice A11 n11 c11) ∧ W.frozen? ⟨wr.heap.size, 8, none⟩ = false ∧ W.frozen? ⟨wr.heap.size, 11, none⟩ = false) := Lib.hid (fun W hb => by
          have h := blk_below hkW0 hb
          rw [hn8, hn11]
          exact ⟨(blk_cell h 8).trans rfl, (blk_cell h 11).trans rfl, blk_frozen h 8, blk_frozen h 11⟩)
        have HK0 : Hid (W0.heap[wr.heap.size]? = some (.cells (EC x A8 c8 A11 c11).toArray 30 (0, 0)) ∧ Below wr.heap.size wr W0 ∧ W0.heap.size = wr.heap.size + 1) := Lib.hid ⟨hkW0, hbW0, hsW0⟩
        obtain ⟨e8, e11, q8, q11⟩ := HE.out W0 (Below.refl _ _)
        have hgW0 : wr.heap.size < W0.heap.size := by omega
        clear hbW0 hsW0 hkW0
        have HX8 := Lib.hid hn8
        have HX11 := Lib.hid hn11
        clear g8l g8 g11l g11 hinx hn8 hn11
        have hk8 : k < c1 := by omega
        go_upto_region 8 with fail
        rw [← HW0.out]
        clear x0 x1 x2 x3 x4 x5 x6 x7 x8 x9 x10 x11
        go_cut [31] (fun s31 wx => Hid (∃ A6 c6 A7 c7, FG w wx B mm d (foldF (es.take k)) x A6 c6 A7 c7 wr.heap.size))
        case first =>
          go_region_with (first | (with_reducible refine (HA.out _ ?_).mono ?_; ((repeat (first | refine below_alloc ?_ _ | refine below_drew ?_)); exact Below.refl _ _); rintro e w2 ⟨A6, c6, rfl, hR6, hb6, hb6'⟩; obtain ⟨e8a, e11a, q8a, q11a⟩ := HE.out _ hb6) | (with_reducible refine (HC.out _ ?_).mono ?_; ((repeat (first | refine below_alloc ?_ _ | refine below_drew ?_)); exact hb6); rintro e w3 ⟨A7, c7, rfl, hR7, hb7, hb7'⟩; obtain ⟨e8b, e11b, q8b, q11b⟩ := HE.out _ hb7))
          all_goals
            rw [HX8.out] at hR6
            rw [HX11.out] at hR7
            have HG := Lib.hid (foldA HF.out HK0.out.1 HK0.out.2.1 HK0.out.2.2 hR6 hb6 hR7 hb7')
            rw [← HX8.out, ← HX11.out] at HG
            clear hR6 hb6 hb6' hR7 hb7 hb7' e8a e11a q8a q11a e8b e11b q8b q11b
            go_wp2_with fail
            go_meet
            exact Lib.hid ⟨_, _, _, _, HG.out⟩
        case rest =>
          obtain ⟨A6, c6, A7, c7, hG⟩ := hcut.out
          have HGx := Lib.hid hG
          have z0 : wc.cell? ⟨wr.heap.size, 0, none⟩ = some (.int .i64 x.f0) := (blk_cell hG.blk 0).trans rfl
          have z1 : wc.cell? ⟨wr.heap.size, 1, none⟩ = some (.int .i64 x.f1) := (blk_cell hG.blk 1).trans rfl
          have z2 : wc.cell? ⟨wr.heap.size, 2, none⟩ = some (.int .i64 x.f2) := (blk_cell hG.blk 2).trans rfl
          have z3 : wc.cell? ⟨wr.heap.size, 3, none⟩ = some (.int .i64 x.f3) := (blk_cell hG.blk 3).trans rfl
          have z4 : wc.cell? ⟨wr.heap.size, 4, none⟩ = some (.string x.f4) := (blk_cell hG.blk 4).trans rfl
          have z5 : wc.cell? ⟨wr.heap.size, 5, none⟩ = some (.string x.f5) := (blk_cell hG.blk 5).trans rfl
          have z6 : wc.cell? ⟨wr.heap.size, 6, none⟩ = some (.int .i64 x.f6.f0) := (blk_cell hG.blk 6).trans rfl
          have z7 : wc.cell? ⟨wr.heap.size, 7, none⟩ = some (.string x.f6.f1) := (blk_cell hG.blk 7).trans rfl
          have z8 : wc.cell? ⟨wr.heap.size, 8, none⟩ = some (.slice A6 n8 c6) := by rw [HX8.out]; exact (blk_cell hG.blk 8).trans rfl
          have z9 : wc.cell? ⟨wr.heap.size, 9, none⟩ = some (.string x.f6.f3) := (blk_cell hG.blk 9).trans rfl
          have z10 : wc.cell? ⟨wr.heap.size, 10, none⟩ = some (.int .i64 x.f6.f4) := (blk_cell hG.blk 10).trans rfl
          have z11 : wc.cell? ⟨wr.heap.size, 11, none⟩ = some (.slice A7 n11 c7) := by rw [HX11.out]; exact (blk_cell hG.blk 11).trans rfl
          have HFK : Hid (Kd.FK k30 wc (fun k => wr.heap.size < k) x [.int .i64 x.f0, .int .i64 x.f1, .int .i64 x.f2, .int .i64 x.f3, .string x.f4, .string x.f5, .int .i64 x.f6.f0, .string x.f6.f1, .slice A6 n8 c6, .string x.f6.f3, .int .i64 x.f6.f4, .slice A7 n11 c7]) := Lib.hid (by rw [HX8.out, HX11.out]; exact hG.fk)
          have HOK : Hid (∀ k, wr.heap.size < k → True ∧ some k ≠ (Value.slice B mm d).ownBlock) := Lib.hid (fun k hk => ⟨trivial, fun e => by have := HGx.out.lt k e.symm; omega⟩)
          have HLe : Hid ((foldF (es.take k)).length = mm) := Lib.hid hG.fi.len.symm
          clear hG hcut HE HA HC e8 e11 q8 q11
          have HRR : Hid (foldF (es.take (k + 1)) = redF (mm + 1) (foldF (es.take k) ++ [x])) := Lib.hid (by rw [HS.out, HLe.out])
          have HKK : Hid (foldF (es.take (k + 1)) = foldF (es.take (k + 1))) := Lib.hid rfl
          obtain ⟨R, hRd⟩ : ∃ R, R = foldF (es.take (k + 1)) := ⟨_, rfl⟩
          have HRd := Lib.hid hRd
          rw [← hRd] at HRR
          clear hRd HS HKK
          go_wp2_with (at_builtin; refine Kd.N_append k30 (w0 := w) w.heap.size rfl _ _ 38 30 (.agg #[.int .i64 0, .int .i64 0, .int .i64 0, .int .i64 0, .string ⟨#[]⟩, .string ⟨#[]⟩, .int .i64 0, .string ⟨#[]⟩, .slice none 0 0, .string ⟨#[]⟩, .int .i64 0, .slice none 0 0]) 160 rfl Tryd.underlying38 edit_info rfl (by decide) (by decide) (.slice B mm d) (foldF (es.take k)) x [.int .i64 x.f0, .int .i64 x.f1, .int .i64 x.f2, .int .i64 x.f3, .string x.f4, .string x.f5, .int .i64 x.f6.f0, .string x.f6.f1, .slice A6 n8 c6, .string x.f6.f3, .int .i64 x.f6.f4, .slice A7 n11 c7] (fun _ => True) (fun k => wr.heap.size < k) rfl rfl HFK.out HOK.out (fun _ _ => trivial) HGx.out.fi.row HGx.out.fi.below HGx.out.fi.below.size (by have := HLe.out; omega) ?c1)
          case c1 =>
            intro v1 w2 hN hB hg hat
            have hlen : (foldF (es.take k) ++ [x]).length = mm + 1 := by rw [List.length_append, List.length_singleton]; have := HLe.out; omega
            obtain ⟨A', c', ev1⟩ := Kd.N_slice hN
            rw [hlen] at ev1
            subst ev1
            have HJ : Hid (FJ w w2 A' (mm + 1) c' R) := Lib.hid ⟨_, mm + 1, ⟨hlen.symm, hN, hB⟩, Nat.le_refl _, HRR.out.symm⟩
            clear hN hB hg hat hlen HRR HFK HOK HGx HF z0 z1 z2 z3 z4 z5 z6 z7 z8 z9 z10 z11 HW0 HK0
            go_wp2_with fail
            go_loopw [9, 12] (fun s9 s12 wx => ∃ (Aj : Option Addr) (mj cj : Nat), s9 = .slice Aj mj cj ∧ s12 = .int .i64 mj ∧ mj ≤ 41 ∧ Hid (FJ w wx Aj mj cj R)) (fun _ s12 _ => (intOf s12).toNat)
            case atStart => exact ⟨_, mm + 1, _, rfl, by go_num, by omega, HJ⟩
            case round =>
              obtain ⟨Aj, mj, cj, rfl, rfl, hmj, HFj⟩ := hrel
              clear HJ
              by_cases h2 : 2 ≤ mj
              · obtain ⟨j, hjm⟩ : ∃ j, mj = j + 2 := ⟨mj - 2, by omega⟩
                obtain ⟨j1, hj1⟩ : ∃ j1, j1 = j + 1 := ⟨_, rfl⟩
                obtain ⟨o, k', hfi, hk', hred⟩ := HFj.out
                obtain ⟨k2, rfl⟩ : ∃ k2, k' = k2 + 1 := ⟨k' - 1, by omega⟩
                obtain ⟨g, cap, hv, hgb, hgl, cells, hty⟩ := Kd.N_form hfi.row (by have := hfi.len; omega)
                injection hv with hA hn2 hc2
                subst hA
                clear hn2 hc2
                have hle := hfi.len
                obtain ⟨ca, hcal, hFa, hca, -⟩ := Kd.N_elem hfi.row z30 (j : Int) (by omega) (by omega)
                obtain ⟨cb, hcbl, hFb, hcb, -⟩ := Kd.N_elem hfi.row z30 (j1 : Int) (by omega) (by omega)
                rw [Int.toNat_natCast] at hFa hca hFb hcb
                obtain ⟨P8, d8, P11, d11, hcs, -, -, -, -⟩ := k30_open (Kd.FK_now hFa)
                subst hcs
                obtain ⟨Q8, b8, Q11, b11, hcs, -, -, -, -⟩ := k30_open (Kd.FK_now hFb)
                subst hcs
                have hxa : rd_T30 o ((o.length - 2 : Nat) : Int) = o.getD j z30 := by unfold rd_T30; rw [Int.toNat_natCast]; congr 1; omega
                have hxb : rd_T30 o ((o.length - 1 : Nat) : Int) = o.getD j1 z30 := by unfold rd_T30; rw [Int.toNat_natCast]; congr 1; omega
                have HXa := Lib.hid hxa
                have HXb := Lib.hid hxb
                clear hxa hxb
                generalize o.getD j z30 = xa at *
                generalize o.getD j1 z30 = xb at *
                obtain ⟨p8, hp8⟩ : ∃ p8, p8 = xa.f6.f2.length := ⟨_, rfl⟩
                obtain ⟨p11, hp11⟩ : ∃ p11, p11 = xa.f6.f5.length := ⟨_, rfl⟩
                obtain ⟨q8, hq8⟩ : ∃ q8, q8 = xb.f6.f2.length := ⟨_, rfl⟩
                obtain ⟨q11, hq11⟩ : ∃ q11, q11 = xb.f6.f5.length := ⟨_, rfl⟩
                rw [← hp8, ← hp11] at hca
                rw [← hq8, ← hq11] at hcb hFb
                have HE2 : Hid (∀ W : World, Below wr.heap.size wr W → W.cell? ⟨g, j * 12, none⟩ = some (.int .i64 xa.f0) ∧ W.cell? ⟨g, j * 12 + 1, none⟩ = some (.int .i64 xa.f1) ∧ W.cell? ⟨g, j * 12 + 2, none⟩ = some (.int .i64 xa.f2) ∧ W.cell? ⟨g, j * 12 + 3, none⟩ = some (.int .i64 xa.f3) ∧ W.cell? ⟨g, j * 12 + 4, none⟩ = some (.string xa.f4) ∧ W.cell? ⟨g, j * 12 + 5, none⟩ = some (.string xa.f5) ∧ W.cell? ⟨g, j * 12 + 6, none⟩ = some (.int .i64 xa.f6.f0) ∧ W.cell? ⟨g, j * 12 + 7, none⟩ = some (.string xa.f6.f1) ∧ W.cell? ⟨g, j * 12 + 8, none⟩ = some (.slice P8 p8 d8) ∧ W.cell? ⟨g, j * 12 + 9, none⟩ = some (.string xa.f6.f3) ∧ W.cell? ⟨g, j * 12 + 10, none⟩ = some (.int .i64 xa.f6.f4) ∧ W.cell? ⟨g, j * 12 + 11, none⟩ = some (.slice P11 p11 d11) ∧ W.cell? ⟨g, j1 * 12, none⟩ = some (.int .i64 xb.f0) ∧ W.cell? ⟨g, j1 * 12 + 1, none⟩ = some (.int .i64 xb.f1) ∧ W.cell? ⟨g, j1 * 12 + 2, none⟩ = some (.int .i64 xb.f2) ∧ W.cell? ⟨g, j1 * 12 + 3, none⟩ = some (.int .i64 xb.f3) ∧ W.cell? ⟨g, j1 * 12 + 4, none⟩ = some (.string xb.f4) ∧ W.cell? ⟨g, j1 * 12 + 5, none⟩ = some (.string xb.f5) ∧ W.cell? ⟨g, j1 * 12 + 6, none⟩ = some (.int .i64 xb.f6.f0) ∧ W.cell? ⟨g, j1 * 12 + 7, none⟩ = some (.string xb.f6.f1) ∧ W.cell? ⟨g, j1 * 12 + 8, none⟩ = some (.slice Q8 q8 b8) ∧ W.cell? ⟨g, j1 * 12 + 9, none⟩ = some (.string xb.f6.f3) ∧ W.cell? ⟨g, j1 * 12 + 10, none⟩ = some (.int .i64 xb.f6.f4) ∧ W.cell? ⟨g, j1 * 12 + 11, none⟩ = some (.slice Q11 q11 b11)) := Lib.hid (fun W hb => ⟨pw_cell_below hb (hca 0 _ rfl), pw_cell_below hb (hca 1 _ rfl), pw_cell_below hb (hca 2 _ rfl), pw_cell_below hb (hca 3 _ rfl), pw_cell_below hb (hca 4 _ rfl), pw_cell_below hb (hca 5 _ rfl), pw_cell_below hb (hca 6 _ rfl), pw_cell_below hb (hca 7 _ rfl), pw_cell_below hb (hca 8 _ rfl), pw_cell_below hb (hca 9 _ rfl), pw_cell_below hb (hca 10 _ rfl), pw_cell_below hb (hca 11 _ rfl), pw_cell_below hb (hcb 0 _ rfl), pw_cell_below hb (hcb 1 _ rfl), pw_cell_below hb (hcb 2 _ rfl), pw_cell_below hb (hcb 3 _ rfl), pw_cell_below hb (hcb 4 _ rfl), pw_cell_below hb (hcb 5 _ rfl), pw_cell_below hb (hcb 6 _ rfl), pw_cell_below hb (hcb 7 _ rfl), pw_cell_below hb (hcb 8 _ rfl), pw_cell_below hb (hcb 9 _ rfl), pw_cell_below hb (hcb 10 _ rfl), pw_cell_below hb (hcb 11 _ rfl)⟩)
                have HJ0 : Hid (∀ W : World, Calls Tryd.prog 24 #[.agg #[.int .i64 xa.f0, .int .i64 xa.f1, .int .i64 xa.f2, .int .i64 xa.f3, .string xa.f4, .string xa.f5, .int .i64 xa.f6.f0, .string xa.f6.f1, .slice P8 p8 d8, .string xa.f6.f3, .int .i64 xa.f6.f4, .slice P11 p11 d11], .agg #[.int .i64 xb.f0, .int .i64 xb.f1, .int .i64 xb.f2, .int .i64 xb.f3, .string xb.f4, .string xb.f5, .int .i64 xb.f6.f0, .string xb.f6.f1, .slice Q8 q8 b8, .string xb.f6.f3, .int .i64 xb.f6.f4, .slice Q11 q11 b11]] W (JoinP W (joinE xa xb) #[.int .i64 xb.f0, .int .i64 xb.f1, .int .i64 xb.f2, .int .i64 xb.f3, .string xb.f4, .string xb.f5, .int .i64 xb.f6.f0, .string xb.f6.f1, .slice Q8 q8 b8, .string xb.f6.f3, .int .i64 xb.f6.f4, .slice Q11 q11 b11])) := Lib.hid (fun W => joined_calls W _ _ _ _ _ _ _ _ _ _ _ _ _ _ _ _ _ _ _ _ _ _ _ _ _ _ _ _ _ _ _ _)
                have HFi := Lib.hid hfi
                have HRed := Lib.hid hred
                have HFb := Lib.hid hFb
                have HKl : Hid (k < es.length) := Lib.hid (by have := HN1.out; omega)
                have hol : 2 ≤ o.length := by omega
                have HOl := Lib.hid hol
                have HLen := Lib.hid hle
                have hgx : g < wr.heap.size := hgl
                have HK2 : Hid (mj ≤ k2 + 1) := Lib.hid hk'
                have hjc : j ≤ cj := by have := (Kd.N_reads' HFi.out.row).2.1; omega
                have hjc2 : j1 < cj := by have := (Kd.N_reads' HFi.out.row).2.1; omega
                have hjl : j < mj := by omega
                have hjl1 : j1 < mj := by omega
                have hw1 : IntKind.i64.wrap ((mj : Int) - 2) = (j : Int) := by rw [show (mj : Int) - 2 = (j : Int) by omega]; exact IntWalk.i64_in _ (by omega)
                have hw2 : IntKind.i64.wrap ((mj : Int) - 1) = (j1 : Int) := by rw [show (mj : Int) - 1 = (j1 : Int) by omega]; exact IntWalk.i64_in _ (by omega)
                have hw3 : IntKind.i64.wrap (j : Int) = (j : Int) := IntWalk.i64_in _ (by omega)
                have hw4 : IntKind.i64.wrap (j1 : Int) = (j1 : Int) := IntWalk.i64_in _ (by omega)
                have hs1 : (mj : Int) - 2 = (j : Int) := by omega
                have hs2 : (mj : Int) - 1 = (j1 : Int) := by omega
                have HJM : Hid (mj = j + 2 ∧ j1 = j + 1) := Lib.hid ⟨hjm, hj1⟩
                have h1m : (1 : Int) < (mj : Int) := by omega
                clear hjm hj1 h2
                clear hfi hred hFa hFb hca hcb hcal hcbl hle hol hp8 hp11 hq8 hq11 hty HFj hgb hk' hgl
                cases hj : joinE xa xb with
                | none =>
                  have HJn : Hid (∀ W : World, Below wr.heap.size wr W → Calls Tryd.prog 24 #[.agg #[.int .i64 xa.f0, .int .i64 xa.f1, .int .i64 xa.f2, .int .i64 xa.f3, .string xa.f4, .string xa.f5, .int .i64 xa.f6.f0, .string xa.f6.f1, .slice P8 p8 d8, .string xa.f6.f3, .int .i64 xa.f6.f4, .slice P11 p11 d11], .agg #[.int .i64 xb.f0, .int .i64 xb.f1, .int .i64 xb.f2, .int .i64 xb.f3, .string xb.f4, .string xb.f5, .int .i64 xb.f6.f0, .string xb.f6.f1, .slice Q8 q8 b8, .string xb.f6.f3, .int .i64 xb.f6.f4, .slice Q11 q11 b11]] W fun u w' => ∃ A n c, u = .returned (.tuple #[.slice A n c, .bool false]) ∧ Below wr.heap.size wr w') := Lib.hid (fun W hb => (HJ0.out W).mono (fun u w' h => join_none h hj hb))
                  have HEnd : Hid (∀ W : World, Below wr.heap.size wr W → FH w W (some ⟨g, 0, none⟩) mj cj es (k + 1) ∧ mj ≤ k + 1) := Lib.hid (fun W hb => FJ.done (HFi.out.on hb) (by rw [← HRed.out, red_no HOl.out (by rw [HXa.out, HXb.out]; exact hj)]) HRd.out HKl.out)
                  clear hj HJ0
                  go_upto_region 13 with fail
                  go_region_held3 (fun W => W.cell? ⟨g, j * 12, none⟩ = some (.int .i64 xa.f0) ∧ W.cell? ⟨g, j * 12 + 1, none⟩ = some (.int .i64 xa.f1) ∧ W.cell? ⟨g, j * 12 + 2, none⟩ = some (.int .i64 xa.f2) ∧ W.cell? ⟨g, j * 12 + 3, none⟩ = some (.int .i64 xa.f3) ∧ W.cell? ⟨g, j * 12 + 4, none⟩ = some (.string xa.f4) ∧ W.cell? ⟨g, j * 12 + 5, none⟩ = some (.string xa.f5) ∧ W.cell? ⟨g, j * 12 + 6, none⟩ = some (.int .i64 xa.f6.f0) ∧ W.cell? ⟨g, j * 12 + 7, none⟩ = some (.string xa.f6.f1) ∧ W.cell? ⟨g, j * 12 + 8, none⟩ = some (.slice P8 p8 d8) ∧ W.cell? ⟨g, j * 12 + 9, none⟩ = some (.string xa.f6.f3) ∧ W.cell? ⟨g, j * 12 + 10, none⟩ = some (.int .i64 xa.f6.f4) ∧ W.cell? ⟨g, j * 12 + 11, none⟩ = some (.slice P11 p11 d11) ∧ W.cell? ⟨g, j1 * 12, none⟩ = some (.int .i64 xb.f0) ∧ W.cell? ⟨g, j1 * 12 + 1, none⟩ = some (.int .i64 xb.f1) ∧ W.cell? ⟨g, j1 * 12 + 2, none⟩ = some (.int .i64 xb.f2) ∧ W.cell? ⟨g, j1 * 12 + 3, none⟩ = some (.int .i64 xb.f3) ∧ W.cell? ⟨g, j1 * 12 + 4, none⟩ = some (.string xb.f4) ∧ W.cell? ⟨g, j1 * 12 + 5, none⟩ = some (.string xb.f5) ∧ W.cell? ⟨g, j1 * 12 + 6, none⟩ = some (.int .i64 xb.f6.f0) ∧ W.cell? ⟨g, j1 * 12 + 7, none⟩ = some (.string xb.f6.f1) ∧ W.cell? ⟨g, j1 * 12 + 8, none⟩ = some (.slice Q8 q8 b8) ∧ W.cell? ⟨g, j1 * 12 + 9, none⟩ = some (.string xb.f6.f3) ∧ W.cell? ⟨g, j1 * 12 + 10, none⟩ = some (.int .i64 xb.f6.f4) ∧ W.cell? ⟨g, j1 * 12 + 11, none⟩ = some (.slice Q11 q11 b11)) (exact HE2.out _ (by (repeat (first | refine below_alloc ?_ _ | refine below_drew ?_ | refine Below.setCell ?_ (by simp) _)); first | exact hb3 | exact Below.refl _ _)) (first | (with_reducible refine (HJn.out _ ?_).mono ?_; ((repeat (first | refine below_alloc ?_ _ | refine below_drew ?_)); exact Below.refl _ _); rintro e w3 ⟨Ar, nr, cr, rfl, hb3⟩))
                  all_goals
                    have HEn := Lib.hid (HEnd.out _ hb3)
                    clear hb3 HEnd
                    go_wp2_with fail
                    go_roundw
                    case rel => exact ⟨k + 1, mj, _, cj, by omega, by go_num, rfl, HEn.out.2, Lib.hid HEn.out.1⟩
                    case measure => simp [intOf]; omega
                | some bb =>
                  cases bb with
                  | true =>
                    have HJn : Hid (∀ W : World, Below wr.heap.size wr W → Calls Tryd.prog 24 #[.agg #[.int .i64 xa.f0, .int .i64 xa.f1, .int .i64 xa.f2, .int .i64 xa.f3, .string xa.f4, .string xa.f5, .int .i64 xa.f6.f0, .string xa.f6.f1, .slice P8 p8 d8, .string xa.f6.f3, .int .i64 xa.f6.f4, .slice P11 p11 d11], .agg #[.int .i64 xb.f0, .int .i64 xb.f1, .int .i64 xb.f2, .int .i64 xb.f3, .string xb.f4, .string xb.f5, .int .i64 xb.f6.f0, .string xb.f6.f1, .slice Q8 q8 b8, .string xb.f6.f3, .int .i64 xb.f6.f4, .slice Q11 q11 b11]] W fun u w' => ∃ g c, u = .returned (.tuple #[.slice (some ⟨g, 0, none⟩) 1 c, .bool true]) ∧ wr.heap.size ≤ g ∧ w'.heap[g]? = some (.cells #[.int .i64 xb.f0, .int .i64 xb.f1, .int .i64 xb.f2, .int .i64 xb.f3, .string xb.f4, .string xb.f5, .int .i64 xb.f6.f0, .string xb.f6.f1, .slice Q8 q8 b8, .string xb.f6.f3, .int .i64 xb.f6.f4, .slice Q11 q11 b11] 30 (0, 0)) ∧ Below wr.heap.size wr w') := Lib.hid (fun W hb => (HJ0.out W).mono (fun u w' h => join_yes h hj hb))
                    have HJt := Lib.hid hj
                    clear hj HJ0
                    go_upto_region 13 with fail
                    go_region_held3 (fun W => W.cell? ⟨g, j * 12, none⟩ = some (.int .i64 xa.f0) ∧ W.cell? ⟨g, j * 12 + 1, none⟩ = some (.int .i64 xa.f1) ∧ W.cell? ⟨g, j * 12 + 2, none⟩ = some (.int .i64 xa.f2) ∧ W.cell? ⟨g, j * 12 + 3, none⟩ = some (.int .i64 xa.f3) ∧ W.cell? ⟨g, j * 12 + 4, none⟩ = some (.string xa.f4) ∧ W.cell? ⟨g, j * 12 + 5, none⟩ = some (.string xa.f5) ∧ W.cell? ⟨g, j * 12 + 6, none⟩ = some (.int .i64 xa.f6.f0) ∧ W.cell? ⟨g, j * 12 + 7, none⟩ = some (.string xa.f6.f1) ∧ W.cell? ⟨g, j * 12 + 8, none⟩ = some (.slice P8 p8 d8) ∧ W.cell? ⟨g, j * 12 + 9, none⟩ = some (.string xa.f6.f3) ∧ W.cell? ⟨g, j * 12 + 10, none⟩ = some (.int .i64 xa.f6.f4) ∧ W.cell? ⟨g, j * 12 + 11, none⟩ = some (.slice P11 p11 d11) ∧ W.cell? ⟨g, j1 * 12, none⟩ = some (.int .i64 xb.f0) ∧ W.cell? ⟨g, j1 * 12 + 1, none⟩ = some (.int .i64 xb.f1) ∧ W.cell? ⟨g, j1 * 12 + 2, none⟩ = some (.int .i64 xb.f2) ∧ W.cell? ⟨g, j1 * 12 + 3, none⟩ = some (.int .i64 xb.f3) ∧ W.cell? ⟨g, j1 * 12 + 4, none⟩ = some (.string xb.f4) ∧ W.cell? ⟨g, j1 * 12 + 5, none⟩ = some (.string xb.f5) ∧ W.cell? ⟨g, j1 * 12 + 6, none⟩ = some (.int .i64 xb.f6.f0) ∧ W.cell? ⟨g, j1 * 12 + 7, none⟩ = some (.string xb.f6.f1) ∧ W.cell? ⟨g, j1 * 12 + 8, none⟩ = some (.slice Q8 q8 b8) ∧ W.cell? ⟨g, j1 * 12 + 9, none⟩ = some (.string xb.f6.f3) ∧ W.cell? ⟨g, j1 * 12 + 10, none⟩ = some (.int .i64 xb.f6.f4) ∧ W.cell? ⟨g, j1 * 12 + 11, none⟩ = some (.slice Q11 q11 b11)) (exact HE2.out _ (by (repeat (first | refine below_alloc ?_ _ | refine below_drew ?_ | refine Below.setCell ?_ (by simp) _)); first | exact hb3 | exact Below.refl _ _)) (first | (with_reducible refine (HJn.out _ ?_).mono ?_; ((repeat (first | refine below_alloc ?_ _ | refine below_drew ?_)); exact Below.refl _ _); rintro e w3 ⟨g4, c4, rfl, hg4, hk4, hb3⟩))
                    all_goals
                      have HTk2 : Hid (Kd.N k30 30 w3 w.heap.size (fun _ => True) (.slice (some ⟨g, 0, none⟩) j cj) (o.take j)) := Lib.hid (Kd.N_take (Kd.N_below HFi.out.row hb3) (by have := HLen.out; have := HJM.out.1; omega))
                      have HOk2 : Hid (∀ k, k ≠ g → True ∧ some k ≠ (Value.slice (some ⟨g, 0, none⟩) j cj).ownBlock) := Lib.hid (fun k hk => ⟨trivial, fun e => hk (by simpa [Value.ownBlock] using e)⟩)
                      have HBw : Hid (Below w.heap.size w w3) := Lib.hid (HFi.out.below.trans (hb3.mono HFi.out.below.size))
                      have HLt : Hid ((o.take j).length = j) := Lib.hid (by rw [List.length_take]; have := HLen.out; have := HJM.out.1; omega)
                      have HFo : Hid (Kd.F k30 w3 (fun k => k ≠ g) (some ⟨g4, 0, none⟩) 1 [xb]) := Lib.hid (F_one (cs := [.int .i64 xb.f0, .int .i64 xb.f1, .int .i64 xb.f2, .int .i64 xb.f3, .string xb.f4, .string xb.f5, .int .i64 xb.f6.f0, .string xb.f6.f1, .slice Q8 q8 b8, .string xb.f6.f3, .int .i64 xb.f6.f4, .slice Q11 q11 b11]) hk4 (Kd.FK_mono (Kd.FK_below HFb.out hb3) (fun k hk => hk.2)) (by omega))
                      have HRn : Hid (redF k2 (o.take j ++ [xb]) = R) := Lib.hid (by
                        have h := red_yes (k := k2) HOl.out (by rw [HXa.out, HXb.out]; exact HJt.out)
                        rw [HXb.out, show o.length - 2 = j from by have := HLen.out; have := HJM.out.1; omega, HRed.out] at h
                        exact h.symm)
                      clear hb3 hk4 hg4 HJn HE2 hs2 hw1 hw2 hw3 hw4
                      go_wp2_with (at_builtin; refine Kd.N_append_rows k30 (w0 := w) w.heap.size rfl _ _ 38 30 (.agg #[.int .i64 0, .int .i64 0, .int .i64 0, .int .i64 0, .string ⟨#[]⟩, .string ⟨#[]⟩, .int .i64 0, .string ⟨#[]⟩, .slice none 0 0, .string ⟨#[]⟩, .int .i64 0, .slice none 0 0]) 160 rfl Tryd.underlying38 edit_info rfl (by decide) (by decide) (.slice (some ⟨g, 0, none⟩) j cj) (o.take j) [xb] (some ⟨g4, 0, none⟩) 1 c4 (fun _ => True) (fun k => k ≠ g) rfl rfl HTk2.out HFo.out HOk2.out (fun _ _ => trivial) HBw.out HBw.out.size (by have := HLt.out; omega) ?d1)
                      case d1 =>
                        intro v1 w4 hN hB hg hat
                        have hlen : (o.take j ++ [xb]).length = j1 := by rw [List.length_append, List.length_singleton, HLt.out, HJM.out.2]
                        obtain ⟨A5, c5, ev1⟩ := Kd.N_slice hN
                        rw [hlen] at ev1
                        subst ev1
                        have HJ2 : Hid (FJ w w4 A5 j1 c5 R) := Lib.hid ⟨_, k2, ⟨hlen.symm, hN, hB⟩, by have := HK2.out; have := HJM.out; omega, HRn.out⟩
                        have hjm41 : j1 ≤ 41 := by have := HJM.out; omega
                        have hjmm : j1 < mj := hjl1
                        clear hN hB hg hat hlen hs1 hjl hjl1 hjc hjc2 h1m
                        go_wp2_with fail
                        go_roundw
                        case rel => exact ⟨A5, j1, c5, rfl, by go_num, hjm41, HJ2⟩
                        case measure => simp [intOf]; omega
                  | false =>
                    have HJn : Hid (∀ W : World, Below wr.heap.size wr W → Calls Tryd.prog 24 #[.agg #[.int .i64 xa.f0, .int .i64 xa.f1, .int .i64 xa.f2, .int .i64 xa.f3, .string xa.f4, .string xa.f5, .int .i64 xa.f6.f0, .string xa.f6.f1, .slice P8 p8 d8, .string xa.f6.f3, .int .i64 xa.f6.f4, .slice P11 p11 d11], .agg #[.int .i64 xb.f0, .int .i64 xb.f1, .int .i64 xb.f2, .int .i64 xb.f3, .string xb.f4, .string xb.f5, .int .i64 xb.f6.f0, .string xb.f6.f1, .slice Q8 q8 b8, .string xb.f6.f3, .int .i64 xb.f6.f4, .slice Q11 q11 b11]] W fun u w' => ∃ c, u = .returned (.tuple #[.slice none 0 c, .bool true]) ∧ Below wr.heap.size wr w') := Lib.hid (fun W hb => (HJ0.out W).mono (fun u w' h => join_gone' h hj hb))
                    have HJt := Lib.hid hj
                    clear hj HJ0
                    go_upto_region 13 with fail
                    go_region_held3 (fun W => W.cell? ⟨g, j * 12, none⟩ = some (.int .i64 xa.f0) ∧ W.cell? ⟨g, j * 12 + 1, none⟩ = some (.int .i64 xa.f1) ∧ W.cell? ⟨g, j * 12 + 2, none⟩ = some (.int .i64 xa.f2) ∧ W.cell? ⟨g, j * 12 + 3, none⟩ = some (.int .i64 xa.f3) ∧ W.cell? ⟨g, j * 12 + 4, none⟩ = some (.string xa.f4) ∧ W.cell? ⟨g, j * 12 + 5, none⟩ = some (.string xa.f5) ∧ W.cell? ⟨g, j * 12 + 6, none⟩ = some (.int .i64 xa.f6.f0) ∧ W.cell? ⟨g, j * 12 + 7, none⟩ = some (.string xa.f6.f1) ∧ W.cell? ⟨g, j * 12 + 8, none⟩ = some (.slice P8 p8 d8) ∧ W.cell? ⟨g, j * 12 + 9, none⟩ = some (.string xa.f6.f3) ∧ W.cell? ⟨g, j * 12 + 10, none⟩ = some (.int .i64 xa.f6.f4) ∧ W.cell? ⟨g, j * 12 + 11, none⟩ = some (.slice P11 p11 d11) ∧ W.cell? ⟨g, j1 * 12, none⟩ = some (.int .i64 xb.f0) ∧ W.cell? ⟨g, j1 * 12 + 1, none⟩ = some (.int .i64 xb.f1) ∧ W.cell? ⟨g, j1 * 12 + 2, none⟩ = some (.int .i64 xb.f2) ∧ W.cell? ⟨g, j1 * 12 + 3, none⟩ = some (.int .i64 xb.f3) ∧ W.cell? ⟨g, j1 * 12 + 4, none⟩ = some (.string xb.f4) ∧ W.cell? ⟨g, j1 * 12 + 5, none⟩ = some (.string xb.f5) ∧ W.cell? ⟨g, j1 * 12 + 6, none⟩ = some (.int .i64 xb.f6.f0) ∧ W.cell? ⟨g, j1 * 12 + 7, none⟩ = some (.string xb.f6.f1) ∧ W.cell? ⟨g, j1 * 12 + 8, none⟩ = some (.slice Q8 q8 b8) ∧ W.cell? ⟨g, j1 * 12 + 9, none⟩ = some (.string xb.f6.f3) ∧ W.cell? ⟨g, j1 * 12 + 10, none⟩ = some (.int .i64 xb.f6.f4) ∧ W.cell? ⟨g, j1 * 12 + 11, none⟩ = some (.slice Q11 q11 b11)) (exact HE2.out _ (by (repeat (first | refine below_alloc ?_ _ | refine below_drew ?_ | refine Below.setCell ?_ (by simp) _)); first | exact hb3 | exact Below.refl _ _)) (first | (with_reducible refine (HJn.out _ ?_).mono ?_; ((repeat (first | refine below_alloc ?_ _ | refine below_drew ?_)); exact Below.refl _ _); rintro e w3 ⟨c4, rfl, hb3⟩))
                    all_goals
                      have HTk2 : Hid (Kd.N k30 30 w3 w.heap.size (fun _ => True) (.slice (some ⟨g, 0, none⟩) j cj) (o.take j)) := Lib.hid (Kd.N_take (Kd.N_below HFi.out.row hb3) (by have := HLen.out; have := HJM.out.1; omega))
                      have HOk2 : Hid (∀ k, k ≠ g → True ∧ some k ≠ (Value.slice (some ⟨g, 0, none⟩) j cj).ownBlock) := Lib.hid (fun k hk => ⟨trivial, fun e => hk (by simpa [Value.ownBlock] using e)⟩)
                      have HBw : Hid (Below w.heap.size w w3) := Lib.hid (HFi.out.below.trans (hb3.mono HFi.out.below.size))
                      have HLt : Hid ((o.take j).length = j) := Lib.hid (by rw [List.length_take]; have := HLen.out; have := HJM.out.1; omega)
                      have HFo : Hid (Kd.F k30 w3 (fun k => k ≠ g) none 0 []) := Lib.hid (fun W' _ => Kd.C_nil _ W')
                      have HRn : Hid (redF k2 (o.take j) = R) := Lib.hid (by
                        have h := red_gone (k := k2) HOl.out (by rw [HXa.out, HXb.out]; exact HJt.out)
                        rw [show o.length - 2 = j from by have := HLen.out; have := HJM.out.1; omega, HRed.out] at h
                        exact h.symm)
                      clear hb3 HJn HE2 hs2 hw1 hw2 hw3 hw4
                      go_wp2_with (at_builtin; refine Kd.N_append_rows k30 (w0 := w) w.heap.size rfl _ _ 38 30 (.agg #[.int .i64 0, .int .i64 0, .int .i64 0, .int .i64 0, .string ⟨#[]⟩, .string ⟨#[]⟩, .int .i64 0, .string ⟨#[]⟩, .slice none 0 0, .string ⟨#[]⟩, .int .i64 0, .slice none 0 0]) 160 rfl Tryd.underlying38 edit_info rfl (by decide) (by decide) (.slice (some ⟨g, 0, none⟩) j cj) (o.take j) [] none 0 c4 (fun _ => True) (fun k => k ≠ g) rfl rfl HTk2.out HFo.out HOk2.out (fun _ _ => trivial) HBw.out HBw.out.size (by have := HLt.out; omega) ?d1)
                      case d1 =>
                        intro v1 w4 hN hB hg hat
                        try simp only [List.append_nil] at hN
                        have hlen : (o.take j).length = j := HLt.out
                        obtain ⟨A5, c5, ev1⟩ := Kd.N_slice hN
                        rw [hlen] at ev1
                        subst ev1
                        have HJ2 : Hid (FJ w w4 A5 j c5 R) := Lib.hid ⟨_, k2, ⟨hlen.symm, hN, hB⟩, by have := HK2.out; have := HJM.out; omega, HRn.out⟩
                        have hjm41 : j ≤ 41 := by omega
                        have hjmm : j < mj := hjl
                        clear hN hB hg hat hlen hs1 hjl hjl1 hjc hjc2 h1m
                        go_wp2_with fail
                        go_roundw
                        case rel => exact ⟨A5, j, c5, rfl, by go_num, hjm41, HJ2⟩
                        case measure => simp [intOf]; omega
              · have hm1 : (mj : Int) ≤ 1 := by omega
                have HEnd : Hid (FH w wr Aj mj cj es (k + 1) ∧ mj ≤ k + 1) := Lib.hid (by
                  obtain ⟨o, k', hfi, hk', hred⟩ := HFj.out
                  exact FJ.done hfi (by rw [← hred, red_short (by have := hfi.len; omega)]) HRd.out (by have := HN1.out; omega))
                clear h2
                go_wp2_with fail
                go_roundw
                case rel => exact ⟨k + 1, mj, Aj, cj, by omega, by go_num, rfl, HEnd.out.2, Lib.hid HEnd.out.1⟩
                case measure => simp [intOf]; omega
      · obtain rfl : k = n1 := by omega
        have HF2 : Hid (FI w wr B mm d (foldF es)) := Lib.hid (by have h := HF.out; unfold FH at h; rw [HTk.out] at h; exact h)
        clear HF
        go_wp2_with fail
        go_ret2
        exact ⟨_, _, _, rfl, HF2.out.below, fun _ => HF2.out, fun h => absurd rfl h⟩
  · have e0 : (er == 0) = false := by simpa using h0
    have e1 : (er != 0) = true := by simpa using h0
    have HZ : Hid (er ≠ 0) := Lib.hid h0
    clear h0
    go_wp2_with fail
    go_ret2
    exact ⟨_, _, _, rfl, (by (repeat (first | refine below_alloc ?_ _ | refine below_drew ?_ | refine Below.setCell ?_ (by have := HB.out.size; simp; omega) _)); exact HB.out), fun h => absurd h HZ.out, fun _ => rfl⟩
end Go.Proofs.YthfalaabfgpjmaaDoor.ApA
