/- apartBegun walked: it returns true. -/
import Derived.Test.YthfalaabfgpjmaaDoorApH
namespace Go.Proofs.YthfalaabfgpjmaaDoor.ApA
open Go.RowKit Go.Proofs.YthfalaabfgpjmaaDoorW.PrintWords Go.Proofs.YthfalaabfgpjmaaDoorW.PrintLast Go.Proofs.YthfalaabfgpjmaaDoorW.PrintMore Go.Proofs.YthfalaabfgpjmaaDoor.PAP Go.Proofs.YthfalaabfgpjmaaDoor.DocP Go.Proofs.YthfalaabfgpjmaaDoor.DocC
set_option linter.unusedVariables false
set_option linter.unusedSimpArgs false
set_option maxHeartbeats 4000000 in
set_option maxRecDepth 100000 in
theorem begun_calls (w : World) : Calls Tryd.prog 8 #[] w fun e w' => e = .returned (.bool true) ∧ Below w.heap.size w w' := by
  obtain ⟨W, hW⟩ : ∃ W, W = ((((w.alloc (.cells #[.int .i64 1] 3)).alloc (.cells #[.int .i64 1, .string ⟨#[]⟩, .slice none 0 0, .string ⟨#[]⟩, .int .i64 (-1), .slice (some ⟨w.heap.size, 0, none⟩) 1 1, .int .i64 4, .string ⟨#[]⟩, .slice none 0 0, .string ⟨#[99]⟩, .int .i64 0, .slice none 0 0] 28)).alloc (.cells #[.slice (some ⟨w.heap.size + 1, 0, none⟩) 2 2, .bool false] 24)).alloc (.cells #[.int .i64 3, .int .i64 1, .int .i64 0, .int .i64 0, .string ⟨#[]⟩, .string ⟨#[97]⟩, .int .i64 0, .string ⟨#[]⟩, .slice none 0 0, .string ⟨#[]⟩, .int .i64 0, .slice none 0 0, .int .i64 3, .int .i64 1, .int .i64 0, .int .i64 0, .string ⟨#[]⟩, .string ⟨#[98]⟩, .int .i64 0, .string ⟨#[]⟩, .slice none 0 0, .string ⟨#[]⟩, .int .i64 0, .slice none 0 0] 30)) := ⟨_, rfl⟩
  have h0 : W.heap[w.heap.size]? = some (.cells #[.int .i64 1] 3 (0, 0)) := by rw [hW]; exact blk_below (blk_new w _) (below_alloc (below_alloc (below_alloc (Below.refl _ _) _) _) _)
  have h1 : W.heap[w.heap.size + 1]? = some (.cells #[.int .i64 1, .string ⟨#[]⟩, .slice none 0 0, .string ⟨#[]⟩, .int .i64 (-1), .slice (some ⟨w.heap.size, 0, none⟩) 1 1, .int .i64 4, .string ⟨#[]⟩, .slice none 0 0, .string ⟨#[99]⟩, .int .i64 0, .slice none 0 0] 28 (0, 0)) := by rw [hW]; exact blk_below (by simpa using blk_new (w.alloc (.cells #[.int .i64 1] 3)) (.cells #[.int .i64 1, .string ⟨#[]⟩, .slice none 0 0, .string ⟨#[]⟩, .int .i64 (-1), .slice (some ⟨w.heap.size, 0, none⟩) 1 1, .int .i64 4, .string ⟨#[]⟩, .slice none 0 0, .string ⟨#[99]⟩, .int .i64 0, .slice none 0 0] 28)) (below_alloc (below_alloc (Below.refl _ _) _) _)
  have h2 : W.heap[w.heap.size + 1 + 1]? = some (.cells #[.slice (some ⟨w.heap.size + 1, 0, none⟩) 2 2, .bool false] 24 (0, 0)) := by rw [hW]; exact blk_below (by simpa using blk_new ((w.alloc (.cells #[.int .i64 1] 3)).alloc (.cells #[.int .i64 1, .string ⟨#[]⟩, .slice none 0 0, .string ⟨#[]⟩, .int .i64 (-1), .slice (some ⟨w.heap.size, 0, none⟩) 1 1, .int .i64 4, .string ⟨#[]⟩, .slice none 0 0, .string ⟨#[99]⟩, .int .i64 0, .slice none 0 0] 28)) (.cells #[.slice (some ⟨w.heap.size + 1, 0, none⟩) 2 2, .bool false] 24)) (below_alloc (Below.refl _ _) _)
  have h3 : W.heap[w.heap.size + 1 + 1 + 1]? = some (.cells #[.int .i64 3, .int .i64 1, .int .i64 0, .int .i64 0, .string ⟨#[]⟩, .string ⟨#[97]⟩, .int .i64 0, .string ⟨#[]⟩, .slice none 0 0, .string ⟨#[]⟩, .int .i64 0, .slice none 0 0, .int .i64 3, .int .i64 1, .int .i64 0, .int .i64 0, .string ⟨#[]⟩, .string ⟨#[98]⟩, .int .i64 0, .string ⟨#[]⟩, .slice none 0 0, .string ⟨#[]⟩, .int .i64 0, .slice none 0 0] 30 (0, 0)) := by rw [hW]; simpa using blk_new (((w.alloc (.cells #[.int .i64 1] 3)).alloc (.cells #[.int .i64 1, .string ⟨#[]⟩, .slice none 0 0, .string ⟨#[]⟩, .int .i64 (-1), .slice (some ⟨w.heap.size, 0, none⟩) 1 1, .int .i64 4, .string ⟨#[]⟩, .slice none 0 0, .string ⟨#[99]⟩, .int .i64 0, .slice none 0 0] 28)).alloc (.cells #[.slice (some ⟨w.heap.size + 1, 0, none⟩) 2 2, .bool false] 24)) (.cells #[.int .i64 3, .int .i64 1, .int .i64 0, .int .i64 0, .string ⟨#[]⟩, .string ⟨#[97]⟩, .int .i64 0, .string ⟨#[]⟩, .slice none 0 0, .string ⟨#[]⟩, .int .i64 0, .slice none 0 0, .int .i64 3, .int .i64 1, .int .i64 0, .int .i64 0, .string ⟨#[]⟩, .string ⟨#[98]⟩, .int .i64 0, .string ⟨#[]⟩, .slice none 0 0, .string ⟨#[]⟩, .int .i64 0, .slice none 0 0] 30)
  have hbW : Below w.heap.size w W := by rw [hW]; exact below_alloc (below_alloc (below_alloc (below_alloc (Below.refl _ _) _) _) _) _
  have HFold : Hid (Calls Tryd.prog 11 #[.agg #[.slice (some ⟨w.heap.size + 1, 0, none⟩) 2 2, .bool false], .slice (some ⟨w.heap.size + 1 + 1 + 1, 0, none⟩) 2 2] W (FoldP W 0 [edT ⟨#[97]⟩, edT ⟨#[98]⟩])) := Lib.hid (fold_calls all_begun (by decide) (fun x hx => by
    have h : x = edT ⟨#[97]⟩ ∨ x = edT ⟨#[98]⟩ := by simpa using hx
    rcases h with rfl | rfl <;> exact ⟨by decide, by decide⟩) (some ⟨w.heap.size + 1, 0, none⟩) (some ⟨w.heap.size + 1 + 1 + 1, 0, none⟩) 2 2 W (doc_reads h0 h1) (by decide) (two_reads h3) (by decide))
  have HW := Lib.hid hW
  have H2 := Lib.hid h2
  have HBW := Lib.hid hbW
  have HDR : Hid (Kd.C k28 W (some ⟨w.heap.size + 1, 0, none⟩) 2 dc0) := Lib.hid (doc_reads h0 h1)
  clear h0 h1 h2 h3 hbW hW
  go_enter Tryd.func8, Tryd.ntmps8
  go_wp2_with fail
  rw [← HW.out]
  refine HFold.out.mono ?_
  rintro u w1 ⟨A', m', c', rfl, hb1, hfi, -⟩
  have hfi2 := hfi rfl
  rw [fold_begun] at hfi2
  have hm : m' = 1 := hfi2.len
  subst hm
  obtain ⟨g, cap, hv, hgb, hgl, cells, hty⟩ := Kd.N_form hfi2.row (by decide)
  injection hv with hA hn2 hc2
  subst hA
  clear hn2 hc2
  obtain ⟨ca, hcal, hFa, hca, -⟩ := Kd.N_elem hfi2.row z30 0 (by decide) (by decide)
  obtain ⟨P8, d8, P11, d11, hcs, -, -, -, -⟩ := k30_open (Kd.FK_now hFa)
  subst hcs
  have e5 : w1.cell? ⟨g, 5, none⟩ = some (.string ⟨#[98]⟩) := hca 5 _ rfl
  have hbx := blk_below H2.out hb1
  have p0 : w1.cell? ⟨w.heap.size + 1 + 1, 0, none⟩ = some (.slice (some ⟨w.heap.size + 1, 0, none⟩) 2 2) := (blk_cell hbx 0).trans rfl
  have p1 : w1.cell? ⟨w.heap.size + 1 + 1, 1, none⟩ = some (.bool false) := (blk_cell hbx 1).trans rfl
  have HCl : Hid (∀ W' : World, Below w1.heap.size w1 W' → Calls Tryd.prog 7 #[.agg #[.slice (some ⟨w.heap.size + 1, 0, none⟩) 2 2, .bool false], .agg #[.int .i64 3, .int .i64 1, .int .i64 0, .int .i64 0, .string ⟨#[]⟩, .string ⟨#[]⟩, .int .i64 0, .string ⟨#[]⟩, .slice none 0 0, .string ⟨#[]⟩, .int .i64 0, .slice none 0 0], .agg #[.int .i64 6, .int .i64 1, .int .i64 0, .int .i64 0, .string ⟨#[]⟩, .string ⟨#[]⟩, .int .i64 0, .string ⟨#[]⟩, .slice none 0 0, .string ⟨#[]⟩, .int .i64 0, .slice none 0 0]] W' fun u w' => u = .returned (.tuple #[.bool true, .int .i64 0]) ∧ Below W'.heap.size W' w') :=
    Lib.hid (fun W' hb => clash_begun _ 2 W' (Kd.C_below HDR.out (hb1.trans (hb.mono hb1.size))) (by decide))
  have HB1 : Hid (Below w.heap.size w w1) := Lib.hid (HBW.out.trans (hb1.mono HBW.out.size))
  clear hb1 hfi hfi2 hgb hgl hty hcal hFa hca hbx HFold HW H2 HDR
  go_wp2_with fail
  refine (HCl.out _ (Below.refl _ _)).mono ?_
  rintro u w2 ⟨rfl, hb2⟩
  have e6 := pw_cell_below hb2 e5
  have HB2 := Lib.hid (HB1.out.trans (hb2.mono HB1.out.size))
  clear e5 p0 p1 hb2 HCl
  go_wp2_with fail
  go_ret
  exact ⟨rfl, HB2.out⟩
end Go.Proofs.YthfalaabfgpjmaaDoor.ApA
