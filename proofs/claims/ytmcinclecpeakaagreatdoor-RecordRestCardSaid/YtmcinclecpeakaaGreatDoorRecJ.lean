import Derived.Test.YtmcinclecpeakaaGreatDoorGRecR
import Derived.Test.YtmcinclecpeakaaGreatDoorRecX
/- Package record: Redo (written by mkrecj.py). -/
namespace Go.Proofs.YtmcinclecpeakaaGreatDoor.ApA
open Go.RowKit Go.Proofs.YtmcinclecpeakaaGreatDoorW.PrintWords Go.Proofs.YtmcinclecpeakaaGreatDoorW.PrintLast Go.Proofs.YtmcinclecpeakaaGreatDoorW.PrintMore Go.Proofs.YtmcinclecpeakaaGreatDoor.PRR Go.Proofs.YtmcinclecpeakaaGreatDoor.DocP Go.Proofs.YtmcinclecpeakaaGreatDoor.DocC
set_option linter.unusedVariables false
set_option linter.unusedSimpArgs false
theorem results_ct1 {P : Program} {fn : Func} {p u : Tmp} {ty : TypeId} (h : fn.results = #[.cell p ty, .tmp u]) (tmps : Array Value) (w : World) (g : Nat) (t : TypeId) (cs : Array Value) (fr : Nat × Nat) (d : TypeDesc)
    (hp : tmps.getD p undef = .pointer (some ⟨g, 0, none⟩)) (hg : w.heap[g]? = some (.cells cs t fr))
    (hu : P.underlying ty = some d) (hd : (match d with | .struct _ | .array _ _ => true | _ => false) = true) (hi : (P.info? ty).map (·.size) = some cs.size) :
    (results fn tmps).run P w = .ok (.tuple #[.agg cs, tmps.getD u undef]) w := by
  have hp' : tmps[p]?.getD undef = .pointer (some ⟨g, 0, none⟩) := by simpa using hp
  simp [results, h, hp', asAddr, run_loadVar_row w g t ty cs fr d hg hu hd hi]
theorem edit_info2 : (Tryz.prog.info? 45).map (fun i => (i.zero, i.size, i.bytes)) = some (some (.agg #[.int .i64 0, .int .i64 0, .int .i64 0, .int .i64 0, .string ⟨#[]⟩, .string ⟨#[]⟩, .int .i64 0, .string ⟨#[]⟩, .slice none 0 0, .string ⟨#[]⟩, .int .i64 0, .slice none 0 0]), 12, 160) := by kernel_rfl
theorem steps_at2 {w : World} {B : Option Addr} {ss : List Stp} (h : Kd.C k48 w B ss.length ss) : ∃ (R : Nat → Option Addr × Option Addr × Nat × Nat), ∀ j : Nat, j < ss.length → (∃ ad, B = some ad ∧ SC w ad j (rd_T48 ss j) (R j)) ∧ (rd_T48 ss j).f0.f6.f2.length ≤ (R j).2.2.1 ∧ Kd.C k66 w (R j).1 (rd_T48 ss j).f0.f6.f2.length (rd_T48 ss j).f0.f6.f2 ∧ (rd_T48 ss j).f0.f6.f5.length ≤ (R j).2.2.2 ∧ Kd.C (Kd.int .i64) w (R j).2.1 (rd_T48 ss j).f0.f6.f5.length (rd_T48 ss j).f0.f6.f5 := by
  have hx : ∀ j : Nat, j < ss.length → ∃ r : Option Addr × Option Addr × Nat × Nat, (∃ ad, B = some ad ∧ SC w ad j (rd_T48 ss j) r) ∧ (rd_T48 ss j).f0.f6.f2.length ≤ r.2.2.1 ∧ Kd.C k66 w r.1 (rd_T48 ss j).f0.f6.f2.length (rd_T48 ss j).f0.f6.f2 ∧ (rd_T48 ss j).f0.f6.f5.length ≤ r.2.2.2 ∧ Kd.C (Kd.int .i64) w r.2.1 (rd_T48 ss j).f0.f6.f5.length (rd_T48 ss j).f0.f6.f5 := fun j hj => by
    obtain ⟨ad', A8, c8, A11, c11, e1, x0, x1, x2, x3, x4, x5, x6, x7, x8, x9, x10, x11, x12, x13, x14, x15, g8l, g8, g11l, g11⟩ := at_T48 h (j : Int) (by omega) (by omega)
    rw [Int.toNat_natCast] at x0 x1 x2 x3 x4 x5 x6 x7 x8 x9 x10 x11 x12 x13 x14 x15
    exact ⟨(A8, A11, c8, c11), ⟨ad', e1, ⟨x0, x1, x2, x3, x4, x5, x6, x7, x8, x9, x10, x11, x12, x13, x14, x15⟩⟩, g8l, g8, g11l, g11⟩
  refine ⟨fun j => if hj : j < ss.length then Classical.choose (hx j hj) else (none, none, 0, 0), fun j hj => ?_⟩
  simp only [dif_pos hj]
  exact Classical.choose_spec (hx j hj)
/-- An edit's cells, out of its step. -/
def ecF (x : Stp) (r : Option Addr × Option Addr × Nat × Nat) : List Value := [.int .i64 x.f0.f0, .int .i64 x.f0.f1, .int .i64 x.f0.f2, .int .i64 x.f0.f3, .string x.f0.f4, .string x.f0.f5, .int .i64 x.f0.f6.f0, .string x.f0.f6.f1, .slice r.1 x.f0.f6.f2.length r.2.2.1, .string x.f0.f6.f3, .int .i64 x.f0.f6.f4, .slice r.2.1 x.f0.f6.f5.length r.2.2.2]
def zeE : List Value := [.int .i64 0, .int .i64 0, .int .i64 0, .int .i64 0, .string ⟨#[]⟩, .string ⟨#[]⟩, .int .i64 0, .string ⟨#[]⟩, .slice none 0 0, .string ⟨#[]⟩, .int .i64 0, .slice none 0 0]
/-- The edits' row behind k rounds. -/
def rowsE (ss : List Stp) (R : Nat → Option Addr × Option Addr × Nat × Nat) (n k : Nat) : List (List Value) := (List.range n).map fun j => if j < k then ecF (rd_T48 ss j) (R j) else zeE
theorem rowsE_zero (ss : List Stp) (R : Nat → Option Addr × Option Addr × Nat × Nat) (n : Nat) : rowsE ss R n 0 = List.replicate n zeE := by
  unfold rowsE
  apply List.ext_getElem?
  intro j
  by_cases hj : j < n
  · rw [List.getElem?_map, List.getElem?_range hj, List.getElem?_replicate, if_pos hj]
    rfl
  · rw [List.getElem?_eq_none (by simp; omega), List.getElem?_eq_none (by simp; omega)]
theorem rowsE_len (ss : List Stp) (R : Nat → Option Addr × Option Addr × Nat × Nat) (n k : Nat) : (rowsE ss R n k).length = n := by unfold rowsE; simp
theorem rowsE_get (ss : List Stp) (R : Nat → Option Addr × Option Addr × Nat × Nat) {n k j : Nat} (hj : j < n) : (rowsE ss R n k)[j]? = some (if j < k then ecF (rd_T48 ss j) (R j) else zeE) := by
  unfold rowsE
  rw [List.getElem?_map, List.getElem?_range hj]
  rfl
theorem rowsE_set (ss : List Stp) (R : Nat → Option Addr × Option Addr × Nat × Nat) {n k : Nat} (hk : k < n) : (rowsE ss R n k).set k (ecF (rd_T48 ss k) (R k)) = rowsE ss R n (k + 1) := by
  apply List.ext_getElem?
  intro j
  by_cases hj : j < n
  · rw [List.getElem?_set, rowsE_get ss R hj, rowsE_get ss R hj, rowsE_len]
    by_cases he : k = j
    · subst he
      simp [hj]
    · rw [if_neg he]
      by_cases h : j < k
      · rw [if_pos h, if_pos (by omega)]
      · rw [if_neg h, if_neg (by omega)]
  · rw [List.getElem?_eq_none (by rw [List.length_set, rowsE_len]; omega), List.getElem?_eq_none (by rw [rowsE_len]; omega)]
theorem ecF_len (x : Stp) (r : Option Addr × Option Addr × Nat × Nat) : (ecF x r).length = 12 := rfl
theorem ecF_one (x : Stp) (r : Option Addr × Option Addr × Nat × Nat) : ∀ u ∈ ecF x r, u.oneCell' = true := by
  intro u hu
  unfold ecF at hu
  simp only [List.mem_cons, List.mem_nil_iff, or_false] at hu
  rcases hu with rfl | rfl | rfl | rfl | rfl | rfl | rfl | rfl | rfl | rfl | rfl | rfl <;> rfl
/-- The loop's head in Redo. -/
structure RJ (w W : World) (q : Bool) (A : Option Addr) (n c : Nat) (v : Value) (ss : List Stp) (R : Nat → Option Addr × Option Addr × Nat × Nat) (k : Nat) : Prop where
  below : Below w.heap.size w W
  b0 : W.heap[w.heap.size]? = some (.cells #[.slice A n c, .bool q] 24 (0, 0))
  b1 : W.heap[w.heap.size + 1]? = some (.cells #[.slice none 0 0, .bool false] 24 (0, 0))
  row : Kd.R (Kd.raw 12) 45 W w.heap.size (fun _ => True) v (rowsE ss R ss.length k)
/-- The row, read as edits. -/
theorem RJ.reads {w W : World} {q : Bool} {A : Option Addr} {n c m cap : Nat} {A1 : Option Addr} {ss : List Stp} {R : Nat → Option Addr × Option Addr × Nat × Nat} (h : RJ w W q A n c (.slice A1 m cap) ss R ss.length) (h40 : ss.length ≤ 40)
    (hx : ∀ j : Nat, j < ss.length → (rd_T48 ss j).f0.f6.f2.length ≤ (R j).2.2.1 ∧ Kd.C k66 w (R j).1 (rd_T48 ss j).f0.f6.f2.length (rd_T48 ss j).f0.f6.f2 ∧ (rd_T48 ss j).f0.f6.f5.length ≤ (R j).2.2.2 ∧ Kd.C (Kd.int .i64) w (R j).2.1 (rd_T48 ss j).f0.f6.f5.length (rd_T48 ss j).f0.f6.f5) :
    m = ss.length ∧ m ≤ cap ∧ Kd.C k45 W A1 (ss.map (·.f0)).length (ss.map (·.f0)) := by
  obtain ⟨h1, h2, h3⟩ := Kd.R_reads' h.row
  rw [rowsE_len] at h1 h3
  refine ⟨h1, h2, rfl, by rw [List.length_map]; omega, fun hp => ?_⟩
  rw [List.length_map] at hp
  obtain ⟨ad, e, hc⟩ := h3.2.2 hp
  refine ⟨ad, e, fun j p hj => ?_⟩
  have hjl : j < ss.length := by
    have := (List.getElem?_eq_some_iff.1 hj).1
    simpa using this
  have hp : p = (rd_T48 ss j).f0 := by
    rw [List.getElem?_map, List.getElem?_eq_getElem hjl] at hj
    unfold rd_T48
    rw [Int.toNat_natCast, List.getD_eq_getElem?_getD, List.getElem?_eq_getElem hjl]
    simpa using hj.symm
  subst hp
  obtain ⟨cs, hl, hK, hcc⟩ := hc j _ (rowsE_get ss R hjl)
  rw [if_pos hjl] at hK
  have hK1 : cs = ecF (rd_T48 ss j) (R j) := hK.1
  obtain ⟨g8l, g8, g11l, g11⟩ := hx j hjl
  refine ⟨cs, hl, ?_, hcc⟩
  rw [hK1]
  exact k45_mk W (rd_T48 ss j).f0 g8l (Kd.C_below g8 h.below) g11l (Kd.C_below g11 h.below)
set_option maxRecDepth 100000 in
set_option maxHeartbeats 8000000 in
theorem redo_calls {q : Bool} {l l2 : List S43} {ss : List Stp} (hrec : Rec q l ss l2) (h40 : ss.length ≤ 40) (A B : Option Addr) (c d : Nat) (w : World) (hr : Kd.C k43 w A l.length l) (hc : l.length ≤ c) (hrs : Kd.C k48 w B ss.length ss) :
    Calls Tryz.prog 13 #[.agg #[.slice A l.length c, .bool q], .slice B ss.length d] w fun u w' => ∃ A' n' c', u = .returned (.tuple #[.agg #[.slice A' n' c', .bool q], .int .i64 0]) ∧ n' = l2.length ∧ n' ≤ c' ∧ Kd.C k43 w' A' l2.length l2 ∧ Below w.heap.size w w' := by
  obtain ⟨n, hn⟩ : ∃ n, n = l.length := ⟨_, rfl⟩
  obtain ⟨n1, hn1⟩ : ∃ n1, n1 = ss.length := ⟨_, rfl⟩
  obtain ⟨R, hR⟩ := steps_at2 hrs
  have HAll : Hid (∀ (W : World) (A1 : Option Addr) (c1 : Nat), Below w.heap.size w W → ss.length ≤ c1 → Kd.C k45 W A1 (ss.map (·.f0)).length (ss.map (·.f0)) → Calls Tryz.prog 10 #[.agg #[.slice A n c, .bool q], .slice A1 n1 c1] W fun u w' => ∃ A' n' c', u = .returned (.tuple #[.agg #[.slice A' n' c', .bool q], .int .i64 0, .int .i64 0]) ∧ n' = l2.length ∧ Kd.S k43 43 w' W.heap.size (fun _ => True) (.slice A' n' c') l2 ∧ Below W.heap.size W w') := Lib.hid (fun W A1 c1 hb hc1 h1 => by
    obtain ⟨k, hk⟩ := ev_at (hrec.run.all (by rw [List.length_map]; exact h40))
    have h := dom_All.calls k A c l q A1 c1 (ss.map (·.f0)) l2 q 0 0 W (Kd.C_below hr hb) hc h1 (by rw [List.length_map]; exact hc1) hk
    rw [List.length_map, ← hn1, ← hn] at h
    refine h.mono ?_
    rintro u w' ⟨v, rfl, hS, hb'⟩
    obtain ⟨A', c', rfl⟩ := Kd.S_slice hS
    exact ⟨A', _, c', rfl, rfl, hS, hb'⟩)
  have HR := Lib.hid hR
  have HL := Lib.hid (⟨hn, hn1, h40⟩ : _ ∧ _ ∧ _)
  rw [← hn, ← hn1]
  have h40' : n1 ≤ 40 := by omega
  clear hn hn1 hr hc hrs hrec hR h40
  have hb0 : Below w.heap.size w ((w.alloc (.cells #[.slice A n c, .bool q] 24)).alloc (.cells #[.slice none 0 0, .bool false] 24)) := below_alloc (below_alloc (Below.refl _ _) _) _
  have k0 : ((w.alloc (.cells #[.slice A n c, .bool q] 24)).alloc (.cells #[.slice none 0 0, .bool false] 24)).heap[w.heap.size]? = some (.cells #[.slice A n c, .bool q] 24 (0, 0)) := blk_below (blk_new w _) (below_alloc (Below.refl _ _) _)
  have k1 : ((w.alloc (.cells #[.slice A n c, .bool q] 24)).alloc (.cells #[.slice none 0 0, .bool false] 24)).heap[w.heap.size + 1]? = some (.cells #[.slice none 0 0, .bool false] 24 (0, 0)) := by simpa using blk_new (w.alloc (.cells #[.slice A n c, .bool q] 24)) (.cells #[.slice none 0 0, .bool false] 24)
  have HB0 := Lib.hid (⟨hb0, k0, k1⟩ : _ ∧ _ ∧ _)
  clear hb0 k0 k1
  go_enter Tryz.func13, Tryz.ntmps13
  go_upto_region 1 with fail
  obtain ⟨W0, hW0⟩ : ∃ W0, W0 = (w.alloc (.cells #[.slice A n c, .bool q] 24)).alloc (.cells #[.slice none 0 0, .bool false] 24) := ⟨_, rfl⟩
  rw [← hW0] at HB0 ⊢
  clear hW0
  go_wp2_with ((with_reducible refine gate_dst (N := 14) rfl ?_); (try (refine gate_guard (by rfl) ?_; dsimp only)); refine Kd.R_make (Kd.raw 12) (w0 := w) w.heap.size 45 rfl (N := 14) rfl 25 _ _ rfl (n1 : Int) rfl rfl Tryz.underlying25 (.agg #[.int .i64 0, .int .i64 0, .int .i64 0, .int .i64 0, .string ⟨#[]⟩, .string ⟨#[]⟩, .int .i64 0, .string ⟨#[]⟩, .slice none 0 0, .string ⟨#[]⟩, .int .i64 0, .slice none 0 0]) 160 edit_info2 rfl (by decide) (by decide) zeE (ok := fun _ => True) (okp := fun _ => True) ⟨rfl, rfl, by decide⟩ (fun _ hk => hk) trivial (Int.natCast_nonneg _) (by rw [Int.toNat_natCast]; omega) HB0.out.1 HB0.out.1.size ?c1)
  case c1 =>
    intro v1 w1 hR1 hb1 hg1 bq hbq hlq
    rw [← rowsE_zero ss R n1] at hR1
    obtain ⟨A1, cap1, ev1⟩ := Kd.R_slice hR1
    rw [rowsE_len] at ev1
    subst ev1
    have HJ : Hid (RJ w w1 q A n c (.slice A1 n1 cap1) ss R 0) := Lib.hid ⟨hb1, blk_grown HB0.out.2.1 hg1 (by simp), blk_grown HB0.out.2.2 hg1 (by simp), by rw [← HL.out.2.1]; exact hR1⟩
    clear hR1 hb1 hg1 hbq hlq
    go_wp2_with fail
    go_loopw [17] (fun s17 wr => ∃ k : Nat, k ≤ n1 ∧ s17 = .int .i64 k ∧ Hid (RJ w wr q A n c (.slice A1 n1 cap1) ss R k)) (fun s17 _ => n1 - (intOf s17).toNat)
    case atStart => exact ⟨0, Nat.zero_le _, rfl, HJ⟩
    case round =>
      obtain ⟨k, hk, rfl, HF⟩ := hrel
      clear HJ
      by_cases hlt : k < n1
      · obtain ⟨⟨ad, rfl, hSC⟩, -⟩ := HR.out k (by rw [← HL.out.2.1]; exact hlt)
        obtain ⟨x0, x1, x2, x3, x4, x5, x6, x7, x8, x9, x10, x11, x12, x13, x14, x15⟩ := hSC.below HF.out.below
        obtain ⟨g, cap, hv, hgb, hgl, cells, hty⟩ := Kd.R_form HF.out.row (by rw [rowsE_len, ← HL.out.2.1]; omega)
        injection hv with hA hn2 hc2
        subst hA
        clear hn2 hc2
        obtain ⟨cl, hcl, hM, hcc, hfr⟩ := Kd.R_elem HF.out.row [] (k : Int) (by omega) (by omega)
        rw [Int.toNat_natCast] at hM hcc hfr
        have hM1 : cl = zeE := by
          have h := hM.1
          rw [List.getD_eq_getElem?_getD, rowsE_get ss R (by rw [← HL.out.2.1]; exact hlt), if_neg (Nat.lt_irrefl k)] at h
          exact h
        subst hM1
        have HN : Hid (∀ W0 : World, Below wr.heap.size wr W0 → RJ w (W0.setCells g (k * 12 + 0) (ecF (rd_T48 ss k) (R k))) q A n c (.slice (some ⟨g, 0, none⟩) n1 cap1) ss R (k + 1)) := Lib.hid (fun W0 hb => by
          have h := Kd.R_seg (d := Kd.raw 12) (okp := fun _ => False) (Kd.R_below HF.out.row hb) (k : Int) (by omega) (by omega) (c := zeE) (seg := ecF (rd_T48 ss k) (R k)) (j := 0) rfl (fun j u hu => by rw [Int.toNat_natCast]; exact pw_cell_below hb (hcc j u hu)) (by show 0 + 12 ≤ 12; decide) (x' := ecF (rd_T48 ss k) (R k)) ⟨by rfl, ecF_len _ _, ecF_one _ _⟩ (fun _ h => h.elim)
          rw [Int.toNat_natCast] at h
          have hne : ∀ {b : Nat} {cs : Array Value}, W0.heap[b]? = some (.cells cs 24 (0, 0)) → some b ≠ some g := fun hb' he => by
            injection he with he
            subst he
            exact blk_ne hb' (blk_below hty hb) (by decide) rfl
          have h0 := blk_below HF.out.b0 hb
          have h1 := blk_below HF.out.b1 hb
          refine ⟨(HF.out.below.trans (hb.mono HF.out.below.size)).grown h.2 (Nat.le_trans HF.out.below.size hb.size) (fun j hj => by injection hj with hj; omega), blk_grown h0 h.2 (hne h0), blk_grown h1 h.2 (hne h1), ?_⟩
          have h2 := h.1
          rw [rowsE_set ss R (by rw [← HL.out.2.1]; exact hlt)] at h2
          exact h2)
        generalize rd_T48 ss (k : Int) = x at *
        generalize R k = r at *
        unfold ecF at HN
        obtain ⟨n8, hn8⟩ : ∃ n8, n8 = x.f0.f6.f2.length := ⟨_, rfl⟩
        obtain ⟨n11, hn11⟩ : ∃ n11, n11 = x.f0.f6.f5.length := ⟨_, rfl⟩
        rw [← hn8] at x8 HN
        rw [← hn11] at x11 HN
        clear hn8 hn11
        go_upto_region 5 with fail
        obtain ⟨W0, hW0⟩ : ∃ W0, W0 = wr.alloc (.cells #[.int .i64 x.f0.f0, .int .i64 x.f0.f1, .int .i64 x.f0.f2, .int .i64 x.f0.f3, .string x.f0.f4, .string x.f0.f5, .int .i64 x.f0.f6.f0, .string x.f0.f6.f1, .slice r.1 n8 r.2.2.1, .string x.f0.f6.f3, .int .i64 x.f0.f6.f4, .slice r.2.1 n11 r.2.2.2, .bool x.f1, .string x.f2, .int .i64 x.f3, .int .i64 x.f4] 48) := ⟨_, rfl⟩
        have hb0 : Below wr.heap.size wr W0 := by rw [hW0]; exact below_alloc (Below.refl _ _) _
        have hk0 : W0.heap[wr.heap.size]? = some (.cells #[.int .i64 x.f0.f0, .int .i64 x.f0.f1, .int .i64 x.f0.f2, .int .i64 x.f0.f3, .string x.f0.f4, .string x.f0.f5, .int .i64 x.f0.f6.f0, .string x.f0.f6.f1, .slice r.1 n8 r.2.2.1, .string x.f0.f6.f3, .int .i64 x.f0.f6.f4, .slice r.2.1 n11 r.2.2.2, .bool x.f1, .string x.f2, .int .i64 x.f3, .int .i64 x.f4] 48 (0, 0)) := by rw [hW0]; exact blk_new wr _
        rw [← hW0]
        have y0 : W0.cell? ⟨wr.heap.size, 0, none⟩ = some (.int .i64 x.f0.f0) := (blk_cell hk0 0).trans rfl
        have y1 : W0.cell? ⟨wr.heap.size, 1, none⟩ = some (.int .i64 x.f0.f1) := (blk_cell hk0 1).trans rfl
        have y2 : W0.cell? ⟨wr.heap.size, 2, none⟩ = some (.int .i64 x.f0.f2) := (blk_cell hk0 2).trans rfl
        have y3 : W0.cell? ⟨wr.heap.size, 3, none⟩ = some (.int .i64 x.f0.f3) := (blk_cell hk0 3).trans rfl
        have y4 : W0.cell? ⟨wr.heap.size, 4, none⟩ = some (.string x.f0.f4) := (blk_cell hk0 4).trans rfl
        have y5 : W0.cell? ⟨wr.heap.size, 5, none⟩ = some (.string x.f0.f5) := (blk_cell hk0 5).trans rfl
        have y6 : W0.cell? ⟨wr.heap.size, 6, none⟩ = some (.int .i64 x.f0.f6.f0) := (blk_cell hk0 6).trans rfl
        have y7 : W0.cell? ⟨wr.heap.size, 7, none⟩ = some (.string x.f0.f6.f1) := (blk_cell hk0 7).trans rfl
        have y8 : W0.cell? ⟨wr.heap.size, 8, none⟩ = some (.slice r.1 n8 r.2.2.1) := (blk_cell hk0 8).trans rfl
        have y9 : W0.cell? ⟨wr.heap.size, 9, none⟩ = some (.string x.f0.f6.f3) := (blk_cell hk0 9).trans rfl
        have y10 : W0.cell? ⟨wr.heap.size, 10, none⟩ = some (.int .i64 x.f0.f6.f4) := (blk_cell hk0 10).trans rfl
        have y11 : W0.cell? ⟨wr.heap.size, 11, none⟩ = some (.slice r.2.1 n11 r.2.2.2) := (blk_cell hk0 11).trans rfl
        have e0 : W0.cell? ⟨g, k * 12 + 0, none⟩ = some (.int .i64 0) := pw_cell_below hb0 (hcc 0 _ rfl)
        have e1 : W0.cell? ⟨g, k * 12 + 1, none⟩ = some (.int .i64 0) := pw_cell_below hb0 (hcc 1 _ rfl)
        have e2 : W0.cell? ⟨g, k * 12 + 2, none⟩ = some (.int .i64 0) := pw_cell_below hb0 (hcc 2 _ rfl)
        have e3 : W0.cell? ⟨g, k * 12 + 3, none⟩ = some (.int .i64 0) := pw_cell_below hb0 (hcc 3 _ rfl)
        have e4 : W0.cell? ⟨g, k * 12 + 4, none⟩ = some (.string ⟨#[]⟩) := pw_cell_below hb0 (hcc 4 _ rfl)
        have e5 : W0.cell? ⟨g, k * 12 + 5, none⟩ = some (.string ⟨#[]⟩) := pw_cell_below hb0 (hcc 5 _ rfl)
        have e6 : W0.cell? ⟨g, k * 12 + 6, none⟩ = some (.int .i64 0) := pw_cell_below hb0 (hcc 6 _ rfl)
        have e7 : W0.cell? ⟨g, k * 12 + 7, none⟩ = some (.string ⟨#[]⟩) := pw_cell_below hb0 (hcc 7 _ rfl)
        have e8 : W0.cell? ⟨g, k * 12 + 8, none⟩ = some (.slice none 0 0) := pw_cell_below hb0 (hcc 8 _ rfl)
        have e9 : W0.cell? ⟨g, k * 12 + 9, none⟩ = some (.string ⟨#[]⟩) := pw_cell_below hb0 (hcc 9 _ rfl)
        have e10 : W0.cell? ⟨g, k * 12 + 10, none⟩ = some (.int .i64 0) := pw_cell_below hb0 (hcc 10 _ rfl)
        have e11 : W0.cell? ⟨g, k * 12 + 11, none⟩ = some (.slice none 0 0) := pw_cell_below hb0 (hcc 11 _ rfl)
        rw [Nat.add_zero] at e0
        have f0 : W0.frozen? ⟨g, k * 12 + 0, none⟩ = false := blk_frozen (blk_below hty hb0) _
        have f1 : W0.frozen? ⟨g, k * 12 + 1, none⟩ = false := blk_frozen (blk_below hty hb0) _
        have f2 : W0.frozen? ⟨g, k * 12 + 2, none⟩ = false := blk_frozen (blk_below hty hb0) _
        have f3 : W0.frozen? ⟨g, k * 12 + 3, none⟩ = false := blk_frozen (blk_below hty hb0) _
        have f4 : W0.frozen? ⟨g, k * 12 + 4, none⟩ = false := blk_frozen (blk_below hty hb0) _
        have f5 : W0.frozen? ⟨g, k * 12 + 5, none⟩ = false := blk_frozen (blk_below hty hb0) _
        have f6 : W0.frozen? ⟨g, k * 12 + 6, none⟩ = false := blk_frozen (blk_below hty hb0) _
        have f7 : W0.frozen? ⟨g, k * 12 + 7, none⟩ = false := blk_frozen (blk_below hty hb0) _
        have f8 : W0.frozen? ⟨g, k * 12 + 8, none⟩ = false := blk_frozen (blk_below hty hb0) _
        have f9 : W0.frozen? ⟨g, k * 12 + 9, none⟩ = false := blk_frozen (blk_below hty hb0) _
        have f10 : W0.frozen? ⟨g, k * 12 + 10, none⟩ = false := blk_frozen (blk_below hty hb0) _
        have f11 : W0.frozen? ⟨g, k * 12 + 11, none⟩ = false := blk_frozen (blk_below hty hb0) _
        rw [Nat.add_zero] at f0
        have HX := Lib.hid (HN.out W0 hb0)
        have hkc : (k : Int) < (n1 : Int) := by omega
        clear x0 x1 x2 x3 x4 x5 x6 x7 x8 x9 x10 x11 x12 x13 x14 x15 HN hcc hfr hM hcl hty hk0 hb0 hW0 hSC
        go_wp2_with fail
        go_roundw
        case rel => exact ⟨k + 1, by omega, by go_num, HX⟩
        case measure => simp [intOf]; omega
      · obtain rfl : k = n1 := by omega
        have HE : Hid (Kd.C k45 wr A1 (ss.map (·.f0)).length (ss.map (·.f0)) ∧ ss.length ≤ cap1) := Lib.hid (by
          have h := HF.out
          rw [HL.out.2.1] at h
          obtain ⟨h1, h2, h3⟩ := h.reads HL.out.2.2 (fun j hj => (HR.out j hj).2)
          exact ⟨h3, h2⟩)
        have HC := Lib.hid (HAll.out wr A1 cap1 HF.out.below HE.out.2 HE.out.1)
        have y0 : wr.cell? ⟨w.heap.size, 0, none⟩ = some (.slice A n c) := (blk_cell HF.out.b0 0).trans rfl
        have y1 : wr.cell? ⟨w.heap.size, 1, none⟩ = some (.bool q) := (blk_cell HF.out.b0 1).trans rfl
        clear HAll HE
        go_wp2_with fail
        refine HC.out.mono ?_
        rintro u w2 ⟨A2, n2, c2, rfl, hn2, hS, hb2⟩
        have h1 := blk_below HF.out.b1 hb2
        have r0 : w2.cell? ⟨w.heap.size + 1, 0, none⟩ = some (.slice none 0 0) := (blk_cell h1 0).trans rfl
        have r1 : w2.cell? ⟨w.heap.size + 1, 1, none⟩ = some (.bool false) := (blk_cell h1 1).trans rfl
        have f0 := blk_frozen h1 0
        have f1 := blk_frozen h1 1
        have hlt1 : w.heap.size + 1 < w2.heap.size := blk_lt h1
        have HZ := Lib.hid (⟨h1, hS, hn2, HF.out.below.trans (hb2.mono HF.out.below.size)⟩ : _ ∧ _ ∧ _ ∧ _)
        clear h1 hS hn2 hb2 HC y0 y1
        go_wp2_with fail
        have ha : ∀ W1 : World, W1 = (w2.alloc (.cells #[.slice A2 n2 c2, .bool q] 24)) → True := fun _ _ => trivial
        clear ha
        obtain ⟨h1, hS, hn2, hbw⟩ := HZ.out
        have q2 := blk_put (cs' := #[.slice A2 n2 c2, .bool q]) (blk_put (cs' := #[.slice A2 n2 c2, .bool false]) h1 0 (.slice A2 n2 c2) rfl) 1 (.bool q) rfl
        have hS4 := Kd.S_reads' (Kd.S_below (Kd.S_set (Kd.S_set hS h1 (by decide) 0 (.slice A2 n2 c2)) (blk_set h1 0 (.slice A2 n2 c2)) (by decide) 1 (.bool q)) (below_alloc (Below.refl _ _) (.cells #[.slice A2 n2 c2, .bool q] 24)))
        refine bodyPost_ret (results_ct1 rfl _ _ (w.heap.size + 1) 24 #[.slice A2 n2 c2, .bool q] (0, 0) _ rfl (blk_below q2 (below_alloc (Below.refl _ _) _)) Tryz.underlying24 rfl (by kernel_rfl)) rfl ?_
        exact ⟨A2, n2, c2, rfl, hn2, hS4.2.1, hS4.2.2, below_alloc ((hbw.setCell (by simp) _).setCell (by simp) _) _⟩
end Go.Proofs.YtmcinclecpeakaaGreatDoor.ApA
