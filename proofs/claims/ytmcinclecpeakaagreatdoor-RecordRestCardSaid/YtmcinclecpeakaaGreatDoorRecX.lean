/- Package record: Do. -/
import Derived.Test.YtmcinclecpeakaaGreatDoorRecW
namespace Go.Proofs.YtmcinclecpeakaaGreatDoor.ApA
open Go.RowKit Go.Proofs.YtmcinclecpeakaaGreatDoorW.PrintWords Go.Proofs.YtmcinclecpeakaaGreatDoorW.PrintLast Go.Proofs.YtmcinclecpeakaaGreatDoorW.PrintMore Go.Proofs.YtmcinclecpeakaaGreatDoor.PRR Go.Proofs.YtmcinclecpeakaaGreatDoor.DocP Go.Proofs.YtmcinclecpeakaaGreatDoor.DocC
set_option linter.unusedVariables false
set_option linter.unusedSimpArgs false
theorem apply_done {q : Bool} {l l1 : List S43} {e : S45} (h : Done q l e l1) : ∃ m, Ev (fun k => dom_Apply.f k l q e.f0 e.f1 e.f2 e.f3 e.f4 e.f5 e.f6.f0 e.f6.f1 e.f6.f2 e.f6.f3 e.f6.f4 e.f6.f5) (l1, q, m, 0) ∧ (e.f0 = 4 → m = (l.length : Int)) := by
  obtain ⟨m, hm⟩ := h.ev 0
  have h1 : Ev (fun k => dom_Apply.f k l q e.f0 e.f1 e.f2 e.f3 e.f4 e.f5 e.f6.f0 e.f6.f1 e.f6.f2 e.f6.f3 e.f6.f4 e.f6.f5) (l1, q, m, 0) := by
    unfold dom_Apply.f
    refine Ev.bind (f := fun k c => if c = 0 then (if allOk l = true then (editF k l q 0 ⟨e.f0, e.f1, e.f2, e.f3, e.f4, e.f5, ⟨e.f6.f0, e.f6.f1, e.f6.f2, e.f6.f3, e.f6.f4, e.f6.f5⟩⟩).bind fun t => if t.1 = 0 then some (t.2.1, q, t.2.2, 0) else some ([], false, 0, t.1) else none) else some ([], false, 0, c)) (check_ok h.1 h.1.fit) (Ev.congr (fun k => (if_pos rfl).trans (if_pos h.1.all)) ?_)
    refine Ev.bind (f := fun k t => if t.1 = 0 then some (t.2.1, q, t.2.2, 0) else some ([], false, 0, t.1)) hm ?_
    exact Ev.congr (fun k => if_pos rfl) (Ev.now _)
  refine ⟨m, h1, fun h4 => ?_⟩
  obtain ⟨r, l', m', h2, h3⟩ := apply_good (q := q) h.1 e
  have h5 := ev_one h2 h1
  by_cases hr : r = 0
  · rw [if_pos hr] at h5
    injection h5 with e1 h5
    injection h5 with _ h5
    injection h5 with e2 _
    obtain ⟨_, _, h6⟩ := h3 hr
    have hE := h.2.2.1
    have hl : l1.length = l.length + 1 := by
      cases hE with
      | make h0 hk h1 hl ho => simp
      | text h0 _ _ _ => omega
      | attr h0 _ _ _ _ _ => omega
      | drop h0 _ _ _ _ => omega
      | insert h0 _ _ _ _ _ _ _ _ _ => omega
      | remove h0 _ _ _ _ _ _ _ _ => omega
    rw [e1, e2] at h6
    rcases h6 with ⟨_, h7⟩ | ⟨h7, _⟩
    · omega
    · exact h7
  · rw [if_neg hr] at h5
    injection h5 with _ h5
    injection h5 with _ h5
    injection h5 with _ h5
    exact absurd h5 hr
theorem note_pre {q : Bool} {l l1 : List S43} {e : S45} (h : Done q l e l1) : (e.f0 = 5 → In l1.length e.f1 ∧ (kids l1 e.f1).length ≤ 1000) ∧ (e.f0 = 3 → In l.length e.f1) ∧ (e.f0 = 1 ∨ e.f0 = 2 → In l.length e.f1) ∧ (e.f0 = 6 → In l.length e.f1 ∧ In l.length (par l e.f1)) ∧ (1 ≤ e.f0 ∧ e.f0 ≤ 6) := by
  obtain ⟨hd, hd1, hE, _⟩ := h
  refine ⟨fun h5 => ?_, fun h3 => ?_, fun h12 => ?_, fun h6 => ?_, ?_⟩
  · have hi : In l1.length e.f1 := by
      cases hE with
      | insert h0 hi _ _ _ _ _ _ _ _ => exact ⟨hi.1, by rw [List.length_set, List.length_set]; exact hi.2⟩
      | _ => omega
    exact ⟨hi, Nat.le_trans (hd1.kids_le hi) (by decide)⟩
  · cases hE with
    | text h0 hi _ _ => exact hi
    | _ => omega
  · cases hE with
    | attr h0 hi _ _ _ _ => exact hi
    | drop h0 hi _ _ _ => exact hi
    | _ => omega
  · cases hE with
    | remove h0 hi _ _ hpi _ _ _ _ => exact ⟨hi, hpi⟩
    | _ => omega
  · cases hE <;> omega
theorem Rec.snoc {q : Bool} {l m m1 : List S43} {ss : List Stp} {e : S45} (h : Rec q l ss m) (hd : Done q m e m1) : Rec q l (ss ++ [noteF m m1 e]) m1 := by
  induction h with
  | nil h => exact .cons hd (.nil hd.2.1)
  | cons h hr ih => exact .cons h (ih hd)
/-- A document's row stays when the steps' row grows. -/
theorem S_grown_N {base base' : Nat} {ok ok' : Nat → Prop} {W w1 : World} {v u : Value} {l : List S43} {ss : List Stp} (hS : Kd.S k43 43 W base ok v l) (hN : Kd.N k48 48 W base' ok' u ss) (hg : W.grownBy w1 u.ownBlock) : Kd.S k43 43 w1 base ok v l := by
  cases hu : u.ownBlock with
  | none => exact Kd.S_step hS (fun k _ hlt => hg.block k hlt (by rw [hu]; simp))
  | some g =>
    obtain ⟨cells, hc⟩ := Kd.N_typed hN g hu
    refine Kd.S_mono (Kd.S_step (Kd.S_types hS hc (by decide)) (fun k hk hlt => hg.block k hlt (by rw [hu]; intro he; injection he with he; exact hk.2 he))) (fun k hk => hk.1)
theorem hstep_info : (Tryz.prog.info? 48).map (fun i => (i.zero, i.size, i.bytes)) = some (some (.agg #[.int .i64 0, .int .i64 0, .int .i64 0, .int .i64 0, .string ⟨#[]⟩, .string ⟨#[]⟩, .int .i64 0, .string ⟨#[]⟩, .slice none 0 0, .string ⟨#[]⟩, .int .i64 0, .slice none 0 0, .bool false, .string ⟨#[]⟩, .int .i64 0, .int .i64 0]), 16, 200) := by kernel_rfl
theorem results_cttt {P : Program} {fn : Func} {p u v x : Tmp} {ty : TypeId} (h : fn.results = #[.cell p ty, .tmp u, .tmp v, .tmp x]) (tmps : Array Value) (w : World) (g : Nat) (t : TypeId) (cs : Array Value) (fr : Nat × Nat) (d : TypeDesc)
    (hp : tmps.getD p undef = .pointer (some ⟨g, 0, none⟩)) (hg : w.heap[g]? = some (.cells cs t fr))
    (hu : P.underlying ty = some d) (hd : (match d with | .struct _ | .array _ _ => true | _ => false) = true) (hi : (P.info? ty).map (·.size) = some cs.size) :
    (results fn tmps).run P w = .ok (.tuple #[.agg cs, tmps.getD u undef, tmps.getD v undef, tmps.getD x undef]) w := by
  have hp' : tmps[p]?.getD undef = .pointer (some ⟨g, 0, none⟩) := by simpa using hp
  simp [results, h, hp', asAddr, run_loadVar_row w g t ty cs fr d hg hu hd hi]
/-- The loop's head in Do. -/
structure DH (w W : World) (q : Bool) (l m l2 : List S43) (ss : List Stp) (es : List S45) (k : Nat) (A : Option Addr) (n c : Nat) (B : Option Addr) (d : Nat) : Prop where
  below : Below w.heap.size w W
  b0 : W.heap[w.heap.size]? = some (.cells #[.slice A n c, .bool q] 24 (0, 0))
  b1 : W.heap[w.heap.size + 1]? = some (.cells #[.slice none 0 0, .bool false] 24 (0, 0))
  doc : Kd.S k43 43 W w.heap.size (fun k => w.heap.size + 1 < k) (.slice A n c) m
  row : Kd.N k48 48 W w.heap.size (fun k => w.heap.size + 1 < k) (.slice B k d) ss
  rc : Rec q l ss m
  run : Run q m (es.drop k) l2
  fst : ss.map (·.f0) = es.take k
  ml : n = m.length
  sl : k = ss.length
/-- What Do comes to. -/
def DoP (w : World) (q : Bool) (l l2 : List S43) (es : List S45) (i er : Int) (u : Ending) (w' : World) : Prop := Below w.heap.size w w' ∧
  (er = 0 → ∃ A n c B d ss, u = .returned (.tuple #[.agg #[.slice A n c, .bool q], .slice B ss.length d, .int .i64 0, .int .i64 0]) ∧ n = l2.length ∧ n ≤ c ∧ ss.length ≤ d ∧ Kd.C k43 w' A l2.length l2 ∧ Kd.C k48 w' B ss.length ss ∧ Rec q l ss l2 ∧ ss.map (·.f0) = es) ∧
  (er ≠ 0 → u = .returned (.tuple #[.agg #[.slice none 0 0, .bool false], .slice none 0 0, .int .i64 i, .int .i64 er]))
/-- One round: what was done, and noted, is appended. -/
theorem DH.next {w wr W0 w1 W1 w2 W2 w3 : World} {q : Bool} {l m m1 l2 : List S43} {ss : List Stp} {es : List S45} {k : Nat} {A : Option Addr} {n c : Nat} {B : Option Addr} {d : Nat} {e : S45} {A2 : Option Addr} {n2 c2 : Nat} {B3 : Option Addr} {d3 : Nat}
    (h : DH w wr q l m l2 ss es k A n c B d) (hd : Done q m e m1) (hrun : Run q m1 (es.drop (k + 1)) l2) (hek : es.take (k + 1) = es.take k ++ [e])
    (hbW : Below wr.heap.size wr W2) (hN : Kd.N k48 48 w3 w.heap.size (fun k => w.heap.size + 1 < k) (.slice B3 (k + 1) d3) (ss ++ [noteF m m1 e])) (hB : Below w.heap.size w w3) (hg : W2.grownBy w3 (Value.slice B k d).ownBlock)
    (hS : Kd.S k43 43 W2 wr.heap.size (fun _ => True) (.slice A2 n2 c2) m1) (hn2 : n2 = m1.length) :
    DH w ((w3.setCell ⟨w.heap.size, 0, none⟩ (.slice A2 n2 c2)).setCell ⟨w.heap.size, 1, none⟩ (.bool q)) q l m1 l2 (ss ++ [noteF m m1 e]) es (k + 1) A2 n2 c2 B3 d3 := by
  have hN0 := Kd.N_below h.row hbW
  have hb0 := blk_grown (blk_below h.b0 hbW) hg (Kd.N_away hN0 (fun k hk => by omega))
  have hb1 := blk_grown (blk_below h.b1 hbW) hg (Kd.N_away hN0 (fun k hk => by omega))
  have hs0 : w.heap.size + 1 < wr.heap.size := blk_lt h.b1
  have hS3 : Kd.S k43 43 w3 w.heap.size (fun k => w.heap.size + 1 < k) (.slice A2 n2 c2) m1 := Kd.S_lower (Kd.S_mono (Kd.S_bound (S_grown_N hS hN0 hg)) (fun k hk => by have := hk.2.1; omega)) (by omega)
  refine ⟨(hB.setCell (Nat.le_refl _) _).setCell (Nat.le_refl _) _, ?_, ?_, ?_, ?_, h.rc.snoc hd, hrun, ?_, hn2, ?_⟩
  · exact blk_put (blk_put (cs' := #[.slice A2 n2 c2, .bool q]) hb0 0 _ rfl) 1 _ rfl
  · exact blk_far (blk_far hb1 (by show w.heap.size + 1 ≠ w.heap.size; omega) _) (by show w.heap.size + 1 ≠ w.heap.size; omega) _
  · exact Kd.S_far (p := ⟨w.heap.size, 1, none⟩) (Kd.S_far (p := ⟨w.heap.size, 0, none⟩) hS3 (fun k hk => by show k ≠ w.heap.size; omega) _) (fun k hk => by show k ≠ w.heap.size; omega) _
  · exact Kd.N_far (p := ⟨w.heap.size, 1, none⟩) (Kd.N_far (p := ⟨w.heap.size, 0, none⟩) hN (fun k hk => by show k ≠ w.heap.size; omega) _) (fun k hk => by show k ≠ w.heap.size; omega) _
  · rw [List.map_append, h.fst, hek, List.map_cons, note_e]; rfl
  · rw [List.length_append, ← h.sl]; rfl
set_option maxHeartbeats 8000000 in
set_option maxRecDepth 100000 in
theorem do_calls {l l2 : List S43} {q q2 : Bool} {es : List S45} {i er : Int} (hf : Fit l) (hev : Ev (fun k => dom_All.f k l q es) (l2, q2, i, er)) (hin : ∀ x ∈ es, x.f6.f2.length ≤ 4398046511104 ∧ x.f6.f5.length ≤ 17592186044416) (A A1 : Option Addr) (c c1 : Nat) (w : World) (hr : Kd.C k43 w A l.length l) (hc : l.length ≤ c) (hr1 : Kd.C k45 w A1 es.length es) (hc1 : es.length ≤ c1) :
    Calls Tryz.prog 7 #[.agg #[.slice A l.length c, .bool q], .slice A1 es.length c1] w (DoP w q l l2 es i er) := by
  obtain ⟨n, hn⟩ : ∃ n, n = l.length := ⟨_, rfl⟩
  obtain ⟨n1, hn1⟩ : ∃ n1, n1 = es.length := ⟨_, rfl⟩
  have HAll : Hid (∀ W : World, Below w.heap.size w W → Calls Tryz.prog 10 #[.agg #[.slice A n c, .bool q], .slice A1 n1 c1] W fun u w' => ∃ A' n' c', u = .returned (.tuple #[.agg #[.slice A' n' c', .bool q2], .int .i64 i, .int .i64 er]) ∧ Below W.heap.size W w') := Lib.hid (by
    obtain ⟨k, hk⟩ := ev_at hev
    rw [hn, hn1]
    intro W hb
    refine (dom_All.calls k A c l q A1 c1 es l2 q2 i er W (Kd.C_below hr hb) hc (Kd.C_below hr1 hb) hc1 hk).mono ?_
    rintro u w' ⟨v, rfl, hS, hb'⟩
    obtain ⟨A', c', rfl⟩ := Kd.S_slice hS
    exact ⟨A', _, c', rfl, hb'⟩)
  have HRun : Hid (er = 0 → es.length ≤ 40 ∧ Run q l es l2) := Lib.hid (fun h0 => by
    obtain ⟨l3, q3, i3, er3, h1, h2⟩ := all_any hf q es
    have h3 := ev_one h1 hev
    injection h3 with e1 h3
    injection h3 with _ h3
    injection h3 with _ e2
    rw [e1, e2] at h2
    exact h2 h0)
  have HAn : Hid (er = 0 → ∀ W : World, Below w.heap.size w W → Calls Tryz.prog 10 #[.agg #[.slice A n c, .bool q], .slice none 0 0] W fun u w' => ∃ A' c', u = .returned (.tuple #[.agg #[.slice A' n c', .bool q], .int .i64 0, .int .i64 0]) ∧ Kd.S k43 43 w' W.heap.size (fun _ => True) (.slice A' n c') l ∧ Below W.heap.size W w') := Lib.hid (fun h0 => by
    have hd := (HRun.out h0).2.docs.1
    obtain ⟨k, hk⟩ := ev_at ((Run.nil (q := q) hd).all (by decide))
    rw [hn]
    intro W hb
    refine (dom_All.calls k A c l q none 0 [] l q 0 0 W (Kd.C_below hr hb) hc (Kd.C_nil _ _) (Nat.le_refl 0) hk).mono ?_
    rintro u w' ⟨v, rfl, hS, hb'⟩
    obtain ⟨A', c', rfl⟩ := Kd.S_slice hS
    exact ⟨A', c', rfl, hS, hb'⟩)
  have HR := Lib.hid hr1
  have HIn := Lib.hid hin
  rw [← hn, ← hn1]
  have HN1 := Lib.hid hn1
  have HN := Lib.hid hn
  have hc1' : n1 ≤ c1 := by omega
  have HTk : Hid (es.take n1 = es) := Lib.hid (by rw [hn1]; exact List.take_length)
  clear hn hn1 hr hc hr1 hc1 hin hev hf
  go_enter Tryz.func7, Tryz.ntmps7
  go_wp2_with fail
  obtain ⟨W0, hW0⟩ : ∃ W0, W0 = (w.alloc (.cells #[.slice A n c, .bool q] 24)).alloc (.cells #[.slice none 0 0, .bool false] 24) := ⟨_, rfl⟩
  have hbW0 : Below w.heap.size w W0 := by rw [hW0]; exact below_alloc (below_alloc (Below.refl _ _) _) _
  have hg0 : W0.heap[w.heap.size]? = some (.cells #[.slice A n c, .bool q] 24 (0, 0)) := by rw [hW0]; exact blk_below (blk_new w _) (below_alloc (Below.refl _ _) _)
  have hg1 : W0.heap[w.heap.size + 1]? = some (.cells #[.slice none 0 0, .bool false] 24 (0, 0)) := by rw [hW0]; simpa using blk_new (w.alloc (.cells #[.slice A n c, .bool q] 24)) (.cells #[.slice none 0 0, .bool false] 24)
  rw [← hW0]
  clear hW0
  refine (HAll.out _ hbW0).mono ?_
  rintro u w1 ⟨A', n', c', rfl, hb1⟩
  have hb := hbW0.trans (hb1.mono hbW0.size)
  have hg0' := blk_below hg0 hb1
  have hg1' := blk_below hg1 hb1
  have HB : Hid (Below w.heap.size w w1 ∧ w1.heap[w.heap.size]? = some (.cells #[.slice A n c, .bool q] 24 (0, 0)) ∧ w1.heap[w.heap.size + 1]? = some (.cells #[.slice none 0 0, .bool false] 24 (0, 0))) := Lib.hid ⟨hb, hg0', hg1'⟩
  have hlt1 : w.heap.size + 1 < w1.heap.size := blk_lt hg1'
  have hlt0 : w.heap.size < w1.heap.size := by omega
  clear hb hb1 hbW0 hg0 hg1 hg0' hg1' HAll
  have p0 : w1.cell? ⟨w.heap.size, 0, none⟩ = some (.slice A n c) := (blk_cell HB.out.2.1 0).trans rfl
  have p1 : w1.cell? ⟨w.heap.size, 1, none⟩ = some (.bool q) := (blk_cell HB.out.2.1 1).trans rfl
  have r0 : w1.cell? ⟨w.heap.size + 1, 0, none⟩ = some (.slice none 0 0) := (blk_cell HB.out.2.2 0).trans rfl
  have r1 : w1.cell? ⟨w.heap.size + 1, 1, none⟩ = some (.bool false) := (blk_cell HB.out.2.2 1).trans rfl
  have fr0 := blk_frozen HB.out.2.1 0
  have fr1 := blk_frozen HB.out.2.1 1
  have fq0 := blk_frozen HB.out.2.2 0
  have fq1 := blk_frozen HB.out.2.2 1
  by_cases h0 : er = 0
  · obtain ⟨h40, hrun⟩ := HRun.out h0
    have hAn := HAn.out h0
    have HAn2 := Lib.hid hAn
    have HRu := Lib.hid hrun
    have hn40 : n1 ≤ 40 := by rw [HN1.out]; exact h40
    have HZ := Lib.hid h0
    clear hAn hrun HRun HAn h40
    subst h0
    go_upto_region 4 with fail
    go_wp2_with fail
    refine (HAn2.out _ (below_alloc HB.out.1 _)).mono ?_
    rintro u w2 ⟨A2, c2, rfl, hS, hb2⟩
    obtain ⟨X1, hX1⟩ : ∃ X1, X1 = w1.alloc (.cells #[.slice A' n' c', .bool q2] 24) := ⟨_, rfl⟩
    rw [← hX1] at hS hb2
    have hbX : Below w1.heap.size w1 X1 := by rw [hX1]; exact below_alloc (Below.refl _ _) _
    have hbY : Below w1.heap.size w1 w2 := hbX.trans (hb2.mono hbX.size)
    have g0 := blk_below HB.out.2.1 hbY
    have g1 := blk_below HB.out.2.2 hbY
    have HD : Hid (DH w ((w2.setCell ⟨w.heap.size, 0, none⟩ (.slice A2 n c2)).setCell ⟨w.heap.size, 1, none⟩ (.bool q)) q l l l2 [] es 0 A2 n c2 none 0) := Lib.hid (by
      refine ⟨((HB.out.1.trans (hbY.mono HB.out.1.size)).setCell (Nat.le_refl _) _).setCell (Nat.le_refl _) _, ?_, ?_, ?_, Kd.N_nil _ _ _ _ _, .nil HRu.out.docs.1, HRu.out, rfl, HN.out, rfl⟩
      · exact blk_put (blk_put (cs' := #[.slice A2 n c2, .bool q]) g0 0 _ rfl) 1 _ rfl
      · exact blk_far (blk_far g1 (by show w.heap.size + 1 ≠ w.heap.size; omega) _) (by show w.heap.size + 1 ≠ w.heap.size; omega) _
      · have hsz := hbX.size
        have hS3 : Kd.S k43 43 w2 w.heap.size (fun k => w.heap.size + 1 < k) (.slice A2 n c2) l := Kd.S_lower (Kd.S_mono (Kd.S_bound hS) (fun k hk => by have := hk.2.1; omega)) (by omega)
        exact Kd.S_far (p := ⟨w.heap.size, 1, none⟩) (Kd.S_far (p := ⟨w.heap.size, 0, none⟩) hS3 (fun k hk => by show k ≠ w.heap.size; omega) _) (fun k hk => by show k ≠ w.heap.size; omega) _)
    have y0 : w2.cell? ⟨w.heap.size, 0, none⟩ = some (.slice A n c) := (blk_cell g0 0).trans rfl
    have y1 : w2.cell? ⟨w.heap.size, 1, none⟩ = some (.bool q) := (blk_cell g0 1).trans rfl
    have f0 := blk_frozen g0 0
    have f1 := blk_frozen g0 1
    clear p0 p1 r0 r1 fr0 fr1 fq0 fq1 HAn2 hS hb2 hX1 hbX hbY g0 g1
    go_wp2_with fail
    go_loopw [11, 37] (fun s11 s37 wr => ∃ (k : Nat) (A3 : Option Addr) (n3 c3 : Nat) (B : Option Addr) (d : Nat) (m : List S43) (ss : List Stp), k ≤ n1 ∧ s37 = .int .i64 k ∧ s11 = .slice B k d ∧ Hid (DH w wr q l m l2 ss es k A3 n3 c3 B d)) (fun _ s37 _ => n1 - (intOf s37).toNat)
    case atStart => exact ⟨0, _, _, _, _, _, _, _, Nat.zero_le _, rfl, rfl, HD⟩
    case round =>
      obtain ⟨k, A3, n3, c3, B, d, m, ss, hk, rfl, rfl, HF⟩ := hrel
      clear HD f0 f1
      by_cases hlt : k < n1
      · obtain ⟨ad, A8, c8, A11, c11, e1, x0, x1, x2, x3, x4, x5, x6, x7, x8, x9, x10, x11, g8l, g8, g11l, g11⟩ := at_T45 (Kd.C_below HR.out HF.out.below) (k : Int) (by omega) (by have := HN1.out; omega)
        rw [Int.toNat_natCast] at x0 x1 x2 x3 x4 x5 x6 x7 x8 x9 x10 x11
        subst e1
        have hkl : k < es.length := by have := HN1.out; omega
        have hrx : rd_T45 es k = es[k] := by unfold rd_T45; rw [Int.toNat_natCast, List.getD_eq_getElem?_getD, List.getElem?_eq_getElem hkl]; rfl
        have hinx := HIn.out (rd_T45 es k) (by rw [hrx]; exact List.getElem_mem _)
        have hex : es.take (k + 1) = es.take k ++ [rd_T45 es k] := by rw [hrx]; exact List.take_succ_eq_append_getElem hkl
        have hdx : es.drop k = rd_T45 es k :: es.drop (k + 1) := by rw [hrx]; exact List.drop_eq_getElem_cons hkl
        obtain ⟨m1, hd1, hrn1⟩ : ∃ m1, Done q m (rd_T45 es k) m1 ∧ Run q m1 (es.drop (k + 1)) l2 := by
          have h := HF.out.run
          rw [hdx] at h
          cases h with
          | cons h hr => exact ⟨_, h, hr⟩
        clear hdx hrx hkl
        generalize rd_T45 es k = x at *
        obtain ⟨n8, hn8⟩ : ∃ n8, n8 = x.f6.f2.length := ⟨_, rfl⟩
        obtain ⟨n11, hn11⟩ : ∃ n11, n11 = x.f6.f5.length := ⟨_, rfl⟩
        rw [← hn8] at x8
        rw [← hn11] at x11
        obtain ⟨mm, hap, hm4⟩ := apply_done hd1
        obtain ⟨W0, hW0⟩ : ∃ W0, W0 = wr.alloc (.cells #[.int .i64 x.f0, .int .i64 x.f1, .int .i64 x.f2, .int .i64 x.f3, .string x.f4, .string x.f5, .int .i64 x.f6.f0, .string x.f6.f1, .slice A8 n8 c8, .string x.f6.f3, .int .i64 x.f6.f4, .slice A11 n11 c11] 45) := ⟨_, rfl⟩
        have hbW0 : Below wr.heap.size wr W0 := by rw [hW0]; exact below_alloc (Below.refl _ _) _
        have hsW0 : W0.heap.size = wr.heap.size + 1 := by rw [hW0]; simp
        have hkW0 : W0.heap[wr.heap.size]? = some (.cells #[.int .i64 x.f0, .int .i64 x.f1, .int .i64 x.f2, .int .i64 x.f3, .string x.f4, .string x.f5, .int .i64 x.f6.f0, .string x.f6.f1, .slice A8 n8 c8, .string x.f6.f3, .int .i64 x.f6.f4, .slice A11 n11 c11] 45 (0, 0)) := by rw [hW0]; exact blk_new wr _
        have HW0 := Lib.hid hW0
        clear hW0
        obtain ⟨hml, hnc3, hdoc⟩ := Kd.S_reads' HF.out.doc
        have HAp : Hid (∀ W : World, Below W0.heap.size W0 W → Calls Tryz.prog 14 #[.agg #[.slice A3 n3 c3, .bool q], .agg #[.int .i64 x.f0, .int .i64 x.f1, .int .i64 x.f2, .int .i64 x.f3, .string x.f4, .string x.f5, .int .i64 x.f6.f0, .string x.f6.f1, .slice A8 n8 c8, .string x.f6.f3, .int .i64 x.f6.f4, .slice A11 n11 c11]] W fun u w' => ∃ A2 n2 c2, n2 = m1.length ∧ u = .returned (.tuple #[.agg #[.slice A2 n2 c2, .bool q], .int .i64 mm, .int .i64 0]) ∧ Kd.S k43 43 w' W.heap.size (fun _ => True) (.slice A2 n2 c2) m1 ∧ Below W0.heap.size W0 w') := Lib.hid (fun W hb => by
          obtain ⟨kk, hkk⟩ := ev_at hap
          have hbw := hbW0.trans (hb.mono (by omega))
          rw [hml, hn8, hn11]
          refine (dom_Apply.calls kk A3 c3 m q x.f0 x.f1 x.f2 x.f3 x.f4 x.f5 x.f6.f0 x.f6.f1 A8 c8 x.f6.f2 x.f6.f3 x.f6.f4 A11 c11 x.f6.f5 m1 q mm 0 W (Kd.C_below hdoc hbw) (by omega) (Kd.C_below g8 hbw) g8l (Kd.C_below g11 hbw) g11l hkk).mono ?_
          rintro u w' ⟨v, rfl, hS, hb'⟩
          obtain ⟨A', c', rfl⟩ := Kd.S_slice hS
          exact ⟨A', _, c', rfl, rfl, hS, hb.trans (hb'.mono hb.size)⟩)
        obtain ⟨i5, i3, i12, i6, i16⟩ := note_pre hd1
        obtain ⟨S, hSd⟩ : ∃ S, S = noteF m m1 x := ⟨_, rfl⟩
        have hSx : S.f0 = x := by rw [hSd]; exact note_e _ _ _
        have HNo : Hid (∀ (W : World) (A2 : Option Addr) (n2 c2 : Nat), Below W0.heap.size W0 W → n2 = m1.length → Kd.C k43 W A2 m1.length m1 → Calls Tryz.prog 15 #[.agg #[.slice A3 n3 c3, .bool q], .agg #[.slice A2 n2 c2, .bool q], .agg #[.int .i64 x.f0, .int .i64 x.f1, .int .i64 x.f2, .int .i64 x.f3, .string x.f4, .string x.f5, .int .i64 x.f6.f0, .string x.f6.f1, .slice A8 n8 c8, .string x.f6.f3, .int .i64 x.f6.f4, .slice A11 n11 c11], .int .i64 mm] W (NotedP W x n8 n11 S)) := Lib.hid (fun W A2 n2 c2 hb hn2 hc2 => by
          have hbw := hbW0.trans (hb.mono (by omega))
          rw [hml, hn2, hSd]
          exact noted_calls m m1 q q x mm A3 A2 A8 A11 c3 c2 n8 c8 n11 c11 W (Kd.C_below hdoc hbw) hc2 i5 hd1.1 i3 i12 hm4 i6 i16 hn8 hn11 (Kd.C_below g8 hbw) (Kd.C_below g11 hbw) hinx.1 hinx.2)
        have HE : Hid (∀ W : World, Below W0.heap.size W0 W → (W.cell? ⟨w.heap.size, 0, none⟩ = some (.slice A3 n3 c3) ∧ W.cell? ⟨w.heap.size, 1, none⟩ = some (.bool q)) ∧ W.cell? ⟨wr.heap.size, 0, none⟩ = some (.int .i64 x.f0) ∧ W.cell? ⟨wr.heap.size, 1, none⟩ = some (.int .i64 x.f1) ∧ W.cell? ⟨wr.heap.size, 2, none⟩ = some (.int .i64 x.f2) ∧ W.cell? ⟨wr.heap.size, 3, none⟩ = some (.int .i64 x.f3) ∧ W.cell? ⟨wr.heap.size, 4, none⟩ = some (.string x.f4) ∧ W.cell? ⟨wr.heap.size, 5, none⟩ = some (.string x.f5) ∧ W.cell? ⟨wr.heap.size, 6, none⟩ = some (.int .i64 x.f6.f0) ∧ W.cell? ⟨wr.heap.size, 7, none⟩ = some (.string x.f6.f1) ∧ W.cell? ⟨wr.heap.size, 8, none⟩ = some (.slice A8 n8 c8) ∧ W.cell? ⟨wr.heap.size, 9, none⟩ = some (.string x.f6.f3) ∧ W.cell? ⟨wr.heap.size, 10, none⟩ = some (.int .i64 x.f6.f4) ∧ W.cell? ⟨wr.heap.size, 11, none⟩ = some (.slice A11 n11 c11)) := Lib.hid (fun W hb => by
          have h := blk_below hkW0 hb
          have h0 := blk_below HF.out.b0 (hbW0.trans (hb.mono (by omega)))
          exact ⟨⟨(blk_cell h0 0).trans rfl, (blk_cell h0 1).trans rfl⟩, (blk_cell h 0).trans rfl, (blk_cell h 1).trans rfl, (blk_cell h 2).trans rfl, (blk_cell h 3).trans rfl, (blk_cell h 4).trans rfl, (blk_cell h 5).trans rfl, (blk_cell h 6).trans rfl, (blk_cell h 7).trans rfl, (blk_cell h 8).trans rfl, (blk_cell h 9).trans rfl, (blk_cell h 10).trans rfl, (blk_cell h 11).trans rfl⟩)
        have HK := Lib.hid (⟨hd1, hrn1, hex, hSd, hSx, hbW0, hsW0⟩ : _ ∧ _ ∧ _ ∧ _ ∧ _ ∧ _ ∧ _)
        have hltw : w.heap.size < wr.heap.size := by have := blk_lt HF.out.b1; omega
        have hlt0 : w.heap.size < W0.heap.size := by omega
        have hltr : wr.heap.size < W0.heap.size := by omega
        clear hd1 hrn1 hex hSd hSx hbW0 hsW0 hkW0 hap hm4 i5 i3 i12 i6 i16 g8l g8 g11l g11 hml hnc3 hdoc hinx hn8 hn11
        go_upto_region 9 with fail
        rw [← HW0.out]
        clear x0 x1 x2 x3 x4 x5 x6 x7 x8 x9 x10 x11
        obtain ⟨⟨p0, p1⟩, e0, e1, e2, e3, e4, e5, e6, e7, e8, e9, e10, e11⟩ := HE.out W0 (Below.refl _ _)
        go_wp2_with fail
        refine (HAp.out W0 (Below.refl _ _)).mono ?_
        rintro u w1 ⟨A2, n2, c2, hn2', rfl, hS2, hb1⟩
        have HNm := Lib.hid hn2'
        clear hn2'
        clear p0 p1 e0 e1 e2 e3 e4 e5 e6 e7 e8 e9 e10 e11 HAp
        have hb1W : W0.heap.size ≤ w1.heap.size := hb1.size
        go_upto_region 10 with fail
        obtain ⟨W1, hW1⟩ : ∃ W1, W1 = w1.alloc (.cells #[.slice A2 n2 c2, .bool q] 24) := ⟨_, rfl⟩
        have hbW1 : Below w1.heap.size w1 W1 := by rw [hW1]; exact below_alloc (Below.refl _ _) _
        have hkW1 : W1.heap[w1.heap.size]? = some (.cells #[.slice A2 n2 c2, .bool q] 24 (0, 0)) := by rw [hW1]; exact blk_new w1 _
        rw [← hW1]
        clear hW1
        have hb01 := hb1.trans (hbW1.mono hb1.size)
        have hn2 := HNm.out
        obtain ⟨⟨p0, p1⟩, e0, e1, e2, e3, e4, e5, e6, e7, e8, e9, e10, e11⟩ := HE.out W1 hb01
        have z0 : W1.cell? ⟨w1.heap.size, 0, none⟩ = some (.slice A2 n2 c2) := (blk_cell hkW1 0).trans rfl
        have z1 : W1.cell? ⟨w1.heap.size, 1, none⟩ = some (.bool q) := (blk_cell hkW1 1).trans rfl
        have hSW1 := Kd.S_below hS2 hbW1
        have hNo := HNo.out W1 A2 n2 c2 hb01 hn2 (Kd.S_reads' hSW1).2.2
        have HNo2 := Lib.hid hNo
        have HM := Lib.hid (⟨hSW1, hn2, hb01, hkW1⟩ : _ ∧ _ ∧ _ ∧ _)
        clear hNo hSW1 hn2 hb01 hkW1 hS2 hb1 hbW1 HNo HE
        go_wp2_with fail
        refine HNo2.out.mono ?_
        rintro u w2 ⟨A6, c6, A7, c7, rfl, hR6, hR7, hb2⟩
        unfold HC
        have HFK : Hid (Kd.FK k48 w2 (fun k => W1.heap.size ≤ k) S [.int .i64 x.f0, .int .i64 x.f1, .int .i64 x.f2, .int .i64 x.f3, .string x.f4, .string x.f5, .int .i64 x.f6.f0, .string x.f6.f1, .slice A6 n8 c6, .string x.f6.f3, .int .i64 x.f6.f4, .slice A7 n11 c7, .bool S.f1, .string S.f2, .int .i64 S.f3, .int .i64 S.f4]) := Lib.hid (by
          have hSx := HK.out.2.2.2.2.1
          have h := Kd.FK_of_M (base := W1.heap.size) (ok := fun k => W1.heap.size ≤ k) (k48_mkM w2 W1.heap.size (fun k => W1.heap.size ≤ k) S (v8 := .slice A6 n8 c6) (by rw [hSx]; exact hR6) (v11 := .slice A7 n11 c7) (by rw [hSx]; exact hR7))
          rw [hSx] at h
          exact h)
        have hbr2 : Below wr.heap.size wr w2 := by
          obtain ⟨_, _, _, _, _, hbW0, hsW0⟩ := HK.out
          exact hbW0.trans ((HM.out.2.2.1.mono (by omega)).trans (hb2.mono (by have := HM.out.2.2.1.size; omega)))
        have HN2 : Hid (Kd.N k48 48 w2 w.heap.size (fun k => w.heap.size + 1 < k) (.slice B k d) ss) := Lib.hid (Kd.N_below HF.out.row hbr2)
        have HB2 : Hid (Below w.heap.size w w2) := Lib.hid (HF.out.below.trans (hbr2.mono HF.out.below.size))
        have hszr : wr.heap.size ≤ W1.heap.size := by have := HM.out.2.2.1.size; omega
        have hszw : w.heap.size + 1 < wr.heap.size := blk_lt HF.out.b1
        have HOK : Hid (∀ j, W1.heap.size ≤ j → w.heap.size + 1 < j ∧ some j ≠ (Value.slice B k d).ownBlock) := Lib.hid (fun j hj => ⟨by omega, fun he => by have := Kd.N_lt HF.out.row j he.symm; omega⟩)
        have HFr : Hid (∀ j, w2.heap.size ≤ j → w.heap.size + 1 < j) := Lib.hid (fun j hj => by have := hb2.size; omega)
        have HP := Lib.hid (⟨hbr2, Kd.S_below HM.out.1 hb2, blk_below HM.out.2.2.2 hb2⟩ : _ ∧ _ ∧ _)
        have hbs2 : W1.heap.size ≤ w2.heap.size := hb2.size
        have HSl : Hid (k = ss.length) := Lib.hid HF.out.sl
        have HLs : Hid ((ss.length + 1) * 200 ≤ 140737488355328) := Lib.hid (by have := HF.out.sl; omega)
        clear hR6 hR7 hb2 hbr2 p0 p1 z0 z1 e0 e1 e2 e3 e4 e5 e6 e7 e8 e9 e10 e11 HNo2
        go_wp2_with (at_builtin; go_loud (refine Kd.N_append k48 (w0 := w) w.heap.size rfl _ _ 27 48 (.agg #[.int .i64 0, .int .i64 0, .int .i64 0, .int .i64 0, .string ⟨#[]⟩, .string ⟨#[]⟩, .int .i64 0, .string ⟨#[]⟩, .slice none 0 0, .string ⟨#[]⟩, .int .i64 0, .slice none 0 0, .bool false, .string ⟨#[]⟩, .int .i64 0, .int .i64 0]) 200 rfl Tryz.underlying27 hstep_info rfl (by decide) (by decide) (.slice B k d) ss S [.int .i64 x.f0, .int .i64 x.f1, .int .i64 x.f2, .int .i64 x.f3, .string x.f4, .string x.f5, .int .i64 x.f6.f0, .string x.f6.f1, .slice A6 n8 c6, .string x.f6.f3, .int .i64 x.f6.f4, .slice A7 n11 c7, .bool S.f1, .string S.f2, .int .i64 S.f3, .int .i64 S.f4] (fun k => w.heap.size + 1 < k) (fun k => W1.heap.size ≤ k) rfl rfl HFK.out HOK.out HFr.out HN2.out HB2.out HB2.out.size HLs.out ?c1))
        case c1 =>
          intro v1 w3 hN hB hg hat
          obtain ⟨B3, d3, ev1⟩ := Kd.N_slice hN
          rw [List.length_append, ← HSl.out, List.length_singleton] at ev1
          subst ev1
          obtain ⟨hd1, hrn1, hex, hSd, hSx, hbW0, hsW0⟩ := HK.out
          obtain ⟨hbr2, hS2, hk2⟩ := HP.out
          have hszW0 : W0.heap.size ≤ W1.heap.size := HM.out.2.2.1.size
          have HDq : Hid (DH w ((w3.setCell ⟨w.heap.size, 0, none⟩ (.slice A2 n2 c2)).setCell ⟨w.heap.size, 1, none⟩ (.bool q)) q l m1 l2 (ss ++ [noteF m m1 x]) es (k + 1) A2 n2 c2 B3 d3) := Lib.hid (HF.out.next (W0 := W0) (w1 := w1) (W1 := W1) (w2 := w2) hd1 hrn1 hex hbr2 (by rw [← hSd]; exact hN) hB hg (Kd.S_lower hS2 (by omega)) HM.out.2.1)
          have hz := blk_grown hk2 hg (fun he => by have := Kd.N_lt HF.out.row _ he.symm; omega)
          have hy := blk_grown (blk_below HF.out.b0 hbr2) hg (Kd.N_away HN2.out (fun j hj => by omega))
          have z0 : w3.cell? ⟨w1.heap.size, 0, none⟩ = some (.slice A2 n2 c2) := (blk_cell hz 0).trans rfl
          have z1 : w3.cell? ⟨w1.heap.size, 1, none⟩ = some (.bool q) := (blk_cell hz 1).trans rfl
          have y0 : w3.cell? ⟨w.heap.size, 0, none⟩ = some (.slice A3 n3 c3) := (blk_cell hy 0).trans rfl
          have y1 : w3.cell? ⟨w.heap.size, 1, none⟩ = some (.bool q) := (blk_cell hy 1).trans rfl
          have f0 := blk_frozen hy 0
          have f1 := blk_frozen hy 1
          clear hN hB hg hat hd1 hrn1 hex hSd hSx hbW0 hsW0 hbr2 hS2 hk2 hz hy HFK HN2 HB2 HOK HFr HP HM HK
          go_wp2_with fail
          go_roundw
          case rel => exact ⟨k + 1, _, _, _, _, _, _, _, by omega, by go_num, rfl, HDq⟩
          case measure => simp [intOf]; omega
      · obtain rfl : k = n1 := by omega
        have hml : m = l2 := by
          have h := HF.out.run
          rw [List.drop_eq_nil_of_le (by have := HN1.out; omega)] at h
          cases h
          rfl
        subst hml
        have HF2 := HF
        have y0 : wr.cell? ⟨w.heap.size, 0, none⟩ = some (.slice A3 n3 c3) := (blk_cell HF.out.b0 0).trans rfl
        have y1 : wr.cell? ⟨w.heap.size, 1, none⟩ = some (.bool q) := (blk_cell HF.out.b0 1).trans rfl
        have r0 : wr.cell? ⟨w.heap.size + 1, 0, none⟩ = some (.slice none 0 0) := (blk_cell HF.out.b1 0).trans rfl
        have r1 : wr.cell? ⟨w.heap.size + 1, 1, none⟩ = some (.bool false) := (blk_cell HF.out.b1 1).trans rfl
        have q0 := blk_frozen HF.out.b1 0
        have q1 := blk_frozen HF.out.b1 1
        clear HF
        go_wp2_with fail
        refine bodyPost_ret (results_cttt rfl _ _ (w.heap.size + 1) 24 #[.slice A3 n3 c3, .bool q] (0, 0) _ rfl (blk_put (blk_put (cs' := #[.slice A3 n3 c3, .bool false]) HF2.out.b1 0 _ rfl) 1 _ rfl) Tryz.underlying24 rfl (by kernel_rfl)) rfl ?_
        refine ⟨(HF2.out.below.setCell (by simp) _).setCell (by simp) _, fun _ => ?_, fun h => absurd rfl h⟩
        have hne : ∀ j, w.heap.size + 1 < j → j ≠ w.heap.size + 1 := fun j hj => by omega
        have hS := Kd.S_reads' (Kd.S_far (p := ⟨w.heap.size + 1, 1, none⟩) (Kd.S_far (p := ⟨w.heap.size + 1, 0, none⟩) HF2.out.doc hne (.slice A3 n3 c3)) hne (.bool q))
        have hN := Kd.N_reads' (Kd.N_far (p := ⟨w.heap.size + 1, 1, none⟩) (Kd.N_far (p := ⟨w.heap.size + 1, 0, none⟩) HF2.out.row hne (.slice A3 n3 c3)) hne (.bool q))
        exact ⟨A3, n3, c3, B, d, ss, by rw [← HF2.out.sl]; rfl, hS.1, hS.2.1, by rw [← HF2.out.sl]; exact hN.2.1, hS.2.2, hN.2.2, HF2.out.rc, by rw [HF2.out.fst, HTk.out]⟩
  · have e1 : (er != 0) = true := by simpa using h0
    have HZ := Lib.hid h0
    clear h0 HRun HAn
    go_wp2_with fail
    have hres := blk_put (cs' := #[.slice none 0 0, .bool false]) (blk_put (cs' := #[.slice none 0 0, .bool false]) HB.out.2.2 0 (.slice none 0 0) rfl) 1 (.bool false) rfl
    refine bodyPost_ret (results_cttt rfl _ _ (w.heap.size + 1) 24 #[.slice none 0 0, .bool false] (0, 0) _ rfl (blk_below hres (below_alloc (Below.refl _ _) _)) Tryz.underlying24 rfl (by kernel_rfl)) rfl ?_
    exact ⟨below_alloc ((HB.out.1.setCell (by simp) _).setCell (by simp) _) _, fun h => absurd h HZ.out, fun _ => rfl⟩
end Go.Proofs.YtmcinclecpeakaaGreatDoor.ApA
