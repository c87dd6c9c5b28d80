import Derived.Test.YtmcinclecpeakaaGreatDoorRecH
import Derived.Test.YtmcinclecpeakaaGreatDoorGRecR
import Derived.Test.YtmcinclecpeakaaGreatDoorRecX
import Derived.Test.YtmcinclecpeakaaGreatDoorGRecT
/- Package record: Undo. -/
namespace Go.Proofs.YtmcinclecpeakaaGreatDoor.ApA
open Go.RowKit Go.Shelf Go.Proofs.YtmcinclecpeakaaGreatDoorW.PrintWords Go.Proofs.YtmcinclecpeakaaGreatDoorW.PrintLast Go.Proofs.YtmcinclecpeakaaGreatDoorW.PrintMore Go.Proofs.YtmcinclecpeakaaGreatDoor.PRR Go.Proofs.YtmcinclecpeakaaGreatDoor.DocP Go.Proofs.YtmcinclecpeakaaGreatDoor.DocC
set_option linter.unusedVariables false
set_option linter.unusedSimpArgs false
attribute [local go_sem] Oper.semAt_some
theorem results_ci {P : Program} {fn : Func} {p u : Tmp} {ty tu : TypeId} (h : fn.results = #[.cell p ty, .cell u tu]) (tmps : Array Value) (w : World) (g : Nat) (t : TypeId) (cs : Array Value) (fr : Nat × Nat) (d : TypeDesc)
    (hp : tmps.getD p undef = .pointer (some ⟨g, 0, none⟩)) (hg : w.heap[g]? = some (.cells cs t fr))
    (hu : P.underlying ty = some d) (hd : (match d with | .struct _ | .array _ _ => true | _ => false) = true) (hi : (P.info? ty).map (·.size) = some cs.size)
    (gu : Nat) (v : Value) (hpu : tmps.getD u undef = .pointer (some ⟨gu, 0, none⟩)) (hv : w.cell? ⟨gu, 0, none⟩ = some v) (k : IntKind) (htu : P.underlying tu = some (.int k)) :
    (results fn tmps).run P w = .ok (.tuple #[.agg cs, v]) w := by
  have hp' : tmps[p]?.getD undef = .pointer (some ⟨g, 0, none⟩) := by simpa using hp
  have hpu' : tmps[u]?.getD undef = .pointer (some ⟨gu, 0, none⟩) := by simpa using hpu
  have hagg : (isAgg tu).run P w = .ok false w := by
    unfold isAgg
    rw [Sem.run_bind, run_underlying htu w]
    simp
  have hl1 := run_loadVar_row (P := P) w g t ty cs fr d hg hu hd hi
  have hl2 : (loadVar tu ⟨gu, 0, none⟩).run P w = .ok v w := by simp [loadVar, Sem.run_bind, hagg, hv]
  simp [results, h, hp', hpu', asAddr, hl1, hl2]
theorem backward_calls (B : Option Addr) (n d : Nat) (W : World) :
    Calls Tryz.prog 17 #[.slice B n d] W fun e w' => e = .returned (.func (.func 31) #[] #[.pointer (some ⟨W.heap.size, 0, none⟩)]) ∧ w' = W.alloc (.cells #[.slice B n d] 27) := by
  go_enter Tryz.func17, Tryz.ntmps17
  go_wp2_with fail
  go_ret
  exact ⟨rfl, rfl⟩
/-- What stands between two rounds. -/
structure UI (w : World) (q : Bool) (l : List S43) (ss : List Stp) (bu bp : Nat) (m : Nat) (W : World) : Prop where
  below : Below w.heap.size w W
  ud : ∃ lm, Rec q l (ss.take (ss.length - m)) lm ∧ Ud W w.heap.size bu lm q
  pb : W.heap[bp]? = some (.cells #[.pointer (some ⟨bu, 0, none⟩)] 51 (0, 0))
  bs : ∃ cs, W.heap[bp + 1]? = some (.cells cs 27 (0, 0))
  b1 : W.heap[w.heap.size + 1]? = some (.cells #[.slice none 0 0, .bool false] 24 (0, 0))
  b2 : W.heap[w.heap.size + 1 + 1]? = some (.cells #[.int .i64 0] 28 (0, 0))
theorem own_kept {X Y : World} {row : Option Nat} {B : Nat} (hg : X.grownBy Y row) (hr : ∀ r, row = some r → B ≤ r ∧ ∃ o : Obj, X.heap[r]? = some o ∧ o.isCells = false) {k : Nat} {cs : Array Value} {t : Nat} {fr : Nat × Nat} (h : X.heap[k]? = some (.cells cs t fr)) : Y.heap[k]? = X.heap[k]? :=
  hg.block k (Array.getElem?_eq_some_iff.1 h).1 (fun he => by
    obtain ⟨_, o, ho, hc⟩ := hr k he.symm
    rw [h] at ho
    injection ho with ho
    rw [← ho] at hc
    cases hc)
theorem Ud.kept {X Y : World} {row : Option Nat} {B Bs b : Nat} {l : List S43} {q : Bool} (h : Ud X Bs b l q) (hg : X.grownBy Y row) (hr : ∀ r, row = some r → B ≤ r ∧ ∃ o : Obj, X.heap[r]? = some o ∧ o.isCells = false) : Ud Y Bs b l q := by
  obtain ⟨v, h1, h2, h3⟩ := h
  refine ⟨v, h1, (own_kept hg hr h2).trans h2, Kd.S_mono (Kd.S_step (Kd.S_bound h3) (fun k hk _ => ?_)) (fun _ _ => trivial)⟩
  obtain ⟨_, _, _, q', _, cells, hc⟩ := hk
  exact own_kept hg hr hc
theorem S_kept {X Y : World} {row : Option Nat} {B Bs : Nat} {v : Value} {l : List S43} (h3 : Kd.S k43 43 X Bs (fun _ => True) v l) (hg : X.grownBy Y row) (hr : ∀ r, row = some r → B ≤ r ∧ ∃ o : Obj, X.heap[r]? = some o ∧ o.isCells = false) : Kd.S k43 43 Y Bs (fun _ => True) v l :=
  Kd.S_mono (Kd.S_step (Kd.S_bound h3) (fun k hk _ => by
    obtain ⟨_, _, _, q', _, cells, hc⟩ := hk
    exact own_kept hg hr hc)) (fun _ _ => trivial)
theorem UI.own (w : World) (q : Bool) (l : List S43) (ss : List Stp) (bu bp B : Nat) (hB : w.heap.size ≤ B) : OwnFrom B (fun m W => UI w q l ss bu bp m W) := fun m X Y row h hg hr => by
  obtain ⟨lm, h1, h2⟩ := h.ud
  exact ⟨ownFrom_below (Nat.le_refl _) hB m X Y row h.below hg hr, ⟨lm, h1, h2.kept hg hr⟩, (own_kept hg hr h.pb).trans h.pb, (by obtain ⟨cs, h3⟩ := h.bs; exact ⟨cs, (own_kept hg hr h3).trans h3⟩), (own_kept hg hr h.b1).trans h.b1, (own_kept hg hr h.b2).trans h.b2⟩
/-- The last step of some is undone. -/
theorem Rec.last {q : Bool} {l lm : List S43} {ss : List Stp} {j : Nat} (h : Rec q l (ss.take (j + 1)) lm) (hj : j < ss.length) : ∃ l1, Rec q l (ss.take j) l1 ∧ DocOk lm ∧ (1 ≤ (rd_T48 ss (j : Int)).f0.f0 ∧ (rd_T48 ss (j : Int)).f0.f0 ≤ 6) ∧ undoS lm (rd_T48 ss (j : Int)) = some l1 := by
  have e : rd_T48 ss (j : Int) = ss[j] := by unfold rd_T48; rw [Int.toNat_natCast, List.getD_eq_getElem?_getD, List.getElem?_eq_getElem hj]; rfl
  rw [e]
  rw [List.take_succ_eq_append_getElem hj] at h
  obtain ⟨l1, h1, h2⟩ := Rec.split _ h
  generalize hs : ss[j] = s at h2 ⊢
  cases h2 with
  | cons h hr =>
    cases hr
    refine ⟨l1, h1, h.2.1, ?_, undo_done h⟩
    rw [note_e]
    exact (note_pre h).2.2.2.2
theorem below_two {n : Nat} {w W W' : World} (h : Below n w W) (h' : Below n w W') (hs : W.heap.size ≤ W'.heap.size) : Below n W W' :=
  ⟨h'.os.trans h.os.symm, h'.tape.trans h.tape.symm, h'.output.trans h.output.symm, hs, fun k hk => (h'.block k hk).trans (h.block k hk).symm⟩
set_option maxRecDepth 100000 in
set_option maxHeartbeats 8000000 in
theorem undo_S {q : Bool} {l l2 : List S43} {ss : List Stp} (hrec : Rec q l ss l2) (h40 : ss.length ≤ 40) (A B : Option Addr) (c d : Nat) (w : World) (hr : Kd.C k43 w A l2.length l2) (hc : l2.length ≤ c) (hrs : Kd.C k48 w B ss.length ss) :
    Calls Tryz.prog 9 #[.agg #[.slice A l2.length c, .bool q], .slice B ss.length d] w fun u w' => ∃ A' n' c', u = .returned (.tuple #[.agg #[.slice A' n' c', .bool q], .int .i64 0]) ∧ n' = l.length ∧ n' ≤ c' ∧ Kd.S k43 43 w' 0 (fun _ => True) (.slice A' n' c') l ∧ Below w.heap.size w w' := by
  have hd2 := hrec.run.docs.2
  obtain ⟨n, hn⟩ : ∃ n, n = l2.length := ⟨_, rfl⟩
  have HAn : Hid (∀ W : World, Below w.heap.size w W → Calls Tryz.prog 10 #[.agg #[.slice A n c, .bool q], .slice none 0 0] W fun u w' => ∃ A' c', u = .returned (.tuple #[.agg #[.slice A' n c', .bool q], .int .i64 0, .int .i64 0]) ∧ Kd.S k43 43 w' W.heap.size (fun _ => True) (.slice A' n c') l2 ∧ Below W.heap.size W w') := Lib.hid (by
    obtain ⟨k, hk⟩ := ev_at ((Run.nil (q := q) hd2).all (by decide))
    rw [hn]
    intro W hb
    refine (dom_All.calls k A c l2 q none 0 [] l2 q 0 0 W (Kd.C_below hr hb) hc (Kd.C_nil _ _) (Nat.le_refl 0) hk).mono ?_
    rintro u w' ⟨v, rfl, hS, hb'⟩
    obtain ⟨A', c', rfl⟩ := Kd.S_slice hS
    exact ⟨A', c', rfl, hS, hb'⟩)
  obtain ⟨n1, hn1⟩ : ∃ n1, n1 = ss.length := ⟨_, rfl⟩
  have HRs := Lib.hid hrs
  have HRec := Lib.hid hrec
  have HL := Lib.hid (⟨hn, hn1, h40⟩ : _ ∧ _ ∧ _)
  have h40d : decide ((40 : Int) < (n1 : Int)) = false := decide_eq_false (by omega)
  have h40e : decide ((40 : Nat) < n1) = false := decide_eq_false (by omega)
  rw [← hn, ← hn1]
  clear hn hn1 hr hc hrs hrec hd2 h40
  refine (callsIn_wide (n := 10)).1 ?_
  refine callsIn_of_wp_marks Tryz.func9 rfl trivial ?_ rfl
  simp only [Tryz.ntmps9, List.size_toArray, List.length_cons, List.length_nil, Nat.reduceAdd, Nat.reduceSub, Array.replicate_succ, Array.replicate_zero, List.push_toArray, List.append_toArray, List.nil_append, List.cons_append]
  gi_wp2_with fail
  refine ⟨trivial, ?_⟩
  obtain ⟨W0, hW0⟩ : ∃ W0, W0 = ((w.alloc (.cells #[.slice A n c, .bool q] 24)).alloc (.cells #[.slice none 0 0, .bool false] 24)).alloc (.cells #[.int .i64 0] 28) := ⟨_, rfl⟩
  have hbW0 : Below w.heap.size w W0 := by rw [hW0]; exact below_alloc (below_alloc (below_alloc (Below.refl _ _) _) _) _
  have g1 : W0.heap[w.heap.size + 1]? = some (.cells #[.slice none 0 0, .bool false] 24 (0, 0)) := by
    rw [hW0]
    exact blk_below (by simpa using blk_new (w.alloc (.cells #[.slice A n c, .bool q] 24)) (.cells #[.slice none 0 0, .bool false] 24)) (below_alloc (Below.refl _ _) _)
  have g2 : W0.heap[w.heap.size + 1 + 1]? = some (.cells #[.int .i64 0] 28 (0, 0)) := by
    rw [hW0]
    simpa using blk_new ((w.alloc (.cells #[.slice A n c, .bool q] 24)).alloc (.cells #[.slice none 0 0, .bool false] 24)) (.cells #[.int .i64 0] 28)
  rw [← hW0]
  clear hW0
  refine (callsIn_wide.2 (HAn.out W0 hbW0)).mono ?_
  rintro e w1 ⟨A2, c2, rfl, hS, hb1⟩
  have g1' := blk_below g1 hb1
  have g2' := blk_below g2 hb1
  have hsW0 : w.heap.size + 1 + 1 < W0.heap.size := blk_lt g2
  have HA := Lib.hid (⟨hbW0.trans (hb1.mono hbW0.size), g1', g2', Kd.S_lower hS hbW0.size, by have := hb1.size; omega⟩ : Below w.heap.size w w1 ∧ _ ∧ _ ∧ Kd.S k43 43 w1 w.heap.size (fun _ => True) (.slice A2 n c2) l2 ∧ w.heap.size + 1 + 1 < w1.heap.size)
  clear hbW0 hb1 g1 g2 g1' g2' hS hsW0 HAn
  gi_wp2_with fail
  refine ⟨trivial, ?_⟩
  refine (callsIn_wide.2 (backward_calls _ _ _ _)).mono ?_
  rintro e w' ⟨rfl, rfl⟩
  gi_wp2_with fail
  obtain ⟨W2, hW2⟩ : ∃ W2, W2 = (((w1.alloc (.cells #[.slice A2 n c2, .bool q] 24)).alloc (.cells #[.slice A2 n c2, .bool q] 53)).alloc (.cells #[.pointer (some ⟨w1.heap.size + 1, 0, none⟩)] 51)).alloc (.cells #[.slice B n1 d] 27) := ⟨_, rfl⟩
  have hb2 : Below w1.heap.size w1 W2 := by rw [hW2]; exact below_alloc (below_alloc (below_alloc (below_alloc (Below.refl _ _) _) _) _) _
  have hsz : W2.heap.size = w1.heap.size + 4 := by rw [hW2]; simp
  have hu : W2.heap[w1.heap.size + 1]? = some (.cells #[.slice A2 n c2, .bool q] 53 (0, 0)) := by
    rw [hW2]
    exact blk_below (by simpa using blk_new (w1.alloc (.cells #[.slice A2 n c2, .bool q] 24)) (.cells #[.slice A2 n c2, .bool q] 53)) (below_alloc (below_alloc (Below.refl _ _) _) _)
  have hp : W2.heap[w1.heap.size + 1 + 1]? = some (.cells #[.pointer (some ⟨w1.heap.size + 1, 0, none⟩)] 51 (0, 0)) := by
    rw [hW2]
    exact blk_below (by simpa using blk_new ((w1.alloc (.cells #[.slice A2 n c2, .bool q] 24)).alloc (.cells #[.slice A2 n c2, .bool q] 53)) (.cells #[.pointer (some ⟨w1.heap.size + 1, 0, none⟩)] 51)) (below_alloc (Below.refl _ _) _)
  have hs : W2.heap[w1.heap.size + 1 + 1 + 1]? = some (.cells #[.slice B ss.length d] 27 (0, 0)) := by
    rw [hW2, ← HL.out.2.1]
    simpa using blk_new (((w1.alloc (.cells #[.slice A2 n c2, .bool q] 24)).alloc (.cells #[.slice A2 n c2, .bool q] 53)).alloc (.cells #[.pointer (some ⟨w1.heap.size + 1, 0, none⟩)] 51)) (.cells #[.slice B n1 d] 27)
  rw [← hW2]
  clear hW2
  obtain ⟨hA1, hA2, hA3, hA4, hA5⟩ := HA.out
  have hbw2 : Below w.heap.size w W2 := hA1.trans (hb2.mono hA1.size)
  have hUI : UI w q l ss (w1.heap.size + 1) (w1.heap.size + 1 + 1) 0 W2 := ⟨hbw2, ⟨l2, by rw [Nat.sub_zero, List.take_length]; exact HRec.out, ⟨_, by omega, hu, Kd.S_below hA4 hb2⟩⟩, hp, ⟨_, hs⟩, blk_below hA2 hb2, blk_below hA3 hb2⟩
  obtain ⟨R, hseq⟩ := backward_seq 9 (by decide) w B d ss HL.out.2.2 HRs.out W2 hbw2 (w1.heap.size + 1 + 1 + 1) hs (by omega)
  have HLw : Hid (w.heap.size + 1 + 1 < w1.heap.size) := Lib.hid hA5
  have HSz := Lib.hid hsz
  clear hu hp hs hA1 hA2 hA3 hA4 hA5 HA hb2
  refine rangeR (n₀ := w.heap.size) (Bs := w1.heap.size + 1 + 1 + 1) (N := ss.length) rfl (by omega) (gf := 31) (lb := #[.pointer (some ⟨w1.heap.size + 1 + 1 + 1, 0, none⟩)]) rfl trivial (enters_of Tryz.func31 (by kernel_rfl) rfl)
    hbw2.size (by omega) hseq (fun _ => rfl) (fun m W => UI w q l ss (w1.heap.size + 1) (w1.heap.size + 1 + 1) m W) (UI.own w q l ss _ _ _ hbw2.size) hUI
    (fun m a' W => ∃ Bx, W.heap[Bx]? = some (.cells (match (encS ss R m).getD 1 undef with | .agg cs => cs | _ => #[]) 48 (0, 0)) ∧ a' = { tmps := #[.agg #[.slice A n c, .bool q], .slice B n1 d, .pointer (some ⟨w.heap.size, 0, none⟩), undef, .pointer (some ⟨w.heap.size + 1, 0, none⟩), .pointer (some ⟨w.heap.size + 1 + 1, 0, none⟩), .pointer (some ⟨w1.heap.size, 0, none⟩), .int .i64 0, .int .i64 0, .pointer (some ⟨w1.heap.size + 1 + 1, 0, none⟩), undef, .pointer (some ⟨Bx, 0, none⟩), .tuple #[.agg #[.slice A2 n c2, .bool q], .int .i64 0, .int .i64 0], .agg #[.slice A n c, .bool q], .tuple #[.agg #[.slice A2 n c2, .bool q], .int .i64 0, .int .i64 0], .agg #[.slice A2 n c2, .bool q], .int .i64 0, .int .i64 0, .int .i64 0, .bool true, .bool true, .slice B n1 d, .int .i64 (n1 : Int), .bool false, .bool false, .int .i64 0, .bool false, undef, undef, .agg #[.slice A2 n c2, .bool q], .agg #[.slice A2 n c2, .bool q], .pointer (some ⟨w1.heap.size + 1, 0, none⟩), .slice B n1 d, .func (.func 31) #[] #[.pointer (some ⟨w1.heap.size + 1 + 1 + 1, 0, none⟩)], (encS ss R m).getD 0 undef, (encS ss R m).getD 1 undef, undef, undef, undef, undef, undef, undef, undef, undef, undef, undef, undef, undef, undef, undef, undef, undef], defers := [] })
    (fun m a' _ X Y row h hg hr => by obtain ⟨Bx, h1, h2⟩ := h; exact ⟨Bx, (own_kept hg hr h1).trans h1, h2⟩) ?assign ?body ?done
  case assign =>
    intro l_ m W K hm hi hK
    unfold encS stepV HC at hK ⊢
    gi_wp2
    obtain ⟨cs, hbs⟩ := hi.bs
    exact hK _ _ ((KeepsOthers.alloc _ _).from _) ⟨(Below.refl _ W).alloc hi.below.size _, Below.heap_alloc W _ _ (blk_lt hbs)⟩ ((UI.own w q l ss _ _ _ hbw2.size).alloc _ hi) ⟨W.heap.size, blk_new W _, rfl⟩
  case body =>
    rintro l_ m a' W hl hm hi ⟨Bx, hBx, rfl⟩
    obtain ⟨j, hj⟩ : ∃ j, j = ss.length - 1 - m := ⟨_, rfl⟩
    unfold encS at hBx ⊢
    rw [← hj] at hBx ⊢
    have hBx' : W.heap[Bx]? = some (.cells (stepV (rd_T48 ss (j : Int)) (R j).1 (R j).2.1 (rd_T48 ss (j : Int)).f0.f6.f2.length (rd_T48 ss (j : Int)).f0.f6.f5.length (R j).2.2.1 (R j).2.2.2) 48 (0, 0)) := hBx
    clear hBx
    obtain ⟨lm, hr1, hU⟩ := hi.ud
    rw [show ss.length - m = j + 1 by omega] at hr1
    obtain ⟨l1, hr2, hdm, hk16, hund⟩ := hr1.last (by omega)
    have HUn := Lib.hid (undone_calls hdm (rd_T48 ss (j : Int)) (R j).1 (R j).2.1 (rd_T48 ss (j : Int)).f0.f6.f2.length (rd_T48 ss (j : Int)).f0.f6.f5.length (R j).2.2.1 (R j).2.2.2 (w1.heap.size + 1) w W hi.below hU hk16 hund)
    have p9 : W.cell? ⟨w1.heap.size + 1 + 1, 0, none⟩ = some (.pointer (some ⟨w1.heap.size + 1, 0, none⟩)) := (blk_cell hi.pb 0).trans rfl
    have HI := Lib.hid hi
    have HR2 : Hid (Rec q l (ss.take (ss.length - (m + 1))) l1) := Lib.hid (by rw [show ss.length - (m + 1) = j by omega]; exact hr2)
    clear hr1 hr2 hdm hk16 hund hU hi hj hseq hUI
    unfold stepV HC at HUn hBx' ⊢
    generalize rd_T48 ss (j : Int) = x at *
    generalize R j = r at *
    obtain ⟨n8, hn8⟩ : ∃ n8, n8 = x.f0.f6.f2.length := ⟨_, rfl⟩
    obtain ⟨n11, hn11⟩ : ∃ n11, n11 = x.f0.f6.f5.length := ⟨_, rfl⟩
    rw [← hn8, ← hn11] at HUn hBx' ⊢
    clear hn8 hn11
    have z0 : W.cell? ⟨Bx, 0, none⟩ = some (.int .i64 x.f0.f0) := (blk_cell hBx' 0).trans rfl
    have z1 : W.cell? ⟨Bx, 1, none⟩ = some (.int .i64 x.f0.f1) := (blk_cell hBx' 1).trans rfl
    have z2 : W.cell? ⟨Bx, 2, none⟩ = some (.int .i64 x.f0.f2) := (blk_cell hBx' 2).trans rfl
    have z3 : W.cell? ⟨Bx, 3, none⟩ = some (.int .i64 x.f0.f3) := (blk_cell hBx' 3).trans rfl
    have z4 : W.cell? ⟨Bx, 4, none⟩ = some (.string x.f0.f4) := (blk_cell hBx' 4).trans rfl
    have z5 : W.cell? ⟨Bx, 5, none⟩ = some (.string x.f0.f5) := (blk_cell hBx' 5).trans rfl
    have z6 : W.cell? ⟨Bx, 6, none⟩ = some (.int .i64 x.f0.f6.f0) := (blk_cell hBx' 6).trans rfl
    have z7 : W.cell? ⟨Bx, 7, none⟩ = some (.string x.f0.f6.f1) := (blk_cell hBx' 7).trans rfl
    have z8 : W.cell? ⟨Bx, 8, none⟩ = some (.slice r.1 n8 r.2.2.1) := (blk_cell hBx' 8).trans rfl
    have z9 : W.cell? ⟨Bx, 9, none⟩ = some (.string x.f0.f6.f3) := (blk_cell hBx' 9).trans rfl
    have z10 : W.cell? ⟨Bx, 10, none⟩ = some (.int .i64 x.f0.f6.f4) := (blk_cell hBx' 10).trans rfl
    have z11 : W.cell? ⟨Bx, 11, none⟩ = some (.slice r.2.1 n11 r.2.2.2) := (blk_cell hBx' 11).trans rfl
    have z12 : W.cell? ⟨Bx, 12, none⟩ = some (.bool x.f1) := (blk_cell hBx' 12).trans rfl
    have z13 : W.cell? ⟨Bx, 13, none⟩ = some (.string x.f2) := (blk_cell hBx' 13).trans rfl
    have z14 : W.cell? ⟨Bx, 14, none⟩ = some (.int .i64 x.f3) := (blk_cell hBx' 14).trans rfl
    have z15 : W.cell? ⟨Bx, 15, none⟩ = some (.int .i64 x.f4) := (blk_cell hBx' 15).trans rfl
    clear hBx'
    gi_wp2_with fail
    refine ⟨trivial, ?_⟩
    refine (CallsIn.inRound l_ (callsIn_wide.2 HUn.out)).mono ?_
    rintro e W3 ⟨rfl, hU3, hB3, hT3⟩
    have HT := Lib.hid (⟨hU3, hB3, hT3⟩ : _ ∧ _ ∧ _)
    clear hU3 hB3 hT3
    gi_wp2_with fail
    obtain ⟨hU3, hB3, hT3⟩ := HT.out
    have hi := HI.out
    obtain ⟨cs, hbs⟩ := hi.bs
    refine ⟨rfl, ⟨hT3.1, fun k o _ hk ho => (hT3.2 k o hk (by cases o <;> first | rfl | (cases ho))).trans hk⟩, ⟨below_two hi.below hB3 hT3.1, hT3.2 _ _ hbs (by rfl)⟩, ⟨hB3, ⟨l1, HR2.out, hU3⟩, (hT3.2 _ _ hi.pb (by rfl)).trans hi.pb, ⟨cs, (hT3.2 _ _ hbs (by rfl)).trans hbs⟩, (hT3.2 _ _ hi.b1 (by rfl)).trans hi.b1, (hT3.2 _ _ hi.b2 (by rfl)).trans hi.b2⟩⟩
  case done =>
    rintro D W hD hi hK
    obtain ⟨lm, hr1, hU⟩ := hi.ud
    rw [Nat.sub_self, List.take_zero] at hr1
    obtain rfl : lm = l := by cases hr1; rfl
    obtain ⟨A3, c3, hB3, hblk, hS3⟩ := ud_open hU
    obtain ⟨n3, hn3⟩ : ∃ n3, n3 = lm.length := ⟨_, rfl⟩
    rw [← hn3] at hblk hS3
    have hdl := HRec.out.run.docs.1
    have hS3r := Kd.S_reads' hS3
    have HCk : Hid (Calls Tryz.prog 19 #[.agg #[.slice A3 n3 c3, .bool q]] W fun u w' => u = .returned (.int .i64 0) ∧ Below W.heap.size W w') := Lib.hid (by
      obtain ⟨k, hk⟩ := ev_at (check_ok (q := q) hdl hdl.fit)
      rw [hn3]
      exact dom_Check.calls k A3 c3 lm q 0 W hS3r.2.2 (by rw [← hn3]; exact hS3r.2.1) hk)
    have p9 : W.cell? ⟨w1.heap.size + 1 + 1, 0, none⟩ = some (.pointer (some ⟨w1.heap.size + 1, 0, none⟩)) := (blk_cell hi.pb 0).trans rfl
    have u0 : W.cell? ⟨w1.heap.size + 1, 0, none⟩ = some (.slice A3 n3 c3) := (blk_cell hblk 0).trans rfl
    have u1 : W.cell? ⟨w1.heap.size + 1, 1, none⟩ = some (.bool q) := (blk_cell hblk 1).trans rfl
    have HI := Lib.hid (⟨hi, hblk, hS3, hn3, hK⟩ : _ ∧ _ ∧ _ ∧ _ ∧ _)
    clear hr1 hU hdl hi hblk hS3 hS3r hK hseq hUI hB3 hn3
    gi_wp2_with fail
    refine ⟨trivial, ?_⟩
    refine (callsIn_wide.2 HCk.out).mono ?_
    rintro e W3 ⟨rfl, hb3⟩
    obtain ⟨hi, hblk, hS3, hn3, hK⟩ := HI.out
    have hb1 := blk_below hi.b1 hb3
    have hb2 := blk_below hi.b2 hb3
    have p9' : W3.cell? ⟨w1.heap.size + 1 + 1, 0, none⟩ = some (.pointer (some ⟨w1.heap.size + 1, 0, none⟩)) := pw_cell_below hb3 p9
    have u0' : W3.cell? ⟨w1.heap.size + 1, 0, none⟩ = some (.slice A3 n3 c3) := pw_cell_below hb3 u0
    have u1' : W3.cell? ⟨w1.heap.size + 1, 1, none⟩ = some (.bool q) := pw_cell_below hb3 u1
    have r0 : W3.cell? ⟨w.heap.size + 1, 0, none⟩ = some (.slice none 0 0) := (blk_cell hb1 0).trans rfl
    have r1 : W3.cell? ⟨w.heap.size + 1, 1, none⟩ = some (.bool false) := (blk_cell hb1 1).trans rfl
    have r2 : W3.cell? ⟨w.heap.size + 1 + 1, 0, none⟩ = some (.int .i64 0) := (blk_cell hb2 0).trans rfl
    have f0 := blk_frozen hb1 0
    have f1 := blk_frozen hb1 1
    have f2 := blk_frozen hb2 0
    have HJ := Lib.hid (⟨hb3, hb1, hb2, (hb3.block D (Array.getElem?_eq_some_iff.1 hK).1).trans hK, hi.below.trans (hb3.mono hi.below.size), Kd.S_below hS3 hb3, hn3⟩ : _ ∧ _ ∧ _ ∧ _ ∧ _ ∧ _ ∧ _)
    clear hi hblk hS3 hn3 hK hb3 hb1 hb2 p9 u0 u1 HI HCk
    gi_wp2_with fail
    obtain ⟨hb3, hb1, hb2, hK3, hbw, hS, hn3⟩ := HJ.out
    have hDw : w.heap.size + 1 + 1 < D := by have := HLw.out; omega
    have q1 := blk_put (cs' := #[.slice A3 n3 c3, .bool false]) hb1 0 (.slice A3 n3 c3) rfl
    have q2 := blk_put (cs' := #[.slice A3 n3 c3, .bool q]) q1 1 (.bool q) rfl
    have q3 := blk_far (p := ⟨w.heap.size + 1, 1, none⟩) (blk_far (p := ⟨w.heap.size + 1, 0, none⟩) hb2 (by show w.heap.size + 1 + 1 ≠ w.heap.size + 1; omega) (.slice A3 n3 c3)) (by show w.heap.size + 1 + 1 ≠ w.heap.size + 1; omega) (.bool q)
    have k1 := blk_far (p := ⟨w.heap.size + 1 + 1, 0, none⟩) q2 (by show w.heap.size + 1 ≠ w.heap.size + 1 + 1; omega) (.int .i64 0)
    have k2 := blk_put (cs' := #[.int .i64 0]) q3 0 (.int .i64 0) rfl
    have hS4 := Kd.S_set (Kd.S_set (Kd.S_set hS hb1 (by decide) 0 (.slice A3 n3 c3)) q1 (by decide) 1 (.bool q)) q3 (by decide) 0 (.int .i64 0)
    have hB4 := ((hbw.setCell (p := ⟨w.heap.size + 1, 0, none⟩) (by show w.heap.size ≤ w.heap.size + 1; omega) (.slice A3 n3 c3)).setCell (p := ⟨w.heap.size + 1, 1, none⟩) (by show w.heap.size ≤ w.heap.size + 1; omega) (.bool q)).setCell (p := ⟨w.heap.size + 1 + 1, 0, none⟩) (by show w.heap.size ≤ w.heap.size + 1 + 1; omega) (.int .i64 0)
    have hKD := (Below.heap_setCell ((W3.setCell ⟨w.heap.size + 1, 0, none⟩ (.slice A3 n3 c3)).setCell ⟨w.heap.size + 1, 1, none⟩ (.bool q)) ⟨w.heap.size + 1 + 1, 0, none⟩ (.int .i64 0) D (by show D ≠ w.heap.size + 1 + 1; omega)).trans ((Below.heap_setCell (W3.setCell ⟨w.heap.size + 1, 0, none⟩ (.slice A3 n3 c3)) ⟨w.heap.size + 1, 1, none⟩ (.bool q) D (by show D ≠ w.heap.size + 1; omega)).trans ((Below.heap_setCell W3 ⟨w.heap.size + 1, 0, none⟩ (.slice A3 n3 c3) D (by show D ≠ w.heap.size + 1; omega)).trans hK3))
    generalize ((W3.setCell ⟨w.heap.size + 1, 0, none⟩ (.slice A3 n3 c3)).setCell ⟨w.heap.size + 1, 1, none⟩ (.bool q)).setCell ⟨w.heap.size + 1 + 1, 0, none⟩ (.int .i64 0) = W4 at k1 k2 hS4 hB4 hKD ⊢
    refine ⟨by simp, .inl ⟨_, _, rfl, run_takeDeferred hKD, ?_⟩⟩
    have hg := grownBy_putObj' W4 D (.deferred none)
    have hr : ∀ r, some D = some r → 0 ≤ r ∧ ∃ o : Obj, W4.heap[r]? = some o ∧ o.isCells = false := fun r e => by cases e; exact ⟨Nat.zero_le _, _, hKD, rfl⟩
    have hS6 := Kd.S_lower (S_kept hS4 hg hr) (Nat.zero_le _)
    have hS5 := Kd.S_reads' hS6
    refine ⟨_, results_ci rfl _ _ (w.heap.size + 1) 24 #[.slice A3 n3 c3, .bool q] (0, 0) _ rfl ((own_kept hg hr k1).trans k1) Tryz.underlying24 rfl (by kernel_rfl) (w.heap.size + 1 + 1) (.int .i64 0) rfl ((blk_cell ((own_kept hg hr k2).trans k2) 0).trans rfl) .i64 Tryz.underlying28, A3, n3, c3, rfl, hn3, hS5.2.1, hS6, hB4.trans (belowK_b (w := w) (Nat.le_refl _) W4 D _ _ (by omega) hKD rfl rfl)⟩
theorem undo_calls {q : Bool} {l l2 : List S43} {ss : List Stp} (hrec : Rec q l ss l2) (h40 : ss.length ≤ 40) (A B : Option Addr) (c d : Nat) (w : World) (hr : Kd.C k43 w A l2.length l2) (hc : l2.length ≤ c) (hrs : Kd.C k48 w B ss.length ss) :
    Calls Tryz.prog 9 #[.agg #[.slice A l2.length c, .bool q], .slice B ss.length d] w fun u w' => ∃ A' n' c', u = .returned (.tuple #[.agg #[.slice A' n' c', .bool q], .int .i64 0]) ∧ n' = l.length ∧ n' ≤ c' ∧ Kd.C k43 w' A' l.length l ∧ Below w.heap.size w w' := by
  refine (undo_S hrec h40 A B c d w hr hc hrs).mono ?_
  rintro u w' ⟨A', n', c', h1, h2, h3, h4, h5⟩
  exact ⟨A', n', c', h1, h2, h3, (Kd.S_reads' h4).2.2, h5⟩
end Go.Proofs.YtmcinclecpeakaaGreatDoor.ApA
/- Package record: what must be in any case (recordBegun; written by mkreck.py). -/
namespace Go.Proofs.YtmcinclecpeakaaGreatDoor.ApA
open Go.RowKit Go.Proofs.YtmcinclecpeakaaGreatDoorW.PrintWords Go.Proofs.YtmcinclecpeakaaGreatDoorW.PrintLast Go.Proofs.YtmcinclecpeakaaGreatDoorW.PrintMore Go.Proofs.YtmcinclecpeakaaGreatDoor.PRR Go.Proofs.YtmcinclecpeakaaGreatDoor.DocP Go.Proofs.YtmcinclecpeakaaGreatDoor.DocC
set_option linter.unusedVariables false
set_option linter.unusedSimpArgs false
def nw0 : S43 := ⟨1, ⟨#[]⟩, [], ⟨#[]⟩, -1, []⟩
def edM : S45 := ⟨4, 0, 0, 0, ⟨#[]⟩, ⟨#[]⟩, ⟨4, ⟨#[]⟩, [], ⟨#[99]⟩, 0, []⟩⟩
def edI : S45 := ⟨5, 0, 1, -1, ⟨#[]⟩, ⟨#[]⟩, ⟨0, ⟨#[]⟩, [], ⟨#[]⟩, 0, []⟩⟩
theorem fitw : Fit [nw0] := fun i => by
  show ((rd_T43 [nw0] i).f5).length ≤ _
  unfold rd_T43
  generalize i.toNat = m
  match m with
  | 0 => decide
  | m + 1 => show ([] : List Int).length ≤ _; decide
theorem allw : Ev (fun k => dom_All.f k [nw0] false [edM, edI]) ([⟨1, ⟨#[]⟩, [], ⟨#[]⟩, -1, [1]⟩, ⟨4, ⟨#[]⟩, [], ⟨#[99]⟩, 0, []⟩], false, 0, 0) := ev_of (K := 60) (fun k => dom_All.mono _ _ _ k) (by kernel_rfl)
theorem new_reads {W : World} {d : Nat} (hd : W.heap[d]? = some (.cells #[.int .i64 1, .string ⟨#[]⟩, .slice none 0 0, .string ⟨#[]⟩, .int .i64 (-1), .slice none 0 0] 43 (0, 0))) : Kd.C k43 W (some ⟨d, 0, none⟩) 1 [nw0] := by
  refine ⟨rfl, by decide, fun _ => ⟨⟨d, 0, none⟩, rfl, fun j p hj => ?_⟩⟩
  have hlt := (List.getElem?_eq_some_iff.1 hj).1
  have hc := fun i u hi => (blk_cell hd i).trans (b := _) (c := some u) hi
  match j, hlt with
  | 0, _ =>
    have hp : p = nw0 := by simpa using hj.symm
    subst hp
    refine ⟨[.int .i64 1, .string ⟨#[]⟩, .slice none 0 0, .string ⟨#[]⟩, .int .i64 (-1), .slice none 0 0], rfl, k43_mk W nw0 (A2 := none) (c2 := 0) (Nat.le_refl 0) (Kd.C_nil _ _) (A5 := none) (c5 := 0) (Nat.le_refl 0) (Kd.C_nil _ _), fun i u hi => ?_⟩
    rw [add_at]
    have hil := (List.getElem?_eq_some_iff.1 hi).1
    refine hc _ _ ?_
    match i, hil with
    | 0, _ => exact hi
    | 1, _ => exact hi
    | 2, _ => exact hi
    | 3, _ => exact hi
    | 4, _ => exact hi
    | 5, _ => exact hi
theorem two_readsw {W : World} {d : Nat} (hd : W.heap[d]? = some (.cells #[.int .i64 4, .int .i64 0, .int .i64 0, .int .i64 0, .string ⟨#[]⟩, .string ⟨#[]⟩, .int .i64 4, .string ⟨#[]⟩, .slice none 0 0, .string ⟨#[99]⟩, .int .i64 0, .slice none 0 0, .int .i64 5, .int .i64 0, .int .i64 1, .int .i64 (-1), .string ⟨#[]⟩, .string ⟨#[]⟩, .int .i64 0, .string ⟨#[]⟩, .slice none 0 0, .string ⟨#[]⟩, .int .i64 0, .slice none 0 0] 45 (0, 0))) : Kd.C k45 W (some ⟨d, 0, none⟩) 2 [edM, edI] := by
  refine ⟨rfl, by decide, fun _ => ⟨⟨d, 0, none⟩, rfl, fun j p hj => ?_⟩⟩
  have hlt := (List.getElem?_eq_some_iff.1 hj).1
  have hc := fun i u hi => (blk_cell hd i).trans (b := _) (c := some u) hi
  match j, hlt with
  | 0, _ =>
    have hp : p = edM := by simpa using hj.symm
    subst hp
    refine ⟨[.int .i64 4, .int .i64 0, .int .i64 0, .int .i64 0, .string ⟨#[]⟩, .string ⟨#[]⟩, .int .i64 4, .string ⟨#[]⟩, .slice none 0 0, .string ⟨#[99]⟩, .int .i64 0, .slice none 0 0], rfl, k45_mk W edM (A8 := none) (c8 := 0) (Nat.le_refl 0) (Kd.C_nil _ _) (A11 := none) (c11 := 0) (Nat.le_refl 0) (Kd.C_nil _ _), fun i u hi => ?_⟩
    rw [add_at]
    have hil := (List.getElem?_eq_some_iff.1 hi).1
    refine hc _ _ ?_
    match i, hil with
    | 0, _ => exact hi
    | 1, _ => exact hi
    | 2, _ => exact hi
    | 3, _ => exact hi
    | 4, _ => exact hi
    | 5, _ => exact hi
    | 6, _ => exact hi
    | 7, _ => exact hi
    | 8, _ => exact hi
    | 9, _ => exact hi
    | 10, _ => exact hi
    | 11, _ => exact hi
  | 1, _ =>
    have hp : p = edI := by simpa using hj.symm
    subst hp
    refine ⟨[.int .i64 5, .int .i64 0, .int .i64 1, .int .i64 (-1), .string ⟨#[]⟩, .string ⟨#[]⟩, .int .i64 0, .string ⟨#[]⟩, .slice none 0 0, .string ⟨#[]⟩, .int .i64 0, .slice none 0 0], rfl, k45_mk W edI (A8 := none) (c8 := 0) (Nat.le_refl 0) (Kd.C_nil _ _) (A11 := none) (c11 := 0) (Nat.le_refl 0) (Kd.C_nil _ _), fun i u hi => ?_⟩
    rw [add_at]
    have hil := (List.getElem?_eq_some_iff.1 hi).1
    refine hc _ _ ?_
    match i, hil with
    | 0, _ => exact hi
    | 1, _ => exact hi
    | 2, _ => exact hi
    | 3, _ => exact hi
    | 4, _ => exact hi
    | 5, _ => exact hi
    | 6, _ => exact hi
    | 7, _ => exact hi
    | 8, _ => exact hi
    | 9, _ => exact hi
    | 10, _ => exact hi
    | 11, _ => exact hi
theorem told_two : (told ([[(1 : Int)], [0, 1]].flatten)).length = 2 := by
  have h : ([[(1 : Int)], [0, 1]].flatten).mergeSort (fun x y => decide (x ≤ y)) = [0, 1, 1] := by
    show List.mergeSort [(1 : Int), 0, 1] (fun x y => decide (x ≤ y)) = [0, 1, 1]
    simp [List.mergeSort, List.MergeSort.Internal.splitInTwo, List.merge]
  unfold told
  rw [h]
  decide
/-- What the steps of recordBegun touch. -/
theorem begun_told {ss : List Stp} {l2 : List S43} (h : Rec false [nw0] ss l2) (hf : ss.map (·.f0) = [edM, edI]) : ss.length = 2 ∧ (told (ss.flatMap stepT)).length = 2 := by
  have hl : ss.length = 2 := by have := congrArg List.length hf; simpa using this
  refine ⟨hl, ?_⟩
  cases h with
  | nil _ => cases hl
  | @cons _ e l1 ss' _ h hr =>
    cases hr with
    | nil _ => cases hl
    | @cons _ e' l1' ss'' _ h' hr' =>
      cases hr' with
      | cons _ _ => simp at hl
      | nil _ =>
        simp only [List.map_cons, List.map_nil, note_e] at hf
        injection hf with h1 h2
        injection h2 with h2 _
        subst h1 h2
        have e1 : stepT (noteF [nw0] l1 edM) = [1] := rfl
        have e2 : stepT (noteF l1 l2 edI) = [0, 1] := rfl
        show (told ([stepT (noteF [nw0] l1 edM), stepT (noteF l1 l2 edI)].flatten)).length = 2
        rw [e1, e2]
        exact told_two
set_option maxHeartbeats 4000000 in
set_option maxRecDepth 100000 in
theorem new_calls (w : World) : Calls Tryz.prog 16 #[] w fun e w' => ∃ g, e = .returned (.agg #[.slice (some ⟨g, 0, none⟩) 1 1, .bool false]) ∧ w'.heap[g]? = some (.cells #[.int .i64 1, .string ⟨#[]⟩, .slice none 0 0, .string ⟨#[]⟩, .int .i64 (-1), .slice none 0 0] 43 (0, 0)) ∧ Below w.heap.size w w' := by
  go_enter Tryz.func16, Tryz.ntmps16
  go_wp2_with fail
  refine bodyPost_ret (results_cell_row rfl _ _ w.heap.size 24 #[.slice (some ⟨w.heap.size + 1, 0, none⟩) 1 1, .bool false] (0, 0) _ rfl (blk_below (blk_new w _) (below_alloc (Below.refl _ _) _)) Tryz.underlying24 rfl (by kernel_rfl)) rfl ?_
  exact ⟨w.heap.size + 1, rfl, by simpa using blk_new (w.alloc (.cells #[.slice (some ⟨w.heap.size + 1, 0, none⟩) 1 1, .bool false] 24)) (.cells #[.int .i64 1, .string ⟨#[]⟩, .slice none 0 0, .string ⟨#[]⟩, .int .i64 (-1), .slice none 0 0] 43), below_alloc (below_alloc (Below.refl _ _) _) _⟩
set_option maxHeartbeats 4000000 in
set_option maxRecDepth 100000 in
theorem begun_calls (w : World) : Calls Tryz.prog 8 #[] w fun e w' => e = .returned (.bool true) ∧ Below w.heap.size w w' := by
  go_enter Tryz.func8, Tryz.ntmps8
  go_wp2_with fail
  refine (new_calls w).mono ?_
  rintro u w0 ⟨g, rfl, hg, hb0⟩
  have HN := Lib.hid (⟨hg, hb0⟩ : _ ∧ _)
  clear hg hb0
  go_wp2_with fail
  obtain ⟨W0, hW0⟩ : ∃ W0, W0 = w0.alloc (.cells #[.int .i64 4, .int .i64 0, .int .i64 0, .int .i64 0, .string ⟨#[]⟩, .string ⟨#[]⟩, .int .i64 4, .string ⟨#[]⟩, .slice none 0 0, .string ⟨#[99]⟩, .int .i64 0, .slice none 0 0, .int .i64 5, .int .i64 0, .int .i64 1, .int .i64 (-1), .string ⟨#[]⟩, .string ⟨#[]⟩, .int .i64 0, .string ⟨#[]⟩, .slice none 0 0, .string ⟨#[]⟩, .int .i64 0, .slice none 0 0] 45) := ⟨_, rfl⟩
  have hbW : Below w0.heap.size w0 W0 := by rw [hW0]; exact below_alloc (Below.refl _ _) _
  have hkW : W0.heap[w0.heap.size]? = some (.cells #[.int .i64 4, .int .i64 0, .int .i64 0, .int .i64 0, .string ⟨#[]⟩, .string ⟨#[]⟩, .int .i64 4, .string ⟨#[]⟩, .slice none 0 0, .string ⟨#[99]⟩, .int .i64 0, .slice none 0 0, .int .i64 5, .int .i64 0, .int .i64 1, .int .i64 (-1), .string ⟨#[]⟩, .string ⟨#[]⟩, .int .i64 0, .string ⟨#[]⟩, .slice none 0 0, .string ⟨#[]⟩, .int .i64 0, .slice none 0 0] 45 (0, 0)) := by rw [hW0]; exact blk_new w0 _
  rw [← hW0]
  clear hW0
  have hn := new_reads (blk_below HN.out.1 hbW)
  refine (do_calls fitw allw (fun x hx => by
    have h : x = edM ∨ x = edI := by simpa using hx
    rcases h with rfl | rfl <;> exact ⟨by decide, by decide⟩) (some ⟨g, 0, none⟩) (some ⟨w0.heap.size, 0, none⟩) 1 2 W0 hn (by decide) (two_readsw hkW) (by decide)).mono ?_
  rintro u w1 ⟨hb1, hok, -⟩
  obtain ⟨A, n, c, B, d, ss, rfl, hn2, hc, hd, hr, hrs, hrec, hf⟩ := hok rfl
  obtain ⟨hs2, ht2⟩ := begun_told hrec hf
  have hn2' : n = 2 := hn2
  have HUn : Hid (∀ W : World, Below w1.heap.size w1 W → Calls Tryz.prog 9 #[.agg #[.slice A 2 c, .bool false], .slice B 2 d] W fun u w' => ∃ A' n' c', u = .returned (.tuple #[.agg #[.slice A' n' c', .bool false], .int .i64 0]) ∧ n' = 1 ∧ Below W.heap.size W w') := Lib.hid (fun W hb => by
    have h := undo_calls hrec (by omega) A B c d W (Kd.C_below hr hb) (by rw [← hn2]; exact hc) (Kd.C_below hrs hb)
    rw [hs2] at h
    refine h.mono ?_
    rintro u w' ⟨A', n', c', rfl, h1, _, _, h4⟩
    exact ⟨A', n', c', rfl, h1, h4⟩)
  have HTo : Hid (∀ W : World, Below w1.heap.size w1 W → Calls Tryz.prog 12 #[.slice B 2 d] W fun u w' => ∃ A' c', u = .returned (.slice A' 2 c') ∧ Below W.heap.size W w') := Lib.hid (fun W hb => by
    have h := touched_calls (ss := ss) (by omega) hrec.pos B d W (Kd.C_below hrs hb)
    rw [hs2] at h
    refine h.mono ?_
    rintro u w' ⟨v, rfl, h1⟩
    obtain ⟨A', c', rfl⟩ := Kd.R_slice h1.1
    rw [ht2]
    exact ⟨A', c', rfl, h1.2⟩)
  have HA := Lib.hid (⟨hb1, hc, hd, hr, hrs, hrec, hs2, ht2⟩ : _ ∧ _ ∧ _ ∧ _ ∧ _ ∧ _ ∧ _ ∧ _)
  have HB1 : Hid (Below w.heap.size w w1) := Lib.hid (HN.out.2.trans ((hbW.trans (hb1.mono hbW.size)).mono HN.out.2.size))
  rw [hs2]
  subst hn2'
  clear hbW hkW hn hb1 hok hn2 hc hd hr hrs hrec hf hs2 ht2 HN HA
  go_wp2_with fail
  refine (HUn.out _ (below_alloc (Below.refl _ _) _)).mono ?_
  rintro u w2 ⟨A2, n2, c2, rfl, rfl, hb2⟩
  have HB2 : Hid (Below w1.heap.size w1 w2) := Lib.hid ((below_alloc (Below.refl _ w1) _).trans (hb2.mono (by simp)))
  clear hb2 HUn
  go_wp2_with fail
  refine (HTo.out _ (below_alloc HB2.out _)).mono ?_
  rintro u w3 ⟨A3, c3, rfl, hb3⟩
  have HB3 : Hid (Below w.heap.size w w3) := Lib.hid (HB1.out.trans (((below_alloc HB2.out _).trans (hb3.mono (below_alloc HB2.out _).size)).mono HB1.out.size))
  clear hb3 HTo
  go_wp2_with fail
  go_ret
  exact ⟨rfl, HB3.out⟩
end Go.Proofs.YtmcinclecpeakaaGreatDoor.ApA
