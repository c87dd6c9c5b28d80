/- Package apart: what must be in any case (apartBegun). -/
import Derived.Test.YthfalaabfgpjmaaDoorApG
import Derived.Test.YthfalaabfgpjmaaDoorDocK
namespace Go.Proofs.YthfalaabfgpjmaaDoor.ApA
open Go.RowKit Go.Proofs.YthfalaabfgpjmaaDoorW.PrintWords Go.Proofs.YthfalaabfgpjmaaDoorW.PrintLast Go.Proofs.YthfalaabfgpjmaaDoorW.PrintMore Go.Proofs.YthfalaabfgpjmaaDoor.PAP Go.Proofs.YthfalaabfgpjmaaDoor.DocP Go.Proofs.YthfalaabfgpjmaaDoor.DocC
set_option linter.unusedVariables false
set_option linter.unusedSimpArgs false
def b0 : ByteArray := ⟨#[]⟩
def nd0 : S28 := ⟨1, ⟨#[]⟩, [], ⟨#[]⟩, -1, [1]⟩
def nd1 : S28 := ⟨4, ⟨#[]⟩, [], ⟨#[99]⟩, 0, []⟩
def dc0 : List S28 := [nd0, nd1]
def edT (v : ByteArray) : S30 := ⟨3, 1, 0, 0, ⟨#[]⟩, v, ⟨0, ⟨#[]⟩, [], ⟨#[]⟩, 0, []⟩⟩
def edR : S30 := ⟨6, 1, 0, 0, ⟨#[]⟩, ⟨#[]⟩, ⟨0, ⟨#[]⟩, [], ⟨#[]⟩, 0, []⟩⟩
theorem fit0 : Fit dc0 := fun i => by
  show ((rd_T28 dc0 i).f5).length ≤ _
  unfold rd_T28
  generalize i.toNat = m
  match m with
  | 0 => decide
  | 1 => decide
  | m + 2 => show ([] : List Int).length ≤ _; decide
theorem int_reads {W : World} {b : Nat} {x : Int} (hb : W.heap[b]? = some (.cells #[.int .i64 x] 3 (0, 0))) : Kd.C (Kd.int .i64) W (some ⟨b, 0, none⟩) 1 [x] := by
  refine ⟨rfl, by decide, fun _ => ⟨⟨b, 0, none⟩, rfl, fun j p hj => ?_⟩⟩
  have hj0 : j = 0 := by
    have := (List.getElem?_eq_some_iff.1 hj).1
    simpa using this
  subst hj0
  have hp : p = x := by simpa using hj.symm
  subst hp
  refine ⟨[.int .i64 p], rfl, rfl, fun i u hi => ?_⟩
  have := blk_cell hb i
  rw [add_at, show 0 + (0 * (Kd.int .i64).sz + i) = i from by omega, this]
  rw [List.getElem?_toArray]
  exact hi
/-- The document's row, as it was laid. -/
theorem doc_reads {W : World} {b d : Nat} (hb : W.heap[b]? = some (.cells #[.int .i64 1] 3 (0, 0)))
    (hd : W.heap[d]? = some (.cells #[.int .i64 1, .string ⟨#[]⟩, .slice none 0 0, .string ⟨#[]⟩, .int .i64 (-1), .slice (some ⟨b, 0, none⟩) 1 1, .int .i64 4, .string ⟨#[]⟩, .slice none 0 0, .string ⟨#[99]⟩, .int .i64 0, .slice none 0 0] 28 (0, 0))) :
    Kd.C k28 W (some ⟨d, 0, none⟩) 2 dc0 := by
  refine ⟨rfl, by decide, fun _ => ⟨⟨d, 0, none⟩, rfl, fun j p hj => ?_⟩⟩
  have hlt := (List.getElem?_eq_some_iff.1 hj).1
  have hc : ∀ i u, (#[Value.int .i64 1, .string ⟨#[]⟩, .slice none 0 0, .string ⟨#[]⟩, .int .i64 (-1), .slice (some ⟨b, 0, none⟩) 1 1, .int .i64 4, .string ⟨#[]⟩, .slice none 0 0, .string ⟨#[99]⟩, .int .i64 0, .slice none 0 0] : Array Value)[i]? = some u → W.cell? ⟨d, i, none⟩ = some u := fun i u hi => (blk_cell hd i).trans hi
  match j, hlt with
  | 0, _ =>
    have hp : p = nd0 := by simpa [dc0] using hj.symm
    subst hp
    refine ⟨[.int .i64 1, .string ⟨#[]⟩, .slice none 0 0, .string ⟨#[]⟩, .int .i64 (-1), .slice (some ⟨b, 0, none⟩) 1 1], rfl, k28_mk W nd0 (A2 := none) (c2 := 0) (by decide) (Kd.C_nil _ _) (A5 := some ⟨b, 0, none⟩) (c5 := 1) (by decide) (int_reads hb), fun i u hi => ?_⟩
    rw [add_at]
    have hil := (List.getElem?_eq_some_iff.1 hi).1
    refine hc _ _ ?_
    match i, hil with
    | 0, _ => exact hi
    | 1, _ => exact hi
    | 2, _ => exact hi
    | 3, _ => exact hi
    | 4, _ => exact hi
    | 5, _ => exact hi
  | 1, _ =>
    have hp : p = nd1 := by simpa [dc0] using hj.symm
    subst hp
    refine ⟨[.int .i64 4, .string ⟨#[]⟩, .slice none 0 0, .string ⟨#[99]⟩, .int .i64 0, .slice none 0 0], rfl, k28_mk W nd1 (A2 := none) (c2 := 0) (by decide) (Kd.C_nil _ _) (A5 := none) (c5 := 0) (by decide) (Kd.C_nil _ _), fun i u hi => ?_⟩
    rw [add_at]
    have hil := (List.getElem?_eq_some_iff.1 hi).1
    refine hc _ _ ?_
    match i, hil with
    | 0, _ => exact hi
    | 1, _ => exact hi
    | 2, _ => exact hi
    | 3, _ => exact hi
    | 4, _ => exact hi
    | 5, _ => exact hi
/-- The two edits' row. -/
theorem two_reads {W : World} {d : Nat} {v1 v2 : ByteArray}
    (hd : W.heap[d]? = some (.cells #[.int .i64 3, .int .i64 1, .int .i64 0, .int .i64 0, .string ⟨#[]⟩, .string v1, .int .i64 0, .string ⟨#[]⟩, .slice none 0 0, .string ⟨#[]⟩, .int .i64 0, .slice none 0 0, .int .i64 3, .int .i64 1, .int .i64 0, .int .i64 0, .string ⟨#[]⟩, .string v2, .int .i64 0, .string ⟨#[]⟩, .slice none 0 0, .string ⟨#[]⟩, .int .i64 0, .slice none 0 0] 30 (0, 0))) :
    Kd.C k30 W (some ⟨d, 0, none⟩) 2 [edT v1, edT v2] := by
  refine ⟨rfl, by decide, fun _ => ⟨⟨d, 0, none⟩, rfl, fun j p hj => ?_⟩⟩
  have hlt := (List.getElem?_eq_some_iff.1 hj).1
  have hc := fun i u hi => (blk_cell hd i).trans (b := _) (c := some u) hi
  match j, hlt with
  | 0, _ =>
    have hp : p = edT v1 := by simpa using hj.symm
    subst hp
    refine ⟨[.int .i64 3, .int .i64 1, .int .i64 0, .int .i64 0, .string ⟨#[]⟩, .string v1, .int .i64 0, .string ⟨#[]⟩, .slice none 0 0, .string ⟨#[]⟩, .int .i64 0, .slice none 0 0], rfl, k30_mk W (edT v1) (A8 := none) (c8 := 0) (Nat.le_refl 0) (Kd.C_nil _ _) (A11 := none) (c11 := 0) (Nat.le_refl 0) (Kd.C_nil _ _), fun i u hi => ?_⟩
    rw [add_at]
    have hil := (List.getElem?_eq_some_iff.1 hi).1
    refine hc _ _ ?_
    match i, hil with
    | 0, _ => exact hi
    | 1, _ => exact hi
    | 2, _ => exact hi
    | 3, _ => exact hi
    | 4, _ => exact hi
    | 5, _ => exact hi
    | 6, _ => exact hi
    | 7, _ => exact hi
    | 8, _ => exact hi
    | 9, _ => exact hi
    | 10, _ => exact hi
    | 11, _ => exact hi
  | 1, _ =>
    have hp : p = edT v2 := by simpa using hj.symm
    subst hp
    refine ⟨[.int .i64 3, .int .i64 1, .int .i64 0, .int .i64 0, .string ⟨#[]⟩, .string v2, .int .i64 0, .string ⟨#[]⟩, .slice none 0 0, .string ⟨#[]⟩, .int .i64 0, .slice none 0 0], rfl, k30_mk W (edT v2) (A8 := none) (c8 := 0) (Nat.le_refl 0) (Kd.C_nil _ _) (A11 := none) (c11 := 0) (Nat.le_refl 0) (Kd.C_nil _ _), fun i u hi => ?_⟩
    rw [add_at]
    have hil := (List.getElem?_eq_some_iff.1 hi).1
    refine hc _ _ ?_
    match i, hil with
    | 0, _ => exact hi
    | 1, _ => exact hi
    | 2, _ => exact hi
    | 3, _ => exact hi
    | 4, _ => exact hi
    | 5, _ => exact hi
    | 6, _ => exact hi
    | 7, _ => exact hi
    | 8, _ => exact hi
    | 9, _ => exact hi
    | 10, _ => exact hi
    | 11, _ => exact hi
/-! ### What the calls come to -/
theorem all_begun : Ev (fun k => dom_All.f k dc0 false [edT ⟨#[97]⟩, edT ⟨#[98]⟩]) ([nd0, ⟨4, ⟨#[]⟩, [], ⟨#[98]⟩, 0, []⟩], false, 0, 0) := ev_of (K := 60) (fun k => dom_All.mono _ _ _ k) (by kernel_rfl)
theorem fold_begun : foldF [edT ⟨#[97]⟩, edT ⟨#[98]⟩] = [edT ⟨#[98]⟩] := by kernel_rfl
theorem text_begun : Ev (fun k => dom_Apply.f k dc0 false 3 1 0 0 ⟨#[]⟩ ⟨#[]⟩ 0 ⟨#[]⟩ [] ⟨#[]⟩ 0 []) ([nd0, ⟨4, ⟨#[]⟩, [], ⟨#[]⟩, 0, []⟩], false, 0, 0) := ev_of (K := 60) (fun k => dom_Apply.mono _ _ _ _ _ _ _ _ _ _ _ _ _ _ k) (by kernel_rfl)
theorem remove_begun : Ev (fun k => dom_Apply.f k dc0 false 6 1 0 0 ⟨#[]⟩ ⟨#[]⟩ 0 ⟨#[]⟩ [] ⟨#[]⟩ 0 []) ([⟨1, ⟨#[]⟩, [], ⟨#[]⟩, -1, []⟩, ⟨4, ⟨#[]⟩, [], ⟨#[99]⟩, -1, []⟩], false, 0, 0) := ev_of (K := 60) (fun k => dom_Apply.mono _ _ _ _ _ _ _ _ _ _ _ _ _ _ k) (by kernel_rfl)
theorem clash_begun (A : Option Addr) (c : Nat) (w : World) (hr : Kd.C k28 w A 2 dc0) (hc : 2 ≤ c) :
    Calls Tryd.prog 7 #[.agg #[.slice A 2 c, .bool false], .agg #[.int .i64 3, .int .i64 1, .int .i64 0, .int .i64 0, .string ⟨#[]⟩, .string ⟨#[]⟩, .int .i64 0, .string ⟨#[]⟩, .slice none 0 0, .string ⟨#[]⟩, .int .i64 0, .slice none 0 0], .agg #[.int .i64 6, .int .i64 1, .int .i64 0, .int .i64 0, .string ⟨#[]⟩, .string ⟨#[]⟩, .int .i64 0, .string ⟨#[]⟩, .slice none 0 0, .string ⟨#[]⟩, .int .i64 0, .slice none 0 0]] w fun u w' => u = .returned (.tuple #[.bool true, .int .i64 0]) ∧ Below w.heap.size w w' := by
  obtain ⟨e1, o1, l1, q1, m1, h1⟩ := touch_plain fit0 false (edT ⟨#[]⟩)
  obtain ⟨e2, o2, l2, q2, m2, h2⟩ := touch_plain fit0 false edR
  have g1 := ev_one h1.ev text_begun
  have g2 := ev_one h2.ev remove_begun
  injection g1 with _ g1
  injection g1 with _ g1
  injection g1 with _ g1
  injection g2 with _ g2
  injection g2 with _ g2
  injection g2 with _ g2
  subst g1 g2
  obtain ⟨t1, _, ho1⟩ := h1.top rfl
  obtain ⟨t2, _, ho2⟩ := h2.top rfl
  have hm1 : (1 : Int) ∈ o1 := by rw [ho1]; exact mem_told.2 (by simp [touchG, edT])
  have hm2 : (1 : Int) ∈ o2 := by rw [ho2]; exact mem_told.2 (by simp [touchG, edR])
  have hB : clashF 0 o1 0 o2 = (true, 0) := by
    unfold clashF
    rw [if_neg (by decide), if_neg (by decide)]
    congr 1
    exact decide_eq_true ((meet_iff _ _).2 ⟨1, hm1, hm2⟩)
  have hn : ∀ W e, e.f6.f2 = [] → e.f6.f5 = [] → ReadsE W e none 0 none 0 := fun W e h8 h11 => ⟨by rw [h8]; exact Kd.C_nil _ _, by rw [h8]; decide, by rw [h11]; exact Kd.C_nil _ _, by rw [h11]; decide⟩
  have h := clash_calls h1 h2 A none none none none c 0 0 0 0 w hr hc (hn w _ rfl rfl) (hn w _ rfl rfl)
  rw [hB] at h
  exact h
end Go.Proofs.YthfalaabfgpjmaaDoor.ApA
