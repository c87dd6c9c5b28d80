-- printed by wip/tools/pr.py (own) through the kit's printer; texts GIVEN by hand stand among them
import Derived.Test.YtlgoaphdhgidoaaDoorPSYx0
import Derived.Test.YtlgoaphdhgidoaaDoorPSYx5
import Derived.Test.YtlgoaphdhgidoaaDoorPSYx6
import Derived.Test.YtlgoaphdhgidoaaDoorPSYx11
namespace Go.Proofs.YtlgoaphdhgidoaaDoor.PSY
open Go.RowKit Go.Proofs.YtlgoaphdhgidoaaDoorW.PrintWords Go.Proofs.YtlgoaphdhgidoaaDoorW.PrintLast Go.Proofs.YtlgoaphdhgidoaaDoorW.PrintMore
attribute [local go_sem] max2_int min2_int max_two min_two max_three min_three max_four min_four   -- for this text's walks alone
set_option linter.unusedVariables false
set_option linter.unusedSimpArgs false

/-! ### span_ranger_point: function 37 -/
def span_ranger_point.f (k : Nat) (l0_0 : List S37) (a0_1 : Bool) (a1_0 a1_1 : Int) : Option Int :=
  if a1_0 < 0 then some 1 else if (l0_0.length : Int) ≤ a1_0 then some 1 else if a1_1 < 0 then some 1 else (span_ranger_room.f l0_0 a0_1 a1_0).bind fun t => if t < a1_1 then some 1 else (span_ranger_path.f k l0_0 a0_1 a1_0 a1_1).bind fun r => if r = [] then some 5 else some 0
theorem span_ranger_point.mono : ∀ l q a b k, LeO (span_ranger_point.f k l q a b) (span_ranger_point.f (k + 1) l q a b) := by
  intro l q a b k
  unfold span_ranger_point.f
  exact LeO.ite (LeO.refl _) (LeO.ite (LeO.refl _) (LeO.ite (LeO.refl _) (LeO.bind (LeO.refl _) fun _ => LeO.ite (LeO.refl _) (LeO.bind (span_ranger_path.mono _ _ _ _ _) fun _ => LeO.refl _))))
set_option maxRecDepth 100000 in
set_option maxHeartbeats 4000000 in
theorem span_ranger_point.calls (k : Nat) (A0_0 : Option Addr) (c0_0 : Nat) (l0_0 : List S37) (a0_1 : Bool) (a1_0 : Int) (a1_1 : Int) (r : Int) (w : World) (hr0_0 : Kd.C k37 w A0_0 l0_0.length l0_0) (hc0_0 : l0_0.length ≤ c0_0) (h : span_ranger_point.f k l0_0 a0_1 a1_0 a1_1 = some r) :
    Calls Tryd.prog 37 #[.agg #[.slice A0_0 l0_0.length c0_0, .bool a0_1], .agg #[.int .i64 a1_0, .int .i64 a1_1]] w fun e w' => e = .returned (.int .i64 r) ∧ Below w.heap.size w w' := by
  obtain ⟨n, hn⟩ : ∃ n, n = l0_0.length := ⟨_, rfl⟩
  have HRm : Hid (∀ t, span_ranger_room.f l0_0 a0_1 a1_0 = some t → ∀ W : World, Below w.heap.size w W → Calls Tryd.prog 26 #[.agg #[.slice A0_0 n c0_0, .bool a0_1], .int .i64 a1_0] W fun e w' => e = .returned (.int .i64 t) ∧ Below W.heap.size W w') := Lib.hid (by
    rw [hn]
    exact fun t ht W hb => span_ranger_room.calls A0_0 c0_0 l0_0 a0_1 a1_0 t W (Kd.C_below hr0_0 hb) hc0_0 ht)
  have HPt : Hid (∀ p, span_ranger_path.f k l0_0 a0_1 a1_0 a1_1 = some p → ∀ W : World, Below w.heap.size w W → Calls Tryd.prog 40 #[.agg #[.slice A0_0 n c0_0, .bool a0_1], .agg #[.int .i64 a1_0, .int .i64 a1_1]] W fun e w' => (∃ A m c, e = .returned (.slice A m c) ∧ (A = none ↔ p = [])) ∧ Below w.heap.size w w') := Lib.hid (by
    rw [hn]
    exact fun p hp W hb => (span_ranger_path.calls2 k A0_0 c0_0 l0_0 a0_1 a1_0 a1_1 p W (Kd.C_below hr0_0 hb) hc0_0 hp).mono fun e w' ⟨v, h1, h2, h3, h4⟩ => ⟨by
      obtain ⟨A, c, rfl⟩ := Kd.R_slice h2
      refine ⟨A, _, c, h1, ?_⟩
      rcases h4 with h4 | h4
      · refine ⟨fun he => ?_, fun he => absurd he h4⟩
        obtain ⟨g, cap, hv, _⟩ := Kd.R_form h2 (List.length_pos_iff.2 h4)
        injection hv with hA
        rw [he] at hA
        cases hA
      · injection h4 with h5 h6 h7
        exact ⟨fun _ => List.eq_nil_of_length_eq_zero h6, fun _ => h5⟩, hb.trans (h3.mono hb.size)⟩)
  have HW : Hid (∀ W : World, (((w.alloc (.cells #[.slice A0_0 n c0_0, .bool a0_1] 53)).alloc (.cells #[.int .i64 a1_0, .int .i64 a1_1] 27))) = W → Below w.heap.size w W ∧ W.heap[w.heap.size]? = some (.cells #[.slice A0_0 n c0_0, .bool a0_1] 53 (0, 0)) ∧ W.heap[w.heap.size + 1]? = some (.cells #[.int .i64 a1_0, .int .i64 a1_1] 27 (0, 0))) :=
    Lib.hid (fun W h => by
      subst h
      have hb1 : Below w.heap.size w (w.alloc (.cells #[.slice A0_0 n c0_0, .bool a0_1] 53)) := (Below.refl _ w).alloc (Nat.le_refl _) _
      have hb2 := hb1.alloc (by simp) (.cells #[.int .i64 a1_0, .int .i64 a1_1] 27)
      have x1 := blk_new (w.alloc (.cells #[.slice A0_0 n c0_0, .bool a0_1] 53)) (.cells #[.int .i64 a1_0, .int .i64 a1_1] 27)
      have x0 := blk_below (blk_new w (.cells #[.slice A0_0 n c0_0, .bool a0_1] 53)) ((Below.refl _ _).alloc (Nat.le_refl _) (.cells #[.int .i64 a1_0, .int .i64 a1_1] 27))
      exact ⟨hb2, x0, by simpa using x1⟩)
  rw [← hn]
  have HN := Lib.hid hn
  have H := Lib.hid h
  clear hr0_0 hc0_0 hn h
  go_enter Tryd.func37, Tryd.ntmps37
  go_upto_region 1 with fail
  obtain ⟨hb, x0, x1⟩ := HW.out _ rfl
  generalize ((w.alloc (.cells #[.slice A0_0 n c0_0, .bool a0_1] 53)).alloc (.cells #[.int .i64 a1_0, .int .i64 a1_1] 27)) = w1 at hb x0 x1
  have HB := Lib.hid hb
  have HS1 : Hid (∀ W : World, Below w1.heap.size w1 W → W.cell? ⟨w.heap.size, 0, none⟩ = some (.slice A0_0 n c0_0) ∧ W.cell? ⟨w.heap.size, 1, none⟩ = some (.bool a0_1) ∧ W.cell? ⟨w.heap.size + 1, 0, none⟩ = some (.int .i64 a1_0) ∧ W.cell? ⟨w.heap.size + 1, 1, none⟩ = some (.int .i64 a1_1)) := Lib.hid (fun W h => ⟨(blk_cell (blk_below x0 h) 0).trans rfl, (blk_cell (blk_below x0 h) 1).trans rfl, (blk_cell (blk_below x1 h) 0).trans rfl, (blk_cell (blk_below x1 h) 1).trans rfl⟩)
  clear hb x0 x1 HW
  refine late_begin (S := fun W => W.cell? ⟨w.heap.size, 0, none⟩ = some (.slice A0_0 n c0_0) ∧ W.cell? ⟨w.heap.size, 1, none⟩ = some (.bool a0_1) ∧ W.cell? ⟨w.heap.size + 1, 0, none⟩ = some (.int .i64 a1_0) ∧ W.cell? ⟨w.heap.size + 1, 1, none⟩ = some (.int .i64 a1_1)) 26 27 (by kernel_rfl) rfl (HS1.out _ (below_drew (Below.refl _ _))) (fun hS => ?_)
  have HS := Lib.hid hS
  clear hS
  have h := H.out
  clear H
  unfold span_ranger_point.f at h
  by_cases c0 : a1_0 < 0
  · rw [if_pos c0] at h
    obtain rfl := Option.some.inj h
    have c0b : decide (a1_0 < 0) = true := decide_eq_true c0
    clear c0
    refine lt_ 0 30 6 26 ?_
    refine lt_ 1 30 7 25 ?_
    refine lt_ 2 30 8 24 ?_
    refine lt_ 3 30 9 23 ?_
    refine ls_ 4 60 10 22 ?_
    refine ls_ 5 60 11 21 ?_
    refine ls_ 6 60 12 20 ?_
    refine ls_ 7 60 13 19 ?_
    refine ls_ 8 60 14 18 ?_
    refine ls_ 9 60 15 17 ?_
    refine ls_ 10 60 16 16 ?_
    refine lt_ 11 30 17 15 ?_
    refine lt_ 12 30 18 14 ?_
    refine ls_ 13 60 19 13 ?_
    refine ls_ 14 60 20 12 ?_
    refine ls_ 15 60 21 11 ?_
    refine lt_ 16 30 22 10 ?_
    refine lt_ 17 30 23 9 ?_
    refine ls_ 18 60 24 8 ?_
    refine ls_ 19 60 25 7 ?_
    refine ls_ 20 60 26 6 ?_
    refine ls_ 21 60 27 5 ?_
    refine ls_ 22 60 28 4 ?_
    refine ls_ 23 60 29 3 ?_
    refine ls_ 24 60 30 2 ?_
    refine lt_ 25 30 31 1 ?_
    refine late_last 26 0 ({ dst := some 5, op := Op.assign (Operand.tmp 31), type := 4, pos := "span.go:42", after := #[{ on := 25, ground := Ground.data }, { on := 23, ground := Ground.chain }], guard := none }) rfl (by kernel_rfl) rfl (by rfl) (by kernel_rfl) (fun K' hK => ?_)
    go_simp
    refine hK.out _ _ ?_
    clear hK K' HS
    go_wp2_with fail
    go_ret
    exact ⟨rfl, below_drew HB.out⟩
  rw [if_neg c0] at h
  have c0b : decide (a1_0 < 0) = false := decide_eq_false c0
  by_cases c1 : (l0_0.length : Int) ≤ a1_0
  · rw [if_pos c1] at h
    obtain rfl := Option.some.inj h
    have c1b : decide ((n : Int) ≤ a1_0) = true := decide_eq_true (by rw [HN.out]; exact c1)
    clear c0 c1
    refine lt_ 0 30 6 26 ?_
    refine lt_ 1 30 7 25 ?_
    refine lt_ 2 30 8 24 ?_
    refine lt_ 3 30 9 23 ?_
    refine lt_ 4 30 10 22 ?_
    refine lt_ 5 30 11 21 ?_
    refine lt_ 6 30 12 20 ?_
    refine lt_ 7 30 13 19 ?_
    refine lt_ 8 30 14 18 ?_
    refine lt_ 9 30 15 17 ?_
    refine lt_ 10 30 16 16 ?_
    refine lt_ 11 30 17 15 ?_
    refine lt_ 12 30 18 14 ?_
    refine ls_ 13 60 19 13 ?_
    refine ls_ 14 60 20 12 ?_
    refine ls_ 15 60 21 11 ?_
    refine lt_ 16 30 22 10 ?_
    refine lt_ 17 30 23 9 ?_
    refine ls_ 18 60 24 8 ?_
    refine ls_ 19 60 25 7 ?_
    refine ls_ 20 60 26 6 ?_
    refine ls_ 21 60 27 5 ?_
    refine ls_ 22 60 28 4 ?_
    refine ls_ 23 60 29 3 ?_
    refine ls_ 24 60 30 2 ?_
    refine lt_ 25 30 31 1 ?_
    refine late_last 26 0 ({ dst := some 5, op := Op.assign (Operand.tmp 31), type := 4, pos := "span.go:42", after := #[{ on := 25, ground := Ground.data }, { on := 23, ground := Ground.chain }], guard := none }) rfl (by kernel_rfl) rfl (by rfl) (by kernel_rfl) (fun K' hK => ?_)
    go_simp
    refine hK.out _ _ ?_
    clear hK K' HS
    go_wp2_with fail
    go_ret
    exact ⟨rfl, below_drew HB.out⟩
  rw [if_neg c1] at h
  have c1b : decide ((n : Int) ≤ a1_0) = false := decide_eq_false (by rw [HN.out]; exact c1)
  by_cases c2 : a1_1 < 0
  · rw [if_pos c2] at h
    obtain rfl := Option.some.inj h
    have c2b : decide (a1_1 < 0) = true := decide_eq_true c2
    clear c0 c1 c2
    refine lt_ 0 30 6 26 ?_
    refine lt_ 1 30 7 25 ?_
    refine lt_ 2 30 8 24 ?_
    refine lt_ 3 30 9 23 ?_
    refine lt_ 4 30 10 22 ?_
    refine lt_ 5 30 11 21 ?_
    refine lt_ 6 30 12 20 ?_
    refine lt_ 7 30 13 19 ?_
    refine lt_ 8 30 14 18 ?_
    refine lt_ 9 30 15 17 ?_
    refine lt_ 10 30 16 16 ?_
    refine lt_ 11 30 17 15 ?_
    refine lt_ 12 30 18 14 ?_
    refine lt_ 13 30 19 13 ?_
    refine lt_ 14 30 20 12 ?_
    refine lt_ 15 30 21 11 ?_
    refine lt_ 16 30 22 10 ?_
    refine lt_ 17 30 23 9 ?_
    refine ls_ 18 60 24 8 ?_
    refine ls_ 19 60 25 7 ?_
    refine ls_ 20 60 26 6 ?_
    refine ls_ 21 60 27 5 ?_
    refine ls_ 22 60 28 4 ?_
    refine ls_ 23 60 29 3 ?_
    refine ls_ 24 60 30 2 ?_
    refine lt_ 25 30 31 1 ?_
    refine late_last 26 0 ({ dst := some 5, op := Op.assign (Operand.tmp 31), type := 4, pos := "span.go:42", after := #[{ on := 25, ground := Ground.data }, { on := 23, ground := Ground.chain }], guard := none }) rfl (by kernel_rfl) rfl (by rfl) (by kernel_rfl) (fun K' hK => ?_)
    go_simp
    refine hK.out _ _ ?_
    clear hK K' HS
    go_wp2_with fail
    go_ret
    exact ⟨rfl, below_drew HB.out⟩
  rw [if_neg c2] at h
  have c2b : decide (a1_1 < 0) = false := decide_eq_false c2
  obtain ⟨t, ht, h⟩ := Option.bind_eq_some_iff.1 h
  have HR := Lib.hid (HRm.out t ht)
  clear HRm ht
  by_cases c3 : t < a1_1
  · rw [if_pos c3] at h
    obtain rfl := Option.some.inj h
    have c3b : decide (t < a1_1) = true := decide_eq_true c3
    clear c0 c1 c2 c3
    refine lt_ 0 30 6 26 ?_
    refine lt_ 1 30 7 25 ?_
    refine lt_ 2 30 8 24 ?_
    refine lt_ 3 30 9 23 ?_
    refine lt_ 4 30 10 22 ?_
    refine lt_ 5 30 11 21 ?_
    refine lt_ 6 30 12 20 ?_
    refine lt_ 7 30 13 19 ?_
    refine lt_ 8 30 14 18 ?_
    refine lt_ 9 30 15 17 ?_
    refine lt_ 10 30 16 16 ?_
    refine lt_ 11 30 17 15 ?_
    refine lt_ 12 30 18 14 ?_
    refine lt_ 13 30 19 13 ?_
    refine lt_ 14 30 20 12 ?_
    refine lt_ 15 30 21 11 ?_
    refine lt_ 16 30 22 10 ?_
    refine lt_ 17 30 23 9 ?_
    refine lt_ 18 30 24 8 ?_
    refine lt_ 19 30 25 7 ?_
    refine lt_ 20 30 26 6 ?_
    refine lt_ 21 30 27 5 ?_
    refine lt_ 22 30 28 4 ?_
    refine late_only 23 3 ({ dst := some 29, op := Op.call { callee := Callee.value (Operand.func 26), args := #[Operand.tmp 26, Operand.tmp 28], argTypes := #[53, 3] }, type := 3, pos := "span.go:42", after := #[{ on := 20, ground := Ground.data }, { on := 22, ground := Ground.data }, { on := 17, ground := Ground.chain }, { on := 17, ground := Ground.guard }], guard := some (17, false) }) rfl (by kernel_rfl) (by rfl) (fun K' hK => ?_)
    go_simp
    refine (HR.out w1.drew (below_drew HB.out)).mono ?_
    rintro e w2 ⟨rfl, hb2⟩
    go_wp2_with fail
    have hb12 : Below w1.heap.size w1 w2 := (below_drew (Below.refl w1.heap.size w1)).trans hb2
    have hb2w : Below w.heap.size w w2 := HB.out.trans (hb12.mono HB.out.size)
    refine hK.out _ _ (HS1.out _ hb12) (fun HSn => ?_)
    clear HS hK K'
    have HS := Lib.hid HSn
    clear HSn
    try simp only [Act.put, List.setIfInBounds_toArray, List.set_cons_zero, List.set_cons_succ]
    refine lt_ 24 30 30 2 ?_
    refine lt_ 25 30 31 1 ?_
    refine late_last 26 0 ({ dst := some 5, op := Op.assign (Operand.tmp 31), type := 4, pos := "span.go:42", after := #[{ on := 25, ground := Ground.data }, { on := 23, ground := Ground.chain }], guard := none }) rfl (by kernel_rfl) rfl (by rfl) (by kernel_rfl) (fun K' hK => ?_)
    go_simp
    refine hK.out _ _ ?_
    clear hK K' HS
    go_wp2_with fail
    go_ret
    exact ⟨rfl, hb2w⟩
  rw [if_neg c3] at h
  have c3b : decide (t < a1_1) = false := decide_eq_false c3
  obtain ⟨p, hp, h⟩ := Option.bind_eq_some_iff.1 h
  have HP := Lib.hid (HPt.out p hp)
  clear HPt hp c0 c1 c2 c3
  refine lt_ 0 30 6 26 ?_
  refine lt_ 1 30 7 25 ?_
  refine lt_ 2 30 8 24 ?_
  refine lt_ 3 30 9 23 ?_
  refine lt_ 4 30 10 22 ?_
  refine lt_ 5 30 11 21 ?_
  refine lt_ 6 30 12 20 ?_
  refine lt_ 7 30 13 19 ?_
  refine lt_ 8 30 14 18 ?_
  refine lt_ 9 30 15 17 ?_
  refine lt_ 10 30 16 16 ?_
  refine lt_ 11 30 17 15 ?_
  refine lt_ 12 30 18 14 ?_
  refine lt_ 13 30 19 13 ?_
  refine lt_ 14 30 20 12 ?_
  refine lt_ 15 30 21 11 ?_
  refine lt_ 16 30 22 10 ?_
  refine lt_ 17 30 23 9 ?_
  refine lt_ 18 30 24 8 ?_
  refine lt_ 19 30 25 7 ?_
  refine lt_ 20 30 26 6 ?_
  refine lt_ 21 30 27 5 ?_
  refine lt_ 22 30 28 4 ?_
  refine late_only 23 3 ({ dst := some 29, op := Op.call { callee := Callee.value (Operand.func 26), args := #[Operand.tmp 26, Operand.tmp 28], argTypes := #[53, 3] }, type := 3, pos := "span.go:42", after := #[{ on := 20, ground := Ground.data }, { on := 22, ground := Ground.data }, { on := 17, ground := Ground.chain }, { on := 17, ground := Ground.guard }], guard := some (17, false) }) rfl (by kernel_rfl) (by rfl) (fun K' hK => ?_)
  go_simp
  refine (HR.out w1.drew (below_drew HB.out)).mono ?_
  rintro e w2 ⟨rfl, hb2⟩
  go_wp2_with fail
  have hb12 : Below w1.heap.size w1 w2 := (below_drew (Below.refl w1.heap.size w1)).trans hb2
  have hb2w : Below w.heap.size w w2 := HB.out.trans (hb12.mono HB.out.size)
  refine hK.out _ _ (HS1.out _ hb12) (fun HSn => ?_)
  clear HS hK K'
  have HS := Lib.hid HSn
  clear HSn
  try simp only [Act.put, List.setIfInBounds_toArray, List.set_cons_zero, List.set_cons_succ]
  refine lt_ 24 30 30 2 ?_
  refine lt_ 25 30 31 1 ?_
  refine late_last 26 0 ({ dst := some 5, op := Op.assign (Operand.tmp 31), type := 4, pos := "span.go:42", after := #[{ on := 25, ground := Ground.data }, { on := 23, ground := Ground.chain }], guard := none }) rfl (by kernel_rfl) rfl (by rfl) (by kernel_rfl) (fun K' hK => ?_)
  go_simp
  refine hK.out _ _ ?_
  clear hK K' HS
  obtain ⟨s0, s1, s2, s3⟩ := HS1.out w2 hb12
  go_wp2_with fail
  refine (HP.out w2 hb2w).mono ?_
  rintro e w3 ⟨⟨A, m, c, rfl, hA⟩, hb3⟩
  have heq := fun W : World => Lib.run_eql_slice_nil (P := Tryd.prog) W 35 3 A m c 0 0 Tryd.underlying35
  cases A with
  | none =>
    rw [if_pos (hA.1 rfl)] at h
    obtain rfl := Option.some.inj h
    clear hA
    go_wp2_with fail
    go_ret
    exact ⟨rfl, hb3⟩
  | some ad =>
    rw [if_neg (fun he => by cases hA.2 he)] at h
    obtain rfl := Option.some.inj h
    clear hA
    go_wp2_with fail
    go_ret
    exact ⟨rfl, hb3⟩

/-! ### span_points: function 24 -/
def span_points.l0 : Nat → List (S27) → Int → Int → List (S37) → Bool → Option ((List (S37)) × Bool × Int)
  | 0, _, _, _, _, _ => none
  | k + 1, x19, x20, x21, x186000, x186001 => if x21 < x20 then (if 0 ≤ x21 then (if x21 < (x19.length : Int) then ((span_ranger_point.f k x186000 x186001 ((rd_T27 x19 x21).f0) ((rd_T27 x19 x21).f1)).bind fun t189 => (if t189 = 0 then (span_points.l0 k x19 x20 (wrap64 (x21 + 1)) x186000 x186001) else (some (x186000, x186001, t189)))) else (none)) else (none)) else (some (x186000, x186001, 0))
def span_points.f (k : Nat) (l0_0 : List (S37)) (a0_1 : Bool) (l1 : List (S27)) : Option ((List (S37)) × Bool × Int) := (dom_Check.f k l0_0 a0_1).bind fun t186 => (if t186 = 0 then (span_points.l0 k l1 (l1.length : Int) 0 l0_0 a0_1) else (some (l0_0, a0_1, t186)))
theorem span_points.mono_l : ∀ k, (∀ y0 y1 y2 y3 y4, LeO (span_points.l0 k y0 y1 y2 y3 y4) (span_points.l0 (k + 1) y0 y1 y2 y3 y4))
  | 0 => fun _ _ _ _ _ r h => by simp [span_points.l0] at h
  | k + 1 => by
    have ih0 := span_points.mono_l k
    · intro y0 y1 y2 y3 y4
      unfold span_points.l0
      repeat' first
      | (with_reducible exact ih0 _ _ _ _ _)
      | (with_reducible exact dom_Check.mono _ _ _)
      | (with_reducible exact span_ranger_point.mono _ _ _ _ _)
      | (with_reducible exact LeO.refl _)
      | (with_reducible exact LeO.none _)
      | (with_reducible refine LeO.ite ?_ ?_)
      | (with_reducible refine LeO.bind ?_ (fun _ => ?_))
      | exact ih0 _ _ _ _ _
      | exact dom_Check.mono _ _ _
      | exact span_ranger_point.mono _ _ _ _ _
      | exact LeO.none _
      | refine LeO.ite ?_ ?_
      | refine LeO.bind ?_ (fun _ => ?_)
theorem span_points.mono : ∀ a0 a1 a2 k, LeO (span_points.f k a0 a1 a2) (span_points.f (k + 1) a0 a1 a2) := by
  intro a0 a1 a2 k
  have ih0 := span_points.mono_l k
  unfold span_points.f
  repeat' first
      | (with_reducible exact ih0 _ _ _ _ _)
      | (with_reducible exact dom_Check.mono _ _ _)
      | (with_reducible exact span_ranger_point.mono _ _ _ _ _)
      | (with_reducible exact LeO.refl _)
      | (with_reducible exact LeO.none _)
      | (with_reducible refine LeO.ite ?_ ?_)
      | (with_reducible refine LeO.bind ?_ (fun _ => ?_))
      | exact ih0 _ _ _ _ _
      | exact dom_Check.mono _ _ _
      | exact span_ranger_point.mono _ _ _ _ _
      | exact LeO.none _
      | refine LeO.ite ?_ ?_
      | refine LeO.bind ?_ (fun _ => ?_)
set_option maxHeartbeats 8000000 in
set_option maxRecDepth 100000 in
theorem span_points.calls (k : Nat) (P0_0_ : Nat → Prop) (A0_0 : Option Addr) (c0_0 : Nat) (l0_0 : List (S37)) (a0_1 : Bool) (A1 : Option Addr) (c1 : Nat) (l1 : List (S27)) (r1 : List (S37)) (r2 : Bool) (r3 : Int) (w : World) (hs0_0 : Kd.V k37 37 w w.heap.size (fun k_ => P0_0_ k_) (.slice A0_0 l0_0.length c0_0) l0_0) (hr1 : Kd.C k27 w A1 l1.length l1) (hc1 : l1.length ≤ c1) (h : span_points.f k l0_0 a0_1 l1 = some (r1, r2, r3)) :
    Calls Tryd.prog 24 #[.agg #[.slice A0_0 l0_0.length c0_0, .bool a0_1], .slice A1 l1.length c1] w fun e w' => ∃ v0_ : Value, e = .returned (.tuple #[.agg #[v0_, .bool r2], .int .i64 r3]) ∧ Kd.V k37 37 w' w.heap.size (fun k_ => (P0_0_ k_ ∨ w.heap.size ≤ k_)) v0_ r1 ∧ Below w.heap.size w w' := by
  have hu24 := Tryd.underlying24
  have hu53 := Tryd.underlying53
  have hu27 := Tryd.underlying27
  have HO0_0 := Aside0.mk (show Kd.V k37 37 w w.heap.size (fun k_ => (P0_0_ k_ ∨ w.heap.size ≤ k_)) (.slice A0_0 l0_0.length c0_0) l0_0 from Kd.V_mono hs0_0 (fun k_ hk => .inl hk))
  have HR1 := Aside0.mk hr1
  have HC1 := Aside0.mk hc1
  clear hr1 hc1
  have HB := Aside0.mk (Below.refl w.heap.size w)
  have H : ((dom_Check.f k l0_0 a0_1).bind fun t186 => (if t186 = 0 then (span_points.l0 k l1 (l1.length : Int) 0 l0_0 a0_1) else (some (l0_0, a0_1, t186)))) = some (r1, r2, r3) := h
  clear h
  replace H := Option.bind_eq_some_iff.mp H
  obtain ⟨t186, A30, H⟩ := H
  replace H : (if t186 = 0 then (span_points.l0 k l1 (l1.length : Int) 0 l0_0 a0_1) else (some (l0_0, a0_1, t186))) = some (r1, r2, r3) := H
  have A3 := Aside0.mk A30
  clear A30
  by_cases c4 : t186 = 0
  · rw [if_pos c4] at H
    have c4b0 : (t186 == 0) = true := beq_iff_eq.mpr c4
    have c4b1 : (t186 != 0) = false := bne_eq_false_iff_eq.mpr c4
    clear c4
    have H' := Aside0.mk H
    clear H
    go_enter Tryd.func24, Tryd.ntmps24
    go_wp2_with (first | ((with_reducible refine gate_dst (N := 2) rfl ?_); refine box_event rf_ (N := 2) rf_ (cs := #[.slice A0_0 l0_0.length c0_0, .bool a0_1]) (t := 24) gs_ ?_; intro gb183 hg w5 hbox hb; replace HO0_0 := Aside0.mk (Kd.V_below (Kd.V_elderB (Kd.V_below HO0_0.out bu_) gb183 (Nat.le_of_eq hg.symm)) hb); have BK183 := Aside0.mk hbox; have GW183 := Aside0.mk (gle_ (w := w) hg bl0_); replace HB := Aside0.mk (below_step bl0_ hb); have GE183 := GW183; clear hb hbox hg) | ((with_reducible refine gate_dst (N := 4) rfl ?_); refine box_event rf_ (N := 4) rf_ (cs := #[.slice none 0 0, .bool false]) (t := 53) gs_ ?_; intro gb184 hg w6 hbox hb; replace HO0_0 := Aside0.mk (Kd.V_below (Kd.V_elderB (Kd.V_below HO0_0.out bu_) gb184 (Nat.le_of_eq hg.symm)) hb); have BK184 := Aside0.mk hbox; have GW184 := Aside0.mk (gle_ (w := w) hg bl0_); replace HB := Aside0.mk (below_step bl0_ hb); have GE184 := GW184; have NB183_184 := nl_ hg BK183; have NB184_183 := ng_ hg BK183; replace BK183 := bb_ BK183 hb; clear hb hbox hg; have hnb7 := NB183_184.out; have hnc7 := NB184_183.out; obtain ⟨hcz8_0, hcz8_1, hfz8_0, hfz8_1⟩ := cf2_ BK183) | ((with_reducible refine gate_dst (N := 6) rfl ?_); refine box_event rf_ (N := 6) rf_ (cs := #[.slice none 0 0, .bool false]) (t := 53) gs_ ?_; intro gb185 hg w9 hbox hb; replace HO0_0 := Aside0.mk (Kd.V_below (Kd.V_elderB (Kd.V_below HO0_0.out bu_) gb185 (Nat.le_of_eq hg.symm)) hb); have BK185 := Aside0.mk hbox; have GW185 := Aside0.mk (gle_ (w := w) hg bl0_); replace HB := Aside0.mk (below_step bl0_ hb); have GE185 := GW185; have NB183_185 := nl_ hg BK183; have NB185_183 := ng_ hg BK183; replace BK183 := bb_ BK183 hb; have NB184_185 := nl_ hg BK184; have NB185_184 := ng_ hg BK184; replace BK184 := bb_ BK184 hb; clear hb hbox hg; have hnb10 := NB185_183.out; have hnc10 := NB183_185.out; have hnb11 := NB185_184.out; have hnc11 := NB184_185.out; obtain ⟨hcz12_0, hcz12_1, hfz12_0, hfz12_1⟩ := cf2_ BK185; obtain ⟨hcz13_0, hcz13_1, hfz13_0, hfz13_1⟩ := cf2_ BK183) | ((with_reducible refine gate_callee (f := 11) rfl ?_); refine goesL_ (some 14) rfl rfl Tryd.func11 (by kernel_rfl) rfl #[.agg #[.slice A0_0 l0_0.length c0_0, .bool a0_1]] rfl mp_ ?_; (with_reducible refine (dom_Check.calls k _ _ l0_0 a0_1 t186 _ ?side1 ?side2 A3.out).mono ?_); (case side1 => refine (Kd.V_reads' (e := 37) (base := w.heap.size) (ok := fun k_ => ((((P0_0_ k_ ∨ w.heap.size ≤ k_) ∧ k_ ≠ gb183) ∧ k_ ≠ gb184) ∧ k_ ≠ gb185)) (n := l0_0.length) (c := c0_0) ?_).2.2; exact (by (with_reducible repeat (first | apply Kd.V_alloc | apply Kd.V_drewN | apply Kd.V_drew)); exact (Kd.V_mono (Kd.V_far (p := ⟨gb185, 1, none⟩) (Kd.V_far (p := ⟨gb185, 0, none⟩) (Kd.V_mono HO0_0.out (fun k_ hk => (⟨hk, hk.2⟩ : _ ∧ k_ ≠ gb185))) (fun _ hk => hk.2) (.slice A0_0 l0_0.length c0_0)) (fun _ hk => hk.2) (.bool a0_1)) (fun _ h_ => h_.1)))); (case side2 => exact (Kd.V_reads' HO0_0.out).2.1); rintro e w14 ⟨rfl, hb⟩; refine ⟨_, rfl, ?_⟩; replace HO0_0 := Aside0.mk (Kd.V_below (by (with_reducible repeat (first | apply Kd.V_alloc | apply Kd.V_drewN | apply Kd.V_drew)); exact (Kd.V_mono (Kd.V_far (p := ⟨gb185, 1, none⟩) (Kd.V_far (p := ⟨gb185, 0, none⟩) (Kd.V_mono HO0_0.out (fun k_ hk => (⟨hk, hk.2⟩ : _ ∧ k_ ≠ gb185))) (fun _ hk => hk.2) (.slice A0_0 l0_0.length c0_0)) (fun _ hk => hk.2) (.bool a0_1)) (fun _ h_ => h_.1))) hb); replace BK183 := Aside0.mk (blk_below (g := gb183) (o := .cells #[.slice A0_0 l0_0.length c0_0, .bool a0_1] 24 (0, 0)) (bw_ BK183) hb); replace BK184 := Aside0.mk (blk_below (g := gb184) (o := .cells #[.slice none 0 0, .bool false] 53 (0, 0)) (bw_ BK184) hb); replace BK185 := Aside0.mk (blk_below (g := gb185) (o := .cells #[.slice A0_0 l0_0.length c0_0, .bool a0_1] 53 (0, 0)) (bw_ BK185) hb); replace HB := Aside0.mk (below_step bl0_ hb); (try clear hb); (try clear hb2); (try clear hk); (try clear hi)))
    go_loopg [21] k (fun kq v21 w' => ∃ (x21_1 : Int) (x185001_1 : Bool), v21 = .int .i64 x21_1 ∧ Aside0 (span_points.l0 kq l1 (l1.length : Int) x21_1 l0_0 a0_1 = some (r1, r2, r3)) ∧ Aside0 (kq ≤ k) ∧ Aside0 (Kd.V k37 37 w' w.heap.size (fun k_ => (P0_0_ k_ ∨ w.heap.size ≤ k_) ∧ k_ ≠ gb183 ∧ k_ ≠ gb184 ∧ k_ ≠ gb185) (.slice A0_0 l0_0.length c0_0) l0_0) ∧ Aside0 (Kd.V k37 37 w' w.heap.size (fun k_ => (P0_0_ k_ ∨ w.heap.size ≤ k_) ∧ k_ ≠ gb183 ∧ k_ ≠ gb184 ∧ k_ ≠ gb185) (.slice A0_0 l0_0.length c0_0) l0_0) ∧ Aside0 (w'.heap[gb183]? = some (.cells #[(.slice A0_0 l0_0.length c0_0), .bool a0_1] 24 (0, 0))) ∧ Aside0 (w'.heap[gb184]? = some (.cells #[(.slice none 0 0), .bool x185001_1] 53 (0, 0))) ∧ Aside0 (w'.heap[gb185]? = some (.cells #[(.slice A0_0 l0_0.length c0_0), .bool a0_1] 53 (0, 0))) ∧ Aside0 (Below w.heap.size w w'))
    case atStart => exact ⟨(0), (false), rs_, H', ⟨Nat.le_refl _⟩, ⟨by (with_reducible repeat (first | apply Kd.V_alloc | apply Kd.V_drewN | apply Kd.V_drew)); exact Kd.V_mono HO0_0.out (fun _ hk => ⟨hk.1.1.1, ⟨hk.1.1.2, ⟨hk.1.2, hk.2⟩⟩⟩)⟩, ⟨by (with_reducible repeat (first | apply Kd.V_alloc | apply Kd.V_drewN | apply Kd.V_drew)); exact Kd.V_mono HO0_0.out (fun _ hk => ⟨hk.1.1.1, ⟨hk.1.1.2, ⟨hk.1.2, hk.2⟩⟩⟩)⟩, ⟨by (with_reducible repeat (first | refine blk_drewN ?_ _ | refine blk_drew ?_ | refine blk_alloc ?_ _)); exact BK183.out⟩, ⟨by (with_reducible repeat (first | refine blk_drewN ?_ _ | refine blk_drew ?_ | refine blk_alloc ?_ _)); exact BK184.out⟩, ⟨by (with_reducible repeat (first | refine blk_drewN ?_ _ | refine blk_drew ?_ | refine blk_alloc ?_ _)); exact BK185.out⟩, ⟨bl0_⟩⟩
    case round =>
      clear H'
      try clear c1
      try clear c4b0
      try clear c4b1
      try clear hcz12_0
      try clear hcz12_1
      try clear hcz13_0
      try clear hcz13_1
      try clear hcz8_0
      try clear hcz8_1
      try clear hfz12_0
      try clear hfz12_1
      try clear hfz13_0
      try clear hfz13_1
      try clear hfz8_0
      try clear hfz8_1
      obtain ⟨x21_1, x185001_1, rfl, HA, HK1, HO_184000, HO_186000, BK183, BK184, BK185, HB⟩ := hrel
      cases gk with
      | zero => exact absurd HA.out (by simp [span_points.l0])
      | succ k1 =>
        have H := HA.out
        clear HA
        simp only [span_points.l0] at H
        by_cases c15 : x21_1 < (l1.length : Int)
        · rw [if_pos c15] at H
          have c15b0 : decide (x21_1 < (l1.length : Int)) = true := decide_eq_true c15
          clear c15
          by_cases c16 : 0 ≤ x21_1
          · rw [if_pos c16] at H
            have c16b0 : decide (0 ≤ x21_1) = true := decide_eq_true c16
            clear c16
            by_cases c17 : x21_1 < (l1.length : Int)
            · rw [if_pos c17] at H
              have c17b0 : decide (x21_1 < (l1.length : Int)) = true := decide_eq_true c17
              clear c17
              replace H := Option.bind_eq_some_iff.mp H
              obtain ⟨t189, A180, H⟩ := H
              replace H : (if t189 = 0 then (span_points.l0 k1 l1 (l1.length : Int) (wrap64 (x21_1 + 1)) l0_0 a0_1) else (some (l0_0, a0_1, t189))) = some (r1, r2, r3) := H
              have A18 := Aside0.mk A180
              clear A180
              by_cases c19 : t189 = 0
              · rw [if_pos c19] at H
                have c19b0 : (t189 == 0) = true := beq_iff_eq.mpr c19
                have c19b1 : (t189 != 0) = false := bne_eq_false_iff_eq.mpr c19
                clear c19
                have H' := Aside0.mk H
                clear H
                have p187 : 0 ≤ (x21_1 : Int) := of_decide_eq_true as_
                have q187 : x21_1 < (l1.length : Int) := of_decide_eq_true as_
                obtain ⟨ad187, e187, hx187_0, hx187_1⟩ := at_T27 HR1.out x21_1 p187 q187
                cases e187
                replace hx187_0 := pw_cell_below HB.out hx187_0
                replace hx187_1 := pw_cell_below HB.out hx187_1
                replace p187 := eq_true p187
                replace q187 := eq_true q187
                go_wp2_with (first | ((with_reducible refine gate_dst (N := 9) rfl ?_); refine box_event rf_ (N := 9) rf_ (cs := #[.int .i64 0, .int .i64 0]) (t := 27) gs_ ?_; intro gb188 hg w20 hbox hb; replace HO_184000 := Aside0.mk (Kd.V_below (Kd.V_elderB (Kd.V_below HO_184000.out bu_) gb188 (Nat.le_of_eq hg.symm)) hb); replace HO_186000 := Aside0.mk (Kd.V_below (Kd.V_elderB (Kd.V_below HO_186000.out bu_) gb188 (Nat.le_of_eq hg.symm)) hb); have BK188 := Aside0.mk hbox; have GW188 := Aside0.mk (gle_ (w := w) hg bl0_); replace HB := Aside0.mk (below_step bl0_ hb); have GE188 := GW188; have NB183_188 := nl_ hg BK183; have NB188_183 := ng_ hg BK183; replace BK183 := bb_ BK183 hb; have NB184_188 := nl_ hg BK184; have NB188_184 := ng_ hg BK184; replace BK184 := bb_ BK184 hb; have NB185_188 := nl_ hg BK185; have NB188_185 := ng_ hg BK185; replace BK185 := bb_ BK185 hb; clear hb hbox hg; have hnb21 := NB188_183.out; have hnc21 := NB183_188.out; have hnb22 := NB188_184.out; have hnc22 := NB184_188.out; have hnb23 := NB188_185.out; have hnc23 := NB185_188.out; obtain ⟨hcz24_0, hcz24_1, hfz24_0, hfz24_1⟩ := cf2_ BK188; have hnb25 := NB185_183.out; have hnc25 := NB183_185.out; have hnb26 := NB185_184.out; have hnc26 := NB184_185.out; obtain ⟨hcz27_0, hcz27_1, hfz27_0, hfz27_1⟩ := cf2_ BK185) | ((with_reducible refine gate_callee (f := 37) rfl ?_); refine goesL_ (some 27) rfl rfl Tryd.func37 (by kernel_rfl) rfl #[.agg #[.slice A0_0 l0_0.length c0_0, .bool a0_1], .agg #[.int .i64 ((rd_T27 l1 x21_1).f0), .int .i64 ((rd_T27 l1 x21_1).f1)]] rfl mp_ ?_; (with_reducible refine (span_ranger_point.calls k1 _ _ l0_0 a0_1 ((rd_T27 l1 x21_1).f0) ((rd_T27 l1 x21_1).f1) t189 _ ?side1 ?side2 A18.out).mono ?_); (case side1 => refine (Kd.V_reads' (e := 37) (base := w.heap.size) (ok := fun k_ => (((P0_0_ k_ ∨ w.heap.size ≤ k_) ∧ (k_ ≠ gb183 ∧ (k_ ≠ gb184 ∧ k_ ≠ gb185))) ∧ k_ ≠ gb188)) (n := l0_0.length) (c := c0_0) ?_).2.2; exact (by (with_reducible repeat (first | apply Kd.V_alloc | apply Kd.V_drewN | apply Kd.V_drew)); exact (Kd.V_mono (Kd.V_far (p := ⟨gb188, 1, none⟩) (Kd.V_far (p := ⟨gb188, 0, none⟩) (Kd.V_mono HO_186000.out (fun k_ hk => (⟨hk, hk.2⟩ : _ ∧ k_ ≠ gb188))) (fun _ hk => hk.2) (.int .i64 ((rd_T27 l1 x21_1).f0))) (fun _ hk => hk.2) (.int .i64 ((rd_T27 l1 x21_1).f1))) (fun _ h_ => h_.1)))); (case side2 => exact (Kd.V_reads' HO_186000.out).2.1); rintro e w28 ⟨rfl, hb⟩; refine ⟨_, rfl, ?_⟩; replace HO_184000 := Aside0.mk (Kd.V_below (by (with_reducible repeat (first | apply Kd.V_alloc | apply Kd.V_drewN | apply Kd.V_drew)); exact (Kd.V_mono (Kd.V_far (p := ⟨gb188, 1, none⟩) (Kd.V_far (p := ⟨gb188, 0, none⟩) (Kd.V_mono HO_184000.out (fun k_ hk => (⟨hk, hk.2⟩ : _ ∧ k_ ≠ gb188))) (fun _ hk => hk.2) (.int .i64 ((rd_T27 l1 x21_1).f0))) (fun _ hk => hk.2) (.int .i64 ((rd_T27 l1 x21_1).f1))) (fun _ h_ => h_.1))) hb); replace HO_186000 := Aside0.mk (Kd.V_below (by (with_reducible repeat (first | apply Kd.V_alloc | apply Kd.V_drewN | apply Kd.V_drew)); exact (Kd.V_mono (Kd.V_far (p := ⟨gb188, 1, none⟩) (Kd.V_far (p := ⟨gb188, 0, none⟩) (Kd.V_mono HO_186000.out (fun k_ hk => (⟨hk, hk.2⟩ : _ ∧ k_ ≠ gb188))) (fun _ hk => hk.2) (.int .i64 ((rd_T27 l1 x21_1).f0))) (fun _ hk => hk.2) (.int .i64 ((rd_T27 l1 x21_1).f1))) (fun _ h_ => h_.1))) hb); replace BK183 := Aside0.mk (blk_below (g := gb183) (o := .cells #[.slice A0_0 l0_0.length c0_0, .bool a0_1] 24 (0, 0)) (bw_ BK183) hb); replace BK184 := Aside0.mk (blk_below (g := gb184) (o := .cells #[.slice none 0 0, .bool x185001_1] 53 (0, 0)) (bw_ BK184) hb); replace BK185 := Aside0.mk (blk_below (g := gb185) (o := .cells #[.slice A0_0 l0_0.length c0_0, .bool a0_1] 53 (0, 0)) (bw_ BK185) hb); replace BK188 := Aside0.mk (blk_below (g := gb188) (o := .cells #[.int .i64 ((rd_T27 l1 x21_1).f0), .int .i64 ((rd_T27 l1 x21_1).f1)] 27 (0, 0)) (bw_ BK188) hb); replace HB := Aside0.mk (below_step bl0_ hb); (try clear hb); (try clear hb2); (try clear hk); (try clear hi)))
                go_roundg k1
                case measure => have := HK1.out; omega
                case rel => exact ⟨(wrap64 (x21_1 + 1)), (x185001_1), rs_, H', ⟨by have := HK1.out; omega⟩, ⟨by (with_reducible repeat (first | apply Kd.V_alloc | apply Kd.V_drewN | apply Kd.V_drew)); exact Kd.V_mono HO_184000.out (fun _ hk => ⟨hk.1.1, ⟨hk.1.2.1, ⟨hk.1.2.2.1, hk.1.2.2.2⟩⟩⟩)⟩, ⟨by (with_reducible repeat (first | apply Kd.V_alloc | apply Kd.V_drewN | apply Kd.V_drew)); exact Kd.V_mono HO_186000.out (fun _ hk => ⟨hk.1.1, ⟨hk.1.2.1, ⟨hk.1.2.2.1, hk.1.2.2.2⟩⟩⟩)⟩, ⟨by (with_reducible repeat (first | refine blk_drewN ?_ _ | refine blk_drew ?_ | refine blk_alloc ?_ _)); exact BK183.out⟩, ⟨by (with_reducible repeat (first | refine blk_drewN ?_ _ | refine blk_drew ?_ | refine blk_alloc ?_ _)); exact BK184.out⟩, ⟨by (with_reducible repeat (first | refine blk_drewN ?_ _ | refine blk_drew ?_ | refine blk_alloc ?_ _)); exact BK185.out⟩, ⟨bl0_⟩⟩
              · rw [if_neg c19] at H
                have c19b0 : (t189 == 0) = false := beq_eq_false_iff_ne.mpr c19
                have c19b1 : (t189 != 0) = true := bne_iff_ne.mpr c19
                simp only [Option.some.injEq, Prod.mk.injEq] at H
                obtain ⟨rfl, rfl, rfl⟩ := H
                have p187 : 0 ≤ (x21_1 : Int) := of_decide_eq_true as_
                have q187 : x21_1 < (l1.length : Int) := of_decide_eq_true as_
                obtain ⟨ad187, e187, hx187_0, hx187_1⟩ := at_T27 HR1.out x21_1 p187 q187
                cases e187
                replace hx187_0 := pw_cell_below HB.out hx187_0
                replace hx187_1 := pw_cell_below HB.out hx187_1
                replace p187 := eq_true p187
                replace q187 := eq_true q187
                go_wp2_with (first | ((with_reducible refine gate_dst (N := 9) rfl ?_); refine box_event rf_ (N := 9) rf_ (cs := #[.int .i64 0, .int .i64 0]) (t := 27) gs_ ?_; intro gb188 hg w29 hbox hb; replace HO_184000 := Aside0.mk (Kd.V_below (Kd.V_elderB (Kd.V_below HO_184000.out bu_) gb188 (Nat.le_of_eq hg.symm)) hb); replace HO_186000 := Aside0.mk (Kd.V_below (Kd.V_elderB (Kd.V_below HO_186000.out bu_) gb188 (Nat.le_of_eq hg.symm)) hb); have BK188 := Aside0.mk hbox; have GW188 := Aside0.mk (gle_ (w := w) hg bl0_); replace HB := Aside0.mk (below_step bl0_ hb); have GE188 := GW188; have NB183_188 := nl_ hg BK183; have NB188_183 := ng_ hg BK183; replace BK183 := bb_ BK183 hb; have NB184_188 := nl_ hg BK184; have NB188_184 := ng_ hg BK184; replace BK184 := bb_ BK184 hb; have NB185_188 := nl_ hg BK185; have NB188_185 := ng_ hg BK185; replace BK185 := bb_ BK185 hb; clear hb hbox hg; have hnb30 := NB188_183.out; have hnc30 := NB183_188.out; have hnb31 := NB188_184.out; have hnc31 := NB184_188.out; have hnb32 := NB188_185.out; have hnc32 := NB185_188.out; obtain ⟨hcz33_0, hcz33_1, hfz33_0, hfz33_1⟩ := cf2_ BK188; have hnb34 := NB185_183.out; have hnc34 := NB183_185.out; have hnb35 := NB185_184.out; have hnc35 := NB184_185.out; obtain ⟨hcz36_0, hcz36_1, hfz36_0, hfz36_1⟩ := cf2_ BK185) | ((with_reducible refine gate_callee (f := 37) rfl ?_); refine goesL_ (some 27) rfl rfl Tryd.func37 (by kernel_rfl) rfl #[.agg #[.slice A0_0 l0_0.length c0_0, .bool a0_1], .agg #[.int .i64 ((rd_T27 l1 x21_1).f0), .int .i64 ((rd_T27 l1 x21_1).f1)]] rfl mp_ ?_; (with_reducible refine (span_ranger_point.calls k1 _ _ l0_0 a0_1 ((rd_T27 l1 x21_1).f0) ((rd_T27 l1 x21_1).f1) t189 _ ?side1 ?side2 A18.out).mono ?_); (case side1 => refine (Kd.V_reads' (e := 37) (base := w.heap.size) (ok := fun k_ => (((P0_0_ k_ ∨ w.heap.size ≤ k_) ∧ (k_ ≠ gb183 ∧ (k_ ≠ gb184 ∧ k_ ≠ gb185))) ∧ k_ ≠ gb188)) (n := l0_0.length) (c := c0_0) ?_).2.2; exact (by (with_reducible repeat (first | apply Kd.V_alloc | apply Kd.V_drewN | apply Kd.V_drew)); exact (Kd.V_mono (Kd.V_far (p := ⟨gb188, 1, none⟩) (Kd.V_far (p := ⟨gb188, 0, none⟩) (Kd.V_mono HO_186000.out (fun k_ hk => (⟨hk, hk.2⟩ : _ ∧ k_ ≠ gb188))) (fun _ hk => hk.2) (.int .i64 ((rd_T27 l1 x21_1).f0))) (fun _ hk => hk.2) (.int .i64 ((rd_T27 l1 x21_1).f1))) (fun _ h_ => h_.1)))); (case side2 => exact (Kd.V_reads' HO_186000.out).2.1); rintro e w37 ⟨rfl, hb⟩; refine ⟨_, rfl, ?_⟩; replace HO_184000 := Aside0.mk (Kd.V_below (by (with_reducible repeat (first | apply Kd.V_alloc | apply Kd.V_drewN | apply Kd.V_drew)); exact (Kd.V_mono (Kd.V_far (p := ⟨gb188, 1, none⟩) (Kd.V_far (p := ⟨gb188, 0, none⟩) (Kd.V_mono HO_184000.out (fun k_ hk => (⟨hk, hk.2⟩ : _ ∧ k_ ≠ gb188))) (fun _ hk => hk.2) (.int .i64 ((rd_T27 l1 x21_1).f0))) (fun _ hk => hk.2) (.int .i64 ((rd_T27 l1 x21_1).f1))) (fun _ h_ => h_.1))) hb); replace HO_186000 := Aside0.mk (Kd.V_below (by (with_reducible repeat (first | apply Kd.V_alloc | apply Kd.V_drewN | apply Kd.V_drew)); exact (Kd.V_mono (Kd.V_far (p := ⟨gb188, 1, none⟩) (Kd.V_far (p := ⟨gb188, 0, none⟩) (Kd.V_mono HO_186000.out (fun k_ hk => (⟨hk, hk.2⟩ : _ ∧ k_ ≠ gb188))) (fun _ hk => hk.2) (.int .i64 ((rd_T27 l1 x21_1).f0))) (fun _ hk => hk.2) (.int .i64 ((rd_T27 l1 x21_1).f1))) (fun _ h_ => h_.1))) hb); replace BK183 := Aside0.mk (blk_below (g := gb183) (o := .cells #[.slice A0_0 l0_0.length c0_0, .bool a0_1] 24 (0, 0)) (bw_ BK183) hb); replace BK184 := Aside0.mk (blk_below (g := gb184) (o := .cells #[.slice none 0 0, .bool x185001_1] 53 (0, 0)) (bw_ BK184) hb); replace BK185 := Aside0.mk (blk_below (g := gb185) (o := .cells #[.slice A0_0 l0_0.length c0_0, .bool a0_1] 53 (0, 0)) (bw_ BK185) hb); replace BK188 := Aside0.mk (blk_below (g := gb188) (o := .cells #[.int .i64 ((rd_T27 l1 x21_1).f0), .int .i64 ((rd_T27 l1 x21_1).f1)] 27 (0, 0)) (bw_ BK188) hb); replace HB := Aside0.mk (below_step bl0_ hb); (try clear hb); (try clear hb2); (try clear hk); (try clear hi); obtain ⟨hcz38_0, hcz38_1, hfz38_0, hfz38_1⟩ := cf2_ BK185; have hnb39 := NB184_183.out; have hnc39 := NB183_184.out; obtain ⟨hcz40_0, hcz40_1, hfz40_0, hfz40_1⟩ := cf2_ BK184))
                refine bodyPost_ret (results_ct rfl _ _ gb184 53 #[.slice A0_0 l0_0.length c0_0, .bool a0_1] (0, 0) _ rfl (bw_ BK184) Tryd.underlying53 rfl (by kernel_rfl)) rfl ?_
                exact ⟨_, er_, by (with_reducible repeat (first | apply Kd.V_alloc | apply Kd.V_drewN | apply Kd.V_drew)); exact Kd.V_mono (Kd.V_far (p := ⟨gb184, 1, none⟩) (Kd.V_far (p := ⟨gb184, 0, none⟩) (Kd.V_mono HO_186000.out (fun k_ hk => (⟨hk, hk.1.2.2.1⟩ : _ ∧ k_ ≠ gb184))) (fun _ hk => hk.2) (.slice A0_0 l0_0.length c0_0)) (fun _ hk => hk.2) (.bool a0_1)) (fun _ hk => hk.1.1.1), bl0_⟩
            · rw [if_neg c17] at H
              exact absurd H (by simp)
          · rw [if_neg c16] at H
            exact absurd H (by simp)
        · rw [if_neg c15] at H
          have c15b0 : decide (x21_1 < (l1.length : Int)) = false := decide_eq_false c15
          clear c15
          simp only [Option.some.injEq, Prod.mk.injEq] at H
          obtain ⟨rfl, rfl, rfl⟩ := H
          have hnb41 := NB185_183.out
          have hnc41 := NB183_185.out
          have hnb42 := NB185_184.out
          have hnc42 := NB184_185.out
          obtain ⟨hcz43_0, hcz43_1, hfz43_0, hfz43_1⟩ := cf2_ BK185
          have hnb44 := NB184_183.out
          have hnc44 := NB183_184.out
          obtain ⟨hcz45_0, hcz45_1, hfz45_0, hfz45_1⟩ := cf2_ BK184
          go_wp2
          refine bodyPost_ret (results_ct rfl _ _ gb184 53 #[.slice A0_0 l0_0.length c0_0, .bool a0_1] (0, 0) _ rfl (bw_ BK184) Tryd.underlying53 rfl (by kernel_rfl)) rfl ?_
          exact ⟨_, er_, by (with_reducible repeat (first | apply Kd.V_alloc | apply Kd.V_drewN | apply Kd.V_drew)); exact Kd.V_mono (Kd.V_far (p := ⟨gb184, 1, none⟩) (Kd.V_far (p := ⟨gb184, 0, none⟩) (Kd.V_mono HO_186000.out (fun k_ hk => (⟨hk, hk.2.2.1⟩ : _ ∧ k_ ≠ gb184))) (fun _ hk => hk.2) (.slice A0_0 l0_0.length c0_0)) (fun _ hk => hk.2) (.bool a0_1)) (fun _ hk => hk.1.1), bl0_⟩
  · rw [if_neg c4] at H
    have c4b0 : (t186 == 0) = false := beq_eq_false_iff_ne.mpr c4
    have c4b1 : (t186 != 0) = true := bne_iff_ne.mpr c4
    simp only [Option.some.injEq, Prod.mk.injEq] at H
    obtain ⟨rfl, rfl, rfl⟩ := H
    go_enter Tryd.func24, Tryd.ntmps24
    go_wp2_with (first | ((with_reducible refine gate_dst (N := 2) rfl ?_); refine box_event rf_ (N := 2) rf_ (cs := #[.slice A0_0 l0_0.length c0_0, .bool a0_1]) (t := 24) gs_ ?_; intro gb183 hg w46 hbox hb; replace HO0_0 := Aside0.mk (Kd.V_below (Kd.V_elderB (Kd.V_below HO0_0.out bu_) gb183 (Nat.le_of_eq hg.symm)) hb); have BK183 := Aside0.mk hbox; have GW183 := Aside0.mk (gle_ (w := w) hg bl0_); replace HB := Aside0.mk (below_step bl0_ hb); have GE183 := GW183; clear hb hbox hg) | ((with_reducible refine gate_dst (N := 4) rfl ?_); refine box_event rf_ (N := 4) rf_ (cs := #[.slice none 0 0, .bool false]) (t := 53) gs_ ?_; intro gb184 hg w47 hbox hb; replace HO0_0 := Aside0.mk (Kd.V_below (Kd.V_elderB (Kd.V_below HO0_0.out bu_) gb184 (Nat.le_of_eq hg.symm)) hb); have BK184 := Aside0.mk hbox; have GW184 := Aside0.mk (gle_ (w := w) hg bl0_); replace HB := Aside0.mk (below_step bl0_ hb); have GE184 := GW184; have NB183_184 := nl_ hg BK183; have NB184_183 := ng_ hg BK183; replace BK183 := bb_ BK183 hb; clear hb hbox hg; have hnb48 := NB183_184.out; have hnc48 := NB184_183.out; obtain ⟨hcz49_0, hcz49_1, hfz49_0, hfz49_1⟩ := cf2_ BK183) | ((with_reducible refine gate_dst (N := 6) rfl ?_); refine box_event rf_ (N := 6) rf_ (cs := #[.slice none 0 0, .bool false]) (t := 53) gs_ ?_; intro gb185 hg w50 hbox hb; replace HO0_0 := Aside0.mk (Kd.V_below (Kd.V_elderB (Kd.V_below HO0_0.out bu_) gb185 (Nat.le_of_eq hg.symm)) hb); have BK185 := Aside0.mk hbox; have GW185 := Aside0.mk (gle_ (w := w) hg bl0_); replace HB := Aside0.mk (below_step bl0_ hb); have GE185 := GW185; have NB183_185 := nl_ hg BK183; have NB185_183 := ng_ hg BK183; replace BK183 := bb_ BK183 hb; have NB184_185 := nl_ hg BK184; have NB185_184 := ng_ hg BK184; replace BK184 := bb_ BK184 hb; clear hb hbox hg; have hnb51 := NB185_183.out; have hnc51 := NB183_185.out; have hnb52 := NB185_184.out; have hnc52 := NB184_185.out; obtain ⟨hcz53_0, hcz53_1, hfz53_0, hfz53_1⟩ := cf2_ BK185; obtain ⟨hcz54_0, hcz54_1, hfz54_0, hfz54_1⟩ := cf2_ BK183) | ((with_reducible refine gate_callee (f := 11) rfl ?_); refine goesL_ (some 14) rfl rfl Tryd.func11 (by kernel_rfl) rfl #[.agg #[.slice A0_0 l0_0.length c0_0, .bool a0_1]] rfl mp_ ?_; (with_reducible refine (dom_Check.calls k _ _ l0_0 a0_1 t186 _ ?side1 ?side2 A3.out).mono ?_); (case side1 => refine (Kd.V_reads' (e := 37) (base := w.heap.size) (ok := fun k_ => ((((P0_0_ k_ ∨ w.heap.size ≤ k_) ∧ k_ ≠ gb183) ∧ k_ ≠ gb184) ∧ k_ ≠ gb185)) (n := l0_0.length) (c := c0_0) ?_).2.2; exact (by (with_reducible repeat (first | apply Kd.V_alloc | apply Kd.V_drewN | apply Kd.V_drew)); exact (Kd.V_mono (Kd.V_far (p := ⟨gb185, 1, none⟩) (Kd.V_far (p := ⟨gb185, 0, none⟩) (Kd.V_mono HO0_0.out (fun k_ hk => (⟨hk, hk.2⟩ : _ ∧ k_ ≠ gb185))) (fun _ hk => hk.2) (.slice A0_0 l0_0.length c0_0)) (fun _ hk => hk.2) (.bool a0_1)) (fun _ h_ => h_.1)))); (case side2 => exact (Kd.V_reads' HO0_0.out).2.1); rintro e w55 ⟨rfl, hb⟩; refine ⟨_, rfl, ?_⟩; replace HO0_0 := Aside0.mk (Kd.V_below (by (with_reducible repeat (first | apply Kd.V_alloc | apply Kd.V_drewN | apply Kd.V_drew)); exact (Kd.V_mono (Kd.V_far (p := ⟨gb185, 1, none⟩) (Kd.V_far (p := ⟨gb185, 0, none⟩) (Kd.V_mono HO0_0.out (fun k_ hk => (⟨hk, hk.2⟩ : _ ∧ k_ ≠ gb185))) (fun _ hk => hk.2) (.slice A0_0 l0_0.length c0_0)) (fun _ hk => hk.2) (.bool a0_1)) (fun _ h_ => h_.1))) hb); replace BK183 := Aside0.mk (blk_below (g := gb183) (o := .cells #[.slice A0_0 l0_0.length c0_0, .bool a0_1] 24 (0, 0)) (bw_ BK183) hb); replace BK184 := Aside0.mk (blk_below (g := gb184) (o := .cells #[.slice none 0 0, .bool false] 53 (0, 0)) (bw_ BK184) hb); replace BK185 := Aside0.mk (blk_below (g := gb185) (o := .cells #[.slice A0_0 l0_0.length c0_0, .bool a0_1] 53 (0, 0)) (bw_ BK185) hb); replace HB := Aside0.mk (below_step bl0_ hb); (try clear hb); (try clear hb2); (try clear hk); (try clear hi); obtain ⟨hcz56_0, hcz56_1, hfz56_0, hfz56_1⟩ := cf2_ BK185; obtain ⟨hcz57_0, hcz57_1, hfz57_0, hfz57_1⟩ := cf2_ BK184))
    refine bodyPost_ret (results_ct rfl _ _ gb184 53 #[.slice A0_0 l0_0.length c0_0, .bool a0_1] (0, 0) _ rfl (bw_ BK184) Tryd.underlying53 rfl (by kernel_rfl)) rfl ?_
    exact ⟨_, er_, by (with_reducible repeat (first | apply Kd.V_alloc | apply Kd.V_drewN | apply Kd.V_drew)); exact Kd.V_mono (Kd.V_far (p := ⟨gb184, 1, none⟩) (Kd.V_far (p := ⟨gb184, 0, none⟩) (Kd.V_mono HO0_0.out (fun k_ hk => (⟨hk, hk.1.2⟩ : _ ∧ k_ ≠ gb184))) (fun _ hk => hk.2) (.slice A0_0 l0_0.length c0_0)) (fun _ hk => hk.2) (.bool a0_1)) (fun _ hk => hk.1.1.1.1), bl0_⟩

/-! ### cmp_isNaN_int: function 52 -/
def cmp_isNaN_int.f (a0 : Int) : Option (Bool) := some (a0 != a0)
set_option maxHeartbeats 8000000 in
set_option maxRecDepth 100000 in
theorem cmp_isNaN_int.calls (a0 : Int) (r : Bool) (w : World) (h : cmp_isNaN_int.f a0 = some r) :
    Calls Tryd.prog 52 #[.int .i64 a0] w fun e w' => e = .returned (.bool r) ∧ Drawn0 w w' := by
  have H : (some (a0 != a0)) = some r := h
  clear h
  obtain rfl := Option.some.inj H
  go_enter Tryd.func52, Tryd.ntmps52
  go_wp2
  go_ret
  exact ⟨by first | rfl | (simp; done) | (simp [*]; done), by repeat (first | exact Drawn0.refl _ | apply Drawn0.step)⟩

/-! ### cmp_Compare_int: function 38 -/
def cmp_Compare_int.f (a0 : Int) (a1 : Int) : Option (Int) := (cmp_isNaN_int.f a0).bind fun t190 => ((cmp_isNaN_int.f a1).bind fun t191 => (if t190 = true then (if t191 = true then (some 0) else (some (-1))) else (if t191 = true then (some 1) else (if a0 < a1 then (some (-1)) else (if a0 > a1 then (some 1) else (some 0))))))
set_option maxHeartbeats 8000000 in
set_option maxRecDepth 100000 in
theorem cmp_Compare_int.calls (a0 : Int) (a1 : Int) (r : Int) (w : World) (h : cmp_Compare_int.f a0 a1 = some r) :
    Calls Tryd.prog 38 #[.int .i64 a0, .int .i64 a1] w fun e w' => e = .returned (.int .i64 r) ∧ Drawn0 w w' := by
  have H : ((cmp_isNaN_int.f a0).bind fun t190 => ((cmp_isNaN_int.f a1).bind fun t191 => (if t190 = true then (if t191 = true then (some 0) else (some (-1))) else (if t191 = true then (some 1) else (if a0 < a1 then (some (-1)) else (if a0 > a1 then (some 1) else (some 0))))))) = some r := h
  clear h
  replace H := Option.bind_eq_some_iff.mp H
  obtain ⟨t190, A30, H⟩ := H
  replace H : ((cmp_isNaN_int.f a1).bind fun t191 => (if t190 = true then (if t191 = true then (some 0) else (some (-1))) else (if t191 = true then (some 1) else (if a0 < a1 then (some (-1)) else (if a0 > a1 then (some 1) else (some 0)))))) = some r := H
  have A3 := Aside0.mk A30
  clear A30
  replace H := Option.bind_eq_some_iff.mp H
  obtain ⟨t191, A40, H⟩ := H
  replace H : (if t190 = true then (if t191 = true then (some 0) else (some (-1))) else (if t191 = true then (some 1) else (if a0 < a1 then (some (-1)) else (if a0 > a1 then (some 1) else (some 0))))) = some r := H
  have A4 := Aside0.mk A40
  clear A40
  by_cases c5 : t190 = true
  · subst c5
    have H1 : (if t191 = true then (some 0) else (some (-1))) = some r := by rw [if_pos rfl] at H; exact H
    clear H
    have H := H1
    clear H1
    by_cases c6 : t191 = true
    · subst c6
      have H1 : (some 0) = some r := by rw [if_pos rfl] at H; exact H
      clear H
      have H := H1
      clear H1
      obtain rfl := Option.some.inj H
      go_enter Tryd.func38, Tryd.ntmps38
      go_wp2_with (first | ((with_reducible refine gate_callee (f := 52) rfl ?_); refine goesL_ (some 8) rfl rfl Tryd.func52 (by kernel_rfl) rfl #[.int .i64 a0] rfl mp_ ?_; (with_reducible refine (cmp_isNaN_int.calls a0 true _ A3.out).mono ?_); rintro e w' ⟨rfl, ⟨nd, rfl⟩⟩; refine ⟨_, rfl, ?_⟩) | ((with_reducible refine gate_callee (f := 52) rfl ?_); refine goesL_ (some 10) rfl rfl Tryd.func52 (by kernel_rfl) rfl #[.int .i64 a1] rfl mp_ ?_; (with_reducible refine (cmp_isNaN_int.calls a1 true _ A4.out).mono ?_); rintro e w' ⟨rfl, ⟨nd, rfl⟩⟩; refine ⟨_, rfl, ?_⟩))
      go_ret
      exact ⟨by first | rfl | (simp; done) | (simp [*]; done), by repeat (first | exact Drawn0.refl _ | apply Drawn0.step)⟩
    · replace c6 := Bool.eq_false_iff.mpr c6
      subst c6
      have H1 : (some (-1)) = some r := by rw [if_neg (show ¬ (false = true) by decide)] at H; exact H
      clear H
      have H := H1
      clear H1
      obtain rfl := Option.some.inj H
      go_enter Tryd.func38, Tryd.ntmps38
      go_wp2_with (first | ((with_reducible refine gate_callee (f := 52) rfl ?_); refine goesL_ (some 8) rfl rfl Tryd.func52 (by kernel_rfl) rfl #[.int .i64 a0] rfl mp_ ?_; (with_reducible refine (cmp_isNaN_int.calls a0 true _ A3.out).mono ?_); rintro e w' ⟨rfl, ⟨nd, rfl⟩⟩; refine ⟨_, rfl, ?_⟩) | ((with_reducible refine gate_callee (f := 52) rfl ?_); refine goesL_ (some 10) rfl rfl Tryd.func52 (by kernel_rfl) rfl #[.int .i64 a1] rfl mp_ ?_; (with_reducible refine (cmp_isNaN_int.calls a1 false _ A4.out).mono ?_); rintro e w' ⟨rfl, ⟨nd, rfl⟩⟩; refine ⟨_, rfl, ?_⟩))
      go_ret
      exact ⟨by first | rfl | (simp; done) | (simp [*]; done), by repeat (first | exact Drawn0.refl _ | apply Drawn0.step)⟩
  · replace c5 := Bool.eq_false_iff.mpr c5
    subst c5
    have H1 : (if t191 = true then (some 1) else (if a0 < a1 then (some (-1)) else (if a0 > a1 then (some 1) else (some 0)))) = some r := by rw [if_neg (show ¬ (false = true) by decide)] at H; exact H
    clear H
    have H := H1
    clear H1
    by_cases c7 : t191 = true
    · subst c7
      have H1 : (some 1) = some r := by rw [if_pos rfl] at H; exact H
      clear H
      have H := H1
      clear H1
      obtain rfl := Option.some.inj H
      go_enter Tryd.func38, Tryd.ntmps38
      go_wp2_with (first | ((with_reducible refine gate_callee (f := 52) rfl ?_); refine goesL_ (some 8) rfl rfl Tryd.func52 (by kernel_rfl) rfl #[.int .i64 a0] rfl mp_ ?_; (with_reducible refine (cmp_isNaN_int.calls a0 false _ A3.out).mono ?_); rintro e w' ⟨rfl, ⟨nd, rfl⟩⟩; refine ⟨_, rfl, ?_⟩) | ((with_reducible refine gate_callee (f := 52) rfl ?_); refine goesL_ (some 10) rfl rfl Tryd.func52 (by kernel_rfl) rfl #[.int .i64 a1] rfl mp_ ?_; (with_reducible refine (cmp_isNaN_int.calls a1 true _ A4.out).mono ?_); rintro e w' ⟨rfl, ⟨nd, rfl⟩⟩; refine ⟨_, rfl, ?_⟩))
      go_ret
      exact ⟨by first | rfl | (simp; done) | (simp [*]; done), by repeat (first | exact Drawn0.refl _ | apply Drawn0.step)⟩
    · replace c7 := Bool.eq_false_iff.mpr c7
      subst c7
      have H1 : (if a0 < a1 then (some (-1)) else (if a0 > a1 then (some 1) else (some 0))) = some r := by rw [if_neg (show ¬ (false = true) by decide)] at H; exact H
      clear H
      have H := H1
      clear H1
      by_cases c8 : a0 < a1
      · rw [if_pos c8] at H
        have c8b0 : decide (a0 < a1) = true := decide_eq_true c8
        clear c8
        obtain rfl := Option.some.inj H
        go_enter Tryd.func38, Tryd.ntmps38
        go_wp2_with (first | ((with_reducible refine gate_callee (f := 52) rfl ?_); refine goesL_ (some 8) rfl rfl Tryd.func52 (by kernel_rfl) rfl #[.int .i64 a0] rfl mp_ ?_; (with_reducible refine (cmp_isNaN_int.calls a0 false _ A3.out).mono ?_); rintro e w' ⟨rfl, ⟨nd, rfl⟩⟩; refine ⟨_, rfl, ?_⟩) | ((with_reducible refine gate_callee (f := 52) rfl ?_); refine goesL_ (some 10) rfl rfl Tryd.func52 (by kernel_rfl) rfl #[.int .i64 a1] rfl mp_ ?_; (with_reducible refine (cmp_isNaN_int.calls a1 false _ A4.out).mono ?_); rintro e w' ⟨rfl, ⟨nd, rfl⟩⟩; refine ⟨_, rfl, ?_⟩))
        go_ret
        exact ⟨by first | rfl | (simp; done) | (simp [*]; done), by repeat (first | exact Drawn0.refl _ | apply Drawn0.step)⟩
      · rw [if_neg c8] at H
        have c8b0 : decide (a0 < a1) = false := decide_eq_false c8
        clear c8
        by_cases c9 : a0 > a1
        · rw [if_pos c9] at H
          have c9b0 : decide (a1 < a0) = true := decide_eq_true c9
          clear c9
          obtain rfl := Option.some.inj H
          go_enter Tryd.func38, Tryd.ntmps38
          go_wp2_with (first | ((with_reducible refine gate_callee (f := 52) rfl ?_); refine goesL_ (some 8) rfl rfl Tryd.func52 (by kernel_rfl) rfl #[.int .i64 a0] rfl mp_ ?_; (with_reducible refine (cmp_isNaN_int.calls a0 false _ A3.out).mono ?_); rintro e w' ⟨rfl, ⟨nd, rfl⟩⟩; refine ⟨_, rfl, ?_⟩) | ((with_reducible refine gate_callee (f := 52) rfl ?_); refine goesL_ (some 10) rfl rfl Tryd.func52 (by kernel_rfl) rfl #[.int .i64 a1] rfl mp_ ?_; (with_reducible refine (cmp_isNaN_int.calls a1 false _ A4.out).mono ?_); rintro e w' ⟨rfl, ⟨nd, rfl⟩⟩; refine ⟨_, rfl, ?_⟩))
          go_ret
          exact ⟨by first | rfl | (simp; done) | (simp [*]; done), by repeat (first | exact Drawn0.refl _ | apply Drawn0.step)⟩
        · rw [if_neg c9] at H
          have c9b0 : decide (a1 < a0) = false := decide_eq_false c9
          clear c9
          obtain rfl := Option.some.inj H
          go_enter Tryd.func38, Tryd.ntmps38
          go_wp2_with (first | ((with_reducible refine gate_callee (f := 52) rfl ?_); refine goesL_ (some 8) rfl rfl Tryd.func52 (by kernel_rfl) rfl #[.int .i64 a0] rfl mp_ ?_; (with_reducible refine (cmp_isNaN_int.calls a0 false _ A3.out).mono ?_); rintro e w' ⟨rfl, ⟨nd, rfl⟩⟩; refine ⟨_, rfl, ?_⟩) | ((with_reducible refine gate_callee (f := 52) rfl ?_); refine goesL_ (some 10) rfl rfl Tryd.func52 (by kernel_rfl) rfl #[.int .i64 a1] rfl mp_ ?_; (with_reducible refine (cmp_isNaN_int.calls a1 false _ A4.out).mono ?_); rintro e w' ⟨rfl, ⟨nd, rfl⟩⟩; refine ⟨_, rfl, ?_⟩))
          go_ret
          exact ⟨by first | rfl | (simp; done) | (simp [*]; done), by repeat (first | exact Drawn0.refl _ | apply Drawn0.step)⟩

/-! ### slices_Compare_int_int: function 39 -/
def slices_Compare_int_int.l0 : Nat → List Int → List Int → List Int → Int → Int → Option (Int)
  | 0, _, _, _, _, _ => none
  | k + 1, x0, x1, x9, x10, x11 => if x11 < x10 then (if 0 ≤ x11 then (if x11 < (x9.length : Int) then (if x11 ≥ (x1.length : Int) then (some 1) else (if x11 < (x1.length : Int) then ((cmp_Compare_int.f (rd x9 x11) (rd x1 x11)).bind fun t194 => (if t194 = 0 then (slices_Compare_int_int.l0 k x0 x1 x9 x10 (wrap64 (x11 + 1))) else (some t194))) else (none))) else (none)) else (none)) else (if (x0.length : Int) < (x1.length : Int) then (some (-1)) else (some 0))
def slices_Compare_int_int.f (k : Nat) (l0 : List Int) (l1 : List Int) : Option (Int) := slices_Compare_int_int.l0 k l0 l1 l0 (l0.length : Int) 0
theorem slices_Compare_int_int.mono_l : ∀ k, (∀ y0 y1 y2 y3 y4, LeO (slices_Compare_int_int.l0 k y0 y1 y2 y3 y4) (slices_Compare_int_int.l0 (k + 1) y0 y1 y2 y3 y4))
  | 0 => fun _ _ _ _ _ r h => by simp [slices_Compare_int_int.l0] at h
  | k + 1 => by
    have ih0 := slices_Compare_int_int.mono_l k
    · intro y0 y1 y2 y3 y4
      unfold slices_Compare_int_int.l0
      repeat' first
      | (with_reducible exact ih0 _ _ _ _ _)
      | (with_reducible exact LeO.refl _)
      | (with_reducible exact LeO.none _)
      | (with_reducible refine LeO.ite ?_ ?_)
      | (with_reducible refine LeO.bind ?_ (fun _ => ?_))
      | exact ih0 _ _ _ _ _
      | exact LeO.none _
      | refine LeO.ite ?_ ?_
      | refine LeO.bind ?_ (fun _ => ?_)
theorem slices_Compare_int_int.mono : ∀ a0 a1 k, LeO (slices_Compare_int_int.f k a0 a1) (slices_Compare_int_int.f (k + 1) a0 a1) := by
  intro a0 a1 k
  have ih0 := slices_Compare_int_int.mono_l k
  unfold slices_Compare_int_int.f
  repeat' first
      | (with_reducible exact ih0 _ _ _ _ _)
      | (with_reducible exact LeO.refl _)
      | (with_reducible exact LeO.none _)
      | (with_reducible refine LeO.ite ?_ ?_)
      | (with_reducible refine LeO.bind ?_ (fun _ => ?_))
      | exact ih0 _ _ _ _ _
      | exact LeO.none _
      | refine LeO.ite ?_ ?_
      | refine LeO.bind ?_ (fun _ => ?_)
set_option maxHeartbeats 8000000 in
set_option maxRecDepth 100000 in
theorem slices_Compare_int_int.calls (k : Nat) (A0 : Option Addr) (c0 : Nat) (l0 : List Int) (A1 : Option Addr) (c1 : Nat) (l1 : List Int) (r : Int) (w : World) (hr0 : Kd.C (Kd.int .i64) w A0 l0.length l0) (hc0 : l0.length ≤ c0) (hr1 : Kd.C (Kd.int .i64) w A1 l1.length l1) (hc1 : l1.length ≤ c1) (h : slices_Compare_int_int.f k l0 l1 = some r) :
    Calls Tryd.prog 39 #[.slice A0 l0.length c0, .slice A1 l1.length c1] w fun e w' => e = .returned (.int .i64 r) ∧ Drawn0 w w' := by
  have HR0 := Aside0.mk hr0
  have HC0 := Aside0.mk hc0
  clear hr0 hc0
  have HR1 := Aside0.mk hr1
  have HC1 := Aside0.mk hc1
  clear hr1 hc1
  have H : (slices_Compare_int_int.l0 k l0 l1 l0 (l0.length : Int) 0) = some r := h
  clear h
  have H' := Aside0.mk H
  clear H
  go_enter Tryd.func39, Tryd.ntmps39
  go_wp2
  go_loopg [11] k (fun kq v11 w' => ∃ (x11_1 : Int), v11 = .int .i64 x11_1 ∧ Aside0 (slices_Compare_int_int.l0 kq l0 l1 l0 (l0.length : Int) x11_1 = some r) ∧ Aside0 (kq ≤ k) ∧ Drawn0 w w')
  case atStart => exact ⟨(0), rs_, H', ⟨Nat.le_refl _⟩, by repeat (first | exact Drawn0.refl _ | apply Drawn0.step)⟩
  case round =>
    clear H'
    try clear c1
    obtain ⟨x11_1, rfl, HA, HK1, ⟨m1, rfl⟩⟩ := hrel
    cases gk with
    | zero => exact absurd HA.out (by simp [slices_Compare_int_int.l0])
    | succ k1 =>
      have H := HA.out
      clear HA
      simp only [slices_Compare_int_int.l0] at H
      by_cases c3 : x11_1 < (l0.length : Int)
      · rw [if_pos c3] at H
        have c3b0 : decide (x11_1 < (l0.length : Int)) = true := decide_eq_true c3
        clear c3
        by_cases c4 : 0 ≤ x11_1
        · rw [if_pos c4] at H
          have c4b0 : decide (0 ≤ x11_1) = true := decide_eq_true c4
          clear c4
          by_cases c5 : x11_1 < (l0.length : Int)
          · rw [if_pos c5] at H
            have c5b0 : decide (x11_1 < (l0.length : Int)) = true := decide_eq_true c5
            clear c5
            by_cases c6 : x11_1 ≥ (l1.length : Int)
            · rw [if_pos c6] at H
              have c6b0 : decide ((l1.length : Int) ≤ x11_1) = true := decide_eq_true c6
              clear c6
              obtain rfl := Option.some.inj H
              have p192 : 0 ≤ (x11_1 : Int) := of_decide_eq_true as_
              have q192 : x11_1 < (l0.length : Int) := of_decide_eq_true as_
              obtain ⟨ad192, e192, hx192_0⟩ := Kd.at_int HR0.out x11_1 p192 q192
              cases e192
              replace p192 := eq_true p192
              replace q192 := eq_true q192
              go_wp2
              go_ret
              exact ⟨by first | rfl | (simp; done) | (simp [*]; done), by repeat (first | exact Drawn0.refl _ | apply Drawn0.step)⟩
            · rw [if_neg c6] at H
              have c6b0 : decide ((l1.length : Int) ≤ x11_1) = false := decide_eq_false c6
              clear c6
              by_cases c7 : x11_1 < (l1.length : Int)
              · rw [if_pos c7] at H
                have c7b0 : decide (x11_1 < (l1.length : Int)) = true := decide_eq_true c7
                clear c7
                replace H := Option.bind_eq_some_iff.mp H
                obtain ⟨t194, A80, H⟩ := H
                replace H : (if t194 = 0 then (slices_Compare_int_int.l0 k1 l0 l1 l0 (l0.length : Int) (wrap64 (x11_1 + 1))) else (some t194)) = some r := H
                have A8 := Aside0.mk A80
                clear A80
                by_cases c9 : t194 = 0
                · rw [if_pos c9] at H
                  have c9b0 : (t194 == 0) = true := beq_iff_eq.mpr c9
                  have c9b1 : (t194 != 0) = false := bne_eq_false_iff_eq.mpr c9
                  clear c9
                  have H' := Aside0.mk H
                  clear H
                  have p192 : 0 ≤ (x11_1 : Int) := of_decide_eq_true as_
                  have q192 : x11_1 < (l0.length : Int) := of_decide_eq_true as_
                  obtain ⟨ad192, e192, hx192_0⟩ := Kd.at_int HR0.out x11_1 p192 q192
                  cases e192
                  replace p192 := eq_true p192
                  replace q192 := eq_true q192
                  have p193 : 0 ≤ (x11_1 : Int) := of_decide_eq_true as_
                  have q193 : x11_1 < (l1.length : Int) := of_decide_eq_true as_
                  obtain ⟨ad193, e193, hx193_0⟩ := Kd.at_int HR1.out x11_1 p193 q193
                  cases e193
                  replace p193 := eq_true p193
                  replace q193 := eq_true q193
                  go_wp2_with (first | ((with_reducible refine gate_callee (f := 38) rfl ?_); refine goesL_ (some 26) rfl rfl Tryd.func38 (by kernel_rfl) rfl #[.int .i64 (rd l0 x11_1), .int .i64 (rd l1 x11_1)] rfl mp_ ?_; (with_reducible refine (cmp_Compare_int.calls (rd l0 x11_1) (rd l1 x11_1) t194 _ A8.out).mono ?_); rintro e w' ⟨rfl, ⟨nd, rfl⟩⟩; refine ⟨_, rfl, ?_⟩))
                  go_roundg k1
                  case measure => have := HK1.out; omega
                  case rel => exact ⟨(wrap64 (x11_1 + 1)), rs_, H', ⟨by have := HK1.out; omega⟩, by repeat (first | exact Drawn0.refl _ | apply Drawn0.step)⟩
                · rw [if_neg c9] at H
                  have c9b0 : (t194 == 0) = false := beq_eq_false_iff_ne.mpr c9
                  have c9b1 : (t194 != 0) = true := bne_iff_ne.mpr c9
                  obtain rfl := Option.some.inj H
                  have p192 : 0 ≤ (x11_1 : Int) := of_decide_eq_true as_
                  have q192 : x11_1 < (l0.length : Int) := of_decide_eq_true as_
                  obtain ⟨ad192, e192, hx192_0⟩ := Kd.at_int HR0.out x11_1 p192 q192
                  cases e192
                  replace p192 := eq_true p192
                  replace q192 := eq_true q192
                  have p193 : 0 ≤ (x11_1 : Int) := of_decide_eq_true as_
                  have q193 : x11_1 < (l1.length : Int) := of_decide_eq_true as_
                  obtain ⟨ad193, e193, hx193_0⟩ := Kd.at_int HR1.out x11_1 p193 q193
                  cases e193
                  replace p193 := eq_true p193
                  replace q193 := eq_true q193
                  go_wp2_with (first | ((with_reducible refine gate_callee (f := 38) rfl ?_); refine goesL_ (some 26) rfl rfl Tryd.func38 (by kernel_rfl) rfl #[.int .i64 (rd l0 x11_1), .int .i64 (rd l1 x11_1)] rfl mp_ ?_; (with_reducible refine (cmp_Compare_int.calls (rd l0 x11_1) (rd l1 x11_1) t194 _ A8.out).mono ?_); rintro e w' ⟨rfl, ⟨nd, rfl⟩⟩; refine ⟨_, rfl, ?_⟩))
                  go_ret
                  exact ⟨by first | rfl | (simp; done) | (simp [*]; done), by repeat (first | exact Drawn0.refl _ | apply Drawn0.step)⟩
              · rw [if_neg c7] at H
                exact absurd H (by simp)
          · rw [if_neg c5] at H
            exact absurd H (by simp)
        · rw [if_neg c4] at H
          exact absurd H (by simp)
      · rw [if_neg c3] at H
        have c3b0 : decide (x11_1 < (l0.length : Int)) = false := decide_eq_false c3
        clear c3
        by_cases c10 : (l0.length : Int) < (l1.length : Int)
        · rw [if_pos c10] at H
          have c10b0 : decide ((l0.length : Int) < (l1.length : Int)) = true := decide_eq_true c10
          have c10b1 : decide (l0.length < l1.length) = true := decide_eq_true (Int.ofNat_lt.mp c10)
          clear c10
          obtain rfl := Option.some.inj H
          go_wp2
          go_ret
          exact ⟨by first | rfl | (simp; done) | (simp [*]; done), by repeat (first | exact Drawn0.refl _ | apply Drawn0.step)⟩
        · rw [if_neg c10] at H
          have c10b0 : decide ((l0.length : Int) < (l1.length : Int)) = false := decide_eq_false c10
          have c10b1 : decide (l0.length < l1.length) = false := decide_eq_false (fun h => c10 (Int.ofNat_lt.mpr h))
          clear c10
          obtain rfl := Option.some.inj H
          go_wp2
          go_ret
          exact ⟨by first | rfl | (simp; done) | (simp [*]; done), by repeat (first | exact Drawn0.refl _ | apply Drawn0.step)⟩

end Go.Proofs.YtlgoaphdhgidoaaDoor.PSY
