-- printed by wip/tools/pr.py (own) through the kit's printer; texts GIVEN by hand stand among them
import Derived.Test.YtmcinclecpeakaaGreatDoorPRRx0
import Derived.Test.YtmcinclecpeakaaGreatDoorPRRx3
import Derived.Test.YtmcinclecpeakaaGreatDoorPRRx5
import Derived.Test.YtmcinclecpeakaaGreatDoorPRRx6
import Derived.Test.YtmcinclecpeakaaGreatDoorPRRx7
import Derived.Test.YtmcinclecpeakaaGreatDoorPRRx8
import Derived.Test.YtmcinclecpeakaaGreatDoorPRRx9
namespace Go.Proofs.YtmcinclecpeakaaGreatDoor.PRR
open Go.RowKit Go.Proofs.YtmcinclecpeakaaGreatDoorW.PrintWords Go.Proofs.YtmcinclecpeakaaGreatDoorW.PrintLast Go.Proofs.YtmcinclecpeakaaGreatDoorW.PrintMore
attribute [local go_sem] max2_int min2_int max_two min_two max_three min_three max_four min_four   -- for this text's walks alone
set_option linter.unusedVariables false
set_option linter.unusedSimpArgs false

/-! ### dom_editor_make: function 58 -/
def edV (d at_ to_ be : Int) (nm vl : ByteArray) (x : S43) (A8 A11 : Option Addr) (c8 c11 : Nat) : Value := .agg #[.int .i64 d, .int .i64 at_, .int .i64 to_, .int .i64 be, .string nm, .string vl, .int .i64 x.f0, .string x.f1, .slice A8 x.f2.length c8, .string x.f3, .int .i64 x.f4, .slice A11 x.f5.length c11]
/-- What is known ahead of the statement that appends. -/
structure Mk (w0 w3 : World) (b xb n c m c8 : Nat) (A A8 : Option Addr) (l : List S43) (q : Bool) (x : S43) (v11 : Value) : Prop where
 below : Below w0.heap.size w0 w3
 blk : w3.heap[b]? = some (.cells #[.slice A n c, .bool q, .int .i64 n] 62 (0, 0))
 xblk : w3.heap[xb]? = some (.cells #[.int .i64 x.f0, .string x.f1, .slice A8 m c8, .string x.f3, .int .i64 x.f4, v11] 43 (0, 0))
 row : Kd.S k43 43 w3 w0.heap.size (fun _ => True) (.slice A n c) l
 nx : some xb ≠ (Value.slice A n c).ownBlock
 nb : xb ≠ b
theorem Mk.on {w0 w3 w4 : World} {b xb n c m c8 : Nat} {A A8 : Option Addr} {l : List S43} {q : Bool} {x : S43} {v11 : Value} (h : Mk w0 w3 b xb n c m c8 A A8 l q x v11) (hb : Below w3.heap.size w3 w4) : Mk w0 w4 b xb n c m c8 A A8 l q x v11 :=
 ⟨h.below.trans (hb.mono h.below.size), blk_below h.blk hb, blk_below h.xblk hb, Kd.S_below h.row hb, h.nx, h.nb⟩
theorem Mk.end_ {w0 w4 : World} {b n c : Nat} {A : Option Addr} {l' : List S43} {q : Bool} {v1 : Value} (hB : w0.heap.size ≤ b) (hb : w4.heap[b]? = some (.cells #[.slice A n c, .bool q, .int .i64 n] 62 (0, 0))) (hS : Kd.S k43 43 w4 w0.heap.size (fun _ => True) v1 l') (hbl : Below w0.heap.size w0 w4) :
  Ed (w4.setCell ⟨b, 0, none⟩ v1) w0.heap.size b l' q n ∧ Below w0.heap.size w0 (w4.setCell ⟨b, 0, none⟩ v1) :=
 ⟨⟨v1, hB, blk_set hb 0 _, Kd.S_set hS hb (by decide) 0 _⟩, hbl.setCell hB _⟩
theorem mk_app {w0 w3 w4 : World} {b xb n c m c8 : Nat} {A A8 : Option Addr} {l : List S43} {q : Bool} {x : S43} {v11 v6 : Value} (HK : Mk w0 w3 b xb n c m c8 A A8 l q x v11) (hb : Below w3.heap.size w3 w4) (hR : Kd.R k66 66 w4 w0.heap.size (fun j => w3.heap.size ≤ j) v6 x.f2) :
    k43.M w4 w0.heap.size (fun j => w3.heap.size ≤ j) ⟨x.f0, x.f1, x.f2, x.f3, -1, []⟩ [.int .i64 x.f0, .string x.f1, v6, .string x.f3, .int .i64 (-1), .slice none 0 0] ∧ (∀ j, w3.heap.size ≤ j → True ∧ some j ≠ (Value.slice A n c).ownBlock) ∧ Kd.S k43 43 w4 w0.heap.size (fun j => True ∧ ¬ w3.heap.size ≤ j) (.slice A n c) l ∧ Below w0.heap.size w0 w4 ∧ w0.heap.size ≤ w4.heap.size ∧ w4.heap[b]? = some (.cells #[.slice A n c, .bool q, .int .i64 n] 62 (0, 0)) ∧ some b ≠ (Value.slice A n c).ownBlock :=
  ⟨k43_mkM w4 w0.heap.size (fun j => w3.heap.size ≤ j) ⟨x.f0, x.f1, x.f2, x.f3, -1, []⟩ hR (Kd.R_nil _ _ _ _ _), fun j hj => ⟨trivial, fun he => by have := Kd.S_lt HK.row j he.symm; omega⟩,
   Kd.S_below (Kd.S_mono (Kd.S_bound HK.row) (fun j hj => ⟨trivial, by have := hj.2.2.1; omega⟩)) hb, (HK.on hb).below, (HK.on hb).below.size, (HK.on hb).blk, Kd.S_ne HK.row HK.blk (by decide)⟩
theorem infoN : (Tryz.prog.info? 43).map (fun i => (i.zero, i.size, i.bytes)) = some (some (.agg #[.int .i64 0, .string ⟨#[]⟩, .slice none 0 0, .string ⟨#[]⟩, .int .i64 0, .slice none 0 0]), 6, 96) := by kernel_rfl
set_option maxRecDepth 100000 in
set_option maxHeartbeats 4000000 in
theorem make_ok (k : Nat) (d at_ to_ be : Int) (nm vl : ByteArray) (x : S43) (A8 A11 : Option Addr) (c8 c11 : Nat) (l : List S43) (q : Bool) (made : Int) (b : Nat) (w0 w : World)
  (hw : Below w0.heap.size w0 w) (hE : Ed w w0.heap.size b l q made) (h8 : Kd.C k66 w0 A8 x.f2.length x.f2) (hc8 : x.f2.length ≤ c8) (h11 : Kd.C (Kd.int .i64) w0 A11 x.f5.length x.f5) (hc11 : x.f5.length ≤ c11)
  (hk : x.f5 = []) (h0 : x.f0 ≠ 1) (h1 : dom_one.f k x.f0 x.f1 x.f2 x.f3 x.f4 x.f5 = some 0) (hl : l.length < 200) (ha : x.f2.length ≤ 1000) :
  Calls Tryz.prog 58 #[.pointer (some ⟨b, 0, none⟩), edV d at_ to_ be nm vl x A8 A11 c8 c11] w fun e w' => e = .returned (.int .i64 0) ∧ Ed w' w0.heap.size b (l ++ [⟨x.f0, x.f1, x.f2, x.f3, -1, []⟩]) q l.length ∧ Below w0.heap.size w0 w' := by
 unfold edV
 obtain ⟨n, hn⟩ : ∃ n, n = l.length := ⟨_, rfl⟩
 obtain ⟨m, hm⟩ : ∃ m, m = x.f2.length := ⟨_, rfl⟩
 have H1 : Hid (∀ W : World, Below w0.heap.size w0 W → Calls Tryz.prog 38 #[.agg #[.int .i64 x.f0, .string x.f1, .slice A8 m c8, .string x.f3, .int .i64 x.f4, .slice A11 0 c11]] W fun e w' => e = .returned (.int .i64 0) ∧ Below W.heap.size W w') :=
  Lib.hid (fun W hb => by
   have := dom_one.calls k x.f0 x.f1 A8 c8 x.f2 x.f3 x.f4 A11 c11 x.f5 0 W (Kd.C_below h8 hb) hc8 (Kd.C_below h11 hb) hc11 h1
   rwa [hk, ← hm] at this)
 have HA : Hid (∀ W3 W : World, Below w0.heap.size w0 W3 → Below W3.heap.size W3 W → Calls Tryz.prog 29 #[.slice A8 m c8] W fun e w' => ∃ A c, e = .returned (.slice A m c) ∧ Kd.R k66 66 w' w0.heap.size (fun k => W3.heap.size ≤ k) (.slice A m c) x.f2 ∧ Below W3.heap.size W3 w' ∧ Below W.heap.size W w') :=
  Lib.hid (fun W3 W h3 hb => by
   rw [hm]
   refine (api_Attr_29.calls A8 c8 x.f2 W (Kd.C_below (Kd.C_below h8 h3) hb) (by omega)).mono ?_
   rintro e w' ⟨v, rfl, hr, hb'⟩
   obtain ⟨A, c, rfl⟩ := Kd.R_slice hr
   exact ⟨A, c, rfl, Kd.R_lower (Kd.R_mono (Kd.R_bound hr) (fun k hk => Nat.le_trans hb.size hk.2.1)) (Nat.le_trans h3.size hb.size), hb.trans (hb'.mono hb.size), hb'⟩)
 obtain ⟨v, hB, hblk, hS⟩ := hE
 obtain ⟨A, c, rfl⟩ := Kd.S_slice hS
 have hbw := blk_lt hblk
 -- behind the boxes and dom.one
 have HMk : Hid (∀ W W1 : World, ((w.alloc (.cells #[.int .i64 d, .int .i64 at_, .int .i64 to_, .int .i64 be, .string nm, .string vl, .int .i64 x.f0, .string x.f1, .slice A8 m c8, .string x.f3, .int .i64 x.f4, .slice A11 0 c11] 45)).alloc (.cells #[.int .i64 x.f0, .string x.f1, .slice A8 m c8, .string x.f3, .int .i64 x.f4, .slice A11 0 c11] 43)) = W →
   Below w0.heap.size w0 W ∧ (Below W.heap.size W W1 → W1.cell? ⟨b, 0, none⟩ = some (.slice A n c) ∧ W1.cell? ⟨b, 2, none⟩ = some (.int .i64 made) ∧ W1.frozen? ⟨b, 2, none⟩ = false ∧ Mk w0 (W1.setCell ⟨b, 2, none⟩ (.int .i64 n)) b (w.heap.size + 1) n c m c8 A A8 l q x (.slice A11 0 c11))) :=
  Lib.hid (fun W W1 h => by
   subst h
   have hb0 := ((Below.refl _ w).alloc (Nat.le_refl _) (.cells #[.int .i64 d, .int .i64 at_, .int .i64 to_, .int .i64 be, .string nm, .string vl, .int .i64 x.f0, .string x.f1, .slice A8 m c8, .string x.f3, .int .i64 x.f4, .slice A11 0 c11] 45)).alloc (by simp) (.cells #[.int .i64 x.f0, .string x.f1, .slice A8 m c8, .string x.f3, .int .i64 x.f4, .slice A11 0 c11] 43)
   have hx := blk_new (w.alloc (.cells #[.int .i64 d, .int .i64 at_, .int .i64 to_, .int .i64 be, .string nm, .string vl, .int .i64 x.f0, .string x.f1, .slice A8 m c8, .string x.f3, .int .i64 x.f4, .slice A11 0 c11] 45)) (.cells #[.int .i64 x.f0, .string x.f1, .slice A8 m c8, .string x.f3, .int .i64 x.f4, .slice A11 0 c11] 43)
   refine ⟨hw.trans (hb0.mono hw.size), fun h1 => ?_⟩
   rw [← hn] at hblk hS
   have hB1 := blk_below (blk_below hblk hb0) h1
   refine ⟨(blk_cell hB1 0).trans rfl, (blk_cell hB1 2).trans rfl, blk_frozen hB1 2, ((hw.trans (hb0.mono hw.size)).trans (h1.mono (hw.trans (hb0.mono hw.size)).size)).setCell hB _, blk_put hB1 2 _ rfl, ?_, Kd.S_set (Kd.S_below (Kd.S_below hS hb0) h1) hB1 (by decide) 2 _, fun he => by have := Kd.S_lt hS _ he.symm; omega, by omega⟩
   refine blk_far ?_ (by show w.heap.size + 1 ≠ b; omega) _
   have := blk_below hx h1
   simpa using this)
 have h0b : (x.f0 == 1) = false := by simpa using h0
 rw [← hn] at hl ⊢
 have hln : (decide ((n : Int) = 200)) = false := by simp; omega
 have hln' : ((n : Int) == 200) = false := by simp; omega
 have HN := Lib.hid hn
 rw [hk, ← hm]
 have HM := Lib.hid hm
 clear hblk hS hn h8 h11 h1 hc11 hk hm h0 hw hbw
 go_enter Tryz.func58, Tryz.ntmps58
 go_upto_region 6 with fail
 generalize hW2 : ((w.alloc (.cells #[.int .i64 d, .int .i64 at_, .int .i64 to_, .int .i64 be, .string nm, .string vl, .int .i64 x.f0, .string x.f1, .slice A8 m c8, .string x.f3, .int .i64 x.f4, .slice A11 0 c11] 45)).alloc (.cells #[.int .i64 x.f0, .string x.f1, .slice A8 m c8, .string x.f3, .int .i64 x.f4, .slice A11 0 c11] 43)) = W2
 have hW := fun W1 => HMk.out W2 W1 hW2
 have hxw : W2.cell? ⟨w.heap.size + 1, 0, none⟩ = some (.int .i64 x.f0) ∧ W2.cell? ⟨w.heap.size + 1, 1, none⟩ = some (.string x.f1) ∧ W2.cell? ⟨w.heap.size + 1, 2, none⟩ = some (.slice A8 m c8) ∧ W2.cell? ⟨w.heap.size + 1, 3, none⟩ = some (.string x.f3) ∧ W2.cell? ⟨w.heap.size + 1, 4, none⟩ = some (.int .i64 x.f4) ∧ W2.cell? ⟨w.heap.size + 1, 5, none⟩ = some (.slice A11 0 c11) := by
  subst hW2
  refine ⟨?_, ?_, ?_, ?_, ?_, ?_⟩ <;> simp [go_sem]
 obtain ⟨x0, x1, x2, x3, x4, x5⟩ := hxw
 have HW := Lib.hid hW
 clear hW hW2 HMk
 go_wp2_with fail
 refine (H1.out _ (HW.out W2).1).mono ?_
 rintro e w1 ⟨rfl, hb1⟩
 obtain ⟨e0, e2, f2, hMk⟩ := (HW.out w1).2 hb1
 have HK := Lib.hid hMk
 clear hMk hb1 x0 x1 x2 x3 x4 x5 HW H1
 go_upto_region 12 with fail
 generalize w1.setCell ⟨b, 2, none⟩ (.int .i64 (n : Int)) = W3 at HK
 clear e0 e2 f2
 have HE : Hid (∀ W : World, Below W3.heap.size W3 W → W.cell? ⟨b, 0, none⟩ = some (.slice A n c) ∧ W.cell? ⟨w.heap.size + 1, 0, none⟩ = some (.int .i64 x.f0) ∧ W.cell? ⟨w.heap.size + 1, 1, none⟩ = some (.string x.f1) ∧ W.cell? ⟨w.heap.size + 1, 2, none⟩ = some (.slice A8 m c8) ∧ W.cell? ⟨w.heap.size + 1, 3, none⟩ = some (.string x.f3)) :=
  Lib.hid (fun W h => ⟨(blk_cell (HK.out.on h).blk 0).trans rfl, (blk_cell (HK.out.on h).xblk 0).trans rfl, (blk_cell (HK.out.on h).xblk 1).trans rfl, (blk_cell (HK.out.on h).xblk 2).trans rfl, (blk_cell (HK.out.on h).xblk 3).trans rfl⟩)
 obtain ⟨e0, x0, x1, x2, x3⟩ := HE.out W3 (Below.refl _ _)
 have hS0 : W3.drew.cell? ⟨b, 0, none⟩ = some (.slice A n c) ∧ W3.drew.cell? ⟨w.heap.size + 1, 0, none⟩ = some (.int .i64 x.f0) ∧ W3.drew.cell? ⟨w.heap.size + 1, 1, none⟩ = some (.string x.f1) ∧ W3.drew.cell? ⟨w.heap.size + 1, 2, none⟩ = some (.slice A8 m c8) ∧ W3.drew.cell? ⟨w.heap.size + 1, 3, none⟩ = some (.string x.f3) := HE.out _ (below_drew (Below.refl _ _))
 refine late_begin (S := fun W => W.cell? ⟨b, 0, none⟩ = some (.slice A n c) ∧ W.cell? ⟨w.heap.size + 1, 0, none⟩ = some (.int .i64 x.f0) ∧ W.cell? ⟨w.heap.size + 1, 1, none⟩ = some (.string x.f1) ∧ W.cell? ⟨w.heap.size + 1, 2, none⟩ = some (.slice A8 m c8) ∧ W.cell? ⟨w.heap.size + 1, 3, none⟩ = some (.string x.f3)) 21 22 (by kernel_rfl) rfl hS0 (fun hS => ?_)
 have HS := Lib.hid hS
 clear hS0 hS e0 x0 x1 x2 x3
 refine lt_ 0 30 39 21 ?_
 refine lt_ 1 30 40 20 ?_
 refine lt_ 2 30 41 19 ?_
 refine lt_ 3 30 42 18 ?_
 refine lt_ 4 30 43 17 ?_
 refine lt_ 5 30 44 16 ?_
 refine lt_ 6 30 45 15 ?_
 refine lt_ 7 30 46 14 ?_
 refine lt_ 8 30 47 13 ?_
 refine lt_ 9 30 48 12 ?_
 refine lt_ 10 30 49 11 ?_
 refine lt_ 11 30 50 10 ?_
 refine lt_ 13 30 52 9 ?_
 refine lt_ 14 30 53 8 ?_
 refine late_only 12 7 ({ dst := some 51, op := Op.call { callee := Callee.value (Operand.func 29), args := #[Operand.tmp 50], argTypes := #[41] }, type := 41, pos := "edit.go:115", after := #[{ on := 11, ground := Ground.data }], guard := none }) rfl (by kernel_rfl) (by rfl) (fun K' hK => ?_)
 go_simp
 refine (HA.out W3 _ HK.out.below (below_drew (Below.refl _ _))).mono ?_
 rintro e w4 ⟨A6, c6, rfl, hR6, hb6, hb6'⟩
 have HP := Lib.hid (mk_app HK.out hb6 hR6)
 go_wp2_with fail
 refine hK.out _ _ (HE.out w4 hb6) (fun HSn => ?_)
 clear HS hK K'
 have HS := Lib.hid HSn
 clear HSn
 try simp only [Act.put, List.setIfInBounds_toArray, List.set_cons_zero, List.set_cons_succ]
 refine lt_ 15 30 54 6 ?_
 refine late_only 16 5 ({ dst := some 55, op := Op.buildSlice 22 1 #[(0, Operand.tmp 54)], type := 22, pos := "edit.go:115", after := #[{ on := 15, ground := Ground.data }], guard := none }) rfl (by kernel_rfl) (by rfl) (fun K' hK => ?_)
 go_simp
 refine hK.out _ _ (HE.out _ (below_alloc hb6 _)) (fun HSn => ?_)
 clear HS hK K'
 have HS := Lib.hid HSn
 clear HSn
 try simp only [Act.put, List.setIfInBounds_toArray, List.set_cons_zero, List.set_cons_succ]
 refine late_onlyIf 17 4 ({ dst := some 56, op := Op.call { callee := Callee.builtin Builtin.append, args := #[Operand.tmp 44, Operand.tmp 55], argTypes := #[22, 22] }, type := 22, pos := "edit.go:115", after := #[{ on := 5, ground := Ground.data }, { on := 16, ground := Ground.data }, { on := 12, ground := Ground.chain }], guard := none }) rfl (by kernel_rfl) (fun K' hK => ?_)
 refine Kd.S_append_step k43 (w0 := w0) (W := w4) w0.heap.size (by rfl) (.tmp 44) (.tmp 55) 22 43 (.agg #[.int .i64 0, .string ⟨#[]⟩, .slice none 0 0, .string ⟨#[]⟩, .int .i64 0, .slice none 0 0]) 96 (by rfl) Tryz.underlying22 infoN rfl (by decide) (by decide) (.slice A n c) l ⟨x.f0, x.f1, x.f2, x.f3, -1, []⟩ [.int .i64 x.f0, .string x.f1, .slice A6 m c6, .string x.f3, .int .i64 (-1), .slice none 0 0] (fun _ => True) (fun j => W3.heap.size ≤ j) rfl (by rfl) HP.out.1 HP.out.2.1 (fun _ _ => trivial) HP.out.2.2.1 HP.out.2.2.2.1 HP.out.2.2.2.2.1 (by have := HN.out; omega) ?_
 intro v1 w5 hS5 hb5 hg5 hat5
 obtain ⟨A9, c9, rfl⟩ := Kd.S_slice hS5
 simp only [List.length_append, List.length_cons, List.length_nil, Nat.zero_add] at hS5 ⊢
 have hbk5 := blk_grown HP.out.2.2.2.2.2.1 hg5 HP.out.2.2.2.2.2.2
 have e05 := (blk_cell hbk5 0).trans rfl
 have f05 := blk_frozen hbk5 0
 have hx5 := blk_grown (HK.out.on hb6).xblk hg5 HK.out.nx
 refine hK.out _ _ ⟨e05, (blk_cell hx5 0).trans rfl, (blk_cell hx5 1).trans rfl, (blk_cell hx5 2).trans rfl, (blk_cell hx5 3).trans rfl⟩ (fun HSn => ?_)
 clear HS hK K'
 have HS := Lib.hid HSn
 clear HSn
 try simp only [Act.put, List.setIfInBounds_toArray, List.set_cons_zero, List.set_cons_succ]
 refine lt_ 18 30 57 3 ?_
 refine lt_ 19 30 58 2 ?_
 refine lt_ 20 30 59 1 ?_
 refine late_last 21 0 ({ dst := none, op := Op.store 22 (Operand.tmp 59) (Operand.tmp 56), type := 0, pos := "edit.go:115", after := #[{ on := 20, ground := Ground.data }, { on := 17, ground := Ground.data }, { on := 17, ground := Ground.chain }, { on := 0, ground := Ground.phase }, { on := 1, ground := Ground.phase }, { on := 2, ground := Ground.phase }, { on := 3, ground := Ground.phase }, { on := 4, ground := Ground.phase }, { on := 5, ground := Ground.phase }, { on := 6, ground := Ground.phase }, { on := 7, ground := Ground.phase }, { on := 8, ground := Ground.phase }, { on := 9, ground := Ground.phase }, { on := 10, ground := Ground.phase }, { on := 11, ground := Ground.phase }, { on := 12, ground := Ground.phase }, { on := 13, ground := Ground.phase }, { on := 14, ground := Ground.phase }, { on := 15, ground := Ground.phase }, { on := 16, ground := Ground.phase }, { on := 17, ground := Ground.phase }], guard := none }) rfl (by kernel_rfl) rfl (by rfl) (by kernel_rfl) (fun K' hK => ?_)
 go_simp
 refine hK.out _ _ ?_
 clear HS hK K'
 go_wp2_with fail
 go_ret
 exact ⟨rfl, Mk.end_ hB hbk5 hS5 hb5⟩
set_option maxRecDepth 100000 in
set_option maxHeartbeats 4000000 in
/-- What make answers where it does not append. -/
theorem make_err (k : Nat) (d at_ to_ be : Int) (nm vl : ByteArray) (x : S43) (A8 A11 : Option Addr) (c8 c11 : Nat) (l : List S43) (q : Bool) (made : Int) (b : Nat) (r : Int) (w0 w : World)
  (hw : Below w0.heap.size w0 w) (hE : Ed w w0.heap.size b l q made) (h8 : Kd.C k66 w0 A8 x.f2.length x.f2) (hc8 : x.f2.length ≤ c8) (h11 : Kd.C (Kd.int .i64) w0 A11 x.f5.length x.f5) (hc11 : x.f5.length ≤ c11)
  (h : (x.f5 ≠ [] ∧ r = 3) ∨ (x.f5 = [] ∧ x.f0 = 1 ∧ r = 7) ∨ (x.f5 = [] ∧ x.f0 ≠ 1 ∧ dom_one.f k x.f0 x.f1 x.f2 x.f3 x.f4 x.f5 = some r ∧ r ≠ 0) ∨ (x.f5 = [] ∧ x.f0 ≠ 1 ∧ dom_one.f k x.f0 x.f1 x.f2 x.f3 x.f4 x.f5 = some 0 ∧ l.length = 200 ∧ r = 2)) :
  Calls Tryz.prog 58 #[.pointer (some ⟨b, 0, none⟩), edV d at_ to_ be nm vl x A8 A11 c8 c11] w fun e w' => e = .returned (.int .i64 r) ∧ Ed w' w0.heap.size b l q made ∧ Below w0.heap.size w0 w' := by
 unfold edV
 obtain ⟨n, hn⟩ : ∃ n, n = l.length := ⟨_, rfl⟩
 obtain ⟨m, hm⟩ : ∃ m, m = x.f2.length := ⟨_, rfl⟩
 obtain ⟨m5, hm5⟩ : ∃ m5, m5 = x.f5.length := ⟨_, rfl⟩
 have H1 : Hid (∀ s, dom_one.f k x.f0 x.f1 x.f2 x.f3 x.f4 x.f5 = some s → ∀ W : World, Below w0.heap.size w0 W → Calls Tryz.prog 38 #[.agg #[.int .i64 x.f0, .string x.f1, .slice A8 m c8, .string x.f3, .int .i64 x.f4, .slice A11 m5 c11]] W fun e w' => e = .returned (.int .i64 s) ∧ Below W.heap.size W w') :=
  Lib.hid (fun s hs W hb => by
   rw [hm, hm5]
   exact dom_one.calls k x.f0 x.f1 A8 c8 x.f2 x.f3 x.f4 A11 c11 x.f5 s W (Kd.C_below h8 hb) hc8 (Kd.C_below h11 hb) hc11 hs)
 have HEd : Hid (∀ W : World, Below w.heap.size w W → Ed W w0.heap.size b l q made ∧ Below w0.heap.size w0 W) := Lib.hid (fun W hb => ⟨hE.below hb, hw.trans (hb.mono hw.size)⟩)
 obtain ⟨v, hB, hblk, hS⟩ := hE
 obtain ⟨A, c, rfl⟩ := Kd.S_slice hS
 have HB2 : Hid (∀ W : World, ((w.alloc (.cells #[.int .i64 d, .int .i64 at_, .int .i64 to_, .int .i64 be, .string nm, .string vl, .int .i64 x.f0, .string x.f1, .slice A8 m c8, .string x.f3, .int .i64 x.f4, .slice A11 m5 c11] 45)).alloc (.cells #[.int .i64 x.f0, .string x.f1, .slice A8 m c8, .string x.f3, .int .i64 x.f4, .slice A11 m5 c11] 43)) = W → Below w.heap.size w W) := Lib.hid (fun W h => by
  subst h
  exact below_alloc (below_alloc (Below.refl _ w) _) _)
 have HCell : Hid (∀ W : World, Below w.heap.size w W → W.cell? ⟨b, 0, none⟩ = some (.slice A n c)) := Lib.hid (by
  rw [← hn] at hblk
  exact fun W hb => pw_cell_below hb ((blk_cell hblk 0).trans rfl))
 rw [← hm, ← hm5]
 rw [← hn] at h
 have hk5 : x.f5 = [] ↔ m5 = 0 := by rw [hm5]; exact List.length_eq_zero_iff.symm
 rw [Ne, hk5] at h
 have HN := Lib.hid hn
 clear hblk hS hB h8 h11 hc11 hn hm hm5 hk5 hw
 rcases h with ⟨h5, rfl⟩ | ⟨h5, h0, rfl⟩ | ⟨h5, h0, h1, hr⟩ | ⟨h5, h0, h1, h200, rfl⟩
 ·have h5b : decide ((0 : Int) < (m5 : Int)) = true := decide_eq_true (by omega)
  go_enter Tryz.func58, Tryz.ntmps58
  go_wp2_with fail
  go_ret
  exact ⟨rfl, HEd.out _ (HB2.out _ rfl)⟩
 ·subst h5
  have h0b : (x.f0 == 1) = true := by simpa using h0
  clear h0
  go_enter Tryz.func58, Tryz.ntmps58
  go_wp2_with fail
  go_ret
  exact ⟨rfl, HEd.out _ (HB2.out _ rfl)⟩
 ·subst h5
  have h0b : (x.f0 == 1) = false := by simpa using h0
  have hrb : (r != 0) = true := by simpa using hr
  have H2 := Lib.hid (H1.out r h1)
  clear h0 hr h1 H1
  go_enter Tryz.func58, Tryz.ntmps58
  go_wp2_with fail
  refine (H2.out _ (HEd.out _ (HB2.out _ rfl)).2).mono ?_
  rintro e w1 ⟨rfl, hb1⟩
  have hbb := (HB2.out _ rfl).trans (hb1.mono (HB2.out _ rfl).size)
  go_wp2_with fail
  go_ret
  exact ⟨rfl, HEd.out _ hbb⟩
 ·subst h5
  have h0b : (x.f0 == 1) = false := by simpa using h0
  have H2 := Lib.hid (H1.out 0 h1)
  have h2b : ((n : Int) == 200) = true := by simp; omega
  clear h0 h1 H1
  go_enter Tryz.func58, Tryz.ntmps58
  go_wp2_with fail
  refine (H2.out _ (HEd.out _ (HB2.out _ rfl)).2).mono ?_
  rintro e w1 ⟨rfl, hb1⟩
  have hbb := (HB2.out _ rfl).trans (hb1.mono (HB2.out _ rfl).size)
  have hcc := HCell.out _ hbb
  go_wp2_with fail
  go_ret
  exact ⟨rfl, HEd.out _ hbb⟩

/-! ### dom_editor_remove: function 60 -/
/-- What remove makes of the nodes; none where it would panic. -/
def removeF (k : Nat) (l : List S43) (e : S45) : Option (Int × List S43) :=
  if 0 ≤ e.f1 ∧ e.f1 < (l.length : Int) then
    (if (rd_T43 l e.f1).f0 = 1 then some (7, l) else if (rd_T43 l e.f1).f4 < 0 then some (5, l)
     else if (rd_T43 l e.f1).f4 < (l.length : Int) ∧ (rd_T43 l e.f1).f4 ≠ e.f1 ∧ (rd_T43 l (rd_T43 l e.f1).f4).f5.length ≤ 1000 then
       (slices_Index_int_int.f k (rd_T43 l (rd_T43 l e.f1).f4).f5 e.f1).bind fun i =>
         if 0 ≤ i ∧ i < ((rd_T43 l (rd_T43 l e.f1).f4).f5.length : Int) then
           some (0, (l.set (rd_T43 l e.f1).f4.toNat { rd_T43 l (rd_T43 l e.f1).f4 with f5 := (rd_T43 l (rd_T43 l e.f1).f4).f5.eraseIdx i.toNat }).set e.f1.toNat { rd_T43 l e.f1 with f4 := -1 })
         else none
     else none)
  else some (5, l)
theorem nums_erase (ks : List Int) (i : Nat) : (nums .i64 ks).take (i * 1) ++ (nums .i64 ks).drop ((i + 1) * 1) = nums .i64 (ks.eraseIdx i) := by
 rw [Nat.mul_one, Nat.mul_one, List.eraseIdx_eq_take_drop_succ]
 simp [nums, List.map_append, List.map_take, List.map_drop]
/-- What lies ready behind slices.Delete. -/
structure RemF (w0 W : World) (b gr n c i p : Nat) (q : Bool) (made p4 : Int) (v5 v' : Value) (l : List S43) : Prop where
 below : Below w0.heap.size w0 W
 blk : W.heap[b]? = some (.cells #[.slice (some ⟨gr, 0, none⟩) n c, .bool q, .int .i64 made] 62 (0, 0))
 c5 : W.cell? ⟨gr, p * 6 + 5, none⟩ = some v5
 c4 : W.cell? ⟨gr, i * 6 + 4, none⟩ = some (.int .i64 p4)
 f5 : W.frozen? ⟨gr, p * 6 + 5, none⟩ = false
 f4 : W.frozen? ⟨gr, i * 6 + 4, none⟩ = false
 row : Kd.S k43 43 (W.setCell ⟨gr, p * 6 + 5, none⟩ v') w0.heap.size (fun _ => True) (.slice (some ⟨gr, 0, none⟩) n c) l
set_option maxRecDepth 100000 in
set_option maxHeartbeats 4000000 in
theorem remove_ok (k : Nat) (e : S45) (A8 A11 : Option Addr) (n8 n11 c8 c11 : Nat) (l : List S43) (q : Bool) (made : Int) (b gr n c i p ix : Nat) (xi xp : S43) (w0 w : World)
  (hw : Below w0.heap.size w0 w) (hBb : w0.heap.size ≤ b) (hblk : w.heap[b]? = some (.cells #[.slice (some ⟨gr, 0, none⟩) n c, .bool q, .int .i64 made] 62 (0, 0))) (hS : Kd.S k43 43 w w0.heap.size (fun _ => True) (.slice (some ⟨gr, 0, none⟩) n c) l)
  (hat : e.f1 = (i : Int)) (hi : i < n) (hp : p < n) (hpi : p ≠ i) (hxi : l[i]? = some xi) (hxp : l[p]? = some xp) (hk : xi.f0 ≠ 1) (h4 : xi.f4 = (p : Int)) (hlk : xp.f5.length ≤ 1000) (hix : slices_Index_int_int.f k xp.f5 i = some (ix : Int)) (hixl : ix < xp.f5.length) :
  Calls Tryz.prog 60 #[.pointer (some ⟨b, 0, none⟩), editV e A8 A11 n8 n11 c8 c11] w fun u w' => u = .returned (.int .i64 0) ∧ Ed w' w0.heap.size b ((l.set p ⟨xp.f0, xp.f1, xp.f2, xp.f3, xp.f4, xp.f5.eraseIdx ix⟩).set i ⟨xi.f0, xi.f1, xi.f2, xi.f3, -1, xi.f5⟩) q made ∧ Below w0.heap.size w0 w' := by
 unfold editV
 rw [hat]
 obtain ⟨hn, hnc, hrow0⟩ := Kd.S_reads' hS
 have hgrw : gr < w.heap.size := Kd.S_lt hS gr (by simp [Value.ownBlock])
 have hgrB : w0.heap.size ≤ gr := Kd.S_base hS gr (by simp [Value.ownBlock])
 obtain ⟨cells, hty⟩ := Kd.S_typed hS gr (by simp [Value.ownBlock])
 have hgb : gr ≠ b := fun he => blk_ne hty hblk (by decide) he
 have hrow : Kd.C k43 w (some ⟨gr, 0, none⟩) n l := by rw [hn]; exact hrow0
 have hri : rd_T43 l (i : Int) = xi := by unfold rd_T43; rw [Int.toNat_natCast, List.getD_eq_getElem?_getD, hxi]; rfl
 have hrp : rd_T43 l (p : Int) = xp := by unfold rd_T43; rw [Int.toNat_natCast, List.getD_eq_getElem?_getD, hxp]; rfl
 obtain ⟨adi, A2i, c2i, A5i, c5i, ei, i0, -, -, -, i4, -⟩ := at_T43 hrow (i : Int) (by omega) (by omega)
 cases ei
 rw [hri] at i0 i4
 obtain ⟨adp, A2p, c2p, A5, c5, ep, -, -, -, -, -, p5, -, -, h5l, h5⟩ := at_T43 hrow (p : Int) (by omega) (by omega)
 cases ep
 rw [hrp] at p5 h5l h5
 obtain ⟨m5, hm5⟩ : ∃ m5, m5 = xp.f5.length := ⟨_, rfl⟩
 rw [← hm5] at p5
 have i0' : w.cell? ⟨gr, i * 6, none⟩ = some (.int .i64 xi.f0) := by simpa [add_at] using i0
 have i4' : w.cell? ⟨gr, i * 6 + 4, none⟩ = some (.int .i64 (p : Int)) := by rw [h4] at i4; simpa [add_at] using i4
 have p5' : w.cell? ⟨gr, p * 6 + 5, none⟩ = some (.slice A5 m5 c5) := by simpa [add_at] using p5
 have hbx := (Below.refl _ w).alloc (Nat.le_refl _) (.cells #[.int .i64 e.f0, .int .i64 i, .int .i64 e.f2, .int .i64 e.f3, .string e.f4, .string e.f5, .int .i64 e.f6.f0, .string e.f6.f1, .slice A8 n8 c8, .string e.f6.f3, .int .i64 e.f6.f4, .slice A11 n11 c11] 45)
 have hbxc : (w.alloc (.cells #[.int .i64 e.f0, .int .i64 i, .int .i64 e.f2, .int .i64 e.f3, .string e.f4, .string e.f5, .int .i64 e.f6.f0, .string e.f6.f1, .slice A8 n8 c8, .string e.f6.f3, .int .i64 e.f6.f4, .slice A11 n11 c11] 45)).cell? ⟨w.heap.size, 1, none⟩ = some (.int .i64 (i : Int)) := by simp [go_sem]
 -- what lies ready in the world behind the box
 have HR : Hid (∀ W1 : World, (w.alloc (.cells #[.int .i64 e.f0, .int .i64 i, .int .i64 e.f2, .int .i64 e.f3, .string e.f4, .string e.f5, .int .i64 e.f6.f0, .string e.f6.f1, .slice A8 n8 c8, .string e.f6.f3, .int .i64 e.f6.f4, .slice A11 n11 c11] 45)) = W1 → Below w.heap.size w W1 ∧ w.heap.size < W1.heap.size ∧ ∀ W : World, Below W1.heap.size W1 W → (W.cell? ⟨b, 0, none⟩ = some (.slice (some ⟨gr, 0, none⟩) n c) ∧ W.cell? ⟨gr, i * 6, none⟩ = some (.int .i64 xi.f0) ∧ W.cell? ⟨gr, i * 6 + 4, none⟩ = some (.int .i64 (p : Int)) ∧ W.cell? ⟨gr, p * 6 + 5, none⟩ = some (.slice A5 m5 c5)) ∧ W.cell? ⟨w.heap.size, 1, none⟩ = some (.int .i64 (i : Int))) :=
  Lib.hid (fun W1 h => by
   subst h
   refine ⟨hbx, by simp, fun W hW => ?_⟩
   have hbw := hbx.trans (hW.mono hbx.size)
   exact ⟨⟨pw_cell_below hbw ((blk_cell hblk 0).trans rfl), pw_cell_below hbw i0', pw_cell_below hbw i4', pw_cell_below hbw p5'⟩, pw_cell_below hW hbxc⟩)
 have HNd : Hid (∀ W : World, W.cell? ⟨b, 0, none⟩ = some (.slice (some ⟨gr, 0, none⟩) n c) → Calls Tryz.prog 84 #[.pointer (some ⟨b, 0, none⟩), .int .i64 i] W fun u w' => u = .returned (.pointer (some ⟨gr, i * 6, none⟩)) ∧ W = w') :=
  Lib.hid (fun W h => dom_editor_node.in_ b gr n c i W h hi)
 have HIx : Hid (∀ W : World, Below w.heap.size w W → Calls Tryz.prog 28 #[.slice A5 m5 c5, .int .i64 i] W fun u w' => u = .returned (.int .i64 (ix : Int)) ∧ Below W.heap.size W w') :=
  Lib.hid (by
   rw [hm5]
   exact fun W h => (slices_Index_int_int.calls k A5 c5 xp.f5 i ix W (Kd.C_below h5 h) h5l hix).mono fun u w' ⟨h1, h2⟩ => ⟨h1, by obtain ⟨m, hm⟩ := h2.out; rw [hm]; exact pw_below_drewN (Below.refl _ _) m⟩)
 have hown := (ed_kids hS hp hxp p5').1
 obtain ⟨g5, cap5, hv5, hB5, hg5, cells5, hty5⟩ : ∃ g5 cap, (Value.slice A5 m5 c5) = .slice (some ⟨g5, 0, none⟩) m5 cap ∧ w0.heap.size ≤ g5 ∧ g5 < w.heap.size ∧ ∃ cells, w.heap[g5]? = some (.cells cells 3 (0, 0)) := by
  obtain ⟨h1, h2⟩ := hown
  rcases h2 with ⟨_, h2⟩ | ⟨g, cap, cur, hv, hb, hg, _⟩
  ·omega
  ·injection hv with e1 e2 e3
   exact ⟨g, c5, by rw [e1], hb, blk_lt hg, cur, hg⟩
 injection hv5 with e1 e2 e3
 subst e1 e3
 clear e2
 have hgg5 : gr ≠ g5 := fun he => blk_ne hty hty5 (by decide) he
 have hbg5 : b ≠ g5 := fun he => blk_ne hblk hty5 (by decide) he
 have HDl : Hid (∀ W : World, Below w.heap.size w W → Calls Tryz.prog 50 #[.slice (some ⟨g5, 0, none⟩) m5 c5, .int .i64 ix, .int .i64 ((ix + 1 : Nat) : Int)] W fun u w' => u = .returned (.slice (some ⟨g5, 0, none⟩) (m5 - 1) c5) ∧ RemF w0 w' b gr n c i p q made p (.slice (some ⟨g5, 0, none⟩) m5 c5) (.slice (some ⟨g5, 0, none⟩) (m5 - 1) c5) (l.set p ⟨xp.f0, xp.f1, xp.f2, xp.f3, xp.f4, xp.f5.eraseIdx ix⟩)) :=
  Lib.hid (fun W hW => by
   have hK := ed_kids (Kd.S_below hS hW) hp hxp (pw_cell_below hW p5')
   have ho := hK.1
   rw [← hm5] at ho
   refine (delInt.del w0.heap.size g5 m5 c5 ix (nums .i64 xp.f5) W ho (by omega) (fun u hu => by
    obtain ⟨z, _, rfl⟩ := List.mem_map.1 hu
    rfl) (by omega)).mono ?_
   rintro u w' ⟨rfl, ho', hg'⟩
   rw [nums_erase] at ho'
   have hle : (xp.f5.eraseIdx ix).length = m5 - 1 := by rw [List.length_eraseIdx_of_lt hixl, hm5]
   have hrow' := hK.2 W w' (.slice (some ⟨g5, 0, none⟩) (m5 - 1) c5) (xp.f5.eraseIdx ix) (Below.refl _ _) hg' (by rw [hle]; exact ho') (.inl rfl) rfl
   have hgrW : w'.heap[gr]? = w.heap[gr]? := (hg'.block gr (Nat.lt_of_lt_of_le hgrw hW.size) (fun he => hgg5 (by injection he))).trans (hW.block gr hgrw)
   have hbW : w'.heap[b]? = w.heap[b]? := (hg'.block b (Nat.lt_of_lt_of_le (blk_lt hblk) hW.size) (fun he => hbg5 (by injection he))).trans (hW.block b (blk_lt hblk))
   refine ⟨rfl, ⟨?_, hbW.trans hblk, (World.cell?_of_block hgrW).trans p5', (World.cell?_of_block hgrW).trans i4', blk_frozen (hgrW.trans hty) _, blk_frozen (hgrW.trans hty) _, hrow'⟩⟩
   exact (hw.trans (hW.mono hw.size)).grown hg' (Nat.le_trans hw.size hW.size) (fun k hk => by injection hk with hk; rw [← hk]; exact hB5))
 have hkb : (xi.f0 == 1) = false := by simpa using hk
 have hpn : ((p : Int) < 0) = False := eq_false (by omega)
 have hpn2 : (0 : Int) ≤ (p : Int) := by omega
 have hpn3 : (p : Int) < (n : Int) := by omega
 have hixw : IntKind.i64.wrap ((ix : Int) + 1) = ((ix + 1 : Nat) : Int) := by rw [IntWalk.i64_left]; unfold wrap64; omega
 have hg2 : (i * 6 + 4 = p * 6 + 5) = False := eq_false (by omega)
 have HFin : Hid (∀ W, RemF w0 W b gr n c i p q made p (.slice (some ⟨g5, 0, none⟩) m5 c5) (.slice (some ⟨g5, 0, none⟩) (m5 - 1) c5) (l.set p ⟨xp.f0, xp.f1, xp.f2, xp.f3, xp.f4, xp.f5.eraseIdx ix⟩) → Ed ((W.setCell ⟨gr, p * 6 + 5, none⟩ (.slice (some ⟨g5, 0, none⟩) (m5 - 1) c5)).setCell ⟨gr, i * 6 + 4, none⟩ (.int .i64 (-1))) w0.heap.size b ((l.set p ⟨xp.f0, xp.f1, xp.f2, xp.f3, xp.f4, xp.f5.eraseIdx ix⟩).set i ⟨xi.f0, xi.f1, xi.f2, xi.f3, -1, xi.f5⟩) q made ∧ Below w0.heap.size w0 ((W.setCell ⟨gr, p * 6 + 5, none⟩ (.slice (some ⟨g5, 0, none⟩) (m5 - 1) c5)).setCell ⟨gr, i * 6 + 4, none⟩ (.int .i64 (-1)))) :=
  Lib.hid (fun W hF => ⟨⟨_, hBb, blk_far (blk_far hF.blk (Ne.symm hgb) _) (Ne.symm hgb) _, ed_parent hF.row hi (by rw [List.getElem?_set_ne hpi]; exact hxi) (-1)⟩, (hF.below.setCell hgrB _).setCell hgrB _⟩)
 clear hw hBb hblk hS hat hxi hxp hk h4 hlk hix hixl hn hnc hrow0 hrow hri hrp i0 i4 p5 h5l h5 hm5 i0' i4' p5' hbx hbxc hown hty hty5 cells cells5 hB5 hg5 hgg5 hbg5 hpi
 go_enter Tryz.func60, Tryz.ntmps60
 go_wp2_with fail
 obtain ⟨hb1, hlt1, hcl⟩ := HR.out _ rfl
 generalize (w.alloc (.cells #[.int .i64 e.f0, .int .i64 i, .int .i64 e.f2, .int .i64 e.f3, .string e.f4, .string e.f5, .int .i64 e.f6.f0, .string e.f6.f1, .slice A8 n8 c8, .string e.f6.f3, .int .i64 e.f6.f4, .slice A11 n11 c11] 45)) = w1 at hb1 hlt1 hcl
 have HC := Lib.hid hcl
 have HB1 := Lib.hid hb1
 clear hcl hb1 HR
 obtain ⟨⟨z0, z1, z2, z3⟩, z4⟩ := HC.out w1 (Below.refl _ _)
 refine (HNd.out w1 z0).mono ?_
 rintro u w' ⟨rfl, rfl⟩
 go_upto_region 8 with fail
 go_region_held3 (fun W => W.cell? ⟨b, 0, none⟩ = some (.slice (some ⟨gr, 0, none⟩) n c) ∧ W.cell? ⟨gr, i * 6 + 4, none⟩ = some (.int .i64 (p : Int))) (exact ⟨z0, z2⟩) (fail)
 have HI2 : Hid (∀ W : World, Below w1.heap.size w1 W → Calls Tryz.prog 28 #[.slice (some ⟨g5, 0, none⟩) m5 c5, .int .i64 i] W fun u w' => u = .returned (.int .i64 (ix : Int)) ∧ Below w1.heap.size w1 w') :=
  Lib.hid (fun W h => (HIx.out W (HB1.out.trans (h.mono HB1.out.size))).mono fun u w' ⟨h1, h2⟩ => ⟨h1, h.trans (h2.mono h.size)⟩)
 have HD2 : Hid (∀ W : World, Below w1.heap.size w1 W → Calls Tryz.prog 50 #[.slice (some ⟨g5, 0, none⟩) m5 c5, .int .i64 ix, .int .i64 ((ix + 1 : Nat) : Int)] W fun u w' => u = .returned (.slice (some ⟨g5, 0, none⟩) (m5 - 1) c5) ∧ RemF w0 w' b gr n c i p q made p (.slice (some ⟨g5, 0, none⟩) m5 c5) (.slice (some ⟨g5, 0, none⟩) (m5 - 1) c5) (l.set p ⟨xp.f0, xp.f1, xp.f2, xp.f3, xp.f4, xp.f5.eraseIdx ix⟩)) :=
  Lib.hid (fun W h => HDl.out W (HB1.out.trans (h.mono HB1.out.size)))
 clear HIx HDl HNd z0 z1 z2 z3 z4
 go_upto_region 9 with fail
 obtain ⟨⟨y0, y1, y2, y3⟩, y4⟩ := HC.out w1.drew (below_drew (Below.refl _ _))
 go_region_held3 (fun W => W.cell? ⟨gr, p * 6 + 5, none⟩ = some (.slice (some ⟨g5, 0, none⟩) m5 c5) ∧ W.cell? ⟨w.heap.size, 1, none⟩ = some (.int .i64 (i : Int))) (first | exact ⟨(HC.out _ (by (repeat (first | refine below_drew ?_)); first | exact hb2 | exact Below.refl _ _)).1.2.2.2, (HC.out _ (by (repeat (first | refine below_drew ?_)); first | exact hb2 | exact Below.refl _ _)).2⟩ | go_keep)
  (first | (with_reducible refine (HI2.out _ ?_).mono ?_; ((repeat (first | refine below_drew ?_)); exact Below.refl _ _); rintro u w2 ⟨rfl, hb2⟩))
 all_goals
  clear y0 y1 y2 y3 y4
  obtain ⟨⟨y0, y1, y2, y3⟩, y4⟩ := HC.out w2 hb2
  have HB2 := Lib.hid hb2
  clear hb2 y0 y1 y2
  go_wp2_with fail
  refine (HD2.out w2 HB2.out).mono ?_
  rintro u w3 ⟨rfl, hF⟩
  have f5 := hF.f5
  have f4 := hF.f4
  have c5' := hF.c5
  have c4' := hF.c4
  have HF := Lib.hid hF
  clear hF y3 y4
  go_wp2_with fail
  go_ret
  exact ⟨rfl, HFin.out _ HF.out⟩
set_option maxRecDepth 100000 in
set_option maxHeartbeats 4000000 in
theorem remove_calls (k : Nat) (e : S45) (A8 A11 : Option Addr) (n8 n11 c8 c11 : Nat) (l : List S43) (q : Bool) (made : Int) (b : Nat) (r : Int) (l' : List S43) (w0 w : World) (hw : Below w0.heap.size w0 w) (hE : Ed w w0.heap.size b l q made) (h : removeF k l e = some (r, l')) :
  Calls Tryz.prog 60 #[.pointer (some ⟨b, 0, none⟩), editV e A8 A11 n8 n11 c8 c11] w fun u w' => u = .returned (.int .i64 r) ∧ Ed w' w0.heap.size b l' q made ∧ Below w0.heap.size w0 w' := by
 obtain ⟨A, c, hB, hblk, hS⟩ := ed_open hE
 obtain ⟨n, hn⟩ : ∃ n, n = l.length := ⟨_, rfl⟩
 rw [← hn] at hblk hS
 have HE : Hid (∀ W : World, Below w.heap.size w W → Ed W w0.heap.size b l q made ∧ Below w0.heap.size w0 W) := Lib.hid (fun W h => ⟨hE.below h, hw.trans (h.mono hw.size)⟩)
 have HC : Hid (∀ W : World, Below w.heap.size w W → W.cell? ⟨b, 0, none⟩ = some (.slice A n c)) := Lib.hid (fun W h => pw_cell_below h ((blk_cell hblk 0).trans rfl))
 have HBx := Lib.hid ((Below.refl _ w).alloc (Nat.le_refl _) (.cells #[.int .i64 e.f0, .int .i64 e.f1, .int .i64 e.f2, .int .i64 e.f3, .string e.f4, .string e.f5, .int .i64 e.f6.f0, .string e.f6.f1, .slice A8 n8 c8, .string e.f6.f3, .int .i64 e.f6.f4, .slice A11 n11 c11] 45))
 unfold removeF at h
 by_cases hin : 0 ≤ e.f1 ∧ e.f1 < (l.length : Int)
 ·rw [if_pos hin] at h
  obtain ⟨i, hi⟩ : ∃ i : Nat, (i : Int) = e.f1 := ⟨e.f1.toNat, by omega⟩
  obtain ⟨gr, cap, hv, hbr, hgr, cells, hty⟩ := Kd.S_form hS (by omega)
  injection hv with hA hn' hc'
  subst hA
  clear hn' hc'
  obtain ⟨x, hx⟩ : ∃ x, rd_T43 l e.f1 = x := ⟨_, rfl⟩
  have hget : ∀ (j : Nat) (y : S43), rd_T43 l (j : Int) = y → j < n → l[j]? = some y := fun j y hy hj => by
   rw [← hy]
   unfold rd_T43
   rw [Int.toNat_natCast, List.getD_eq_getElem?_getD, List.getElem?_eq_getElem (by omega)]
   rfl
  have hxi : l[i]? = some x := hget i x (by rw [hi]; exact hx) (by omega)
  rw [hx] at h
  obtain ⟨hn2, hnc, hrow⟩ := Kd.S_reads' hS
  obtain ⟨adi, A2i, c2i, A5, c5, ei, i0, -, -, -, i4, -⟩ := at_T43 hrow (i : Int) (by omega) (by omega)
  cases ei
  rw [hi, hx] at i0 i4
  have i0' : w.cell? ⟨gr, i * 6, none⟩ = some (.int .i64 x.f0) := by simpa [add_at, ← hi] using i0
  have i4' : w.cell? ⟨gr, i * 6 + 4, none⟩ = some (.int .i64 x.f4) := by simpa [add_at, ← hi] using i4
  have y0 := pw_cell_below HBx.out i0'
  have y4 := pw_cell_below HBx.out i4'
  have HNd : Hid (∀ W : World, Below w.heap.size w W → Calls Tryz.prog 84 #[.pointer (some ⟨b, 0, none⟩), .int .i64 e.f1] W fun u w' => u = .returned (.pointer (some ⟨gr, i * 6, none⟩)) ∧ W = w') :=
   Lib.hid (fun W h => by rw [← hi]; exact dom_editor_node.in_ b gr n c i W (HC.out W h) (by omega))
  by_cases h1 : x.f0 = 1
  ·rw [if_pos h1] at h
   injection h with h
   injection h with ha hb
   subst ha hb
   have hkb : (x.f0 == 1) = true := by simpa using h1
   unfold editV
   clear hE hblk hS hw hB hin hx hget hxi hn2 hnc hrow i0 i4 i0' i4' hty h1 hn
   go_enter Tryz.func60, Tryz.ntmps60
   go_wp2_with fail
   refine (HNd.out _ HBx.out).mono ?_
   rintro u w' ⟨rfl, rfl⟩
   go_wp2_with fail
   go_ret
   exact ⟨rfl, HE.out _ HBx.out⟩
  ·rw [if_neg h1] at h
   by_cases h4 : x.f4 < 0
   ·rw [if_pos h4] at h
    injection h with h
    injection h with ha hb
    subst ha hb
    have hkb : (x.f0 == 1) = false := by simpa using h1
    unfold editV
    clear hE hblk hS hw hB hin hx hget hxi hn2 hnc hrow i0 i4 i0' i4' hty h1 hn
    go_enter Tryz.func60, Tryz.ntmps60
    go_wp2_with fail
    refine (HNd.out _ HBx.out).mono ?_
    rintro u w' ⟨rfl, rfl⟩
    go_wp2_with fail
    go_ret
    exact ⟨rfl, HE.out _ HBx.out⟩
   ·rw [if_neg h4] at h
    split at h
    case isFalse => exact absurd h (by simp)
    case isTrue hc =>
     obtain ⟨p1, p2, p3⟩ := hc
     obtain ⟨p, hp⟩ : ∃ p : Nat, (p : Int) = x.f4 := ⟨x.f4.toNat, by omega⟩
     obtain ⟨y, hy⟩ : ∃ y, rd_T43 l x.f4 = y := ⟨_, rfl⟩
     have hyp : l[p]? = some y := hget p y (by rw [hp]; exact hy) (by omega)
     rw [hy] at h p3
     obtain ⟨ix, hix, h⟩ := Option.bind_eq_some_iff.1 h
     split at h
     case isFalse => exact absurd h (by simp)
     case isTrue hr =>
      obtain ⟨ixn, hixn⟩ : ∃ ixn : Nat, (ixn : Int) = ix := ⟨ix.toNat, by omega⟩
      injection h with h
      injection h with ha hb
      subst ha hb
      rw [← hixn, ← hi] at hix
      rw [← hixn, ← hi, ← hp, Int.toNat_natCast, Int.toNat_natCast, Int.toNat_natCast]
      exact remove_ok k e A8 A11 n8 n11 c8 c11 l q made b gr n c i p ixn x y w0 w hw hB hblk hS hi.symm (by omega) (by omega) (by omega) hxi hyp h1 hp.symm p3 hix (by omega)
 ·rw [if_neg hin] at h
  injection h with h
  injection h with ha hb
  subst ha hb
  have HNd : Hid (∀ W : World, Below w.heap.size w W → Calls Tryz.prog 84 #[.pointer (some ⟨b, 0, none⟩), .int .i64 e.f1] W fun u w' => u = .returned (.pointer none) ∧ W = w') :=
   Lib.hid (fun W h => dom_editor_node.out_ b n c A e.f1 W (HC.out W h) (by omega))
  unfold editV
  clear hE hblk hS hw hB hin hn
  go_enter Tryz.func60, Tryz.ntmps60
  go_wp2_with fail
  refine (HNd.out _ HBx.out).mono ?_
  rintro u w' ⟨rfl, rfl⟩
  go_wp2_with fail
  go_ret
  exact ⟨rfl, HE.out _ HBx.out⟩

/-! ### dom_editor_edit: function 21 -/
set_option maxHeartbeats 1000000 in
theorem does_text (p : Value) (w : World) : Calls Tryz.prog 42 #[p, .int .i64 3] w fun e w' => e = .returned (.func (.func 57) #[p] #[]) ∧ w = w' := by
 go_enter Tryz.func42, Tryz.ntmps42
 go_wp2_with fail
 go_ret
 exact ⟨rfl, rfl⟩
set_option maxHeartbeats 1000000 in
theorem does_make (p : Value) (w : World) : Calls Tryz.prog 42 #[p, .int .i64 4] w fun e w' => e = .returned (.func (.func 58) #[p] #[]) ∧ w = w' := by
 go_enter Tryz.func42, Tryz.ntmps42
 go_wp2_with fail
 go_ret
 exact ⟨rfl, rfl⟩
set_option maxHeartbeats 1000000 in
theorem does_insert (p : Value) (w : World) : Calls Tryz.prog 42 #[p, .int .i64 5] w fun e w' => e = .returned (.func (.func 59) #[p] #[]) ∧ w = w' := by
 go_enter Tryz.func42, Tryz.ntmps42
 go_wp2_with fail
 go_ret
 exact ⟨rfl, rfl⟩
set_option maxHeartbeats 1000000 in
theorem does_attr (p : Value) (w : World) : Calls Tryz.prog 42 #[p, .int .i64 1] w fun e w' => e = .returned (.func (.func 55) #[p] #[]) ∧ w = w' := by
 go_enter Tryz.func42, Tryz.ntmps42
 go_wp2_with fail
 go_ret
 exact ⟨rfl, rfl⟩
set_option maxHeartbeats 1000000 in
theorem does_drop (p : Value) (w : World) : Calls Tryz.prog 42 #[p, .int .i64 2] w fun e w' => e = .returned (.func (.func 56) #[p] #[]) ∧ w = w' := by
 go_enter Tryz.func42, Tryz.ntmps42
 go_wp2_with fail
 go_ret
 exact ⟨rfl, rfl⟩
set_option maxHeartbeats 1000000 in
theorem does_remove (p : Value) (w : World) : Calls Tryz.prog 42 #[p, .int .i64 6] w fun e w' => e = .returned (.func (.func 60) #[p] #[]) ∧ w = w' := by
 go_enter Tryz.func42, Tryz.ntmps42
 go_wp2_with fail
 go_ret
 exact ⟨rfl, rfl⟩
theorem func_not_nil1 {P : Program} (w : World) (d : Nat) (t : TypeId) (ps rs : Array TypeId) (b : Bool) (f : Fn) (xs ys : Array Value) (h : P.underlying t = some (.func ps rs b)) : (Op.equalIn (d + 1) t (.func f xs ys) .nilFunc).run P w = .ok false w := by simp [Op.equalIn, run_underlying h]
/-- A function's value is not nil. -/
theorem func_not_nil {P : Program} (w : World) (t : TypeId) (ps rs : Array TypeId) (b : Bool) (f : Fn) (xs ys : Array Value) (h : P.underlying t = some (.func ps rs b)) : (binOp .eql t (.func f xs ys) .nilFunc).run P w = .ok (.bool false) w := by
 simp only [binOp]
 simp [Op.equal, Op.maxDepth, func_not_nil1 w 9999 t ps rs b f xs ys h]
set_option maxRecDepth 100000 in
set_option maxHeartbeats 2000000 in
/-- edit, where it is this. -/
theorem edit_text (p : Value) (at_ to_ be : Int) (nm vl : ByteArray) (f0 : Int) (f1 : ByteArray) (A8 : Option Addr) (n8 c8 : Nat) (f3 : ByteArray) (f4 : Int) (A11 : Option Addr) (n11 c11 : Nat) (r : Int) (w : World) (Q : World → Prop)
  (hg : ∀ W : World, Below w.heap.size w W → Calls Tryz.prog 57 #[p, .agg #[.int .i64 3, .int .i64 at_, .int .i64 to_, .int .i64 be, .string nm, .string vl, .int .i64 f0, .string f1, .slice A8 n8 c8, .string f3, .int .i64 f4, .slice A11 n11 c11]] W fun e w' => e = .returned (.int .i64 r) ∧ Q w') :
  Calls Tryz.prog 21 #[p, .agg #[.int .i64 3, .int .i64 at_, .int .i64 to_, .int .i64 be, .string nm, .string vl, .int .i64 f0, .string f1, .slice A8 n8 c8, .string f3, .int .i64 f4, .slice A11 n11 c11]] w fun e w' => e = .returned (.int .i64 r) ∧ Q w' := by
 have hnil := fun W : World => func_not_nil (P := Tryz.prog) W 63 _ _ _ (.func 57) #[p] #[] Tryz.underlying63
 have HD := Lib.hid (fun W => does_text p W)
 have HG := Lib.hid hg
 have HB := Lib.hid ((Below.refl _ w).alloc (Nat.le_refl _) (.cells #[.int .i64 3, .int .i64 at_, .int .i64 to_, .int .i64 be, .string nm, .string vl, .int .i64 f0, .string f1, .slice A8 n8 c8, .string f3, .int .i64 f4, .slice A11 n11 c11] 45))
 clear hg
 go_enter Tryz.func21, Tryz.ntmps21
 go_wp2_with fail
 refine (HD.out _).mono ?_
 rintro e w' ⟨rfl, rfl⟩
 go_wp2_with fail
 refine (HG.out _ HB.out).mono ?_
 rintro e w' ⟨rfl, hq⟩
 go_wp2_with fail
 go_ret
 exact ⟨rfl, hq⟩
set_option maxRecDepth 100000 in
set_option maxHeartbeats 2000000 in
/-- edit, where it is this. -/
theorem edit_make (p : Value) (at_ to_ be : Int) (nm vl : ByteArray) (f0 : Int) (f1 : ByteArray) (A8 : Option Addr) (n8 c8 : Nat) (f3 : ByteArray) (f4 : Int) (A11 : Option Addr) (n11 c11 : Nat) (r : Int) (w : World) (Q : World → Prop)
  (hg : ∀ W : World, Below w.heap.size w W → Calls Tryz.prog 58 #[p, .agg #[.int .i64 4, .int .i64 at_, .int .i64 to_, .int .i64 be, .string nm, .string vl, .int .i64 f0, .string f1, .slice A8 n8 c8, .string f3, .int .i64 f4, .slice A11 n11 c11]] W fun e w' => e = .returned (.int .i64 r) ∧ Q w') :
  Calls Tryz.prog 21 #[p, .agg #[.int .i64 4, .int .i64 at_, .int .i64 to_, .int .i64 be, .string nm, .string vl, .int .i64 f0, .string f1, .slice A8 n8 c8, .string f3, .int .i64 f4, .slice A11 n11 c11]] w fun e w' => e = .returned (.int .i64 r) ∧ Q w' := by
 have hnil := fun W : World => func_not_nil (P := Tryz.prog) W 63 _ _ _ (.func 58) #[p] #[] Tryz.underlying63
 have HD := Lib.hid (fun W => does_make p W)
 have HG := Lib.hid hg
 have HB := Lib.hid ((Below.refl _ w).alloc (Nat.le_refl _) (.cells #[.int .i64 4, .int .i64 at_, .int .i64 to_, .int .i64 be, .string nm, .string vl, .int .i64 f0, .string f1, .slice A8 n8 c8, .string f3, .int .i64 f4, .slice A11 n11 c11] 45))
 clear hg
 go_enter Tryz.func21, Tryz.ntmps21
 go_wp2_with fail
 refine (HD.out _).mono ?_
 rintro e w' ⟨rfl, rfl⟩
 go_wp2_with fail
 refine (HG.out _ HB.out).mono ?_
 rintro e w' ⟨rfl, hq⟩
 go_wp2_with fail
 go_ret
 exact ⟨rfl, hq⟩
set_option maxRecDepth 100000 in
set_option maxHeartbeats 2000000 in
/-- edit, where it is this. -/
theorem edit_insert (p : Value) (at_ to_ be : Int) (nm vl : ByteArray) (f0 : Int) (f1 : ByteArray) (A8 : Option Addr) (n8 c8 : Nat) (f3 : ByteArray) (f4 : Int) (A11 : Option Addr) (n11 c11 : Nat) (r : Int) (w : World) (Q : World → Prop)
  (hg : ∀ W : World, Below w.heap.size w W → Calls Tryz.prog 59 #[p, .agg #[.int .i64 5, .int .i64 at_, .int .i64 to_, .int .i64 be, .string nm, .string vl, .int .i64 f0, .string f1, .slice A8 n8 c8, .string f3, .int .i64 f4, .slice A11 n11 c11]] W fun e w' => e = .returned (.int .i64 r) ∧ Q w') :
  Calls Tryz.prog 21 #[p, .agg #[.int .i64 5, .int .i64 at_, .int .i64 to_, .int .i64 be, .string nm, .string vl, .int .i64 f0, .string f1, .slice A8 n8 c8, .string f3, .int .i64 f4, .slice A11 n11 c11]] w fun e w' => e = .returned (.int .i64 r) ∧ Q w' := by
 have hnil := fun W : World => func_not_nil (P := Tryz.prog) W 63 _ _ _ (.func 59) #[p] #[] Tryz.underlying63
 have HD := Lib.hid (fun W => does_insert p W)
 have HG := Lib.hid hg
 have HB := Lib.hid ((Below.refl _ w).alloc (Nat.le_refl _) (.cells #[.int .i64 5, .int .i64 at_, .int .i64 to_, .int .i64 be, .string nm, .string vl, .int .i64 f0, .string f1, .slice A8 n8 c8, .string f3, .int .i64 f4, .slice A11 n11 c11] 45))
 clear hg
 go_enter Tryz.func21, Tryz.ntmps21
 go_wp2_with fail
 refine (HD.out _).mono ?_
 rintro e w' ⟨rfl, rfl⟩
 go_wp2_with fail
 refine (HG.out _ HB.out).mono ?_
 rintro e w' ⟨rfl, hq⟩
 go_wp2_with fail
 go_ret
 exact ⟨rfl, hq⟩
set_option maxRecDepth 100000 in
set_option maxHeartbeats 2000000 in
/-- edit, where it is this. -/
theorem edit_attr (p : Value) (at_ to_ be : Int) (nm vl : ByteArray) (f0 : Int) (f1 : ByteArray) (A8 : Option Addr) (n8 c8 : Nat) (f3 : ByteArray) (f4 : Int) (A11 : Option Addr) (n11 c11 : Nat) (r : Int) (w : World) (Q : World → Prop)
  (hg : ∀ W : World, Below w.heap.size w W → Calls Tryz.prog 55 #[p, .agg #[.int .i64 1, .int .i64 at_, .int .i64 to_, .int .i64 be, .string nm, .string vl, .int .i64 f0, .string f1, .slice A8 n8 c8, .string f3, .int .i64 f4, .slice A11 n11 c11]] W fun e w' => e = .returned (.int .i64 r) ∧ Q w') :
  Calls Tryz.prog 21 #[p, .agg #[.int .i64 1, .int .i64 at_, .int .i64 to_, .int .i64 be, .string nm, .string vl, .int .i64 f0, .string f1, .slice A8 n8 c8, .string f3, .int .i64 f4, .slice A11 n11 c11]] w fun e w' => e = .returned (.int .i64 r) ∧ Q w' := by
 have hnil := fun W : World => func_not_nil (P := Tryz.prog) W 63 _ _ _ (.func 55) #[p] #[] Tryz.underlying63
 have HD := Lib.hid (fun W => does_attr p W)
 have HG := Lib.hid hg
 have HB := Lib.hid ((Below.refl _ w).alloc (Nat.le_refl _) (.cells #[.int .i64 1, .int .i64 at_, .int .i64 to_, .int .i64 be, .string nm, .string vl, .int .i64 f0, .string f1, .slice A8 n8 c8, .string f3, .int .i64 f4, .slice A11 n11 c11] 45))
 clear hg
 go_enter Tryz.func21, Tryz.ntmps21
 go_wp2_with fail
 refine (HD.out _).mono ?_
 rintro e w' ⟨rfl, rfl⟩
 go_wp2_with fail
 refine (HG.out _ HB.out).mono ?_
 rintro e w' ⟨rfl, hq⟩
 go_wp2_with fail
 go_ret
 exact ⟨rfl, hq⟩
set_option maxRecDepth 100000 in
set_option maxHeartbeats 2000000 in
/-- edit, where it is this. -/
theorem edit_drop (p : Value) (at_ to_ be : Int) (nm vl : ByteArray) (f0 : Int) (f1 : ByteArray) (A8 : Option Addr) (n8 c8 : Nat) (f3 : ByteArray) (f4 : Int) (A11 : Option Addr) (n11 c11 : Nat) (r : Int) (w : World) (Q : World → Prop)
  (hg : ∀ W : World, Below w.heap.size w W → Calls Tryz.prog 56 #[p, .agg #[.int .i64 2, .int .i64 at_, .int .i64 to_, .int .i64 be, .string nm, .string vl, .int .i64 f0, .string f1, .slice A8 n8 c8, .string f3, .int .i64 f4, .slice A11 n11 c11]] W fun e w' => e = .returned (.int .i64 r) ∧ Q w') :
  Calls Tryz.prog 21 #[p, .agg #[.int .i64 2, .int .i64 at_, .int .i64 to_, .int .i64 be, .string nm, .string vl, .int .i64 f0, .string f1, .slice A8 n8 c8, .string f3, .int .i64 f4, .slice A11 n11 c11]] w fun e w' => e = .returned (.int .i64 r) ∧ Q w' := by
 have hnil := fun W : World => func_not_nil (P := Tryz.prog) W 63 _ _ _ (.func 56) #[p] #[] Tryz.underlying63
 have HD := Lib.hid (fun W => does_drop p W)
 have HG := Lib.hid hg
 have HB := Lib.hid ((Below.refl _ w).alloc (Nat.le_refl _) (.cells #[.int .i64 2, .int .i64 at_, .int .i64 to_, .int .i64 be, .string nm, .string vl, .int .i64 f0, .string f1, .slice A8 n8 c8, .string f3, .int .i64 f4, .slice A11 n11 c11] 45))
 clear hg
 go_enter Tryz.func21, Tryz.ntmps21
 go_wp2_with fail
 refine (HD.out _).mono ?_
 rintro e w' ⟨rfl, rfl⟩
 go_wp2_with fail
 refine (HG.out _ HB.out).mono ?_
 rintro e w' ⟨rfl, hq⟩
 go_wp2_with fail
 go_ret
 exact ⟨rfl, hq⟩
set_option maxRecDepth 100000 in
set_option maxHeartbeats 2000000 in
/-- edit, where it is this. -/
theorem edit_remove (p : Value) (at_ to_ be : Int) (nm vl : ByteArray) (f0 : Int) (f1 : ByteArray) (A8 : Option Addr) (n8 c8 : Nat) (f3 : ByteArray) (f4 : Int) (A11 : Option Addr) (n11 c11 : Nat) (r : Int) (w : World) (Q : World → Prop)
  (hg : ∀ W : World, Below w.heap.size w W → Calls Tryz.prog 60 #[p, .agg #[.int .i64 6, .int .i64 at_, .int .i64 to_, .int .i64 be, .string nm, .string vl, .int .i64 f0, .string f1, .slice A8 n8 c8, .string f3, .int .i64 f4, .slice A11 n11 c11]] W fun e w' => e = .returned (.int .i64 r) ∧ Q w') :
  Calls Tryz.prog 21 #[p, .agg #[.int .i64 6, .int .i64 at_, .int .i64 to_, .int .i64 be, .string nm, .string vl, .int .i64 f0, .string f1, .slice A8 n8 c8, .string f3, .int .i64 f4, .slice A11 n11 c11]] w fun e w' => e = .returned (.int .i64 r) ∧ Q w' := by
 have hnil := fun W : World => func_not_nil (P := Tryz.prog) W 63 _ _ _ (.func 60) #[p] #[] Tryz.underlying63
 have HD := Lib.hid (fun W => does_remove p W)
 have HG := Lib.hid hg
 have HB := Lib.hid ((Below.refl _ w).alloc (Nat.le_refl _) (.cells #[.int .i64 6, .int .i64 at_, .int .i64 to_, .int .i64 be, .string nm, .string vl, .int .i64 f0, .string f1, .slice A8 n8 c8, .string f3, .int .i64 f4, .slice A11 n11 c11] 45))
 clear hg
 go_enter Tryz.func21, Tryz.ntmps21
 go_wp2_with fail
 refine (HD.out _).mono ?_
 rintro e w' ⟨rfl, rfl⟩
 go_wp2_with fail
 refine (HG.out _ HB.out).mono ?_
 rintro e w' ⟨rfl, hq⟩
 go_wp2_with fail
 go_ret
 exact ⟨rfl, hq⟩
theorem nil_nil1 {P : Program} (w : World) (d : Nat) (t : TypeId) (ps rs : Array TypeId) (b : Bool) (h : P.underlying t = some (.func ps rs b)) : (Op.equalIn (d + 1) t .nilFunc .nilFunc).run P w = .ok true w := by simp [Op.equalIn, run_underlying h]
/-- Nil is nil. -/
theorem nil_nil {P : Program} (w : World) (t : TypeId) (ps rs : Array TypeId) (b : Bool) (h : P.underlying t = some (.func ps rs b)) : (binOp .eql t .nilFunc .nilFunc).run P w = .ok (.bool true) w := by
 simp only [binOp]
 simp [Op.equal, Op.maxDepth, nil_nil1 w 9999 t ps rs b h]
set_option maxRecDepth 100000 in
set_option maxHeartbeats 2000000 in
theorem does_none (p : Value) (d : Int) (w : World) (d1 : d ≠ 1) (d2 : d ≠ 2) (d3 : d ≠ 3) (d4 : d ≠ 4) (d5 : d ≠ 5) (d6 : d ≠ 6) : Calls Tryz.prog 42 #[p, .int .i64 d] w fun e w' => e = .returned .nilFunc ∧ w = w' := by
 have b1 : (d == 1) = false := by simpa using d1
 have b2 : (d == 2) = false := by simpa using d2
 have b3 : (d == 3) = false := by simpa using d3
 have b4 : (d == 4) = false := by simpa using d4
 have b5 : (d == 5) = false := by simpa using d5
 have b6 : (d == 6) = false := by simpa using d6
 go_enter Tryz.func42, Tryz.ntmps42
 go_wp2_with fail
 go_ret
 exact ⟨rfl, rfl⟩
set_option maxRecDepth 100000 in
set_option maxHeartbeats 2000000 in
/-- edit, where there is no such thing to do. -/
theorem edit_other (p : Value) (d at_ to_ be : Int) (nm vl : ByteArray) (f0 : Int) (f1 : ByteArray) (A8 : Option Addr) (n8 c8 : Nat) (f3 : ByteArray) (f4 : Int) (A11 : Option Addr) (n11 c11 : Nat) (w : World) (d1 : d ≠ 1) (d2 : d ≠ 2) (d3 : d ≠ 3) (d4 : d ≠ 4) (d5 : d ≠ 5) (d6 : d ≠ 6) :
  Calls Tryz.prog 21 #[p, .agg #[.int .i64 d, .int .i64 at_, .int .i64 to_, .int .i64 be, .string nm, .string vl, .int .i64 f0, .string f1, .slice A8 n8 c8, .string f3, .int .i64 f4, .slice A11 n11 c11]] w fun e w' => e = .returned (.int .i64 1) ∧ Below w.heap.size w w' := by
 have hnil := fun W : World => nil_nil (P := Tryz.prog) W 63 _ _ _ Tryz.underlying63
 have HD := Lib.hid (fun W => does_none p d W d1 d2 d3 d4 d5 d6)
 have HB := Lib.hid ((Below.refl _ w).alloc (Nat.le_refl _) (.cells #[.int .i64 d, .int .i64 at_, .int .i64 to_, .int .i64 be, .string nm, .string vl, .int .i64 f0, .string f1, .slice A8 n8 c8, .string f3, .int .i64 f4, .slice A11 n11 c11] 45))
 clear d1 d2 d3 d4 d5 d6
 go_enter Tryz.func21, Tryz.ntmps21
 go_wp2_with fail
 refine (HD.out _).mono ?_
 rintro e w' ⟨rfl, rfl⟩
 go_wp2_with fail
 go_ret
 exact ⟨rfl, HB.out⟩
/-- What an edit makes of a document's nodes: an error's number, the nodes, and what was made; none where this text says nothing. -/
def makeF (k : Nat) (l : List S43) (e : S45) : Option (Int × List S43 × Int) :=
 if e.f6.f5 = [] then
  if e.f6.f0 = 1 then some (7, l, l.length) else
   (dom_one.f k e.f6.f0 e.f6.f1 e.f6.f2 e.f6.f3 e.f6.f4 e.f6.f5).bind fun r =>
    if r = 0 then
     (if l.length < 200 ∧ e.f6.f2.length ≤ 1000 then some (0, l ++ [⟨e.f6.f0, e.f6.f1, e.f6.f2, e.f6.f3, -1, []⟩], l.length) else if l.length = 200 then some (2, l, l.length) else none)
    else some (r, l, l.length)
 else some (3, l, l.length)
def editF (k : Nat) (l : List S43) (q : Bool) (made : Int) (e : S45) : Option (Int × List S43 × Int) :=
 if e.f0 = 3 then some ((textF l e).1, (textF l e).2, made) else if e.f0 = 4 then makeF k l e else if e.f0 = 5 then (insertF k l q e).map (fun p => (p.1, p.2, made))
 else if e.f0 = 1 then (attrF l e).map (fun p => (p.1, p.2, made)) else if e.f0 = 2 then (dropF l e).map (fun p => (p.1, p.2, made)) else if e.f0 = 6 then (removeF k l e).map (fun p => (p.1, p.2, made)) else some (1, l, made)
theorem edit_calls (k : Nat) (e : S45) (A8 A11 : Option Addr) (c8 c11 : Nat) (l : List S43) (q : Bool) (made : Int) (r : Int) (l' : List S43) (made' : Int) (b : Nat) (w0 w : World)
  (hw : Below w0.heap.size w0 w) (hE : Ed w w0.heap.size b l q made) (h8 : Kd.C k66 w0 A8 e.f6.f2.length e.f6.f2) (hc8 : e.f6.f2.length ≤ c8) (h11 : Kd.C (Kd.int .i64) w0 A11 e.f6.f5.length e.f6.f5) (hc11 : e.f6.f5.length ≤ c11)
  (h : editF k l q made e = some (r, l', made')) :
  Calls Tryz.prog 21 #[.pointer (some ⟨b, 0, none⟩), .agg #[.int .i64 e.f0, .int .i64 e.f1, .int .i64 e.f2, .int .i64 e.f3, .string e.f4, .string e.f5, .int .i64 e.f6.f0, .string e.f6.f1, .slice A8 e.f6.f2.length c8, .string e.f6.f3, .int .i64 e.f6.f4, .slice A11 e.f6.f5.length c11]] w fun e w' => e = .returned (.int .i64 r) ∧ ((r = 0 → Ed w' w0.heap.size b l' q made') ∧ Below w0.heap.size w0 w') := by
 unfold editF at h
 by_cases d3 : e.f0 = 3
 ·rw [if_pos d3] at h
  injection h with h
  injection h with ha h
  injection h with hb hc
  subst ha hb hc
  have HT : ∀ W : World, Below w.heap.size w W → Calls Tryz.prog 57 #[.pointer (some ⟨b, 0, none⟩), editV e A8 A11 e.f6.f2.length e.f6.f5.length c8 c11] W fun u w' => u = .returned (.int .i64 (textF l e).1) ∧ (((textF l e).1 = 0 → Ed w' w0.heap.size b (textF l e).2 q made) ∧ Below w0.heap.size w0 w') := fun W hb =>
   (text_calls e A8 A11 _ _ c8 c11 l q made b w0 W (hw.trans (hb.mono hw.size)) (hE.below hb)).mono fun u w' ⟨h1, h2, h3⟩ => ⟨h1, fun _ => h2, h3⟩
  unfold editV at HT
  rw [d3] at HT ⊢
  exact edit_text _ _ _ _ _ _ _ _ _ _ _ _ _ _ _ _ _ _ _ HT
 rw [if_neg d3] at h
 by_cases d4 : e.f0 = 4
 ·rw [if_pos d4] at h
  unfold makeF at h
  have HErr : ∀ (r' : Int) (l1 : List S43) (m1 : Int), r' ≠ 0 → ((e.f6.f5 ≠ [] ∧ r' = 3) ∨ (e.f6.f5 = [] ∧ e.f6.f0 = 1 ∧ r' = 7) ∨ (e.f6.f5 = [] ∧ e.f6.f0 ≠ 1 ∧ dom_one.f k e.f6.f0 e.f6.f1 e.f6.f2 e.f6.f3 e.f6.f4 e.f6.f5 = some r' ∧ r' ≠ 0) ∨ (e.f6.f5 = [] ∧ e.f6.f0 ≠ 1 ∧ dom_one.f k e.f6.f0 e.f6.f1 e.f6.f2 e.f6.f3 e.f6.f4 e.f6.f5 = some 0 ∧ l.length = 200 ∧ r' = 2)) →
    Calls Tryz.prog 21 #[.pointer (some ⟨b, 0, none⟩), .agg #[.int .i64 e.f0, .int .i64 e.f1, .int .i64 e.f2, .int .i64 e.f3, .string e.f4, .string e.f5, .int .i64 e.f6.f0, .string e.f6.f1, .slice A8 e.f6.f2.length c8, .string e.f6.f3, .int .i64 e.f6.f4, .slice A11 e.f6.f5.length c11]] w fun e w' => e = .returned (.int .i64 r') ∧ ((r' = 0 → Ed w' w0.heap.size b l1 q m1) ∧ Below w0.heap.size w0 w') := fun r' l1 m1 hr' hd => by
   rw [d4]
   refine edit_make _ _ _ _ _ _ _ _ _ _ _ _ _ _ _ _ _ _ _ (fun W hb => ?_)
   have hbw := hw.trans (hb.mono hw.size)
   refine (make_err k 4 e.f1 e.f2 e.f3 e.f4 e.f5 e.f6 A8 A11 c8 c11 l q made b r' w0 W hbw (hE.below hb) h8 hc8 h11 hc11 hd).mono ?_
   rintro e w' ⟨rfl, h1, h2⟩
   exact ⟨rfl, fun h0 => absurd h0 hr', h2⟩
  by_cases g1 : e.f6.f5 = []
  ·rw [if_pos g1] at h
   by_cases g2 : e.f6.f0 = 1
   ·rw [if_pos g2] at h
    injection h with h
    injection h with ha h
    injection h with hb hc
    subst ha hb hc
    exact HErr 7 _ _ (by decide) (.inr (.inl ⟨g1, g2, rfl⟩))
   ·rw [if_neg g2] at h
    obtain ⟨r1, h1, h⟩ := Option.bind_eq_some_iff.1 h
    by_cases hr : r1 = 0
    ·subst hr
     rw [if_pos rfl] at h
     by_cases g3 : l.length < 200 ∧ e.f6.f2.length ≤ 1000
     ·rw [if_pos g3] at h
      injection h with h
      injection h with ha h
      injection h with hb hc
      subst ha hb hc
      clear HErr
      rw [d4]
      refine edit_make _ _ _ _ _ _ _ _ _ _ _ _ _ _ _ _ _ _ _ (fun W hb => ?_)
      have hbw := hw.trans (hb.mono hw.size)
      refine (make_ok k 4 e.f1 e.f2 e.f3 e.f4 e.f5 e.f6 A8 A11 c8 c11 l q made b w0 W hbw (hE.below hb) h8 hc8 h11 hc11 g1 g2 h1 g3.1 g3.2).mono ?_
      rintro e w' ⟨rfl, h1, h2⟩
      exact ⟨rfl, fun _ => h1, h2⟩
     ·rw [if_neg g3] at h
      by_cases g4 : l.length = 200
      ·rw [if_pos g4] at h
       injection h with h
       injection h with ha h
       injection h with hb hc
       subst ha hb hc
       exact HErr 2 _ _ (by decide) (.inr (.inr (.inr ⟨g1, g2, h1, g4, rfl⟩)))
      ·rw [if_neg g4] at h
       exact absurd h (by simp)
    ·rw [if_neg hr] at h
     injection h with h
     injection h with ha h
     injection h with hb hc
     subst ha hb hc
     exact HErr r1 _ _ hr (.inr (.inr (.inl ⟨g1, g2, h1, hr⟩)))
  ·rw [if_neg g1] at h
   injection h with h
   injection h with ha h
   injection h with hb hc
   subst ha hb hc
   exact HErr 3 _ _ (by decide) (.inl ⟨g1, rfl⟩)
 ·rw [if_neg d4] at h
  by_cases d5 : e.f0 = 5
  ·rw [if_pos d5] at h
   obtain ⟨⟨r1, l1⟩, h1, h⟩ := Option.map_eq_some_iff.1 h
   injection h with ha h
   injection h with hb hc
   subst ha hb hc
   have HT : ∀ W : World, Below w.heap.size w W → Calls Tryz.prog 59 #[.pointer (some ⟨b, 0, none⟩), editV e A8 A11 e.f6.f2.length e.f6.f5.length c8 c11] W fun u w' => u = .returned (.int .i64 r1) ∧ ((r1 = 0 → Ed w' w0.heap.size b l1 q made) ∧ Below w0.heap.size w0 w') := fun W hb =>
    (insert_calls k e A8 A11 _ _ c8 c11 l q made b r1 l1 w0 W (hw.trans (hb.mono hw.size)) (hE.below hb) h1).mono fun u w' ⟨h1, h2, h3⟩ => ⟨h1, fun _ => h2, h3⟩
   unfold editV at HT
   rw [d5] at HT ⊢
   exact edit_insert _ _ _ _ _ _ _ _ _ _ _ _ _ _ _ _ _ _ _ HT
  ·rw [if_neg d5] at h
   by_cases d1 : e.f0 = 1
   ·rw [if_pos d1] at h
    obtain ⟨⟨r1, l1⟩, h1, h⟩ := Option.map_eq_some_iff.1 h
    injection h with ha h
    injection h with hb hc
    subst ha hb hc
    have HT : ∀ W : World, Below w.heap.size w W → Calls Tryz.prog 55 #[.pointer (some ⟨b, 0, none⟩), editV e A8 A11 e.f6.f2.length e.f6.f5.length c8 c11] W fun u w' => u = .returned (.int .i64 r1) ∧ ((r1 = 0 → Ed w' w0.heap.size b l1 q made) ∧ Below w0.heap.size w0 w') := fun W hb =>
     (attr_calls e A8 A11 _ _ c8 c11 l q made b r1 l1 w0 W (hw.trans (hb.mono hw.size)) (hE.below hb) h1).mono fun u w' ⟨h1, h2, h3⟩ => ⟨h1, fun _ => h2, h3⟩
    unfold editV at HT
    rw [d1] at HT ⊢
    exact edit_attr _ _ _ _ _ _ _ _ _ _ _ _ _ _ _ _ _ _ _ HT
   rw [if_neg d1] at h
   by_cases d2 : e.f0 = 2
   ·rw [if_pos d2] at h
    obtain ⟨⟨r1, l1⟩, h1, h⟩ := Option.map_eq_some_iff.1 h
    injection h with ha h
    injection h with hb hc
    subst ha hb hc
    have HT : ∀ W : World, Below w.heap.size w W → Calls Tryz.prog 56 #[.pointer (some ⟨b, 0, none⟩), editV e A8 A11 e.f6.f2.length e.f6.f5.length c8 c11] W fun u w' => u = .returned (.int .i64 r1) ∧ ((r1 = 0 → Ed w' w0.heap.size b l1 q made) ∧ Below w0.heap.size w0 w') := fun W hb =>
     (drop_calls e A8 A11 _ _ c8 c11 l q made b r1 l1 w0 W (hw.trans (hb.mono hw.size)) (hE.below hb) h1).mono fun u w' ⟨h1, h2, h3⟩ => ⟨h1, fun _ => h2, h3⟩
    unfold editV at HT
    rw [d2] at HT ⊢
    exact edit_drop _ _ _ _ _ _ _ _ _ _ _ _ _ _ _ _ _ _ _ HT
   rw [if_neg d2] at h
   by_cases d6 : e.f0 = 6
   ·rw [if_pos d6] at h
    obtain ⟨⟨r1, l1⟩, h1, h⟩ := Option.map_eq_some_iff.1 h
    injection h with ha h
    injection h with hb hc
    subst ha hb hc
    have HT : ∀ W : World, Below w.heap.size w W → Calls Tryz.prog 60 #[.pointer (some ⟨b, 0, none⟩), editV e A8 A11 e.f6.f2.length e.f6.f5.length c8 c11] W fun u w' => u = .returned (.int .i64 r1) ∧ ((r1 = 0 → Ed w' w0.heap.size b l1 q made) ∧ Below w0.heap.size w0 w') := fun W hb =>
     (remove_calls k e A8 A11 _ _ c8 c11 l q made b r1 l1 w0 W (hw.trans (hb.mono hw.size)) (hE.below hb) h1).mono fun u w' ⟨h1, h2, h3⟩ => ⟨h1, fun _ => h2, h3⟩
    unfold editV at HT
    rw [d6] at HT ⊢
    exact edit_remove _ _ _ _ _ _ _ _ _ _ _ _ _ _ _ _ _ _ _ HT
   rw [if_neg d6] at h
   injection h with h
   injection h with ha h
   injection h with hb hc
   subst ha hb hc
   exact (edit_other _ e.f0 _ _ _ _ _ _ _ _ _ _ _ _ _ _ _ w d1 d2 d3 d4 d5 d6).mono fun u w' ⟨h1, h2⟩ => ⟨h1, fun h => absurd h (by decide), hw.trans (h2.mono hw.size)⟩
theorem makeF_mono (l : List S43) (e : S45) (k : Nat) : LeO (makeF k l e) (makeF (k + 1) l e) := by
 unfold makeF
 exact LeO.ite (LeO.ite (LeO.refl _) (LeO.bind (dom_one.mono _ _ _ _ _ _ _) fun _ => LeO.refl _)) (LeO.refl _)
theorem belowF_mono (l : List S43) : ∀ (k : Nat) (n t : Int), LeO (belowF l k n t) (belowF l (k + 1) n t)
 | 0, _, _ => fun r h => by simp [belowF] at h
 | k + 1, n, t => by
  rw [belowF, belowF]
  exact LeO.ite (LeO.ite (LeO.refl _) (LeO.ite (belowF_mono l k _ _) (LeO.refl _))) (LeO.refl _)
theorem deepGo_mono {f g : Int → Option Int} (h : ∀ x, LeO (f x) (g x)) : ∀ (xs : List Int) (m : Int), LeO (deepGo f xs m) (deepGo g xs m)
 | [], _ => LeO.refl _
 | x :: xs, m => LeO.bind (h x) fun _ => deepGo_mono h xs _
theorem deepF_mono (l : List S43) : ∀ (k : Nat) (n : Int), LeO (deepF l k n) (deepF l (k + 1) n)
 | 0, _ => fun r h => by simp [deepF] at h
 | k + 1, n => by
  rw [deepF, deepF]
  exact LeO.ite (LeO.ite (deepGo_mono (deepF_mono l k) _ _) (LeO.refl _)) (LeO.refl _)
theorem placeF_mono (ks : List Int) (be : Int) (k : Nat) : LeO (placeF k ks be) (placeF (k + 1) ks be) := by
 unfold placeF
 exact LeO.ite (LeO.refl _) (slices_Index_int_int.mono _ _ _)
theorem insertF_mono (l : List S43) (q : Bool) (e : S45) (k : Nat) : LeO (insertF k l q e) (insertF (k + 1) l q e) := by
 unfold insertF
 exact LeO.ite (LeO.bind (LeO.refl _) fun pb => LeO.ite (LeO.refl _) (LeO.ite (LeO.refl _) (LeO.ite (LeO.bind (placeF_mono _ _ _) fun p => LeO.ite (LeO.refl _) (LeO.bind (belowF_mono _ _ _ _) fun b => LeO.ite (LeO.refl _) (LeO.bind (dom_up.mono _ _ _ _) fun _ => LeO.bind (deepF_mono _ _ _) fun _ => LeO.refl _))) (LeO.refl _)))) (LeO.refl _)
theorem LeO.map_ {α β : Type} {x y : Option α} (h : LeO x y) (f : α → β) : LeO (x.map f) (y.map f) := fun r hr => by
 obtain ⟨a, ha, hb⟩ := Option.map_eq_some_iff.1 hr
 rw [h a ha]
 exact congrArg some hb
theorem removeF_mono (l : List S43) (e : S45) (k : Nat) : LeO (removeF k l e) (removeF (k + 1) l e) := by
 unfold removeF
 exact LeO.ite (LeO.ite (LeO.refl _) (LeO.ite (LeO.refl _) (LeO.ite (LeO.bind (slices_Index_int_int.mono _ _ _) fun _ => LeO.refl _) (LeO.refl _)))) (LeO.refl _)
theorem editF_mono (l : List S43) (q : Bool) (made : Int) (e : S45) (k : Nat) : LeO (editF k l q made e) (editF (k + 1) l q made e) := by
 unfold editF
 exact LeO.ite (LeO.refl _) (LeO.ite (makeF_mono _ _ _) (LeO.ite (LeO.map_ (insertF_mono _ _ _ _) _) (LeO.ite (LeO.refl _) (LeO.ite (LeO.refl _) (LeO.ite (LeO.map_ (removeF_mono _ _ _) _) (LeO.refl _))))))
/-- Rows of some length alone. -/
def allOk (l : List S43) : Bool := decide (l.length ≤ 1000) && l.all fun x => decide (x.f2.length ≤ 1000) && decide (x.f5.length ≤ 1000)
theorem allOk_len {l : List S43} (h : allOk l = true) : l.length ≤ 1000 ∧ ∀ x ∈ l, x.f2.length ≤ 1000 ∧ x.f5.length ≤ 1000 := by
 unfold allOk at h
 simp only [Bool.and_eq_true, decide_eq_true_eq, List.all_eq_true] at h
 exact h
/-- What lies at the loop's head. -/
structure AllI (w1 wr : World) (b : Nat) (l : List S43) (q : Bool) (made : Int) : Prop where
 ed : Ed wr w1.heap.size b l q made
 below : Below w1.heap.size w1 wr
theorem ed_parts {w : World} {B b : Nat} {l : List S43} {q : Bool} {made : Int} (h : Ed w B b l q made) : ∃ A c, B ≤ b ∧ w.cell? ⟨b, 0, none⟩ = some (.slice A l.length c) ∧ w.cell? ⟨b, 1, none⟩ = some (.bool q) ∧ Kd.S k43 43 w B (fun _ => True) (.slice A l.length c) l := by
 obtain ⟨v, h1, h2, h3⟩ := h
 obtain ⟨A, c, rfl⟩ := Kd.S_slice h3
 exact ⟨A, c, h1, (blk_cell h2 0).trans rfl, (blk_cell h2 1).trans rfl, h3⟩
theorem ed_new {w1 w2 : World} {v : Value} {l : List S43} {q : Bool} {B : Nat} (hB : B ≤ w2.heap.size) (hS : Kd.S k43 43 w2 w1.heap.size (fun _ => True) v l) (hb : B ≤ w1.heap.size) :
  Ed (w2.alloc (.cells #[v, .bool q, .int .i64 0] 62)) B w2.heap.size l q 0 := ⟨v, hB, blk_new _ _, Kd.S_alloc (Kd.S_lower hS hb) _⟩

end Go.Proofs.YtmcinclecpeakaaGreatDoor.PRR
