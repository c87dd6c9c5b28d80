/- Package active: Push. -/
import Derived.Test.YtdheifnebkkjhaaAct8
namespace Go.Proofs.Ytdheifnebkkjhaa.Act
open Go.RowKit Go.Proofs.YtdheifnebkkjhaaW.PrintWords
set_option linter.unusedVariables false
set_option linter.unusedSimpArgs false

/-- What counts of items: node, name, how many attributes. -/
abbrev Sk := Int × ByteArray × Nat
def zSk : Sk := (0, ByteArray.empty, 0)
def badS (x : Sk) : Bool := decide (x.1 < -1) || (x.1 == -1 && (!(x.2.1.toList == []) || decide (0 < x.2.2)))
def chkS (L : List Sk) : Int := if 60 < L.length then 2 else if 0 ≤ idxF badS L then 3 else 0
def lastSK (L : List Sk) : Nat → Nat
  | 0 => 0
  | k + 1 => if (L.getD k zSk).1 == -1 then k + 1 else lastSK L k
def lastS (L : List Sk) : Nat := lastSK L L.length
def GoodK (L : List Sk) (x : Sk) (S : List Nat) : Prop :=
  (∀ s ∈ S, lastS L ≤ s ∧ s < L.length) ∧ ((∀ y ∈ L, y.2.2 = 0) → x.2.2 = 0 → S = (List.range' (lastS L) (L.length - lastS L)).filter fun i => (L.getD i zSk).2.1.toList == x.2.1.toList)
def pushK (L : List Sk) (x : Sk) (S : List Nat) : List Sk := if x.1 ≠ -1 ∧ 3 ≤ S.length then L.eraseIdx (S.headD 0) ++ [x] else L ++ [x]
theorem getD_sk (xs : List It) (k : Nat) : (xs.map sk).getD k zSk = sk (xs.getD k zIt) := by
  rw [List.getD_eq_getElem?_getD, List.getD_eq_getElem?_getD, List.getElem?_map]
  cases xs[k]? <;> rfl
theorem chkF_sk (xs : List It) : chkF xs = chkS (xs.map sk) := by
  unfold chkF chkS idxF
  rw [List.length_map, List.findIdx?_map]
  rfl
theorem lastK_sk (xs : List It) : ∀ k, lastK xs k = lastSK (xs.map sk) k
  | 0 => rfl
  | k + 1 => by
    simp only [lastK, lastSK]
    rw [lastK_sk xs k, getD_sk]
    rfl
theorem lastF_sk (xs : List It) : lastF xs = lastS (xs.map sk) := by unfold lastF lastS; rw [lastK_sk, List.length_map]
theorem map_erase {α β : Type} (f : α → β) : ∀ (l : List α) (i : Nat), (l.map f).eraseIdx i = (l.eraseIdx i).map f
  | [], i => by simp
  | x :: r, 0 => by simp
  | x :: r, i + 1 => by simp [map_erase f r i]
theorem pushL_sk (xs : List It) (x : It) (S : List Nat) : (pushL xs x S).map sk = pushK (xs.map sk) (sk x) S := by
  unfold pushL pushK
  have e : (sk x).1 = x.node := rfl
  rw [e]
  split
  · rw [List.map_append, ← map_erase]; rfl
  · rw [List.map_append]; rfl
theorem GoodS_sk {xs : List It} {x : It} {S : List Nat} (h : GoodS xs x xs.length S) : GoodK (xs.map sk) (sk x) S := by
  refine ⟨fun s hs => ?_, fun h1 h2 => ?_⟩
  · rw [← lastF_sk, List.length_map]; exact h.1 s hs
  · have := h.2 (fun y hy => h1 (sk y) (List.mem_map_of_mem hy)) h2
    rw [← lastF_sk, List.length_map, this]
    congr 1
    funext i
    rw [getD_sk]
    rfl
theorem flatIt_snoc (xs : List It) (x : It) : flatIt (xs ++ [x]) = flatIt xs ++ itCells x := by rw [flatIt_app]; simp [flatIt]

section
variable {P : Program} {ops : Array Oper} {o : Oper} {a : Act} {K : Act → World → Prop} {Q : Exit → Act → World → Prop}
/-- 'append' of one element that lies anywhere, in a region that draws its order. -/
theorem step_append_at {w0 W : World} (base : Nat) (hw : Region.wanted o (yielded ops a.tmps) = true) (s x : Operand) (t e : TypeId) (z : Value) (size bytes : Nat)
    (ho : o.op = .call { callee := .builtin .append, args := #[s, x], argTypes := #[t, t] })
    (ht : P.underlying t = some (.slice e)) (hinfo : (P.info? e).map (fun i => (i.zero, i.size, i.bytes)) = some (some z, size, bytes)) (hz : z.cells.size = size) (hs0 : 0 < size) (hb0 : 0 < bytes)
    (v : Value) (n : Nat) (xs ys : List Value) (ad : Addr) (hs : a.eval s = v) (hx : a.eval x = .slice (some ad) 1 1) (hys : ys.length = size) (h1 : ∀ u ∈ ys, u.oneCell' = true)
    (hnews : ∀ j u, ys[j]? = some u → W.cell? (ad.add j) = some u)
    (HO : W.ownsRow base e size v n xs) (HB : Below base w0 W) (hbase : base ≤ W.heap.size) (hl : (n + 1) * bytes ≤ 140737488355328)
    (h : ∀ v1 w1, w1.ownsRow base e size v1 (n + 1) (xs ++ ys) → Below base w0 w1 → W.grownBy w1 v.ownBlock → (v1.ownBlock = v.ownBlock ∨ ∃ b, v1.ownBlock = some b ∧ W.heap.size ≤ b) → K (a.put o.dst v1) w1) :
    if Region.wanted o (yielded ops a.tmps) = true then Oper.wp P o a W K Q else K (a.put o.dst undef) W := by
  obtain ⟨i0, hi, hzz⟩ := Option.map_eq_some_iff.1 hinfo
  simp only [Prod.mk.injEq] at hzz
  obtain ⟨hz0, hz1, hz2⟩ := hzz
  have hlen : n + 1 ≤ 140737488355328 := Nat.le_trans (Nat.le_mul_of_pos_right _ hb0) hl
  rw [if_pos hw]
  obtain ⟨v1, w1, hr, hown, hg, _, hat⟩ := run_append_own_at (P := P) W base t o.type e i0 z size bytes ht hi hz0 hz1 hz2 hz hs0 v n xs HO ad 1 1 ys (by rw [hys]; simp) hnews h1 (by simp only [maxLen]; omega) hl hbase
  unfold Oper.wp execOp
  simp only [ho, resolve, invoke, builtin, Sem.run_bind, Sem.run_pure, Result.andThen_ok, List.map_toArray, List.map_cons, List.map_nil, hs, hx, hr]
  refine h v1 w1 hown (HB.grown hg hbase (own_base HO)) hg ?_
  rcases hat with hat | hat
  · exact .inl hat
  · exact .inr ⟨_, hat, Nat.le_refl _⟩
end
theorem own_cap {W : World} {b g n m c : Nat} {e : TypeId} {sz : Nat} {xs : List Value} (h : W.ownsRow b e sz (.slice (some ⟨g, 0, none⟩) m c) n xs) : c ≤ 9223372036854775807 := by
  rcases h.2 with ⟨h, _⟩ | ⟨g', cap, cur, h, _, _, _, h2, _⟩
  · cases h
  · injection h with _ _ h
    subst h
    unfold maxLen at h2
    omega
/-- The last call of Push. -/
theorem push_end (A3 : Option Addr) (n c3 B : Nat) (ys : List It) (L : List Sk) (k : Sk) (w4 W : World) (hl : LIt w4 B (.slice A3 (n + 1) c3) ys) (hs : ys.map sk = L ++ [k]) (hL : L.length = n) (hn : n ≤ 90) (hB : B ≤ w4.heap.size) (hb : Below w4.heap.size w4 W) :
    Calls Try.prog 13 #[.slice A3 n c3, itVal (ys.getD n zIt)] W fun e w' => ∃ A' c' zs S, e = .returned (.slice A' zs.length c') ∧ RIt w' A' zs.length zs ∧ (∀ y ∈ zs, RA w' y) ∧ GoodK L k S ∧ zs.map sk = pushK L k S ∧ W.grownBy w' (Value.slice A3 (n + 1) c3).ownBlock := by
  have hyl : ys.length = n + 1 := by have := congrArg List.length hs; simp only [List.length_map, List.length_append, List.length_singleton] at this; rw [this, hL]
  have hl' := hl.below hb
  have htk : (ys.take n).map sk = L := by rw [List.map_take, hs, ← hL, List.take_left]
  have hx : sk (ys.getD n zIt) = k := by rw [← getD_sk, hs, List.getD_eq_getElem?_getD, List.getElem?_append_right (by omega), hL, Nat.sub_self]; rfl
  have hm : ys.getD n zIt ∈ ys := by rw [getD_of (by omega)]; exact List.getElem_mem _
  have htl : (ys.take n).length = n := by rw [List.length_take]; omega
  have ho : OIt W B (.slice A3 n c3) (ys.take n) := by
    have h1 := hl'.1
    unfold OIt at h1 ⊢
    rw [hyl] at h1
    have := own_take h1 (m := n) (by omega)
    rw [htl, ← flatIt_take]
    exact this
  have hblk : (Value.slice A3 (n + 1) c3).ownBlock = (Value.slice A3 n c3).ownBlock := by cases A3 <;> rfl
  have hfar : ∀ y, Far (.slice A3 (n + 1) c3) y → Far (.slice A3 n c3) y := fun y h ad e h0 => by rw [← hblk]; exact h ad e h0
  refine (pushed_any A3 n c3 B (ys.take n) (ys.getD n zIt) W ⟨ho, fun y hy => ⟨(hl'.2 y (List.mem_of_mem_take hy)).1, hfar y (hl'.2 y (List.mem_of_mem_take hy)).2⟩⟩ (hl'.2 _ hm).1 (hfar _ (hl'.2 _ hm).2) (by omega) (Nat.le_trans hB hb.size)).mono ?_
  rintro e w' ⟨v', S, rfl, hg, hp, hgr⟩
  obtain ⟨A', c', hv, hrd⟩ := hp.1.reads
  refine ⟨A', c', pushL (ys.take n) (ys.getD n zIt) S, S, by rw [hv], hrd, fun y hy => (hp.2 y hy).1, ?_, ?_, by rw [hblk]; exact hgr⟩
  · have := GoodS_sk (xs := ys.take n) (x := ys.getD n zIt) (S := S) (by rw [htl]; exact hg)
    rw [htk, hx] at this
    exact this
  · rw [pushL_sk, htk, hx]
set_option maxRecDepth 100000 in
set_option maxHeartbeats 4000000 in
theorem push_any (A : Option Addr) (n c : Nat) (xs : List It) (x : It) (w : World) (hr : RIt w A n xs) (ha : ∀ y ∈ xs, RA w y) (hx : RA w x) (hn : n ≤ 90) :
    Calls Try.prog 5 #[.slice A n c, itVal x] w fun e w' => Below w.heap.size w w' ∧
      ((chkS (xs.map sk ++ [sk x]) ≠ 0 ∧ e = .returned (.tuple #[.slice none 0 0, .int .i64 (chkS (xs.map sk ++ [sk x]))])) ∨
       (chkS (xs.map sk ++ [sk x]) = 0 ∧ ∃ A' c' zs S, e = .returned (.tuple #[.slice A' zs.length c', .int .i64 0]) ∧ RIt w' A' zs.length zs ∧ (∀ y ∈ zs, RA w' y) ∧ GoodK (xs.map sk) (sk x) S ∧ zs.map sk = pushK (xs.map sk) (sk x) S)) := by
  obtain ⟨nd, nm, Ax, nx, cx⟩ := x
  have HL := Lib.hid hr.len
  have HB0 : Hid (∀ W, w.alloc (.cells #[.int .i64 nd, .string nm, .slice Ax nx cx] 26) = W → Below w.heap.size w W ∧ W.heap[w.heap.size]? = some (.cells #[.int .i64 nd, .string nm, .slice Ax nx cx] 26 (0, 0))) := Lib.hid (fun W h => by subst h; exact ⟨(Below.refl _ w).alloc (Nat.le_refl _) _, blk_new _ _⟩)
  have HC : Hid (∀ W1 W, Below w.heap.size w W1 → Below W1.heap.size W1 W → Calls Try.prog 11 #[.slice A n c] W fun e w' => ∃ A1 c1, e = .returned (.slice A1 n c1) ∧ w'.ownsRow W1.heap.size 26 3 (.slice A1 n c1) n (flatIt xs) ∧ Below W1.heap.size W1 w' ∧ Below W.heap.size W w') := Lib.hid (fun W1 W h1 hb => by
    refine (clone_any A n c xs W (hr.below (h1.trans (hb.mono h1.size))) (by omega)).mono ?_
    rintro e w' ⟨v, rfl, ho, hb'⟩
    obtain ⟨A1, c1, rfl⟩ := own_slice ho
    have hl := hr.len
    unfold OIt at ho
    rw [hl] at ho ⊢
    exact ⟨A1, c1, rfl, own_weaken ho hb.size, hb.trans (hb'.mono hb.size), hb'⟩)
  have HW : Hid (∀ W1 W A2 c2, Below w.heap.size w W1 → Below W1.heap.size W1 W → W.ownsRow W1.heap.size 26 3 (.slice A2 (n + 1) c2) (n + 1) (flatIt xs ++ [.int .i64 nd, .string nm, .slice Ax nx cx]) → Calls Try.prog 10 #[.slice A2 (n + 1) c2] W fun e w' => ∃ A3 c3 ys, e = .returned (.slice A3 (n + 1) c3) ∧ LIt w' W1.heap.size (.slice A3 (n + 1) c3) ys ∧ ys.map sk = xs.map sk ++ [(nd, nm, nx)] ∧ ys.length = n + 1 ∧ Below W1.heap.size W1 w') := Lib.hid (fun W1 W A2 c2 h1 hb ho => by
    have hl := hr.len
    have hlen : (xs ++ [(⟨nd, nm, Ax, nx, cx⟩ : It)]).length = n + 1 := by rw [List.length_append, hl]; rfl
    have ho' : OIt W W1.heap.size (.slice A2 (n + 1) c2) (xs ++ [⟨nd, nm, Ax, nx, cx⟩]) := by unfold OIt; rw [hlen, flatIt_snoc]; exact ho
    obtain ⟨A3, c3, e3, hr3⟩ := ho'.reads
    injection e3 with e3 e4 e5
    subst e3
    rw [hlen] at hr3
    refine (own_any A2 (n + 1) c2 (xs ++ [⟨nd, nm, Ax, nx, cx⟩]) W hr3 ?_ (by omega)).mono ?_
    · intro y hy
      have hbb := h1.trans (hb.mono h1.size)
      rcases List.mem_append.1 hy with hy | hy
      · exact (ha y hy).below hbb
      · rw [List.mem_singleton] at hy; subst hy; exact hx.below hbb
    · rintro e w' ⟨v, ys, rfl, hly, hsk, hb'⟩
      have hyl : ys.length = n + 1 := by have := congrArg List.length hsk; simp only [List.length_map] at this; rw [this, hlen]
      have ho3 := hly.1
      obtain ⟨A4, c4, rfl⟩ := own_slice ho3
      rw [hyl] at hly ⊢
      refine ⟨A4, c4, ys, rfl, ⟨own_weaken hly.1 hb.size, hly.2⟩, by rw [hsk, List.map_append]; rfl, hyl, hb.trans (hb'.mono hb.size)⟩)
  have HA := Lib.hid ha
  have HX := Lib.hid hx
  have HR := Lib.hid hr
  clear hr ha hx
  go_enter Try.func5, Try.ntmps5
  unfold itVal
  go_upto_region 1 with fail
  generalize hW1 : w.alloc (.cells #[.int .i64 nd, .string nm, .slice Ax nx cx] 26) = W1
  obtain ⟨hb1, hk1⟩ := HB0.out _ hW1
  have HB1 := Lib.hid hb1
  have HS : Hid (∀ W, Below W1.heap.size W1 W → W.cell? ⟨w.heap.size, 0, none⟩ = some (.int .i64 nd) ∧ W.cell? ⟨w.heap.size, 1, none⟩ = some (.string nm) ∧ W.cell? ⟨w.heap.size, 2, none⟩ = some (.slice Ax nx cx)) := Lib.hid (fun W hb => by
    have hk := blk_below hk1 hb
    exact ⟨(blk_cell hk 0).trans rfl, (blk_cell hk 1).trans rfl, (blk_cell hk 2).trans rfl⟩)
  clear hb1 hk1 hW1 HB0
  go_region_held3 (fun W => W.cell? ⟨w.heap.size, 0, none⟩ = some (.int .i64 nd) ∧ W.cell? ⟨w.heap.size, 1, none⟩ = some (.string nm) ∧ W.cell? ⟨w.heap.size, 2, none⟩ = some (.slice Ax nx cx))
    (exact HS.out _ (by (repeat (first | refine below_alloc ?_ _ | refine below_drew ?_)); first | exact hbE | exact hbD | exact hbC | exact Below.refl _ _))
    (first
      | (with_reducible refine (HC.out W1 _ HB1.out ?_).mono ?_; ((repeat (first | refine below_alloc ?_ _ | refine below_drew ?_)); exact Below.refl _ _); rintro e w2 ⟨A1, c1, rfl, hoC, hbC, hbC'⟩)
      | (refine step_append_at (w0 := W1) W1.heap.size (by rfl) (.tmp 9) (.tmp 11) 23 26 (.agg #[.int .i64 0, .string ⟨#[]⟩, .slice none 0 0]) 3 48 (by rfl) Try.underlying23 infoIt rfl (by decide) (by decide) (.slice A1 n c1) n (flatIt xs) [.int .i64 nd, .string nm, .slice Ax nx cx] _ (by rfl) (by rfl) rfl (by intro u hu; simp only [List.mem_cons, List.mem_nil_iff, or_false] at hu; rcases hu with rfl | rfl | rfl <;> rfl)
          (by first | exact fun j u hu => World.news_of_block (cs := #[.int .i64 nd, .string nm, .slice Ax nx cx]) (t := 26) (fr := (0, 0)) (heap_alloc_new _ _) j u hu | exact fun j u hu => pw_cell_below hbC' (World.news_of_block (cs := #[.int .i64 nd, .string nm, .slice Ax nx cx]) (t := 26) (fr := (0, 0)) (heap_alloc_new _ _) j u hu))
          (by first | exact hoC | exact hoC.alloc _) (by first | exact hbC | exact below_alloc hbC _) (by first | exact hbC.size | exact (below_alloc hbC _).size) (by omega) ?_
         rintro v1 w3 hoD hbD - -
         obtain ⟨A2, c2, rfl⟩ := own_slice hoD)
      | (with_reducible refine (HW.out W1 _ A2 c2 HB1.out ?_ ?_).mono ?_; ((repeat (first | refine below_alloc ?_ _ | refine below_drew ?_)); exact hbD); exact hoD; rintro e w4 ⟨A3, c3, ys, rfl, hlE, hskE, hlenE, hbE⟩))
  all_goals
    have HLE := Lib.hid hlE
    have HSE := Lib.hid hskE
    have HNE := Lib.hid hlenE
    have HBE := Lib.hid hbE
    have hbw4 : Below w.heap.size w w4 := HB1.out.trans (hbE.mono HB1.out.size)
    have HB4 := Lib.hid hbw4
    have HCk : Hid (∀ W, Below w4.heap.size w4 W → Calls Try.prog 12 #[.slice A3 (n + 1) c3] W fun e w' => e = .returned (.int .i64 (chkS (xs.map sk ++ [(nd, nm, nx)]))) ∧ Below w4.heap.size w4 w') := Lib.hid (fun W hb => by
      obtain ⟨A9, c9, e9, hr9⟩ := HLE.out.1.reads
      injection e9 with e9
      subst e9
      rw [HNE.out] at hr9
      refine (check_any A3 (n + 1) c3 ys W (hr9.below hb)).mono ?_
      rintro e w' ⟨rfl, hb'⟩
      exact ⟨by rw [chkF_sk, HSE.out], hb.trans (hb'.mono hb.size)⟩)
    clear hlE hskE hlenE hbE hbw4 hoD hbD hoC hbC hbC' HC HW HS
    obtain ⟨z, hz⟩ : ∃ z, z = chkS (xs.map sk ++ [(nd, nm, nx)]) := ⟨_, rfl⟩
    rw [← hz] at HCk
    have HZ := Lib.hid hz
    clear hz
    go_wp2_with fail
    refine (HCk.out _ ?_).mono ?_
    · repeat (first | exact Below.refl _ _ | refine below_alloc ?_ _ | refine below_drew ?_)
    rintro e w5 ⟨rfl, hb5⟩
    by_cases h0 : z = 0
    · subst h0
      go_upto_region 5 with fail
      have HB5 := Lib.hid (HB4.out.trans (hb5.mono HB4.out.size))
      have hyl := HNE.out
      obtain ⟨g, cap, hv, -, -⟩ := World.ownsRow.form (show w4.ownsRow W1.heap.size 26 3 (.slice A3 (n + 1) c3) ys.length (flatIt ys) from HLE.out.1) (by omega)
      injection hv with hv1 hv2 hv3
      subst hv1
      clear hv2 hv3
      have hle : n + 1 ≤ c3 := by have := own_le (show w4.ownsRow W1.heap.size 26 3 (.slice (some ⟨g, 0, none⟩) (n + 1) c3) ys.length (flatIt ys) from HLE.out.1); omega
      obtain ⟨A9, c9, e9, hr9⟩ := HLE.out.1.reads
      injection e9 with e9 e10 e11
      subst e9
      clear e10 e11
      obtain ⟨ad, e, d0, d1, d2⟩ := (hr9.below hb5).cells n (by omega)
      injection e with e
      subst e
      rw [add_at, show (0 + n * 3) = n * 3 from Nat.zero_add _] at d0 d1 d2
      have HPU : Hid (∀ W, Below w5.heap.size w5 W → Calls Try.prog 13 #[.slice (some ⟨g, 0, none⟩) n c3, .agg #[.int .i64 (ys.getD n zIt).node, .string (ys.getD n zIt).name, .slice (ys.getD n zIt).A (ys.getD n zIt).n (ys.getD n zIt).c]] W fun e w' => ∃ A' c' zs S, e = .returned (.slice A' zs.length c') ∧ RIt w' A' zs.length zs ∧ (∀ y ∈ zs, RA w' y) ∧ GoodK (xs.map sk) (nd, nm, nx) S ∧ zs.map sk = pushK (xs.map sk) (nd, nm, nx) S ∧ Below w.heap.size w w') := Lib.hid (fun W hb => by
        have hL : (xs.map sk).length = n := by rw [List.length_map]; exact HL.out
        have hbw := hb5.trans (hb.mono hb5.size)
        refine (push_end (some ⟨g, 0, none⟩) n c3 W1.heap.size ys (xs.map sk) (nd, nm, nx) w4 W HLE.out HSE.out hL hn HBE.out.size hbw).mono ?_
        rintro e w' ⟨A', c', zs, S, rfl, q1, q2, q3, q4, q5⟩
        refine ⟨A', c', zs, S, rfl, q1, q2, q3, q4, (HB4.out.trans (hbw.mono HB4.out.size)).grown q5 (by have := HB4.out.size; have := hbw.size; omega) (fun k hk => ?_)⟩
        have := own_base HLE.out.1 k hk
        have := HB1.out.size
        omega)
      clear hr9 hb5 hyl
      generalize ys.getD n zIt = y at *
      have hnc : n ≤ c3 := by omega
      have hnmlt : n < n + 1 := Nat.lt_succ_self n
      generalize n + 1 = m at *
      have hc9 : c3 ≤ 9223372036854775807 := own_cap HLE.out.1
      go_region_with (with_reducible refine (HPU.out _ ?_).mono ?_; ((repeat (first | refine below_alloc ?_ _ | refine below_drew ?_)); exact Below.refl _ _); rintro e w6 ⟨A', c', zs, S, rfl, q1, q2, q3, q4, q5⟩)
      all_goals
        have HQ := Lib.hid (And.intro q1 (And.intro q2 (And.intro q3 (And.intro q4 q5))))
        clear q1 q2 q3 q4 q5
        go_wp2_with fail
        go_ret2
        exact ⟨HQ.out.2.2.2.2, .inr ⟨HZ.out.symm, A', c', zs, S, rfl, HQ.out.1, HQ.out.2.1, HQ.out.2.2.1, HQ.out.2.2.2.1⟩⟩
    · have HB5 := Lib.hid (HB4.out.trans (hb5.mono HB4.out.size))
      clear hb5
      go_wp2_with fail
      go_ret2
      refine ⟨HB5.out, .inl ⟨?_, ?_⟩⟩
      · intro e; exact h0 (HZ.out.trans e)
      · rw [HZ.out]; rfl
end Go.Proofs.Ytdheifnebkkjhaa.Act
