/- Package active: Pushed. -/
import Derived.Test.YtdheifnebkkjhaaAct7
import Derived.Test.YtdheifnebkkjhaaActD
import Derived.Deep.RegionHeld3
import Derived.Deep.RegionWith
import Derived.Deep.DeepCutAuto
import Derived.Deep.RegionLaw
import Derived.Shelf.RegionOpenPlain
namespace Go.Proofs.Ytdheifnebkkjhaa.Act
open Go.RowKit Go.Proofs.YtdheifnebkkjhaaW.PrintWords
set_option linter.unusedVariables false
set_option linter.unusedSimpArgs false

/-- The places of alike ones, among those from the last marker on, ahead of k. -/
def GoodS (xs : List It) (x : It) (k : Nat) (S : List Nat) : Prop :=
  (∀ s ∈ S, lastF xs ≤ s ∧ s < k) ∧ ((∀ y ∈ xs, y.n = 0) → x.n = 0 → S = (List.range' (lastF xs) (k - lastF xs)).filter fun i => (xs.getD i zIt).name.toList == x.name.toList)
def pushL (xs : List It) (x : It) (S : List Nat) : List It := if x.node ≠ -1 ∧ 3 ≤ S.length then xs.eraseIdx (S.headD 0) ++ [x] else xs ++ [x]
theorem flatIt_take : ∀ (l : List It) (i : Nat), (flatIt l).take (i * 3) = flatIt (l.take i)
  | [], i => by simp [flatIt]
  | x :: r, 0 => by simp [flatIt]
  | x :: r, i + 1 => by
    have := flatIt_take r i
    simp only [flatIt, List.flatMap_cons, List.take_succ_cons] at this ⊢
    rw [List.take_append, ← this, show (i + 1) * 3 - (itCells x).length = i * 3 from by simp [itCells]; omega, List.take_of_length_le (by simp [itCells]; omega)]
theorem flatIt_drop : ∀ (l : List It) (i : Nat), (flatIt l).drop (i * 3) = flatIt (l.drop i)
  | [], i => by simp [flatIt]
  | x :: r, 0 => by simp [flatIt]
  | x :: r, i + 1 => by
    have := flatIt_drop r i
    simp only [flatIt, List.flatMap_cons, List.drop_succ_cons] at this ⊢
    rw [List.drop_append, ← this, show (i + 1) * 3 - (itCells x).length = i * 3 from by simp [itCells]; omega, List.drop_of_length_le (by simp [itCells]; omega)]
    rfl
theorem flatIt_erase (l : List It) (i : Nat) : (flatIt l).take (i * 3) ++ (flatIt l).drop ((i + 1) * 3) = flatIt (l.eraseIdx i) := by
  rw [flatIt_take, flatIt_drop, ← flatIt_app, List.eraseIdx_eq_take_drop_succ]
theorem wr_nat1 (s : Nat) (h : s ≤ 1000000) : IntKind.i64.wrap ((s : Int) + 1) = (s : Int) + 1 := by rw [IntKind.wrap_i64]; omega
theorem lastF_le (xs : List It) : lastF xs ≤ xs.length := lastK_le xs _
theorem RA.lt {w : World} {x : It} (h : RA w x) : ∀ ad, x.A = some ad → 0 < x.n → ad.block < w.heap.size := by
  intro ad e h0
  obtain ⟨hn, ys, h1, h2, h3⟩ := h
  obtain ⟨ad', e', hc⟩ := h3 h0
  rw [e] at e'
  injection e' with e'
  subst e'
  obtain ⟨y, r, rfl⟩ : ∃ y r, ys = y :: r := by cases ys with | nil => simp at h1; omega | cons a b => exact ⟨a, b, rfl⟩
  obtain ⟨c, hs, hr, hcell⟩ := hc 0 y rfl
  have h := hcell 0 (.string y.1) (by rw [hr]; rfl)
  rcases Nat.lt_or_ge ad.block w.heap.size with h' | h'
  · exact h'
  · rw [World.cell?, add_blk, Array.getElem?_eq_none h'] at h
    cases h
/-- One item appended: the end of Pushed. -/
theorem pushTail {B : Nat} {w : World} {v0 : Value} {x : It} (hx : RA w x) (hf : Far v0 x) (hB : B ≤ w.heap.size) :
    ∀ (W w1 : World) (v v1 : Value) (ys : List It), LIt W B v ys → w.grownBy W v0.ownBlock → v.ownBlock = v0.ownBlock →
      w1.ownsRow B 26 3 v1 (ys.length + 1) (flatIt ys ++ itCells x) → W.grownBy w1 v.ownBlock → (v1.ownBlock = v.ownBlock ∨ ∃ b, v1.ownBlock = some b ∧ W.heap.size ≤ b) →
      LIt w1 B v1 (ys ++ [x]) ∧ w.grownBy w1 v0.ownBlock := by
  intro W w1 v v1 ys hl hg he ho hg1 hat
  have hg1' := hg1
  rw [he] at hg1'
  refine ⟨⟨?_, fun y hy => ?_⟩, World.grownBy.trans hg hg1'⟩
  · unfold OIt
    rw [List.length_append, flatIt_app]
    have e : flatIt [x] = itCells x := by simp [flatIt]
    rw [e]
    exact ho
  · have hone : ∀ z, RA W z → Far v z → RA w1 z ∧ Far v1 z := fun z ha hfz => by
      refine ⟨ha.grown hg1 hfz, fun ad e h0 => ?_⟩
      rcases hat with h | ⟨b, h, hb⟩
      · rw [h]; exact hfz ad e h0
      · rw [h]
        have := ha.lt ad e h0
        intro e2
        injection e2 with e2
        omega
    rcases List.mem_append.1 hy with hy | hy
    · exact hone y (hl.2 y hy).1 (hl.2 y hy).2
    · rw [List.mem_singleton] at hy
      subst hy
      refine hone y (hx.grown hg hf) ?_
      intro ad e h0
      rw [he]
      exact hf ad e h0
set_option maxRecDepth 100000 in
set_option maxHeartbeats 4000000 in
theorem pushed_any (A : Option Addr) (n c B : Nat) (xs : List It) (x : It) (w : World) (hl : LIt w B (.slice A n c) xs) (hx : RA w x) (hfx : Far (.slice A n c) x) (hn : n ≤ 100) (hB : B ≤ w.heap.size) :
    Calls Try.prog 13 #[.slice A n c, itVal x] w fun e w' => ∃ v' S, e = .returned v' ∧ GoodS xs x n S ∧ LIt w' B v' (pushL xs x S) ∧ w.grownBy w' (Value.slice A n c).ownBlock := by
  obtain ⟨nd, nm, Ax, nx, cx⟩ := x
  obtain ⟨A2, c2, e2, hr⟩ := hl.1.reads
  injection e2 with e2 e3 e4
  subst e2 e4
  have HN := Lib.hid e3
  rw [← e3] at hr
  have HR := Lib.hid hr
  have hnm : lastF xs ≤ n := by have := lastF_le xs; omega
  have HLa : Hid (∀ W, Below w.heap.size w W → Calls Try.prog 21 #[.slice A n c] W fun e w' => e = .returned (.int .i64 (lastF xs)) ∧ Below W.heap.size W w') := Lib.hid (fun W hb => last_any A n c xs W (hr.below hb))
  have HAl : Hid (∀ y W, y ∈ xs → Below w.heap.size w W → Calls Try.prog 22 #[itVal y, .agg #[.int .i64 nd, .string nm, .slice Ax nx cx]] W fun e w' => ∃ b : Bool, e = .returned (.bool b) ∧ AlikeB y ⟨nd, nm, Ax, nx, cx⟩ b ∧ Below W.heap.size W w') := Lib.hid (fun y W hy hb => alike_any y ⟨nd, nm, Ax, nx, cx⟩ W (((hl.2 y hy).1).below hb) (hx.below hb))
  have HM : Hid (∀ W, Calls Try.prog 20 #[.agg #[.int .i64 nd, .string nm, .slice Ax nx cx]] W fun e w' => e = .returned (.bool (nd == -1)) ∧ Below W.heap.size W w') := Lib.hid (fun W => marker_any ⟨nd, nm, Ax, nx, cx⟩ W)
  have HL := Lib.hid hl
  have HX := Lib.hid hx
  have HF := Lib.hid hfx
  clear hl hx hfx e3 hr
  go_enter Try.func13, Try.ntmps13
  unfold itVal
  go_wp2_with fail
  have HB0 : Hid (∀ W, w.alloc (.cells #[.int .i64 nd, .string nm, .slice Ax nx cx] 26) = W → Below w.heap.size w W ∧ W.heap[w.heap.size]? = some (.cells #[.int .i64 nd, .string nm, .slice Ax nx cx] 26 (0, 0))) := Lib.hid (fun W h => by subst h; exact ⟨(Below.refl _ w).alloc (Nat.le_refl _) _, blk_new _ _⟩)
  refine (HLa.out _ (HB0.out _ rfl).1).mono ?_
  rintro e w1 ⟨rfl, hb⟩
  obtain ⟨b0, k0⟩ := HB0.out _ rfl
  have HB1 := Lib.hid (b0.trans (hb.mono b0.size))
  have HK1 := Lib.hid (blk_below k0 hb)
  clear hb b0 k0 HB0
  go_wp2_with fail
  have HZ : Hid (GoodS xs ⟨nd, nm, Ax, nx, cx⟩ (lastF xs) [] ∧ w1.ownsRow w.heap.size 3 1 (.slice none 0 0) 0 (nums .i64 [])) := Lib.hid ⟨⟨fun s h => by simp at h, fun _ _ => by simp⟩, own_nil _ _ _ _⟩
  go_loopw [5, 6] (fun s i wr => ∃ (k : Nat) (S : List Nat) (As : Option Addr) (cs : Nat), lastF xs ≤ k ∧ k ≤ n ∧ i = .int .i64 k ∧ s = .slice As S.length cs ∧ Hid (Below w.heap.size w wr) ∧ Hid (wr.heap[w.heap.size]? = some (.cells #[.int .i64 nd, .string nm, .slice Ax nx cx] 26 (0, 0)))
      ∧ Hid (wr.ownsRow w.heap.size 3 1 (.slice As S.length cs) S.length (nums .i64 (S.map (fun m : Nat => (m : Int))))) ∧ Hid (GoodS xs ⟨nd, nm, Ax, nx, cx⟩ k S) ∧ Hid (S.length ≤ k))
    (fun _ i _ => n - (intOf i).toNat)
  case atStart => exact ⟨lastF xs, [], none, 0, Nat.le_refl _, hnm, rfl, rfl, HB1, HK1, Lib.hid HZ.out.2, Lib.hid HZ.out.1, Lib.hid (Nat.zero_le _)⟩
  case round =>
    obtain ⟨k, S, As, cs, hk0, hk, rfl, rfl, HB, HK, HS, HG, HSl⟩ := hrel
    clear HZ HB1 HK1
    by_cases hlt : k < n
    · obtain ⟨ad, rfl, c0, c1, c2⟩ := (HR.out.below HB.out).cells k hlt
      have k0 : wr.cell? ⟨w.heap.size, 0, none⟩ = some (.int .i64 nd) := (blk_cell HK.out 0).trans rfl
      have k1 : wr.cell? ⟨w.heap.size, 1, none⟩ = some (.string nm) := (blk_cell HK.out 1).trans rfl
      have k2 : wr.cell? ⟨w.heap.size, 2, none⟩ = some (.slice Ax nx cx) := (blk_cell HK.out 2).trans rfl
      have hmem : xs.getD k zIt ∈ xs := by rw [getD_of (by rw [← HN.out]; exact hlt)]; exact List.getElem_mem _
      have HC : Hid (∀ W, Below wr.heap.size wr W → Calls Try.prog 22 #[.agg #[.int .i64 (xs.getD k zIt).node, .string (xs.getD k zIt).name, .slice (xs.getD k zIt).A (xs.getD k zIt).n (xs.getD k zIt).c], .agg #[.int .i64 nd, .string nm, .slice Ax nx cx]] W fun e w' => ∃ b : Bool, e = .returned (.bool b) ∧ AlikeB (xs.getD k zIt) ⟨nd, nm, Ax, nx, cx⟩ b ∧ Below wr.heap.size wr w') := Lib.hid (fun W hb => (HAl.out _ W hmem (HB.out.trans (hb.mono HB.out.size))).mono (fun e w' h => h.elim fun b h => ⟨b, h.1, h.2.1, hb.trans (h.2.2.mono hb.size)⟩))
      have HG1 : Hid (∀ b : Bool, AlikeB (xs.getD k zIt) ⟨nd, nm, Ax, nx, cx⟩ b → GoodS xs ⟨nd, nm, Ax, nx, cx⟩ (k + 1) (if b then S ++ [k] else S)) := Lib.hid (fun b hb => by
        obtain ⟨g1, g2⟩ := HG.out
        refine ⟨fun s hs => ?_, fun h1 h2 => ?_⟩
        · cases b
          · have := g1 s (by simpa using hs); omega
          · simp only [if_true, List.mem_append, List.mem_singleton] at hs
            rcases hs with hs | rfl
            · have := g1 s hs; omega
            · omega
        · have e := hb.2 (h1 _ hmem) h2
          rw [show k + 1 - lastF xs = (k - lastF xs) + 1 from by omega, List.range'_concat, List.filter_append, ← g2 h1 h2]
          rw [show lastF xs + 1 * (k - lastF xs) = k from by omega]
          simp only [List.filter_cons, List.filter_nil]
          rw [e]
          cases ((xs.getD k zIt).name.toList == nm.toList) <;> simp)
      clear hmem
      generalize xs.getD k zIt = y at *
      go_upto_region 5 with fail
      go_region_with (with_reducible refine (HC.out _ ?_).mono ?_; ((repeat (first | refine below_alloc ?_ _ | refine below_drew ?_)); exact Below.refl _ _); rintro e w2 ⟨b, rfl, hal, hb⟩)
      all_goals
        have HB2 := Lib.hid (HB.out.trans (hb.mono HB.out.size))
        have HK2 := Lib.hid (blk_below HK.out hb)
        have HS2 := Lib.hid (pw_own_below HS.out hb)
        have HG2 := Lib.hid (HG1.out b hal)
        clear hb hal c0 c1 c2 k0 k1 k2 HC HG1
        cases b
        · go_wp2_with fail
          go_roundw
          case rel => exact ⟨k + 1, S, As, cs, by omega, by omega, by go_num, rfl, HB2, HK2, HS2, HG2, Lib.hid (Nat.le_succ_of_le HSl.out)⟩
          case measure => simp [intOf]; omega
        · have hS100 : S.length ≤ 100 := by have := HSl.out; omega
          go_wp2_with (at_builtin; refine print_append_num (w0 := w) w.heap.size rfl _ _ 34 3 .i64 8 rfl Try.underlying34 (by kernel_rfl) (by decide) _ (S.map (fun m : Nat => (m : Int))) (k : Int) rfl rfl (by rw [List.length_map]; exact HS2.out) HB2.out HB2.out.size (by rw [List.length_map]; omega) ?c1)
          case c1 =>
            intro v3 w3 hown hb3 hg3 hat3
            have HK3 := Lib.hid (blk_grown HK2.out hg3 (own_ne HS2.out HK2.out (by decide)))
            have hl3 : S.length + 1 = (S ++ [k]).length := by simp
            have hm3 : List.map (fun m : Nat => (m : Int)) S ++ [(k : Int)] = (S ++ [k]).map (fun m : Nat => (m : Int)) := by simp
            rw [hl3, hm3] at hown
            obtain ⟨A3, c3, rfl⟩ := own_slice hown
            have HS3 := Lib.hid hown
            have HB3 := Lib.hid hb3
            have HL3 : Hid ((S ++ [k]).length ≤ k + 1) := Lib.hid (by rw [List.length_append]; exact Nat.succ_le_succ HSl.out)
            have HG3 : Hid (GoodS xs ⟨nd, nm, Ax, nx, cx⟩ (k + 1) (S ++ [k])) := Lib.hid (by simpa using HG2.out)
            clear hown hb3 hg3 hat3 hl3 hm3 HB2 HK2 HS2 HG2
            generalize S ++ [k] = S3 at *
            go_wp2_with fail
            go_roundw
            case rel => exact ⟨k + 1, S3, A3, c3, by omega, by omega, by go_num, rfl, HB3, HK3, HS3, HG3, HL3⟩
            case measure => simp [intOf]; omega
    · have hkn : k = n := by omega
      subst hkn
      clear HAl HLa HR hk0 hk hlt
      have HML : Hid (∀ W, Below wr.heap.size wr W → LIt W B (.slice A k c) xs ∧ w.grownBy W (Value.slice A k c).ownBlock ∧ W.heap[w.heap.size]? = some (.cells #[.int .i64 nd, .string nm, .slice Ax nx cx] 26 (0, 0))) := Lib.hid (fun W hb => ⟨HL.out.below (HB.out.trans (hb.mono HB.out.size)), grown_of_below (HB.out.trans (hb.mono HB.out.size)) _, blk_below HK.out hb⟩)
      have HMB : Hid (∀ W, Below wr.heap.size wr W → Calls Try.prog 20 #[.agg #[.int .i64 nd, .string nm, .slice Ax nx cx]] W fun e w' => e = .returned (.bool (nd == -1)) ∧ Below wr.heap.size wr w') := Lib.hid (fun W hb => (HM.out W).mono (fun e w' h => ⟨h.1, hb.trans (h.2.mono hb.size)⟩))
      have k0 : wr.cell? ⟨w.heap.size, 0, none⟩ = some (.int .i64 nd) := (blk_cell HK.out 0).trans rfl
      have k1 : wr.cell? ⟨w.heap.size, 1, none⟩ = some (.string nm) := (blk_cell HK.out 1).trans rfl
      have k2 : wr.cell? ⟨w.heap.size, 2, none⟩ = some (.slice Ax nx cx) := (blk_cell HK.out 2).trans rfl
      obtain ⟨bm, hbm⟩ : ∃ bm, bm = (nd == -1) := ⟨_, rfl⟩
      rw [← hbm] at HMB
      have HBm := Lib.hid hbm
      clear hbm
      go_upto_region 7 with fail
      go_cut [32] (fun s0 wx => s0 = .bool (!bm && decide (3 ≤ S.length)) ∧ Hid (Below wr.heap.size wr wx))
      case first =>
        cases bm
        · go_wp2_with (refine (HMB.out _ ?_).mono ?_; ((repeat (first | refine below_alloc ?_ _ | refine below_drew ?_)); exact Below.refl _ _); rintro e w2 ⟨rfl, hb⟩)
          go_meet
          exact ⟨by simp; omega, Lib.hid hb⟩
        · go_wp2_with (refine (HMB.out _ ?_).mono ?_; ((repeat (first | refine below_alloc ?_ _ | refine below_drew ?_)); exact Below.refl _ _); rintro e w2 ⟨rfl, hb⟩)
          go_meet
          exact ⟨by simp, Lib.hid hb⟩
      case rest =>
        obtain ⟨rfl, HBx⟩ := hcut
        obtain ⟨h1, h2, h3⟩ := HML.out _ HBx.out
        clear k0 k1 k2 HMB
        by_cases hS : bm = false ∧ 3 ≤ S.length
        · rw [show (!bm && decide (3 ≤ S.length)) = true from by rw [hS.1, decide_eq_true hS.2]; rfl]
          have hS0 := hS
          have hS := hS0.2
          obtain ⟨gs, cap, hv, -, -⟩ := World.ownsRow.form HS.out (by omega)
          injection hv with hv1 hv2 hv3
          subst hv1
          clear hv2 hv3
          obtain ⟨s0, S', rfl⟩ : ∃ s0 S', S = s0 :: S' := by cases S with | nil => simp at hS | cons a b => exact ⟨a, b, rfl⟩
          have hs0 := (HG.out.1 s0 (by simp)).2
          have hcs := own_at HS.out 0 (by omega) (by simp)
          obtain ⟨g, cap2, hv, -, -⟩ := World.ownsRow.form HL.out.1 (by have := HN.out; omega)
          injection hv with hv1 hv2 hv3
          subst hv1
          clear hv2 hv3
          have HD : Hid (∀ W, Below wr.heap.size wr W → Calls Try.prog 23 #[.slice (some ⟨g, 0, none⟩) k c, .int .i64 s0, .int .i64 ((s0 : Int) + 1)] W fun e w' => e = .returned (.slice (some ⟨g, 0, none⟩) (k - 1) c) ∧ LIt w' B (.slice (some ⟨g, 0, none⟩) (k - 1) c) (xs.eraseIdx s0) ∧ w.grownBy w' (some g) ∧ w'.heap[w.heap.size]? = some (.cells #[.int .i64 nd, .string nm, .slice Ax nx cx] 26 (0, 0)) ∧ W.grownBy w' (some g)) :=
            Lib.hid (fun W hb => by
              obtain ⟨h1, h2, h3⟩ := HML.out W hb
              have hgl : g < w.heap.size := own_lt HL.out.1 g rfl
              have ho := h1.1
              unfold OIt at ho
              rw [← HN.out] at ho
              refine (delIt.del B g k c s0 (flatIt xs) W ho hs0 (flatIt_one xs) (by omega)).mono ?_
              rintro e w' ⟨rfl, hd, hg⟩
              have hlen : (xs.eraseIdx s0).length = k - 1 := by rw [List.length_eraseIdx, if_pos (by rw [← HN.out]; exact hs0), ← HN.out]
              refine ⟨rfl, ⟨?_, fun y hy => ?_⟩, World.grownBy.trans h2 hg, blk_grown h3 hg (by intro e; injection e with e; omega), hg⟩
              · unfold OIt
                rw [hlen, ← flatIt_erase]
                exact hd
              · have hm := List.mem_of_mem_eraseIdx hy
                obtain ⟨ha, hf⟩ := h1.2 y hm
                exact ⟨ha.grown hg hf, hf⟩)
          have hc0 : wc.cell? ⟨gs, 0, none⟩ = some (.int .i64 (s0 : Int)) := by have := pw_cell_below HBx.out hcs.1; simpa [rd] using this
          have HS0 : Hid (∀ W : World, Below wc.heap.size wc W → W.cell? ⟨gs, 0, none⟩ = some (.int .i64 (s0 : Int))) := Lib.hid (fun W hb => pw_cell_below hb hc0)
          have hgsl : gs < wr.heap.size := own_lt HS.out gs rfl
          have hggs : g ≠ gs := by
            have h1 := own_base HS.out gs rfl
            have h2 := own_lt HL.out.1 g rfl
            omega
          have HD2 : Hid (∀ W, Below wc.heap.size wc W → Calls Try.prog 23 #[.slice (some ⟨g, 0, none⟩) k c, .int .i64 s0, .int .i64 ((s0 : Int) + 1)] W fun e w' => e = .returned (.slice (some ⟨g, 0, none⟩) (k - 1) c) ∧ w'.cell? ⟨gs, 0, none⟩ = some (.int .i64 (s0 : Int)) ∧ Hid (LIt w' B (.slice (some ⟨g, 0, none⟩) (k - 1) c) (xs.eraseIdx s0) ∧ w.grownBy w' (some g) ∧ w'.heap[w.heap.size]? = some (.cells #[.int .i64 nd, .string nm, .slice Ax nx cx] 26 (0, 0)))) := Lib.hid (fun W hb => by
            refine (HD.out W (HBx.out.trans (hb.mono HBx.out.size))).mono ?_
            rintro e w' ⟨h1, h2, h3, h4, h5⟩
            refine ⟨h1, ?_, Lib.hid ⟨h2, h3, h4⟩⟩
            have hbk : w'.heap[gs]? = W.heap[gs]? := h5.block gs (by have := HBx.out.size; have := hb.size; omega) (by intro e; injection e with e; exact hggs e.symm)
            exact (World.cell?_of_block (a := ⟨gs, 0, none⟩) hbk).trans (HS0.out W hb))
          have hm0 : (0 : Int) < ((s0 :: S').length : Int) := by simp only [List.length_cons]; omega
          have HPe : Hid (pushL xs ⟨nd, nm, Ax, nx, cx⟩ (s0 :: S') = xs.eraseIdx s0 ++ [⟨nd, nm, Ax, nx, cx⟩]) := Lib.hid (by
            have hb := HBm.out
            unfold pushL
            rw [if_pos ⟨fun e => by rw [hS0.1] at hb; simp only at e; rw [e] at hb; exact absurd hb (by decide), hS0.2⟩]
            rfl)
          have HLe : Hid ((xs.eraseIdx s0).length = k - 1) := Lib.hid (by rw [List.length_eraseIdx, if_pos (by rw [← HN.out]; exact hs0), ← HN.out])
          have hk1 : k - 1 ≤ 100 := by omega
          have HGr : Hid (GoodS xs ⟨nd, nm, Ax, nx, cx⟩ k (s0 :: S')) := HG
          have HTL := Lib.hid (pushTail (B := B) (w := w) (v0 := .slice (some ⟨g, 0, none⟩) k c) (x := ⟨nd, nm, Ax, nx, cx⟩) HX.out HF.out hB)
          have hmN : 0 < (s0 :: S').length := by simp only [List.length_cons]; omega
          generalize (s0 :: S').length = m at hm0 hmN ⊢
          generalize k - 1 = k1 at *
          have hwr := wr_nat1 s0 (by omega)
          clear hS hS0 h1 h2 h3 HD hcs hgsl hggs hs0
          go_upto_region 8 with fail
          go_region_held3 (fun w' => w'.cell? ⟨gs, 0, none⟩ = some (.int .i64 (s0 : Int))) (first | exact hs2 | exact HS0.out _ (by (repeat (first | refine below_alloc ?_ _ | refine below_drew ?_)); exact Below.refl _ _))
            (with_reducible refine (HD2.out _ ?_).mono ?_; ((repeat (first | refine below_alloc ?_ _ | refine below_drew ?_)); exact Below.refl _ _); rintro e w2 ⟨rfl, hs2, hF2⟩)
          clear hwr hm0
          have k0 : w2.cell? ⟨w.heap.size, 0, none⟩ = some (.int .i64 nd) := (blk_cell hF2.out.2.2 0).trans rfl
          have k1' : w2.cell? ⟨w.heap.size, 1, none⟩ = some (.string nm) := (blk_cell hF2.out.2.2 1).trans rfl
          have k2 : w2.cell? ⟨w.heap.size, 2, none⟩ = some (.slice Ax nx cx) := (blk_cell hF2.out.2.2 2).trans rfl
          have HOx : Hid (w2.ownsRow B 26 3 (.slice (some ⟨g, 0, none⟩) k1 c) k1 (flatIt (xs.eraseIdx s0))) := Lib.hid (by have := hF2.out.1.1; unfold OIt at this; rw [HLe.out] at this; exact this)
          have hBw : B ≤ w2.heap.size := Nat.le_trans hB hF2.out.2.1.size
          go_wp2_with (at_builtin; go_loud (refine print_append_cells (w0 := w2) (W := w2) B rfl _ _ 23 26 (.agg #[.int .i64 0, .string ⟨#[]⟩, .slice none 0 0]) 3 48 rfl Try.underlying23 infoIt rfl (by decide) (by decide) (.slice (some ⟨g, 0, none⟩) k1 c) k1 (flatIt (xs.eraseIdx s0)) [.int .i64 nd, .string nm, .slice Ax nx cx] rfl rfl rfl (by intro u hu; simp only [List.mem_cons, List.mem_nil_iff, or_false] at hu; rcases hu with rfl | rfl | rfl <;> rfl) HOx.out (Below.refl _ _) hBw (by omega) ?c1))
          case c1 =>
            intro v1 w3 hown hb3 hg3 hat3
            have HR1 := Lib.hid (HTL.out w2 w3 _ v1 _ hF2.out.1 hF2.out.2.1 rfl (by rw [HLe.out]; exact hown) hg3 hat3)
            clear hown hb3 hg3 hat3
            go_wp2_with fail
            go_ret
            exact ⟨_, _, rfl, HGr.out, by rw [HPe.out]; exact HR1.out.1, HR1.out.2⟩
        · have HPe : Hid (pushL xs ⟨nd, nm, Ax, nx, cx⟩ S = xs ++ [⟨nd, nm, Ax, nx, cx⟩]) := Lib.hid (by
            have hb := HBm.out
            unfold pushL
            rw [if_neg]
            rintro ⟨h1, h2⟩
            refine hS ⟨?_, h2⟩
            rw [hb]
            simpa using h1)
          rw [show (!bm && decide (3 ≤ S.length)) = false from by
            cases bm
            · simp only [Bool.not_false, Bool.true_and, decide_eq_false_iff_not]; exact fun h => hS ⟨rfl, h⟩
            · rfl]
          have HTL := Lib.hid (pushTail (B := B) (w := w) (v0 := .slice A k c) (x := ⟨nd, nm, Ax, nx, cx⟩) HX.out HF.out hB)
          have k0 : wc.cell? ⟨w.heap.size, 0, none⟩ = some (.int .i64 nd) := (blk_cell h3 0).trans rfl
          have k1' : wc.cell? ⟨w.heap.size, 1, none⟩ = some (.string nm) := (blk_cell h3 1).trans rfl
          have k2 : wc.cell? ⟨w.heap.size, 2, none⟩ = some (.slice Ax nx cx) := (blk_cell h3 2).trans rfl
          have HOx : Hid (wc.ownsRow B 26 3 (.slice A k c) k (flatIt xs)) := Lib.hid (by have := h1.1; unfold OIt at this; rw [← HN.out] at this; exact this)
          have hBw : B ≤ wc.heap.size := Nat.le_trans hB h2.size
          have H1 := Lib.hid h1
          have H2 := Lib.hid h2
          clear h1 h2 h3 hS
          go_wp2_with (at_builtin; go_loud (refine print_append_cells (w0 := wc) (W := wc) B rfl _ _ 23 26 (.agg #[.int .i64 0, .string ⟨#[]⟩, .slice none 0 0]) 3 48 rfl Try.underlying23 infoIt rfl (by decide) (by decide) (.slice A k c) k (flatIt xs) [.int .i64 nd, .string nm, .slice Ax nx cx] rfl rfl rfl (by intro u hu; simp only [List.mem_cons, List.mem_nil_iff, or_false] at hu; rcases hu with rfl | rfl | rfl <;> rfl) HOx.out (Below.refl _ _) hBw (by omega) ?c1))
          case c1 =>
            intro v1 w3 hown hb3 hg3 hat3
            have HR1 := Lib.hid (HTL.out wc w3 _ v1 _ H1.out H2.out rfl (by rw [← HN.out]; exact hown) hg3 hat3)
            clear hown hb3 hg3 hat3
            go_wp2_with fail
            go_ret
            exact ⟨_, S, rfl, HG.out, by rw [HPe.out]; exact HR1.out.1, HR1.out.2⟩
end Go.Proofs.Ytdheifnebkkjhaa.Act
