-- printed by wip/tools/pr.py (own) through the kit's printer; texts GIVEN by hand stand among them
import Derived.Test.YtaojbobbjnibhaaDoorPDOx0
import Derived.Test.YtaojbobbjnibhaaDoorPDOx1
import Derived.Test.YtaojbobbjnibhaaDoorPDOx3
import Derived.Test.YtaojbobbjnibhaaDoorPDOx5
import Derived.Test.YtaojbobbjnibhaaDoorPDOx6
namespace Go.Proofs.YtaojbobbjnibhaaDoor.PDO
open Go.RowKit Go.Proofs.YtaojbobbjnibhaaDoorW.PrintWords Go.Proofs.YtaojbobbjnibhaaDoorW.PrintLast Go.Proofs.YtaojbobbjnibhaaDoorW.PrintMore
attribute [local go_sem] max2_int min2_int max_two min_two max_three min_three max_four min_four   -- for this text's walks alone
set_option linter.unusedVariables false
set_option linter.unusedSimpArgs false

/-! ### dom_editor_below: function 106 -/
/-- Upwards from n: is it t, or does it lie below it? -/
def belowF (l : List S35) : Nat → Int → Int → Option Bool
  | 0, _, _ => none
  | k + 1, n, t => if 0 ≤ n then (if n = t then some true else (if n < (l.length : Int) then belowF l k (rd_T35 l n).f4 t else none)) else some (n == t)
set_option maxRecDepth 100000 in
set_option maxHeartbeats 2000000 in
theorem below_calls (k : Nat) (b c : Nat) (A : Option Addr) (l : List S35) (n t : Int) (r : Bool) (w : World) (hc : w.cell? ⟨b, 0, none⟩ = some (.slice A l.length c)) (hr : Kd.C k35 w A l.length l) (h : belowF l k n t = some r) :
    Calls Tryd.prog 106 #[.pointer (some ⟨b, 0, none⟩), .int .i64 n, .int .i64 t] w fun e w' => e = .returned (.bool r) ∧ w = w' := by
  obtain ⟨m, hm⟩ : ∃ m, m = l.length := ⟨_, rfl⟩
  rw [← hm] at hc hr
  have HR := Lib.hid hr
  have HM := Lib.hid hm
  have H' := Lib.hid h
  clear h hr hm
  go_enter Tryd.func106, Tryd.ntmps106
  go_wp2_with fail
  go_loopg [1] k (fun kq v1 w' => ∃ x1 : Int, v1 = .int .i64 x1 ∧ Hid (belowF l kq x1 t = some r) ∧ w = w')
  case atStart => exact ⟨n, rfl, H', rfl⟩
  case round =>
    obtain ⟨x1, rfl, HA, rfl⟩ := hrel
    clear H'
    cases gk with
    | zero => exact absurd HA.out (by simp [belowF])
    | succ k1 =>
      have H := HA.out
      clear HA
      simp only [belowF] at H
      by_cases c0 : 0 ≤ x1
      · rw [if_pos c0] at H
        by_cases c1 : x1 = t
        · subst c1
          rw [if_pos rfl] at H
          obtain rfl := Option.some.inj H
          clear H
          go_wp2_with fail
          go_ret
          exact ⟨rfl, rfl⟩
        · rw [if_neg c1] at H
          have c1b : (x1 != t) = true := by simpa using c1
          have c1c : (x1 == t) = false := by simpa using c1
          by_cases c2 : x1 < (l.length : Int)
          · rw [if_pos c2] at H
            obtain ⟨ad, A2, c2', A5, c5, rfl, d0, d1, d2, d3, d4, d5, _⟩ := at_T35 HR.out x1 c0 (by have := HM.out; omega)
            have q : x1 < (m : Int) := by have := HM.out; omega
            have HH := Lib.hid H
            clear H c1 c2 d0 d1 d2 d3 d5
            go_wp2_with fail
            go_roundg k1
            case measure => omega
            case rel => exact ⟨_, rfl, HH, rfl⟩
          · rw [if_neg c2] at H
            exact absurd H (by simp)
      · rw [if_neg c0] at H
        obtain rfl := Option.some.inj H
        clear H
        have c0b : x1 < 0 := by omega
        go_wp2_with fail
        go_ret
        exact ⟨rfl, rfl⟩

/-! ### dom_editor_deep: function 107 -/
/-- How far it goes below these. -/
def deepGo (f : Int → Option Int) : List Int → Int → Option Int
  | [], m => some m
  | x :: xs, m => (f x).bind fun d => deepGo f xs (mx m (wrap64 (d + 1)))
def deepF (l : List S35) : Nat → Int → Option Int
  | 0, _ => none
  | k + 1, n => if 0 ≤ n then (if n < (l.length : Int) then deepGo (deepF l k) (rd_T35 l n).f5 0 else none) else none
set_option maxRecDepth 100000 in
set_option maxHeartbeats 2000000 in
theorem deep_calls (b c : Nat) (A : Option Addr) (l : List S35) (w : World) (hc : w.cell? ⟨b, 0, none⟩ = some (.slice A l.length c)) (hr : Kd.C k35 w A l.length l) : ∀ (k : Nat) (n r : Int), deepF l k n = some r →
    Calls Tryd.prog 107 #[.pointer (some ⟨b, 0, none⟩), .int .i64 n] w fun e w' => e = .returned (.int .i64 r) ∧ w = w' := by
  intro k
  induction k with
  | zero => intro n r h; exact absurd h (by simp [deepF])
  | succ k ih =>
    intro n r h
    simp only [deepF] at h
    by_cases c0 : 0 ≤ n
    · rw [if_pos c0] at h
      by_cases c1 : n < (l.length : Int)
      · rw [if_pos c1] at h
        obtain ⟨m, hm⟩ : ∃ m, m = l.length := ⟨_, rfl⟩
        have hcm := hc
        rw [← hm] at hcm c1
        obtain ⟨ad, A2, c2', A5, c5, rfl, -, -, -, -, -, d5, -, -, -, hk5⟩ := at_T35 hr n c0 (by omega)
        obtain ⟨ks, hks⟩ : ∃ ks, ks = (rd_T35 l n).f5 := ⟨_, rfl⟩
        rw [← hks] at h d5 hk5
        obtain ⟨nk, hnk⟩ : ∃ nk, nk = ks.length := ⟨_, rfl⟩
        rw [← hnk] at d5 hk5
        have hmax : nk ≤ 9223372036854775807 := hk5.2.1
        have HK := Lib.hid hk5
        have HN := Lib.hid hnk
        have HI := Lib.hid ih
        have H' := Lib.hid h
        clear ih h hks hnk hk5 hr hc hm
        go_enter Tryd.func107, Tryd.ntmps107
        go_wp2_with fail
        go_loopw [4, 17] (fun v4 v17 wr => ∃ (t : Nat) (x : Int), t ≤ nk ∧ v17 = .int .i64 t ∧ v4 = .int .i64 x ∧ Hid (deepGo (deepF l k) (ks.drop t) x = some r) ∧ w = wr) (fun _ i _ => nk - (intOf i).toNat)
        case atStart => exact ⟨0, 0, Nat.zero_le _, rfl, rfl, H', rfl⟩
        case round =>
          obtain ⟨t, x, ht, rfl, rfl, HA, rfl⟩ := hrel
          clear H'
          have H := HA.out
          clear HA
          by_cases hlt : t < nk
          · have hl : t < ks.length := by have := HN.out; omega
            obtain ⟨ad5, rfl, y0⟩ := Kd.at_int HK.out (t : Int) (by omega) (by omega)
            have hrd : rd ks (t : Int) = ks[t] := by unfold rd; rw [Int.toNat_natCast, List.getD_eq_getElem?_getD, List.getElem?_eq_getElem hl]; rfl
            rw [hrd] at y0
            rw [Int.toNat_natCast] at y0
            rw [List.drop_eq_getElem_cons hl] at H
            simp only [deepGo] at H
            obtain ⟨d, hd, H2⟩ := Option.bind_eq_some_iff.1 H
            clear H
            generalize ks[t] = kk at *
            have HC := Lib.hid (HI.out kk d hd)
            have HH : Hid (deepGo (deepF l k) (ks.drop (t + 1)) (if x < wrap64 (d + 1) then wrap64 (d + 1) else x) = some r) := Lib.hid H2
            clear H2 hd hrd hl
            go_wp2_with fail
            refine HC.out.mono ?_
            rintro e w' ⟨rfl, rfl⟩
            go_wp2_with fail
            go_roundw
            case rel => exact ⟨t + 1, _, by omega, by simp, rfl, HH, by first | rfl | trivial⟩
            case measure => simp [intOf]; omega
          · have e : t = nk := by omega
            subst e
            rw [HN.out, List.drop_length] at H
            simp only [deepGo] at H
            obtain rfl := Option.some.inj H
            clear H
            go_wp2_with fail
            go_ret
            exact ⟨rfl, rfl⟩
      · rw [if_neg c1] at h
        exact absurd h (by simp)
    · rw [if_neg c0] at h
      exact absurd h (by simp)

/-! ### dom_editor_insert: function 87 -/
/-- A node's row of kids is written anew. -/
theorem ed_kids {B gr n c i : Nat} {wx : World} {l : List S35} {xi : S35} {v5 : Value} (hS : Kd.S k35 35 wx B (fun _ => True) (.slice (some ⟨gr, 0, none⟩) n c) l) (hi : i < n) (hxi : l[i]? = some xi) (hv5 : wx.cell? ⟨gr, i * 6 + 5, none⟩ = some v5) :
    wx.ownsRow B 3 1 v5 xi.f5.length (nums .i64 xi.f5) ∧ ∀ (W W4 : World) (v' : Value) (ks : List Int), Below wx.heap.size wx W → W.grownBy W4 v5.ownBlock → W4.ownsRow B 3 1 v' ks.length (nums .i64 ks) → (v'.ownBlock = v5.ownBlock ∨ v'.ownBlock = some W.heap.size) → v'.oneCell' = true →
      Kd.S k35 35 (W4.setCell ⟨gr, i * 6 + 5, none⟩ v') B (fun _ => True) (.slice (some ⟨gr, 0, none⟩) n c) (l.set i ⟨xi.f0, xi.f1, xi.f2, xi.f3, xi.f4, ks⟩) := by
  have hS2 : Kd.S k35 35 wx B (fun j => True ∧ ¬ wx.heap.size ≤ j) (.slice (some ⟨gr, 0, none⟩) n c) l := Kd.S_mono (Kd.S_bound hS) (fun j hj => ⟨trivial, by have := hj.2.2.1; omega⟩)
  obtain ⟨oki, cc, hcl, hM, hcc, hfr, hoki, hH⟩ := Kd.S_elem hS2 z35 (i : Int) (by omega) (by omega)
  rw [show l.getD (i : Int).toNat z35 = xi from by rw [Int.toNat_natCast, List.getD_eq_getElem?_getD, hxi]; rfl] at hM
  obtain ⟨v2, v5', hcs, hR2, hR5⟩ := k35_openM hM
  subst hcs
  have e5 : wx.cell? ⟨gr, i * 6 + 5, none⟩ = some v5' := hcc 5 _ rfl
  obtain rfl : v5' = v5 := by rw [e5] at hv5; exact Option.some.inj hv5
  have hgt := Kd.S_typed hS gr (by simp [Value.ownBlock])
  refine ⟨Kd.own_of_R hR5, fun W W4 v' ks hb hg ho hat hone => ?_⟩
  have hgr4 : gr < wx.heap.size := blk_lt hgt.choose_spec
  have hok5 : ∀ k, v5'.ownBlock = some k → oki k ∧ k < wx.heap.size ∧ k ≠ gr := fun k hk => ⟨hR5.1 k hk, own_lt (Kd.own_of_R hR5) k hk, (hoki k (hR5.1 k hk)).2⟩
  have hH4 := Kd.H_grown (Kd.H_below (Kd.H_more hH (fun j hj => trivial)) hb) hg (fun k hk => .inl (hok5 k hk).1)
  have h2 := (Kd.H_seg hH4 (by omega) (by omega) (seg := [v']) (j := 5) (by show 5 + 1 ≤ 6; decide) (by simpa using hone)).1
  have h3 : Kd.H k35 35 (W4.setCell ⟨gr, i * 6 + 5, none⟩ v') B (fun _ => True) (.slice (some ⟨gr, 0, none⟩) n c) l (i : Int) (fun j => oki j ∨ wx.heap.size ≤ j) [.int .i64 xi.f0, .string xi.f1, v2, .string xi.f3, .int .i64 xi.f4, v'] := h2
  have hR2t := Kd.R_tight rfl hR2
  have hne2 : ∀ k, some k = v2.ownBlock → some k ≠ v5'.ownBlock ∧ k ≠ gr ∧ oki k := fun k hk => by
    obtain ⟨cs2, ht2⟩ := Kd.R_typed hR2 k hk.symm
    refine ⟨fun he => ?_, (hoki k (hR2.1 k hk.symm)).2, hR2.1 k hk.symm⟩
    obtain ⟨cs5, ht5⟩ := Kd.R_typed hR5 k he.symm
    exact blk_ne ht2 ht5 (by decide) rfl
  have hR2' := Kd.R_far (Kd.R_step (Kd.R_below hR2t hb) (fun k hk hlt => hg.block k hlt (hne2 k hk).1)) (p := ⟨gr, i * 6 + 5, none⟩) (fun k hk => (hne2 k hk).2.1) v'
  have hv' : ∀ k, v'.ownBlock = some k → (oki k ∨ wx.heap.size ≤ k) ∧ k ≠ gr := fun k hk => by
    rcases hat with h | h
    · obtain ⟨h1, h2, h3⟩ := hok5 k (h ▸ hk)
      exact ⟨.inl h1, h3⟩
    · rw [h] at hk
      injection hk with hk
      have := hb.size
      exact ⟨.inr (by omega), by omega⟩
  have hR5' : (Kd.int .i64).R 3 (W4.setCell ⟨gr, i * 6 + 5, none⟩ v') B (fun k => oki k ∨ wx.heap.size ≤ k) v' ks :=
    Kd.R_of_own (own_setCell ho (fun he => (hv' gr he.symm).2 rfl) v') (fun k hk => (hv' k hk).1)
  have h4 := Kd.H_back h3 (x' := ⟨xi.f0, xi.f1, xi.f2, xi.f3, xi.f4, ks⟩) (okp := fun j => oki j ∨ wx.heap.size ≤ j) (k35_mkM _ _ _ ⟨xi.f0, xi.f1, xi.f2, xi.f3, xi.f4, ks⟩ (Kd.R_mono hR2' (fun k hk => .inl (hne2 k hk).2.2)) hR5') (fun j hj => hj)
  rw [Int.toNat_natCast] at h4
  exact h4
/-- A node's parent is set. -/
theorem ed_parent {B gr n c j : Nat} {W : World} {l : List S35} {xj : S35} (hS : Kd.S k35 35 W B (fun _ => True) (.slice (some ⟨gr, 0, none⟩) n c) l) (hj : j < n) (hxj : l[j]? = some xj) (p : Int) :
    Kd.S k35 35 (W.setCell ⟨gr, j * 6 + 4, none⟩ (.int .i64 p)) B (fun _ => True) (.slice (some ⟨gr, 0, none⟩) n c) (l.set j ⟨xj.f0, xj.f1, xj.f2, xj.f3, p, xj.f5⟩) := by
  obtain ⟨oki, cc, hcl, hM, hcc, hfr, hoki, hH⟩ := Kd.S_elem hS z35 (j : Int) (by omega) (by omega)
  rw [show l.getD (j : Int).toNat z35 = xj from by rw [Int.toNat_natCast, List.getD_eq_getElem?_getD, hxj]; rfl] at hM
  obtain ⟨v2, v5, hcs, hR2, hR5⟩ := k35_openM hM
  subst hcs
  have h2 := (Kd.H_seg hH (by omega) (by omega) (seg := [.int .i64 p]) (j := 4) (by show 4 + 1 ≤ 6; decide) (by simp [Value.oneCell'])).1
  have h3 : Kd.H k35 35 (W.setCell ⟨gr, j * 6 + 4, none⟩ (.int .i64 p)) B (fun _ => True) (.slice (some ⟨gr, 0, none⟩) n c) l (j : Int) oki [.int .i64 xj.f0, .string xj.f1, v2, .string xj.f3, .int .i64 p, v5] := h2
  have hne : ∀ k, oki k → k ≠ gr := fun k hk => (hoki k hk).2
  have h4 := Kd.H_back h3 (x' := ⟨xj.f0, xj.f1, xj.f2, xj.f3, p, xj.f5⟩) (okp := oki) (k35_mkM _ _ _ ⟨xj.f0, xj.f1, xj.f2, xj.f3, p, xj.f5⟩ (Kd.R_far hR2 (p := ⟨gr, j * 6 + 4, none⟩) hne _) (Kd.R_far hR5 (p := ⟨gr, j * 6 + 4, none⟩) hne _)) (fun k hk => hk)
  rw [Int.toNat_natCast] at h4
  exact h4
/-- What a walk through insert reads. -/
structure InsR (W : World) (b gr n c wb : Nat) (l : List S35) (q : Bool) (made : Int) (i j : Nat) (v5 : Value) : Prop where
  blk : W.heap[b]? = some (.cells #[.slice (some ⟨gr, 0, none⟩) n c, .bool q, .int .i64 made] 88 (0, 0))
  at1 : W.cell? ⟨wb, 1, none⟩ = some (.int .i64 i)
  to1 : W.cell? ⟨wb, 2, none⟩ = some (.int .i64 j)
  be1 : W.cell? ⟨wb, 3, none⟩ = some (.int .i64 (-1))
  row : Kd.C k35 W (some ⟨gr, 0, none⟩) n l
  k5 : W.cell? ⟨gr, i * 6 + 5, none⟩ = some v5
theorem InsR.on {W W' : World} {b gr n c wb : Nat} {l : List S35} {q : Bool} {made : Int} {i j : Nat} {v5 : Value} (h : InsR W b gr n c wb l q made i j v5) (hb : Below W.heap.size W W') : InsR W' b gr n c wb l q made i j v5 :=
  ⟨blk_below h.blk hb, pw_cell_below hb h.at1, pw_cell_below hb h.to1, pw_cell_below hb h.be1, Kd.C_below h.row hb, pw_cell_below hb h.k5⟩
/-- What lies ready behind slices.Insert. -/
structure InsF (w0 W w : World) (b gr n c i j : Nat) (q : Bool) (made p4 : Int) (v5 v' : Value) (l : List S35) : Prop where
  below : Below w0.heap.size w0 W
  blk : W.heap[b]? = some (.cells #[.slice (some ⟨gr, 0, none⟩) n c, .bool q, .int .i64 made] 88 (0, 0))
  c5 : W.cell? ⟨gr, i * 6 + 5, none⟩ = some v5
  c4 : W.cell? ⟨gr, j * 6 + 4, none⟩ = some (.int .i64 p4)
  f5 : W.frozen? ⟨gr, i * 6 + 5, none⟩ = false
  f4 : W.frozen? ⟨gr, j * 6 + 4, none⟩ = false
  at1 : W.cell? ⟨w.heap.size, 1, none⟩ = some (.int .i64 i)
  row : Kd.S k35 35 (W.setCell ⟨gr, i * 6 + 5, none⟩ v') w0.heap.size (fun _ => True) (.slice (some ⟨gr, 0, none⟩) n c) l
/-- What insert leaves. -/
def InsE (w0 w' : World) (b gr n c : Nat) (q : Bool) (made : Int) (l : List S35) : Prop := Below w0.heap.size w0 w' ∧ w'.heap[b]? = some (.cells #[.slice (some ⟨gr, 0, none⟩) n c, .bool q, .int .i64 made] 88 (0, 0)) ∧ Kd.S k35 35 w' w0.heap.size (fun _ => True) (.slice (some ⟨gr, 0, none⟩) n c) l
set_option maxRecDepth 100000 in
set_option maxHeartbeats 4000000 in
theorem insert_ok (k : Nat) (nm vl : ByteArray) (x : S35) (A8 A11 : Option Addr) (n8 n11 c8 c11 : Nat) (l : List S35) (q : Bool) (made : Int) (b gr n c i j : Nat) (xi xj : S35) (u dp : Int) (w0 w : World)
    (hw : Below w0.heap.size w0 w) (hBb : w0.heap.size ≤ b) (hS : Kd.S k35 35 w w0.heap.size (fun _ => True) (.slice (some ⟨gr, 0, none⟩) n c) l) (hij : i ≠ j) (hlk : xi.f5.length ≤ 1000) (hi : i < n) (hj : j < n) (hxi : l[i]? = some xi) (hxj : l[j]? = some xj)
    (hblk : w.heap[b]? = some (.cells #[.slice (some ⟨gr, 0, none⟩) n c, .bool q, .int .i64 made] 88 (0, 0)))
    (hpa : xi.f0 = 1 ∨ xi.f0 = 2) (hto : xj.f0 ≠ 1) (htx : ¬ (xi.f0 = 1 ∧ xj.f0 = 3)) (hpj : xj.f4 < 0)
    (hbel : belowF l k i j = some false) (hup : dom_up.f k l q i = some u) (hdp : deepF l k j = some dp) (hle : wrap64 (wrap64 (u + 1) + dp) ≤ 40) :
    Calls Tryd.prog 87 #[.pointer (some ⟨b, 0, none⟩), .agg #[.int .i64 5, .int .i64 i, .int .i64 j, .int .i64 (-1), .string nm, .string vl, .int .i64 x.f0, .string x.f1, .slice A8 n8 c8, .string x.f3, .int .i64 x.f4, .slice A11 n11 c11]] w fun e w' => e = .returned (.int .i64 0) ∧ InsE w0 w' b gr n c q made ((l.set i ⟨xi.f0, xi.f1, xi.f2, xi.f3, xi.f4, xi.f5 ++ [(j : Int)]⟩).set j ⟨xj.f0, xj.f1, xj.f2, xj.f3, i, xj.f5⟩) := by
  obtain ⟨hn, hnc, hrow0⟩ := Kd.S_reads' hS
  have hrow : Kd.C k35 w (some ⟨gr, 0, none⟩) n l := by rw [hn]; exact hrow0
  have HS := Lib.hid hS
  have HXi := Lib.hid hxi
  have HXj := Lib.hid hxj
  have HW := Lib.hid hw
  have HBb := Lib.hid hBb
  have HLk := Lib.hid hlk
  have hgb : gr ≠ b := by
    obtain ⟨cells, hty⟩ := Kd.S_typed hS gr (by simp [Value.ownBlock])
    exact fun he => blk_ne hty hblk (by decide) he
  have hgrB : w0.heap.size ≤ gr := Kd.S_base hS gr (by simp [Value.ownBlock])
  have hgrw : gr < w.heap.size := Kd.S_lt hS gr (by simp [Value.ownBlock])
  clear hrow0 hS hw hBb hlk
  have HNi : Hid (∀ W : World, W.cell? ⟨b, 0, none⟩ = some (.slice (some ⟨gr, 0, none⟩) n c) → ∀ m, Calls Tryd.prog 105 #[.pointer (some ⟨b, 0, none⟩), .int .i64 i] (W.drewN m) fun e w' => e = .returned (.pointer (some ⟨gr, i * 6, none⟩)) ∧ ∃ m', w' = W.drewN m') :=
    Lib.hid (fun W h m => (dom_editor_node.in_ b gr n c i (W.drewN m) h hi).mono fun e w' ⟨h1, h2⟩ => ⟨h1, m, h2.symm⟩)
  have HNj : Hid (∀ W : World, W.cell? ⟨b, 0, none⟩ = some (.slice (some ⟨gr, 0, none⟩) n c) → ∀ m, Calls Tryd.prog 105 #[.pointer (some ⟨b, 0, none⟩), .int .i64 j] (W.drewN m) fun e w' => e = .returned (.pointer (some ⟨gr, j * 6, none⟩)) ∧ ∃ m', w' = W.drewN m') :=
    Lib.hid (fun W h m => (dom_editor_node.in_ b gr n c j (W.drewN m) h hj).mono fun e w' ⟨h1, h2⟩ => ⟨h1, m, h2.symm⟩)
  have e0 : (w.alloc (.cells #[.int .i64 5, .int .i64 i, .int .i64 j, .int .i64 (-1), .string nm, .string vl, .int .i64 x.f0, .string x.f1, .slice A8 n8 c8, .string x.f3, .int .i64 x.f4, .slice A11 n11 c11] 59)).cell? ⟨b, 0, none⟩ = some (.slice (some ⟨gr, 0, none⟩) n c) := pw_cell_below ((Below.refl _ w).alloc (Nat.le_refl _) _) ((blk_cell hblk 0).trans rfl)
  have hri : rd_T35 l (i : Int) = xi := by unfold rd_T35; rw [Int.toNat_natCast, List.getD_eq_getElem?_getD, hxi]; rfl
  have hrj : rd_T35 l (j : Int) = xj := by unfold rd_T35; rw [Int.toNat_natCast, List.getD_eq_getElem?_getD, hxj]; rfl
  obtain ⟨adi, A2i, c2i, A5, c5, ei, i0, -, -, -, -, i5, -, -, h5l, h5⟩ := at_T35 hrow (i : Int) (by omega) (by omega)
  cases ei
  rw [hri] at i0 i5 h5l h5
  obtain ⟨adj, A2j, c2j, A5j, c5j, ej, j0, -, -, -, j4, -, -, -, -, -⟩ := at_T35 hrow (j : Int) (by omega) (by omega)
  cases ej
  rw [hrj] at j0 j4
  obtain ⟨ni, hni⟩ : ∃ ni, ni = xi.f5.length := ⟨_, rfl⟩
  rw [← hni] at i5
  have hk5w : w.cell? ⟨gr, i * 6 + 5, none⟩ = some (.slice A5 ni c5) := by simpa [add_at] using i5
  have HOw := Lib.hid (ed_kids HS.out hi hxi hk5w).1
  clear hk5w
  have HR1 : Hid (∀ W1 : World, (w.alloc (.cells #[.int .i64 5, .int .i64 i, .int .i64 j, .int .i64 (-1), .string nm, .string vl, .int .i64 x.f0, .string x.f1, .slice A8 n8 c8, .string x.f3, .int .i64 x.f4, .slice A11 n11 c11] 59)) = W1 → ∀ m, Below w.heap.size w (W1.drewN m) ∧ InsR (W1.drewN m) b gr n c w.heap.size l q made i j (.slice A5 ni c5) ∧ (W1.drewN m).cell? ⟨gr, i * 6, none⟩ = some (.int .i64 xi.f0) ∧ (W1.drewN m).cell? ⟨gr, j * 6, none⟩ = some (.int .i64 xj.f0) ∧ (W1.drewN m).cell? ⟨gr, j * 6 + 4, none⟩ = some (.int .i64 xj.f4)) :=
    Lib.hid (fun W1 h m => by
      subst h
      have hb : Below w.heap.size w ((w.alloc (.cells #[.int .i64 5, .int .i64 i, .int .i64 j, .int .i64 (-1), .string nm, .string vl, .int .i64 x.f0, .string x.f1, .slice A8 n8 c8, .string x.f3, .int .i64 x.f4, .slice A11 n11 c11] 59)).drewN m) := pw_below_drewN (below_alloc (Below.refl _ _) _) m
      have hbx := blk_drewN (blk_new w (.cells #[.int .i64 5, .int .i64 i, .int .i64 j, .int .i64 (-1), .string nm, .string vl, .int .i64 x.f0, .string x.f1, .slice A8 n8 c8, .string x.f3, .int .i64 x.f4, .slice A11 n11 c11] 59)) m
      refine ⟨hb, ⟨blk_below hblk hb, (blk_cell hbx 1).trans rfl, (blk_cell hbx 2).trans rfl, (blk_cell hbx 3).trans rfl, Kd.C_below hrow hb, pw_cell_below hb ?_⟩, pw_cell_below hb ?_, pw_cell_below hb ?_, pw_cell_below hb ?_⟩
      · simpa [add_at] using i5
      · simpa [add_at] using i0
      · simpa [add_at] using j0
      · simpa [add_at] using j4)
  have HBe : Hid (∀ W : World, W.cell? ⟨b, 0, none⟩ = some (.slice (some ⟨gr, 0, none⟩) n c) → Kd.C k35 W (some ⟨gr, 0, none⟩) n l → Calls Tryd.prog 106 #[.pointer (some ⟨b, 0, none⟩), .int .i64 i, .int .i64 j] W fun e w' => e = .returned (.bool false) ∧ W = w') :=
    Lib.hid (by rw [hn]; exact fun W h1 h2 => below_calls k b c _ l i j false W h1 h2 hbel)
  have HDe : Hid (∀ W : World, W.cell? ⟨b, 0, none⟩ = some (.slice (some ⟨gr, 0, none⟩) n c) → Kd.C k35 W (some ⟨gr, 0, none⟩) n l → Calls Tryd.prog 107 #[.pointer (some ⟨b, 0, none⟩), .int .i64 j] W fun e w' => e = .returned (.int .i64 dp) ∧ W = w') :=
    Lib.hid (by rw [hn]; exact fun W h1 h2 => deep_calls b c _ l W h1 h2 k j dp hdp)
  have HUe : Hid (∀ W : World, Kd.C k35 W (some ⟨gr, 0, none⟩) n l → Calls Tryd.prog 46 #[.agg #[.slice (some ⟨gr, 0, none⟩) n c, .bool q], .int .i64 i] W fun e w' => e = .returned (.int .i64 u) ∧ Below W.heap.size W w') :=
    Lib.hid (by rw [hn]; rw [hn] at hnc; exact fun W h2 => dom_up.calls k _ c l q i u W h2 hnc hup)
  have HN := Lib.hid hn
  have hpar : dom_parent.f xi.f0 = some true := by
    unfold dom_parent.f
    rcases hpa with h | h <;> rw [h] <;> rfl
  have HPa := Lib.hid (fun W => dom_parent.calls xi.f0 true W hpar)
  have htob : (xj.f0 == 1) = false := by simpa using hto
  have hcase : ((xi.f0 == 1) = true ∧ (xj.f0 == 3) = false) ∨ (xi.f0 == 1) = false := by
    by_cases h1 : xi.f0 = 1
    · exact .inl ⟨by simpa using h1, by simpa using fun h => htx ⟨h1, h⟩⟩
    · exact .inr (by simpa using h1)
  have HBel := Lib.hid hbel
  have HUp := Lib.hid hup
  have HDp := Lib.hid hdp
  have HLe := Lib.hid hle
  have HNI := Lib.hid hni
  clear hpar hpa hto htx hn hblk hrow hxi hxj i0 i5 h5l h5 j0 j4 hri hrj hbel hup hdp hle hni
  go_enter Tryd.func87, Tryd.ntmps87
  go_upto_region 1 with fail
  go_quiet ((go_at_call 105; first | with_reducible exact HNi.out _ e0 _ | with_reducible exact HNj.out _ e0 _))
  go_upto_region 2 with fail
  obtain ⟨hb1, hI1, k0, k1, k4⟩ := HR1.out _ rfl nq
  generalize (World.drewN _ nq) = w1 at hb1 hI1 k0 k1 k4
  clear HR1 e0 HNi HNj
  have HB1 := Lib.hid hb1
  have HI1 := Lib.hid hI1
  have b0 := (blk_cell hI1.blk 0).trans rfl
  have x1 := hI1.at1
  have x2 := hI1.to1
  have x3 := hI1.be1
  have x5 := hI1.k5
  clear hb1 hI1
  rcases hcase with ⟨hk1, hk3⟩ | hk1
  all_goals
    go_wp2_with fail
    refine (HPa.out w1).mono ?_
    rintro e w' ⟨rfl, hd⟩
    obtain ⟨m1, hm1⟩ := hd.out
    subst hm1
    go_wp2_with fail
    refine (HBe.out (w1.drewN m1) b0 (Kd.C_below HI1.out.row (pw_below_drewN (Below.refl _ _) _))).mono ?_
    rintro e w' ⟨rfl, rfl⟩
    go_upto_region 15 with fail
    have hI2 := HI1.out.on (pw_below_drewN (Below.refl w1.heap.size w1) m1)
    have hB2 : Below w.heap.size w (w1.drewN m1) := pw_below_drewN HB1.out m1
    generalize w1.drewN m1 = w2 at hI2 hB2
    clear HI1 HB1 b0 x1 x2 x3 x5 k0 k1 k4 HBe HPa hk1
    have HI2 := Lib.hid hI2
    have HB2 := Lib.hid hB2
    clear hI2 hB2
    have HE : Hid (∀ W : World, Below w2.heap.size w2 W → W.cell? ⟨b, 0, none⟩ = some (.slice (some ⟨gr, 0, none⟩) n c) ∧ W.cell? ⟨b, 1, none⟩ = some (.bool q) ∧ W.cell? ⟨w.heap.size, 1, none⟩ = some (.int .i64 i) ∧ W.cell? ⟨w.heap.size, 2, none⟩ = some (.int .i64 j)) :=
      Lib.hid (fun W h => ⟨(blk_cell (HI2.out.on h).blk 0).trans rfl, (blk_cell (HI2.out.on h).blk 1).trans rfl, (HI2.out.on h).at1, (HI2.out.on h).to1⟩)
    have HU2 : Hid (∀ W : World, Below w2.heap.size w2 W → Calls Tryd.prog 46 #[.agg #[.slice (some ⟨gr, 0, none⟩) n c, .bool q], .int .i64 i] W fun e w' => e = .returned (.int .i64 u) ∧ Below w2.heap.size w2 w') :=
      Lib.hid (fun W h => (HUe.out W (HI2.out.on h).row).mono fun e w' ⟨h1, h2⟩ => ⟨h1, h.trans (h2.mono h.size)⟩)
    have HD2 : Hid (∀ W : World, Below w2.heap.size w2 W → Calls Tryd.prog 107 #[.pointer (some ⟨b, 0, none⟩), .int .i64 j] W fun e w' => e = .returned (.int .i64 dp) ∧ W = w') :=
      Lib.hid (fun W h => HDe.out W (HE.out W h).1 (HI2.out.on h).row)
    clear HUe HDe
    obtain ⟨s1, hw1⟩ : ∃ s1, IntKind.i64.wrap (u + 1) = s1 := ⟨_, rfl⟩
    obtain ⟨s2, hw2⟩ : ∃ s2, IntKind.i64.wrap (s1 + dp) = s2 := ⟨_, rfl⟩
    have hs2 : s2 ≤ 40 := by rw [← hw2, ← hw1, IntWalk.i64_left, IntWalk.i64_left]; exact HLe.out
    have hs2b : decide (40 < s2) = false := by simp; omega
    go_cut [82] (fun s82 wx => s82 = .bool false ∧ Hid (Below w2.heap.size w2 wx))
    case first =>
      go_region_held3 (fun W => W.cell? ⟨b, 0, none⟩ = some (.slice (some ⟨gr, 0, none⟩) n c) ∧ W.cell? ⟨b, 1, none⟩ = some (.bool q) ∧ W.cell? ⟨w.heap.size, 1, none⟩ = some (.int .i64 i) ∧ W.cell? ⟨w.heap.size, 2, none⟩ = some (.int .i64 j)) (first | exact HE.out _ (by (repeat (first | refine below_drew ?_)); first | exact hb3 | exact Below.refl _ _) | go_keep)
        (first | (with_reducible refine (HU2.out _ ?_).mono ?_; ((repeat (first | refine below_drew ?_)); exact Below.refl _ _); rintro e w3 ⟨rfl, hb3⟩) | (with_reducible refine (HD2.out _ ?_).mono ?_; ((repeat (first | refine below_drew ?_)); first | exact hb3 | exact Below.refl _ _); rintro e w' ⟨rfl, rfl⟩))
      all_goals (go_wp2_with fail; go_meet; exact ⟨rfl, Lib.hid hb3⟩)
    case rest =>
      obtain ⟨rfl, HBx⟩ := hcut
      rename_i wc
      have HI3 := Lib.hid (HI2.out.on HBx.out)
      have HB3 : Hid (Below w.heap.size w wc) := Lib.hid (HB2.out.trans (HBx.out.mono HB2.out.size))
      clear HI2 HB2 HE HU2 HD2 HBx
      have HP := Lib.hid (ed_kids (Kd.S_below HS.out HB3.out) hi HXi.out HI3.out.k5)
      have HIn : Hid (∀ (W : World) (ad : Addr), Below wc.heap.size wc W → W.cell? ad = some (.int .i64 j) → Calls Tryd.prog 78 #[.slice A5 ni c5, .int .i64 ni, .slice (some ad) 1 1] W fun e w' => ∃ A c', e = .returned (.slice A (ni + 1) c') ∧
          InsF w0 w' w b gr n c i j q made xj.f4 (.slice A5 ni c5) (.slice A (ni + 1) c') (l.set i ⟨xi.f0, xi.f1, xi.f2, xi.f3, xi.f4, xi.f5 ++ [(j : Int)]⟩)) := Lib.hid (fun W ad hb hc => by
        have hni := HNI.out
        have hown := HP.out.1
        rw [← hni] at hown
        have hown' := pw_own_below hown hb
        have hB : w0.heap.size ≤ W.heap.size := Nat.le_trans (HW.out.trans (HB3.out.mono HW.out.size)).size hb.size
        obtain ⟨cells, hg0⟩ := Kd.S_typed (Kd.S_below HS.out HB3.out) gr (by simp [Value.ownBlock])
        have hn5 : ni ≤ 1000 := by have := HLk.out; omega
        refine (ins_end A5 c5 ni xi.f5 ad j w0.heap.size W hown' hc hn5 hB).mono ?_
        rintro e w' ⟨v', rfl, ho, hg, hat⟩
        obtain ⟨A, c', rfl⟩ := own_slice ho
        have hgr := own_ne hown hg0 (by decide)
        have hgb4 : w'.heap[gr]? = wc.heap[gr]? := (hg.block gr (Nat.lt_of_lt_of_le (blk_lt hg0) hb.size) hgr).trans (hb.block gr (blk_lt hg0))
        have hbb4 := blk_grown (blk_below HI3.out.blk hb) hg (own_ne hown HI3.out.blk (by decide))
        have hxx : some w.heap.size ≠ (Value.slice A5 ni c5).ownBlock := fun he => by have := own_lt HOw.out _ he.symm; omega
        have hwl : w.heap.size < wc.heap.size := World.block_lt_of_cell? wc _ HI3.out.at1
        have hwb4 : w'.heap[w.heap.size]? = wc.heap[w.heap.size]? := (hg.block w.heap.size (Nat.lt_of_lt_of_le hwl hb.size) hxx).trans (hb.block _ hwl)
        have hgg : w'.heap[gr]? = some (.cells cells 35 (0, 0)) := hgb4.trans hg0
        obtain ⟨adj, A2j, c2j, A5j, c5j, ej, j0, -, -, -, j4, -⟩ := at_T35 HI3.out.row (j : Int) (by omega) (by omega)
        cases ej
        have hrj : rd_T35 l (j : Int) = xj := by unfold rd_T35; rw [Int.toNat_natCast, List.getD_eq_getElem?_getD, HXj.out]; rfl
        rw [hrj] at j4
        have j4' : wc.cell? ⟨gr, j * 6 + 4, none⟩ = some (.int .i64 xj.f4) := by simpa [add_at] using j4
        refine ⟨A, c', rfl, ⟨?_, hbb4, (World.cell?_of_block hgb4).trans HI3.out.k5, (World.cell?_of_block hgb4).trans j4', blk_frozen hgg _, blk_frozen hgg _, (World.cell?_of_block hwb4).trans HI3.out.at1, ?_⟩⟩
        · exact ((HW.out.trans (HB3.out.mono HW.out.size)).trans (hb.mono (HW.out.trans (HB3.out.mono HW.out.size)).size)).grown hg hB (own_base hown')
        · refine HP.out.2 W w' _ _ hb hg ?_ hat (by simp [Value.oneCell'])
          have e : (xi.f5 ++ [(j : Int)]).length = ni + 1 := by simp [hni]
          rw [e]
          exact ho)
      have x5 := HI3.out.k5
      have x2 := HI3.out.to1
      have HX := Lib.hid (fun W (h : Below wc.heap.size wc W) => (⟨(HI3.out.on h).k5, (HI3.out.on h).to1⟩ : W.cell? ⟨gr, i * 6 + 5, none⟩ = some (.slice A5 ni c5) ∧ W.cell? ⟨w.heap.size, 2, none⟩ = some (.int .i64 j)))
      have x5a := (HX.out _ (below_alloc (below_drew (Below.refl wc.heap.size wc)) (.cells #[.int .i64 j] 3))).1
      have x5b := (HX.out _ (below_alloc (Below.refl wc.heap.size wc) (.cells #[.int .i64 j] 3))).1
      have hlt17 : gr < wc.heap.size := World.block_lt_of_cell? wc _ x5
      have hne17 : gr ≠ wc.heap.size := by omega
      go_upto_region 17 with fail
      go_region_with (first | (with_reducible refine (HIn.out _ _ ?_ ?_).mono ?_; ((repeat (first | refine below_alloc ?_ _ | refine below_drew ?_)); exact Below.refl _ _); (simp [go_sem]); rintro e w4 ⟨A6, c6, rfl, hF⟩; have f1 := hF.c5; have f2 := hF.f5))
      all_goals
        have g1 : (w4.setCell ⟨gr, i * 6 + 5, none⟩ (.slice A6 (ni + 1) c6)).cell? ⟨w.heap.size, 1, none⟩ = some (.int .i64 i) := (World.cell?_of_block (Below.heap_setCell w4 ⟨gr, i * 6 + 5, none⟩ _ w.heap.size (by show w.heap.size ≠ gr; omega))).trans hF.at1
        have g2 : (j * 6 + 4 = i * 6 + 5) = False := eq_false (by omega)
        have g3 := hF.c4
        have g4 := hF.f4
        have HF := Lib.hid hF
        clear hF x5 x2 x5a x5b f1 f2
        go_wp2_with fail
        go_ret
        exact ⟨rfl, (HF.out.below.setCell hgrB _).setCell hgrB _, blk_far (blk_far HF.out.blk (Ne.symm hgb) _) (Ne.symm hgb) _, ed_parent HF.out.row hj (by rw [List.getElem?_set_ne hij]; exact HXj.out) _⟩

/-! ### dom_editor_edit: function 42 -/
set_option maxHeartbeats 1000000 in
theorem does_make (p : Value) (w : World) : Calls Tryd.prog 61 #[p, .int .i64 4] w fun e w' => e = .returned (.func (.func 86) #[p] #[]) ∧ w = w' := by
  go_enter Tryd.func61, Tryd.ntmps61
  go_wp2_with fail
  go_ret
  exact ⟨rfl, rfl⟩
set_option maxHeartbeats 1000000 in
theorem does_insert (p : Value) (w : World) : Calls Tryd.prog 61 #[p, .int .i64 5] w fun e w' => e = .returned (.func (.func 87) #[p] #[]) ∧ w = w' := by
  go_enter Tryd.func61, Tryd.ntmps61
  go_wp2_with fail
  go_ret
  exact ⟨rfl, rfl⟩
theorem func_not_nil1 {P : Program} (w : World) (d : Nat) (t : TypeId) (ps rs : Array TypeId) (b : Bool) (f : Fn) (xs ys : Array Value) (h : P.underlying t = some (.func ps rs b)) : (Op.equalIn (d + 1) t (.func f xs ys) .nilFunc).run P w = .ok false w := by simp [Op.equalIn, run_underlying h]
/-- A function's value is not nil. -/
theorem func_not_nil {P : Program} (w : World) (t : TypeId) (ps rs : Array TypeId) (b : Bool) (f : Fn) (xs ys : Array Value) (h : P.underlying t = some (.func ps rs b)) : (binOp .eql t (.func f xs ys) .nilFunc).run P w = .ok (.bool false) w := by
  simp only [binOp]
  simp [Op.equal, Op.maxDepth, func_not_nil1 w 9999 t ps rs b f xs ys h]
set_option maxRecDepth 100000 in
set_option maxHeartbeats 2000000 in
/-- edit, where it is this. -/
theorem edit_make (p : Value) (at_ to_ be : Int) (nm vl : ByteArray) (f0 : Int) (f1 : ByteArray) (A8 : Option Addr) (n8 c8 : Nat) (f3 : ByteArray) (f4 : Int) (A11 : Option Addr) (n11 c11 : Nat) (r : Int) (w : World) (Q : World → Prop)
    (hg : ∀ W : World, Below w.heap.size w W → Calls Tryd.prog 86 #[p, .agg #[.int .i64 4, .int .i64 at_, .int .i64 to_, .int .i64 be, .string nm, .string vl, .int .i64 f0, .string f1, .slice A8 n8 c8, .string f3, .int .i64 f4, .slice A11 n11 c11]] W fun e w' => e = .returned (.int .i64 r) ∧ Q w') :
    Calls Tryd.prog 42 #[p, .agg #[.int .i64 4, .int .i64 at_, .int .i64 to_, .int .i64 be, .string nm, .string vl, .int .i64 f0, .string f1, .slice A8 n8 c8, .string f3, .int .i64 f4, .slice A11 n11 c11]] w fun e w' => e = .returned (.int .i64 r) ∧ Q w' := by
  have hnil := fun W : World => func_not_nil (P := Tryd.prog) W 89 _ _ _ (.func 86) #[p] #[] Tryd.underlying89
  have HD := Lib.hid (fun W => does_make p W)
  have HG := Lib.hid hg
  have HB := Lib.hid ((Below.refl _ w).alloc (Nat.le_refl _) (.cells #[.int .i64 4, .int .i64 at_, .int .i64 to_, .int .i64 be, .string nm, .string vl, .int .i64 f0, .string f1, .slice A8 n8 c8, .string f3, .int .i64 f4, .slice A11 n11 c11] 59))
  clear hg
  go_enter Tryd.func42, Tryd.ntmps42
  go_wp2_with fail
  refine (HD.out _).mono ?_
  rintro e w' ⟨rfl, rfl⟩
  go_wp2_with fail
  refine (HG.out _ HB.out).mono ?_
  rintro e w' ⟨rfl, hq⟩
  go_wp2_with fail
  go_ret
  exact ⟨rfl, hq⟩
set_option maxRecDepth 100000 in
set_option maxHeartbeats 2000000 in
/-- edit, where it is this. -/
theorem edit_insert (p : Value) (at_ to_ be : Int) (nm vl : ByteArray) (f0 : Int) (f1 : ByteArray) (A8 : Option Addr) (n8 c8 : Nat) (f3 : ByteArray) (f4 : Int) (A11 : Option Addr) (n11 c11 : Nat) (r : Int) (w : World) (Q : World → Prop)
    (hg : ∀ W : World, Below w.heap.size w W → Calls Tryd.prog 87 #[p, .agg #[.int .i64 5, .int .i64 at_, .int .i64 to_, .int .i64 be, .string nm, .string vl, .int .i64 f0, .string f1, .slice A8 n8 c8, .string f3, .int .i64 f4, .slice A11 n11 c11]] W fun e w' => e = .returned (.int .i64 r) ∧ Q w') :
    Calls Tryd.prog 42 #[p, .agg #[.int .i64 5, .int .i64 at_, .int .i64 to_, .int .i64 be, .string nm, .string vl, .int .i64 f0, .string f1, .slice A8 n8 c8, .string f3, .int .i64 f4, .slice A11 n11 c11]] w fun e w' => e = .returned (.int .i64 r) ∧ Q w' := by
  have hnil := fun W : World => func_not_nil (P := Tryd.prog) W 89 _ _ _ (.func 87) #[p] #[] Tryd.underlying89
  have HD := Lib.hid (fun W => does_insert p W)
  have HG := Lib.hid hg
  have HB := Lib.hid ((Below.refl _ w).alloc (Nat.le_refl _) (.cells #[.int .i64 5, .int .i64 at_, .int .i64 to_, .int .i64 be, .string nm, .string vl, .int .i64 f0, .string f1, .slice A8 n8 c8, .string f3, .int .i64 f4, .slice A11 n11 c11] 59))
  clear hg
  go_enter Tryd.func42, Tryd.ntmps42
  go_wp2_with fail
  refine (HD.out _).mono ?_
  rintro e w' ⟨rfl, rfl⟩
  go_wp2_with fail
  refine (HG.out _ HB.out).mono ?_
  rintro e w' ⟨rfl, hq⟩
  go_wp2_with fail
  go_ret
  exact ⟨rfl, hq⟩
/-- What an edit makes of a document's nodes: an error's number, the nodes, and what was made; none where this text says nothing. -/
def makeF (k : Nat) (l : List S35) (e : S59) : Option (Int × List S35 × Int) :=
  if e.f6.f5 = [] ∧ e.f6.f0 ≠ 1 ∧ l.length < 200 ∧ e.f6.f2.length ≤ 1000 then
    (dom_one.f k e.f6.f0 e.f6.f1 e.f6.f2 e.f6.f3 e.f6.f4 e.f6.f5).bind fun r => if r = 0 then some (0, l ++ [⟨e.f6.f0, e.f6.f1, e.f6.f2, e.f6.f3, -1, []⟩], l.length) else none
  else none
def insertF (k : Nat) (l : List S35) (q : Bool) (made : Int) (e : S59) : Option (Int × List S35 × Int) :=
  if 0 ≤ e.f1 ∧ e.f1 < (l.length : Int) ∧ 0 ≤ e.f2 ∧ e.f2 < (l.length : Int) ∧ e.f3 = -1 then
    (l[e.f1.toNat]?).bind fun xi => (l[e.f2.toNat]?).bind fun xj =>
      if (xi.f0 = 1 ∨ xi.f0 = 2) ∧ xj.f0 ≠ 1 ∧ ¬ (xi.f0 = 1 ∧ xj.f0 = 3) ∧ xj.f4 < 0 ∧ xi.f5.length ≤ 1000 then
        (belowF l k e.f1 e.f2).bind fun b => if b then none else (dom_up.f k l q e.f1).bind fun u => (deepF l k e.f2).bind fun dp =>
          if wrap64 (wrap64 (u + 1) + dp) ≤ 40 then some (0, (l.set e.f1.toNat ⟨xi.f0, xi.f1, xi.f2, xi.f3, xi.f4, xi.f5 ++ [e.f2]⟩).set e.f2.toNat ⟨xj.f0, xj.f1, xj.f2, xj.f3, e.f1, xj.f5⟩, made) else none
      else none
  else none
def editF (k : Nat) (l : List S35) (q : Bool) (made : Int) (e : S59) : Option (Int × List S35 × Int) :=
  if e.f0 = 4 then makeF k l e else if e.f0 = 5 then insertF k l q made e else none
theorem belowF_ne {l : List S35} {k : Nat} {i j : Int} (h0 : 0 ≤ i) (h : belowF l k i j = some false) : i ≠ j := by
  rintro rfl
  cases k with
  | zero => simp [belowF] at h
  | succ k => simp [belowF, h0] at h
theorem edit_calls (k : Nat) (e : S59) (A8 A11 : Option Addr) (c8 c11 : Nat) (l : List S35) (q : Bool) (made : Int) (r : Int) (l' : List S35) (made' : Int) (b : Nat) (w0 w : World)
    (hw : Below w0.heap.size w0 w) (hE : Ed w w0.heap.size b l q made) (h8 : Kd.C k78 w0 A8 e.f6.f2.length e.f6.f2) (hc8 : e.f6.f2.length ≤ c8) (h11 : Kd.C (Kd.int .i64) w0 A11 e.f6.f5.length e.f6.f5) (hc11 : e.f6.f5.length ≤ c11)
    (h : editF k l q made e = some (r, l', made')) :
    Calls Tryd.prog 42 #[.pointer (some ⟨b, 0, none⟩), .agg #[.int .i64 e.f0, .int .i64 e.f1, .int .i64 e.f2, .int .i64 e.f3, .string e.f4, .string e.f5, .int .i64 e.f6.f0, .string e.f6.f1, .slice A8 e.f6.f2.length c8, .string e.f6.f3, .int .i64 e.f6.f4, .slice A11 e.f6.f5.length c11]] w fun e w' => e = .returned (.int .i64 r) ∧ ((r = 0 → Ed w' w0.heap.size b l' q made') ∧ Below w0.heap.size w0 w') := by
  unfold editF at h
  by_cases d4 : e.f0 = 4
  · rw [if_pos d4] at h
    unfold makeF at h
    split at h
    · rename_i hc
      obtain ⟨g1, g2, g3, g4⟩ := hc
      obtain ⟨r1, h1, h⟩ := Option.bind_eq_some_iff.1 h
      split at h
      · rename_i hr
        subst hr
        injection h with h
        injection h with ha h
        injection h with hb hc
        subst ha hb hc
        rw [d4]
        refine edit_make _ _ _ _ _ _ _ _ _ _ _ _ _ _ _ _ _ _ _ (fun W hb => ?_)
        have hbw := hw.trans (hb.mono hw.size)
        refine (make_ok k 4 e.f1 e.f2 e.f3 e.f4 e.f5 e.f6 A8 A11 c8 c11 l q made b w0 W hbw (hE.below hb) h8 hc8 h11 hc11 g1 g2 h1 g3 g4).mono ?_
        rintro e w' ⟨rfl, h1, h2⟩
        exact ⟨rfl, fun _ => h1, h2⟩
      · exact absurd h (by simp)
    · exact absurd h (by simp)
  · rw [if_neg d4] at h
    by_cases d5 : e.f0 = 5
    · rw [if_pos d5] at h
      unfold insertF at h
      split at h
      · rename_i hc
        obtain ⟨g1, g2, g3, g4, g5⟩ := hc
        obtain ⟨xi, hxi, h⟩ := Option.bind_eq_some_iff.1 h
        obtain ⟨xj, hxj, h⟩ := Option.bind_eq_some_iff.1 h
        split at h
        · rename_i hc
          obtain ⟨p1, p2, p3, p4, p5⟩ := hc
          obtain ⟨bb, hbb, h⟩ := Option.bind_eq_some_iff.1 h
          split at h
          · exact absurd h (by simp)
          · rename_i hbf
            obtain rfl : bb = false := by simpa using hbf
            obtain ⟨u, hu, h⟩ := Option.bind_eq_some_iff.1 h
            obtain ⟨dp, hdp, h⟩ := Option.bind_eq_some_iff.1 h
            split at h
            · rename_i hle
              injection h with h
              injection h with ha h
              injection h with hb hc
              subst ha hb hc
              obtain ⟨i, hi⟩ : ∃ i : Nat, (i : Int) = e.f1 := ⟨e.f1.toNat, by omega⟩
              obtain ⟨j, hj⟩ : ∃ j : Nat, (j : Int) = e.f2 := ⟨e.f2.toNat, by omega⟩
              have hij : i ≠ j := fun he => belowF_ne (by omega) hbb (by omega)
              rw [d5, g5]
              rw [← hi] at hxi hbb hu g2 ⊢
              rw [← hj] at hxj hbb hdp g4 ⊢
              rw [Int.toNat_natCast] at hxi hxj ⊢
              rw [Int.toNat_natCast]
              refine edit_insert _ _ _ _ _ _ _ _ _ _ _ _ _ _ _ _ _ _ _ (fun W hb => ?_)
              have hbw := hw.trans (hb.mono hw.size)
              obtain ⟨v, hB, hblk, hS⟩ := hE.below hb
              obtain ⟨gr, cap, hv, hbr, hgr, cells, hty⟩ := Kd.S_form hS (by omega)
              subst hv
              refine (insert_ok k e.f4 e.f5 e.f6 A8 A11 _ _ c8 c11 l q made b gr l.length cap i j xi xj u dp w0 W hbw hB hS hij p5 (by omega) (by omega) hxi hxj hblk p1 p2 p3 p4 hbb hu hdp hle).mono ?_
              rintro e w' ⟨rfl, h1, h2, h3⟩
              exact ⟨rfl, fun _ => ⟨_, hB, h2, h3⟩, h1⟩
            · exact absurd h (by simp)
        · exact absurd h (by simp)
      · exact absurd h (by simp)
    · rw [if_neg d5] at h
      exact absurd h (by simp)

/-! ### dom_All: function 18 -/
/-- Rows of some length alone. -/
def allOk (l : List S35) : Bool := decide (l.length ≤ 1000) && l.all fun x => decide (x.f2.length ≤ 1000) && decide (x.f5.length ≤ 1000)
theorem allOk_len {l : List S35} (h : allOk l = true) : l.length ≤ 1000 ∧ ∀ x ∈ l, x.f2.length ≤ 1000 ∧ x.f5.length ≤ 1000 := by
  unfold allOk at h
  simp only [Bool.and_eq_true, decide_eq_true_eq, List.all_eq_true] at h
  exact h
/-- Edit by edit. -/
def allGo (k : Nat) (q : Bool) : List S59 → List S35 → Int → Int → Option (List S35 × Bool × Int × Int)
  | [], l, _, _ => some (l, q, 0, 0)
  | e :: es, l, made, i => (editF k l q made e).bind fun t => if t.1 = 0 then allGo k q es t.2.1 t.2.2 (i + 1) else some ([], false, i, t.1)
def dom_All.f (k : Nat) (l0_0 : List S35) (a0_1 : Bool) (l1 : List S59) : Option (List S35 × Bool × Int × Int) :=
  (dom_Check.f k l0_0 a0_1).bind fun c => if c = 0 then (if l1.length > 40 then some ([], false, 0, 2) else if allOk l0_0 = true then allGo k a0_1 l1 l0_0 0 0 else none) else some ([], false, 0, c)
theorem makeF_mono (l : List S35) (e : S59) (k : Nat) : LeO (makeF k l e) (makeF (k + 1) l e) := by
  unfold makeF
  exact LeO.ite (LeO.bind (dom_one.mono _ _ _ _ _ _ _) fun _ => LeO.refl _) (LeO.refl _)
theorem belowF_mono (l : List S35) : ∀ (k : Nat) (n t : Int), LeO (belowF l k n t) (belowF l (k + 1) n t)
  | 0, _, _ => fun r h => by simp [belowF] at h
  | k + 1, n, t => by
    rw [belowF, belowF]
    exact LeO.ite (LeO.ite (LeO.refl _) (LeO.ite (belowF_mono l k _ _) (LeO.refl _))) (LeO.refl _)
theorem deepGo_mono {f g : Int → Option Int} (h : ∀ x, LeO (f x) (g x)) : ∀ (xs : List Int) (m : Int), LeO (deepGo f xs m) (deepGo g xs m)
  | [], _ => LeO.refl _
  | x :: xs, m => LeO.bind (h x) fun _ => deepGo_mono h xs _
theorem deepF_mono (l : List S35) : ∀ (k : Nat) (n : Int), LeO (deepF l k n) (deepF l (k + 1) n)
  | 0, _ => fun r h => by simp [deepF] at h
  | k + 1, n => by
    rw [deepF, deepF]
    exact LeO.ite (LeO.ite (deepGo_mono (deepF_mono l k) _ _) (LeO.refl _)) (LeO.refl _)
theorem insertF_mono (l : List S35) (q : Bool) (made : Int) (e : S59) (k : Nat) : LeO (insertF k l q made e) (insertF (k + 1) l q made e) := by
  unfold insertF
  refine LeO.ite (LeO.bind (LeO.refl _) fun xi => LeO.bind (LeO.refl _) fun xj => LeO.ite (LeO.bind (belowF_mono _ _ _ _) fun b => ?_) (LeO.refl _)) (LeO.refl _)
  cases b
  · exact LeO.bind (dom_up.mono _ _ _ _) fun _ => LeO.bind (deepF_mono _ _ _) fun _ => LeO.refl _
  · exact LeO.refl _
theorem editF_mono (l : List S35) (q : Bool) (made : Int) (e : S59) (k : Nat) : LeO (editF k l q made e) (editF (k + 1) l q made e) := by
  unfold editF
  exact LeO.ite (makeF_mono _ _ _) (LeO.ite (insertF_mono _ _ _ _ _) (LeO.refl _))
theorem allGo_mono (q : Bool) (k : Nat) : ∀ (es : List S59) (l : List S35) (made i : Int), LeO (allGo k q es l made i) (allGo (k + 1) q es l made i)
  | [], _, _, _ => LeO.refl _
  | e :: es, l, made, i => LeO.bind (editF_mono _ _ _ _ _) fun _ => LeO.ite (allGo_mono q k es _ _ _) (LeO.refl _)
theorem dom_All.mono : ∀ l q es k, LeO (dom_All.f k l q es) (dom_All.f (k + 1) l q es) := by
  intro l q es k
  unfold dom_All.f
  exact LeO.bind (dom_Check.mono _ _ _) fun _ => LeO.ite (LeO.ite (LeO.refl _) (LeO.ite (allGo_mono _ _ _ _ _ _) (LeO.refl _))) (LeO.refl _)
/-- What lies at the loop's head. -/
structure AllI (w1 wr : World) (b : Nat) (l : List S35) (q : Bool) (made : Int) : Prop where
  ed : Ed wr w1.heap.size b l q made
  below : Below w1.heap.size w1 wr
theorem ed_parts {w : World} {B b : Nat} {l : List S35} {q : Bool} {made : Int} (h : Ed w B b l q made) : ∃ A c, B ≤ b ∧ w.cell? ⟨b, 0, none⟩ = some (.slice A l.length c) ∧ w.cell? ⟨b, 1, none⟩ = some (.bool q) ∧ Kd.S k35 35 w B (fun _ => True) (.slice A l.length c) l := by
  obtain ⟨v, h1, h2, h3⟩ := h
  obtain ⟨A, c, rfl⟩ := Kd.S_slice h3
  exact ⟨A, c, h1, (blk_cell h2 0).trans rfl, (blk_cell h2 1).trans rfl, h3⟩
theorem ed_new {w1 w2 : World} {v : Value} {l : List S35} {q : Bool} {B : Nat} (hB : B ≤ w2.heap.size) (hS : Kd.S k35 35 w2 w1.heap.size (fun _ => True) v l) (hb : B ≤ w1.heap.size) :
    Ed (w2.alloc (.cells #[v, .bool q, .int .i64 0] 88)) B w2.heap.size l q 0 := ⟨v, hB, blk_new _ _, Kd.S_alloc (Kd.S_lower hS hb) _⟩
set_option maxRecDepth 100000 in
set_option maxHeartbeats 4000000 in
theorem dom_All.calls (k : Nat) (A0_0 : Option Addr) (c0_0 : Nat) (l0_0 : List S35) (a0_1 : Bool) (A1 : Option Addr) (c1 : Nat) (l1 : List S59) (r1 : List S35) (r2 : Bool) (r3 r4 : Int) (w : World) (hr0_0 : Kd.C k35 w A0_0 l0_0.length l0_0) (hc0_0 : l0_0.length ≤ c0_0) (hr1 : Kd.C k59 w A1 l1.length l1) (hc1 : l1.length ≤ c1) (h : dom_All.f k l0_0 a0_1 l1 = some (r1, r2, r3, r4)) :
    Calls Tryd.prog 18 #[.agg #[.slice A0_0 l0_0.length c0_0, .bool a0_1], .slice A1 l1.length c1] w fun e w' => ∃ v0_ : Value, e = .returned (.tuple #[.agg #[v0_, .bool r2], .int .i64 r3, .int .i64 r4]) ∧ Kd.S k35 35 w' w.heap.size (fun _ => True) v0_ r1 ∧ Below w.heap.size w w' := by
  obtain ⟨c, hk, h⟩ := Option.bind_eq_some_iff.1 h
  obtain ⟨n, hn⟩ : ∃ n, n = l0_0.length := ⟨_, rfl⟩
  obtain ⟨m, hm⟩ : ∃ m, m = l1.length := ⟨_, rfl⟩
  have HC : Hid (∀ W : World, Below w.heap.size w W → Calls Tryd.prog 21 #[.agg #[.slice A0_0 n c0_0, .bool a0_1]] W fun e w' => e = .returned (.int .i64 c) ∧ Below W.heap.size W w') := Lib.hid (by
    rw [hn]
    exact fun W hb => dom_Check.calls k A0_0 c0_0 l0_0 a0_1 c W (Kd.C_below hr0_0 hb) hc0_0 hk)
  have HO : Hid (allOk l0_0 = true → ∀ W : World, Below w.heap.size w W → Calls Tryd.prog 41 #[.agg #[.slice A0_0 n c0_0, .bool a0_1]] W fun e w' => ∃ v0_ : Value, e = .returned (.agg #[v0_, .bool a0_1]) ∧ Kd.S k35 35 w' W.heap.size (fun _ => True) v0_ l0_0 ∧ Below W.heap.size W w') := Lib.hid (by
    rw [hn]
    exact fun ha W hb => dom_own.calls A0_0 c0_0 l0_0 a0_1 W (Kd.C_below hr0_0 hb) hc0_0 (allOk_len ha).1 (allOk_len ha).2)
  have hms : (m : Int) ≤ 9223372036854775807 := by have := hr1.2.1; omega
  rw [← hn, ← hm]
  have HN := Lib.hid hn
  have HM := Lib.hid hm
  have HR1 := Lib.hid hr1
  have H := Lib.hid h
  have HWB : Hid (∀ W1 W : World, ((w.alloc (.cells #[.slice A0_0 n c0_0, .bool a0_1] 24)).alloc (.cells #[.slice none 0 0, .bool false] 24)) = W → Below W.heap.size W W1 → Below w.heap.size w W1 ∧ w.heap.size ≤ W1.heap.size ∧ W1.heap[w.heap.size + 1]? = some (.cells #[.slice none 0 0, .bool false] 24 (0, 0)) ∧ W1.heap[w.heap.size]? = some (.cells #[.slice A0_0 n c0_0, .bool a0_1] 24 (0, 0))) :=
    Lib.hid (fun W1 W h hb => by
      subst h
      have hb0 : Below w.heap.size w ((w.alloc (.cells #[.slice A0_0 n c0_0, .bool a0_1] 24)).alloc (.cells #[.slice none 0 0, .bool false] 24)) := ((Below.refl _ w).alloc (Nat.le_refl _) _).alloc (by simp) _
      have h1 := hb0.trans (hb.mono hb0.size)
      have x1 := blk_below (blk_new (w.alloc (.cells #[.slice A0_0 n c0_0, .bool a0_1] 24)) (.cells #[.slice none 0 0, .bool false] 24)) hb
      have x0 := blk_below (blk_below (blk_new w (.cells #[.slice A0_0 n c0_0, .bool a0_1] 24)) ((Below.refl _ _).alloc (Nat.le_refl _) (.cells #[.slice none 0 0, .bool false] 24))) hb
      exact ⟨h1, h1.size, by simpa using x1, x0⟩)
  clear hr0_0 hc0_0 hr1 hn hm h hk
  go_enter Tryd.func18, Tryd.ntmps18
  go_wp2_with fail
  refine (HC.out _ (by (repeat (first | refine below_alloc ?_ _ | refine below_drew ?_)); exact Below.refl _ _)).mono ?_
  rintro e w1 ⟨rfl, hb1⟩
  obtain ⟨hw1, hsz1, hres, hbox⟩ := HWB.out w1 _ rfl hb1
  have b0 := (blk_cell hbox 0).trans rfl
  have b1 := (blk_cell hbox 1).trans rfl
  have q0 := (blk_cell hres 0).trans rfl
  have q1 := (blk_cell hres 1).trans rfl
  have g0 := blk_frozen hres 0
  have g1 := blk_frozen hres 1
  have HW1 := Lib.hid hw1
  have HRes := Lib.hid hres
  clear hb1 hw1 HWB hres hbox HC
  by_cases hc0 : c = 0
  · subst hc0
    by_cases h40 : m > 40
    · have h := H.out
      rw [if_pos rfl, if_pos (by rw [← HM.out]; exact h40)] at h
      injection h with h
      injection h with ha h
      injection h with hb h
      injection h with hc hd
      subst ha hb hc hd
      have h40b : decide ((40 : Int) < (m : Int)) = true := decide_eq_true (by omega)
      go_wp2_with fail
      refine bodyPost_ret (results_ctt rfl _ _ (w.heap.size + 1) 24 #[.slice none 0 0, .bool false] (0, 0) _ rfl (blk_put (blk_put (cs' := #[.slice none 0 0, .bool false]) HRes.out 0 _ rfl) 1 _ rfl) Tryd.underlying24 rfl (by kernel_rfl)) rfl ?_
      exact ⟨_, rfl, Kd.S_nil _ _ _ _ _, (HW1.out.setCell (by simp) _).setCell (by simp) _⟩
    · have h := H.out
      rw [if_pos rfl, if_neg (by rw [← HM.out]; exact h40)] at h
      have h40b : decide ((40 : Int) < (m : Int)) = false := decide_eq_false (by omega)
      split at h
      case isFalse => exact absurd h (by simp)
      case isTrue hok =>
      have HO1 := Lib.hid (HO.out hok)
      have HG0 := Lib.hid h
      clear H h HO
      go_wp2_with fail
      refine (HO1.out w1 HW1.out).mono ?_
      rintro e w2 ⟨v, rfl, hS, hb2⟩
      have HI : Hid (AllI w1 (w2.alloc (.cells #[v, .bool a0_1, .int .i64 0] 88)) w2.heap.size l0_0 a0_1 0) := Lib.hid ⟨ed_new hb2.size hS (Nat.le_refl _), below_alloc hb2 _⟩
      obtain ⟨A, cc, rfl⟩ := Kd.S_slice hS
      clear hS hb2 HO1 b0 b1 q0 q1 g0 g1
      go_wp2_with fail
      go_loopw [31] (fun i wr => ∃ (t : Nat) (l : List S35) (made : Int), t ≤ m ∧ i = .int .i64 t ∧ Hid (AllI w1 wr w2.heap.size l a0_1 made) ∧ Hid (allGo k a0_1 (l1.drop t) l made t = some (r1, r2, r3, r4))) (fun i _ => m - (intOf i).toNat)
      case atStart => exact ⟨0, l0_0, 0, Nat.zero_le _, rfl, HI, HG0⟩
      case round =>
        obtain ⟨t, l, made, ht, rfl, HA, HG⟩ := hrel
        clear HI HG0
        have HBr : Hid (Below w.heap.size w wr) := Lib.hid (HW1.out.trans (HA.out.below.mono hsz1))
        by_cases hlt : t < m
        · obtain ⟨ad, A8, c8, A11, c11, rfl, d0, d1, d2, d3, d4, d5, d6, d7, d8, d9, d10, d11, l8, h8, l11, h11⟩ := at_T59 HR1.out (t : Int) (by omega) (by have := HM.out; omega)
          have hG := HG.out
          have hl : t < l1.length := by have := HM.out; omega
          rw [List.drop_eq_getElem_cons hl] at hG
          have hrd : rd_T59 l1 (t : Int) = l1[t] := by unfold rd_T59; rw [Int.toNat_natCast, List.getD_eq_getElem?_getD, List.getElem?_eq_getElem hl]; rfl
          rw [hrd] at d0 d1 d2 d3 d4 d5 d6 d7 d8 d9 d10 d11 l8 h8 l11 h11
          rw [Int.toNat_natCast] at d0 d1 d2 d3 d4 d5 d6 d7 d8 d9 d10 d11
          generalize l1[t] = ee at hG d0 d1 d2 d3 d4 d5 d6 d7 d8 d9 d10 d11 l8 h8 l11 h11
          simp only [allGo] at hG
          obtain ⟨⟨er, l', made'⟩, hE, hG⟩ := Option.bind_eq_some_iff.1 hG
          obtain ⟨n8, hn8⟩ : ∃ n8, n8 = ee.f6.f2.length := ⟨_, rfl⟩
          obtain ⟨n11, hn11⟩ : ∃ n11, n11 = ee.f6.f5.length := ⟨_, rfl⟩
          have HEd : Hid (∀ W : World, Below wr.heap.size wr W → Calls Tryd.prog 42 #[.pointer (some ⟨w2.heap.size, 0, none⟩), .agg #[.int .i64 ee.f0, .int .i64 ee.f1, .int .i64 ee.f2, .int .i64 ee.f3, .string ee.f4, .string ee.f5, .int .i64 ee.f6.f0, .string ee.f6.f1, .slice A8 n8 c8, .string ee.f6.f3, .int .i64 ee.f6.f4, .slice A11 n11 c11]] W fun e w' => e = .returned (.int .i64 er) ∧ ((er = 0 → Ed w' w1.heap.size w2.heap.size l' a0_1 made') ∧ Below w1.heap.size w1 w')) := Lib.hid (by
            rw [hn8, hn11]
            exact fun W hb => edit_calls k ee A8 A11 c8 c11 l a0_1 made er l' made' w2.heap.size w1 W (HA.out.below.trans (hb.mono HA.out.below.size)) (HA.out.ed.below hb) (Kd.C_below h8 HW1.out) l8 (Kd.C_below h11 HW1.out) l11 hE)
          rw [← hn8] at d8
          rw [← hn11] at d11
          replace d0 := pw_cell_below HBr.out d0
          replace d1 := pw_cell_below HBr.out d1
          replace d2 := pw_cell_below HBr.out d2
          replace d3 := pw_cell_below HBr.out d3
          replace d4 := pw_cell_below HBr.out d4
          replace d5 := pw_cell_below HBr.out d5
          replace d6 := pw_cell_below HBr.out d6
          replace d7 := pw_cell_below HBr.out d7
          replace d8 := pw_cell_below HBr.out d8
          replace d9 := pw_cell_below HBr.out d9
          replace d10 := pw_cell_below HBr.out d10
          replace d11 := pw_cell_below HBr.out d11
          have HG2 := Lib.hid hG
          clear hG hE l8 h8 l11 h11 hn8 hn11 hrd hl HG
          go_wp2_with fail
          refine (HEd.out _ (by (repeat (first | refine below_alloc ?_ _ | refine below_drew ?_)); exact Below.refl _ _)).mono ?_
          rintro e w3 ⟨rfl, hEd, hb3⟩
          have hres := blk_below HRes.out hb3
          have q0 := (blk_cell hres 0).trans rfl
          have q1 := (blk_cell hres 1).trans rfl
          have g0 := blk_frozen hres 0
          have g1 := blk_frozen hres 1
          have HB3 := Lib.hid hb3
          have HRes3 := Lib.hid hres
          clear hb3 hres d0 d1 d2 d3 d4 d5 d6 d7 d8 d9 d10 d11 HEd
          by_cases her : er = 0
          · subst her
            have HA2 : Hid (AllI w1 w3 w2.heap.size l' a0_1 made') := Lib.hid ⟨hEd rfl, HB3.out⟩
            have hG := HG2.out
            rw [if_pos rfl] at hG
            have HG3 : Hid (allGo k a0_1 (l1.drop (t + 1)) l' made' ((t + 1 : Nat) : Int) = some (r1, r2, r3, r4)) := Lib.hid (by exact_mod_cast hG)
            clear hG HG2 hEd
            go_wp2_with fail
            go_roundw
            case rel => exact ⟨t + 1, l', made', by omega, by simp, HA2, HG3⟩
            case measure => simp [intOf]; omega
          · have hG := HG2.out
            rw [if_neg her] at hG
            injection hG with h
            injection h with ha h
            injection h with hb h
            injection h with hc hd
            subst ha hb hc hd
            have herb : (er != 0) = true := by simpa using her
            clear HG2 hEd
            go_wp2_with fail
            refine bodyPost_ret (results_ctt rfl _ _ (w.heap.size + 1) 24 #[.slice none 0 0, .bool false] (0, 0) _ rfl (blk_put (blk_put (cs' := #[.slice none 0 0, .bool false]) HRes3.out 0 _ rfl) 1 _ rfl) Tryd.underlying24 rfl (by kernel_rfl)) rfl ?_
            exact ⟨_, rfl, Kd.S_nil _ _ _ _ _, ((HW1.out.trans (HB3.out.mono hsz1)).setCell (by simp) _).setCell (by simp) _⟩
        · have hG := HG.out
          have e : t = m := by omega
          rw [e, HM.out, List.drop_length] at hG
          simp only [allGo] at hG
          injection hG with h
          injection h with ha h
          injection h with hb h
          injection h with hc hd
          subst ha hb hc hd
          have hres := blk_below HRes.out HA.out.below
          have q0 := (blk_cell hres 0).trans rfl
          have q1 := (blk_cell hres 1).trans rfl
          have g0 := blk_frozen hres 0
          have g1 := blk_frozen hres 1
          obtain ⟨A', c', hbb, y0, y1, hS⟩ := ed_parts HA.out.ed
          have HRes3 := Lib.hid hres
          have HS := Lib.hid hS
          clear hres hS HG
          go_wp2_with fail
          refine bodyPost_ret (results_ctt rfl _ _ (w.heap.size + 1) 24 #[.slice A' l.length c', .bool a0_1] (0, 0) _ rfl (blk_put (blk_put (cs' := #[.slice A' l.length c', .bool false]) HRes3.out 0 _ rfl) 1 _ rfl) Tryd.underlying24 rfl (by kernel_rfl)) rfl ?_
          exact ⟨_, rfl, Kd.S_set (Kd.S_set (Kd.S_lower HS.out hsz1) HRes3.out (by decide) 0 _) (blk_set HRes3.out 0 _) (by decide) 1 _, ((HBr.out.setCell (by simp) _).setCell (by simp) _)⟩
  · have h := H.out
    rw [if_neg hc0] at h
    injection h with h
    injection h with ha h
    injection h with hb h
    injection h with hc hd
    subst ha hb hc hd
    have hcb : (c == 0) = false := by simpa using hc0
    have hcb2 : (c != 0) = true := by simpa using hc0
    go_wp2_with fail
    refine bodyPost_ret (results_ctt rfl _ _ (w.heap.size + 1) 24 #[.slice none 0 0, .bool false] (0, 0) _ rfl (blk_put (blk_put (cs' := #[.slice none 0 0, .bool false]) HRes.out 0 _ rfl) 1 _ rfl) Tryd.underlying24 rfl (by kernel_rfl)) rfl ?_
    exact ⟨_, rfl, Kd.S_nil _ _ _ _ _, (HW1.out.setCell (by simp) _).setCell (by simp) _⟩

/-! ### dom_New: function 43 -/
def dom_New.f  : Option ((List (S35)) × Bool) := some ((([(⟨1, (⟨#[]⟩ : ByteArray), ([] : List (S78)), (⟨#[]⟩ : ByteArray), (-1), ([] : List Int)⟩ : S35)] : List (S35))), false)
set_option maxHeartbeats 8000000 in
set_option maxRecDepth 100000 in
theorem dom_New.calls  (r1 : List (S35)) (r2 : Bool) (w : World) (h : dom_New.f  = some (r1, r2)) :
    Calls Tryd.prog 43 #[] w fun e w' => ∃ v0_ : Value, e = .returned (.agg #[v0_, .bool r2]) ∧ Kd.S k35 35 w' w.heap.size (fun _ => True) v0_ r1 ∧ Below w.heap.size w w' := by
  have hu24 := Tryd.underlying24
  have hu35 := Tryd.underlying35
  have HB := Aside0.mk (Below.refl w.heap.size w)
  have H : (some ((([(⟨1, (⟨#[]⟩ : ByteArray), ([] : List (S78)), (⟨#[]⟩ : ByteArray), (-1), ([] : List Int)⟩ : S35)] : List (S35))), false)) = some (r1, r2) := h
  clear h
  obtain ⟨y162, hy162⟩ : ∃ y_ : List (S35), y_ = (([(⟨1, (⟨#[]⟩ : ByteArray), ([] : List (S78)), (⟨#[]⟩ : ByteArray), (-1), ([] : List Int)⟩ : S35)] : List (S35))) := ⟨_, rfl⟩
  replace H : (some (y162, false)) = some (r1, r2) := by first | (rw [hy162]; with_reducible exact H) | (have H2_ := (Option.bind_some _ _).symm.trans H; rw [hy162]; with_reducible exact H2_) | (have H2_ := (Option.bind_some _ _).symm.trans H; with_reducible exact H2_) | with_reducible exact H | (rw [hy162]; exact H) | exact H
  have Ny162 := Aside0.mk hy162
  clear hy162
  simp only [Option.some.injEq, Prod.mk.injEq] at H
  obtain ⟨rfl, rfl⟩ := H
  go_enter Tryd.func43, Tryd.ntmps43
  go_wp2_with (first | ((with_reducible refine gate_dst (N := 0) rfl ?_); refine box_event ?hg (N := 0) ?hd (cs := #[.slice none 0 0, .bool false]) (t := 24) ?hr ?_; (case hd => rfl); (case hg => rfl); (case hr => first | (go_simp; done) | (go_simp; rfl)); intro gb161 hg w1 hbox hb; have n0_ := Aside0.mk (below_step (by repeat (first | (with_reducible first | exact HB.out | apply below_alloc | apply pw_below_drewN | apply below_drew1) | exact HB.out)) hb); have n1_ := Aside0.mk (hbox); have n2_ := Aside0.mk ((by rw [hg]; exact (below_size (by repeat (first | (with_reducible first | exact HB.out | apply below_alloc | apply pw_below_drewN | apply below_drew1) | exact HB.out))) : w.heap.size ≤ gb161)); have n3_ := Aside0.mk ((by rw [hg]; exact (below_size (by repeat (first | (with_reducible first | exact HB.out | apply below_alloc | apply pw_below_drewN | apply below_drew1) | exact HB.out))) : w.heap.size ≤ gb161)); clear HB; have HB := n0_; have BK161 := n1_; have GW161 := n2_; have GE161 := n3_; clear n0_ n1_ n2_ n3_; clear hb hbox hg) | ((with_reducible refine gate_dst (N := 2) rfl ?_); refine Kd.S_lit k35 _ 35 ?hg (N := 2) ?hd (xs := ([(⟨1, (⟨#[]⟩ : ByteArray), ([] : List (S78)), (⟨#[]⟩ : ByteArray), (-1), ([] : List Int)⟩ : S35)] : List (S35))) (inner := [.int .i64 1, .string (⟨#[]⟩ : ByteArray), .slice none 0 0, .string (⟨#[]⟩ : ByteArray), .int .i64 (-1), .slice none 0 0]) (ok := fun _ => True) (okp := fun _ => True) ?hr ?hp (fun _ hk => hk) trivial (Below.refl _ _) (Nat.le_refl _) (by simp) ?_; (case hd => rfl); (case hg => rfl); (case hr => first | (go_simp; done) | (go_simp; rfl)); (case hp => exact (Reps.c6 (show Kd.M k35 _ _ _ (⟨1, (⟨#[]⟩ : ByteArray), ([] : List (S78)), (⟨#[]⟩ : ByteArray), (-1), ([] : List Int)⟩ : S35) [.int .i64 1, .string (⟨#[]⟩ : ByteArray), .slice none 0 0, .string (⟨#[]⟩ : ByteArray), .int .i64 (-1), .slice none 0 0] from (k35_mkM _ _ _ (⟨1, (⟨#[]⟩ : ByteArray), ([] : List (S78)), (⟨#[]⟩ : ByteArray), (-1), ([] : List Int)⟩ : S35) (Kd.R_nil _ _ _ _ _) (Kd.R_nil _ _ _ _ _))) (Reps.none _ _))); intro v163 w2 ho3 hb hg_ hnew_; clear hg_ hnew_; (first | rw [← Ny162.out] at ho3 | (simp only [Int.reduceToNat] at ho3; rw [← Ny162.out] at ho3)); have n0_ := Aside0.mk (Kd.S_lower ho3 (below_size (by repeat (first | (with_reducible first | exact HB.out | apply below_alloc | apply pw_below_drewN | apply below_drew1 | refine below_set ?_ GE161.out) | exact HB.out)))); have n1_ := Aside0.mk (blk_below (g := gb161) (o := .cells #[.slice none 0 0, .bool false] 24 (0, 0)) (by (with_reducible repeat (first | refine blk_drewN ?_ _ | refine blk_drew ?_ | refine blk_alloc ?_ _)); exact BK161.out) hb); have n2_ := Aside0.mk (below_step (by repeat (first | (with_reducible first | exact HB.out | apply below_alloc | apply pw_below_drewN | apply below_drew1 | refine below_set ?_ GE161.out) | exact HB.out)) hb); clear BK161; clear HB; have HO164 := n0_; have BK161 := n1_; have HB := n2_; clear n0_ n1_ n2_; clear hb ho3; obtain ⟨Ao4, co4, eo4⟩ := Kd.S_slice HO164.out; subst eo4; have hcz5_0 : w2.cell? ⟨gb161, 0, none⟩ = some (.slice none 0 0) := (blk_cell BK161.out 0).trans rfl; have hcz5_1 : w2.cell? ⟨gb161, 1, none⟩ = some (.bool false) := (blk_cell BK161.out 1).trans rfl; have hfz5_0 := blk_frozen BK161.out 0; have hfz5_1 := blk_frozen BK161.out 1))
  refine bodyPost_ret (results_cell_row rfl _ _ gb161 24 #[.slice Ao4 y162.length co4, .bool false] (0, 0) _ rfl (by (with_reducible repeat (first | refine blk_drewN ?_ _ | refine blk_drew ?_ | refine blk_alloc ?_ _)); refine blk_put (cs := #[.slice Ao4 y162.length co4, .bool false]) ?_ 1 _ rfl; (with_reducible repeat (first | refine blk_drewN ?_ _ | refine blk_drew ?_ | refine blk_alloc ?_ _)); refine blk_put (cs := #[.slice none 0 0, .bool false]) ?_ 0 _ rfl; (with_reducible repeat (first | refine blk_drewN ?_ _ | refine blk_drew ?_ | refine blk_alloc ?_ _)); exact BK161.out) Tryd.underlying24 rfl (by kernel_rfl)) rfl ?_
  exact ⟨_, by first | rfl | (simp [errW_none, errW_some] <;> rfl) | (simp [*, errW_none, errW_some] <;> rfl), by (with_reducible repeat (first | apply Kd.S_alloc | apply Kd.S_drewN | apply Kd.S_drew)); exact Kd.S_mono (Kd.S_far (p := ⟨gb161, 1, none⟩) (Kd.S_far (p := ⟨gb161, 0, none⟩) (Kd.S_types HO164.out BK161.out (by decide)) (fun _ hk => hk.2) (.slice Ao4 y162.length co4)) (fun _ hk => hk.2) (.bool false)) (fun _ hk => trivial), by repeat (first | (with_reducible first | exact HB.out | apply below_alloc | apply pw_below_drewN | apply below_drew1 | refine below_set ?_ GE161.out) | exact HB.out)⟩

end Go.Proofs.YtaojbobbjnibhaaDoor.PDO
