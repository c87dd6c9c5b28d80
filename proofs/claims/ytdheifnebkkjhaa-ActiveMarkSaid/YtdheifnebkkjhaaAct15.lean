/- Law ActiveMark: the plain side, and the walk. -/
import Derived.Test.YtdheifnebkkjhaaAct14
namespace Go.Proofs.Ytdheifnebkkjhaa.Act
open Go.RowKit Go.Proofs.YtdheifnebkkjhaaW.PrintWords
set_option linter.unusedVariables false
set_option linter.unusedSimpArgs false

def mkS : Sk := (-1, ⟨#[]⟩, 0)
theorem chk_bad {L : List Sk} (h : chkS L = 0) : L.length ≤ 60 ∧ ∀ y ∈ L, badS y = false := by
  unfold chkS at h
  split at h
  · cases h
  · split at h
    · cases h
    · next h1 h2 =>
      refine ⟨by omega, fun y hy => ?_⟩
      cases hf : L.findIdx? badS with
      | none => exact List.findIdx?_eq_none_iff.1 hf y hy
      | some k => rw [idxF_some hf] at h2; omega
theorem chk_of {L : List Sk} (hl : L.length ≤ 60) (h : ∀ y ∈ L, badS y = false) : chkS L = 0 := by
  unfold chkS
  rw [if_neg (by omega), idxF_none (by rw [List.findIdx?_eq_none_iff]; exact fun y hy => h y hy)]
  rfl
theorem bad_pos {y : Sk} (h : 0 ≤ y.1) : badS y = false := by
  unfold badS
  rw [decide_eq_false (by omega), Bool.false_or, show (y.1 == -1) = false from by simp; omega]
  rfl
/-- The last marker stands where L ends. -/
theorem last_mark (L R : List Sk) (hR : ∀ y ∈ R, 0 ≤ y.1) : lastS (L ++ [mkS] ++ R) = L.length + 1 := by
  have key : ∀ j, j ≤ R.length → lastSK (L ++ [mkS] ++ R) (L.length + 1 + j) = L.length + 1 := by
    intro j
    induction j with
    | zero =>
      intro _
      show lastSK (L ++ [mkS] ++ R) (L.length + 1) = _
      simp only [lastSK]
      have e : (L ++ [mkS] ++ R).getD L.length zSk = mkS := by
        rw [List.getD_eq_getElem?_getD, List.append_assoc, List.getElem?_append_right (Nat.le_refl _), Nat.sub_self]
        rfl
      rw [e, if_pos (by rfl)]
    | succ j ih =>
      intro hj
      show lastSK (L ++ [mkS] ++ R) (L.length + 1 + j + 1) = _
      simp only [lastSK]
      have e : (L ++ [mkS] ++ R).getD (L.length + 1 + j) zSk = R[j] := by
        rw [List.getD_eq_getElem?_getD, List.getElem?_append_right (by simp), show L.length + 1 + j - (L ++ [mkS]).length = j from by simp, List.getElem?_eq_getElem (by omega)]
        rfl
      have h0 := hR R[j] (List.getElem_mem _)
      rw [e, if_neg (by simp; omega)]
      exact ih (by omega)
  unfold lastS
  rw [show (L ++ [mkS] ++ R).length = L.length + 1 + R.length from by simp; omega]
  exact key _ (Nat.le_refl _)
theorem push_behind {L R : List Sk} {x : Sk} {S : List Nat} (hR : ∀ y ∈ R, 0 ≤ y.1) (hx : 0 ≤ x.1) (hg : GoodK (L ++ [mkS] ++ R) x S) : ∃ R', pushK (L ++ [mkS] ++ R) x S = L ++ [mkS] ++ R' ∧ (∀ y ∈ R', 0 ≤ y.1) ∧ R'.length ≤ R.length + 1 := by
  unfold pushK
  split
  · next h =>
    obtain ⟨s0, S', rfl⟩ : ∃ s0 S', S = s0 :: S' := by cases S with | nil => simp at h | cons a b => exact ⟨a, b, rfl⟩
    obtain ⟨h1, h2⟩ := hg.1 s0 (by simp)
    rw [last_mark L R hR] at h1
    refine ⟨R.eraseIdx (s0 - (L.length + 1)) ++ [x], ?_, ?_, ?_⟩
    · simp only [List.headD_cons]
      rw [List.eraseIdx_append_of_length_le (by simp; omega)]
      simp only [List.length_append, List.length_singleton, List.append_assoc]
    · intro y hy
      rcases List.mem_append.1 hy with hy | hy
      · exact hR y (List.mem_of_mem_eraseIdx hy)
      · rw [List.mem_singleton] at hy; subst hy; exact hx
    · rw [List.length_append, List.length_singleton, List.length_eraseIdx]
      split <;> omega
  · refine ⟨R ++ [x], by simp only [List.append_assoc], ?_, by simp⟩
    intro y hy
    rcases List.mem_append.1 hy with hy | hy
    · exact hR y hy
    · rw [List.mem_singleton] at hy; subst hy; exact hx
theorem push_mark (L : List Sk) (S : List Nat) : pushK L mkS S = L ++ [mkS] := by
  unfold pushK
  rw [if_neg (fun h => h.1 rfl)]

/-- The law's list behind k rounds. -/
def MarkI (w wr : World) (A : Option Addr) (us : List It) (L : List Sk) (k : Nat) : Prop :=
  RIt wr A us.length us ∧ (∀ y ∈ us, RA wr y) ∧ Below w.heap.size w wr ∧ ∃ R, us.map sk = L ++ [mkS] ++ R ∧ (∀ y ∈ R, 0 ≤ y.1) ∧ R.length ≤ k
theorem MarkI.next {w wr : World} {A : Option Addr} {us : List It} {L : List Sk} {k : Nat} (h : MarkI w wr A us L k) : MarkI w wr A us L (k + 1) := by
  obtain ⟨h1, h2, h3, R, h4, h5, h6⟩ := h
  exact ⟨h1, h2, h3, R, h4, h5, by omega⟩
set_option maxRecDepth 100000 in
set_option maxHeartbeats 4000000 in
theorem mark_walk (A B C : Option Addr) (n0 c0 n1 c1 n2 c2 : Nat) (xs ys : List It) (w : World) (hr : RIt w A n0 xs) (ha : ∀ x ∈ xs, RA w x) (hc : n0 ≤ c0) (hr1 : RIt w B n1 ys) (ha1 : ∀ x ∈ ys, RA w x) (hc1 : n1 ≤ c1) (hc2 : n2 ≤ c2) (h2 : n2 ≤ 9223372036854775807) :
    Calls Try.prog 4 #[.slice A n0 c0, .slice B n1 c1, .slice C n2 c2] w fun e w' => e = .returned (.bool true) ∧ Below w.heap.size w w' := by
  obtain ⟨m0, h0n, h030, hm0⟩ : ∃ k : Nat, k ≤ n0 ∧ k ≤ 30 ∧ min (n0 : Int) 30 = (k : Int) := ⟨(min (n0 : Int) 30).toNat, by omega, by omega, by omega⟩
  obtain ⟨m1, h1n, h120, hm1⟩ : ∃ k : Nat, k ≤ n1 ∧ k ≤ 20 ∧ min (n1 : Int) 20 = (k : Int) := ⟨(min (n1 : Int) 20).toNat, by omega, by omega, by omega⟩
  obtain ⟨m2, h2n, h230, hm2⟩ : ∃ k : Nat, k ≤ n2 ∧ k ≤ 30 ∧ min (n2 : Int) 30 = (k : Int) := ⟨(min (n2 : Int) 30).toNat, by omega, by omega, by omega⟩
  have g0 : m0 ≤ c0 := by omega
  have g1 : m1 ≤ c1 := by omega
  have g2 : m2 ≤ c2 := by omega
  have HR0 := Lib.hid (hr.take h0n)
  have HR1 := Lib.hid (hr1.take h1n)
  have HA0 : Hid (∀ x ∈ xs.take m0, RA w x) := Lib.hid (fun x hx => ha x (List.mem_of_mem_take hx))
  have HA1 : Hid (∀ x ∈ ys.take m1, RA w x) := Lib.hid (fun x hx => ha1 x (List.mem_of_mem_take hx))
  have HH := Lib.hid (And.intro h0n (And.intro h1n (And.intro h2n (And.intro hr.2.1 (And.intro hr1.2.1 (And.intro hc (And.intro hc1 hc2)))))))
  generalize xs.take m0 = xs0 at *
  generalize ys.take m1 = ys0 at *
  clear hr hr1 ha ha1
  have e0 := hm0
  have e1 := hm1
  have e2 := hm2
  go_enter Try.func4, Try.ntmps4
  go_upto_region 1 with fail
  go_cut [0, 1, 2] (fun s0 s1 s2 wx => s0 = .slice A m0 c0 ∧ s1 = .slice B m1 c1 ∧ s2 = .slice C m2 c2 ∧ Hid (Below w.heap.size w wx))
  case first =>
    go_quiet (fail)
    go_wp2_with fail
    all_goals
      go_meet
      exact ⟨by congr 1; omega, by congr 1; omega, by congr 1; omega, Lib.hid (pw_below_drewN (Below.refl _ _) _)⟩
  case rest =>
    obtain ⟨rfl, rfl, rfl, HB⟩ := hcut
    clear e0 e1 e2 hm0 hm1 hm2 HH h0n h1n h2n hc hc1 hc2 h2
    have HL0 := Lib.hid HR0.out.len
    have HP0 : Hid (∀ W, Below w.heap.size w W → Calls Try.prog 5 #[.slice A m0 c0, .agg #[.int .i64 (-1), .string ⟨#[]⟩, .slice none 0 0]] W fun e w' => Below w.heap.size w w' ∧
        ((∃ z, z ≠ 0 ∧ e = .returned (.tuple #[.slice none 0 0, .int .i64 z])) ∨
         (∃ A' c' zs, e = .returned (.tuple #[.slice A' zs.length c', .int .i64 0]) ∧ RIt w' A' zs.length zs ∧ (∀ y ∈ zs, RA w' y) ∧ zs.map sk = xs0.map sk ++ [mkS] ∧ chkS (xs0.map sk ++ [mkS]) = 0))) := Lib.hid (fun W hb => by
      refine (push_any A m0 c0 xs0 ⟨-1, ⟨#[]⟩, none, 0, 0⟩ W (HR0.out.below hb) (fun y hy => (HA0.out y hy).below hb) (RA.nil _ _ _ _) (by omega)).mono ?_
      rintro e w' ⟨hb2, ⟨h, rfl⟩ | ⟨h, A', c', zs, S, rfl, q1, q2, q3, q4⟩⟩
      · exact ⟨hb.trans (hb2.mono hb.size), .inl ⟨_, h, rfl⟩⟩
      · exact ⟨hb.trans (hb2.mono hb.size), .inr ⟨A', c', zs, rfl, q1, q2, by rw [q4]; exact push_mark _ _, h⟩⟩)
    go_wp2_with fail
    refine (HP0.out _ HB.out).mono ?_
    clear HP0
    rintro e w1 ⟨hb1, ⟨z, hz, rfl⟩ | ⟨A1, c1', zs, rfl, q1, q2, q3, q4⟩⟩
    · have HB1 := Lib.hid hb1
      clear hb1
      go_wp2_with fail
      refine (begun_any _).mono ?_
      rintro e w9 ⟨rfl, hb9⟩
      have HB9 := Lib.hid (HB1.out.trans (hb9.mono HB1.out.size))
      clear hb9
      go_wp2_with fail
      go_ret
      exact ⟨rfl, HB9.out⟩
    · have hzl : zs.length = m0 + 1 := by have := congrArg List.length q3; simp only [List.length_map, List.length_append, List.length_singleton] at this; rw [this, HL0.out]
      have hbad := chk_bad q4
      have HLs : Hid (lastS (zs.map sk) = m0 + 1) := Lib.hid (by
        rw [q3]
        have := last_mark (xs0.map sk) [] (fun y hy => by simp at hy)
        rw [List.append_nil, List.length_map, HL0.out] at this
        exact this)
      rw [hzl] at q1
      have HAg : Hid (∀ W, Below w1.heap.size w1 W → Calls Try.prog 8 #[.slice A1 (m0 + 1) c1', .slice C m2 c2] W fun e w' => e = .returned (.tuple #[.slice none 0 0, .int .i64 0]) ∧ Below w1.heap.size w1 w') := Lib.hid (fun W hb => (again_top A1 (m0 + 1) c1' zs C m2 c2 W (q1.below hb) HLs.out (by rw [q3]; exact q4)).mono (fun e w' h => ⟨h.1, hb.trans (h.2.mono hb.size)⟩))
      have HI : Hid (∀ W, Below w1.heap.size w1 W → RIt W A1 (m0 + 1) zs ∧ (∀ y ∈ zs, RA W y) ∧ Below w.heap.size w W) := Lib.hid (fun W hb => ⟨q1.below hb, fun y hy => (q2 y hy).below hb, hb1.trans (hb.mono hb1.size)⟩)
      have HQ3 := Lib.hid q3
      have HBad := Lib.hid hbad
      rw [hzl]
      clear hb1 q1 q2 q3 q4 hzl hbad HLs
      go_wp2_with fail
      refine (HAg.out _ (Below.refl _ _)).mono ?_
      rintro e w2 ⟨rfl, hb2⟩
      have H0 : Hid (∃ us : List It, RIt w2 A1 us.length us ∧ (∀ y ∈ us, RA w2 y) ∧ us.length = m0 + 1 ∧ Below w.heap.size w w2 ∧ ∃ R, us.map sk = xs0.map sk ++ [mkS] ++ R ∧ (∀ y ∈ R, 0 ≤ y.1) ∧ R.length ≤ 0) := Lib.hid (by
        obtain ⟨h1, h2, h3⟩ := HI.out w2 hb2
        have hl := h1.len
        exact ⟨zs, by rw [hl]; exact h1, h2, hl, h3, [], by rw [List.append_nil]; exact HQ3.out, fun y hy => by simp at hy, Nat.le_refl _⟩)
      clear hb2 HAg HI
      go_wp2_with fail
      go_loopw [7, 11] (fun mv i wr => ∃ (k : Nat) (A2 : Option Addr) (c2' : Nat) (us : List It), k ≤ m1 ∧ i = .int .i64 k ∧ mv = .slice A2 us.length c2' ∧ Hid (MarkI w wr A2 us (xs0.map sk) k))
        (fun _ i _ => m1 - (intOf i).toNat)
      case atStart =>
        obtain ⟨us, h1, h2, h3, h4, h5⟩ := H0.out
        exact ⟨0, A1, c1', us, Nat.zero_le _, rfl, by rw [h3], Lib.hid ⟨h1, h2, h4, h5⟩⟩
      case round =>
        obtain ⟨k, A2, c2', us, hk, rfl, rfl, HM⟩ := hrel
        clear H0
        have hul : us.length ≤ m0 + 1 + k := by
          obtain ⟨-, -, -, R, e, -, hR⟩ := HM.out
          have := congrArg List.length e
          simp only [List.length_map, List.length_append, List.length_singleton, HL0.out] at this
          omega
        by_cases hlt : k < m1
        · have hbw := HM.out.2.2.1
          obtain ⟨ad, rfl, d0, d1, d2⟩ := (HR1.out.below hbw).cells k hlt
          have HRA : Hid (RA w (ys0.getD k zIt)) := Lib.hid (HA1.out _ (by rw [getD_of (by rw [HR1.out.len]; exact hlt)]; exact List.getElem_mem _))
          clear hbw
          generalize ys0.getD k zIt = y at *
          by_cases hneg : y.node < 0
          · have HM2 : Hid (MarkI w wr A2 us (xs0.map sk) (k + 1)) := Lib.hid HM.out.next
            go_wp2_with fail
            go_roundw
            case rel => exact ⟨k + 1, A2, c2', us, by omega, by go_num, rfl, HM2⟩
            case measure => simp [intOf]; omega
          · have HP : Hid (∀ W, Below wr.heap.size wr W → Calls Try.prog 5 #[.slice A2 us.length c2', .agg #[.int .i64 y.node, .string y.name, .slice y.A y.n y.c]] W fun e w' => ∃ A3 c3 vs, e = .returned (.tuple #[.slice A3 vs.length c3, .int .i64 0]) ∧ MarkI w w' A3 vs (xs0.map sk) (k + 1)) := Lib.hid (fun W hb => by
              obtain ⟨q1, q2, q3, R, q4, q5, q6⟩ := HM.out
              have hy : 0 ≤ (sk y).1 := by simp only [sk]; omega
              refine (push_any A2 us.length c2' us y W (q1.below hb) (fun z hz => (q2 z hz).below hb) (HRA.out.below (q3.trans (hb.mono q3.size))) (by omega)).mono ?_
              rintro e w' ⟨hb2, ⟨h, rfl⟩ | ⟨h, A3, c3, vs, S, rfl, r1, r2, r3, r4⟩⟩
              · refine absurd (chk_of ?_ ?_) h
                · rw [List.length_append, List.length_map, List.length_singleton]; omega
                · rw [q4]
                  intro z hz
                  rcases List.mem_append.1 hz with hz | hz
                  · rcases List.mem_append.1 hz with hz | hz
                    · exact HBad.out.2 z hz
                    · exact bad_pos (q5 z hz)
                  · rw [List.mem_singleton] at hz; subst hz; exact bad_pos hy
              · rw [q4] at r3 r4
                obtain ⟨R', e1, e2, e3⟩ := push_behind q5 hy r3
                exact ⟨A3, c3, vs, rfl, r1, r2, q3.trans ((hb.trans (hb2.mono hb.size)).mono q3.size), R', by rw [r4]; exact e1, e2, by omega⟩)
            clear HRA
            generalize us.length = ul at *
            go_wp2_with fail
            refine (HP.out _ (Below.refl _ _)).mono ?_
            rintro e w3 ⟨A3, c3, vs, rfl, hm3⟩
            have HM3 := Lib.hid hm3
            clear hm3 HP d0 d1 d2
            go_wp2_with fail
            go_roundw
            case rel => exact ⟨k + 1, A3, c3, vs, by omega, by go_num, rfl, HM3⟩
            case measure => simp [intOf]; omega
        · have hkm : k = m1 := by omega
          subst hkm
          have HCl : Hid (∀ W, Below wr.heap.size wr W → Calls Try.prog 9 #[.slice A2 us.length c2'] W fun e w' => ∃ A3 c3 vs, e = .returned (.tuple #[.slice A3 m0 c3, .int .i64 0]) ∧ RIt w' A3 m0 vs ∧ vs.map sk = xs0.map sk ∧ Below w.heap.size w w') := Lib.hid (fun W hb => by
            obtain ⟨q1, q2, q3, R, q4, q5, q6⟩ := HM.out
            refine (clear_any A2 us.length c2' us W (q1.below hb) (fun z hz => (q2 z hz).below hb) (by omega)).mono ?_
            rintro e w' ⟨hb2, ⟨h, rfl⟩ | ⟨h, A3, c3, vs, rfl, r1, r2⟩⟩
            · refine absurd (chk_of ?_ ?_) h
              · rw [List.length_map]; omega
              · rw [q4]
                intro z hz
                rcases List.mem_append.1 hz with hz | hz
                · exact HBad.out.2 z hz
                · exact bad_pos (q5 z hz)
            · have e1 : vs.map sk = xs0.map sk := by
                rw [r2, q4, last_mark _ R q5, List.append_assoc, Nat.add_sub_cancel, List.take_left]
              have e2 : vs.length = m0 := by have := congrArg List.length e1; simp only [List.length_map] at this; rw [this, HL0.out]
              rw [e2] at r1 ⊢
              exact ⟨A3, c3, vs, rfl, r1, e1, q3.trans ((hb.trans (hb2.mono hb.size)).mono q3.size)⟩)
          clear HM
          generalize us.length = ul at *
          go_wp2_with fail
          refine (HCl.out _ (Below.refl _ _)).mono ?_
          rintro e w3 ⟨A3, c3, vs, rfl, hr3, hs3, hb3⟩
          obtain ⟨G, hG⟩ : ∃ G : World → Prop, G = fun W => Below w.heap.size w W ∧ Below w3.heap.size w3 W := ⟨_, rfl⟩
          have HG0 : Hid (G w3) := Lib.hid (by rw [hG]; exact ⟨hb3, Below.refl _ _⟩)
          have HGd : Hid (∀ W m, G W → G (World.drewN W m)) := Lib.hid (fun W m h => by rw [hG] at h ⊢; exact ⟨pw_below_drewN h.1 _, pw_below_drewN h.2 _⟩)
          have HGb : Hid (∀ W, G W → Below w.heap.size w W) := Lib.hid (fun W h => by rw [hG] at h; exact h.1)
          have HCe : Hid (∀ (j : Nat) (W : World), j < m0 → G W → ∃ (ad ad' : Addr) (nd : Int) (nm : ByteArray) (X X' : Option Addr) (q q1 q2 : Nat), A = some ad ∧ A3 = some ad' ∧ W.cell? (ad.add (j * 3)) = some (.int .i64 nd) ∧ W.cell? ⟨(ad.add (j * 3)).block, (ad.add (j * 3)).off + 1, none⟩ = some (.string nm) ∧ W.cell? ⟨(ad.add (j * 3)).block, (ad.add (j * 3)).off + 2, none⟩ = some (.slice X q q1)
              ∧ W.cell? (ad'.add (j * 3)) = some (.int .i64 nd) ∧ W.cell? ⟨(ad'.add (j * 3)).block, (ad'.add (j * 3)).off + 1, none⟩ = some (.string nm) ∧ W.cell? ⟨(ad'.add (j * 3)).block, (ad'.add (j * 3)).off + 2, none⟩ = some (.slice X' q q2)) := Lib.hid (fun j W hj hb => by
            rw [hG] at hb
            obtain ⟨ad, e, a0, a1, a2⟩ := (HR0.out.below hb.1).cells j hj
            obtain ⟨ad', e', b0, b1, b2⟩ := (hr3.below hb.2).cells j hj
            have hsk : sk (vs.getD j zIt) = sk (xs0.getD j zIt) := by rw [← getD_sk, ← getD_sk, hs3]
            have h1 : (vs.getD j zIt).node = (xs0.getD j zIt).node := congrArg (·.1) hsk
            have h2 : (vs.getD j zIt).name = (xs0.getD j zIt).name := congrArg (·.2.1) hsk
            have h3 : (vs.getD j zIt).n = (xs0.getD j zIt).n := congrArg (·.2.2) hsk
            rw [h1] at b0
            rw [h2] at b1
            rw [h3] at b2
            exact ⟨ad, ad', _, _, _, _, _, _, _, e, e', a0, a1, a2, b0, b1, b2⟩)
          clear hr3 hs3 hb3 hG HCl HR0 HR1 HA0 HA1 HQ3 HBad HB
          go_wp2_with fail
          go_loopw [16] (fun i wr2 => ∃ j : Nat, j ≤ m0 ∧ i = .int .i64 j ∧ Hid (G wr2)) (fun i _ => m0 - (intOf i).toNat)
          case atStart => exact ⟨0, Nat.zero_le _, rfl, HG0⟩
          case round =>
            obtain ⟨j, hj, rfl, HW⟩ := hrel
            clear HG0
            by_cases hjl : j < m0
            · obtain ⟨ad, ad', nd, nm, X, X', q, q1, q2, rfl, rfl, a0, a1, a2, b0, b1, b2⟩ := HCe.out j _ hjl HW.out
              go_wp2_with fail
              go_quiet (fail)
              go_wp2_with fail
              go_roundw
              case rel => exact ⟨j + 1, by omega, by go_num, Lib.hid (HGd.out _ _ HW.out)⟩
              case measure => simp [intOf]; omega
            · go_wp2_with fail
              refine (begun_any _).mono ?_
              rintro e w9 ⟨rfl, hb9⟩
              have HB9 : Hid (Below w.heap.size w w9) := Lib.hid ((HGb.out _ HW.out).trans (hb9.mono (HGb.out _ HW.out).size))
              clear hb9
              go_wp2_with fail
              go_ret
              exact ⟨rfl, HB9.out⟩
end Go.Proofs.Ytdheifnebkkjhaa.Act
