/- Law ActiveArk: the walk. -/
import Derived.Test.YtdheifnebkkjhaaAct11
import Derived.Test.YtdheifnebkkjhaaAct12
namespace Go.Proofs.Ytdheifnebkkjhaa.Act
open Go.RowKit Go.Proofs.YtdheifnebkkjhaaW.PrintWords
set_option linter.unusedVariables false
set_option linter.unusedSimpArgs false

/-- A row of texts that is read. -/
def RS (w : World) (A : Option Addr) (n : Nat) (ss : List ByteArray) : Prop := ReadsOf Value.string ByteArray.empty w A n ss
theorem RS.take {w : World} {A : Option Addr} {n : Nat} {ss : List ByteArray} (h : RS w A n ss) (k : Nat) (hk : k ≤ n) : RS w A k (ss.take k) := by
  obtain ⟨h1, h2, h4⟩ := h
  refine ⟨by simp; omega, by omega, fun h0 => ?_⟩
  obtain ⟨ad, rfl, hc⟩ := h4 (by omega)
  refine ⟨ad, rfl, fun j hj => ?_⟩
  rw [hc j (by omega), List.getD_eq_getElem?_getD, List.getD_eq_getElem?_getD, List.getElem?_take, if_pos hj]
theorem RS.below {w W : World} {A : Option Addr} {n : Nat} {ss : List ByteArray} (h : RS w A n ss) (hb : Below w.heap.size w W) : RS W A n ss := ReadsOf.below h hb
theorem RS.at {w : World} {A : Option Addr} {n : Nat} {ss : List ByteArray} (h : RS w A n ss) (k : Nat) (hk : k < n) : ∃ ad, A = some ad ∧ w.cell? (ad.add k) = some (.string (ss.getD k ByteArray.empty)) := by
  obtain ⟨ad, e, hc⟩ := h.2.2 (by omega)
  exact ⟨ad, e, hc k hk⟩
set_option maxRecDepth 100000 in
set_option maxHeartbeats 4000000 in
theorem ark_walk (A : Option Addr) (n0 c : Nat) (ss : List ByteArray) (mark : Int) (w : World) (hr : RS w A n0 ss) (hc : n0 ≤ c) :
    Calls Try.prog 3 #[.slice A n0 c, .int .i64 mark] w fun e w' => e = .returned (.bool true) ∧ Below w.heap.size w w' := by
  obtain ⟨n, hn, hn2, hmin⟩ : ∃ k : Nat, k ≤ n0 ∧ k ≤ 40 ∧ (min (n0 : Int) 40).toNat = k := ⟨_, by omega, by omega, rfl⟩
  have hrk := hr.take n hn
  have HR := Lib.hid hrk
  have hn0 : n0 ≤ 9223372036854775807 := hr.2.1
  have hkc : n ≤ c := by omega
  have HMIN := Lib.hid hmin
  clear hrk hr hmin
  generalize ss.take n = tt at HR
  go_enter Try.func3, Try.ntmps3
  go_upto_region 1 with fail
  go_cut [0] (fun s0 wx => s0 = .slice A n c ∧ w = wx)
  case first =>
    by_cases h40 : (n0 : Int) ≤ 40
    · have hnn : n = n0 := by have := HMIN.out; omega
      subst hnn
      clear HMIN
      go_wp2_with fail
      all_goals (go_meet; exact ⟨rfl, rfl⟩)
    · have hnn : n = 40 := by have := HMIN.out; omega
      subst hnn
      clear HMIN
      go_wp2_with fail
      all_goals (go_meet; exact ⟨rfl, rfl⟩)
  case rest =>
    obtain ⟨rfl, rfl⟩ := hcut
    clear HMIN hn hn0
    go_wp2_with fail
    have H0 : Hid (ArkI ([] : List Sk) 0 ∧ RIt w none 0 [] ∧ ∀ y ∈ ([] : List It), RA w y) := Lib.hid ⟨ArkI.nil, RIt.nil _, fun y hy => by simp at hy⟩
    go_loopw [5, 6] (fun l i wr => ∃ (k : Nat) (A1 : Option Addr) (c1 : Nat) (zs : List It), k ≤ n ∧ i = .int .i64 k ∧ l = .slice A1 zs.length c1 ∧ Hid (ArkI (zs.map sk) k ∧ RIt wr A1 zs.length zs ∧ (∀ y ∈ zs, RA wr y)) ∧ Hid (Below w.heap.size w wr))
      (fun _ i _ => n - (intOf i).toNat)
    case atStart => exact ⟨0, none, 0, [], Nat.zero_le _, rfl, rfl, H0, Lib.hid (Below.refl _ _)⟩
    case round =>
      obtain ⟨k, A1, c1, zs, hk, rfl, rfl, HZ, HB⟩ := hrel
      clear H0
      by_cases hlt : k < n
      · obtain ⟨ad, rfl, cn⟩ := (HR.out.below HB.out).at k hlt
        have HP : Hid (∀ (x : It) (W : World), x.n = 0 → x.A = none → (x.node = -1 → x.name.toList = []) → -1 ≤ x.node → Below wr.heap.size wr W → Calls Try.prog 5 #[.slice A1 zs.length c1, itVal x] W fun e w' => ∃ A2 c2 ys, e = .returned (.tuple #[.slice A2 ys.length c2, .int .i64 0]) ∧ Hid (ArkI (ys.map sk) (k + 1) ∧ RIt w' A2 ys.length ys ∧ (∀ y ∈ ys, RA w' y)) ∧ ys.length ≤ zs.length + 1 ∧ Hid (∃ L1, ys.map sk = L1 ++ [sk x]) ∧ Below w.heap.size w w') := Lib.hid (fun x W h1 h2 h3 h4 hb => by
          obtain ⟨q1, q2, q3⟩ := HZ.out
          have hx : (sk x).2.2 = 0 ∧ ((sk x).1 = -1 → (sk x).2.1.toList = []) ∧ -1 ≤ (sk x).1 := ⟨h1, h3, h4⟩
          have hzl : zs.length ≤ k := by have := q1.1; rw [List.length_map] at this; exact this
          have hra : RA W x := ⟨by rw [h1]; exact Nat.zero_le _, [], by rw [h1]; rfl, by rw [h1]; exact Nat.zero_le _, fun h0 => by rw [h1] at h0; exact absurd h0 (Nat.lt_irrefl _)⟩
          refine (push_any A1 zs.length c1 zs x W (q2.below hb) (fun y hy => (q3 y hy).below hb) hra (by omega)).mono ?_
          rintro e w' ⟨hb2, ⟨h, rfl⟩ | ⟨h, A2, c2, ys, S, rfl, r1, r2, r3, r4⟩⟩
          · exact absurd (q1.chk (by omega) hx) h
          · obtain ⟨L1, e1, e2, e3⟩ := pushK_last (zs.map sk) (sk x) S
            refine ⟨A2, c2, ys, rfl, Lib.hid ⟨by rw [r4]; exact q1.push r3 hx, r1, r2⟩, ?_, Lib.hid ⟨L1, by rw [r4]; exact e1⟩, HB.out.trans ((hb.trans (hb2.mono hb.size)).mono HB.out.size)⟩
            have := congrArg List.length r4
            rw [e1, List.length_append, List.length_singleton, List.length_map] at this
            rw [List.length_map] at e2
            omega)
        obtain ⟨nm, hnm⟩ : ∃ nm, nm = tt.getD k ByteArray.empty := ⟨_, rfl⟩
        rw [← hnm] at cn
        have HNm := Lib.hid hnm
        clear hnm
        have HN := Lib.hid cn
        by_cases hm : (k : Int) = mark
        · subst hm
          go_wp2_with fail
          refine (HP.out ⟨-1, ⟨#[]⟩, none, 0, 0⟩ _ rfl rfl (fun _ => by simp [ByteArray.toList_eq]) (by decide) (by (repeat (first | exact Below.refl _ _ | refine below_alloc ?_ _ | refine below_drew ?_ | refine Below.setCell ?_ (by simp) _)))).mono ?_
          rintro e w2 ⟨A2, c2, ys, rfl, HA2, hyl, HL2, hb2⟩
          have HB2 := Lib.hid hb2
          clear hb2 HP
          have hzl : zs.length ≤ 40 := by have := HZ.out.1.1; rw [List.length_map] at this; omega
          clear HZ
          generalize zs.length = zl at *
          have hwr := wr_nat1 zl (by omega)
          have hyi : (ys.length : Int) ≤ (zl : Int) + 1 := by omega
          go_wp2_with fail
          go_roundw
          case rel => exact ⟨k + 1, A2, c2, ys, by omega, by go_num, rfl, HA2, HB2⟩
          case measure => simp [intOf]; omega
        · have hkm : ((k : Int) == mark) = false := by simpa using hm
          go_wp2_with fail
          refine (HP.out ⟨(k : Int), nm, none, 0, 0⟩ _ rfl rfl (fun h => by simp only at h; omega) (by simp only; omega) (by (repeat (first | exact Below.refl _ _ | refine below_alloc ?_ _ | refine below_drew ?_ | refine Below.setCell ?_ (by simp) _)))).mono ?_
          rintro e w2 ⟨A2, c2, ys, rfl, HA2, hyl, HL2, hb2⟩
          have HB2 := Lib.hid hb2
          clear hb2 HP
          have hzl : zs.length ≤ 40 := by have := HZ.out.1.1; rw [List.length_map] at this; omega
          clear HZ
          generalize zs.length = zl at *
          have hwr := wr_nat1 zl (by omega)
          have hyi : (ys.length : Int) ≤ (zl : Int) + 1 := by omega
          have HCN : Hid (∀ W, Below w.heap.size w W → W.cell? (ad.add k) = some (.string nm)) := Lib.hid (fun W hb => by
            obtain ⟨ad', e', cn2⟩ := (HR.out.below hb).at k hlt
            injection e' with e'
            subst e'
            rw [← HNm.out] at cn2
            exact cn2)
          obtain ⟨m, hm1⟩ : ∃ m, ys.length = m + 1 := by
            obtain ⟨L1, e⟩ := HL2.out
            have := congrArg List.length e
            rw [List.length_map, List.length_append] at this
            exact ⟨L1.length, this⟩
          have HF : Hid (∀ W, Below w2.heap.size w2 W → Calls Try.prog 6 #[.slice A2 (m + 1) c2, .string nm] W fun e w' => e = .returned (.tuple #[.int .i64 m, .bool true, .int .i64 0]) ∧ Below w2.heap.size w2 w') := Lib.hid (fun W hb => by
            obtain ⟨L1, e⟩ := HL2.out
            have hl : L1.length = m := by
              have := congrArg List.length e
              rw [List.length_map, List.length_append, hm1] at this
              simpa using this.symm
            have hrd := HA2.out.2.1.below hb
            rw [hm1] at hrd
            have hch := HA2.out.1.chk0 (by omega)
            have hfo : foundK (ys.map sk) nm (m + 1) = m := by
              rw [e, ← hl]
              exact foundK_last L1 (sk ⟨(k : Int), nm, none, 0, 0⟩) (by simp only [sk]; omega)
            refine (find_any A2 (m + 1) c2 ys nm W hrd).mono ?_
            rintro e w' ⟨hb2, ⟨h, rfl⟩ | ⟨h, rfl⟩⟩
            · exact absurd hch h
            · refine ⟨?_, hb.trans (hb2.mono hb.size)⟩
              rw [hfo, decide_eq_true (by omega), show max (m : Int) 0 = m from by omega])
          have HIt : Hid (∀ W, Below w2.heap.size w2 W → ∃ ad2, A2 = some ad2 ∧ W.cell? (ad2.add (m * 3)) = some (.int .i64 k)) := Lib.hid (fun W hb => by
            obtain ⟨L1, e⟩ := HL2.out
            have hl : L1.length = m := by
              have := congrArg List.length e
              rw [List.length_map, List.length_append, hm1] at this
              simpa using this.symm
            have hrd := HA2.out.2.1.below hb
            rw [hm1] at hrd
            obtain ⟨ad2, e2, c0, -, -⟩ := hrd.cells m (Nat.lt_succ_self m)
            refine ⟨ad2, e2, ?_⟩
            have hg : (ys.map sk).getD m zSk = sk ⟨(k : Int), nm, none, 0, 0⟩ := by rw [e, List.getD_eq_getElem?_getD, List.getElem?_append_right (by omega), hl, Nat.sub_self]; rfl
            rw [getD_sk] at hg
            have hg1 : (ys.getD m zIt).node = k := congrArg (·.1) hg
            rw [hg1] at c0
            exact c0)
          obtain ⟨ad2, rfl, -⟩ := HIt.out w2 (Below.refl _ _)
          have hcn := HCN.out w2 HB2.out
          rw [hm1] at hyi ⊢
          have HM1 := Lib.hid hm1
          clear hm1 hyl HL2 cn HN
          have hwm : IntKind.i64.wrap (((m + 1 : Nat) : Int) - 1) = m := by rw [IntKind.wrap_i64]; omega
          go_wp2_with fail
          refine (HF.out _ (Below.refl _ _)).mono ?_
          rintro e w3 ⟨rfl, hb3⟩
          obtain ⟨ad2', e2, c0⟩ := HIt.out w3 hb3
          injection e2 with e2
          subst e2
          have HA3 : Hid (ArkI (ys.map sk) (k + 1) ∧ RIt w3 (some ad2) ys.length ys ∧ (∀ y ∈ ys, RA w3 y)) := Lib.hid ⟨HA2.out.1, HA2.out.2.1.below hb3, fun y hy => (HA2.out.2.2 y hy).below hb3⟩
          have HB3 := Lib.hid (HB2.out.trans (hb3.mono HB2.out.size))
          clear hb3 hcn hyi hwr
          go_wp2_with fail
          go_roundw
          case rel => exact ⟨k + 1, some ad2, c2, ys, by omega, by go_num, by rw [HM1.out], HA3, HB3⟩
          case measure => simp [intOf]; omega
      · have hkn : k = n := by omega
        subst hkn
        obtain ⟨q1, q2, q3⟩ := HZ.out
        have hzl : zs.length ≤ 40 := by have := q1.1; rw [List.length_map] at this; omega
        have HK := Lib.hid q1
        have HRd := Lib.hid q2
        clear q1 q2 q3 HZ hlt
        obtain ⟨G, hG⟩ : ∃ G : World → Prop, G = fun W => Below w.heap.size w W ∧ Below wr.heap.size wr W := ⟨_, rfl⟩
        have HG0 : Hid (G wr) := Lib.hid (by rw [hG]; exact ⟨HB.out, Below.refl _ _⟩)
        have HGd : Hid (∀ W m, G W → G (World.drewN W m)) := Lib.hid (fun W m h => by rw [hG] at h ⊢; exact ⟨pw_below_drewN h.1 _, pw_below_drewN h.2 _⟩)
        have HGb : Hid (∀ W, G W → Below w.heap.size w W) := Lib.hid (fun W h => by rw [hG] at h; exact h.1)
        have HCe : Hid (∀ (p : Nat) (W : World), p < zs.length → G W → ∃ ad, A1 = some ad ∧ W.cell? (ad.add (p * 3)) = some (.int .i64 ((zs.map sk).getD p zSk).1) ∧ W.cell? ⟨(ad.add (p * 3)).block, (ad.add (p * 3)).off + 1, none⟩ = some (.string ((zs.map sk).getD p zSk).2.1)) := Lib.hid (fun p W hp hb => by
          rw [hG] at hb
          obtain ⟨ad, e, c0, c1, -⟩ := (HRd.out.below hb.2).cells p hp
          refine ⟨ad, e, ?_, ?_⟩
          · rw [getD_sk]; exact c0
          · rw [getD_sk]; exact c1)
        have HMk : Hid (∀ s i, manyK (zs.map sk) s (zs.length - i) i ≤ 3) := Lib.hid (fun s i => by have := HK.out.many s i; rw [List.length_map] at this; exact this)
        clear HK HRd HR hG HB
        generalize zs.map sk = L at *
        generalize zs.length = zl at *
        go_wp2_with fail
        go_loopw [13] (fun i wr2 => ∃ j : Nat, j ≤ zl ∧ i = .int .i64 j ∧ Hid (G wr2)) (fun i _ => zl - (intOf i).toNat)
        case atStart => exact ⟨0, Nat.zero_le _, rfl, HG0⟩
        case round =>
          obtain ⟨j, hj, rfl, HB2⟩ := hrel
          clear HG0
          by_cases hjl : j < zl
          · obtain ⟨ad, rfl, c0, c1⟩ := HCe.out j _ hjl HB2.out
            have HMj : Hid (0 + manyK L (L.getD j zSk).2.1.toList (zl - j) j ≤ 3) := Lib.hid (by rw [Nat.zero_add]; exact HMk.out _ _)
            have HCj : Hid (∀ (W : World), G W → W.cell? (ad.add (j * 3)) = some (.int .i64 (L.getD j zSk).1) ∧ W.cell? ⟨(ad.add (j * 3)).block, (ad.add (j * 3)).off + 1, none⟩ = some (.string (L.getD j zSk).2.1)) := Lib.hid (fun W h1 => by
              obtain ⟨ad', e, d0, d1⟩ := HCe.out j W hjl h1
              injection e with e
              subst e
              exact ⟨d0, d1⟩)
            clear c0 c1
            generalize (L.getD j zSk).1 = ndj at *
            generalize (L.getD j zSk).2.1 = nmj at *
            go_wp2_with fail
            go_loopw [14, 15] (fun mq kp wr3 => ∃ q p : Nat, j ≤ p ∧ p ≤ zl ∧ mq = .int .i64 q ∧ kp = .int .i64 p ∧ Hid (q + manyK L nmj.toList (zl - p) p ≤ 3) ∧ Hid (G wr3)) (fun _ kp _ => zl - (intOf kp).toNat)
            case atStart => exact ⟨0, j, Nat.le_refl _, hj, rfl, rfl, HMj, HB2⟩
            case round =>
              obtain ⟨q, p, hjp, hp, rfl, rfl, HQ, HB3⟩ := hrel
              clear HMj HB2
              obtain ⟨d0, d1⟩ := HCj.out _ HB3.out
              have hq3 : q ≤ 3 := by have := HQ.out; omega
              have hwq := wr_nat1 q (by omega)
              by_cases hpl : p < zl
              · obtain ⟨ad', e', c0, c1⟩ := HCe.out p _ hpl HB3.out
                injection e' with e'
                subst e'
                have HQ1 : Hid (0 ≤ (L.getD p zSk).1 → q + ((if nmB nmj.toList (L.getD p zSk) then 1 else 0) + manyK L nmj.toList (zl - (p + 1)) (p + 1)) ≤ 3) := Lib.hid (fun h0 => by
                  have := HQ.out
                  rw [show zl - p = (zl - (p + 1)) + 1 from by omega] at this
                  simp only [manyK] at this
                  rw [if_neg (by omega)] at this
                  exact this)
                have HNb : Hid (nmB nmj.toList (L.getD p zSk) = ((L.getD p zSk).2.1.toList == nmj.toList)) := Lib.hid rfl
                generalize nmB nmj.toList (L.getD p zSk) = eqb at *
                generalize (L.getD p zSk).1 = ndp at *
                generalize (L.getD p zSk).2.1 = nmp at *
                by_cases h0 : 0 ≤ ndp
                · by_cases hs : nmp.toList = nmj.toList
                  · have hs' : (nmp.toList == nmj.toList) = true := by simpa using hs
                    have HQ2 : Hid ((q + 1) + manyK L nmj.toList (zl - (p + 1)) (p + 1) ≤ 3) := Lib.hid (by have := HQ1.out h0; rw [HNb.out, hs', if_pos rfl] at this; omega)
                    clear HQ1 HNb
                    go_wp2_with fail
                    go_quiet (fail)
                    go_wp2_with fail
                    go_roundw
                    case rel => exact ⟨q + 1, p + 1, by omega, by omega, by go_num, by go_num, HQ2, Lib.hid (HGd.out _ _ HB3.out)⟩
                    case measure => simp [intOf]; omega
                  · have hs' : (nmp.toList == nmj.toList) = false := by simpa using hs
                    have HQ2 : Hid (q + manyK L nmj.toList (zl - (p + 1)) (p + 1) ≤ 3) := Lib.hid (by have := HQ1.out h0; rw [HNb.out, hs'] at this; simpa using this)
                    clear HQ1 HNb
                    go_wp2_with fail
                    go_quiet (fail)
                    go_wp2_with fail
                    go_roundw
                    case rel => exact ⟨q, p + 1, by omega, by omega, rfl, by go_num, HQ2, Lib.hid (HGd.out _ _ HB3.out)⟩
                    case measure => simp [intOf]; omega
                · have hq4 : ¬ (3 < (q : Int)) := by omega
                  go_wp2_with fail
                  all_goals
                    go_roundw
                    case rel => exact ⟨j + 1, by omega, by go_num, HB3⟩
                    case measure => simp [intOf]; omega
              · have hq4 : ¬ (3 < (q : Int)) := by omega
                go_wp2_with fail
                all_goals
                  go_roundw
                  case rel => exact ⟨j + 1, by omega, by go_num, HB3⟩
                  case measure => simp [intOf]; omega
          · go_wp2_with fail
            refine (begun_any _).mono ?_
            rintro e w9 ⟨rfl, hb9⟩
            have HB9 : Hid (Below w.heap.size w w9) := Lib.hid ((HGb.out _ HB2.out).trans (hb9.mono (HGb.out _ HB2.out).size))
            clear hb9
            go_wp2_with fail
            go_ret
            exact ⟨rfl, HB9.out⟩
end Go.Proofs.Ytdheifnebkkjhaa.Act
