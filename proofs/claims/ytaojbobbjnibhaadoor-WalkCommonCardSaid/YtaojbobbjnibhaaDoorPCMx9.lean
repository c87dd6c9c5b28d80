-- printed by wip/tools/pr.py (own) through the kit's printer; texts GIVEN by hand stand among them
import Derived.Test.YtaojbobbjnibhaaDoorPCMx0
import Derived.Test.YtaojbobbjnibhaaDoorPCMx6
import Derived.Test.YtaojbobbjnibhaaDoorPCMx8
namespace Go.Proofs.YtaojbobbjnibhaaDoor.PCM
open Go.RowKit Go.Proofs.YtaojbobbjnibhaaDoorW.PrintWords Go.Proofs.YtaojbobbjnibhaaDoorW.PrintLast Go.Proofs.YtaojbobbjnibhaaDoorW.PrintMore
attribute [local go_sem] max2_int min2_int max_two min_two max_three min_three max_four min_four   -- for this text's walks alone
set_option linter.unusedVariables false
set_option linter.unusedSimpArgs false

/-! ### walk_Common: function 10 -/
/-- The last number that two ways share. -/
def walk_Common.go : Option Int → List Int → List Int → Option Int
  | pr, p :: ps, q :: qs => if p = q then walk_Common.go (some p) ps qs else pr
  | pr, [], _ => pr
  | pr, _ :: _, [] => pr
def walk_Common.f (k : Nat) (l : List S35) (q : Bool) (a b : Int) : Option (Int × Int) :=
  (walk_check.f k l q [a, b]).bind fun e => if e = 0 then (walk_walker_path.f k l q a).bind fun pa => (walk_walker_path.f k l q b).bind fun pb => (walk_Common.go none pa.1 pb.1).bind fun r => some (r, 0) else some (0, e)
theorem walk_Common.mono (l : List S35) (q : Bool) (a b : Int) (k : Nat) : LeO (walk_Common.f k l q a b) (walk_Common.f (k + 1) l q a b) :=
  LeO.bind (walk_check.mono _ _ _ _) fun _ => LeO.ite (LeO.bind (walk_walker_path.mono _ _ _ _) fun _ => LeO.bind (walk_walker_path.mono _ _ _ _) fun _ => LeO.refl _) (LeO.refl _)
theorem walk_Common.go_end (pr : Option Int) : ∀ (ps qs : List Int), ps = [] ∨ qs = [] → walk_Common.go pr ps qs = pr
  | [], qs, _ => by cases qs <;> rfl
  | _ :: _, [], _ => rfl
  | _ :: _, _ :: _, h => by simp at h

set_option maxRecDepth 100000 in
set_option maxHeartbeats 4000000 in
theorem walk_Common.calls (k : Nat) (A0_0 : Option Addr) (c0_0 : Nat) (l0_0 : List S35) (a0_1 : Bool) (a1 : Int) (a2 : Int) (r1 : Int) (r2 : Int) (w : World) (hr0_0 : Kd.C k35 w A0_0 l0_0.length l0_0) (hc0_0 : l0_0.length ≤ c0_0) (h : walk_Common.f k l0_0 a0_1 a1 a2 = some (r1, r2)) :
    Calls Tryd.prog 10 #[.agg #[.slice A0_0 l0_0.length c0_0, .bool a0_1], .int .i64 a1, .int .i64 a2] w fun e w' => e = .returned (.tuple #[.int .i64 r1, .int .i64 r2]) ∧ Below w.heap.size w w' := by
  obtain ⟨e1, he1, h⟩ := Option.bind_eq_some_iff.1 h
  have hw0 := (Below.refl w.heap.size w).alloc (Nat.le_refl _) (.cells #[.slice A0_0 l0_0.length c0_0, .bool a0_1] 24)
  obtain ⟨w1, hw1⟩ : ∃ w1, w1 = ((w.alloc (.cells #[.slice A0_0 l0_0.length c0_0, .bool a0_1] 24)).alloc (.cells #[.int .i64 a1, .int .i64 a2] 3)) := ⟨_, rfl⟩
  have hb1 : Below w.heap.size w w1 := by rw [hw1]; exact hw0.alloc hw0.size _
  have hL : Kd.C (Kd.int .i64) w1 (some ⟨w.heap.size + 1, 0, none⟩) [a1, a2].length [a1, a2] := by
    rw [hw1, show w.heap.size + 1 = (w.alloc (.cells #[.slice A0_0 l0_0.length c0_0, .bool a0_1] 24)).heap.size from by simp]
    exact lit_reads (w.alloc (.cells #[.slice A0_0 l0_0.length c0_0, .bool a0_1] 24)) [a1, a2] 3 (by simp)
  have hC1 := walk_check.calls k A0_0 c0_0 l0_0 a0_1 _ 2 [a1, a2] e1 w1 (Kd.C_below hr0_0 hb1) hc0_0 hL he1
  rw [show [a1, a2].length = 2 from rfl] at hC1
  have HC1 := Lib.hid hC1
  clear hL hC1
  have HR : Hid (Kd.C k35 w1 A0_0 l0_0.length l0_0) := Lib.hid (Kd.C_below hr0_0 hb1)
  have HB1 := Lib.hid hb1
  have HW1 := Lib.hid hw1
  clear hr0_0 hw0 he1 hb1 hw1
  by_cases h0 : e1 = 0
  · rw [if_pos h0] at h
    subst h0
    obtain ⟨⟨ps, q1⟩, hp, h⟩ := Option.bind_eq_some_iff.1 h
    obtain ⟨⟨qs, q2⟩, hq, h⟩ := Option.bind_eq_some_iff.1 h
    obtain ⟨r, hg, h⟩ := Option.bind_eq_some_iff.1 h
    have he := Option.some.inj h
    simp only [Prod.mk.injEq] at he
    obtain ⟨rfl, rfl⟩ := he
    have e1 := walk_path_q k _ _ _ _ _ _ (show walk_walker_path.l0 k a1 [] l0_0 a0_1 = some (ps, q1) from hp)
    subst e1
    have e2 := walk_path_q k _ _ _ _ _ _ (show walk_walker_path.l0 k a2 [] l0_0 q1 = some (qs, q2) from hq)
    subst e2
    have HG : Hid (walk_Common.go none ps qs = some r) := Lib.hid hg
    have HP1 := Lib.hid (fun g w0 W hI hB => walk_walker_path.calls k g l0_0 q2 a1 ps q2 w0 W hI hB hp)
    have HP2 := Lib.hid (fun g w0 W hI hB => walk_walker_path.calls k g l0_0 q2 a2 qs q2 w0 W hI hB hq)
    clear h hg hp hq
    go_enter Tryd.func10, Tryd.ntmps10
    go_wp2_with fail
    rw [← HW1.out]
    with_reducible refine HC1.out.mono ?_
    intro e w2 hP
    obtain ⟨g, rfl, hi, hb⟩ := hP.1 rfl
    have HI := Lib.hid hi
    have HB2 := Lib.hid hb
    clear hi hb hP
    go_wp2_with fail
    refine (HP1.out _ _ _ HI.out HB2.out).mono ?_
    rintro e w3 ⟨v1, rfl, hv1, hi3, hb3, _⟩
    have HI3 := Lib.hid hi3
    have HB3 := Lib.hid hb3
    have HV1 := Lib.hid hv1
    clear hi3 hb3 hv1
    go_wp2_with fail
    refine (HP2.out _ _ _ HI3.out HB3.out).mono ?_
    rintro e w4 ⟨v2, rfl, hv2, hi4, hb4, hk4⟩
    obtain ⟨B, cb, rfl, hlb, hCB⟩ := Kd.R_reads hv2
    have hlt := HI.out.lt
    obtain ⟨A, ca, rfl, hla, hCA⟩ := Kd.R_reads (Kd.R_keep (Kd.R_mono (ok' := fun k => w2.heap.size ≤ k) (Kd.R_bound HV1.out) (fun _ hk => hk.2.1)) hk4 (fun _ hk => by omega))
    have HCA := Lib.hid hCA
    have HCB := Lib.hid hCB
    have HB4 := Lib.hid hb4
    have hna : ps.length ≤ 9223372036854775807 := hCA.2.1
    have hnb : qs.length ≤ 9223372036854775807 := hCB.2.1
    clear hi4 hb4 hv2 hk4 hCA hCB hla hlb hlt
    have HBW : Hid (Below w.heap.size w w4) := Lib.hid (HB1.out.trans (HB4.out.mono HB1.out.size))
    obtain ⟨np, hnp⟩ : ∃ n, n = ps.length := ⟨_, rfl⟩
    obtain ⟨nq, hnq⟩ : ∃ n, n = qs.length := ⟨_, rfl⟩
    rw [← hnp, ← hnq]
    rw [← hnp] at hna HCA
    rw [← hnq] at hnb HCB
    have HNP := Lib.hid hnp
    have HNQ := Lib.hid hnq
    clear hnp hnq
    go_wp2_with fail
    go_loopw [12] (fun i wr => ∃ t : Nat, t ≤ np ∧ t ≤ nq ∧ i = .int .i64 t ∧ Hid (walk_Common.go (prevOf ps t) (ps.drop t) (qs.drop t) = some r) ∧ Hid (∃ nd, wr = w4.drewN nd)) (fun i _ => np - (intOf i).toNat)
    case atStart => exact ⟨0, Nat.zero_le _, Nat.zero_le _, rfl, HG, Lib.hid ⟨0, rfl⟩⟩
    case round =>
      obtain ⟨t, ht1, ht2, rfl, HT, HD⟩ := hrel
      have HBr : Hid (Below w.heap.size w wr) := Lib.hid (by obtain ⟨nd, hnd⟩ := HD.out; rw [hnd]; exact pw_below_drewN HBW.out _)
      have s0 : (0 : Int) ≤ (t : Int) := by omega
      -- where it ends at t: the number ahead
      have hend : prevOf ps t = some r → ∃ ada, A = some ada ∧ 1 ≤ t ∧ wr.cell? (ada.add (t - 1)) = some (.int .i64 r) := fun h1 => by
        have ht0 : t ≠ 0 := fun e => by rw [show prevOf ps t = none from by unfold prevOf; rw [if_pos e]] at h1; cases h1
        unfold prevOf at h1
        rw [if_neg ht0] at h1
        obtain ⟨adc, eac, cc0⟩ := Kd.at_int HCA.out ((t : Int) - 1) (by omega) (by omega)
        refine ⟨adc, eac, by omega, ?_⟩
        rw [Option.some.inj h1, show ((t : Int) - 1).toNat = t - 1 from by omega] at cc0
        obtain ⟨nd, hnd⟩ := HD.out
        rw [hnd]; exact cc0
      by_cases h1 : t < np
      · by_cases h2 : t < nq
        · obtain ⟨ada, ea, ca0⟩ := Kd.at_int HCA.out (t : Int) (by omega) (by omega)
          obtain ⟨adb, rfl, cb0⟩ := Kd.at_int HCB.out (t : Int) (by omega) (by omega)
          rw [Int.toNat_natCast] at ca0 cb0
          have ca1 : wr.cell? (ada.add t) = some (.int .i64 (rd ps t)) := by obtain ⟨nd, hnd⟩ := HD.out; rw [hnd]; exact ca0
          have cb1 : wr.cell? (adb.add t) = some (.int .i64 (rd qs t)) := by obtain ⟨nd, hnd⟩ := HD.out; rw [hnd]; exact cb0
          clear ca0 cb0
          have HXp : Hid (ps.drop t = rd ps t :: ps.drop (t + 1)) := Lib.hid (by
            have hl := HNP.out
            rw [List.drop_eq_getElem_cons (by omega)]
            unfold rd; rw [Int.toNat_natCast, List.getD_eq_getElem?_getD, List.getElem?_eq_getElem (by omega)]; rfl)
          have HXq : Hid (qs.drop t = rd qs t :: qs.drop (t + 1)) := Lib.hid (by
            have hl := HNQ.out
            rw [List.drop_eq_getElem_cons (by omega)]
            unfold rd; rw [Int.toNat_natCast, List.getD_eq_getElem?_getD, List.getElem?_eq_getElem (by omega)]; rfl)
          have HXr : Hid (prevOf ps (t + 1) = some (rd ps t)) := Lib.hid (by unfold prevOf; rw [if_neg (by omega), show (((t + 1 : Nat) : Int) - 1) = (t : Int) from by omega])
          obtain ⟨p, hp⟩ : ∃ p, p = rd ps t := ⟨_, rfl⟩
          obtain ⟨q, hq⟩ : ∃ q, q = rd qs t := ⟨_, rfl⟩
          rw [← hp] at ca1 HXp HXr
          rw [← hq] at cb1 HXq
          clear hp hq
          have HT1 := HT.out
          rw [HXp.out, HXq.out] at HT1
          simp only [walk_Common.go] at HT1
          have s1 : (t : Int) < (np : Int) := by omega
          have s2 : (t : Int) < (nq : Int) := by omega
          have d1 : decide (t < np) = true := decide_eq_true h1
          have d2 : decide (t < nq) = true := decide_eq_true h2
          by_cases hpq : p = q
          · subst hpq
            rw [if_pos rfl, ← HXr.out] at HT1
            have HT2 := Lib.hid HT1
            subst ea
            clear HT1 HT hend
            go_wp2_with fail
            go_quiet (fail)
            go_wp2_with fail
            go_roundw
            case rel => exact ⟨t + 1, by omega, by omega, by go_num, HT2, Lib.hid (by obtain ⟨nd, hnd⟩ := HD.out; exact ⟨nd + _, by rw [hnd, World.drewN_drewN]⟩)⟩
            case measure => simp [intOf]; omega
          · rw [if_neg hpq] at HT1
            obtain ⟨adc, eac, ht, hcell⟩ := hend HT1
            rw [ea] at eac
            obtain rfl := Option.some.inj eac
            subst ea
            have hne : (p == q) = false := by simpa using hpq
            have s3 : (0 : Int) ≤ (t : Int) - 1 := by omega
            have s4 : (t : Int) - 1 < (np : Int) := by omega
            have s5 : (1 : Int) ≤ (t : Int) := by omega
            have sw : IntKind.i64.wrap ((t : Int) - 1) = (t : Int) - 1 := IntWalk.i64_in _ (by omega)
            clear HT1 HT eac hend
            go_wp2_with fail
            go_quiet (fail)
            go_wp2_with fail
            go_ret2
            exact ⟨rfl, pw_below_drewN HBr.out _⟩
        · have HT1 := HT.out
          rw [walk_Common.go_end _ _ _ (.inr (List.drop_eq_nil_of_le (by have := HNQ.out; omega)))] at HT1
          obtain ⟨ada, rfl, ht, hcell⟩ := hend HT1
          have d1 : decide (t < np) = true := decide_eq_true h1
          have d2 : decide (t < nq) = false := decide_eq_false h2
          have s1 : (t : Int) < (np : Int) := by omega
          have s3 : (0 : Int) ≤ (t : Int) - 1 := by omega
          have s4 : (t : Int) - 1 < (np : Int) := by omega
          have s5 : (1 : Int) ≤ (t : Int) := by omega
          have sw : IntKind.i64.wrap ((t : Int) - 1) = (t : Int) - 1 := IntWalk.i64_in _ (by omega)
          clear HT1 HT hend
          go_wp2_with fail
          go_quiet (fail)
          go_wp2_with fail
          go_ret2
          exact ⟨rfl, pw_below_drewN HBr.out _⟩
      · have HT1 := HT.out
        rw [walk_Common.go_end _ _ _ (.inl (List.drop_eq_nil_of_le (by have := HNP.out; omega)))] at HT1
        obtain ⟨ada, rfl, ht, hcell⟩ := hend HT1
        have d1 : decide (t < np) = false := decide_eq_false h1
        have s3 : (0 : Int) ≤ (t : Int) - 1 := by omega
        have s4 : (t : Int) - 1 < (np : Int) := by omega
        have s5 : (1 : Int) ≤ (t : Int) := by omega
        have sw : IntKind.i64.wrap ((t : Int) - 1) = (t : Int) - 1 := IntWalk.i64_in _ (by omega)
        clear HT1 HT hend
        go_wp2_with fail
        go_quiet (fail)
        go_wp2_with fail
        go_ret2
        exact ⟨rfl, pw_below_drewN HBr.out _⟩
  · rw [if_neg h0] at h
    have HE := Lib.hid (Option.some.inj h)
    clear h
    have h0b : (e1 != 0) = true := by simpa using h0
    go_enter Tryd.func10, Tryd.ntmps10
    go_wp2_with fail
    rw [← HW1.out]
    with_reducible refine HC1.out.mono ?_
    intro e w2 hP
    obtain ⟨rfl, hb⟩ := hP.2 h0
    have HB2 := Lib.hid (HB1.out.trans (hb.mono HB1.out.size))
    clear hb hP
    go_wp2_with fail
    go_ret2
    obtain ⟨rfl, rfl⟩ := by simpa using HE.out
    exact ⟨rfl, HB2.out⟩

/-! ### clerestorykeep1_walkBegun: function 11 -/
def clerestorykeep1_walkBegun.f (k : Nat)  : Option (Bool) := (some (([(⟨1, (⟨#[]⟩ : ByteArray), ([] : List (S78)), (⟨#[]⟩ : ByteArray), (-1), (([1, 2] : List Int))⟩ : S35), (⟨4, (⟨#[]⟩ : ByteArray), ([] : List (S78)), (⟨#[]⟩ : ByteArray), 0, ([] : List Int)⟩ : S35), (⟨5, (⟨#[]⟩ : ByteArray), ([] : List (S78)), (⟨#[]⟩ : ByteArray), 0, ([] : List Int)⟩ : S35)] : List (S35)) : List (S35))).bind fun y204 => ((walk_Step.f k y204 false 1 3).bind fun bt208 => ((walk_Before.f k y204 false 1 2).bind fun bt211 => (if bt208.1 = 2 then (if bt208.2.1 = true then (if bt208.2.2 = 0 then (if bt211.1 = true then (some (bt211.2 == 0)) else (some false)) else (some false)) else (some false)) else (some false))))
theorem clerestorykeep1_walkBegun.mono : ∀ k, LeO (clerestorykeep1_walkBegun.f k ) (clerestorykeep1_walkBegun.f (k + 1) ) := by
  intro  k
  unfold clerestorykeep1_walkBegun.f
  repeat' first
      | (with_reducible exact walk_Before.mono _ _ _ _ _)
      | (with_reducible exact walk_Step.mono _ _ _ _ _)
      | (with_reducible exact LeO.refl _)
      | (with_reducible exact LeO.none _)
      | (with_reducible refine LeO.ite ?_ ?_)
      | (with_reducible refine LeO.bind ?_ (fun _ => ?_))
      | exact walk_Before.mono _ _ _ _ _
      | exact walk_Step.mono _ _ _ _ _
      | exact LeO.none _
      | refine LeO.ite ?_ ?_
      | refine LeO.bind ?_ (fun _ => ?_)
set_option maxHeartbeats 8000000 in
set_option maxRecDepth 100000 in
theorem clerestorykeep1_walkBegun.calls (k : Nat)  (r : Bool) (w : World) (h : clerestorykeep1_walkBegun.f k  = some r) :
    Calls Tryd.prog 11 #[] w fun e w' => e = .returned (.bool r) ∧ Below w.heap.size w w' := by
  have hu35 := Tryd.underlying35
  have hu24 := Tryd.underlying24
  have HB := Aside0.mk (Below.refl w.heap.size w)
  have H : ((some (([(⟨1, (⟨#[]⟩ : ByteArray), ([] : List (S78)), (⟨#[]⟩ : ByteArray), (-1), (([1, 2] : List Int))⟩ : S35), (⟨4, (⟨#[]⟩ : ByteArray), ([] : List (S78)), (⟨#[]⟩ : ByteArray), 0, ([] : List Int)⟩ : S35), (⟨5, (⟨#[]⟩ : ByteArray), ([] : List (S78)), (⟨#[]⟩ : ByteArray), 0, ([] : List Int)⟩ : S35)] : List (S35)) : List (S35))).bind fun y204 => ((walk_Step.f k y204 false 1 3).bind fun bt208 => ((walk_Before.f k y204 false 1 2).bind fun bt211 => (if bt208.1 = 2 then (if bt208.2.1 = true then (if bt208.2.2 = 0 then (if bt211.1 = true then (some (bt211.2 == 0)) else (some false)) else (some false)) else (some false)) else (some false))))) = some r := h
  clear h
  obtain ⟨y201, hy201⟩ : ∃ y_ : List Int, y_ = (([1, 2] : List Int)) := ⟨_, rfl⟩
  replace H : ((some (([(⟨1, (⟨#[]⟩ : ByteArray), ([] : List (S78)), (⟨#[]⟩ : ByteArray), (-1), y201⟩ : S35), (⟨4, (⟨#[]⟩ : ByteArray), ([] : List (S78)), (⟨#[]⟩ : ByteArray), 0, ([] : List Int)⟩ : S35), (⟨5, (⟨#[]⟩ : ByteArray), ([] : List (S78)), (⟨#[]⟩ : ByteArray), 0, ([] : List Int)⟩ : S35)] : List (S35)) : List (S35))).bind fun y204 => ((walk_Step.f k y204 false 1 3).bind fun bt208 => ((walk_Before.f k y204 false 1 2).bind fun bt211 => (if bt208.1 = 2 then (if bt208.2.1 = true then (if bt208.2.2 = 0 then (if bt211.1 = true then (some (bt211.2 == 0)) else (some false)) else (some false)) else (some false)) else (some false))))) = some r := by first | (rw [hy201]; with_reducible exact H) | (have H2_ := (Option.bind_some _ _).symm.trans H; rw [hy201]; with_reducible exact H2_) | (have H2_ := (Option.bind_some _ _).symm.trans H; with_reducible exact H2_) | with_reducible exact H | (rw [hy201]; exact H) | exact H
  have Ny201 := Aside0.mk hy201
  clear hy201
  obtain ⟨y204, hy204⟩ : ∃ y_ : List (S35), y_ = (([(⟨1, (⟨#[]⟩ : ByteArray), ([] : List (S78)), (⟨#[]⟩ : ByteArray), (-1), y201⟩ : S35), (⟨4, (⟨#[]⟩ : ByteArray), ([] : List (S78)), (⟨#[]⟩ : ByteArray), 0, ([] : List Int)⟩ : S35), (⟨5, (⟨#[]⟩ : ByteArray), ([] : List (S78)), (⟨#[]⟩ : ByteArray), 0, ([] : List Int)⟩ : S35)] : List (S35))) := ⟨_, rfl⟩
  replace H : ((walk_Step.f k y204 false 1 3).bind fun bt208 => ((walk_Before.f k y204 false 1 2).bind fun bt211 => (if bt208.1 = 2 then (if bt208.2.1 = true then (if bt208.2.2 = 0 then (if bt211.1 = true then (some (bt211.2 == 0)) else (some false)) else (some false)) else (some false)) else (some false)))) = some r := by first | (rw [hy204]; with_reducible exact H) | (have H2_ := (Option.bind_some _ _).symm.trans H; rw [hy204]; with_reducible exact H2_) | (have H2_ := (Option.bind_some _ _).symm.trans H; with_reducible exact H2_) | with_reducible exact H | (rw [hy204]; exact H) | exact H
  have Ny204 := Aside0.mk hy204
  clear hy204
  replace H := Option.bind_eq_some_iff.mp H
  obtain ⟨⟨t208, t209, t210⟩, A10, H⟩ := H
  replace H : ((walk_Before.f k y204 false 1 2).bind fun bt211 => (if t208 = 2 then (if t209 = true then (if t210 = 0 then (if bt211.1 = true then (some (bt211.2 == 0)) else (some false)) else (some false)) else (some false)) else (some false))) = some r := H
  have A1 := Aside0.mk A10
  clear A10
  replace H := Option.bind_eq_some_iff.mp H
  obtain ⟨⟨t211, t212⟩, A20, H⟩ := H
  replace H : (if t208 = 2 then (if t209 = true then (if t210 = 0 then (if t211 = true then (some (t212 == 0)) else (some false)) else (some false)) else (some false)) else (some false)) = some r := H
  have A2 := Aside0.mk A20
  clear A20
  by_cases c3 : t208 = 2
  · rw [if_pos c3] at H
    have c3b0 : (t208 == 2) = true := beq_iff_eq.mpr c3
    have c3b1 : (t208 != 2) = false := bne_eq_false_iff_eq.mpr c3
    clear c3
    by_cases c4 : t209 = true
    · subst c4
      have H1 : (if t210 = 0 then (if t211 = true then (some (t212 == 0)) else (some false)) else (some false)) = some r := by rw [if_pos rfl] at H; exact H
      clear H
      have H := H1
      clear H1
      by_cases c5 : t210 = 0
      · rw [if_pos c5] at H
        have c5b0 : (t210 == 0) = true := beq_iff_eq.mpr c5
        have c5b1 : (t210 != 0) = false := bne_eq_false_iff_eq.mpr c5
        clear c5
        by_cases c6 : t211 = true
        · subst c6
          have H1 : (some (t212 == 0)) = some r := by rw [if_pos rfl] at H; exact H
          clear H
          have H := H1
          clear H1
          obtain rfl := Option.some.inj H
          go_enter Tryd.func11, Tryd.ntmps11
          go_wp2_with (first | ((with_reducible refine gate_dst (N := 7) rfl ?_); refine Kd.R_lit (Kd.int .i64) _ 3 ?hg (N := 7) ?hd (xs := ([1, 2] : List Int)) (inner := [.int .i64 1, .int .i64 2]) (ok := fun _ => True) (okp := fun _ => True) ?hr ?hp (fun _ hk => hk) trivial (Below.refl _ _) (Nat.le_refl _) (by simp) ?_; (case hd => rfl); (case hg => rfl); (case hr => first | (go_simp; done) | (go_simp; rfl)); (case hp => exact (Reps.one (show Kd.M (Kd.int .i64) _ _ _ 1 [.int .i64 1] from rfl) (Reps.one (show Kd.M (Kd.int .i64) _ _ _ 2 [.int .i64 2] from rfl) (Reps.none _ _)))); intro v202 w7 ho8 hb hg_ hnew_; clear hg_ hnew_; (first | rw [← Ny201.out] at ho8 | (simp only [Int.reduceToNat] at ho8; rw [← Ny201.out] at ho8)); have n0_ := Aside0.mk (Kd.R_lower ho8 (below_size (by repeat (first | (with_reducible first | exact HB.out | apply below_alloc | apply pw_below_drewN | apply below_drew1) | exact HB.out)))); have n1_ := Aside0.mk (below_step (by repeat (first | (with_reducible first | exact HB.out | apply below_alloc | apply pw_below_drewN | apply below_drew1) | exact HB.out)) hb); clear HB; have HO203 := n0_; have HB := n1_; clear n0_ n1_; clear hb ho8; obtain ⟨Ao9, co9, eo9⟩ := Kd.R_slice HO203.out; subst eo9) | ((with_reducible refine gate_dst (N := 11) rfl ?_); refine Kd.N_lit k35 _ 35 ?hg (N' := 11) ?hd (xs := ([(⟨1, (⟨#[]⟩ : ByteArray), ([] : List (S78)), (⟨#[]⟩ : ByteArray), (-1), y201⟩ : S35), (⟨4, (⟨#[]⟩ : ByteArray), ([] : List (S78)), (⟨#[]⟩ : ByteArray), 0, ([] : List Int)⟩ : S35), (⟨5, (⟨#[]⟩ : ByteArray), ([] : List (S78)), (⟨#[]⟩ : ByteArray), 0, ([] : List Int)⟩ : S35)] : List (S35))) (inner := [.int .i64 1, .string (⟨#[]⟩ : ByteArray), .slice none 0 0, .string (⟨#[]⟩ : ByteArray), .int .i64 (-1), .slice Ao9 y201.length co9, .int .i64 4, .string (⟨#[]⟩ : ByteArray), .slice none 0 0, .string (⟨#[]⟩ : ByteArray), .int .i64 0, .slice none 0 0, .int .i64 5, .string (⟨#[]⟩ : ByteArray), .slice none 0 0, .string (⟨#[]⟩ : ByteArray), .int .i64 0, .slice none 0 0]) (ok := (fun _ => True)) (okp := (fun _ => True)) ?hr ?hp (fun _ hk => hk) ((show ∀ k_, w7.heap.size ≤ k_ → (fun _ => True) k_ from fun k_ hk => trivial) _ (Nat.le_refl _)) (Below.refl _ _) (Nat.le_refl _) (by simp) ?_; (case hd => rfl); (case hg => rfl); (case hr => first | (go_simp; done) | (go_simp; rfl)); (case hp => exact (Reps.c6 (show Kd.FK k35 _ _ (⟨1, (⟨#[]⟩ : ByteArray), ([] : List (S78)), (⟨#[]⟩ : ByteArray), (-1), y201⟩ : S35) [.int .i64 1, .string (⟨#[]⟩ : ByteArray), .slice none 0 0, .string (⟨#[]⟩ : ByteArray), .int .i64 (-1), .slice Ao9 y201.length co9] from (k35_mkF _ _ (⟨1, (⟨#[]⟩ : ByteArray), ([] : List (S78)), (⟨#[]⟩ : ByteArray), (-1), y201⟩ : S35) (Nat.le_refl _) (Kd.F_nil _ _ _) (Kd.R_reads' (Kd.R_mono (ok' := (fun _ => True)) (HO203.out) (fun k_ hk => trivial))).2.1 (Kd.R_F (Kd.R_mono (ok' := (fun _ => True)) (HO203.out) (fun k_ hk => trivial))))) (Reps.c6 (show Kd.FK k35 _ _ (⟨4, (⟨#[]⟩ : ByteArray), ([] : List (S78)), (⟨#[]⟩ : ByteArray), 0, ([] : List Int)⟩ : S35) [.int .i64 4, .string (⟨#[]⟩ : ByteArray), .slice none 0 0, .string (⟨#[]⟩ : ByteArray), .int .i64 0, .slice none 0 0] from (k35_mkF _ _ (⟨4, (⟨#[]⟩ : ByteArray), ([] : List (S78)), (⟨#[]⟩ : ByteArray), 0, ([] : List Int)⟩ : S35) (Nat.le_refl _) (Kd.F_nil _ _ _) (Nat.le_refl _) (Kd.F_nil _ _ _))) (Reps.c6 (show Kd.FK k35 _ _ (⟨5, (⟨#[]⟩ : ByteArray), ([] : List (S78)), (⟨#[]⟩ : ByteArray), 0, ([] : List Int)⟩ : S35) [.int .i64 5, .string (⟨#[]⟩ : ByteArray), .slice none 0 0, .string (⟨#[]⟩ : ByteArray), .int .i64 0, .slice none 0 0] from (k35_mkF _ _ (⟨5, (⟨#[]⟩ : ByteArray), ([] : List (S78)), (⟨#[]⟩ : ByteArray), 0, ([] : List Int)⟩ : S35) (Nat.le_refl _) (Kd.F_nil _ _ _) (Nat.le_refl _) (Kd.F_nil _ _ _))) (Reps.none _ _))))); intro v205 w10 ho11 hb hg_ hnew_; clear hg_ hnew_; (first | rw [← Ny204.out] at ho11 | (simp only [Int.reduceToNat] at ho11; rw [← Ny204.out] at ho11)); have n0_ := Aside0.mk (Kd.N_lower ho11 (below_size (by repeat (first | (with_reducible first | exact HB.out | apply below_alloc | apply pw_below_drewN | apply below_drew1) | exact HB.out)))); have n1_ := Aside0.mk (below_step (by repeat (first | (with_reducible first | exact HB.out | apply below_alloc | apply pw_below_drewN | apply below_drew1) | exact HB.out)) hb); clear HB; clear HO203; have HO206 := n0_; have HB := n1_; clear n0_ n1_; clear hb ho11; obtain ⟨Ao12, co12, eo12⟩ := Kd.N_slice HO206.out; subst eo12) | ((with_reducible refine gate_dst (N := 1) rfl ?_); refine box_event ?hg (N := 1) ?hd (cs := #[.slice none 0 0, .bool false]) (t := 24) ?hr ?_; (case hd => rfl); (case hg => rfl); (case hr => first | (go_simp; done) | (go_simp; rfl)); intro gb207 hg w13 hbox hb; have n0_ := Aside0.mk (Kd.N_below (Kd.N_elderB (by (with_reducible repeat (first | apply Kd.N_alloc | apply Kd.N_drewN | apply Kd.N_drew)); exact HO206.out) gb207 (Nat.le_of_eq hg.symm)) hb); have n1_ := Aside0.mk (below_step (by repeat (first | (with_reducible first | exact HB.out | apply below_alloc | apply pw_below_drewN | apply below_drew1) | exact HB.out)) hb); have n2_ := Aside0.mk (hbox); have n3_ := Aside0.mk ((by rw [hg]; exact (below_size (by repeat (first | (with_reducible first | exact HB.out | apply below_alloc | apply pw_below_drewN | apply below_drew1) | exact HB.out))) : w.heap.size ≤ gb207)); have n4_ := Aside0.mk ((by rw [hg]; exact (below_size (by repeat (first | (with_reducible first | exact HB.out | apply below_alloc | apply pw_below_drewN | apply below_drew1) | exact HB.out))) : w.heap.size ≤ gb207)); clear HO206; clear HB; have HO206 := n0_; have HB := n1_; have BK207 := n2_; have GW207 := n3_; have GE207 := n4_; clear n0_ n1_ n2_ n3_ n4_; clear hb hbox hg; have hcz14_0 : w13.cell? ⟨gb207, 0, none⟩ = some (.slice none 0 0) := (blk_cell BK207.out 0).trans rfl; have hcz14_1 : w13.cell? ⟨gb207, 1, none⟩ = some (.bool false) := (blk_cell BK207.out 1).trans rfl; have hfz14_0 := blk_frozen BK207.out 0; have hfz14_1 := blk_frozen BK207.out 1) | ((with_reducible refine gate_callee (f := 30) rfl ?_); refine goesL_ (some 15) rfl rfl Tryd.func30 (by kernel_rfl) rfl #[.agg #[.slice Ao12 y204.length co12, .bool false], .int .i64 1, .int .i64 3] rfl (by (try simp only [List.map_toArray, List.map_cons, List.map_nil]); first | done | rfl | (simp only [List.length_drop, List.length_take]; rfl)) ?_; (with_reducible refine (walk_Step.calls k _ _ y204 false 1 3 t208 true t210 _ ?side1 ?side2 A1.out).mono ?_); (case side1 => refine (Kd.N_reads' (e := 35) (base := w.heap.size) (ok := fun k_ => (True ∧ k_ ≠ gb207)) (n := y204.length) (c := co12) ?_).2.2; exact (by (with_reducible repeat (first | apply Kd.N_alloc | apply Kd.N_drewN | apply Kd.N_drew)); exact (Kd.N_mono (Kd.N_far (p := ⟨gb207, 1, none⟩) (Kd.N_far (p := ⟨gb207, 0, none⟩) (Kd.N_mono HO206.out (fun k_ hk => (⟨hk, hk.2⟩ : _ ∧ k_ ≠ gb207))) (fun _ hk => hk.2) (.slice Ao12 y204.length co12)) (fun _ hk => hk.2) (.bool false)) (fun _ h_ => h_.1)))); (case side2 => exact (Kd.N_reads' HO206.out).2.1); rintro e w15 ⟨rfl, hb⟩; refine ⟨_, rfl, ?_⟩; have n0_ := Aside0.mk (Kd.N_below (by (with_reducible repeat (first | apply Kd.N_alloc | apply Kd.N_drewN | apply Kd.N_drew)); exact (Kd.N_mono (Kd.N_far (p := ⟨gb207, 1, none⟩) (Kd.N_far (p := ⟨gb207, 0, none⟩) (Kd.N_mono HO206.out (fun k_ hk => (⟨hk, hk.2⟩ : _ ∧ k_ ≠ gb207))) (fun _ hk => hk.2) (.slice Ao12 y204.length co12)) (fun _ hk => hk.2) (.bool false)) (fun _ h_ => h_.1))) hb); have n1_ := Aside0.mk (blk_below (g := gb207) (o := .cells #[.slice Ao12 y204.length co12, .bool false] 24 (0, 0)) (by (with_reducible repeat (first | refine blk_drewN ?_ _ | refine blk_drew ?_ | refine blk_alloc ?_ _)); refine blk_put (cs := #[.slice Ao12 y204.length co12, .bool false]) ?_ 1 _ rfl; (with_reducible repeat (first | refine blk_drewN ?_ _ | refine blk_drew ?_ | refine blk_alloc ?_ _)); refine blk_put (cs := #[.slice none 0 0, .bool false]) ?_ 0 _ rfl; (with_reducible repeat (first | refine blk_drewN ?_ _ | refine blk_drew ?_ | refine blk_alloc ?_ _)); exact BK207.out) hb); have n2_ := Aside0.mk (below_step (by repeat (first | (with_reducible first | exact HB.out | apply below_alloc | apply pw_below_drewN | apply below_drew1 | refine below_set ?_ GE207.out) | exact HB.out)) hb); clear HO206; clear BK207; clear HB; have HO206 := n0_; have BK207 := n1_; have HB := n2_; clear n0_ n1_ n2_; (try clear hb); (try clear hb2); (try clear hk); (try clear hi); have hcz16_0 : w15.cell? ⟨gb207, 0, none⟩ = some (.slice Ao12 y204.length co12) := (blk_cell BK207.out 0).trans rfl; have hcz16_1 : w15.cell? ⟨gb207, 1, none⟩ = some (.bool false) := (blk_cell BK207.out 1).trans rfl; have hfz16_0 := blk_frozen BK207.out 0; have hfz16_1 := blk_frozen BK207.out 1) | ((with_reducible refine gate_callee (f := 31) rfl ?_); refine goesL_ (some 21) rfl rfl Tryd.func31 (by kernel_rfl) rfl #[.agg #[.slice Ao12 y204.length co12, .bool false], .int .i64 1, .int .i64 2] rfl (by (try simp only [List.map_toArray, List.map_cons, List.map_nil]); first | done | rfl | (simp only [List.length_drop, List.length_take]; rfl)) ?_; (with_reducible refine (walk_Before.calls k _ _ y204 false 1 2 true t212 _ ?side1 ?side2 A2.out).mono ?_); (case side1 => repeat (first | exact (Kd.N_reads' HO206.out).2.2 | (with_reducible refine Kd.C_alloc ?_ _) | (with_reducible refine Kd.C_drewN ?_ _) | (with_reducible refine Kd.C_drew ?_))); (case side2 => exact (Kd.N_reads' HO206.out).2.1); rintro e w17 ⟨rfl, hb⟩; refine ⟨_, rfl, ?_⟩; have n0_ := Aside0.mk (Kd.N_below (by (with_reducible repeat (first | apply Kd.N_alloc | apply Kd.N_drewN | apply Kd.N_drew)); exact HO206.out) hb); have n1_ := Aside0.mk (blk_below (g := gb207) (o := .cells #[.slice Ao12 y204.length co12, .bool false] 24 (0, 0)) (by (with_reducible repeat (first | refine blk_drewN ?_ _ | refine blk_drew ?_ | refine blk_alloc ?_ _)); exact BK207.out) hb); have n2_ := Aside0.mk (below_step (by repeat (first | (with_reducible first | exact HB.out | apply below_alloc | apply pw_below_drewN | apply below_drew1 | refine below_set ?_ GE207.out) | exact HB.out)) hb); clear HO206; clear BK207; clear HB; have HO206 := n0_; have BK207 := n1_; have HB := n2_; clear n0_ n1_ n2_; (try clear hb); (try clear hb2); (try clear hk); (try clear hi)))
          go_ret
          exact ⟨by first | rfl | (simp [errW_none, errW_some] <;> rfl) | (simp [*, errW_none, errW_some] <;> rfl), by repeat (first | (with_reducible first | exact HB.out | apply below_alloc | apply pw_below_drewN | apply below_drew1 | refine below_set ?_ GE207.out) | exact HB.out)⟩
        · replace c6 := Bool.eq_false_iff.mpr c6
          subst c6
          have H1 : (some false) = some r := by rw [if_neg (show ¬ (false = true) by decide)] at H; exact H
          clear H
          have H := H1
          clear H1
          obtain rfl := Option.some.inj H
          go_enter Tryd.func11, Tryd.ntmps11
          go_wp2_with (first | ((with_reducible refine gate_dst (N := 7) rfl ?_); refine Kd.R_lit (Kd.int .i64) _ 3 ?hg (N := 7) ?hd (xs := ([1, 2] : List Int)) (inner := [.int .i64 1, .int .i64 2]) (ok := fun _ => True) (okp := fun _ => True) ?hr ?hp (fun _ hk => hk) trivial (Below.refl _ _) (Nat.le_refl _) (by simp) ?_; (case hd => rfl); (case hg => rfl); (case hr => first | (go_simp; done) | (go_simp; rfl)); (case hp => exact (Reps.one (show Kd.M (Kd.int .i64) _ _ _ 1 [.int .i64 1] from rfl) (Reps.one (show Kd.M (Kd.int .i64) _ _ _ 2 [.int .i64 2] from rfl) (Reps.none _ _)))); intro v202 w18 ho19 hb hg_ hnew_; clear hg_ hnew_; (first | rw [← Ny201.out] at ho19 | (simp only [Int.reduceToNat] at ho19; rw [← Ny201.out] at ho19)); have n0_ := Aside0.mk (Kd.R_lower ho19 (below_size (by repeat (first | (with_reducible first | exact HB.out | apply below_alloc | apply pw_below_drewN | apply below_drew1) | exact HB.out)))); have n1_ := Aside0.mk (below_step (by repeat (first | (with_reducible first | exact HB.out | apply below_alloc | apply pw_below_drewN | apply below_drew1) | exact HB.out)) hb); clear HB; have HO203 := n0_; have HB := n1_; clear n0_ n1_; clear hb ho19; obtain ⟨Ao20, co20, eo20⟩ := Kd.R_slice HO203.out; subst eo20) | ((with_reducible refine gate_dst (N := 11) rfl ?_); refine Kd.N_lit k35 _ 35 ?hg (N' := 11) ?hd (xs := ([(⟨1, (⟨#[]⟩ : ByteArray), ([] : List (S78)), (⟨#[]⟩ : ByteArray), (-1), y201⟩ : S35), (⟨4, (⟨#[]⟩ : ByteArray), ([] : List (S78)), (⟨#[]⟩ : ByteArray), 0, ([] : List Int)⟩ : S35), (⟨5, (⟨#[]⟩ : ByteArray), ([] : List (S78)), (⟨#[]⟩ : ByteArray), 0, ([] : List Int)⟩ : S35)] : List (S35))) (inner := [.int .i64 1, .string (⟨#[]⟩ : ByteArray), .slice none 0 0, .string (⟨#[]⟩ : ByteArray), .int .i64 (-1), .slice Ao20 y201.length co20, .int .i64 4, .string (⟨#[]⟩ : ByteArray), .slice none 0 0, .string (⟨#[]⟩ : ByteArray), .int .i64 0, .slice none 0 0, .int .i64 5, .string (⟨#[]⟩ : ByteArray), .slice none 0 0, .string (⟨#[]⟩ : ByteArray), .int .i64 0, .slice none 0 0]) (ok := (fun _ => True)) (okp := (fun _ => True)) ?hr ?hp (fun _ hk => hk) ((show ∀ k_, w18.heap.size ≤ k_ → (fun _ => True) k_ from fun k_ hk => trivial) _ (Nat.le_refl _)) (Below.refl _ _) (Nat.le_refl _) (by simp) ?_; (case hd => rfl); (case hg => rfl); (case hr => first | (go_simp; done) | (go_simp; rfl)); (case hp => exact (Reps.c6 (show Kd.FK k35 _ _ (⟨1, (⟨#[]⟩ : ByteArray), ([] : List (S78)), (⟨#[]⟩ : ByteArray), (-1), y201⟩ : S35) [.int .i64 1, .string (⟨#[]⟩ : ByteArray), .slice none 0 0, .string (⟨#[]⟩ : ByteArray), .int .i64 (-1), .slice Ao20 y201.length co20] from (k35_mkF _ _ (⟨1, (⟨#[]⟩ : ByteArray), ([] : List (S78)), (⟨#[]⟩ : ByteArray), (-1), y201⟩ : S35) (Nat.le_refl _) (Kd.F_nil _ _ _) (Kd.R_reads' (Kd.R_mono (ok' := (fun _ => True)) (HO203.out) (fun k_ hk => trivial))).2.1 (Kd.R_F (Kd.R_mono (ok' := (fun _ => True)) (HO203.out) (fun k_ hk => trivial))))) (Reps.c6 (show Kd.FK k35 _ _ (⟨4, (⟨#[]⟩ : ByteArray), ([] : List (S78)), (⟨#[]⟩ : ByteArray), 0, ([] : List Int)⟩ : S35) [.int .i64 4, .string (⟨#[]⟩ : ByteArray), .slice none 0 0, .string (⟨#[]⟩ : ByteArray), .int .i64 0, .slice none 0 0] from (k35_mkF _ _ (⟨4, (⟨#[]⟩ : ByteArray), ([] : List (S78)), (⟨#[]⟩ : ByteArray), 0, ([] : List Int)⟩ : S35) (Nat.le_refl _) (Kd.F_nil _ _ _) (Nat.le_refl _) (Kd.F_nil _ _ _))) (Reps.c6 (show Kd.FK k35 _ _ (⟨5, (⟨#[]⟩ : ByteArray), ([] : List (S78)), (⟨#[]⟩ : ByteArray), 0, ([] : List Int)⟩ : S35) [.int .i64 5, .string (⟨#[]⟩ : ByteArray), .slice none 0 0, .string (⟨#[]⟩ : ByteArray), .int .i64 0, .slice none 0 0] from (k35_mkF _ _ (⟨5, (⟨#[]⟩ : ByteArray), ([] : List (S78)), (⟨#[]⟩ : ByteArray), 0, ([] : List Int)⟩ : S35) (Nat.le_refl _) (Kd.F_nil _ _ _) (Nat.le_refl _) (Kd.F_nil _ _ _))) (Reps.none _ _))))); intro v205 w21 ho22 hb hg_ hnew_; clear hg_ hnew_; (first | rw [← Ny204.out] at ho22 | (simp only [Int.reduceToNat] at ho22; rw [← Ny204.out] at ho22)); have n0_ := Aside0.mk (Kd.N_lower ho22 (below_size (by repeat (first | (with_reducible first | exact HB.out | apply below_alloc | apply pw_below_drewN | apply below_drew1) | exact HB.out)))); have n1_ := Aside0.mk (below_step (by repeat (first | (with_reducible first | exact HB.out | apply below_alloc | apply pw_below_drewN | apply below_drew1) | exact HB.out)) hb); clear HB; clear HO203; have HO206 := n0_; have HB := n1_; clear n0_ n1_; clear hb ho22; obtain ⟨Ao23, co23, eo23⟩ := Kd.N_slice HO206.out; subst eo23) | ((with_reducible refine gate_dst (N := 1) rfl ?_); refine box_event ?hg (N := 1) ?hd (cs := #[.slice none 0 0, .bool false]) (t := 24) ?hr ?_; (case hd => rfl); (case hg => rfl); (case hr => first | (go_simp; done) | (go_simp; rfl)); intro gb207 hg w24 hbox hb; have n0_ := Aside0.mk (Kd.N_below (Kd.N_elderB (by (with_reducible repeat (first | apply Kd.N_alloc | apply Kd.N_drewN | apply Kd.N_drew)); exact HO206.out) gb207 (Nat.le_of_eq hg.symm)) hb); have n1_ := Aside0.mk (below_step (by repeat (first | (with_reducible first | exact HB.out | apply below_alloc | apply pw_below_drewN | apply below_drew1) | exact HB.out)) hb); have n2_ := Aside0.mk (hbox); have n3_ := Aside0.mk ((by rw [hg]; exact (below_size (by repeat (first | (with_reducible first | exact HB.out | apply below_alloc | apply pw_below_drewN | apply below_drew1) | exact HB.out))) : w.heap.size ≤ gb207)); have n4_ := Aside0.mk ((by rw [hg]; exact (below_size (by repeat (first | (with_reducible first | exact HB.out | apply below_alloc | apply pw_below_drewN | apply below_drew1) | exact HB.out))) : w.heap.size ≤ gb207)); clear HO206; clear HB; have HO206 := n0_; have HB := n1_; have BK207 := n2_; have GW207 := n3_; have GE207 := n4_; clear n0_ n1_ n2_ n3_ n4_; clear hb hbox hg; have hcz25_0 : w24.cell? ⟨gb207, 0, none⟩ = some (.slice none 0 0) := (blk_cell BK207.out 0).trans rfl; have hcz25_1 : w24.cell? ⟨gb207, 1, none⟩ = some (.bool false) := (blk_cell BK207.out 1).trans rfl; have hfz25_0 := blk_frozen BK207.out 0; have hfz25_1 := blk_frozen BK207.out 1) | ((with_reducible refine gate_callee (f := 30) rfl ?_); refine goesL_ (some 15) rfl rfl Tryd.func30 (by kernel_rfl) rfl #[.agg #[.slice Ao23 y204.length co23, .bool false], .int .i64 1, .int .i64 3] rfl (by (try simp only [List.map_toArray, List.map_cons, List.map_nil]); first | done | rfl | (simp only [List.length_drop, List.length_take]; rfl)) ?_; (with_reducible refine (walk_Step.calls k _ _ y204 false 1 3 t208 true t210 _ ?side1 ?side2 A1.out).mono ?_); (case side1 => refine (Kd.N_reads' (e := 35) (base := w.heap.size) (ok := fun k_ => (True ∧ k_ ≠ gb207)) (n := y204.length) (c := co23) ?_).2.2; exact (by (with_reducible repeat (first | apply Kd.N_alloc | apply Kd.N_drewN | apply Kd.N_drew)); exact (Kd.N_mono (Kd.N_far (p := ⟨gb207, 1, none⟩) (Kd.N_far (p := ⟨gb207, 0, none⟩) (Kd.N_mono HO206.out (fun k_ hk => (⟨hk, hk.2⟩ : _ ∧ k_ ≠ gb207))) (fun _ hk => hk.2) (.slice Ao23 y204.length co23)) (fun _ hk => hk.2) (.bool false)) (fun _ h_ => h_.1)))); (case side2 => exact (Kd.N_reads' HO206.out).2.1); rintro e w26 ⟨rfl, hb⟩; refine ⟨_, rfl, ?_⟩; have n0_ := Aside0.mk (Kd.N_below (by (with_reducible repeat (first | apply Kd.N_alloc | apply Kd.N_drewN | apply Kd.N_drew)); exact (Kd.N_mono (Kd.N_far (p := ⟨gb207, 1, none⟩) (Kd.N_far (p := ⟨gb207, 0, none⟩) (Kd.N_mono HO206.out (fun k_ hk => (⟨hk, hk.2⟩ : _ ∧ k_ ≠ gb207))) (fun _ hk => hk.2) (.slice Ao23 y204.length co23)) (fun _ hk => hk.2) (.bool false)) (fun _ h_ => h_.1))) hb); have n1_ := Aside0.mk (blk_below (g := gb207) (o := .cells #[.slice Ao23 y204.length co23, .bool false] 24 (0, 0)) (by (with_reducible repeat (first | refine blk_drewN ?_ _ | refine blk_drew ?_ | refine blk_alloc ?_ _)); refine blk_put (cs := #[.slice Ao23 y204.length co23, .bool false]) ?_ 1 _ rfl; (with_reducible repeat (first | refine blk_drewN ?_ _ | refine blk_drew ?_ | refine blk_alloc ?_ _)); refine blk_put (cs := #[.slice none 0 0, .bool false]) ?_ 0 _ rfl; (with_reducible repeat (first | refine blk_drewN ?_ _ | refine blk_drew ?_ | refine blk_alloc ?_ _)); exact BK207.out) hb); have n2_ := Aside0.mk (below_step (by repeat (first | (with_reducible first | exact HB.out | apply below_alloc | apply pw_below_drewN | apply below_drew1 | refine below_set ?_ GE207.out) | exact HB.out)) hb); clear HO206; clear BK207; clear HB; have HO206 := n0_; have BK207 := n1_; have HB := n2_; clear n0_ n1_ n2_; (try clear hb); (try clear hb2); (try clear hk); (try clear hi); have hcz27_0 : w26.cell? ⟨gb207, 0, none⟩ = some (.slice Ao23 y204.length co23) := (blk_cell BK207.out 0).trans rfl; have hcz27_1 : w26.cell? ⟨gb207, 1, none⟩ = some (.bool false) := (blk_cell BK207.out 1).trans rfl; have hfz27_0 := blk_frozen BK207.out 0; have hfz27_1 := blk_frozen BK207.out 1) | ((with_reducible refine gate_callee (f := 31) rfl ?_); refine goesL_ (some 21) rfl rfl Tryd.func31 (by kernel_rfl) rfl #[.agg #[.slice Ao23 y204.length co23, .bool false], .int .i64 1, .int .i64 2] rfl (by (try simp only [List.map_toArray, List.map_cons, List.map_nil]); first | done | rfl | (simp only [List.length_drop, List.length_take]; rfl)) ?_; (with_reducible refine (walk_Before.calls k _ _ y204 false 1 2 false t212 _ ?side1 ?side2 A2.out).mono ?_); (case side1 => repeat (first | exact (Kd.N_reads' HO206.out).2.2 | (with_reducible refine Kd.C_alloc ?_ _) | (with_reducible refine Kd.C_drewN ?_ _) | (with_reducible refine Kd.C_drew ?_))); (case side2 => exact (Kd.N_reads' HO206.out).2.1); rintro e w28 ⟨rfl, hb⟩; refine ⟨_, rfl, ?_⟩; have n0_ := Aside0.mk (Kd.N_below (by (with_reducible repeat (first | apply Kd.N_alloc | apply Kd.N_drewN | apply Kd.N_drew)); exact HO206.out) hb); have n1_ := Aside0.mk (blk_below (g := gb207) (o := .cells #[.slice Ao23 y204.length co23, .bool false] 24 (0, 0)) (by (with_reducible repeat (first | refine blk_drewN ?_ _ | refine blk_drew ?_ | refine blk_alloc ?_ _)); exact BK207.out) hb); have n2_ := Aside0.mk (below_step (by repeat (first | (with_reducible first | exact HB.out | apply below_alloc | apply pw_below_drewN | apply below_drew1 | refine below_set ?_ GE207.out) | exact HB.out)) hb); clear HO206; clear BK207; clear HB; have HO206 := n0_; have BK207 := n1_; have HB := n2_; clear n0_ n1_ n2_; (try clear hb); (try clear hb2); (try clear hk); (try clear hi)))
          go_ret
          exact ⟨by first | rfl | (simp [errW_none, errW_some] <;> rfl) | (simp [*, errW_none, errW_some] <;> rfl), by repeat (first | (with_reducible first | exact HB.out | apply below_alloc | apply pw_below_drewN | apply below_drew1 | refine below_set ?_ GE207.out) | exact HB.out)⟩
      · rw [if_neg c5] at H
        have c5b0 : (t210 == 0) = false := beq_eq_false_iff_ne.mpr c5
        have c5b1 : (t210 != 0) = true := bne_iff_ne.mpr c5
        obtain rfl := Option.some.inj H
        go_enter Tryd.func11, Tryd.ntmps11
        go_wp2_with (first | ((with_reducible refine gate_dst (N := 7) rfl ?_); refine Kd.R_lit (Kd.int .i64) _ 3 ?hg (N := 7) ?hd (xs := ([1, 2] : List Int)) (inner := [.int .i64 1, .int .i64 2]) (ok := fun _ => True) (okp := fun _ => True) ?hr ?hp (fun _ hk => hk) trivial (Below.refl _ _) (Nat.le_refl _) (by simp) ?_; (case hd => rfl); (case hg => rfl); (case hr => first | (go_simp; done) | (go_simp; rfl)); (case hp => exact (Reps.one (show Kd.M (Kd.int .i64) _ _ _ 1 [.int .i64 1] from rfl) (Reps.one (show Kd.M (Kd.int .i64) _ _ _ 2 [.int .i64 2] from rfl) (Reps.none _ _)))); intro v202 w29 ho30 hb hg_ hnew_; clear hg_ hnew_; (first | rw [← Ny201.out] at ho30 | (simp only [Int.reduceToNat] at ho30; rw [← Ny201.out] at ho30)); have n0_ := Aside0.mk (Kd.R_lower ho30 (below_size (by repeat (first | (with_reducible first | exact HB.out | apply below_alloc | apply pw_below_drewN | apply below_drew1) | exact HB.out)))); have n1_ := Aside0.mk (below_step (by repeat (first | (with_reducible first | exact HB.out | apply below_alloc | apply pw_below_drewN | apply below_drew1) | exact HB.out)) hb); clear HB; have HO203 := n0_; have HB := n1_; clear n0_ n1_; clear hb ho30; obtain ⟨Ao31, co31, eo31⟩ := Kd.R_slice HO203.out; subst eo31) | ((with_reducible refine gate_dst (N := 11) rfl ?_); refine Kd.N_lit k35 _ 35 ?hg (N' := 11) ?hd (xs := ([(⟨1, (⟨#[]⟩ : ByteArray), ([] : List (S78)), (⟨#[]⟩ : ByteArray), (-1), y201⟩ : S35), (⟨4, (⟨#[]⟩ : ByteArray), ([] : List (S78)), (⟨#[]⟩ : ByteArray), 0, ([] : List Int)⟩ : S35), (⟨5, (⟨#[]⟩ : ByteArray), ([] : List (S78)), (⟨#[]⟩ : ByteArray), 0, ([] : List Int)⟩ : S35)] : List (S35))) (inner := [.int .i64 1, .string (⟨#[]⟩ : ByteArray), .slice none 0 0, .string (⟨#[]⟩ : ByteArray), .int .i64 (-1), .slice Ao31 y201.length co31, .int .i64 4, .string (⟨#[]⟩ : ByteArray), .slice none 0 0, .string (⟨#[]⟩ : ByteArray), .int .i64 0, .slice none 0 0, .int .i64 5, .string (⟨#[]⟩ : ByteArray), .slice none 0 0, .string (⟨#[]⟩ : ByteArray), .int .i64 0, .slice none 0 0]) (ok := (fun _ => True)) (okp := (fun _ => True)) ?hr ?hp (fun _ hk => hk) ((show ∀ k_, w29.heap.size ≤ k_ → (fun _ => True) k_ from fun k_ hk => trivial) _ (Nat.le_refl _)) (Below.refl _ _) (Nat.le_refl _) (by simp) ?_; (case hd => rfl); (case hg => rfl); (case hr => first | (go_simp; done) | (go_simp; rfl)); (case hp => exact (Reps.c6 (show Kd.FK k35 _ _ (⟨1, (⟨#[]⟩ : ByteArray), ([] : List (S78)), (⟨#[]⟩ : ByteArray), (-1), y201⟩ : S35) [.int .i64 1, .string (⟨#[]⟩ : ByteArray), .slice none 0 0, .string (⟨#[]⟩ : ByteArray), .int .i64 (-1), .slice Ao31 y201.length co31] from (k35_mkF _ _ (⟨1, (⟨#[]⟩ : ByteArray), ([] : List (S78)), (⟨#[]⟩ : ByteArray), (-1), y201⟩ : S35) (Nat.le_refl _) (Kd.F_nil _ _ _) (Kd.R_reads' (Kd.R_mono (ok' := (fun _ => True)) (HO203.out) (fun k_ hk => trivial))).2.1 (Kd.R_F (Kd.R_mono (ok' := (fun _ => True)) (HO203.out) (fun k_ hk => trivial))))) (Reps.c6 (show Kd.FK k35 _ _ (⟨4, (⟨#[]⟩ : ByteArray), ([] : List (S78)), (⟨#[]⟩ : ByteArray), 0, ([] : List Int)⟩ : S35) [.int .i64 4, .string (⟨#[]⟩ : ByteArray), .slice none 0 0, .string (⟨#[]⟩ : ByteArray), .int .i64 0, .slice none 0 0] from (k35_mkF _ _ (⟨4, (⟨#[]⟩ : ByteArray), ([] : List (S78)), (⟨#[]⟩ : ByteArray), 0, ([] : List Int)⟩ : S35) (Nat.le_refl _) (Kd.F_nil _ _ _) (Nat.le_refl _) (Kd.F_nil _ _ _))) (Reps.c6 (show Kd.FK k35 _ _ (⟨5, (⟨#[]⟩ : ByteArray), ([] : List (S78)), (⟨#[]⟩ : ByteArray), 0, ([] : List Int)⟩ : S35) [.int .i64 5, .string (⟨#[]⟩ : ByteArray), .slice none 0 0, .string (⟨#[]⟩ : ByteArray), .int .i64 0, .slice none 0 0] from (k35_mkF _ _ (⟨5, (⟨#[]⟩ : ByteArray), ([] : List (S78)), (⟨#[]⟩ : ByteArray), 0, ([] : List Int)⟩ : S35) (Nat.le_refl _) (Kd.F_nil _ _ _) (Nat.le_refl _) (Kd.F_nil _ _ _))) (Reps.none _ _))))); intro v205 w32 ho33 hb hg_ hnew_; clear hg_ hnew_; (first | rw [← Ny204.out] at ho33 | (simp only [Int.reduceToNat] at ho33; rw [← Ny204.out] at ho33)); have n0_ := Aside0.mk (Kd.N_lower ho33 (below_size (by repeat (first | (with_reducible first | exact HB.out | apply below_alloc | apply pw_below_drewN | apply below_drew1) | exact HB.out)))); have n1_ := Aside0.mk (below_step (by repeat (first | (with_reducible first | exact HB.out | apply below_alloc | apply pw_below_drewN | apply below_drew1) | exact HB.out)) hb); clear HB; clear HO203; have HO206 := n0_; have HB := n1_; clear n0_ n1_; clear hb ho33; obtain ⟨Ao34, co34, eo34⟩ := Kd.N_slice HO206.out; subst eo34) | ((with_reducible refine gate_dst (N := 1) rfl ?_); refine box_event ?hg (N := 1) ?hd (cs := #[.slice none 0 0, .bool false]) (t := 24) ?hr ?_; (case hd => rfl); (case hg => rfl); (case hr => first | (go_simp; done) | (go_simp; rfl)); intro gb207 hg w35 hbox hb; have n0_ := Aside0.mk (Kd.N_below (Kd.N_elderB (by (with_reducible repeat (first | apply Kd.N_alloc | apply Kd.N_drewN | apply Kd.N_drew)); exact HO206.out) gb207 (Nat.le_of_eq hg.symm)) hb); have n1_ := Aside0.mk (below_step (by repeat (first | (with_reducible first | exact HB.out | apply below_alloc | apply pw_below_drewN | apply below_drew1) | exact HB.out)) hb); have n2_ := Aside0.mk (hbox); have n3_ := Aside0.mk ((by rw [hg]; exact (below_size (by repeat (first | (with_reducible first | exact HB.out | apply below_alloc | apply pw_below_drewN | apply below_drew1) | exact HB.out))) : w.heap.size ≤ gb207)); have n4_ := Aside0.mk ((by rw [hg]; exact (below_size (by repeat (first | (with_reducible first | exact HB.out | apply below_alloc | apply pw_below_drewN | apply below_drew1) | exact HB.out))) : w.heap.size ≤ gb207)); clear HO206; clear HB; have HO206 := n0_; have HB := n1_; have BK207 := n2_; have GW207 := n3_; have GE207 := n4_; clear n0_ n1_ n2_ n3_ n4_; clear hb hbox hg; have hcz36_0 : w35.cell? ⟨gb207, 0, none⟩ = some (.slice none 0 0) := (blk_cell BK207.out 0).trans rfl; have hcz36_1 : w35.cell? ⟨gb207, 1, none⟩ = some (.bool false) := (blk_cell BK207.out 1).trans rfl; have hfz36_0 := blk_frozen BK207.out 0; have hfz36_1 := blk_frozen BK207.out 1) | ((with_reducible refine gate_callee (f := 30) rfl ?_); refine goesL_ (some 15) rfl rfl Tryd.func30 (by kernel_rfl) rfl #[.agg #[.slice Ao34 y204.length co34, .bool false], .int .i64 1, .int .i64 3] rfl (by (try simp only [List.map_toArray, List.map_cons, List.map_nil]); first | done | rfl | (simp only [List.length_drop, List.length_take]; rfl)) ?_; (with_reducible refine (walk_Step.calls k _ _ y204 false 1 3 t208 true t210 _ ?side1 ?side2 A1.out).mono ?_); (case side1 => refine (Kd.N_reads' (e := 35) (base := w.heap.size) (ok := fun k_ => (True ∧ k_ ≠ gb207)) (n := y204.length) (c := co34) ?_).2.2; exact (by (with_reducible repeat (first | apply Kd.N_alloc | apply Kd.N_drewN | apply Kd.N_drew)); exact (Kd.N_mono (Kd.N_far (p := ⟨gb207, 1, none⟩) (Kd.N_far (p := ⟨gb207, 0, none⟩) (Kd.N_mono HO206.out (fun k_ hk => (⟨hk, hk.2⟩ : _ ∧ k_ ≠ gb207))) (fun _ hk => hk.2) (.slice Ao34 y204.length co34)) (fun _ hk => hk.2) (.bool false)) (fun _ h_ => h_.1)))); (case side2 => exact (Kd.N_reads' HO206.out).2.1); rintro e w37 ⟨rfl, hb⟩; refine ⟨_, rfl, ?_⟩; have n0_ := Aside0.mk (Kd.N_below (by (with_reducible repeat (first | apply Kd.N_alloc | apply Kd.N_drewN | apply Kd.N_drew)); exact (Kd.N_mono (Kd.N_far (p := ⟨gb207, 1, none⟩) (Kd.N_far (p := ⟨gb207, 0, none⟩) (Kd.N_mono HO206.out (fun k_ hk => (⟨hk, hk.2⟩ : _ ∧ k_ ≠ gb207))) (fun _ hk => hk.2) (.slice Ao34 y204.length co34)) (fun _ hk => hk.2) (.bool false)) (fun _ h_ => h_.1))) hb); have n1_ := Aside0.mk (blk_below (g := gb207) (o := .cells #[.slice Ao34 y204.length co34, .bool false] 24 (0, 0)) (by (with_reducible repeat (first | refine blk_drewN ?_ _ | refine blk_drew ?_ | refine blk_alloc ?_ _)); refine blk_put (cs := #[.slice Ao34 y204.length co34, .bool false]) ?_ 1 _ rfl; (with_reducible repeat (first | refine blk_drewN ?_ _ | refine blk_drew ?_ | refine blk_alloc ?_ _)); refine blk_put (cs := #[.slice none 0 0, .bool false]) ?_ 0 _ rfl; (with_reducible repeat (first | refine blk_drewN ?_ _ | refine blk_drew ?_ | refine blk_alloc ?_ _)); exact BK207.out) hb); have n2_ := Aside0.mk (below_step (by repeat (first | (with_reducible first | exact HB.out | apply below_alloc | apply pw_below_drewN | apply below_drew1 | refine below_set ?_ GE207.out) | exact HB.out)) hb); clear HO206; clear BK207; clear HB; have HO206 := n0_; have BK207 := n1_; have HB := n2_; clear n0_ n1_ n2_; (try clear hb); (try clear hb2); (try clear hk); (try clear hi); have hcz38_0 : w37.cell? ⟨gb207, 0, none⟩ = some (.slice Ao34 y204.length co34) := (blk_cell BK207.out 0).trans rfl; have hcz38_1 : w37.cell? ⟨gb207, 1, none⟩ = some (.bool false) := (blk_cell BK207.out 1).trans rfl; have hfz38_0 := blk_frozen BK207.out 0; have hfz38_1 := blk_frozen BK207.out 1) | ((with_reducible refine gate_callee (f := 31) rfl ?_); refine goesL_ (some 21) rfl rfl Tryd.func31 (by kernel_rfl) rfl #[.agg #[.slice Ao34 y204.length co34, .bool false], .int .i64 1, .int .i64 2] rfl (by (try simp only [List.map_toArray, List.map_cons, List.map_nil]); first | done | rfl | (simp only [List.length_drop, List.length_take]; rfl)) ?_; (with_reducible refine (walk_Before.calls k _ _ y204 false 1 2 t211 t212 _ ?side1 ?side2 A2.out).mono ?_); (case side1 => repeat (first | exact (Kd.N_reads' HO206.out).2.2 | (with_reducible refine Kd.C_alloc ?_ _) | (with_reducible refine Kd.C_drewN ?_ _) | (with_reducible refine Kd.C_drew ?_))); (case side2 => exact (Kd.N_reads' HO206.out).2.1); rintro e w39 ⟨rfl, hb⟩; refine ⟨_, rfl, ?_⟩; have n0_ := Aside0.mk (Kd.N_below (by (with_reducible repeat (first | apply Kd.N_alloc | apply Kd.N_drewN | apply Kd.N_drew)); exact HO206.out) hb); have n1_ := Aside0.mk (blk_below (g := gb207) (o := .cells #[.slice Ao34 y204.length co34, .bool false] 24 (0, 0)) (by (with_reducible repeat (first | refine blk_drewN ?_ _ | refine blk_drew ?_ | refine blk_alloc ?_ _)); exact BK207.out) hb); have n2_ := Aside0.mk (below_step (by repeat (first | (with_reducible first | exact HB.out | apply below_alloc | apply pw_below_drewN | apply below_drew1 | refine below_set ?_ GE207.out) | exact HB.out)) hb); clear HO206; clear BK207; clear HB; have HO206 := n0_; have BK207 := n1_; have HB := n2_; clear n0_ n1_ n2_; (try clear hb); (try clear hb2); (try clear hk); (try clear hi)))
        go_ret
        exact ⟨by first | rfl | (simp [errW_none, errW_some] <;> rfl) | (simp [*, errW_none, errW_some] <;> rfl), by repeat (first | (with_reducible first | exact HB.out | apply below_alloc | apply pw_below_drewN | apply below_drew1 | refine below_set ?_ GE207.out) | exact HB.out)⟩
    · replace c4 := Bool.eq_false_iff.mpr c4
      subst c4
      have H1 : (some false) = some r := by rw [if_neg (show ¬ (false = true) by decide)] at H; exact H
      clear H
      have H := H1
      clear H1
      obtain rfl := Option.some.inj H
      go_enter Tryd.func11, Tryd.ntmps11
      go_wp2_with (first | ((with_reducible refine gate_dst (N := 7) rfl ?_); refine Kd.R_lit (Kd.int .i64) _ 3 ?hg (N := 7) ?hd (xs := ([1, 2] : List Int)) (inner := [.int .i64 1, .int .i64 2]) (ok := fun _ => True) (okp := fun _ => True) ?hr ?hp (fun _ hk => hk) trivial (Below.refl _ _) (Nat.le_refl _) (by simp) ?_; (case hd => rfl); (case hg => rfl); (case hr => first | (go_simp; done) | (go_simp; rfl)); (case hp => exact (Reps.one (show Kd.M (Kd.int .i64) _ _ _ 1 [.int .i64 1] from rfl) (Reps.one (show Kd.M (Kd.int .i64) _ _ _ 2 [.int .i64 2] from rfl) (Reps.none _ _)))); intro v202 w40 ho41 hb hg_ hnew_; clear hg_ hnew_; (first | rw [← Ny201.out] at ho41 | (simp only [Int.reduceToNat] at ho41; rw [← Ny201.out] at ho41)); have n0_ := Aside0.mk (Kd.R_lower ho41 (below_size (by repeat (first | (with_reducible first | exact HB.out | apply below_alloc | apply pw_below_drewN | apply below_drew1) | exact HB.out)))); have n1_ := Aside0.mk (below_step (by repeat (first | (with_reducible first | exact HB.out | apply below_alloc | apply pw_below_drewN | apply below_drew1) | exact HB.out)) hb); clear HB; have HO203 := n0_; have HB := n1_; clear n0_ n1_; clear hb ho41; obtain ⟨Ao42, co42, eo42⟩ := Kd.R_slice HO203.out; subst eo42) | ((with_reducible refine gate_dst (N := 11) rfl ?_); refine Kd.N_lit k35 _ 35 ?hg (N' := 11) ?hd (xs := ([(⟨1, (⟨#[]⟩ : ByteArray), ([] : List (S78)), (⟨#[]⟩ : ByteArray), (-1), y201⟩ : S35), (⟨4, (⟨#[]⟩ : ByteArray), ([] : List (S78)), (⟨#[]⟩ : ByteArray), 0, ([] : List Int)⟩ : S35), (⟨5, (⟨#[]⟩ : ByteArray), ([] : List (S78)), (⟨#[]⟩ : ByteArray), 0, ([] : List Int)⟩ : S35)] : List (S35))) (inner := [.int .i64 1, .string (⟨#[]⟩ : ByteArray), .slice none 0 0, .string (⟨#[]⟩ : ByteArray), .int .i64 (-1), .slice Ao42 y201.length co42, .int .i64 4, .string (⟨#[]⟩ : ByteArray), .slice none 0 0, .string (⟨#[]⟩ : ByteArray), .int .i64 0, .slice none 0 0, .int .i64 5, .string (⟨#[]⟩ : ByteArray), .slice none 0 0, .string (⟨#[]⟩ : ByteArray), .int .i64 0, .slice none 0 0]) (ok := (fun _ => True)) (okp := (fun _ => True)) ?hr ?hp (fun _ hk => hk) ((show ∀ k_, w40.heap.size ≤ k_ → (fun _ => True) k_ from fun k_ hk => trivial) _ (Nat.le_refl _)) (Below.refl _ _) (Nat.le_refl _) (by simp) ?_; (case hd => rfl); (case hg => rfl); (case hr => first | (go_simp; done) | (go_simp; rfl)); (case hp => exact (Reps.c6 (show Kd.FK k35 _ _ (⟨1, (⟨#[]⟩ : ByteArray), ([] : List (S78)), (⟨#[]⟩ : ByteArray), (-1), y201⟩ : S35) [.int .i64 1, .string (⟨#[]⟩ : ByteArray), .slice none 0 0, .string (⟨#[]⟩ : ByteArray), .int .i64 (-1), .slice Ao42 y201.length co42] from (k35_mkF _ _ (⟨1, (⟨#[]⟩ : ByteArray), ([] : List (S78)), (⟨#[]⟩ : ByteArray), (-1), y201⟩ : S35) (Nat.le_refl _) (Kd.F_nil _ _ _) (Kd.R_reads' (Kd.R_mono (ok' := (fun _ => True)) (HO203.out) (fun k_ hk => trivial))).2.1 (Kd.R_F (Kd.R_mono (ok' := (fun _ => True)) (HO203.out) (fun k_ hk => trivial))))) (Reps.c6 (show Kd.FK k35 _ _ (⟨4, (⟨#[]⟩ : ByteArray), ([] : List (S78)), (⟨#[]⟩ : ByteArray), 0, ([] : List Int)⟩ : S35) [.int .i64 4, .string (⟨#[]⟩ : ByteArray), .slice none 0 0, .string (⟨#[]⟩ : ByteArray), .int .i64 0, .slice none 0 0] from (k35_mkF _ _ (⟨4, (⟨#[]⟩ : ByteArray), ([] : List (S78)), (⟨#[]⟩ : ByteArray), 0, ([] : List Int)⟩ : S35) (Nat.le_refl _) (Kd.F_nil _ _ _) (Nat.le_refl _) (Kd.F_nil _ _ _))) (Reps.c6 (show Kd.FK k35 _ _ (⟨5, (⟨#[]⟩ : ByteArray), ([] : List (S78)), (⟨#[]⟩ : ByteArray), 0, ([] : List Int)⟩ : S35) [.int .i64 5, .string (⟨#[]⟩ : ByteArray), .slice none 0 0, .string (⟨#[]⟩ : ByteArray), .int .i64 0, .slice none 0 0] from (k35_mkF _ _ (⟨5, (⟨#[]⟩ : ByteArray), ([] : List (S78)), (⟨#[]⟩ : ByteArray), 0, ([] : List Int)⟩ : S35) (Nat.le_refl _) (Kd.F_nil _ _ _) (Nat.le_refl _) (Kd.F_nil _ _ _))) (Reps.none _ _))))); intro v205 w43 ho44 hb hg_ hnew_; clear hg_ hnew_; (first | rw [← Ny204.out] at ho44 | (simp only [Int.reduceToNat] at ho44; rw [← Ny204.out] at ho44)); have n0_ := Aside0.mk (Kd.N_lower ho44 (below_size (by repeat (first | (with_reducible first | exact HB.out | apply below_alloc | apply pw_below_drewN | apply below_drew1) | exact HB.out)))); have n1_ := Aside0.mk (below_step (by repeat (first | (with_reducible first | exact HB.out | apply below_alloc | apply pw_below_drewN | apply below_drew1) | exact HB.out)) hb); clear HB; clear HO203; have HO206 := n0_; have HB := n1_; clear n0_ n1_; clear hb ho44; obtain ⟨Ao45, co45, eo45⟩ := Kd.N_slice HO206.out; subst eo45) | ((with_reducible refine gate_dst (N := 1) rfl ?_); refine box_event ?hg (N := 1) ?hd (cs := #[.slice none 0 0, .bool false]) (t := 24) ?hr ?_; (case hd => rfl); (case hg => rfl); (case hr => first | (go_simp; done) | (go_simp; rfl)); intro gb207 hg w46 hbox hb; have n0_ := Aside0.mk (Kd.N_below (Kd.N_elderB (by (with_reducible repeat (first | apply Kd.N_alloc | apply Kd.N_drewN | apply Kd.N_drew)); exact HO206.out) gb207 (Nat.le_of_eq hg.symm)) hb); have n1_ := Aside0.mk (below_step (by repeat (first | (with_reducible first | exact HB.out | apply below_alloc | apply pw_below_drewN | apply below_drew1) | exact HB.out)) hb); have n2_ := Aside0.mk (hbox); have n3_ := Aside0.mk ((by rw [hg]; exact (below_size (by repeat (first | (with_reducible first | exact HB.out | apply below_alloc | apply pw_below_drewN | apply below_drew1) | exact HB.out))) : w.heap.size ≤ gb207)); have n4_ := Aside0.mk ((by rw [hg]; exact (below_size (by repeat (first | (with_reducible first | exact HB.out | apply below_alloc | apply pw_below_drewN | apply below_drew1) | exact HB.out))) : w.heap.size ≤ gb207)); clear HO206; clear HB; have HO206 := n0_; have HB := n1_; have BK207 := n2_; have GW207 := n3_; have GE207 := n4_; clear n0_ n1_ n2_ n3_ n4_; clear hb hbox hg; have hcz47_0 : w46.cell? ⟨gb207, 0, none⟩ = some (.slice none 0 0) := (blk_cell BK207.out 0).trans rfl; have hcz47_1 : w46.cell? ⟨gb207, 1, none⟩ = some (.bool false) := (blk_cell BK207.out 1).trans rfl; have hfz47_0 := blk_frozen BK207.out 0; have hfz47_1 := blk_frozen BK207.out 1) | ((with_reducible refine gate_callee (f := 30) rfl ?_); refine goesL_ (some 15) rfl rfl Tryd.func30 (by kernel_rfl) rfl #[.agg #[.slice Ao45 y204.length co45, .bool false], .int .i64 1, .int .i64 3] rfl (by (try simp only [List.map_toArray, List.map_cons, List.map_nil]); first | done | rfl | (simp only [List.length_drop, List.length_take]; rfl)) ?_; (with_reducible refine (walk_Step.calls k _ _ y204 false 1 3 t208 false t210 _ ?side1 ?side2 A1.out).mono ?_); (case side1 => refine (Kd.N_reads' (e := 35) (base := w.heap.size) (ok := fun k_ => (True ∧ k_ ≠ gb207)) (n := y204.length) (c := co45) ?_).2.2; exact (by (with_reducible repeat (first | apply Kd.N_alloc | apply Kd.N_drewN | apply Kd.N_drew)); exact (Kd.N_mono (Kd.N_far (p := ⟨gb207, 1, none⟩) (Kd.N_far (p := ⟨gb207, 0, none⟩) (Kd.N_mono HO206.out (fun k_ hk => (⟨hk, hk.2⟩ : _ ∧ k_ ≠ gb207))) (fun _ hk => hk.2) (.slice Ao45 y204.length co45)) (fun _ hk => hk.2) (.bool false)) (fun _ h_ => h_.1)))); (case side2 => exact (Kd.N_reads' HO206.out).2.1); rintro e w48 ⟨rfl, hb⟩; refine ⟨_, rfl, ?_⟩; have n0_ := Aside0.mk (Kd.N_below (by (with_reducible repeat (first | apply Kd.N_alloc | apply Kd.N_drewN | apply Kd.N_drew)); exact (Kd.N_mono (Kd.N_far (p := ⟨gb207, 1, none⟩) (Kd.N_far (p := ⟨gb207, 0, none⟩) (Kd.N_mono HO206.out (fun k_ hk => (⟨hk, hk.2⟩ : _ ∧ k_ ≠ gb207))) (fun _ hk => hk.2) (.slice Ao45 y204.length co45)) (fun _ hk => hk.2) (.bool false)) (fun _ h_ => h_.1))) hb); have n1_ := Aside0.mk (blk_below (g := gb207) (o := .cells #[.slice Ao45 y204.length co45, .bool false] 24 (0, 0)) (by (with_reducible repeat (first | refine blk_drewN ?_ _ | refine blk_drew ?_ | refine blk_alloc ?_ _)); refine blk_put (cs := #[.slice Ao45 y204.length co45, .bool false]) ?_ 1 _ rfl; (with_reducible repeat (first | refine blk_drewN ?_ _ | refine blk_drew ?_ | refine blk_alloc ?_ _)); refine blk_put (cs := #[.slice none 0 0, .bool false]) ?_ 0 _ rfl; (with_reducible repeat (first | refine blk_drewN ?_ _ | refine blk_drew ?_ | refine blk_alloc ?_ _)); exact BK207.out) hb); have n2_ := Aside0.mk (below_step (by repeat (first | (with_reducible first | exact HB.out | apply below_alloc | apply pw_below_drewN | apply below_drew1 | refine below_set ?_ GE207.out) | exact HB.out)) hb); clear HO206; clear BK207; clear HB; have HO206 := n0_; have BK207 := n1_; have HB := n2_; clear n0_ n1_ n2_; (try clear hb); (try clear hb2); (try clear hk); (try clear hi); have hcz49_0 : w48.cell? ⟨gb207, 0, none⟩ = some (.slice Ao45 y204.length co45) := (blk_cell BK207.out 0).trans rfl; have hcz49_1 : w48.cell? ⟨gb207, 1, none⟩ = some (.bool false) := (blk_cell BK207.out 1).trans rfl; have hfz49_0 := blk_frozen BK207.out 0; have hfz49_1 := blk_frozen BK207.out 1) | ((with_reducible refine gate_callee (f := 31) rfl ?_); refine goesL_ (some 21) rfl rfl Tryd.func31 (by kernel_rfl) rfl #[.agg #[.slice Ao45 y204.length co45, .bool false], .int .i64 1, .int .i64 2] rfl (by (try simp only [List.map_toArray, List.map_cons, List.map_nil]); first | done | rfl | (simp only [List.length_drop, List.length_take]; rfl)) ?_; (with_reducible refine (walk_Before.calls k _ _ y204 false 1 2 t211 t212 _ ?side1 ?side2 A2.out).mono ?_); (case side1 => repeat (first | exact (Kd.N_reads' HO206.out).2.2 | (with_reducible refine Kd.C_alloc ?_ _) | (with_reducible refine Kd.C_drewN ?_ _) | (with_reducible refine Kd.C_drew ?_))); (case side2 => exact (Kd.N_reads' HO206.out).2.1); rintro e w50 ⟨rfl, hb⟩; refine ⟨_, rfl, ?_⟩; have n0_ := Aside0.mk (Kd.N_below (by (with_reducible repeat (first | apply Kd.N_alloc | apply Kd.N_drewN | apply Kd.N_drew)); exact HO206.out) hb); have n1_ := Aside0.mk (blk_below (g := gb207) (o := .cells #[.slice Ao45 y204.length co45, .bool false] 24 (0, 0)) (by (with_reducible repeat (first | refine blk_drewN ?_ _ | refine blk_drew ?_ | refine blk_alloc ?_ _)); exact BK207.out) hb); have n2_ := Aside0.mk (below_step (by repeat (first | (with_reducible first | exact HB.out | apply below_alloc | apply pw_below_drewN | apply below_drew1 | refine below_set ?_ GE207.out) | exact HB.out)) hb); clear HO206; clear BK207; clear HB; have HO206 := n0_; have BK207 := n1_; have HB := n2_; clear n0_ n1_ n2_; (try clear hb); (try clear hb2); (try clear hk); (try clear hi)))
      go_ret
      exact ⟨by first | rfl | (simp [errW_none, errW_some] <;> rfl) | (simp [*, errW_none, errW_some] <;> rfl), by repeat (first | (with_reducible first | exact HB.out | apply below_alloc | apply pw_below_drewN | apply below_drew1 | refine below_set ?_ GE207.out) | exact HB.out)⟩
  · rw [if_neg c3] at H
    have c3b0 : (t208 == 2) = false := beq_eq_false_iff_ne.mpr c3
    have c3b1 : (t208 != 2) = true := bne_iff_ne.mpr c3
    obtain rfl := Option.some.inj H
    go_enter Tryd.func11, Tryd.ntmps11
    go_wp2_with (first | ((with_reducible refine gate_dst (N := 7) rfl ?_); refine Kd.R_lit (Kd.int .i64) _ 3 ?hg (N := 7) ?hd (xs := ([1, 2] : List Int)) (inner := [.int .i64 1, .int .i64 2]) (ok := fun _ => True) (okp := fun _ => True) ?hr ?hp (fun _ hk => hk) trivial (Below.refl _ _) (Nat.le_refl _) (by simp) ?_; (case hd => rfl); (case hg => rfl); (case hr => first | (go_simp; done) | (go_simp; rfl)); (case hp => exact (Reps.one (show Kd.M (Kd.int .i64) _ _ _ 1 [.int .i64 1] from rfl) (Reps.one (show Kd.M (Kd.int .i64) _ _ _ 2 [.int .i64 2] from rfl) (Reps.none _ _)))); intro v202 w51 ho52 hb hg_ hnew_; clear hg_ hnew_; (first | rw [← Ny201.out] at ho52 | (simp only [Int.reduceToNat] at ho52; rw [← Ny201.out] at ho52)); have n0_ := Aside0.mk (Kd.R_lower ho52 (below_size (by repeat (first | (with_reducible first | exact HB.out | apply below_alloc | apply pw_below_drewN | apply below_drew1) | exact HB.out)))); have n1_ := Aside0.mk (below_step (by repeat (first | (with_reducible first | exact HB.out | apply below_alloc | apply pw_below_drewN | apply below_drew1) | exact HB.out)) hb); clear HB; have HO203 := n0_; have HB := n1_; clear n0_ n1_; clear hb ho52; obtain ⟨Ao53, co53, eo53⟩ := Kd.R_slice HO203.out; subst eo53) | ((with_reducible refine gate_dst (N := 11) rfl ?_); refine Kd.N_lit k35 _ 35 ?hg (N' := 11) ?hd (xs := ([(⟨1, (⟨#[]⟩ : ByteArray), ([] : List (S78)), (⟨#[]⟩ : ByteArray), (-1), y201⟩ : S35), (⟨4, (⟨#[]⟩ : ByteArray), ([] : List (S78)), (⟨#[]⟩ : ByteArray), 0, ([] : List Int)⟩ : S35), (⟨5, (⟨#[]⟩ : ByteArray), ([] : List (S78)), (⟨#[]⟩ : ByteArray), 0, ([] : List Int)⟩ : S35)] : List (S35))) (inner := [.int .i64 1, .string (⟨#[]⟩ : ByteArray), .slice none 0 0, .string (⟨#[]⟩ : ByteArray), .int .i64 (-1), .slice Ao53 y201.length co53, .int .i64 4, .string (⟨#[]⟩ : ByteArray), .slice none 0 0, .string (⟨#[]⟩ : ByteArray), .int .i64 0, .slice none 0 0, .int .i64 5, .string (⟨#[]⟩ : ByteArray), .slice none 0 0, .string (⟨#[]⟩ : ByteArray), .int .i64 0, .slice none 0 0]) (ok := (fun _ => True)) (okp := (fun _ => True)) ?hr ?hp (fun _ hk => hk) ((show ∀ k_, w51.heap.size ≤ k_ → (fun _ => True) k_ from fun k_ hk => trivial) _ (Nat.le_refl _)) (Below.refl _ _) (Nat.le_refl _) (by simp) ?_; (case hd => rfl); (case hg => rfl); (case hr => first | (go_simp; done) | (go_simp; rfl)); (case hp => exact (Reps.c6 (show Kd.FK k35 _ _ (⟨1, (⟨#[]⟩ : ByteArray), ([] : List (S78)), (⟨#[]⟩ : ByteArray), (-1), y201⟩ : S35) [.int .i64 1, .string (⟨#[]⟩ : ByteArray), .slice none 0 0, .string (⟨#[]⟩ : ByteArray), .int .i64 (-1), .slice Ao53 y201.length co53] from (k35_mkF _ _ (⟨1, (⟨#[]⟩ : ByteArray), ([] : List (S78)), (⟨#[]⟩ : ByteArray), (-1), y201⟩ : S35) (Nat.le_refl _) (Kd.F_nil _ _ _) (Kd.R_reads' (Kd.R_mono (ok' := (fun _ => True)) (HO203.out) (fun k_ hk => trivial))).2.1 (Kd.R_F (Kd.R_mono (ok' := (fun _ => True)) (HO203.out) (fun k_ hk => trivial))))) (Reps.c6 (show Kd.FK k35 _ _ (⟨4, (⟨#[]⟩ : ByteArray), ([] : List (S78)), (⟨#[]⟩ : ByteArray), 0, ([] : List Int)⟩ : S35) [.int .i64 4, .string (⟨#[]⟩ : ByteArray), .slice none 0 0, .string (⟨#[]⟩ : ByteArray), .int .i64 0, .slice none 0 0] from (k35_mkF _ _ (⟨4, (⟨#[]⟩ : ByteArray), ([] : List (S78)), (⟨#[]⟩ : ByteArray), 0, ([] : List Int)⟩ : S35) (Nat.le_refl _) (Kd.F_nil _ _ _) (Nat.le_refl _) (Kd.F_nil _ _ _))) (Reps.c6 (show Kd.FK k35 _ _ (⟨5, (⟨#[]⟩ : ByteArray), ([] : List (S78)), (⟨#[]⟩ : ByteArray), 0, ([] : List Int)⟩ : S35) [.int .i64 5, .string (⟨#[]⟩ : ByteArray), .slice none 0 0, .string (⟨#[]⟩ : ByteArray), .int .i64 0, .slice none 0 0] from (k35_mkF _ _ (⟨5, (⟨#[]⟩ : ByteArray), ([] : List (S78)), (⟨#[]⟩ : ByteArray), 0, ([] : List Int)⟩ : S35) (Nat.le_refl _) (Kd.F_nil _ _ _) (Nat.le_refl _) (Kd.F_nil _ _ _))) (Reps.none _ _))))); intro v205 w54 ho55 hb hg_ hnew_; clear hg_ hnew_; (first | rw [← Ny204.out] at ho55 | (simp only [Int.reduceToNat] at ho55; rw [← Ny204.out] at ho55)); have n0_ := Aside0.mk (Kd.N_lower ho55 (below_size (by repeat (first | (with_reducible first | exact HB.out | apply below_alloc | apply pw_below_drewN | apply below_drew1) | exact HB.out)))); have n1_ := Aside0.mk (below_step (by repeat (first | (with_reducible first | exact HB.out | apply below_alloc | apply pw_below_drewN | apply below_drew1) | exact HB.out)) hb); clear HB; clear HO203; have HO206 := n0_; have HB := n1_; clear n0_ n1_; clear hb ho55; obtain ⟨Ao56, co56, eo56⟩ := Kd.N_slice HO206.out; subst eo56) | ((with_reducible refine gate_dst (N := 1) rfl ?_); refine box_event ?hg (N := 1) ?hd (cs := #[.slice none 0 0, .bool false]) (t := 24) ?hr ?_; (case hd => rfl); (case hg => rfl); (case hr => first | (go_simp; done) | (go_simp; rfl)); intro gb207 hg w57 hbox hb; have n0_ := Aside0.mk (Kd.N_below (Kd.N_elderB (by (with_reducible repeat (first | apply Kd.N_alloc | apply Kd.N_drewN | apply Kd.N_drew)); exact HO206.out) gb207 (Nat.le_of_eq hg.symm)) hb); have n1_ := Aside0.mk (below_step (by repeat (first | (with_reducible first | exact HB.out | apply below_alloc | apply pw_below_drewN | apply below_drew1) | exact HB.out)) hb); have n2_ := Aside0.mk (hbox); have n3_ := Aside0.mk ((by rw [hg]; exact (below_size (by repeat (first | (with_reducible first | exact HB.out | apply below_alloc | apply pw_below_drewN | apply below_drew1) | exact HB.out))) : w.heap.size ≤ gb207)); have n4_ := Aside0.mk ((by rw [hg]; exact (below_size (by repeat (first | (with_reducible first | exact HB.out | apply below_alloc | apply pw_below_drewN | apply below_drew1) | exact HB.out))) : w.heap.size ≤ gb207)); clear HO206; clear HB; have HO206 := n0_; have HB := n1_; have BK207 := n2_; have GW207 := n3_; have GE207 := n4_; clear n0_ n1_ n2_ n3_ n4_; clear hb hbox hg; have hcz58_0 : w57.cell? ⟨gb207, 0, none⟩ = some (.slice none 0 0) := (blk_cell BK207.out 0).trans rfl; have hcz58_1 : w57.cell? ⟨gb207, 1, none⟩ = some (.bool false) := (blk_cell BK207.out 1).trans rfl; have hfz58_0 := blk_frozen BK207.out 0; have hfz58_1 := blk_frozen BK207.out 1) | ((with_reducible refine gate_callee (f := 30) rfl ?_); refine goesL_ (some 15) rfl rfl Tryd.func30 (by kernel_rfl) rfl #[.agg #[.slice Ao56 y204.length co56, .bool false], .int .i64 1, .int .i64 3] rfl (by (try simp only [List.map_toArray, List.map_cons, List.map_nil]); first | done | rfl | (simp only [List.length_drop, List.length_take]; rfl)) ?_; (with_reducible refine (walk_Step.calls k _ _ y204 false 1 3 t208 t209 t210 _ ?side1 ?side2 A1.out).mono ?_); (case side1 => refine (Kd.N_reads' (e := 35) (base := w.heap.size) (ok := fun k_ => (True ∧ k_ ≠ gb207)) (n := y204.length) (c := co56) ?_).2.2; exact (by (with_reducible repeat (first | apply Kd.N_alloc | apply Kd.N_drewN | apply Kd.N_drew)); exact (Kd.N_mono (Kd.N_far (p := ⟨gb207, 1, none⟩) (Kd.N_far (p := ⟨gb207, 0, none⟩) (Kd.N_mono HO206.out (fun k_ hk => (⟨hk, hk.2⟩ : _ ∧ k_ ≠ gb207))) (fun _ hk => hk.2) (.slice Ao56 y204.length co56)) (fun _ hk => hk.2) (.bool false)) (fun _ h_ => h_.1)))); (case side2 => exact (Kd.N_reads' HO206.out).2.1); rintro e w59 ⟨rfl, hb⟩; refine ⟨_, rfl, ?_⟩; have n0_ := Aside0.mk (Kd.N_below (by (with_reducible repeat (first | apply Kd.N_alloc | apply Kd.N_drewN | apply Kd.N_drew)); exact (Kd.N_mono (Kd.N_far (p := ⟨gb207, 1, none⟩) (Kd.N_far (p := ⟨gb207, 0, none⟩) (Kd.N_mono HO206.out (fun k_ hk => (⟨hk, hk.2⟩ : _ ∧ k_ ≠ gb207))) (fun _ hk => hk.2) (.slice Ao56 y204.length co56)) (fun _ hk => hk.2) (.bool false)) (fun _ h_ => h_.1))) hb); have n1_ := Aside0.mk (blk_below (g := gb207) (o := .cells #[.slice Ao56 y204.length co56, .bool false] 24 (0, 0)) (by (with_reducible repeat (first | refine blk_drewN ?_ _ | refine blk_drew ?_ | refine blk_alloc ?_ _)); refine blk_put (cs := #[.slice Ao56 y204.length co56, .bool false]) ?_ 1 _ rfl; (with_reducible repeat (first | refine blk_drewN ?_ _ | refine blk_drew ?_ | refine blk_alloc ?_ _)); refine blk_put (cs := #[.slice none 0 0, .bool false]) ?_ 0 _ rfl; (with_reducible repeat (first | refine blk_drewN ?_ _ | refine blk_drew ?_ | refine blk_alloc ?_ _)); exact BK207.out) hb); have n2_ := Aside0.mk (below_step (by repeat (first | (with_reducible first | exact HB.out | apply below_alloc | apply pw_below_drewN | apply below_drew1 | refine below_set ?_ GE207.out) | exact HB.out)) hb); clear HO206; clear BK207; clear HB; have HO206 := n0_; have BK207 := n1_; have HB := n2_; clear n0_ n1_ n2_; (try clear hb); (try clear hb2); (try clear hk); (try clear hi); have hcz60_0 : w59.cell? ⟨gb207, 0, none⟩ = some (.slice Ao56 y204.length co56) := (blk_cell BK207.out 0).trans rfl; have hcz60_1 : w59.cell? ⟨gb207, 1, none⟩ = some (.bool false) := (blk_cell BK207.out 1).trans rfl; have hfz60_0 := blk_frozen BK207.out 0; have hfz60_1 := blk_frozen BK207.out 1) | ((with_reducible refine gate_callee (f := 31) rfl ?_); refine goesL_ (some 21) rfl rfl Tryd.func31 (by kernel_rfl) rfl #[.agg #[.slice Ao56 y204.length co56, .bool false], .int .i64 1, .int .i64 2] rfl (by (try simp only [List.map_toArray, List.map_cons, List.map_nil]); first | done | rfl | (simp only [List.length_drop, List.length_take]; rfl)) ?_; (with_reducible refine (walk_Before.calls k _ _ y204 false 1 2 t211 t212 _ ?side1 ?side2 A2.out).mono ?_); (case side1 => repeat (first | exact (Kd.N_reads' HO206.out).2.2 | (with_reducible refine Kd.C_alloc ?_ _) | (with_reducible refine Kd.C_drewN ?_ _) | (with_reducible refine Kd.C_drew ?_))); (case side2 => exact (Kd.N_reads' HO206.out).2.1); rintro e w61 ⟨rfl, hb⟩; refine ⟨_, rfl, ?_⟩; have n0_ := Aside0.mk (Kd.N_below (by (with_reducible repeat (first | apply Kd.N_alloc | apply Kd.N_drewN | apply Kd.N_drew)); exact HO206.out) hb); have n1_ := Aside0.mk (blk_below (g := gb207) (o := .cells #[.slice Ao56 y204.length co56, .bool false] 24 (0, 0)) (by (with_reducible repeat (first | refine blk_drewN ?_ _ | refine blk_drew ?_ | refine blk_alloc ?_ _)); exact BK207.out) hb); have n2_ := Aside0.mk (below_step (by repeat (first | (with_reducible first | exact HB.out | apply below_alloc | apply pw_below_drewN | apply below_drew1 | refine below_set ?_ GE207.out) | exact HB.out)) hb); clear HO206; clear BK207; clear HB; have HO206 := n0_; have BK207 := n1_; have HB := n2_; clear n0_ n1_ n2_; (try clear hb); (try clear hb2); (try clear hk); (try clear hi)))
    go_ret
    exact ⟨by first | rfl | (simp [errW_none, errW_some] <;> rfl) | (simp [*, errW_none, errW_some] <;> rfl), by repeat (first | (with_reducible first | exact HB.out | apply below_alloc | apply pw_below_drewN | apply below_drew1 | refine below_set ?_ GE207.out) | exact HB.out)⟩

/-! ### slices_Contains_int_int: function 32 -/
def slices_Contains_int_int.f (k : Nat) (l0 : List Int) (a1 : Int) : Option (Bool) := (slices_Index_int_int.f k l0 a1).bind fun t213 => (some (decide (t213 ≥ 0)))
theorem slices_Contains_int_int.mono : ∀ a0 a1 k, LeO (slices_Contains_int_int.f k a0 a1) (slices_Contains_int_int.f (k + 1) a0 a1) := by
  intro a0 a1 k
  unfold slices_Contains_int_int.f
  repeat' first
      | (with_reducible exact slices_Index_int_int.mono _ _ _)
      | (with_reducible exact LeO.refl _)
      | (with_reducible exact LeO.none _)
      | (with_reducible refine LeO.ite ?_ ?_)
      | (with_reducible refine LeO.bind ?_ (fun _ => ?_))
      | exact slices_Index_int_int.mono _ _ _
      | exact LeO.none _
      | refine LeO.ite ?_ ?_
      | refine LeO.bind ?_ (fun _ => ?_)
set_option maxHeartbeats 8000000 in
set_option maxRecDepth 100000 in
theorem slices_Contains_int_int.calls (k : Nat) (A0 : Option Addr) (c0 : Nat) (l0 : List Int) (a1 : Int) (r : Bool) (w : World) (hr0 : Kd.C (Kd.int .i64) w A0 l0.length l0) (hc0 : l0.length ≤ c0) (h : slices_Contains_int_int.f k l0 a1 = some r) :
    Calls Tryd.prog 32 #[.slice A0 l0.length c0, .int .i64 a1] w fun e w' => e = .returned (.bool r) ∧ Drawn0 w w' := by
  have HR0 := Aside0.mk hr0
  have HC0 := Aside0.mk hc0
  clear hr0 hc0
  have H : ((slices_Index_int_int.f k l0 a1).bind fun t213 => (some (decide (t213 ≥ 0)))) = some r := h
  clear h
  replace H := Option.bind_eq_some_iff.mp H
  obtain ⟨t213, A30, H⟩ := H
  replace H : (some (decide (t213 ≥ 0))) = some r := H
  have A3 := Aside0.mk A30
  clear A30
  obtain rfl := Option.some.inj H
  go_enter Tryd.func32, Tryd.ntmps32
  go_wp2_with (first | ((with_reducible refine gate_callee (f := 50) rfl ?_); refine goesL_ (some 7) rfl rfl Tryd.func50 (by kernel_rfl) rfl #[.slice A0 l0.length c0, .int .i64 a1] rfl (by (try simp only [List.map_toArray, List.map_cons, List.map_nil]); first | done | rfl | (simp only [List.length_drop, List.length_take]; rfl)) ?_; (with_reducible refine (slices_Index_int_int.calls k _ _ l0 a1 t213 _ ?side1 ?side2 A3.out).mono ?_); (case side1 => repeat (first | exact HR0.out | (with_reducible refine Kd.C_alloc ?_ _) | (with_reducible refine Kd.C_drewN ?_ _) | (with_reducible refine Kd.C_drew ?_))); (case side2 => exact HC0.out); rintro e w' ⟨rfl, ⟨nd, rfl⟩⟩; refine ⟨_, rfl, ?_⟩))
  go_ret
  exact ⟨by first | rfl | (simp; done) | (simp [*]; done), by repeat (first | exact Drawn0.refl _ | apply Drawn0.step)⟩

/-! ### walk_Within: function 12 -/
def walk_Within.f (k : Nat) (l : List S35) (q : Bool) (a b : Int) : Option (Bool × Int) :=
  (walk_check.f k l q [a, b]).bind fun e => if e = 0 then (walk_walker_path.f k l q a).bind fun pa => (slices_Contains_int_int.f k pa.1 b).bind fun r => some (r, 0) else some (false, e)
theorem walk_Within.mono (l : List S35) (q : Bool) (a b : Int) (k : Nat) : LeO (walk_Within.f k l q a b) (walk_Within.f (k + 1) l q a b) :=
  LeO.bind (walk_check.mono _ _ _ _) fun _ => LeO.ite (LeO.bind (walk_walker_path.mono _ _ _ _) fun _ => LeO.bind (slices_Contains_int_int.mono _ _ _) fun _ => LeO.refl _) (LeO.refl _)

set_option maxRecDepth 100000 in
set_option maxHeartbeats 4000000 in
theorem walk_Within.calls (k : Nat) (A0_0 : Option Addr) (c0_0 : Nat) (l0_0 : List S35) (a0_1 : Bool) (a1 : Int) (a2 : Int) (r1 : Bool) (r2 : Int) (w : World) (hr0_0 : Kd.C k35 w A0_0 l0_0.length l0_0) (hc0_0 : l0_0.length ≤ c0_0) (h : walk_Within.f k l0_0 a0_1 a1 a2 = some (r1, r2)) :
    Calls Tryd.prog 12 #[.agg #[.slice A0_0 l0_0.length c0_0, .bool a0_1], .int .i64 a1, .int .i64 a2] w fun e w' => e = .returned (.tuple #[.bool r1, .int .i64 r2]) ∧ Below w.heap.size w w' := by
  obtain ⟨e1, he1, h⟩ := Option.bind_eq_some_iff.1 h
  have hw0 := (Below.refl w.heap.size w).alloc (Nat.le_refl _) (.cells #[.slice A0_0 l0_0.length c0_0, .bool a0_1] 24)
  obtain ⟨w1, hw1⟩ : ∃ w1, w1 = ((w.alloc (.cells #[.slice A0_0 l0_0.length c0_0, .bool a0_1] 24)).alloc (.cells #[.int .i64 a1, .int .i64 a2] 3)) := ⟨_, rfl⟩
  have hb1 : Below w.heap.size w w1 := by rw [hw1]; exact hw0.alloc hw0.size _
  have hL : Kd.C (Kd.int .i64) w1 (some ⟨w.heap.size + 1, 0, none⟩) [a1, a2].length [a1, a2] := by
    rw [hw1, show w.heap.size + 1 = (w.alloc (.cells #[.slice A0_0 l0_0.length c0_0, .bool a0_1] 24)).heap.size from by simp]
    exact lit_reads (w.alloc (.cells #[.slice A0_0 l0_0.length c0_0, .bool a0_1] 24)) [a1, a2] 3 (by simp)
  have hC1 := walk_check.calls k A0_0 c0_0 l0_0 a0_1 _ 2 [a1, a2] e1 w1 (Kd.C_below hr0_0 hb1) hc0_0 hL he1
  rw [show [a1, a2].length = 2 from rfl] at hC1
  have HC1 := Lib.hid hC1
  clear hL hC1
  have HR : Hid (Kd.C k35 w1 A0_0 l0_0.length l0_0) := Lib.hid (Kd.C_below hr0_0 hb1)
  have HB1 := Lib.hid hb1
  have HW1 := Lib.hid hw1
  clear hr0_0 hw0 he1 hb1 hw1
  by_cases h0 : e1 = 0
  · rw [if_pos h0] at h
    subst h0
    obtain ⟨⟨ps, q1⟩, hp, h⟩ := Option.bind_eq_some_iff.1 h
    obtain ⟨r, hg, h⟩ := Option.bind_eq_some_iff.1 h
    have he := Option.some.inj h
    simp only [Prod.mk.injEq] at he
    obtain ⟨rfl, rfl⟩ := he
    have e1 := walk_path_q k _ _ _ _ _ _ (show walk_walker_path.l0 k a1 [] l0_0 a0_1 = some (ps, q1) from hp)
    subst e1
    have HP1 := Lib.hid (fun g w0 W hI hB => walk_walker_path.calls k g l0_0 q1 a1 ps q1 w0 W hI hB hp)
    have HG := Lib.hid hg
    clear h hg hp
    go_enter Tryd.func12, Tryd.ntmps12
    go_wp2_with fail
    rw [← HW1.out]
    with_reducible refine HC1.out.mono ?_
    intro e w2 hP
    obtain ⟨g, rfl, hi, hb⟩ := hP.1 rfl
    have HI := Lib.hid hi
    have HB2 := Lib.hid hb
    clear hi hb hP
    go_wp2_with fail
    refine (HP1.out _ _ _ HI.out HB2.out).mono ?_
    rintro e w3 ⟨v1, rfl, hv1, hi3, hb3, _⟩
    obtain ⟨A, ca, rfl, hla, hCA⟩ := Kd.R_reads hv1
    have HBW : Hid (Below w.heap.size w w3) := Lib.hid (HB1.out.trans (hb3.mono HB1.out.size))
    have HCt := Lib.hid (slices_Contains_int_int.calls k A ca ps a2 r w3 hCA hla HG.out)
    clear hi3 hb3 hv1 hCA hla
    go_wp2_with fail
    refine HCt.out.mono ?_
    rintro e w4 ⟨rfl, hd⟩
    have HB4 : Hid (Below w.heap.size w w4) := Lib.hid (HBW.out.trans (hd.below.mono HBW.out.size))
    clear hd
    go_wp2_with fail
    go_ret2
    exact ⟨rfl, HB4.out⟩
  · rw [if_neg h0] at h
    have HE := Lib.hid (Option.some.inj h)
    clear h
    have h0b : (e1 != 0) = true := by simpa using h0
    go_enter Tryd.func12, Tryd.ntmps12
    go_wp2_with fail
    rw [← HW1.out]
    with_reducible refine HC1.out.mono ?_
    intro e w2 hP
    obtain ⟨rfl, hb⟩ := hP.2 h0
    have HB2 := Lib.hid (HB1.out.trans (hb.mono HB1.out.size))
    clear hb hP
    go_wp2_with fail
    go_ret2
    obtain ⟨rfl, rfl⟩ := by simpa using HE.out
    exact ⟨rfl, HB2.out⟩

end Go.Proofs.YtaojbobbjnibhaaDoor.PCM
