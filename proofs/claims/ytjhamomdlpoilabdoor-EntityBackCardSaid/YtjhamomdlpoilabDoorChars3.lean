/- Package chars: the signs of a text, one behind the other, each with its place: the range function. -/
import Derived.RangeFuncBox
import Derived.RangeFuncNested
import Derived.RangeFuncBound
import Derived.RangeFuncCalls
import Derived.RangeFuncLeaves
import Derived.Shelf.Abstract
import Derived.Shelf.RegionOpen
import Derived.WalkKit
import Derived.OwnWalkIn
import Derived.TacticsInMore
import Derived.LoopNIn
import Derived.LoopIn
import Derived.Maps.AppendAt
import Derived.Lib.IndexBytes
import Derived.Test.YtjhamomdlpoilabDoorChars2
namespace Go.Proofs.YtjhamomdlpoilabDoor.Chars
open Go.RowKit Go.Shelf Go.Proofs.YtjhamomdlpoilabDoorW.PrintWords
set_option linter.unusedVariables false
set_option linter.unusedSimpArgs false
attribute [local go_sem] Oper.semAt_some

/-- The signs from a place on, at most k of them. -/
def signsK : Nat → Nat → List UInt8 → List (Nat × Int)
  | 0, _, _ => []
  | k + 1, p, l => if l = [] then [] else (p, (oneF l).1) :: signsK k (p + (oneF l).2) (l.drop (oneF l).2)
def signsF (l : List UInt8) : List (Nat × Int) := signsK l.length 0 l
theorem signsK_fuel : ∀ (k p : Nat) (l : List UInt8), l.length ≤ k → signsK k p l = signsK l.length p l
  | 0, p, l, h => by rw [show l.length = 0 by omega]
  | k + 1, p, l, h => by
    by_cases h0 : l = []
    · subst h0; rfl
    · obtain ⟨h1, h2⟩ := oneF_le l h0
      obtain ⟨m, hm⟩ : ∃ m, l.length = m + 1 := ⟨l.length - 1, by omega⟩
      rw [hm]
      simp only [signsK]
      rw [if_neg h0, if_neg h0]
      have e : (l.drop (oneF l).2).length ≤ m := by rw [List.length_drop]; omega
      rw [signsK_fuel k _ _ (by rw [List.length_drop]; omega), signsK_fuel m _ _ e]
theorem signsK_len : ∀ (k p : Nat) (l : List UInt8), (signsK k p l).length ≤ k
  | 0, _, _ => Nat.le_refl _
  | k + 1, p, l => by
    simp only [signsK]
    split
    · simp
    · rw [List.length_cons]
      have := signsK_len k (p + (oneF l).2) (l.drop (oneF l).2)
      omega
/-- The range of a sign. -/
theorem oneF_rng (l : List UInt8) : 0 ≤ (oneF l).1 ∧ (oneF l).1 ≤ 2147483647 := by
  have key : ∀ (r low high : Nat) (n : Int) (t : List UInt8) (i : Nat), 0 ≤ n → n < 32 * 64 ^ (3 - r) → r ≤ 3 → 0 ≤ (contF r low high n t i).1 ∧ (contF r low high n t i).1 ≤ 2147483647 := by
    intro r
    induction r with
    | zero =>
      intro low high n t i h0 h1 _
      simp only [contF]
      have : (32 : Int) * 64 ^ (3 - 0) = 8388608 := by decide
      omega
    | succ r ih =>
      intro low high n t i h0 h1 h3
      cases t with
      | nil => simp only [contF]; omega
      | cons c t =>
        simp only [contF]
        split
        · dsimp only; omega
        · refine ih _ _ _ _ _ (by omega) ?_ (by omega)
          have e : (32 : Int) * 64 ^ (3 - r) = 32 * 64 ^ (3 - (r + 1)) * 64 := by
            rw [show 3 - r = (3 - (r + 1)) + 1 by omega, Int.pow_succ, Int.mul_assoc]
          omega
  cases l with
  | nil => simp only [oneF]; omega
  | cons c t =>
    have hc := c.toNat_lt
    obtain ⟨k1, k2, _, _⟩ := lead_ok c.toNat
    simp only [oneF]
    split
    · dsimp only; omega
    · split
      · dsimp only; omega
      · rename_i a b
        have h : (leadF c.toNat).more = 1 ∨ (leadF c.toNat).more = 2 ∨ (leadF c.toNat).more = 3 := by omega
        rcases h with h | h | h
        all_goals
          rw [h]
          exact key _ _ _ _ _ _ (Int.emod_nonneg _ (by decide)) (Int.lt_of_lt_of_le (Int.emod_lt_of_pos _ (by decide)) (by decide)) (by decide)

/-- A sign with its place, as a round is handed it. -/
abbrev Sg := { x : Nat × Int // 0 ≤ x.2 ∧ x.2 ≤ 2147483647 }
def vals (l : List Sg) : List (Nat × Int) := l.map (·.1)
theorem vals_snoc (l : List Sg) (x : Sg) : vals (l ++ [x]) = vals l ++ [x.1] := by simp [vals]
theorem vals_len (l : List Sg) : (vals l).length = l.length := by simp [vals]
/-- What a round must keep: the box that holds the text. -/
def KeepBox (Bs : Nat) (W W' : World) : Prop := W'.heap[Bs]? = W.heap[Bs]?
theorem one_drop (s : ByteArray) (k : Nat) (w : World) (h : k < s.size) (hs : s.size ≤ 140737488351232) :
    Calls Tryd.prog 38 #[.string (s.extract k s.size)] w fun e w' => e = .returned (.tuple #[.int .i32 (oneF (s.data.toList.drop k)).1, .int .i64 (oneF (s.data.toList.drop k)).2]) ∧ Drawn0 w w' := by
  have e : (s.extract k s.size).data.toList = s.data.toList.drop k := Lib.extract_to_end s k
  have := one_any (s.extract k s.size) w (by simp; omega) (by simp; omega)
  rw [e] at this
  exact this

set_option maxRecDepth 100000 in
set_option maxHeartbeats 2000000 in
theorem signs1_in (F : Fence) (n : Nat) (hF : F = Fence.wide) (hn : 3 ≤ n) (l Bs : Nat) (s : ByteArray) (hs : s.size ≤ 1000000) (J Jx : List Sg → World → Prop)
    (hY : ∀ pre x W, J pre W → pre.length < s.size → YieldAt F (n - 1) Tryd.prog l #[.int .i64 (x.1.1 : Int), .int .i32 x.1.2] W fun e W' =>
      (e = .returned (.bool true) ∧ J (pre ++ [x]) W' ∧ KeepBox Bs W W') ∨ (e = .returned (.bool false) ∧ Jx (pre ++ [x]) W'))
    {B0 : Nat} (hJ : AbidesFrom B0 J)
    (W : World) (hBs : W.heap[Bs]? = some (.cells #[.string s] 9 (0, 0))) (h0 : J [] W) :
    CallsIn F n Tryd.prog 37 #[.func (.yield l) #[] #[], .pointer (some ⟨Bs, 0, none⟩)] W fun e W' => (∃ v, e = .returned v) ∧
      ((∃ ys, vals ys = signsF s.data.toList ∧ J ys W') ∨ (∃ pre, vals pre <+: signsF s.data.toList ∧ Jx pre W')) := by
  subst hF
  refine callsIn_of_wp Tryd.func37 rfl trivial ?_ rfl
  simp only [Tryd.ntmps37, List.size_toArray, List.length_cons, List.length_nil, Nat.reduceAdd, Nat.reduceSub, Array.replicate_succ, Array.replicate_zero, List.push_toArray, List.append_toArray, List.nil_append, List.cons_append]
  gi_wp2
  gi_loopw [3, 4, 5] (fun i _ _ wr => ∃ (k : Nat) (pre : List Sg), k ≤ s.size ∧ pre.length ≤ k ∧ i = .int .i64 k ∧ Hid (signsF s.data.toList = vals pre ++ signsK (s.data.toList.drop k).length k (s.data.toList.drop k)) ∧ Hid (J pre wr) ∧ Hid (wr.heap[Bs]? = some (.cells #[.string s] 9 (0, 0))))
    (fun i _ _ _ => s.size - (intOf i).toNat)
  case atStart => exact ⟨0, [], Nat.zero_le _, Nat.le_refl _, rfl, Lib.hid rfl, Lib.hid h0, Lib.hid hBs⟩
  case round =>
    obtain ⟨k, pre, hk, hpl, rfl, HS, HJ, HB⟩ := hrel
    have hcell : wr.cell? ⟨Bs, 0, none⟩ = some (.string s) := by rw [Lib.cell_of_heap HB.out]; rfl
    by_cases hlt : k < s.size
    · have hld := len_data s
      have hne : s.data.toList.drop k ≠ [] := by intro e; have := congrArg List.length e; rw [List.length_drop] at this; simp at this; omega
      have HS2 : Hid (signsF s.data.toList = (vals pre ++ [(k, (oneF (s.data.toList.drop k)).1)]) ++ signsK (s.data.toList.drop (k + (oneF (s.data.toList.drop k)).2)).length (k + (oneF (s.data.toList.drop k)).2) (s.data.toList.drop (k + (oneF (s.data.toList.drop k)).2))) := Lib.hid (by
        rw [HS.out]
        obtain ⟨m, hm⟩ : ∃ m, (s.data.toList.drop k).length = m + 1 := ⟨(s.data.toList.drop k).length - 1, by rw [List.length_drop]; omega⟩
        rw [hm]
        simp only [signsK]
        rw [if_neg hne, List.drop_drop, signsK_fuel m _ _ (by rw [List.length_drop] at hm ⊢; have := (oneF_le _ hne).1; omega), List.append_assoc]
        rfl)
      obtain ⟨hw1, hw2⟩ := oneF_le _ hne
      rw [List.length_drop, hld] at hw2
      have hrng := oneF_rng (s.data.toList.drop k)
      have HONE := Lib.hid (fun W => one_drop s k W hlt (by omega))
      generalize oneF (s.data.toList.drop k) = o at *
      obtain ⟨r, wd⟩ := o
      dsimp only at hw1 hw2 hrng
      rw [← vals_snoc pre ⟨(k, r), hrng⟩] at HS2
      clear hne hld
      gi_wp2_with fail
      refine ⟨trivial, fun _ => by omega, ?_⟩
      refine (callsIn_wide.2 (HONE.out _)).mono ?_
      rintro e W2 ⟨rfl, hd2⟩
      have HJ2 : Hid (J pre W2) := Lib.hid (hJ pre wr W2 none HJ.out (grown_of_below hd2.below none) (fun r e => by cases e))
      have HB2 : Hid (W2.heap[Bs]? = some (.cells #[.string s] 9 (0, 0))) := Lib.hid (by obtain ⟨⟨m, rfl⟩⟩ := hd2; exact HB.out)
      have hcell2 : W2.cell? ⟨Bs, 0, none⟩ = some (.string s) := by rw [Lib.cell_of_heap HB2.out]; rfl
      clear hd2
      obtain ⟨fn, tmps, assign, body, hy, hR⟩ := hY pre ⟨(k, r), hrng⟩ W2 HJ2.out (by omega)
      dsimp only at hy
      have HRR := Lib.hid hR
      clear hR
      gi_wp2
      refine ⟨fun _ => by omega, ?_⟩
      refine HRR.out.mono ?_
      rintro e W3 (⟨rfl, hJ3, hk3⟩ | ⟨rfl, hJx3⟩)
      · have HJ3 := Lib.hid hJ3
        have HB3 : Hid (W3.heap[Bs]? = some (.cells #[.string s] 9 (0, 0))) := Lib.hid (hk3.trans HB2.out)
        clear hJ3 hk3
        gi_wp2
        go_roundw
        case rel => exact ⟨k + wd, pre ++ [⟨(k, r), hrng⟩], by omega, by rw [List.length_append]; simp; omega, by go_num, HS2, HJ3, HB3⟩
        case measure => simp [intOf]; omega
      · have HX3 := Lib.hid hJx3
        clear hJx3
        gi_wp2
        refine bodyPost_ret (results_none rfl _ _ _) rfl ?_
        exact ⟨⟨_, rfl⟩, .inr ⟨_, ⟨_, HS2.out.symm⟩, HX3.out⟩⟩
    · obtain rfl : k = s.size := by omega
      have HE : Hid (vals pre = signsF s.data.toList) := Lib.hid (by rw [HS.out, drop_end s _ (Nat.le_refl _)]; simp [signsK])
      gi_wp2
      go_end0
      exact ⟨⟨_, rfl⟩, .inl ⟨_, HE.out, HJ.out⟩⟩
end Go.Proofs.YtjhamomdlpoilabDoor.Chars
