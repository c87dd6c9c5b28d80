/- Package active: attributes are looked for; alike. -/
import Derived.Test.YtdheifnebkkjhaaAct5
import Derived.Test.YtdheifnebkkjhaaWEqStruct
namespace Go.Proofs.Ytdheifnebkkjhaa.Act
open Go.RowKit Go.Proofs.YtdheifnebkkjhaaW.PrintWords
set_option linter.unusedVariables false
set_option linter.unusedSimpArgs false

theorem RPr.cells {w : World} {A : Option Addr} {n : Nat} {xs : List (ByteArray × ByteArray)} (h : RPr w A n xs) (k : Nat) (hk : k < n) :
    ∃ ad a b, A = some ad ∧ w.cell? (ad.add (k * 2)) = some (.string a) ∧ w.cell? ⟨(ad.add (k * 2)).block, (ad.add (k * 2)).off + 1, none⟩ = some (.string b) := by
  obtain ⟨ad, c, e, hl, rfl, hc⟩ := ReadsRow.get_ h (ByteArray.empty, ByteArray.empty) (k : Int) (by omega) (by omega)
  rw [Int.toNat_natCast] at hc
  refine ⟨ad, (xs.getD k (ByteArray.empty, ByteArray.empty)).1, (xs.getD k (ByteArray.empty, ByteArray.empty)).2, e, hc 0 _ rfl, ?_⟩
  rw [← add_field ad (k * 2) 1 (by decide)]; exact hc 1 _ rfl
theorem eqPr (d : Nat) (w : World) (x0 y0 x1 y1 : ByteArray) :
    (Op.equalIn (d + 2) 46 (.agg #[.string x0, .string x1]) (.agg #[.string y0, .string y1])).run Try.prog w = .ok (x0.toList == y0.toList && (x1.toList == y1.toList)) w := by
  refine eqA_of Try.underlying46 (by kernel_rfl) ?_
  refine eqf_cons (by rfl) (by go_simp; rfl) (by go_simp; rfl) (by go_simp) ?_
  exact eqf_last (by rfl) (by go_simp; rfl) (by go_simp; rfl) (by go_simp)
attribute [local go_sem high] eqPr
set_option maxHeartbeats 2000000 in
theorem indexP_any (A : Option Addr) (n c : Nat) (xs : List (ByteArray × ByteArray)) (a b : ByteArray) (w : World) (hr : RPr w A n xs) :
    Calls Try.prog 32 #[.slice A n c, .agg #[.string a, .string b]] w fun e w' => ∃ i : Int, e = .returned (.int .i64 i) ∧ Below w.heap.size w w' := by
  have hnm : n ≤ 9223372036854775807 := hr.2.1
  have HR := Lib.hid hr
  clear hr
  go_enter Try.func32, Try.ntmps32
  go_wp2_with fail
  have HB0 : Hid (Below w.heap.size w (w.alloc (.cells #[.string a, .string b] 46)) ∧ (w.alloc (.cells #[.string a, .string b] 46)).heap[w.heap.size]? = some (.cells #[.string a, .string b] 46 (0, 0))) := Lib.hid ⟨(Below.refl _ w).alloc (Nat.le_refl _) _, blk_new _ _⟩
  go_loopw [8] (fun i wr => ∃ k : Nat, k ≤ n ∧ i = .int .i64 k ∧ Hid (Below w.heap.size w wr) ∧ Hid (wr.heap[w.heap.size]? = some (.cells #[.string a, .string b] 46 (0, 0))))
    (fun i _ => n - (intOf i).toNat)
  case atStart => exact ⟨0, Nat.zero_le _, rfl, Lib.hid HB0.out.1, Lib.hid HB0.out.2⟩
  case round =>
    obtain ⟨k, hk, rfl, HB, HK⟩ := hrel
    clear HB0
    have k0 : wr.cell? ⟨w.heap.size, 0, none⟩ = some (.string a) := (blk_cell HK.out 0).trans rfl
    have k1 : wr.cell? ⟨w.heap.size, 1, none⟩ = some (.string b) := (blk_cell HK.out 1).trans rfl
    by_cases hlt : k < n
    · obtain ⟨ad, a1, b1, rfl, c0, c1⟩ := (HR.out.below HB.out).cells k hlt
      go_wp2_with fail
      go_quiet (fail)
      go_wp2_with fail
      · go_ret
        exact ⟨_, rfl, pw_below_drewN HB.out _⟩
      · go_roundw
        case rel => exact ⟨k + 1, by omega, by go_num, Lib.hid (pw_below_drewN HB.out _), HK⟩
        case measure => simp [intOf]; omega
    · go_wp2_with fail
      go_ret
      exact ⟨_, rfl, HB.out⟩
set_option maxHeartbeats 1000000 in
theorem containsP_any (A : Option Addr) (n c : Nat) (xs : List (ByteArray × ByteArray)) (a b : ByteArray) (w : World) (hr : RPr w A n xs) :
    Calls Try.prog 30 #[.slice A n c, .agg #[.string a, .string b]] w fun e w' => ∃ i : Bool, e = .returned (.bool i) ∧ Below w.heap.size w w' := by
  have HI : Hid (∀ W, Below w.heap.size w W → Calls Try.prog 32 #[.slice A n c, .agg #[.string a, .string b]] W fun e w' => ∃ i : Int, e = .returned (.int .i64 i) ∧ Below W.heap.size W w') := Lib.hid (fun W hb => indexP_any A n c xs a b W (hr.below hb))
  clear hr
  go_enter Try.func30, Try.ntmps30
  go_wp2_with (refine (HI.out _ ?_).mono ?_; (first | exact Below.refl _ _ | exact (Below.refl _ w).alloc (Nat.le_refl _) _); rintro e w1 ⟨i, rfl, hb⟩; have HB := Lib.hid hb; clear hb)
  go_ret
  exact ⟨_, rfl, ((Below.refl _ w).alloc (Nat.le_refl _) _).trans (HB.out.mono (by simp))⟩

set_option maxHeartbeats 1000000 in
theorem within1_any (A : Option Addr) (n c : Nat) (xs : List (ByteArray × ByteArray)) (a b : ByteArray) (g : Nat) (w : World) (hr : RPr w A n xs) (hg : w.cell? ⟨g, 0, none⟩ = some (.slice A n c)) :
    Calls Try.prog 29 #[.agg #[.string a, .string b], .pointer (some ⟨g, 0, none⟩)] w fun e w' => ∃ i : Bool, e = .returned (.bool i) ∧ Below w.heap.size w w' := by
  have HI : Hid (∀ W, Below w.heap.size w W → Calls Try.prog 30 #[.slice A n c, .agg #[.string a, .string b]] W fun e w' => ∃ i : Bool, e = .returned (.bool i) ∧ Below W.heap.size W w') := Lib.hid (fun W hb => containsP_any A n c xs a b W (hr.below hb))
  clear hr
  have hg2 := pw_cell_below ((Below.refl _ w).alloc (Nat.le_refl _) (.cells #[.string a, .string b] 46)) hg
  go_enter Try.func29, Try.ntmps29
  go_wp2_with (refine (HI.out _ ?_).mono ?_; (first | exact Below.refl _ _ | exact (Below.refl _ w).alloc (Nat.le_refl _) _); rintro e w1 ⟨i, rfl, hb⟩; have HB := Lib.hid hb; clear hb)
  go_ret
  exact ⟨_, rfl, ((Below.refl _ w).alloc (Nat.le_refl _) _).trans (HB.out.mono (by simp))⟩

set_option maxHeartbeats 2000000 in
theorem indexFP_any (A A' : Option Addr) (n c n' c' g : Nat) (xs ys : List (ByteArray × ByteArray)) (w : World) (hr : RPr w A n xs) (hr' : RPr w A' n' ys) (hg : w.heap[g]? = some (.cells #[.slice A' n' c'] 24 (0, 0))) :
    Calls Try.prog 31 #[.slice A n c, .func (.func 29) #[] #[.pointer (some ⟨g, 0, none⟩)]] w fun e w' => ∃ i : Int, e = .returned (.int .i64 i) ∧ (n = 0 → i = -1) ∧ Below w.heap.size w w' := by
  have hnm : n ≤ 9223372036854775807 := hr.2.1
  have HC : Hid (∀ a b W, Below w.heap.size w W → Calls Try.prog 29 #[.agg #[.string a, .string b], .pointer (some ⟨g, 0, none⟩)] W fun e w' => ∃ i : Bool, e = .returned (.bool i) ∧ Below W.heap.size W w') := Lib.hid (fun a b W hb => within1_any A' n' c' ys a b g W (hr'.below hb) ((blk_cell (blk_below hg hb) 0).trans rfl))
  have HR := Lib.hid hr
  clear hr hr' hg
  go_enter Try.func31, Try.ntmps31
  go_wp2_with fail
  go_loopw [8] (fun i wr => ∃ k : Nat, k ≤ n ∧ i = .int .i64 k ∧ Hid (Below w.heap.size w wr))
    (fun i _ => n - (intOf i).toNat)
  case atStart => exact ⟨0, Nat.zero_le _, rfl, Lib.hid (Below.refl _ _)⟩
  case round =>
    obtain ⟨k, hk, rfl, HB⟩ := hrel
    by_cases hlt : k < n
    · obtain ⟨ad, a1, b1, rfl, c0, c1⟩ := (HR.out.below HB.out).cells k hlt
      have hn0 : n ≠ 0 := by omega
      go_wp2_with (refine (HC.out _ _ _ HB.out).mono ?_; rintro e w1 ⟨i, rfl, hb⟩; have HB1 := Lib.hid (HB.out.trans (hb.mono HB.out.size)); clear hb c0 c1; cases i)
      · go_wp2_with fail
        go_roundw
        case rel => exact ⟨k + 1, by omega, by go_num, HB1⟩
        case measure => simp [intOf]; omega
      · go_wp2_with fail
        go_ret
        exact ⟨_, rfl, fun h => absurd h hn0, HB1.out⟩
    · go_wp2_with fail
      go_ret
      exact ⟨_, rfl, fun _ => rfl, HB.out⟩
set_option maxHeartbeats 1000000 in
theorem containsFP_any (A A' : Option Addr) (n c n' c' g : Nat) (xs ys : List (ByteArray × ByteArray)) (w : World) (hr : RPr w A n xs) (hr' : RPr w A' n' ys) (hg : w.heap[g]? = some (.cells #[.slice A' n' c'] 24 (0, 0))) :
    Calls Try.prog 28 #[.slice A n c, .func (.func 29) #[] #[.pointer (some ⟨g, 0, none⟩)]] w fun e w' => ∃ i : Bool, e = .returned (.bool i) ∧ (n = 0 → i = false) ∧ Below w.heap.size w w' := by
  have HI := Lib.hid (indexFP_any A A' n c n' c' g xs ys w hr hr' hg)
  clear hr hr' hg
  go_enter Try.func28, Try.ntmps28
  go_wp2_with fail
  refine HI.out.mono ?_
  rintro e w1 ⟨i, rfl, h0, hb⟩
  have HB := Lib.hid hb
  have H0 := Lib.hid h0
  clear hb h0
  go_wp2_with fail
  go_ret
  exact ⟨_, rfl, fun h => by rw [H0.out h]; rfl, HB.out⟩
set_option maxHeartbeats 1000000 in
theorem within_any (A A' : Option Addr) (n c n' c' : Nat) (xs ys : List (ByteArray × ByteArray)) (w : World) (hr : RPr w A n xs) (hr' : RPr w A' n' ys) :
    Calls Try.prog 26 #[.slice A n c, .slice A' n' c'] w fun e w' => ∃ i : Bool, e = .returned (.bool i) ∧ (n = 0 → i = true) ∧ Below w.heap.size w w' := by
  have hB : Below w.heap.size w (w.alloc (.cells #[.slice A' n' c'] 24)) := (Below.refl _ w).alloc (Nat.le_refl _) _
  have HC := Lib.hid (containsFP_any A A' n c n' c' w.heap.size xs ys (w.alloc (.cells #[.slice A' n' c'] 24)) (hr.below hB) (hr'.below hB) (blk_new _ _))
  have HB := Lib.hid hB
  clear hr hr' hB
  go_enter Try.func26, Try.ntmps26
  go_wp2_with fail
  refine HC.out.mono ?_
  rintro e w1 ⟨i, rfl, h0, hb⟩
  have HB1 := Lib.hid (HB.out.trans (hb.mono HB.out.size))
  have H0 := Lib.hid h0
  clear hb h0
  go_wp2_with fail
  go_ret
  exact ⟨_, rfl, fun h => by rw [H0.out h]; rfl, HB1.out⟩
/-- Alike items: 'some' answer, and by their names alone where none has attributes. -/
def AlikeB (x y : It) (b : Bool) : Prop := (b = true → x.name.toList = y.name.toList) ∧ (x.n = 0 → y.n = 0 → b = (x.name.toList == y.name.toList))
set_option maxHeartbeats 2000000 in
theorem alike_any (x y : It) (w : World) (hx : RA w x) (hy : RA w y) :
    Calls Try.prog 22 #[itVal x, itVal y] w fun e w' => ∃ b : Bool, e = .returned (.bool b) ∧ AlikeB x y b ∧ Below w.heap.size w w' := by
  obtain ⟨nd, nm, A, n, c⟩ := x
  obtain ⟨nd', nm', A', n', c'⟩ := y
  obtain ⟨hn, xs, hxs⟩ := hx
  obtain ⟨hn', ys, hys⟩ := hy
  simp only at hn hn' hxs hys
  have HC : Hid (∀ W, Below w.heap.size w W → Calls Try.prog 26 #[.slice A n c, .slice A' n' c'] W fun e w' => ∃ i : Bool, e = .returned (.bool i) ∧ (n = 0 → i = true) ∧ Below W.heap.size W w') := Lib.hid (fun W hb => within_any A A' n c n' c' xs ys W (hxs.below hb) (hys.below hb))
  have HD : Hid (∀ W, Below w.heap.size w W → Calls Try.prog 26 #[.slice A' n' c', .slice A n c] W fun e w' => ∃ i : Bool, e = .returned (.bool i) ∧ (n' = 0 → i = true) ∧ Below W.heap.size W w') := Lib.hid (fun W hb => within_any A' A n' c' n c ys xs W (hys.below hb) (hxs.below hb))
  clear hxs hys
  unfold itVal
  go_enter Try.func22, Try.ntmps22
  have HW : Hid (∀ W1 W2 : World, w.alloc (.cells #[.int .i64 nd, .string nm, .slice A n c] 26) = W1 → W1.alloc (.cells #[.int .i64 nd', .string nm', .slice A' n' c'] 26) = W2 → Below w.heap.size w W2 ∧ W2.heap[w.heap.size]? = some (.cells #[.int .i64 nd, .string nm, .slice A n c] 26 (0, 0)) ∧ W2.heap[w.heap.size + 1]? = some (.cells #[.int .i64 nd', .string nm', .slice A' n' c'] 26 (0, 0))) :=
    Lib.hid (fun W1 W2 h1 h2 => by
      subst h1
      subst h2
      exact ⟨((Below.refl _ w).alloc (Nat.le_refl _) _).alloc (by simp) _, blk_alloc (blk_new _ _) _, by have := blk_new (w.alloc (.cells #[.int .i64 nd, .string nm, .slice A n c] 26)) (.cells #[.int .i64 nd', .string nm', .slice A' n' c'] 26); simpa using this⟩)
  go_wp2_with fail
  · have h1 : nm.toList = nm'.toList := by assumption
    obtain ⟨hb2, k0, k1⟩ := HW.out _ _ rfl rfl
    refine (HC.out _ hb2).mono ?_
    rintro e w1 ⟨i, rfl, hi, hb⟩
    have HB1 := Lib.hid (hb2.trans (hb.mono hb2.size))
    have k0' := blk_below k0 hb
    have k1' := blk_below k1 hb
    have c0 : w1.cell? ⟨w.heap.size, 2, none⟩ = some (.slice A n c) := (blk_cell k0' 2).trans rfl
    have c1 : w1.cell? ⟨w.heap.size + 1, 2, none⟩ = some (.slice A' n' c') := (blk_cell k1' 2).trans rfl
    clear hb2 k0 k1 hb k0' k1'
    have HI := Lib.hid hi
    clear hi
    cases i
    · go_wp2_with fail
      go_ret
      exact ⟨_, rfl, ⟨fun h => by simp at h, fun hn0 _ => absurd (HI.out hn0) (by simp)⟩, HB1.out⟩
    · go_wp2_with fail
      refine (HD.out _ HB1.out).mono ?_
      rintro e w2 ⟨j, rfl, hj, hb⟩
      have HB2 := Lib.hid (HB1.out.trans (hb.mono HB1.out.size))
      have HJ := Lib.hid hj
      clear hb hj
      go_wp2_with fail
      go_ret
      exact ⟨_, rfl, ⟨fun _ => h1, fun _ hn0 => by rw [HJ.out hn0, h1]; simp⟩, HB2.out⟩
  · have h2 : ¬ (n : Int) = (n' : Int) := by assumption
    obtain ⟨hb2, -, -⟩ := HW.out _ _ rfl rfl
    have HB := Lib.hid hb2
    clear hb2
    go_wp2_with fail
    go_ret
    exact ⟨_, rfl, ⟨fun h => by simp at h, fun a b => absurd (by simp only at a b; rw [a, b]) h2⟩, HB.out⟩
  · have h1 : ¬ nm.toList = nm'.toList := by assumption
    obtain ⟨hb2, -, -⟩ := HW.out _ _ rfl rfl
    have HB := Lib.hid hb2
    clear hb2
    go_wp2_with fail
    go_ret
    exact ⟨_, rfl, ⟨fun h => by simp at h, fun _ _ => by simpa using h1⟩, HB.out⟩
end Go.Proofs.Ytdheifnebkkjhaa.Act
