/- Package chars: units of two bytes. -/
import Derived.Deep.RegionLaw
import Derived.Deep.RegionHeld3
import Derived.Test.YtjhamomdlpoilabChars5
namespace Go.Proofs.Ytjhamomdlpoilab.Chars
open Go.RowKit Go.Shelf Go.Proofs.YtjhamomdlpoilabW.PrintWords
set_option linter.unusedVariables false
set_option linter.unusedSimpArgs false

/-- Two bytes a unit, the higher one first or the lower one. -/
def unitsF (small : Bool) : List UInt8 → List Int
  | a :: b :: t => (if small then (b.toNat : Int) * 256 + a.toNat else (a.toNat : Int) * 256 + b.toNat) :: unitsF small t
  | _ => []
theorem unitsF_le (small : Bool) : ∀ l : List UInt8, 2 * (unitsF small l).length ≤ l.length
  | [] => by simp [unitsF]
  | [a] => by simp [unitsF]
  | a :: b :: t => by
    have := unitsF_le small t
    simp only [unitsF, List.length_cons]
    omega
theorem unitsF_rng (small : Bool) : ∀ (l : List UInt8) (x : Int), x ∈ unitsF small l → 0 ≤ x ∧ x < 65536
  | [], x, h => by simp [unitsF] at h
  | [a], x, h => by simp [unitsF] at h
  | a :: b :: t, x, h => by
    have ha := a.toNat_lt
    have hb := b.toNat_lt
    simp only [unitsF, List.mem_cons] at h
    rcases h with h | h
    · subst h; split <;> omega
    · exact unitsF_rng small t x h
theorem i32_or8 {x y : Int} (hx₀ : 0 ≤ x) (hx : x % 256 = 0) (hx₁ : x < 2147483648) (h₀ : 0 ≤ y) (h₁ : y < 256) : Go.bits .or .i32 x y = x + y := bits_join .i32 31 (by decide) wraps_i32 8 x y hx₀ hx hx₁ h₀ h₁ (by omega)

set_option maxRecDepth 100000 in
set_option maxHeartbeats 4000000 in
theorem units_0 (s : ByteArray) (w : World) (hs : s.size ≤ 1000000) :
    Calls Try.prog 10 #[.string s, .int .i64 0] w fun e w' => ∃ v, e = .returned v ∧ w'.ownsRow w.heap.size 21 1 v (unitsF false s.data.toList).length (nums .i32 (unitsF false s.data.toList)) ∧ Below w.heap.size w w' := by
  have hld := len_data s
  go_enter Try.func10, Try.ntmps10
  go_wp2_with fail
  go_loopw [5, 6] (fun v i wr => ∃ (k : Nat) (pre : List Int), k ≤ s.size ∧ 2 * pre.length = k ∧ i = .int .i64 k ∧ Hid (unitsF false s.data.toList = pre ++ unitsF false (s.data.toList.drop k)) ∧ Hid (wr.ownsRow w.heap.size 21 1 v pre.length (nums .i32 pre)) ∧ Hid (Below w.heap.size w wr))
    (fun v i _ => s.size - (intOf i).toNat)
  case atStart => exact ⟨0, [], Nat.zero_le _, rfl, rfl, Lib.hid rfl, Lib.hid (own_nil _ _ _ _), Lib.hid (Below.refl _ _)⟩
  case round =>
    obtain ⟨k, pre, hk, hpl, rfl, HS, HO, HB⟩ := hrel
    by_cases hlt : k + 1 < s.size
    · have hc0 := s[k].toNat_lt
      have hc1 := s[k + 1].toNat_lt
      have HS2 : Hid (unitsF false s.data.toList = (pre ++ [(s[k].toNat : Int) * 256 + s[k + 1].toNat]) ++ unitsF false (s.data.toList.drop (k + 2))) := Lib.hid (by
        rw [HS.out, drop_at s k (by omega), drop_at s (k + 1) hlt, List.append_assoc]
        rfl)
      have ho := i32_or8 (x := (s[k].toNat : Int) * 256) (y := (s[k + 1].toNat : Int)) (by omega) (by omega) (by omega) (by omega) (by omega)
      clear HS
      have hlen : (pre.length + 1) * 4 ≤ 140737488355328 := by omega
      have hsz := HB.out.size
      have e0 : IntKind.i64.wrap (k : Int) = k := by rw [IntKind.wrap_i64]; omega
      have e1 : IntKind.i64.wrap ((k : Int) + 1) = (k : Int) + 1 := by rw [IntKind.wrap_i64]; omega
      have e2 : ((k : Int) + 1).toNat = k + 1 := by omega
      have e3 : IntKind.i32.wrap (s[k].toNat : Int) = s[k].toNat := by rw [IntKind.wrap_i32]; omega
      have e4 : IntKind.i32.wrap (s[k + 1].toNat : Int) = s[k + 1].toNat := by rw [IntKind.wrap_i32]; omega
      have e5 : IntKind.i32.wrap ((s[k].toNat : Int) * 256) = (s[k].toNat : Int) * 256 := by rw [IntKind.wrap_i32]; omega
      have b0 : (0 : Int) ≤ (k : Int) := by omega
      have b1 : (k : Int) < (s.size : Int) := by omega
      have b2 : (0 : Int) ≤ (k : Int) + 1 := by omega
      have b3 : (k : Int) + 1 < (s.size : Int) := by omega
      go_wp2_with fail
      go_region_law ((refine step_append_cells (w0 := w) (W := wr.drew) w.heap.size (by rfl) _ _ 22 21 (.int .i32 0) 1 4 (by rfl) Try.underlying22 infoI32 rfl (by decide) (by decide) u5 pre.length (nums .i32 pre) [.int .i32 ((s[k].toNat : Int) * 256 + s[k + 1].toNat)] (by rfl) (by rfl) rfl (by simp [Value.oneCell']) HO.out (below_drew HB.out) hsz hlen ?_; intro v1 w1 hown hb hg hat))
      all_goals
        have H1 : Hid (w1.ownsRow w.heap.size 21 1 v1 (pre ++ [(s[k].toNat : Int) * 256 + s[k + 1].toNat]).length (nums .i32 (pre ++ [(s[k].toNat : Int) * 256 + s[k + 1].toNat]))) := Lib.hid (by simpa [nums] using hown)
        have H2 := Lib.hid hb
        clear hown hb hg hat ho hlen
        go_wp2_with fail
        go_roundw
        case rel => exact ⟨k + 2, _, by omega, by rw [List.length_append, List.length_singleton]; omega, by go_num, HS2, H1, H2⟩
        case measure => simp [intOf]; omega
    · have HE : Hid (unitsF false s.data.toList = pre) := Lib.hid (by
        rw [HS.out]
        have e : (s.data.toList.drop k).length ≤ 1 := by rw [List.length_drop, hld]; omega
        rcases h : s.data.toList.drop k with _ | ⟨a, _ | ⟨b, t⟩⟩
        · simp [unitsF]
        · simp [unitsF]
        · rw [h] at e; simp at e)
      clear HS
      go_wp2_with fail
      go_ret
      exact ⟨_, rfl, by rw [HE.out]; exact HO.out, HB.out⟩
set_option maxRecDepth 100000 in
set_option maxHeartbeats 4000000 in
theorem units_1 (s : ByteArray) (w : World) (hs : s.size ≤ 1000000) :
    Calls Try.prog 10 #[.string s,   .int .i64 1] w fun e w' => ∃ v, e = .returned v ∧ w'.ownsRow w.heap.size 21 1 v (unitsF true s.data.toList).length (nums .i32 (unitsF true s.data.toList)) ∧ Below w.heap.size w w' := by
  have hld := len_data s
  go_enter Try.func10, Try.ntmps10
  go_wp2_with fail
  go_loopw [5, 6] (fun v i wr => ∃ (k : Nat) (pre : List Int), k ≤ s.size ∧ 2 * pre.length = k ∧ i = .int .i64 k ∧ Hid (unitsF true s.data.toList = pre ++ unitsF true (s.data.toList.drop k)) ∧ Hid (wr.ownsRow w.heap.size 21 1 v pre.length (nums .i32 pre)) ∧ Hid (Below w.heap.size w wr))
    (fun v i _ => s.size - (intOf i).toNat)
  case atStart => exact ⟨0, [], Nat.zero_le _, rfl, rfl, Lib.hid rfl, Lib.hid (own_nil _ _ _ _), Lib.hid (Below.refl _ _)⟩
  case round =>
    obtain ⟨k, pre, hk, hpl, rfl, HS, HO, HB⟩ := hrel
    by_cases hlt : k + 1 < s.size
    · have hc0 := s[k].toNat_lt
      have hc1 := s[k + 1].toNat_lt
      have HS2 : Hid (unitsF true s.data.toList = (pre ++ [(s[k + 1].toNat : Int) * 256 + s[k].toNat]) ++ unitsF true (s.data.toList.drop (k + 2))) := Lib.hid (by
        rw [HS.out, drop_at s k (by omega), drop_at s (k + 1) hlt, List.append_assoc]
        rfl)
      have ho := i32_or8 (x := (s[k + 1].toNat : Int) * 256) (y := (s[k].toNat : Int)) (by omega) (by omega) (by omega) (by omega) (by omega)
      clear HS
      have hlen : (pre.length + 1) * 4 ≤ 140737488355328 := by omega
      have hsz := HB.out.size
      have e0 : IntKind.i64.wrap (k : Int) = k := by rw [IntKind.wrap_i64]; omega
      have e1 : IntKind.i64.wrap ((k : Int) + 1) = (k : Int) + 1 := by rw [IntKind.wrap_i64]; omega
      have e6 : IntKind.i64.wrap ((k : Int) + 1 - 1) = (k : Int) := by rw [IntKind.wrap_i64]; omega
      have e2 : ((k : Int) + 1).toNat = k + 1 := by omega
      have e3 : IntKind.i32.wrap (s[k].toNat : Int) = s[k].toNat := by rw [IntKind.wrap_i32]; omega
      have e4 : IntKind.i32.wrap (s[k + 1].toNat : Int) = s[k + 1].toNat := by rw [IntKind.wrap_i32]; omega
      have e5 : IntKind.i32.wrap ((s[k + 1].toNat : Int) * 256) = (s[k + 1].toNat : Int) * 256 := by rw [IntKind.wrap_i32]; omega
      have b0 : (0 : Int) ≤ (k : Int) := by omega
      have b1 : (k : Int) < (s.size : Int) := by omega
      have b2 : (0 : Int) ≤ (k : Int) + 1 := by omega
      have b3 : (k : Int) + 1 < (s.size : Int) := by omega
      go_wp2_with fail
      go_region_law ((refine step_append_cells (w0 := w) (W := wr.drew) w.heap.size (by rfl) _ _ 22 21 (.int .i32 0) 1 4 (by rfl) Try.underlying22 infoI32 rfl (by decide) (by decide) u5 pre.length (nums .i32 pre) [.int .i32 ((s[k + 1].toNat : Int) * 256 + s[k].toNat)] (by rfl) (by rfl) rfl (by simp [Value.oneCell']) HO.out (below_drew HB.out) hsz hlen ?_; intro v1 w1 hown hb hg hat))
      all_goals
        have H1 : Hid (w1.ownsRow w.heap.size 21 1 v1 (pre ++ [(s[k + 1].toNat : Int) * 256 + s[k].toNat]).length (nums .i32 (pre ++ [(s[k + 1].toNat : Int) * 256 + s[k].toNat]))) := Lib.hid (by simpa [nums] using hown)
        have H2 := Lib.hid hb
        clear hown hb hg hat ho hlen
        go_wp2_with fail
        go_roundw
        case rel => exact ⟨k + 2, _, by omega, by rw [List.length_append, List.length_singleton]; omega, by go_num, HS2, H1, H2⟩
        case measure => simp [intOf]; omega
    · have HE : Hid (unitsF true s.data.toList = pre) := Lib.hid (by
        rw [HS.out]
        have e : (s.data.toList.drop k).length ≤ 1 := by rw [List.length_drop, hld]; omega
        rcases h : s.data.toList.drop k with _ | ⟨a, _ | ⟨b, t⟩⟩
        · simp [unitsF]
        · simp [unitsF]
        · rw [h] at e; simp at e)
      clear HS
      go_wp2_with fail
      go_ret
      exact ⟨_, rfl, by rw [HE.out]; exact HO.out, HB.out⟩

/-- Two halves are one sign. -/
def pairedF : List Int → List Int
  | a :: b :: t => if a / 1024 = 54 ∧ b / 1024 = 55 then (65536 + a % 1024 * 1024 + b % 1024) :: pairedF t else a :: pairedF (b :: t)
  | [a] => [a]
  | [] => []
theorem i32_and1023 {x : Int} (h₀ : 0 ≤ x) (h₁ : x < 65536) : Go.bits .and .i32 x 1023 = x % 1024 := bits_mask .i32 31 (by decide) wraps_i32 10 (by decide) x h₀ (by omega)

set_option maxRecDepth 100000 in
set_option maxHeartbeats 4000000 in
theorem paired_any (A : Option Addr) (n c : Nat) (xs : List Int) (w : World) (hr : ReadsInt w .i32 A n xs) (h16 : ∀ x ∈ xs, 0 ≤ x ∧ x < 65536) (hn : n ≤ 1000000) :
    Calls Try.prog 9 #[.slice A n c] w fun e w' => ∃ v, e = .returned v ∧ w'.ownsRow w.heap.size 21 1 v (pairedF xs).length (nums .i32 (pairedF xs)) ∧ Below w.heap.size w w' := by
  have HL := Lib.hid hr.1
  have HC := Lib.hid hr
  have H16 := Lib.hid h16
  clear hr h16
  go_enter Try.func9, Try.ntmps9
  go_wp2_with fail
  go_loopw [3, 4] (fun v i wr => ∃ (k : Nat) (pre : List Int), k ≤ n ∧ pre.length ≤ k ∧ i = .int .i64 k ∧ Hid (pairedF xs = pre ++ pairedF (xs.drop k)) ∧ Hid (wr.ownsRow w.heap.size 21 1 v pre.length (nums .i32 pre)) ∧ Hid (Below w.heap.size w wr))
    (fun v i _ => n - (intOf i).toNat)
  case atStart => exact ⟨0, [], Nat.zero_le _, Nat.le_refl _, rfl, Lib.hid rfl, Lib.hid (own_nil _ _ _ _), Lib.hid (Below.refl _ _)⟩
  case round =>
    obtain ⟨k, pre, hk, hpl, rfl, HS, HO, HB⟩ := hrel
    have hlen : (pre.length + 1) * 4 ≤ 140737488355328 := by omega
    have hsz := HB.out.size
    by_cases hlt : k < n
    · obtain ⟨ad, rfl, hcell⟩ := HC.out.2.2 (by omega)
      have hw1 := hcell k hlt
      have hc := pw_cell_below HB.out hw1
      have hdk : xs.drop k = xs.getD k 0 :: xs.drop (k + 1) := by
        have := HL.out
        rw [List.drop_eq_getElem_cons (by omega), List.getD_eq_getElem?_getD, List.getElem?_eq_getElem (by omega)]
        rfl
      obtain ⟨hx0, hx1⟩ := H16.out (xs.getD k 0) (by
        have := HL.out
        rw [List.getD_eq_getElem?_getD, List.getElem?_eq_getElem (by omega)]
        exact List.getElem_mem _)
      by_cases hlt2 : k + 1 < n
      · have hw2 := hcell (k + 1) hlt2
        have hc2 := pw_cell_below HB.out hw2
        have hdk2 : xs.drop (k + 1) = xs.getD (k + 1) 0 :: xs.drop (k + 2) := by
          have := HL.out
          rw [List.drop_eq_getElem_cons (by omega), List.getD_eq_getElem?_getD, List.getElem?_eq_getElem (by omega)]
          rfl
        obtain ⟨hy0, hy1⟩ := H16.out (xs.getD (k + 1) 0) (by
          have := HL.out
          rw [List.getD_eq_getElem?_getD, List.getElem?_eq_getElem (by omega)]
          exact List.getElem_mem _)
        have HD := Lib.hid hdk
        have HD2 := Lib.hid hdk2
        have ea : ad.add (k + 1) = ⟨ad.block, ad.off + (k + 1), none⟩ := by unfold Addr.add; simp
        rw [ea] at hc2 hw2
        have HW1 := Lib.hid hw1
        have HW2 := Lib.hid hw2
        clear hw1 hw2 hdk hdk2 hcell ea
        generalize xs.getD k 0 = x at *
        generalize xs.getD (k + 1) 0 = y at *
        by_cases h54 : x / 1024 = 54
        · by_cases h55 : y / 1024 = 55
          · have HS2 : Hid (pairedF xs = (pre ++ [65536 + x % 1024 * 1024 + y % 1024]) ++ pairedF (xs.drop (k + 2))) := Lib.hid (by
              rw [HS.out, HD.out, HD2.out, List.append_assoc]
              simp only [pairedF]
              rw [if_pos ⟨h54, h55⟩]
              rfl)
            have a1 := i32_and1023 hx0 hx1
            have a2 := i32_and1023 hy0 hy1
            have f1 : IntKind.i32.wrap (x % 1024 * 1024) = x % 1024 * 1024 := by rw [IntKind.wrap_i32]; omega
            have f2 : IntKind.i32.wrap (65536 + x % 1024 * 1024) = 65536 + x % 1024 * 1024 := by rw [IntKind.wrap_i32]; omega
            have f3 : IntKind.i32.wrap (65536 + x % 1024 * 1024 + y % 1024) = 65536 + x % 1024 * 1024 + y % 1024 := by rw [IntKind.wrap_i32]; omega
            have e1 : IntKind.i64.wrap ((k : Int) + 1) = (k : Int) + 1 := by rw [IntKind.wrap_i64]; omega
            have e2 : ((k : Int) + 1).toNat = k + 1 := by omega
            have b0 : (0 : Int) ≤ (k : Int) := by omega
            have b1 : (k : Int) < (n : Int) := by omega
            have b2 : (0 : Int) ≤ (k : Int) + 1 := by omega
            have b3 : (k : Int) + 1 < (n : Int) := by omega
            clear HS
            go_wp2_with fail
            go_region_held3 (fun w' => w'.cell? (ad.add k) = some (.int .i32 x) ∧ w'.cell? ⟨ad.block, ad.off + (k + 1), none⟩ = some (.int .i32 y)) (first | go_keep | exact ⟨pw_cell_below hb HW1.out, pw_cell_below hb HW2.out⟩) ((refine step_append_cells (w0 := w) (W := wr.drew) w.heap.size (by rfl) _ _ 22 21 (.int .i32 0) 1 4 (by rfl) Try.underlying22 infoI32 rfl (by decide) (by decide) u3 pre.length (nums .i32 pre) [.int .i32 (65536 + x % 1024 * 1024 + y % 1024)] (by rfl) (by rfl) rfl (by simp [Value.oneCell']) HO.out (below_drew HB.out) hsz hlen ?_; intro v1 w1 hown hb hg hat))
            all_goals
              have H1 : Hid (w1.ownsRow w.heap.size 21 1 v1 (pre ++ [65536 + x % 1024 * 1024 + y % 1024]).length (nums .i32 (pre ++ [65536 + x % 1024 * 1024 + y % 1024]))) := Lib.hid (by simpa [nums] using hown)
              have H2 := Lib.hid hb
              clear hown hb hg hat hlen
              go_wp2_with fail
              go_roundw
              case rel => exact ⟨k + 2, _, by omega, by rw [List.length_append, List.length_singleton]; omega, by go_num, HS2, H1, H2⟩
              case measure => simp [intOf]; omega
          · have g55 : (y / 1024 == 55) = false := by simpa using h55
            have HS2 : Hid (pairedF xs = (pre ++ [x]) ++ pairedF (xs.drop (k + 1))) := Lib.hid (by
              rw [HS.out, HD.out, HD2.out, List.append_assoc]; simp only [pairedF]; rw [if_neg (by omega)]; rw [← HD2.out]; rfl)
            clear HS
            go_wp2_with ((at_builtin; refine print_append_num (w0 := w) (W := wr) w.heap.size rfl _ _ 22 21 .i32 4 rfl Try.underlying22 infoI32 (by decide) u3 pre x rfl rfl HO.out HB.out hsz hlen ?_; intro v1 w1 hown hb hg hat; have H1 := Lib.hid hown; have H2 := Lib.hid hb; clear hown hb hg hat))
            go_roundw
            case rel => exact ⟨k + 1, _, by omega, by rw [List.length_append, List.length_singleton]; omega, by go_num, HS2, H1, H2⟩
            case measure => simp [intOf]; omega
        · have g54 : (x / 1024 == 54) = false := by simpa using h54
          have HS2 : Hid (pairedF xs = (pre ++ [x]) ++ pairedF (xs.drop (k + 1))) := Lib.hid (by
            rw [HS.out, HD.out, HD2.out, List.append_assoc]; simp only [pairedF]; rw [if_neg (by omega)]; rw [← HD2.out]; rfl)
          clear HS
          go_wp2_with ((at_builtin; refine print_append_num (w0 := w) (W := wr) w.heap.size rfl _ _ 22 21 .i32 4 rfl Try.underlying22 infoI32 (by decide) u3 pre x rfl rfl HO.out HB.out hsz hlen ?_; intro v1 w1 hown hb hg hat; have H1 := Lib.hid hown; have H2 := Lib.hid hb; clear hown hb hg hat))
          go_roundw
          case rel => exact ⟨k + 1, _, by omega, by rw [List.length_append, List.length_singleton]; omega, by go_num, HS2, H1, H2⟩
          case measure => simp [intOf]; omega
      · have hkn : xs.drop (k + 1) = [] := List.drop_eq_nil_iff.2 (by have := HL.out; omega)
        have HD := Lib.hid hdk
        have HK := Lib.hid hkn
        clear hdk hcell hkn
        generalize xs.getD k 0 = x at *
        have HS2 : Hid (pairedF xs = (pre ++ [x]) ++ pairedF (xs.drop (k + 1))) := Lib.hid (by
          rw [HS.out, HD.out, HK.out, List.append_assoc]; simp [pairedF])
        clear HS
        go_wp2_with ((at_builtin; refine print_append_num (w0 := w) (W := wr) w.heap.size rfl _ _ 22 21 .i32 4 rfl Try.underlying22 infoI32 (by decide) u3 pre x rfl rfl HO.out HB.out hsz hlen ?_; intro v1 w1 hown hb hg hat; have H1 := Lib.hid hown; have H2 := Lib.hid hb; clear hown hb hg hat))
        go_roundw
        case rel => exact ⟨k + 1, _, by omega, by rw [List.length_append, List.length_singleton]; omega, by go_num, HS2, H1, H2⟩
        case measure => simp [intOf]; omega
    · have HE : Hid (pairedF xs = pre) := Lib.hid (by
        rw [HS.out, List.drop_eq_nil_iff.2 (by have := HL.out; omega)]
        simp [pairedF])
      clear HS
      go_wp2_with fail
      go_ret
      exact ⟨_, rfl, by rw [HE.out]; exact HO.out, HB.out⟩
end Go.Proofs.Ytjhamomdlpoilab.Chars
