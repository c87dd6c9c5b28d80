/- Package clerestorykeep1, CharsWide: the plain law: units, written and read. -/
import Derived.Test.YtjhamomdlpoilabWide1
namespace Go.Proofs.Ytjhamomdlpoilab.Chars
open Go.RowKit Go.Shelf Go.Proofs.YtjhamomdlpoilabW.PrintWords
set_option linter.unusedVariables false
set_option linter.unusedSimpArgs false

def wideOk (x : Int) : Prop := 0 ≤ x ∧ x ≤ 1114111 ∧ (x < 55296 ∨ 57343 < x)
/-- The units of a sign. -/
def unitsOf (x : Int) : List Int := if x < 65536 then [x] else [55296 + (x - 65536) / 1024, 56320 + (x - 65536) % 1024]
def unitsL (xs : List Int) : List Int := xs.flatMap unitsOf
def bigB (us : List Int) : List Int := us.flatMap fun u => [u / 256, u % 256]
def smallB (us : List Int) : List Int := us.flatMap fun u => [u % 256, u / 256]
theorem unitsOf_rng {x : Int} (h : wideOk x) : ∀ u ∈ unitsOf x, 0 ≤ u ∧ u < 65536 := by
  obtain ⟨h0, h1, h2⟩ := h
  intro u hu
  simp only [unitsOf] at hu
  split at hu
  · simp at hu; omega
  · simp at hu; omega
theorem unitsL_rng (xs : List Int) (h : ∀ x ∈ xs, wideOk x) : ∀ u ∈ unitsL xs, 0 ≤ u ∧ u < 65536 := by
  intro u hu
  simp only [unitsL, List.mem_flatMap] at hu
  obtain ⟨x, hx, hu⟩ := hu
  exact unitsOf_rng (h x hx) u hu
theorem unitsL_le (xs : List Int) : (unitsL xs).length ≤ 2 * xs.length := by
  induction xs with
  | nil => simp [unitsL]
  | cons x t ih =>
    simp only [unitsL, List.flatMap_cons, List.length_append, List.length_cons] at ih ⊢
    have : (unitsOf x).length ≤ 2 := by unfold unitsOf; split <;> simp
    omega
theorem bigB_len (us : List Int) : (bigB us).length = 2 * us.length := by
  induction us with
  | nil => simp [bigB]
  | cons u t ih =>
    simp only [bigB, List.flatMap_cons, List.length_append, List.length_cons, List.length_nil] at ih ⊢
    omega
theorem smallB_len (us : List Int) : (smallB us).length = 2 * us.length := by
  induction us with
  | nil => simp [smallB]
  | cons u t ih =>
    simp only [smallB, List.flatMap_cons, List.length_append, List.length_cons, List.length_nil] at ih ⊢
    omega
theorem bigB_app (a b : List Int) : bigB (a ++ b) = bigB a ++ bigB b := by simp [bigB]
theorem smallB_app (a b : List Int) : smallB (a ++ b) = smallB a ++ smallB b := by simp [smallB]
theorem bigB_one (u : Int) : bigB [u] = [u / 256, u % 256] := by simp [bigB]
theorem smallB_one (u : Int) : smallB [u] = [u % 256, u / 256] := by simp [smallB]
theorem unitsL_snoc (xs : List Int) (x : Int) : unitsL (xs ++ [x]) = unitsL xs ++ unitsOf x := by simp [unitsL]
theorem u8_back {a : Int} (h0 : 0 ≤ a) (h1 : a < 256) : ((UInt8.ofNat a.toNat).toNat : Int) = a := by
  rw [UInt8.toNat_ofNat']
  omega
theorem units_big (us : List Int) (h : ∀ u ∈ us, 0 ≤ u ∧ u < 65536) : unitsF false ((bigB us).map fun n => UInt8.ofNat n.toNat) = us := by
  induction us with
  | nil => simp [bigB, unitsF]
  | cons u t ih =>
    obtain ⟨h0, h1⟩ := h u (by simp)
    have ih := ih (fun x hx => h x (List.mem_cons_of_mem _ hx))
    simp only [bigB, List.flatMap_cons, List.cons_append, List.nil_append, List.map_cons, unitsF, Bool.false_eq_true, if_false] at ih ⊢
    rw [ih, u8_back (by omega) (by omega), u8_back (by omega) (by omega)]
    congr 1
    omega
theorem units_small (us : List Int) (h : ∀ u ∈ us, 0 ≤ u ∧ u < 65536) : unitsF true ((smallB us).map fun n => UInt8.ofNat n.toNat) = us := by
  induction us with
  | nil => simp [smallB, unitsF]
  | cons u t ih =>
    obtain ⟨h0, h1⟩ := h u (by simp)
    have ih := ih (fun x hx => h x (List.mem_cons_of_mem _ hx))
    simp only [smallB, List.flatMap_cons, List.cons_append, List.nil_append, List.map_cons, unitsF, if_true] at ih ⊢
    rw [ih, u8_back (by omega) (by omega), u8_back (by omega) (by omega)]
    congr 1
    omega
theorem pairedF_one (x : Int) (h : x / 1024 ≠ 54) (t : List Int) : pairedF (x :: t) = x :: pairedF t := by
  cases t with
  | nil => simp [pairedF]
  | cons b t => simp [pairedF, h]
theorem paired_units (xs : List Int) (h : ∀ x ∈ xs, wideOk x) : pairedF (unitsL xs) = xs := by
  induction xs with
  | nil => simp [unitsL, pairedF]
  | cons x t ih =>
    obtain ⟨h0, h1, h2⟩ := h x (by simp)
    have ih := ih (fun y hy => h y (List.mem_cons_of_mem _ hy))
    simp only [unitsL, List.flatMap_cons] at ih ⊢
    unfold unitsOf
    split
    · rw [List.singleton_append, pairedF_one x (by omega)]
      congr 1
    · simp only [List.cons_append, List.nil_append, pairedF]
      rw [if_pos (by omega)]
      congr 1
      omega
theorem i32_and1023b {x : Int} (h₀ : 0 ≤ x) (h₁ : x < 2147483648) : Go.bits .and .i32 x 1023 = x % 1024 := bits_mask .i32 31 (by decide) wraps_i32 10 (by decide) x h₀ (by omega)
end Go.Proofs.Ytjhamomdlpoilab.Chars
