/- strings.ReplaceAll, plain: one place after the other. -/
import Derived.Lib.Replace
import Derived.Lib.CountLaws
namespace Go.Proofs.YtjhamomdlpoilabDoor.Ent
set_option linter.unusedVariables false

/-- old put as new, from the left. -/
def subst (old new : List UInt8) : Nat → List UInt8 → List UInt8
  | 0, s => s
  | _ + 1, [] => []
  | n + 1, b :: t => if old.isPrefixOf (b :: t) then new ++ subst old new n ((b :: t).drop old.length) else b :: subst old new n t
theorem index_nil {old : List UInt8} (ho : old ≠ []) : Lib.index [] old = -1 := by
  cases old with
  | nil => exact absurd rfl ho
  | cons a l => rfl
theorem index_yes {old : List UInt8} {b : UInt8} {t : List UInt8} (h : old.isPrefixOf (b :: t) = true) : Lib.index (b :: t) old = 0 := by
  rw [Lib.index, if_pos h]
theorem index_no {old : List UInt8} {b : UInt8} {t : List UInt8} (h : ¬ old.isPrefixOf (b :: t) = true) : Lib.index (b :: t) old = if Lib.index t old == -1 then -1 else Lib.index t old + 1 := by
  rw [Lib.index, if_neg h]
theorem count_no {old : List UInt8} {b : UInt8} {t : List UInt8} (ho : old ≠ []) (h : ¬ old.isPrefixOf (b :: t) = true) : Lib.count (b :: t) old = Lib.count t old := by
  have hi := index_no h
  rcases Lib.index_spec t old with ⟨h1, _⟩ | ⟨i, h1, _⟩
  · rw [h1] at hi
    rw [Lib.count_miss h1, Lib.count_miss (by rw [hi]; rfl)]
  · rw [h1] at hi
    have hn : ((i : Int) == -1) = false := by rw [beq_eq_false_iff_ne]; omega
    rw [hn] at hi
    have hi' : Lib.index (b :: t) old = ((i + 1 : Nat) : Int) := by rw [hi]; simp
    rw [Lib.count_hit ho h1, Lib.count_hit ho hi', show i + 1 + old.length = (i + old.length) + 1 by omega, List.drop_succ_cons]
theorem replaceK_no {old new : List UInt8} {b : UInt8} {t : List UInt8} (ho : old ≠ []) (h : ¬ old.isPrefixOf (b :: t) = true) (k : Nat) : Lib.replaceK old new k (b :: t) = b :: Lib.replaceK old new k t := by
  cases k with
  | zero => rfl
  | succ k =>
    have hi := index_no h
    rcases Lib.index_spec t old with ⟨h1, _⟩ | ⟨i, h1, _⟩
    · rw [h1] at hi
      have e1 : Lib.index (b :: t) old = -1 := by rw [hi]; rfl
      rw [Lib.replaceK, Lib.replaceK, e1, h1]
      rfl
    · rw [h1] at hi
      have hn : ((i : Int) == -1) = false := by rw [beq_eq_false_iff_ne]; omega
      rw [hn] at hi
      have hi' : Lib.index (b :: t) old = ((i + 1 : Nat) : Int) := by rw [hi]; simp
      rw [Lib.replaceK_hit _ _ _ _ _ hi', Lib.replaceK_hit _ _ _ _ _ h1, show i + 1 + old.length = (i + old.length) + 1 by omega, List.drop_succ_cons, List.take_succ_cons]
      simp
theorem replaceK_subst {old new : List UInt8} (ho : old ≠ []) : ∀ (n : Nat) (s : List UInt8), s.length ≤ n → Lib.replaceK old new (Lib.count s old) s = subst old new n s
  | 0, s, h => by
    obtain rfl := List.eq_nil_of_length_eq_zero (Nat.le_zero.1 h)
    rw [Lib.count_miss (index_nil ho)]
    rfl
  | n + 1, [], h => by
    rw [Lib.count_miss (index_nil ho)]
    rfl
  | n + 1, b :: t, h => by
    by_cases hp : old.isPrefixOf (b :: t) = true
    · have hi : Lib.index (b :: t) old = ((0 : Nat) : Int) := index_yes hp
      rw [Lib.count_hit ho hi, Nat.add_comm, Lib.replaceK_hit _ _ _ _ _ hi]
      have hl : 1 ≤ old.length := by cases old with | nil => exact absurd rfl ho | cons a l => simp
      have ih := replaceK_subst (new := new) ho n ((b :: t).drop (0 + old.length)) (by rw [List.length_drop]; simp at h ⊢; omega)
      rw [ih]
      simp only [subst, Nat.zero_add]
      rw [if_pos hp]
      simp
    · rw [count_no ho hp, replaceK_no ho hp, replaceK_subst ho n t (by simpa using h)]
      simp only [subst]
      rw [if_neg hp]
theorem replaceAll_subst {old new : List UInt8} (ho : old ≠ []) (hne : old ≠ new) (s : List UInt8) : Lib.replaceAll s old new = subst old new s.length s := by
  have e1 : Lib.replaceNum s old (-1) = Lib.count s old := by unfold Lib.replaceNum; rw [if_pos (.inl (by decide))]
  unfold Lib.replaceAll Lib.replace
  rw [if_neg (by simpa using hne), e1]
  exact replaceK_subst ho _ s (Nat.le_refl _)
theorem subst_fuel {old new : List UInt8} (ho : old ≠ []) : ∀ (n m : Nat) (s : List UInt8), s.length ≤ n → s.length ≤ m → subst old new n s = subst old new m s := fun n m s hn hm => by
  rw [← replaceK_subst ho n s hn, ← replaceK_subst ho m s hm]
end Go.Proofs.YtjhamomdlpoilabDoor.Ent
