/- Package active: slices.Clone of items. -/
import Derived.Test.YtdheifnebkkjhaaAct3
import Derived.Maps.AppendAt
namespace Go.Proofs.Ytdheifnebkkjhaa.Act
open Go.RowKit Go.Proofs.YtdheifnebkkjhaaW.PrintWords
set_option linter.unusedVariables false
set_option linter.unusedSimpArgs false

def flatIt (xs : List It) : List Value := xs.flatMap itCells
theorem flatIt_len (xs : List It) : (flatIt xs).length = xs.length * 3 := by
  induction xs with
  | nil => rfl
  | cons x t ih => simp only [flatIt, List.flatMap_cons, List.length_append, List.length_cons] at ih ⊢; rw [ih]; simp [itCells]; omega
theorem flatIt_app (a b : List It) : flatIt (a ++ b) = flatIt a ++ flatIt b := by simp [flatIt]
theorem flatIt_get : ∀ (l : List It) (k j : Nat), j < 3 → k < l.length → (flatIt l)[k * 3 + j]? = (itCells (l.getD k zIt))[j]?
  | [], k, j, _, h => by simp at h
  | x :: r, 0, j, hj, _ => by
    simp only [flatIt, List.flatMap_cons]
    rw [List.getElem?_append_left (by simp [itCells]; omega)]
    simp
  | x :: r, k + 1, j, hj, h => by
    simp only [flatIt, List.flatMap_cons]
    rw [List.getElem?_append_right (by simp [itCells]; omega)]
    have e : (k + 1) * 3 + j - (itCells x).length = k * 3 + j := by simp [itCells]; omega
    have := flatIt_get r k j hj (by simpa using h)
    rw [e]
    simp only [flatIt] at this
    rw [this]
    simp
theorem infoIt : (Try.prog.info? 26).map (fun i => (i.zero, i.size, i.bytes)) = some (some (.agg #[.int .i64 0, .string ⟨#[]⟩, .slice none 0 0]), 3, 48) := by kernel_rfl
theorem RIt.news {w : World} {ad : Addr} {n : Nat} {xs : List It} (h : RIt w (some ad) n xs) : ∀ j u, (flatIt xs)[j]? = some u → w.cell? (ad.add j) = some u := by
  intro j u hu
  have hl := h.len
  have hlt := (List.getElem?_eq_some_iff.1 hu).1
  rw [flatIt_len] at hlt
  have hk : j / 3 < n := by omega
  have e : j = j / 3 * 3 + j % 3 := by omega
  obtain ⟨ad', e', h2⟩ := h.2.2 (by omega)
  cases e'
  obtain ⟨c, hc, rfl, hcell⟩ := h2 (j / 3) (xs.getD (j / 3) zIt) (by rw [List.getD_eq_getElem?_getD, List.getElem?_eq_getElem (by omega)]; rfl)
  rw [e, flatIt_get xs (j / 3) (j % 3) (by omega) (by omega)] at hu
  rw [e]
  exact hcell (j % 3) u hu
theorem flatIt_one (xs : List It) : ∀ u ∈ flatIt xs, u.oneCell' = true := by
  intro u hu
  simp only [flatIt, List.mem_flatMap, itCells] at hu
  obtain ⟨x, _, hu⟩ := hu
  simp only [List.mem_cons, List.mem_nil_iff, or_false] at hu
  rcases hu with rfl | rfl | rfl <;> rfl
/-- An own row of items. -/
def OIt (w : World) (base : Nat) (v : Value) (xs : List It) : Prop := w.ownsRow base 26 3 v xs.length (flatIt xs)

set_option maxRecDepth 100000 in
set_option maxHeartbeats 2000000 in
theorem clone_any (A : Option Addr) (n c : Nat) (xs : List It) (w : World) (hr : RIt w A n xs) (hn : n ≤ 1000000) :
    Calls Try.prog 11 #[.slice A n c] w fun e w' => ∃ v, e = .returned v ∧ OIt w' w.heap.size v xs ∧ Below w.heap.size w w' := by
  obtain ⟨i0, hi, hz0, hz1, hz2⟩ := info_parts infoIt
  have hl := hr.len
  have heq := fun W : World => Lib.run_eql_slice_nil (P := Try.prog) W 23 26 A n c 0 0 Try.underlying23
  cases A with
  | none =>
    have h0 : xs = [] := by
      rcases Nat.eq_zero_or_pos n with h | h
      · exact List.eq_nil_of_length_eq_zero (by omega)
      · obtain ⟨ad, h, _⟩ := hr.2.2 h; cases h
    subst h0
    clear hr
    go_enter Try.func11, Try.ntmps11
    go_wp2_with fail
    go_ret
    exact ⟨_, rfl, own_nil _ _ _ _, Below.refl _ _⟩
  | some ad =>
    have HR := Lib.hid hr
    have hlen := flatIt_len xs
    clear hr
    go_enter Try.func11, Try.ntmps11
    have hown : (w.alloc (.cells #[] 26)).ownsRow w.heap.size 26 3 (.slice (some ⟨w.heap.size, 0, none⟩) 0 0) 0 [] := World.ownsRow_lit w #[] 0 (Nat.le_refl _) (by decide) (by simp)
    go_wp2_with ((at_builtin; refine wpList_append_own_at _ rfl _ _ 23 rfl w.heap.size 26 i0 (.agg #[.int .i64 0, .string ⟨#[]⟩, .slice none 0 0]) 3 48 Try.underlying23 hi hz0 hz1 hz2 rfl (by decide) _ 0 [] rfl hown ad n c (flatIt xs) rfl (by rw [hlen, hl]) ((HR.out.below ((Below.refl _ w).alloc (Nat.le_refl _) _)).news) (flatIt_one xs) (by unfold maxLen; omega) (by omega) (by simp) ?c1))
    case c1 =>
      intro v1 w1 hown1 hg _ _
      have HO : Hid (OIt w1 w.heap.size v1 xs) := Lib.hid (by unfold OIt; rw [hl]; simpa using hown1)
      have HB : Hid (Below w.heap.size w w1) := Lib.hid (((Below.refl _ w).alloc (Nat.le_refl _) _).grown hg (by simp) (own_base hown))
      clear hown1 hg hown
      go_wp2_with fail
      go_ret
      exact ⟨_, rfl, HO.out, HB.out⟩
end Go.Proofs.Ytdheifnebkkjhaa.Act
