import Derived.Test.YtjhamomdlpoilaaRows
import Derived.Test.YtjhamomdlpoilaaOpenB
import Derived.WalkKit
import Derived.ProofKit
import Derived.OpenShut
import Derived.ShutString
import Derived.ChangeOld
import Derived.Below
import Derived.SizedLaws
import Derived.HandedShaped
import Derived.SliceStrings
namespace Go.Proofs.Ytjhamomdlpoilaa.RowT
open Go.ChangeShapes Go.WideShapes Go.ChangeAt Go.RowKit Go.Proofs.Ytjhamomdlpoilaa.OpenW
open Go.ChangeMaps (open_string shut_string)

theorem own : ownKnob Try.prog.godebug = none := by kernel_rfl
theorem laidOut : laidOutB Try.prog = true := by kernel_rfl

/-- A slice of texts that came in, opened. -/
theorem open_texts {H : Type} {enc : TypeId × Value → H} {P : Program} {W : World} {base : Nat} {t e : TypeId} {A : Option Addr} {len cap : Nat} {d : DataW H} {ps : List MemPlace} {ts : List TypeId} {ds : List (DataW H)} {j : Nat}
    (hsz : (DataW.weightsEach P ts ds).all (· ≤ reachBytes) = true) (ht : ts[j]? = some t) (hd : ds[j]? = some d) (hu : P.underlying t = some (.slice e)) (he : P.underlying e = some .string) (hc : P.cellsOf e = 1)
    (h : DataW.Trod enc P W base (fun _ => true) true t (.slice A len cap) d ps) : ∃ ss, RS W A len ss ∧ len ≤ cap := by
  obtain ⟨fuel, hf⟩ := h
  rcases open_strings hu he hc hf with ⟨hcs, _⟩ | ⟨a, l, c, ss, hcs, _, hl, hm, hlen, hx, hcell, hss⟩
  · simp [Value.cells] at hcs
    obtain ⟨rfl, rfl, rfl⟩ := hcs
    exact ⟨[], ⟨rfl, by decide, by simp, fun h => absurd h (by decide)⟩, Nat.le_refl _⟩
  · simp [Value.cells] at hcs
    obtain ⟨rfl, rfl, rfl⟩ := hcs
    simp only [if_true] at hlen
    obtain ⟨hx, _⟩ := Prod.mk.inj hx
    subst hx
    refine ⟨ss.take len, ⟨by simp; omega, by unfold maxLen at hm; omega, fun s hs => ?_, fun h0 => ⟨a, rfl, fun j hj => ?_⟩⟩, hl⟩
    · have hmem := DataW.weights_mem_each (P := P) ht hd
      have h1 : s.data.toList.length ∈ DataW.weights P t (.slice (strs (H := H) (ss.take len)) (strs (ss.drop len))) := by
        simp only [DataW.weights, hu]
        refine List.mem_cons_of_mem _ (List.mem_append_left _ ?_)
        clear hlen hcell hss hm hmem hd
        generalize ss.take len = l at hs
        clear hf
        induction l with
        | nil => simp at hs
        | cons x r ih =>
          simp only [strs, List.map_cons, DataW.weightsAll]
          rcases List.mem_cons.1 hs with rfl | h
          · exact List.mem_append_left _ (by simp [DataW.weights])
          · exact List.mem_append_right _ (ih h)
      have h2 := hmem _ h1
      have h3 := List.all_eq_true.1 hsz _ h2
      have h4 : s.size = s.data.toList.length := by rw [Array.length_toList]; rfl
      have h5 := of_decide_eq_true h3
      rw [← h4] at h5
      exact h5
    · rw [hcell j (by omega), List.getD_eq_getElem?_getD, List.getD_eq_getElem?_getD, List.getElem?_take, if_pos hj]
end Go.Proofs.Ytjhamomdlpoilaa.RowT
