import Derived.Test.YtjhamomdlpoilaaOpenB
namespace Go.Proofs.Ytjhamomdlpoilaa.OpenW
open Go.RowKit

def fmtl : ByteArray := { data := #[32, 97, 32, 98, 32, 98, 105, 103, 32, 99, 111, 100, 101, 32, 101, 109, 32, 102, 111, 110, 116, 32, 105, 32, 110, 111, 98, 114, 32, 115, 32, 115, 109, 97, 108, 108, 32, 115, 116, 114, 105, 107, 101, 32, 115, 116, 114, 111, 110, 103, 32, 116, 116, 32, 117, 32] }
set_option maxHeartbeats 400000 in
theorem formatting_any (name : ByteArray) (m : Int) (w : World) (hn : name.size ≤ 140737488351232) (hm : w.cell? ⟨0, 0, none⟩ = some (.int .i64 m)) :
    Calls Try.prog 17 #[.string name] w fun e w' => e = .returned (.bool (oneB name fmtl)) ∧ w = w' := by
  go_enter Try.func17, Try.ntmps17
  go_wp2_with fail
  refine (one_any _ _ m _ (by decide) hn hm).mono ?_
  rintro e w' ⟨rfl, rfl⟩
  go_wp2_with fail
  go_ret
  exact ⟨rfl, rfl⟩

set_option maxRecDepth 100000 in
set_option maxHeartbeats 400000 in
theorem special_b (m : Int) (w : World) (hm : w.cell? ⟨0, 0, none⟩ = some (.int .i64 m)) :
    Calls Try.prog 32 #[.string ⟨#[98]⟩] w fun e w' => e = .returned (.bool false) ∧ w = w' := by
  go_enter Try.func32, Try.ntmps32
  go_wp2_with fail
  refine (one_any _ _ m _ (by decide) (by decide) hm).mono ?_
  rintro e w' ⟨rfl, rfl⟩
  go_wp2_with fail
  go_ret
  exact ⟨ret_bool (by decide +kernel), rfl⟩

/-- 'Heading', of a name that is one of the implied ones' or whatever else: by its bytes. -/
def headB (name : ByteArray) : Bool := match name.data.toList with
  | [a, b] => a == 104 && (decide (49 ≤ b.toNat) && decide (b.toNat ≤ 54))
  | _ => false
set_option maxHeartbeats 400000 in
theorem heading_any (name : ByteArray) (w : World) (hn : name.size ≠ 2) :
    Calls Try.prog 18 #[.string name] w fun e w' => e = .returned (.bool false) ∧ w = w' := by
  have g : ((name.size : Int) == 2) = false := by
    rw [beq_eq_false_iff_ne]; omega
  clear hn
  go_enter Try.func18, Try.ntmps18
  go_wp2_with fail
  go_ret
  exact ⟨rfl, rfl⟩
set_option maxHeartbeats 400000 in
theorem heading_two (name : ByteArray) (w : World) (h2 : name.size = 2) (ha : name[0] ≠ 104) :
    Calls Try.prog 18 #[.string name] w fun e w' => e = .returned (.bool false) ∧ w = w' := by
  have g : ((name[0].toNat : Int) == 104) = false := by
    rw [beq_eq_false_iff_ne]
    intro h
    exact ha (UInt8.toNat_inj.1 (by simpa using (by omega : name[0].toNat = 104)))
  have g2 : ((name.size : Int) == 2) = true := by rw [beq_iff_eq]; omega
  have g3 : 0 < name.size := by omega
  clear ha
  have g4 := Lib.hid h2
  clear g4
  go_enter Try.func18, Try.ntmps18
  go_wp2_with fail
  go_ret
  exact ⟨rfl, rfl⟩

theorem rs_two (w : World) (x y : ByteArray) (hx : x.size ≤ 140737488351232) (hy : y.size ≤ 140737488351232) (t : TypeId) :
    RS (w.alloc (Obj.cells #[.string x, .string y] t)) (some ⟨w.heap.size, 0, none⟩) 2 [x, y] := by
  refine ⟨rfl, by decide, by simp [hx, hy], fun _ => ⟨_, rfl, fun j hj => ?_⟩⟩
  have : j = 0 ∨ j = 1 := by omega
  rcases this with rfl | rfl <;> go_simp
theorem rs_three (w : World) (x y z : ByteArray) (hx : x.size ≤ 140737488351232) (hy : y.size ≤ 140737488351232) (hz : z.size ≤ 140737488351232) (t : TypeId) (k : Nat) (hk : k = w.heap.size) :
    RS (w.alloc (Obj.cells #[.string x, .string y, .string z] t)) (some ⟨k, 0, none⟩) 3 [x, y, z] := by
  subst hk
  refine ⟨rfl, by decide, by simp [hx, hy, hz], fun _ => ⟨_, rfl, fun j hj => ?_⟩⟩
  have : j = 0 ∨ j = 1 ∨ j = 2 := by omega
  rcases this with rfl | rfl | rfl <;> go_simp
theorem cell_alloc {w : World} {a : Addr} {v : Value} (h : w.cell? a = some v) (o : Obj) : (w.alloc o).cell? a = some v := by
  have hb : Below w.heap.size w (w.alloc o) := (Below.refl _ _).alloc (Nat.le_refl _) _
  exact (hb.cell (World.block_lt_of_cell? w a h)).trans h

set_option maxRecDepth 100000 in
set_option maxHeartbeats 400000 in
theorem begun_any (m : Int) (w : World) (hm : w.cell? ⟨0, 0, none⟩ = some (.int .i64 m)) :
    Calls Try.prog 15 #[] w fun e w' => e = .returned (.bool true) ∧ Below w.heap.size w w' := by
  have HM := Lib.hid hm
  clear hm
  go_enter Try.func15, Try.ntmps15
  go_wp2_with fail
  refine (in_any _ 2 2 [{ data := #[116, 97, 98, 108, 101] }, { data := #[98] }] _ 4 m _ (by decide) (by decide) (by decide) (rs_two _ _ _ (by decide) (by decide) _) (cell_alloc HM.out _)).mono ?_
  rintro e w' ⟨rfl, rfl⟩
  rw [show hasR { data := #[116, 97, 98, 108, 101] } 4 ([{ data := #[116, 97, 98, 108, 101] }, { data := #[98] }] : List ByteArray).reverse = true by decide +kernel]
  go_wp2_with fail
  refine (in_any _ 3 3 [{ data := #[112] }, { data := #[116, 97, 98, 108, 101] }, { data := #[98] }] _ 1 m _ (by decide) (by decide) (by decide) (rs_three _ _ _ _ (by decide) (by decide) (by decide) _ _ (by simp)) (cell_alloc (cell_alloc HM.out _) _)).mono ?_
  rintro e w' ⟨rfl, rfl⟩
  rw [show hasR { data := #[112] } 1 ([{ data := #[112] }, { data := #[116, 97, 98, 108, 101] }, { data := #[98] }] : List ByteArray).reverse = false by decide +kernel]
  go_wp2_with fail
  refine (special_b m _ (cell_alloc (cell_alloc HM.out _) _)).mono ?_
  rintro e w' ⟨rfl, rfl⟩
  go_wp2_with fail
  go_ret
  exact ⟨rfl, ((Below.refl _ _).alloc (Nat.le_refl _) _).alloc (by simp) _⟩
end Go.Proofs.Ytjhamomdlpoilaa.OpenW
