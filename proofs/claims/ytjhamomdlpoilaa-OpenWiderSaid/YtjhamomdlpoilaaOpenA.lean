import Derived.Test.YtjhamomdlpoilaaShelf
import Derived.WalkKit
import Derived.Lib.Hide
namespace Go.Proofs.Ytjhamomdlpoilaa.OpenW
open Go.RowKit

theorem ret_bool {a b : Bool} (h : a = b) : Ending.returned (.bool a) = .returned (.bool b) := by rw [h]
theorem ret_int {k : IntKind} {a b : Int} (h : a = b) : Ending.returned (.int k a) = .returned (.int k b) := by rw [h]

def oneB (name list : ByteArray) : Bool := !name.data.toList.isEmpty && (!decide (0 ≤ Lib.indexByte name.data.toList 32) && Lib.contains list.data.toList (32 :: (name.data.toList ++ [32])))

set_option maxHeartbeats 400000 in
theorem one_any (name list : ByteArray) (m : Int) (w : World) (hl : list.size < 4294967281) (hn : name.size ≤ 140737488351232) (hm : w.cell? ⟨0, 0, none⟩ = some (.int .i64 m)) :
    Calls Try.prog 34 #[.string name, .string list] w fun e w' => e = .returned (.bool (oneB name list)) ∧ w = w' := by
  by_cases h1 : name.toList = []
  · have h2 : name.data.toList = [] := by rw [← Lib.toList_data]; exact h1
    have hr : oneB name list = false := by simp [oneB, h2]
    go_enter Try.func34, Try.ntmps34
    go_wp2_with fail
    go_ret
    exact ⟨ret_bool hr.symm, rfl⟩
  · have h2 : name.data.toList ≠ [] := by rw [← Lib.toList_data]; exact h1
    by_cases h3 : 0 ≤ Lib.indexByte name.data.toList 32
    · have hr : oneB name list = false := by simp [oneB, h3]
      go_enter Try.func34, Try.ntmps34
      go_wp2_with fail
      refine (Try.strings_Contains_one _ _ _).mono ?_
      rintro e w' ⟨rfl, rfl⟩
      go_wp2_with fail
      go_ret
      exact ⟨ret_bool hr.symm, rfl⟩
    · go_enter Try.func34, Try.ntmps34
      go_wp2_with fail
      refine (Try.strings_Contains_one _ _ _).mono ?_
      rintro e w' ⟨rfl, rfl⟩
      go_wp2_with fail
      refine (Try.strings_Contains _ _ m _ hl hm).mono ?_
      rintro e w' ⟨rfl, rfl⟩
      go_wp2_with fail
      go_ret
      exact ⟨ret_bool (by simp [oneB, Lib.toList_data, Bool.and_assoc]), rfl⟩

/-- The lists of names. -/
def implied : ByteArray := { data := #[32, 100, 100, 32, 100, 116, 32, 108, 105, 32, 111, 112, 116, 103, 114, 111, 117, 112, 32, 111, 112, 116, 105, 111, 110, 32, 112, 32] }
def bars : ByteArray := { data := #[32, 99, 97, 112, 116, 105, 111, 110, 32, 104, 116, 109, 108, 32, 111, 98, 106, 101, 99, 116, 32, 116, 97, 98, 108, 101, 32, 116, 100, 32, 116, 101, 109, 112, 108, 97, 116, 101, 32, 116, 104, 32] }
def barsL : ByteArray := { data := #[32, 99, 97, 112, 116, 105, 111, 110, 32, 104, 116, 109, 108, 32, 111, 98, 106, 101, 99, 116, 32, 116, 97, 98, 108, 101, 32, 116, 100, 32, 116, 101, 109, 112, 108, 97, 116, 101, 32, 116, 104, 32, 111, 108, 32, 117, 108, 32] }
def barsB : ByteArray := { data := #[32, 99, 97, 112, 116, 105, 111, 110, 32, 104, 116, 109, 108, 32, 111, 98, 106, 101, 99, 116, 32, 116, 97, 98, 108, 101, 32, 116, 100, 32, 116, 101, 109, 112, 108, 97, 116, 101, 32, 116, 104, 32, 98, 117, 116, 116, 111, 110, 32] }
def barsT : ByteArray := { data := #[32, 104, 116, 109, 108, 32, 116, 97, 98, 108, 101, 32, 116, 101, 109, 112, 108, 97, 116, 101, 32] }
def optgroup : ByteArray := { data := #[111, 112, 116, 103, 114, 111, 117, 112] }
def option_ : ByteArray := { data := #[111, 112, 116, 105, 111, 110] }
def barB (name : ByteArray) (scope : Int) : Bool :=
  if scope = 2 then oneB name barsL else if scope = 3 then oneB name barsB else if scope = 4 then oneB name barsT
  else if scope = 5 then (name.toList != optgroup.toList && name.toList != option_.toList) else oneB name bars

theorem barB_sel (name : ByteArray) : barB name 5 = (!name.toList == [111, 112, 116, 103, 114, 111, 117, 112] && !name.toList == [111, 112, 116, 105, 111, 110]) := by
  simp [barB, optgroup, option_, Lib.toList_data, bne]

set_option maxHeartbeats 400000 in
theorem bar_any (name : ByteArray) (scope m : Int) (w : World) (hn : name.size ≤ 140737488351232) (hm : w.cell? ⟨0, 0, none⟩ = some (.int .i64 m)) :
    Calls Try.prog 46 #[.string name, .int .i64 scope] w fun e w' => e = .returned (.bool (barB name scope)) ∧ w = w' := by
  by_cases h2 : scope = 2
  · subst h2
    go_enter Try.func46, Try.ntmps46
    go_wp2_with fail
    refine (one_any _ _ m _ (by decide) hn hm).mono ?_
    rintro e w' ⟨rfl, rfl⟩
    go_wp2_with fail
    go_ret
    exact ⟨rfl, rfl⟩
  · by_cases h3 : scope = 3
    · subst h3
      go_enter Try.func46, Try.ntmps46
      go_wp2_with fail
      refine (one_any _ _ m _ (by decide) hn hm).mono ?_
      rintro e w' ⟨rfl, rfl⟩
      go_wp2_with fail
      go_ret
      exact ⟨rfl, rfl⟩
    · by_cases h4 : scope = 4
      · subst h4
        go_enter Try.func46, Try.ntmps46
        go_wp2_with fail
        refine (one_any _ _ m _ (by decide) hn hm).mono ?_
        rintro e w' ⟨rfl, rfl⟩
        go_wp2_with fail
        go_ret
        exact ⟨rfl, rfl⟩
      · by_cases h5 : scope = 5
        · subst h5
          go_enter Try.func46, Try.ntmps46
          go_wp2_with fail
          all_goals go_ret
          all_goals exact ⟨ret_bool (by first | exact (barB_sel name).symm | (rw [barB_sel]; simp_all; done)), rfl⟩
        · have hr : barB name scope = oneB name bars := by simp [barB, *]
          have Hr := Lib.hid hr
          clear hr
          have g2 : (scope == 2) = false := by simpa using h2
          have g3 : (scope == 3) = false := by simpa using h3
          have g4 : (scope == 4) = false := by simpa using h4
          have g5 : (scope == 5) = false := by simpa using h5
          clear h2 h3 h4 h5
          go_enter Try.func46, Try.ntmps46
          go_wp2_with fail
          refine (one_any _ _ m _ (by decide) hn hm).mono ?_
          rintro e w' ⟨rfl, rfl⟩
          go_wp2_with fail
          go_ret
          exact ⟨by rw [Hr.out]; rfl, rfl⟩
end Go.Proofs.Ytjhamomdlpoilaa.OpenW
