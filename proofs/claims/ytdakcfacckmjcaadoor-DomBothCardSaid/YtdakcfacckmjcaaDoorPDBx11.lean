-- printed by wip/tools/pr.py (own) through the kit's printer; texts GIVEN by hand stand among them
import Derived.Test.YtdakcfacckmjcaaDoorPDBx0
import Derived.Test.YtdakcfacckmjcaaDoorPDBx3
import Derived.Test.YtdakcfacckmjcaaDoorPDBx5
import Derived.Test.YtdakcfacckmjcaaDoorPDBx6
import Derived.Test.YtdakcfacckmjcaaDoorPDBx7
import Derived.Test.YtdakcfacckmjcaaDoorPDBx8
import Derived.Test.YtdakcfacckmjcaaDoorPDBx9
import Derived.Test.YtdakcfacckmjcaaDoorPDBx10
namespace Go.Proofs.YtdakcfacckmjcaaDoor.PDB
open Go.RowKit Go.Proofs.YtdakcfacckmjcaaDoorW.PrintWords Go.Proofs.YtdakcfacckmjcaaDoorW.PrintLast Go.Proofs.YtdakcfacckmjcaaDoorW.PrintMore
attribute [local go_sem] max2_int min2_int max_two min_two max_three min_three max_four min_four   -- for this text's walks alone
set_option linter.unusedVariables false
set_option linter.unusedSimpArgs false

/-! ### dom_editor_edit: function 10 -/
set_option maxHeartbeats 1000000 in
theorem does_text (p : Value) (w : World) : Calls Tryd.prog 19 #[p, .int .i64 3] w fun e w' => e = .returned (.func (.func 25) #[p] #[]) ∧ w = w' := by
  go_enter Tryd.func19, Tryd.ntmps19
  go_wp2_with fail
  go_ret
  exact ⟨rfl, rfl⟩
set_option maxHeartbeats 1000000 in
theorem does_make (p : Value) (w : World) : Calls Tryd.prog 19 #[p, .int .i64 4] w fun e w' => e = .returned (.func (.func 26) #[p] #[]) ∧ w = w' := by
  go_enter Tryd.func19, Tryd.ntmps19
  go_wp2_with fail
  go_ret
  exact ⟨rfl, rfl⟩
set_option maxHeartbeats 1000000 in
theorem does_insert (p : Value) (w : World) : Calls Tryd.prog 19 #[p, .int .i64 5] w fun e w' => e = .returned (.func (.func 27) #[p] #[]) ∧ w = w' := by
  go_enter Tryd.func19, Tryd.ntmps19
  go_wp2_with fail
  go_ret
  exact ⟨rfl, rfl⟩
set_option maxHeartbeats 1000000 in
theorem does_attr (p : Value) (w : World) : Calls Tryd.prog 19 #[p, .int .i64 1] w fun e w' => e = .returned (.func (.func 23) #[p] #[]) ∧ w = w' := by
  go_enter Tryd.func19, Tryd.ntmps19
  go_wp2_with fail
  go_ret
  exact ⟨rfl, rfl⟩
set_option maxHeartbeats 1000000 in
theorem does_drop (p : Value) (w : World) : Calls Tryd.prog 19 #[p, .int .i64 2] w fun e w' => e = .returned (.func (.func 24) #[p] #[]) ∧ w = w' := by
  go_enter Tryd.func19, Tryd.ntmps19
  go_wp2_with fail
  go_ret
  exact ⟨rfl, rfl⟩
set_option maxHeartbeats 1000000 in
theorem does_remove (p : Value) (w : World) : Calls Tryd.prog 19 #[p, .int .i64 6] w fun e w' => e = .returned (.func (.func 28) #[p] #[]) ∧ w = w' := by
  go_enter Tryd.func19, Tryd.ntmps19
  go_wp2_with fail
  go_ret
  exact ⟨rfl, rfl⟩
theorem func_not_nil1 {P : Program} (w : World) (d : Nat) (t : TypeId) (ps rs : Array TypeId) (b : Bool) (f : Fn) (xs ys : Array Value) (h : P.underlying t = some (.func ps rs b)) : (Op.equalIn (d + 1) t (.func f xs ys) .nilFunc).run P w = .ok false w := by simp [Op.equalIn, run_underlying h]
/-- A function's value is not nil. -/
theorem func_not_nil {P : Program} (w : World) (t : TypeId) (ps rs : Array TypeId) (b : Bool) (f : Fn) (xs ys : Array Value) (h : P.underlying t = some (.func ps rs b)) : (binOp .eql t (.func f xs ys) .nilFunc).run P w = .ok (.bool false) w := by
  simp only [binOp]
  simp [Op.equal, Op.maxDepth, func_not_nil1 w 9999 t ps rs b f xs ys h]
set_option maxRecDepth 100000 in
set_option maxHeartbeats 2000000 in
/-- edit, where it is this. -/
theorem edit_text (p : Value) (at_ to_ be : Int) (nm vl : ByteArray) (f0 : Int) (f1 : ByteArray) (A8 : Option Addr) (n8 c8 : Nat) (f3 : ByteArray) (f4 : Int) (A11 : Option Addr) (n11 c11 : Nat) (r : Int) (w : World) (Q : World → Prop)
    (hg : ∀ W : World, Below w.heap.size w W → Calls Tryd.prog 25 #[p, .agg #[.int .i64 3, .int .i64 at_, .int .i64 to_, .int .i64 be, .string nm, .string vl, .int .i64 f0, .string f1, .slice A8 n8 c8, .string f3, .int .i64 f4, .slice A11 n11 c11]] W fun e w' => e = .returned (.int .i64 r) ∧ Q w') :
    Calls Tryd.prog 10 #[p, .agg #[.int .i64 3, .int .i64 at_, .int .i64 to_, .int .i64 be, .string nm, .string vl, .int .i64 f0, .string f1, .slice A8 n8 c8, .string f3, .int .i64 f4, .slice A11 n11 c11]] w fun e w' => e = .returned (.int .i64 r) ∧ Q w' := by
  have hnil := fun W : World => func_not_nil (P := Tryd.prog) W 44 _ _ _ (.func 25) #[p] #[] Tryd.underlying44
  have HD := Lib.hid (fun W => does_text p W)
  have HG := Lib.hid hg
  have HB := Lib.hid ((Below.refl _ w).alloc (Nat.le_refl _) (.cells #[.int .i64 3, .int .i64 at_, .int .i64 to_, .int .i64 be, .string nm, .string vl, .int .i64 f0, .string f1, .slice A8 n8 c8, .string f3, .int .i64 f4, .slice A11 n11 c11] 43))
  clear hg
  go_enter Tryd.func10, Tryd.ntmps10
  go_wp2_with fail
  refine (HD.out _).mono ?_
  rintro e w' ⟨rfl, rfl⟩
  go_wp2_with fail
  refine (HG.out _ HB.out).mono ?_
  rintro e w' ⟨rfl, hq⟩
  go_wp2_with fail
  go_ret
  exact ⟨rfl, hq⟩
set_option maxRecDepth 100000 in
set_option maxHeartbeats 2000000 in
/-- edit, where it is this. -/
theorem edit_make (p : Value) (at_ to_ be : Int) (nm vl : ByteArray) (f0 : Int) (f1 : ByteArray) (A8 : Option Addr) (n8 c8 : Nat) (f3 : ByteArray) (f4 : Int) (A11 : Option Addr) (n11 c11 : Nat) (r : Int) (w : World) (Q : World → Prop)
    (hg : ∀ W : World, Below w.heap.size w W → Calls Tryd.prog 26 #[p, .agg #[.int .i64 4, .int .i64 at_, .int .i64 to_, .int .i64 be, .string nm, .string vl, .int .i64 f0, .string f1, .slice A8 n8 c8, .string f3, .int .i64 f4, .slice A11 n11 c11]] W fun e w' => e = .returned (.int .i64 r) ∧ Q w') :
    Calls Tryd.prog 10 #[p, .agg #[.int .i64 4, .int .i64 at_, .int .i64 to_, .int .i64 be, .string nm, .string vl, .int .i64 f0, .string f1, .slice A8 n8 c8, .string f3, .int .i64 f4, .slice A11 n11 c11]] w fun e w' => e = .returned (.int .i64 r) ∧ Q w' := by
  have hnil := fun W : World => func_not_nil (P := Tryd.prog) W 44 _ _ _ (.func 26) #[p] #[] Tryd.underlying44
  have HD := Lib.hid (fun W => does_make p W)
  have HG := Lib.hid hg
  have HB := Lib.hid ((Below.refl _ w).alloc (Nat.le_refl _) (.cells #[.int .i64 4, .int .i64 at_, .int .i64 to_, .int .i64 be, .string nm, .string vl, .int .i64 f0, .string f1, .slice A8 n8 c8, .string f3, .int .i64 f4, .slice A11 n11 c11] 43))
  clear hg
  go_enter Tryd.func10, Tryd.ntmps10
  go_wp2_with fail
  refine (HD.out _).mono ?_
  rintro e w' ⟨rfl, rfl⟩
  go_wp2_with fail
  refine (HG.out _ HB.out).mono ?_
  rintro e w' ⟨rfl, hq⟩
  go_wp2_with fail
  go_ret
  exact ⟨rfl, hq⟩
set_option maxRecDepth 100000 in
set_option maxHeartbeats 2000000 in
/-- edit, where it is this. -/
theorem edit_insert (p : Value) (at_ to_ be : Int) (nm vl : ByteArray) (f0 : Int) (f1 : ByteArray) (A8 : Option Addr) (n8 c8 : Nat) (f3 : ByteArray) (f4 : Int) (A11 : Option Addr) (n11 c11 : Nat) (r : Int) (w : World) (Q : World → Prop)
    (hg : ∀ W : World, Below w.heap.size w W → Calls Tryd.prog 27 #[p, .agg #[.int .i64 5, .int .i64 at_, .int .i64 to_, .int .i64 be, .string nm, .string vl, .int .i64 f0, .string f1, .slice A8 n8 c8, .string f3, .int .i64 f4, .slice A11 n11 c11]] W fun e w' => e = .returned (.int .i64 r) ∧ Q w') :
    Calls Tryd.prog 10 #[p, .agg #[.int .i64 5, .int .i64 at_, .int .i64 to_, .int .i64 be, .string nm, .string vl, .int .i64 f0, .string f1, .slice A8 n8 c8, .string f3, .int .i64 f4, .slice A11 n11 c11]] w fun e w' => e = .returned (.int .i64 r) ∧ Q w' := by
  have hnil := fun W : World => func_not_nil (P := Tryd.prog) W 44 _ _ _ (.func 27) #[p] #[] Tryd.underlying44
  have HD := Lib.hid (fun W => does_insert p W)
  have HG := Lib.hid hg
  have HB := Lib.hid ((Below.refl _ w).alloc (Nat.le_refl _) (.cells #[.int .i64 5, .int .i64 at_, .int .i64 to_, .int .i64 be, .string nm, .string vl, .int .i64 f0, .string f1, .slice A8 n8 c8, .string f3, .int .i64 f4, .slice A11 n11 c11] 43))
  clear hg
  go_enter Tryd.func10, Tryd.ntmps10
  go_wp2_with fail
  refine (HD.out _).mono ?_
  rintro e w' ⟨rfl, rfl⟩
  go_wp2_with fail
  refine (HG.out _ HB.out).mono ?_
  rintro e w' ⟨rfl, hq⟩
  go_wp2_with fail
  go_ret
  exact ⟨rfl, hq⟩
set_option maxRecDepth 100000 in
set_option maxHeartbeats 2000000 in
/-- edit, where it is this. -/
theorem edit_attr (p : Value) (at_ to_ be : Int) (nm vl : ByteArray) (f0 : Int) (f1 : ByteArray) (A8 : Option Addr) (n8 c8 : Nat) (f3 : ByteArray) (f4 : Int) (A11 : Option Addr) (n11 c11 : Nat) (r : Int) (w : World) (Q : World → Prop)
    (hg : ∀ W : World, Below w.heap.size w W → Calls Tryd.prog 23 #[p, .agg #[.int .i64 1, .int .i64 at_, .int .i64 to_, .int .i64 be, .string nm, .string vl, .int .i64 f0, .string f1, .slice A8 n8 c8, .string f3, .int .i64 f4, .slice A11 n11 c11]] W fun e w' => e = .returned (.int .i64 r) ∧ Q w') :
    Calls Tryd.prog 10 #[p, .agg #[.int .i64 1, .int .i64 at_, .int .i64 to_, .int .i64 be, .string nm, .string vl, .int .i64 f0, .string f1, .slice A8 n8 c8, .string f3, .int .i64 f4, .slice A11 n11 c11]] w fun e w' => e = .returned (.int .i64 r) ∧ Q w' := by
  have hnil := fun W : World => func_not_nil (P := Tryd.prog) W 44 _ _ _ (.func 23) #[p] #[] Tryd.underlying44
  have HD := Lib.hid (fun W => does_attr p W)
  have HG := Lib.hid hg
  have HB := Lib.hid ((Below.refl _ w).alloc (Nat.le_refl _) (.cells #[.int .i64 1, .int .i64 at_, .int .i64 to_, .int .i64 be, .string nm, .string vl, .int .i64 f0, .string f1, .slice A8 n8 c8, .string f3, .int .i64 f4, .slice A11 n11 c11] 43))
  clear hg
  go_enter Tryd.func10, Tryd.ntmps10
  go_wp2_with fail
  refine (HD.out _).mono ?_
  rintro e w' ⟨rfl, rfl⟩
  go_wp2_with fail
  refine (HG.out _ HB.out).mono ?_
  rintro e w' ⟨rfl, hq⟩
  go_wp2_with fail
  go_ret
  exact ⟨rfl, hq⟩
set_option maxRecDepth 100000 in
set_option maxHeartbeats 2000000 in
/-- edit, where it is this. -/
theorem edit_drop (p : Value) (at_ to_ be : Int) (nm vl : ByteArray) (f0 : Int) (f1 : ByteArray) (A8 : Option Addr) (n8 c8 : Nat) (f3 : ByteArray) (f4 : Int) (A11 : Option Addr) (n11 c11 : Nat) (r : Int) (w : World) (Q : World → Prop)
    (hg : ∀ W : World, Below w.heap.size w W → Calls Tryd.prog 24 #[p, .agg #[.int .i64 2, .int .i64 at_, .int .i64 to_, .int .i64 be, .string nm, .string vl, .int .i64 f0, .string f1, .slice A8 n8 c8, .string f3, .int .i64 f4, .slice A11 n11 c11]] W fun e w' => e = .returned (.int .i64 r) ∧ Q w') :
    Calls Tryd.prog 10 #[p, .agg #[.int .i64 2, .int .i64 at_, .int .i64 to_, .int .i64 be, .string nm, .string vl, .int .i64 f0, .string f1, .slice A8 n8 c8, .string f3, .int .i64 f4, .slice A11 n11 c11]] w fun e w' => e = .returned (.int .i64 r) ∧ Q w' := by
  have hnil := fun W : World => func_not_nil (P := Tryd.prog) W 44 _ _ _ (.func 24) #[p] #[] Tryd.underlying44
  have HD := Lib.hid (fun W => does_drop p W)
  have HG := Lib.hid hg
  have HB := Lib.hid ((Below.refl _ w).alloc (Nat.le_refl _) (.cells #[.int .i64 2, .int .i64 at_, .int .i64 to_, .int .i64 be, .string nm, .string vl, .int .i64 f0, .string f1, .slice A8 n8 c8, .string f3, .int .i64 f4, .slice A11 n11 c11] 43))
  clear hg
  go_enter Tryd.func10, Tryd.ntmps10
  go_wp2_with fail
  refine (HD.out _).mono ?_
  rintro e w' ⟨rfl, rfl⟩
  go_wp2_with fail
  refine (HG.out _ HB.out).mono ?_
  rintro e w' ⟨rfl, hq⟩
  go_wp2_with fail
  go_ret
  exact ⟨rfl, hq⟩
set_option maxRecDepth 100000 in
set_option maxHeartbeats 2000000 in
/-- edit, where it is this. -/
theorem edit_remove (p : Value) (at_ to_ be : Int) (nm vl : ByteArray) (f0 : Int) (f1 : ByteArray) (A8 : Option Addr) (n8 c8 : Nat) (f3 : ByteArray) (f4 : Int) (A11 : Option Addr) (n11 c11 : Nat) (r : Int) (w : World) (Q : World → Prop)
    (hg : ∀ W : World, Below w.heap.size w W → Calls Tryd.prog 28 #[p, .agg #[.int .i64 6, .int .i64 at_, .int .i64 to_, .int .i64 be, .string nm, .string vl, .int .i64 f0, .string f1, .slice A8 n8 c8, .string f3, .int .i64 f4, .slice A11 n11 c11]] W fun e w' => e = .returned (.int .i64 r) ∧ Q w') :
    Calls Tryd.prog 10 #[p, .agg #[.int .i64 6, .int .i64 at_, .int .i64 to_, .int .i64 be, .string nm, .string vl, .int .i64 f0, .string f1, .slice A8 n8 c8, .string f3, .int .i64 f4, .slice A11 n11 c11]] w fun e w' => e = .returned (.int .i64 r) ∧ Q w' := by
  have hnil := fun W : World => func_not_nil (P := Tryd.prog) W 44 _ _ _ (.func 28) #[p] #[] Tryd.underlying44
  have HD := Lib.hid (fun W => does_remove p W)
  have HG := Lib.hid hg
  have HB := Lib.hid ((Below.refl _ w).alloc (Nat.le_refl _) (.cells #[.int .i64 6, .int .i64 at_, .int .i64 to_, .int .i64 be, .string nm, .string vl, .int .i64 f0, .string f1, .slice A8 n8 c8, .string f3, .int .i64 f4, .slice A11 n11 c11] 43))
  clear hg
  go_enter Tryd.func10, Tryd.ntmps10
  go_wp2_with fail
  refine (HD.out _).mono ?_
  rintro e w' ⟨rfl, rfl⟩
  go_wp2_with fail
  refine (HG.out _ HB.out).mono ?_
  rintro e w' ⟨rfl, hq⟩
  go_wp2_with fail
  go_ret
  exact ⟨rfl, hq⟩
theorem nil_nil1 {P : Program} (w : World) (d : Nat) (t : TypeId) (ps rs : Array TypeId) (b : Bool) (h : P.underlying t = some (.func ps rs b)) : (Op.equalIn (d + 1) t .nilFunc .nilFunc).run P w = .ok true w := by simp [Op.equalIn, run_underlying h]
/-- Nil is nil. -/
theorem nil_nil {P : Program} (w : World) (t : TypeId) (ps rs : Array TypeId) (b : Bool) (h : P.underlying t = some (.func ps rs b)) : (binOp .eql t .nilFunc .nilFunc).run P w = .ok (.bool true) w := by
  simp only [binOp]
  simp [Op.equal, Op.maxDepth, nil_nil1 w 9999 t ps rs b h]
set_option maxRecDepth 100000 in
set_option maxHeartbeats 2000000 in
theorem does_none (p : Value) (d : Int) (w : World) (d1 : d ≠ 1) (d2 : d ≠ 2) (d3 : d ≠ 3) (d4 : d ≠ 4) (d5 : d ≠ 5) (d6 : d ≠ 6) : Calls Tryd.prog 19 #[p, .int .i64 d] w fun e w' => e = .returned .nilFunc ∧ w = w' := by
  have b1 : (d == 1) = false := by simpa using d1
  have b2 : (d == 2) = false := by simpa using d2
  have b3 : (d == 3) = false := by simpa using d3
  have b4 : (d == 4) = false := by simpa using d4
  have b5 : (d == 5) = false := by simpa using d5
  have b6 : (d == 6) = false := by simpa using d6
  go_enter Tryd.func19, Tryd.ntmps19
  go_wp2_with fail
  go_ret
  exact ⟨rfl, rfl⟩
set_option maxRecDepth 100000 in
set_option maxHeartbeats 2000000 in
/-- edit, where there is no such thing to do. -/
theorem edit_other (p : Value) (d at_ to_ be : Int) (nm vl : ByteArray) (f0 : Int) (f1 : ByteArray) (A8 : Option Addr) (n8 c8 : Nat) (f3 : ByteArray) (f4 : Int) (A11 : Option Addr) (n11 c11 : Nat) (w : World) (d1 : d ≠ 1) (d2 : d ≠ 2) (d3 : d ≠ 3) (d4 : d ≠ 4) (d5 : d ≠ 5) (d6 : d ≠ 6) :
    Calls Tryd.prog 10 #[p, .agg #[.int .i64 d, .int .i64 at_, .int .i64 to_, .int .i64 be, .string nm, .string vl, .int .i64 f0, .string f1, .slice A8 n8 c8, .string f3, .int .i64 f4, .slice A11 n11 c11]] w fun e w' => e = .returned (.int .i64 1) ∧ Below w.heap.size w w' := by
  have hnil := fun W : World => nil_nil (P := Tryd.prog) W 44 _ _ _ Tryd.underlying44
  have HD := Lib.hid (fun W => does_none p d W d1 d2 d3 d4 d5 d6)
  have HB := Lib.hid ((Below.refl _ w).alloc (Nat.le_refl _) (.cells #[.int .i64 d, .int .i64 at_, .int .i64 to_, .int .i64 be, .string nm, .string vl, .int .i64 f0, .string f1, .slice A8 n8 c8, .string f3, .int .i64 f4, .slice A11 n11 c11] 43))
  clear d1 d2 d3 d4 d5 d6
  go_enter Tryd.func10, Tryd.ntmps10
  go_wp2_with fail
  refine (HD.out _).mono ?_
  rintro e w' ⟨rfl, rfl⟩
  go_wp2_with fail
  go_ret
  exact ⟨rfl, HB.out⟩
/-- What an edit makes of a document's nodes: an error's number, the nodes, and what was made; none where this text says nothing. -/
def makeF (k : Nat) (l : List S41) (e : S43) : Option (Int × List S41 × Int) :=
  if e.f6.f5 = [] then
    if e.f6.f0 = 1 then some (7, l, l.length) else
      (dom_one.f k e.f6.f0 e.f6.f1 e.f6.f2 e.f6.f3 e.f6.f4 e.f6.f5).bind fun r =>
        if r = 0 then
          (if l.length < 200 ∧ e.f6.f2.length ≤ 1000 then some (0, l ++ [⟨e.f6.f0, e.f6.f1, e.f6.f2, e.f6.f3, -1, []⟩], l.length) else if l.length = 200 then some (2, l, l.length) else none)
        else some (r, l, l.length)
  else some (3, l, l.length)
def editF (k : Nat) (l : List S41) (q : Bool) (made : Int) (e : S43) : Option (Int × List S41 × Int) :=
  if e.f0 = 3 then some ((textF l e).1, (textF l e).2, made) else if e.f0 = 4 then makeF k l e else if e.f0 = 5 then (insertF k l q e).map (fun p => (p.1, p.2, made))
  else if e.f0 = 1 then (attrF l e).map (fun p => (p.1, p.2, made)) else if e.f0 = 2 then (dropF l e).map (fun p => (p.1, p.2, made)) else if e.f0 = 6 then (removeF k l e).map (fun p => (p.1, p.2, made)) else some (1, l, made)
theorem edit_calls (k : Nat) (e : S43) (A8 A11 : Option Addr) (c8 c11 : Nat) (l : List S41) (q : Bool) (made : Int) (r : Int) (l' : List S41) (made' : Int) (b : Nat) (w0 w : World)
    (hw : Below w0.heap.size w0 w) (hE : Ed w w0.heap.size b l q made) (h8 : Kd.C k48 w0 A8 e.f6.f2.length e.f6.f2) (hc8 : e.f6.f2.length ≤ c8) (h11 : Kd.C (Kd.int .i64) w0 A11 e.f6.f5.length e.f6.f5) (hc11 : e.f6.f5.length ≤ c11)
    (h : editF k l q made e = some (r, l', made')) :
    Calls Tryd.prog 10 #[.pointer (some ⟨b, 0, none⟩), .agg #[.int .i64 e.f0, .int .i64 e.f1, .int .i64 e.f2, .int .i64 e.f3, .string e.f4, .string e.f5, .int .i64 e.f6.f0, .string e.f6.f1, .slice A8 e.f6.f2.length c8, .string e.f6.f3, .int .i64 e.f6.f4, .slice A11 e.f6.f5.length c11]] w fun e w' => e = .returned (.int .i64 r) ∧ ((r = 0 → Ed w' w0.heap.size b l' q made') ∧ Below w0.heap.size w0 w') := by
  unfold editF at h
  by_cases d3 : e.f0 = 3
  · rw [if_pos d3] at h
    injection h with h
    injection h with ha h
    injection h with hb hc
    subst ha hb hc
    have HT : ∀ W : World, Below w.heap.size w W → Calls Tryd.prog 25 #[.pointer (some ⟨b, 0, none⟩), editV e A8 A11 e.f6.f2.length e.f6.f5.length c8 c11] W fun u w' => u = .returned (.int .i64 (textF l e).1) ∧ (((textF l e).1 = 0 → Ed w' w0.heap.size b (textF l e).2 q made) ∧ Below w0.heap.size w0 w') := fun W hb =>
      (text_calls e A8 A11 _ _ c8 c11 l q made b w0 W (hw.trans (hb.mono hw.size)) (hE.below hb)).mono fun u w' ⟨h1, h2, h3⟩ => ⟨h1, fun _ => h2, h3⟩
    unfold editV at HT
    rw [d3] at HT ⊢
    exact edit_text _ _ _ _ _ _ _ _ _ _ _ _ _ _ _ _ _ _ _ HT
  rw [if_neg d3] at h
  by_cases d4 : e.f0 = 4
  · rw [if_pos d4] at h
    unfold makeF at h
    have HErr : ∀ (r' : Int) (l1 : List S41) (m1 : Int), r' ≠ 0 → ((e.f6.f5 ≠ [] ∧ r' = 3) ∨ (e.f6.f5 = [] ∧ e.f6.f0 = 1 ∧ r' = 7) ∨ (e.f6.f5 = [] ∧ e.f6.f0 ≠ 1 ∧ dom_one.f k e.f6.f0 e.f6.f1 e.f6.f2 e.f6.f3 e.f6.f4 e.f6.f5 = some r' ∧ r' ≠ 0) ∨ (e.f6.f5 = [] ∧ e.f6.f0 ≠ 1 ∧ dom_one.f k e.f6.f0 e.f6.f1 e.f6.f2 e.f6.f3 e.f6.f4 e.f6.f5 = some 0 ∧ l.length = 200 ∧ r' = 2)) →
        Calls Tryd.prog 10 #[.pointer (some ⟨b, 0, none⟩), .agg #[.int .i64 e.f0, .int .i64 e.f1, .int .i64 e.f2, .int .i64 e.f3, .string e.f4, .string e.f5, .int .i64 e.f6.f0, .string e.f6.f1, .slice A8 e.f6.f2.length c8, .string e.f6.f3, .int .i64 e.f6.f4, .slice A11 e.f6.f5.length c11]] w fun e w' => e = .returned (.int .i64 r') ∧ ((r' = 0 → Ed w' w0.heap.size b l1 q m1) ∧ Below w0.heap.size w0 w') := fun r' l1 m1 hr' hd => by
      rw [d4]
      refine edit_make _ _ _ _ _ _ _ _ _ _ _ _ _ _ _ _ _ _ _ (fun W hb => ?_)
      have hbw := hw.trans (hb.mono hw.size)
      refine (make_err k 4 e.f1 e.f2 e.f3 e.f4 e.f5 e.f6 A8 A11 c8 c11 l q made b r' w0 W hbw (hE.below hb) h8 hc8 h11 hc11 hd).mono ?_
      rintro e w' ⟨rfl, h1, h2⟩
      exact ⟨rfl, fun h0 => absurd h0 hr', h2⟩
    by_cases g1 : e.f6.f5 = []
    · rw [if_pos g1] at h
      by_cases g2 : e.f6.f0 = 1
      · rw [if_pos g2] at h
        injection h with h
        injection h with ha h
        injection h with hb hc
        subst ha hb hc
        exact HErr 7 _ _ (by decide) (.inr (.inl ⟨g1, g2, rfl⟩))
      · rw [if_neg g2] at h
        obtain ⟨r1, h1, h⟩ := Option.bind_eq_some_iff.1 h
        by_cases hr : r1 = 0
        · subst hr
          rw [if_pos rfl] at h
          by_cases g3 : l.length < 200 ∧ e.f6.f2.length ≤ 1000
          · rw [if_pos g3] at h
            injection h with h
            injection h with ha h
            injection h with hb hc
            subst ha hb hc
            clear HErr
            rw [d4]
            refine edit_make _ _ _ _ _ _ _ _ _ _ _ _ _ _ _ _ _ _ _ (fun W hb => ?_)
            have hbw := hw.trans (hb.mono hw.size)
            refine (make_ok k 4 e.f1 e.f2 e.f3 e.f4 e.f5 e.f6 A8 A11 c8 c11 l q made b w0 W hbw (hE.below hb) h8 hc8 h11 hc11 g1 g2 h1 g3.1 g3.2).mono ?_
            rintro e w' ⟨rfl, h1, h2⟩
            exact ⟨rfl, fun _ => h1, h2⟩
          · rw [if_neg g3] at h
            by_cases g4 : l.length = 200
            · rw [if_pos g4] at h
              injection h with h
              injection h with ha h
              injection h with hb hc
              subst ha hb hc
              exact HErr 2 _ _ (by decide) (.inr (.inr (.inr ⟨g1, g2, h1, g4, rfl⟩)))
            · rw [if_neg g4] at h
              exact absurd h (by simp)
        · rw [if_neg hr] at h
          injection h with h
          injection h with ha h
          injection h with hb hc
          subst ha hb hc
          exact HErr r1 _ _ hr (.inr (.inr (.inl ⟨g1, g2, h1, hr⟩)))
    · rw [if_neg g1] at h
      injection h with h
      injection h with ha h
      injection h with hb hc
      subst ha hb hc
      exact HErr 3 _ _ (by decide) (.inl ⟨g1, rfl⟩)
  · rw [if_neg d4] at h
    by_cases d5 : e.f0 = 5
    · rw [if_pos d5] at h
      obtain ⟨⟨r1, l1⟩, h1, h⟩ := Option.map_eq_some_iff.1 h
      injection h with ha h
      injection h with hb hc
      subst ha hb hc
      have HT : ∀ W : World, Below w.heap.size w W → Calls Tryd.prog 27 #[.pointer (some ⟨b, 0, none⟩), editV e A8 A11 e.f6.f2.length e.f6.f5.length c8 c11] W fun u w' => u = .returned (.int .i64 r1) ∧ ((r1 = 0 → Ed w' w0.heap.size b l1 q made) ∧ Below w0.heap.size w0 w') := fun W hb =>
        (insert_calls k e A8 A11 _ _ c8 c11 l q made b r1 l1 w0 W (hw.trans (hb.mono hw.size)) (hE.below hb) h1).mono fun u w' ⟨h1, h2, h3⟩ => ⟨h1, fun _ => h2, h3⟩
      unfold editV at HT
      rw [d5] at HT ⊢
      exact edit_insert _ _ _ _ _ _ _ _ _ _ _ _ _ _ _ _ _ _ _ HT
    · rw [if_neg d5] at h
      by_cases d1 : e.f0 = 1
      · rw [if_pos d1] at h
        obtain ⟨⟨r1, l1⟩, h1, h⟩ := Option.map_eq_some_iff.1 h
        injection h with ha h
        injection h with hb hc
        subst ha hb hc
        have HT : ∀ W : World, Below w.heap.size w W → Calls Tryd.prog 23 #[.pointer (some ⟨b, 0, none⟩), editV e A8 A11 e.f6.f2.length e.f6.f5.length c8 c11] W fun u w' => u = .returned (.int .i64 r1) ∧ ((r1 = 0 → Ed w' w0.heap.size b l1 q made) ∧ Below w0.heap.size w0 w') := fun W hb =>
          (attr_calls e A8 A11 _ _ c8 c11 l q made b r1 l1 w0 W (hw.trans (hb.mono hw.size)) (hE.below hb) h1).mono fun u w' ⟨h1, h2, h3⟩ => ⟨h1, fun _ => h2, h3⟩
        unfold editV at HT
        rw [d1] at HT ⊢
        exact edit_attr _ _ _ _ _ _ _ _ _ _ _ _ _ _ _ _ _ _ _ HT
      rw [if_neg d1] at h
      by_cases d2 : e.f0 = 2
      · rw [if_pos d2] at h
        obtain ⟨⟨r1, l1⟩, h1, h⟩ := Option.map_eq_some_iff.1 h
        injection h with ha h
        injection h with hb hc
        subst ha hb hc
        have HT : ∀ W : World, Below w.heap.size w W → Calls Tryd.prog 24 #[.pointer (some ⟨b, 0, none⟩), editV e A8 A11 e.f6.f2.length e.f6.f5.length c8 c11] W fun u w' => u = .returned (.int .i64 r1) ∧ ((r1 = 0 → Ed w' w0.heap.size b l1 q made) ∧ Below w0.heap.size w0 w') := fun W hb =>
          (drop_calls e A8 A11 _ _ c8 c11 l q made b r1 l1 w0 W (hw.trans (hb.mono hw.size)) (hE.below hb) h1).mono fun u w' ⟨h1, h2, h3⟩ => ⟨h1, fun _ => h2, h3⟩
        unfold editV at HT
        rw [d2] at HT ⊢
        exact edit_drop _ _ _ _ _ _ _ _ _ _ _ _ _ _ _ _ _ _ _ HT
      rw [if_neg d2] at h
      by_cases d6 : e.f0 = 6
      · rw [if_pos d6] at h
        obtain ⟨⟨r1, l1⟩, h1, h⟩ := Option.map_eq_some_iff.1 h
        injection h with ha h
        injection h with hb hc
        subst ha hb hc
        have HT : ∀ W : World, Below w.heap.size w W → Calls Tryd.prog 28 #[.pointer (some ⟨b, 0, none⟩), editV e A8 A11 e.f6.f2.length e.f6.f5.length c8 c11] W fun u w' => u = .returned (.int .i64 r1) ∧ ((r1 = 0 → Ed w' w0.heap.size b l1 q made) ∧ Below w0.heap.size w0 w') := fun W hb =>
          (remove_calls k e A8 A11 _ _ c8 c11 l q made b r1 l1 w0 W (hw.trans (hb.mono hw.size)) (hE.below hb) h1).mono fun u w' ⟨h1, h2, h3⟩ => ⟨h1, fun _ => h2, h3⟩
        unfold editV at HT
        rw [d6] at HT ⊢
        exact edit_remove _ _ _ _ _ _ _ _ _ _ _ _ _ _ _ _ _ _ _ HT
      rw [if_neg d6] at h
      injection h with h
      injection h with ha h
      injection h with hb hc
      subst ha hb hc
      exact (edit_other _ e.f0 _ _ _ _ _ _ _ _ _ _ _ _ _ _ _ w d1 d2 d3 d4 d5 d6).mono fun u w' ⟨h1, h2⟩ => ⟨h1, fun h => absurd h (by decide), hw.trans (h2.mono hw.size)⟩
theorem makeF_mono (l : List S41) (e : S43) (k : Nat) : LeO (makeF k l e) (makeF (k + 1) l e) := by
  unfold makeF
  exact LeO.ite (LeO.ite (LeO.refl _) (LeO.bind (dom_one.mono _ _ _ _ _ _ _) fun _ => LeO.refl _)) (LeO.refl _)
theorem belowF_mono (l : List S41) : ∀ (k : Nat) (n t : Int), LeO (belowF l k n t) (belowF l (k + 1) n t)
  | 0, _, _ => fun r h => by simp [belowF] at h
  | k + 1, n, t => by
    rw [belowF, belowF]
    exact LeO.ite (LeO.ite (LeO.refl _) (LeO.ite (belowF_mono l k _ _) (LeO.refl _))) (LeO.refl _)
theorem deepGo_mono {f g : Int → Option Int} (h : ∀ x, LeO (f x) (g x)) : ∀ (xs : List Int) (m : Int), LeO (deepGo f xs m) (deepGo g xs m)
  | [], _ => LeO.refl _
  | x :: xs, m => LeO.bind (h x) fun _ => deepGo_mono h xs _
theorem deepF_mono (l : List S41) : ∀ (k : Nat) (n : Int), LeO (deepF l k n) (deepF l (k + 1) n)
  | 0, _ => fun r h => by simp [deepF] at h
  | k + 1, n => by
    rw [deepF, deepF]
    exact LeO.ite (LeO.ite (deepGo_mono (deepF_mono l k) _ _) (LeO.refl _)) (LeO.refl _)
theorem placeF_mono (ks : List Int) (be : Int) (k : Nat) : LeO (placeF k ks be) (placeF (k + 1) ks be) := by
  unfold placeF
  exact LeO.ite (LeO.refl _) (slices_Index_int_int.mono _ _ _)
theorem insertF_mono (l : List S41) (q : Bool) (e : S43) (k : Nat) : LeO (insertF k l q e) (insertF (k + 1) l q e) := by
  unfold insertF
  exact LeO.ite (LeO.bind (LeO.refl _) fun pb => LeO.ite (LeO.refl _) (LeO.ite (LeO.refl _) (LeO.ite (LeO.bind (placeF_mono _ _ _) fun p => LeO.ite (LeO.refl _) (LeO.bind (belowF_mono _ _ _ _) fun b => LeO.ite (LeO.refl _) (LeO.bind (dom_up.mono _ _ _ _) fun _ => LeO.bind (deepF_mono _ _ _) fun _ => LeO.refl _))) (LeO.refl _)))) (LeO.refl _)
theorem LeO.map_ {α β : Type} {x y : Option α} (h : LeO x y) (f : α → β) : LeO (x.map f) (y.map f) := fun r hr => by
  obtain ⟨a, ha, hb⟩ := Option.map_eq_some_iff.1 hr
  rw [h a ha]
  exact congrArg some hb
theorem removeF_mono (l : List S41) (e : S43) (k : Nat) : LeO (removeF k l e) (removeF (k + 1) l e) := by
  unfold removeF
  exact LeO.ite (LeO.ite (LeO.refl _) (LeO.ite (LeO.refl _) (LeO.ite (LeO.bind (slices_Index_int_int.mono _ _ _) fun _ => LeO.refl _) (LeO.refl _)))) (LeO.refl _)
theorem editF_mono (l : List S41) (q : Bool) (made : Int) (e : S43) (k : Nat) : LeO (editF k l q made e) (editF (k + 1) l q made e) := by
  unfold editF
  exact LeO.ite (LeO.refl _) (LeO.ite (makeF_mono _ _ _) (LeO.ite (LeO.map_ (insertF_mono _ _ _ _) _) (LeO.ite (LeO.refl _) (LeO.ite (LeO.refl _) (LeO.ite (LeO.map_ (removeF_mono _ _ _) _) (LeO.refl _))))))
/-- Rows of some length alone. -/
def allOk (l : List S41) : Bool := decide (l.length ≤ 1000) && l.all fun x => decide (x.f2.length ≤ 1000) && decide (x.f5.length ≤ 1000)
theorem allOk_len {l : List S41} (h : allOk l = true) : l.length ≤ 1000 ∧ ∀ x ∈ l, x.f2.length ≤ 1000 ∧ x.f5.length ≤ 1000 := by
  unfold allOk at h
  simp only [Bool.and_eq_true, decide_eq_true_eq, List.all_eq_true] at h
  exact h
/-- What lies at the loop's head. -/
structure AllI (w1 wr : World) (b : Nat) (l : List S41) (q : Bool) (made : Int) : Prop where
  ed : Ed wr w1.heap.size b l q made
  below : Below w1.heap.size w1 wr
theorem ed_parts {w : World} {B b : Nat} {l : List S41} {q : Bool} {made : Int} (h : Ed w B b l q made) : ∃ A c, B ≤ b ∧ w.cell? ⟨b, 0, none⟩ = some (.slice A l.length c) ∧ w.cell? ⟨b, 1, none⟩ = some (.bool q) ∧ Kd.S k41 41 w B (fun _ => True) (.slice A l.length c) l := by
  obtain ⟨v, h1, h2, h3⟩ := h
  obtain ⟨A, c, rfl⟩ := Kd.S_slice h3
  exact ⟨A, c, h1, (blk_cell h2 0).trans rfl, (blk_cell h2 1).trans rfl, h3⟩
theorem ed_new {w1 w2 : World} {v : Value} {l : List S41} {q : Bool} {B : Nat} (hB : B ≤ w2.heap.size) (hS : Kd.S k41 41 w2 w1.heap.size (fun _ => True) v l) (hb : B ≤ w1.heap.size) :
    Ed (w2.alloc (.cells #[v, .bool q, .int .i64 0] 37)) B w2.heap.size l q 0 := ⟨v, hB, blk_new _ _, Kd.S_alloc (Kd.S_lower hS hb) _⟩

/-! ### dom_All: function 5 -/
/-- Edit by edit. -/
def allGo (k : Nat) (q : Bool) : List S43 → List S41 → Int → Int → Option (List S41 × Bool × Int × Int)
  | [], l, _, _ => some (l, q, 0, 0)
  | e :: es, l, made, i => (editF k l q made e).bind fun t => if t.1 = 0 then allGo k q es t.2.1 t.2.2 (i + 1) else some ([], false, i, t.1)
def dom_All.f (k : Nat) (l0_0 : List S41) (a0_1 : Bool) (l1 : List S43) : Option (List S41 × Bool × Int × Int) :=
  (dom_Check.f k l0_0 a0_1).bind fun c => if c = 0 then (if l1.length > 40 then some ([], false, 0, 2) else if allOk l0_0 = true then allGo k a0_1 l1 l0_0 0 0 else none) else some ([], false, 0, c)
theorem allGo_mono (q : Bool) (k : Nat) : ∀ (es : List S43) (l : List S41) (made i : Int), LeO (allGo k q es l made i) (allGo (k + 1) q es l made i)
  | [], _, _, _ => LeO.refl _
  | e :: es, l, made, i => LeO.bind (editF_mono _ _ _ _ _) fun _ => LeO.ite (allGo_mono q k es _ _ _) (LeO.refl _)
theorem dom_All.mono : ∀ l q es k, LeO (dom_All.f k l q es) (dom_All.f (k + 1) l q es) := by
  intro l q es k
  unfold dom_All.f
  exact LeO.bind (dom_Check.mono _ _ _) fun _ => LeO.ite (LeO.ite (LeO.refl _) (LeO.ite (allGo_mono _ _ _ _ _ _) (LeO.refl _))) (LeO.refl _)
set_option maxRecDepth 100000 in
set_option maxHeartbeats 4000000 in
theorem dom_All.calls (k : Nat) (A0_0 : Option Addr) (c0_0 : Nat) (l0_0 : List S41) (a0_1 : Bool) (A1 : Option Addr) (c1 : Nat) (l1 : List S43) (r1 : List S41) (r2 : Bool) (r3 r4 : Int) (w : World) (hr0_0 : Kd.C k41 w A0_0 l0_0.length l0_0) (hc0_0 : l0_0.length ≤ c0_0) (hr1 : Kd.C k43 w A1 l1.length l1) (hc1 : l1.length ≤ c1) (h : dom_All.f k l0_0 a0_1 l1 = some (r1, r2, r3, r4)) :
    Calls Tryd.prog 5 #[.agg #[.slice A0_0 l0_0.length c0_0, .bool a0_1], .slice A1 l1.length c1] w fun e w' => ∃ v0_ : Value, e = .returned (.tuple #[.agg #[v0_, .bool r2], .int .i64 r3, .int .i64 r4]) ∧ Kd.S k41 41 w' w.heap.size (fun _ => True) v0_ r1 ∧ Below w.heap.size w w' := by
  obtain ⟨c, hk, h⟩ := Option.bind_eq_some_iff.1 h
  obtain ⟨n, hn⟩ : ∃ n, n = l0_0.length := ⟨_, rfl⟩
  obtain ⟨m, hm⟩ : ∃ m, m = l1.length := ⟨_, rfl⟩
  have HC : Hid (∀ W : World, Below w.heap.size w W → Calls Tryd.prog 8 #[.agg #[.slice A0_0 n c0_0, .bool a0_1]] W fun e w' => e = .returned (.int .i64 c) ∧ Below W.heap.size W w') := Lib.hid (by
    rw [hn]
    exact fun W hb => dom_Check.calls k A0_0 c0_0 l0_0 a0_1 c W (Kd.C_below hr0_0 hb) hc0_0 hk)
  have HO : Hid (allOk l0_0 = true → ∀ W : World, Below w.heap.size w W → Calls Tryd.prog 9 #[.agg #[.slice A0_0 n c0_0, .bool a0_1]] W fun e w' => ∃ v0_ : Value, e = .returned (.agg #[v0_, .bool a0_1]) ∧ Kd.S k41 41 w' W.heap.size (fun _ => True) v0_ l0_0 ∧ Below W.heap.size W w') := Lib.hid (by
    rw [hn]
    exact fun ha W hb => dom_own.calls A0_0 c0_0 l0_0 a0_1 W (Kd.C_below hr0_0 hb) hc0_0 (allOk_len ha).1 (allOk_len ha).2)
  have hms : (m : Int) ≤ 9223372036854775807 := by have := hr1.2.1; omega
  rw [← hn, ← hm]
  have HN := Lib.hid hn
  have HM := Lib.hid hm
  have HR1 := Lib.hid hr1
  have H := Lib.hid h
  have HWB : Hid (∀ W1 W : World, ((w.alloc (.cells #[.slice A0_0 n c0_0, .bool a0_1] 24)).alloc (.cells #[.slice none 0 0, .bool false] 24)) = W → Below W.heap.size W W1 → Below w.heap.size w W1 ∧ w.heap.size ≤ W1.heap.size ∧ W1.heap[w.heap.size + 1]? = some (.cells #[.slice none 0 0, .bool false] 24 (0, 0)) ∧ W1.heap[w.heap.size]? = some (.cells #[.slice A0_0 n c0_0, .bool a0_1] 24 (0, 0))) :=
    Lib.hid (fun W1 W h hb => by
      subst h
      have hb0 : Below w.heap.size w ((w.alloc (.cells #[.slice A0_0 n c0_0, .bool a0_1] 24)).alloc (.cells #[.slice none 0 0, .bool false] 24)) := ((Below.refl _ w).alloc (Nat.le_refl _) _).alloc (by simp) _
      have h1 := hb0.trans (hb.mono hb0.size)
      have x1 := blk_below (blk_new (w.alloc (.cells #[.slice A0_0 n c0_0, .bool a0_1] 24)) (.cells #[.slice none 0 0, .bool false] 24)) hb
      have x0 := blk_below (blk_below (blk_new w (.cells #[.slice A0_0 n c0_0, .bool a0_1] 24)) ((Below.refl _ _).alloc (Nat.le_refl _) (.cells #[.slice none 0 0, .bool false] 24))) hb
      exact ⟨h1, h1.size, by simpa using x1, x0⟩)
  clear hr0_0 hc0_0 hr1 hn hm h hk
  go_enter Tryd.func5, Tryd.ntmps5
  go_wp2_with fail
  refine (HC.out _ (by (repeat (first | refine below_alloc ?_ _ | refine below_drew ?_)); exact Below.refl _ _)).mono ?_
  rintro e w1 ⟨rfl, hb1⟩
  obtain ⟨hw1, hsz1, hres, hbox⟩ := HWB.out w1 _ rfl hb1
  have b0 := (blk_cell hbox 0).trans rfl
  have b1 := (blk_cell hbox 1).trans rfl
  have q0 := (blk_cell hres 0).trans rfl
  have q1 := (blk_cell hres 1).trans rfl
  have g0 := blk_frozen hres 0
  have g1 := blk_frozen hres 1
  have HW1 := Lib.hid hw1
  have HRes := Lib.hid hres
  clear hb1 hw1 HWB hres hbox HC
  by_cases hc0 : c = 0
  · subst hc0
    by_cases h40 : m > 40
    · have h := H.out
      rw [if_pos rfl, if_pos (by rw [← HM.out]; exact h40)] at h
      injection h with h
      injection h with ha h
      injection h with hb h
      injection h with hc hd
      subst ha hb hc hd
      have h40b : decide ((40 : Int) < (m : Int)) = true := decide_eq_true (by omega)
      go_wp2_with fail
      refine bodyPost_ret (results_ctt rfl _ _ (w.heap.size + 1) 24 #[.slice none 0 0, .bool false] (0, 0) _ rfl (blk_put (blk_put (cs' := #[.slice none 0 0, .bool false]) HRes.out 0 _ rfl) 1 _ rfl) Tryd.underlying24 rfl (by kernel_rfl)) rfl ?_
      exact ⟨_, rfl, Kd.S_nil _ _ _ _ _, (HW1.out.setCell (by simp) _).setCell (by simp) _⟩
    · have h := H.out
      rw [if_pos rfl, if_neg (by rw [← HM.out]; exact h40)] at h
      have h40b : decide ((40 : Int) < (m : Int)) = false := decide_eq_false (by omega)
      split at h
      case isFalse => exact absurd h (by simp)
      case isTrue hok =>
      have HO1 := Lib.hid (HO.out hok)
      have HG0 := Lib.hid h
      clear H h HO
      go_wp2_with fail
      refine (HO1.out w1 HW1.out).mono ?_
      rintro e w2 ⟨v, rfl, hS, hb2⟩
      have HI : Hid (AllI w1 (w2.alloc (.cells #[v, .bool a0_1, .int .i64 0] 37)) w2.heap.size l0_0 a0_1 0) := Lib.hid ⟨ed_new hb2.size hS (Nat.le_refl _), below_alloc hb2 _⟩
      obtain ⟨A, cc, rfl⟩ := Kd.S_slice hS
      clear hS hb2 HO1 b0 b1 q0 q1 g0 g1
      go_wp2_with fail
      go_loopw [31] (fun i wr => ∃ (t : Nat) (l : List S41) (made : Int), t ≤ m ∧ i = .int .i64 t ∧ Hid (AllI w1 wr w2.heap.size l a0_1 made) ∧ Hid (allGo k a0_1 (l1.drop t) l made t = some (r1, r2, r3, r4))) (fun i _ => m - (intOf i).toNat)
      case atStart => exact ⟨0, l0_0, 0, Nat.zero_le _, rfl, HI, HG0⟩
      case round =>
        obtain ⟨t, l, made, ht, rfl, HA, HG⟩ := hrel
        clear HI HG0
        have HBr : Hid (Below w.heap.size w wr) := Lib.hid (HW1.out.trans (HA.out.below.mono hsz1))
        by_cases hlt : t < m
        · obtain ⟨ad, A8, c8, A11, c11, rfl, d0, d1, d2, d3, d4, d5, d6, d7, d8, d9, d10, d11, l8, h8, l11, h11⟩ := at_T43 HR1.out (t : Int) (by omega) (by have := HM.out; omega)
          have hG := HG.out
          have hl : t < l1.length := by have := HM.out; omega
          rw [List.drop_eq_getElem_cons hl] at hG
          have hrd : rd_T43 l1 (t : Int) = l1[t] := by unfold rd_T43; rw [Int.toNat_natCast, List.getD_eq_getElem?_getD, List.getElem?_eq_getElem hl]; rfl
          rw [hrd] at d0 d1 d2 d3 d4 d5 d6 d7 d8 d9 d10 d11 l8 h8 l11 h11
          rw [Int.toNat_natCast] at d0 d1 d2 d3 d4 d5 d6 d7 d8 d9 d10 d11
          generalize l1[t] = ee at hG d0 d1 d2 d3 d4 d5 d6 d7 d8 d9 d10 d11 l8 h8 l11 h11
          simp only [allGo] at hG
          obtain ⟨⟨er, l', made'⟩, hE, hG⟩ := Option.bind_eq_some_iff.1 hG
          obtain ⟨n8, hn8⟩ : ∃ n8, n8 = ee.f6.f2.length := ⟨_, rfl⟩
          obtain ⟨n11, hn11⟩ : ∃ n11, n11 = ee.f6.f5.length := ⟨_, rfl⟩
          have HEd : Hid (∀ W : World, Below wr.heap.size wr W → Calls Tryd.prog 10 #[.pointer (some ⟨w2.heap.size, 0, none⟩), .agg #[.int .i64 ee.f0, .int .i64 ee.f1, .int .i64 ee.f2, .int .i64 ee.f3, .string ee.f4, .string ee.f5, .int .i64 ee.f6.f0, .string ee.f6.f1, .slice A8 n8 c8, .string ee.f6.f3, .int .i64 ee.f6.f4, .slice A11 n11 c11]] W fun e w' => e = .returned (.int .i64 er) ∧ ((er = 0 → Ed w' w1.heap.size w2.heap.size l' a0_1 made') ∧ Below w1.heap.size w1 w')) := Lib.hid (by
            rw [hn8, hn11]
            exact fun W hb => edit_calls k ee A8 A11 c8 c11 l a0_1 made er l' made' w2.heap.size w1 W (HA.out.below.trans (hb.mono HA.out.below.size)) (HA.out.ed.below hb) (Kd.C_below h8 HW1.out) l8 (Kd.C_below h11 HW1.out) l11 hE)
          rw [← hn8] at d8
          rw [← hn11] at d11
          replace d0 := pw_cell_below HBr.out d0
          replace d1 := pw_cell_below HBr.out d1
          replace d2 := pw_cell_below HBr.out d2
          replace d3 := pw_cell_below HBr.out d3
          replace d4 := pw_cell_below HBr.out d4
          replace d5 := pw_cell_below HBr.out d5
          replace d6 := pw_cell_below HBr.out d6
          replace d7 := pw_cell_below HBr.out d7
          replace d8 := pw_cell_below HBr.out d8
          replace d9 := pw_cell_below HBr.out d9
          replace d10 := pw_cell_below HBr.out d10
          replace d11 := pw_cell_below HBr.out d11
          have HG2 := Lib.hid hG
          clear hG hE l8 h8 l11 h11 hn8 hn11 hrd hl HG
          go_wp2_with fail
          refine (HEd.out _ (by (repeat (first | refine below_alloc ?_ _ | refine below_drew ?_)); exact Below.refl _ _)).mono ?_
          rintro e w3 ⟨rfl, hEd, hb3⟩
          have hres := blk_below HRes.out hb3
          have q0 := (blk_cell hres 0).trans rfl
          have q1 := (blk_cell hres 1).trans rfl
          have g0 := blk_frozen hres 0
          have g1 := blk_frozen hres 1
          have HB3 := Lib.hid hb3
          have HRes3 := Lib.hid hres
          clear hb3 hres d0 d1 d2 d3 d4 d5 d6 d7 d8 d9 d10 d11 HEd
          by_cases her : er = 0
          · subst her
            have HA2 : Hid (AllI w1 w3 w2.heap.size l' a0_1 made') := Lib.hid ⟨hEd rfl, HB3.out⟩
            have hG := HG2.out
            rw [if_pos rfl] at hG
            have HG3 : Hid (allGo k a0_1 (l1.drop (t + 1)) l' made' ((t + 1 : Nat) : Int) = some (r1, r2, r3, r4)) := Lib.hid (by exact_mod_cast hG)
            clear hG HG2 hEd
            go_wp2_with fail
            go_roundw
            case rel => exact ⟨t + 1, l', made', by omega, by simp, HA2, HG3⟩
            case measure => simp [intOf]; omega
          · have hG := HG2.out
            rw [if_neg her] at hG
            injection hG with h
            injection h with ha h
            injection h with hb h
            injection h with hc hd
            subst ha hb hc hd
            have herb : (er != 0) = true := by simpa using her
            clear HG2 hEd
            go_wp2_with fail
            refine bodyPost_ret (results_ctt rfl _ _ (w.heap.size + 1) 24 #[.slice none 0 0, .bool false] (0, 0) _ rfl (blk_put (blk_put (cs' := #[.slice none 0 0, .bool false]) HRes3.out 0 _ rfl) 1 _ rfl) Tryd.underlying24 rfl (by kernel_rfl)) rfl ?_
            exact ⟨_, rfl, Kd.S_nil _ _ _ _ _, ((HW1.out.trans (HB3.out.mono hsz1)).setCell (by simp) _).setCell (by simp) _⟩
        · have hG := HG.out
          have e : t = m := by omega
          rw [e, HM.out, List.drop_length] at hG
          simp only [allGo] at hG
          injection hG with h
          injection h with ha h
          injection h with hb h
          injection h with hc hd
          subst ha hb hc hd
          have hres := blk_below HRes.out HA.out.below
          have q0 := (blk_cell hres 0).trans rfl
          have q1 := (blk_cell hres 1).trans rfl
          have g0 := blk_frozen hres 0
          have g1 := blk_frozen hres 1
          obtain ⟨A', c', hbb, y0, y1, hS⟩ := ed_parts HA.out.ed
          have HRes3 := Lib.hid hres
          have HS := Lib.hid hS
          clear hres hS HG
          go_wp2_with fail
          refine bodyPost_ret (results_ctt rfl _ _ (w.heap.size + 1) 24 #[.slice A' l.length c', .bool a0_1] (0, 0) _ rfl (blk_put (blk_put (cs' := #[.slice A' l.length c', .bool false]) HRes3.out 0 _ rfl) 1 _ rfl) Tryd.underlying24 rfl (by kernel_rfl)) rfl ?_
          exact ⟨_, rfl, Kd.S_set (Kd.S_set (Kd.S_lower HS.out hsz1) HRes3.out (by decide) 0 _) (blk_set HRes3.out 0 _) (by decide) 1 _, ((HBr.out.setCell (by simp) _).setCell (by simp) _)⟩
  · have h := H.out
    rw [if_neg hc0] at h
    injection h with h
    injection h with ha h
    injection h with hb h
    injection h with hc hd
    subst ha hb hc hd
    have hcb : (c == 0) = false := by simpa using hc0
    have hcb2 : (c != 0) = true := by simpa using hc0
    go_wp2_with fail
    refine bodyPost_ret (results_ctt rfl _ _ (w.heap.size + 1) 24 #[.slice none 0 0, .bool false] (0, 0) _ rfl (blk_put (blk_put (cs' := #[.slice none 0 0, .bool false]) HRes.out 0 _ rfl) 1 _ rfl) Tryd.underlying24 rfl (by kernel_rfl)) rfl ?_
    exact ⟨_, rfl, Kd.S_nil _ _ _ _ _, (HW1.out.setCell (by simp) _).setCell (by simp) _⟩

/-! ### dom_New: function 11 -/
def dom_New.f  : Option ((List (S41)) × Bool) := some ((([(⟨1, (⟨#[]⟩ : ByteArray), ([] : List (S48)), (⟨#[]⟩ : ByteArray), (-1), ([] : List Int)⟩ : S41)] : List (S41))), false)
set_option maxHeartbeats 8000000 in
set_option maxRecDepth 100000 in
theorem dom_New.calls  (r1 : List (S41)) (r2 : Bool) (w : World) (h : dom_New.f  = some (r1, r2)) :
    Calls Tryd.prog 11 #[] w fun e w' => ∃ v0_ : Value, e = .returned (.agg #[v0_, .bool r2]) ∧ Kd.S k41 41 w' w.heap.size (fun _ => True) v0_ r1 ∧ Below w.heap.size w w' := by
  have hu24 := Tryd.underlying24
  have hu41 := Tryd.underlying41
  have HB := Aside0.mk (Below.refl w.heap.size w)
  have H : (some ((([(⟨1, (⟨#[]⟩ : ByteArray), ([] : List (S48)), (⟨#[]⟩ : ByteArray), (-1), ([] : List Int)⟩ : S41)] : List (S41))), false)) = some (r1, r2) := h
  clear h
  obtain ⟨y142, hy142⟩ : ∃ y_ : List (S41), y_ = (([(⟨1, (⟨#[]⟩ : ByteArray), ([] : List (S48)), (⟨#[]⟩ : ByteArray), (-1), ([] : List Int)⟩ : S41)] : List (S41))) := ⟨_, rfl⟩
  replace H : (some (y142, false)) = some (r1, r2) := by first | (rw [hy142]; with_reducible exact H) | (have H2_ := (Option.bind_some _ _).symm.trans H; rw [hy142]; with_reducible exact H2_) | (have H2_ := (Option.bind_some _ _).symm.trans H; with_reducible exact H2_) | with_reducible exact H | (rw [hy142]; exact H) | exact H
  have Ny142 := Aside0.mk hy142
  clear hy142
  simp only [Option.some.injEq, Prod.mk.injEq] at H
  obtain ⟨rfl, rfl⟩ := H
  go_enter Tryd.func11, Tryd.ntmps11
  go_wp2_with (first | ((with_reducible refine gate_dst (N := 0) rfl ?_); refine box_event ?hg (N := 0) ?hd (cs := #[.slice none 0 0, .bool false]) (t := 24) ?hr ?_; (case hd => rfl); (case hg => rfl); (case hr => first | (go_simp; done) | (go_simp; rfl)); intro gb141 hg w1 hbox hb; have n0_ := Aside0.mk (below_step (by repeat (first | (with_reducible first | exact HB.out | apply below_alloc | apply pw_below_drewN | apply below_drew1) | exact HB.out)) hb); have n1_ := Aside0.mk (hbox); have n2_ := Aside0.mk ((by rw [hg]; exact (below_size (by repeat (first | (with_reducible first | exact HB.out | apply below_alloc | apply pw_below_drewN | apply below_drew1) | exact HB.out))) : w.heap.size ≤ gb141)); have n3_ := Aside0.mk ((by rw [hg]; exact (below_size (by repeat (first | (with_reducible first | exact HB.out | apply below_alloc | apply pw_below_drewN | apply below_drew1) | exact HB.out))) : w.heap.size ≤ gb141)); clear HB; have HB := n0_; have BK141 := n1_; have GW141 := n2_; have GE141 := n3_; clear n0_ n1_ n2_ n3_; clear hb hbox hg) | ((with_reducible refine gate_dst (N := 2) rfl ?_); refine Kd.S_lit k41 _ 41 ?hg (N := 2) ?hd (xs := ([(⟨1, (⟨#[]⟩ : ByteArray), ([] : List (S48)), (⟨#[]⟩ : ByteArray), (-1), ([] : List Int)⟩ : S41)] : List (S41))) (inner := [.int .i64 1, .string (⟨#[]⟩ : ByteArray), .slice none 0 0, .string (⟨#[]⟩ : ByteArray), .int .i64 (-1), .slice none 0 0]) (ok := fun _ => True) (okp := fun _ => True) ?hr ?hp (fun _ hk => hk) trivial (Below.refl _ _) (Nat.le_refl _) (by simp) ?_; (case hd => rfl); (case hg => rfl); (case hr => first | (go_simp; done) | (go_simp; rfl)); (case hp => exact (Reps.c6 (show Kd.M k41 _ _ _ (⟨1, (⟨#[]⟩ : ByteArray), ([] : List (S48)), (⟨#[]⟩ : ByteArray), (-1), ([] : List Int)⟩ : S41) [.int .i64 1, .string (⟨#[]⟩ : ByteArray), .slice none 0 0, .string (⟨#[]⟩ : ByteArray), .int .i64 (-1), .slice none 0 0] from (k41_mkM _ _ _ (⟨1, (⟨#[]⟩ : ByteArray), ([] : List (S48)), (⟨#[]⟩ : ByteArray), (-1), ([] : List Int)⟩ : S41) (Kd.R_nil _ _ _ _ _) (Kd.R_nil _ _ _ _ _))) (Reps.none _ _))); intro v143 w2 ho3 hb hg_ hnew_; clear hg_ hnew_; (first | rw [← Ny142.out] at ho3 | (simp only [Int.reduceToNat] at ho3; rw [← Ny142.out] at ho3)); have n0_ := Aside0.mk (Kd.S_lower ho3 (below_size (by repeat (first | (with_reducible first | exact HB.out | apply below_alloc | apply pw_below_drewN | apply below_drew1 | refine below_set ?_ GE141.out) | exact HB.out)))); have n1_ := Aside0.mk (blk_below (g := gb141) (o := .cells #[.slice none 0 0, .bool false] 24 (0, 0)) (by (with_reducible repeat (first | refine blk_drewN ?_ _ | refine blk_drew ?_ | refine blk_alloc ?_ _)); exact BK141.out) hb); have n2_ := Aside0.mk (below_step (by repeat (first | (with_reducible first | exact HB.out | apply below_alloc | apply pw_below_drewN | apply below_drew1 | refine below_set ?_ GE141.out) | exact HB.out)) hb); clear BK141; clear HB; have HO144 := n0_; have BK141 := n1_; have HB := n2_; clear n0_ n1_ n2_; clear hb ho3; obtain ⟨Ao4, co4, eo4⟩ := Kd.S_slice HO144.out; subst eo4; have hcz5_0 : w2.cell? ⟨gb141, 0, none⟩ = some (.slice none 0 0) := (blk_cell BK141.out 0).trans rfl; have hcz5_1 : w2.cell? ⟨gb141, 1, none⟩ = some (.bool false) := (blk_cell BK141.out 1).trans rfl; have hfz5_0 := blk_frozen BK141.out 0; have hfz5_1 := blk_frozen BK141.out 1))
  refine bodyPost_ret (results_cell_row rfl _ _ gb141 24 #[.slice Ao4 y142.length co4, .bool false] (0, 0) _ rfl (by (with_reducible repeat (first | refine blk_drewN ?_ _ | refine blk_drew ?_ | refine blk_alloc ?_ _)); refine blk_put (cs := #[.slice Ao4 y142.length co4, .bool false]) ?_ 1 _ rfl; (with_reducible repeat (first | refine blk_drewN ?_ _ | refine blk_drew ?_ | refine blk_alloc ?_ _)); refine blk_put (cs := #[.slice none 0 0, .bool false]) ?_ 0 _ rfl; (with_reducible repeat (first | refine blk_drewN ?_ _ | refine blk_drew ?_ | refine blk_alloc ?_ _)); exact BK141.out) Tryd.underlying24 rfl (by kernel_rfl)) rfl ?_
  exact ⟨_, by first | rfl | (simp [errW_none, errW_some] <;> rfl) | (simp [*, errW_none, errW_some] <;> rfl), by (with_reducible repeat (first | apply Kd.S_alloc | apply Kd.S_drewN | apply Kd.S_drew)); exact Kd.S_mono (Kd.S_far (p := ⟨gb141, 1, none⟩) (Kd.S_far (p := ⟨gb141, 0, none⟩) (Kd.S_types HO144.out BK141.out (by decide)) (fun _ hk => hk.2) (.slice Ao4 y142.length co4)) (fun _ hk => hk.2) (.bool false)) (fun _ hk => trivial), by repeat (first | (with_reducible first | exact HB.out | apply below_alloc | apply pw_below_drewN | apply below_drew1 | refine below_set ?_ GE141.out) | exact HB.out)⟩

/-! ### clerestorykeep1_domBegun: function 6 -/
def clerestorykeep1_domBegun.f (k : Nat)  : Option (Bool) := (dom_New.f).bind fun bt145 => ((dom_All.f k bt145.1 bt145.2 (([(⟨4, 0, 0, 0, (⟨#[]⟩ : ByteArray), (⟨#[]⟩ : ByteArray), (⟨2, (⟨#[112]⟩ : ByteArray), ([] : List (S48)), (⟨#[]⟩ : ByteArray), 0, ([] : List Int)⟩ : S41)⟩ : S43), (⟨5, 0, 1, (-1), (⟨#[]⟩ : ByteArray), (⟨#[]⟩ : ByteArray), (⟨0, (⟨#[]⟩ : ByteArray), ([] : List (S48)), (⟨#[]⟩ : ByteArray), 0, ([] : List Int)⟩ : S41)⟩ : S43)] : List (S43)))).bind fun bt152 => (if bt152.2.2.1 = 0 then (if bt152.2.2.2 = 0 then (if (bt152.1.length : Int) = 2 then (if 1 < (bt152.1.length : Int) then (if ((rd_T41 bt152.1 1).f4) = 0 then ((dom_Check.f k bt152.1 bt152.2.1).bind fun t160 => (some (t160 == 0))) else (some false)) else (none)) else (some false)) else (some false)) else (some false)))
theorem clerestorykeep1_domBegun.mono : ∀ k, LeO (clerestorykeep1_domBegun.f k ) (clerestorykeep1_domBegun.f (k + 1) ) := by
  intro  k
  unfold clerestorykeep1_domBegun.f
  repeat' first
      | (with_reducible exact dom_All.mono _ _ _ _)
      | (with_reducible exact dom_Check.mono _ _ _)
      | (with_reducible exact LeO.refl _)
      | (with_reducible exact LeO.none _)
      | (with_reducible refine LeO.ite ?_ ?_)
      | (with_reducible refine LeO.bind ?_ (fun _ => ?_))
      | exact dom_All.mono _ _ _ _
      | exact dom_Check.mono _ _ _
      | exact LeO.none _
      | refine LeO.ite ?_ ?_
      | refine LeO.bind ?_ (fun _ => ?_)
set_option maxHeartbeats 8000000 in
set_option maxRecDepth 100000 in
theorem clerestorykeep1_domBegun.calls (k : Nat)  (r : Bool) (w : World) (h : clerestorykeep1_domBegun.f k  = some r) :
    Calls Tryd.prog 6 #[] w fun e w' => e = .returned (.bool r) ∧ Below w.heap.size w w' := by
  have hu41 := Tryd.underlying41
  have hu43 := Tryd.underlying43
  have hu24 := Tryd.underlying24
  have HB := Aside0.mk (Below.refl w.heap.size w)
  have H : ((dom_New.f).bind fun bt145 => ((dom_All.f k bt145.1 bt145.2 (([(⟨4, 0, 0, 0, (⟨#[]⟩ : ByteArray), (⟨#[]⟩ : ByteArray), (⟨2, (⟨#[112]⟩ : ByteArray), ([] : List (S48)), (⟨#[]⟩ : ByteArray), 0, ([] : List Int)⟩ : S41)⟩ : S43), (⟨5, 0, 1, (-1), (⟨#[]⟩ : ByteArray), (⟨#[]⟩ : ByteArray), (⟨0, (⟨#[]⟩ : ByteArray), ([] : List (S48)), (⟨#[]⟩ : ByteArray), 0, ([] : List Int)⟩ : S41)⟩ : S43)] : List (S43)))).bind fun bt152 => (if bt152.2.2.1 = 0 then (if bt152.2.2.2 = 0 then (if (bt152.1.length : Int) = 2 then (if 1 < (bt152.1.length : Int) then (if ((rd_T41 bt152.1 1).f4) = 0 then ((dom_Check.f k bt152.1 bt152.2.1).bind fun t160 => (some (t160 == 0))) else (some false)) else (none)) else (some false)) else (some false)) else (some false)))) = some r := h
  clear h
  replace H := Option.bind_eq_some_iff.mp H
  obtain ⟨⟨t145, t148⟩, A10, H⟩ := H
  replace H : ((dom_All.f k t145 t148 (([(⟨4, 0, 0, 0, (⟨#[]⟩ : ByteArray), (⟨#[]⟩ : ByteArray), (⟨2, (⟨#[112]⟩ : ByteArray), ([] : List (S48)), (⟨#[]⟩ : ByteArray), 0, ([] : List Int)⟩ : S41)⟩ : S43), (⟨5, 0, 1, (-1), (⟨#[]⟩ : ByteArray), (⟨#[]⟩ : ByteArray), (⟨0, (⟨#[]⟩ : ByteArray), ([] : List (S48)), (⟨#[]⟩ : ByteArray), 0, ([] : List Int)⟩ : S41)⟩ : S43)] : List (S43)))).bind fun bt152 => (if bt152.2.2.1 = 0 then (if bt152.2.2.2 = 0 then (if (bt152.1.length : Int) = 2 then (if 1 < (bt152.1.length : Int) then (if ((rd_T41 bt152.1 1).f4) = 0 then ((dom_Check.f k bt152.1 bt152.2.1).bind fun t160 => (some (t160 == 0))) else (some false)) else (none)) else (some false)) else (some false)) else (some false))) = some r := H
  have A1 := Aside0.mk A10
  clear A10
  obtain ⟨y149, hy149⟩ : ∃ y_ : List (S43), y_ = (([(⟨4, 0, 0, 0, (⟨#[]⟩ : ByteArray), (⟨#[]⟩ : ByteArray), (⟨2, (⟨#[112]⟩ : ByteArray), ([] : List (S48)), (⟨#[]⟩ : ByteArray), 0, ([] : List Int)⟩ : S41)⟩ : S43), (⟨5, 0, 1, (-1), (⟨#[]⟩ : ByteArray), (⟨#[]⟩ : ByteArray), (⟨0, (⟨#[]⟩ : ByteArray), ([] : List (S48)), (⟨#[]⟩ : ByteArray), 0, ([] : List Int)⟩ : S41)⟩ : S43)] : List (S43))) := ⟨_, rfl⟩
  replace H : ((dom_All.f k t145 t148 y149).bind fun bt152 => (if bt152.2.2.1 = 0 then (if bt152.2.2.2 = 0 then (if (bt152.1.length : Int) = 2 then (if 1 < (bt152.1.length : Int) then (if ((rd_T41 bt152.1 1).f4) = 0 then ((dom_Check.f k bt152.1 bt152.2.1).bind fun t160 => (some (t160 == 0))) else (some false)) else (none)) else (some false)) else (some false)) else (some false))) = some r := by first | (rw [hy149]; with_reducible exact H) | (have H2_ := (Option.bind_some _ _).symm.trans H; rw [hy149]; with_reducible exact H2_) | (have H2_ := (Option.bind_some _ _).symm.trans H; with_reducible exact H2_) | with_reducible exact H | (rw [hy149]; exact H) | exact H
  have Ny149 := Aside0.mk hy149
  clear hy149
  replace H := Option.bind_eq_some_iff.mp H
  obtain ⟨⟨t152, t155, t156, t157⟩, A20, H⟩ := H
  replace H : (if t156 = 0 then (if t157 = 0 then (if (t152.length : Int) = 2 then (if 1 < (t152.length : Int) then (if ((rd_T41 t152 1).f4) = 0 then ((dom_Check.f k t152 t155).bind fun t160 => (some (t160 == 0))) else (some false)) else (none)) else (some false)) else (some false)) else (some false)) = some r := H
  have A2 := Aside0.mk A20
  clear A20
  by_cases c3 : t156 = 0
  · rw [if_pos c3] at H
    have c3b0 : (t156 == 0) = true := beq_iff_eq.mpr c3
    have c3b1 : (t156 != 0) = false := bne_eq_false_iff_eq.mpr c3
    clear c3
    by_cases c4 : t157 = 0
    · rw [if_pos c4] at H
      have c4b0 : (t157 == 0) = true := beq_iff_eq.mpr c4
      have c4b1 : (t157 != 0) = false := bne_eq_false_iff_eq.mpr c4
      clear c4
      by_cases c5 : (t152.length : Int) = 2
      · rw [if_pos c5] at H
        have c5b0 : ((t152.length : Int) == 2) = true := beq_iff_eq.mpr c5
        have c5b1 : ((t152.length : Int) != 2) = false := bne_eq_false_iff_eq.mpr c5
        clear c5
        by_cases c6 : 1 < (t152.length : Int)
        · rw [if_pos c6] at H
          have c6b0 : decide (1 < (t152.length : Int)) = true := decide_eq_true c6
          have c6b1 : decide (1 < t152.length) = true := decide_eq_true (by omega)
          clear c6
          by_cases c7 : ((rd_T41 t152 1).f4) = 0
          · rw [if_pos c7] at H
            have c7b0 : (((rd_T41 t152 1).f4) == 0) = true := beq_iff_eq.mpr c7
            have c7b1 : (((rd_T41 t152 1).f4) != 0) = false := bne_eq_false_iff_eq.mpr c7
            clear c7
            replace H := Option.bind_eq_some_iff.mp H
            obtain ⟨t160, A80, H⟩ := H
            replace H : (some (t160 == 0)) = some r := H
            have A8 := Aside0.mk A80
            clear A80
            obtain rfl := Option.some.inj H
            go_enter Tryd.func6, Tryd.ntmps6
            go_wp2_with (first | ((with_reducible refine gate_callee (f := 11) rfl ?_); refine goesL_ (some 5) rfl rfl Tryd.func11 (by kernel_rfl) rfl #[] rfl (by (try simp only [List.map_toArray, List.map_cons, List.map_nil]); first | done | rfl | (simp only [List.length_drop, List.length_take]; rfl)) ?_; (with_reducible refine (dom_New.calls  t145 t148 _ A1.out).mono ?_); rintro e w9 ⟨v146, rfl, ho0, hb⟩; refine ⟨_, rfl, ?_⟩; have n0_ := Aside0.mk (Kd.S_lower ho0 (below_size (by repeat (first | (with_reducible first | exact HB.out | apply below_alloc | apply pw_below_drewN | apply below_drew1) | exact HB.out)))); have n1_ := Aside0.mk (below_step (by repeat (first | (with_reducible first | exact HB.out | apply below_alloc | apply pw_below_drewN | apply below_drew1) | exact HB.out)) hb); clear HB; have HO147 := n0_; have HB := n1_; clear n0_ n1_; (try clear hb); (try clear hb2); (try clear hk); (try clear hi); (try clear ho0)) | ((with_reducible refine gate_dst (N := 9) rfl ?_); (try (refine gate_guard (by rfl) ?_; dsimp only)); refine Kd.S_lit k43 _ 43 ?hg (N := 9) ?hd (xs := ([(⟨4, 0, 0, 0, (⟨#[]⟩ : ByteArray), (⟨#[]⟩ : ByteArray), (⟨2, (⟨#[112]⟩ : ByteArray), ([] : List (S48)), (⟨#[]⟩ : ByteArray), 0, ([] : List Int)⟩ : S41)⟩ : S43), (⟨5, 0, 1, (-1), (⟨#[]⟩ : ByteArray), (⟨#[]⟩ : ByteArray), (⟨0, (⟨#[]⟩ : ByteArray), ([] : List (S48)), (⟨#[]⟩ : ByteArray), 0, ([] : List Int)⟩ : S41)⟩ : S43)] : List (S43))) (inner := [.int .i64 4, .int .i64 0, .int .i64 0, .int .i64 0, .string (⟨#[]⟩ : ByteArray), .string (⟨#[]⟩ : ByteArray), .int .i64 2, .string (⟨#[112]⟩ : ByteArray), .slice none 0 0, .string (⟨#[]⟩ : ByteArray), .int .i64 0, .slice none 0 0, .int .i64 5, .int .i64 0, .int .i64 1, .int .i64 (-1), .string (⟨#[]⟩ : ByteArray), .string (⟨#[]⟩ : ByteArray), .int .i64 0, .string (⟨#[]⟩ : ByteArray), .slice none 0 0, .string (⟨#[]⟩ : ByteArray), .int .i64 0, .slice none 0 0]) (ok := fun _ => True) (okp := fun _ => True) ?hr ?hp (fun _ hk => hk) trivial (Below.refl _ _) (Nat.le_refl _) (by simp) ?_; (case hd => rfl); (case hg => rfl); (case hr => first | (go_simp; done) | (go_simp; rfl)); (case hp => exact (Reps.front (show Kd.M k43 _ _ _ (⟨4, 0, 0, 0, (⟨#[]⟩ : ByteArray), (⟨#[]⟩ : ByteArray), (⟨2, (⟨#[112]⟩ : ByteArray), ([] : List (S48)), (⟨#[]⟩ : ByteArray), 0, ([] : List Int)⟩ : S41)⟩ : S43) [.int .i64 4, .int .i64 0, .int .i64 0, .int .i64 0, .string (⟨#[]⟩ : ByteArray), .string (⟨#[]⟩ : ByteArray), .int .i64 2, .string (⟨#[112]⟩ : ByteArray), .slice none 0 0, .string (⟨#[]⟩ : ByteArray), .int .i64 0, .slice none 0 0] from (k43_mkM _ _ _ (⟨4, 0, 0, 0, (⟨#[]⟩ : ByteArray), (⟨#[]⟩ : ByteArray), (⟨2, (⟨#[112]⟩ : ByteArray), ([] : List (S48)), (⟨#[]⟩ : ByteArray), 0, ([] : List Int)⟩ : S41)⟩ : S43) (Kd.R_nil _ _ _ _ _) (Kd.R_nil _ _ _ _ _))) rfl (Reps.front (show Kd.M k43 _ _ _ (⟨5, 0, 1, (-1), (⟨#[]⟩ : ByteArray), (⟨#[]⟩ : ByteArray), (⟨0, (⟨#[]⟩ : ByteArray), ([] : List (S48)), (⟨#[]⟩ : ByteArray), 0, ([] : List Int)⟩ : S41)⟩ : S43) [.int .i64 5, .int .i64 0, .int .i64 1, .int .i64 (-1), .string (⟨#[]⟩ : ByteArray), .string (⟨#[]⟩ : ByteArray), .int .i64 0, .string (⟨#[]⟩ : ByteArray), .slice none 0 0, .string (⟨#[]⟩ : ByteArray), .int .i64 0, .slice none 0 0] from (k43_mkM _ _ _ (⟨5, 0, 1, (-1), (⟨#[]⟩ : ByteArray), (⟨#[]⟩ : ByteArray), (⟨0, (⟨#[]⟩ : ByteArray), ([] : List (S48)), (⟨#[]⟩ : ByteArray), 0, ([] : List Int)⟩ : S41)⟩ : S43) (Kd.R_nil _ _ _ _ _) (Kd.R_nil _ _ _ _ _))) rfl (Reps.none _ _) rfl) rfl)); intro v150 w10 ho11 hb hg_ hnew_; clear hg_ hnew_; (first | rw [← Ny149.out] at ho11 | (simp only [Int.reduceToNat] at ho11; rw [← Ny149.out] at ho11)); have n0_ := Aside0.mk (Kd.S_below (by (with_reducible repeat (first | apply Kd.S_alloc | apply Kd.S_drewN | apply Kd.S_drew)); exact HO147.out) hb); have n1_ := Aside0.mk (Kd.S_lower ho11 (below_size (by repeat (first | (with_reducible first | exact HB.out | apply below_alloc | apply pw_below_drewN | apply below_drew1) | exact HB.out)))); have n2_ := Aside0.mk (below_step (by repeat (first | (with_reducible first | exact HB.out | apply below_alloc | apply pw_below_drewN | apply below_drew1) | exact HB.out)) hb); clear HO147; clear HB; have HO147 := n0_; have HO151 := n1_; have HB := n2_; clear n0_ n1_ n2_; clear hb ho11; obtain ⟨Ao12, co12, eo12⟩ := Kd.S_slice HO147.out; subst eo12; obtain ⟨Ao13, co13, eo13⟩ := Kd.S_slice HO151.out; subst eo13) | ((with_reducible refine gate_callee (f := 5) rfl ?_); refine goesL_ (some 10) rfl rfl Tryd.func5 (by kernel_rfl) rfl #[.agg #[.slice Ao12 t145.length co12, .bool t148], .slice Ao13 y149.length co13] rfl (by (try simp only [List.map_toArray, List.map_cons, List.map_nil]); first | done | rfl | (simp only [List.length_drop, List.length_take]; rfl)) ?_; (with_reducible refine (dom_All.calls k _ _ t145 t148 _ _ y149 t152 t155 t156 t157 _ ?side1 ?side2 ?side3 ?side4 A2.out).mono ?_); (case side1 => repeat (first | exact (Kd.S_reads' HO147.out).2.2 | (with_reducible refine Kd.C_alloc ?_ _) | (with_reducible refine Kd.C_drewN ?_ _) | (with_reducible refine Kd.C_drew ?_))); (case side2 => exact (Kd.S_reads' HO147.out).2.1); (case side3 => repeat (first | exact (Kd.S_reads' HO151.out).2.2 | (with_reducible refine Kd.C_alloc ?_ _) | (with_reducible refine Kd.C_drewN ?_ _) | (with_reducible refine Kd.C_drew ?_))); (case side4 => exact (Kd.S_reads' HO151.out).2.1); rintro e w14 ⟨v153, rfl, ho0, hb⟩; refine ⟨_, rfl, ?_⟩; have n0_ := Aside0.mk (Kd.S_elder' (by (with_reducible repeat (first | apply Kd.S_alloc | apply Kd.S_drewN | apply Kd.S_drew)); exact HO147.out) (Kd.S_base ho0) hb); have n1_ := Aside0.mk (Kd.S_below (by (with_reducible repeat (first | apply Kd.S_alloc | apply Kd.S_drewN | apply Kd.S_drew)); exact HO151.out) hb); have n2_ := Aside0.mk (Kd.S_lower (Kd.S_new' ho0 (Kd.S_lt (by (with_reducible repeat (first | apply Kd.S_alloc | apply Kd.S_drewN | apply Kd.S_drew)); exact HO147.out))) (below_size (by repeat (first | (with_reducible first | exact HB.out | apply below_alloc | apply pw_below_drewN | apply below_drew1) | exact HB.out)))); have n3_ := Aside0.mk (below_step (by repeat (first | (with_reducible first | exact HB.out | apply below_alloc | apply pw_below_drewN | apply below_drew1) | exact HB.out)) hb); clear HO147; clear HO151; clear HB; have HO147 := n0_; have HO151 := n1_; have HO154 := n2_; have HB := n3_; clear n0_ n1_ n2_ n3_; (try clear hb); (try clear hb2); (try clear hk); (try clear hi); (try clear ho0)) | ((with_reducible refine gate_dst (N := 1) rfl ?_); (try (refine gate_guard (by rfl) ?_; dsimp only)); refine box_event ?hg (N := 1) ?hd (cs := #[.slice none 0 0, .bool false]) (t := 24) ?hr ?_; (case hd => rfl); (case hg => rfl); (case hr => first | (go_simp; done) | (go_simp; rfl)); intro gb158 hg w15 hbox hb; have n0_ := Aside0.mk (Kd.S_below (by (with_reducible repeat (first | apply Kd.S_alloc | apply Kd.S_drewN | apply Kd.S_drew)); exact HO147.out) hb); have n1_ := Aside0.mk (Kd.S_below (by (with_reducible repeat (first | apply Kd.S_alloc | apply Kd.S_drewN | apply Kd.S_drew)); exact HO151.out) hb); have n2_ := Aside0.mk (Kd.S_below (by (with_reducible repeat (first | apply Kd.S_alloc | apply Kd.S_drewN | apply Kd.S_drew)); exact HO154.out) hb); have n3_ := Aside0.mk (below_step (by repeat (first | (with_reducible first | exact HB.out | apply below_alloc | apply pw_below_drewN | apply below_drew1) | exact HB.out)) hb); have n4_ := Aside0.mk (hbox); have n5_ := Aside0.mk ((by rw [hg]; exact (below_size (by repeat (first | (with_reducible first | exact HB.out | apply below_alloc | apply pw_below_drewN | apply below_drew1) | exact HB.out))) : w.heap.size ≤ gb158)); have n6_ := Aside0.mk ((by rw [hg]; exact (below_size (by repeat (first | (with_reducible first | exact HB.out | apply below_alloc | apply pw_below_drewN | apply below_drew1) | exact HB.out))) : w.heap.size ≤ gb158)); clear HO147; clear HO151; clear HO154; clear HB; have HO147 := n0_; have HO151 := n1_; have HO154 := n2_; have HB := n3_; have BK158 := n4_; have GW158 := n5_; have GE158 := n6_; clear n0_ n1_ n2_ n3_ n4_ n5_ n6_; clear hb hbox hg; obtain ⟨Ao16, co16, eo16⟩ := Kd.S_slice HO154.out; subst eo16; have hcz17_0 : w15.cell? ⟨gb158, 0, none⟩ = some (.slice none 0 0) := (blk_cell BK158.out 0).trans rfl; have hcz17_1 : w15.cell? ⟨gb158, 1, none⟩ = some (.bool false) := (blk_cell BK158.out 1).trans rfl; have hfz17_0 := blk_frozen BK158.out 0; have hfz17_1 := blk_frozen BK158.out 1) | ((with_reducible refine gate_store (t := 24) (p := 1) rfl ?_); refine store_event (t := 24) (p := 1) (v := ?vo_w18) (w1 := ((w15.setCell ⟨gb158, 0, none⟩ (.slice Ao16 t152.length co16)).setCell ⟨gb158, 1, none⟩ (.bool t155))) ?hg ?ho ?hn ?hr ?_; (case ho => rfl); (case hg => rfl); (case hn => rfl); (case hr => first | (go_simp; done) | (go_simp; rfl)); intro w18 hw; have n0_ : Aside0 (Kd.S k41 41 w18 w.heap.size (fun k_ => some k_ ≠ (.slice Ao16 t152.length co16 : Value).ownBlock) (.slice Ao12 t145.length co12) t145) := ⟨(by rw [hw]; exact (by (with_reducible repeat (first | apply Kd.S_alloc | apply Kd.S_drewN | apply Kd.S_drew)); exact Kd.S_mono (Kd.S_far (p := ⟨gb158, 1, none⟩) (Kd.S_far (p := ⟨gb158, 0, none⟩) (Kd.S_types HO147.out BK158.out (by decide)) (fun _ hk => hk.2) (.slice Ao16 t152.length co16)) (fun _ hk => hk.2) (.bool t155)) (fun _ hk => hk.1.2)))⟩; have n1_ : Aside0 (Kd.S k43 43 w18 w.heap.size (fun _ => True) (.slice Ao13 y149.length co13) y149) := ⟨(by rw [hw]; exact (by (with_reducible repeat (first | apply Kd.S_alloc | apply Kd.S_drewN | apply Kd.S_drew)); exact Kd.S_mono (Kd.S_far (p := ⟨gb158, 1, none⟩) (Kd.S_far (p := ⟨gb158, 0, none⟩) (Kd.S_types HO151.out BK158.out (by decide)) (fun _ hk => hk.2) (.slice Ao16 t152.length co16)) (fun _ hk => hk.2) (.bool t155)) (fun _ hk => trivial)))⟩; have n2_ : Aside0 (Kd.S k41 41 w18 w.heap.size (fun k_ => some k_ ≠ (.slice Ao12 t145.length co12 : Value).ownBlock) (.slice Ao16 t152.length co16) t152) := ⟨(by rw [hw]; exact (by (with_reducible repeat (first | apply Kd.S_alloc | apply Kd.S_drewN | apply Kd.S_drew)); exact Kd.S_mono (Kd.S_far (p := ⟨gb158, 1, none⟩) (Kd.S_far (p := ⟨gb158, 0, none⟩) (Kd.S_types HO154.out BK158.out (by decide)) (fun _ hk => hk.2) (.slice Ao16 t152.length co16)) (fun _ hk => hk.2) (.bool t155)) (fun _ hk => hk.1.2)))⟩; have n3_ : Aside0 (w18.heap[gb158]? = some (.cells #[.slice Ao16 t152.length co16, .bool t155] 24 (0, 0))) := ⟨(by rw [hw]; exact (by (with_reducible repeat (first | refine blk_drewN ?_ _ | refine blk_drew ?_ | refine blk_alloc ?_ _)); refine blk_put (cs := #[.slice Ao16 t152.length co16, .bool false]) ?_ 1 _ rfl; (with_reducible repeat (first | refine blk_drewN ?_ _ | refine blk_drew ?_ | refine blk_alloc ?_ _)); refine blk_put (cs := #[.slice none 0 0, .bool false]) ?_ 0 _ rfl; (with_reducible repeat (first | refine blk_drewN ?_ _ | refine blk_drew ?_ | refine blk_alloc ?_ _)); exact BK158.out))⟩; have n4_ : Aside0 (Below w.heap.size w w18) := ⟨(by rw [hw]; exact (by repeat (first | (with_reducible first | exact HB.out | apply below_alloc | apply pw_below_drewN | apply below_drew1 | refine below_set ?_ GE158.out) | exact HB.out)))⟩; clear hw; clear HO147; clear HO151; clear HO154; clear BK158; clear HB; have HO147 := n0_; have HO151 := n1_; have HO154 := n2_; have BK158 := n3_; have HB := n4_; clear n0_ n1_ n2_ n3_ n4_; have hcz19_0 : w18.cell? ⟨gb158, 0, none⟩ = some (.slice Ao16 t152.length co16) := (blk_cell BK158.out 0).trans rfl; have hcz19_1 : w18.cell? ⟨gb158, 1, none⟩ = some (.bool t155) := (blk_cell BK158.out 1).trans rfl; have hfz19_0 := blk_frozen BK158.out 0; have hfz19_1 := blk_frozen BK158.out 1; have p159 : 0 ≤ (1 : Int) := (by omega); have q159 : 1 < (t152.length : Int) := of_decide_eq_true (by first | (with_reducible assumption) | assumption); obtain ⟨ad159, A159_2, c159_2, A159_5, c159_5, e159, hx159_0, hx159_1, hx159_2, hx159_3, hx159_4, hx159_5, hl159_2, hi159_2, hl159_5, hi159_5⟩ := at_T41 (Kd.S_reads' HO154.out).2.2 1 p159 q159; cases e159; obtain ⟨ce159, hce159, hMe159, hcc159⟩ := Kd.S_get HO154.out z41 1 p159 (by first | exact q159 | exact of_decide_eq_true (by first | (with_reducible assumption) | assumption) | (have e_ := (Kd.S_reads' HO154.out).1; omega)); obtain ⟨ve159_2, ve159_5, rfl, ge159_2, ge159_5⟩ := k41_openM hMe159; have hv159_2 := hcc159 2 _ rfl; rw [add_field _ _ 2 (by omega)] at hv159_2; replace hv159_2 := Option.some.inj (hv159_2.symm.trans hx159_2); rw [hv159_2] at ge159_2; have HL159_2 := Aside0.mk (show Kd.R k48 48 _ _ _ _ ((rd_T41 t152 1).f2) from ge159_2); clear hv159_2 ge159_2; have hv159_5 := hcc159 5 _ rfl; rw [add_field _ _ 5 (by omega)] at hv159_5; replace hv159_5 := Option.some.inj (hv159_5.symm.trans hx159_5); rw [hv159_5] at ge159_5; have HL159_5 := Aside0.mk (show Kd.R (Kd.int .i64) 3 _ _ _ _ ((rd_T41 t152 1).f5) from ge159_5); clear hv159_5 ge159_5; clear hcc159 hce159; (try simp only [show (1 : Int).toNat = 1 from rfl, Nat.reduceMul, Nat.reduceEqDiff, Go.Addr.add, ↓reduceIte] at hx159_0); (try simp only [show (1 : Int).toNat = 1 from rfl, Nat.reduceMul, Nat.reduceEqDiff, Go.Addr.add, ↓reduceIte] at hx159_1); (try simp only [show (1 : Int).toNat = 1 from rfl, Nat.reduceMul, Nat.reduceEqDiff, Go.Addr.add, ↓reduceIte] at hx159_2); (try simp only [show (1 : Int).toNat = 1 from rfl, Nat.reduceMul, Nat.reduceEqDiff, Go.Addr.add, ↓reduceIte] at hx159_3); (try simp only [show (1 : Int).toNat = 1 from rfl, Nat.reduceMul, Nat.reduceEqDiff, Go.Addr.add, ↓reduceIte] at hx159_4); (try simp only [show (1 : Int).toNat = 1 from rfl, Nat.reduceMul, Nat.reduceEqDiff, Go.Addr.add, ↓reduceIte] at hx159_5); have qi159 : (1 < t152.length) = True := eq_true (by omega); (try rw [show ((1 : Int)).toNat = 1 from rfl] at hx159_0); (try rw [show 1 * 6 = 6 from rfl] at hx159_0); (try rw [show ((1 : Int)).toNat = 1 from rfl] at hx159_1); (try rw [show 1 * 6 = 6 from rfl] at hx159_1); (try rw [show ((1 : Int)).toNat = 1 from rfl] at hx159_2); (try rw [show 1 * 6 = 6 from rfl] at hx159_2); (try rw [show ((1 : Int)).toNat = 1 from rfl] at hx159_3); (try rw [show 1 * 6 = 6 from rfl] at hx159_3); (try rw [show ((1 : Int)).toNat = 1 from rfl] at hx159_4); (try rw [show 1 * 6 = 6 from rfl] at hx159_4); (try rw [show ((1 : Int)).toNat = 1 from rfl] at hx159_5); (try rw [show 1 * 6 = 6 from rfl] at hx159_5); have HR159_2 := Aside0.mk hi159_2; have HC159_2 := Aside0.mk hl159_2; clear hi159_2 hl159_2; have HR159_5 := Aside0.mk hi159_5; have HC159_5 := Aside0.mk hl159_5; clear hi159_5 hl159_5; replace p159 := eq_true p159; replace q159 := eq_true q159) | (go_at_call 8; (with_reducible refine (dom_Check.calls k _ _ t152 t155 t160 _ ?side1 ?side2 A8.out).mono ?_); (case side1 => repeat (first | exact (Kd.S_reads' HO154.out).2.2 | (with_reducible refine Kd.C_alloc ?_ _) | (with_reducible refine Kd.C_drewN ?_ _) | (with_reducible refine Kd.C_drew ?_))); (case side2 => exact (Kd.S_reads' HO154.out).2.1); rintro e w20 ⟨rfl, hb⟩; have n0_ := Aside0.mk (Kd.S_below (by (with_reducible repeat (first | apply Kd.S_alloc | apply Kd.S_drewN | apply Kd.S_drew)); exact HO147.out) hb); have n1_ := Aside0.mk (Kd.S_below (by (with_reducible repeat (first | apply Kd.S_alloc | apply Kd.S_drewN | apply Kd.S_drew)); exact HO151.out) hb); have n2_ := Aside0.mk (Kd.S_below (by (with_reducible repeat (first | apply Kd.S_alloc | apply Kd.S_drewN | apply Kd.S_drew)); exact HO154.out) hb); have n3_ := Aside0.mk (Kd.R_below (by (with_reducible repeat (first | apply Kd.R_alloc | apply Kd.R_drewN | apply Kd.R_drew)); exact HL159_2.out) hb); have n4_ := Aside0.mk (Kd.R_below (by (with_reducible repeat (first | apply Kd.R_alloc | apply Kd.R_drewN | apply Kd.R_drew)); exact HL159_5.out) hb); have n5_ := Aside0.mk (blk_below (g := gb158) (o := .cells #[.slice (some ad159) t152.length co16, .bool t155] 24 (0, 0)) (by (with_reducible repeat (first | refine blk_drewN ?_ _ | refine blk_drew ?_ | refine blk_alloc ?_ _)); exact BK158.out) hb); have n6_ := Aside0.mk (Kd.C_below (by repeat (first | (with_reducible exact HR159_2.out) | (with_reducible refine Kd.C_alloc ?_ _) | (with_reducible refine Kd.C_drewN ?_ _) | (with_reducible refine Kd.C_drew ?_) | exact HR159_2.out)) hb); have n7_ := Aside0.mk (Kd.C_below (by repeat (first | (with_reducible exact HR159_5.out) | (with_reducible refine Kd.C_alloc ?_ _) | (with_reducible refine Kd.C_drewN ?_ _) | (with_reducible refine Kd.C_drew ?_) | exact HR159_5.out)) hb); have n8_ := Aside0.mk (below_step (by repeat (first | (with_reducible first | exact HB.out | apply below_alloc | apply pw_below_drewN | apply below_drew1 | refine below_set ?_ GE158.out) | exact HB.out)) hb); clear HO147; clear HO151; clear HO154; clear HL159_2; clear HL159_5; clear BK158; clear HR159_2; clear HR159_5; clear HB; have HO147 := n0_; have HO151 := n1_; have HO154 := n2_; have HL159_2 := n3_; have HL159_5 := n4_; have BK158 := n5_; have HR159_2 := n6_; have HR159_5 := n7_; have HB := n8_; clear n0_ n1_ n2_ n3_ n4_ n5_ n6_ n7_ n8_; (try clear hb); (try clear hb2); (try clear hk); (try clear hi)))
            go_ret
            exact ⟨by first | rfl | (simp [errW_none, errW_some] <;> rfl) | (simp [*, errW_none, errW_some] <;> rfl), by repeat (first | (with_reducible first | exact HB.out | apply below_alloc | apply pw_below_drewN | apply below_drew1 | refine below_set ?_ GE158.out) | exact HB.out)⟩
          · rw [if_neg c7] at H
            have c7b0 : (((rd_T41 t152 1).f4) == 0) = false := beq_eq_false_iff_ne.mpr c7
            have c7b1 : (((rd_T41 t152 1).f4) != 0) = true := bne_iff_ne.mpr c7
            obtain rfl := Option.some.inj H
            go_enter Tryd.func6, Tryd.ntmps6
            go_wp2_with (first | ((with_reducible refine gate_callee (f := 11) rfl ?_); refine goesL_ (some 5) rfl rfl Tryd.func11 (by kernel_rfl) rfl #[] rfl (by (try simp only [List.map_toArray, List.map_cons, List.map_nil]); first | done | rfl | (simp only [List.length_drop, List.length_take]; rfl)) ?_; (with_reducible refine (dom_New.calls  t145 t148 _ A1.out).mono ?_); rintro e w21 ⟨v146, rfl, ho0, hb⟩; refine ⟨_, rfl, ?_⟩; have n0_ := Aside0.mk (Kd.S_lower ho0 (below_size (by repeat (first | (with_reducible first | exact HB.out | apply below_alloc | apply pw_below_drewN | apply below_drew1) | exact HB.out)))); have n1_ := Aside0.mk (below_step (by repeat (first | (with_reducible first | exact HB.out | apply below_alloc | apply pw_below_drewN | apply below_drew1) | exact HB.out)) hb); clear HB; have HO147 := n0_; have HB := n1_; clear n0_ n1_; (try clear hb); (try clear hb2); (try clear hk); (try clear hi); (try clear ho0)) | ((with_reducible refine gate_dst (N := 9) rfl ?_); (try (refine gate_guard (by rfl) ?_; dsimp only)); refine Kd.S_lit k43 _ 43 ?hg (N := 9) ?hd (xs := ([(⟨4, 0, 0, 0, (⟨#[]⟩ : ByteArray), (⟨#[]⟩ : ByteArray), (⟨2, (⟨#[112]⟩ : ByteArray), ([] : List (S48)), (⟨#[]⟩ : ByteArray), 0, ([] : List Int)⟩ : S41)⟩ : S43), (⟨5, 0, 1, (-1), (⟨#[]⟩ : ByteArray), (⟨#[]⟩ : ByteArray), (⟨0, (⟨#[]⟩ : ByteArray), ([] : List (S48)), (⟨#[]⟩ : ByteArray), 0, ([] : List Int)⟩ : S41)⟩ : S43)] : List (S43))) (inner := [.int .i64 4, .int .i64 0, .int .i64 0, .int .i64 0, .string (⟨#[]⟩ : ByteArray), .string (⟨#[]⟩ : ByteArray), .int .i64 2, .string (⟨#[112]⟩ : ByteArray), .slice none 0 0, .string (⟨#[]⟩ : ByteArray), .int .i64 0, .slice none 0 0, .int .i64 5, .int .i64 0, .int .i64 1, .int .i64 (-1), .string (⟨#[]⟩ : ByteArray), .string (⟨#[]⟩ : ByteArray), .int .i64 0, .string (⟨#[]⟩ : ByteArray), .slice none 0 0, .string (⟨#[]⟩ : ByteArray), .int .i64 0, .slice none 0 0]) (ok := fun _ => True) (okp := fun _ => True) ?hr ?hp (fun _ hk => hk) trivial (Below.refl _ _) (Nat.le_refl _) (by simp) ?_; (case hd => rfl); (case hg => rfl); (case hr => first | (go_simp; done) | (go_simp; rfl)); (case hp => exact (Reps.front (show Kd.M k43 _ _ _ (⟨4, 0, 0, 0, (⟨#[]⟩ : ByteArray), (⟨#[]⟩ : ByteArray), (⟨2, (⟨#[112]⟩ : ByteArray), ([] : List (S48)), (⟨#[]⟩ : ByteArray), 0, ([] : List Int)⟩ : S41)⟩ : S43) [.int .i64 4, .int .i64 0, .int .i64 0, .int .i64 0, .string (⟨#[]⟩ : ByteArray), .string (⟨#[]⟩ : ByteArray), .int .i64 2, .string (⟨#[112]⟩ : ByteArray), .slice none 0 0, .string (⟨#[]⟩ : ByteArray), .int .i64 0, .slice none 0 0] from (k43_mkM _ _ _ (⟨4, 0, 0, 0, (⟨#[]⟩ : ByteArray), (⟨#[]⟩ : ByteArray), (⟨2, (⟨#[112]⟩ : ByteArray), ([] : List (S48)), (⟨#[]⟩ : ByteArray), 0, ([] : List Int)⟩ : S41)⟩ : S43) (Kd.R_nil _ _ _ _ _) (Kd.R_nil _ _ _ _ _))) rfl (Reps.front (show Kd.M k43 _ _ _ (⟨5, 0, 1, (-1), (⟨#[]⟩ : ByteArray), (⟨#[]⟩ : ByteArray), (⟨0, (⟨#[]⟩ : ByteArray), ([] : List (S48)), (⟨#[]⟩ : ByteArray), 0, ([] : List Int)⟩ : S41)⟩ : S43) [.int .i64 5, .int .i64 0, .int .i64 1, .int .i64 (-1), .string (⟨#[]⟩ : ByteArray), .string (⟨#[]⟩ : ByteArray), .int .i64 0, .string (⟨#[]⟩ : ByteArray), .slice none 0 0, .string (⟨#[]⟩ : ByteArray), .int .i64 0, .slice none 0 0] from (k43_mkM _ _ _ (⟨5, 0, 1, (-1), (⟨#[]⟩ : ByteArray), (⟨#[]⟩ : ByteArray), (⟨0, (⟨#[]⟩ : ByteArray), ([] : List (S48)), (⟨#[]⟩ : ByteArray), 0, ([] : List Int)⟩ : S41)⟩ : S43) (Kd.R_nil _ _ _ _ _) (Kd.R_nil _ _ _ _ _))) rfl (Reps.none _ _) rfl) rfl)); intro v150 w22 ho23 hb hg_ hnew_; clear hg_ hnew_; (first | rw [← Ny149.out] at ho23 | (simp only [Int.reduceToNat] at ho23; rw [← Ny149.out] at ho23)); have n0_ := Aside0.mk (Kd.S_below (by (with_reducible repeat (first | apply Kd.S_alloc | apply Kd.S_drewN | apply Kd.S_drew)); exact HO147.out) hb); have n1_ := Aside0.mk (Kd.S_lower ho23 (below_size (by repeat (first | (with_reducible first | exact HB.out | apply below_alloc | apply pw_below_drewN | apply below_drew1) | exact HB.out)))); have n2_ := Aside0.mk (below_step (by repeat (first | (with_reducible first | exact HB.out | apply below_alloc | apply pw_below_drewN | apply below_drew1) | exact HB.out)) hb); clear HO147; clear HB; have HO147 := n0_; have HO151 := n1_; have HB := n2_; clear n0_ n1_ n2_; clear hb ho23; obtain ⟨Ao24, co24, eo24⟩ := Kd.S_slice HO147.out; subst eo24; obtain ⟨Ao25, co25, eo25⟩ := Kd.S_slice HO151.out; subst eo25) | ((with_reducible refine gate_callee (f := 5) rfl ?_); refine goesL_ (some 10) rfl rfl Tryd.func5 (by kernel_rfl) rfl #[.agg #[.slice Ao24 t145.length co24, .bool t148], .slice Ao25 y149.length co25] rfl (by (try simp only [List.map_toArray, List.map_cons, List.map_nil]); first | done | rfl | (simp only [List.length_drop, List.length_take]; rfl)) ?_; (with_reducible refine (dom_All.calls k _ _ t145 t148 _ _ y149 t152 t155 t156 t157 _ ?side1 ?side2 ?side3 ?side4 A2.out).mono ?_); (case side1 => repeat (first | exact (Kd.S_reads' HO147.out).2.2 | (with_reducible refine Kd.C_alloc ?_ _) | (with_reducible refine Kd.C_drewN ?_ _) | (with_reducible refine Kd.C_drew ?_))); (case side2 => exact (Kd.S_reads' HO147.out).2.1); (case side3 => repeat (first | exact (Kd.S_reads' HO151.out).2.2 | (with_reducible refine Kd.C_alloc ?_ _) | (with_reducible refine Kd.C_drewN ?_ _) | (with_reducible refine Kd.C_drew ?_))); (case side4 => exact (Kd.S_reads' HO151.out).2.1); rintro e w26 ⟨v153, rfl, ho0, hb⟩; refine ⟨_, rfl, ?_⟩; have n0_ := Aside0.mk (Kd.S_elder' (by (with_reducible repeat (first | apply Kd.S_alloc | apply Kd.S_drewN | apply Kd.S_drew)); exact HO147.out) (Kd.S_base ho0) hb); have n1_ := Aside0.mk (Kd.S_below (by (with_reducible repeat (first | apply Kd.S_alloc | apply Kd.S_drewN | apply Kd.S_drew)); exact HO151.out) hb); have n2_ := Aside0.mk (Kd.S_lower (Kd.S_new' ho0 (Kd.S_lt (by (with_reducible repeat (first | apply Kd.S_alloc | apply Kd.S_drewN | apply Kd.S_drew)); exact HO147.out))) (below_size (by repeat (first | (with_reducible first | exact HB.out | apply below_alloc | apply pw_below_drewN | apply below_drew1) | exact HB.out)))); have n3_ := Aside0.mk (below_step (by repeat (first | (with_reducible first | exact HB.out | apply below_alloc | apply pw_below_drewN | apply below_drew1) | exact HB.out)) hb); clear HO147; clear HO151; clear HB; have HO147 := n0_; have HO151 := n1_; have HO154 := n2_; have HB := n3_; clear n0_ n1_ n2_ n3_; (try clear hb); (try clear hb2); (try clear hk); (try clear hi); (try clear ho0)) | ((with_reducible refine gate_dst (N := 1) rfl ?_); (try (refine gate_guard (by rfl) ?_; dsimp only)); refine box_event ?hg (N := 1) ?hd (cs := #[.slice none 0 0, .bool false]) (t := 24) ?hr ?_; (case hd => rfl); (case hg => rfl); (case hr => first | (go_simp; done) | (go_simp; rfl)); intro gb158 hg w27 hbox hb; have n0_ := Aside0.mk (Kd.S_below (by (with_reducible repeat (first | apply Kd.S_alloc | apply Kd.S_drewN | apply Kd.S_drew)); exact HO147.out) hb); have n1_ := Aside0.mk (Kd.S_below (by (with_reducible repeat (first | apply Kd.S_alloc | apply Kd.S_drewN | apply Kd.S_drew)); exact HO151.out) hb); have n2_ := Aside0.mk (Kd.S_below (by (with_reducible repeat (first | apply Kd.S_alloc | apply Kd.S_drewN | apply Kd.S_drew)); exact HO154.out) hb); have n3_ := Aside0.mk (below_step (by repeat (first | (with_reducible first | exact HB.out | apply below_alloc | apply pw_below_drewN | apply below_drew1) | exact HB.out)) hb); have n4_ := Aside0.mk (hbox); have n5_ := Aside0.mk ((by rw [hg]; exact (below_size (by repeat (first | (with_reducible first | exact HB.out | apply below_alloc | apply pw_below_drewN | apply below_drew1) | exact HB.out))) : w.heap.size ≤ gb158)); have n6_ := Aside0.mk ((by rw [hg]; exact (below_size (by repeat (first | (with_reducible first | exact HB.out | apply below_alloc | apply pw_below_drewN | apply below_drew1) | exact HB.out))) : w.heap.size ≤ gb158)); clear HO147; clear HO151; clear HO154; clear HB; have HO147 := n0_; have HO151 := n1_; have HO154 := n2_; have HB := n3_; have BK158 := n4_; have GW158 := n5_; have GE158 := n6_; clear n0_ n1_ n2_ n3_ n4_ n5_ n6_; clear hb hbox hg; obtain ⟨Ao28, co28, eo28⟩ := Kd.S_slice HO154.out; subst eo28; have hcz29_0 : w27.cell? ⟨gb158, 0, none⟩ = some (.slice none 0 0) := (blk_cell BK158.out 0).trans rfl; have hcz29_1 : w27.cell? ⟨gb158, 1, none⟩ = some (.bool false) := (blk_cell BK158.out 1).trans rfl; have hfz29_0 := blk_frozen BK158.out 0; have hfz29_1 := blk_frozen BK158.out 1) | ((with_reducible refine gate_store (t := 24) (p := 1) rfl ?_); refine store_event (t := 24) (p := 1) (v := ?vo_w30) (w1 := ((w27.setCell ⟨gb158, 0, none⟩ (.slice Ao28 t152.length co28)).setCell ⟨gb158, 1, none⟩ (.bool t155))) ?hg ?ho ?hn ?hr ?_; (case ho => rfl); (case hg => rfl); (case hn => rfl); (case hr => first | (go_simp; done) | (go_simp; rfl)); intro w30 hw; have n0_ : Aside0 (Kd.S k41 41 w30 w.heap.size (fun k_ => some k_ ≠ (.slice Ao28 t152.length co28 : Value).ownBlock) (.slice Ao24 t145.length co24) t145) := ⟨(by rw [hw]; exact (by (with_reducible repeat (first | apply Kd.S_alloc | apply Kd.S_drewN | apply Kd.S_drew)); exact Kd.S_mono (Kd.S_far (p := ⟨gb158, 1, none⟩) (Kd.S_far (p := ⟨gb158, 0, none⟩) (Kd.S_types HO147.out BK158.out (by decide)) (fun _ hk => hk.2) (.slice Ao28 t152.length co28)) (fun _ hk => hk.2) (.bool t155)) (fun _ hk => hk.1.2)))⟩; have n1_ : Aside0 (Kd.S k43 43 w30 w.heap.size (fun _ => True) (.slice Ao25 y149.length co25) y149) := ⟨(by rw [hw]; exact (by (with_reducible repeat (first | apply Kd.S_alloc | apply Kd.S_drewN | apply Kd.S_drew)); exact Kd.S_mono (Kd.S_far (p := ⟨gb158, 1, none⟩) (Kd.S_far (p := ⟨gb158, 0, none⟩) (Kd.S_types HO151.out BK158.out (by decide)) (fun _ hk => hk.2) (.slice Ao28 t152.length co28)) (fun _ hk => hk.2) (.bool t155)) (fun _ hk => trivial)))⟩; have n2_ : Aside0 (Kd.S k41 41 w30 w.heap.size (fun k_ => some k_ ≠ (.slice Ao24 t145.length co24 : Value).ownBlock) (.slice Ao28 t152.length co28) t152) := ⟨(by rw [hw]; exact (by (with_reducible repeat (first | apply Kd.S_alloc | apply Kd.S_drewN | apply Kd.S_drew)); exact Kd.S_mono (Kd.S_far (p := ⟨gb158, 1, none⟩) (Kd.S_far (p := ⟨gb158, 0, none⟩) (Kd.S_types HO154.out BK158.out (by decide)) (fun _ hk => hk.2) (.slice Ao28 t152.length co28)) (fun _ hk => hk.2) (.bool t155)) (fun _ hk => hk.1.2)))⟩; have n3_ : Aside0 (w30.heap[gb158]? = some (.cells #[.slice Ao28 t152.length co28, .bool t155] 24 (0, 0))) := ⟨(by rw [hw]; exact (by (with_reducible repeat (first | refine blk_drewN ?_ _ | refine blk_drew ?_ | refine blk_alloc ?_ _)); refine blk_put (cs := #[.slice Ao28 t152.length co28, .bool false]) ?_ 1 _ rfl; (with_reducible repeat (first | refine blk_drewN ?_ _ | refine blk_drew ?_ | refine blk_alloc ?_ _)); refine blk_put (cs := #[.slice none 0 0, .bool false]) ?_ 0 _ rfl; (with_reducible repeat (first | refine blk_drewN ?_ _ | refine blk_drew ?_ | refine blk_alloc ?_ _)); exact BK158.out))⟩; have n4_ : Aside0 (Below w.heap.size w w30) := ⟨(by rw [hw]; exact (by repeat (first | (with_reducible first | exact HB.out | apply below_alloc | apply pw_below_drewN | apply below_drew1 | refine below_set ?_ GE158.out) | exact HB.out)))⟩; clear hw; clear HO147; clear HO151; clear HO154; clear BK158; clear HB; have HO147 := n0_; have HO151 := n1_; have HO154 := n2_; have BK158 := n3_; have HB := n4_; clear n0_ n1_ n2_ n3_ n4_; have hcz31_0 : w30.cell? ⟨gb158, 0, none⟩ = some (.slice Ao28 t152.length co28) := (blk_cell BK158.out 0).trans rfl; have hcz31_1 : w30.cell? ⟨gb158, 1, none⟩ = some (.bool t155) := (blk_cell BK158.out 1).trans rfl; have hfz31_0 := blk_frozen BK158.out 0; have hfz31_1 := blk_frozen BK158.out 1; have p159 : 0 ≤ (1 : Int) := (by omega); have q159 : 1 < (t152.length : Int) := of_decide_eq_true (by first | (with_reducible assumption) | assumption); obtain ⟨ad159, A159_2, c159_2, A159_5, c159_5, e159, hx159_0, hx159_1, hx159_2, hx159_3, hx159_4, hx159_5, hl159_2, hi159_2, hl159_5, hi159_5⟩ := at_T41 (Kd.S_reads' HO154.out).2.2 1 p159 q159; cases e159; obtain ⟨ce159, hce159, hMe159, hcc159⟩ := Kd.S_get HO154.out z41 1 p159 (by first | exact q159 | exact of_decide_eq_true (by first | (with_reducible assumption) | assumption) | (have e_ := (Kd.S_reads' HO154.out).1; omega)); obtain ⟨ve159_2, ve159_5, rfl, ge159_2, ge159_5⟩ := k41_openM hMe159; have hv159_2 := hcc159 2 _ rfl; rw [add_field _ _ 2 (by omega)] at hv159_2; replace hv159_2 := Option.some.inj (hv159_2.symm.trans hx159_2); rw [hv159_2] at ge159_2; have HL159_2 := Aside0.mk (show Kd.R k48 48 _ _ _ _ ((rd_T41 t152 1).f2) from ge159_2); clear hv159_2 ge159_2; have hv159_5 := hcc159 5 _ rfl; rw [add_field _ _ 5 (by omega)] at hv159_5; replace hv159_5 := Option.some.inj (hv159_5.symm.trans hx159_5); rw [hv159_5] at ge159_5; have HL159_5 := Aside0.mk (show Kd.R (Kd.int .i64) 3 _ _ _ _ ((rd_T41 t152 1).f5) from ge159_5); clear hv159_5 ge159_5; clear hcc159 hce159; (try simp only [show (1 : Int).toNat = 1 from rfl, Nat.reduceMul, Nat.reduceEqDiff, Go.Addr.add, ↓reduceIte] at hx159_0); (try simp only [show (1 : Int).toNat = 1 from rfl, Nat.reduceMul, Nat.reduceEqDiff, Go.Addr.add, ↓reduceIte] at hx159_1); (try simp only [show (1 : Int).toNat = 1 from rfl, Nat.reduceMul, Nat.reduceEqDiff, Go.Addr.add, ↓reduceIte] at hx159_2); (try simp only [show (1 : Int).toNat = 1 from rfl, Nat.reduceMul, Nat.reduceEqDiff, Go.Addr.add, ↓reduceIte] at hx159_3); (try simp only [show (1 : Int).toNat = 1 from rfl, Nat.reduceMul, Nat.reduceEqDiff, Go.Addr.add, ↓reduceIte] at hx159_4); (try simp only [show (1 : Int).toNat = 1 from rfl, Nat.reduceMul, Nat.reduceEqDiff, Go.Addr.add, ↓reduceIte] at hx159_5); have qi159 : (1 < t152.length) = True := eq_true (by omega); (try rw [show ((1 : Int)).toNat = 1 from rfl] at hx159_0); (try rw [show 1 * 6 = 6 from rfl] at hx159_0); (try rw [show ((1 : Int)).toNat = 1 from rfl] at hx159_1); (try rw [show 1 * 6 = 6 from rfl] at hx159_1); (try rw [show ((1 : Int)).toNat = 1 from rfl] at hx159_2); (try rw [show 1 * 6 = 6 from rfl] at hx159_2); (try rw [show ((1 : Int)).toNat = 1 from rfl] at hx159_3); (try rw [show 1 * 6 = 6 from rfl] at hx159_3); (try rw [show ((1 : Int)).toNat = 1 from rfl] at hx159_4); (try rw [show 1 * 6 = 6 from rfl] at hx159_4); (try rw [show ((1 : Int)).toNat = 1 from rfl] at hx159_5); (try rw [show 1 * 6 = 6 from rfl] at hx159_5); have HR159_2 := Aside0.mk hi159_2; have HC159_2 := Aside0.mk hl159_2; clear hi159_2 hl159_2; have HR159_5 := Aside0.mk hi159_5; have HC159_5 := Aside0.mk hl159_5; clear hi159_5 hl159_5; replace p159 := eq_true p159; replace q159 := eq_true q159))
            go_ret
            exact ⟨by first | rfl | (simp [errW_none, errW_some] <;> rfl) | (simp [*, errW_none, errW_some] <;> rfl), by repeat (first | (with_reducible first | exact HB.out | apply below_alloc | apply pw_below_drewN | apply below_drew1 | refine below_set ?_ GE158.out) | exact HB.out)⟩
        · rw [if_neg c6] at H
          exact absurd H (by simp)
      · rw [if_neg c5] at H
        have c5b0 : ((t152.length : Int) == 2) = false := beq_eq_false_iff_ne.mpr c5
        have c5b1 : ((t152.length : Int) != 2) = true := bne_iff_ne.mpr c5
        obtain rfl := Option.some.inj H
        go_enter Tryd.func6, Tryd.ntmps6
        go_wp2_with (first | ((with_reducible refine gate_callee (f := 11) rfl ?_); refine goesL_ (some 5) rfl rfl Tryd.func11 (by kernel_rfl) rfl #[] rfl (by (try simp only [List.map_toArray, List.map_cons, List.map_nil]); first | done | rfl | (simp only [List.length_drop, List.length_take]; rfl)) ?_; (with_reducible refine (dom_New.calls  t145 t148 _ A1.out).mono ?_); rintro e w32 ⟨v146, rfl, ho0, hb⟩; refine ⟨_, rfl, ?_⟩; have n0_ := Aside0.mk (Kd.S_lower ho0 (below_size (by repeat (first | (with_reducible first | exact HB.out | apply below_alloc | apply pw_below_drewN | apply below_drew1) | exact HB.out)))); have n1_ := Aside0.mk (below_step (by repeat (first | (with_reducible first | exact HB.out | apply below_alloc | apply pw_below_drewN | apply below_drew1) | exact HB.out)) hb); clear HB; have HO147 := n0_; have HB := n1_; clear n0_ n1_; (try clear hb); (try clear hb2); (try clear hk); (try clear hi); (try clear ho0)) | ((with_reducible refine gate_dst (N := 9) rfl ?_); (try (refine gate_guard (by rfl) ?_; dsimp only)); refine Kd.S_lit k43 _ 43 ?hg (N := 9) ?hd (xs := ([(⟨4, 0, 0, 0, (⟨#[]⟩ : ByteArray), (⟨#[]⟩ : ByteArray), (⟨2, (⟨#[112]⟩ : ByteArray), ([] : List (S48)), (⟨#[]⟩ : ByteArray), 0, ([] : List Int)⟩ : S41)⟩ : S43), (⟨5, 0, 1, (-1), (⟨#[]⟩ : ByteArray), (⟨#[]⟩ : ByteArray), (⟨0, (⟨#[]⟩ : ByteArray), ([] : List (S48)), (⟨#[]⟩ : ByteArray), 0, ([] : List Int)⟩ : S41)⟩ : S43)] : List (S43))) (inner := [.int .i64 4, .int .i64 0, .int .i64 0, .int .i64 0, .string (⟨#[]⟩ : ByteArray), .string (⟨#[]⟩ : ByteArray), .int .i64 2, .string (⟨#[112]⟩ : ByteArray), .slice none 0 0, .string (⟨#[]⟩ : ByteArray), .int .i64 0, .slice none 0 0, .int .i64 5, .int .i64 0, .int .i64 1, .int .i64 (-1), .string (⟨#[]⟩ : ByteArray), .string (⟨#[]⟩ : ByteArray), .int .i64 0, .string (⟨#[]⟩ : ByteArray), .slice none 0 0, .string (⟨#[]⟩ : ByteArray), .int .i64 0, .slice none 0 0]) (ok := fun _ => True) (okp := fun _ => True) ?hr ?hp (fun _ hk => hk) trivial (Below.refl _ _) (Nat.le_refl _) (by simp) ?_; (case hd => rfl); (case hg => rfl); (case hr => first | (go_simp; done) | (go_simp; rfl)); (case hp => exact (Reps.front (show Kd.M k43 _ _ _ (⟨4, 0, 0, 0, (⟨#[]⟩ : ByteArray), (⟨#[]⟩ : ByteArray), (⟨2, (⟨#[112]⟩ : ByteArray), ([] : List (S48)), (⟨#[]⟩ : ByteArray), 0, ([] : List Int)⟩ : S41)⟩ : S43) [.int .i64 4, .int .i64 0, .int .i64 0, .int .i64 0, .string (⟨#[]⟩ : ByteArray), .string (⟨#[]⟩ : ByteArray), .int .i64 2, .string (⟨#[112]⟩ : ByteArray), .slice none 0 0, .string (⟨#[]⟩ : ByteArray), .int .i64 0, .slice none 0 0] from (k43_mkM _ _ _ (⟨4, 0, 0, 0, (⟨#[]⟩ : ByteArray), (⟨#[]⟩ : ByteArray), (⟨2, (⟨#[112]⟩ : ByteArray), ([] : List (S48)), (⟨#[]⟩ : ByteArray), 0, ([] : List Int)⟩ : S41)⟩ : S43) (Kd.R_nil _ _ _ _ _) (Kd.R_nil _ _ _ _ _))) rfl (Reps.front (show Kd.M k43 _ _ _ (⟨5, 0, 1, (-1), (⟨#[]⟩ : ByteArray), (⟨#[]⟩ : ByteArray), (⟨0, (⟨#[]⟩ : ByteArray), ([] : List (S48)), (⟨#[]⟩ : ByteArray), 0, ([] : List Int)⟩ : S41)⟩ : S43) [.int .i64 5, .int .i64 0, .int .i64 1, .int .i64 (-1), .string (⟨#[]⟩ : ByteArray), .string (⟨#[]⟩ : ByteArray), .int .i64 0, .string (⟨#[]⟩ : ByteArray), .slice none 0 0, .string (⟨#[]⟩ : ByteArray), .int .i64 0, .slice none 0 0] from (k43_mkM _ _ _ (⟨5, 0, 1, (-1), (⟨#[]⟩ : ByteArray), (⟨#[]⟩ : ByteArray), (⟨0, (⟨#[]⟩ : ByteArray), ([] : List (S48)), (⟨#[]⟩ : ByteArray), 0, ([] : List Int)⟩ : S41)⟩ : S43) (Kd.R_nil _ _ _ _ _) (Kd.R_nil _ _ _ _ _))) rfl (Reps.none _ _) rfl) rfl)); intro v150 w33 ho34 hb hg_ hnew_; clear hg_ hnew_; (first | rw [← Ny149.out] at ho34 | (simp only [Int.reduceToNat] at ho34; rw [← Ny149.out] at ho34)); have n0_ := Aside0.mk (Kd.S_below (by (with_reducible repeat (first | apply Kd.S_alloc | apply Kd.S_drewN | apply Kd.S_drew)); exact HO147.out) hb); have n1_ := Aside0.mk (Kd.S_lower ho34 (below_size (by repeat (first | (with_reducible first | exact HB.out | apply below_alloc | apply pw_below_drewN | apply below_drew1) | exact HB.out)))); have n2_ := Aside0.mk (below_step (by repeat (first | (with_reducible first | exact HB.out | apply below_alloc | apply pw_below_drewN | apply below_drew1) | exact HB.out)) hb); clear HO147; clear HB; have HO147 := n0_; have HO151 := n1_; have HB := n2_; clear n0_ n1_ n2_; clear hb ho34; obtain ⟨Ao35, co35, eo35⟩ := Kd.S_slice HO147.out; subst eo35; obtain ⟨Ao36, co36, eo36⟩ := Kd.S_slice HO151.out; subst eo36) | ((with_reducible refine gate_callee (f := 5) rfl ?_); refine goesL_ (some 10) rfl rfl Tryd.func5 (by kernel_rfl) rfl #[.agg #[.slice Ao35 t145.length co35, .bool t148], .slice Ao36 y149.length co36] rfl (by (try simp only [List.map_toArray, List.map_cons, List.map_nil]); first | done | rfl | (simp only [List.length_drop, List.length_take]; rfl)) ?_; (with_reducible refine (dom_All.calls k _ _ t145 t148 _ _ y149 t152 t155 t156 t157 _ ?side1 ?side2 ?side3 ?side4 A2.out).mono ?_); (case side1 => repeat (first | exact (Kd.S_reads' HO147.out).2.2 | (with_reducible refine Kd.C_alloc ?_ _) | (with_reducible refine Kd.C_drewN ?_ _) | (with_reducible refine Kd.C_drew ?_))); (case side2 => exact (Kd.S_reads' HO147.out).2.1); (case side3 => repeat (first | exact (Kd.S_reads' HO151.out).2.2 | (with_reducible refine Kd.C_alloc ?_ _) | (with_reducible refine Kd.C_drewN ?_ _) | (with_reducible refine Kd.C_drew ?_))); (case side4 => exact (Kd.S_reads' HO151.out).2.1); rintro e w37 ⟨v153, rfl, ho0, hb⟩; refine ⟨_, rfl, ?_⟩; have n0_ := Aside0.mk (Kd.S_elder' (by (with_reducible repeat (first | apply Kd.S_alloc | apply Kd.S_drewN | apply Kd.S_drew)); exact HO147.out) (Kd.S_base ho0) hb); have n1_ := Aside0.mk (Kd.S_below (by (with_reducible repeat (first | apply Kd.S_alloc | apply Kd.S_drewN | apply Kd.S_drew)); exact HO151.out) hb); have n2_ := Aside0.mk (Kd.S_lower (Kd.S_new' ho0 (Kd.S_lt (by (with_reducible repeat (first | apply Kd.S_alloc | apply Kd.S_drewN | apply Kd.S_drew)); exact HO147.out))) (below_size (by repeat (first | (with_reducible first | exact HB.out | apply below_alloc | apply pw_below_drewN | apply below_drew1) | exact HB.out)))); have n3_ := Aside0.mk (below_step (by repeat (first | (with_reducible first | exact HB.out | apply below_alloc | apply pw_below_drewN | apply below_drew1) | exact HB.out)) hb); clear HO147; clear HO151; clear HB; have HO147 := n0_; have HO151 := n1_; have HO154 := n2_; have HB := n3_; clear n0_ n1_ n2_ n3_; (try clear hb); (try clear hb2); (try clear hk); (try clear hi); (try clear ho0)) | ((with_reducible refine gate_dst (N := 1) rfl ?_); (try (refine gate_guard (by rfl) ?_; dsimp only)); refine box_event ?hg (N := 1) ?hd (cs := #[.slice none 0 0, .bool false]) (t := 24) ?hr ?_; (case hd => rfl); (case hg => rfl); (case hr => first | (go_simp; done) | (go_simp; rfl)); intro gb158 hg w38 hbox hb; have n0_ := Aside0.mk (Kd.S_below (by (with_reducible repeat (first | apply Kd.S_alloc | apply Kd.S_drewN | apply Kd.S_drew)); exact HO147.out) hb); have n1_ := Aside0.mk (Kd.S_below (by (with_reducible repeat (first | apply Kd.S_alloc | apply Kd.S_drewN | apply Kd.S_drew)); exact HO151.out) hb); have n2_ := Aside0.mk (Kd.S_below (by (with_reducible repeat (first | apply Kd.S_alloc | apply Kd.S_drewN | apply Kd.S_drew)); exact HO154.out) hb); have n3_ := Aside0.mk (below_step (by repeat (first | (with_reducible first | exact HB.out | apply below_alloc | apply pw_below_drewN | apply below_drew1) | exact HB.out)) hb); have n4_ := Aside0.mk (hbox); have n5_ := Aside0.mk ((by rw [hg]; exact (below_size (by repeat (first | (with_reducible first | exact HB.out | apply below_alloc | apply pw_below_drewN | apply below_drew1) | exact HB.out))) : w.heap.size ≤ gb158)); have n6_ := Aside0.mk ((by rw [hg]; exact (below_size (by repeat (first | (with_reducible first | exact HB.out | apply below_alloc | apply pw_below_drewN | apply below_drew1) | exact HB.out))) : w.heap.size ≤ gb158)); clear HO147; clear HO151; clear HO154; clear HB; have HO147 := n0_; have HO151 := n1_; have HO154 := n2_; have HB := n3_; have BK158 := n4_; have GW158 := n5_; have GE158 := n6_; clear n0_ n1_ n2_ n3_ n4_ n5_ n6_; clear hb hbox hg; obtain ⟨Ao39, co39, eo39⟩ := Kd.S_slice HO154.out; subst eo39; have hcz40_0 : w38.cell? ⟨gb158, 0, none⟩ = some (.slice none 0 0) := (blk_cell BK158.out 0).trans rfl; have hcz40_1 : w38.cell? ⟨gb158, 1, none⟩ = some (.bool false) := (blk_cell BK158.out 1).trans rfl; have hfz40_0 := blk_frozen BK158.out 0; have hfz40_1 := blk_frozen BK158.out 1))
        go_ret
        exact ⟨by first | rfl | (simp [errW_none, errW_some] <;> rfl) | (simp [*, errW_none, errW_some] <;> rfl), by repeat (first | (with_reducible first | exact HB.out | apply below_alloc | apply pw_below_drewN | apply below_drew1 | refine below_set ?_ GE158.out) | exact HB.out)⟩
    · rw [if_neg c4] at H
      have c4b0 : (t157 == 0) = false := beq_eq_false_iff_ne.mpr c4
      have c4b1 : (t157 != 0) = true := bne_iff_ne.mpr c4
      obtain rfl := Option.some.inj H
      go_enter Tryd.func6, Tryd.ntmps6
      go_wp2_with (first | ((with_reducible refine gate_callee (f := 11) rfl ?_); refine goesL_ (some 5) rfl rfl Tryd.func11 (by kernel_rfl) rfl #[] rfl (by (try simp only [List.map_toArray, List.map_cons, List.map_nil]); first | done | rfl | (simp only [List.length_drop, List.length_take]; rfl)) ?_; (with_reducible refine (dom_New.calls  t145 t148 _ A1.out).mono ?_); rintro e w41 ⟨v146, rfl, ho0, hb⟩; refine ⟨_, rfl, ?_⟩; have n0_ := Aside0.mk (Kd.S_lower ho0 (below_size (by repeat (first | (with_reducible first | exact HB.out | apply below_alloc | apply pw_below_drewN | apply below_drew1) | exact HB.out)))); have n1_ := Aside0.mk (below_step (by repeat (first | (with_reducible first | exact HB.out | apply below_alloc | apply pw_below_drewN | apply below_drew1) | exact HB.out)) hb); clear HB; have HO147 := n0_; have HB := n1_; clear n0_ n1_; (try clear hb); (try clear hb2); (try clear hk); (try clear hi); (try clear ho0)) | ((with_reducible refine gate_dst (N := 9) rfl ?_); (try (refine gate_guard (by rfl) ?_; dsimp only)); refine Kd.S_lit k43 _ 43 ?hg (N := 9) ?hd (xs := ([(⟨4, 0, 0, 0, (⟨#[]⟩ : ByteArray), (⟨#[]⟩ : ByteArray), (⟨2, (⟨#[112]⟩ : ByteArray), ([] : List (S48)), (⟨#[]⟩ : ByteArray), 0, ([] : List Int)⟩ : S41)⟩ : S43), (⟨5, 0, 1, (-1), (⟨#[]⟩ : ByteArray), (⟨#[]⟩ : ByteArray), (⟨0, (⟨#[]⟩ : ByteArray), ([] : List (S48)), (⟨#[]⟩ : ByteArray), 0, ([] : List Int)⟩ : S41)⟩ : S43)] : List (S43))) (inner := [.int .i64 4, .int .i64 0, .int .i64 0, .int .i64 0, .string (⟨#[]⟩ : ByteArray), .string (⟨#[]⟩ : ByteArray), .int .i64 2, .string (⟨#[112]⟩ : ByteArray), .slice none 0 0, .string (⟨#[]⟩ : ByteArray), .int .i64 0, .slice none 0 0, .int .i64 5, .int .i64 0, .int .i64 1, .int .i64 (-1), .string (⟨#[]⟩ : ByteArray), .string (⟨#[]⟩ : ByteArray), .int .i64 0, .string (⟨#[]⟩ : ByteArray), .slice none 0 0, .string (⟨#[]⟩ : ByteArray), .int .i64 0, .slice none 0 0]) (ok := fun _ => True) (okp := fun _ => True) ?hr ?hp (fun _ hk => hk) trivial (Below.refl _ _) (Nat.le_refl _) (by simp) ?_; (case hd => rfl); (case hg => rfl); (case hr => first | (go_simp; done) | (go_simp; rfl)); (case hp => exact (Reps.front (show Kd.M k43 _ _ _ (⟨4, 0, 0, 0, (⟨#[]⟩ : ByteArray), (⟨#[]⟩ : ByteArray), (⟨2, (⟨#[112]⟩ : ByteArray), ([] : List (S48)), (⟨#[]⟩ : ByteArray), 0, ([] : List Int)⟩ : S41)⟩ : S43) [.int .i64 4, .int .i64 0, .int .i64 0, .int .i64 0, .string (⟨#[]⟩ : ByteArray), .string (⟨#[]⟩ : ByteArray), .int .i64 2, .string (⟨#[112]⟩ : ByteArray), .slice none 0 0, .string (⟨#[]⟩ : ByteArray), .int .i64 0, .slice none 0 0] from (k43_mkM _ _ _ (⟨4, 0, 0, 0, (⟨#[]⟩ : ByteArray), (⟨#[]⟩ : ByteArray), (⟨2, (⟨#[112]⟩ : ByteArray), ([] : List (S48)), (⟨#[]⟩ : ByteArray), 0, ([] : List Int)⟩ : S41)⟩ : S43) (Kd.R_nil _ _ _ _ _) (Kd.R_nil _ _ _ _ _))) rfl (Reps.front (show Kd.M k43 _ _ _ (⟨5, 0, 1, (-1), (⟨#[]⟩ : ByteArray), (⟨#[]⟩ : ByteArray), (⟨0, (⟨#[]⟩ : ByteArray), ([] : List (S48)), (⟨#[]⟩ : ByteArray), 0, ([] : List Int)⟩ : S41)⟩ : S43) [.int .i64 5, .int .i64 0, .int .i64 1, .int .i64 (-1), .string (⟨#[]⟩ : ByteArray), .string (⟨#[]⟩ : ByteArray), .int .i64 0, .string (⟨#[]⟩ : ByteArray), .slice none 0 0, .string (⟨#[]⟩ : ByteArray), .int .i64 0, .slice none 0 0] from (k43_mkM _ _ _ (⟨5, 0, 1, (-1), (⟨#[]⟩ : ByteArray), (⟨#[]⟩ : ByteArray), (⟨0, (⟨#[]⟩ : ByteArray), ([] : List (S48)), (⟨#[]⟩ : ByteArray), 0, ([] : List Int)⟩ : S41)⟩ : S43) (Kd.R_nil _ _ _ _ _) (Kd.R_nil _ _ _ _ _))) rfl (Reps.none _ _) rfl) rfl)); intro v150 w42 ho43 hb hg_ hnew_; clear hg_ hnew_; (first | rw [← Ny149.out] at ho43 | (simp only [Int.reduceToNat] at ho43; rw [← Ny149.out] at ho43)); have n0_ := Aside0.mk (Kd.S_below (by (with_reducible repeat (first | apply Kd.S_alloc | apply Kd.S_drewN | apply Kd.S_drew)); exact HO147.out) hb); have n1_ := Aside0.mk (Kd.S_lower ho43 (below_size (by repeat (first | (with_reducible first | exact HB.out | apply below_alloc | apply pw_below_drewN | apply below_drew1) | exact HB.out)))); have n2_ := Aside0.mk (below_step (by repeat (first | (with_reducible first | exact HB.out | apply below_alloc | apply pw_below_drewN | apply below_drew1) | exact HB.out)) hb); clear HO147; clear HB; have HO147 := n0_; have HO151 := n1_; have HB := n2_; clear n0_ n1_ n2_; clear hb ho43; obtain ⟨Ao44, co44, eo44⟩ := Kd.S_slice HO147.out; subst eo44; obtain ⟨Ao45, co45, eo45⟩ := Kd.S_slice HO151.out; subst eo45) | ((with_reducible refine gate_callee (f := 5) rfl ?_); refine goesL_ (some 10) rfl rfl Tryd.func5 (by kernel_rfl) rfl #[.agg #[.slice Ao44 t145.length co44, .bool t148], .slice Ao45 y149.length co45] rfl (by (try simp only [List.map_toArray, List.map_cons, List.map_nil]); first | done | rfl | (simp only [List.length_drop, List.length_take]; rfl)) ?_; (with_reducible refine (dom_All.calls k _ _ t145 t148 _ _ y149 t152 t155 t156 t157 _ ?side1 ?side2 ?side3 ?side4 A2.out).mono ?_); (case side1 => repeat (first | exact (Kd.S_reads' HO147.out).2.2 | (with_reducible refine Kd.C_alloc ?_ _) | (with_reducible refine Kd.C_drewN ?_ _) | (with_reducible refine Kd.C_drew ?_))); (case side2 => exact (Kd.S_reads' HO147.out).2.1); (case side3 => repeat (first | exact (Kd.S_reads' HO151.out).2.2 | (with_reducible refine Kd.C_alloc ?_ _) | (with_reducible refine Kd.C_drewN ?_ _) | (with_reducible refine Kd.C_drew ?_))); (case side4 => exact (Kd.S_reads' HO151.out).2.1); rintro e w46 ⟨v153, rfl, ho0, hb⟩; refine ⟨_, rfl, ?_⟩; have n0_ := Aside0.mk (Kd.S_elder' (by (with_reducible repeat (first | apply Kd.S_alloc | apply Kd.S_drewN | apply Kd.S_drew)); exact HO147.out) (Kd.S_base ho0) hb); have n1_ := Aside0.mk (Kd.S_below (by (with_reducible repeat (first | apply Kd.S_alloc | apply Kd.S_drewN | apply Kd.S_drew)); exact HO151.out) hb); have n2_ := Aside0.mk (Kd.S_lower (Kd.S_new' ho0 (Kd.S_lt (by (with_reducible repeat (first | apply Kd.S_alloc | apply Kd.S_drewN | apply Kd.S_drew)); exact HO147.out))) (below_size (by repeat (first | (with_reducible first | exact HB.out | apply below_alloc | apply pw_below_drewN | apply below_drew1) | exact HB.out)))); have n3_ := Aside0.mk (below_step (by repeat (first | (with_reducible first | exact HB.out | apply below_alloc | apply pw_below_drewN | apply below_drew1) | exact HB.out)) hb); clear HO147; clear HO151; clear HB; have HO147 := n0_; have HO151 := n1_; have HO154 := n2_; have HB := n3_; clear n0_ n1_ n2_ n3_; (try clear hb); (try clear hb2); (try clear hk); (try clear hi); (try clear ho0)) | ((with_reducible refine gate_dst (N := 1) rfl ?_); (try (refine gate_guard (by rfl) ?_; dsimp only)); refine box_event ?hg (N := 1) ?hd (cs := #[.slice none 0 0, .bool false]) (t := 24) ?hr ?_; (case hd => rfl); (case hg => rfl); (case hr => first | (go_simp; done) | (go_simp; rfl)); intro gb158 hg w47 hbox hb; have n0_ := Aside0.mk (Kd.S_below (by (with_reducible repeat (first | apply Kd.S_alloc | apply Kd.S_drewN | apply Kd.S_drew)); exact HO147.out) hb); have n1_ := Aside0.mk (Kd.S_below (by (with_reducible repeat (first | apply Kd.S_alloc | apply Kd.S_drewN | apply Kd.S_drew)); exact HO151.out) hb); have n2_ := Aside0.mk (Kd.S_below (by (with_reducible repeat (first | apply Kd.S_alloc | apply Kd.S_drewN | apply Kd.S_drew)); exact HO154.out) hb); have n3_ := Aside0.mk (below_step (by repeat (first | (with_reducible first | exact HB.out | apply below_alloc | apply pw_below_drewN | apply below_drew1) | exact HB.out)) hb); have n4_ := Aside0.mk (hbox); have n5_ := Aside0.mk ((by rw [hg]; exact (below_size (by repeat (first | (with_reducible first | exact HB.out | apply below_alloc | apply pw_below_drewN | apply below_drew1) | exact HB.out))) : w.heap.size ≤ gb158)); have n6_ := Aside0.mk ((by rw [hg]; exact (below_size (by repeat (first | (with_reducible first | exact HB.out | apply below_alloc | apply pw_below_drewN | apply below_drew1) | exact HB.out))) : w.heap.size ≤ gb158)); clear HO147; clear HO151; clear HO154; clear HB; have HO147 := n0_; have HO151 := n1_; have HO154 := n2_; have HB := n3_; have BK158 := n4_; have GW158 := n5_; have GE158 := n6_; clear n0_ n1_ n2_ n3_ n4_ n5_ n6_; clear hb hbox hg; obtain ⟨Ao48, co48, eo48⟩ := Kd.S_slice HO154.out; subst eo48; have hcz49_0 : w47.cell? ⟨gb158, 0, none⟩ = some (.slice none 0 0) := (blk_cell BK158.out 0).trans rfl; have hcz49_1 : w47.cell? ⟨gb158, 1, none⟩ = some (.bool false) := (blk_cell BK158.out 1).trans rfl; have hfz49_0 := blk_frozen BK158.out 0; have hfz49_1 := blk_frozen BK158.out 1))
      go_ret
      exact ⟨by first | rfl | (simp [errW_none, errW_some] <;> rfl) | (simp [*, errW_none, errW_some] <;> rfl), by repeat (first | (with_reducible first | exact HB.out | apply below_alloc | apply pw_below_drewN | apply below_drew1 | refine below_set ?_ GE158.out) | exact HB.out)⟩
  · rw [if_neg c3] at H
    have c3b0 : (t156 == 0) = false := beq_eq_false_iff_ne.mpr c3
    have c3b1 : (t156 != 0) = true := bne_iff_ne.mpr c3
    obtain rfl := Option.some.inj H
    go_enter Tryd.func6, Tryd.ntmps6
    go_wp2_with (first | ((with_reducible refine gate_callee (f := 11) rfl ?_); refine goesL_ (some 5) rfl rfl Tryd.func11 (by kernel_rfl) rfl #[] rfl (by (try simp only [List.map_toArray, List.map_cons, List.map_nil]); first | done | rfl | (simp only [List.length_drop, List.length_take]; rfl)) ?_; (with_reducible refine (dom_New.calls  t145 t148 _ A1.out).mono ?_); rintro e w50 ⟨v146, rfl, ho0, hb⟩; refine ⟨_, rfl, ?_⟩; have n0_ := Aside0.mk (Kd.S_lower ho0 (below_size (by repeat (first | (with_reducible first | exact HB.out | apply below_alloc | apply pw_below_drewN | apply below_drew1) | exact HB.out)))); have n1_ := Aside0.mk (below_step (by repeat (first | (with_reducible first | exact HB.out | apply below_alloc | apply pw_below_drewN | apply below_drew1) | exact HB.out)) hb); clear HB; have HO147 := n0_; have HB := n1_; clear n0_ n1_; (try clear hb); (try clear hb2); (try clear hk); (try clear hi); (try clear ho0)) | ((with_reducible refine gate_dst (N := 9) rfl ?_); (try (refine gate_guard (by rfl) ?_; dsimp only)); refine Kd.S_lit k43 _ 43 ?hg (N := 9) ?hd (xs := ([(⟨4, 0, 0, 0, (⟨#[]⟩ : ByteArray), (⟨#[]⟩ : ByteArray), (⟨2, (⟨#[112]⟩ : ByteArray), ([] : List (S48)), (⟨#[]⟩ : ByteArray), 0, ([] : List Int)⟩ : S41)⟩ : S43), (⟨5, 0, 1, (-1), (⟨#[]⟩ : ByteArray), (⟨#[]⟩ : ByteArray), (⟨0, (⟨#[]⟩ : ByteArray), ([] : List (S48)), (⟨#[]⟩ : ByteArray), 0, ([] : List Int)⟩ : S41)⟩ : S43)] : List (S43))) (inner := [.int .i64 4, .int .i64 0, .int .i64 0, .int .i64 0, .string (⟨#[]⟩ : ByteArray), .string (⟨#[]⟩ : ByteArray), .int .i64 2, .string (⟨#[112]⟩ : ByteArray), .slice none 0 0, .string (⟨#[]⟩ : ByteArray), .int .i64 0, .slice none 0 0, .int .i64 5, .int .i64 0, .int .i64 1, .int .i64 (-1), .string (⟨#[]⟩ : ByteArray), .string (⟨#[]⟩ : ByteArray), .int .i64 0, .string (⟨#[]⟩ : ByteArray), .slice none 0 0, .string (⟨#[]⟩ : ByteArray), .int .i64 0, .slice none 0 0]) (ok := fun _ => True) (okp := fun _ => True) ?hr ?hp (fun _ hk => hk) trivial (Below.refl _ _) (Nat.le_refl _) (by simp) ?_; (case hd => rfl); (case hg => rfl); (case hr => first | (go_simp; done) | (go_simp; rfl)); (case hp => exact (Reps.front (show Kd.M k43 _ _ _ (⟨4, 0, 0, 0, (⟨#[]⟩ : ByteArray), (⟨#[]⟩ : ByteArray), (⟨2, (⟨#[112]⟩ : ByteArray), ([] : List (S48)), (⟨#[]⟩ : ByteArray), 0, ([] : List Int)⟩ : S41)⟩ : S43) [.int .i64 4, .int .i64 0, .int .i64 0, .int .i64 0, .string (⟨#[]⟩ : ByteArray), .string (⟨#[]⟩ : ByteArray), .int .i64 2, .string (⟨#[112]⟩ : ByteArray), .slice none 0 0, .string (⟨#[]⟩ : ByteArray), .int .i64 0, .slice none 0 0] from (k43_mkM _ _ _ (⟨4, 0, 0, 0, (⟨#[]⟩ : ByteArray), (⟨#[]⟩ : ByteArray), (⟨2, (⟨#[112]⟩ : ByteArray), ([] : List (S48)), (⟨#[]⟩ : ByteArray), 0, ([] : List Int)⟩ : S41)⟩ : S43) (Kd.R_nil _ _ _ _ _) (Kd.R_nil _ _ _ _ _))) rfl (Reps.front (show Kd.M k43 _ _ _ (⟨5, 0, 1, (-1), (⟨#[]⟩ : ByteArray), (⟨#[]⟩ : ByteArray), (⟨0, (⟨#[]⟩ : ByteArray), ([] : List (S48)), (⟨#[]⟩ : ByteArray), 0, ([] : List Int)⟩ : S41)⟩ : S43) [.int .i64 5, .int .i64 0, .int .i64 1, .int .i64 (-1), .string (⟨#[]⟩ : ByteArray), .string (⟨#[]⟩ : ByteArray), .int .i64 0, .string (⟨#[]⟩ : ByteArray), .slice none 0 0, .string (⟨#[]⟩ : ByteArray), .int .i64 0, .slice none 0 0] from (k43_mkM _ _ _ (⟨5, 0, 1, (-1), (⟨#[]⟩ : ByteArray), (⟨#[]⟩ : ByteArray), (⟨0, (⟨#[]⟩ : ByteArray), ([] : List (S48)), (⟨#[]⟩ : ByteArray), 0, ([] : List Int)⟩ : S41)⟩ : S43) (Kd.R_nil _ _ _ _ _) (Kd.R_nil _ _ _ _ _))) rfl (Reps.none _ _) rfl) rfl)); intro v150 w51 ho52 hb hg_ hnew_; clear hg_ hnew_; (first | rw [← Ny149.out] at ho52 | (simp only [Int.reduceToNat] at ho52; rw [← Ny149.out] at ho52)); have n0_ := Aside0.mk (Kd.S_below (by (with_reducible repeat (first | apply Kd.S_alloc | apply Kd.S_drewN | apply Kd.S_drew)); exact HO147.out) hb); have n1_ := Aside0.mk (Kd.S_lower ho52 (below_size (by repeat (first | (with_reducible first | exact HB.out | apply below_alloc | apply pw_below_drewN | apply below_drew1) | exact HB.out)))); have n2_ := Aside0.mk (below_step (by repeat (first | (with_reducible first | exact HB.out | apply below_alloc | apply pw_below_drewN | apply below_drew1) | exact HB.out)) hb); clear HO147; clear HB; have HO147 := n0_; have HO151 := n1_; have HB := n2_; clear n0_ n1_ n2_; clear hb ho52; obtain ⟨Ao53, co53, eo53⟩ := Kd.S_slice HO147.out; subst eo53; obtain ⟨Ao54, co54, eo54⟩ := Kd.S_slice HO151.out; subst eo54) | ((with_reducible refine gate_callee (f := 5) rfl ?_); refine goesL_ (some 10) rfl rfl Tryd.func5 (by kernel_rfl) rfl #[.agg #[.slice Ao53 t145.length co53, .bool t148], .slice Ao54 y149.length co54] rfl (by (try simp only [List.map_toArray, List.map_cons, List.map_nil]); first | done | rfl | (simp only [List.length_drop, List.length_take]; rfl)) ?_; (with_reducible refine (dom_All.calls k _ _ t145 t148 _ _ y149 t152 t155 t156 t157 _ ?side1 ?side2 ?side3 ?side4 A2.out).mono ?_); (case side1 => repeat (first | exact (Kd.S_reads' HO147.out).2.2 | (with_reducible refine Kd.C_alloc ?_ _) | (with_reducible refine Kd.C_drewN ?_ _) | (with_reducible refine Kd.C_drew ?_))); (case side2 => exact (Kd.S_reads' HO147.out).2.1); (case side3 => repeat (first | exact (Kd.S_reads' HO151.out).2.2 | (with_reducible refine Kd.C_alloc ?_ _) | (with_reducible refine Kd.C_drewN ?_ _) | (with_reducible refine Kd.C_drew ?_))); (case side4 => exact (Kd.S_reads' HO151.out).2.1); rintro e w55 ⟨v153, rfl, ho0, hb⟩; refine ⟨_, rfl, ?_⟩; have n0_ := Aside0.mk (Kd.S_elder' (by (with_reducible repeat (first | apply Kd.S_alloc | apply Kd.S_drewN | apply Kd.S_drew)); exact HO147.out) (Kd.S_base ho0) hb); have n1_ := Aside0.mk (Kd.S_below (by (with_reducible repeat (first | apply Kd.S_alloc | apply Kd.S_drewN | apply Kd.S_drew)); exact HO151.out) hb); have n2_ := Aside0.mk (Kd.S_lower (Kd.S_new' ho0 (Kd.S_lt (by (with_reducible repeat (first | apply Kd.S_alloc | apply Kd.S_drewN | apply Kd.S_drew)); exact HO147.out))) (below_size (by repeat (first | (with_reducible first | exact HB.out | apply below_alloc | apply pw_below_drewN | apply below_drew1) | exact HB.out)))); have n3_ := Aside0.mk (below_step (by repeat (first | (with_reducible first | exact HB.out | apply below_alloc | apply pw_below_drewN | apply below_drew1) | exact HB.out)) hb); clear HO147; clear HO151; clear HB; have HO147 := n0_; have HO151 := n1_; have HO154 := n2_; have HB := n3_; clear n0_ n1_ n2_ n3_; (try clear hb); (try clear hb2); (try clear hk); (try clear hi); (try clear ho0)) | ((with_reducible refine gate_dst (N := 1) rfl ?_); (try (refine gate_guard (by rfl) ?_; dsimp only)); refine box_event ?hg (N := 1) ?hd (cs := #[.slice none 0 0, .bool false]) (t := 24) ?hr ?_; (case hd => rfl); (case hg => rfl); (case hr => first | (go_simp; done) | (go_simp; rfl)); intro gb158 hg w56 hbox hb; have n0_ := Aside0.mk (Kd.S_below (by (with_reducible repeat (first | apply Kd.S_alloc | apply Kd.S_drewN | apply Kd.S_drew)); exact HO147.out) hb); have n1_ := Aside0.mk (Kd.S_below (by (with_reducible repeat (first | apply Kd.S_alloc | apply Kd.S_drewN | apply Kd.S_drew)); exact HO151.out) hb); have n2_ := Aside0.mk (Kd.S_below (by (with_reducible repeat (first | apply Kd.S_alloc | apply Kd.S_drewN | apply Kd.S_drew)); exact HO154.out) hb); have n3_ := Aside0.mk (below_step (by repeat (first | (with_reducible first | exact HB.out | apply below_alloc | apply pw_below_drewN | apply below_drew1) | exact HB.out)) hb); have n4_ := Aside0.mk (hbox); have n5_ := Aside0.mk ((by rw [hg]; exact (below_size (by repeat (first | (with_reducible first | exact HB.out | apply below_alloc | apply pw_below_drewN | apply below_drew1) | exact HB.out))) : w.heap.size ≤ gb158)); have n6_ := Aside0.mk ((by rw [hg]; exact (below_size (by repeat (first | (with_reducible first | exact HB.out | apply below_alloc | apply pw_below_drewN | apply below_drew1) | exact HB.out))) : w.heap.size ≤ gb158)); clear HO147; clear HO151; clear HO154; clear HB; have HO147 := n0_; have HO151 := n1_; have HO154 := n2_; have HB := n3_; have BK158 := n4_; have GW158 := n5_; have GE158 := n6_; clear n0_ n1_ n2_ n3_ n4_ n5_ n6_; clear hb hbox hg; obtain ⟨Ao57, co57, eo57⟩ := Kd.S_slice HO154.out; subst eo57; have hcz58_0 : w56.cell? ⟨gb158, 0, none⟩ = some (.slice none 0 0) := (blk_cell BK158.out 0).trans rfl; have hcz58_1 : w56.cell? ⟨gb158, 1, none⟩ = some (.bool false) := (blk_cell BK158.out 1).trans rfl; have hfz58_0 := blk_frozen BK158.out 0; have hfz58_1 := blk_frozen BK158.out 1))
    go_ret
    exact ⟨by first | rfl | (simp [errW_none, errW_some] <;> rfl) | (simp [*, errW_none, errW_some] <;> rfl), by repeat (first | (with_reducible first | exact HB.out | apply below_alloc | apply pw_below_drewN | apply below_drew1 | refine below_set ?_ GE158.out) | exact HB.out)⟩

/-- THE ONE PURE STATEMENT of clerestorykeep1_domBegun: yours. -/
def clerestorykeep1_domBegun.Pure : Prop := ∃ k, clerestorykeep1_domBegun.f k  = some true
theorem clerestorykeep1_domBegun.walk (P : clerestorykeep1_domBegun.Pure)  (w : World)  :
    Calls Tryd.prog 6 #[] w fun e w' => e = .returned (.bool true) ∧ Below w.heap.size w w' := by
  obtain ⟨k, h⟩ := P  
  refine (clerestorykeep1_domBegun.calls k  true w h).mono ?_
  rintro e w' ⟨rfl, hd⟩
  exact ⟨rfl, hd⟩

/-! ### clerestorykeep1_few: function 4 -/
def clerestorykeep1_few.f (l0_0 : List (S41)) (a0_1 : Bool) (a1 : Int) : Option ((List (S41)) × Bool) := if 0 ≤ (mn (l0_0.length : Int) a1) then (if (mn (l0_0.length : Int) a1) ≤ (l0_0.length : Int) then (some ((l0_0.take ((mn (l0_0.length : Int) a1) : Int).toNat), a0_1)) else (none)) else (none)
set_option maxHeartbeats 8000000 in
set_option maxRecDepth 100000 in
theorem clerestorykeep1_few.calls (P0_0_ : Nat → Prop) (A0_0 : Option Addr) (c0_0 : Nat) (l0_0 : List (S41)) (a0_1 : Bool) (a1 : Int) (r1 : List (S41)) (r2 : Bool) (w : World) (hs0_0 : Kd.V k41 41 w w.heap.size (fun k_ => P0_0_ k_) (.slice A0_0 l0_0.length c0_0) l0_0) (h : clerestorykeep1_few.f l0_0 a0_1 a1 = some (r1, r2)) :
    Calls Tryd.prog 4 #[.agg #[.slice A0_0 l0_0.length c0_0, .bool a0_1], .int .i64 a1] w fun e w' => ∃ v0_ : Value, e = .returned (.agg #[v0_, .bool r2]) ∧ Kd.V k41 41 w' w.heap.size (fun k_ => (P0_0_ k_ ∨ w.heap.size ≤ k_)) v0_ r1 ∧ Below w.heap.size w w' := by
  have hu_doc := Tryd.underlying24
  have HO0_0 := Aside0.mk (show Kd.V k41 41 w w.heap.size (fun k_ => (P0_0_ k_ ∨ w.heap.size ≤ k_)) (.slice A0_0 l0_0.length c0_0) l0_0 from Kd.V_mono hs0_0 (fun k_ hk => .inl hk))
  have HB := Aside0.mk (Below.refl w.heap.size w)
  have H : (if 0 ≤ (mn (l0_0.length : Int) a1) then (if (mn (l0_0.length : Int) a1) ≤ (l0_0.length : Int) then (some ((l0_0.take ((mn (l0_0.length : Int) a1) : Int).toNat), a0_1)) else (none)) else (none)) = some (r1, r2) := h
  clear h
  obtain ⟨ji3, hji3⟩ : ∃ j_ : Int, (mn (l0_0.length : Int) a1) = j_ := ⟨_, rfl⟩
  replace H : (if 0 ≤ (ji3) then (if (ji3) ≤ (l0_0.length : Int) then (some ((l0_0.take ((ji3) : Int).toNat), a0_1)) else (none)) else (none)) = some (r1, r2) := by first | (rw [hji3] at H; exact H) | (simp only [hji3] at H ⊢; exact H)
  have hji3_ : (if a1 < (l0_0.length : Int) then a1 else (l0_0.length : Int)) = ji3 := hji3
  by_cases c4 : 0 ≤ (ji3)
  · rw [if_pos c4] at H
    have c4b0 := eq_true c4
    have c4b1 : decide (0 ≤ (ji3)) = true := decide_eq_true c4
    clear c4
    by_cases c5 : (ji3) ≤ (l0_0.length : Int)
    · rw [if_pos c5] at H
      have c5b0 := eq_true c5
      have c5b1 : decide ((ji3) ≤ (l0_0.length : Int)) = true := decide_eq_true c5
      clear c5
      obtain ⟨y103, hy103⟩ : ∃ y_ : List (S41), y_ = (l0_0.take ((ji3) : Int).toNat) := ⟨_, rfl⟩
      replace H : (some (y103, a0_1)) = some (r1, r2) := by first | (rw [hy103]; with_reducible exact H) | (have H2_ := (Option.bind_some _ _).symm.trans H; rw [hy103]; with_reducible exact H2_) | (have H2_ := (Option.bind_some _ _).symm.trans H; with_reducible exact H2_) | with_reducible exact H | (rw [hy103]; exact H) | exact H
      have Ny103 := Aside0.mk hy103
      clear hy103
      simp only [Option.some.injEq, Prod.mk.injEq] at H
      obtain ⟨rfl, rfl⟩ := H
      go_enter Tryd.func4, Tryd.ntmps4
      go_wp2_with (first | ((with_reducible refine gate_dst (N := 2) rfl ?_); refine box_event ?hg (N := 2) ?hd (cs := #[.slice A0_0 l0_0.length c0_0, .bool a0_1]) (t := 24) ?hr ?_; (case hd => rfl); (case hg => rfl); (case hr => first | (go_simp; done) | (go_simp; rfl)); intro gb101 hg w6 hbox hb; have n0_ := Aside0.mk (Kd.V_below (Kd.V_elderB (by (with_reducible repeat (first | apply Kd.V_alloc | apply Kd.V_drewN | apply Kd.V_drew)); exact HO0_0.out) gb101 (Nat.le_of_eq hg.symm)) hb); have n1_ := Aside0.mk (below_step (by repeat (first | (with_reducible first | exact HB.out | apply below_alloc | apply pw_below_drewN | apply below_drew1) | exact HB.out)) hb); have n2_ := Aside0.mk (hbox); have n3_ := Aside0.mk ((by rw [hg]; exact (below_size (by repeat (first | (with_reducible first | exact HB.out | apply below_alloc | apply pw_below_drewN | apply below_drew1) | exact HB.out))) : w.heap.size ≤ gb101)); have n4_ := Aside0.mk ((by rw [hg]; exact (below_size (by repeat (first | (with_reducible first | exact HB.out | apply below_alloc | apply pw_below_drewN | apply below_drew1) | exact HB.out))) : w.heap.size ≤ gb101)); clear HO0_0; clear HB; have HO0_0 := n0_; have HB := n1_; have BK101 := n2_; have GW101 := n3_; have GE101 := n4_; clear n0_ n1_ n2_ n3_ n4_; clear hb hbox hg) | ((with_reducible refine gate_dst (N := 4) rfl ?_); refine box_event ?hg (N := 4) ?hd (cs := #[.slice none 0 0, .bool false]) (t := 24) ?hr ?_; (case hd => rfl); (case hg => rfl); (case hr => first | (go_simp; done) | (go_simp; rfl)); intro gb102 hg w7 hbox hb; have n0_ := Aside0.mk (Kd.V_below (Kd.V_elderB (by (with_reducible repeat (first | apply Kd.V_alloc | apply Kd.V_drewN | apply Kd.V_drew)); exact HO0_0.out) gb102 (Nat.le_of_eq hg.symm)) hb); have n1_ := Aside0.mk (blk_below (g := gb101) (o := .cells #[.slice A0_0 l0_0.length c0_0, .bool a0_1] 24 (0, 0)) (by (with_reducible repeat (first | refine blk_drewN ?_ _ | refine blk_drew ?_ | refine blk_alloc ?_ _)); exact BK101.out) hb); have n2_ := Aside0.mk (below_step (by repeat (first | (with_reducible first | exact HB.out | apply below_alloc | apply pw_below_drewN | apply below_drew1 | refine below_set ?_ GE101.out) | exact HB.out)) hb); have n3_ := Aside0.mk (hbox); have n4_ := Aside0.mk ((by rw [hg]; exact (below_size (by repeat (first | (with_reducible first | exact HB.out | apply below_alloc | apply pw_below_drewN | apply below_drew1 | refine below_set ?_ GE101.out) | exact HB.out))) : w.heap.size ≤ gb102)); have n5_ := Aside0.mk ((by rw [hg]; exact (below_size (by repeat (first | (with_reducible first | exact HB.out | apply below_alloc | apply pw_below_drewN | apply below_drew1 | refine below_set ?_ GE101.out) | exact HB.out))) : w.heap.size ≤ gb102)); have n6_ := Aside0.mk ((by rw [hg]; exact Nat.ne_of_lt (blk_lt (g := gb101) (o := .cells #[.slice A0_0 l0_0.length c0_0, .bool a0_1] 24 (0, 0)) (by (with_reducible repeat (first | refine blk_drewN ?_ _ | refine blk_drew ?_ | refine blk_alloc ?_ _)); exact BK101.out)) : gb101 ≠ gb102)); have n7_ := Aside0.mk ((by rw [hg]; exact Nat.ne_of_gt (blk_lt (g := gb101) (o := .cells #[.slice A0_0 l0_0.length c0_0, .bool a0_1] 24 (0, 0)) (by (with_reducible repeat (first | refine blk_drewN ?_ _ | refine blk_drew ?_ | refine blk_alloc ?_ _)); exact BK101.out)) : gb102 ≠ gb101)); clear HO0_0; clear BK101; clear HB; have HO0_0 := n0_; have BK101 := n1_; have HB := n2_; have BK102 := n3_; have GW102 := n4_; have GE102 := n5_; have NB101_102 := n6_; have NB102_101 := n7_; clear n0_ n1_ n2_ n3_ n4_ n5_ n6_ n7_; clear hb hbox hg; have hnb8 := NB101_102.out; have hnc8 := NB102_101.out; have hcz9_0 : w7.cell? ⟨gb101, 0, none⟩ = some (.slice A0_0 l0_0.length c0_0) := (blk_cell BK101.out 0).trans rfl; have hcz9_1 : w7.cell? ⟨gb101, 1, none⟩ = some (.bool a0_1) := (blk_cell BK101.out 1).trans rfl; have hfz9_0 := blk_frozen BK101.out 0; have hfz9_1 := blk_frozen BK101.out 1; have q10 : ((ji3) : Int) ≤ ((l0_0.length : Int) : Int) := of_decide_eq_true (by first | (with_reducible assumption) | assumption); obtain ⟨i010, hi010, _, hsz10, _⟩ := info_parts info41; have hroom10 : l0_0.length ≤ c0_0 := (Kd.V_reads' HO0_0.out).2.1; have hC10 : Kd.F k41 _ _ A0_0 l0_0.length l0_0 := (Kd.V_at (base := w.heap.size) HO0_0.out).2.2; have hcut10 := cut_to (P := Tryd.prog) 22 41 .i64 Tryd.underlying22 hi010 A0_0 l0_0.length c0_0 (ji3) (of_decide_eq_true (by first | (with_reducible assumption) | assumption)) q10 hroom10; have hr10 := Kd.F_take (m := ((ji3) : Int).toNat) hC10 (by omega); have hy10 : y103.length = ((ji3) : Int).toNat := (by rw [Ny103.out, List.length_take]; omega); rw [← Ny103.out] at hr10; rw [← hy10] at hcut10; have HO107 := Aside0.mk (show Kd.V k41 41 _ w.heap.size _ (.slice A0_0 y103.length c0_0) y103 from Kd.V_mk (by omega) hr10); have HC107 := Aside0.mk (show y103.length ≤ c0_0 from by omega); clear hr10 hC10 hroom10 hi010 hsz10; have KY10 := Aside0.mk hy10; clear hy10; replace q10 := eq_true q10; have hcz11_0 : w7.cell? ⟨gb102, 0, none⟩ = some (.slice none 0 0) := (blk_cell BK102.out 0).trans rfl; have hcz11_1 : w7.cell? ⟨gb102, 1, none⟩ = some (.bool false) := (blk_cell BK102.out 1).trans rfl; have hfz11_0 := blk_frozen BK102.out 0; have hfz11_1 := blk_frozen BK102.out 1))
      refine bodyPost_ret (results_cell_row rfl _ _ gb102 24 #[.slice A0_0 y103.length c0_0, .bool a0_1] (0, 0) _ rfl (by (with_reducible repeat (first | refine blk_drewN ?_ _ | refine blk_drew ?_ | refine blk_alloc ?_ _)); refine blk_put (cs := #[.slice A0_0 y103.length c0_0, .bool false]) ?_ 1 _ rfl; (with_reducible repeat (first | refine blk_drewN ?_ _ | refine blk_drew ?_ | refine blk_alloc ?_ _)); refine blk_put (cs := #[.slice none 0 0, .bool false]) ?_ 0 _ rfl; (with_reducible repeat (first | refine blk_drewN ?_ _ | refine blk_drew ?_ | refine blk_alloc ?_ _)); refine blk_far ?_ NB102_101.out _; (with_reducible repeat (first | refine blk_drewN ?_ _ | refine blk_drew ?_ | refine blk_alloc ?_ _)); exact BK102.out) Tryd.underlying24 rfl (by kernel_rfl)) rfl ?_
      exact ⟨_, by first | rfl | (simp [errW_none, errW_some] <;> rfl) | (simp only [← hji3]; first | rfl | (simp [errW_none, errW_some] <;> rfl)) | (simp [*, errW_none, errW_some] <;> rfl), by (with_reducible repeat (first | apply Kd.V_alloc | apply Kd.V_drewN | apply Kd.V_drew)); exact Kd.V_mono (Kd.V_far (p := ⟨gb102, 1, none⟩) (Kd.V_far (p := ⟨gb102, 0, none⟩) (Kd.V_far (p := ⟨gb101, 0, none⟩) (Kd.V_mono (Kd.V_mono HO107.out (fun k_ hk => (⟨hk, hk.1.2⟩ : _ ∧ k_ ≠ gb101))) (fun k_ hk => (⟨hk, hk.1.2⟩ : _ ∧ k_ ≠ gb102))) (fun _ hk => hk.1.2) (.slice A0_0 y103.length c0_0)) (fun _ hk => hk.2) (.slice A0_0 y103.length c0_0)) (fun _ hk => hk.2) (.bool a0_1)) (fun _ hk => hk.1.1.1.1), by repeat (first | (with_reducible first | exact HB.out | apply below_alloc | apply pw_below_drewN | apply below_drew1 | refine below_set ?_ GE101.out | refine below_set ?_ GE102.out) | exact HB.out)⟩
    · rw [if_neg c5] at H
      exact absurd H (by simp)
  · rw [if_neg c4] at H
    exact absurd H (by simp)

end Go.Proofs.YtdakcfacckmjcaaDoor.PDB
