/- Package apart: joined. -/
import Derived.Test.YthfalaabfgpjmaaDoorApD
namespace Go.Proofs.YthfalaabfgpjmaaDoor.ApA
open Go.RowKit Go.Proofs.YthfalaabfgpjmaaDoorW.PrintWords Go.Proofs.YthfalaabfgpjmaaDoorW.PrintLast Go.Proofs.YthfalaabfgpjmaaDoorW.PrintMore Go.Proofs.YthfalaabfgpjmaaDoor.PAP Go.Proofs.YthfalaabfgpjmaaDoor.DocP Go.Proofs.YthfalaabfgpjmaaDoor.DocC
set_option linter.unusedVariables false
set_option linter.unusedSimpArgs false
/-- Two edits, one behind the other, as one (some true), as none (some false), or two (none). -/
def joinB (f0 f1 f2 : Int) (f4 : ByteArray) (h0 h1 : Int) (h4 : ByteArray) : Option Bool :=
  if f0 = 3 ∧ h0 = 3 ∧ f1 = h1 then some true else if f0 = 1 ∧ h0 = 1 ∧ f1 = h1 ∧ f4.toList = h4.toList then some true else if f0 = 5 ∧ h0 = 6 ∧ f2 = h1 then some false else none
/-- What joined leaves. -/
def JoinP (w : World) (r : Option Bool) (cs : Array Value) (u : Ending) (w' : World) : Prop :=
  (∃ A n c, u = .returned (.tuple #[.slice A n c, .bool r.isSome]) ∧ (r = some true → n = 1 ∧ ∃ g, A = some ⟨g, 0, none⟩ ∧ w.heap.size ≤ g ∧ w'.heap[g]? = some (.cells cs 30 (0, 0))) ∧ (r = some false → n = 0 ∧ A = none)) ∧ Below w.heap.size w w'
set_option maxRecDepth 100000 in
set_option maxHeartbeats 4000000 in
theorem join_text (w : World) (A8 A11 B8 B11 : Option Addr) (n8 n11 c8 c11 p8 p11 d8 d11 : Nat) (f0 f1 f2 f3 g0 g4 h0 h1 h2 h3 j0 j4 : Int) (f4 f5 g1 g3 h4 h5 j1 j3 : ByteArray) (a : f0 = 3) (b : h0 = 3) (c : f1 = h1) : Calls Tryd.prog 24 #[.agg #[.int .i64 f0, .int .i64 f1, .int .i64 f2, .int .i64 f3, .string f4, .string f5, .int .i64 g0, .string g1, .slice A8 n8 c8, .string g3, .int .i64 g4, .slice A11 n11 c11], .agg #[.int .i64 h0, .int .i64 h1, .int .i64 h2, .int .i64 h3, .string h4, .string h5, .int .i64 j0, .string j1, .slice B8 p8 d8, .string j3, .int .i64 j4, .slice B11 p11 d11]] w (JoinP w (some true) #[.int .i64 h0, .int .i64 h1, .int .i64 h2, .int .i64 h3, .string h4, .string h5, .int .i64 j0, .string j1, .slice B8 p8 d8, .string j3, .int .i64 j4, .slice B11 p11 d11]) := by
  have x1 : (f0 == 3) = true := beq_iff_eq.2 (by omega)
  have x2 : (h0 == 3) = true := beq_iff_eq.2 (by omega)
  have x3 : (f1 == h1) = true := beq_iff_eq.2 (by omega)
  clear a b c
  go_enter Tryd.func24, Tryd.ntmps24
  go_wp2_with fail
  go_ret2
  exact ⟨⟨_, _, _, rfl, (fun _ => ⟨rfl, w.heap.size + 1 + 1, rfl, (by omega), by simpa using blk_new ((w.alloc (.cells #[.int .i64 f0, .int .i64 f1, .int .i64 f2, .int .i64 f3, .string f4, .string f5, .int .i64 g0, .string g1, .slice A8 n8 c8, .string g3, .int .i64 g4, .slice A11 n11 c11] 30)).alloc (.cells #[.int .i64 h0, .int .i64 h1, .int .i64 h2, .int .i64 h3, .string h4, .string h5, .int .i64 j0, .string j1, .slice B8 p8 d8, .string j3, .int .i64 j4, .slice B11 p11 d11] 30)) (.cells #[.int .i64 h0, .int .i64 h1, .int .i64 h2, .int .i64 h3, .string h4, .string h5, .int .i64 j0, .string j1, .slice B8 p8 d8, .string j3, .int .i64 j4, .slice B11 p11 d11] 30)⟩), (fun h => by cases h)⟩, ((((Below.refl _ w).alloc (Nat.le_refl _) _).alloc (by simp) _)).alloc (by simp; omega) _⟩
set_option maxRecDepth 100000 in
set_option maxHeartbeats 4000000 in
theorem join_attr (w : World) (A8 A11 B8 B11 : Option Addr) (n8 n11 c8 c11 p8 p11 d8 d11 : Nat) (f0 f1 f2 f3 g0 g4 h0 h1 h2 h3 j0 j4 : Int) (f4 f5 g1 g3 h4 h5 j1 j3 : ByteArray) (a : f0 = 1) (b : h0 = 1) (c : f1 = h1) (d : f4.toList = h4.toList) : Calls Tryd.prog 24 #[.agg #[.int .i64 f0, .int .i64 f1, .int .i64 f2, .int .i64 f3, .string f4, .string f5, .int .i64 g0, .string g1, .slice A8 n8 c8, .string g3, .int .i64 g4, .slice A11 n11 c11], .agg #[.int .i64 h0, .int .i64 h1, .int .i64 h2, .int .i64 h3, .string h4, .string h5, .int .i64 j0, .string j1, .slice B8 p8 d8, .string j3, .int .i64 j4, .slice B11 p11 d11]] w (JoinP w (some true) #[.int .i64 h0, .int .i64 h1, .int .i64 h2, .int .i64 h3, .string h4, .string h5, .int .i64 j0, .string j1, .slice B8 p8 d8, .string j3, .int .i64 j4, .slice B11 p11 d11]) := by
  have x0 : (f0 == 3) = false := beq_eq_false_iff_ne.2 (by omega)
  have x1 : (f0 == 1) = true := beq_iff_eq.2 (by omega)
  have x2 : (h0 == 1) = true := beq_iff_eq.2 (by omega)
  have x3 : (f1 == h1) = true := beq_iff_eq.2 (by omega)
  have x4 : (f4.toList == h4.toList) = true := by simpa using d
  clear a b c d
  go_enter Tryd.func24, Tryd.ntmps24
  go_wp2_with fail
  go_ret2
  exact ⟨⟨_, _, _, rfl, (fun _ => ⟨rfl, w.heap.size + 1 + 1, rfl, (by omega), by simpa using blk_new ((w.alloc (.cells #[.int .i64 f0, .int .i64 f1, .int .i64 f2, .int .i64 f3, .string f4, .string f5, .int .i64 g0, .string g1, .slice A8 n8 c8, .string g3, .int .i64 g4, .slice A11 n11 c11] 30)).alloc (.cells #[.int .i64 h0, .int .i64 h1, .int .i64 h2, .int .i64 h3, .string h4, .string h5, .int .i64 j0, .string j1, .slice B8 p8 d8, .string j3, .int .i64 j4, .slice B11 p11 d11] 30)) (.cells #[.int .i64 h0, .int .i64 h1, .int .i64 h2, .int .i64 h3, .string h4, .string h5, .int .i64 j0, .string j1, .slice B8 p8 d8, .string j3, .int .i64 j4, .slice B11 p11 d11] 30)⟩), (fun h => by cases h)⟩, ((((Below.refl _ w).alloc (Nat.le_refl _) _).alloc (by simp) _)).alloc (by simp; omega) _⟩
set_option maxRecDepth 100000 in
set_option maxHeartbeats 4000000 in
theorem join_gone (w : World) (A8 A11 B8 B11 : Option Addr) (n8 n11 c8 c11 p8 p11 d8 d11 : Nat) (f0 f1 f2 f3 g0 g4 h0 h1 h2 h3 j0 j4 : Int) (f4 f5 g1 g3 h4 h5 j1 j3 : ByteArray) (a : f0 = 5) (b : h0 = 6) (c : f2 = h1) : Calls Tryd.prog 24 #[.agg #[.int .i64 f0, .int .i64 f1, .int .i64 f2, .int .i64 f3, .string f4, .string f5, .int .i64 g0, .string g1, .slice A8 n8 c8, .string g3, .int .i64 g4, .slice A11 n11 c11], .agg #[.int .i64 h0, .int .i64 h1, .int .i64 h2, .int .i64 h3, .string h4, .string h5, .int .i64 j0, .string j1, .slice B8 p8 d8, .string j3, .int .i64 j4, .slice B11 p11 d11]] w (JoinP w (some false) #[.int .i64 h0, .int .i64 h1, .int .i64 h2, .int .i64 h3, .string h4, .string h5, .int .i64 j0, .string j1, .slice B8 p8 d8, .string j3, .int .i64 j4, .slice B11 p11 d11]) := by
  have x0 : (f0 == 3) = false := beq_eq_false_iff_ne.2 (by omega)
  have x9 : (f0 == 1) = false := beq_eq_false_iff_ne.2 (by omega)
  have x1 : (f0 == 5) = true := beq_iff_eq.2 (by omega)
  have x2 : (h0 == 6) = true := beq_iff_eq.2 (by omega)
  have x3 : (f2 == h1) = true := beq_iff_eq.2 (by omega)
  clear a b c
  go_enter Tryd.func24, Tryd.ntmps24
  go_wp2_with fail
  go_ret2
  exact ⟨⟨_, _, _, rfl, (fun h => by cases h), (fun _ => ⟨rfl, rfl⟩)⟩, ((((Below.refl _ w).alloc (Nat.le_refl _) _).alloc (by simp) _))⟩
set_option maxRecDepth 100000 in
set_option maxHeartbeats 4000000 in
theorem join_n1 (w : World) (A8 A11 B8 B11 : Option Addr) (n8 n11 c8 c11 p8 p11 d8 d11 : Nat) (f0 f1 f2 f3 g0 g4 h0 h1 h2 h3 j0 j4 : Int) (f4 f5 g1 g3 h4 h5 j1 j3 : ByteArray) (a : f0 ≠ 3) (b : f0 ≠ 1) (c : f0 ≠ 5) : Calls Tryd.prog 24 #[.agg #[.int .i64 f0, .int .i64 f1, .int .i64 f2, .int .i64 f3, .string f4, .string f5, .int .i64 g0, .string g1, .slice A8 n8 c8, .string g3, .int .i64 g4, .slice A11 n11 c11], .agg #[.int .i64 h0, .int .i64 h1, .int .i64 h2, .int .i64 h3, .string h4, .string h5, .int .i64 j0, .string j1, .slice B8 p8 d8, .string j3, .int .i64 j4, .slice B11 p11 d11]] w (JoinP w none #[.int .i64 h0, .int .i64 h1, .int .i64 h2, .int .i64 h3, .string h4, .string h5, .int .i64 j0, .string j1, .slice B8 p8 d8, .string j3, .int .i64 j4, .slice B11 p11 d11]) := by
  have y3 : (f0 == 3) = false := beq_eq_false_iff_ne.2 (by omega)
  have y1 : (f0 == 1) = false := beq_eq_false_iff_ne.2 (by omega)
  have y5 : (f0 == 5) = false := beq_eq_false_iff_ne.2 (by omega)
  clear a b c
  go_enter Tryd.func24, Tryd.ntmps24
  go_wp2_with fail
  go_ret2
  exact ⟨⟨_, _, _, rfl, (fun h => by cases h), (fun h => by cases h)⟩, ((((Below.refl _ w).alloc (Nat.le_refl _) _).alloc (by simp) _))⟩
set_option maxRecDepth 100000 in
set_option maxHeartbeats 4000000 in
theorem join_n2 (w : World) (A8 A11 B8 B11 : Option Addr) (n8 n11 c8 c11 p8 p11 d8 d11 : Nat) (f0 f1 f2 f3 g0 g4 h0 h1 h2 h3 j0 j4 : Int) (f4 f5 g1 g3 h4 h5 j1 j3 : ByteArray) (a : f0 = 3) (b : h0 ≠ 3) : Calls Tryd.prog 24 #[.agg #[.int .i64 f0, .int .i64 f1, .int .i64 f2, .int .i64 f3, .string f4, .string f5, .int .i64 g0, .string g1, .slice A8 n8 c8, .string g3, .int .i64 g4, .slice A11 n11 c11], .agg #[.int .i64 h0, .int .i64 h1, .int .i64 h2, .int .i64 h3, .string h4, .string h5, .int .i64 j0, .string j1, .slice B8 p8 d8, .string j3, .int .i64 j4, .slice B11 p11 d11]] w (JoinP w none #[.int .i64 h0, .int .i64 h1, .int .i64 h2, .int .i64 h3, .string h4, .string h5, .int .i64 j0, .string j1, .slice B8 p8 d8, .string j3, .int .i64 j4, .slice B11 p11 d11]) := by
  have x1 : (f0 == 3) = true := beq_iff_eq.2 (by omega)
  have y1 : (f0 == 1) = false := beq_eq_false_iff_ne.2 (by omega)
  have y5 : (f0 == 5) = false := beq_eq_false_iff_ne.2 (by omega)
  have x2 : (h0 == 3) = false := beq_eq_false_iff_ne.2 (by omega)
  clear a b
  go_enter Tryd.func24, Tryd.ntmps24
  go_wp2_with fail
  go_ret2
  exact ⟨⟨_, _, _, rfl, (fun h => by cases h), (fun h => by cases h)⟩, ((((Below.refl _ w).alloc (Nat.le_refl _) _).alloc (by simp) _))⟩
set_option maxRecDepth 100000 in
set_option maxHeartbeats 4000000 in
theorem join_n3 (w : World) (A8 A11 B8 B11 : Option Addr) (n8 n11 c8 c11 p8 p11 d8 d11 : Nat) (f0 f1 f2 f3 g0 g4 h0 h1 h2 h3 j0 j4 : Int) (f4 f5 g1 g3 h4 h5 j1 j3 : ByteArray) (a : f0 = 3) (b : h0 = 3) (c : f1 ≠ h1) : Calls Tryd.prog 24 #[.agg #[.int .i64 f0, .int .i64 f1, .int .i64 f2, .int .i64 f3, .string f4, .string f5, .int .i64 g0, .string g1, .slice A8 n8 c8, .string g3, .int .i64 g4, .slice A11 n11 c11], .agg #[.int .i64 h0, .int .i64 h1, .int .i64 h2, .int .i64 h3, .string h4, .string h5, .int .i64 j0, .string j1, .slice B8 p8 d8, .string j3, .int .i64 j4, .slice B11 p11 d11]] w (JoinP w none #[.int .i64 h0, .int .i64 h1, .int .i64 h2, .int .i64 h3, .string h4, .string h5, .int .i64 j0, .string j1, .slice B8 p8 d8, .string j3, .int .i64 j4, .slice B11 p11 d11]) := by
  have x1 : (f0 == 3) = true := beq_iff_eq.2 (by omega)
  have y1 : (f0 == 1) = false := beq_eq_false_iff_ne.2 (by omega)
  have y5 : (f0 == 5) = false := beq_eq_false_iff_ne.2 (by omega)
  have x2 : (h0 == 3) = true := beq_iff_eq.2 (by omega)
  have x3 : (f1 == h1) = false := beq_eq_false_iff_ne.2 (by omega)
  clear a b c
  go_enter Tryd.func24, Tryd.ntmps24
  go_wp2_with fail
  go_ret2
  exact ⟨⟨_, _, _, rfl, (fun h => by cases h), (fun h => by cases h)⟩, ((((Below.refl _ w).alloc (Nat.le_refl _) _).alloc (by simp) _))⟩
set_option maxRecDepth 100000 in
set_option maxHeartbeats 4000000 in
theorem join_n4 (w : World) (A8 A11 B8 B11 : Option Addr) (n8 n11 c8 c11 p8 p11 d8 d11 : Nat) (f0 f1 f2 f3 g0 g4 h0 h1 h2 h3 j0 j4 : Int) (f4 f5 g1 g3 h4 h5 j1 j3 : ByteArray) (a : f0 = 1) (b : h0 ≠ 1) : Calls Tryd.prog 24 #[.agg #[.int .i64 f0, .int .i64 f1, .int .i64 f2, .int .i64 f3, .string f4, .string f5, .int .i64 g0, .string g1, .slice A8 n8 c8, .string g3, .int .i64 g4, .slice A11 n11 c11], .agg #[.int .i64 h0, .int .i64 h1, .int .i64 h2, .int .i64 h3, .string h4, .string h5, .int .i64 j0, .string j1, .slice B8 p8 d8, .string j3, .int .i64 j4, .slice B11 p11 d11]] w (JoinP w none #[.int .i64 h0, .int .i64 h1, .int .i64 h2, .int .i64 h3, .string h4, .string h5, .int .i64 j0, .string j1, .slice B8 p8 d8, .string j3, .int .i64 j4, .slice B11 p11 d11]) := by
  have x1 : (f0 == 1) = true := beq_iff_eq.2 (by omega)
  have y3 : (f0 == 3) = false := beq_eq_false_iff_ne.2 (by omega)
  have y5 : (f0 == 5) = false := beq_eq_false_iff_ne.2 (by omega)
  have x2 : (h0 == 1) = false := beq_eq_false_iff_ne.2 (by omega)
  clear a b
  go_enter Tryd.func24, Tryd.ntmps24
  go_wp2_with fail
  go_ret2
  exact ⟨⟨_, _, _, rfl, (fun h => by cases h), (fun h => by cases h)⟩, ((((Below.refl _ w).alloc (Nat.le_refl _) _).alloc (by simp) _))⟩
set_option maxRecDepth 100000 in
set_option maxHeartbeats 4000000 in
theorem join_n5 (w : World) (A8 A11 B8 B11 : Option Addr) (n8 n11 c8 c11 p8 p11 d8 d11 : Nat) (f0 f1 f2 f3 g0 g4 h0 h1 h2 h3 j0 j4 : Int) (f4 f5 g1 g3 h4 h5 j1 j3 : ByteArray) (a : f0 = 1) (b : h0 = 1) (c : f1 ≠ h1) : Calls Tryd.prog 24 #[.agg #[.int .i64 f0, .int .i64 f1, .int .i64 f2, .int .i64 f3, .string f4, .string f5, .int .i64 g0, .string g1, .slice A8 n8 c8, .string g3, .int .i64 g4, .slice A11 n11 c11], .agg #[.int .i64 h0, .int .i64 h1, .int .i64 h2, .int .i64 h3, .string h4, .string h5, .int .i64 j0, .string j1, .slice B8 p8 d8, .string j3, .int .i64 j4, .slice B11 p11 d11]] w (JoinP w none #[.int .i64 h0, .int .i64 h1, .int .i64 h2, .int .i64 h3, .string h4, .string h5, .int .i64 j0, .string j1, .slice B8 p8 d8, .string j3, .int .i64 j4, .slice B11 p11 d11]) := by
  have x1 : (f0 == 1) = true := beq_iff_eq.2 (by omega)
  have y3 : (f0 == 3) = false := beq_eq_false_iff_ne.2 (by omega)
  have y5 : (f0 == 5) = false := beq_eq_false_iff_ne.2 (by omega)
  have x2 : (h0 == 1) = true := beq_iff_eq.2 (by omega)
  have x3 : (f1 == h1) = false := beq_eq_false_iff_ne.2 (by omega)
  clear a b c
  go_enter Tryd.func24, Tryd.ntmps24
  go_wp2_with fail
  go_ret2
  exact ⟨⟨_, _, _, rfl, (fun h => by cases h), (fun h => by cases h)⟩, ((((Below.refl _ w).alloc (Nat.le_refl _) _).alloc (by simp) _))⟩
set_option maxRecDepth 100000 in
set_option maxHeartbeats 4000000 in
theorem join_n6 (w : World) (A8 A11 B8 B11 : Option Addr) (n8 n11 c8 c11 p8 p11 d8 d11 : Nat) (f0 f1 f2 f3 g0 g4 h0 h1 h2 h3 j0 j4 : Int) (f4 f5 g1 g3 h4 h5 j1 j3 : ByteArray) (a : f0 = 1) (b : h0 = 1) (c : f1 = h1) (d : f4.toList ≠ h4.toList) : Calls Tryd.prog 24 #[.agg #[.int .i64 f0, .int .i64 f1, .int .i64 f2, .int .i64 f3, .string f4, .string f5, .int .i64 g0, .string g1, .slice A8 n8 c8, .string g3, .int .i64 g4, .slice A11 n11 c11], .agg #[.int .i64 h0, .int .i64 h1, .int .i64 h2, .int .i64 h3, .string h4, .string h5, .int .i64 j0, .string j1, .slice B8 p8 d8, .string j3, .int .i64 j4, .slice B11 p11 d11]] w (JoinP w none #[.int .i64 h0, .int .i64 h1, .int .i64 h2, .int .i64 h3, .string h4, .string h5, .int .i64 j0, .string j1, .slice B8 p8 d8, .string j3, .int .i64 j4, .slice B11 p11 d11]) := by
  have x1 : (f0 == 1) = true := beq_iff_eq.2 (by omega)
  have y3 : (f0 == 3) = false := beq_eq_false_iff_ne.2 (by omega)
  have y5 : (f0 == 5) = false := beq_eq_false_iff_ne.2 (by omega)
  have x2 : (h0 == 1) = true := beq_iff_eq.2 (by omega)
  have x3 : (f1 == h1) = true := beq_iff_eq.2 (by omega)
  have x4 : (f4.toList == h4.toList) = false := by simpa using d
  clear a b c d
  go_enter Tryd.func24, Tryd.ntmps24
  go_wp2_with fail
  go_ret2
  exact ⟨⟨_, _, _, rfl, (fun h => by cases h), (fun h => by cases h)⟩, ((((Below.refl _ w).alloc (Nat.le_refl _) _).alloc (by simp) _))⟩
set_option maxRecDepth 100000 in
set_option maxHeartbeats 4000000 in
theorem join_n7 (w : World) (A8 A11 B8 B11 : Option Addr) (n8 n11 c8 c11 p8 p11 d8 d11 : Nat) (f0 f1 f2 f3 g0 g4 h0 h1 h2 h3 j0 j4 : Int) (f4 f5 g1 g3 h4 h5 j1 j3 : ByteArray) (a : f0 = 5) (b : h0 ≠ 6) : Calls Tryd.prog 24 #[.agg #[.int .i64 f0, .int .i64 f1, .int .i64 f2, .int .i64 f3, .string f4, .string f5, .int .i64 g0, .string g1, .slice A8 n8 c8, .string g3, .int .i64 g4, .slice A11 n11 c11], .agg #[.int .i64 h0, .int .i64 h1, .int .i64 h2, .int .i64 h3, .string h4, .string h5, .int .i64 j0, .string j1, .slice B8 p8 d8, .string j3, .int .i64 j4, .slice B11 p11 d11]] w (JoinP w none #[.int .i64 h0, .int .i64 h1, .int .i64 h2, .int .i64 h3, .string h4, .string h5, .int .i64 j0, .string j1, .slice B8 p8 d8, .string j3, .int .i64 j4, .slice B11 p11 d11]) := by
  have x1 : (f0 == 5) = true := beq_iff_eq.2 (by omega)
  have y3 : (f0 == 3) = false := beq_eq_false_iff_ne.2 (by omega)
  have y1 : (f0 == 1) = false := beq_eq_false_iff_ne.2 (by omega)
  have x2 : (h0 == 6) = false := beq_eq_false_iff_ne.2 (by omega)
  clear a b
  go_enter Tryd.func24, Tryd.ntmps24
  go_wp2_with fail
  go_ret2
  exact ⟨⟨_, _, _, rfl, (fun h => by cases h), (fun h => by cases h)⟩, ((((Below.refl _ w).alloc (Nat.le_refl _) _).alloc (by simp) _))⟩
set_option maxRecDepth 100000 in
set_option maxHeartbeats 4000000 in
theorem join_n8 (w : World) (A8 A11 B8 B11 : Option Addr) (n8 n11 c8 c11 p8 p11 d8 d11 : Nat) (f0 f1 f2 f3 g0 g4 h0 h1 h2 h3 j0 j4 : Int) (f4 f5 g1 g3 h4 h5 j1 j3 : ByteArray) (a : f0 = 5) (b : h0 = 6) (c : f2 ≠ h1) : Calls Tryd.prog 24 #[.agg #[.int .i64 f0, .int .i64 f1, .int .i64 f2, .int .i64 f3, .string f4, .string f5, .int .i64 g0, .string g1, .slice A8 n8 c8, .string g3, .int .i64 g4, .slice A11 n11 c11], .agg #[.int .i64 h0, .int .i64 h1, .int .i64 h2, .int .i64 h3, .string h4, .string h5, .int .i64 j0, .string j1, .slice B8 p8 d8, .string j3, .int .i64 j4, .slice B11 p11 d11]] w (JoinP w none #[.int .i64 h0, .int .i64 h1, .int .i64 h2, .int .i64 h3, .string h4, .string h5, .int .i64 j0, .string j1, .slice B8 p8 d8, .string j3, .int .i64 j4, .slice B11 p11 d11]) := by
  have x1 : (f0 == 5) = true := beq_iff_eq.2 (by omega)
  have y3 : (f0 == 3) = false := beq_eq_false_iff_ne.2 (by omega)
  have y1 : (f0 == 1) = false := beq_eq_false_iff_ne.2 (by omega)
  have x2 : (h0 == 6) = true := beq_iff_eq.2 (by omega)
  have x3 : (f2 == h1) = false := beq_eq_false_iff_ne.2 (by omega)
  clear a b c
  go_enter Tryd.func24, Tryd.ntmps24
  go_wp2_with fail
  go_ret2
  exact ⟨⟨_, _, _, rfl, (fun h => by cases h), (fun h => by cases h)⟩, ((((Below.refl _ w).alloc (Nat.le_refl _) _).alloc (by simp) _))⟩
theorem joined_calls (w : World) (A8 A11 B8 B11 : Option Addr) (n8 n11 c8 c11 p8 p11 d8 d11 : Nat) (f0 f1 f2 f3 g0 g4 h0 h1 h2 h3 j0 j4 : Int) (f4 f5 g1 g3 h4 h5 j1 j3 : ByteArray) : Calls Tryd.prog 24 #[.agg #[.int .i64 f0, .int .i64 f1, .int .i64 f2, .int .i64 f3, .string f4, .string f5, .int .i64 g0, .string g1, .slice A8 n8 c8, .string g3, .int .i64 g4, .slice A11 n11 c11], .agg #[.int .i64 h0, .int .i64 h1, .int .i64 h2, .int .i64 h3, .string h4, .string h5, .int .i64 j0, .string j1, .slice B8 p8 d8, .string j3, .int .i64 j4, .slice B11 p11 d11]] w (JoinP w (joinB f0 f1 f2 f4 h0 h1 h4) #[.int .i64 h0, .int .i64 h1, .int .i64 h2, .int .i64 h3, .string h4, .string h5, .int .i64 j0, .string j1, .slice B8 p8 d8, .string j3, .int .i64 j4, .slice B11 p11 d11]) := by
  unfold joinB
  by_cases a3 : f0 = 3
  · by_cases b3 : h0 = 3
    · by_cases c3 : f1 = h1
      · rw [if_pos ⟨a3, b3, c3⟩]; exact join_text w A8 A11 B8 B11 n8 n11 c8 c11 p8 p11 d8 d11 f0 f1 f2 f3 g0 g4 h0 h1 h2 h3 j0 j4 f4 f5 g1 g3 h4 h5 j1 j3 a3 b3 c3
      · rw [if_neg (fun h => c3 h.2.2), if_neg (fun h => by have := h.1; omega), if_neg (fun h => by have := h.1; omega)]; exact join_n3 w A8 A11 B8 B11 n8 n11 c8 c11 p8 p11 d8 d11 f0 f1 f2 f3 g0 g4 h0 h1 h2 h3 j0 j4 f4 f5 g1 g3 h4 h5 j1 j3 a3 b3 c3
    · rw [if_neg (fun h => b3 h.2.1), if_neg (fun h => by have := h.1; omega), if_neg (fun h => by have := h.1; omega)]; exact join_n2 w A8 A11 B8 B11 n8 n11 c8 c11 p8 p11 d8 d11 f0 f1 f2 f3 g0 g4 h0 h1 h2 h3 j0 j4 f4 f5 g1 g3 h4 h5 j1 j3 a3 b3
  rw [if_neg (fun h => a3 h.1)]
  by_cases a1 : f0 = 1
  · by_cases b1 : h0 = 1
    · by_cases c1 : f1 = h1
      · by_cases d1 : f4.toList = h4.toList
        · rw [if_pos ⟨a1, b1, c1, d1⟩]; exact join_attr w A8 A11 B8 B11 n8 n11 c8 c11 p8 p11 d8 d11 f0 f1 f2 f3 g0 g4 h0 h1 h2 h3 j0 j4 f4 f5 g1 g3 h4 h5 j1 j3 a1 b1 c1 d1
        · rw [if_neg (fun h => d1 h.2.2.2), if_neg (fun h => by have := h.1; omega)]; exact join_n6 w A8 A11 B8 B11 n8 n11 c8 c11 p8 p11 d8 d11 f0 f1 f2 f3 g0 g4 h0 h1 h2 h3 j0 j4 f4 f5 g1 g3 h4 h5 j1 j3 a1 b1 c1 d1
      · rw [if_neg (fun h => c1 h.2.2.1), if_neg (fun h => by have := h.1; omega)]; exact join_n5 w A8 A11 B8 B11 n8 n11 c8 c11 p8 p11 d8 d11 f0 f1 f2 f3 g0 g4 h0 h1 h2 h3 j0 j4 f4 f5 g1 g3 h4 h5 j1 j3 a1 b1 c1
    · rw [if_neg (fun h => b1 h.2.1), if_neg (fun h => by have := h.1; omega)]; exact join_n4 w A8 A11 B8 B11 n8 n11 c8 c11 p8 p11 d8 d11 f0 f1 f2 f3 g0 g4 h0 h1 h2 h3 j0 j4 f4 f5 g1 g3 h4 h5 j1 j3 a1 b1
  rw [if_neg (fun h => a1 h.1)]
  by_cases a5 : f0 = 5
  · by_cases b5 : h0 = 6
    · by_cases c5 : f2 = h1
      · rw [if_pos ⟨a5, b5, c5⟩]; exact join_gone w A8 A11 B8 B11 n8 n11 c8 c11 p8 p11 d8 d11 f0 f1 f2 f3 g0 g4 h0 h1 h2 h3 j0 j4 f4 f5 g1 g3 h4 h5 j1 j3 a5 b5 c5
      · rw [if_neg (fun h => c5 h.2.2)]; exact join_n8 w A8 A11 B8 B11 n8 n11 c8 c11 p8 p11 d8 d11 f0 f1 f2 f3 g0 g4 h0 h1 h2 h3 j0 j4 f4 f5 g1 g3 h4 h5 j1 j3 a5 b5 c5
    · rw [if_neg (fun h => b5 h.2.1)]; exact join_n7 w A8 A11 B8 B11 n8 n11 c8 c11 p8 p11 d8 d11 f0 f1 f2 f3 g0 g4 h0 h1 h2 h3 j0 j4 f4 f5 g1 g3 h4 h5 j1 j3 a5 b5
  rw [if_neg (fun h => a5 h.1)]
  exact join_n1 w A8 A11 B8 B11 n8 n11 c8 c11 p8 p11 d8 d11 f0 f1 f2 f3 g0 g4 h0 h1 h2 h3 j0 j4 f4 f5 g1 g3 h4 h5 j1 j3 a3 a1 a5
end Go.Proofs.YthfalaabfgpjmaaDoor.ApA
