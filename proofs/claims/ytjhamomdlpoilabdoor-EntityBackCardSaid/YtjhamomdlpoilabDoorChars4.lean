/- Package chars: signs, Clean. -/
import Derived.Test.YtjhamomdlpoilabDoorChars3
namespace Go.Proofs.YtjhamomdlpoilabDoor.Chars
open Go.RowKit Go.Shelf Go.Proofs.YtjhamomdlpoilabDoorW.PrintWords
set_option linter.unusedVariables false
set_option linter.unusedSimpArgs false
attribute [local go_sem] Oper.semAt_some

set_option maxHeartbeats 1000000 in
theorem signs_in (F : Fence) (n : Nat) (hF : F = Fence.wide) (s : ByteArray) (w : World) :
    CallsIn F n Tryd.prog 23 #[.string s] w fun e w' => e = .returned (.func (.func 37) #[] #[.pointer (some ⟨w.heap.size, 0, none⟩)]) ∧ w' = w.alloc (.cells #[.string s] 9) := by
  subst hF
  refine callsIn_of_wp Tryd.func23 rfl trivial ?_ rfl
  simp only [Tryd.ntmps23, List.size_toArray, List.length_cons, List.length_nil, Nat.reduceAdd, Nat.reduceSub, Array.replicate_succ, Array.replicate_zero, List.push_toArray, List.append_toArray, List.nil_append, List.cons_append]
  gi_wp2
  go_ret
  exact ⟨rfl, rfl⟩

theorem signs_stops (n : Nat) (hn : 3 ≤ n) (s : ByteArray) (hs : s.size ≤ 1000000) (Bs : Nat) (w : World) (hBs : w.heap[Bs]? = some (.cells #[.string s] 9 (0, 0))) :
    SeqStopsK Fence.wide n Tryd.prog 37 #[.pointer (some ⟨Bs, 0, none⟩)] (fun x : Sg => #[Value.int .i64 (x.1.1 : Int), .int .i32 x.1.2]) (KeepBox Bs) (fun ys => vals ys = signsF s.data.toList) (fun pre => vals pre <+: signsF s.data.toList) s.size w := fun l J Jx W hW hJ hJx hY h0 => by
  have hlt : Bs < w.heap.size := (Array.getElem?_eq_some_iff.1 hBs).1
  have hB : W.heap[Bs]? = some (.cells #[.string s] 9 (0, 0)) := (hW.block Bs hlt).trans hBs
  exact signs1_in Fence.wide n rfl hn l Bs s hs J Jx hY hJ W hB h0

theorem keepBox_t {B : Nat} {X Y Z : World} (h : KeepBox B X Y) (k : KeepBox B Y Z) : KeepBox B X Z := Eq.trans k h
theorem keepBox_b {B : Nat} {w : World} (hB : B < w.heap.size) (W : World) (l : Nat) (o o' : Obj) (hl : w.heap.size ≤ l) (h : W.heap[l]? = some o) (_ : o.isCells = false) (_ : o.isWalk = false) : KeepBox B W (W.putObj l o') :=
  World.putObj_heap_other (by omega)
/-- The turn of a block that is no cells leaves a builder what it was. -/
theorem builder_own {β : Type} (T e : TypeId) (B b : Nat) (f : β → List Value) : Own (fun s W => Lib.IsBuilderF T e B b (f s) W) := by
  have key : ∀ (p : Value) (bs : List Value) (X Y : World) (row : Option Nat), Lib.BuilderAtF T e B b p bs X → X.grownBy Y row → (∀ r, row = some r → ∃ o : Obj, X.heap[r]? = some o ∧ o.isCells = false) → Lib.BuilderAtF T e B b p bs Y := by
    rintro p bs X Y row ⟨hB, v, hb, hown, hne⟩ hg hrow
    refine ⟨hB, v, (hg.block b (Array.getElem?_eq_some_iff.1 hb).1 (fun e' => ?_)).trans hb, hown.kept hg ?_, hne⟩
    · obtain ⟨o, ho, hc⟩ := hrow b e'.symm
      rw [hb] at ho; cases ho; cases hc
    · rcases hown.2 with ⟨rfl, _⟩ | ⟨g, cap, cur, fz, rfl, _, hgb, _⟩
      · exact .inl rfl
      · refine .inr fun e' => ?_
        obtain ⟨o, ho, hc⟩ := hrow g (by simpa [Value.ownBlock] using e'.symm)
        rw [hgb] at ho; cases ho; cases hc
  intro s X Y row h hg hrow
  exact h.elim (fun x => .inl (key _ _ _ _ _ x hg hrow)) (fun x => .inr (key _ _ _ _ _ x hg hrow))
theorem _root_.Go.Lib.IsBuilderF.at {T e : TypeId} {B b : Nat} {bs : List Value} {w : World} (h : Lib.IsBuilderF T e B b bs w) : ∃ cs, w.heap[b]? = some (.cells cs T (0, 0)) := by
  rcases h with ⟨_, v, hb, _⟩ | ⟨_, v, hb, _⟩ <;> exact ⟨_, hb⟩
/-- What a write into a builder keeps: whatever is no cells. -/
theorem keepsOthers_of_builder {T e : TypeId} {B b : Nat} {bs : List Value} {w w' : World} (h : Lib.IsBuilderF T e B b bs w) (hk : Lib.OthersKept e (some b) w w') (hs : w.heap.size ≤ w'.heap.size) : KeepsOthers w w' :=
  ⟨hs, fun k o hk' ho => by
    refine hk k o hk' ?_ ?_
    · intro e'
      cases e'
      obtain ⟨cs, hc⟩ := h.at
      rw [hc] at hk'; cases hk'; cases ho
    · intro c fz e'
      subst e'
      cases ho⟩
/-- A store into a box leaves a builder what it was. -/
theorem builder_setBox {T e t : TypeId} {B b Bx : Nat} {bs : List Value} {w : World} {u : Value} (h : Lib.IsBuilderF T e B b bs w) (hx : Boxed w Bx t u) (hbx : b ≠ Bx) (hte : t ≠ e) (u' : Value) : Lib.IsBuilderF T e B b bs (w.setCell ⟨Bx, 0, none⟩ u') := by
  have key : ∀ (p : Value), Lib.BuilderAtF T e B b p bs w → Lib.BuilderAtF T e B b p bs (w.setCell ⟨Bx, 0, none⟩ u') := by
    rintro p ⟨hB, v, hb, hown, hne⟩
    have hg := grownBy_setCell' w Bx u'
    refine ⟨hB, v, (hg.block b (Array.getElem?_eq_some_iff.1 hb).1 (fun e' => hbx (Option.some.inj e'))).trans hb, hown.kept hg (.inr ?_), hne⟩
    exact Lib.ownBlock_neF hown hx hte
  exact h.elim (fun x => .inl (key _ x)) (fun x => .inr (key _ x))

/-- What is written of a sign, by the one ahead of it. -/
def cleanB (last r : Int) : List UInt8 :=
  if r = 0 then Lib.encodeRune 65533 else if r = 13 then [10] else if r = 10 then (if last = 13 then [] else [10]) else Lib.encodeRune r
def cleanS (st : List UInt8 × Int) (x : Nat × Int) : List UInt8 × Int := (st.1 ++ cleanB st.2 x.2, x.2)
def cleanT (xs : List (Nat × Int)) : List UInt8 × Int := xs.foldl cleanS ([], 0)
def cleanF (l : List UInt8) : List UInt8 := (cleanT (signsF l)).1
theorem cleanT_snoc (pre : List (Nat × Int)) (x : Nat × Int) : cleanT (pre ++ [x]) = ((cleanT pre).1 ++ cleanB (cleanT pre).2 x.2, x.2) := by
  simp only [cleanT, List.foldl_append, List.foldl_cons, List.foldl_nil, cleanS]
theorem cleanB_le (a b : Int) : (cleanB a b).length ≤ 4 := by
  have h1 := encodeRune_le 65533
  have h2 := encodeRune_le b
  unfold cleanB
  repeat' split
  all_goals simp_all
theorem cleanT_le (pre : List (Nat × Int)) : (cleanT pre).1.length ≤ 4 * pre.length := by
  suffices h : ∀ (xs : List (Nat × Int)) (st : List UInt8 × Int), (xs.foldl cleanS st).1.length ≤ st.1.length + 4 * xs.length by
    have := h pre ([], 0)
    simpa [cleanT] using this
  intro xs
  induction xs with
  | nil => intro st; simp
  | cons x t ih =>
    intro st
    have := ih (cleanS st x)
    have h2 := cleanB_le st.2 x.2
    simp only [List.foldl_cons, List.length_cons]
    simp only [cleanS, List.length_append] at this ⊢
    omega
/-- What a round of Clean keeps: the builder's text, the last sign, the text's box, and what lay. -/
structure CleanI (w0 : World) (s : ByteArray) (pre : List Sg) (W : World) : Prop where
  bld : Lib.IsBuilderF 48 5 w0.heap.size w0.heap.size (Lib.byteCells (cleanT (vals pre)).1) W
  last : Boxed W (w0.heap.size + 1) 21 (.int .i32 (cleanT (vals pre)).2)
  text : Boxed W (w0.heap.size + 2) 9 (.string s)
  below : Below w0.heap.size w0 W
theorem cleanI_own (w0 : World) (s : ByteArray) (B : Nat) (hB : w0.heap.size ≤ B) : OwnFrom B (CleanI w0 s) := fun st X Y row h hg hr =>
  ⟨builder_own _ _ _ _ (fun st => Lib.byteCells (cleanT (vals st)).1) st X Y row h.bld hg (fun r e => (hr r e).2), boxed_own (w0.heap.size + 1) _ (fun st => .int .i32 (cleanT (vals st)).2) st X Y row h.last hg (fun r e => (hr r e).2),
    boxed_own (w0.heap.size + 2) _ (fun _ => .string s) st X Y row h.text hg (fun r e => (hr r e).2), ownFrom_below (Nat.le_refl _) hB st X Y row h.below hg hr⟩
/-- What a round does, behind its write: the last sign is stored. -/
theorem cleanI_wr {w0 W W1 : World} {s : ByteArray} {pre : List Sg} {x : Sg} {bs : List UInt8} (H : CleanI w0 s pre W) (hb : cleanB (cleanT (vals pre)).2 x.1.2 = bs)
    (h1 : Lib.IsBuilderF 48 5 w0.heap.size w0.heap.size (Lib.byteCells (cleanT (vals pre)).1 ++ Lib.byteCells bs) W1) (h2 : Below w0.heap.size W W1) (h3 : Lib.OthersKept 5 (some w0.heap.size) W W1) :
    Boxed W1 (w0.heap.size + 1) 21 (.int .i32 (cleanT (vals pre)).2) ∧ CleanI w0 s (pre ++ [x]) (W1.setCell ⟨w0.heap.size + 1, 0, none⟩ (.int .i32 x.1.2)) ∧
      KeepsOthers W (W1.setCell ⟨w0.heap.size + 1, 0, none⟩ (.int .i32 x.1.2)) ∧ KeepBox (w0.heap.size + 2) W (W1.setCell ⟨w0.heap.size + 1, 0, none⟩ (.int .i32 x.1.2)) := by
  have hl : Boxed W1 (w0.heap.size + 1) 21 (.int .i32 (cleanT (vals pre)).2) := h3 _ _ H.last (by simp) (by intro c fz e; cases e)
  have ht : Boxed W1 (w0.heap.size + 2) 9 (.string s) := h3 _ _ H.text (by simp) (by intro c fz e; cases e)
  have ht2 : Boxed (W1.setCell ⟨w0.heap.size + 1, 0, none⟩ (.int .i32 x.1.2)) (w0.heap.size + 2) 9 (.string s) := ht.other (by omega) _
  refine ⟨hl, ⟨?_, ?_, ht2, ?_⟩, (keepsOthers_of_builder H.bld h3 h2.size).trans (KeepsOthers.setCell _ _ _), ?_⟩
  · rw [vals_snoc, cleanT_snoc, hb]
    rw [Lib.byteCells_append]
    exact builder_setBox h1 hl (by omega) (by decide) _
  · rw [vals_snoc, cleanT_snoc]; exact hl.set _
  · exact (H.below.trans h2).setCell (p := ⟨w0.heap.size + 1, 0, none⟩) (by simp) _
  · exact ht2.trans (Eq.symm H.text)
theorem cleanB_13 (a : Int) : cleanB a 13 = [10] := by simp [cleanB]
theorem cleanB_0 (a : Int) : cleanB a 0 = Lib.encodeRune 65533 := by simp [cleanB]
theorem cleanB_10 (a : Int) (h : a ≠ 13) : cleanB a 10 = [10] := by simp [cleanB, h]
theorem cleanB_skip : cleanB 13 10 = [] := by simp [cleanB]
theorem cleanB_else (a r : Int) (h0 : r ≠ 0) (h1 : r ≠ 13) (h2 : r ≠ 10) : cleanB a r = Lib.encodeRune r := by simp [cleanB, h0, h1, h2]

set_option maxRecDepth 100000 in
set_option maxHeartbeats 4000000 in
theorem clean_any (s : ByteArray) (hs : s.size ≤ 1000000) (w : World) :
    Calls Tryd.prog 8 #[.string s] w fun e w' => e = .returned (.string ⟨(cleanF s.data.toList).toArray⟩) ∧ Below w.heap.size w w' := by
  refine (callsIn_wide (n := 10)).1 ?_
  refine callsIn_of_wp_marks Tryd.func8 rfl trivial ?_ rfl
  simp only [Tryd.ntmps8, List.size_toArray, List.length_cons, List.length_nil, Nat.reduceAdd, Nat.reduceSub, Array.replicate_succ, Array.replicate_zero, List.push_toArray, List.append_toArray, List.nil_append, List.cons_append]
  gi_wp2_with fail
  refine ⟨trivial, ?_⟩
  refine (signs_in Fence.wide _ rfl s _).mono ?_
  rintro e w' ⟨rfl, rfl⟩
  gi_wp2_with fail
  have hI0 : CleanI w s [] (((w.alloc (.cells #[.pointer none, .slice none 0 0] 48)).alloc (.cells #[.int .i32 0] 21)).alloc (.cells #[.string s] 9)) :=
    ⟨((Lib.IsBuilderF.of (Lib.fresh_isBuilder _ _ w)).alloc _).alloc _, by have := (Boxed.new (w.alloc (.cells #[.pointer none, .slice none 0 0] 48)) 21 (.int .i32 0)).alloc (.cells #[.string s] 9); rw [World.size_alloc] at this; exact this,
      by have := Boxed.new ((w.alloc (.cells #[.pointer none, .slice none 0 0] 48)).alloc (.cells #[.int .i32 0] 21)) 9 (.string s); rw [World.size_alloc, World.size_alloc] at this; exact this,
      (((Below.refl _ w).alloc (Nat.le_refl _) _).alloc (by simp) _).alloc (by simp; omega) _⟩
  generalize hW0 : ((w.alloc (.cells #[.pointer none, .slice none 0 0] 48)).alloc (.cells #[.int .i32 0] 21)).alloc (.cells #[.string s] 9) = W0 at hI0 ⊢
  have hsz : W0.heap.size = w.heap.size + 3 := by rw [← hW0]; simp
  clear hW0
  refine wpIn_rangeFunc_ownG rfl (by omega) (gf := 37) (lb := #[.pointer (some ⟨w.heap.size + 2, 0, none⟩)]) rfl trivial (enters_of Tryd.func37 (by kernel_rfl) rfl)
    (signs_stops _ (by omega) s hs (w.heap.size + 2) W0 hI0.text) keepBox_t (keepBox_b (by omega)) (Below.refl _ _) (fun _ => rfl)
    (CleanI w s) (fun _ _ _ => False) (cleanI_own w s _ (by omega)) (fun _ _ _ _ _ hs _ _ => hs) hI0
    (fun x => { tmps := #[.string s, undef, .string ⟨#[]⟩, .pointer (some ⟨w.heap.size, 0, none⟩), .pointer (some ⟨w.heap.size + 1, 0, none⟩), undef, .int .i32 x.1.2, .string s, .func (.func 37) #[] #[.pointer (some ⟨w.heap.size + 2, 0, none⟩)], .int .i64 (x.1.1 : Int), .int .i32 x.1.2, undef, undef, undef, undef, undef, undef, undef, undef, undef, undef, undef, undef, undef, undef, undef, undef, undef, undef, undef, undef, undef], defers := [] }) ?assign ?body ?done ?stop
  case assign =>
    intro l x W K hK
    gi_wp2
    exact hK
  case body =>
    rintro l pre ⟨⟨at_, r⟩, hr0, hr1⟩ W H hlt
    have hln : (Lib.byteCells (cleanT (vals pre)).1).length + 4 ≤ 140737488355328 := by
      have h1 := cleanT_le (vals pre)
      have h2 := vals_len pre
      rw [Lib.byteCells_length]
      omega
    have hsW := H.below.size
    have HL := Lib.hid H.last
    have HB := Lib.hid H.bld
    dsimp only at hr0 hr1
    have D : 1 ≤ 10 - 1 - 1 := by omega
    by_cases h0 : r = 0
    · subst h0
      gi_wp2_with fail
      refine ⟨trivial, ?_⟩
      refine (CallsIn.inRound l (callsIn_wide.2 (Bldr.writeRune w.heap.size w.heap.size _ 65533 (by omega) (by omega) W HB.out hln hsW))).mono ?_
      rintro e W1 ⟨rfl, q1, q2, q3⟩
      obtain ⟨z1, z2, z3, z4⟩ := cleanI_wr (x := ⟨(at_, 0), hr0, hr1⟩) H (cleanB_0 _) (by rw [Lib.byteCells_encodeRune]; exact q1) q2 q3
      have Z1 := z1.cell
      have Z5 := z1.frozen
      have Z2 := Lib.hid z2
      have Z3 := Lib.hid z3
      have Z4 := Lib.hid z4
      clear z1 z2 z3 z4 q1 q2 q3
      gi_wp2_with fail
      exact ⟨Z3.out.from _, Z4.out, Z2.out⟩
    by_cases h13 : r = 13
    · subst h13
      gi_wp2_with fail
      refine ⟨trivial, ?_⟩
      refine (CallsIn.inRound l (callsIn_wide.2 (Bldr.writeByte w.heap.size w.heap.size _ 10 W HB.out (by omega) hsW))).mono ?_
      rintro e W1 ⟨rfl, q1, q2, q3⟩
      obtain ⟨z1, z2, z3, z4⟩ := cleanI_wr (x := ⟨(at_, 13), hr0, hr1⟩) H (cleanB_13 _) q1 q2 q3
      have Z1 := z1.cell
      have Z5 := z1.frozen
      have Z2 := Lib.hid z2
      have Z3 := Lib.hid z3
      have Z4 := Lib.hid z4
      clear z1 z2 z3 z4 q1 q2 q3
      gi_wp2_with fail
      exact ⟨Z3.out.from _, Z4.out, Z2.out⟩
    by_cases h10 : r = 10
    · subst h10
      have hl1 := H.last.cell
      by_cases hla : (cleanT (vals pre)).2 = 13
      · obtain ⟨z1, z2, z3, z4⟩ := cleanI_wr (x := ⟨(at_, 10), hr0, hr1⟩) (W1 := W) (bs := []) H (by rw [hla]; exact cleanB_skip) (by rw [show Lib.byteCells [] = [] from rfl, List.append_nil]; exact HB.out) (Below.refl _ _) (Lib.OthersKept.refl _ _ _)
        have Z1 := z1.cell
        have Z5 := z1.frozen
        have Z2 := Lib.hid z2
        have Z3 := Lib.hid z3
        have Z4 := Lib.hid z4
        clear z1 z2 z3 z4
        rw [hla] at hl1
        clear Z1
        gi_wp2_with fail
        exact ⟨Z3.out.from _, Z4.out, Z2.out⟩
      · have hla2 : ((cleanT (vals pre)).2 != 13) = true := by simpa using hla
        gi_wp2_with fail
        refine ⟨trivial, ?_⟩
        refine (CallsIn.inRound l (callsIn_wide.2 (Bldr.writeByte w.heap.size w.heap.size _ 10 W HB.out (by omega) hsW))).mono ?_
        rintro e W1 ⟨rfl, q1, q2, q3⟩
        obtain ⟨z1, z2, z3, z4⟩ := cleanI_wr (x := ⟨(at_, 10), hr0, hr1⟩) H (cleanB_10 _ hla) q1 q2 q3
        have Z1 := z1.cell
        have Z5 := z1.frozen
        have Z2 := Lib.hid z2
        have Z3 := Lib.hid z3
        have Z4 := Lib.hid z4
        clear z1 z2 z3 z4 q1 q2 q3
        gi_wp2_with fail
        exact ⟨Z3.out.from _, Z4.out, Z2.out⟩
    · have hl1 := H.last.cell
      have b0 : (r == 0) = false := by simpa using h0
      have b13 : (r == 13) = false := by simpa using h13
      have b10 : (r == 10) = false := by simpa using h10
      have b10n : (r != 10) = true := by simpa using h10
      gi_wp2_with fail
      refine ⟨trivial, ?_⟩
      refine (CallsIn.inRound l (callsIn_wide.2 (Bldr.writeRune w.heap.size w.heap.size _ r (by omega) (by omega) W HB.out hln hsW))).mono ?_
      rintro e W1 ⟨rfl, q1, q2, q3⟩
      obtain ⟨z1, z2, z3, z4⟩ := cleanI_wr (x := ⟨(at_, r), hr0, hr1⟩) H (cleanB_else _ _ h0 h13 h10) (by rw [Lib.byteCells_encodeRune]; exact q1) q2 q3
      have Z1 := z1.cell
      have Z5 := z1.frozen
      have Z2 := Lib.hid z2
      have Z3 := Lib.hid z3
      have Z4 := Lib.hid z4
      clear z1 z2 z3 z4 q1 q2 q3
      gi_wp2_with fail
      exact ⟨Z3.out.from _, Z4.out, Z2.out⟩
  case done =>
    rintro D ys W hD hys H hK
    have HB := Lib.hid H.bld
    have HW := Lib.hid H.below
    have hE : Hid ((cleanT (vals ys)).1 = cleanF s.data.toList) := Lib.hid (by rw [hys]; rfl)
    clear hys H
    gi_wp2_with fail
    refine ⟨trivial, ?_⟩
    refine (callsIn_wide.2 (Tryd.Builder_String_any_k w.heap.size w.heap.size (cleanT (vals ys)).1 W HB.out HW.out.size)).mono ?_
    rintro e W1 ⟨rfl, _, q2, q3⟩
    have hK1 : W1.heap[D]? = some (.deferred (some [])) := q3 _ _ hK (by intro e'; cases e'; obtain ⟨cs, hc⟩ := HB.out.at; rw [hc] at hK; cases hK) (by intro c fz e; cases e)
    have HQ := Lib.hid q2
    clear q2 q3
    gi_wp2_with fail
    refine ⟨by simp, .inl ⟨_, _, rfl, run_takeDeferred hK1, ?_⟩⟩
    exact ⟨_, results_tmp rfl _ _ _, by rw [← hE.out]; rfl, (HW.out.trans HQ.out).trans (belowK_b (w := w) (Nat.le_refl _) W1 D _ _ (by omega) hK1 rfl rfl)⟩
  case stop =>
    rintro D c pre W _ _ h _
    exact h.elim
end Go.Proofs.YtjhamomdlpoilabDoor.Chars
