-- printed by wip/tools/pr.py (own) through the kit's printer; texts GIVEN by hand stand among them
import Derived.Test.YtmcinclecpeakaaGreatDoorPRRx0
namespace Go.Proofs.YtmcinclecpeakaaGreatDoor.PRR
open Go.RowKit Go.Proofs.YtmcinclecpeakaaGreatDoorW.PrintWords Go.Proofs.YtmcinclecpeakaaGreatDoorW.PrintLast Go.Proofs.YtmcinclecpeakaaGreatDoorW.PrintMore
attribute [local go_sem] max2_int min2_int max_two min_two max_three min_three max_four min_four   -- for this text's walks alone
set_option linter.unusedVariables false
set_option linter.unusedSimpArgs false

/-! ### slices_Clone_int_int: function 30 -/
section
variable {P : Program} {ops : Array Oper} {Q : Exit → Act → World → Prop} {md : Region.Mode} {S : World → Prop} {L : Nat}
/-- What is listed lateWaits for nothing more. -/
def lateClosed (md : Region.Mode) (ops : Array Oper) (listed : Array Bool) : Prop := ∀ j o, ops[j]? = some o → listed.getD j false = true → ∀ e ∈ o.after, Region.binds md e = true → listed.getD e.on false = true
/-- Does operation j wait for operation i? -/
def lateWaits (md : Region.Mode) (ops : Array Oper) : Nat → Nat → Nat → Bool
 | 0, _, _ => false
 | k + 1, j, i => match ops[j]? with
  | some o => o.after.any fun e => Region.binds md e && (e.on == i || lateWaits md ops k e.on i)
  | none => false
theorem lateClosed_new (n : Nat) : lateClosed md ops (Array.replicate n false) := fun j o _ h => by
 rcases Nat.lt_or_ge j n with h' | h'
 ·simp [h'] at h
 ·simp [h'] at h
theorem lateClosed_put {listed : Array Bool} {i : Nat} (hc : lateClosed md ops listed) (hi : i ∈ Region.ready md ops listed) : lateClosed md ops (listed.setIfInBounds i true) := fun j o hj h e he hb => by
 by_cases hij : i = j
 ·subst hij
  obtain ⟨_, o', ho', hall⟩ := mem_ready.1 hi
  rw [ho'] at hj
  cases hj
  exact getD_set_true (hall e he hb)
 ·rw [getD_set_ne false hij] at h
  exact getD_set_true (hc j o hj h e he hb)
theorem lateWaits_listed {listed : Array Bool} {i : Nat} (hc : lateClosed md ops listed) : ∀ (k j : Nat), lateWaits md ops k j i = true → (∀ o, ops[j]? = some o → ∀ e ∈ o.after, Region.binds md e = true → listed.getD e.on false = true) → listed.getD i false = true
 | 0, _, h, _ => by simp [lateWaits] at h
 | k + 1, j, h, hj => by
  unfold lateWaits at h
  split at h
  ·rename_i o ho
   obtain ⟨e, he, h1⟩ := Array.any_eq_true'.1 h
   simp only [Bool.and_eq_true, Bool.or_eq_true, beq_iff_eq] at h1
   have h2 := hj o ho e he h1.1
   rcases h1.2 with h3 | h3
   ·exact h3 ▸ h2
   ·exact lateWaits_listed hc k e.on h3 (fun o' ho' => hc e.on o' ho' h2)
  ·simp at h
/-- Whatever order is picked from here on, and S holds behind every operation but number L. -/
def lateWp (P : Program) (md : Region.Mode) (ops : Array Oper) (Q : Exit → Act → World → Prop) (S : World → Prop) (L : Nat) : Nat → Array Bool → Act → World → Prop
 | 0, listed, a, w => Region.ready md ops listed = [] ∧ Q .normal a w
 | fuel + 1, listed, a, w =>
  (Region.ready md ops listed = [] → Q .normal a w) ∧
  ∀ i ∈ Region.ready md ops listed, wpOp P ops Q i (fun a' w' => (i ≠ L → S w') ∧ lateWp P md ops Q S L fuel (listed.setIfInBounds i true) a' w') a w
theorem late_any_of : ∀ (fuel : Nat) (listed : Array Bool) (a : Act) (w : World), lateWp P md ops Q S L fuel listed a w → wpAny P md ops Q fuel listed a w
 | 0, _, _, _, h => h
 | fuel + 1, _, _, _, h => ⟨h.1, fun i hi => wpOp_mono (fun a' w' h' => late_any_of fuel _ a' w' h'.2) (h.2 i hi)⟩
theorem late_first {i K : Nat} {oi : Oper} {v : Value} (hi : ops[i]? = some oi) (hsel : ∀ (j : Nat) (o : Oper) cs b, ops[j]? = some o → o.op ≠ .select cs b)
  (hQ : ∀ c a w, Q (.panic c) (a.put oi.dst v) w → Q (.panic c) a w) (hw : i = L ∨ lateWaits md ops K L i = true) :
  ∀ (fuel : Nat) (listed : Array Bool) (a : Act) (w : World),
   (∀ j oj, ops[j]? = some oj → j ≠ i → listed.getD j true = false → (∀ e ∈ oj.after, Region.binds md e = true → e.on ≠ i) → oi.apart ops oj = true) →
   lateClosed md ops listed → i ∈ Region.ready md ops listed → YieldsIf P ops S oi v a → S w →
   lateWp P md ops Q S L fuel (listed.setIfInBounds i true) (a.put oi.dst v) w → lateWp P md ops Q S L (fuel + 1) listed a w := by
 intro fuel
 induction fuel with
 | zero =>
  intro listed a w _ _ hr hy hS H
  refine ⟨fun h => (by rw [h] at hr; cases hr), fun j hj => ?_⟩
  by_cases hji : j = i
  ·subst hji; exact hy.wpOp hi hS ⟨fun _ => hS, H⟩
  ·have := ready_mono hj hji
   rw [H.1] at this
   cases this
 | succ fuel ih =>
  intro listed a w hfree hcl hr hy hS H
  refine ⟨fun h => (by rw [h] at hr; cases hr), fun j hj => ?_⟩
  by_cases hji : j = i
  ·subst hji; exact hy.wpOp hi hS ⟨fun _ => hS, H⟩
  ·have h1 := H.2 j (ready_mono hj hji)
   obtain ⟨hjun, oj, hoj, hall⟩ := mem_ready.1 hj
   have hun := (mem_ready.1 hr).1
   have hunf : listed.getD i false = true → False := fun h => by
    rcases Nat.lt_or_ge i listed.size with h' | h'
    ·simp [h'] at h hun; rw [hun] at h; cases h
    ·simp [Array.getElem?_eq_none h'] at h
   have hjL : j ≠ L := fun he => by
    rcases hw with h | h
    ·exact hji (he.trans h.symm)
    ·refine hunf (lateWaits_listed hcl K L h (fun o ho e he' hb => ?_))
     rw [← he, hoj] at ho
     cases ho
     exact hall e he' hb
   have hnot : ∀ e ∈ oj.after, Region.binds md e = true → e.on ≠ i := fun e he hb heq => hunf (heq ▸ hall e he hb)
   have h2 := wpOp_putIf hoj (hfree j oj hoj hji hjun hnot) (fun cs b => hsel i oi cs b hi) (fun cs b => hsel j oj cs b hoj) hQ hy h1
   have hfree' : ∀ k ok, ops[k]? = some ok → k ≠ i → (listed.setIfInBounds j true).getD k true = false →
     (∀ e ∈ ok.after, Region.binds md e = true → e.on ≠ i) → oi.apart ops ok = true := fun k ok hk hki hun hno => by
    refine hfree k ok hk hki ?_ hno
    by_cases hjk : j = k
    ·subst hjk; exact hjun
    ·rw [getD_set_ne true hjk] at hun; exact hun
   refine wpOp_mono (fun a' w' h3 => ⟨fun _ => h3.2.1 hjL, ih (listed.setIfInBounds j true) a' w' hfree' (lateClosed_put hcl hj) (ready_mono hr (Ne.symm hji)) h3.1 (h3.2.1 hjL) ?_⟩) h2
   rw [Array.setIfInBounds_comm _ _ hji]
   exact h3.2.2
/-- The walk's state: what is listed is lateClosed. -/
def LateSt (P : Program) (md : Region.Mode) (ops : Array Oper) (Q : Exit → Act → World → Prop) (S : World → Prop) (L fuel : Nat) (listed : Array Bool) (a : Act) (w : World) : Prop := lateClosed md ops listed → lateWp P md ops Q S L fuel listed a w
/-- Take number i late_first. -/
theorem late_take (i K d fuel : Nat) {oi : Oper} {v : Value} {listed : Array Bool} {a : Act} {w : World} (hi : ops[i]? = some oi) (hd : oi.dst = some d)
  (hs : Region.noSelect ops = true) (hf : Region.free md ops listed i = true) (hr : (Region.ready md ops listed).contains i = true) (hw : lateWaits md ops K L i = true)
  (hQ : ∀ c a w, Q (.panic c) (a.put (some d) v) w → Q (.panic c) a w) (hS : S w) (hg : Region.wanted oi (yielded ops a.tmps) = true) (hy : ∀ w, S w → (execOp a.eval oi).run P w = .ok (.value v) w)
  (h : LateSt P md ops Q S L fuel (listed.setIfInBounds i true) (a.put (some d) v) w) : LateSt P md ops Q S L (fuel + 1) listed a w := fun hc => by
 have hm : i ∈ Region.ready md ops listed := by simpa using hr
 rw [← hd] at h hQ
 exact late_first hi (Region.noSelect_spec hs) hQ (.inr hw) fuel listed a w (Region.free_spec hi hf) hc hm (.inl ⟨hg, hy⟩) hS (h (lateClosed_put hc hm))
/-- Number i is not wanted: taken first. -/
theorem late_skip (i K d fuel : Nat) {oi : Oper} {listed : Array Bool} {a : Act} {w : World} (hi : ops[i]? = some oi) (hd : oi.dst = some d)
  (hs : Region.noSelect ops = true) (hf : Region.free md ops listed i = true) (hr : (Region.ready md ops listed).contains i = true) (hw : lateWaits md ops K L i = true)
  (hQ : ∀ c a w, Q (.panic c) (a.put (some d) undef) w → Q (.panic c) a w) (hS : S w) (hg : Region.wanted oi (yielded ops a.tmps) = false)
  (h : LateSt P md ops Q S L fuel (listed.setIfInBounds i true) (a.put (some d) undef) w) : LateSt P md ops Q S L (fuel + 1) listed a w := fun hc => by
 have hm : i ∈ Region.ready md ops listed := by simpa using hr
 rw [← hd] at h hQ
 exact late_first hi (Region.noSelect_spec hs) hQ (.inr hw) fuel listed a w (Region.free_spec hi hf) hc hm (.inr ⟨hg, rfl⟩) hS (h (lateClosed_put hc hm))
/-- A value, spelled otherwise. -/
structure Is_ {α : Type} (a b : α) : Prop where mk :: (out : a = b)
/-- late_take and late_skip, their sides filled in. -/
theorem lt_ (i K d fuel : Nat) {oi : Oper} {v : Value} {listed : Array Bool} {a a' : Act} {w : World} (h : LateSt P md ops Q S L fuel (listed.setIfInBounds i true) a' w)
  (hi : ops[i]? = some oi := by rfl) (hd : oi.dst = some d := by rfl) (hs : Region.noSelect ops = true := by kernel_rfl) (hf : Region.free md ops listed i = true := by kernel_rfl)
  (hr : (Region.ready md ops listed).contains i = true := by kernel_rfl) (hw : lateWaits md ops K L i = true := by kernel_rfl) (hQ : ∀ c a w, Q (.panic c) (a.put (some d) v) w → Q (.panic c) a w := by exact fun _ _ _ h => h) (hS : S w := by exact HS.out)
  (hg : Region.wanted oi (yielded ops a.tmps) = true := by rfl) (hy : ∀ w, S w → (execOp a.eval oi).run P w = .ok (.value v) w := by (intro w hSw; (try dsimp only at hSw); go_simp; with_reducible rfl))
  (ea : Is_ (a.put (some d) v) a' := by simp only [Act.put, List.setIfInBounds_toArray, List.set_cons_zero, List.set_cons_succ]; exact ⟨rfl⟩) : LateSt P md ops Q S L (fuel + 1) listed a w :=
 late_take i K d fuel hi hd hs hf hr hw hQ hS hg hy (ea.out ▸ h)
theorem ls_ (i K d fuel : Nat) {oi : Oper} {listed : Array Bool} {a a' : Act} {w : World} (h : LateSt P md ops Q S L fuel (listed.setIfInBounds i true) a' w)
  (hi : ops[i]? = some oi := by rfl) (hd : oi.dst = some d := by rfl) (hs : Region.noSelect ops = true := by kernel_rfl) (hf : Region.free md ops listed i = true := by kernel_rfl)
  (hr : (Region.ready md ops listed).contains i = true := by kernel_rfl) (hw : lateWaits md ops K L i = true := by kernel_rfl) (hQ : ∀ c a w, Q (.panic c) (a.put (some d) undef) w → Q (.panic c) a w := by exact fun _ _ _ h => h) (hS : S w := by exact HS.out) (hg : Region.wanted oi (yielded ops a.tmps) = false := by rfl)
  (ea : Is_ (a.put (some d) undef) a' := by simp only [Act.put, List.setIfInBounds_toArray, List.set_cons_zero, List.set_cons_succ]; exact ⟨rfl⟩) : LateSt P md ops Q S L (fuel + 1) listed a w :=
 late_skip i K d fuel hi hd hs hf hr hw hQ hS hg (ea.out ▸ h)
/-- Number i alone may come up; S holds behind it. -/
theorem late_only (i fuel : Nat) (oi : Oper) {listed : Array Bool} {a : Act} {w : World} (hi : ops[i]? = some oi) (hr : Region.ready md ops listed = [i]) (hg : Region.wanted oi (yielded ops a.tmps) = true)
  (h : ∀ K' : Act → World → Prop, Shut (∀ a w, S w → (S w → LateSt P md ops Q S L fuel (listed.setIfInBounds i true) a w) → K' a w) → Oper.wp P oi a w K' Q) : LateSt P md ops Q S L (fuel + 1) listed a w := fun hc => by
 refine ⟨fun h0 => (by rw [hr] at h0; cases h0), fun j hj => ?_⟩
 rw [hr] at hj
 obtain rfl := List.mem_singleton.1 hj
 have hm : j ∈ Region.ready md ops listed := by rw [hr]; exact hj
 unfold wpOp
 simp only [hi, hg, if_true]
 exact .inl (h _ (fun a w hS hW => ⟨fun _ => hS, hW hS (lateClosed_put hc hm)⟩))
/-- The same, the goal in the form that laws of appends ask for. -/
theorem late_onlyIf (i fuel : Nat) (oi : Oper) {listed : Array Bool} {a : Act} {w : World} (hi : ops[i]? = some oi) (hr : Region.ready md ops listed = [i])
  (h : ∀ K' : Act → World → Prop, Shut (∀ a w, S w → (S w → LateSt P md ops Q S L fuel (listed.setIfInBounds i true) a w) → K' a w) → if Region.wanted oi (yielded ops a.tmps) = true then Oper.wp P oi a w K' Q else K' (a.put oi.dst undef) w) : LateSt P md ops Q S L (fuel + 1) listed a w := fun hc => by
 refine ⟨fun h0 => (by rw [hr] at h0; cases h0), fun j hj => ?_⟩
 rw [hr] at hj
 obtain rfl := List.mem_singleton.1 hj
 have hm : j ∈ Region.ready md ops listed := by rw [hr]; exact hj
 have h' := h _ (fun a w hS hW => (⟨fun _ => hS, hW hS (lateClosed_put hc hm)⟩ : (j ≠ L → S w) ∧ lateWp P md ops Q S L fuel (listed.setIfInBounds j true) a w))
 unfold wpOp
 simp only [hi]
 split
 ·rename_i hw
  rw [if_pos hw] at h'
  exact .inl h'
 ·rename_i hw
  rw [if_neg hw] at h'
  exact h'
/-- The late_last one. -/
theorem late_last (i fuel : Nat) (oi : Oper) {listed : Array Bool} {a : Act} {w : World} (hi : ops[i]? = some oi) (hr : Region.ready md ops listed = [i]) (hL : i = L) (hg : Region.wanted oi (yielded ops a.tmps) = true) (hn : Region.ready md ops (listed.setIfInBounds i true) = [])
  (h : ∀ K' : Act → World → Prop, Shut (∀ a w, Q .normal a w → K' a w) → Oper.wp P oi a w K' Q) : LateSt P md ops Q S L (fuel + 1) listed a w := fun hc => by
 subst hL
 refine ⟨fun h0 => (by rw [hr] at h0; cases h0), fun j hj => ?_⟩
 rw [hr] at hj
 obtain rfl := List.mem_singleton.1 hj
 unfold wpOp
 simp only [hi, hg, if_true]
 refine .inl (h _ (fun a w hq => ⟨fun h => absurd rfl h, ?_⟩))
 cases fuel with
 | zero => exact ⟨hn, hq⟩
 | succ n => exact ⟨fun _ => hq, by rw [hn]; simp⟩
theorem late_begin {id : Nat} (L n : Nat) {a : Act} {w : World} (hm : P.follows .mixedOrders = true) (hn : ops.size = n) (hS : S w.drew)
  (h : S w.drew → LateSt P .any ops Q S L n (Array.replicate n false) a w.drew) : (Code.region id ops true).wp P Q a w :=
 wp_region_any hm (by rw [hn]; exact late_any_of _ _ _ _ (h hS (lateClosed_new _)))
end
/-- What is read, as cells. -/
theorem C_inner {α : Type} {d : Kd α} {w : World} {ad : Addr} {xs : List α} (h : d.C w (some ad) xs.length xs) :
  ∃ inner : List Value, inner.length = xs.length * d.sz ∧ Reps (d.K w) d.sz xs inner ∧ (∀ u ∈ inner, u.oneCell' = true) ∧ ∀ j u, inner[j]? = some u → w.cell? (ad.add j) = some u := by
 rcases Nat.eq_zero_or_pos xs.length with h0 | h0
 ·rw [List.eq_nil_of_length_eq_zero h0]
  exact ⟨[], by simp, Reps.none _ _, by simp, fun j u hu => by simp at hu⟩
 ·obtain ⟨ad', e, hc⟩ := h.2.2 h0
  obtain rfl : ad = ad' := by injection e
  have go : ∀ m, m ≤ xs.length → ∃ inner : List Value, inner.length = m * d.sz ∧ Reps (d.K w) d.sz (xs.take m) inner ∧ (∀ u ∈ inner, u.oneCell' = true) ∧ ∀ j u, inner[j]? = some u → w.cell? (ad.add j) = some u := by
   intro m
   induction m with
   | zero => intro _; exact ⟨[], by simp, by rw [List.take_zero]; exact Reps.none _ _, by simp, fun j u hu => by simp at hu⟩
   | succ m ih =>
    intro hm
    obtain ⟨inner, h1, h2, h3, h4⟩ := ih (by omega)
    obtain ⟨c, hcl, hK, hcc⟩ := hc m xs[m] (List.getElem?_eq_getElem (by omega))
    refine ⟨inner ++ c, by rw [List.length_append, h1, hcl, Nat.succ_mul], ?_, fun u hu => ?_, fun j u hu => ?_⟩
    ·rw [List.take_succ_eq_append_getElem (by omega)]
     exact h2.snoc hK hcl
    ·rcases List.mem_append.1 hu with hu | hu
     ·exact h3 u hu
     ·exact d.K_one hK u hu
    ·by_cases hj : j < inner.length
     ·rw [List.getElem?_append_left hj] at hu
      exact h4 j u hu
     ·rw [List.getElem?_append_right (by omega), h1] at hu
      have h5 := hcc (j - m * d.sz) u hu
      rw [show m * d.sz + (j - m * d.sz) = j from by omega] at h5
      exact h5
  obtain ⟨inner, h1, h2, h3, h4⟩ := go xs.length (Nat.le_refl _)
  rw [List.take_length] at h2
  exact ⟨inner, h1, h2, h3, h4⟩
theorem slices_Clone_int_int.info : (Tryz.prog.info? 3).map (fun i => (i.zero, i.size, i.bytes)) = some (some (.int .i64 0), 1, 8) := by kernel_rfl

def slices_Clone_int_int.f (l0 : List (Int)) : Option (List (Int)) := some l0
set_option maxRecDepth 100000 in
set_option maxHeartbeats 2000000 in
/-- Clone: a row of one's own with the same cells. -/
theorem slices_Clone_int_int.row (A : Option Addr) (c : Nat) (xs : List (Int)) (w : World) (hr : Kd.C (Kd.int .i64) w A xs.length xs) (hn : xs.length ≤ 1000000) :
  Calls Tryz.prog 30 #[.slice A xs.length c] w fun e w' => ∃ v inner, e = .returned v ∧ w'.ownsRow w.heap.size 3 1 v xs.length inner ∧ Reps (Kd.K (Kd.int .i64) w) 1 xs inner ∧ Below w.heap.size w w' := by
 obtain ⟨i0, hi, hz0, hz1, hz2⟩ := info_parts slices_Clone_int_int.info
 obtain ⟨n, hnn⟩ : ∃ n, n = xs.length := ⟨_, rfl⟩
 have heq := fun W : World => Lib.run_eql_slice_nil (P := Tryz.prog) W 38 3 A n c 0 0 Tryz.underlying38
 cases A with
 | none =>
  have h0 : xs = [] := by
   rcases Nat.eq_zero_or_pos xs.length with h | h
   ·exact List.eq_nil_of_length_eq_zero h
   ·obtain ⟨ad, h, _⟩ := hr.2.2 h; cases h
  subst h0
  clear hr
  rw [← hnn]
  have HN := Lib.hid hnn
  clear hnn
  go_enter Tryz.func30, Tryz.ntmps30
  go_wp2_with fail
  go_ret
  exact ⟨_, [], rfl, by rw [HN.out]; exact own_nil _ _ _ _, Reps.none _ _, Below.refl _ _⟩
 | some ad =>
  obtain ⟨inner, hil, hrep, hone, hcell⟩ := C_inner hr
  have hsz : inner.length = n * 1 := by rw [hil, hnn]; rfl
  have HR := Lib.hid hrep
  have HN := Lib.hid hnn
  rw [← hnn] at hn ⊢
  have HC : Hid (∀ j u, inner[j]? = some u → (w.alloc (.cells #[] 3)).cell? (ad.add j) = some u) := Lib.hid (fun j u hu => pw_cell_below ((Below.refl _ w).alloc (Nat.le_refl _) _) (hcell j u hu))
  clear hr hrep hcell hil hnn
  go_enter Tryz.func30, Tryz.ntmps30
  have hown : (w.alloc (.cells #[] 3)).ownsRow w.heap.size 3 1 (.slice (some ⟨w.heap.size, 0, none⟩) 0 0) 0 [] := World.ownsRow_lit w #[] 0 (Nat.le_refl _) (by decide) (by simp)
  go_wp2_with ((at_builtin; refine wpList_append_own_at _ rfl _ _ 38 rfl w.heap.size 3 i0 (.int .i64 0) 1 8 Tryz.underlying38 hi hz0 hz1 hz2 rfl (by decide) _ 0 [] rfl hown ad n c inner rfl hsz HC.out hone (by unfold maxLen; omega) (by omega) (by simp) ?c1))
  case c1 =>
   intro v1 w1 hown1 hg _ _
   have HO : Hid (w1.ownsRow w.heap.size 3 1 v1 n inner) := Lib.hid (by simpa using hown1)
   have HB : Hid (Below w.heap.size w w1) := Lib.hid (((Below.refl _ w).alloc (Nat.le_refl _) _).grown hg (by simp) (own_base hown))
   clear hown1 hg hown
   go_wp2_with fail
   go_ret
   exact ⟨_, _, rfl, HO.out, HR.out, HB.out⟩

theorem slices_Clone_int_int.calls (A0 : Option Addr) (c0 : Nat) (l0 : List (Int)) (w : World) (hr0 : Kd.C (Kd.int .i64) w A0 l0.length l0) (hn : l0.length ≤ 1000000) :
  Calls Tryz.prog 30 #[.slice A0 l0.length c0] w fun e w' => ∃ v0_ : Value, e = .returned v0_ ∧ Kd.R (Kd.int .i64) 3 w' w.heap.size (fun _ => True) v0_ l0 ∧ Below w.heap.size w w' :=
 (slices_Clone_int_int.row A0 c0 l0 w hr0 hn).mono fun e w' ⟨v, inner, he, ho, hr, hb⟩ => ⟨v, he, ⟨fun _ _ => trivial, inner, ho, hr.imp_ (fun _ _ hp => hp)⟩, hb⟩


/-! ### api_Attr_29: function 29 -/
theorem api_Attr_29.info : (Tryz.prog.info? 66).map (fun i => (i.zero, i.size, i.bytes)) = some (some (.agg #[.string ⟨#[]⟩, .string ⟨#[]⟩]), 2, 32) := by kernel_rfl

def api_Attr_29.f (l0 : List (S66)) : Option (List (S66)) := some l0
set_option maxRecDepth 100000 in
set_option maxHeartbeats 2000000 in
/-- Clone: a row of one's own with the same cells. -/
theorem api_Attr_29.row (A : Option Addr) (c : Nat) (xs : List (S66)) (w : World) (hr : Kd.C k66 w A xs.length xs) (hn : xs.length ≤ 1000000) :
  Calls Tryz.prog 29 #[.slice A xs.length c] w fun e w' => ∃ v inner, e = .returned v ∧ w'.ownsRow w.heap.size 66 2 v xs.length inner ∧ Reps (Kd.K k66 w) 2 xs inner ∧ Below w.heap.size w w' := by
 obtain ⟨i0, hi, hz0, hz1, hz2⟩ := info_parts api_Attr_29.info
 obtain ⟨n, hnn⟩ : ∃ n, n = xs.length := ⟨_, rfl⟩
 have heq := fun W : World => Lib.run_eql_slice_nil (P := Tryz.prog) W 41 66 A n c 0 0 Tryz.underlying41
 cases A with
 | none =>
  have h0 : xs = [] := by
   rcases Nat.eq_zero_or_pos xs.length with h | h
   ·exact List.eq_nil_of_length_eq_zero h
   ·obtain ⟨ad, h, _⟩ := hr.2.2 h; cases h
  subst h0
  clear hr
  rw [← hnn]
  have HN := Lib.hid hnn
  clear hnn
  go_enter Tryz.func29, Tryz.ntmps29
  go_wp2_with fail
  go_ret
  exact ⟨_, [], rfl, by rw [HN.out]; exact own_nil _ _ _ _, Reps.none _ _, Below.refl _ _⟩
 | some ad =>
  obtain ⟨inner, hil, hrep, hone, hcell⟩ := C_inner hr
  have hsz : inner.length = n * 2 := by rw [hil, hnn]; rfl
  have HR := Lib.hid hrep
  have HN := Lib.hid hnn
  rw [← hnn] at hn ⊢
  have HC : Hid (∀ j u, inner[j]? = some u → (w.alloc (.cells #[] 66)).cell? (ad.add j) = some u) := Lib.hid (fun j u hu => pw_cell_below ((Below.refl _ w).alloc (Nat.le_refl _) _) (hcell j u hu))
  clear hr hrep hcell hil hnn
  go_enter Tryz.func29, Tryz.ntmps29
  have hown : (w.alloc (.cells #[] 66)).ownsRow w.heap.size 66 2 (.slice (some ⟨w.heap.size, 0, none⟩) 0 0) 0 [] := World.ownsRow_lit w #[] 0 (Nat.le_refl _) (by decide) (by simp)
  go_wp2_with ((at_builtin; refine wpList_append_own_at _ rfl _ _ 41 rfl w.heap.size 66 i0 (.agg #[.string ⟨#[]⟩, .string ⟨#[]⟩]) 2 32 Tryz.underlying41 hi hz0 hz1 hz2 rfl (by decide) _ 0 [] rfl hown ad n c inner rfl hsz HC.out hone (by unfold maxLen; omega) (by omega) (by simp) ?c1))
  case c1 =>
   intro v1 w1 hown1 hg _ _
   have HO : Hid (w1.ownsRow w.heap.size 66 2 v1 n inner) := Lib.hid (by simpa using hown1)
   have HB : Hid (Below w.heap.size w w1) := Lib.hid (((Below.refl _ w).alloc (Nat.le_refl _) _).grown hg (by simp) (own_base hown))
   clear hown1 hg hown
   go_wp2_with fail
   go_ret
   exact ⟨_, _, rfl, HO.out, HR.out, HB.out⟩

theorem api_Attr_29.calls (A0 : Option Addr) (c0 : Nat) (l0 : List (S66)) (w : World) (hr0 : Kd.C k66 w A0 l0.length l0) (hn : l0.length ≤ 1000000) :
  Calls Tryz.prog 29 #[.slice A0 l0.length c0] w fun e w' => ∃ v0_ : Value, e = .returned v0_ ∧ Kd.R k66 66 w' w.heap.size (fun _ => True) v0_ l0 ∧ Below w.heap.size w w' :=
 (api_Attr_29.row A0 c0 l0 w hr0 hn).mono fun e w' ⟨v, inner, he, ho, hr, hb⟩ => ⟨v, he, ⟨fun _ _ => trivial, inner, ho, hr.imp_ (fun _ _ hp => hp)⟩, hb⟩


/-! ### api_Node: function 41 -/
theorem api_Node.info : (Tryz.prog.info? 43).map (fun i => (i.zero, i.size, i.bytes)) = some (some (.agg #[.int .i64 0, .string ⟨#[]⟩, .slice none 0 0, .string ⟨#[]⟩, .int .i64 0, .slice none 0 0]), 6, 96) := by kernel_rfl

def api_Node.f (l0 : List (S43)) : Option (List (S43)) := some l0
set_option maxRecDepth 100000 in
set_option maxHeartbeats 2000000 in
/-- Clone: a row of one's own with the same cells. -/
theorem api_Node.row (A : Option Addr) (c : Nat) (xs : List (S43)) (w0 w : World) (hb0 : Below w0.heap.size w0 w) (hr : Kd.C k43 w0 A xs.length xs) (hn : xs.length ≤ 1000000) :
  Calls Tryz.prog 41 #[.slice A xs.length c] w fun e w' => ∃ v inner, e = .returned v ∧ w'.ownsRow w.heap.size 43 6 v xs.length inner ∧ Reps (Kd.K k43 w0) 6 xs inner ∧ Below w.heap.size w w' := by
 obtain ⟨i0, hi, hz0, hz1, hz2⟩ := info_parts api_Node.info
 obtain ⟨n, hnn⟩ : ∃ n, n = xs.length := ⟨_, rfl⟩
 have heq := fun W : World => Lib.run_eql_slice_nil (P := Tryz.prog) W 22 43 A n c 0 0 Tryz.underlying22
 cases A with
 | none =>
  have h0 : xs = [] := by
   rcases Nat.eq_zero_or_pos xs.length with h | h
   ·exact List.eq_nil_of_length_eq_zero h
   ·obtain ⟨ad, h, _⟩ := hr.2.2 h; cases h
  subst h0
  clear hr hb0
  rw [← hnn]
  have HN := Lib.hid hnn
  clear hnn
  go_enter Tryz.func41, Tryz.ntmps41
  go_wp2_with fail
  go_ret
  exact ⟨_, [], rfl, by rw [HN.out]; exact own_nil _ _ _ _, Reps.none _ _, Below.refl _ _⟩
 | some ad =>
  obtain ⟨inner, hil, hrep, hone, hcell⟩ := C_inner hr
  have hsz : inner.length = n * 6 := by rw [hil, hnn]; rfl
  have HR := Lib.hid hrep
  have HN := Lib.hid hnn
  rw [← hnn] at hn ⊢
  have HC : Hid (∀ j u, inner[j]? = some u → (w.alloc (.cells #[] 43)).cell? (ad.add j) = some u) := Lib.hid (fun j u hu => pw_cell_below ((Below.refl _ w).alloc (Nat.le_refl _) _) (pw_cell_below hb0 (hcell j u hu)))
  clear hr hrep hcell hil hnn hb0
  go_enter Tryz.func41, Tryz.ntmps41
  have hown : (w.alloc (.cells #[] 43)).ownsRow w.heap.size 43 6 (.slice (some ⟨w.heap.size, 0, none⟩) 0 0) 0 [] := World.ownsRow_lit w #[] 0 (Nat.le_refl _) (by decide) (by simp)
  go_wp2_with ((at_builtin; refine wpList_append_own_at _ rfl _ _ 22 rfl w.heap.size 43 i0 (.agg #[.int .i64 0, .string ⟨#[]⟩, .slice none 0 0, .string ⟨#[]⟩, .int .i64 0, .slice none 0 0]) 6 96 Tryz.underlying22 hi hz0 hz1 hz2 rfl (by decide) _ 0 [] rfl hown ad n c inner rfl hsz HC.out hone (by unfold maxLen; omega) (by omega) (by simp) ?c1))
  case c1 =>
   intro v1 w1 hown1 hg _ _
   have HO : Hid (w1.ownsRow w.heap.size 43 6 v1 n inner) := Lib.hid (by simpa using hown1)
   have HB : Hid (Below w.heap.size w w1) := Lib.hid (((Below.refl _ w).alloc (Nat.le_refl _) _).grown hg (by simp) (own_base hown))
   clear hown1 hg hown
   go_wp2_with fail
   go_ret
   exact ⟨_, _, rfl, HO.out, HR.out, HB.out⟩


/-! ### dom_own: function 20 -/
section
open Kd
/-- Elements of one's own (true), and elements yet as they came (false): told at whatever world keeps W0. -/
def mixKd {α : Type} (d : Kd α) (W0 : World) : Kd (α × Bool) where
 sz := d.sz
 E := d.E
 K := fun w x cs => (x.2 = true → d.K w x.1 cs) ∧ (x.2 = false → ∀ W, Below W0.heap.size W0 W → d.K W x.1 cs)
 M := fun w base ok x cs => (x.2 = true → d.M w base ok x.1 cs) ∧ (x.2 = false → ∀ W, Below W0.heap.size W0 W → d.K W x.1 cs)
 K_len := fun {w x cs} h => by
  cases e : x.2 with
  | true => exact d.K_len (h.1 e)
  | false => exact d.K_len (h.2 e W0 (Below.refl _ _))
 K_one := fun {w x cs} h => by
  cases e : x.2 with
  | true => exact d.K_one (h.1 e)
  | false => exact d.K_one (h.2 e W0 (Below.refl _ _))
 K_below := fun hb h => ⟨fun e => d.K_below hb (h.1 e), h.2⟩
 K_of_M := fun h => ⟨fun e => d.K_of_M (h.1 e), h.2⟩
 M_mono := fun hok h => ⟨fun e => d.M_mono hok (h.1 e), h.2⟩
 M_bound := fun h => ⟨fun e => d.M_bound (h.1 e), h.2⟩
 M_move := fun hm h => ⟨fun e => d.M_move hm (h.1 e), h.2⟩
 M_lower := fun hb h => ⟨fun e => d.M_lower hb (h.1 e), h.2⟩
section
variable {α : Type} {d : Kd α} {e base : Nat} {w W : World} {ok : Nat → Prop} {v : Value} {xs : List α}
/-- All as they came: a copy's row. -/
theorem mix_new {inner : List Value} (ho : w.ownsRow base e d.sz v xs.length inner) (hr : Reps (d.K W) d.sz xs inner) : S (mixKd d W) e w base (fun _ => True) v (xs.map (·, false)) := by
 refine ⟨fun _ => 0, fun _ _ => trivial, inner, by rw [List.length_zipIdx, List.length_map]; exact ho, by rw [List.length_zipIdx, List.length_map]; exact hr.1, fun j p hj => ?_⟩
 rw [List.getElem?_zipIdx, Nat.zero_add, List.getElem?_map] at hj
 obtain ⟨q, hq, rfl⟩ := Option.map_eq_some_iff.1 hj
 obtain ⟨x, hx, rfl⟩ := Option.map_eq_some_iff.1 hq
 exact ⟨fun h => (Bool.false_ne_true h).elim, fun _ W' hb => d.K_below hb (hr.2 j x hx)⟩
/-- All of one's own. -/
theorem mix_done (h : S (mixKd d W) e w base ok v (xs.map (·, true))) : S d e w base ok v xs := by
 obtain ⟨f, h0, inner, ho, hr⟩ := h
 refine ⟨f, h0, inner, by rw [List.length_zipIdx, List.length_map] at ho; rw [List.length_zipIdx]; exact ho, by have := hr.1; rw [List.length_zipIdx, List.length_map] at this; rw [List.length_zipIdx]; exact this, fun j p hj => ?_⟩
 rw [List.getElem?_zipIdx, Nat.zero_add] at hj
 obtain ⟨q, hq, rfl⟩ := Option.map_eq_some_iff.1 hj
 exact (hr.2 j ((q, true), j) (by rw [List.getElem?_zipIdx, Nat.zero_add, List.getElem?_map, hq]; rfl)).1 rfl
/-- The first i of one's own. -/
def mix_upto (xs : List α) (i : Nat) : List (α × Bool) := xs.zipIdx.map fun p => (p.1, decide (p.2 < i))
theorem mix_upto_len (xs : List α) (i : Nat) : (mix_upto xs i).length = xs.length := by simp [mix_upto]
theorem mix_upto_get (xs : List α) (i j : Nat) : (mix_upto xs i)[j]? = xs[j]?.map fun x => (x, decide (j < i)) := by
 unfold mix_upto
 rw [List.getElem?_map, List.getElem?_zipIdx, Nat.zero_add, Option.map_map]
 rfl
theorem mix_upto_zero (xs : List α) : mix_upto xs 0 = xs.map (·, false) := by
 refine List.ext_getElem? fun j => ?_
 rw [mix_upto_get, List.getElem?_map]
 simp
theorem mix_upto_all (xs : List α) : mix_upto xs xs.length = xs.map (·, true) := by
 refine List.ext_getElem? fun j => ?_
 rw [mix_upto_get, List.getElem?_map]
 rcases Nat.lt_or_ge j xs.length with h | h
 ·simp [h]
 ·rw [List.getElem?_eq_none h]; rfl
theorem mix_upto_set (xs : List α) (i : Nat) (x : α) (hx : xs[i]? = some x) : (mix_upto xs i).set i (x, true) = mix_upto xs (i + 1) := by
 refine List.ext_getElem? fun j => ?_
 rw [mix_upto_get, List.getElem?_set, mix_upto_get, mix_upto_len]
 split
 ·next h =>
  subst h
  rw [hx, if_pos (List.getElem?_eq_some_iff.1 hx).1]
  simp
 ·next h =>
  congr 1
  funext y
  rw [decide_eq_decide.2]
  omega
end
end

theorem bcell {W w1 : World} (hb : Below W.heap.size W w1) : (∀ b o, b < W.heap.size → w1.cell? ⟨b, o, none⟩ = W.cell? ⟨b, o, none⟩) ∧ (∀ b o, b < W.heap.size → w1.frozen? ⟨b, o, none⟩ = W.frozen? ⟨b, o, none⟩) :=
 ⟨fun b o h => hb.cell (p := ⟨b, o, none⟩) h, fun b o h => hb.frozen (p := ⟨b, o, none⟩) h⟩
theorem mixE {w : World} : ∀ q, q ∈ 43 :: (mixKd k43 w).E → q ≠ 24 := (by decide : ∀ q, q ∈ 43 :: k43.E → q ≠ 24)
/-- Behind the first statement: the copy's row lies in a block of its own. -/
def Own0 (w W2 wx : World) (l : List S43) (n : Nat) (q : Bool) (g : Nat) : Prop := ∃ A c, W2.heap.size ≤ g ∧ Below W2.heap.size W2 wx ∧ wx.heap[g]? = some (.cells #[.slice A n c, .bool q] 24 (0, 0)) ∧ Kd.S (mixKd k43 w) 43 wx W2.heap.size (fun _ => True) (.slice A n c) (l.map (·, false))
theorem ownA {w W2 w' : World} {l : List S43} {n : Nat} {q : Bool} {A : Option Addr} {c : Nat} (hb : Below W2.heap.size W2 w') (hs : Kd.S (mixKd k43 w) 43 w' W2.heap.size (fun _ => True) (.slice A n c) (l.map (·, false))) :
  Own0 w W2 (w'.alloc (.cells #[.slice A n c, .bool q] 24)) l n q w'.heap.size := ⟨A, c, hb.size, below_alloc hb _, blk_new _ _, Kd.S_alloc hs _⟩
theorem ownB {w W2 w' : World} {l : List S43} {n : Nat} {q : Bool} {A : Option Addr} {c : Nat} (hb : Below W2.heap.size W2 w') (hg : w'.heap[W2.heap.size]? = some (.cells #[.slice none 0 0, .bool false] 24 (0, 0)))
  (hs : Kd.S (mixKd k43 w) 43 w' W2.heap.size (fun _ => True) (.slice A n c) (l.map (·, false))) :
  Own0 w W2 ((w'.setCell ⟨W2.heap.size, 0, none⟩ (.slice A n c)).setCell ⟨W2.heap.size, 1, none⟩ (.bool q)) l n q W2.heap.size :=
 ⟨A, c, Nat.le_refl _, (hb.setCell (Nat.le_refl _) _).setCell (Nat.le_refl _) _, blk_set (blk_set hg 0 _) 1 _, Kd.S_set (Kd.S_set hs hg mixE 0 _) (blk_set hg 0 _) mixE 1 _⟩
/-- At a round's head. -/
def Own1 (w W2 wx : World) (A : Option Addr) (c : Nat) (l : List S43) (n : Nat) (q : Bool) (g k : Nat) : Prop := Below W2.heap.size W2 wx ∧ wx.heap[g]? = some (.cells #[.slice A n c, .bool q] 24 (0, 0)) ∧ Kd.S (mixKd k43 w) 43 wx W2.heap.size (fun _ => True) (.slice A n c) (mix_upto l k)
theorem ownR {w W2 wr w1 w2 : World} {gr c n g k : Nat} {l : List S43} {q : Bool} {x : S43} {A6 A7 : Option Addr} {c6 c7 : Nat} (HW : Below w.heap.size w W2) (HO : Own1 w W2 wr (some ⟨gr, 0, none⟩) c l n q g k) (hk : k < n) (hn : n = l.length) (hx : l[k]? = some x)
  (hR6 : Kd.R k66 66 w1 W2.heap.size (fun j => wr.heap.size ≤ j) (.slice A6 x.f2.length c6) x.f2) (hb6 : Below wr.heap.size wr w1) (hR7 : Kd.R (Kd.int .i64) 3 w2 W2.heap.size (fun j => wr.heap.size ≤ j) (.slice A7 x.f5.length c7) x.f5) (hb7 : Below wr.heap.size wr w2) (hb7' : Below w1.heap.size w1 w2)
  (hbr : W2.heap.size ≤ gr) (hgr : gr < wr.heap.size) : Own1 w W2 ((w2.setCell ⟨gr, k * 6 + 2, none⟩ (.slice A6 x.f2.length c6)).setCell ⟨gr, k * 6 + 5, none⟩ (.slice A7 x.f5.length c7)) (some ⟨gr, 0, none⟩) c l n q g (k + 1) := by
 obtain ⟨hbx, hblk, hS⟩ := HO
 have hgg : g ≠ gr := by
  obtain ⟨cells, hty⟩ := Kd.S_typed hS gr (by simp [Value.ownBlock])
  exact blk_ne hblk hty (by decide)
 refine ⟨((hbx.trans (hb7.mono hbx.size)).setCell hbr _).setCell hbr _, blk_far (blk_far (blk_below hblk hb7) hgg _) hgg _, ?_⟩
 have hS2 : Kd.S (mixKd k43 w) 43 w2 W2.heap.size (fun j => True ∧ ¬ wr.heap.size ≤ j) (.slice (some ⟨gr, 0, none⟩) n c) (mix_upto l k) :=
  Kd.S_below (Kd.S_mono (Kd.S_bound hS) (fun j hj => ⟨trivial, by have := hj.2.2.1; omega⟩)) hb7
 obtain ⟨oki, cc, hcl, hM, hcc, hfr, hoki, hH⟩ := Kd.S_elem hS2 (z43, false) (k : Int) (by omega) (by omega)
 rw [show (mix_upto l k).getD (k : Int).toNat (z43, false) = (x, false) from by rw [Int.toNat_natCast, List.getD_eq_getElem?_getD, mix_upto_get, hx]; simp] at hM
 obtain ⟨A2, c2, A5, c5, hcs, -, -, -, -⟩ := k43_open (hM.2 rfl w2 (HW.trans ((hbx.trans (hb7.mono hbx.size)).mono HW.size)))
 subst hcs
 have h1 := (Kd.H_seg (Kd.H_more hH (fun j hj => trivial)) (by omega) (by omega) (seg := [.slice A6 x.f2.length c6]) (j := 2) (by show 2 + 1 ≤ 6; decide) (by simp [Value.oneCell'])).1
 have h2 := (Kd.H_seg h1 (by omega) (by omega) (seg := [.slice A7 x.f5.length c7]) (j := 5) (by show 5 + 1 ≤ 6; decide) (by simp [Value.oneCell'])).1
 have h3 : Kd.H (mixKd k43 w) 43 ((w2.setCell ⟨gr, k * 6 + 2, none⟩ (.slice A6 x.f2.length c6)).setCell ⟨gr, k * 6 + 5, none⟩ (.slice A7 x.f5.length c7)) W2.heap.size (fun _ => True) (.slice (some ⟨gr, 0, none⟩) n c) (mix_upto l k) (k : Int) (fun j => oki j ∨ wr.heap.size ≤ j) [.int .i64 x.f0, .string x.f1, .slice A6 x.f2.length c6, .string x.f3, .int .i64 x.f4, .slice A7 x.f5.length c7] := h2
 have hne : ∀ j, wr.heap.size ≤ j → j ≠ gr := fun j hj => by omega
 have h4 := Kd.H_back h3 (x' := (x, true)) (okp := fun j => wr.heap.size ≤ j) ⟨fun _ => k43_mkM _ _ _ x (Kd.R_far (Kd.R_far (Kd.R_below hR6 hb7') hne _) hne _) (Kd.R_far (Kd.R_far hR7 hne _) hne _), fun h => (Bool.noConfusion h)⟩ (fun j hj => .inr hj)
 rw [Int.toNat_natCast, mix_upto_set l k x hx] at h4
 exact h4
theorem ownE {w W2 wr : World} {A : Option Addr} {c n g k : Nat} {l : List S43} {q : Bool} (HW : Below w.heap.size w W2) (hsz : W2.heap.size = w.heap.size + 2) (HO : Own1 w W2 wr A c l n q g k) (hres : wr.heap[w.heap.size + 1]? = some (.cells #[.slice none 0 0, .bool false] 24 (0, 0))) (hk : k = l.length) :
  Kd.S k43 43 ((wr.setCell ⟨w.heap.size + 1, 0, none⟩ (.slice A n c)).setCell ⟨w.heap.size + 1, 1, none⟩ (.bool q)) w.heap.size (fun _ => True) (.slice A n c) l := by
 subst hk
 have h := HO.2.2
 rw [mix_upto_all] at h
 have h := Kd.S_lower (mix_done h) HW.size
 exact Kd.S_set (Kd.S_set h hres (by decide) 0 _) (blk_set hres 0 _) (by decide) 1 _
set_option maxRecDepth 100000 in
set_option maxHeartbeats 4000000 in
theorem dom_own.calls (A0_0 : Option Addr) (c0_0 : Nat) (l0_0 : List S43) (a0_1 : Bool) (w : World) (hr0_0 : Kd.C k43 w A0_0 l0_0.length l0_0) (hc0_0 : l0_0.length ≤ c0_0) (hn : l0_0.length ≤ 1000)
  (hin : ∀ x ∈ l0_0, x.f2.length ≤ 1000 ∧ x.f5.length ≤ 1000) :
  Calls Tryz.prog 20 #[.agg #[.slice A0_0 l0_0.length c0_0, .bool a0_1]] w fun e w' => ∃ v0_ : Value, e = .returned (.agg #[v0_, .bool a0_1]) ∧ Kd.S k43 43 w' w.heap.size (fun _ => True) v0_ l0_0 ∧ Below w.heap.size w w' := by
 obtain ⟨n, hnl⟩ : ∃ n, n = l0_0.length := ⟨_, rfl⟩
 have HB : Hid (∀ W2 : World, ((w.alloc (.cells #[.slice A0_0 n c0_0, .bool a0_1] 24)).alloc (.cells #[.slice none 0 0, .bool false] 24)) = W2 → Below w.heap.size w W2 ∧ W2.heap.size = w.heap.size + 2 ∧ W2.heap[w.heap.size + 1]? = some (.cells #[.slice none 0 0, .bool false] 24 (0, 0)) ∧ W2.cell? ⟨w.heap.size, 0, none⟩ = some (.slice A0_0 n c0_0) ∧ W2.cell? ⟨w.heap.size, 1, none⟩ = some (.bool a0_1)) :=
  Lib.hid (fun W2 h => by
   subst h
   exact ⟨((Below.refl _ w).alloc (Nat.le_refl _) _).alloc (by simp) _, by simp, by simpa using blk_new (w.alloc (.cells #[.slice A0_0 n c0_0, .bool a0_1] 24)) (.cells #[.slice none 0 0, .bool false] 24), by simp [go_sem], by simp [go_sem]⟩)
 have HCl : Hid (∀ W2 W : World, Below w.heap.size w W2 → Below W2.heap.size W2 W → Calls Tryz.prog 41 #[.slice A0_0 n c0_0] W fun e w' => ∃ A c, e = .returned (.slice A n c) ∧ Kd.S (mixKd k43 w) 43 w' W2.heap.size (fun _ => True) (.slice A n c) (l0_0.map (·, false)) ∧ Below W2.heap.size W2 w' ∧ Below W.heap.size W w') :=
  Lib.hid (fun W2 W h2 hb => by
   rw [hnl]
   have hle : W2.heap.size ≤ W.heap.size := hb.size
   refine (api_Node.row A0_0 c0_0 l0_0 w W (h2.trans (hb.mono h2.size)) hr0_0 (by omega)).mono ?_
   rintro e w' ⟨v, inner, rfl, ho, hr, hb'⟩
   obtain ⟨A, c, rfl⟩ := own_slice ho
   exact ⟨A, c, rfl, Kd.S_lower (mix_new ho hr) hle, hb.trans (hb'.mono hle), hb'⟩)
 rw [← hnl] at hc0_0 hn ⊢
 have HR := Lib.hid hr0_0
 have HN := Lib.hid hnl
 have HI := Lib.hid hin
 clear hr0_0 hnl hin
 go_enter Tryz.func20, Tryz.ntmps20
 go_upto_region 1 with fail
 generalize hW2 : ((w.alloc (.cells #[.slice A0_0 n c0_0, .bool a0_1] 24)).alloc (.cells #[.slice none 0 0, .bool false] 24)) = W2
 obtain ⟨hb2, hsz, e1, e2, e3⟩ := HB.out W2 hW2
 clear HB hW2
 have HB2 := Lib.hid hb2
 have HSz := Lib.hid hsz
 have HK : Hid (∀ W, Below W2.heap.size W2 W → W.cell? ⟨w.heap.size + 1, 0, none⟩ = some (.slice none 0 0) ∧ W.cell? ⟨w.heap.size, 0, none⟩ = some (.slice A0_0 n c0_0) ∧ W.cell? ⟨w.heap.size, 1, none⟩ = some (.bool a0_1)) := Lib.hid (fun W hb => ⟨pw_cell_below hb ((blk_cell e1 0).trans rfl), pw_cell_below hb e2, pw_cell_below hb e3⟩)
 have HRes := Lib.hid e1
 clear hb2 hsz e1 e2 e3
 go_cut [3] (fun s3 wx => ∃ g : Nat, s3 = .pointer (some ⟨g, 0, none⟩) ∧ Own0 w W2 wx l0_0 n a0_1 g)
 case first =>
  go_region_held3 (fun w' => w'.cell? ⟨w.heap.size + 1, 0, none⟩ = some (.slice none 0 0) ∧ w'.cell? ⟨w.heap.size, 0, none⟩ = some (.slice A0_0 n c0_0) ∧ w'.cell? ⟨w.heap.size, 1, none⟩ = some (.bool a0_1)) (exact HK.out _ (by (repeat (first | refine below_alloc ?_ _ | refine below_drew ?_ | refine Below.setCell ?_ (by simp) _)); first | exact hb | exact Below.refl _ _))
   (first | (with_reducible refine (HCl.out W2 _ HB2.out ?_).mono ?_; ((repeat (first | refine below_alloc ?_ _ | refine below_drew ?_)); exact Below.refl _ _); rintro e w' ⟨A1, c1, rfl, hs, hb, hb'⟩; obtain ⟨hcc, hff⟩ := bcell hb'))
  all_goals (go_wp2_with fail; go_meet; first | exact ⟨_, rfl, ownA hb hs⟩ | exact ⟨_, rfl, ownB hb (blk_below (blk_drew (blk_new W2 _)) hb') hs⟩)
 case rest =>
  obtain ⟨g, rfl, A, c, hge, hbx, hblk, hS⟩ := hcut
  have hs0 : Hid (Own1 w W2 _ A c l0_0 n a0_1 g 0) := Lib.hid ⟨hbx, hblk, by rw [mix_upto_zero]; exact hS⟩
  have hg0 := (blk_cell hblk 0).trans rfl
  clear hbx hblk hS
  go_wp2_with fail
  go_loopw [15] (fun i wr => ∃ k : Nat, k ≤ n ∧ i = .int .i64 k ∧ Hid (Own1 w W2 wr A c l0_0 n a0_1 g k)) (fun i _ => n - (intOf i).toNat)
  case atStart => exact ⟨0, Nat.zero_le _, rfl, hs0⟩
  case round =>
   obtain ⟨k, hk, rfl, HO⟩ := hrel
   clear hs0 hg0
   have hg0 := (blk_cell HO.out.2.1 0).trans rfl
   by_cases hlt : k < n
   ·obtain ⟨gr, cap, hv, hbr, hgr, cells, hty⟩ := Kd.S_form HO.out.2.2 (by rw [mix_upto_len, ← HN.out]; omega)
    injection hv with hA hn' hc'
    subst hA
    clear hn' hc'
    obtain ⟨x, hx⟩ : ∃ x, l0_0[k]? = some x := ⟨_, List.getElem?_eq_getElem (by rw [← HN.out]; exact hlt)⟩
    have HBw : Hid (Below w.heap.size w wr) := Lib.hid (HB2.out.trans (HO.out.1.mono HB2.out.size))
    obtain ⟨oki, cc, hcl, hM, hcc, hfr, hoki, hH⟩ := Kd.S_elem HO.out.2.2 (z43, false) (k : Int) (by omega) (by omega)
    rw [show (mix_upto l0_0 k).getD (k : Int).toNat (z43, false) = (x, false) from by rw [Int.toNat_natCast, List.getD_eq_getElem?_getD, mix_upto_get, hx]; simp] at hM
    obtain ⟨A2, c2, A5, c5, hcs, h2l, h2, h5l, h5⟩ := k43_open (hM.2 rfl wr HBw.out)
    rw [hcs] at hcc
    have e2 : wr.cell? ⟨gr, k * 6 + 2, none⟩ = some (.slice A2 x.f2.length c2) := hcc 2 _ rfl
    have e5 : wr.cell? ⟨gr, k * 6 + 5, none⟩ = some (.slice A5 x.f5.length c5) := hcc 5 _ rfl
    have f2 : wr.frozen? ⟨gr, k * 6 + 2, none⟩ = false := hfr 2
    have f5 : wr.frozen? ⟨gr, k * 6 + 5, none⟩ = false := hfr 5
    have HX := Lib.hid hx
    have HIx := Lib.hid (HI.out x (List.mem_of_getElem? hx))
    obtain ⟨n2, hn2⟩ : ∃ n2, n2 = x.f2.length := ⟨_, rfl⟩
    obtain ⟨n5, hn5⟩ : ∃ n5, n5 = x.f5.length := ⟨_, rfl⟩
    rw [← hn2] at e2
    rw [← hn5] at e5
    have HA : Hid (∀ W : World, Below wr.heap.size wr W → Calls Tryz.prog 29 #[.slice A2 n2 c2] W fun e w' => ∃ A c, e = .returned (.slice A n2 c) ∧ Kd.R k66 66 w' W2.heap.size (fun k => wr.heap.size ≤ k) (.slice A n2 c) x.f2 ∧ Below wr.heap.size wr w' ∧ Below W.heap.size W w') :=
     Lib.hid (fun W hb => by
      rw [hn2]
      refine (api_Attr_29.calls A2 c2 x.f2 W (Kd.C_below h2 hb) (by have := HIx.out; omega)).mono ?_
      rintro e w' ⟨v, rfl, hr, hb'⟩
      obtain ⟨A, c, rfl⟩ := Kd.R_slice hr
      exact ⟨A, c, rfl, Kd.R_lower (Kd.R_mono (Kd.R_bound hr) (fun k hk => Nat.le_trans hb.size hk.2.1)) (Nat.le_trans HO.out.1.size hb.size), hb.trans (hb'.mono hb.size), hb'⟩)
    have HC5 : Hid (∀ W : World, Below wr.heap.size wr W → Calls Tryz.prog 30 #[.slice A5 n5 c5] W fun e w' => ∃ A c, e = .returned (.slice A n5 c) ∧ Kd.R (Kd.int .i64) 3 w' W2.heap.size (fun k => wr.heap.size ≤ k) (.slice A n5 c) x.f5 ∧ Below wr.heap.size wr w' ∧ Below W.heap.size W w') :=
     Lib.hid (fun W hb => by
      rw [hn5]
      refine (slices_Clone_int_int.calls A5 c5 x.f5 W (Kd.C_below h5 hb) (by have := HIx.out; omega)).mono ?_
      rintro e w' ⟨v, rfl, hr, hb'⟩
      obtain ⟨A, c, rfl⟩ := Kd.R_slice hr
      exact ⟨A, c, rfl, Kd.R_lower (Kd.R_mono (Kd.R_bound hr) (fun k hk => Nat.le_trans hb.size hk.2.1)) (Nat.le_trans HO.out.1.size hb.size), hb.trans (hb'.mono hb.size), hb'⟩)
    have HN2 := Lib.hid hn2
    have HN5 := Lib.hid hn5
    have HBr := Lib.hid hbr
    clear hbr hcl hM hcc hfr hoki hH hcs h2l h2 h5l h5 hx hn2 hn5 hty
    have HE : Hid (∀ W : World, Below wr.heap.size wr W → W.cell? ⟨gr, k * 6 + 2, none⟩ = some (.slice A2 n2 c2) ∧ W.cell? ⟨gr, k * 6 + 5, none⟩ = some (.slice A5 n5 c5) ∧ W.frozen? ⟨gr, k * 6 + 2, none⟩ = false ∧ W.frozen? ⟨gr, k * 6 + 5, none⟩ = false) :=
     Lib.hid (fun W hb => ⟨pw_cell_below hb e2, pw_cell_below hb e5, (hb.frozen (p := ⟨gr, k * 6 + 2, none⟩) hgr).trans f2, (hb.frozen (p := ⟨gr, k * 6 + 5, none⟩) hgr).trans f5⟩)
    go_upto_region 6 with fail
    go_region_with (first | (with_reducible refine (HA.out _ ?_).mono ?_; ((repeat (first | refine below_alloc ?_ _ | refine below_drew ?_)); exact Below.refl _ _); rintro e w1 ⟨A6, c6, rfl, hR6, hb6, hb6'⟩; obtain ⟨e2a, e5a, f2a, f5a⟩ := HE.out _ hb6) | (with_reducible refine (HC5.out _ ?_).mono ?_; ((repeat (first | refine below_alloc ?_ _ | refine below_drew ?_)); exact hb6); rintro e w2 ⟨A7, c7, rfl, hR7, hb7, hb7'⟩; obtain ⟨e2b, e5b, f2b, f5b⟩ := HE.out _ hb7))
    all_goals
     have HO2 := Lib.hid (ownR HB2.out HO.out hlt HN.out HX.out (by rw [← HN2.out]; exact hR6) hb6 (by rw [← HN5.out]; exact hR7) hb7 hb7' HBr.out hgr)
     rw [← HN2.out, ← HN5.out] at HO2
     clear hR6 hb6 hR7 hb7 hb7' hb6' e2a e5a f2a f5a e2b e5b f2b f5b e2 e5 f2 f5
     go_wp2_with fail
     go_roundw
     case rel => exact ⟨k + 1, by omega, by simp, HO2⟩
     case measure => simp [intOf]; omega
   ·have hg1 := (blk_cell HO.out.2.1 1).trans rfl
    have hres := blk_below HRes.out HO.out.1
    have hr0 := (blk_cell hres 0).trans rfl
    have hr1 := (blk_cell hres 1).trans rfl
    have hrf0 := blk_frozen hres 0
    have hrf1 := blk_frozen hres 1
    go_wp2_with fail
    refine bodyPost_ret (results_cell_row rfl _ _ (w.heap.size + 1) 24 #[.slice A n c, .bool a0_1] (0, 0) _ rfl (blk_put (blk_put (cs' := #[.slice A n c, .bool false]) hres 0 _ rfl) 1 _ rfl) Tryz.underlying24 rfl (by kernel_rfl)) rfl ?_
    exact ⟨_, rfl, ownE HB2.out HSz.out HO.out hres (by have := HN.out; omega), (((HB2.out.trans (HO.out.1.mono HB2.out.size))).setCell (by simp) _).setCell (by simp) _⟩

/-! ### dom_editor_node: function 84 -/
/-- The editor's state: its block, and the document's row, all of the call's own (from base on). -/
def Ed (w : World) (B b : Nat) (l : List S43) (q : Bool) (made : Int) : Prop := ∃ v, B ≤ b ∧ w.heap[b]? = some (.cells #[v, .bool q, .int .i64 made] 62 (0, 0)) ∧ Kd.S k43 43 w B (fun _ => True) v l
theorem Ed.below {w w' : World} {B b : Nat} {l : List S43} {q : Bool} {made : Int} (h : Ed w B b l q made) (hb : Below w.heap.size w w') : Ed w' B b l q made := by
 obtain ⟨v, h1, h2, h3⟩ := h
 exact ⟨v, h1, blk_below h2 hb, Kd.S_below h3 hb⟩
set_option maxHeartbeats 1000000 in
theorem dom_editor_node.in_ (b gr n c i : Nat) (w : World) (hc : w.cell? ⟨b, 0, none⟩ = some (.slice (some ⟨gr, 0, none⟩) n c)) (hi : i < n) :
  Calls Tryz.prog 84 #[.pointer (some ⟨b, 0, none⟩), .int .i64 i] w fun e w' => e = .returned (.pointer (some ⟨gr, i * 6, none⟩)) ∧ w = w' := by
 go_enter Tryz.func84, Tryz.ntmps84
 go_wp2_with fail
 go_ret
 exact ⟨rfl, rfl⟩
set_option maxHeartbeats 1000000 in
theorem dom_editor_node.out_ (b n c : Nat) (A : Option Addr) (i : Int) (w : World) (hc : w.cell? ⟨b, 0, none⟩ = some (.slice A n c)) (hi : i < 0 ∨ (n : Int) ≤ i) :
  Calls Tryz.prog 84 #[.pointer (some ⟨b, 0, none⟩), .int .i64 i] w fun e w' => e = .returned (.pointer none) ∧ w = w' := by
 by_cases h0 : i < 0
 ·clear hi
  go_enter Tryz.func84, Tryz.ntmps84
  go_wp2_with fail
  go_ret
  exact ⟨rfl, rfl⟩
 ·have h1 : (n : Int) ≤ i := by omega
  clear hi
  go_enter Tryz.func84, Tryz.ntmps84
  go_wp2_with fail
  go_ret
  exact ⟨rfl, rfl⟩
set_option maxHeartbeats 1000000 in
theorem element_out (b n c : Nat) (A : Option Addr) (i : Int) (w : World) (hc : w.cell? ⟨b, 0, none⟩ = some (.slice A n c)) (hi : i < 0 ∨ (n : Int) ≤ i) :
  Calls Tryz.prog 82 #[.pointer (some ⟨b, 0, none⟩), .int .i64 i] w fun e w' => e = .returned (.tuple #[.pointer none, .int .i64 5]) ∧ w = w' := by
 have H := Lib.hid (dom_editor_node.out_ b n c A i w hc hi)
 clear hc hi
 go_enter Tryz.func82, Tryz.ntmps82
 go_wp2_with fail
 refine H.out.mono ?_
 rintro e w' ⟨rfl, rfl⟩
 go_wp2_with fail
 go_ret2
 exact ⟨rfl, rfl⟩
set_option maxHeartbeats 1000000 in
theorem element_kind (b gr n c i : Nat) (kd : Int) (w : World) (hc : w.cell? ⟨b, 0, none⟩ = some (.slice (some ⟨gr, 0, none⟩) n c)) (hi : i < n) (hk : w.cell? ⟨gr, i * 6, none⟩ = some (.int .i64 kd)) (hkd : kd ≠ 2) :
  Calls Tryz.prog 82 #[.pointer (some ⟨b, 0, none⟩), .int .i64 i] w fun e w' => e = .returned (.tuple #[.pointer none, .int .i64 7]) ∧ w = w' := by
 have H := Lib.hid (dom_editor_node.in_ b gr n c i w hc hi)
 have hb : (kd != 2) = true := by simpa using hkd
 clear hc hi hkd
 go_enter Tryz.func82, Tryz.ntmps82
 go_wp2_with fail
 refine H.out.mono ?_
 rintro e w' ⟨rfl, rfl⟩
 go_wp2_with fail
 go_ret2
 exact ⟨rfl, rfl⟩
set_option maxHeartbeats 1000000 in
theorem element_in (b gr n c i : Nat) (w : World) (hc : w.cell? ⟨b, 0, none⟩ = some (.slice (some ⟨gr, 0, none⟩) n c)) (hi : i < n) (hk : w.cell? ⟨gr, i * 6, none⟩ = some (.int .i64 2)) :
  Calls Tryz.prog 82 #[.pointer (some ⟨b, 0, none⟩), .int .i64 i] w fun e w' => e = .returned (.tuple #[.pointer (some ⟨gr, i * 6, none⟩), .int .i64 0]) ∧ w = w' := by
 have H := Lib.hid (dom_editor_node.in_ b gr n c i w hc hi)
 clear hc hi
 go_enter Tryz.func82, Tryz.ntmps82
 go_wp2_with fail
 refine H.out.mono ?_
 rintro e w' ⟨rfl, rfl⟩
 go_wp2_with fail
 go_ret2
 exact ⟨rfl, rfl⟩

/-! ### dom_editor_text: function 57 -/
/-- A node's text is set. -/
theorem ed_setText {B gr n c j : Nat} {W : World} {l : List S43} {xj : S43} (hS : Kd.S k43 43 W B (fun _ => True) (.slice (some ⟨gr, 0, none⟩) n c) l) (hj : j < n) (hxj : l[j]? = some xj) (s : ByteArray) :
  Kd.S k43 43 (W.setCell ⟨gr, j * 6 + 3, none⟩ (.string s)) B (fun _ => True) (.slice (some ⟨gr, 0, none⟩) n c) (l.set j ⟨xj.f0, xj.f1, xj.f2, s, xj.f4, xj.f5⟩) := by
 obtain ⟨oki, cc, hcl, hM, hcc, hfr, hoki, hH⟩ := Kd.S_elem hS z43 (j : Int) (by omega) (by omega)
 rw [show l.getD (j : Int).toNat z43 = xj from by rw [Int.toNat_natCast, List.getD_eq_getElem?_getD, hxj]; rfl] at hM
 obtain ⟨v2, v5, hcs, hR2, hR5⟩ := k43_openM hM
 subst hcs
 have h2 := (Kd.H_seg hH (by omega) (by omega) (seg := [.string s]) (j := 3) (by show 3 + 1 ≤ 6; decide) (by simp [Value.oneCell'])).1
 have h3 : Kd.H k43 43 (W.setCell ⟨gr, j * 6 + 3, none⟩ (.string s)) B (fun _ => True) (.slice (some ⟨gr, 0, none⟩) n c) l (j : Int) oki [.int .i64 xj.f0, .string xj.f1, v2, .string s, .int .i64 xj.f4, v5] := h2
 have hne : ∀ k, oki k → k ≠ gr := fun k hk => (hoki k hk).2
 have h4 := Kd.H_back h3 (x' := ⟨xj.f0, xj.f1, xj.f2, s, xj.f4, xj.f5⟩) (okp := oki) (k43_mkM _ _ _ ⟨xj.f0, xj.f1, xj.f2, s, xj.f4, xj.f5⟩ (Kd.R_far hR2 (p := ⟨gr, j * 6 + 3, none⟩) hne _) (Kd.R_far hR5 (p := ⟨gr, j * 6 + 3, none⟩) hne _)) (fun k hk => hk)
 rw [Int.toNat_natCast] at h4
 exact h4
/-- What an edit's value is. -/
def editV (e : S45) (A8 A11 : Option Addr) (n8 n11 c8 c11 : Nat) : Value := .agg #[.int .i64 e.f0, .int .i64 e.f1, .int .i64 e.f2, .int .i64 e.f3, .string e.f4, .string e.f5, .int .i64 e.f6.f0, .string e.f6.f1, .slice A8 n8 c8, .string e.f6.f3, .int .i64 e.f6.f4, .slice A11 n11 c11]
def textF (l : List S43) (e : S45) : Int × List S43 :=
 if 0 ≤ e.f1 ∧ e.f1 < (l.length : Int) then
  (if (rd_T43 l e.f1).f0 = 3 ∨ (rd_T43 l e.f1).f0 = 4 then
   (if e.f5.size > 400 then (2, l) else (0, l.set e.f1.toNat { rd_T43 l e.f1 with f3 := e.f5 }))
  else (7, l))
 else (5, l)
theorem ed_open {w : World} {B b : Nat} {l : List S43} {q : Bool} {made : Int} (h : Ed w B b l q made) : ∃ A c, B ≤ b ∧ w.heap[b]? = some (.cells #[.slice A l.length c, .bool q, .int .i64 made] 62 (0, 0)) ∧ Kd.S k43 43 w B (fun _ => True) (.slice A l.length c) l := by
 obtain ⟨v, h1, h2, h3⟩ := h
 obtain ⟨A, c, rfl⟩ := Kd.S_slice h3
 exact ⟨A, c, h1, h2, h3⟩
set_option maxRecDepth 100000 in
set_option maxHeartbeats 4000000 in
theorem text_calls (e : S45) (A8 A11 : Option Addr) (n8 n11 c8 c11 : Nat) (l : List S43) (q : Bool) (made : Int) (b : Nat) (w0 w : World) (hw : Below w0.heap.size w0 w) (hE : Ed w w0.heap.size b l q made) :
  Calls Tryz.prog 57 #[.pointer (some ⟨b, 0, none⟩), editV e A8 A11 n8 n11 c8 c11] w fun u w' => u = .returned (.int .i64 (textF l e).1) ∧ Ed w' w0.heap.size b (textF l e).2 q made ∧ Below w0.heap.size w0 w' := by
 obtain ⟨A, c, hB, hblk, hS⟩ := ed_open hE
 obtain ⟨n, hn⟩ : ∃ n, n = l.length := ⟨_, rfl⟩
 rw [← hn] at hblk hS
 unfold editV
 have HN := Lib.hid hn
 have HW := Lib.hid hw
 have HB := Lib.hid hB
 have HBlk := Lib.hid hblk
 have HS := Lib.hid hS
 have HE : Hid (∀ W : World, Below w.heap.size w W → Ed W w0.heap.size b l q made) := Lib.hid (fun W h => hE.below h)
 have hbw : b < w.heap.size := blk_lt hblk
 have hcell : ∀ W : World, Below w.heap.size w W → W.cell? ⟨b, 0, none⟩ = some (.slice A n c) := fun W h => pw_cell_below h ((blk_cell hblk 0).trans rfl)
 have HC := Lib.hid hcell
 by_cases hin : 0 ≤ e.f1 ∧ e.f1 < (l.length : Int)
 ·obtain ⟨i, hi⟩ : ∃ i : Nat, (i : Int) = e.f1 := ⟨e.f1.toNat, by omega⟩
  have hiN : i < n := by omega
  obtain ⟨gr, cap, hv, hbr, hgr, cells, hty⟩ := Kd.S_form hS (by omega)
  injection hv with hA hn' hc'
  subst hA
  clear hn' hc'
  obtain ⟨x, hx⟩ : ∃ x, rd_T43 l e.f1 = x := ⟨_, rfl⟩
  have hxi : l[i]? = some x := by
   rw [← hx, ← hi]
   unfold rd_T43
   rw [Int.toNat_natCast, List.getD_eq_getElem?_getD, List.getElem?_eq_getElem (by omega)]
   rfl
  have hF : textF l e = (if x.f0 = 3 ∨ x.f0 = 4 then (if e.f5.size > 400 then (2, l) else (0, l.set i { x with f3 := e.f5 })) else (7, l)) := by
   unfold textF
   rw [if_pos hin, hx, ← hi, Int.toNat_natCast]
  rw [hF]
  obtain ⟨hn2, hnc, hrow⟩ := Kd.S_reads' hS
  obtain ⟨adi, A2i, c2i, A5, c5, ei, i0, -, -, i3, -⟩ := at_T43 hrow (i : Int) (by omega) (by omega)
  cases ei
  rw [hi, hx] at i0 i3
  have hgrn : i * 6 = (e.f1.toNat) * 6 := by rw [← hi, Int.toNat_natCast]
  have i0' : w.cell? ⟨gr, i * 6, none⟩ = some (.int .i64 x.f0) := by simpa [add_at, ← hi] using i0
  have i3' : w.cell? ⟨gr, i * 6 + 3, none⟩ = some (.string x.f3) := by simpa [add_at, ← hi] using i3
  have hfr : w.frozen? ⟨gr, i * 6 + 3, none⟩ = false := blk_frozen hty _
  have HNd : Hid (∀ W : World, Below w.heap.size w W → Calls Tryz.prog 84 #[.pointer (some ⟨b, 0, none⟩), .int .i64 e.f1] W fun u w' => u = .returned (.pointer (some ⟨gr, i * 6, none⟩)) ∧ W = w') :=
   Lib.hid (fun W h => by rw [← hi]; exact dom_editor_node.in_ b gr n c i W (HC.out W h) hiN)
  have HXi := Lib.hid hxi
  have hbx := (Below.refl _ w).alloc (Nat.le_refl _) (.cells #[.int .i64 e.f0, .int .i64 e.f1, .int .i64 e.f2, .int .i64 e.f3, .string e.f4, .string e.f5, .int .i64 e.f6.f0, .string e.f6.f1, .slice A8 n8 c8, .string e.f6.f3, .int .i64 e.f6.f4, .slice A11 n11 c11] 45)
  have HBx := Lib.hid hbx
  have y0 := pw_cell_below hbx i0'
  have y3 := pw_cell_below hbx i3'
  have yf : (w.alloc (.cells #[.int .i64 e.f0, .int .i64 e.f1, .int .i64 e.f2, .int .i64 e.f3, .string e.f4, .string e.f5, .int .i64 e.f6.f0, .string e.f6.f1, .slice A8 n8 c8, .string e.f6.f3, .int .i64 e.f6.f4, .slice A11 n11 c11] 45)).frozen? ⟨gr, i * 6 + 3, none⟩ = false := (hbx.frozen (p := ⟨gr, i * 6 + 3, none⟩) hgr).trans hfr
  have y5 : (w.alloc (.cells #[.int .i64 e.f0, .int .i64 e.f1, .int .i64 e.f2, .int .i64 e.f3, .string e.f4, .string e.f5, .int .i64 e.f6.f0, .string e.f6.f1, .slice A8 n8 c8, .string e.f6.f3, .int .i64 e.f6.f4, .slice A11 n11 c11] 45)).cell? ⟨w.heap.size, 5, none⟩ = some (.string e.f5) := by simp [go_sem]
  clear hE hblk hS hcell hn hw hB hx hxi hF hrow i0 i3 hgrn i0' i3' hfr hty hn2 hnc hbx hin
  by_cases h34 : x.f0 = 3 ∨ x.f0 = 4
  ·rw [if_pos h34]
   have hb34 : (x.f0 != 3) = false ∨ ((x.f0 != 3) = true ∧ (x.f0 != 4) = false) := by
    rcases h34 with h | h
    ·exact .inl (by simpa using h)
    ·exact .inr ⟨by rw [h]; rfl, by simpa using h⟩
   clear h34
   by_cases h400 : e.f5.size > 400
   ·rw [if_pos h400]
    have h4b : decide ((400 : Int) < (e.f5.size : Int)) = true := decide_eq_true (by omega)
    rcases hb34 with hb3 | ⟨hb3, hb4⟩
    all_goals
     go_enter Tryz.func57, Tryz.ntmps57
     go_wp2_with fail
     refine (HNd.out _ HBx.out).mono ?_
     rintro u w' ⟨rfl, rfl⟩
     go_wp2_with fail
     go_ret
     exact ⟨rfl, HE.out _ HBx.out, HW.out.trans (HBx.out.mono HW.out.size)⟩
   ·rw [if_neg h400]
    have h4b : decide ((400 : Int) < (e.f5.size : Int)) = false := decide_eq_false (by omega)
    rcases hb34 with hb3 | ⟨hb3, hb4⟩
    all_goals
     go_enter Tryz.func57, Tryz.ntmps57
     go_wp2_with fail
     refine (HNd.out _ HBx.out).mono ?_
     rintro u w' ⟨rfl, rfl⟩
     generalize (w.alloc (.cells #[.int .i64 e.f0, .int .i64 e.f1, .int .i64 e.f2, .int .i64 e.f3, .string e.f4, .string e.f5, .int .i64 e.f6.f0, .string e.f6.f1, .slice A8 n8 c8, .string e.f6.f3, .int .i64 e.f6.f4, .slice A11 n11 c11] 45)) = W1 at HBx y0 y3 yf y5
     go_wp2_with fail
     go_ret
     refine ⟨rfl, ⟨_, HB.out, blk_far (blk_below HBlk.out HBx.out) ?_ _, ed_setText (Kd.S_below HS.out HBx.out) hiN HXi.out e.f5⟩, (HW.out.trans (HBx.out.mono HW.out.size)).setCell hbr _⟩
     obtain ⟨cells, hty⟩ := Kd.S_typed HS.out gr (by simp [Value.ownBlock])
     exact fun he => blk_ne hty HBlk.out (by decide) he.symm
  ·rw [if_neg h34]
   have hb3 : (x.f0 != 3) = true := by simpa using fun h => h34 (.inl h)
   have hb4 : (x.f0 != 4) = true := by simpa using fun h => h34 (.inr h)
   clear h34
   go_enter Tryz.func57, Tryz.ntmps57
   go_wp2_with fail
   refine (HNd.out _ HBx.out).mono ?_
   rintro u w' ⟨rfl, rfl⟩
   go_wp2_with fail
   go_ret
   exact ⟨rfl, HE.out _ HBx.out, HW.out.trans (HBx.out.mono HW.out.size)⟩
 ·have hF : textF l e = (5, l) := by
   unfold textF
   rw [if_neg hin]
  rw [hF]
  have HNd : Hid (∀ W : World, Below w.heap.size w W → Calls Tryz.prog 84 #[.pointer (some ⟨b, 0, none⟩), .int .i64 e.f1] W fun u w' => u = .returned (.pointer none) ∧ W = w') :=
   Lib.hid (fun W h => dom_editor_node.out_ b n c A e.f1 W (HC.out W h) (by omega))
  have HBx := Lib.hid ((Below.refl _ w).alloc (Nat.le_refl _) (.cells #[.int .i64 e.f0, .int .i64 e.f1, .int .i64 e.f2, .int .i64 e.f3, .string e.f4, .string e.f5, .int .i64 e.f6.f0, .string e.f6.f1, .slice A8 n8 c8, .string e.f6.f3, .int .i64 e.f6.f4, .slice A11 n11 c11] 45))
  clear hE hblk hS hcell hn hw hB hF hin
  go_enter Tryz.func57, Tryz.ntmps57
  go_wp2_with fail
  refine (HNd.out _ HBx.out).mono ?_
  rintro u w' ⟨rfl, rfl⟩
  go_wp2_with fail
  go_ret
  exact ⟨rfl, HE.out _ HBx.out, HW.out.trans (HBx.out.mono HW.out.size)⟩

/-! ### slices_Index_int_int: function 28 -/
def slices_Index_int_int.l0 : Nat → List Int → Int → Int → Int → Option (Int)
 | 0, _, _, _, _ => none
 | k + 1, x0, x1, x7, x8 => if x8 < x7 then (if 0 ≤ x8 then (if x8 < (x0.length : Int) then (if x1 = (rd x0 x8) then (some x8) else (slices_Index_int_int.l0 k x0 x1 x7 (wrap64 (x8 + 1)))) else (none)) else (none)) else (some (-1))
def slices_Index_int_int.f (k : Nat) (l0 : List Int) (a1 : Int) : Option (Int) := slices_Index_int_int.l0 k l0 a1 (l0.length : Int) 0
theorem slices_Index_int_int.mono_l : ∀ k, (∀ y0 y1 y2 y3, LeO (slices_Index_int_int.l0 k y0 y1 y2 y3) (slices_Index_int_int.l0 (k + 1) y0 y1 y2 y3))
 | 0 => fun _ _ _ _ r h => by simp [slices_Index_int_int.l0] at h
 | k + 1 => by
  have ih0 := slices_Index_int_int.mono_l k
  ·intro y0 y1 y2 y3
   unfold slices_Index_int_int.l0
   repeat' first
   | (with_reducible exact ih0 _ _ _ _)
   | (with_reducible exact LeO.refl _)
   | (with_reducible exact LeO.none _)
   | (with_reducible refine LeO.ite ?_ ?_)
   | (with_reducible refine LeO.bind ?_ (fun _ => ?_))
   | exact ih0 _ _ _ _
   | exact LeO.none _
   | refine LeO.ite ?_ ?_
   | refine LeO.bind ?_ (fun _ => ?_)
theorem slices_Index_int_int.mono : ∀ a0 a1 k, LeO (slices_Index_int_int.f k a0 a1) (slices_Index_int_int.f (k + 1) a0 a1) := by
 intro a0 a1 k
 have ih0 := slices_Index_int_int.mono_l k
 unfold slices_Index_int_int.f
 repeat' first
   | (with_reducible exact ih0 _ _ _ _)
   | (with_reducible exact LeO.refl _)
   | (with_reducible exact LeO.none _)
   | (with_reducible refine LeO.ite ?_ ?_)
   | (with_reducible refine LeO.bind ?_ (fun _ => ?_))
   | exact ih0 _ _ _ _
   | exact LeO.none _
   | refine LeO.ite ?_ ?_
   | refine LeO.bind ?_ (fun _ => ?_)
set_option maxHeartbeats 8000000 in
set_option maxRecDepth 100000 in
theorem slices_Index_int_int.calls (k : Nat) (A0 : Option Addr) (c0 : Nat) (l0 : List Int) (a1 : Int) (r : Int) (w : World) (hr0 : Kd.C (Kd.int .i64) w A0 l0.length l0) (hc0 : l0.length ≤ c0) (h : slices_Index_int_int.f k l0 a1 = some r) :
  Calls Tryz.prog 28 #[.slice A0 l0.length c0, .int .i64 a1] w fun e w' => e = .returned (.int .i64 r) ∧ Drawn0 w w' := by
 have HR0 := Aside0.mk hr0
 have HC0 := Aside0.mk hc0
 clear hr0 hc0
 have H : (slices_Index_int_int.l0 k l0 a1 (l0.length : Int) 0) = some r := h
 clear h
 have H' := Aside0.mk H
 clear H
 go_enter Tryz.func28, Tryz.ntmps28
 go_wp2
 go_loopg [8] k (fun kq v8 w' => ∃ (x8_1 : Int), v8 = .int .i64 x8_1 ∧ Aside0 (slices_Index_int_int.l0 kq l0 a1 (l0.length : Int) x8_1 = some r) ∧ Aside0 (kq ≤ k) ∧ Drawn0 w w')
 case atStart => exact ⟨(0), rs_, H', ⟨Nat.le_refl _⟩, by repeat (first | exact Drawn0.refl _ | apply Drawn0.step)⟩
 case round =>
  clear H'
  obtain ⟨x8_1, rfl, HA, HK1, ⟨m1, rfl⟩⟩ := hrel
  cases gk with
  | zero => exact absurd HA.out (by simp [slices_Index_int_int.l0])
  | succ k1 =>
   have H := HA.out
   clear HA
   simp only [slices_Index_int_int.l0] at H
   by_cases c3 : x8_1 < (l0.length : Int)
   ·rw [if_pos c3] at H
    have c3b0 : decide (x8_1 < (l0.length : Int)) = true := decide_eq_true c3
    clear c3
    by_cases c4 : 0 ≤ x8_1
    ·rw [if_pos c4] at H
     have c4b0 : decide (0 ≤ x8_1) = true := decide_eq_true c4
     clear c4
     by_cases c5 : x8_1 < (l0.length : Int)
     ·rw [if_pos c5] at H
      have c5b0 : decide (x8_1 < (l0.length : Int)) = true := decide_eq_true c5
      clear c5
      by_cases c6 : a1 = (rd l0 x8_1)
      ·rw [if_pos c6] at H
       have c6b0 : (a1 == (rd l0 x8_1)) = true := beq_iff_eq.mpr c6
       have c6b1 : (a1 != (rd l0 x8_1)) = false := bne_eq_false_iff_eq.mpr c6
       clear c6
       obtain rfl := Option.some.inj H
       have p148 : 0 ≤ (x8_1 : Int) := of_decide_eq_true as_
       have q148 : x8_1 < (l0.length : Int) := of_decide_eq_true as_
       obtain ⟨ad148, e148, hx148_0⟩ := Kd.at_int HR0.out x8_1 p148 q148
       cases e148
       replace p148 := eq_true p148
       replace q148 := eq_true q148
       go_wp2
       go_ret
       exact ⟨by first | rfl | (simp; done) | (simp [*]; done), by repeat (first | exact Drawn0.refl _ | apply Drawn0.step)⟩
      ·rw [if_neg c6] at H
       have c6b0 : (a1 == (rd l0 x8_1)) = false := beq_eq_false_iff_ne.mpr c6
       have c6b1 : (a1 != (rd l0 x8_1)) = true := bne_iff_ne.mpr c6
       have H' := Aside0.mk H
       clear H
       have p148 : 0 ≤ (x8_1 : Int) := of_decide_eq_true as_
       have q148 : x8_1 < (l0.length : Int) := of_decide_eq_true as_
       obtain ⟨ad148, e148, hx148_0⟩ := Kd.at_int HR0.out x8_1 p148 q148
       cases e148
       replace p148 := eq_true p148
       replace q148 := eq_true q148
       go_wp2
       go_roundg k1
       case measure => have := HK1.out; omega
       case rel => exact ⟨(wrap64 (x8_1 + 1)), rs_, H', ⟨by have := HK1.out; omega⟩, by repeat (first | exact Drawn0.refl _ | apply Drawn0.step)⟩
     ·rw [if_neg c5] at H
      exact absurd H (by simp)
    ·rw [if_neg c4] at H
     exact absurd H (by simp)
   ·rw [if_neg c3] at H
    have c3b0 : decide (x8_1 < (l0.length : Int)) = false := decide_eq_false c3
    clear c3
    obtain rfl := Option.some.inj H
    go_wp2
    go_ret
    exact ⟨by first | rfl | (simp; done) | (simp [*]; done), by repeat (first | exact Drawn0.refl _ | apply Drawn0.step)⟩

end Go.Proofs.YtmcinclecpeakaaGreatDoor.PRR
