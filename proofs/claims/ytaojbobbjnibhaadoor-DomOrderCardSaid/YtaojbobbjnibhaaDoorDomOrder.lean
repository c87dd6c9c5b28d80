/- The law DomOrder, plainly: the printed function always comes to true. -/
import Derived.Test.YtaojbobbjnibhaaDoorDocO
namespace Go.Proofs.YtaojbobbjnibhaaDoor.DocC
open Go.RowKit Go.Proofs.YtaojbobbjnibhaaDoorW.PrintWords Go.Proofs.YtaojbobbjnibhaaDoor.PDO Go.Proofs.YtaojbobbjnibhaaDoor.DocP
set_option linter.unusedVariables false
theorem dombegun_ev : Ev (fun k => clerestorykeep1_domBegun.f k) true := Ev.of clerestorykeep1_domBegun.mono (k := 60) (by kernel_rfl)
section
variable (l : List S35) (q : Bool)
theorem ord_in (hw : WF l.length (par l) (kids l)) {x : Int} (hx : x ∈ ord l) : In l.length x ∧ Under (par l) 0 x := by
  have h0 : In l.length 0 := ⟨by omega, by have := hw.pos; omega⟩
  exact hw.mem_pre 40 0 x h0 hx
theorem ord_iff (hw : WF l.length (par l) (kids l)) {x : Int} (hx : In l.length x) {d : Nat} (hd : Dep (par l) x d) (h40 : d ≤ 40) : x ∈ ord l ↔ (pathL (par l) d x).head? = some 0 := by
  have h0 : In l.length 0 := ⟨by omega, by have := hw.pos; omega⟩
  have hr : par l 0 < 0 := by rw [hw.root]; omega
  rw [under_head hr d x hd]
  exact ⟨fun h => (ord_in l hw h).2, fun h => pre_all hw (.top hr) h0 h hx d hd (by omega)⟩
/-- Behind the loop: what the paths tell. -/
theorem rest_ev (hg : Good l q) (hf : Fit l) (n : Int) (seen : List Bool) (hs : seen.length = l.length) (hm : ∀ x : Int, In l.length x → (rdOf false seen x = true ↔ x ∈ ord l)) :
    Ev (fun k => (dom_Path.f k l q n).bind fun bt => (if n < 0 then (clerestorykeep1_DomOrder.j1 k n seen bt.1 bt.2 true l q) else (clerestorykeep1_DomOrder.j1 k n seen bt.1 bt.2 (decide (n ≥ (seen.length : Int))) l q))) true := by
  obtain ⟨_, hw⟩ := hg.wf hf
  by_cases hn : 0 ≤ n ∧ n < l.length
  · obtain ⟨d, h40, hd⟩ := hw.dep n hn.1 hn.2
    have hp := lpath_ev l q hg hf hn hd h40
    have hiff := ord_iff l hw hn hd h40
    have hmn := hm n hn
    refine Ev.bind (f := fun k (bt : List Int × Int) => (if n < 0 then (clerestorykeep1_DomOrder.j1 k n seen bt.1 bt.2 true l q) else (clerestorykeep1_DomOrder.j1 k n seen bt.1 bt.2 (decide (n ≥ (seen.length : Int))) l q))) hp ?_
    refine Ev.congr (f := fun k => clerestorykeep1_DomOrder.j1 k n seen (if (pathL (par l) d n).head? = some 0 then (pathL (par l) d n, (0 : Int)) else ([], 5)).1 (if (pathL (par l) d n).head? = some 0 then (pathL (par l) d n, (0 : Int)) else ([], 5)).2 false l q) (fun k => by rw [if_neg (by omega), show decide (n ≥ (seen.length : Int)) = false from decide_eq_false (by omega)]) ?_
    by_cases hh : (pathL (par l) d n).head? = some 0
    · rw [if_pos hh]
      have hse : rdOf false seen n = true := hmn.2 (hiff.2 hh)
      refine Ev.step (f := fun k => clerestorykeep1_DomOrder.j2 k n (pathL (par l) d n) (n == 0) l q) (fun k => ?_) ?_
      · show clerestorykeep1_DomOrder.j1 (k + 1) n seen (pathL (par l) d n) 0 false l q = _
        simp only [clerestorykeep1_DomOrder.j1]
        rw [if_neg (by decide), if_pos hn.1, if_pos (by omega), hse]
        rfl
      by_cases h0 : n = 0
      · subst h0
        have hd0 : d = 0 := by
          cases hd with
          | top _ => rfl
          | up hpp _ => rw [hw.root] at hpp; omega
        subst hd0
        refine Ev.step (f := fun k => (clerestorykeep1_domBegun.f k).bind fun t => (if t = true then (if (0 : Int) = 0 then ((clerestorykeep1_sameInts.f k (pathL (par l) 0 0) (([0] : List Int))).bind fun t => (some t)) else (some true)) else (some false))) (fun k => ?_) ?_
        · show clerestorykeep1_DomOrder.j2 (k + 1) 0 (pathL (par l) 0 0) true l q = _
          simp only [clerestorykeep1_DomOrder.j2]
          rw [if_pos trivial]
        · refine Ev.bind (f := fun k t => (if t = true then (if (0 : Int) = 0 then ((clerestorykeep1_sameInts.f k (pathL (par l) 0 0) (([0] : List Int))).bind fun t => (some t)) else (some true)) else (some false))) dombegun_ev ?_
          exact Ev.bind (f := fun _ t => some t) (sameInts_ev [0] (by decide)) (Ev.now true)
      · have hn0 : (n == 0) = false := by simpa using h0
        rw [hn0]
        cases hd with
        | top hpp =>
          simp only [pathL, List.head?_cons, Option.some.injEq] at hh
          exact absurd hh h0
        | up hpp hdd =>
          rename_i d
          have hpi : In l.length (par l n) := WFin hw hn hpp
          have hp2 := lpath_ev l q hg hf hpi hdd (by omega)
          have hh2 : (pathL (par l) d (par l n)).head? = some 0 := by
            rw [← hh]
            simp only [pathL]
            cases hc : pathL (par l) d (par l n) with
            | nil => exact absurd hc (pathL_ne _ d _)
            | cons x t => rfl
          rw [if_pos hh2] at hp2
          have hlen : (pathL (par l) d (par l n)).length = d + 1 := by
            have : ∀ (d : Nat) (a : Int), (pathL (par l) d a).length = d + 1 := by
              intro d
              induction d with
              | zero => intro a; rfl
              | succ d ih => intro a; simp only [pathL, List.length_append, ih]; rfl
            exact this d _
          refine Ev.step (f := fun k => (dom_Path.f k l q (par l n)).bind fun bt => ((clerestorykeep1_domBegun.f k).bind fun t => (if t = true then (if bt.2 = 0 then (if bt.1.length < 17592186044416 then ((clerestorykeep1_sameInts.f k (pathL (par l) (d + 1) n) (bt.1 ++ [n])).bind fun t => (some t)) else (none)) else (some false)) else (some false)))) (fun k => ?_) ?_
          · show clerestorykeep1_DomOrder.j2 (k + 1) n (pathL (par l) (d + 1) n) false l q = _
            simp only [clerestorykeep1_DomOrder.j2]
            rw [if_neg (by decide), if_pos hn.1, if_pos hn.2]
          · refine Ev.bind (f := fun k (bt : List Int × Int) => ((clerestorykeep1_domBegun.f k).bind fun t => (if t = true then (if bt.2 = 0 then (if bt.1.length < 17592186044416 then ((clerestorykeep1_sameInts.f k (pathL (par l) (d + 1) n) (bt.1 ++ [n])).bind fun t => (some t)) else (none)) else (some false)) else (some false)))) hp2 ?_
            refine Ev.bind (f := fun k t => (if t = true then (if (0 : Int) = 0 then (if (pathL (par l) d (par l n)).length < 17592186044416 then ((clerestorykeep1_sameInts.f k (pathL (par l) (d + 1) n) (pathL (par l) d (par l n) ++ [n])).bind fun t => (some t)) else (none)) else (some false)) else (some false))) dombegun_ev ?_
            refine Ev.congr (f := fun k => (clerestorykeep1_sameInts.f k (pathL (par l) (d + 1) n) (pathL (par l) d (par l n) ++ [n])).bind fun t => (some t)) (fun k => by rw [if_pos rfl, if_pos rfl, if_pos (by omega)]) ?_
            exact Ev.bind (f := fun _ t => some t) (sameInts_ev (pathL (par l) (d + 1) n) (by simp only [pathL, List.length_append, List.length_singleton]; omega)) (Ev.now true)
    · rw [if_neg hh]
      have hse : rdOf false seen n = false := by
        cases h : rdOf false seen n with
        | false => rfl
        | true => exact absurd (hiff.1 (hmn.1 h)) hh
      refine Ev.step (f := fun k => clerestorykeep1_DomOrder.j2 k n [] true l q) (fun k => ?_) ?_
      · show clerestorykeep1_DomOrder.j1 (k + 1) n seen [] 5 false l q = _
        simp only [clerestorykeep1_DomOrder.j1]
        rw [if_neg (by decide), if_pos hn.1, if_pos (by omega), hse, if_neg (by decide), if_neg (by decide)]
      · have h0 : n ≠ 0 := by
          rintro rfl
          refine hh ?_
          cases hd with
          | top _ => rfl
          | up hpp _ => rw [hw.root] at hpp; omega
        refine Ev.step (f := fun k => (clerestorykeep1_domBegun.f k).bind fun t => (if t = true then (if n = 0 then ((clerestorykeep1_sameInts.f k [] (([0] : List Int))).bind fun t => (some t)) else (some true)) else (some false))) (fun k => ?_) ?_
        · show clerestorykeep1_DomOrder.j2 (k + 1) n [] true l q = _
          simp only [clerestorykeep1_DomOrder.j2]
          rw [if_pos trivial]
        · exact Ev.bind (f := fun k t => (if t = true then (if n = 0 then ((clerestorykeep1_sameInts.f k [] (([0] : List Int))).bind fun t => (some t)) else (some true)) else (some false))) dombegun_ev (Ev.congr (f := fun _ => some true) (fun k => by rw [if_pos rfl, if_neg h0]) (Ev.now true))
  · have hp := lpath_out l q hg hn
    refine Ev.bind (f := fun k (bt : List Int × Int) => (if n < 0 then (clerestorykeep1_DomOrder.j1 k n seen bt.1 bt.2 true l q) else (clerestorykeep1_DomOrder.j1 k n seen bt.1 bt.2 (decide (n ≥ (seen.length : Int))) l q))) hp ?_
    refine Ev.congr (f := fun k => clerestorykeep1_DomOrder.j1 k n seen [] 1 true l q) (fun k => ?_) ?_
    · by_cases h0 : n < 0
      · rw [if_pos h0]
      · rw [if_neg h0, show decide (n ≥ (seen.length : Int)) = true from decide_eq_true (by omega)]
    · refine Ev.step (f := fun k => (clerestorykeep1_domBegun.f k).bind fun t => (if t = true then (some ((1 : Int) == 1)) else (some false))) (fun k => ?_) (Ev.bind (f := fun _ t => (if t = true then (some ((1 : Int) == 1)) else (some false))) dombegun_ev (Ev.now true))
      show clerestorykeep1_DomOrder.j1 (k + 1) n seen [] 1 true l q = _
      simp only [clerestorykeep1_DomOrder.j1]
      rw [if_pos trivial]
theorem rdOf_set {s : List Bool} {x y : Int} (hx : In s.length x) (hy : 0 ≤ y) : rdOf false (s.set x.toNat true) y = if y = x then true else rdOf false s y := by
  obtain ⟨h0, h1⟩ := hx
  unfold rdOf
  rw [List.getD_eq_getElem?_getD, List.getD_eq_getElem?_getD]
  by_cases e : y = x
  · rw [if_pos e, e, List.getElem?_set_self (by omega)]; rfl
  · rw [if_neg e, List.getElem?_set_ne (by omega)]
theorem loop_ev (hg : Good l q) (hf : Fit l) (n : Int) : ∀ (m i : Nat) (seen : List Bool), i + m = (ord l).length → seen.length = l.length → (∀ x : Int, In l.length x → (rdOf false seen x = true ↔ x ∈ (ord l).take i)) →
    Ev (fun k => clerestorykeep1_DomOrder.l0 k n (ord l) seen (i : Int) l q) true := by
  obtain ⟨hl200, hw⟩ := hg.wf hf
  have h0 : In l.length 0 := ⟨by omega, by have := hw.pos; omega⟩
  have hr : par l 0 < 0 := by rw [hw.root]; omega
  have hlen : (ord l).length ≤ l.length := hw.len_pre (f := 40) h0 (.top hr)
  have hnd := hw.nodup_pre 40 0 0 h0 (.top hr)
  intro m
  induction m with
  | zero =>
    intro i seen hi hs hm
    refine Ev.step (fun k => ?_) (rest_ev l q hg hf n seen hs (fun x hx => by rw [hm x hx, List.take_of_length_le (by omega)]))
    show clerestorykeep1_DomOrder.l0 (k + 1) n (ord l) seen (i : Int) l q = _
    simp only [clerestorykeep1_DomOrder.l0]
    rw [if_neg (by omega)]
  | succ m ih =>
    intro i seen hi hs hm
    have hil : i < (ord l).length := by omega
    have hrd : rd (ord l) (i : Int) = (ord l)[i] := by unfold rd; rw [Int.toNat_natCast, List.getD_eq_getElem?_getD, List.getElem?_eq_getElem hil]; rfl
    obtain ⟨x, hx⟩ : ∃ x, (ord l)[i] = x := ⟨_, rfl⟩
    have hsplit : ord l = (ord l).take i ++ x :: (ord l).drop (i + 1) := by
      rw [← hx, ← List.drop_eq_getElem_cons hil, List.take_append_drop]
    have hxm : x ∈ ord l := hx ▸ List.getElem_mem hil
    obtain ⟨hxi, hxu⟩ := ord_in l hw hxm
    have hxn : x ∉ (ord l).take i := by
      intro h
      have h2 : (ord l).Nodup := hnd
      rw [hsplit] at h2
      exact (List.nodup_append.1 h2).2.2 x h x List.mem_cons_self rfl
    have hsx : rdOf false seen x = false := by
      cases h : rdOf false seen x with
      | false => rfl
      | true => exact absurd ((hm x hxi).1 h) hxn
    have hnext := ih (i + 1) (seen.set x.toNat true) (by omega) (by rw [List.length_set]; exact hs) (fun y hy => by
      rw [rdOf_set (by rw [hs]; exact hxi) hy.1, List.take_succ_eq_append_getElem hil, hx, List.mem_append, List.mem_singleton]
      by_cases e : y = x
      · rw [if_pos e]; simp [e]
      · rw [if_neg e, hm y hy]; simp [e])
    refine Ev.step (f := fun k => clerestorykeep1_DomOrder.l0 k n (ord l) (seen.set x.toNat true) ((i + 1 : Nat) : Int) l q) (fun k => ?_) hnext
    show clerestorykeep1_DomOrder.l0 (k + 1) n (ord l) seen (i : Int) l q = _
    simp only [clerestorykeep1_DomOrder.l0]
    rw [if_pos (by omega), if_pos (by omega), hrd, hx, if_neg (by have := hxi.1; omega), if_neg (by have := hxi.2; omega), if_pos hxi.1, if_pos (by have := hxi.2; omega), hsx, if_neg (by decide), wrap_in (by omega)]
    by_cases hi0 : i = 0
    · rw [if_neg (by omega)]
      rfl
    · obtain ⟨hp0, hpm⟩ := pre_behind 40 0 (fun b hb c hc => hw.kid_in hb hc) h0 ((ord l).take i) x ((ord l).drop (i + 1)) hsplit (by
        intro h
        have := congrArg List.length h
        rw [List.length_take] at this
        simp only [List.length_nil] at this
        omega)
      have hpi : In l.length (par l x) := WFin hw hxi hp0
      have hps : rdOf false seen (par l x) = true := (hm _ hpi).2 hpm
      have e4 : (rd_T35 l x).f4 = par l x := rfl
      rw [if_pos (by omega), if_pos hxi.2, e4, if_neg (by omega), if_pos hp0, if_pos (by have := hpi.2; omega), if_pos hps]
      rfl
theorem DomOrder_L (n : Int) (hf : Fit l) : Ev (fun k => (dom_Order.f k l q).bind fun bt => (if bt.2 = 0 then (if 0 ≤ (l.length : Int) then (if ((l.length : Int) : Int).toNat ≤ 281474976710656 then (clerestorykeep1_DomOrder.l0 k n bt.1 (List.replicate ((l.length : Int) : Int).toNat false) 0 l q) else (none)) else (none)) else ((clerestorykeep1_domBegun.f k).bind fun t => (if t = true then (some ((bt.1.length : Int) == 0)) else (some false))))) true := by
  obtain ⟨e, he, _⟩ := check_ev l q hf
  by_cases h0 : e = 0
  · have hg : Good l q := by rw [h0] at he; exact he
    obtain ⟨hl200, hw⟩ := hg.wf hf
    have h1 := loop_ev l q hg hf n (ord l).length 0 (List.replicate l.length false) (by omega) (by simp) (fun x hx => by
      have : rdOf false (List.replicate l.length false) x = false := by
        unfold rdOf
        rw [List.getD_eq_getElem?_getD, List.getElem?_replicate]
        split <;> rfl
      rw [this]
      simp)
    exact Ev.bind (f := fun k (bt : List Int × Int) => (if bt.2 = 0 then (if 0 ≤ (l.length : Int) then (if ((l.length : Int) : Int).toNat ≤ 281474976710656 then (clerestorykeep1_DomOrder.l0 k n bt.1 (List.replicate ((l.length : Int) : Int).toNat false) 0 l q) else (none)) else (none)) else ((clerestorykeep1_domBegun.f k).bind fun t => (if t = true then (some ((bt.1.length : Int) == 0)) else (some false))))) (ord_ev l q hg hf)
      (Ev.congr (fun k => by rw [if_pos rfl, if_pos (by omega), if_pos (by omega), Int.toNat_natCast]; rfl) h1)
  · have ho : Ev (fun k => dom_Order.f k l q) (([] : List Int), e) :=
      Ev.bind (f := fun k t => if t = 0 then ((dom_walk.f k l q 0 ([] : List Int)).bind fun t => (some (t, 0))) else (some (([] : List Int), t))) he (Ev.congr (f := fun _ => some (([] : List Int), e)) (fun k => by rw [if_neg h0]) (Ev.now _))
    exact Ev.bind (f := fun k (bt : List Int × Int) => (if bt.2 = 0 then (if 0 ≤ (l.length : Int) then (if ((l.length : Int) : Int).toNat ≤ 281474976710656 then (clerestorykeep1_DomOrder.l0 k n bt.1 (List.replicate ((l.length : Int) : Int).toNat false) 0 l q) else (none)) else (none)) else ((clerestorykeep1_domBegun.f k).bind fun t => (if t = true then (some ((bt.1.length : Int) == 0)) else (some false))))) ho
      (Ev.congr (f := fun k => (clerestorykeep1_domBegun.f k).bind fun t => (if t = true then (some (((([] : List Int)).length : Int) == 0)) else (some false))) (fun k => by rw [if_neg h0]) (Ev.bind (f := fun _ t => (if t = true then (some (((([] : List Int)).length : Int) == 0)) else (some false))) dombegun_ev (Ev.now true)))
end
theorem DomOrder_ev (l : List S35) (q : Bool) (n : Int) (hf : Fit (l.take (mn (l.length : Int) 60).toNat)) : ∃ k, clerestorykeep1_DomOrder.f k l q n = some true :=
  let ⟨K, h⟩ := (Ev.congr (fun k => by simp only [clerestorykeep1_DomOrder.f, few_some', Option.bind_some]) (DomOrder_L _ q n hf) : Ev (fun k => clerestorykeep1_DomOrder.f k l q n) true)
  ⟨K, h K (Nat.le_refl _)⟩
end Go.Proofs.YtaojbobbjnibhaaDoor.DocC
