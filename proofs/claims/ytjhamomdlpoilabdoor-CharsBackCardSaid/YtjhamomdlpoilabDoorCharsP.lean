/- Package chars, plain: what is encoded is read as it was; texts of signs. -/
import Derived.Lib.ValidLaws
import Derived.Lib.TrimUEq
import Derived.Lib.MapLaws
import Derived.Lib.QuoteLoop
import Derived.Test.YtjhamomdlpoilabDoorChars5
namespace Go.Proofs.YtjhamomdlpoilabDoor.Chars
set_option linter.unusedVariables false
set_option linter.unusedSimpArgs false

theorem byteZ {x : Int} (h0 : 0 ≤ x) (h1 : x < 256) : ((x.toNat.toUInt8).toNat : Int) = x := by
  have : x.toNat.toUInt8.toNat = x.toNat % 256 := by rw [Nat.toUInt8_eq, UInt8.toNat_ofNat']
  rw [this]; omega
theorem enc1 {r : Int} (h0 : 0 ≤ r) (h1 : r ≤ 127) : ∃ c, Lib.encodeRune r = [c] ∧ (c.toNat : Int) = r :=
  ⟨_, by rw [Lib.encodeRune, Lib.encodeRuneZ_one h0 h1]; rfl, byteZ h0 (by omega)⟩
theorem enc2 {r : Int} (h0 : 128 ≤ r) (h1 : r ≤ 2047) : ∃ c d, Lib.encodeRune r = [c, d] ∧ (c.toNat : Int) = 192 + r / 64 ∧ (d.toNat : Int) = 128 + r % 64 :=
  ⟨_, _, by rw [Lib.encodeRune, Lib.encodeRuneZ_two h0 h1]; rfl, byteZ (by omega) (by omega), byteZ (by omega) (by omega)⟩
theorem enc3 {r : Int} (h : (2048 ≤ r ∧ r < 55296) ∨ (57343 < r ∧ r ≤ 65535)) : ∃ c d e, Lib.encodeRune r = [c, d, e] ∧ (c.toNat : Int) = 224 + r / 4096 ∧ (d.toNat : Int) = 128 + r / 64 % 64 ∧ (e.toNat : Int) = 128 + r % 64 :=
  ⟨_, _, _, by rw [Lib.encodeRune, Lib.encodeRuneZ_three h]; rfl, byteZ (by omega) (by omega), byteZ (by omega) (by omega), byteZ (by omega) (by omega)⟩
theorem enc4 {r : Int} (h0 : 65536 ≤ r) (h1 : r ≤ 1114111) : ∃ c d e f, Lib.encodeRune r = [c, d, e, f] ∧ (c.toNat : Int) = 240 + r / 262144 ∧ (d.toNat : Int) = 128 + r / 4096 % 64 ∧ (e.toNat : Int) = 128 + r / 64 % 64 ∧ (f.toNat : Int) = 128 + r % 64 :=
  ⟨_, _, _, _, by rw [Lib.encodeRune, Lib.encodeRuneZ_four h0 h1]; rfl, byteZ (by omega) (by omega), byteZ (by omega) (by omega), byteZ (by omega) (by omega), byteZ (by omega) (by omega)⟩
theorem valid_iff (r : Int) : Lib.validRune r = true ↔ (0 ≤ r ∧ r < 55296) ∨ (57343 < r ∧ r ≤ 1114111) := by
  simp only [Lib.validRune, decide_eq_true_eq]
theorem contF_go (r low high : Nat) (n : Int) (c : UInt8) (t : List UInt8) (i : Nat) (h : ¬ (c.toNat < low ∨ high < c.toNat)) : contF (r + 1) low high n (c :: t) i = contF r 128 191 (n * 64 + (c.toNat : Int) % 64) t (i + 1) := by
  simp only [contF]; rw [if_neg h]
/-- What is encoded is read as it was. -/
theorem one_enc (r : Int) (h : Lib.validRune r = true) (t : List UInt8) : oneF (Lib.encodeRune r ++ t) = (r, (Lib.encodeRune r).length) := by
  rw [valid_iff] at h
  by_cases h1 : r ≤ 127
  · obtain ⟨c, e, hc⟩ := enc1 (by omega) h1
    rw [e]
    have hL : leadF c.toNat = ⟨0, 128, 191⟩ := by unfold leadF; rw [if_pos (by omega)]
    simp only [List.singleton_append, oneF, hL, List.length_cons, List.length_nil]
    rw [if_neg (by decide), if_pos trivial, hc]
  · by_cases h2 : r ≤ 2047
    · obtain ⟨c, d, e, hc, hd⟩ := enc2 (by omega) h2
      rw [e]
      have hL : leadF c.toNat = ⟨1, 128, 191⟩ := by unfold leadF; rw [if_neg (by omega), if_neg (by omega), if_pos (by omega)]
      simp only [List.cons_append, List.nil_append, oneF, hL, List.length_cons, List.length_nil]
      rw [if_neg (by decide), if_neg (by decide)]
      show contF 1 128 191 _ _ _ = _
      rw [contF_go _ _ _ _ _ _ _ (by omega)]
      simp only [contF]
      refine Prod.ext ?_ rfl
      show (c.toNat : Int) % 32 * 64 + (d.toNat : Int) % 64 = r
      omega
    · by_cases h3 : r ≤ 65535
      · obtain ⟨c, d, f, e, hc, hd, hf⟩ := enc3 (r := r) (by omega)
        rw [e]
        have hL : ∃ lo hi, leadF c.toNat = ⟨2, lo, hi⟩ ∧ ¬ (d.toNat < lo ∨ hi < d.toNat) := by
          by_cases a : c.toNat = 224
          · exact ⟨160, 191, by unfold leadF; rw [if_neg (by omega), if_neg (by omega), if_neg (by omega), if_pos a], by omega⟩
          · by_cases b : c.toNat = 237
            · exact ⟨128, 159, by unfold leadF; rw [if_neg (by omega), if_neg (by omega), if_neg (by omega), if_neg a, if_pos b], by omega⟩
            · exact ⟨128, 191, by unfold leadF; rw [if_neg (by omega), if_neg (by omega), if_neg (by omega), if_neg a, if_neg b, if_pos (by omega)], by omega⟩
        obtain ⟨lo, hi, hL, hb⟩ := hL
        simp only [List.cons_append, List.nil_append, oneF, hL, List.length_cons, List.length_nil]
        rw [if_neg (by decide), if_neg (by decide)]
        show contF 2 lo hi _ _ _ = _
        rw [contF_go _ _ _ _ _ _ _ hb, contF_go _ _ _ _ _ _ _ (by omega)]
        simp only [contF]
        refine Prod.ext ?_ rfl
        show ((c.toNat : Int) % 16 * 64 + (d.toNat : Int) % 64) * 64 + (f.toNat : Int) % 64 = r
        omega
      · obtain ⟨c, d, f, g, e, hc, hd, hf, hg⟩ := enc4 (r := r) (by omega) (by omega)
        rw [e]
        have hL : ∃ lo hi, leadF c.toNat = ⟨3, lo, hi⟩ ∧ ¬ (d.toNat < lo ∨ hi < d.toNat) := by
          by_cases a : c.toNat = 240
          · exact ⟨144, 191, by unfold leadF; rw [if_neg (by omega), if_neg (by omega), if_neg (by omega), if_neg (by omega), if_neg (by omega), if_neg (by omega), if_pos a], by omega⟩
          · by_cases b : c.toNat = 244
            · exact ⟨128, 143, by unfold leadF; rw [if_neg (by omega), if_neg (by omega), if_neg (by omega), if_neg (by omega), if_neg (by omega), if_neg (by omega), if_neg a, if_pos b], by omega⟩
            · exact ⟨128, 191, by unfold leadF; rw [if_neg (by omega), if_neg (by omega), if_neg (by omega), if_neg (by omega), if_neg (by omega), if_neg (by omega), if_neg a, if_neg b, if_pos (by omega)], by omega⟩
        obtain ⟨lo, hi, hL, hb⟩ := hL
        simp only [List.cons_append, List.nil_append, oneF, hL, List.length_cons, List.length_nil]
        rw [if_neg (by decide), if_neg (by decide)]
        show contF 3 lo hi _ _ _ = _
        rw [contF_go _ _ _ _ _ _ _ hb, contF_go _ _ _ _ _ _ _ (by omega), contF_go _ _ _ _ _ _ _ (by omega)]
        simp only [contF]
        refine Prod.ext ?_ rfl
        show (((c.toNat : Int) % 8 * 64 + (d.toNat : Int) % 64) * 64 + (f.toNat : Int) % 64) * 64 + (g.toNat : Int) % 64 = r
        omega
/-- The model's own decoder, too. -/
theorem dec_enc (r : Int) (h : Lib.validRune r = true) (t : List UInt8) : Lib.decodeL (Lib.encodeRune r ++ t) = (r.toNat, (Lib.encodeRune r).length) := by
  rw [valid_iff] at h
  rw [Lib.decodeL_N]
  by_cases h1 : r ≤ 127
  · obtain ⟨c, e, hc⟩ := enc1 (by omega) h1
    rw [e]
    simp only [List.singleton_append, List.length_cons, List.length_nil, List.getD_cons_zero]
    unfold Lib.decodeN
    rw [if_pos (by omega)]
    refine Prod.ext ?_ rfl
    show c.toNat = r.toNat
    omega
  · by_cases h2 : r ≤ 2047
    · obtain ⟨c, d, e, hc, hd⟩ := enc2 (by omega) h2
      rw [e]
      simp only [List.cons_append, List.nil_append, List.length_cons, List.length_nil, List.getD_cons_zero, List.getD_cons_succ]
      unfold Lib.decodeN
      rw [if_neg (by omega), if_pos (by omega), if_pos (by omega)]
      refine Prod.ext ?_ rfl
      show c.toNat % 32 * 64 + d.toNat % 64 = r.toNat
      omega
    · by_cases h3 : r ≤ 65535
      · obtain ⟨c, d, f, e, hc, hd, hf⟩ := enc3 (r := r) (by omega)
        rw [e]
        simp only [List.cons_append, List.nil_append, List.length_cons, List.length_nil, List.getD_cons_zero, List.getD_cons_succ]
        unfold Lib.decodeN
        rw [if_neg (by omega), if_neg (by omega), if_pos (by omega), if_pos (by omega)]
        refine Prod.ext ?_ rfl
        show c.toNat % 16 * 4096 + d.toNat % 64 * 64 + f.toNat % 64 = r.toNat
        omega
      · obtain ⟨c, d, f, g, e, hc, hd, hf, hg⟩ := enc4 (r := r) (by omega) (by omega)
        rw [e]
        simp only [List.cons_append, List.nil_append, List.length_cons, List.length_nil, List.getD_cons_zero, List.getD_cons_succ]
        unfold Lib.decodeN
        rw [if_neg (by omega), if_neg (by omega), if_neg (by omega), if_pos (by omega), if_pos (by omega)]
        refine Prod.ext ?_ rfl
        show c.toNat % 8 * 262144 + d.toNat % 64 * 4096 + f.toNat % 64 * 64 + g.toNat % 64 = r.toNat
        omega

/-- A sign that may be, or the one that stands for those that may not. -/
def norm (r : Int) : Int := if Lib.validRune r then r else 65533
theorem norm_valid (r : Int) : Lib.validRune (norm r) = true := by unfold norm; split <;> first | assumption | decide
theorem norm_of {r : Int} (h : Lib.validRune r = true) : norm r = r := by unfold norm; rw [if_pos h]
theorem enc_norm (r : Int) : Lib.encodeRune (norm r) = Lib.encodeRune r := by
  unfold norm
  split
  · rfl
  · rename_i h
    exact (encode_wrong (by simpa using h)).symm
theorem encL_norm (rs : List Int) : encL (rs.map norm) = encL rs := by
  induction rs with
  | nil => rfl
  | cons r t ih =>
    simp only [encL, List.map_cons, List.flatMap_cons] at ih ⊢
    rw [enc_norm, ih]
theorem enc_ne (r : Int) : Lib.encodeRune r ≠ [] := by
  have := (Lib.encodeRuneZ_length r).1
  intro e
  have h2 := congrArg List.length e
  rw [Lib.encodeRune, List.length_map, List.length_nil] at h2
  omega
theorem drop_enc (r : Int) (t : List UInt8) : (Lib.encodeRune r ++ t).drop (Lib.encodeRune r).length = t := by rw [List.drop_left]
theorem signs_at (k p q : Nat) (l : List UInt8) : (signsK k p l).map (·.2) = (signsK k q l).map (·.2) := by
  induction k generalizing p q l with
  | zero => rfl
  | succ k ih =>
    simp only [signsK]
    split
    · rfl
    · simp only [List.map_cons]
      rw [ih]
theorem decF_step (l : List UInt8) (h : l ≠ []) : decF l = (oneF l).1 :: decF (l.drop (oneF l).2) := by
  obtain ⟨h1, h2⟩ := oneF_le l h
  obtain ⟨m, hm⟩ : ∃ m, l.length = m + 1 := ⟨l.length - 1, by omega⟩
  unfold decF signsF
  rw [hm]
  simp only [signsK]
  rw [if_neg h]
  simp only [List.map_cons, Nat.zero_add]
  rw [signs_at m _ 0, signsK_fuel m 0 _ (by rw [List.length_drop]; omega)]
theorem decF_nil : decF [] = [] := rfl
theorem decF_enc (rs : List Int) (h : ∀ r ∈ rs, Lib.validRune r = true) : decF (encL rs) = rs := by
  induction rs with
  | nil => rfl
  | cons r t ih =>
    have ho := one_enc r (h r (by simp)) (encL t)
    rw [show encL (r :: t) = Lib.encodeRune r ++ encL t from by simp [encL], decF_step _ (by simp [enc_ne]), ho]
    simp only [drop_enc]
    rw [ih (fun x hx => h x (List.mem_cons_of_mem _ hx))]
/-- What is decoded of what is encoded. -/
theorem dec_encL (rs : List Int) : decF (encL rs) = rs.map norm := by
  rw [← encL_norm, decF_enc]
  intro r hr
  obtain ⟨x, _, rfl⟩ := List.mem_map.1 hr
  exact norm_valid x
theorem validD_enc (r : Int) (h : Lib.validRune r = true) (t : List UInt8) : Lib.validD (Lib.encodeRune r ++ t) = Lib.validD t := by
  rw [Lib.validD_step _ (by simp [enc_ne]), dec_enc r h t]
  have hb : ¬ (r.toNat = 65533 ∧ (Lib.encodeRune r).length = 1) := by
    rintro ⟨a, b⟩
    have : r = 65533 := by omega
    subst this
    revert b
    decide
  simp only
  rw [if_neg hb, drop_enc]
/-- What is encoded is right. -/
theorem validD_encL (rs : List Int) : Lib.validD (encL rs) = true := by
  rw [← encL_norm]
  induction rs with
  | nil => rfl
  | cons r t ih =>
    rw [show encL ((r :: t).map norm) = Lib.encodeRune (norm r) ++ encL (t.map norm) from by simp [encL], validD_enc _ (norm_valid r)]
    exact ih
/-- What is right is what its signs encode. -/
theorem enc_decF : ∀ (n : Nat) (l : List UInt8), l.length ≤ n → Lib.validD l = true → encL (decF l) = l
  | 0, l, h, _ => by obtain rfl := List.eq_nil_of_length_eq_zero (Nat.le_zero.1 h); rfl
  | n + 1, l, h, hv => by
    by_cases h0 : l = []
    · subst h0; rfl
    · rw [Lib.validD_step l h0] at hv
      split at hv
      · cases hv
      · rename_i hb
        have he := Lib.encode_decode l h0 hb
        have hw := Lib.decodeL_le l h0
        have hw1 := Lib.decodeL_width l
        have hval : Lib.validRune ((Lib.decodeL l).1 : Int) = true := Lib.rune_valid _
        have hsplit : l = Lib.encodeRune ((Lib.decodeL l).1 : Int) ++ l.drop (Lib.decodeL l).2 := by rw [he, List.take_append_drop]
        have ho := one_enc _ hval (l.drop (Lib.decodeL l).2)
        rw [← hsplit] at ho
        have hlen : (Lib.encodeRune ((Lib.decodeL l).1 : Int)).length = (Lib.decodeL l).2 := by rw [he, List.length_take]; omega
        rw [decF_step l h0, ho, hlen]
        have ih := enc_decF n (l.drop (Lib.decodeL l).2) (by rw [List.length_drop]; omega) hv
        show Lib.encodeRune ((Lib.decodeL l).1 : Int) ++ encL (decF (l.drop (Lib.decodeL l).2)) = l
        rw [ih]
        exact hsplit.symm
theorem right_iff (l : List UInt8) : encL (decF l) = l ↔ Lib.validD l = true :=
  ⟨fun h => by rw [← h]; exact validD_encL _, fun h => enc_decF _ l (Nat.le_refl _) h⟩

/-- A sign of a clean text. -/
def good (r : Int) : Prop := Lib.validRune r = true ∧ r ≠ 0 ∧ r ≠ 13
def cleanR (st : List UInt8 × Int) (r : Int) : List UInt8 × Int := (st.1 ++ cleanB st.2 r, r)
theorem cleanT_R (xs : List (Nat × Int)) (st : List UInt8 × Int) : xs.foldl cleanS st = (xs.map (·.2)).foldl cleanR st := by
  induction xs generalizing st with
  | nil => rfl
  | cons x t ih => simp only [List.foldl_cons, List.map_cons]; exact ih _
theorem cleanF_R (l : List UInt8) : cleanF l = ((decF l).foldl cleanR ([], 0)).1 := by
  unfold cleanF cleanT decF
  rw [cleanT_R]
theorem good_10 : good 10 := ⟨by decide, by decide, by decide⟩
theorem good_wrong : good 65533 := ⟨by decide, by decide, by decide⟩
theorem encL_app (a b : List Int) : encL (a ++ b) = encL a ++ encL b := by simp [encL]
theorem encL_one (r : Int) : encL [r] = Lib.encodeRune r := by simp [encL]
theorem enc_10 : Lib.encodeRune 10 = [10] := by decide
theorem cleanB_form (a r : Int) : ∃ rs, cleanB a r = encL rs ∧ ∀ x ∈ rs, good x := by
  unfold cleanB
  split
  · exact ⟨[65533], (encL_one _).symm, by intro x hx; rw [List.mem_singleton.1 hx]; exact good_wrong⟩
  · split
    · exact ⟨[10], by rw [encL_one, enc_10], by intro x hx; rw [List.mem_singleton.1 hx]; exact good_10⟩
    · split
      · split
        · exact ⟨[], rfl, by simp⟩
        · exact ⟨[10], by rw [encL_one, enc_10], by intro x hx; rw [List.mem_singleton.1 hx]; exact good_10⟩
      · rename_i h0 h1 h2
        refine ⟨[norm r], by rw [encL_one, enc_norm], ?_⟩
        intro x hx
        rw [List.mem_singleton.1 hx]
        refine ⟨norm_valid r, ?_, ?_⟩
        · unfold norm; split <;> omega
        · unfold norm; split <;> omega
theorem clean_form (l : List UInt8) : ∃ rs, cleanF l = encL rs ∧ ∀ x ∈ rs, good x := by
  rw [cleanF_R]
  suffices h : ∀ (xs : List Int) (st : List UInt8 × Int), (∃ rs, st.1 = encL rs ∧ ∀ x ∈ rs, good x) → ∃ rs, (xs.foldl cleanR st).1 = encL rs ∧ ∀ x ∈ rs, good x from
    h _ _ ⟨[], rfl, by simp⟩
  intro xs
  induction xs with
  | nil => intro st h; exact h
  | cons x t ih =>
    rintro st ⟨rs, h1, h2⟩
    obtain ⟨qs, h3, h4⟩ := cleanB_form st.2 x
    refine ih _ ⟨rs ++ qs, ?_, ?_⟩
    · simp only [cleanR]; rw [h1, h3, encL_app]
    · intro y hy
      rcases List.mem_append.1 hy with hy | hy
      · exact h2 y hy
      · exact h4 y hy
theorem cleanB_good (a r : Int) (ha : a ≠ 13) (h : good r) : cleanB a r = Lib.encodeRune r := by
  obtain ⟨_, h0, h13⟩ := h
  unfold cleanB
  rw [if_neg h0, if_neg h13]
  split
  · rename_i h10
    first | (rw [if_neg ha, h10, enc_10]) | (rw [h10, enc_10])
  · rfl
/-- What is clean stays. -/
theorem clean_good (rs : List Int) (h : ∀ x ∈ rs, good x) : cleanF (encL rs) = encL rs := by
  rw [cleanF_R, decF_enc rs (fun r hr => (h r hr).1)]
  suffices H : ∀ (xs : List Int) (st : List UInt8 × Int), st.2 ≠ 13 → (∀ x ∈ xs, good x) → (xs.foldl cleanR st).1 = st.1 ++ encL xs by
    have := H rs ([], 0) (by decide) h
    simpa using this
  intro xs
  induction xs with
  | nil => intro st _ _; simp [encL]
  | cons x t ih =>
    intro st hs hx
    have hg := hx x (by simp)
    rw [List.foldl_cons, ih _ hg.2.2 (fun y hy => hx y (List.mem_cons_of_mem _ hy))]
    simp only [cleanR]
    rw [cleanB_good _ _ hs hg, List.append_assoc]
    simp [encL]
/-- A clean text's bytes. -/
theorem good_bytes (rs : List Int) (h : ∀ x ∈ rs, good x) : ∀ b ∈ encL rs, b.toNat ≠ 0 ∧ b.toNat ≠ 13 := by
  intro b hb
  simp only [encL, List.mem_flatMap] at hb
  obtain ⟨r, hr, hb⟩ := hb
  obtain ⟨hv, h0, h13⟩ := h r hr
  rw [valid_iff] at hv
  by_cases h1 : r ≤ 127
  · obtain ⟨c, e, hc⟩ := enc1 (r := r) (by omega) h1
    rw [e, List.mem_singleton] at hb
    subst hb
    omega
  · have : ∀ c ∈ Lib.encodeRune r, 128 ≤ c.toNat := by
      by_cases h2 : r ≤ 2047
      · obtain ⟨c, d, e, hc, hd⟩ := enc2 (r := r) (by omega) h2
        rw [e]
        intro x hx
        simp only [List.mem_cons, List.mem_nil_iff, or_false] at hx
        rcases hx with rfl | rfl <;> omega
      · by_cases h3 : r ≤ 65535
        · obtain ⟨c, d, f, e, hc, hd, hf⟩ := enc3 (r := r) (by omega)
          rw [e]
          intro x hx
          simp only [List.mem_cons, List.mem_nil_iff, or_false] at hx
          rcases hx with rfl | rfl | rfl <;> omega
        · obtain ⟨c, d, f, g, e, hc, hd, hf, hg⟩ := enc4 (r := r) (by omega) (by omega)
          rw [e]
          intro x hx
          simp only [List.mem_cons, List.mem_nil_iff, or_false] at hx
          rcases hx with rfl | rfl | rfl | rfl <;> omega
    have := this b hb
    omega
theorem cleanF_le (l : List UInt8) : (cleanF l).length ≤ 4 * l.length := by
  have h1 := cleanT_le (signsF l)
  have h2 := signsK_le l.length 0 l
  unfold cleanF
  unfold signsF at h1 ⊢
  omega
end Go.Proofs.YtjhamomdlpoilabDoor.Chars
