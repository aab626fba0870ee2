/-
Plain: how many bytes the rune has with which a text begins, as the document's answer counts it. No program in sight.
Plain lists of bytes: texts that are UTF-8, keys, values. No program in sight.
-/
import Derived.Test.YtdgbpmbknlhgmaaGreatDoorQuoteMath
set_option linter.unusedVariables false
set_option linter.unusedSimpArgs false
namespace Go.Proofs.YtdgbpmbknlhgmaaGreatDoor.Qt
def contV (l : List UInt8) : Nat → Nat → Nat → Option Nat
  | 0, k, v => some v
  | m + 1, k, v => if (l.getD k 0).toNat < 128 ∨ 191 < (l.getD k 0).toNat then none else contV l m (k + 1) (64 * v + (l.getD k 0).toNat - 128)
def okV (n low v : Nat) : Nat × Nat := if v < low ∨ 1114111 < v ∨ (55296 ≤ v ∧ v ≤ 57343) then (0, 0) else (n, v)
def okO (n low : Nat) : Option Nat → Nat × Nat
  | none => (0, 0)
  | some v => okV n low v
def multi (l : List UInt8) (n low v : Nat) : Nat × Nat := if l.length < n then (0, 0) else okO n low (contV l (n - 1) 1 v)
def size5 (l : List UInt8) : Nat × Nat :=
  if (b0 l).toNat < 128 then (1, (b0 l).toNat)
  else if 194 ≤ (b0 l).toNat ∧ (b0 l).toNat ≤ 223 then multi l 2 128 ((b0 l).toNat - 192)
  else if 224 ≤ (b0 l).toNat ∧ (b0 l).toNat ≤ 239 then multi l 3 2048 ((b0 l).toNat - 224)
  else if 240 ≤ (b0 l).toNat ∧ (b0 l).toNat ≤ 244 then multi l 4 65536 ((b0 l).toNat - 240)
  else (0, 0)
set_option maxRecDepth 100000 in
set_option maxHeartbeats 4000000 in
theorem sizeN_eq (n c0 c1 c2 c3 : Nat) (hn : 1 ≤ n) (h0 : c0 < 256) (h1 : c1 < 256) (h2 : c2 < 256) (h3 : c3 < 256) (r : Nat × Nat)
    (hr : r = if c0 < 128 then (1, c0)
      else if 194 ≤ c0 ∧ c0 ≤ 223 then (if n < 2 then (0, 0) else if c1 < 128 ∨ 191 < c1 then (0, 0) else okV 2 128 (64 * (c0 - 192) + c1 - 128))
      else if 224 ≤ c0 ∧ c0 ≤ 239 then (if n < 3 then (0, 0) else if c1 < 128 ∨ 191 < c1 then (0, 0) else if c2 < 128 ∨ 191 < c2 then (0, 0) else okV 3 2048 (64 * (64 * (c0 - 224) + c1 - 128) + c2 - 128))
      else if 240 ≤ c0 ∧ c0 ≤ 244 then (if n < 4 then (0, 0) else if c1 < 128 ∨ 191 < c1 then (0, 0) else if c2 < 128 ∨ 191 < c2 then (0, 0) else if c3 < 128 ∨ 191 < c3 then (0, 0) else okV 4 65536 (64 * (64 * (64 * (c0 - 240) + c1 - 128) + c2 - 128) + c3 - 128))
      else (0, 0)) :
    r = if 128 ≤ c0 ∧ (Lib.decodeN n c0 c1 c2 c3).2 = 1 then (0, 0) else ((Lib.decodeN n c0 c1 c2 c3).2, (Lib.decodeN n c0 c1 c2 c3).1) := by
  rw [hr]
  unfold Lib.decodeN okV
  by_cases a0 : c0 < 128
  · rw [if_pos a0, if_pos a0, if_neg (by omega)]
  rw [if_neg a0, if_neg a0]
  by_cases a1 : c0 / 32 = 6
  · have x1 : ¬ c0 / 16 = 14 := by omega
    have x2 : ¬ c0 / 8 = 30 := by omega
    simp only [a1, x1, x2, true_and, false_and, if_false]
    repeat' split
    all_goals first | rfl | (exfalso; omega) | (exfalso; simp only [and_true] at *; omega) | (apply Prod.ext <;> simp only <;> omega)
  by_cases a2 : c0 / 16 = 14
  · have x2 : ¬ c0 / 8 = 30 := by omega
    simp only [a1, a2, x2, true_and, false_and, if_false]
    repeat' split
    all_goals first | rfl | (exfalso; omega) | (exfalso; simp only [and_true] at *; omega) | (apply Prod.ext <;> simp only <;> omega)
  by_cases a3 : c0 / 8 = 30
  · simp only [a1, a2, a3, true_and, false_and, if_false]
    repeat' split
    all_goals first | rfl | (exfalso; omega) | (exfalso; simp only [and_true] at *; omega) | (apply Prod.ext <;> simp only <;> omega)
  simp only [a1, a2, a3, true_and, false_and, if_false]
  repeat' split
  all_goals first | rfl | (exfalso; omega) | (exfalso; simp only [and_true] at *; omega) | (apply Prod.ext <;> simp only <;> omega)
theorem okO_ite (n low : Nat) (c : Prop) [Decidable c] (x : Option Nat) : okO n low (if c then none else x) = if c then (0, 0) else okO n low x := by split <;> rfl
theorem contV_zero (l : List UInt8) (k v : Nat) : contV l 0 k v = some v := rfl
theorem contV_succ (l : List UInt8) (m k v : Nat) : contV l (m + 1) k v = if (l.getD k 0).toNat < 128 ∨ 191 < (l.getD k 0).toNat then none else contV l m (k + 1) (64 * v + (l.getD k 0).toNat - 128) := rfl
theorem multi2 (l : List UInt8) (low v : Nat) : multi l 2 low v = if l.length < 2 then (0, 0) else if (l.getD 1 0).toNat < 128 ∨ 191 < (l.getD 1 0).toNat then (0, 0) else okV 2 low (64 * v + (l.getD 1 0).toNat - 128) := by
  unfold multi
  rw [show 2 - 1 = 0 + 1 from rfl, contV_succ, okO_ite, contV_zero]; rfl
theorem multi3 (l : List UInt8) (low v : Nat) : multi l 3 low v = if l.length < 3 then (0, 0) else if (l.getD 1 0).toNat < 128 ∨ 191 < (l.getD 1 0).toNat then (0, 0) else if (l.getD 2 0).toNat < 128 ∨ 191 < (l.getD 2 0).toNat then (0, 0) else okV 3 low (64 * (64 * v + (l.getD 1 0).toNat - 128) + (l.getD 2 0).toNat - 128) := by
  unfold multi
  rw [show 3 - 1 = 0 + 1 + 1 from rfl, contV_succ, okO_ite, contV_succ, okO_ite, contV_zero]; rfl
theorem multi4 (l : List UInt8) (low v : Nat) : multi l 4 low v = if l.length < 4 then (0, 0) else if (l.getD 1 0).toNat < 128 ∨ 191 < (l.getD 1 0).toNat then (0, 0) else if (l.getD 2 0).toNat < 128 ∨ 191 < (l.getD 2 0).toNat then (0, 0) else if (l.getD 3 0).toNat < 128 ∨ 191 < (l.getD 3 0).toNat then (0, 0) else okV 4 low (64 * (64 * (64 * v + (l.getD 1 0).toNat - 128) + (l.getD 2 0).toNat - 128) + (l.getD 3 0).toNat - 128) := by
  unfold multi
  rw [show 4 - 1 = 0 + 1 + 1 + 1 from rfl, contV_succ, okO_ite, contV_succ, okO_ite, contV_succ, okO_ite, contV_zero]; rfl
theorem size5_dec (l : List UInt8) (h : l ≠ []) : size5 l = if 128 ≤ (b0 l).toNat ∧ (dec l).2 = 1 then (0, 0) else ((dec l).2, (dec l).1) := by
  have hl : 1 ≤ l.length := List.length_pos_iff.2 h
  unfold dec
  refine sizeN_eq l.length (b0 l).toNat _ _ _ hl (UInt8.toNat_lt _) (UInt8.toNat_lt _) (UInt8.toNat_lt _) (UInt8.toNat_lt _) _ ?_
  unfold size5
  rw [multi2, multi3, multi4]
end Go.Proofs.YtdgbpmbknlhgmaaGreatDoor.Qt
set_option linter.unusedVariables false
set_option linter.unusedSimpArgs false
namespace Go.Proofs.YtdgbpmbknlhgmaaGreatDoor.Qt

/-- does no rune stand at the head? -/
def ill (l : List UInt8) : Bool := decide (128 ≤ (b0 l).toNat) && decide ((dec l).2 = 1)
/-- the first place of a byte that is no rune's, from a place on; below 0: none. -/
def badI (l : List UInt8) (p : Nat) : Int :=
  if h : l = [] then -1 else if ill l then (p : Int) else badI (l.drop (dec l).2) (p + (dec l).2)
termination_by l.length
decreasing_by
  have := dec_pos l h
  rw [List.length_drop]
  omega
theorem badI_nil (p : Nat) : badI [] p = -1 := by rw [badI, dif_pos rfl]
theorem badI_ill {l : List UInt8} (p : Nat) (h : l ≠ []) (h2 : ill l = true) : badI l p = p := by rw [badI, dif_neg h, if_pos h2]
theorem badI_step {l : List UInt8} (p : Nat) (h : l ≠ []) (h2 : ill l = false) : badI l p = badI (l.drop (dec l).2) (p + (dec l).2) := by
  rw [badI, dif_neg h, if_neg (by rw [h2]; exact Bool.false_ne_true)]
/-- is a text UTF-8? -/
def clean (l : List UInt8) : Bool := decide (badI l 0 < 0)
/-- are all runes so? -/
def allR (p : Nat → Bool) (l : List UInt8) : Bool :=
  if h : l = [] then true else p (dec l).1 && allR p (l.drop (dec l).2)
termination_by l.length
decreasing_by
  have := dec_pos l h
  rw [List.length_drop]
  omega
theorem allR_nil (p : Nat → Bool) : allR p [] = true := by rw [allR, dif_pos rfl]
theorem allR_step (p : Nat → Bool) {l : List UInt8} (h : l ≠ []) : allR p l = (p (dec l).1 && allR p (l.drop (dec l).2)) := by rw [allR, dif_neg h]

theorem ill_cases (l : List UInt8) (h : l ≠ []) :
    (ill l = true ∧ dec l = (65533, 1)) ∨ (ill l = false ∧ (b0 l).toNat < 128 ∧ dec l = ((b0 l).toNat, 1)) ∨
    (ill l = false ∧ 2 ≤ (dec l).2 ∧ (dec l).2 ≤ l.length ∧ 128 ≤ (dec l).1 ∧ (dec l).1 ≤ 1114111 ∧ ∀ x ∈ l.take (dec l).2, 128 ≤ x.toNat) := by
  unfold ill
  rcases dec_cases l h with ⟨h1, e⟩ | ⟨h1, e⟩ | ⟨c, n, e, h1, h2, h3, h4, h5, h6⟩
  · exact .inr (.inl ⟨by rw [decide_eq_false (by omega)]; rfl, h1, e⟩)
  · exact .inl ⟨by rw [e, decide_eq_true h1]; rfl, e⟩
  · refine .inr (.inr ?_)
    rw [e]
    exact ⟨by rw [decide_eq_false (p := n = 1) (by omega), Bool.and_false], h1, h3, h4, h5, h6⟩
/-- what Size of the reference says. -/
theorem size5_ill (l : List UInt8) (h : l ≠ []) : size5 l = if ill l then (0, 0) else ((dec l).2, (dec l).1) := by
  rw [size5_dec l h]
  unfold ill
  by_cases h1 : 128 ≤ (b0 l).toNat <;> by_cases h2 : (dec l).2 = 1 <;> simp [h1, h2]
theorem ill_rune (l : List UInt8) (h : l ≠ []) : ill l = (decide ((dec l).1 = 65533) && decide ((dec l).2 = 1)) := by
  rcases ill_cases l h with ⟨h1, e⟩ | ⟨h1, h2, e⟩ | ⟨h1, h2, _⟩
  · rw [h1, e]; rfl
  · rw [h1, e]; simp; omega
  · rw [h1, decide_eq_false (p := (dec l).2 = 1) (by omega), Bool.and_false]
theorem badI_neg : ∀ (m : Nat) (l : List UInt8) (p q : Nat), l.length ≤ m → decide (badI l p < 0) = decide (badI l q < 0) := by
  intro m
  induction m with
  | zero =>
    intro l p q h
    obtain rfl : l = [] := List.eq_nil_of_length_eq_zero (by omega)
    rw [badI_nil, badI_nil]
  | succ m ih =>
    intro l p q h
    by_cases h0 : l = []
    · rw [h0, badI_nil, badI_nil]
    · cases hi : ill l
      · have := dec_pos l h0
        rw [badI_step p h0 hi, badI_step q h0 hi]
        exact ih _ _ _ (by rw [List.length_drop]; omega)
      · rw [badI_ill p h0 hi, badI_ill q h0 hi, decide_eq_false (by omega), decide_eq_false (by omega)]
theorem clean_nil : clean [] = true := by unfold clean; rw [badI_nil]; rfl
theorem clean_ill {l : List UInt8} (h : l ≠ []) (h2 : ill l = true) : clean l = false := by unfold clean; rw [badI_ill 0 h h2]; rfl
theorem clean_step {l : List UInt8} (h : l ≠ []) (h2 : ill l = false) : clean l = clean (l.drop (dec l).2) := by
  unfold clean
  rw [badI_step 0 h h2]
  exact badI_neg _ _ _ _ (Nat.le_refl _)

/-! ### values -/
def okV1 (r : Nat) : Bool := decide (32 ≤ r) && decide (r ≠ 127)
def isVal (l : List UInt8) : Bool := decide (l.length ≤ 48) && (clean l && l.all fun c => okV1 c.toNat)
theorem val_all : ∀ (m : Nat) (l : List UInt8), l.length ≤ m → clean l = true → allR okV1 l = l.all fun c => okV1 c.toNat := by
  intro m
  induction m with
  | zero =>
    intro l h _
    obtain rfl : l = [] := List.eq_nil_of_length_eq_zero (by omega)
    rw [allR_nil]; rfl
  | succ m ih =>
    intro l h hc
    by_cases h0 : l = []
    · rw [h0, allR_nil]; rfl
    · have hp := dec_pos l h0
      rcases ill_cases l h0 with ⟨h1, e⟩ | ⟨h1, h2, e⟩ | ⟨h1, h2, h3, h4, h5, h6⟩
      · rw [clean_ill h0 h1] at hc; cases hc
      · rw [clean_step h0 h1] at hc
        rw [allR_step _ h0, ih _ (by rw [List.length_drop]; omega) hc, e]
        cases l with
        | nil => exact absurd rfl h0
        | cons a l => rfl
      · rw [clean_step h0 h1] at hc
        rw [allR_step _ h0, ih _ (by rw [List.length_drop]; omega) hc]
        have e1 : okV1 (dec l).1 = true := by unfold okV1; rw [decide_eq_true (by omega), decide_eq_true (by omega)]; rfl
        have e2 : ((l.take (dec l).2).all fun c => okV1 c.toNat) = true := by
          rw [List.all_eq_true]
          intro x hx
          have := h6 x hx
          unfold okV1; rw [decide_eq_true (by omega), decide_eq_true (by omega)]; rfl
        have e3 : (l.all fun c => okV1 c.toNat) = ((l.take (dec l).2).all (fun c => okV1 c.toNat) && (l.drop (dec l).2).all fun c => okV1 c.toNat) := by
          rw [← List.all_append, List.take_append_drop]
        rw [e1, e3, e2]

/-! ### keys -/
def plainR (r : Nat) : Bool :=
  (decide (97 ≤ r) && decide (r ≤ 122)) || ((decide (65 ≤ r) && decide (r ≤ 90)) || ((decide (48 ≤ r) && decide (r ≤ 57)) || (decide (r = 45) || (decide (r = 95) || (decide (r = 46) || (decide (r = 58) || (decide (161 ≤ r) && decide (r ≠ 65533))))))))
def isKey (l : List UInt8) : Bool := decide (1 ≤ l.length) && (decide (l.length ≤ 24) && (clean l && allR plainR l))
/-- as the reference goes. -/
def keyGo (l : List UInt8) : Bool := clean l && allR plainR l
theorem keyGo_nil : keyGo [] = true := by unfold keyGo; rw [clean_nil, allR_nil]; rfl
theorem keyGo_ill {l : List UInt8} (h : l ≠ []) (h2 : ill l = true) : keyGo l = false := by unfold keyGo; rw [clean_ill h h2]; rfl
theorem keyGo_step {l : List UInt8} (h : l ≠ []) (h2 : ill l = false) : keyGo l = (plainR (dec l).1 && keyGo (l.drop (dec l).2)) := by
  unfold keyGo
  rw [clean_step h h2, allR_step _ h]
  cases plainR (dec l).1 <;> simp
end Go.Proofs.YtdgbpmbknlhgmaaGreatDoor.Qt
