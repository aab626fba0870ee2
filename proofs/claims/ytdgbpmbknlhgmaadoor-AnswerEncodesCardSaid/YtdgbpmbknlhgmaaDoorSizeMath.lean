/-
Plain: how many bytes the rune has with which a text begins, as the document's answer counts it. No program in sight.
-/
import Derived.Test.YtdgbpmbknlhgmaaDoorQuoteMath
set_option linter.unusedVariables false
set_option linter.unusedSimpArgs false
namespace Go.Proofs.YtdgbpmbknlhgmaaDoor.Qt
def contV (l : List UInt8) : Nat → Nat → Nat → Option Nat
  | 0, k, v => some v
  | m + 1, k, v => if (l.getD k 0).toNat < 128 ∨ 191 < (l.getD k 0).toNat then none else contV l m (k + 1) (64 * v + (l.getD k 0).toNat - 128)
def okV (n low v : Nat) : Nat × Nat := if v < low ∨ 1114111 < v ∨ (55296 ≤ v ∧ v ≤ 57343) then (0, 0) else (n, v)
def okO (n low : Nat) : Option Nat → Nat × Nat
  | none => (0, 0)
  | some v => okV n low v
def multi (l : List UInt8) (n low v : Nat) : Nat × Nat := if l.length < n then (0, 0) else okO n low (contV l (n - 1) 1 v)
def size5 (l : List UInt8) : Nat × Nat :=
  if (b0 l).toNat < 128 then (1, (b0 l).toNat)
  else if 194 ≤ (b0 l).toNat ∧ (b0 l).toNat ≤ 223 then multi l 2 128 ((b0 l).toNat - 192)
  else if 224 ≤ (b0 l).toNat ∧ (b0 l).toNat ≤ 239 then multi l 3 2048 ((b0 l).toNat - 224)
  else if 240 ≤ (b0 l).toNat ∧ (b0 l).toNat ≤ 244 then multi l 4 65536 ((b0 l).toNat - 240)
  else (0, 0)
set_option maxRecDepth 100000 in
set_option maxHeartbeats 4000000 in
theorem sizeN_eq (n c0 c1 c2 c3 : Nat) (hn : 1 ≤ n) (h0 : c0 < 256) (h1 : c1 < 256) (h2 : c2 < 256) (h3 : c3 < 256) (r : Nat × Nat)
    (hr : r = if c0 < 128 then (1, c0)
      else if 194 ≤ c0 ∧ c0 ≤ 223 then (if n < 2 then (0, 0) else if c1 < 128 ∨ 191 < c1 then (0, 0) else okV 2 128 (64 * (c0 - 192) + c1 - 128))
      else if 224 ≤ c0 ∧ c0 ≤ 239 then (if n < 3 then (0, 0) else if c1 < 128 ∨ 191 < c1 then (0, 0) else if c2 < 128 ∨ 191 < c2 then (0, 0) else okV 3 2048 (64 * (64 * (c0 - 224) + c1 - 128) + c2 - 128))
      else if 240 ≤ c0 ∧ c0 ≤ 244 then (if n < 4 then (0, 0) else if c1 < 128 ∨ 191 < c1 then (0, 0) else if c2 < 128 ∨ 191 < c2 then (0, 0) else if c3 < 128 ∨ 191 < c3 then (0, 0) else okV 4 65536 (64 * (64 * (64 * (c0 - 240) + c1 - 128) + c2 - 128) + c3 - 128))
      else (0, 0)) :
    r = if 128 ≤ c0 ∧ (Lib.decodeN n c0 c1 c2 c3).2 = 1 then (0, 0) else ((Lib.decodeN n c0 c1 c2 c3).2, (Lib.decodeN n c0 c1 c2 c3).1) := by
  rw [hr]
  unfold Lib.decodeN okV
  by_cases a0 : c0 < 128
  · rw [if_pos a0, if_pos a0, if_neg (by omega)]
  rw [if_neg a0, if_neg a0]
  by_cases a1 : c0 / 32 = 6
  · have x1 : ¬ c0 / 16 = 14 := by omega
    have x2 : ¬ c0 / 8 = 30 := by omega
    simp only [a1, x1, x2, true_and, false_and, if_false]
    repeat' split
    all_goals first | rfl | (exfalso; omega) | (exfalso; simp only [and_true] at *; omega) | (apply Prod.ext <;> simp only <;> omega)
  by_cases a2 : c0 / 16 = 14
  · have x2 : ¬ c0 / 8 = 30 := by omega
    simp only [a1, a2, x2, true_and, false_and, if_false]
    repeat' split
    all_goals first | rfl | (exfalso; omega) | (exfalso; simp only [and_true] at *; omega) | (apply Prod.ext <;> simp only <;> omega)
  by_cases a3 : c0 / 8 = 30
  · simp only [a1, a2, a3, true_and, false_and, if_false]
    repeat' split
    all_goals first | rfl | (exfalso; omega) | (exfalso; simp only [and_true] at *; omega) | (apply Prod.ext <;> simp only <;> omega)
  simp only [a1, a2, a3, true_and, false_and, if_false]
  repeat' split
  all_goals first | rfl | (exfalso; omega) | (exfalso; simp only [and_true] at *; omega) | (apply Prod.ext <;> simp only <;> omega)
theorem okO_ite (n low : Nat) (c : Prop) [Decidable c] (x : Option Nat) : okO n low (if c then none else x) = if c then (0, 0) else okO n low x := by split <;> rfl
theorem contV_zero (l : List UInt8) (k v : Nat) : contV l 0 k v = some v := rfl
theorem contV_succ (l : List UInt8) (m k v : Nat) : contV l (m + 1) k v = if (l.getD k 0).toNat < 128 ∨ 191 < (l.getD k 0).toNat then none else contV l m (k + 1) (64 * v + (l.getD k 0).toNat - 128) := rfl
theorem multi2 (l : List UInt8) (low v : Nat) : multi l 2 low v = if l.length < 2 then (0, 0) else if (l.getD 1 0).toNat < 128 ∨ 191 < (l.getD 1 0).toNat then (0, 0) else okV 2 low (64 * v + (l.getD 1 0).toNat - 128) := by
  unfold multi
  rw [show 2 - 1 = 0 + 1 from rfl, contV_succ, okO_ite, contV_zero]; rfl
theorem multi3 (l : List UInt8) (low v : Nat) : multi l 3 low v = if l.length < 3 then (0, 0) else if (l.getD 1 0).toNat < 128 ∨ 191 < (l.getD 1 0).toNat then (0, 0) else if (l.getD 2 0).toNat < 128 ∨ 191 < (l.getD 2 0).toNat then (0, 0) else okV 3 low (64 * (64 * v + (l.getD 1 0).toNat - 128) + (l.getD 2 0).toNat - 128) := by
  unfold multi
  rw [show 3 - 1 = 0 + 1 + 1 from rfl, contV_succ, okO_ite, contV_succ, okO_ite, contV_zero]; rfl
theorem multi4 (l : List UInt8) (low v : Nat) : multi l 4 low v = if l.length < 4 then (0, 0) else if (l.getD 1 0).toNat < 128 ∨ 191 < (l.getD 1 0).toNat then (0, 0) else if (l.getD 2 0).toNat < 128 ∨ 191 < (l.getD 2 0).toNat then (0, 0) else if (l.getD 3 0).toNat < 128 ∨ 191 < (l.getD 3 0).toNat then (0, 0) else okV 4 low (64 * (64 * (64 * v + (l.getD 1 0).toNat - 128) + (l.getD 2 0).toNat - 128) + (l.getD 3 0).toNat - 128) := by
  unfold multi
  rw [show 4 - 1 = 0 + 1 + 1 + 1 from rfl, contV_succ, okO_ite, contV_succ, okO_ite, contV_succ, okO_ite, contV_zero]; rfl
theorem size5_dec (l : List UInt8) (h : l ≠ []) : size5 l = if 128 ≤ (b0 l).toNat ∧ (dec l).2 = 1 then (0, 0) else ((dec l).2, (dec l).1) := by
  have hl : 1 ≤ l.length := List.length_pos_iff.2 h
  unfold dec
  refine sizeN_eq l.length (b0 l).toNat _ _ _ hl (UInt8.toNat_lt _) (UInt8.toNat_lt _) (UInt8.toNat_lt _) (UInt8.toNat_lt _) _ ?_
  unfold size5
  rw [multi2, multi3, multi4]
end Go.Proofs.YtdgbpmbknlhgmaaDoor.Qt
