/-
Plain lists of bytes: decimal digits, and that they lead back to their number. No program in sight.
-/
import Derived.Test.YtdgbpmbknlhgmaaGreatDoorQuoteMath
import Derived.Lib.ItoaNum
import Derived.Lib.AtoiAllCases
set_option linter.unusedVariables false
set_option linter.unusedSimpArgs false
namespace Go.Proofs.YtdgbpmbknlhgmaaGreatDoor.Qt
open Go.Lib (decDigits parseUint10 parseMag atoiAll signless NumEnd)

theorem dd_small {u : Nat} (h : u < 10) : decDigits u = [UInt8.ofNat (48 + u)] := by rw [decDigits, dif_pos h]
theorem dd_big {u : Nat} (h : ¬ u < 10) : decDigits u = decDigits (u / 10) ++ [UInt8.ofNat (48 + u % 10)] := by rw [decDigits, dif_neg h]
theorem dd_mem (u : Nat) : ∀ c ∈ decDigits u, 48 ≤ c.toNat ∧ c.toNat ≤ 57 := by
  induction u using Nat.strongRecOn with
  | _ u ih =>
    intro c hc
    by_cases h : u < 10
    · rw [dd_small h, List.mem_singleton] at hc
      subst hc
      rw [UInt8.toNat_ofNat']; omega
    · rw [dd_big h, List.mem_append, List.mem_singleton] at hc
      rcases hc with hc | rfl
      · exact ih (u / 10) (by omega) c hc
      · rw [UInt8.toNat_ofNat']; omega
theorem dd_ne (u : Nat) : decDigits u ≠ [] := by
  by_cases h : u < 10
  · rw [dd_small h]; exact List.cons_ne_nil _ _
  · rw [dd_big h]; simp
theorem dd_len : ∀ (k u : Nat), u < 10 ^ (k + 1) → (decDigits u).length ≤ k + 1 := by
  intro k
  induction k with
  | zero => intro u h; rw [dd_small (by simpa using h)]; exact Nat.le_refl _
  | succ k ih =>
    intro u h
    by_cases h1 : u < 10
    · rw [dd_small h1]; simp
    · rw [dd_big h1, List.length_append]
      have := ih (u / 10) (by rw [Nat.pow_succ] at h; omega)
      simp; omega
theorem dd_len19 {u : Nat} (h : u < 9223372036854775808) : (decDigits u).length ≤ 19 := dd_len 18 u (by omega)
theorem pu_app (b : List UInt8) : ∀ (a : List UInt8) (acc v : Nat), parseUint10 acc a = .ok v → parseUint10 acc (a ++ b) = parseUint10 v b := by
  intro a
  induction a with
  | nil => intro acc v h; rw [parseUint10] at h; cases h; rfl
  | cons c a ih =>
    intro acc v h
    rw [List.cons_append]
    rw [parseUint10] at h ⊢
    split at h
    · rename_i hc
      rw [if_pos hc]
      split at h
      · cases h
      · rename_i h1
        rw [if_neg h1]
        split at h
        · cases h
        · rename_i h2
          rw [if_neg h2]
          exact ih _ _ h
    · cases h
theorem pu_dd (u : Nat) : u < 9223372036854775808 → parseUint10 0 (decDigits u) = .ok u := by
  induction u using Nat.strongRecOn with
  | _ u ih =>
    intro hu
    by_cases h : u < 10
    · have e : (UInt8.ofNat (48 + u)).toNat = 48 + u := by rw [UInt8.toNat_ofNat']; omega
      rw [dd_small h, parseUint10, e, if_pos (by omega), if_neg (by omega), if_neg (by omega), parseUint10]
      congr 1; omega
    · have e : (UInt8.ofNat (48 + u % 10)).toNat = 48 + u % 10 := by rw [UInt8.toNat_ofNat']; omega
      rw [dd_big h, pu_app _ _ _ _ (ih (u / 10) (by omega) (by omega)), parseUint10, e, if_pos (by omega), if_neg (by omega), if_neg (by omega), parseUint10]
      congr 1; omega
theorem atoi_dd {u : Nat} (hu : u < 9223372036854775808) : atoiAll (decDigits u) = .ok (u : Int) := by
  have hm := dd_mem u
  have hp := pu_dd u hu
  have hn := dd_ne u
  generalize decDigits u = l at *
  cases l with
  | nil => exact absurd rfl hn
  | cons c r =>
    have hc := hm c (by simp)
    rw [Lib.atoiAll_plain c r (by omega) (by omega)]
    unfold parseMag
    rw [if_neg hn, hp]
    show (if 9223372036854775808 ≤ u then NumEnd.range else .ok (u : Int)) = _
    rw [if_neg (by omega)]
theorem dd_word (u : Nat) : isWord (decDigits u) = true := by
  have hm := dd_mem u
  have hn := dd_ne u
  generalize decDigits u = l at *
  cases l with
  | nil => exact absurd rfl hn
  | cons c r =>
    have hc := hm c (by simp)
    unfold isWord
    rw [if_neg hn, if_neg (fun e => by
      have e : c = 34 := e
      rw [e] at hc; exact absurd hc (by decide)), List.all_eq_true]
    intro x hx
    have := hm x hx
    simp; omega
theorem quote_word (l : List UInt8) : isWord (quote l) = true := by
  unfold isWord
  rw [if_neg (by simp [quote]), if_pos (by rfl), unquote_quote]; rfl
end Go.Proofs.YtdgbpmbknlhgmaaGreatDoor.Qt
