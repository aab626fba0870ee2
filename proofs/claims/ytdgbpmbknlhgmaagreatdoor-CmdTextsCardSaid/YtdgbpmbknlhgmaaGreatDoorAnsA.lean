/-
The walks through answer.Check, changeoverref09.Check.
-/
import Derived.Test.YtdgbpmbknlhgmaaGreatDoorRunes
set_option linter.unusedVariables false
set_option linter.unusedSimpArgs false
namespace Go.Proofs.YtdgbpmbknlhgmaaGreatDoor
open Go.RowKit Qt

/-- are an answer's numbers right? -/
def numsB (cl sq er rv : Int) : Bool := decide (1 ≤ cl ∧ cl ≤ 8 ∧ 1 ≤ sq ∧ sq ≤ 4294967296 ∧ 0 ≤ er ∧ er ≤ 17 ∧ 0 ≤ rv ∧ rv ≤ 4294967296)
/-- what is wrong with an answer. -/
def ansE (cl sq er : Int) (vl : List UInt8) (rv : Int) : Int := if numsB cl sq er rv then (if isVal vl then 0 else 7) else 6
theorem ansE_no {cl sq er : Int} {vl : List UInt8} {rv : Int} (h : numsB cl sq er rv = false) : ansE cl sq er vl rv = 6 := by unfold ansE; rw [h]; rfl
theorem ansE_val {cl sq er : Int} {vl : List UInt8} {rv : Int} (h : numsB cl sq er rv = true) (h2 : isVal vl = true) : ansE cl sq er vl rv = 0 := by unfold ansE; rw [h, h2]; rfl
theorem ansE_bad {cl sq er : Int} {vl : List UInt8} {rv : Int} (h : numsB cl sq er rv = true) (h2 : isVal vl = false) : ansE cl sq er vl rv = 7 := by unfold ansE; rw [h, h2]; rfl
theorem ansE_zero {cl sq er : Int} {vl : List UInt8} {rv : Int} (h : ansE cl sq er vl rv = 0) : numsB cl sq er rv = true ∧ isVal vl = true := by
  unfold ansE at h
  cases h1 : numsB cl sq er rv
  · rw [h1, if_neg Bool.false_ne_true] at h; exact absurd h (by decide)
  · cases h2 : isVal vl
    · rw [h1, h2, if_pos rfl, if_neg Bool.false_ne_true] at h; exact absurd h (by decide)
    · exact ⟨rfl, rfl⟩
theorem QVars.alloc {w : World} (h : QVars w) (o : Obj) : QVars (w.alloc o) := h.below ((Below.refl _ _).alloc (Nat.le_refl _) o)
def wiB (n lo hi : Int) : Bool := decide (lo ≤ n ∧ n ≤ hi)
end Go.Proofs.YtdgbpmbknlhgmaaGreatDoor
