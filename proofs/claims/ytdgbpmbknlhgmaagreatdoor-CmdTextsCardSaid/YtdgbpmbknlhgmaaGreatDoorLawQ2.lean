/-
The walk through the law QuoteWords.
-/
import Derived.Test.YtdgbpmbknlhgmaaGreatDoorLawQ
set_option linter.unusedVariables false
set_option linter.unusedSimpArgs false
namespace Go.Proofs.YtdgbpmbknlhgmaaGreatDoor
open Go.RowKit Qt

theorem flat_next (ws : List (List UInt8)) (k : Nat) (h : k < ws.length) : (ws.take (k + 1)).flatten.length = (ws.take k).flatten.length + (ws.getD k []).length := by
  rw [take_next ws k h, List.flatten_append, List.length_append]; simp
theorem all_next (ws : List (List UInt8)) (p : List UInt8 → Bool) (k : Nat) (h : k < ws.length) : (ws.take (k + 1)).all p = ((ws.take k).all p && p (ws.getD k [])) := by
  rw [take_next ws k h, List.all_append]; simp
theorem getD_mem (ws : List (List UInt8)) (k : Nat) (h : k < ws.length) : ws.getD k [] ∈ ws := by
  rw [List.getD_eq_getElem?_getD, List.getElem?_eq_getElem h]; exact List.getElem_mem _

end Go.Proofs.YtdgbpmbknlhgmaaGreatDoor
