/-
The walk through changeoverref06.Unquote.
-/
import Derived.Test.YtdgbpmbknlhgmaaGreatDoorUnq
import Derived.Deep.RegionHeld3
import Derived.Deep.AppendLies
set_option linter.unusedVariables false
set_option linter.unusedSimpArgs false
namespace Go.Proofs.YtdgbpmbknlhgmaaGreatDoor
open Go.RowKit Qt

theorem new_cell (w : World) (v : Value) (T : TypeId) : ∀ (j : Nat) (u : Value), [v][j]? = some u → (w.alloc (.cells #[v] T)).cell? ((⟨w.heap.size, 0, none⟩ : Addr).add j) = some u := by
  intro j u hj
  match j, hj with
  | 0, hj => simp at hj; subst hj; simp [Addr.add]
theorem one_int (a : Int) : ∀ u ∈ [Value.int .u8 a], u.oneCell' = true := by
  intro u hu; simp at hu; subst hu; rfl
theorem wr2 (p : Nat) (h : p < 1000001) : IntKind.i64.wrap ((p : Int) + 2) = (p : Int) + 2 := by rw [IntKind.wrap_i64]; omega
theorem wr3 (p : Nat) (h : p < 1000001) : IntKind.i64.wrap ((p : Int) + 3) = (p : Int) + 3 := by rw [IntKind.wrap_i64]; omega
theorem wr16 (v : Nat) (h : v < 16) : IntKind.i64.wrap (16 * (v : Int)) = 16 * (v : Int) := by rw [IntKind.wrap_i64]; omega
theorem wr17 (v u : Nat) (h : v < 16) (h2 : u < 16) : IntKind.i64.wrap (16 * (v : Int) + (u : Int)) = 16 * (v : Int) + (u : Int) := by rw [IntKind.wrap_i64]; omega
attribute [local go_sem] wr2 wr3 wr16 wr17 IntKind.wrap_u8
theorem is_none {l : List UInt8} (h : unquote l = none) : Hid ((unquote l).isSome = false ∧ ∀ x, unquote l = some x → False) := by
  show _ ∧ _
  rw [h]; exact ⟨rfl, fun x h => by cases h⟩
theorem is_some {l x : List UInt8} (h : unquote l = some x) : Hid ((unquote l).isSome = true ∧ ∀ y, unquote l = some y → x = y) := by
  show _ ∧ _
  rw [h]; exact ⟨rfl, fun y h => by cases h; rfl⟩
theorem ret_is {a : ByteArray} {b d : Bool} (h2 : b = d) : Ending.returned (Value.tuple #[.string a, .bool b]) = Ending.returned (Value.tuple #[.string a, .bool d]) := by rw [h2]

end Go.Proofs.YtdgbpmbknlhgmaaGreatDoor
