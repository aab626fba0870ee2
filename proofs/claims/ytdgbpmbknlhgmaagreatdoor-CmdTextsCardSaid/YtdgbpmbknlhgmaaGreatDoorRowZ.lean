/-
The package variables at the start, with the two errors of strconv; a world for the witness. No statement of the claim is proved in this file.
-/
import Derived.Test.YtdgbpmbknlhgmaaGreatDoorAtoi
import Derived.Test.YtdgbpmbknlhgmaaGreatDoorRowT
import Derived.Stop.LaidErr
set_option linter.unusedVariables false
set_option maxRecDepth 100000
namespace Go.Proofs.YtdgbpmbknlhgmaaGreatDoor
open Go.ChangeShapes Go.WideShapes Go.ChangeAt Go.RowKit Go.Deep Go.Joins Qt
open Go.ChangeMaps (open_string shut_string)

theorem err_star : "*" ++ "errors.errorString" = "*errors.errorString" := by decide
theorem err_row (u : TypeId) (h : Tryz.prog.typeName? 3 u = some "*errors.errorString") : u = 194 :=
  typeName_ptr_named (nm := "errors.errorString") (by rw [err_star]; kernel_rfl) (by kernel_rfl) (by decide) u (by rw [err_star]; exact h)
theorem err_at {n : String} {text : List UInt8} {r : List (String × DataW Unit)} {W : World} {g : Nat} {ti : TypeId} {ms : Array (String × TypeId)} (h : laidMet Tryz.prog ((n, .iface "*errors.errorString" (.ptr (.agg [.lit (.string text)]))) :: r) W)
    (hg : Tryz.prog.globalNamed n = some g) (ht : (Tryz.prog.globals[g]?).map (·.type) = some ti) (hi : Tryz.prog.underlying ti = some (.interface ms)) : ErrAt W g := by
  obtain ⟨a, s, hv, _⟩ := laid_sentinel h hg ht hi err_row Tryz.underlying194 Tryz.underlying196 rfl rfl Tryz.underlying9 (by kernel_rfl) (by kernel_rfl)
  have hc := World.var?_cell hg hv 0
  exact ⟨_, by simpa using hc, .inr ⟨_, _, rfl⟩⟩
theorem evars_of {L : List (String × DataW Unit)} {W : World} {t1 t2 : List UInt8} {a1 a2 a3 a4 : String × DataW Unit} {r : List (String × DataW Unit)}
    (hL : laidMetH Tryz.prog L W) (hp : (L.all fun x => x.2.handleName?.isNone) = true) (hA : AVars W)
    (hs : L = a1 :: a2 :: a3 :: a4 :: ("strconv.ErrRange", .iface "*errors.errorString" (.ptr (.agg [.lit (.string t1)]))) :: ("strconv.ErrSyntax", .iface "*errors.errorString" (.ptr (.agg [.lit (.string t2)]))) :: r) : EVars W := by
  rw [Go.MakeChecks.laidMetH_plain _ _ _ hp, hs] at hL
  exact ⟨hA, err_at (ti := 120) hL.tail.tail.tail.tail.tail (by kernel_rfl) (by kernel_rfl) Tryz.underlying120, err_at (ti := 120) hL.tail.tail.tail.tail (by kernel_rfl) (by kernel_rfl) Tryz.underlying120⟩
namespace Tx
/-- A WORLD FOR THE WITNESS: the settled one with two blocks more (the two errors' structs), the tables holding what their initialisers lay. -/
noncomputable def laidWorld (os : Os) : World :=
  let N := (World.settled Tryz.prog os).heap.size
  let w0 := World.holding Tryz.prog os ⟨#[.cells #[.string ⟨#[118, 97, 108, 117, 101, 32, 111, 117, 116, 32, 111, 102, 32, 114, 97, 110, 103, 101]⟩] 196, .cells #[.string ⟨#[105, 110, 118, 97, 108, 105, 100, 32, 115, 121, 110, 116, 97, 120]⟩] 196], #[], []⟩
  let put (h : Array Obj) (g : Nat) (cs : Array Value) : Array Obj := h.modify g fun
    | .cells _ t frozen => .cells cs t frozen
    | o => o
  { w0 with heap := put (put (((((w0.heap.modify 0 (tabObj .u8 Lib.firstTab)).modify 1 (tabObj .u8 acceptInts)).modify 4 (tabObj .u64 pow10s)).modify 6 (tabObj .u8 db32)).modify 7 (tabObj .u8 db64)) 3 #[.iface 194 (.pointer (some ⟨N, 0, none⟩))]) 2 #[.iface 194 (.pointer (some ⟨N + 1, 0, none⟩))] }
end Tx
end Go.Proofs.YtdgbpmbknlhgmaaGreatDoor
