/-
What the law CmdRefuses gives. No statement of the claim is proved in this file.
-/
import Derived.Test.YtdgbpmbknlhgmaaGreatDoorLawG
import Derived.Test.YtdgbpmbknlhgmaaGreatDoorRowY
set_option linter.unusedVariables false
set_option maxRecDepth 100000
namespace Go.Proofs.YtdgbpmbknlhgmaaGreatDoor
open Go.ChangeShapes Go.WideShapes Go.ChangeAt Go.RowKit Go.Deep Go.Joins Qt Vm
theorem vars_cmdRefuses {W : World} (hL : laidMetH Tryz.prog Rows.cmdRefusesRow.laid W) (hsh : W.ShapedOpen Tryz.prog) : AVars W :=
  ⟨qvars_of hL (by kernel_rfl) (.tail _ (.tail _ (.tail _ (.tail _ (.head _))))) (.tail _ (.tail _ (.tail _ (.head _)))) hsh, tabP hL (by kernel_rfl) (by kernel_rfl)⟩
namespace Walk
theorem cmdRefuses (v : Int) (x : CX) (w : World) (hv : AVars w) (_ : -9223372036854775808 ≤ v) (_ : v ≤ 9223372036854775807) (h : x.Fits) :
    Calls Tryz.prog 4 #[.int .i64 v, x.value] w fun e w' => e = .returned (.bool true) ∧ Below w.heap.size w w' := lawRef_calls v x w hv ⟨h.1.2, h.2.1.2, h.2.2.1.2, h.2.2.2.2⟩
end Walk
end Go.Proofs.YtdgbpmbknlhgmaaGreatDoor
