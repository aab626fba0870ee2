/-
What the law CmdEncodes gives. No statement of the claim is proved in this file.
-/
import Derived.Test.YtdgbpmbknlhgmaaGreatDoorLawE
import Derived.Test.YtdgbpmbknlhgmaaGreatDoorRowY
set_option linter.unusedVariables false
set_option maxRecDepth 100000
namespace Go.Proofs.YtdgbpmbknlhgmaaGreatDoor
open Go.ChangeShapes Go.WideShapes Go.ChangeAt Go.RowKit Go.Deep Go.Joins Qt Vm
theorem vars_cmdEncodes {W : World} (hL : laidMetH Tryz.prog Rows.cmdEncodesRow.laid W) (hsh : W.ShapedOpen Tryz.prog) : AVars W :=
  ⟨qvars_of hL (by kernel_rfl) (.tail _ (.tail _ (.tail _ (.tail _ (.head _))))) (.tail _ (.tail _ (.tail _ (.head _)))) hsh, tabP hL (by kernel_rfl) (by kernel_rfl)⟩
namespace Walk
theorem cmdEncodes (v : Int) (x : CX) (w : World) (hv : AVars w) (_ : -9223372036854775808 ≤ v) (_ : v ≤ 9223372036854775807) (_ : x.Fits) :
    Calls Tryz.prog 3 #[.int .i64 v, x.value] w fun e w' => e = .returned (.bool true) ∧ Below w.heap.size w w' := lawCEnc_calls v x w hv
end Walk
end Go.Proofs.YtdgbpmbknlhgmaaGreatDoor
