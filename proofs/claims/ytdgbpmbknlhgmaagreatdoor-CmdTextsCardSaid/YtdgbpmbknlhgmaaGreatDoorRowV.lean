/-
What the law CmdTexts gives. No statement of the claim is proved in this file.
-/
import Derived.Test.YtdgbpmbknlhgmaaGreatDoorLawV
import Derived.Test.YtdgbpmbknlhgmaaGreatDoorRowY
import Derived.Test.YtdgbpmbknlhgmaaGreatDoorRowZ
set_option linter.unusedVariables false
set_option maxRecDepth 100000
namespace Go.Proofs.YtdgbpmbknlhgmaaGreatDoor
open Go.ChangeShapes Go.WideShapes Go.ChangeAt Go.RowKit Go.Deep Go.Joins Qt Vm
theorem vars_cmdTexts {W : World} (hL : laidMetH Tryz.prog Rows.cmdTextsRow.laid W) (hsh : W.ShapedOpen Tryz.prog) : EVars W :=
  evars_of hL (by kernel_rfl) ⟨qvars_of hL (by kernel_rfl) (.tail _ (.tail _ (.tail _ (.tail _ (.tail _ (.tail _ (.head _))))))) (.tail _ (.tail _ (.tail _ (.head _)))) hsh, tabP hL (by kernel_rfl) (by kernel_rfl)⟩ rfl
namespace Walk
theorem cmdTexts (x : CX) (s : ByteArray) (w : World) (hv : EVars w) (_ : x.Fits) (_ : s.size ≤ 140737488351232) :
    Calls Tryz.prog 5 #[x.value, .string s] w fun e w' => e = .returned (.bool true) ∧ Below w.heap.size w w' := by
  have := lawCT_calls x (toL s) w hv
  rwa [str_toL] at this
end Walk
end Go.Proofs.YtdgbpmbknlhgmaaGreatDoor
