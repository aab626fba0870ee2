/-
What the law AnswerTexts gives. No statement of the claim is proved in this file.
-/
import Derived.Test.YtdgbpmbknlhgmaaDoorLawU
import Derived.Test.YtdgbpmbknlhgmaaDoorRowX
import Derived.Test.YtdgbpmbknlhgmaaDoorRowZ
set_option linter.unusedVariables false
set_option maxRecDepth 100000
namespace Go.Proofs.YtdgbpmbknlhgmaaDoor
open Go.ChangeShapes Go.WideShapes Go.ChangeAt Go.RowKit Go.Deep Go.Joins Qt Vm
theorem vars_answerTexts {W : World} (hL : laidMetH Tryd.prog Rows.answerTextsRow.laid W) (hsh : W.ShapedOpen Tryd.prog) : EVars W :=
  evars_of hL (by kernel_rfl) ⟨qvars_of hL (by kernel_rfl) (.tail _ (.tail _ (.tail _ (.tail _ (.tail _ (.tail _ (.head _))))))) (.tail _ (.tail _ (.tail _ (.head _)))) hsh, tabP hL (by kernel_rfl) (by kernel_rfl)⟩ rfl
namespace Walk
theorem answerTexts (x : AX) (s : ByteArray) (w : World) (hv : EVars w) (_ : True) (_ : s.size ≤ 140737488351232) :
    Calls Tryd.prog 11 #[x.val, .string s] w fun e w' => e = .returned (.bool true) ∧ Below w.heap.size w w' := by
  have := lawTx_calls x (toL s) w hv
  rwa [str_toL] at this
end Walk
end Go.Proofs.YtdgbpmbknlhgmaaDoor
