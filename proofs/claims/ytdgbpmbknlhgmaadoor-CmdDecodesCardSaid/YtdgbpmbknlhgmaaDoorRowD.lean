/-
What the law CmdDecodes gives. No statement of the claim is proved in this file.
-/
import Derived.Test.YtdgbpmbknlhgmaaDoorLawD
import Derived.Test.YtdgbpmbknlhgmaaDoorRowT
set_option linter.unusedVariables false
set_option maxRecDepth 100000
namespace Go.Proofs.YtdgbpmbknlhgmaaDoor
open Go.ChangeShapes Go.WideShapes Go.ChangeAt Go.RowKit Go.Deep Go.Joins Qt Vm
theorem vars_cmdDecodes {W : World} (hL : laidMetH Tryd.prog Rows.cmdDecodesRow.laid W) (hsh : W.ShapedOpen Tryd.prog) : AVars W :=
  ⟨qvars_of hL (by kernel_rfl) (.tail _ (.tail _ (.tail _ (.tail _ (.head _))))) (.tail _ (.tail _ (.tail _ (.head _)))) hsh, tabP hL (by kernel_rfl) (by kernel_rfl)⟩
namespace Walk
theorem cmdDecodes (v : Int) (A : Option Addr) (n c : Nat) (l : List UInt8) (w : World) (hv : AVars w) (_ : -9223372036854775808 ≤ v) (_ : v ≤ 9223372036854775807) (hn : n ≤ 140737488351232) (h : Reads w w.heap.size 1 A n (l.map fun b => Value.int .u8 (b.toNat : Int))) :
    Calls Tryd.prog 10 #[.int .i64 v, .slice A n c] w fun e w' => e = .returned (.bool true) ∧ Below w.heap.size w w' := lawCDec_calls v A n c l w hv hn h
end Walk
end Go.Proofs.YtdgbpmbknlhgmaaDoor
