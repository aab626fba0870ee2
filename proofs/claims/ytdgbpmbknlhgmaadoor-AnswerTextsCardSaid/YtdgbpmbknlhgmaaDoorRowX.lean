/-
An answer as an argument. No statement of the claim is proved in this file.
-/
import Derived.Test.YtdgbpmbknlhgmaaDoorAnsT
import Derived.Test.YtdgbpmbknlhgmaaDoorRowT
set_option linter.unusedVariables false
set_option maxRecDepth 100000
namespace Go.Proofs.YtdgbpmbknlhgmaaDoor
open Go.ChangeShapes Go.WideShapes Go.ChangeAt Go.RowKit Go.Deep Go.Joins Qt Vm
open Go.ChangeMaps (open_string shut_string)

abbrev zeroAnswer : Value := .agg #[.int .i64 0, .int .i64 0, .int .i64 0, .bool false, .string ByteArray.empty, .int .i64 0]
abbrev dzeroAnswer {H : Type} : DataW H := .agg [.lit (.int .i64 0), .lit (.int .i64 0), .lit (.int .i64 0), .lit (.bool false), .lit (.string []), .lit (.int .i64 0)]
section
variable {H : Type} {enc : TypeId × Value → H} {W : World} {base : Nat} {spare : Nat → Bool} {held : Bool} {b0 : Nat}
theorem open_answer {v : Value} {d : DataW H} {p : List MemPlace} {ts : List TypeId} {ds : List (DataW H)} {j : Nat} (hsz : (DataW.weightsEach Tryd.prog ts ds).all (· ≤ reachBytes) = true) (ht : ts[j]? = some 38) (hd : ds[j]? = some d)
    (hv : Value.okWide Tryd.prog W .any b0 38 v) (h : DataW.Trod enc Tryd.prog W base spare held 38 v d p) : ∃ x : AX, v = x.val ∧ True := by
  obtain ⟨v0, v1, v2, v3, v4, v5, y0, y1, y2, y3, y4, y5, n, rfl, hd', hp', h0, h1, h2, h3, h4, h5⟩ := open_agg6 Tryd.underlying38 (by kernel_rfl) (by kernel_rfl) hv h
  obtain ⟨z0, c0, _, _⟩ := DataW.trod_int Tryd.underlying3 h0
  obtain ⟨z1, c1, _, _⟩ := DataW.trod_int Tryd.underlying3 h1
  obtain ⟨z2, c2, _, _⟩ := DataW.trod_int (by kernel_rfl : Tryd.prog.underlying 24 = some (.int .i64)) h2
  obtain ⟨b3, c3, _⟩ := DataW.trod_bool Tryd.underlying4 h3
  obtain ⟨s4, c4, _⟩ := DataW.trod_string Tryd.underlying9 h4
  obtain ⟨z5, c5, _, _⟩ := DataW.trod_int Tryd.underlying3 h5
  simp only [List.cons.injEq, and_true] at c0 c1 c2 c3 c4 c5
  subst c0 c1 c2 c3 c4 c5
  exact ⟨⟨z0, z1, z2, b3, toL s4, z5⟩, by simp only [AX.val, str_toL], trivial⟩
end

end Go.Proofs.YtdgbpmbknlhgmaaDoor
