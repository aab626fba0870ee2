/-
An answer as an argument, and what the law AnswerEncodes gives for it. No statement of the claim is proved in this file.
-/
import Derived.Test.YtdgbpmbknlhgmaaDoorLawA2
import Derived.Test.YtdgbpmbknlhgmaaDoorRowAn
set_option linter.unusedVariables false
set_option maxRecDepth 100000
namespace Go.Proofs.YtdgbpmbknlhgmaaDoor
open Go.ChangeShapes Go.WideShapes Go.ChangeAt Go.RowKit Go.Deep Go.Joins Qt Vm
open Go.ChangeMaps (open_string shut_string)

/-- an answer's six fields. -/
structure AX where
  cl : Int
  sq : Int
  er : Int
  fd : Bool
  vl : List UInt8
  rv : Int
abbrev AX.val (x : AX) : Value := .agg #[.int .i64 x.cl, .int .i64 x.sq, .int .i64 x.er, .bool x.fd, .string (str x.vl), .int .i64 x.rv]
abbrev zeroAnswer : Value := .agg #[.int .i64 0, .int .i64 0, .int .i64 0, .bool false, .string ByteArray.empty, .int .i64 0]
abbrev dzeroAnswer {H : Type} : DataW H := .agg [.lit (.int .i64 0), .lit (.int .i64 0), .lit (.int .i64 0), .lit (.bool false), .lit (.string []), .lit (.int .i64 0)]
section
variable {H : Type} {enc : TypeId × Value → H} {W : World} {base : Nat} {spare : Nat → Bool} {held : Bool} {b0 : Nat}
theorem open_answer {v : Value} {d : DataW H} {p : List MemPlace} {ts : List TypeId} {ds : List (DataW H)} {j : Nat} (hsz : (DataW.weightsEach Tryd.prog ts ds).all (· ≤ reachBytes) = true) (ht : ts[j]? = some 38) (hd : ds[j]? = some d)
    (hv : Value.okWide Tryd.prog W .any b0 38 v) (h : DataW.Trod enc Tryd.prog W base spare held 38 v d p) : ∃ x : AX, v = x.val ∧ True := by
  obtain ⟨v0, v1, v2, v3, v4, v5, y0, y1, y2, y3, y4, y5, n, rfl, hd', hp', h0, h1, h2, h3, h4, h5⟩ := open_agg6 Tryd.underlying38 (by kernel_rfl) (by kernel_rfl) hv h
  obtain ⟨z0, c0, _, _⟩ := DataW.trod_int Tryd.underlying3 h0
  obtain ⟨z1, c1, _, _⟩ := DataW.trod_int Tryd.underlying3 h1
  obtain ⟨z2, c2, _, _⟩ := DataW.trod_int (by kernel_rfl : Tryd.prog.underlying 24 = some (.int .i64)) h2
  obtain ⟨b3, c3, _⟩ := DataW.trod_bool Tryd.underlying4 h3
  obtain ⟨s4, c4, _⟩ := DataW.trod_string Tryd.underlying9 h4
  obtain ⟨z5, c5, _, _⟩ := DataW.trod_int Tryd.underlying3 h5
  simp only [List.cons.injEq, and_true] at c0 c1 c2 c3 c4 c5
  subst c0 c1 c2 c3 c4 c5
  exact ⟨⟨z0, z1, z2, b3, toL s4, z5⟩, by simp only [AX.val, str_toL], trivial⟩
end

set_option maxHeartbeats 2000000 in
/-- a value too long. -/
theorem lawEnc_long (v : Int) (cl sq er : Int) (fd : Bool) (vl : List UInt8) (rv : Int) (w : World) (hv : AVars w) (hs : ¬ vl.length ≤ 300) :
    Calls Tryd.prog 9 #[.int .i64 v, .agg #[.int .i64 cl, .int .i64 sq, .int .i64 er, .bool fd, .string (str vl), .int .i64 rv]] w fun e w' => e = .returned (.bool true) ∧ Below w.heap.size w w' := by
  have hv' := Lib.hid hv
  have hsz := str_size vl
  have hd : decide ((300 : Int) < (vl.length : Int)) = true := decide_eq_true (by omega)
  obtain ⟨W, hW⟩ : ∃ W, W = w.alloc (.cells #[.int .i64 cl, .int .i64 sq, .int .i64 er, .bool fd, .string (str vl), .int .i64 rv] 38) := ⟨_, rfl⟩
  have hbW : Hid (Below w.heap.size w W) := by subst hW; exact (Below.refl _ _).alloc (Nat.le_refl _) _
  clear hv hs
  go_enter Tryd.func9, Tryd.ntmps9
  go_wp2_with (fail)
  rw [← hW]
  refine (awakeA_calls _ (hv'.out.below hbW.out)).mono ?_
  rintro e w1 ⟨rfl, hb⟩
  have hb1 : Hid (Below w.heap.size w w1) := hbW.out.trans (hb.mono hbW.out.size)
  clear hb hW hbW
  go_wp2_with (fail)
  go_ret
  exact ⟨rfl, hb1.out⟩
theorem lawEnc_calls (v : Int) (cl sq er : Int) (fd : Bool) (vl : List UInt8) (rv : Int) (w : World) (hv : AVars w) :
    Calls Tryd.prog 9 #[.int .i64 v, .agg #[.int .i64 cl, .int .i64 sq, .int .i64 er, .bool fd, .string (str vl), .int .i64 rv]] w fun e w' => e = .returned (.bool true) ∧ Below w.heap.size w w' := by
  by_cases hs : vl.length ≤ 300
  · by_cases h : encE v cl sq er vl rv = 0
    · obtain ⟨hv12, hE, hrv⟩ := encE_ok h
      obtain ⟨hnm, hvl⟩ := ansE_zero hE
      obtain ⟨b1, b2, b3, b4, b5, b6, b7, b8⟩ := numsB_bounds hnm
      obtain ⟨cl, rfl⟩ := Int.eq_ofNat_of_zero_le (show 0 ≤ cl by omega)
      obtain ⟨sq, rfl⟩ := Int.eq_ofNat_of_zero_le (show 0 ≤ sq by omega)
      obtain ⟨er, rfl⟩ := Int.eq_ofNat_of_zero_le (show 0 ≤ er by omega)
      obtain ⟨rv, rfl⟩ := Int.eq_ofNat_of_zero_le (show 0 ≤ rv by omega)
      exact lawEnc_ok v cl sq er fd vl rv w hv h
    · exact lawEnc_no v cl sq er fd vl rv w hv hs h
  · exact lawEnc_long v cl sq er fd vl rv w hv hs
namespace Walk
theorem answerEncodes (v : Int) (x : AX) (w : World) (hv : AVars w) (_ : -9223372036854775808 ≤ v) (_ : v ≤ 9223372036854775807) (_ : True) :
    Calls Tryd.prog 9 #[.int .i64 v, x.val] w fun e w' => e = .returned (.bool true) ∧ Below w.heap.size w w' := lawEnc_calls v _ _ _ _ _ _ w hv
end Walk
end Go.Proofs.YtdgbpmbknlhgmaaDoor
