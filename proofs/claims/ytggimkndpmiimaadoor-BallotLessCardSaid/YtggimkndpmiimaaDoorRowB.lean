/-
The arguments of the laws of package ballot, and the package variables at the start. No statement of the claim is proved in this file.
-/
import Derived.Test.YtggimkndpmiimaaDoorBallotE
import Derived.Test.YtggimkndpmiimaaDoorRowA
set_option linter.unusedVariables false
namespace Go.Proofs.YtggimkndpmiimaaDoor
open Go.ChangeShapes Go.WideShapes Go.ChangeAt Go.RowKit Go.Deep Go.Joins

section
variable {H : Type} {enc : TypeId × Value → H} {W : World} {base : Nat} {spare : Nat → Bool} {held : Bool} {b0 : Nat}
theorem int_cell {v : Value} {m : Nat} {y : DataW H × List MemPlace} (h : DataW.trod enc Tryd.prog W base spare held m 3 [v] = some y) : ∃ x : Int, v = .int .i64 x := by
  obtain ⟨z, hc, _, _⟩ := DataW.trod_int Tryd.underlying3 h
  exact ⟨z, by simpa using hc⟩
theorem open_ballot {v : Value} {d : DataW H} {p : List MemPlace} {ts : List TypeId} {ds : List (DataW H)} {j : Nat} (hsz : (DataW.weightsEach Tryd.prog ts ds).all (· ≤ reachBytes) = true) (ht : ts[j]? = some 33) (hd : ds[j]? = some d)
    (hv : Value.okWide Tryd.prog W .any b0 33 v) (h : DataW.Trod enc Tryd.prog W base spare held 33 v d p) :
    ∃ x : Int × Int, v = .agg #[.int .i64 x.1, .int .i64 x.2] ∧ True := by
  obtain ⟨c0, c1, y0, y1, m, rfl, _, _, h0, h1⟩ := open_agg2 Tryd.underlying33 (by kernel_rfl) (by kernel_rfl) hv h
  obtain ⟨a, rfl⟩ := int_cell h0
  obtain ⟨b, rfl⟩ := int_cell h1
  exact ⟨(a, b), rfl, trivial⟩

theorem pairs_of {f : Nat → Value} : ∀ n, (∀ i, i < n → (∃ x : Int, f (i * 2) = .int .i64 x) ∧ ∃ x : Int, f (i * 2 + 1) = .int .i64 x) → ∃ l : List (Int × Int), l.length = n ∧ ∀ j u, (balCells l)[j]? = some u → j < n * 2 ∧ f j = u := by
  intro n
  induction n with
  | zero => intro _; exact ⟨[], rfl, fun j u h => by simp [balCells] at h⟩
  | succ n ih =>
    intro h
    obtain ⟨l, hl, hj⟩ := ih (fun i hi => h i (by omega))
    obtain ⟨⟨x, hx⟩, ⟨y, hy⟩⟩ := h n (by omega)
    refine ⟨l ++ [(x, y)], by simp [hl], fun j u hu => ?_⟩
    have e : balCells (l ++ [(x, y)]) = balCells l ++ [.int .i64 x, .int .i64 y] := by simp [balCells]
    rw [e] at hu
    rcases Nat.lt_or_ge j (balCells l).length with h1 | h1
    · rw [List.getElem?_append_left h1] at hu
      obtain ⟨h2, h3⟩ := hj j u hu
      exact ⟨by omega, h3⟩
    · rw [List.getElem?_append_right h1] at hu
      have hlen := balCells_length l
      rw [hl] at hlen
      rw [hlen] at hu h1
      have h2 : j - n * 2 < 2 := by
        rcases Nat.lt_or_ge (j - n * 2) 2 with h | h
        · exact h
        · rw [List.getElem?_eq_none (by simpa using h)] at hu; cases hu
      obtain h3 | h3 : j = n * 2 ∨ j = n * 2 + 1 := by omega
      · subst h3
        simp at hu
        exact ⟨by omega, by rw [hx, hu]⟩
      · subst h3
        rw [show n * 2 + 1 - n * 2 = 1 by omega] at hu
        simp at hu
        exact ⟨by omega, by rw [hy, hu]⟩

theorem open_ballots {v : Value} {d : DataW H} {p : List MemPlace} {ts : List TypeId} {ds : List (DataW H)} {j : Nat} (hsz : (DataW.weightsEach Tryd.prog ts ds).all (· ≤ reachBytes) = true) (ht : ts[j]? = some 43) (hd : ds[j]? = some d)
    (hv : Value.okWide Tryd.prog W .any b0 43 v) (h : DataW.Trod enc Tryd.prog W base spare held 43 v d p) :
    ∃ x : Option Addr × Nat × Nat × List (Int × Int), v = .slice x.1 x.2.1 x.2.2.1 ∧ BalAt W x.1 x.2.1 x.2.2.2 ∧ x.2.1 ≤ 9223372036854775807 := by
  obtain ⟨A, n, c, rfl⟩ := okWide_slice Tryd.underlying43 hv
  obtain ⟨fuel, hf⟩ := h
  rcases open_slice_fields Tryd.underlying43 Tryd.underlying33 (by kernel_rfl) (by kernel_rfl) hf with ⟨hcs, _⟩ | ⟨a, len, cap, m, D, Pl, hcs, _, hlc, hcm, hm, _, hi⟩
  · simp [Value.cells] at hcs
    obtain ⟨rfl, rfl, rfl⟩ := hcs
    exact ⟨(none, 0, 0, []), rfl, Reads.none_, Nat.zero_le _⟩
  · simp [Value.cells] at hcs
    obtain ⟨rfl, rfl, rfl⟩ := hcs
    have hnm : n ≤ m := by rw [hm]; split <;> omega
    have hcell : ∀ i, i < n → (∃ x : Int, W.cell? (a.add (i * 2)) = some (.int .i64 x)) ∧ ∃ x : Int, W.cell? (a.add (i * 2 + 1)) = some (.int .i64 x) := by
      intro i hin
      obtain ⟨ys, fl, _, _, _, hfld⟩ := hi i (by omega)
      obtain ⟨v0, y0, g0, _, t0⟩ := hfld 0 _ rfl
      obtain ⟨v1, y1, g1, _, t1⟩ := hfld 1 _ rfl
      obtain ⟨x0, rfl⟩ := int_cell t0
      obtain ⟨x1, rfl⟩ := int_cell t1
      exact ⟨⟨x0, g0⟩, ⟨x1, g1⟩⟩
    obtain ⟨l, hl, hj⟩ := pairs_of (f := fun j => (W.cell? (a.add j)).getD undef) n (fun i hin => by
      obtain ⟨⟨x, hx⟩, ⟨y, hy⟩⟩ := hcell i hin
      exact ⟨⟨x, by rw [hx]; rfl⟩, ⟨y, by rw [hy]; rfl⟩⟩)
    have hall : ∀ j u, (balCells l)[j]? = some u → W.cell? (a.add j) = some u := by
      intro j u hu
      obtain ⟨h1, h2⟩ := hj j u hu
      obtain ⟨⟨x, hx⟩, ⟨y, hy⟩⟩ := hcell (j / 2) (by omega)
      rcases Nat.mod_two_eq_zero_or_one j with h0 | h0
      · rw [show j / 2 * 2 = j by omega] at hx
        rw [hx] at h2 ⊢
        simpa using h2
      · rw [show j / 2 * 2 + 1 = j by omega] at hy
        rw [hy] at h2 ⊢
        simpa using h2
    refine ⟨(some a, n, c, l), rfl, ⟨by rw [balCells_length, hl], fun hn0 => ⟨a, rfl, ?_, hall⟩⟩, by simp only; unfold maxLen at hcm; omega⟩
    have h0 := (hcell 0 hn0).1
    obtain ⟨x, hx⟩ := h0
    have := cell_lt hx
    rw [block_of_add] at this
    exact this
end

theorem tabP {L : List (String × DataW Unit)} {W : World} (hL : laidMetH Tryd.prog L W) (hp : (L.all fun x => x.2.handleName?.isNone) = true)
    (hf : L.filter (fun x => x.1 == "internal/strconv.uint64pow10") = [("internal/strconv.uint64pow10", Lib.tabData .u64 Lib.pow10Tab)]) : TabP W :=
  tab_of (g := 1) hL hp hf (by kernel_rfl) (by kernel_rfl) Tryd.underlying64 Tryd.underlying47 (by kernel_rfl) (by kernel_rfl)
theorem vars_ballotLess {W : World} (hL : laidMetH Tryd.prog Rows.ballotLessRow.laid W) (_ : W.ShapedOpen Tryd.prog) : TabP W := tabP hL (by kernel_rfl) (by kernel_rfl)
theorem vars_ballotNext {W : World} (hL : laidMetH Tryd.prog Rows.ballotNextRow.laid W) (_ : W.ShapedOpen Tryd.prog) : TabP W := tabP hL (by kernel_rfl) (by kernel_rfl)
theorem vars_ballotMax {W : World} (hL : laidMetH Tryd.prog Rows.ballotMaxRow.laid W) (_ : W.ShapedOpen Tryd.prog) : TabP W := tabP hL (by kernel_rfl) (by kernel_rfl)

namespace Walk
theorem ballotLess (x y : Int × Int) (w : World) (ht : TabP w) (_ : True) (_ : True) :
    Calls Tryd.prog 6 #[.agg #[.int .i64 x.1, .int .i64 x.2], .agg #[.int .i64 y.1, .int .i64 y.2]] w fun e w' => e = .returned (.bool true) ∧ Below w.heap.size w w' := lawless_calls _ _ _ _ w ht
theorem ballotNext (x : Int × Int) (node : Int) (w : World) (ht : TabP w) (_ : True) (_ : -9223372036854775808 ≤ node) (_ : node ≤ 9223372036854775807) :
    Calls Tryd.prog 7 #[.agg #[.int .i64 x.1, .int .i64 x.2], .int .i64 node] w fun e w' => e = .returned (.bool true) ∧ Below w.heap.size w w' := lawnext_calls _ _ _ w ht
theorem ballotMax (x : Option Addr × Nat × Nat × List (Int × Int)) (w : World) (ht : TabP w) (h : BalAt w x.1 x.2.1 x.2.2.2 ∧ x.2.1 ≤ 9223372036854775807) :
    Calls Tryd.prog 8 #[.slice x.1 x.2.1 x.2.2.1] w fun e w' => e = .returned (.bool true) ∧ Below w.heap.size w w' := lawmax_calls _ _ _ _ w h.2 h.1 ht
end Walk
end Go.Proofs.YtggimkndpmiimaaDoor
