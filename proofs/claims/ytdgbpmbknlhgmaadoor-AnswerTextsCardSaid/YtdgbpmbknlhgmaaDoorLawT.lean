/-
The walk through answer.Parse at any text; the law AnswerTexts.
-/
import Derived.Test.YtdgbpmbknlhgmaaDoorAnsT
import Derived.Test.YtdgbpmbknlhgmaaDoorLawA
import Derived.Laws.StructEq
set_option linter.unusedVariables false
set_option linter.unusedSimpArgs false
namespace Go.Proofs.YtdgbpmbknlhgmaaDoor
open Go.RowKit Qt Vm

/-- what a call of Parse comes to. -/
def ParA (l : List UInt8) (e : Ending) : Prop := (∃ x : AX, parseA l = some x ∧ e = .returned (.tuple #[x.val, .int .i64 0])) ∨ (parseA l = none ∧ e = .returned (.tuple #[.agg #[.int .i64 0, .int .i64 0, .int .i64 0, .bool false, .string ⟨#[]⟩, .int .i64 0], .int .i64 3]))
set_option maxHeartbeats 4000000 in
set_option maxRecDepth 100000 in
theorem parse_no (l : List UInt8) (w : World) (hl : l.length ≤ 1000000) (hv : EVars w) (h : wdE l ≠ 0 ∨ (wdL l).length ≠ 6) :
    Calls Tryd.prog 42 #[.string (str l)] w fun e w' => ParA l e ∧ Below w.heap.size w w' := by
  have hP : Hid (∀ e, e = .returned (.tuple #[.agg #[.int .i64 0, .int .i64 0, .int .i64 0, .bool false, .string ⟨#[]⟩, .int .i64 0], .int .i64 3]) → ParA l e) := fun e he => .inr ⟨by
    unfold parseA
    rw [if_neg]
    rintro ⟨h1, h2, _⟩
    rcases h with h | h
    · exact h h1
    · exact h h2, he⟩
  obtain ⟨W, hW⟩ : ∃ W, W = w.alloc (.cells #[.int .i64 0, .int .i64 0, .int .i64 0, .bool false, .string ⟨#[]⟩, .int .i64 0] 38) := ⟨_, rfl⟩
  have hbW : Hid (Below w.heap.size w W) := by subst hW; exact (Below.refl _ _).alloc (Nat.le_refl _) _
  have hZ : Hid (Blk W w.heap.size 38 #[.int .i64 0, .int .i64 0, .int .i64 0, .bool false, .string ⟨#[]⟩, .int .i64 0]) := by subst hW; exact Blk.new _ _ _
  have HW := wordsQ_calls (str l) W (by rw [str_size]; exact hl) (hv.below hbW.out).a.q
  rw [toL_str] at HW
  have hc : (wdE l == 0) = false ∨ (wdE l = 0 ∧ (wdL l).length ≠ 6) := by
    by_cases h0 : wdE l = 0
    · exact .inr ⟨h0, h.resolve_left (fun hn => hn h0)⟩
    · exact .inl (beq_eq_false_iff_ne.2 h0)
  clear hv h
  rcases hc with t1 | ⟨h0, h1⟩
  · generalize wdE l = we at *
    have HW := Lib.hid HW
    go_enter Tryd.func42, Tryd.ntmps42
    go_wp2_with (fail)
    rw [← hW]
    clear hW
    refine HW.out.mono ?_
    rintro e w1 ⟨A, n, c, rfl, hnc, hT, hb⟩
    have hb1 : Hid (Below w.heap.size w w1) := hbW.out.trans (hb.mono hbW.out.size)
    obtain ⟨k4, f4, l4⟩ := (hZ.out.call hb).facts
    clear hT hb HW hbW hZ hnc
    go_wp2_with (fail)
    refine bodyPost_ret (v := .tuple #[.agg #[.int .i64 0, .int .i64 0, .int .i64 0, .bool false, .string ⟨#[]⟩, .int .i64 0], .int .i64 3]) (by simp [results, Tryd.results42, go_sem, k4, l4]) rfl ⟨hP.out _ rfl, ?_⟩
    exact Below.alloc (below_six' hb1.out _ _ _ _ _ _) (Below.size (below_six' hb1.out _ _ _ _ _ _)) _
  · rw [h0] at HW
    have h1' := Lib.hid h1
    have HW := Lib.hid HW
    clear h0 h1
    go_enter Tryd.func42, Tryd.ntmps42
    go_wp2_with (fail)
    rw [← hW]
    clear hW
    refine HW.out.mono ?_
    rintro e w1 ⟨A, n, c, rfl, hnc, hT, hb⟩
    have en : ((n : Int) == 6) = false := beq_eq_false_iff_ne.2 (by have := hT.len; have := h1'.out; omega)
    have hb1 : Hid (Below w.heap.size w w1) := hbW.out.trans (hb.mono hbW.out.size)
    obtain ⟨k4, f4, l4⟩ := (hZ.out.call hb).facts
    clear hT hb HW hbW hZ hnc
    go_wp2_with (fail)
    refine bodyPost_ret (v := .tuple #[.agg #[.int .i64 0, .int .i64 0, .int .i64 0, .bool false, .string ⟨#[]⟩, .int .i64 0], .int .i64 3]) (by simp [results, Tryd.results42, go_sem, k4, l4]) rfl ⟨hP.out _ rfl, ?_⟩
    exact Below.alloc (below_six' hb1.out _ _ _ _ _ _) (Below.size (below_six' hb1.out _ _ _ _ _ _)) _
theorem parse_calls (l : List UInt8) (w : World) (hl : l.length ≤ 1000000) (hv : EVars w) :
    Calls Tryd.prog 42 #[.string (str l)] w fun e w' => ParA l e ∧ Below w.heap.size w w' := by
  by_cases h0 : wdE l = 0
  · by_cases h6 : (wdL l).length = 6
    · exact parse_six l w hl hv h0 h6
    · exact parse_no l w hl hv (.inr h6)
  · exact parse_no l w hl hv (.inl h0)

/-! ### in plain words -/
theorem parseA_some {l : List UInt8} {x : AX} (h : parseA l = some x) : x.bad = 0 ∧ x.text = l := by
  unfold parseA at h
  split at h
  · rename_i hc
    injection h with h
    rw [← h]
    exact hc.2.2
  · cases h
theorem parseA_nil : parseA [] = none := by
  unfold parseA
  rw [if_neg]
  intro h
  exact absurd h.2.1 (by decide)
theorem parseA_text {x : AX} (h : x.bad = 0) : parseA x.text = some x := by
  obtain ⟨cl, sq, er, fd, vl, rv⟩ := x
  obtain ⟨hn, hvl⟩ := ansE_zero h
  obtain ⟨b1, b2, b3, b4, b5, b6, b7, b8⟩ := numsB_bounds hn
  simp only at b1 b2 b3 b4 b5 b6 b7 b8
  have hw : words (AX.text ⟨cl, sq, er, fd, vl, rv⟩) = some (ansW cl.toNat sq.toNat er.toNat fd vl rv.toNat) := by
    refine words_join _ (fun t ht => ?_)
    simp only [ansW, List.mem_cons, List.not_mem_nil, or_false] at ht
    rcases ht with rfl | rfl | rfl | rfl | rfl | rfl
    · exact dd_word _
    · exact dd_word _
    · exact dd_word _
    · exact dd_word _
    · exact yn_word _
    · exact quote_word _
  obtain ⟨h1, h2⟩ := wd_some hw
  have hr : readA (ansW cl.toNat sq.toNat er.toNat fd vl rv.toNat) = ⟨cl, sq, er, fd, vl, rv⟩ := by
    have hu : uqT (quote vl) = vl := (uq_some (unquote_quote vl)).1
    have hf : decide (yn fd = [121, 101, 115]) = fd := by cases fd <;> decide
    show (⟨atoiZ (Lib.decDigits cl.toNat), atoiZ (Lib.decDigits sq.toNat), atoiZ (Lib.decDigits er.toNat), decide (yn fd = [121, 101, 115]), uqT (quote vl), atoiZ (Lib.decDigits rv.toNat)⟩ : AX) = _
    rw [hu, hf, atoiZ_dd (by omega), atoiZ_dd (by omega), atoiZ_dd (by omega), atoiZ_dd (by omega), Int.toNat_of_nonneg (by omega), Int.toNat_of_nonneg (by omega), Int.toNat_of_nonneg (by omega), Int.toNat_of_nonneg (by omega)]
  unfold parseA
  rw [h1, hr, if_pos ⟨h2, rfl, h, rfl⟩]
theorem AX.text_ne (x : AX) : x.text ≠ [] := by
  unfold AX.text ansT ansW
  rw [join_two]
  intro h
  have := congrArg List.length h
  simp at this
end Go.Proofs.YtdgbpmbknlhgmaaDoor
