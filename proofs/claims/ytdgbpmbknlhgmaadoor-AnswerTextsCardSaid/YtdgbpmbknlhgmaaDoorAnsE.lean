/-
The walks through answer.Encode, answer.Decode.
-/
import Derived.Test.YtdgbpmbknlhgmaaDoorAnsD
set_option linter.unusedVariables false
set_option linter.unusedSimpArgs false
namespace Go.Proofs.YtdgbpmbknlhgmaaDoor
open Go.RowKit Qt Vm

/-- why an answer has no bytes in a version; 0: it has. -/
def encE (v : Int) (cl sq er : Int) (vl : List UInt8) (rv : Int) : Int :=
  if v = 1 ∨ v = 2 then (if ansE cl sq er vl rv = 0 then (if v = 1 ∧ rv ≠ 0 then 8 else 0) else ansE cl sq er vl rv) else 8
theorem ret_enc {a b : Int} (h : a = b) : Ending.returned (Value.tuple #[.slice none 0 0, .int .i64 a]) = Ending.returned (Value.tuple #[.slice none 0 0, .int .i64 b]) := by rw [h]
theorem numsB_bounds {cl sq er rv : Int} (h : numsB cl sq er rv = true) : 1 ≤ cl ∧ cl ≤ 8 ∧ 1 ≤ sq ∧ sq ≤ 4294967296 ∧ 0 ≤ er ∧ er ≤ 17 ∧ 0 ≤ rv ∧ rv ≤ 4294967296 := of_decide_eq_true h
theorem isVal_len {l : List UInt8} (h : isVal l = true) : l.length ≤ 48 := by
  unfold isVal at h
  by_cases h1 : l.length ≤ 48
  · exact h1
  · rw [decide_eq_false h1] at h; cases h

set_option maxHeartbeats 2000000 in
set_option maxRecDepth 100000 in
theorem encode_no (v : Int) (cl sq er : Int) (fd : Bool) (vl : List UInt8) (rv : Int) (w : World) (hs : vl.length ≤ 1000000) (hv : QVars w) (h : encE v cl sq er vl rv ≠ 0) :
    Calls Tryd.prog 33 #[.int .i64 v, .agg #[.int .i64 cl, .int .i64 sq, .int .i64 er, .bool fd, .string (str vl), .int .i64 rv]] w fun e w' => e = .returned (.tuple #[.slice none 0 0, .int .i64 (encE v cl sq er vl rv)]) ∧ Below w.heap.size w w' := by
  have HM := Lib.hid (may_calls v)
  have HC := Lib.hid (anscheck_calls cl sq er fd vl rv (w.alloc (.cells #[.int .i64 cl, .int .i64 sq, .int .i64 er, .bool fd, .string (str vl), .int .i64 rv] 38)) hs (hv.alloc _))
  clear hv
  by_cases h1 : v = 1 ∨ v = 2
  · have HM : Hid (∀ w, Calls Tryd.prog 54 #[.int .i64 v] w fun e w' => e = .returned (.bool true) ∧ w = w') := by
      have := HM.out
      rw [decide_eq_true h1] at this
      exact this
    by_cases h2 : ansE cl sq er vl rv = 0
    · have h3 : v = 1 ∧ rv ≠ 0 := by
        by_cases h3 : v = 1 ∧ rv ≠ 0
        · exact h3
        · unfold encE at h; rw [if_pos h1, if_pos h2, if_neg h3] at h; exact absurd rfl h
      have hf : Hid (encE v cl sq er vl rv = 8) := by show _ = _; unfold encE; rw [if_pos h1, if_pos h2, if_pos h3]
      rw [h2] at HC
      have t2 : (rv == 0) = false := beq_eq_false_iff_ne.2 h3.2
      obtain rfl := h3.1
      clear h h1 h2 h3
      go_enter Tryd.func33, Tryd.ntmps33
      go_wp2_with (fail)
      refine (HM.out _).mono ?_
      rintro e w1 ⟨rfl, rfl⟩
      go_wp2_with (fail)
      refine HC.out.mono ?_
      rintro e w1 ⟨rfl, hb⟩
      obtain ⟨kc, kf, hlt⟩ := ((Blk.new w 38 #[.int .i64 cl, .int .i64 sq, .int .i64 er, .bool fd, .string (str vl), .int .i64 rv]).call hb).facts
      have hb' : Hid (Below w.heap.size w w1) := ((Below.refl _ _).alloc (Nat.le_refl _) _).trans (hb.mono (by simp))
      clear hb HC
      go_wp2_with (fail)
      go_ret2
      exact ⟨ret_enc hf.out.symm, hb'.out⟩
    · have hf : Hid (encE v cl sq er vl rv = ansE cl sq er vl rv) := by show _ = _; unfold encE; rw [if_pos h1, if_neg h2]
      have t1 : (ansE cl sq er vl rv == 0) = false := beq_eq_false_iff_ne.2 h2
      clear h h1 h2
      generalize ansE cl sq er vl rv = ae at *
      go_enter Tryd.func33, Tryd.ntmps33
      go_wp2_with (fail)
      refine (HM.out _).mono ?_
      rintro e w1 ⟨rfl, rfl⟩
      go_wp2_with (fail)
      refine HC.out.mono ?_
      rintro e w1 ⟨rfl, hb⟩
      have hb' : Hid (Below w.heap.size w w1) := ((Below.refl _ _).alloc (Nat.le_refl _) _).trans (hb.mono (by simp))
      clear hb HC
      go_wp2_with (fail)
      go_ret2
      exact ⟨ret_enc hf.out.symm, hb'.out⟩
  · have HM : Hid (∀ w, Calls Tryd.prog 54 #[.int .i64 v] w fun e w' => e = .returned (.bool false) ∧ w = w') := by
      have := HM.out
      rw [decide_eq_false h1] at this
      exact this
    have hf : Hid (encE v cl sq er vl rv = 8) := by show _ = _; unfold encE; rw [if_neg h1]
    clear h h1 HC
    go_enter Tryd.func33, Tryd.ntmps33
    go_wp2_with (fail)
    refine (HM.out _).mono ?_
    rintro e w1 ⟨rfl, rfl⟩
    go_wp2_with (fail)
    go_ret2
    exact ⟨ret_enc hf.out.symm, (Below.refl _ _).alloc (Nat.le_refl _) _⟩

theorem encE_ok {v : Int} {cl sq er : Int} {vl : List UInt8} {rv : Int} (h : encE v cl sq er vl rv = 0) : (v = 1 ∨ v = 2) ∧ ansE cl sq er vl rv = 0 ∧ (v = 1 → rv = 0) := by
  unfold encE at h
  by_cases h1 : v = 1 ∨ v = 2
  · rw [if_pos h1] at h
    by_cases h2 : ansE cl sq er vl rv = 0
    · rw [if_pos h2] at h
      refine ⟨h1, h2, fun hv => ?_⟩
      by_cases h3 : rv = 0
      · exact h3
      · rw [if_pos ⟨hv, h3⟩] at h; exact absurd h (by decide)
    · rw [if_neg h2] at h; exact absurd h h2
  · rw [if_neg h1] at h; exact absurd h (by decide)

set_option maxHeartbeats 2000000 in
set_option maxRecDepth 100000 in
theorem encode_ok (v : Int) (cl sq er : Int) (fd : Bool) (vl : List UInt8) (rv : Int) (w : World) (hv : QVars w) (h : encE v cl sq er vl rv = 0) :
    Calls Tryd.prog 33 #[.int .i64 v, .agg #[.int .i64 cl, .int .i64 sq, .int .i64 er, .bool fd, .string (str vl), .int .i64 rv]] w fun e w' => ∃ B k d, e = .returned (.tuple #[.slice B k d, .int .i64 0]) ∧ w'.ownsRow w.heap.size 5 1 (.slice B k d) k (Lib.byteCells (bytesOf (ansF v cl sq er fd vl rv))) ∧ Below w.heap.size w w' := by
  obtain ⟨h1, h2, h3⟩ := encE_ok h
  obtain ⟨hn, hvl⟩ := ansE_zero h2
  obtain ⟨b1, b2, b3, b4, b5, b6, b7, b8⟩ := numsB_bounds hn
  have hlen := isVal_len hvl
  have hsz : (bytesOf (ansF v cl sq er fd vl rv)).length ≤ 1000000 := by
    have l1 := vb_len9 (n := cl.toNat) (by omega)
    have l2 := vb_len9 (n := sq.toNat) (by omega)
    have l3 := vb_len9 (n := er.toNat) (by omega)
    have l4 := vb_len9 (n := vl.length) (by omega)
    have l5 := vb_len9 (n := rv.toNat) (by omega)
    have e1 : (Fv.flag fd).bytes.length = 1 := rfl
    have e2 : (Fv.txt vl).bytes.length = (vb vl.length).length + vl.length := by simp [Fv.bytes]
    by_cases hv1 : v = 1
    · subst hv1; rw [ansF_one]; simp only [List.length_append]; omega
    · rw [ansF_two hv1]; simp only [List.length_append]; omega
  have HM : Hid (∀ w, Calls Tryd.prog 54 #[.int .i64 v] w fun e w' => e = .returned (.bool true) ∧ w = w') := by
    have := may_calls v
    rw [decide_eq_true h1] at this
    exact this
  have HC := anscheck_calls cl sq er fd vl rv (w.alloc (.cells #[.int .i64 cl, .int .i64 sq, .int .i64 er, .bool fd, .string (str vl), .int .i64 rv] 38)) (by omega) (hv.alloc _)
  rw [h2] at HC
  have HC := Lib.hid HC
  have HP := Lib.hid (fun g (w1 : World) (hw : WrAt w1 g []) => ansput_calls g v cl sq er fd vl rv w1 hw (by omega) (by omega) (by omega) (by omega) (by omega))
  have HB := Lib.hid (fun g (w1 : World) (hw : WrAt w1 g (bytesOf (ansF v cl sq er fd vl rv))) => wbytes_calls g _ w1 hsz hw)
  have hcase : (v == 1) = false ∨ ((v == 1) = true ∧ (rv == 0) = true) := by
    by_cases hv1 : v = 1
    · exact .inr ⟨beq_iff_eq.2 hv1, beq_iff_eq.2 (h3 hv1)⟩
    · exact .inl (beq_eq_false_iff_ne.2 hv1)
  have hz : rv = 0 ∨ rv ≠ 0 := Classical.em _
  clear hv h h1 h2 h3 hn hvl b1 b2 b3 b4 b5 b6 b7 b8 hz
  generalize bytesOf (ansF v cl sq er fd vl rv) = bs at *
  rcases hcase with hv1 | ⟨hv1, hr0⟩
  all_goals
    go_enter Tryd.func33, Tryd.ntmps33
    go_wp2_with (fail)
    refine (HM.out _).mono ?_
    rintro e w1 ⟨rfl, rfl⟩
    go_wp2_with (fail)
    refine HC.out.mono ?_
    rintro e w1 ⟨rfl, hb⟩
    have hB1 := (Blk.new w 38 #[.int .i64 cl, .int .i64 sq, .int .i64 er, .bool fd, .string (str vl), .int .i64 rv]).call hb
    have hlt1 : w.heap.size < w1.heap.size := by have := hb.size; simp at this; omega
    obtain ⟨kc, kf, hlt⟩ := hB1.facts
    have hb' : Hid (Below w.heap.size w w1) := ((Below.refl _ _).alloc (Nat.le_refl _) _).trans (hb.mono (by simp))
    clear hb hB1
    go_wp2_with (fail)
    refine (HP.out _ _ (WrAt.new w1)).mono ?_
    rintro e w2 ⟨rfl, hw2, hg2⟩
    have hb2 : Hid (Below w.heap.size w w2) := hb'.out.trans (below_of_only (only_trans (only_of_below ((Below.refl _ _).alloc (Nat.le_refl _) _) _) hg2) hb'.out.size hb'.out.size)
    have hw2' := Lib.hid hw2
    clear hw2 hg2 kc kf hlt
    go_wp2_with (fail)
    refine (HB.out _ _ hw2'.out).mono ?_
    rintro e w3 ⟨B, k, d, rfl, ho, hb3⟩
    have ho' := Lib.hid (own_mono ho hb2.out.size)
    have hb3' := Lib.hid (hb2.out.trans (hb3.mono hb2.out.size))
    clear ho hb3
    go_wp2_with (fail)
    go_ret2
    exact ⟨B, k, d, rfl, ho'.out, hb3'.out⟩
end Go.Proofs.YtdgbpmbknlhgmaaDoor
