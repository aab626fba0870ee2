/-
The walk through the law AnswerDecodes.
-/
import Derived.Test.YtdgbpmbknlhgmaaDoorAnsG
import Derived.Laws.StructEq
set_option linter.unusedVariables false
set_option linter.unusedSimpArgs false
namespace Go.Proofs.YtdgbpmbknlhgmaaDoor
open Go.RowKit Qt Vm

/-! ### plain -/
theorem cut_step {l : List UInt8} {q k : Nat} {f : Fk} {v : Fv} (h : f.read 1048576 (l.drop q) = some (v, k)) : l.drop q = v.bytes ++ l.drop (q + k) := by
  obtain ⟨_, _, _, h4, _, _⟩ := read_some h
  rw [← h4, ← List.drop_drop, List.take_append_drop]
theorem got_bytes {v : Int} {l : List UInt8} {cl sq er : Nat} {fd : Bool} {vl : List UInt8} {rv : Nat} (h : AnsGot v l (some 0) cl sq er fd vl rv (some l.length)) : bytesOf (ansF v cl sq er fd vl rv) = l := by
  obtain ⟨s1, s2, s3, s4, s5, a1, b1, a2, b2, a3, b3, a4, b4, a5, b5, h6⟩ := h
  have hfin : ∀ s5' : Nat, s5 = some s5' → l = ((((vb cl ++ vb sq) ++ vb er) ++ (Fv.flag fd).bytes) ++ (Fv.txt vl).bytes) ++ l.drop s5' := by
    intro q5 h5
    rw [h5] at b5
    obtain ⟨q4, k5, t5, e4, r5, hq5, v5⟩ := txt_next b5.symm
    rw [e4] at b4
    obtain ⟨q3, f4, e3, r4, hq4, v4⟩ := flg_next b4.symm
    rw [e3] at b3
    obtain ⟨q2, k3, n3, e2, r3, hq3, v3⟩ := num_next b3.symm
    rw [e2] at b2
    obtain ⟨q1, k2, n2, e1, r2, hq2, v2⟩ := num_next b2.symm
    rw [e1] at b1
    obtain ⟨q0, k1, n1, e0, r1, hq1, v1⟩ := num_next b1.symm
    injection e0 with e0
    have c1 := cut_step r1
    have c2 := cut_step r2
    have c3 := cut_step r3
    have c4 := cut_step r4
    have c5 := cut_step r5
    rw [← hq1] at c1
    rw [← hq2] at c2
    rw [← hq3] at c3
    rw [← hq4] at c4
    rw [← hq5] at c5
    rw [← e0, List.drop_zero] at c1
    rw [a5, v5, a4, v4, a3, v3, a2, v2, a1, v1]
    conv => lhs; rw [c1, c2, c3, c4, c5]
    simp [Fv.bytes]
  rcases h6 with ⟨hv, hr, hs⟩ | ⟨hv, hr, hs⟩
  · subst hv
    have := hfin l.length hs.symm
    rw [List.drop_length, List.append_nil] at this
    rw [ansF_one, Int.toNat_natCast, Int.toNat_natCast, Int.toNat_natCast]
    exact this.symm
  · obtain ⟨q5, k6, n6, e5, r6, hq6, v6⟩ := num_next hs.symm
    have h5 := hfin q5 e5
    have c6 := cut_step r6
    rw [← hq6, List.drop_length, List.append_nil] at c6
    rw [ansF_two hv, Int.toNat_natCast, Int.toNat_natCast, Int.toNat_natCast, Int.toNat_natCast]
    rw [c6] at h5
    rw [hr, v6]
    exact h5.symm
theorem got_of {v : Int} {cl sq er : Nat} {fd : Bool} {vl : List UInt8} {rv : Nat} (h1 : cl < 9223372036854775808) (h2 : sq < 9223372036854775808) (h3 : er < 9223372036854775808) (h4 : vl.length ≤ 90000) (h5 : rv < 9223372036854775808) (h6 : v = 1 → rv = 0) :
    AnsGot v (bytesOf (ansF v cl sq er fd vl rv)) (some 0) cl sq er fd vl rv (some (bytesOf (ansF v cl sq er fd vl rv)).length) := by
  obtain ⟨t, ht, hv⟩ : ∃ t, bytesOf (ansF v cl sq er fd vl rv) = vb cl ++ (vb sq ++ (vb er ++ ((Fv.flag fd).bytes ++ ((Fv.txt vl).bytes ++ t)))) ∧ ((v = 1 ∧ t = []) ∨ (v ≠ 1 ∧ t = vb rv)) := by
    by_cases hv : v = 1
    · subst hv
      refine ⟨[], ?_, .inl ⟨rfl, rfl⟩⟩
      rw [ansF_one, Int.toNat_natCast, Int.toNat_natCast, Int.toNat_natCast]; simp
    · refine ⟨vb rv, ?_, .inr ⟨hv, rfl⟩⟩
      rw [ansF_two hv, Int.toNat_natCast, Int.toNat_natCast, Int.toNat_natCast, Int.toNat_natCast]; simp
  rw [ht]
  generalize hl : vb cl ++ (vb sq ++ (vb er ++ ((Fv.flag fd).bytes ++ ((Fv.txt vl).bytes ++ t)))) = l
  have d0 : l.drop 0 = vb cl ++ (vb sq ++ (vb er ++ ((Fv.flag fd).bytes ++ ((Fv.txt vl).bytes ++ t)))) := by rw [List.drop_zero, hl]
  have step : ∀ {q : Nat} {a b : List UInt8}, l.drop q = a ++ b → l.drop (q + a.length) = b := fun {q a b} h => by rw [← List.drop_drop, h, List.drop_left]
  obtain ⟨g1, v1⟩ := num_goes d0 h1
  have d1 := step d0
  obtain ⟨g2, v2⟩ := num_goes d1 h2
  have d2 := step d1
  obtain ⟨g3, v3⟩ := num_goes d2 h3
  have d3 := step d2
  obtain ⟨g4, v4⟩ := flg_goes d3
  have d4 := step d3
  obtain ⟨g5, v5⟩ := txt_goes d4 h4
  have d5 := step d4
  have hlen : l.length = 0 + (vb cl).length + (vb sq).length + (vb er).length + (Fv.flag fd).bytes.length + (Fv.txt vl).bytes.length + t.length := by
    rw [← hl]; simp only [List.length_append]; omega
  refine ⟨_, _, _, _, _, v1.symm, g1.symm, v2.symm, g2.symm, v3.symm, g3.symm, v4.symm, g4.symm, v5.symm, g5.symm, ?_⟩
  rcases hv with ⟨hv, rfl⟩ | ⟨hv, rfl⟩
  · exact .inl ⟨hv, h6 hv, by rw [hlen]; simp⟩
  · have d5' := d5
    rw [← List.append_nil (vb rv)] at d5'
    obtain ⟨g6, v6⟩ := num_goes d5' h5
    exact .inr ⟨hv, v6.symm, by rw [g6, hlen]⟩

/-! ### the example -/
theorem isVal_v : isVal [118] = true := by
  have h0 : ([118] : List UInt8) ≠ [] := List.cons_ne_nil _ _
  unfold isVal clean
  rw [badI_step 0 h0 (by decide), show (dec [118]).2 = 1 by decide, show ([118] : List UInt8).drop 1 = [] from rfl, badI_nil]; decide
theorem exA : str (ansT 1 2 0 true [118] 3) = ⟨#[49, 32, 50, 32, 48, 32, 51, 32, 121, 101, 115, 32, 34, 118, 34]⟩ := by
  unfold ansT ansW
  rw [dd_small (by omega : 1 < 10), dd_small (by omega : 2 < 10), dd_small (by omega : 0 < 10), dd_small (by omega : 3 < 10)]
  have hq : quote [118] = [34, 118, 34] := by
    unfold quote
    rw [body_step _ (List.cons_ne_nil _ _), show piece [118] = [118] by decide, show (dec [118]).2 = 1 by decide, show ([118] : List UInt8).drop 1 = [] from rfl, body_nil]; rfl
  rw [hq]; rfl
set_option maxHeartbeats 1000000 in
theorem awakeA_calls (w : World) (hv : AVars w) :
    Calls Tryd.prog 21 #[] w fun e w' => e = .returned (.bool true) ∧ Below w.heap.size w w' := by
  have H0 : Calls Tryd.prog 43 #[.agg #[.int .i64 1, .int .i64 2, .int .i64 0, .bool true, .string ⟨#[118]⟩, .int .i64 3]] w fun e w' => e = .returned (.string (str (ansT 1 2 0 true [118] 3))) ∧ Below w.heap.size w w' :=
    anstext_ok 1 2 0 true [118] 3 w hv (ansE_val (by decide) isVal_v)
  rw [exA] at H0
  have H := Lib.hid H0
  clear hv H0
  go_enter Tryd.func21, Tryd.ntmps21
  go_wp2_with (fail)
  refine H.out.mono ?_
  rintro e w1 ⟨rfl, hb1⟩
  go_wp2_with (fail)
  go_ret
  exact ⟨rfl, hb1⟩

set_option maxHeartbeats 4000000 in
set_option maxRecDepth 100000 in
theorem lawDecodes_calls (v : Int) (A : Option Addr) (n c : Nat) (l : List UInt8) (w : World) (hv : AVars w) (hn : n ≤ 140737488351232) (h : BAt w A n l) :
    Calls Tryd.prog 7 #[.int .i64 v, .slice A n c] w fun e w' => e = .returned (.bool true) ∧ Below w.heap.size w w' := by
  have hv' := Lib.hid hv
  have h' := Lib.hid h
  have hln := h.len
  clear hv h
  by_cases h5 : 500 < n
  · go_enter Tryd.func7, Tryd.ntmps7
    go_wp2_with (fail)
    refine (awakeA_calls _ hv'.out).mono ?_
    rintro e w1 ⟨rfl, hb1⟩
    go_wp2
    go_ret
    exact ⟨rfl, hb1⟩
  by_cases hvv : v = 1 ∨ v = 2
  · have H := Lib.hid (decode_calls v A n c l w hvv (by omega) h'.out hv'.out.q)
    have g1 : decide (v < 1) = false := decide_eq_false (by omega)
    have g2 : decide (2 < v) = false := decide_eq_false (by omega)
    have hvv' := Lib.hid hvv
    clear hvv
    go_enter Tryd.func7, Tryd.ntmps7
    go_wp2_with (fail)
    refine H.out.mono ?_
    rintro e w1 ⟨⟨cl, sq, er, fd, vl, rv, st, hgot, hcase⟩, hb1⟩
    have hb1' := Lib.hid hb1
    rcases hcase with ⟨rfl, hE, rfl⟩ | ⟨hno, x, hx, rfl⟩
    · obtain ⟨hnm, hvl⟩ := ansE_zero hE
      obtain ⟨b1, b2, b3, b4, b5, b6, b7, b8⟩ := numsB_bounds hnm
      have hlen := isVal_len hvl
      have hbs := got_bytes hgot
      have hb2 : Hid (Below w.heap.size w (w1.alloc (.cells #[.int .i64 (cl : Int), .int .i64 (sq : Int), .int .i64 (er : Int), .bool fd, .string (str vl), .int .i64 (rv : Int)] 38))) := hb1.alloc hb1.size _
      have HC := refans_calls cl sq er fd vl rv (w1.alloc (.cells #[.int .i64 (cl : Int), .int .i64 (sq : Int), .int .i64 (er : Int), .bool fd, .string (str vl), .int .i64 (rv : Int)] 38)) (by omega)
      rw [hE] at HC
      have HB := fun w2 => refansbytes_calls v cl sq er fd vl rv w2 hvv'.out (by omega) (by omega) (by omega) (by omega) (by omega)
      rw [hbs] at HB
      have HC := Lib.hid HC
      have HB := Lib.hid HB
      have hB := Lib.hid (Blk.new w1 38 #[.int .i64 (cl : Int), .int .i64 (sq : Int), .int .i64 (er : Int), .bool fd, .string (str vl), .int .i64 (rv : Int)])
      clear hgot hE hnm hvl b1 b2 b3 b4 b5 b6 b7 b8 hb1 H hbs hb1'
      go_wp2_with (fail)
      refine HC.out.mono ?_
      rintro e w2 ⟨rfl, hb⟩
      have hB2 := hB.out.call hb
      obtain ⟨kc, kf, hlt⟩ := hB2.facts
      have hb3 : Hid (Below w.heap.size w w2) := hb2.out.trans (hb.mono hb2.out.size)
      clear hb hB2 HC
      go_wp2_with (fail)
      refine (HB.out _).mono ?_
      rintro e w3 ⟨B, k, d, rfl, ho, hb⟩
      have hb4 : Hid (Below w.heap.size w w3) := hb3.out.trans (hb.mono hb3.out.size)
      have hk := (BAt.own ho).len
      have HS := same_calls B k d l A n c l w3 (by omega) (by omega) (BAt.own ho) (h'.out.below hb4.out)
      rw [decide_eq_true rfl] at HS
      have HS := Lib.hid HS
      clear ho hb hk kc kf hlt HB
      go_wp2_with (fail)
      refine HS.out.mono ?_
      rintro e w4 ⟨rfl, hb⟩
      have hb5 : Hid (Below w.heap.size w w4) := hb4.out.trans (hb.mono hb4.out.size)
      clear hb HS
      go_wp2_with (fail)
      refine (awakeA_calls _ (hv'.out.below hb5.out)).mono ?_
      rintro e w5 ⟨rfl, hb⟩
      go_wp2_with (fail)
      go_ret
      exact ⟨rfl, hb5.out.trans (hb.mono hb5.out.size)⟩
    · have hx0 : (x == 0) = false := beq_eq_false_iff_ne.2 hx
      have hb2 : Hid (Below w.heap.size w (w1.alloc (.cells #[.int .i64 0, .int .i64 0, .int .i64 0, .bool false, .string ⟨#[]⟩, .int .i64 0] 38))) := hb1.alloc hb1.size _
      clear hgot hno hx hb1 H
      go_wp2_with (fail)
      refine (awakeA_calls _ (hv'.out.below hb2.out)).mono ?_
      rintro e w5 ⟨rfl, hb⟩
      have hb' := Lib.hid (hb2.out.trans (hb.mono hb2.out.size))
      clear hb
      go_wp2_with (fail)
      go_ret
      exact ⟨rfl, hb'.out⟩
  · have H := Lib.hid (decode_v v A n c w hvv)
    have hcase : v < 1 ∨ (1 ≤ v ∧ 2 < v) := by omega
    clear hvv
    rcases hcase with hc | ⟨hc1, hc⟩
    all_goals
      go_enter Tryd.func7, Tryd.ntmps7
      go_wp2_with (fail)
      refine H.out.mono ?_
      rintro e w1 ⟨rfl, hb1⟩
      have hb2 : Hid (Below w.heap.size w (w1.alloc (.cells #[.int .i64 0, .int .i64 0, .int .i64 0, .bool false, .string ⟨#[]⟩, .int .i64 0] 38))) := hb1.alloc hb1.size _
      clear hb1 H
      go_wp2_with (fail)
      refine (awakeA_calls _ (hv'.out.below hb2.out)).mono ?_
      rintro e w5 ⟨rfl, hb⟩
      have hb' := Lib.hid (hb2.out.trans (hb.mono hb2.out.size))
      clear hb
      go_wp2_with (fail)
      go_ret
      exact ⟨rfl, hb'.out⟩
end Go.Proofs.YtdgbpmbknlhgmaaDoor
