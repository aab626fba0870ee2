/-
The walk through the law AnswerEncodes.
-/
import Derived.Test.YtdgbpmbknlhgmaaDoorLawA
import Derived.Deep.RegionHeld3
set_option linter.unusedVariables false
set_option linter.unusedSimpArgs false
namespace Go.Proofs.YtdgbpmbknlhgmaaDoor
open Go.RowKit Qt Vm

theorem ret_enc2 {a b : Int} (h : a = b) : Ending.returned (Value.tuple #[.slice none 0 0, .int .i64 a]) = Ending.returned (Value.tuple #[.slice none 0 0, .int .i64 b]) := by rw [h]

set_option maxHeartbeats 4000000 in
set_option maxRecDepth 100000 in
/-- where there are no bytes. -/
theorem lawEnc_no (v : Int) (cl sq er : Int) (fd : Bool) (vl : List UInt8) (rv : Int) (w : World) (hv : AVars w) (hs : vl.length ≤ 300) (h : encE v cl sq er vl rv ≠ 0) :
    Calls Tryd.prog 9 #[.int .i64 v, .agg #[.int .i64 cl, .int .i64 sq, .int .i64 er, .bool fd, .string (str vl), .int .i64 rv]] w fun e w' => e = .returned (.bool true) ∧ Below w.heap.size w w' := by
  have hv' := Lib.hid hv
  have hsz := str_size vl
  obtain ⟨W, hW⟩ : ∃ W, W = w.alloc (.cells #[.int .i64 cl, .int .i64 sq, .int .i64 er, .bool fd, .string (str vl), .int .i64 rv] 38) := ⟨_, rfl⟩
  have hbW : Hid (Below w.heap.size w W) := by subst hW; exact (Below.refl _ _).alloc (Nat.le_refl _) _
  have hB : Hid (Blk W w.heap.size 38 #[.int .i64 cl, .int .i64 sq, .int .i64 er, .bool fd, .string (str vl), .int .i64 rv]) := by subst hW; exact Blk.new _ _ _
  have H1 := Lib.hid (refans_calls cl sq er fd vl rv W (by omega))
  have H2 := Lib.hid (fun w1 (hq : QVars w1) => anscheck_calls cl sq er fd vl rv w1 (by omega) hq)
  have H3 := Lib.hid (fun w1 (hq : QVars w1) => encode_no v cl sq er fd vl rv w1 (by omega) hq h)
  have hcase : ((v < 1 ∨ (1 ≤ v ∧ 2 < v)) ∧ encE v cl sq er vl rv = 8) ∨ (v = 1 ∧ ansE cl sq er vl rv = 0 ∧ rv ≠ 0 ∧ encE v cl sq er vl rv = 8) ∨ ((v = 1 ∨ v = 2) ∧ ansE cl sq er vl rv ≠ 0 ∧ encE v cl sq er vl rv = ansE cl sq er vl rv) := by
    unfold encE at h ⊢
    by_cases h1 : v = 1 ∨ v = 2
    · rw [if_pos h1] at h ⊢
      by_cases h2 : ansE cl sq er vl rv = 0
      · rw [if_pos h2] at h ⊢
        by_cases h3 : v = 1 ∧ rv ≠ 0
        · exact .inr (.inl ⟨h3.1, h2, h3.2, if_pos h3⟩)
        · rw [if_neg h3] at h; exact absurd rfl h
      · rw [if_neg h2]; exact .inr (.inr ⟨h1, h2, rfl⟩)
    · rw [if_neg h1]; exact .inl ⟨by omega, rfl⟩
  clear hv h
  obtain ⟨ae, hae⟩ : ∃ ae, Hid (ansE cl sq er vl rv = ae) := ⟨_, rfl⟩
  obtain ⟨ee, hee⟩ : ∃ ee, Hid (encE v cl sq er vl rv = ee) := ⟨_, rfl⟩
  rw [hae.out] at H1 H2
  rw [hee.out] at H3
  have hcase2 : ((decide (v < 1) = true) ∧ ee = 8) ∨ ((decide (v < 1) = false) ∧ (decide (2 < v) = true) ∧ ee = 8) ∨ (v = 1 ∧ ae = 0 ∧ (rv == 0) = false ∧ ee = 8) ∨ (v = 1 ∧ (ae == 0) = false ∧ ee = ae) ∨ (v = 2 ∧ (ae == 0) = false ∧ ee = ae) := by
    rw [hae.out, hee.out] at hcase
    rcases hcase with ⟨h1 | ⟨h1, h2⟩, h3⟩ | ⟨h1, h2, h3, h4⟩ | ⟨h1 | h1, h2, h3⟩
    · exact .inl ⟨decide_eq_true h1, h3⟩
    · exact .inr (.inl ⟨decide_eq_false (by omega), decide_eq_true h2, h3⟩)
    · exact .inr (.inr (.inl ⟨h1, h2, beq_eq_false_iff_ne.2 h3, h4⟩))
    · exact .inr (.inr (.inr (.inl ⟨h1, beq_eq_false_iff_ne.2 h2, h3⟩)))
    · exact .inr (.inr (.inr (.inr ⟨h1, beq_eq_false_iff_ne.2 h2, h3⟩)))
  clear hcase
  rcases hcase2 with ⟨d1, rfl⟩ | ⟨d1, d2, rfl⟩ | ⟨rfl, rfl, d1, rfl⟩ | ⟨rfl, d1, rfl⟩ | ⟨rfl, d1, rfl⟩
  all_goals
    clear hae hee
    go_enter Tryd.func9, Tryd.ntmps9
    go_wp2_with (fail)
    rw [← hW]
    refine H1.out.mono ?_
    rintro e w1 ⟨rfl, hb⟩
    have hb1 : Hid (Below w.heap.size w w1) := hbW.out.trans (hb.mono hbW.out.size)
    have hB1 := Lib.hid (hB.out.call hb)
    obtain ⟨kc, kf, hlt⟩ := hB1.out.facts
    clear hb hW hB H1
    go_wp2_with (fail)
    refine (H2.out _ (hv'.out.below hb1.out).q).mono ?_
    rintro e w2 ⟨rfl, hb⟩
    have hb2 : Hid (Below w.heap.size w w2) := hb1.out.trans (hb.mono hb1.out.size)
    have hB2 := Lib.hid (hB1.out.call hb)
    clear hb hB1 kc kf hlt H2
    obtain ⟨kc, kf, hlt⟩ := hB2.out.facts
    go_wp2_with (fail)
    refine (H3.out _ (hv'.out.below hb2.out).q).mono ?_
    rintro e w3 ⟨rfl, hb⟩
    have hb3 : Hid (Below w.heap.size w w3) := hb2.out.trans (hb.mono hb2.out.size)
    clear hb hB2 kc kf hlt H3
    go_wp2_with (fail)
    refine (awakeA_calls _ (hv'.out.below hb3.out)).mono ?_
    rintro e w4 ⟨rfl, hb⟩
    have hb4 : Hid (Below w.heap.size w w4) := hb3.out.trans (hb.mono hb3.out.size)
    clear hb
    go_wp2_with (fail)
    go_ret
    exact ⟨rfl, hb4.out⟩
theorem got_fun {v : Int} {l : List UInt8} {st : Option Nat} {cl sq er : Nat} {fd : Bool} {vl : List UInt8} {rv : Nat} {s : Option Nat} {cl' sq' er' : Nat} {fd' : Bool} {vl' : List UInt8} {rv' : Nat} {s' : Option Nat}
    (h : AnsGot v l st cl sq er fd vl rv s) (h' : AnsGot v l st cl' sq' er' fd' vl' rv' s') : cl' = cl ∧ sq' = sq ∧ er' = er ∧ fd' = fd ∧ vl' = vl ∧ rv' = rv ∧ s' = s := by
  obtain ⟨s1, s2, s3, s4, s5, rfl, rfl, rfl, rfl, rfl, rfl, rfl, rfl, rfl, rfl, h6⟩ := h
  obtain ⟨t1, t2, t3, t4, t5, rfl, rfl, rfl, rfl, rfl, rfl, rfl, rfl, rfl, rfl, h6'⟩ := h'
  rcases h6 with ⟨hv, rfl, rfl⟩ | ⟨hv, rfl, rfl⟩
  · rcases h6' with ⟨_, rfl, rfl⟩ | ⟨hv', _⟩
    · exact ⟨rfl, rfl, rfl, rfl, rfl, rfl, rfl⟩
    · exact absurd hv hv'
  · rcases h6' with ⟨hv', _⟩ | ⟨_, rfl, rfl⟩
    · exact absurd hv' hv
    · exact ⟨rfl, rfl, rfl, rfl, rfl, rfl, rfl⟩
theorem six_of {w : World} {b : Nat} {t : TypeId} {c0 c1 c2 c3 c4 c5 : Value} (h : Blk w b t #[c0, c1, c2, c3, c4, c5]) :
    w.cell? ⟨b, 0, none⟩ = some c0 ∧ w.cell? ⟨b, 1, none⟩ = some c1 ∧ w.cell? ⟨b, 2, none⟩ = some c2 ∧ w.cell? ⟨b, 3, none⟩ = some c3 ∧ w.cell? ⟨b, 4, none⟩ = some c4 ∧ w.cell? ⟨b, 5, none⟩ = some c5 :=
  ⟨h.cell 0, h.cell 1, h.cell 2, h.cell 3, h.cell 4, h.cell 5⟩

set_option maxHeartbeats 8000000 in
set_option maxRecDepth 100000 in
/-- where there are bytes. -/
theorem lawEnc_ok (v : Int) (cl sq er : Nat) (fd : Bool) (vl : List UInt8) (rv : Nat) (w : World) (hv : AVars w) (h : encE v cl sq er vl rv = 0) :
    Calls Tryd.prog 9 #[.int .i64 v, .agg #[.int .i64 (cl : Int), .int .i64 (sq : Int), .int .i64 (er : Int), .bool fd, .string (str vl), .int .i64 (rv : Int)]] w fun e w' => e = .returned (.bool true) ∧ Below w.heap.size w w' := by
  have hv' := Lib.hid hv
  obtain ⟨hv12, hE, hrv⟩ := encE_ok h
  obtain ⟨hnm, hvl⟩ := ansE_zero hE
  obtain ⟨b1, b2, b3, b4, b5, b6, b7, b8⟩ := numsB_bounds hnm
  have hlen := isVal_len hvl
  have hsz := str_size vl
  have hbl : (bytesOf (ansF v cl sq er fd vl rv)).length ≤ 90000 := by
    have l1 := vb_len9 (n := cl) (by omega)
    have l2 := vb_len9 (n := sq) (by omega)
    have l3 := vb_len9 (n := er) (by omega)
    have l4 := vb_len9 (n := vl.length) (by omega)
    have l5 := vb_len9 (n := rv) (by omega)
    have e1 : (Fv.flag fd).bytes.length = 1 := rfl
    have e2 : (Fv.txt vl).bytes.length = (vb vl.length).length + vl.length := by simp [Fv.bytes]
    by_cases hv1 : v = 1
    · subst hv1; rw [ansF_one]; simp only [List.length_append, Int.toNat_natCast]; omega
    · rw [ansF_two hv1]; simp only [List.length_append, Int.toNat_natCast]; omega
  have hgot := got_of (v := v) (cl := cl) (sq := sq) (er := er) (fd := fd) (vl := vl) (rv := rv) (by omega) (by omega) (by omega) (by omega) (by omega) (fun h1 => by have := hrv h1; omega)
  obtain ⟨W, hW⟩ : ∃ W, W = w.alloc (.cells #[.int .i64 (cl : Int), .int .i64 (sq : Int), .int .i64 (er : Int), .bool fd, .string (str vl), .int .i64 (rv : Int)] 38) := ⟨_, rfl⟩
  have hbW : Hid (Below w.heap.size w W) := by subst hW; exact (Below.refl _ _).alloc (Nat.le_refl _) _
  have hB : Hid (Blk W w.heap.size 38 #[.int .i64 (cl : Int), .int .i64 (sq : Int), .int .i64 (er : Int), .bool fd, .string (str vl), .int .i64 (rv : Int)]) := by subst hW; exact Blk.new _ _ _
  have H1 := refans_calls cl sq er fd vl rv W (by omega)
  rw [hE] at H1
  have H1 := Lib.hid H1
  have H2 := fun w1 (hq : QVars w1) => anscheck_calls cl sq er fd vl rv w1 (by omega) hq
  rw [hE] at H2
  have H2 := Lib.hid H2
  have H3 := Lib.hid (fun w1 (hq : QVars w1) => encode_ok v cl sq er fd vl rv w1 hq h)
  have HP := Lib.hid (fun g (w1 : World) (hw : WrAt w1 g []) => ansput_calls g v cl sq er fd vl rv w1 hw (by omega) (by omega) (by omega) (by omega) (by omega))
  have HR := fun w2 => refansbytes_calls v cl sq er fd vl rv w2 hv12 (by omega) (by omega) (by omega) (by omega) (by omega)
  have HR := Lib.hid HR
  obtain ⟨bs, hbs⟩ : ∃ bs, Hid (bytesOf (ansF v cl sq er fd vl rv) = bs) := ⟨_, rfl⟩
  have hP : Hid (∀ g (w1 : World), WrAt w1 g [] → Calls Tryd.prog 34 #[.pointer (some ⟨g, 0, none⟩), .int .i64 v, .agg #[.int .i64 (cl : Int), .int .i64 (sq : Int), .int .i64 (er : Int), .bool fd, .string (str vl), .int .i64 (rv : Int)]] w1 fun e w' => e = .returned (.tuple #[]) ∧ WrAt w' g bs ∧ w1.grownBy w' (some g)) := by
    rw [← hbs.out]; exact HP.out
  have hR : Hid (∀ w2, Calls Tryd.prog 25 #[.int .i64 v, .agg #[.int .i64 (cl : Int), .int .i64 (sq : Int), .int .i64 (er : Int), .bool fd, .string (str vl), .int .i64 (rv : Int)]] w2 fun e w' => ∃ B k d, e = .returned (.slice B k d) ∧ w'.ownsRow w2.heap.size 5 1 (.slice B k d) k (Lib.byteCells bs) ∧ Below w2.heap.size w2 w') := by
    rw [← hbs.out]; exact HR.out
  have h3 : Hid (∀ w1, QVars w1 → Calls Tryd.prog 33 #[.int .i64 v, .agg #[.int .i64 (cl : Int), .int .i64 (sq : Int), .int .i64 (er : Int), .bool fd, .string (str vl), .int .i64 (rv : Int)]] w1 fun e w' => ∃ B k d, e = .returned (.tuple #[.slice B k d, .int .i64 0]) ∧ w'.ownsRow w1.heap.size 5 1 (.slice B k d) k (Lib.byteCells bs) ∧ Below w1.heap.size w1 w') := by
    rw [← hbs.out]; exact H3.out
  rw [hbs.out] at hgot hbl
  have hG : Hid (∀ g (w1 : World), RdOk w1 g bs 0 → Calls Tryd.prog 35 #[.pointer (some ⟨g, 0, none⟩), .int .i64 v] w1 fun e w' => e = .returned (.agg #[.int .i64 (cl : Int), .int .i64 (sq : Int), .int .i64 (er : Int), .bool fd, .string (str vl), .int .i64 (rv : Int)]) ∧ w1.grownBy w' (some g)) := fun g w1 hk =>
    (ansget_calls g v bs (some 0) w1 (by omega) hk).mono fun e w' ⟨a1, a2, a3, a4, a5, a6, s', g1, g2, _, g4⟩ => by
      obtain ⟨rfl, rfl, rfl, rfl, rfl, rfl, rfl⟩ := got_fun hgot g1
      exact ⟨g2, g4⟩
  have hD : Hid (∀ A n c (w1 : World), n ≤ 90000 → BAt w1 A n bs → QVars w1 → Calls Tryd.prog 22 #[.int .i64 v, .slice A n c] w1 fun e w' => e = .returned (.tuple #[.agg #[.int .i64 (cl : Int), .int .i64 (sq : Int), .int .i64 (er : Int), .bool fd, .string (str vl), .int .i64 (rv : Int)], .int .i64 0]) ∧ Below w1.heap.size w1 w') := fun A n c w1 hn hk hq =>
    (decode_calls v A n c bs w1 hv12 hn hk hq).mono fun e w' ⟨⟨a1, a2, a3, a4, a5, a6, s', g1, g2⟩, g4⟩ => by
      obtain ⟨rfl, rfl, rfl, rfl, rfl, rfl, rfl⟩ := got_fun hgot g1
      rcases g2 with ⟨_, _, g2⟩ | ⟨g2, _⟩
      · exact ⟨g2, g4⟩
      · exact absurd ⟨rfl, hE⟩ g2
  have hcase : (v = 1 ∧ ((rv : Int) == 0) = true) ∨ v = 2 := by
    rcases hv12 with h1 | h1
    · exact .inl ⟨h1, beq_iff_eq.2 (hrv h1)⟩
    · exact .inr h1
  clear hv h hv12 hE hrv hnm hvl b1 b2 b3 b4 b5 b6 b7 b8 hgot HP HR H3 hbs
  rcases hcase with ⟨rfl, hr0⟩ | rfl
  all_goals
    go_enter Tryd.func9, Tryd.ntmps9
    go_wp2_with (fail)
    rw [← hW]
    refine H1.out.mono ?_
    rintro e w1 ⟨rfl, hb⟩
    have hb1 : Hid (Below w.heap.size w w1) := hbW.out.trans (hb.mono hbW.out.size)
    have hB1 := Lib.hid (hB.out.call hb)
    obtain ⟨kc, kf, hlt⟩ := hB1.out.facts
    clear hb hW hB H1
    go_wp2_with (fail)
    refine (H2.out _ (hv'.out.below hb1.out).q).mono ?_
    rintro e w2 ⟨rfl, hb⟩
    have hb2 : Hid (Below w.heap.size w w2) := hb1.out.trans (hb.mono hb1.out.size)
    have hB2 := Lib.hid (hB1.out.call hb)
    clear hb hB1 kc kf hlt H2
    obtain ⟨kc, kf, hlt⟩ := hB2.out.facts
    go_wp2_with (fail)
    refine (h3.out _ (hv'.out.below hb2.out).q).mono ?_
    rintro e w3 ⟨B, k, d, rfl, ho, hb⟩
    have hb3 : Hid (Below w.heap.size w w3) := hb2.out.trans (hb.mono hb2.out.size)
    have hB3 := Lib.hid (hB2.out.call hb)
    have hk := (BAt.own ho).len
    have hA3 := Lib.hid (BAt.own ho)
    have hlt3 : w.heap.size < w3.heap.size := hB3.out.lt
    have hkk : k ≤ 90000 := by omega
    clear hb ho hB2 kc kf hlt h3 hk
    obtain ⟨kc, kf, hlt⟩ := hB3.out.facts
    go_wp2_with (fail)
    refine (hP.out _ _ (WrAt.new w3)).mono ?_
    rintro e w4 ⟨rfl, hw4, hg4⟩
    have hx4 : Below w3.heap.size w3 w4 := below_of_only (only_trans (only_of_below ((Below.refl _ _).alloc (Nat.le_refl _) _) _) hg4) (Nat.le_refl _) (Nat.le_refl _)
    have hb4 : Hid (Below w.heap.size w w4) := hb3.out.trans (hx4.mono hb3.out.size)
    have hB4 := Lib.hid (hB3.out.call hx4)
    have hA4 := Lib.hid (hA3.out.below hx4)
    have hw4' := Lib.hid hw4
    clear hx4 hw4 hg4 hB3 hA3 kc kf hlt hP
    go_wp2_with (fail)
    have hbl' : bs.length ≤ 1000000 := by omega
    go_region_held3 (fun w' => w'.cell? ⟨w.heap.size, 0, none⟩ = some (.int .i64 (cl : Int)) ∧ w'.cell? ⟨w.heap.size, 1, none⟩ = some (.int .i64 (sq : Int)) ∧ w'.cell? ⟨w.heap.size, 2, none⟩ = some (.int .i64 (er : Int)) ∧ w'.cell? ⟨w.heap.size, 3, none⟩ = some (.bool fd) ∧ w'.cell? ⟨w.heap.size, 4, none⟩ = some (.string (str vl)) ∧ w'.cell? ⟨w.heap.size, 5, none⟩ = some (.int .i64 (rv : Int)))
      (first | exact six_of hB4.out | exact six_of hB4.out.drew | exact six_of hBx4.out | exact six_of hBx3.out | exact six_of hBx2.out | exact six_of hBx1.out)
      (first
        | (go_at_call 36; refine (newReader_calls B k d bs _ (by omega) (hA4.out.below (Below.drew (Below.refl _ _)))).mono ?_; rintro e x1 ⟨gr, rfl, hok, hgr, hx1⟩; have hBx1 := Lib.hid (hB4.out.drew.call hx1))
        | (go_at_call 35; refine (hG.out _ _ hok).mono ?_; rintro e x2 ⟨rfl, hgx2⟩; have hx2 := hx1.trans (below_of_only hgx2 hx1.size hgr); have hBx2 := Lib.hid (hB4.out.drew.call hx2))
        | (go_at_call 37; refine (wbytes_calls _ bs _ hbl' ((hw4'.out.below (Below.drew (Below.refl _ _))).below hx2)).mono ?_; rintro e x3 ⟨B', k', d', rfl, ho', hx3'⟩; have hx3 := hx2.trans (hx3'.mono hx2.size); have hBx3 := Lib.hid (hB4.out.drew.call hx3))
        | (go_at_call 24; refine (same_calls B' k' d' bs B k d bs _ (by have := (BAt.own ho').len; omega) (by omega) (BAt.own ho') ((hA4.out.below (Below.drew (Below.refl _ _))).below hx3)).mono ?_; rintro e x4 ⟨rfl, hx4'⟩; have hx4 := hx3.trans (hx4'.mono hx3.size); have hBx4 := Lib.hid (hB4.out.drew.call hx4)))
    have hA5 := Lib.hid ((hA4.out.below (Below.drew (Below.refl _ _))).below hx4)
    have hb5 : Hid (Below w.heap.size w x4) := hb4.out.trans ((Below.drew (Below.refl _ _)).trans (hx4.mono (Nat.le_refl _)) |>.mono hb4.out.size)
    have hB5 := hBx4
    clear hx1 hx2 hx3 hx3' hx4 hx4' ho' hgx2 hok hBx1 hBx2 hBx3 hBx4 hB4 hA4 hw4' hG hgr
    obtain ⟨kc, kf, hlt⟩ := hB5.out.facts
    go_wp2_with (fail)
    refine (hD.out B k d x4 hkk hA5.out (hv'.out.below hb5.out).q).mono ?_
    rintro e w6 ⟨rfl, hb⟩
    have hb6 : Hid (Below w.heap.size w w6) := hb5.out.trans (hb.mono hb5.out.size)
    have hB6 := Lib.hid (hB5.out.call hb)
    have hA6 := Lib.hid (hA5.out.below hb)
    clear hb hB5 hA5 kc kf hlt hD
    obtain ⟨X, hX⟩ : ∃ X, X = w6.alloc (.cells #[.int .i64 (cl : Int), .int .i64 (sq : Int), .int .i64 (er : Int), .bool fd, .string (str vl), .int .i64 (rv : Int)] 38) := ⟨_, rfl⟩
    have hbX : Below w6.heap.size w6 X := by subst hX; exact (Below.refl _ _).alloc (Nat.le_refl _) _
    have hB9 : Hid (Blk X w6.heap.size 38 #[.int .i64 (cl : Int), .int .i64 (sq : Int), .int .i64 (er : Int), .bool fd, .string (str vl), .int .i64 (rv : Int)]) := by subst hX; exact Blk.new _ _ _
    have hB7 := Lib.hid (hB6.out.call hbX)
    have hA7 := Lib.hid (hA6.out.below hbX)
    have hb7 : Hid (Below w.heap.size w X) := hb6.out.trans (hbX.mono hb6.out.size)
    obtain ⟨kc, kf, hlt⟩ := hB6.out.facts
    clear hbX
    go_wp2_with (fail)
    rw [← hX]
    refine (hR.out X).mono ?_
    rintro e w8 ⟨B8, k8, d8, rfl, ho, hb⟩
    have hb8 : Hid (Below w.heap.size w w8) := hb7.out.trans (hb.mono hb7.out.size)
    have hB8 := Lib.hid (hB7.out.call hb)
    have hB10 := Lib.hid (hB9.out.call hb)
    have hA8 := Lib.hid (hA7.out.below hb)
    have hk8 := (BAt.own ho).len
    have HS := same_calls B k d bs B8 k8 d8 bs w8 (by omega) (by omega) hA8.out (BAt.own ho)
    rw [decide_eq_true rfl] at HS
    have HS := Lib.hid HS
    clear ho hb hB6 hB7 hB9 hA6 hA7 hk8 kc kf hlt hR hX
    go_wp2_with (fail)
    refine HS.out.mono ?_
    rintro e w9 ⟨rfl, hb⟩
    have hb9 : Hid (Below w.heap.size w w9) := hb8.out.trans (hb.mono hb8.out.size)
    have hC := hB8.out.call hb
    have hE := hB10.out.call hb
    clear hb HS hB8 hB10 hA8
    obtain ⟨kc, kf, hlt⟩ := hC.facts
    obtain ⟨k2, f2, l2⟩ := hE.facts
    clear hC hE
    go_wp2_with (fail)
    refine (awakeA_calls _ (hv'.out.below hb9.out)).mono ?_
    rintro e w10 ⟨rfl, hb⟩
    have hb10 : Hid (Below w.heap.size w w10) := hb9.out.trans (hb.mono hb9.out.size)
    clear hb
    go_wp2_with (fail)
    go_ret
    exact ⟨rfl, hb10.out⟩
end Go.Proofs.YtdgbpmbknlhgmaaDoor
