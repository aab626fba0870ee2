/-
The walk through the law AnswerTexts. (Printed by gen_lawt.py.)
-/
import Derived.Test.YtdgbpmbknlhgmaaDoorLawT
set_option linter.unusedVariables false
set_option linter.unusedSimpArgs false
namespace Go.Proofs.YtdgbpmbknlhgmaaDoor
open Go.RowKit Qt Vm

theorem reftext_of (x : AX) (w : World) (h : x.bad = 0) :
    Calls Tryd.prog 41 #[x.val] w fun e w' => e = .returned (.string (str x.text)) ∧ Below w.heap.size w w' := by
  obtain ⟨cl, sq, er, fd, vl, rv⟩ := x
  obtain ⟨hn, hvl⟩ := ansE_zero h
  obtain ⟨b1, b2, b3, b4, b5, b6, b7, b8⟩ := numsB_bounds hn
  have hlen := isVal_len hvl
  simp only at b1 b2 b3 b4 b5 b6 b7 b8
  obtain ⟨cl, rfl⟩ := Int.eq_ofNat_of_zero_le (show 0 ≤ cl by omega)
  obtain ⟨sq, rfl⟩ := Int.eq_ofNat_of_zero_le (show 0 ≤ sq by omega)
  obtain ⟨er, rfl⟩ := Int.eq_ofNat_of_zero_le (show 0 ≤ er by omega)
  obtain ⟨rv, rfl⟩ := Int.eq_ofNat_of_zero_le (show 0 ≤ rv by omega)
  exact refanstext_calls cl sq er fd vl rv w (by omega) (by omega) (by omega) (by omega) (Nat.le_trans hlen (by decide))
theorem refcheck_of (x : AX) (w : World) (h : x.vl.length ≤ 1000000) :
    Calls Tryd.prog 23 #[x.val] w fun e w' => e = .returned (.int .i64 x.bad) ∧ Below w.heap.size w w' := refans_calls x.cl x.sq x.er x.fd x.vl x.rv w h
theorem text_of (x : AX) (w : World) (hs : x.vl.length ≤ 1000000) (hv : AVars w) (h : x.bad = 0) :
    Calls Tryd.prog 43 #[x.val] w fun e w' => e = .returned (.string (str x.text)) ∧ Below w.heap.size w w' := by
  have := text_any x w hs hv
  rwa [if_pos h] at this
theorem text_none (x : AX) (w : World) (hs : x.vl.length ≤ 1000000) (hv : AVars w) (h : x.bad ≠ 0) :
    Calls Tryd.prog 43 #[x.val] w fun e w' => e = .returned (.string ⟨#[]⟩) ∧ Below w.heap.size w w' := by
  have := text_any x w hs hv
  rwa [if_neg h] at this
theorem parse_some {l : List UInt8} {x : AX} (h : parseA l = some x) (w : World) (hl : l.length ≤ 1000000) (hv : EVars w) :
    Calls Tryd.prog 42 #[.string (str l)] w fun e w' => e = .returned (.tuple #[x.val, .int .i64 0]) ∧ Below w.heap.size w w' := by
  refine (parse_calls l w hl hv).mono ?_
  rintro e w' ⟨hc, hb⟩
  refine ⟨?_, hb⟩
  rcases hc with ⟨y, hy, he⟩ | ⟨hn, _⟩
  · rw [h] at hy; cases hy; exact he
  · rw [h] at hn; cases hn
theorem parse_none {l : List UInt8} (h : parseA l = none) (w : World) (hl : l.length ≤ 1000000) (hv : EVars w) :
    Calls Tryd.prog 42 #[.string (str l)] w fun e w' => e = .returned (.tuple #[.agg #[.int .i64 0, .int .i64 0, .int .i64 0, .bool false, .string ⟨#[]⟩, .int .i64 0], .int .i64 3]) ∧ Below w.heap.size w w' := by
  refine (parse_calls l w hl hv).mono ?_
  rintro e w' ⟨hc, hb⟩
  refine ⟨?_, hb⟩
  rcases hc with ⟨y, hy, he⟩ | ⟨_, he⟩
  · rw [h] at hy; cases hy
  · exact he
theorem AX.text_short {x : AX} (h : x.bad = 0) : x.text.length ≤ 1000000 := by
  obtain ⟨cl, sq, er, fd, vl, rv⟩ := x
  obtain ⟨hn, hvl⟩ := ansE_zero h
  obtain ⟨b1, b2, b3, b4, b5, b6, b7, b8⟩ := numsB_bounds hn
  simp only at b1 b2 b3 b4 b5 b6 b7 b8
  have hlen := isVal_len hvl
  simp only at hlen
  have := ansT_len (cl := cl.toNat) (sq := sq.toNat) (er := er.toNat) (fd := fd) (vl := vl) (rv := rv.toNat) (by omega) (by omega) (by omega) (by omega)
  show (ansT cl.toNat sq.toNat er.toNat fd vl rv.toNat).length ≤ _
  omega

set_option maxHeartbeats 8000000 in
set_option maxRecDepth 100000 in
theorem lawTx_okSome (cl sq er : Int) (fd : Bool) (vl : List UInt8) (rv : Int) (ycl ysq yer : Int) (yfd : Bool) (yvl : List UInt8) (yrv : Int) (s : List UInt8) (w : World) (hv : EVars w) (hx : vl.length ≤ 300) (hs : s.length ≤ 300) (h : AX.bad ⟨cl, sq, er, fd, vl, rv⟩ = 0) (hy : parseA s = some ⟨ycl, ysq, yer, yfd, yvl, yrv⟩) :
    Calls Tryd.prog 11 #[.agg #[.int .i64 cl, .int .i64 sq, .int .i64 er, .bool fd, .string (str vl), .int .i64 rv], .string (str s)] w fun e w' => e = .returned (.bool true) ∧ Below w.heap.size w w' := by
  obtain ⟨W, hW⟩ : ∃ W, W = w.alloc (.cells #[.int .i64 cl, .int .i64 sq, .int .i64 er, .bool fd, .string (str vl), .int .i64 rv] 38) := ⟨_, rfl⟩
  have hbW : Hid (Below w.heap.size w W) := by subst hW; exact (Below.refl _ _).alloc (Nat.le_refl _) _
  have hB : Hid (Blk W w.heap.size 38 #[.int .i64 cl, .int .i64 sq, .int .i64 er, .bool fd, .string (str vl), .int .i64 rv]) := by subst hW; exact Blk.new _ _ _
  have hv' := Lib.hid hv
  have z1 := str_size vl
  have z2 := str_size s
  have g1 : decide ((300 : Int) < (vl.length : Int)) = false := decide_eq_false (by omega)
  have g2 : decide ((300 : Int) < (s.length : Int)) = false := decide_eq_false (by omega)
  have HC := fun w1 => refcheck_of ⟨cl, sq, er, fd, vl, rv⟩ w1 (Nat.le_trans hx (by decide))
  obtain ⟨kc, kf, hlt⟩ := hB.out.facts
  rw [h] at HC
  have HR := Lib.hid (fun w1 => reftext_of ⟨cl, sq, er, fd, vl, rv⟩ w1 h)
  have HP := Lib.hid (fun w1 hv => parse_some (parseA_text h) w1 (AX.text_short h) hv)
  have HT := Lib.hid (fun w1 hv => text_of ⟨cl, sq, er, fd, vl, rv⟩ w1 (Nat.le_trans hx (by decide)) hv h)
  have hne := AX.text_ne ⟨cl, sq, er, fd, vl, rv⟩
  generalize AX.text ⟨cl, sq, er, fd, vl, rv⟩ = T at *
  have e1 : ((str T).toList == (str T).toList) = true := beq_self_eq_true _
  have e2 : ¬ (str T).toList = [] := by rw [str_toList]; exact hne
  have e3 : ((str T).toList == []) = false := by rw [beq_eq_false_iff_ne, str_toList]; exact hne
  have e4 : (str T).toList.isEmpty = false := by rw [str_toList, List.isEmpty_eq_false_iff]; exact hne
  obtain ⟨y1, y2⟩ := parseA_some hy
  have HQ := Lib.hid (fun w1 hv => parse_some hy w1 (Nat.le_trans hs (by decide)) hv)
  have HYC := fun w1 => refcheck_of ⟨ycl, ysq, yer, yfd, yvl, yrv⟩ w1 (by have := isVal_len (ansE_zero y1).2; simp only at this ⊢; omega)
  rw [y1] at HYC
  have HYC := Lib.hid HYC
  have HYR := fun w1 => reftext_of ⟨ycl, ysq, yer, yfd, yvl, yrv⟩ w1 y1
  rw [y2] at HYR
  have HYR := Lib.hid HYR
  have e9 : ((str s).toList == (str s).toList) = true := beq_self_eq_true _
  have HC := Lib.hid HC
  clear hv hx hs h hy hne y1 y2
  go_enter Tryd.func11, Tryd.ntmps11
  go_wp2_with (fail)
  rw [← hW]
  clear hW
  refine (HC.out _).mono ?_
  rintro e w1 ⟨rfl, hb⟩
  have hB1 := Lib.hid (hB.out.call hb)
  have hb1 : Hid (Below w.heap.size w w1) := hbW.out.trans (hb.mono hbW.out.size)
  clear kc kf hlt hb hB hbW HC
  obtain ⟨kc, kf, hlt⟩ := hB1.out.facts
  go_wp2_with (fail)
  refine (HR.out _).mono ?_
  rintro e w2 ⟨rfl, hb⟩
  have hB2 := Lib.hid (hB1.out.call hb)
  have hb2 : Hid (Below w.heap.size w w2) := hb1.out.trans (hb.mono hb1.out.size)
  clear kc kf hlt hb hB1 hb1 HR
  have hB1 := hB2
  have hb1 := hb2
  clear hB2 hb2
  obtain ⟨kc, kf, hlt⟩ := hB1.out.facts
  go_wp2_with (fail)
  refine (HP.out _ (hv'.out.below hb1.out)).mono ?_
  rintro e w3 ⟨rfl, hb⟩
  obtain ⟨X, hX⟩ : ∃ X, X = w3.alloc (.cells #[.int .i64 cl, .int .i64 sq, .int .i64 er, .bool fd, .string (str vl), .int .i64 rv] 38) := ⟨_, rfl⟩
  obtain ⟨b6, hb6⟩ : ∃ b6, b6 = w3.heap.size := ⟨_, rfl⟩
  have hbX : Below w3.heap.size w3 X := by subst hX; exact (Below.refl _ _).alloc (Nat.le_refl _) _
  have h6 : Hid (Blk X b6 38 #[.int .i64 cl, .int .i64 sq, .int .i64 er, .bool fd, .string (str vl), .int .i64 rv]) := by subst hX hb6; exact Blk.new _ _ _
  have hB3 := Lib.hid ((hB1.out.call hb).call hbX)
  have hb3 : Hid (Below w.heap.size w X) := (hb1.out.trans (hb.mono hb1.out.size)).trans (hbX.mono (Nat.le_trans hb1.out.size hb.size))
  clear kc kf hlt hb hB1 hb1 HP hbX
  obtain ⟨kc, kf, hlt⟩ := hB3.out.facts
  go_wp2_with (fail)
  rw [← hX, ← hb6]
  clear hX hb6
  refine (HQ.out _ (hv'.out.below hb3.out)).mono ?_
  rintro e w4 ⟨rfl, hb⟩
  obtain ⟨Y, hY⟩ : ∃ Y, Y = w4.alloc (.cells #[.int .i64 ycl, .int .i64 ysq, .int .i64 yer, .bool yfd, .string (str yvl), .int .i64 yrv] 38) := ⟨_, rfl⟩
  obtain ⟨b8, hb8⟩ : ∃ b8, b8 = w4.heap.size := ⟨_, rfl⟩
  have hbY : Below w4.heap.size w4 Y := by subst hY; exact (Below.refl _ _).alloc (Nat.le_refl _) _
  have h8 : Hid (Blk Y b8 38 #[.int .i64 ycl, .int .i64 ysq, .int .i64 yer, .bool yfd, .string (str yvl), .int .i64 yrv]) := by subst hY hb8; exact Blk.new _ _ _
  have hB4 := Lib.hid ((hB3.out.call hb).call hbY)
  have h64 := Lib.hid ((h6.out.call hb).call hbY)
  have hb4 : Hid (Below w.heap.size w Y) := (hb3.out.trans (hb.mono hb3.out.size)).trans (hbY.mono (Nat.le_trans hb3.out.size hb.size))
  clear kc kf hlt hb hB3 hb3 HQ hbY h6
  obtain ⟨kc, kf, hlt⟩ := hB4.out.facts
  rw [hY] at kc kf hlt
  go_wp2_with (fail)
  rw [← hY, ← hb8]
  clear kc kf hlt hY hb8
  refine (HT.out _ (hv'.out.below hb4.out).a).mono ?_
  rintro e w5 ⟨rfl, hb⟩
  have hB5 := hB4.out.call hb
  have h65 := h64.out.call hb
  have h85 := Lib.hid (h8.out.call hb)
  have hb5 : Hid (Below w.heap.size w w5) := hb4.out.trans (hb.mono hb4.out.size)
  clear hb hB4 hb4 h64 h8 HT
  obtain ⟨kc, kf, hlt⟩ := hB5.facts
  obtain ⟨kd, kg, hlu⟩ := h65.facts
  obtain ⟨ke, kh, hlw⟩ := h85.out.facts
  clear hB5 h65
  go_wp2_with (fail)
  refine (HYC.out _).mono ?_
  rintro e w6 ⟨rfl, hb⟩
  have h86 := Lib.hid (h85.out.call hb)
  have hb6 : Hid (Below w.heap.size w w6) := hb5.out.trans (hb.mono hb5.out.size)
  clear kc kf hlt kd kg hlu ke kh hlw hb h85 hb5 HYC
  obtain ⟨ke, kh, hlw⟩ := h86.out.facts
  go_wp2_with (fail)
  refine (HYR.out _).mono ?_
  rintro e w7 ⟨rfl, hb⟩
  have hb5 : Hid (Below w.heap.size w w7) := hb6.out.trans (hb.mono hb6.out.size)
  clear ke kh hlw hb h86 hb6 HYR
  go_wp2_with (fail)
  refine (awakeA_calls _ (hv'.out.below hb5.out).a).mono ?_
  rintro e w9 ⟨rfl, hb⟩
  have hb9 : Hid (Below w.heap.size w w9) := hb5.out.trans (hb.mono hb5.out.size)
  clear hb
  go_wp2_with (fail)
  go_ret
  exact ⟨rfl, hb9.out⟩
set_option maxHeartbeats 8000000 in
set_option maxRecDepth 100000 in
theorem lawTx_okNone (cl sq er : Int) (fd : Bool) (vl : List UInt8) (rv : Int) (s : List UInt8) (w : World) (hv : EVars w) (hx : vl.length ≤ 300) (hs : s.length ≤ 300) (h : AX.bad ⟨cl, sq, er, fd, vl, rv⟩ = 0) (hy : parseA s = none) :
    Calls Tryd.prog 11 #[.agg #[.int .i64 cl, .int .i64 sq, .int .i64 er, .bool fd, .string (str vl), .int .i64 rv], .string (str s)] w fun e w' => e = .returned (.bool true) ∧ Below w.heap.size w w' := by
  obtain ⟨W, hW⟩ : ∃ W, W = w.alloc (.cells #[.int .i64 cl, .int .i64 sq, .int .i64 er, .bool fd, .string (str vl), .int .i64 rv] 38) := ⟨_, rfl⟩
  have hbW : Hid (Below w.heap.size w W) := by subst hW; exact (Below.refl _ _).alloc (Nat.le_refl _) _
  have hB : Hid (Blk W w.heap.size 38 #[.int .i64 cl, .int .i64 sq, .int .i64 er, .bool fd, .string (str vl), .int .i64 rv]) := by subst hW; exact Blk.new _ _ _
  have hv' := Lib.hid hv
  have z1 := str_size vl
  have z2 := str_size s
  have g1 : decide ((300 : Int) < (vl.length : Int)) = false := decide_eq_false (by omega)
  have g2 : decide ((300 : Int) < (s.length : Int)) = false := decide_eq_false (by omega)
  have HC := fun w1 => refcheck_of ⟨cl, sq, er, fd, vl, rv⟩ w1 (Nat.le_trans hx (by decide))
  obtain ⟨kc, kf, hlt⟩ := hB.out.facts
  rw [h] at HC
  have HR := Lib.hid (fun w1 => reftext_of ⟨cl, sq, er, fd, vl, rv⟩ w1 h)
  have HP := Lib.hid (fun w1 hv => parse_some (parseA_text h) w1 (AX.text_short h) hv)
  have HT := Lib.hid (fun w1 hv => text_of ⟨cl, sq, er, fd, vl, rv⟩ w1 (Nat.le_trans hx (by decide)) hv h)
  have hne := AX.text_ne ⟨cl, sq, er, fd, vl, rv⟩
  generalize AX.text ⟨cl, sq, er, fd, vl, rv⟩ = T at *
  have e1 : ((str T).toList == (str T).toList) = true := beq_self_eq_true _
  have e2 : ¬ (str T).toList = [] := by rw [str_toList]; exact hne
  have e3 : ((str T).toList == []) = false := by rw [beq_eq_false_iff_ne, str_toList]; exact hne
  have e4 : (str T).toList.isEmpty = false := by rw [str_toList, List.isEmpty_eq_false_iff]; exact hne
  have HQ := Lib.hid (fun w1 hv => parse_none hy w1 (Nat.le_trans hs (by decide)) hv)
  have HC := Lib.hid HC
  clear hv hx hs h hy hne 
  go_enter Tryd.func11, Tryd.ntmps11
  go_wp2_with (fail)
  rw [← hW]
  clear hW
  refine (HC.out _).mono ?_
  rintro e w1 ⟨rfl, hb⟩
  have hB1 := Lib.hid (hB.out.call hb)
  have hb1 : Hid (Below w.heap.size w w1) := hbW.out.trans (hb.mono hbW.out.size)
  clear kc kf hlt hb hB hbW HC
  obtain ⟨kc, kf, hlt⟩ := hB1.out.facts
  go_wp2_with (fail)
  refine (HR.out _).mono ?_
  rintro e w2 ⟨rfl, hb⟩
  have hB2 := Lib.hid (hB1.out.call hb)
  have hb2 : Hid (Below w.heap.size w w2) := hb1.out.trans (hb.mono hb1.out.size)
  clear kc kf hlt hb hB1 hb1 HR
  have hB1 := hB2
  have hb1 := hb2
  clear hB2 hb2
  obtain ⟨kc, kf, hlt⟩ := hB1.out.facts
  go_wp2_with (fail)
  refine (HP.out _ (hv'.out.below hb1.out)).mono ?_
  rintro e w3 ⟨rfl, hb⟩
  obtain ⟨X, hX⟩ : ∃ X, X = w3.alloc (.cells #[.int .i64 cl, .int .i64 sq, .int .i64 er, .bool fd, .string (str vl), .int .i64 rv] 38) := ⟨_, rfl⟩
  obtain ⟨b6, hb6⟩ : ∃ b6, b6 = w3.heap.size := ⟨_, rfl⟩
  have hbX : Below w3.heap.size w3 X := by subst hX; exact (Below.refl _ _).alloc (Nat.le_refl _) _
  have h6 : Hid (Blk X b6 38 #[.int .i64 cl, .int .i64 sq, .int .i64 er, .bool fd, .string (str vl), .int .i64 rv]) := by subst hX hb6; exact Blk.new _ _ _
  have hB3 := Lib.hid ((hB1.out.call hb).call hbX)
  have hb3 : Hid (Below w.heap.size w X) := (hb1.out.trans (hb.mono hb1.out.size)).trans (hbX.mono (Nat.le_trans hb1.out.size hb.size))
  clear kc kf hlt hb hB1 hb1 HP hbX
  obtain ⟨kc, kf, hlt⟩ := hB3.out.facts
  go_wp2_with (fail)
  rw [← hX, ← hb6]
  clear hX hb6
  refine (HQ.out _ (hv'.out.below hb3.out)).mono ?_
  rintro e w4 ⟨rfl, hb⟩
  obtain ⟨Y, hY⟩ : ∃ Y, Y = w4.alloc (.cells #[.int .i64 0, .int .i64 0, .int .i64 0, .bool false, .string ⟨#[]⟩, .int .i64 0] 38) := ⟨_, rfl⟩
  obtain ⟨b8, hb8⟩ : ∃ b8, b8 = w4.heap.size := ⟨_, rfl⟩
  have hbY : Below w4.heap.size w4 Y := by subst hY; exact (Below.refl _ _).alloc (Nat.le_refl _) _
  have h8 : Hid (Blk Y b8 38 #[.int .i64 0, .int .i64 0, .int .i64 0, .bool false, .string ⟨#[]⟩, .int .i64 0]) := by subst hY hb8; exact Blk.new _ _ _
  have hB4 := Lib.hid ((hB3.out.call hb).call hbY)
  have h64 := Lib.hid ((h6.out.call hb).call hbY)
  have hb4 : Hid (Below w.heap.size w Y) := (hb3.out.trans (hb.mono hb3.out.size)).trans (hbY.mono (Nat.le_trans hb3.out.size hb.size))
  clear kc kf hlt hb hB3 hb3 HQ hbY h6
  obtain ⟨kc, kf, hlt⟩ := hB4.out.facts
  rw [hY] at kc kf hlt
  go_wp2_with (fail)
  rw [← hY, ← hb8]
  clear kc kf hlt hY hb8
  refine (HT.out _ (hv'.out.below hb4.out).a).mono ?_
  rintro e w5 ⟨rfl, hb⟩
  have hB5 := hB4.out.call hb
  have h65 := h64.out.call hb
  have h85 := Lib.hid (h8.out.call hb)
  have hb5 : Hid (Below w.heap.size w w5) := hb4.out.trans (hb.mono hb4.out.size)
  clear hb hB4 hb4 h64 h8 HT
  obtain ⟨kc, kf, hlt⟩ := hB5.facts
  obtain ⟨kd, kg, hlu⟩ := h65.facts
  obtain ⟨ke, kh, hlw⟩ := h85.out.facts
  clear hB5 h65
  go_wp2_with (fail)
  refine (awakeA_calls _ (hv'.out.below hb5.out).a).mono ?_
  rintro e w9 ⟨rfl, hb⟩
  have hb9 : Hid (Below w.heap.size w w9) := hb5.out.trans (hb.mono hb5.out.size)
  clear hb
  go_wp2_with (fail)
  go_ret
  exact ⟨rfl, hb9.out⟩
set_option maxHeartbeats 8000000 in
set_option maxRecDepth 100000 in
theorem lawTx_noSome (cl sq er : Int) (fd : Bool) (vl : List UInt8) (rv : Int) (ycl ysq yer : Int) (yfd : Bool) (yvl : List UInt8) (yrv : Int) (s : List UInt8) (w : World) (hv : EVars w) (hx : vl.length ≤ 300) (hs : s.length ≤ 300) (h : AX.bad ⟨cl, sq, er, fd, vl, rv⟩ ≠ 0) (hy : parseA s = some ⟨ycl, ysq, yer, yfd, yvl, yrv⟩) :
    Calls Tryd.prog 11 #[.agg #[.int .i64 cl, .int .i64 sq, .int .i64 er, .bool fd, .string (str vl), .int .i64 rv], .string (str s)] w fun e w' => e = .returned (.bool true) ∧ Below w.heap.size w w' := by
  obtain ⟨W, hW⟩ : ∃ W, W = w.alloc (.cells #[.int .i64 cl, .int .i64 sq, .int .i64 er, .bool fd, .string (str vl), .int .i64 rv] 38) := ⟨_, rfl⟩
  have hbW : Hid (Below w.heap.size w W) := by subst hW; exact (Below.refl _ _).alloc (Nat.le_refl _) _
  have hB : Hid (Blk W w.heap.size 38 #[.int .i64 cl, .int .i64 sq, .int .i64 er, .bool fd, .string (str vl), .int .i64 rv]) := by subst hW; exact Blk.new _ _ _
  have hv' := Lib.hid hv
  have z1 := str_size vl
  have z2 := str_size s
  have g1 : decide ((300 : Int) < (vl.length : Int)) = false := decide_eq_false (by omega)
  have g2 : decide ((300 : Int) < (s.length : Int)) = false := decide_eq_false (by omega)
  have HC := fun w1 => refcheck_of ⟨cl, sq, er, fd, vl, rv⟩ w1 (Nat.le_trans hx (by decide))
  obtain ⟨kc, kf, hlt⟩ := hB.out.facts
  have q0 : (AX.bad ⟨cl, sq, er, fd, vl, rv⟩ == 0) = false := beq_eq_false_iff_ne.2 h
  have HP := fun w1 hv => parse_none parseA_nil w1 (Nat.zero_le _) hv
  have HP : ∀ w1, EVars w1 → Calls Tryd.prog 42 #[.string ⟨#[]⟩] w1 fun e w' => e = .returned (.tuple #[.agg #[.int .i64 0, .int .i64 0, .int .i64 0, .bool false, .string ⟨#[]⟩, .int .i64 0], .int .i64 3]) ∧ Below w1.heap.size w1 w' := HP
  have HP := Lib.hid HP
  have HT := Lib.hid (fun w1 hv => text_none ⟨cl, sq, er, fd, vl, rv⟩ w1 (Nat.le_trans hx (by decide)) hv h)
  generalize AX.bad ⟨cl, sq, er, fd, vl, rv⟩ = bad at *
  obtain ⟨y1, y2⟩ := parseA_some hy
  have HQ := Lib.hid (fun w1 hv => parse_some hy w1 (Nat.le_trans hs (by decide)) hv)
  have HYC := fun w1 => refcheck_of ⟨ycl, ysq, yer, yfd, yvl, yrv⟩ w1 (by have := isVal_len (ansE_zero y1).2; simp only at this ⊢; omega)
  rw [y1] at HYC
  have HYC := Lib.hid HYC
  have HYR := fun w1 => reftext_of ⟨ycl, ysq, yer, yfd, yvl, yrv⟩ w1 y1
  rw [y2] at HYR
  have HYR := Lib.hid HYR
  have e9 : ((str s).toList == (str s).toList) = true := beq_self_eq_true _
  have HC := Lib.hid HC
  clear hv hx hs h hy  y1 y2
  go_enter Tryd.func11, Tryd.ntmps11
  go_wp2_with (fail)
  rw [← hW]
  clear hW
  refine (HC.out _).mono ?_
  rintro e w1 ⟨rfl, hb⟩
  have hB1 := Lib.hid (hB.out.call hb)
  have hb1 : Hid (Below w.heap.size w w1) := hbW.out.trans (hb.mono hbW.out.size)
  clear kc kf hlt hb hB hbW HC
  obtain ⟨kc, kf, hlt⟩ := hB1.out.facts
  go_wp2_with (fail)
  refine (HP.out _ (hv'.out.below hb1.out)).mono ?_
  rintro e w3 ⟨rfl, hb⟩
  obtain ⟨X, hX⟩ : ∃ X, X = w3.alloc (.cells #[.int .i64 0, .int .i64 0, .int .i64 0, .bool false, .string ⟨#[]⟩, .int .i64 0] 38) := ⟨_, rfl⟩
  obtain ⟨b6, hb6⟩ : ∃ b6, b6 = w3.heap.size := ⟨_, rfl⟩
  have hbX : Below w3.heap.size w3 X := by subst hX; exact (Below.refl _ _).alloc (Nat.le_refl _) _
  have h6 : Hid (Blk X b6 38 #[.int .i64 0, .int .i64 0, .int .i64 0, .bool false, .string ⟨#[]⟩, .int .i64 0]) := by subst hX hb6; exact Blk.new _ _ _
  have hB3 := Lib.hid ((hB1.out.call hb).call hbX)
  have hb3 : Hid (Below w.heap.size w X) := (hb1.out.trans (hb.mono hb1.out.size)).trans (hbX.mono (Nat.le_trans hb1.out.size hb.size))
  clear kc kf hlt hb hB1 hb1 HP hbX
  obtain ⟨kc, kf, hlt⟩ := hB3.out.facts
  go_wp2_with (fail)
  rw [← hX, ← hb6]
  clear hX hb6
  refine (HQ.out _ (hv'.out.below hb3.out)).mono ?_
  rintro e w4 ⟨rfl, hb⟩
  obtain ⟨Y, hY⟩ : ∃ Y, Y = w4.alloc (.cells #[.int .i64 ycl, .int .i64 ysq, .int .i64 yer, .bool yfd, .string (str yvl), .int .i64 yrv] 38) := ⟨_, rfl⟩
  obtain ⟨b8, hb8⟩ : ∃ b8, b8 = w4.heap.size := ⟨_, rfl⟩
  have hbY : Below w4.heap.size w4 Y := by subst hY; exact (Below.refl _ _).alloc (Nat.le_refl _) _
  have h8 : Hid (Blk Y b8 38 #[.int .i64 ycl, .int .i64 ysq, .int .i64 yer, .bool yfd, .string (str yvl), .int .i64 yrv]) := by subst hY hb8; exact Blk.new _ _ _
  have hB4 := Lib.hid ((hB3.out.call hb).call hbY)
  have h64 := Lib.hid ((h6.out.call hb).call hbY)
  have hb4 : Hid (Below w.heap.size w Y) := (hb3.out.trans (hb.mono hb3.out.size)).trans (hbY.mono (Nat.le_trans hb3.out.size hb.size))
  clear kc kf hlt hb hB3 hb3 HQ hbY h6
  obtain ⟨kc, kf, hlt⟩ := hB4.out.facts
  rw [hY] at kc kf hlt
  go_wp2_with (fail)
  rw [← hY, ← hb8]
  clear kc kf hlt hY hb8
  refine (HT.out _ (hv'.out.below hb4.out).a).mono ?_
  rintro e w5 ⟨rfl, hb⟩
  have hB5 := hB4.out.call hb
  have h65 := h64.out.call hb
  have h85 := Lib.hid (h8.out.call hb)
  have hb5 : Hid (Below w.heap.size w w5) := hb4.out.trans (hb.mono hb4.out.size)
  clear hb hB4 hb4 h64 h8 HT
  obtain ⟨kc, kf, hlt⟩ := hB5.facts
  obtain ⟨kd, kg, hlu⟩ := h65.facts
  obtain ⟨ke, kh, hlw⟩ := h85.out.facts
  clear hB5 h65
  go_wp2_with (fail)
  refine (HYC.out _).mono ?_
  rintro e w6 ⟨rfl, hb⟩
  have h86 := Lib.hid (h85.out.call hb)
  have hb6 : Hid (Below w.heap.size w w6) := hb5.out.trans (hb.mono hb5.out.size)
  clear kc kf hlt kd kg hlu ke kh hlw hb h85 hb5 HYC
  obtain ⟨ke, kh, hlw⟩ := h86.out.facts
  go_wp2_with (fail)
  refine (HYR.out _).mono ?_
  rintro e w7 ⟨rfl, hb⟩
  have hb5 : Hid (Below w.heap.size w w7) := hb6.out.trans (hb.mono hb6.out.size)
  clear ke kh hlw hb h86 hb6 HYR
  go_wp2_with (fail)
  refine (awakeA_calls _ (hv'.out.below hb5.out).a).mono ?_
  rintro e w9 ⟨rfl, hb⟩
  have hb9 : Hid (Below w.heap.size w w9) := hb5.out.trans (hb.mono hb5.out.size)
  clear hb
  go_wp2_with (fail)
  go_ret
  exact ⟨rfl, hb9.out⟩
set_option maxHeartbeats 8000000 in
set_option maxRecDepth 100000 in
theorem lawTx_noNone (cl sq er : Int) (fd : Bool) (vl : List UInt8) (rv : Int) (s : List UInt8) (w : World) (hv : EVars w) (hx : vl.length ≤ 300) (hs : s.length ≤ 300) (h : AX.bad ⟨cl, sq, er, fd, vl, rv⟩ ≠ 0) (hy : parseA s = none) :
    Calls Tryd.prog 11 #[.agg #[.int .i64 cl, .int .i64 sq, .int .i64 er, .bool fd, .string (str vl), .int .i64 rv], .string (str s)] w fun e w' => e = .returned (.bool true) ∧ Below w.heap.size w w' := by
  obtain ⟨W, hW⟩ : ∃ W, W = w.alloc (.cells #[.int .i64 cl, .int .i64 sq, .int .i64 er, .bool fd, .string (str vl), .int .i64 rv] 38) := ⟨_, rfl⟩
  have hbW : Hid (Below w.heap.size w W) := by subst hW; exact (Below.refl _ _).alloc (Nat.le_refl _) _
  have hB : Hid (Blk W w.heap.size 38 #[.int .i64 cl, .int .i64 sq, .int .i64 er, .bool fd, .string (str vl), .int .i64 rv]) := by subst hW; exact Blk.new _ _ _
  have hv' := Lib.hid hv
  have z1 := str_size vl
  have z2 := str_size s
  have g1 : decide ((300 : Int) < (vl.length : Int)) = false := decide_eq_false (by omega)
  have g2 : decide ((300 : Int) < (s.length : Int)) = false := decide_eq_false (by omega)
  have HC := fun w1 => refcheck_of ⟨cl, sq, er, fd, vl, rv⟩ w1 (Nat.le_trans hx (by decide))
  obtain ⟨kc, kf, hlt⟩ := hB.out.facts
  have q0 : (AX.bad ⟨cl, sq, er, fd, vl, rv⟩ == 0) = false := beq_eq_false_iff_ne.2 h
  have HP := fun w1 hv => parse_none parseA_nil w1 (Nat.zero_le _) hv
  have HP : ∀ w1, EVars w1 → Calls Tryd.prog 42 #[.string ⟨#[]⟩] w1 fun e w' => e = .returned (.tuple #[.agg #[.int .i64 0, .int .i64 0, .int .i64 0, .bool false, .string ⟨#[]⟩, .int .i64 0], .int .i64 3]) ∧ Below w1.heap.size w1 w' := HP
  have HP := Lib.hid HP
  have HT := Lib.hid (fun w1 hv => text_none ⟨cl, sq, er, fd, vl, rv⟩ w1 (Nat.le_trans hx (by decide)) hv h)
  generalize AX.bad ⟨cl, sq, er, fd, vl, rv⟩ = bad at *
  have HQ := Lib.hid (fun w1 hv => parse_none hy w1 (Nat.le_trans hs (by decide)) hv)
  have HC := Lib.hid HC
  clear hv hx hs h hy  
  go_enter Tryd.func11, Tryd.ntmps11
  go_wp2_with (fail)
  rw [← hW]
  clear hW
  refine (HC.out _).mono ?_
  rintro e w1 ⟨rfl, hb⟩
  have hB1 := Lib.hid (hB.out.call hb)
  have hb1 : Hid (Below w.heap.size w w1) := hbW.out.trans (hb.mono hbW.out.size)
  clear kc kf hlt hb hB hbW HC
  obtain ⟨kc, kf, hlt⟩ := hB1.out.facts
  go_wp2_with (fail)
  refine (HP.out _ (hv'.out.below hb1.out)).mono ?_
  rintro e w3 ⟨rfl, hb⟩
  obtain ⟨X, hX⟩ : ∃ X, X = w3.alloc (.cells #[.int .i64 0, .int .i64 0, .int .i64 0, .bool false, .string ⟨#[]⟩, .int .i64 0] 38) := ⟨_, rfl⟩
  obtain ⟨b6, hb6⟩ : ∃ b6, b6 = w3.heap.size := ⟨_, rfl⟩
  have hbX : Below w3.heap.size w3 X := by subst hX; exact (Below.refl _ _).alloc (Nat.le_refl _) _
  have h6 : Hid (Blk X b6 38 #[.int .i64 0, .int .i64 0, .int .i64 0, .bool false, .string ⟨#[]⟩, .int .i64 0]) := by subst hX hb6; exact Blk.new _ _ _
  have hB3 := Lib.hid ((hB1.out.call hb).call hbX)
  have hb3 : Hid (Below w.heap.size w X) := (hb1.out.trans (hb.mono hb1.out.size)).trans (hbX.mono (Nat.le_trans hb1.out.size hb.size))
  clear kc kf hlt hb hB1 hb1 HP hbX
  obtain ⟨kc, kf, hlt⟩ := hB3.out.facts
  go_wp2_with (fail)
  rw [← hX, ← hb6]
  clear hX hb6
  refine (HQ.out _ (hv'.out.below hb3.out)).mono ?_
  rintro e w4 ⟨rfl, hb⟩
  obtain ⟨Y, hY⟩ : ∃ Y, Y = w4.alloc (.cells #[.int .i64 0, .int .i64 0, .int .i64 0, .bool false, .string ⟨#[]⟩, .int .i64 0] 38) := ⟨_, rfl⟩
  obtain ⟨b8, hb8⟩ : ∃ b8, b8 = w4.heap.size := ⟨_, rfl⟩
  have hbY : Below w4.heap.size w4 Y := by subst hY; exact (Below.refl _ _).alloc (Nat.le_refl _) _
  have h8 : Hid (Blk Y b8 38 #[.int .i64 0, .int .i64 0, .int .i64 0, .bool false, .string ⟨#[]⟩, .int .i64 0]) := by subst hY hb8; exact Blk.new _ _ _
  have hB4 := Lib.hid ((hB3.out.call hb).call hbY)
  have h64 := Lib.hid ((h6.out.call hb).call hbY)
  have hb4 : Hid (Below w.heap.size w Y) := (hb3.out.trans (hb.mono hb3.out.size)).trans (hbY.mono (Nat.le_trans hb3.out.size hb.size))
  clear kc kf hlt hb hB3 hb3 HQ hbY h6
  obtain ⟨kc, kf, hlt⟩ := hB4.out.facts
  rw [hY] at kc kf hlt
  go_wp2_with (fail)
  rw [← hY, ← hb8]
  clear kc kf hlt hY hb8
  refine (HT.out _ (hv'.out.below hb4.out).a).mono ?_
  rintro e w5 ⟨rfl, hb⟩
  have hB5 := hB4.out.call hb
  have h65 := h64.out.call hb
  have h85 := Lib.hid (h8.out.call hb)
  have hb5 : Hid (Below w.heap.size w w5) := hb4.out.trans (hb.mono hb4.out.size)
  clear hb hB4 hb4 h64 h8 HT
  obtain ⟨kc, kf, hlt⟩ := hB5.facts
  obtain ⟨kd, kg, hlu⟩ := h65.facts
  obtain ⟨ke, kh, hlw⟩ := h85.out.facts
  clear hB5 h65
  go_wp2_with (fail)
  refine (awakeA_calls _ (hv'.out.below hb5.out).a).mono ?_
  rintro e w9 ⟨rfl, hb⟩
  have hb9 : Hid (Below w.heap.size w w9) := hb5.out.trans (hb.mono hb5.out.size)
  clear hb
  go_wp2_with (fail)
  go_ret
  exact ⟨rfl, hb9.out⟩
set_option maxHeartbeats 2000000 in
/-- a text too long. -/
theorem lawTx_long (x : AX) (s : List UInt8) (w : World) (hv : EVars w) (h : 300 < x.vl.length ∨ 300 < s.length) :
    Calls Tryd.prog 11 #[x.val, .string (str s)] w fun e w' => e = .returned (.bool true) ∧ Below w.heap.size w w' := by
  obtain ⟨cl, sq, er, fd, vl, rv⟩ := x
  simp only at h
  have hv' := Lib.hid hv
  have z1 := str_size vl
  have z2 := str_size s
  obtain ⟨W, hW⟩ : ∃ W, W = w.alloc (.cells #[.int .i64 cl, .int .i64 sq, .int .i64 er, .bool fd, .string (str vl), .int .i64 rv] 38) := ⟨_, rfl⟩
  have hbW : Hid (Below w.heap.size w W) := by subst hW; exact (Below.refl _ _).alloc (Nat.le_refl _) _
  have hc : decide ((300 : Int) < (vl.length : Int)) = true ∨ (decide ((300 : Int) < (vl.length : Int)) = false ∧ decide ((300 : Int) < (s.length : Int)) = true) := by
    by_cases h1 : 300 < vl.length
    · exact .inl (decide_eq_true (by omega))
    · exact .inr ⟨decide_eq_false (by omega), decide_eq_true (by omega)⟩
  clear hv h
  rcases hc with d1 | ⟨d1, d2⟩
  all_goals
    go_enter Tryd.func11, Tryd.ntmps11
    go_wp2_with (fail)
    rw [← hW]
    refine (awakeA_calls _ (hv'.out.below hbW.out).a).mono ?_
    rintro e w1 ⟨rfl, hb⟩
    have hb1 : Hid (Below w.heap.size w w1) := hbW.out.trans (hb.mono hbW.out.size)
    clear hb hW hbW
    go_wp2_with (fail)
    go_ret
    exact ⟨rfl, hb1.out⟩
theorem lawTx_calls (x : AX) (s : List UInt8) (w : World) (hv : EVars w) :
    Calls Tryd.prog 11 #[x.val, .string (str s)] w fun e w' => e = .returned (.bool true) ∧ Below w.heap.size w w' := by
  by_cases h1 : 300 < x.vl.length
  · exact lawTx_long x s w hv (.inl h1)
  by_cases h2 : 300 < s.length
  · exact lawTx_long x s w hv (.inr h2)
  obtain ⟨cl, sq, er, fd, vl, rv⟩ := x
  simp only at h1
  cases hy : parseA s with
  | none =>
    by_cases h : AX.bad ⟨cl, sq, er, fd, vl, rv⟩ = 0
    · exact lawTx_okNone cl sq er fd vl rv s w hv (by omega) (by omega) h hy
    · exact lawTx_noNone cl sq er fd vl rv s w hv (by omega) (by omega) h hy
  | some y =>
    obtain ⟨ycl, ysq, yer, yfd, yvl, yrv⟩ := y
    by_cases h : AX.bad ⟨cl, sq, er, fd, vl, rv⟩ = 0
    · exact lawTx_okSome cl sq er fd vl rv ycl ysq yer yfd yvl yrv s w hv (by omega) (by omega) h hy
    · exact lawTx_noSome cl sq er fd vl rv ycl ysq yer yfd yvl yrv s w hv (by omega) (by omega) h hy
end Go.Proofs.YtdgbpmbknlhgmaaDoor
