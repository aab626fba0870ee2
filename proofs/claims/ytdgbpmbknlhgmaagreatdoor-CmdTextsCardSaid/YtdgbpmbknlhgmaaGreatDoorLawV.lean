/-
The walk through cmd.Parse at any text; the law CmdTexts. (Printed by gen_lawv.py.)
-/
import Derived.Test.YtdgbpmbknlhgmaaGreatDoorCmdR
import Derived.Test.YtdgbpmbknlhgmaaGreatDoorCmdS
import Derived.Test.YtdgbpmbknlhgmaaGreatDoorLawC
import Derived.Laws.StructEq
set_option linter.unusedVariables false
set_option linter.unusedSimpArgs false
namespace Go.Proofs.YtdgbpmbknlhgmaaGreatDoor
open Go.RowKit Qt Vm

theorem cmdparse_calls (l : List UInt8) (w : World) (hl : l.length ≤ 1000000) (hv : EVars w) :
    Calls Tryz.prog 22 #[.string (str l)] w fun e w' => ParC l e ∧ Below w.heap.size w w' := by
  by_cases h0 : wdE l = 0
  · cases h1 : wdL l with
    | nil => exact cmdparse_bad l w hl hv (.inr h1)
    | cons t0 r => exact cmdparse_ws l t0 r w hl hv h0 h1
  · exact cmdparse_bad l w hl hv (.inl h0)
theorem cparse_some {l : List UInt8} {x : CX} (h : parseC l = some x) (w : World) (hl : l.length ≤ 1000000) (hv : EVars w) :
    Calls Tryz.prog 22 #[.string (str l)] w fun e w' => e = .returned (.tuple #[x.value, .int .i64 0]) ∧ Below w.heap.size w w' := by
  refine (cmdparse_calls l w hl hv).mono ?_
  rintro e w' ⟨hc, hb⟩
  refine ⟨?_, hb⟩
  rcases hc with ⟨y, hy, he⟩ | ⟨hn, _⟩
  · rw [h] at hy; cases hy; exact he
  · rw [h] at hn; cases hn
theorem cparse_none {l : List UInt8} (h : parseC l = none) (w : World) (hl : l.length ≤ 1000000) (hv : EVars w) :
    Calls Tryz.prog 22 #[.string (str l)] w fun e w' => e = .returned (.tuple #[.agg #[.int .i64 0, .int .i64 0, .int .i64 0, .string ⟨#[]⟩, .string ⟨#[]⟩, .string ⟨#[]⟩, .int .i64 0], .int .i64 3]) ∧ Below w.heap.size w w' := by
  refine (cmdparse_calls l w hl hv).mono ?_
  rintro e w' ⟨hc, hb⟩
  refine ⟨?_, hb⟩
  rcases hc with ⟨y, hy, he⟩ | ⟨_, he⟩
  · rw [h] at hy; cases hy
  · exact he
theorem cmdT_ne (x : CX) (h : cmdE x = 0) : cmdT x ≠ [] := by
  intro e
  have := parseC_text h
  rw [e, parseC_nil] at this
  cases this

set_option maxHeartbeats 8000000 in
set_option maxRecDepth 100000 in
theorem lawCT_okSome (x : CX) (y : CX) (s : List UInt8) (w : World) (hv : EVars w) (hl : largeB x = false) (hs : s.length ≤ 300) (h : cmdE x = 0) (hy : parseC s = some y) :
    Calls Tryz.prog 5 #[x.value, .string (str s)] w fun e w' => e = .returned (.bool true) ∧ Below w.heap.size w w' := by
  obtain ⟨W, hW⟩ : ∃ W, W = w.alloc (.cells x.cells 23) := ⟨_, rfl⟩
  have hbW : Hid (Below w.heap.size w W) := by subst hW; exact (Below.refl _ _).alloc (Nat.le_refl _) _
  have hB : Hid (Blk W w.heap.size 23 x.cells) := by subst hW; exact Blk.new _ _ _
  have HL := large_calls x W
  rw [hl] at HL
  have HL := Lib.hid HL
  obtain ⟨l1, l2, l3⟩ := largeB_no hl
  have hsx : x.short := ⟨by omega, by omega, by omega⟩
  have hv' := Lib.hid hv
  have z2 := str_size s
  have g2 : decide ((300 : Int) < (s.length : Int)) = false := decide_eq_false (by omega)
  have HC := fun w1 => refcheck_calls x w1 hsx
  obtain ⟨kc, kf, hlt⟩ := hB.out.facts
  have hok := cmd_ok h
  rw [h] at HC
  have HR := Lib.hid (fun w1 => reftext_calls x w1 hok)
  have HP := Lib.hid (fun w1 hv => cparse_some (parseC_text h) w1 (Nat.le_trans (cmdT_len hok) (by decide)) hv)
  have HT := Lib.hid (fun w1 hv => cmdtext_ok x w1 hv h)
  have hne := cmdT_ne x h
  clear hok
  generalize cmdT x = T at *
  have e1 : ((str T).toList == (str T).toList) = true := beq_self_eq_true _
  have e2 : ¬ (str T).toList = [] := by rw [str_toList]; exact hne
  have e3 : ((str T).toList == []) = false := by rw [beq_eq_false_iff_ne, str_toList]; exact hne
  have e4 : (str T).toList.isEmpty = false := by rw [str_toList, List.isEmpty_eq_false_iff]; exact hne
  obtain ⟨y1, y2⟩ := parseC_some hy
  have HQ := Lib.hid (fun w1 hv => cparse_some hy w1 (Nat.le_trans hs (by decide)) hv)
  have yok := cmd_ok y1
  have HYC := fun w1 => refcheck_calls y w1 yok.tiny.short
  rw [y1] at HYC
  have HYC := Lib.hid HYC
  have HYR := fun w1 => reftext_calls y w1 yok
  rw [y2] at HYR
  have HYR := Lib.hid HYR
  have e9 : ((str s).toList == (str s).toList) = true := beq_self_eq_true _
  have HC := Lib.hid HC
  clear hv hl hsx l1 l2 l3 hs h hy hne y1 y2 yok
  go_enter Tryz.func5, Tryz.ntmps5
  go_wp2_with (fail)
  rw [← hW]
  clear hW
  refine HL.out.mono ?_
  rintro e w0 ⟨rfl, hb⟩
  have hB1 := Lib.hid (hB.out.call hb)
  have hb1 : Hid (Below w.heap.size w w0) := hbW.out.trans (hb.mono hbW.out.size)
  clear kc kf hlt hb hB hbW
  have hB := hB1
  have hbW := hb1
  clear hB1 hb1
  obtain ⟨kc, kf, hlt⟩ := hB.out.facts
  go_wp2_with (fail)
  refine (HC.out _).mono ?_
  rintro e w1 ⟨rfl, hb⟩
  have hB1 := Lib.hid (hB.out.call hb)
  have hb1 : Hid (Below w.heap.size w w1) := hbW.out.trans (hb.mono hbW.out.size)
  clear kc kf hlt hb hB hbW
  have hB := hB1
  have hbW := hb1
  clear hB1 hb1
  obtain ⟨kc, kf, hlt⟩ := hB.out.facts
  go_wp2_with (fail)
  refine (HR.out _).mono ?_
  rintro e w2 ⟨rfl, hb⟩
  have hB1 := Lib.hid (hB.out.call hb)
  have hb1 : Hid (Below w.heap.size w w2) := hbW.out.trans (hb.mono hbW.out.size)
  clear kc kf hlt hb hB hbW
  have hB := hB1
  have hbW := hb1
  clear hB1 hb1
  obtain ⟨kc, kf, hlt⟩ := hB.out.facts
  go_wp2_with (fail)
  refine (HP.out _ (hv'.out.below hbW.out)).mono ?_
  rintro e w3 ⟨rfl, hb⟩
  obtain ⟨X, hX⟩ : ∃ X, X = w3.alloc (.cells x.cells 23) := ⟨_, rfl⟩
  obtain ⟨b6, hb6⟩ : ∃ b6, b6 = w3.heap.size := ⟨_, rfl⟩
  have hbX : Below w3.heap.size w3 X := by subst hX; exact (Below.refl _ _).alloc (Nat.le_refl _) _
  have h6 : Hid (Blk X b6 23 x.cells) := by subst hX hb6; exact Blk.new _ _ _
  have hB3 := Lib.hid ((hB.out.call hb).call hbX)
  have hb3 : Hid (Below w.heap.size w X) := (hbW.out.trans (hb.mono hbW.out.size)).trans (hbX.mono (Nat.le_trans hbW.out.size hb.size))
  clear kc kf hlt hb hB hbW HP hbX
  obtain ⟨kc, kf, hlt⟩ := hB3.out.facts
  go_wp2_with (fail)
  rw [← hX, ← hb6]
  clear hX hb6
  refine (HQ.out _ (hv'.out.below hb3.out)).mono ?_
  rintro e w4 ⟨rfl, hb⟩
  obtain ⟨Y, hY⟩ : ∃ Y, Y = w4.alloc (.cells y.cells 23) := ⟨_, rfl⟩
  obtain ⟨b8, hb8⟩ : ∃ b8, b8 = w4.heap.size := ⟨_, rfl⟩
  have hbY : Below w4.heap.size w4 Y := by subst hY; exact (Below.refl _ _).alloc (Nat.le_refl _) _
  have h8 : Hid (Blk Y b8 23 y.cells) := by subst hY hb8; exact Blk.new _ _ _
  have hB4 := Lib.hid ((hB3.out.call hb).call hbY)
  have h64 := Lib.hid ((h6.out.call hb).call hbY)
  have hb4 : Hid (Below w.heap.size w Y) := (hb3.out.trans (hb.mono hb3.out.size)).trans (hbY.mono (Nat.le_trans hb3.out.size hb.size))
  clear kc kf hlt hb hB3 hb3 HQ hbY h6
  obtain ⟨kc, kf, hlt⟩ := hB4.out.facts
  rw [hY] at kc kf hlt
  go_wp2_with (fail)
  rw [← hY, ← hb8]
  clear kc kf hlt hY hb8
  refine (HT.out _ (hv'.out.below hb4.out).a).mono ?_
  rintro e w5 ⟨rfl, hb⟩
  have hB5 := hB4.out.call hb
  have h65 := h64.out.call hb
  have h85 := Lib.hid (h8.out.call hb)
  have hb5 : Hid (Below w.heap.size w w5) := hb4.out.trans (hb.mono hb4.out.size)
  clear hb hB4 hb4 h64 h8 HT
  obtain ⟨kc, kf, hlt⟩ := hB5.facts
  obtain ⟨kd, kg, hlu⟩ := h65.facts
  obtain ⟨ke, kh, hlw⟩ := h85.out.facts
  clear hB5 h65
  go_wp2_with (fail)
  refine (HYC.out _).mono ?_
  rintro e w6 ⟨rfl, hb⟩
  have h86 := Lib.hid (h85.out.call hb)
  have hb6 : Hid (Below w.heap.size w w6) := hb5.out.trans (hb.mono hb5.out.size)
  clear kc kf hlt kd kg hlu ke kh hlw hb h85 hb5 HYC
  obtain ⟨ke, kh, hlw⟩ := h86.out.facts
  go_wp2_with (fail)
  refine (HYR.out _).mono ?_
  rintro e w7 ⟨rfl, hb⟩
  have hb5 : Hid (Below w.heap.size w w7) := hb6.out.trans (hb.mono hb6.out.size)
  clear ke kh hlw hb h86 hb6 HYR
  go_wp2_with (fail)
  refine (awakeC_calls _ (hv'.out.below hb5.out).a).mono ?_
  rintro e w9 ⟨rfl, hb⟩
  have hb9 : Hid (Below w.heap.size w w9) := hb5.out.trans (hb.mono hb5.out.size)
  clear hb
  go_wp2_with (fail)
  go_ret
  exact ⟨rfl, hb9.out⟩
set_option maxHeartbeats 8000000 in
set_option maxRecDepth 100000 in
theorem lawCT_okNone (x : CX) (s : List UInt8) (w : World) (hv : EVars w) (hl : largeB x = false) (hs : s.length ≤ 300) (h : cmdE x = 0) (hy : parseC s = none) :
    Calls Tryz.prog 5 #[x.value, .string (str s)] w fun e w' => e = .returned (.bool true) ∧ Below w.heap.size w w' := by
  obtain ⟨W, hW⟩ : ∃ W, W = w.alloc (.cells x.cells 23) := ⟨_, rfl⟩
  have hbW : Hid (Below w.heap.size w W) := by subst hW; exact (Below.refl _ _).alloc (Nat.le_refl _) _
  have hB : Hid (Blk W w.heap.size 23 x.cells) := by subst hW; exact Blk.new _ _ _
  have HL := large_calls x W
  rw [hl] at HL
  have HL := Lib.hid HL
  obtain ⟨l1, l2, l3⟩ := largeB_no hl
  have hsx : x.short := ⟨by omega, by omega, by omega⟩
  have hv' := Lib.hid hv
  have z2 := str_size s
  have g2 : decide ((300 : Int) < (s.length : Int)) = false := decide_eq_false (by omega)
  have HC := fun w1 => refcheck_calls x w1 hsx
  obtain ⟨kc, kf, hlt⟩ := hB.out.facts
  have hok := cmd_ok h
  rw [h] at HC
  have HR := Lib.hid (fun w1 => reftext_calls x w1 hok)
  have HP := Lib.hid (fun w1 hv => cparse_some (parseC_text h) w1 (Nat.le_trans (cmdT_len hok) (by decide)) hv)
  have HT := Lib.hid (fun w1 hv => cmdtext_ok x w1 hv h)
  have hne := cmdT_ne x h
  clear hok
  generalize cmdT x = T at *
  have e1 : ((str T).toList == (str T).toList) = true := beq_self_eq_true _
  have e2 : ¬ (str T).toList = [] := by rw [str_toList]; exact hne
  have e3 : ((str T).toList == []) = false := by rw [beq_eq_false_iff_ne, str_toList]; exact hne
  have e4 : (str T).toList.isEmpty = false := by rw [str_toList, List.isEmpty_eq_false_iff]; exact hne
  have HQ := Lib.hid (fun w1 hv => cparse_none hy w1 (Nat.le_trans hs (by decide)) hv)
  have HC := Lib.hid HC
  clear hv hl hsx l1 l2 l3 hs h hy hne 
  go_enter Tryz.func5, Tryz.ntmps5
  go_wp2_with (fail)
  rw [← hW]
  clear hW
  refine HL.out.mono ?_
  rintro e w0 ⟨rfl, hb⟩
  have hB1 := Lib.hid (hB.out.call hb)
  have hb1 : Hid (Below w.heap.size w w0) := hbW.out.trans (hb.mono hbW.out.size)
  clear kc kf hlt hb hB hbW
  have hB := hB1
  have hbW := hb1
  clear hB1 hb1
  obtain ⟨kc, kf, hlt⟩ := hB.out.facts
  go_wp2_with (fail)
  refine (HC.out _).mono ?_
  rintro e w1 ⟨rfl, hb⟩
  have hB1 := Lib.hid (hB.out.call hb)
  have hb1 : Hid (Below w.heap.size w w1) := hbW.out.trans (hb.mono hbW.out.size)
  clear kc kf hlt hb hB hbW
  have hB := hB1
  have hbW := hb1
  clear hB1 hb1
  obtain ⟨kc, kf, hlt⟩ := hB.out.facts
  go_wp2_with (fail)
  refine (HR.out _).mono ?_
  rintro e w2 ⟨rfl, hb⟩
  have hB1 := Lib.hid (hB.out.call hb)
  have hb1 : Hid (Below w.heap.size w w2) := hbW.out.trans (hb.mono hbW.out.size)
  clear kc kf hlt hb hB hbW
  have hB := hB1
  have hbW := hb1
  clear hB1 hb1
  obtain ⟨kc, kf, hlt⟩ := hB.out.facts
  go_wp2_with (fail)
  refine (HP.out _ (hv'.out.below hbW.out)).mono ?_
  rintro e w3 ⟨rfl, hb⟩
  obtain ⟨X, hX⟩ : ∃ X, X = w3.alloc (.cells x.cells 23) := ⟨_, rfl⟩
  obtain ⟨b6, hb6⟩ : ∃ b6, b6 = w3.heap.size := ⟨_, rfl⟩
  have hbX : Below w3.heap.size w3 X := by subst hX; exact (Below.refl _ _).alloc (Nat.le_refl _) _
  have h6 : Hid (Blk X b6 23 x.cells) := by subst hX hb6; exact Blk.new _ _ _
  have hB3 := Lib.hid ((hB.out.call hb).call hbX)
  have hb3 : Hid (Below w.heap.size w X) := (hbW.out.trans (hb.mono hbW.out.size)).trans (hbX.mono (Nat.le_trans hbW.out.size hb.size))
  clear kc kf hlt hb hB hbW HP hbX
  obtain ⟨kc, kf, hlt⟩ := hB3.out.facts
  go_wp2_with (fail)
  rw [← hX, ← hb6]
  clear hX hb6
  refine (HQ.out _ (hv'.out.below hb3.out)).mono ?_
  rintro e w4 ⟨rfl, hb⟩
  obtain ⟨Y, hY⟩ : ∃ Y, Y = w4.alloc (.cells #[.int .i64 0, .int .i64 0, .int .i64 0, .string ⟨#[]⟩, .string ⟨#[]⟩, .string ⟨#[]⟩, .int .i64 0] 23) := ⟨_, rfl⟩
  obtain ⟨b8, hb8⟩ : ∃ b8, b8 = w4.heap.size := ⟨_, rfl⟩
  have hbY : Below w4.heap.size w4 Y := by subst hY; exact (Below.refl _ _).alloc (Nat.le_refl _) _
  have h8 : Hid (Blk Y b8 23 #[.int .i64 0, .int .i64 0, .int .i64 0, .string ⟨#[]⟩, .string ⟨#[]⟩, .string ⟨#[]⟩, .int .i64 0]) := by subst hY hb8; exact Blk.new _ _ _
  have hB4 := Lib.hid ((hB3.out.call hb).call hbY)
  have h64 := Lib.hid ((h6.out.call hb).call hbY)
  have hb4 : Hid (Below w.heap.size w Y) := (hb3.out.trans (hb.mono hb3.out.size)).trans (hbY.mono (Nat.le_trans hb3.out.size hb.size))
  clear kc kf hlt hb hB3 hb3 HQ hbY h6
  obtain ⟨kc, kf, hlt⟩ := hB4.out.facts
  rw [hY] at kc kf hlt
  go_wp2_with (fail)
  rw [← hY, ← hb8]
  clear kc kf hlt hY hb8
  refine (HT.out _ (hv'.out.below hb4.out).a).mono ?_
  rintro e w5 ⟨rfl, hb⟩
  have hB5 := hB4.out.call hb
  have h65 := h64.out.call hb
  have h85 := Lib.hid (h8.out.call hb)
  have hb5 : Hid (Below w.heap.size w w5) := hb4.out.trans (hb.mono hb4.out.size)
  clear hb hB4 hb4 h64 h8 HT
  obtain ⟨kc, kf, hlt⟩ := hB5.facts
  obtain ⟨kd, kg, hlu⟩ := h65.facts
  obtain ⟨ke, kh, hlw⟩ := h85.out.facts
  clear hB5 h65
  go_wp2_with (fail)
  refine (awakeC_calls _ (hv'.out.below hb5.out).a).mono ?_
  rintro e w9 ⟨rfl, hb⟩
  have hb9 : Hid (Below w.heap.size w w9) := hb5.out.trans (hb.mono hb5.out.size)
  clear hb
  go_wp2_with (fail)
  go_ret
  exact ⟨rfl, hb9.out⟩
set_option maxHeartbeats 8000000 in
set_option maxRecDepth 100000 in
theorem lawCT_noSome (x : CX) (y : CX) (s : List UInt8) (w : World) (hv : EVars w) (hl : largeB x = false) (hs : s.length ≤ 300) (h : cmdE x ≠ 0) (hy : parseC s = some y) :
    Calls Tryz.prog 5 #[x.value, .string (str s)] w fun e w' => e = .returned (.bool true) ∧ Below w.heap.size w w' := by
  obtain ⟨W, hW⟩ : ∃ W, W = w.alloc (.cells x.cells 23) := ⟨_, rfl⟩
  have hbW : Hid (Below w.heap.size w W) := by subst hW; exact (Below.refl _ _).alloc (Nat.le_refl _) _
  have hB : Hid (Blk W w.heap.size 23 x.cells) := by subst hW; exact Blk.new _ _ _
  have HL := large_calls x W
  rw [hl] at HL
  have HL := Lib.hid HL
  obtain ⟨l1, l2, l3⟩ := largeB_no hl
  have hsx : x.short := ⟨by omega, by omega, by omega⟩
  have hv' := Lib.hid hv
  have z2 := str_size s
  have g2 : decide ((300 : Int) < (s.length : Int)) = false := decide_eq_false (by omega)
  have HC := fun w1 => refcheck_calls x w1 hsx
  obtain ⟨kc, kf, hlt⟩ := hB.out.facts
  have q0 : (cmdE x == 0) = false := beq_eq_false_iff_ne.2 h
  have HP : ∀ w1, EVars w1 → Calls Tryz.prog 22 #[.string ⟨#[]⟩] w1 fun e w' => e = .returned (.tuple #[.agg #[.int .i64 0, .int .i64 0, .int .i64 0, .string ⟨#[]⟩, .string ⟨#[]⟩, .string ⟨#[]⟩, .int .i64 0], .int .i64 3]) ∧ Below w1.heap.size w1 w' := fun w1 hv => cparse_none parseC_nil w1 (Nat.zero_le _) hv
  have HP := Lib.hid HP
  have HT := Lib.hid (fun w1 (hv : AVars w1) => cmdtext_no x w1 hsx hv.q.tab h)
  generalize cmdE x = bad at *
  obtain ⟨y1, y2⟩ := parseC_some hy
  have HQ := Lib.hid (fun w1 hv => cparse_some hy w1 (Nat.le_trans hs (by decide)) hv)
  have yok := cmd_ok y1
  have HYC := fun w1 => refcheck_calls y w1 yok.tiny.short
  rw [y1] at HYC
  have HYC := Lib.hid HYC
  have HYR := fun w1 => reftext_calls y w1 yok
  rw [y2] at HYR
  have HYR := Lib.hid HYR
  have e9 : ((str s).toList == (str s).toList) = true := beq_self_eq_true _
  have HC := Lib.hid HC
  clear hv hl hsx l1 l2 l3 hs h hy  y1 y2 yok
  go_enter Tryz.func5, Tryz.ntmps5
  go_wp2_with (fail)
  rw [← hW]
  clear hW
  refine HL.out.mono ?_
  rintro e w0 ⟨rfl, hb⟩
  have hB1 := Lib.hid (hB.out.call hb)
  have hb1 : Hid (Below w.heap.size w w0) := hbW.out.trans (hb.mono hbW.out.size)
  clear kc kf hlt hb hB hbW
  have hB := hB1
  have hbW := hb1
  clear hB1 hb1
  obtain ⟨kc, kf, hlt⟩ := hB.out.facts
  go_wp2_with (fail)
  refine (HC.out _).mono ?_
  rintro e w1 ⟨rfl, hb⟩
  have hB1 := Lib.hid (hB.out.call hb)
  have hb1 : Hid (Below w.heap.size w w1) := hbW.out.trans (hb.mono hbW.out.size)
  clear kc kf hlt hb hB hbW
  have hB := hB1
  have hbW := hb1
  clear hB1 hb1
  obtain ⟨kc, kf, hlt⟩ := hB.out.facts
  go_wp2_with (fail)
  refine (HP.out _ (hv'.out.below hbW.out)).mono ?_
  rintro e w3 ⟨rfl, hb⟩
  obtain ⟨X, hX⟩ : ∃ X, X = w3.alloc (.cells #[.int .i64 0, .int .i64 0, .int .i64 0, .string ⟨#[]⟩, .string ⟨#[]⟩, .string ⟨#[]⟩, .int .i64 0] 23) := ⟨_, rfl⟩
  obtain ⟨b6, hb6⟩ : ∃ b6, b6 = w3.heap.size := ⟨_, rfl⟩
  have hbX : Below w3.heap.size w3 X := by subst hX; exact (Below.refl _ _).alloc (Nat.le_refl _) _
  have h6 : Hid (Blk X b6 23 #[.int .i64 0, .int .i64 0, .int .i64 0, .string ⟨#[]⟩, .string ⟨#[]⟩, .string ⟨#[]⟩, .int .i64 0]) := by subst hX hb6; exact Blk.new _ _ _
  have hB3 := Lib.hid ((hB.out.call hb).call hbX)
  have hb3 : Hid (Below w.heap.size w X) := (hbW.out.trans (hb.mono hbW.out.size)).trans (hbX.mono (Nat.le_trans hbW.out.size hb.size))
  clear kc kf hlt hb hB hbW HP hbX
  obtain ⟨kc, kf, hlt⟩ := hB3.out.facts
  go_wp2_with (fail)
  rw [← hX, ← hb6]
  clear hX hb6
  refine (HQ.out _ (hv'.out.below hb3.out)).mono ?_
  rintro e w4 ⟨rfl, hb⟩
  obtain ⟨Y, hY⟩ : ∃ Y, Y = w4.alloc (.cells y.cells 23) := ⟨_, rfl⟩
  obtain ⟨b8, hb8⟩ : ∃ b8, b8 = w4.heap.size := ⟨_, rfl⟩
  have hbY : Below w4.heap.size w4 Y := by subst hY; exact (Below.refl _ _).alloc (Nat.le_refl _) _
  have h8 : Hid (Blk Y b8 23 y.cells) := by subst hY hb8; exact Blk.new _ _ _
  have hB4 := Lib.hid ((hB3.out.call hb).call hbY)
  have h64 := Lib.hid ((h6.out.call hb).call hbY)
  have hb4 : Hid (Below w.heap.size w Y) := (hb3.out.trans (hb.mono hb3.out.size)).trans (hbY.mono (Nat.le_trans hb3.out.size hb.size))
  clear kc kf hlt hb hB3 hb3 HQ hbY h6
  obtain ⟨kc, kf, hlt⟩ := hB4.out.facts
  rw [hY] at kc kf hlt
  go_wp2_with (fail)
  rw [← hY, ← hb8]
  clear kc kf hlt hY hb8
  refine (HT.out _ (hv'.out.below hb4.out).a).mono ?_
  rintro e w5 ⟨rfl, hb⟩
  have hB5 := hB4.out.call hb
  have h65 := h64.out.call hb
  have h85 := Lib.hid (h8.out.call hb)
  have hb5 : Hid (Below w.heap.size w w5) := hb4.out.trans (hb.mono hb4.out.size)
  clear hb hB4 hb4 h64 h8 HT
  obtain ⟨kc, kf, hlt⟩ := hB5.facts
  obtain ⟨kd, kg, hlu⟩ := h65.facts
  obtain ⟨ke, kh, hlw⟩ := h85.out.facts
  clear hB5 h65
  go_wp2_with (fail)
  refine (HYC.out _).mono ?_
  rintro e w6 ⟨rfl, hb⟩
  have h86 := Lib.hid (h85.out.call hb)
  have hb6 : Hid (Below w.heap.size w w6) := hb5.out.trans (hb.mono hb5.out.size)
  clear kc kf hlt kd kg hlu ke kh hlw hb h85 hb5 HYC
  obtain ⟨ke, kh, hlw⟩ := h86.out.facts
  go_wp2_with (fail)
  refine (HYR.out _).mono ?_
  rintro e w7 ⟨rfl, hb⟩
  have hb5 : Hid (Below w.heap.size w w7) := hb6.out.trans (hb.mono hb6.out.size)
  clear ke kh hlw hb h86 hb6 HYR
  go_wp2_with (fail)
  refine (awakeC_calls _ (hv'.out.below hb5.out).a).mono ?_
  rintro e w9 ⟨rfl, hb⟩
  have hb9 : Hid (Below w.heap.size w w9) := hb5.out.trans (hb.mono hb5.out.size)
  clear hb
  go_wp2_with (fail)
  go_ret
  exact ⟨rfl, hb9.out⟩
set_option maxHeartbeats 8000000 in
set_option maxRecDepth 100000 in
theorem lawCT_noNone (x : CX) (s : List UInt8) (w : World) (hv : EVars w) (hl : largeB x = false) (hs : s.length ≤ 300) (h : cmdE x ≠ 0) (hy : parseC s = none) :
    Calls Tryz.prog 5 #[x.value, .string (str s)] w fun e w' => e = .returned (.bool true) ∧ Below w.heap.size w w' := by
  obtain ⟨W, hW⟩ : ∃ W, W = w.alloc (.cells x.cells 23) := ⟨_, rfl⟩
  have hbW : Hid (Below w.heap.size w W) := by subst hW; exact (Below.refl _ _).alloc (Nat.le_refl _) _
  have hB : Hid (Blk W w.heap.size 23 x.cells) := by subst hW; exact Blk.new _ _ _
  have HL := large_calls x W
  rw [hl] at HL
  have HL := Lib.hid HL
  obtain ⟨l1, l2, l3⟩ := largeB_no hl
  have hsx : x.short := ⟨by omega, by omega, by omega⟩
  have hv' := Lib.hid hv
  have z2 := str_size s
  have g2 : decide ((300 : Int) < (s.length : Int)) = false := decide_eq_false (by omega)
  have HC := fun w1 => refcheck_calls x w1 hsx
  obtain ⟨kc, kf, hlt⟩ := hB.out.facts
  have q0 : (cmdE x == 0) = false := beq_eq_false_iff_ne.2 h
  have HP : ∀ w1, EVars w1 → Calls Tryz.prog 22 #[.string ⟨#[]⟩] w1 fun e w' => e = .returned (.tuple #[.agg #[.int .i64 0, .int .i64 0, .int .i64 0, .string ⟨#[]⟩, .string ⟨#[]⟩, .string ⟨#[]⟩, .int .i64 0], .int .i64 3]) ∧ Below w1.heap.size w1 w' := fun w1 hv => cparse_none parseC_nil w1 (Nat.zero_le _) hv
  have HP := Lib.hid HP
  have HT := Lib.hid (fun w1 (hv : AVars w1) => cmdtext_no x w1 hsx hv.q.tab h)
  generalize cmdE x = bad at *
  have HQ := Lib.hid (fun w1 hv => cparse_none hy w1 (Nat.le_trans hs (by decide)) hv)
  have HC := Lib.hid HC
  clear hv hl hsx l1 l2 l3 hs h hy  
  go_enter Tryz.func5, Tryz.ntmps5
  go_wp2_with (fail)
  rw [← hW]
  clear hW
  refine HL.out.mono ?_
  rintro e w0 ⟨rfl, hb⟩
  have hB1 := Lib.hid (hB.out.call hb)
  have hb1 : Hid (Below w.heap.size w w0) := hbW.out.trans (hb.mono hbW.out.size)
  clear kc kf hlt hb hB hbW
  have hB := hB1
  have hbW := hb1
  clear hB1 hb1
  obtain ⟨kc, kf, hlt⟩ := hB.out.facts
  go_wp2_with (fail)
  refine (HC.out _).mono ?_
  rintro e w1 ⟨rfl, hb⟩
  have hB1 := Lib.hid (hB.out.call hb)
  have hb1 : Hid (Below w.heap.size w w1) := hbW.out.trans (hb.mono hbW.out.size)
  clear kc kf hlt hb hB hbW
  have hB := hB1
  have hbW := hb1
  clear hB1 hb1
  obtain ⟨kc, kf, hlt⟩ := hB.out.facts
  go_wp2_with (fail)
  refine (HP.out _ (hv'.out.below hbW.out)).mono ?_
  rintro e w3 ⟨rfl, hb⟩
  obtain ⟨X, hX⟩ : ∃ X, X = w3.alloc (.cells #[.int .i64 0, .int .i64 0, .int .i64 0, .string ⟨#[]⟩, .string ⟨#[]⟩, .string ⟨#[]⟩, .int .i64 0] 23) := ⟨_, rfl⟩
  obtain ⟨b6, hb6⟩ : ∃ b6, b6 = w3.heap.size := ⟨_, rfl⟩
  have hbX : Below w3.heap.size w3 X := by subst hX; exact (Below.refl _ _).alloc (Nat.le_refl _) _
  have h6 : Hid (Blk X b6 23 #[.int .i64 0, .int .i64 0, .int .i64 0, .string ⟨#[]⟩, .string ⟨#[]⟩, .string ⟨#[]⟩, .int .i64 0]) := by subst hX hb6; exact Blk.new _ _ _
  have hB3 := Lib.hid ((hB.out.call hb).call hbX)
  have hb3 : Hid (Below w.heap.size w X) := (hbW.out.trans (hb.mono hbW.out.size)).trans (hbX.mono (Nat.le_trans hbW.out.size hb.size))
  clear kc kf hlt hb hB hbW HP hbX
  obtain ⟨kc, kf, hlt⟩ := hB3.out.facts
  go_wp2_with (fail)
  rw [← hX, ← hb6]
  clear hX hb6
  refine (HQ.out _ (hv'.out.below hb3.out)).mono ?_
  rintro e w4 ⟨rfl, hb⟩
  obtain ⟨Y, hY⟩ : ∃ Y, Y = w4.alloc (.cells #[.int .i64 0, .int .i64 0, .int .i64 0, .string ⟨#[]⟩, .string ⟨#[]⟩, .string ⟨#[]⟩, .int .i64 0] 23) := ⟨_, rfl⟩
  obtain ⟨b8, hb8⟩ : ∃ b8, b8 = w4.heap.size := ⟨_, rfl⟩
  have hbY : Below w4.heap.size w4 Y := by subst hY; exact (Below.refl _ _).alloc (Nat.le_refl _) _
  have h8 : Hid (Blk Y b8 23 #[.int .i64 0, .int .i64 0, .int .i64 0, .string ⟨#[]⟩, .string ⟨#[]⟩, .string ⟨#[]⟩, .int .i64 0]) := by subst hY hb8; exact Blk.new _ _ _
  have hB4 := Lib.hid ((hB3.out.call hb).call hbY)
  have h64 := Lib.hid ((h6.out.call hb).call hbY)
  have hb4 : Hid (Below w.heap.size w Y) := (hb3.out.trans (hb.mono hb3.out.size)).trans (hbY.mono (Nat.le_trans hb3.out.size hb.size))
  clear kc kf hlt hb hB3 hb3 HQ hbY h6
  obtain ⟨kc, kf, hlt⟩ := hB4.out.facts
  rw [hY] at kc kf hlt
  go_wp2_with (fail)
  rw [← hY, ← hb8]
  clear kc kf hlt hY hb8
  refine (HT.out _ (hv'.out.below hb4.out).a).mono ?_
  rintro e w5 ⟨rfl, hb⟩
  have hB5 := hB4.out.call hb
  have h65 := h64.out.call hb
  have h85 := Lib.hid (h8.out.call hb)
  have hb5 : Hid (Below w.heap.size w w5) := hb4.out.trans (hb.mono hb4.out.size)
  clear hb hB4 hb4 h64 h8 HT
  obtain ⟨kc, kf, hlt⟩ := hB5.facts
  obtain ⟨kd, kg, hlu⟩ := h65.facts
  obtain ⟨ke, kh, hlw⟩ := h85.out.facts
  clear hB5 h65
  go_wp2_with (fail)
  refine (awakeC_calls _ (hv'.out.below hb5.out).a).mono ?_
  rintro e w9 ⟨rfl, hb⟩
  have hb9 : Hid (Below w.heap.size w w9) := hb5.out.trans (hb.mono hb5.out.size)
  clear hb
  go_wp2_with (fail)
  go_ret
  exact ⟨rfl, hb9.out⟩
set_option maxHeartbeats 2000000 in
/-- a text too long. -/
theorem lawCT_long (x : CX) (s : List UInt8) (w : World) (hv : EVars w) (h : largeB x = true ∨ (largeB x = false ∧ 300 < s.length)) :
    Calls Tryz.prog 5 #[x.value, .string (str s)] w fun e w' => e = .returned (.bool true) ∧ Below w.heap.size w w' := by
  have hv' := Lib.hid hv
  have z2 := str_size s
  obtain ⟨W, hW⟩ : ∃ W, W = w.alloc (.cells x.cells 23) := ⟨_, rfl⟩
  have hbW : Hid (Below w.heap.size w W) := by subst hW; exact (Below.refl _ _).alloc (Nat.le_refl _) _
  have hB : Hid (Blk W w.heap.size 23 x.cells) := by subst hW; exact Blk.new _ _ _
  obtain ⟨kc, kf, hlt⟩ := hB.out.facts
  have HL := large_calls x W
  have hc : largeB x = true ∨ (largeB x = false ∧ decide ((300 : Int) < (s.length : Int)) = true) := h.imp id (fun h => ⟨h.1, decide_eq_true (by have := h.2; omega)⟩)
  clear hv h
  rcases hc with d1 | ⟨d1, d2⟩
  all_goals
    rw [d1] at HL
    have HL := Lib.hid HL
    clear d1
    go_enter Tryz.func5, Tryz.ntmps5
    go_wp2_with (fail)
    rw [← hW]
    clear hW
    refine HL.out.mono ?_
    rintro e w0 ⟨rfl, hb⟩
    have hb0 : Hid (Below w.heap.size w w0) := hbW.out.trans (hb.mono hbW.out.size)
    clear kc kf hlt hb hbW hB
    go_wp2_with (fail)
    refine (awakeC_calls _ (hv'.out.below hb0.out).a).mono ?_
    rintro e w1 ⟨rfl, hb⟩
    have hb1 : Hid (Below w.heap.size w w1) := hb0.out.trans (hb.mono hb0.out.size)
    clear hb
    go_wp2_with (fail)
    go_ret
    exact ⟨rfl, hb1.out⟩
theorem lawCT_calls (x : CX) (s : List UInt8) (w : World) (hv : EVars w) :
    Calls Tryz.prog 5 #[x.value, .string (str s)] w fun e w' => e = .returned (.bool true) ∧ Below w.heap.size w w' := by
  by_cases h1 : largeB x = true
  · exact lawCT_long x s w hv (.inl h1)
  have h1 : largeB x = false := by simpa using h1
  by_cases h2 : 300 < s.length
  · exact lawCT_long x s w hv (.inr ⟨h1, h2⟩)
  cases hy : parseC s with
  | none =>
    by_cases h : cmdE x = 0
    · exact lawCT_okNone x s w hv h1 (by omega) h hy
    · exact lawCT_noNone x s w hv h1 (by omega) h hy
  | some y =>
    by_cases h : cmdE x = 0
    · exact lawCT_okSome x y s w hv h1 (by omega) h hy
    · exact lawCT_noSome x y s w hv h1 (by omega) h hy
end Go.Proofs.YtdgbpmbknlhgmaaGreatDoor
