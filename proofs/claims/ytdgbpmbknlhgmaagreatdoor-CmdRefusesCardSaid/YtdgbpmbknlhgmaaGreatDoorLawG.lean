/-
The walk through the law CmdRefuses: what is looked at. (Printed by gen_lawg.py.)
-/
import Derived.Test.YtdgbpmbknlhgmaaGreatDoorLawF
import Derived.Deep.RegionHeld3
set_option linter.unusedVariables false
set_option linter.unusedSimpArgs false
namespace Go.Proofs.YtdgbpmbknlhgmaaGreatDoor
open Go.RowKit Qt Vm

set_option maxHeartbeats 4000000 in
set_option maxRecDepth 100000 in
theorem lawRef_old (x : CX) (w : World) (hv : AVars w) (hl : largeB x = false) (hn : x.nat) (h : x.old ≠ []) :
    Calls Tryz.prog 4 #[.int .i64 1, x.value] w fun e w' => e = .returned (.bool true) ∧ Below w.heap.size w w' := by
  obtain ⟨W, hW⟩ : ∃ W, W = w.alloc (.cells x.cells 23) := ⟨_, rfl⟩
  have hbW : Hid (Below w.heap.size w W) := by subst hW; exact (Below.refl _ _).alloc (Nat.le_refl _) _
  have hB : Hid (Blk W w.heap.size 23 x.cells) := by subst hW; exact Blk.new _ _ _
  have HL := large_calls x W
  obtain ⟨l1, l2, l3⟩ := largeB_no hl
  rw [hl] at HL
  have HL := Lib.hid HL
  have hv' := Lib.hid hv
  obtain ⟨kc, kf, hlt⟩ := hB.out.facts
  have d3 : decide (x.kind < 0) = false := decide_eq_false (by have := hn.1; omega)
  have d4 : decide (x.client < 0) = false := decide_eq_false (by have := hn.2.1; omega)
  have d5 : decide (x.seq < 0) = false := decide_eq_false (by have := hn.2.2.1; omega)
  have d6 : decide (x.node < 0) = false := decide_eq_false (by have := hn.2.2.2; omega)
  have e1 : ¬ (str x.old).toList = [] := by rw [str_toList]; exact h

  clear hv hl hn l1 l2 l3 h
  go_enter Tryz.func4, Tryz.ntmps4
  go_wp2_with (fail)
  rw [← hW]
  clear hW
  refine HL.out.mono ?_
  rintro e w1 ⟨rfl, hb⟩
  have hB1 := Lib.hid (hB.out.call hb)
  have hb1 : Hid (Below w.heap.size w w1) := hbW.out.trans (hb.mono hbW.out.size)
  clear kc kf hlt hb HL hB
  obtain ⟨kc, kf, hlt⟩ := hB1.out.facts
  go_wp2_with (fail)
  refine (awakeC_calls _ (hv'.out.below hb1.out)).mono ?_
  rintro e w2 ⟨rfl, hb⟩
  have hb2 : Hid (Below w.heap.size w w2) := hb1.out.trans (hb.mono hb1.out.size)
  clear hb
  go_wp2_with (fail)
  go_ret
  exact ⟨rfl, hb2.out⟩
set_option maxHeartbeats 4000000 in
set_option maxRecDepth 100000 in
theorem lawRef_one0 (x : CX) (w : World) (hv : AVars w) (hl : largeB x = false) (hn : x.nat) (ho : x.old = []) (h : x.kind < 1) :
    Calls Tryz.prog 4 #[.int .i64 1, x.value] w fun e w' => e = .returned (.bool true) ∧ Below w.heap.size w w' := by
  obtain ⟨W, hW⟩ : ∃ W, W = w.alloc (.cells x.cells 23) := ⟨_, rfl⟩
  have hbW : Hid (Below w.heap.size w W) := by subst hW; exact (Below.refl _ _).alloc (Nat.le_refl _) _
  have hB : Hid (Blk W w.heap.size 23 x.cells) := by subst hW; exact Blk.new _ _ _
  have HL := large_calls x W
  obtain ⟨l1, l2, l3⟩ := largeB_no hl
  rw [hl] at HL
  have HL := Lib.hid HL
  have hv' := Lib.hid hv
  obtain ⟨kc, kf, hlt⟩ := hB.out.facts
  have d3 : decide (x.kind < 0) = false := decide_eq_false (by have := hn.1; omega)
  have d4 : decide (x.client < 0) = false := decide_eq_false (by have := hn.2.1; omega)
  have d5 : decide (x.seq < 0) = false := decide_eq_false (by have := hn.2.2.1; omega)
  have d6 : decide (x.node < 0) = false := decide_eq_false (by have := hn.2.2.2; omega)
  have e1 : (str x.old).toList = [] := by rw [str_toList]; exact ho
  have e2 : decide (x.kind < 1) = true := decide_eq_true h

  clear hv hl hn l1 l2 l3 h ho
  go_enter Tryz.func4, Tryz.ntmps4
  go_wp2_with (fail)
  rw [← hW]
  clear hW
  refine HL.out.mono ?_
  rintro e w1 ⟨rfl, hb⟩
  have hB1 := Lib.hid (hB.out.call hb)
  have hb1 : Hid (Below w.heap.size w w1) := hbW.out.trans (hb.mono hbW.out.size)
  clear kc kf hlt hb HL hB
  obtain ⟨kc, kf, hlt⟩ := hB1.out.facts
  go_wp2_with (fail)
  refine (awakeC_calls _ (hv'.out.below hb1.out)).mono ?_
  rintro e w2 ⟨rfl, hb⟩
  have hb2 : Hid (Below w.heap.size w w2) := hb1.out.trans (hb.mono hb1.out.size)
  clear hb
  go_wp2_with (fail)
  go_ret
  exact ⟨rfl, hb2.out⟩
set_option maxHeartbeats 4000000 in
set_option maxRecDepth 100000 in
theorem lawRef_one9 (x : CX) (w : World) (hv : AVars w) (hl : largeB x = false) (hn : x.nat) (ho : x.old = []) (h : 8 < x.kind) :
    Calls Tryz.prog 4 #[.int .i64 1, x.value] w fun e w' => e = .returned (.bool true) ∧ Below w.heap.size w w' := by
  obtain ⟨W, hW⟩ : ∃ W, W = w.alloc (.cells x.cells 23) := ⟨_, rfl⟩
  have hbW : Hid (Below w.heap.size w W) := by subst hW; exact (Below.refl _ _).alloc (Nat.le_refl _) _
  have hB : Hid (Blk W w.heap.size 23 x.cells) := by subst hW; exact Blk.new _ _ _
  have HL := large_calls x W
  obtain ⟨l1, l2, l3⟩ := largeB_no hl
  rw [hl] at HL
  have HL := Lib.hid HL
  have hv' := Lib.hid hv
  obtain ⟨kc, kf, hlt⟩ := hB.out.facts
  have d3 : decide (x.kind < 0) = false := decide_eq_false (by have := hn.1; omega)
  have d4 : decide (x.client < 0) = false := decide_eq_false (by have := hn.2.1; omega)
  have d5 : decide (x.seq < 0) = false := decide_eq_false (by have := hn.2.2.1; omega)
  have d6 : decide (x.node < 0) = false := decide_eq_false (by have := hn.2.2.2; omega)
  have e1 : (str x.old).toList = [] := by rw [str_toList]; exact ho
  have e2 : decide (x.kind < 1) = false := decide_eq_false (by omega)
  have e3 : decide (8 < x.kind) = true := decide_eq_true h

  clear hv hl hn l1 l2 l3 h ho
  go_enter Tryz.func4, Tryz.ntmps4
  go_wp2_with (fail)
  rw [← hW]
  clear hW
  refine HL.out.mono ?_
  rintro e w1 ⟨rfl, hb⟩
  have hB1 := Lib.hid (hB.out.call hb)
  have hb1 : Hid (Below w.heap.size w w1) := hbW.out.trans (hb.mono hbW.out.size)
  clear kc kf hlt hb HL hB
  obtain ⟨kc, kf, hlt⟩ := hB1.out.facts
  go_wp2_with (fail)
  refine (awakeC_calls _ (hv'.out.below hb1.out)).mono ?_
  rintro e w2 ⟨rfl, hb⟩
  have hb2 : Hid (Below w.heap.size w w2) := hb1.out.trans (hb.mono hb1.out.size)
  clear hb
  go_wp2_with (fail)
  go_ret
  exact ⟨rfl, hb2.out⟩
set_option maxHeartbeats 4000000 in
set_option maxRecDepth 100000 in
theorem lawRef_form (x : CX) (w : World) (hv : AVars w) (hl : largeB x = false) (hn : x.nat) (h : cmdE x = 3) :
    Calls Tryz.prog 4 #[.int .i64 2, x.value] w fun e w' => e = .returned (.bool true) ∧ Below w.heap.size w w' := by
  obtain ⟨W, hW⟩ : ∃ W, W = w.alloc (.cells x.cells 23) := ⟨_, rfl⟩
  have hbW : Hid (Below w.heap.size w W) := by subst hW; exact (Below.refl _ _).alloc (Nat.le_refl _) _
  have hB : Hid (Blk W w.heap.size 23 x.cells) := by subst hW; exact Blk.new _ _ _
  have HL := large_calls x W
  obtain ⟨l1, l2, l3⟩ := largeB_no hl
  rw [hl] at HL
  have HL := Lib.hid HL
  have hv' := Lib.hid hv
  obtain ⟨kc, kf, hlt⟩ := hB.out.facts
  have d3 : decide (x.kind < 0) = false := decide_eq_false (by have := hn.1; omega)
  have d4 : decide (x.client < 0) = false := decide_eq_false (by have := hn.2.1; omega)
  have d5 : decide (x.seq < 0) = false := decide_eq_false (by have := hn.2.2.1; omega)
  have d6 : decide (x.node < 0) = false := decide_eq_false (by have := hn.2.2.2; omega)

  have HC := fun w1 => refcheck_calls x w1 ⟨by omega, by omega, by omega⟩
  rw [h] at HC
  have HC := Lib.hid HC
  clear hv hl hn l1 l2 l3 h
  go_enter Tryz.func4, Tryz.ntmps4
  go_wp2_with (fail)
  rw [← hW]
  clear hW
  refine HL.out.mono ?_
  rintro e w1 ⟨rfl, hb⟩
  have hB1 := Lib.hid (hB.out.call hb)
  have hb1 : Hid (Below w.heap.size w w1) := hbW.out.trans (hb.mono hbW.out.size)
  clear kc kf hlt hb HL hB
  obtain ⟨kc, kf, hlt⟩ := hB1.out.facts
  go_wp2_with (fail)
  refine (HC.out _).mono ?_
  rintro e w1b ⟨rfl, hb⟩
  have hB1b := Lib.hid (hB1.out.call hb)
  have hb1b : Hid (Below w.heap.size w w1b) := hb1.out.trans (hb.mono hb1.out.size)
  clear kc kf hlt hb hB1 hb1
  obtain ⟨kc, kf, hlt⟩ := hB1b.out.facts
  have hB1 := hB1b
  have hb1 := hb1b
  clear hB1b hb1b
  go_wp2_with (fail)
  refine (awakeC_calls _ (hv'.out.below hb1.out)).mono ?_
  rintro e w2 ⟨rfl, hb⟩
  have hb2 : Hid (Below w.heap.size w w2) := hb1.out.trans (hb.mono hb1.out.size)
  clear hb
  go_wp2_with (fail)
  go_ret
  exact ⟨rfl, hb2.out⟩
set_option maxHeartbeats 4000000 in
set_option maxRecDepth 100000 in
theorem lawRef_two0 (x : CX) (w : World) (hv : AVars w) (hl : largeB x = false) (hn : x.nat) (hc : cmdE x ≠ 3) (h : x.kind < 1) :
    Calls Tryz.prog 4 #[.int .i64 2, x.value] w fun e w' => e = .returned (.bool true) ∧ Below w.heap.size w w' := by
  obtain ⟨W, hW⟩ : ∃ W, W = w.alloc (.cells x.cells 23) := ⟨_, rfl⟩
  have hbW : Hid (Below w.heap.size w W) := by subst hW; exact (Below.refl _ _).alloc (Nat.le_refl _) _
  have hB : Hid (Blk W w.heap.size 23 x.cells) := by subst hW; exact Blk.new _ _ _
  have HL := large_calls x W
  obtain ⟨l1, l2, l3⟩ := largeB_no hl
  rw [hl] at HL
  have HL := Lib.hid HL
  have hv' := Lib.hid hv
  obtain ⟨kc, kf, hlt⟩ := hB.out.facts
  have d3 : decide (x.kind < 0) = false := decide_eq_false (by have := hn.1; omega)
  have d4 : decide (x.client < 0) = false := decide_eq_false (by have := hn.2.1; omega)
  have d5 : decide (x.seq < 0) = false := decide_eq_false (by have := hn.2.2.1; omega)
  have d6 : decide (x.node < 0) = false := decide_eq_false (by have := hn.2.2.2; omega)
  have e2 : decide (x.kind < 1) = true := decide_eq_true h

  have HC := fun w1 => refcheck_calls x w1 ⟨by omega, by omega, by omega⟩
  have q1 : (cmdE x == 3) = false := beq_eq_false_iff_ne.2 hc
  clear hc
  generalize cmdE x = ce at *
  have HC := Lib.hid HC
  clear hv hl hn l1 l2 l3 h
  go_enter Tryz.func4, Tryz.ntmps4
  go_wp2_with (fail)
  rw [← hW]
  clear hW
  refine HL.out.mono ?_
  rintro e w1 ⟨rfl, hb⟩
  have hB1 := Lib.hid (hB.out.call hb)
  have hb1 : Hid (Below w.heap.size w w1) := hbW.out.trans (hb.mono hbW.out.size)
  clear kc kf hlt hb HL hB
  obtain ⟨kc, kf, hlt⟩ := hB1.out.facts
  go_wp2_with (fail)
  refine (HC.out _).mono ?_
  rintro e w1b ⟨rfl, hb⟩
  have hB1b := Lib.hid (hB1.out.call hb)
  have hb1b : Hid (Below w.heap.size w w1b) := hb1.out.trans (hb.mono hb1.out.size)
  clear kc kf hlt hb hB1 hb1
  obtain ⟨kc, kf, hlt⟩ := hB1b.out.facts
  have hB1 := hB1b
  have hb1 := hb1b
  clear hB1b hb1b
  go_wp2_with (fail)
  refine (awakeC_calls _ (hv'.out.below hb1.out)).mono ?_
  rintro e w2 ⟨rfl, hb⟩
  have hb2 : Hid (Below w.heap.size w w2) := hb1.out.trans (hb.mono hb1.out.size)
  clear hb
  go_wp2_with (fail)
  go_ret
  exact ⟨rfl, hb2.out⟩
set_option maxHeartbeats 4000000 in
set_option maxRecDepth 100000 in
theorem lawRef_two9 (x : CX) (w : World) (hv : AVars w) (hl : largeB x = false) (hn : x.nat) (hc : cmdE x ≠ 3) (h : 8 < x.kind) :
    Calls Tryz.prog 4 #[.int .i64 2, x.value] w fun e w' => e = .returned (.bool true) ∧ Below w.heap.size w w' := by
  obtain ⟨W, hW⟩ : ∃ W, W = w.alloc (.cells x.cells 23) := ⟨_, rfl⟩
  have hbW : Hid (Below w.heap.size w W) := by subst hW; exact (Below.refl _ _).alloc (Nat.le_refl _) _
  have hB : Hid (Blk W w.heap.size 23 x.cells) := by subst hW; exact Blk.new _ _ _
  have HL := large_calls x W
  obtain ⟨l1, l2, l3⟩ := largeB_no hl
  rw [hl] at HL
  have HL := Lib.hid HL
  have hv' := Lib.hid hv
  obtain ⟨kc, kf, hlt⟩ := hB.out.facts
  have d3 : decide (x.kind < 0) = false := decide_eq_false (by have := hn.1; omega)
  have d4 : decide (x.client < 0) = false := decide_eq_false (by have := hn.2.1; omega)
  have d5 : decide (x.seq < 0) = false := decide_eq_false (by have := hn.2.2.1; omega)
  have d6 : decide (x.node < 0) = false := decide_eq_false (by have := hn.2.2.2; omega)
  have e2 : decide (x.kind < 1) = false := decide_eq_false (by omega)
  have e3 : decide (8 < x.kind) = true := decide_eq_true h

  have HC := fun w1 => refcheck_calls x w1 ⟨by omega, by omega, by omega⟩
  have q1 : (cmdE x == 3) = false := beq_eq_false_iff_ne.2 hc
  clear hc
  generalize cmdE x = ce at *
  have HC := Lib.hid HC
  clear hv hl hn l1 l2 l3 h
  go_enter Tryz.func4, Tryz.ntmps4
  go_wp2_with (fail)
  rw [← hW]
  clear hW
  refine HL.out.mono ?_
  rintro e w1 ⟨rfl, hb⟩
  have hB1 := Lib.hid (hB.out.call hb)
  have hb1 : Hid (Below w.heap.size w w1) := hbW.out.trans (hb.mono hbW.out.size)
  clear kc kf hlt hb HL hB
  obtain ⟨kc, kf, hlt⟩ := hB1.out.facts
  go_wp2_with (fail)
  refine (HC.out _).mono ?_
  rintro e w1b ⟨rfl, hb⟩
  have hB1b := Lib.hid (hB1.out.call hb)
  have hb1b : Hid (Below w.heap.size w w1b) := hb1.out.trans (hb.mono hb1.out.size)
  clear kc kf hlt hb hB1 hb1
  obtain ⟨kc, kf, hlt⟩ := hB1b.out.facts
  have hB1 := hB1b
  have hb1 := hb1b
  clear hB1b hb1b
  go_wp2_with (fail)
  refine (awakeC_calls _ (hv'.out.below hb1.out)).mono ?_
  rintro e w2 ⟨rfl, hb⟩
  have hb2 : Hid (Below w.heap.size w w2) := hb1.out.trans (hb.mono hb1.out.size)
  clear hb
  go_wp2_with (fail)
  go_ret
  exact ⟨rfl, hb2.out⟩
set_option maxHeartbeats 8000000 in
set_option maxRecDepth 100000 in
theorem lawRef_main1 (x : CX) (w : World) (hv : AVars w) (hl : largeB x = false) (hn : x.nat) (ho : x.old = []) (hk : 1 ≤ x.kind ∧ x.kind ≤ 8) :
    Calls Tryz.prog 4 #[.int .i64 1, x.value] w fun e w' => e = .returned (.bool true) ∧ Below w.heap.size w w' := by
  obtain ⟨W, hW⟩ : ∃ W, W = w.alloc (.cells x.cells 23) := ⟨_, rfl⟩
  have hbW : Hid (Below w.heap.size w W) := by subst hW; exact (Below.refl _ _).alloc (Nat.le_refl _) _
  have hB : Hid (Blk W w.heap.size 23 x.cells) := by subst hW; exact Blk.new _ _ _
  have HL := large_calls x W
  obtain ⟨l1, l2, l3⟩ := largeB_no hl
  rw [hl] at HL
  have HL := Lib.hid HL
  have hv' := Lib.hid hv
  obtain ⟨kc, kf, hlt⟩ := hB.out.facts
  have d3 : decide (x.kind < 0) = false := decide_eq_false (by have := hn.1; omega)
  have d4 : decide (x.client < 0) = false := decide_eq_false (by have := hn.2.1; omega)
  have d5 : decide (x.seq < 0) = false := decide_eq_false (by have := hn.2.2.1; omega)
  have d6 : decide (x.node < 0) = false := decide_eq_false (by have := hn.2.2.2; omega)
  have hs : x.short := ⟨by omega, by omega, by omega⟩
  have ht : x.tiny := ⟨by omega, by omega, by omega⟩
  have e2 : decide (x.kind < 1) = false := decide_eq_false (by omega)
  have e3 : decide (8 < x.kind) = false := decide_eq_false (by omega)
  have e1 : (str x.old).toList = [] := by rw [str_toList]; exact ho
  have hkeep := keep_one hn ho
  have hE : hasE 1 (keepX 1 x 6) = encC 1 x := by rw [hkeep]; unfold encC; rw [if_pos (.inl rfl)]
  have HP := Lib.hid (fun g (w1 : World) hw => cmdput_calls g 1 x w1 hw hn ht)
  have hbl : Hid ((putB 1 x 6).length ≤ 1000) := by
    show _ ≤ _
    obtain ⟨⟨n0, n0'⟩, ⟨n1, n1'⟩, ⟨n2, n2'⟩, ⟨n3, n3'⟩⟩ := hn
    have hN : ∀ n : Int, 0 ≤ n → n < 9223372036854775808 → (Fv.num n.toNat).bytes.length ≤ 9 := fun n h1 h2 => vb_len9 (n := n.toNat) (by omega)
    have hT : ∀ l : List UInt8, l.length ≤ 300 → (Fv.txt l).bytes.length ≤ 309 := fun l h => by
      have a := vb_len9 (n := l.length) (by omega)
      have b : (Fv.txt l).bytes.length = (vb l.length).length + l.length := by simp [Fv.bytes]
      omega
    have h0 : (putB 1 x 0).length ≤ 9 := hN _ n0 n0'
    have hst : ∀ k b m, (putB 1 x k).length ≤ m → (pFv x k).bytes.length ≤ b → (putB 1 x (k + 1)).length ≤ m + b := fun k b m h1 h2 => by
      rw [putB]
      split
      · rw [List.length_append]; omega
      · omega
    have h1 := hst 0 9 _ h0 (hN _ n1 n1')
    have h2 := hst 1 9 _ h1 (hN _ n2 n2')
    have h3 := hst 2 309 _ h2 (hT _ l1)
    have h4 := hst 3 309 _ h3 (hT _ l2)
    have h5 := hst 4 309 _ h4 (hT _ l3)
    have h6 := hst 5 9 _ h5 (hN _ n3 n3')
    exact Nat.le_trans h6 (by decide)
  have HG := Lib.hid (fun gr (w1 : World) hr => get_put 1 hn ht gr w1 (Nat.le_trans hbl.out (by decide)) hr)
  have HD := Lib.hid (fun A n c (w1 : World) hl hA hq => dec_put 1 (by decide) hn ht A n c w1 hl hA hq)
  have HR := Lib.hid (fun w1 => refcmdbytes_calls 1 x w1 (by decide) hk hn ht)
  have HW := Lib.hid (fun gw (w1 : World) hw => wbytes_calls gw (putB 1 x 6) w1 (Nat.le_trans hbl.out (by decide)) hw)
  have HH := Lib.hid (fun w1 => refhas8_calls 1 x w1 hs)
  rw [hkeep] at HG hE
  rw [hkeep] at HD
  obtain ⟨E, hEE⟩ : ∃ E, hasE 1 x = E := ⟨_, rfl⟩
  rw [hEE] at HD hE
  rw [← hE] at HH
  have q3 : (E == E) = true := beq_self_eq_true E
  clear hv hl hn l1 l2 l3 hs ht hk hE hEE ho hkeep
  generalize putB 1 x 6 = bs at *
  go_enter Tryz.func4, Tryz.ntmps4
  go_wp2_with (fail)
  rw [← hW]
  clear hW
  refine HL.out.mono ?_
  rintro e w1 ⟨rfl, hb⟩
  have hB1 := Lib.hid (hB.out.call hb)
  have hb1 : Hid (Below w.heap.size w w1) := hbW.out.trans (hb.mono hbW.out.size)
  clear kc kf hlt hb HL hB
  obtain ⟨kc, kf, hlt⟩ := hB1.out.facts
  go_wp2_with (fail)
  obtain ⟨gw, hgw⟩ : ∃ gw, gw = w1.heap.size := ⟨_, rfl⟩
  obtain ⟨X, hX⟩ : ∃ X, X = w1.alloc (.cells #[.slice none 0 0] 39) := ⟨_, rfl⟩
  have hbX : Below w1.heap.size w1 X := by subst hX; exact (Below.refl _ _).alloc (Nat.le_refl _) _
  have hw0 : Hid (WrAt X gw []) := by subst hX hgw; exact WrAt.new _
  have hBX := Lib.hid (hB1.out.call hbX)
  have hbX1 : Hid (Below w.heap.size w X) := hb1.out.trans (hbX.mono hb1.out.size)
  have hwg : w.heap.size < gw := by have := hB1.out.lt; omega
  rw [← hX, ← hgw]
  clear kc kf hlt hbX hX hgw hB1 hb1
  refine (HP.out _ _ hw0.out).mono ?_
  rintro e w2 ⟨rfl, hw2, hg2⟩
  have hB2 := Lib.hid (hBX.out.only hg2 (by omega))
  have hb2 : Hid (Below w.heap.size w w2) := hbX1.out.trans (below_of_only hg2 hbX1.out.size (by omega))
  have hw2' := Lib.hid hw2
  clear hw2 hg2 hBX hbX1 hw0
  obtain ⟨kc, kf, hlt⟩ := hB2.out.facts
  go_wp2_with (fail)
  refine (HW.out _ _ hw2'.out).mono ?_
  rintro e w3 ⟨B, k, d, rfl, ho, hb⟩
  have hA3 := Lib.hid (BAt.own ho)
  have hB3 := Lib.hid (hB2.out.call hb)
  have hw3 := Lib.hid (hw2'.out.below hb)
  have hb3 : Hid (Below w.heap.size w w3) := hb2.out.trans (hb.mono hb2.out.size)
  have hk3 : k ≤ 1000 := by have := hA3.out.len; have := hbl.out; omega
  clear kc kf hlt hb ho hB2 hw2' hb2
  go_wp2_with (fail)
  refine (newReader_calls B k d bs _ (by omega) hA3.out).mono ?_
  rintro e w4 ⟨gr, rfl, hok, hgr, hb⟩
  have hB4 := hB3.out.call hb
  have hw4 := hw3.out.below hb
  have hb4 := hb3.out.trans (hb.mono hb3.out.size)
  have hgrw : w3.heap.size ≤ gr := hgr
  have hgww : gw < w3.heap.size := hw3.out.lt
  go_wp2_with (fail)
  refine (HG.out _ _ hok).mono ?_
  rintro e w5 ⟨rfl, hg5⟩
  have hb5 : Below w3.heap.size w3 w5 := hb.trans (below_of_only hg5 hb.size hgr)
  have hB5 := hB3.out.call hb5
  have hw5 := hw3.out.below hb5
  have hbb5 := hb3.out.trans (hb5.mono hb3.out.size)
  obtain ⟨b6, hb6⟩ : ∃ b6, b6 = w5.heap.size := ⟨_, rfl⟩
  obtain ⟨Y, hY⟩ : ∃ Y, Y = w5.alloc (.cells x.cells 23) := ⟨_, rfl⟩
  have hbY : Below w5.heap.size w5 Y := by subst hY; exact (Below.refl _ _).alloc (Nat.le_refl _) _
  have hY6 : Hid (Blk Y b6 23 x.cells) := by subst hY hb6; exact Blk.new _ _ _
  have hB6 := Lib.hid (hB5.call hbY)
  have hw6 := Lib.hid (hw5.below hbY)
  have hbb6 : Hid (Below w.heap.size w Y) := hbb5.trans (hbY.mono hbb5.size)
  clear hb hok hgr hg5 hb5 hB5 hw5 hbb5 hB4 hw4 hb4 hA3 hB3 hw3 hb3 hgrw hgww hbY
  obtain ⟨kc, kf, hlt⟩ := hB6.out.facts
  rw [hY] at kc kf hlt
  go_wp2_with (fail)
  rw [← hY] at kc kf hlt
  try rw [← hb6]
  try rw [← hY]
  clear hY hb6
  refine (HR.out _).mono ?_
  rintro e w7 ⟨B2, k2, d2, rfl, ho, hb⟩
  have hA7 := BAt.own ho
  have hk7 := hA7.len
  have hB7 := hB6.out.call hb
  have hY7 := hY6.out.call hb
  have hw7 := hw6.out.below hb
  have hbb7 := hbb6.out.trans (hb.mono hbb6.out.size)
  clear kc kf hlt
  go_wp2_with (fail)
  refine (HD.out B2 k2 d2 _ (by have := hbl.out; omega) hA7 (hv'.out.below hbb7).q).mono ?_
  rintro e w8 ⟨⟨z, rfl⟩, hb8⟩
  obtain ⟨Z, hZ⟩ : ∃ Z, Z = w8.alloc (.cells z.cells 23) := ⟨_, rfl⟩
  have hbZ : Below w8.heap.size w8 Z := by subst hZ; exact (Below.refl _ _).alloc (Nat.le_refl _) _
  have hb9 : Below w7.heap.size w7 Z := hb8.trans (hbZ.mono hb8.size)
  have hB9 := Lib.hid (hB7.call hb9)
  have hY9 := Lib.hid (hY7.call hb9)
  have hw9 := Lib.hid (hw7.below hb9)
  have hbb9 : Hid (Below w.heap.size w Z) := hbb7.trans (hb9.mono hbb7.size)
  clear hb ho hA7 hk7 hB7 hY7 hw7 hbb7 hb8 hbZ hb9 hB6 hY6 hw6 hbb6 HD HG HP
  go_wp2_with (fail)
  rw [← hZ]
  clear hZ

  go_region_held3 (fun w' => w'.cell? ⟨w.heap.size, 0, none⟩ = some (.int .i64 x.kind) ∧ w'.cell? ⟨w.heap.size, 1, none⟩ = some (.int .i64 x.client) ∧ w'.cell? ⟨w.heap.size, 2, none⟩ = some (.int .i64 x.seq) ∧ w'.cell? ⟨w.heap.size, 3, none⟩ = some (.string (str x.key)) ∧ w'.cell? ⟨w.heap.size, 4, none⟩ = some (.string (str x.val)) ∧ w'.cell? ⟨w.heap.size, 5, none⟩ = some (.string (str x.old)) ∧ w'.cell? ⟨w.heap.size, 6, none⟩ = some (.int .i64 x.node) ∧
      w'.cell? ⟨b6, 0, none⟩ = some (.int .i64 x.kind) ∧ w'.cell? ⟨b6, 1, none⟩ = some (.int .i64 x.client) ∧ w'.cell? ⟨b6, 2, none⟩ = some (.int .i64 x.seq) ∧ w'.cell? ⟨b6, 3, none⟩ = some (.string (str x.key)) ∧ w'.cell? ⟨b6, 4, none⟩ = some (.string (str x.val)) ∧ w'.cell? ⟨b6, 5, none⟩ = some (.string (str x.old)) ∧ w'.cell? ⟨b6, 6, none⟩ = some (.int .i64 x.node))
    (first | exact seven_two hB9.out hY9.out | exact seven_two hB9.out.drew hY9.out.drew | exact seven_two hBx3.out hYx3.out | exact seven_two hBx2.out hYx2.out | exact seven_two hBx1.out hYx1.out)
    (first
      | (go_at_call 20; refine (HW.out _ _ (hw9.out.below (Below.drew (Below.refl _ _)))).mono ?_; rintro e x1 ⟨B', k', d', rfl, ho', hx1⟩; have hBx1 := Lib.hid (hB9.out.drew.call hx1); have hYx1 := Lib.hid (hY9.out.drew.call hx1))
      | (go_at_call 15; refine (HR.out _).mono ?_; rintro e x2 ⟨B'', k'', d'', rfl, ho'', hx2'⟩; have hx2 := hx1.trans (hx2'.mono hx1.size); have hBx2 := Lib.hid (hB9.out.drew.call hx2); have hYx2 := Lib.hid (hY9.out.drew.call hx2))
      | (go_at_call 14; refine (same_calls B' k' d' bs B'' k'' d'' bs _ (by have := (BAt.own ho').len; have := hbl.out; omega) (by have := (BAt.own ho'').len; have := hbl.out; omega) ((BAt.own ho').below hx2') (BAt.own ho'')).mono ?_; rw [decide_eq_true rfl]; rintro e x3 ⟨rfl, hx3'⟩; have hx3 := hx2.trans (hx3'.mono hx2.size); have hBx3 := Lib.hid (hB9.out.drew.call hx3); have hYx3 := Lib.hid (hY9.out.drew.call hx3)))
  have hbc : Hid (Below w.heap.size w x3) := hbb9.out.trans ((Below.drew (Below.refl _ _)).trans (hx3.mono (Nat.le_refl _)) |>.mono hbb9.out.size)
  have hBc := hBx3
  clear hx1 hx2 hx2' hx3 hx3' ho' ho'' hBx1 hYx1 hBx2 hYx2 hBx3 hYx3 hB9 hY9 hw9 hbb9 HW HR
  obtain ⟨kc, kf, hlt⟩ := hBc.out.facts
  go_wp2_with (fail)
  refine (HH.out _).mono ?_
  rintro e y2 ⟨rfl, hb⟩
  have hbd : Hid (Below w.heap.size w y2) := hbc.out.trans (hb.mono hbc.out.size)
  clear kc kf hlt hb hBc hbc
  have hbc := hbd
  clear hbd
  go_wp2_with (fail)
  refine (awakeC_calls _ (hv'.out.below hbc.out)).mono ?_
  rintro e y3 ⟨rfl, hb⟩
  have hbe : Hid (Below w.heap.size w y3) := hbc.out.trans (hb.mono hbc.out.size)
  clear hb
  go_wp2_with (fail)
  go_ret
  exact ⟨rfl, hbe.out⟩
set_option maxHeartbeats 8000000 in
set_option maxRecDepth 100000 in
theorem lawRef_main2 (x : CX) (w : World) (hv : AVars w) (hl : largeB x = false) (hn : x.nat) (h0 : cmdE x = 0) :
    Calls Tryz.prog 4 #[.int .i64 2, x.value] w fun e w' => e = .returned (.bool true) ∧ Below w.heap.size w w' := by
  have hk := (cmd_ok h0).kind
  obtain ⟨W, hW⟩ : ∃ W, W = w.alloc (.cells x.cells 23) := ⟨_, rfl⟩
  have hbW : Hid (Below w.heap.size w W) := by subst hW; exact (Below.refl _ _).alloc (Nat.le_refl _) _
  have hB : Hid (Blk W w.heap.size 23 x.cells) := by subst hW; exact Blk.new _ _ _
  have HL := large_calls x W
  obtain ⟨l1, l2, l3⟩ := largeB_no hl
  rw [hl] at HL
  have HL := Lib.hid HL
  have hv' := Lib.hid hv
  obtain ⟨kc, kf, hlt⟩ := hB.out.facts
  have d3 : decide (x.kind < 0) = false := decide_eq_false (by have := hn.1; omega)
  have d4 : decide (x.client < 0) = false := decide_eq_false (by have := hn.2.1; omega)
  have d5 : decide (x.seq < 0) = false := decide_eq_false (by have := hn.2.2.1; omega)
  have d6 : decide (x.node < 0) = false := decide_eq_false (by have := hn.2.2.2; omega)
  have hs : x.short := ⟨by omega, by omega, by omega⟩
  have ht : x.tiny := ⟨by omega, by omega, by omega⟩
  have e2 : decide (x.kind < 1) = false := decide_eq_false (by omega)
  have e3 : decide (8 < x.kind) = false := decide_eq_false (by omega)
  have hkeep : keepX 2 x 6 = x := keep_ok (cmd_ok h0) (.inr rfl) (by unfold vhasB; rw [(kindOk_iff _).2 hk]; simp)
  have hE : hasE 2 (keepX 2 x 6) = encC 2 x := by rw [hkeep]; unfold encC; rw [if_pos (.inr rfl)]
  have HC := fun w1 => refcheck_calls x w1 hs
  rw [h0] at HC
  have HC := Lib.hid HC
  have HP := Lib.hid (fun g (w1 : World) hw => cmdput_calls g 2 x w1 hw hn ht)
  have hbl : Hid ((putB 2 x 6).length ≤ 1000) := by
    show _ ≤ _
    obtain ⟨⟨n0, n0'⟩, ⟨n1, n1'⟩, ⟨n2, n2'⟩, ⟨n3, n3'⟩⟩ := hn
    have hN : ∀ n : Int, 0 ≤ n → n < 9223372036854775808 → (Fv.num n.toNat).bytes.length ≤ 9 := fun n h1 h2 => vb_len9 (n := n.toNat) (by omega)
    have hT : ∀ l : List UInt8, l.length ≤ 300 → (Fv.txt l).bytes.length ≤ 309 := fun l h => by
      have a := vb_len9 (n := l.length) (by omega)
      have b : (Fv.txt l).bytes.length = (vb l.length).length + l.length := by simp [Fv.bytes]
      omega
    have h0 : (putB 2 x 0).length ≤ 9 := hN _ n0 n0'
    have hst : ∀ k b m, (putB 2 x k).length ≤ m → (pFv x k).bytes.length ≤ b → (putB 2 x (k + 1)).length ≤ m + b := fun k b m h1 h2 => by
      rw [putB]
      split
      · rw [List.length_append]; omega
      · omega
    have h1 := hst 0 9 _ h0 (hN _ n1 n1')
    have h2 := hst 1 9 _ h1 (hN _ n2 n2')
    have h3 := hst 2 309 _ h2 (hT _ l1)
    have h4 := hst 3 309 _ h3 (hT _ l2)
    have h5 := hst 4 309 _ h4 (hT _ l3)
    have h6 := hst 5 9 _ h5 (hN _ n3 n3')
    exact Nat.le_trans h6 (by decide)
  have HG := Lib.hid (fun gr (w1 : World) hr => get_put 2 hn ht gr w1 (Nat.le_trans hbl.out (by decide)) hr)
  have HD := Lib.hid (fun A n c (w1 : World) hl hA hq => dec_put 2 (by decide) hn ht A n c w1 hl hA hq)
  have HR := Lib.hid (fun w1 => refcmdbytes_calls 2 x w1 (by decide) hk hn ht)
  have HW := Lib.hid (fun gw (w1 : World) hw => wbytes_calls gw (putB 2 x 6) w1 (Nat.le_trans hbl.out (by decide)) hw)
  have HH := Lib.hid (fun w1 => refhas8_calls 2 x w1 hs)
  obtain ⟨E, hEE⟩ : ∃ E, hasE 2 (keepX 2 x 6) = E := ⟨_, rfl⟩
  rw [hEE] at HD hE
  rw [← hE] at HH
  have q3 : (E == E) = true := beq_self_eq_true E
  obtain ⟨y, hy⟩ : ∃ y, keepX 2 x 6 = y := ⟨_, rfl⟩
  rw [hy] at HG
  clear hv hl hn l1 l2 l3 hs ht hk hE hEE h0 hkeep hy
  generalize putB 2 x 6 = bs at *
  go_enter Tryz.func4, Tryz.ntmps4
  go_wp2_with (fail)
  rw [← hW]
  clear hW
  refine HL.out.mono ?_
  rintro e w1 ⟨rfl, hb⟩
  have hB1 := Lib.hid (hB.out.call hb)
  have hb1 : Hid (Below w.heap.size w w1) := hbW.out.trans (hb.mono hbW.out.size)
  clear kc kf hlt hb HL hB
  obtain ⟨kc, kf, hlt⟩ := hB1.out.facts
  go_wp2_with (fail)
  refine (HC.out _).mono ?_
  rintro e w1b ⟨rfl, hb⟩
  have hB1b := Lib.hid (hB1.out.call hb)
  have hb1b : Hid (Below w.heap.size w w1b) := hb1.out.trans (hb.mono hb1.out.size)
  clear kc kf hlt hb hB1 hb1
  obtain ⟨kc, kf, hlt⟩ := hB1b.out.facts
  have hB1 := hB1b
  have hb1 := hb1b
  clear hB1b hb1b
  go_wp2_with (fail)
  obtain ⟨gw, hgw⟩ : ∃ gw, gw = w1b.heap.size := ⟨_, rfl⟩
  obtain ⟨X, hX⟩ : ∃ X, X = w1b.alloc (.cells #[.slice none 0 0] 39) := ⟨_, rfl⟩
  have hbX : Below w1b.heap.size w1b X := by subst hX; exact (Below.refl _ _).alloc (Nat.le_refl _) _
  have hw0 : Hid (WrAt X gw []) := by subst hX hgw; exact WrAt.new _
  have hBX := Lib.hid (hB1.out.call hbX)
  have hbX1 : Hid (Below w.heap.size w X) := hb1.out.trans (hbX.mono hb1.out.size)
  have hwg : w.heap.size < gw := by have := hB1.out.lt; omega
  rw [← hX, ← hgw]
  clear kc kf hlt hbX hX hgw hB1 hb1
  refine (HP.out _ _ hw0.out).mono ?_
  rintro e w2 ⟨rfl, hw2, hg2⟩
  have hB2 := Lib.hid (hBX.out.only hg2 (by omega))
  have hb2 : Hid (Below w.heap.size w w2) := hbX1.out.trans (below_of_only hg2 hbX1.out.size (by omega))
  have hw2' := Lib.hid hw2
  clear hw2 hg2 hBX hbX1 hw0
  obtain ⟨kc, kf, hlt⟩ := hB2.out.facts
  go_wp2_with (fail)
  refine (HW.out _ _ hw2'.out).mono ?_
  rintro e w3 ⟨B, k, d, rfl, ho, hb⟩
  have hA3 := Lib.hid (BAt.own ho)
  have hB3 := Lib.hid (hB2.out.call hb)
  have hw3 := Lib.hid (hw2'.out.below hb)
  have hb3 : Hid (Below w.heap.size w w3) := hb2.out.trans (hb.mono hb2.out.size)
  have hk3 : k ≤ 1000 := by have := hA3.out.len; have := hbl.out; omega
  clear kc kf hlt hb ho hB2 hw2' hb2
  go_wp2_with (fail)
  refine (newReader_calls B k d bs _ (by omega) hA3.out).mono ?_
  rintro e w4 ⟨gr, rfl, hok, hgr, hb⟩
  have hB4 := hB3.out.call hb
  have hw4 := hw3.out.below hb
  have hb4 := hb3.out.trans (hb.mono hb3.out.size)
  have hgrw : w3.heap.size ≤ gr := hgr
  have hgww : gw < w3.heap.size := hw3.out.lt
  go_wp2_with (fail)
  refine (HG.out _ _ hok).mono ?_
  rintro e w5 ⟨rfl, hg5⟩
  have hb5 : Below w3.heap.size w3 w5 := hb.trans (below_of_only hg5 hb.size hgr)
  have hB5 := hB3.out.call hb5
  have hw5 := hw3.out.below hb5
  have hbb5 := hb3.out.trans (hb5.mono hb3.out.size)
  obtain ⟨b6, hb6⟩ : ∃ b6, b6 = w5.heap.size := ⟨_, rfl⟩
  obtain ⟨Y, hY⟩ : ∃ Y, Y = w5.alloc (.cells y.cells 23) := ⟨_, rfl⟩
  have hbY : Below w5.heap.size w5 Y := by subst hY; exact (Below.refl _ _).alloc (Nat.le_refl _) _
  have hY6 : Hid (Blk Y b6 23 y.cells) := by subst hY hb6; exact Blk.new _ _ _
  have hB6 := Lib.hid (hB5.call hbY)
  have hw6 := Lib.hid (hw5.below hbY)
  have hbb6 : Hid (Below w.heap.size w Y) := hbb5.trans (hbY.mono hbb5.size)
  clear hb hok hgr hg5 hb5 hB5 hw5 hbb5 hB4 hw4 hb4 hA3 hB3 hw3 hb3 hgrw hgww hbY
  obtain ⟨kc, kf, hlt⟩ := hB6.out.facts
  rw [hY] at kc kf hlt
  go_wp2_with (fail)
  rw [← hY] at kc kf hlt
  try rw [← hb6]
  try rw [← hY]
  clear hY hb6
  refine (HR.out _).mono ?_
  rintro e w7 ⟨B2, k2, d2, rfl, ho, hb⟩
  have hA7 := BAt.own ho
  have hk7 := hA7.len
  have hB7 := hB6.out.call hb
  have hY7 := hY6.out.call hb
  have hw7 := hw6.out.below hb
  have hbb7 := hbb6.out.trans (hb.mono hbb6.out.size)
  clear kc kf hlt
  go_wp2_with (fail)
  refine (HD.out B2 k2 d2 _ (by have := hbl.out; omega) hA7 (hv'.out.below hbb7).q).mono ?_
  rintro e w8 ⟨⟨z, rfl⟩, hb8⟩
  obtain ⟨Z, hZ⟩ : ∃ Z, Z = w8.alloc (.cells z.cells 23) := ⟨_, rfl⟩
  have hbZ : Below w8.heap.size w8 Z := by subst hZ; exact (Below.refl _ _).alloc (Nat.le_refl _) _
  have hb9 : Below w7.heap.size w7 Z := hb8.trans (hbZ.mono hb8.size)
  have hB9 := Lib.hid (hB7.call hb9)
  have hY9 := Lib.hid (hY7.call hb9)
  have hw9 := Lib.hid (hw7.below hb9)
  have hbb9 : Hid (Below w.heap.size w Z) := hbb7.trans (hb9.mono hbb7.size)
  clear hb ho hA7 hk7 hB7 hY7 hw7 hbb7 hb8 hbZ hb9 hB6 hY6 hw6 hbb6 HD HG HP
  go_wp2_with (fail)
  rw [← hZ]
  clear hZ

  obtain ⟨kc, kf, hlt⟩ := hB9.out.facts
  go_region_with ((first
      | (go_at_call 20; refine (HW.out _ _ (hw9.out.below (Below.drew (Below.refl _ _)))).mono ?_; rintro e x1 ⟨B', k', d', rfl, ho', hx1⟩; have hBx1 := Lib.hid (hB9.out.drew.call hx1); obtain ⟨kx1, fx1, lx1⟩ := hBx1.out.facts)
      | (go_at_call 15; refine (HR.out _).mono ?_; rintro e x2 ⟨B'', k'', d'', rfl, ho'', hx2'⟩; have hx2 := hx1.trans (hx2'.mono hx1.size))
      | (go_at_call 14; refine (same_calls B' k' d' bs B'' k'' d'' bs _ (by have := (BAt.own ho').len; have := hbl.out; omega) (by have := (BAt.own ho'').len; have := hbl.out; omega) ((BAt.own ho').below hx2') (BAt.own ho'')).mono ?_; rw [decide_eq_true rfl]; rintro e x3 ⟨rfl, hx3'⟩; have hx3 := hx2.trans (hx3'.mono hx2.size); have hBx3 := Lib.hid (hB9.out.drew.call hx3))))
  all_goals
    have hbc : Hid (Below w.heap.size w x3) := hbb9.out.trans ((Below.drew (Below.refl _ _)).trans (hx3.mono (Nat.le_refl _)) |>.mono hbb9.out.size)
    have hBc := hBx3
    clear hx1 hx2 hx2' hx3 hx3' ho' ho'' hBx1 kx1 fx1 lx1 hBx3 hB9 hY9 hw9 hbb9 HW HR kc kf hlt
    obtain ⟨kc, kf, hlt⟩ := hBc.out.facts
    go_wp2_with (fail)
    refine (HC.out _).mono ?_
    rintro e y1 ⟨rfl, hb⟩
    have hBd := Lib.hid (hBc.out.call hb)
    have hbd : Hid (Below w.heap.size w y1) := hbc.out.trans (hb.mono hbc.out.size)
    clear kc kf hlt hb hBc hbc
    obtain ⟨kc, kf, hlt⟩ := hBd.out.facts
    have hBc := hBd
    have hbc := hbd
    clear hBd hbd
    go_wp2_with (fail)
    refine (HH.out _).mono ?_
    rintro e y2 ⟨rfl, hb⟩
    have hbd : Hid (Below w.heap.size w y2) := hbc.out.trans (hb.mono hbc.out.size)
    clear kc kf hlt hb hBc hbc
    have hbc := hbd
    clear hbd
    go_wp2_with (fail)
    refine (awakeC_calls _ (hv'.out.below hbc.out)).mono ?_
    rintro e y3 ⟨rfl, hb⟩
    have hbe : Hid (Below w.heap.size w y3) := hbc.out.trans (hb.mono hbc.out.size)
    clear hb
    go_wp2_with (fail)
    go_ret
    exact ⟨rfl, hbe.out⟩
set_option maxHeartbeats 8000000 in
set_option maxRecDepth 100000 in
theorem lawRef_main3 (x : CX) (w : World) (hv : AVars w) (hl : largeB x = false) (hn : x.nat) (h0 : cmdE x ≠ 0) (h3 : cmdE x ≠ 3) (hk : 1 ≤ x.kind ∧ x.kind ≤ 8) :
    Calls Tryz.prog 4 #[.int .i64 2, x.value] w fun e w' => e = .returned (.bool true) ∧ Below w.heap.size w w' := by
  obtain ⟨W, hW⟩ : ∃ W, W = w.alloc (.cells x.cells 23) := ⟨_, rfl⟩
  have hbW : Hid (Below w.heap.size w W) := by subst hW; exact (Below.refl _ _).alloc (Nat.le_refl _) _
  have hB : Hid (Blk W w.heap.size 23 x.cells) := by subst hW; exact Blk.new _ _ _
  have HL := large_calls x W
  obtain ⟨l1, l2, l3⟩ := largeB_no hl
  rw [hl] at HL
  have HL := Lib.hid HL
  have hv' := Lib.hid hv
  obtain ⟨kc, kf, hlt⟩ := hB.out.facts
  have d3 : decide (x.kind < 0) = false := decide_eq_false (by have := hn.1; omega)
  have d4 : decide (x.client < 0) = false := decide_eq_false (by have := hn.2.1; omega)
  have d5 : decide (x.seq < 0) = false := decide_eq_false (by have := hn.2.2.1; omega)
  have d6 : decide (x.node < 0) = false := decide_eq_false (by have := hn.2.2.2; omega)
  have hs : x.short := ⟨by omega, by omega, by omega⟩
  have ht : x.tiny := ⟨by omega, by omega, by omega⟩
  have e2 : decide (x.kind < 1) = false := decide_eq_false (by omega)
  have e3 : decide (8 < x.kind) = false := decide_eq_false (by omega)
  have hE := cmdE_keep hn hk h0 h3
  have HC := fun w1 => refcheck_calls x w1 hs
  have q1 : (cmdE x == 3) = false := beq_eq_false_iff_ne.2 h3
  have q2 : (cmdE x == 0) = false := beq_eq_false_iff_ne.2 h0
  have q2' : ¬ cmdE x = 0 := h0
  have HC := Lib.hid HC
  have HP := Lib.hid (fun g (w1 : World) hw => cmdput_calls g 2 x w1 hw hn ht)
  have hbl : Hid ((putB 2 x 6).length ≤ 1000) := by
    show _ ≤ _
    obtain ⟨⟨n0, n0'⟩, ⟨n1, n1'⟩, ⟨n2, n2'⟩, ⟨n3, n3'⟩⟩ := hn
    have hN : ∀ n : Int, 0 ≤ n → n < 9223372036854775808 → (Fv.num n.toNat).bytes.length ≤ 9 := fun n h1 h2 => vb_len9 (n := n.toNat) (by omega)
    have hT : ∀ l : List UInt8, l.length ≤ 300 → (Fv.txt l).bytes.length ≤ 309 := fun l h => by
      have a := vb_len9 (n := l.length) (by omega)
      have b : (Fv.txt l).bytes.length = (vb l.length).length + l.length := by simp [Fv.bytes]
      omega
    have h0 : (putB 2 x 0).length ≤ 9 := hN _ n0 n0'
    have hst : ∀ k b m, (putB 2 x k).length ≤ m → (pFv x k).bytes.length ≤ b → (putB 2 x (k + 1)).length ≤ m + b := fun k b m h1 h2 => by
      rw [putB]
      split
      · rw [List.length_append]; omega
      · omega
    have h1 := hst 0 9 _ h0 (hN _ n1 n1')
    have h2 := hst 1 9 _ h1 (hN _ n2 n2')
    have h3 := hst 2 309 _ h2 (hT _ l1)
    have h4 := hst 3 309 _ h3 (hT _ l2)
    have h5 := hst 4 309 _ h4 (hT _ l3)
    have h6 := hst 5 9 _ h5 (hN _ n3 n3')
    exact Nat.le_trans h6 (by decide)
  have HG := Lib.hid (fun gr (w1 : World) hr => get_put 2 hn ht gr w1 (Nat.le_trans hbl.out (by decide)) hr)
  have HD := Lib.hid (fun A n c (w1 : World) hl hA hq => dec_put 2 (by decide) hn ht A n c w1 hl hA hq)
  have HR := Lib.hid (fun w1 => refcmdbytes_calls 2 x w1 (by decide) hk hn ht)
  have HW := Lib.hid (fun gw (w1 : World) hw => wbytes_calls gw (putB 2 x 6) w1 (Nat.le_trans hbl.out (by decide)) hw)
  obtain ⟨E, hEE⟩ : ∃ E, hasE 2 (keepX 2 x 6) = E := ⟨_, rfl⟩
  rw [hEE] at HD hE
  have q3 : (E == 0) = false := beq_eq_false_iff_ne.2 hE
  have q3' : ¬ E = 0 := hE
  obtain ⟨y, hy⟩ : ∃ y, keepX 2 x 6 = y := ⟨_, rfl⟩
  rw [hy] at HG
  clear hv hl hn l1 l2 l3 hs ht hk hE hEE h0 h3 hy
  generalize putB 2 x 6 = bs at *
  generalize cmdE x = ce at *
  go_enter Tryz.func4, Tryz.ntmps4
  go_wp2_with (fail)
  rw [← hW]
  clear hW
  refine HL.out.mono ?_
  rintro e w1 ⟨rfl, hb⟩
  have hB1 := Lib.hid (hB.out.call hb)
  have hb1 : Hid (Below w.heap.size w w1) := hbW.out.trans (hb.mono hbW.out.size)
  clear kc kf hlt hb HL hB
  obtain ⟨kc, kf, hlt⟩ := hB1.out.facts
  go_wp2_with (fail)
  refine (HC.out _).mono ?_
  rintro e w1b ⟨rfl, hb⟩
  have hB1b := Lib.hid (hB1.out.call hb)
  have hb1b : Hid (Below w.heap.size w w1b) := hb1.out.trans (hb.mono hb1.out.size)
  clear kc kf hlt hb hB1 hb1
  obtain ⟨kc, kf, hlt⟩ := hB1b.out.facts
  have hB1 := hB1b
  have hb1 := hb1b
  clear hB1b hb1b
  go_wp2_with (fail)
  obtain ⟨gw, hgw⟩ : ∃ gw, gw = w1b.heap.size := ⟨_, rfl⟩
  obtain ⟨X, hX⟩ : ∃ X, X = w1b.alloc (.cells #[.slice none 0 0] 39) := ⟨_, rfl⟩
  have hbX : Below w1b.heap.size w1b X := by subst hX; exact (Below.refl _ _).alloc (Nat.le_refl _) _
  have hw0 : Hid (WrAt X gw []) := by subst hX hgw; exact WrAt.new _
  have hBX := Lib.hid (hB1.out.call hbX)
  have hbX1 : Hid (Below w.heap.size w X) := hb1.out.trans (hbX.mono hb1.out.size)
  have hwg : w.heap.size < gw := by have := hB1.out.lt; omega
  rw [← hX, ← hgw]
  clear kc kf hlt hbX hX hgw hB1 hb1
  refine (HP.out _ _ hw0.out).mono ?_
  rintro e w2 ⟨rfl, hw2, hg2⟩
  have hB2 := Lib.hid (hBX.out.only hg2 (by omega))
  have hb2 : Hid (Below w.heap.size w w2) := hbX1.out.trans (below_of_only hg2 hbX1.out.size (by omega))
  have hw2' := Lib.hid hw2
  clear hw2 hg2 hBX hbX1 hw0
  obtain ⟨kc, kf, hlt⟩ := hB2.out.facts
  go_wp2_with (fail)
  refine (HW.out _ _ hw2'.out).mono ?_
  rintro e w3 ⟨B, k, d, rfl, ho, hb⟩
  have hA3 := Lib.hid (BAt.own ho)
  have hB3 := Lib.hid (hB2.out.call hb)
  have hw3 := Lib.hid (hw2'.out.below hb)
  have hb3 : Hid (Below w.heap.size w w3) := hb2.out.trans (hb.mono hb2.out.size)
  have hk3 : k ≤ 1000 := by have := hA3.out.len; have := hbl.out; omega
  clear kc kf hlt hb ho hB2 hw2' hb2
  go_wp2_with (fail)
  refine (newReader_calls B k d bs _ (by omega) hA3.out).mono ?_
  rintro e w4 ⟨gr, rfl, hok, hgr, hb⟩
  have hB4 := hB3.out.call hb
  have hw4 := hw3.out.below hb
  have hb4 := hb3.out.trans (hb.mono hb3.out.size)
  have hgrw : w3.heap.size ≤ gr := hgr
  have hgww : gw < w3.heap.size := hw3.out.lt
  go_wp2_with (fail)
  refine (HG.out _ _ hok).mono ?_
  rintro e w5 ⟨rfl, hg5⟩
  have hb5 : Below w3.heap.size w3 w5 := hb.trans (below_of_only hg5 hb.size hgr)
  have hB5 := hB3.out.call hb5
  have hw5 := hw3.out.below hb5
  have hbb5 := hb3.out.trans (hb5.mono hb3.out.size)
  obtain ⟨b6, hb6⟩ : ∃ b6, b6 = w5.heap.size := ⟨_, rfl⟩
  obtain ⟨Y, hY⟩ : ∃ Y, Y = w5.alloc (.cells y.cells 23) := ⟨_, rfl⟩
  have hbY : Below w5.heap.size w5 Y := by subst hY; exact (Below.refl _ _).alloc (Nat.le_refl _) _
  have hY6 : Hid (Blk Y b6 23 y.cells) := by subst hY hb6; exact Blk.new _ _ _
  have hB6 := Lib.hid (hB5.call hbY)
  have hw6 := Lib.hid (hw5.below hbY)
  have hbb6 : Hid (Below w.heap.size w Y) := hbb5.trans (hbY.mono hbb5.size)
  clear hb hok hgr hg5 hb5 hB5 hw5 hbb5 hB4 hw4 hb4 hA3 hB3 hw3 hb3 hgrw hgww hbY
  obtain ⟨kc, kf, hlt⟩ := hB6.out.facts
  rw [hY] at kc kf hlt
  go_wp2_with (fail)
  rw [← hY] at kc kf hlt
  try rw [← hb6]
  try rw [← hY]
  clear hY hb6
  refine (HR.out _).mono ?_
  rintro e w7 ⟨B2, k2, d2, rfl, ho, hb⟩
  have hA7 := BAt.own ho
  have hk7 := hA7.len
  have hB7 := hB6.out.call hb
  have hY7 := hY6.out.call hb
  have hw7 := hw6.out.below hb
  have hbb7 := hbb6.out.trans (hb.mono hbb6.out.size)
  clear kc kf hlt
  go_wp2_with (fail)
  refine (HD.out B2 k2 d2 _ (by have := hbl.out; omega) hA7 (hv'.out.below hbb7).q).mono ?_
  rintro e w8 ⟨⟨z, rfl⟩, hb8⟩
  obtain ⟨Z, hZ⟩ : ∃ Z, Z = w8.alloc (.cells z.cells 23) := ⟨_, rfl⟩
  have hbZ : Below w8.heap.size w8 Z := by subst hZ; exact (Below.refl _ _).alloc (Nat.le_refl _) _
  have hb9 : Below w7.heap.size w7 Z := hb8.trans (hbZ.mono hb8.size)
  have hB9 := Lib.hid (hB7.call hb9)
  have hY9 := Lib.hid (hY7.call hb9)
  have hw9 := Lib.hid (hw7.below hb9)
  have hbb9 : Hid (Below w.heap.size w Z) := hbb7.trans (hb9.mono hbb7.size)
  clear hb ho hA7 hk7 hB7 hY7 hw7 hbb7 hb8 hbZ hb9 hB6 hY6 hw6 hbb6 HD HG HP
  go_wp2_with (fail)
  rw [← hZ]
  clear hZ

  obtain ⟨kc, kf, hlt⟩ := hB9.out.facts
  go_region_with ((first
      | (go_at_call 20; refine (HW.out _ _ (hw9.out.below (Below.drew (Below.refl _ _)))).mono ?_; rintro e x1 ⟨B', k', d', rfl, ho', hx1⟩; have hBx1 := Lib.hid (hB9.out.drew.call hx1); obtain ⟨kx1, fx1, lx1⟩ := hBx1.out.facts)
      | (go_at_call 15; refine (HR.out _).mono ?_; rintro e x2 ⟨B'', k'', d'', rfl, ho'', hx2'⟩; have hx2 := hx1.trans (hx2'.mono hx1.size))
      | (go_at_call 14; refine (same_calls B' k' d' bs B'' k'' d'' bs _ (by have := (BAt.own ho').len; have := hbl.out; omega) (by have := (BAt.own ho'').len; have := hbl.out; omega) ((BAt.own ho').below hx2') (BAt.own ho'')).mono ?_; rw [decide_eq_true rfl]; rintro e x3 ⟨rfl, hx3'⟩; have hx3 := hx2.trans (hx3'.mono hx2.size); have hBx3 := Lib.hid (hB9.out.drew.call hx3))))
  all_goals
    have hbc : Hid (Below w.heap.size w x3) := hbb9.out.trans ((Below.drew (Below.refl _ _)).trans (hx3.mono (Nat.le_refl _)) |>.mono hbb9.out.size)
    have hBc := hBx3
    clear hx1 hx2 hx2' hx3 hx3' ho' ho'' hBx1 kx1 fx1 lx1 hBx3 hB9 hY9 hw9 hbb9 HW HR kc kf hlt
    obtain ⟨kc, kf, hlt⟩ := hBc.out.facts
    go_wp2_with (fail)
    refine (HC.out _).mono ?_
    rintro e y1 ⟨rfl, hb⟩
    have hBd := Lib.hid (hBc.out.call hb)
    have hbd : Hid (Below w.heap.size w y1) := hbc.out.trans (hb.mono hbc.out.size)
    clear kc kf hlt hb hBc hbc
    obtain ⟨kc, kf, hlt⟩ := hBd.out.facts
    have hBc := hBd
    have hbc := hbd
    clear hBd hbd
    go_wp2_with (fail)
    refine (awakeC_calls _ (hv'.out.below hbc.out)).mono ?_
    rintro e y3 ⟨rfl, hb⟩
    have hbe : Hid (Below w.heap.size w y3) := hbc.out.trans (hb.mono hbc.out.size)
    clear hb
    go_wp2_with (fail)
    go_ret
    exact ⟨rfl, hbe.out⟩
theorem lawRef_calls (v : Int) (x : CX) (w : World) (hv : AVars w) (hf : (x.kind ≤ 9223372036854775807) ∧ (x.client ≤ 9223372036854775807) ∧ (x.seq ≤ 9223372036854775807) ∧ (x.node ≤ 9223372036854775807)) :
    Calls Tryz.prog 4 #[.int .i64 v, x.value] w fun e w' => e = .returned (.bool true) ∧ Below w.heap.size w w' := by
  by_cases hl : largeB x = true
  · exact lawRef_out v x w hv (.inl hl)
  have hl : largeB x = false := by simpa using hl
  by_cases a1 : v < 1
  · exact lawRef_out v x w hv (.inr ⟨hl, .inl a1⟩)
  by_cases a2 : 2 < v
  · exact lawRef_out v x w hv (.inr ⟨hl, .inr ⟨a1, .inl a2⟩⟩)
  by_cases a3 : x.kind < 0
  · exact lawRef_out v x w hv (.inr ⟨hl, .inr ⟨a1, .inr ⟨a2, .inl a3⟩⟩⟩)
  by_cases a4 : x.client < 0
  · exact lawRef_out v x w hv (.inr ⟨hl, .inr ⟨a1, .inr ⟨a2, .inr ⟨a3, .inl a4⟩⟩⟩⟩)
  by_cases a5 : x.seq < 0
  · exact lawRef_out v x w hv (.inr ⟨hl, .inr ⟨a1, .inr ⟨a2, .inr ⟨a3, .inr ⟨a4, .inl a5⟩⟩⟩⟩⟩)
  by_cases a6 : x.node < 0
  · exact lawRef_out v x w hv (.inr ⟨hl, .inr ⟨a1, .inr ⟨a2, .inr ⟨a3, .inr ⟨a4, .inr ⟨a5, a6⟩⟩⟩⟩⟩⟩)
  have hn : x.nat := ⟨by omega, by omega, by omega, by omega⟩
  have hv12 : v = 1 ∨ v = 2 := by omega
  rcases hv12 with rfl | rfl
  · by_cases ho : x.old = []
    · by_cases h1 : x.kind < 1
      · exact lawRef_one0 x w hv hl hn ho h1
      by_cases h2 : 8 < x.kind
      · exact lawRef_one9 x w hv hl hn ho h2
      exact lawRef_main1 x w hv hl hn ho ⟨by omega, by omega⟩
    · exact lawRef_old x w hv hl hn ho
  · by_cases h3 : cmdE x = 3
    · exact lawRef_form x w hv hl hn h3
    by_cases h1 : x.kind < 1
    · exact lawRef_two0 x w hv hl hn h3 h1
    by_cases h2 : 8 < x.kind
    · exact lawRef_two9 x w hv hl hn h3 h2
    by_cases h0 : cmdE x = 0
    · exact lawRef_main2 x w hv hl hn h0
    · exact lawRef_main3 x w hv hl hn h0 h3 ⟨by omega, by omega⟩
end Go.Proofs.YtdgbpmbknlhgmaaGreatDoor
