/-
The walk through changeoverref08.Has, and through the law CmdEncodes.
-/
import Derived.Test.YtdgbpmbknlhgmaaGreatDoorCmdK
import Derived.Test.YtdgbpmbknlhgmaaGreatDoorLawC
import Derived.Laws.StructEq
set_option linter.unusedVariables false
set_option linter.unusedSimpArgs false
namespace Go.Proofs.YtdgbpmbknlhgmaaGreatDoor
open Go.RowKit Qt Vm

set_option maxHeartbeats 2000000 in
set_option maxRecDepth 100000 in
theorem refhas8_calls (v : Int) (x : CX) (w : World) (hs : x.short) :
    Calls Tryz.prog 12 #[.int .i64 v, x.value] w fun e w' => e = .returned (.int .i64 (encC v x)) ∧ Below w.heap.size w w' := by
  obtain ⟨W, hW⟩ : ∃ W, W = w.alloc (.cells x.cells 23) := ⟨_, rfl⟩
  have hbW : Hid (Below w.heap.size w W) := by subst hW; exact (Below.refl _ _).alloc (Nat.le_refl _) _
  have hB : Hid (Blk W w.heap.size 23 x.cells) := by subst hW; exact Blk.new _ _ _
  obtain ⟨kc, kf, hlt⟩ := hB.out.facts
  by_cases hv : v = 1 ∨ v = 2
  · have HC := Lib.hid (refcheck_calls x W hs)
    have HF := Lib.hid (fun w1 => refhas_calls v x.kind w1)
    have hE : Hid (encC v x = if cmdE x = 0 then (if vhasB v x.kind = true then 0 else 8) else cmdE x) := by show _ = _; unfold encC hasE; rw [if_pos hv]
    have g1 : decide (v < 1) = false := decide_eq_false (by omega)
    have g2 : decide (2 < v) = false := decide_eq_false (by omega)
    clear hv hs
    generalize cmdE x = ce at *
    generalize vhasB v x.kind = vh at *
    by_cases hc : ce = 0
    · subst hc
      go_enter Tryz.func12, Tryz.ntmps12
      go_wp2_with (fail)
      rw [← hW]
      clear hW
      refine HC.out.mono ?_
      rintro e w1 ⟨rfl, hb⟩
      have hB1 := Lib.hid (hB.out.call hb)
      have hb1 : Hid (Below w.heap.size w w1) := hbW.out.trans (hb.mono hbW.out.size)
      clear kc kf hlt hb hB HC
      obtain ⟨kc, kf, hlt⟩ := hB1.out.facts
      go_wp2_with (fail)
      refine (HF.out _).mono ?_
      rintro e w2 ⟨rfl, rfl⟩
      cases vh
      · have hq : Hid (encC v x = 8) := hE
        clear hE
        go_wp2_with (fail)
        go_ret
        exact ⟨ret_int hq.out.symm, hb1.out⟩
      · have hq : Hid (encC v x = 0) := hE
        clear hE
        go_wp2_with (fail)
        go_ret
        exact ⟨ret_int hq.out.symm, hb1.out⟩
    · have hq : Hid (encC v x = ce) := by show _ = _; rw [hE.out, if_neg hc]
      have t1 : (ce == 0) = false := beq_eq_false_iff_ne.2 hc
      clear hE hc
      go_enter Tryz.func12, Tryz.ntmps12
      go_wp2_with (fail)
      rw [← hW]
      clear hW
      refine HC.out.mono ?_
      rintro e w1 ⟨rfl, hb⟩
      have hb1 : Hid (Below w.heap.size w w1) := hbW.out.trans (hb.mono hbW.out.size)
      clear kc kf hlt hb hB HC
      go_wp2_with (fail)
      go_ret
      exact ⟨ret_int hq.out.symm, hb1.out⟩
  · have hq : Hid (encC v x = 8) := by show _ = _; unfold encC; rw [if_neg hv]
    have hcase : (decide (v < 1) = true) ∨ (decide (v < 1) = false ∧ decide (2 < v) = true) := by
      by_cases h1 : v < 1
      · exact .inl (decide_eq_true h1)
      · exact .inr ⟨decide_eq_false h1, decide_eq_true (by omega)⟩
    clear hv hs
    rcases hcase with d1 | ⟨d1, d2⟩
    all_goals
      go_enter Tryz.func12, Tryz.ntmps12
      go_wp2_with (fail)
      rw [← hW]
      clear hW
      go_wp2_with (fail)
      go_ret
      exact ⟨ret_int hq.out.symm, hbW.out⟩

/-- decoding what a command was encoded as. -/
theorem dec_enc {v : Int} {x : CX} (h : encC v x = 0) (A : Option Addr) (n c : Nat) (w : World) (hn : n ≤ 90000) (hA : BAt w A n (putB v x 6)) (hq : QVars w) :
    Calls Tryz.prog 13 #[.int .i64 v, .slice A n c] w fun e w' => e = .returned (.tuple #[x.value, .int .i64 0]) ∧ Below w.heap.size w w' := by
  obtain ⟨h1, h2, h3⟩ := encC_ok h
  have hok := cmd_ok h2
  refine (cmddec_calls v A n c _ w h1 hn hA hq).mono ?_
  rintro e w' ⟨hD, hb⟩
  refine ⟨?_, hb⟩
  unfold DecC at hD
  rw [getC_of v hok.nat hok.tiny, keep_ok hok h1 h3] at hD
  rcases hD with ⟨_, _, he⟩ | ⟨hno, _⟩
  · exact he
  · exact absurd ⟨rfl, hasE_of h⟩ hno
theorem putB_small {v : Int} {x : CX} (h : x.Ok) : (putB v x 6).length ≤ 600 := by
  obtain ⟨s1, s2, s3⟩ := h.small
  have hn := h.nat
  obtain ⟨⟨n0, n0'⟩, ⟨n1, n1'⟩, ⟨n2, n2'⟩, ⟨n3, n3'⟩⟩ := hn
  have hN : ∀ n : Int, 0 ≤ n → n < 9223372036854775808 → (Fv.num n.toNat).bytes.length ≤ 60 := fun n h1 h2 => by
    have := vb_len9 (n := n.toNat) (by omega)
    show (vb n.toNat).length ≤ _
    omega
  have hT : ∀ l : List UInt8, l.length ≤ 48 → (Fv.txt l).bytes.length ≤ 60 := fun l h => by
    have a := vb_len9 (n := l.length) (by omega)
    have b : (Fv.txt l).bytes.length = (vb l.length).length + l.length := by simp [Fv.bytes]
    omega
  have hF : ∀ i, i < 6 → (pFv x i).bytes.length ≤ 60 := fun i hi => by
    match i, hi with
    | 0, _ => exact hN _ n1 n1'
    | 1, _ => exact hN _ n2 n2'
    | 2, _ => exact hT _ s1
    | 3, _ => exact hT _ s2
    | 4, _ => exact hT _ s3
    | 5, _ => exact hN _ n3 n3'
  have hk : ∀ k, k ≤ 6 → (putB v x k).length ≤ 9 + k * 60 := by
    intro k
    induction k with
    | zero =>
      intro _
      have := vb_len9 (n := x.kind.toNat) (by omega)
      show (vb x.kind.toNat).length ≤ _
      omega
    | succ k ih =>
      intro hk
      have h1 := ih (by omega)
      have h2 := hF k (by omega)
      rw [putB]
      split
      · rw [List.length_append]; omega
      · exact Nat.le_trans h1 (Nat.add_le_add_left (Nat.mul_le_mul_right _ (Nat.le_succ k)) 9)
  exact Nat.le_trans (hk 6 (Nat.le_refl _)) (by decide)

set_option maxHeartbeats 4000000 in
set_option maxRecDepth 100000 in
theorem lawCEnc_calls (v : Int) (x : CX) (w : World) (hv : AVars w) :
    Calls Tryz.prog 3 #[.int .i64 v, x.value] w fun e w' => e = .returned (.bool true) ∧ Below w.heap.size w w' := by
  obtain ⟨W, hW⟩ : ∃ W, W = w.alloc (.cells x.cells 23) := ⟨_, rfl⟩
  have hbW : Hid (Below w.heap.size w W) := by subst hW; exact (Below.refl _ _).alloc (Nat.le_refl _) _
  have hB : Hid (Blk W w.heap.size 23 x.cells) := by subst hW; exact Blk.new _ _ _
  have HL := large_calls x W
  have hv' := Lib.hid hv
  obtain ⟨kc, kf, hlt⟩ := hB.out.facts
  clear hv
  cases hl : largeB x
  · rw [hl] at HL
    obtain ⟨l1, l2, l3⟩ := largeB_no hl
    have hs : x.short := ⟨by omega, by omega, by omega⟩
    have HL := Lib.hid HL
    have H2 := Lib.hid (fun w1 => refhas8_calls v x w1 hs)
    by_cases he : encC v x = 0
    · have H1 := Lib.hid (fun w1 (h : AVars w1) => cmdenc_ok v x w1 h.q.tab he)
      have H3 := Lib.hid (fun A n c (w1 : World) hn hA hq => dec_enc he A n c w1 hn hA hq)
      obtain ⟨e1, e2, e3⟩ := encC_ok he
      have hok := cmd_ok e2
      have H4 := Lib.hid (fun w1 => refcmdbytes_calls v x w1 e1 hok.kind hok.nat hok.tiny)
      have hsm := putB_small (v := v) hok
      rw [he] at H2
      clear hl hs l1 l2 l3 he e1 e2 e3 hok
      generalize putB v x 6 = bs at *
      go_enter Tryz.func3, Tryz.ntmps3
      go_wp2_with (fail)
      rw [← hW]
      clear hW
      refine HL.out.mono ?_
      rintro e w1 ⟨rfl, hb⟩
      have hB1 := Lib.hid (hB.out.call hb)
      have hb1 : Hid (Below w.heap.size w w1) := hbW.out.trans (hb.mono hbW.out.size)
      clear kc kf hlt hb HL hB
      obtain ⟨kc, kf, hlt⟩ := hB1.out.facts
      go_wp2_with (fail)
      refine (H1.out _ (hv'.out.below hb1.out)).mono ?_
      rintro e w2 ⟨B, k, d, rfl, ho, hb⟩
      have hk := (BAt.own ho).len
      have hA2 := Lib.hid (BAt.own ho)
      have hB2 := Lib.hid (hB1.out.call hb)
      have hb2 : Hid (Below w.heap.size w w2) := hb1.out.trans (hb.mono hb1.out.size)
      have hk6 : k ≤ 600 := by omega
      clear kc kf hlt hb ho hB1 H1 hk hsm
      obtain ⟨kc, kf, hlt⟩ := hB2.out.facts
      go_wp2_with (fail)
      refine (H2.out _).mono ?_
      rintro e w3 ⟨rfl, hb⟩
      have hA3 := Lib.hid (hA2.out.below hb)
      have hB3 := Lib.hid (hB2.out.call hb)
      have hb3 : Hid (Below w.heap.size w w3) := hb2.out.trans (hb.mono hb2.out.size)
      clear kc kf hlt hb hB2 hA2 H2
      obtain ⟨kc, kf, hlt⟩ := hB3.out.facts
      go_wp2_with (fail)
      refine (H3.out B k d _ (by omega) hA3.out (hv'.out.below hb3.out).q).mono ?_
      rintro e w4 ⟨rfl, hb⟩
      obtain ⟨X, hX⟩ : ∃ X, X = w4.alloc (.cells x.cells 23) := ⟨_, rfl⟩
      have hbX : Below w4.heap.size w4 X := by subst hX; exact (Below.refl _ _).alloc (Nat.le_refl _) _
      have hC4 : Hid (Blk X w4.heap.size 23 x.cells) := by subst hX; exact Blk.new _ _ _
      have hB4 := Lib.hid ((hB3.out.call hb).call hbX)
      have hA4 := Lib.hid ((hA3.out.below hb).below hbX)
      have hb4 : Hid (Below w.heap.size w X) := (hb3.out.trans (hb.mono hb3.out.size)).trans (hbX.mono (Nat.le_trans hb3.out.size hb.size))
      clear kc kf hlt hb hB3 hA3 H3 hbX
      obtain ⟨kc, kf, hlt⟩ := hB4.out.facts
      rw [hX] at kc kf hlt
      go_wp2_with (fail)
      rw [← hX] at kc kf hlt ⊢
      refine (H4.out _).mono ?_
      rintro e w5 ⟨B2, k2, d2, rfl, ho2, hb⟩
      have hk2 := (BAt.own ho2).len
      have hA5 := Lib.hid (hA4.out.below hb)
      have hB5 := Lib.hid (hB4.out.call hb)
      have hC5 := Lib.hid (hC4.out.call hb)
      have hb5 : Hid (Below w.heap.size w w5) := hb4.out.trans (hb.mono hb4.out.size)
      have hk1 := hA5.out.len
      have HS := same_calls B k d bs B2 k2 d2 bs w5 (by omega) (by omega) hA5.out (BAt.own ho2)
      rw [decide_eq_true rfl] at HS
      have HS := Lib.hid HS
      clear kc kf hlt hb hB4 hC4 hA4 ho2 hX
      go_wp2_with (fail)
      refine HS.out.mono ?_
      rintro e w6 ⟨rfl, hb⟩
      have hB6 := hB5.out.call hb
      have hC6 := hC5.out.call hb
      have hb6 : Hid (Below w.heap.size w w6) := hb5.out.trans (hb.mono hb5.out.size)
      obtain ⟨kc, kf, hlt⟩ := hB6.facts
      obtain ⟨kc2, kf2, hlt2⟩ := hC6.facts
      clear hb HS hB5 hC5 hA5 hB6 hC6
      go_wp2_with (fail)
      refine (awakeC_calls _ (hv'.out.below hb6.out)).mono ?_
      rintro e w7 ⟨rfl, hb⟩
      have hb7 : Hid (Below w.heap.size w w7) := hb6.out.trans (hb.mono hb6.out.size)
      clear hb
      go_wp2_with (fail)
      go_ret
      exact ⟨rfl, hb7.out⟩
    · have H1 := Lib.hid (fun w1 (h : AVars w1) => cmdenc_no v x w1 hs h.q.tab he)
      have t1 : (encC v x == 0) = false := beq_eq_false_iff_ne.2 he
      have t2 : (encC v x == encC v x) = true := beq_self_eq_true _
      clear hl hs l1 l2 l3 he
      generalize encC v x = ee at *
      go_enter Tryz.func3, Tryz.ntmps3
      go_wp2_with (fail)
      rw [← hW]
      clear hW
      refine HL.out.mono ?_
      rintro e w1 ⟨rfl, hb⟩
      have hB1 := Lib.hid (hB.out.call hb)
      have hb1 : Hid (Below w.heap.size w w1) := hbW.out.trans (hb.mono hbW.out.size)
      clear kc kf hlt hb HL hB
      obtain ⟨kc, kf, hlt⟩ := hB1.out.facts
      go_wp2_with (fail)
      refine (H1.out _ (hv'.out.below hb1.out)).mono ?_
      rintro e w2 ⟨rfl, hb⟩
      have hB2 := Lib.hid (hB1.out.call hb)
      have hb2 : Hid (Below w.heap.size w w2) := hb1.out.trans (hb.mono hb1.out.size)
      clear kc kf hlt hb hB1 H1
      obtain ⟨kc, kf, hlt⟩ := hB2.out.facts
      go_wp2_with (fail)
      refine (H2.out _).mono ?_
      rintro e w3 ⟨rfl, hb⟩
      have hb3 : Hid (Below w.heap.size w w3) := hb2.out.trans (hb.mono hb2.out.size)
      clear kc kf hlt hb hB2 H2
      go_wp2_with (fail)
      refine (awakeC_calls _ (hv'.out.below hb3.out)).mono ?_
      rintro e w7 ⟨rfl, hb⟩
      have hb7 : Hid (Below w.heap.size w w7) := hb3.out.trans (hb.mono hb3.out.size)
      clear hb
      go_wp2_with (fail)
      go_ret
      exact ⟨rfl, hb7.out⟩
  · rw [hl] at HL
    have HL := Lib.hid HL
    clear hl
    go_enter Tryz.func3, Tryz.ntmps3
    go_wp2_with (fail)
    rw [← hW]
    clear hW
    refine HL.out.mono ?_
    rintro e w1 ⟨rfl, hb⟩
    have hb1 : Hid (Below w.heap.size w w1) := hbW.out.trans (hb.mono hbW.out.size)
    clear kc kf hlt hb HL hB
    go_wp2_with (fail)
    refine (awakeC_calls _ (hv'.out.below hb1.out)).mono ?_
    rintro e w2 ⟨rfl, hb⟩
    have hb2 : Hid (Below w.heap.size w w2) := hb1.out.trans (hb.mono hb1.out.size)
    clear hb
    go_wp2_with (fail)
    go_ret
    exact ⟨rfl, hb2.out⟩
end Go.Proofs.YtdgbpmbknlhgmaaGreatDoor
