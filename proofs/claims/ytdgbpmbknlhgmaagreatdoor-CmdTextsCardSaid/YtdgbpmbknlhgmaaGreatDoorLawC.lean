/-
The walk through the law CmdChecks.
-/
import Derived.Test.YtdgbpmbknlhgmaaGreatDoorCmdJ
import Derived.Test.YtdgbpmbknlhgmaaGreatDoorCmdC
import Derived.Test.YtdgbpmbknlhgmaaGreatDoorCmdF
set_option linter.unusedVariables false
set_option linter.unusedSimpArgs false
namespace Go.Proofs.YtdgbpmbknlhgmaaGreatDoor
open Go.RowKit Qt Vm

/-! ### the example -/
abbrev exC : CX := ⟨2, 1, 2, [107], [118], [], 0⟩
theorem clean_v : clean [118] = true := by
  have h0 : ([118] : List UInt8) ≠ [] := List.cons_ne_nil _ _
  unfold clean
  rw [badI_step 0 h0 (by decide), show (dec [118]).2 = 1 by decide, show ([118] : List UInt8).drop 1 = [] from rfl, badI_nil]; decide
theorem clean_k : clean [107] = true := by
  have h0 : ([107] : List UInt8) ≠ [] := List.cons_ne_nil _ _
  unfold clean
  rw [badI_step 0 h0 (by decide), show (dec [107]).2 = 1 by decide, show ([107] : List UInt8).drop 1 = [] from rfl, badI_nil]; decide
theorem isVal_vC : isVal [118] = true := by unfold isVal; rw [clean_v]; decide
theorem isKey_k : isKey [107] = true := by
  have h0 : ([107] : List UInt8) ≠ [] := List.cons_ne_nil _ _
  have h1 : allR plainR [107] = true := by
    rw [allR_step plainR h0, show (dec [107]).2 = 1 by decide, show ([107] : List UInt8).drop 1 = [] from rfl, allR_nil]; decide
  unfold isKey; rw [clean_k, h1]; decide
theorem exC_ok : cmdE exC = 0 := by
  have t2 : tOk exC 11 2 = true := by
    show txtOk 2 isKey [107] 11 = true
    unfold txtOk; rw [isKey_k]; decide
  have t4 : tOk exC 11 4 = true := by
    show txtOk 8 isVal [118] 11 = true
    unfold txtOk; rw [isVal_vC]; decide
  have e1 : andTo (nOk exC 11) 6 = true := by decide
  have e2 : andTo (tOk exC 11) 6 = true := by
    rw [andTo_iff]
    intro i hi
    match i, hi with
    | 0, _ => rfl
    | 1, _ => rfl
    | 2, _ => exact t2
    | 3, _ => decide
    | 4, _ => exact t4
    | 5, _ => rfl
  have e3 : andTo (fun i => nF exC 11 i && tF exC 11 i) 6 = true := by decide
  have hf : fieldsI exC.kind = 11 := by decide
  have hk : kindOk exC.kind = true := by decide
  unfold cmdE
  rw [hf, hk, if_pos rfl, if_pos e1, if_pos e2, if_pos e3]
theorem exC_enc : encC 2 exC = 0 := encC_of (.inr rfl) exC_ok (by decide)
theorem exC_len : (putB 2 exC 6).length = 7 := by
  have w0 : wantB 0 2 exC.kind = true := by decide
  have w1 : wantB 1 2 exC.kind = true := by decide
  have w2 : wantB 2 2 exC.kind = true := by decide
  have w3 : wantB 3 2 exC.kind = false := by decide
  have w4 : wantB 4 2 exC.kind = true := by decide
  have w5 : wantB 5 2 exC.kind = false := by decide
  simp only [putB, w0, w1, w2, w3, w4, w5, if_true, Bool.false_eq_true, if_false]
  simp only [pFv, Fv.bytes, List.length_append]
  show (vb 2).length + (vb 1).length + (vb 2).length + ((vb 1).length + 1) + ((vb 1).length + 1) = 7
  rw [vb_small (by omega : 2 < 128), vb_small (by omega : 1 < 128)]
  rfl
theorem exC_text : str (cmdT exC) = ⟨#[112, 117, 116, 32, 49, 32, 50, 32, 34, 107, 34, 32, 34, 118, 34]⟩ := by
  have w0 : wantB 0 2 exC.kind = true := by decide
  have w1 : wantB 1 2 exC.kind = true := by decide
  have w2 : wantB 2 2 exC.kind = true := by decide
  have w3 : wantB 3 2 exC.kind = false := by decide
  have w4 : wantB 4 2 exC.kind = true := by decide
  have w5 : wantB 5 2 exC.kind = false := by decide
  have hq : quote [118] = [34, 118, 34] := by
    unfold quote
    rw [body_step _ (List.cons_ne_nil _ _), show piece [118] = [118] by decide, show (dec [118]).2 = 1 by decide, show ([118] : List UInt8).drop 1 = [] from rfl, body_nil]; rfl
  have hq2 : quote [107] = [34, 107, 34] := by
    unfold quote
    rw [body_step _ (List.cons_ne_nil _ _), show piece [107] = [107] by decide, show (dec [107]).2 = 1 by decide, show ([107] : List UInt8).drop 1 = [] from rfl, body_nil]; rfl
  unfold cmdT
  simp only [cmdW, w0, w1, w2, w3, w4, w5, if_true, Bool.false_eq_true, if_false]
  simp only [pW]
  show str (Lib.join ([nameN 2] ++ [Lib.decDigits 1] ++ [Lib.decDigits 2] ++ [quote [107]] ++ [quote [118]]) [32]) = _
  rw [dd_small (by omega : 1 < 10), dd_small (by omega : 2 < 10), hq, hq2]
  rfl
set_option maxHeartbeats 1000000 in
set_option maxRecDepth 100000 in
theorem awakeC_calls (w : World) (hv : AVars w) :
    Calls Tryz.prog 10 #[] w fun e w' => e = .returned (.bool true) ∧ Below w.heap.size w w' := by
  obtain ⟨W, hW⟩ : ∃ W, W = w.alloc (.cells #[.int .i64 2, .int .i64 1, .int .i64 2, .string ⟨#[107]⟩, .string ⟨#[118]⟩, .string ⟨#[]⟩, .int .i64 0] 23) := ⟨_, rfl⟩
  have hbW : Hid (Below w.heap.size w W) := by subst hW; exact (Below.refl _ _).alloc (Nat.le_refl _) _
  have hB : Hid (Blk W w.heap.size 23 exC.cells) := by subst hW; exact Blk.new _ _ _
  have HE0 := cmdenc_ok 2 exC W (hv.below hbW.out).q.tab exC_enc
  have HE : Calls Tryz.prog 11 #[.int .i64 2, .agg #[.int .i64 2, .int .i64 1, .int .i64 2, .string ⟨#[107]⟩, .string ⟨#[118]⟩, .string ⟨#[]⟩, .int .i64 0]] W fun e w' => ∃ B d, e = .returned (.tuple #[.slice B 7 d, .int .i64 0]) ∧ Below W.heap.size W w' := HE0.mono (fun e w' ⟨B, k, d, h1, h2, h3⟩ => ⟨B, d, by
    have hk := (BAt.own h2).len
    rw [exC_len] at hk
    subst hk
    exact h1, h3⟩)
  have HT := fun w1 (h : AVars w1) => cmdtext_ok exC w1 h exC_ok
  rw [exC_text] at HT
  have HE := Lib.hid HE
  have HT := Lib.hid HT
  have hv' := Lib.hid hv
  obtain ⟨kc, kf, hlt⟩ := hB.out.facts
  clear hv HE0
  go_enter Tryz.func10, Tryz.ntmps10
  go_wp2_with (fail)
  rw [← hW]
  clear hW
  refine HE.out.mono ?_
  rintro e w1 ⟨B, d, rfl, hb⟩
  have hB1 := hB.out.call hb
  have hb1 : Hid (Below w.heap.size w w1) := hbW.out.trans (hb.mono hbW.out.size)
  clear kc kf hlt hb HE
  obtain ⟨kc, kf, hlt⟩ := hB1.facts
  go_wp2_with (fail)
  refine (HT.out _ (hv'.out.below hb1.out)).mono ?_
  rintro e w2 ⟨rfl, hb⟩
  have hb2 : Hid (Below w.heap.size w w2) := hb1.out.trans (hb.mono hb1.out.size)
  clear kc kf hlt hb HT hB1
  go_wp2_with (fail)
  go_ret
  exact ⟨rfl, hb2.out⟩

theorem largeB_no {x : CX} (h : largeB x = false) : x.key.length ≤ 300 ∧ x.old.length ≤ 300 ∧ x.val.length ≤ 300 := by
  unfold largeB at h
  simp only [Bool.or_eq_false_iff, decide_eq_false_iff_not] at h
  omega
end Go.Proofs.YtdgbpmbknlhgmaaGreatDoor
