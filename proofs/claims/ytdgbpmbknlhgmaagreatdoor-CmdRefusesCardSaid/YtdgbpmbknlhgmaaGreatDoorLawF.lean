/-
The walk through the law CmdRefuses.
-/
import Derived.Test.YtdgbpmbknlhgmaaGreatDoorLawE
set_option linter.unusedVariables false
set_option linter.unusedSimpArgs false
namespace Go.Proofs.YtdgbpmbknlhgmaaGreatDoor
open Go.RowKit Qt Vm

/-! ### plain -/
/-- what is kept in the second version, field by field. -/
theorem keep_two {x : CX} (hn : x.nat) : keepX 2 x 6 = ⟨x.kind, if hasB x.kind 0 = true then x.client else 0, if hasB x.kind 1 = true then x.seq else 0, if hasB x.kind 2 = true then x.key else [], if hasB x.kind 4 = true then x.val else [], if hasB x.kind 3 = true then x.old else [], if hasB x.kind 5 = true then x.node else 0⟩ := by
  obtain ⟨h0, h1, h2, h3⟩ := hn
  obtain ⟨kd, cl, sq, ky, vl, od, nd⟩ := x
  simp only at h1 h2 h3 ⊢
  have k0 : keepX 2 ⟨kd, cl, sq, ky, vl, od, nd⟩ 0 = ⟨kd, 0, 0, [], [], [], 0⟩ := rfl
  have k1 : keepX 2 ⟨kd, cl, sq, ky, vl, od, nd⟩ 1 = ⟨kd, if hasB kd 0 = true then cl else 0, 0, [], [], [], 0⟩ := keep_step k0 (fun e => by rw [if_pos (show hasB kd 0 = true from e)]; simp only [CX.put, numOf, Int.toNat_of_nonneg h1.1]) (fun e => by rw [if_neg (by rw [show hasB kd 0 = false from e]; exact Bool.false_ne_true)])
  have k2 : keepX 2 ⟨kd, cl, sq, ky, vl, od, nd⟩ 2 = ⟨kd, if hasB kd 0 = true then cl else 0, if hasB kd 1 = true then sq else 0, [], [], [], 0⟩ := keep_step k1 (fun e => by rw [if_pos (show hasB kd 1 = true from e)]; simp only [CX.put, numOf, Int.toNat_of_nonneg h2.1]) (fun e => by rw [if_neg (c := hasB kd 1 = true) (by rw [show hasB kd 1 = false from e]; exact Bool.false_ne_true)])
  have k3 : keepX 2 ⟨kd, cl, sq, ky, vl, od, nd⟩ 3 = ⟨kd, if hasB kd 0 = true then cl else 0, if hasB kd 1 = true then sq else 0, if hasB kd 2 = true then ky else [], [], [], 0⟩ := keep_step k2 (fun e => by rw [if_pos (c := hasB kd 2 = true) (show hasB kd 2 = true from e)]; rfl) (fun e => by rw [if_neg (c := hasB kd 2 = true) (by rw [show hasB kd 2 = false from e]; exact Bool.false_ne_true)])
  have k4 : keepX 2 ⟨kd, cl, sq, ky, vl, od, nd⟩ 4 = ⟨kd, if hasB kd 0 = true then cl else 0, if hasB kd 1 = true then sq else 0, if hasB kd 2 = true then ky else [], [], if hasB kd 3 = true then od else [], 0⟩ := keep_step k3 (fun e => by rw [if_pos (c := hasB kd 3 = true) (show hasB kd 3 = true from e)]; rfl) (fun e => by rw [if_neg (c := hasB kd 3 = true) (by rw [show hasB kd 3 = false from e]; exact Bool.false_ne_true)])
  have k5 : keepX 2 ⟨kd, cl, sq, ky, vl, od, nd⟩ 5 = ⟨kd, if hasB kd 0 = true then cl else 0, if hasB kd 1 = true then sq else 0, if hasB kd 2 = true then ky else [], if hasB kd 4 = true then vl else [], if hasB kd 3 = true then od else [], 0⟩ := keep_step k4 (fun e => by rw [if_pos (c := hasB kd 4 = true) (show hasB kd 4 = true from e)]; rfl) (fun e => by rw [if_neg (c := hasB kd 4 = true) (by rw [show hasB kd 4 = false from e]; exact Bool.false_ne_true)])
  exact keep_step k5 (fun e => by rw [if_pos (c := hasB kd 5 = true) (show hasB kd 5 = true from e)]; simp only [CX.put, numOf, Int.toNat_of_nonneg h3.1]) (fun e => by rw [if_neg (c := hasB kd 5 = true) (by rw [show hasB kd 5 = false from e]; exact Bool.false_ne_true)])
theorem numOk_keep (kd : Int) (i : Nat) (most n : Int) : numOk (pHas i) most (if hasB kd i = true then n else 0) (fieldsI kd) = numOk (pHas i) most n (fieldsI kd) := by
  unfold numOk
  rw [hasB_not]
  cases hasB kd i <;> simp
theorem txtOk_keep (kd : Int) (i : Nat) (is : List UInt8 → Bool) (l : List UInt8) : txtOk (pHas i) is (if hasB kd i = true then l else []) (fieldsI kd) = txtOk (pHas i) is l (fieldsI kd) := by
  unfold txtOk
  rw [hasB_not]
  cases hasB kd i <;> simp
theorem andTo_congr {p q : Nat → Bool} (h : ∀ i, i < 6 → p i = q i) : andTo p 6 = andTo q 6 := by
  have : andTo p 6 = true ↔ andTo q 6 = true := by
    rw [andTo_iff, andTo_iff]
    exact ⟨fun g i hi => (h i hi) ▸ g i hi, fun g i hi => (h i hi).symm ▸ g i hi⟩
  cases hp : andTo p 6 <;> cases hq : andTo q 6 <;> simp_all
theorem nOk_keep {x : CX} (hn : x.nat) : andTo (nOk (keepX 2 x 6) (fieldsI x.kind)) 6 = andTo (nOk x (fieldsI x.kind)) 6 := by
  refine andTo_congr fun i hi => ?_
  rw [keep_two hn]
  match i, hi with
  | 0, _ => exact numOk_keep x.kind 0 8 x.client
  | 1, _ => exact numOk_keep x.kind 1 4294967296 x.seq
  | 2, _ => rfl
  | 3, _ => rfl
  | 4, _ => rfl
  | 5, _ => exact numOk_keep x.kind 5 9 x.node
theorem tOk_keep {x : CX} (hn : x.nat) : andTo (tOk (keepX 2 x 6) (fieldsI x.kind)) 6 = andTo (tOk x (fieldsI x.kind)) 6 := by
  refine andTo_congr fun i hi => ?_
  rw [keep_two hn]
  match i, hi with
  | 0, _ => rfl
  | 1, _ => rfl
  | 2, _ => exact txtOk_keep x.kind 2 isKey x.key
  | 3, _ => exact txtOk_keep x.kind 3 isVal x.old
  | 4, _ => exact txtOk_keep x.kind 4 isVal x.val
  | 5, _ => rfl
/-- what is wrong by a number or a text is as wrong in what is kept. -/
theorem cmdE_keep {x : CX} (hn : x.nat) (hk : 1 ≤ x.kind ∧ x.kind ≤ 8) (h0 : cmdE x ≠ 0) (h3 : cmdE x ≠ 3) : hasE 2 (keepX 2 x 6) ≠ 0 := by
  have e : cmdE (keepX 2 x 6) ≠ 0 := by
    intro hz
    unfold cmdE at hz h0 h3
    rw [keepX_kind, nOk_keep hn, tOk_keep hn, (kindOk_iff _).2 hk, if_pos rfl] at hz
    rw [(kindOk_iff _).2 hk, if_pos rfl] at h0 h3
    cases h1 : andTo (nOk x (fieldsI x.kind)) 6
    · rw [h1, if_neg Bool.false_ne_true] at hz; exact absurd hz (by decide)
    rw [h1, if_pos rfl] at hz h0 h3
    cases h2 : andTo (tOk x (fieldsI x.kind)) 6
    · rw [h2, if_neg Bool.false_ne_true] at hz; exact absurd hz (by decide)
    rw [h2, if_pos rfl] at hz h0 h3
    cases h4 : andTo (fun i => nF x (fieldsI x.kind) i && tF x (fieldsI x.kind) i) 6
    · rw [h4, if_neg Bool.false_ne_true] at h3; exact h3 rfl
    · rw [h4, if_pos rfl] at h0; exact h0 rfl
  unfold hasE
  rw [if_neg e]
  exact e
theorem cmdE_kind {x : CX} (h : cmdE x ≠ 5) : 1 ≤ x.kind ∧ x.kind ≤ 8 := by
  rw [← kindOk_iff]
  cases hk : kindOk x.kind
  · exfalso; apply h; unfold cmdE; rw [hk]; rfl
  · rfl
/-- decoding what a command was put as. -/
theorem dec_put (v : Int) {x : CX} (h1 : v = 1 ∨ v = 2) (hn : x.nat) (ht : x.tiny) (A : Option Addr) (n c : Nat) (w : World) (hl : n ≤ 90000) (hA : BAt w A n (putB v x 6)) (hq : QVars w) :
    Calls Tryz.prog 13 #[.int .i64 v, .slice A n c] w fun e w' => (∃ y : CX, e = .returned (.tuple #[y.value, .int .i64 (hasE v (keepX v x 6))])) ∧ Below w.heap.size w w' := by
  refine (cmddec_calls v A n c _ w h1 hl hA hq).mono ?_
  rintro e w' ⟨hD, hb⟩
  refine ⟨?_, hb⟩
  unfold DecC at hD
  rw [getC_of v hn ht] at hD
  rcases hD with ⟨_, h2, he⟩ | ⟨_, y, _, hy, he⟩
  · exact ⟨keepX v x 6, by rw [h2]; exact he⟩
  · exact ⟨⟨0, 0, 0, [], [], [], 0⟩, by rw [← hy rfl]; exact he⟩
/-- getting what a command was put as. -/
theorem get_put (v : Int) {x : CX} (hn : x.nat) (ht : x.tiny) (gr : Nat) (w : World) (hl : (putB v x 6).length ≤ 1000000) (hr : RdOk w gr (putB v x 6) 0) :
    Calls Tryz.prog 18 #[.pointer (some ⟨gr, 0, none⟩), .int .i64 v] w fun e w' => e = .returned (keepX v x 6).value ∧ w.grownBy w' (some gr) := by
  refine (cmdget_calls gr v (putB v x 6) (some 0) w hl hr).mono ?_
  rintro e w' ⟨he, _, hg⟩
  refine ⟨?_, hg⟩
  have := getC_of v hn ht
  unfold getC at this
  rw [this] at he
  exact he
theorem seven_two {w : World} {b b' : Nat} {t : TypeId} {c0 c1 c2 c3 c4 c5 c6 d0 d1 d2 d3 d4 d5 d6 : Value} (h : Blk w b t #[c0, c1, c2, c3, c4, c5, c6]) (h' : Blk w b' t #[d0, d1, d2, d3, d4, d5, d6]) :
    w.cell? ⟨b, 0, none⟩ = some c0 ∧ w.cell? ⟨b, 1, none⟩ = some c1 ∧ w.cell? ⟨b, 2, none⟩ = some c2 ∧ w.cell? ⟨b, 3, none⟩ = some c3 ∧ w.cell? ⟨b, 4, none⟩ = some c4 ∧ w.cell? ⟨b, 5, none⟩ = some c5 ∧ w.cell? ⟨b, 6, none⟩ = some c6 ∧
    w.cell? ⟨b', 0, none⟩ = some d0 ∧ w.cell? ⟨b', 1, none⟩ = some d1 ∧ w.cell? ⟨b', 2, none⟩ = some d2 ∧ w.cell? ⟨b', 3, none⟩ = some d3 ∧ w.cell? ⟨b', 4, none⟩ = some d4 ∧ w.cell? ⟨b', 5, none⟩ = some d5 ∧ w.cell? ⟨b', 6, none⟩ = some d6 :=
  ⟨h.cell 0, h.cell 1, h.cell 2, h.cell 3, h.cell 4, h.cell 5, h.cell 6, h'.cell 0, h'.cell 1, h'.cell 2, h'.cell 3, h'.cell 4, h'.cell 5, h'.cell 6⟩

set_option maxHeartbeats 4000000 in
set_option maxRecDepth 100000 in
/-- what is not looked at. -/
theorem lawRef_out (v : Int) (x : CX) (w : World) (hv : AVars w) (h : largeB x = true ∨ (largeB x = false ∧ (v < 1 ∨ (¬ v < 1 ∧ (2 < v ∨ (¬ 2 < v ∧ (x.kind < 0 ∨ (¬ x.kind < 0 ∧ (x.client < 0 ∨ (¬ x.client < 0 ∧ (x.seq < 0 ∨ (¬ x.seq < 0 ∧ x.node < 0)))))))))))) :
    Calls Tryz.prog 4 #[.int .i64 v, x.value] w fun e w' => e = .returned (.bool true) ∧ Below w.heap.size w w' := by
  obtain ⟨W, hW⟩ : ∃ W, W = w.alloc (.cells x.cells 23) := ⟨_, rfl⟩
  have hbW : Hid (Below w.heap.size w W) := by subst hW; exact (Below.refl _ _).alloc (Nat.le_refl _) _
  have hB : Hid (Blk W w.heap.size 23 x.cells) := by subst hW; exact Blk.new _ _ _
  have HL := large_calls x W
  have hv' := Lib.hid hv
  obtain ⟨kc, kf, hlt⟩ := hB.out.facts
  clear hv
  have hc : (largeB x = true) ∨ (largeB x = false ∧ decide (v < 1) = true) ∨ (largeB x = false ∧ decide (v < 1) = false ∧ decide (2 < v) = true) ∨ (largeB x = false ∧ decide (v < 1) = false ∧ decide (2 < v) = false ∧ decide (x.kind < 0) = true) ∨ (largeB x = false ∧ decide (v < 1) = false ∧ decide (2 < v) = false ∧ decide (x.kind < 0) = false ∧ decide (x.client < 0) = true) ∨ (largeB x = false ∧ decide (v < 1) = false ∧ decide (2 < v) = false ∧ decide (x.kind < 0) = false ∧ decide (x.client < 0) = false ∧ decide (x.seq < 0) = true) ∨ (largeB x = false ∧ decide (v < 1) = false ∧ decide (2 < v) = false ∧ decide (x.kind < 0) = false ∧ decide (x.client < 0) = false ∧ decide (x.seq < 0) = false ∧ decide (x.node < 0) = true) := by
    simp only [decide_eq_true_eq, decide_eq_false_iff_not]
    rcases h with h | ⟨h, h1 | ⟨h1, h2 | ⟨h2, h3 | ⟨h3, h4 | ⟨h4, h5 | ⟨h5, h6⟩⟩⟩⟩⟩⟩
    · exact .inl h
    · exact .inr (.inl ⟨h, h1⟩)
    · exact .inr (.inr (.inl ⟨h, h1, h2⟩))
    · exact .inr (.inr (.inr (.inl ⟨h, h1, h2, h3⟩)))
    · exact .inr (.inr (.inr (.inr (.inl ⟨h, h1, h2, h3, h4⟩))))
    · exact .inr (.inr (.inr (.inr (.inr (.inl ⟨h, h1, h2, h3, h4, h5⟩)))))
    · exact .inr (.inr (.inr (.inr (.inr (.inr ⟨h, h1, h2, h3, h4, h5, h6⟩)))))
  clear h
  rcases hc with hl | ⟨hl, d1⟩ | ⟨hl, d1, d2⟩ | ⟨hl, d1, d2, d3⟩ | ⟨hl, d1, d2, d3, d4⟩ | ⟨hl, d1, d2, d3, d4, d5⟩ | ⟨hl, d1, d2, d3, d4, d5, d6⟩
  all_goals
    rw [hl] at HL
    have HL' := Lib.hid HL
    clear hl HL
    go_enter Tryz.func4, Tryz.ntmps4
    go_wp2_with (fail)
    rw [← hW]
    clear hW
    refine HL'.out.mono ?_
    rintro e w1 ⟨rfl, hb⟩
    have hB1 := hB.out.call hb
    have hb1 : Hid (Below w.heap.size w w1) := hbW.out.trans (hb.mono hbW.out.size)
    clear kc kf hlt hb HL' hB
    obtain ⟨kc, kf, hlt⟩ := hB1.facts
    clear hB1
    go_wp2_with (fail)
    refine (awakeC_calls _ (hv'.out.below hb1.out)).mono ?_
    rintro e w2 ⟨rfl, hb⟩
    have hb2 : Hid (Below w.heap.size w w2) := hb1.out.trans (hb.mono hb1.out.size)
    clear hb
    go_wp2_with (fail)
    go_ret
    exact ⟨rfl, hb2.out⟩
end Go.Proofs.YtdgbpmbknlhgmaaGreatDoor
