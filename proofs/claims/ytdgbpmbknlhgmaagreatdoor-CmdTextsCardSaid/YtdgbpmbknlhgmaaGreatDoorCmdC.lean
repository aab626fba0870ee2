/-
The walks through the reference's Owned, member, Check of a command, and through cmd.Owned and the law's large.
-/
import Derived.Test.YtdgbpmbknlhgmaaGreatDoorCmdB
set_option linter.unusedVariables false
set_option linter.unusedSimpArgs false
namespace Go.Proofs.YtdgbpmbknlhgmaaGreatDoor
open Go.RowKit Qt

def ownB (k : Int) : Bool := decide (2 ≤ k) && decide (k ≤ 5)
def memB (k : Int) : Bool := k == 7 || k == 8
theorem refOwned_calls (k : Int) (w : World) : Calls Tryz.prog 39 #[.int .i64 k] w fun e w' => e = .returned (.bool (ownB k)) ∧ w = w' := by
  by_cases h : 2 ≤ k
  · have hq : Hid (ownB k = decide (k ≤ 5)) := by show _ = _; unfold ownB; rw [decide_eq_true h]; rfl
    go_enter Tryz.func39, Tryz.ntmps39
    go_wp2
    go_ret
    exact ⟨ret_bool hq.out.symm, rfl⟩
  · have hq : Hid (ownB k = false) := by show _ = _; unfold ownB; rw [decide_eq_false h]; rfl
    have d := decide_eq_false h
    go_enter Tryz.func39, Tryz.ntmps39
    go_wp2
    go_ret
    exact ⟨ret_bool hq.out.symm, rfl⟩
theorem refmember_calls (k : Int) (w : World) : Calls Tryz.prog 41 #[.int .i64 k] w fun e w' => e = .returned (.bool (memB k)) ∧ w = w' := by
  by_cases h : k = 7
  · subst h
    go_enter Tryz.func41, Tryz.ntmps41
    go_wp2
    go_ret
    exact ⟨rfl, rfl⟩
  · have d : (k == 7) = false := beq_eq_false_iff_ne.2 h
    have hq : Hid (memB k = (k == 8)) := by show _ = _; unfold memB; rw [d]; rfl
    go_enter Tryz.func41, Tryz.ntmps41
    go_wp2
    go_ret
    exact ⟨ret_bool hq.out.symm, rfl⟩
set_option maxHeartbeats 1000000 in
theorem owned_calls (x : CX) (w : World) : Calls Tryz.prog 106 #[x.value] w fun e w' => e = .returned (.bool (ownB x.kind)) ∧ Below w.heap.size w w' := by
  have hq : Hid ((bits .and .i64 (fieldsI x.kind) 1 != 0) = ownB x.kind) := by
    show _ = _
    obtain ⟨k, rest⟩ := x
    simp only
    have hc : k = 1 ∨ k = 2 ∨ k = 3 ∨ k = 4 ∨ k = 5 ∨ k = 6 ∨ k = 7 ∨ k = 8 ∨ (k < 1 ∨ 8 < k) := by omega
    rcases hc with rfl | rfl | rfl | rfl | rfl | rfl | rfl | rfl | hk
    iterate 8
      · decide
    have h1 : fieldsI k = 0 := by unfold fieldsI; rw [if_neg (by omega), if_neg (by omega), if_neg (by omega), if_neg (by omega), if_neg (by omega)]
    rw [h1]
    unfold ownB
    rcases hk with h | h
    · rw [decide_eq_false (p := 2 ≤ k) (by omega)]; exact (by decide : (bits .and .i64 0 1 != 0) = false)
    · rw [decide_eq_false (p := k ≤ 5) (by omega), Bool.and_false]; exact (by decide : (bits .and .i64 0 1 != 0) = false)
  obtain ⟨W, hW⟩ : ∃ W, W = w.alloc (.cells x.cells 23) := ⟨_, rfl⟩
  have hbW : Hid (Below w.heap.size w W) := by subst hW; exact (Below.refl _ _).alloc (Nat.le_refl _) _
  have hB : Hid (Blk W w.heap.size 23 x.cells) := by subst hW; exact Blk.new _ _ _
  obtain ⟨kc, kf, hlt⟩ := hB.out.facts
  have c0 := kc 0
  simp only [List.getElem?_toArray, List.getElem?_cons_zero, List.getElem?_cons_succ] at c0
  clear kc
  have hF := fields_calls x.kind W
  generalize fieldsI x.kind = ff at *
  go_enter Tryz.func106, Tryz.ntmps106
  go_wp2_with (fail)
  rw [← hW]
  clear hW
  go_wp2_with (fail)
  refine hF.mono ?_
  rintro e w1 ⟨rfl, rfl⟩
  go_wp2_with (fail)
  go_ret
  exact ⟨ret_bool hq.out, hbW.out⟩

def largeB (x : CX) : Bool := decide (300 < x.key.length) || (decide (300 < x.old.length) || decide (300 < x.val.length))
set_option maxHeartbeats 1000000 in
theorem large_calls (x : CX) (w : World) : Calls Tryz.prog 9 #[x.value] w fun e w' => e = .returned (.bool (largeB x)) ∧ Below w.heap.size w w' := by
  obtain ⟨W, hW⟩ : ∃ W, W = w.alloc (.cells x.cells 23) := ⟨_, rfl⟩
  have hbW : Hid (Below w.heap.size w W) := by subst hW; exact (Below.refl _ _).alloc (Nat.le_refl _) _
  have hB : Hid (Blk W w.heap.size 23 x.cells) := by subst hW; exact Blk.new _ _ _
  obtain ⟨kc, kf, hlt⟩ := hB.out.facts
  have c3 := kc 3
  have c4 := kc 4
  have c5 := kc 5
  simp only [List.getElem?_toArray, List.getElem?_cons_zero, List.getElem?_cons_succ] at c3 c4 c5
  have z3 := str_size x.key
  have z4 := str_size x.val
  have z5 := str_size x.old
  have hq : Hid (largeB x = (decide (300 < x.key.length) || (decide (300 < x.old.length) || decide (300 < x.val.length)))) := rfl
  clear kc
  by_cases h1 : 300 < x.key.length
  · have hq2 : Hid (largeB x = true) := by show _ = _; rw [hq.out, decide_eq_true h1]; rfl
    have d1 : decide ((300 : Int) < (x.key.length : Int)) = true := decide_eq_true (by omega)
    clear hq
    go_enter Tryz.func9, Tryz.ntmps9
    go_wp2_with (fail)
    rw [← hW]
    clear hW
    go_wp2_with (fail)
    go_ret
    exact ⟨ret_bool hq2.out.symm, hbW.out⟩
  have d1 : decide ((300 : Int) < (x.key.length : Int)) = false := decide_eq_false (by omega)
  by_cases h2 : 300 < x.old.length
  · have hq2 : Hid (largeB x = true) := by show _ = _; rw [hq.out, decide_eq_true h2, Bool.true_or, Bool.or_true]
    have d2 : decide ((300 : Int) < (x.old.length : Int)) = true := decide_eq_true (by omega)
    clear hq
    go_enter Tryz.func9, Tryz.ntmps9
    go_wp2_with (fail)
    rw [← hW]
    clear hW
    go_wp2_with (fail)
    go_ret
    exact ⟨ret_bool hq2.out.symm, hbW.out⟩
  have d2 : decide ((300 : Int) < (x.old.length : Int)) = false := decide_eq_false (by omega)
  have hq2 : Hid (largeB x = decide ((300 : Int) < (x.val.length : Int))) := by
    show _ = _
    rw [hq.out, decide_eq_false h1, decide_eq_false h2, Bool.false_or, Bool.false_or]
    by_cases h : 300 < x.val.length
    · rw [decide_eq_true h, decide_eq_true (by omega)]
    · rw [decide_eq_false h, decide_eq_false (by omega)]
  clear hq h1 h2
  go_enter Tryz.func9, Tryz.ntmps9
  go_wp2_with (fail)
  rw [← hW]
  clear hW
  go_wp2_with (fail)
  go_ret
  exact ⟨ret_bool hq2.out.symm, hbW.out⟩
end Go.Proofs.YtdgbpmbknlhgmaaGreatDoor
