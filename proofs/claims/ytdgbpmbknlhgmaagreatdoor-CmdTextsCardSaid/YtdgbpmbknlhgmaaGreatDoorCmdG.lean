/-
The walk through cmd.part.wanted.
-/
import Derived.Test.YtdgbpmbknlhgmaaGreatDoorCmdB
set_option linter.unusedVariables false
set_option linter.unusedSimpArgs false
namespace Go.Proofs.YtdgbpmbknlhgmaaGreatDoor
open Go.RowKit Qt
/-- have a version's bytes a field of a kind? -/
def wantB (i : Nat) (v k : Int) : Bool := if v = 1 then pHas i != 4 else bits .and .i64 (fieldsI k) (pHas i) != 0
set_option maxHeartbeats 2000000 in
set_option maxRecDepth 100000 in
theorem wanted_calls (i : Nat) (v k : Int) (w : World) :
    Calls Tryz.prog 46 #[partA i, .int .i64 v, .int .i64 k] w fun e w' => e = .returned (.bool (wantB i v k)) ∧ Below w.heap.size w w' := by
  obtain ⟨W, hW⟩ : ∃ W, W = w.alloc (.cells #[.int .i64 (pHas i), .int .i64 (pMost i), pIs i, pAt i] 75) := ⟨_, rfl⟩
  have hbW : Hid (Below w.heap.size w W) := by subst hW; exact (Below.refl _ _).alloc (Nat.le_refl _) _
  have hB : Hid (Blk W w.heap.size 75 #[.int .i64 (pHas i), .int .i64 (pMost i), pIs i, pAt i]) := by subst hW; exact Blk.new _ _ _
  obtain ⟨kc, kf, hlt⟩ := hB.out.facts
  have c0 := kc 0
  simp only [List.getElem?_toArray, List.getElem?_cons_zero, List.getElem?_cons_succ] at c0
  have hp : Hid (wantB i v k = if v = 1 then pHas i != 4 else bits .and .i64 (fieldsI k) (pHas i) != 0) := rfl
  have hF := fields_calls k W
  generalize fieldsI k = ff at *
  clear kc
  by_cases h1 : v = 1
  · have hq : Hid (wantB i v k = (pHas i != 4)) := by show _ = _; rw [hp.out, if_pos h1]
    have d1 : (v == 1) = true := beq_iff_eq.2 h1
    clear hp
    go_enter Tryz.func46, Tryz.ntmps46
    go_wp2_with (fail)
    rw [← hW]
    clear hW
    refine hF.mono ?_
    rintro e w1 ⟨rfl, rfl⟩
    go_wp2_with (fail)
    go_ret
    exact ⟨ret_bool hq.out.symm, hbW.out⟩
  · have hq : Hid (wantB i v k = (bits .and .i64 ff (pHas i) != 0)) := by show _ = _; rw [hp.out, if_neg h1]
    have d1 : (v == 1) = false := beq_eq_false_iff_ne.2 h1
    clear hp
    go_enter Tryz.func46, Tryz.ntmps46
    go_wp2_with (fail)
    rw [← hW]
    clear hW
    refine hF.mono ?_
    rintro e w1 ⟨rfl, rfl⟩
    go_wp2_with (fail)
    go_ret
    exact ⟨ret_bool hq.out.symm, hbW.out⟩
end Go.Proofs.YtdgbpmbknlhgmaaGreatDoor
