/-
The reference's Check of a command, for every kind.
-/
import Derived.Test.YtdgbpmbknlhgmaaGreatDoorCmdD
import Derived.Test.YtdgbpmbknlhgmaaGreatDoorCmdE
set_option linter.unusedVariables false
set_option linter.unusedSimpArgs false
namespace Go.Proofs.YtdgbpmbknlhgmaaGreatDoor
open Go.RowKit Qt
set_option maxHeartbeats 2000000 in
set_option maxRecDepth 100000 in
theorem refcheck_calls (x : CX) (w : World) (hs : x.short) :
    Calls Tryz.prog 16 #[x.value] w fun e w' => e = .returned (.int .i64 (cmdE x)) ∧ Below w.heap.size w w' := by
  by_cases hk : 1 ≤ x.kind ∧ x.kind ≤ 8
  · have hc : x.kind = 1 ∨ x.kind = 2 ∨ x.kind = 3 ∨ x.kind = 4 ∨ x.kind = 5 ∨ x.kind = 6 ∨ x.kind = 7 ∨ x.kind = 8 := by omega
    rcases hc with h | h | h | h | h | h | h | h
    · exact refcheck1 x w hs h
    · exact refcheck2 x w hs h
    · exact refcheck3 x w hs h
    · exact refcheck4 x w hs h
    · exact refcheck5 x w hs h
    · exact refcheck6 x w hs h
    · exact refcheck7 x w hs h
    · exact refcheck8 x w hs h
  · have hq : Hid (cmdE x = 5) := by
      show _ = _
      unfold cmdE
      have : kindOk x.kind = false := by
        unfold kindOk
        by_cases h1 : 1 ≤ x.kind
        · rw [decide_eq_false (p := x.kind ≤ 8) (by omega), Bool.and_false]
        · rw [decide_eq_false h1]; rfl
      rw [this]; rfl
    obtain ⟨W, hW⟩ : ∃ W, W = w.alloc (.cells x.cells 23) := ⟨_, rfl⟩
    have hbW : Hid (Below w.heap.size w W) := by subst hW; exact (Below.refl _ _).alloc (Nat.le_refl _) _
    by_cases h1 : x.kind < 1
    · have d1 := decide_eq_true h1
      clear hs hk
      go_enter Tryz.func16, Tryz.ntmps16
      go_wp2_with (fail)
      rw [← hW]
      clear hW
      go_wp2_with (fail)
      go_ret
      exact ⟨ret_int hq.out.symm, hbW.out⟩
    · have d1 := decide_eq_false h1
      have d2 : decide (8 < x.kind) = true := decide_eq_true (by omega)
      clear hs hk h1
      go_enter Tryz.func16, Tryz.ntmps16
      go_wp2_with (fail)
      rw [← hW]
      clear hW
      go_wp2_with (fail)
      go_ret
      exact ⟨ret_int hq.out.symm, hbW.out⟩
end Go.Proofs.YtdgbpmbknlhgmaaGreatDoor
