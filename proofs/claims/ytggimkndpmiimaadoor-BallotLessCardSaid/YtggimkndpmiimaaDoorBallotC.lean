/-
The walks through the laws of package ballot.
-/
import Derived.Test.YtggimkndpmiimaaDoorBallotB
set_option linter.unusedVariables false
set_option linter.unusedSimpArgs false
namespace Go.Proofs.YtggimkndpmiimaaDoor
open Go.RowKit

theorem TabP.alloc {w : World} (h : TabP w) (o : Obj) : TabP (w.alloc o) := h.below ((Below.refl _ _).alloc (Nat.le_refl _) o) (Nat.le_refl _)
theorem next321 (w : World) : Calls Tryd.prog 22 #[.agg #[.int .i64 3, .int .i64 2], .int .i64 1] w fun e w' => e = .returned (.tuple #[.agg #[.int .i64 4, .int .i64 1], .int .i64 0]) ∧ Below w.heap.size w w' :=
  next_yes 3 2 1 w ⟨by decide, by omega, by omega, by decide⟩
theorem text41 (w : World) (ht : TabP w) : Calls Tryd.prog 20 #[.agg #[.int .i64 4, .int .i64 1]] w fun e w' => e = .returned (.string ⟨#[52, 46, 49]⟩) ∧ Below w.heap.size w w' := by
  have h := text_yes 4 1 w (by omega) (by omega) (by decide) ht
  rw [show str (balText 4 1) = ⟨#[52, 46, 49]⟩ by
    unfold balText str
    rw [Lib.decDigits_one (by omega), Lib.decDigits_one (by omega)]; rfl] at h
  exact h

set_option maxHeartbeats 800000 in
theorem awakeB_calls (w : World) (ht : TabP w) :
    Calls Tryd.prog 21 #[] w fun e w' => e = .returned (.bool true) ∧ Below w.heap.size w w' := by
  have ht' := Lib.hid ht
  clear ht
  go_enter Tryd.func21, Tryd.ntmps21
  go_wp2_with fail
  refine (next321 _).mono ?_
  rintro e w1 ⟨rfl, hb1⟩
  go_wp2_with fail
  refine (text41 _ ?_).mono ?_
  · exact (ht'.out.below hb1 (Nat.le_refl _)).alloc _
  rintro e w2 ⟨rfl, hb2⟩
  go_wp2_with fail
  go_ret
  exact ⟨rfl, hb1.trans (((Below.refl _ _).alloc (Nat.le_refl _) _).trans (hb2.mono (by simp)) |>.mono hb1.size)⟩

/-! ### BallotLess -/
theorem less_one (r n s m : Int) : ((lessB r n s m || lessB s m r n) == !(r == s && n == m)) = true ∧ (!(lessB r n s m && lessB s m r n)) = true := by
  unfold lessB
  rcases Int.lt_trichotomy r s with h | h | h
  · simp [show ¬ r = s by omega, show ¬ s = r by omega, h, show ¬ s < r by omega]
  · subst h
    rcases Int.lt_trichotomy n m with h | h | h
    · simp [show ¬ n = m by omega, h, show ¬ m < n by omega]
    · subst h; simp
    · simp [show ¬ n = m by omega, h, show ¬ n < m by omega]
  · simp [show ¬ r = s by omega, show ¬ s = r by omega, h, show ¬ r < s by omega]

/-- how two ballots lie. -/
theorem lies (r n s m : Int) : ∃ x y b c : Bool, lessB r n s m = x ∧ lessB s m r n = y ∧ (r == s) = b ∧ (n == m) = c ∧
    ((x = true ∧ y = false ∧ b = false) ∨ (x = false ∧ y = true ∧ b = false) ∨ (x = true ∧ y = false ∧ b = true ∧ c = false) ∨ (x = false ∧ y = true ∧ b = true ∧ c = false) ∨ (x = false ∧ y = false ∧ b = true ∧ c = true)) := by
  refine ⟨_, _, _, _, rfl, rfl, rfl, rfl, ?_⟩
  unfold lessB
  rcases Int.lt_trichotomy r s with h | h | h
  · refine .inl ⟨?_, ?_, ?_⟩
    · rw [if_neg (by omega)]; simp; omega
    · rw [if_neg (by omega)]; simp; omega
    · exact beq_eq_false_iff_ne.2 (by omega)
  · subst h
    rw [if_pos rfl, if_pos rfl]
    rcases Int.lt_trichotomy n m with h | h | h
    · exact .inr (.inr (.inl ⟨by simp; omega, by simp; omega, by simp, beq_eq_false_iff_ne.2 (by omega)⟩))
    · subst h; exact .inr (.inr (.inr (.inr ⟨by simp, by simp, by simp, by simp⟩)))
    · exact .inr (.inr (.inr (.inl ⟨by simp; omega, by simp; omega, by simp, beq_eq_false_iff_ne.2 (by omega)⟩)))
  · refine .inr (.inl ⟨?_, ?_, ?_⟩)
    · rw [if_neg (by omega)]; simp; omega
    · rw [if_neg (by omega)]; simp; omega
    · exact beq_eq_false_iff_ne.2 (by omega)

set_option maxHeartbeats 800000 in
theorem lawless_calls (r n s m : Int) (w : World) (ht : TabP w) :
    Calls Tryd.prog 6 #[.agg #[.int .i64 r, .int .i64 n], .agg #[.int .i64 s, .int .i64 m]] w fun e w' => e = .returned (.bool true) ∧ Below w.heap.size w w' := by
  have ht' := Lib.hid ht
  clear ht
  obtain ⟨x, y, b, c, e1, e2, e3, e4, hlie⟩ := lies r n s m
  -- the text that is wanted, where one may be
  obtain ⟨tx, hmay⟩ : ∃ tx : ByteArray, (mayB r n = true ∧ Hid (∀ w, Calls Tryd.prog 17 #[.agg #[.int .i64 r, .int .i64 n]] w fun e w' => e = .returned (.string tx) ∧ Below w.heap.size w w') ∧ Hid (∀ w, TabP w → Calls Tryd.prog 20 #[.agg #[.int .i64 r, .int .i64 n]] w fun e w' => e = .returned (.string tx) ∧ Below w.heap.size w w')) ∨
      (mayB r n = false ∧ tx = ⟨#[]⟩ ∧ Hid (∀ w, TabP w → Calls Tryd.prog 20 #[.agg #[.int .i64 r, .int .i64 n]] w fun e w' => e = .returned (.string tx) ∧ Below w.heap.size w w')) := by
    cases hm : mayB r n
    · exact ⟨⟨#[]⟩, .inr ⟨rfl, rfl, fun w _ => text_no r n w hm⟩⟩
    · have hg := mayB_get hm
      obtain ⟨r', rfl⟩ := Int.eq_ofNat_of_zero_le (a := r) (by omega)
      obtain ⟨n', rfl⟩ := Int.eq_ofNat_of_zero_le (a := n) (by omega)
      exact ⟨str (balText r' n'), .inl ⟨rfl, fun w => balreftext_calls r' n' w (by omega) (by omega), fun w ht => text_yes r' n' w (by omega) (by omega) hm ht⟩⟩
  go_enter Tryd.func6, Tryd.ntmps6
  go_wp2
  obtain ⟨W, hW⟩ : ∃ W, W = (w.alloc (.cells #[.int .i64 r, .int .i64 n] 33)).alloc (.cells #[.int .i64 s, .int .i64 m] 33) := ⟨_, rfl⟩
  have B0 : Hid (Blk W w.heap.size 33 #[.int .i64 r, .int .i64 n]) := by subst hW; exact (Blk.new _ _ _).alloc _
  have B1 : Hid (Blk W (w.heap.size + 1) 33 #[.int .i64 s, .int .i64 m]) := by subst hW; exact Blk.new' _ _ (by simp)
  have hb : Hid (Below w.heap.size w W) := by subst hW; exact (by repeat (first | exact Below.refl _ _ | assumption | refine Below.drew ?_ | refine below_drewN ?_ _ | refine Below.alloc ?_ (by simp; try omega) _ | refine Below.setCell ?_ (by simp; try omega) _))
  rw [← hW]
  clear hW
  have k0 : ∀ i d os, (Sort.grow (redrawn W d) os).cell? ⟨w.heap.size, i, none⟩ = #[Value.int .i64 r, .int .i64 n][i]? := fun i d os => (B0.out.call (below_regrown W d os)).cell i
  have k1 : ∀ i d os, (Sort.grow (redrawn W d) os).cell? ⟨w.heap.size + 1, i, none⟩ = #[Value.int .i64 s, .int .i64 m][i]? := fun i d os => (B1.out.call (below_regrown W d os)).cell i
  refine wp_region_quiet_below (by kernel_rfl) (by kernel_rfl) ?_
  repeat (go_big_quiet_step ((go_at_call 15; exact Calls.regrown_of (less_calls _ _ _ _ _))))
  refine wpQuiet_nil ?_
  intro _ hw'
  obtain ⟨⟨dq, osq⟩, hw''⟩ := hw'
  subst hw''
  have B2 := Lib.hid (B0.out.call (below_regrown W dq osq))
  have B3 := Lib.hid (B1.out.call (below_regrown W dq osq))
  have hb2 : Hid (Below w.heap.size w (Sort.grow (redrawn W dq) osq)) := hb.out.trans ((below_regrown W dq osq).mono hb.out.size)
  clear B0 B1 hb k0 k1
  generalize Sort.grow (redrawn W dq) osq = W2 at *
  obtain ⟨k0, f0, l0⟩ := B2.out.facts
  obtain ⟨k1, f1, l1⟩ := B3.out.facts
  have ht2 := Lib.hid (ht'.out.below hb2.out (Nat.le_refl _))
  rcases hmay with ⟨hm, H1, H2⟩ | ⟨hm, rfl, H2⟩
  · go_wp2_with fail
    refine (refmay_calls _ _ _).mono ?_
    rintro e w3 ⟨rfl, hb3⟩
    obtain ⟨k2, f2, l2⟩ := (B2.out.call hb3).facts
    go_wp2_with fail
    refine (H1.out _).mono ?_
    rintro e w4 ⟨rfl, hb4⟩
    go_wp2_with fail
    have B4 := Lib.hid ((B2.out.call hb3).call hb4)
    have B5 := Lib.hid ((B3.out.call hb3).call hb4)
    have hb5 : Hid (Below w.heap.size w w4) := (hb2.out.trans (hb3.mono hb2.out.size)).trans (hb4.mono (by have := hb2.out.size; have := hb3.size; omega))
    clear hb3 hb4 k0 f0 l0 k1 f1 l1 k2 f2 l2 B2 B3 hb2 ht2
    have k0 : ∀ i d os, (Sort.grow (redrawn w4 d) os).cell? ⟨w.heap.size, i, none⟩ = #[Value.int .i64 r, .int .i64 n][i]? := fun i d os => (B4.out.call (below_regrown w4 d os)).cell i
    have k1 : ∀ i d os, (Sort.grow (redrawn w4 d) os).cell? ⟨w.heap.size + 1, i, none⟩ = #[Value.int .i64 s, .int .i64 m][i]? := fun i d os => (B5.out.call (below_regrown w4 d os)).cell i
    have hT : ∀ d os, Hid (TabP (Sort.grow (redrawn w4 d) os)) := fun d os => (ht'.out.below hb5.out (Nat.le_refl _)).below (below_regrown w4 d os) (Nat.le_refl _)
    clear B4 B5
    rcases hlie with ⟨rfl, rfl, rfl⟩ | ⟨rfl, rfl, rfl⟩ | ⟨rfl, rfl, rfl, rfl⟩ | ⟨rfl, rfl, rfl, rfl⟩ | ⟨rfl, rfl, rfl, rfl⟩
    all_goals
      refine wp_region_quiet_below (by kernel_rfl) (by kernel_rfl) ?_
      repeat (go_big_quiet_step ((first | (go_at_call 18; exact Calls.regrown_of (refless_calls _ _ _ _ _)) | (go_at_call 19; exact Calls.regrown_of (may_calls _ _ _)) | (go_at_call 16; exact Calls.regrown_of (refmay_calls _ _ _)) | (go_at_call 20; exact Calls.regrown_of (H2.out _ (hT _ _).out)) | (go_at_call 21; exact Calls.regrown_of (awakeB_calls _ (hT _ _).out)))))
      refine wpQuiet_nil ?_
      intro _ hw'
      obtain ⟨⟨dq, osq⟩, hw''⟩ := hw'
      subst hw''
      go_wp2
      go_ret
      exact ⟨rfl, hb5.out.trans ((below_regrown w4 dq osq).mono hb5.out.size)⟩
  · go_wp2_with fail
    refine (refmay_calls _ _ _).mono ?_
    rintro e w3 ⟨rfl, hb3⟩
    go_wp2_with fail
    have B4 := Lib.hid (B2.out.call hb3)
    have B5 := Lib.hid (B3.out.call hb3)
    have hb5 : Hid (Below w.heap.size w w3) := hb2.out.trans (hb3.mono hb2.out.size)
    clear hb3 k0 f0 l0 k1 f1 l1 B2 B3 hb2 ht2
    have k0 : ∀ i d os, (Sort.grow (redrawn w3 d) os).cell? ⟨w.heap.size, i, none⟩ = #[Value.int .i64 r, .int .i64 n][i]? := fun i d os => (B4.out.call (below_regrown w3 d os)).cell i
    have k1 : ∀ i d os, (Sort.grow (redrawn w3 d) os).cell? ⟨w.heap.size + 1, i, none⟩ = #[Value.int .i64 s, .int .i64 m][i]? := fun i d os => (B5.out.call (below_regrown w3 d os)).cell i
    have hT : ∀ d os, Hid (TabP (Sort.grow (redrawn w3 d) os)) := fun d os => (ht'.out.below hb5.out (Nat.le_refl _)).below (below_regrown w3 d os) (Nat.le_refl _)
    clear B4 B5
    rcases hlie with ⟨rfl, rfl, rfl⟩ | ⟨rfl, rfl, rfl⟩ | ⟨rfl, rfl, rfl, rfl⟩ | ⟨rfl, rfl, rfl, rfl⟩ | ⟨rfl, rfl, rfl, rfl⟩
    all_goals
      refine wp_region_quiet_below (by kernel_rfl) (by kernel_rfl) ?_
      repeat (go_big_quiet_step ((first | (go_at_call 18; exact Calls.regrown_of (refless_calls _ _ _ _ _)) | (go_at_call 19; exact Calls.regrown_of (may_calls _ _ _)) | (go_at_call 16; exact Calls.regrown_of (refmay_calls _ _ _)) | (go_at_call 20; exact Calls.regrown_of (H2.out _ (hT _ _).out)) | (go_at_call 21; exact Calls.regrown_of (awakeB_calls _ (hT _ _).out)))))
      refine wpQuiet_nil ?_
      intro _ hw'
      obtain ⟨⟨dq, osq⟩, hw''⟩ := hw'
      subst hw''
      go_wp2
      go_ret
      exact ⟨rfl, hb5.out.trans ((below_regrown w3 dq osq).mono hb5.out.size)⟩
end Go.Proofs.YtggimkndpmiimaaDoor
