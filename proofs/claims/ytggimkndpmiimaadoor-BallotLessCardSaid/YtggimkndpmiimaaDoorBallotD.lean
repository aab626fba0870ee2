/-
The walks through the law BallotNext.
-/
import Derived.Test.YtggimkndpmiimaaDoorBallotC
set_option linter.unusedVariables false
set_option linter.unusedSimpArgs false
namespace Go.Proofs.YtggimkndpmiimaaDoor
open Go.RowKit

theorem nextR_least {r n node : Int} (h : nextOk r n node) : (nextR r n node == 1) = true ∨ ((nextR r n node == 1) = false ∧ lessB r n (nextR r n node - 1) node = false ∧ 2 ≤ nextR r n node ∧ nextR r n node ≤ 4294967296) := by
  obtain ⟨hm, h1, h2, h3⟩ := h
  have h := mayB_get hm
  unfold nextR at *
  by_cases hr : r = 0
  · rw [if_pos hr]; exact .inl rfl
  · rw [if_neg hr] at *
    by_cases hn : n < node
    · rw [if_pos hn] at *
      by_cases h1 : r = 1
      · exact .inl (beq_iff_eq.2 h1)
      · exact .inr ⟨beq_eq_false_iff_ne.2 h1, by unfold lessB; rw [if_neg (by omega)]; simp; omega, by omega, by omega⟩
    · rw [if_neg hn] at *
      by_cases h1 : r + 1 = 1
      · exact .inl (beq_iff_eq.2 h1)
      · exact .inr ⟨beq_eq_false_iff_ne.2 h1, by unfold lessB; rw [if_pos (by omega)]; simp; omega, by omega, by omega⟩

set_option maxHeartbeats 800000 in
theorem lawnext_calls (r n node : Int) (w : World) (ht : TabP w) :
    Calls Tryd.prog 7 #[.agg #[.int .i64 r, .int .i64 n], .int .i64 node] w fun e w' => e = .returned (.bool true) ∧ Below w.heap.size w w' := by
  have ht' := Lib.hid ht
  clear ht
  rcases next_or r n node with h | h
  · have H1 := Lib.hid (fun w => next_yes r n node w h)
    have H2 := Lib.hid (fun w => refnext_yes r n node w h)
    obtain ⟨_, hl⟩ := nextR_may h
    have hle := nextR_least h
    have hbd : 1 ≤ nextR r n node ∧ nextR r n node ≤ 4294967296 := ⟨by
      obtain ⟨hm, h1, h2, h3⟩ := h
      have h := mayB_get hm
      unfold nextR
      by_cases hr : r = 0
      · rw [if_pos hr]; omega
      · rw [if_neg hr]
        by_cases hn : n < node
        · rw [if_pos hn]; omega
        · rw [if_neg hn]; omega, h.2.2.2⟩
    obtain ⟨z1, z2⟩ := hbd
    generalize nextR r n node = z at *
    clear h
    go_enter Tryd.func7, Tryd.ntmps7
    go_wp2_with fail
    refine (H1.out _).mono ?_
    rintro e w1 ⟨rfl, hb1⟩
    have B0 := Lib.hid ((Blk.new w 33 #[.int .i64 r, .int .i64 n]).call hb1)
    have hb : Hid (Below w.heap.size w w1) := Below.trans (by repeat (first | exact Below.refl _ _ | assumption | refine Below.drew ?_ | refine below_drewN ?_ _ | refine Below.alloc ?_ (by simp; try omega) _ | refine Below.setCell ?_ (by simp; try omega) _)) (hb1.mono (by simp))
    obtain ⟨k0, f0, l0⟩ := B0.out.facts
    clear hb1
    go_wp2_with fail
    refine (H2.out _).mono ?_
    rintro e w2 ⟨rfl, hb2⟩
    have B1 := Lib.hid ((B0.out.alloc (.cells #[.int .i64 z, .int .i64 node] 33)).call hb2)
    have B2 := Lib.hid (Blk.call (Blk.new w1 33 #[.int .i64 z, .int .i64 node]) hb2)
    have hbb : Hid (Below w.heap.size w w2) := hb.out.trans (((Below.refl _ _).alloc (Nat.le_refl _) _).trans (hb2.mono (by simp)) |>.mono hb.out.size)
    clear hb2 k0 f0 hb B0
    obtain ⟨k0, f0, l1⟩ := B1.out.facts
    obtain ⟨k1, f1, l2⟩ := B2.out.facts
    have ew : wrap64 (z - 1) = z - 1 := by unfold wrap64; omega
    go_wp2_with fail
    refine (refless_calls _ _ _ _ _).mono ?_
    rintro e w3 ⟨rfl, hb3⟩
    have C0 := Lib.hid (((B1.out.alloc (.cells #[.int .i64 z, .int .i64 node] 33)).alloc (.cells #[.int .i64 (z - 1), .int .i64 node] 33)).call hb3)
    have C1 := Lib.hid (((B2.out.alloc (.cells #[.int .i64 z, .int .i64 node] 33)).alloc (.cells #[.int .i64 (z - 1), .int .i64 node] 33)).call hb3)
    have C2 := Lib.hid (Blk.call (Blk.new' (w := w2.alloc (.cells #[.int .i64 z, .int .i64 node] 33)) (g := w2.heap.size + 1) 33 #[.int .i64 (z - 1), .int .i64 node] (by simp)) hb3)
    have hb4 : Hid (Below w.heap.size w w3) := hbb.out.trans ((((Below.refl _ _).alloc (Nat.le_refl _) _).alloc (by simp) _).trans (hb3.mono (by simp; omega)) |>.mono hbb.out.size)
    clear hb3 k0 f0 l1 k1 f1 l2 B1 B2 hbb
    obtain ⟨k0, f0, l1⟩ := C0.out.facts
    obtain ⟨k1, f1, l2⟩ := C1.out.facts
    obtain ⟨k2, f2, l3⟩ := C2.out.facts
    rcases hle with t1 | ⟨t1, t2, t3, t4⟩
    · go_wp2_with fail
      refine (awakeB_calls _ (ht'.out.below hb4.out (Nat.le_refl _))).mono ?_
      rintro e w4 ⟨rfl, hb5⟩
      go_wp2_with fail
      go_ret
      exact ⟨rfl, hb4.out.trans (hb5.mono hb4.out.size)⟩
    · go_wp2_with fail
      refine (refless_calls _ _ _ _ _).mono ?_
      rintro e w4 ⟨rfl, hb5⟩
      have hb6 : Hid (Below w.heap.size w w4) := hb4.out.trans (hb5.mono hb4.out.size)
      clear hb5
      go_wp2_with fail
      refine (awakeB_calls _ (ht'.out.below hb6.out (Nat.le_refl _))).mono ?_
      rintro e w5 ⟨rfl, hb5⟩
      go_wp2_with fail
      go_ret
      exact ⟨rfl, hb6.out.trans (hb5.mono hb6.out.size)⟩
  · have H1 := Lib.hid (fun w => next_no r n node w h)
    have H2 := Lib.hid (fun w => refnext_no r n node w h)
    clear h
    go_enter Tryd.func7, Tryd.ntmps7
    go_wp2_with fail
    refine (H1.out _).mono ?_
    rintro e w1 ⟨rfl, hb1⟩
    have hb : Hid (Below w.heap.size w w1) := Below.trans (by repeat (first | exact Below.refl _ _ | assumption | refine Below.drew ?_ | refine below_drewN ?_ _ | refine Below.alloc ?_ (by simp; try omega) _ | refine Below.setCell ?_ (by simp; try omega) _)) (hb1.mono (by simp))
    obtain ⟨k0, f0, l0⟩ := ((Blk.new w 33 #[.int .i64 r, .int .i64 n]).call hb1).facts
    clear hb1
    go_wp2_with fail
    refine (H2.out _).mono ?_
    rintro e w2 ⟨rfl, hb2⟩
    have B2 := Lib.hid (Blk.call (Blk.new w1 33 #[.int .i64 0, .int .i64 0]) hb2)
    have hbb : Hid (Below w.heap.size w w2) := hb.out.trans (((Below.refl _ _).alloc (Nat.le_refl _) _).trans (hb2.mono (by simp)) |>.mono hb.out.size)
    obtain ⟨k1, f1, l2⟩ := B2.out.facts
    clear hb2 k0 f0
    go_wp2_with fail
    refine (awakeB_calls _ ?_).mono ?_
    · exact (ht'.out.below hbb.out (Nat.le_refl _)).alloc _
    rintro e w3 ⟨rfl, hb3⟩
    go_wp2_with fail
    go_ret
    exact ⟨rfl, hbb.out.trans (((Below.refl _ _).alloc (Nat.le_refl _) _).trans (hb3.mono (by simp)) |>.mono hbb.out.size)⟩
end Go.Proofs.YtggimkndpmiimaaDoor
