/-
The walks through ballot.Next, ballot.Max and the document's answer for them.
-/
import Derived.Test.YtggimkndpmiimaaDoorBallot
set_option linter.unusedVariables false
set_option linter.unusedSimpArgs false
namespace Go.Proofs.YtggimkndpmiimaaDoor
open Go.RowKit

def nextR (r n node : Int) : Int := if r = 0 then 1 else if n < node then r else r + 1
/-- there is a next ballot. -/
def nextOk (r n node : Int) : Prop := mayB r n = true ∧ 1 ≤ node ∧ node ≤ 9 ∧ nextR r n node ≤ 4294967296

theorem mayB_get {r n : Int} (h : mayB r n = true) : (r = 0 ∧ n = 0) ∨ (1 ≤ r ∧ r ≤ 4294967296 ∧ 1 ≤ n ∧ n ≤ 9) := by
  rcases mayB_cases r n with ⟨_, h'⟩ | ⟨h', _⟩
  · exact h'
  · rw [h] at h'; cases h'
theorem mayB_mk {r n : Int} (h1 : 1 ≤ r) (h2 : r ≤ 4294967296) (h3 : 1 ≤ n) (h4 : n ≤ 9) : mayB r n = true := by
  rcases mayB_cases r n with ⟨h', _⟩ | ⟨_, h'⟩
  · exact h'
  · omega

theorem nextR_may {r n node : Int} (h : nextOk r n node) : mayB (nextR r n node) node = true ∧ lessB r n (nextR r n node) node = true := by
  obtain ⟨hm, h1, h2, h3⟩ := h
  have h := mayB_get hm
  unfold nextR at *
  by_cases hr : r = 0
  · rw [if_pos hr] at *
    exact ⟨mayB_mk (by omega) (by omega) h1 h2, by unfold lessB; rw [if_neg (by omega)]; simp; omega⟩
  · rw [if_neg hr] at *
    by_cases hn : n < node
    · rw [if_pos hn] at *
      exact ⟨mayB_mk (by omega) (by omega) h1 h2, by unfold lessB; rw [if_pos rfl]; simp [hn]⟩
    · rw [if_neg hn] at *
      exact ⟨mayB_mk (by omega) (by omega) h1 h2, by unfold lessB; rw [if_neg (by omega)]; simp; omega⟩

set_option maxHeartbeats 800000 in
theorem next_yes (r n node : Int) (w : World) (h : nextOk r n node) :
    Calls Tryd.prog 22 #[.agg #[.int .i64 r, .int .i64 n], .int .i64 node] w fun e w' => e = .returned (.tuple #[.agg #[.int .i64 (nextR r n node), .int .i64 node], .int .i64 0]) ∧ Below w.heap.size w w' := by
  obtain ⟨hm2, hl2⟩ := nextR_may h
  obtain ⟨hm, h1, h2, h3⟩ := h
  obtain ⟨mr, hmr, hcase⟩ : ∃ mr : Int, max r 1 = mr ∧ ((lessB r n mr node = true ∧ Hid (nextR r n node = mr) ∧ mayB mr node = true) ∨ (lessB r n mr node = false ∧ Hid (nextR r n node = mr + 1) ∧ mayB (mr + 1) node = true ∧ 0 ≤ mr ∧ mr ≤ 4294967296)) := by
    refine ⟨_, rfl, ?_⟩
    have h := mayB_get hm
    unfold nextR at *
    by_cases hr : r = 0
    · rw [if_pos hr] at *
      rw [show max r 1 = 1 by omega]
      exact .inl ⟨hl2, rfl, hm2⟩
    · rw [if_neg hr] at *
      rw [show max r 1 = r by omega]
      by_cases hn : n < node
      · rw [if_pos hn] at *
        exact .inl ⟨hl2, rfl, hm2⟩
      · rw [if_neg hn] at *
        exact .inr ⟨by unfold lessB; rw [if_pos rfl]; simp; omega, rfl, hm2, by omega, by omega⟩
  clear hm2 hl2 h3
  have hmr' := hmr
  go_enter Tryd.func22, Tryd.ntmps22
  go_wp2_with fail
  refine (may_calls _ _ _).mono ?_
  rintro e w1 ⟨rfl, hb1⟩
  obtain ⟨k0, f0, l0⟩ := (((Blk.new w 33 #[.int .i64 r, .int .i64 n]).alloc _).call hb1).facts
  have B0 := Lib.hid (((Blk.new w 33 #[.int .i64 r, .int .i64 n]).alloc (.cells #[.int .i64 0, .int .i64 0] 33)).call hb1)
  have B1 : Blk w1 (w.heap.size + 1) 33 #[.int .i64 0, .int .i64 0] := Blk.call (Blk.new' _ _ (by simp)) hb1
  obtain ⟨k1, f1, l1⟩ := B1.facts
  have hb : Hid (Below w.heap.size w w1) := Below.trans (by repeat (first | exact Below.refl _ _ | assumption | refine Below.drew ?_ | refine below_drewN ?_ _ | refine Below.alloc ?_ (by simp; try omega) _ | refine Below.setCell ?_ (by simp; try omega) _)) (hb1.mono (by simp; omega))
  clear hb1
  have B1 := Lib.hid B1
  go_wp2_with (first | (go_at_call 30; go_in) | fail)
  refine (less_calls _ _ _ _ _).mono ?_
  rintro e w2 ⟨rfl, hb2⟩
  have B2 : Blk w2 w1.heap.size 33 #[.int .i64 mr, .int .i64 node] := Blk.call (Blk.new' _ _ rfl) hb2
  obtain ⟨k2, f2, l2⟩ := B2.facts
  obtain ⟨k3, f3, l3⟩ := ((B1.out.alloc _).call hb2).facts
  have B3 := Lib.hid ((B1.out.alloc (.cells #[.int .i64 mr, .int .i64 node] 33)).call hb2)
  have hbb : Hid (Below w.heap.size w w2) := hb.out.trans (((Below.refl _ _).alloc (Nat.le_refl _) _).trans (hb2.mono (by simp)) |>.mono hb.out.size)
  have B2 := Lib.hid B2
  clear hb2 k0 f0 k1 f1 B0 B1 hb
  have hne : w1.heap.size ≠ w.heap.size + 1 := by omega
  have hne2 : w.heap.size + 1 ≠ w1.heap.size := by omega
  rcases hcase with ⟨hl, hn, hm2⟩ | ⟨hl, hn, hm2, hm3, hm4⟩
  · rw [hl]
    go_wp2_with fail
    refine (may_calls _ _ _).mono ?_
    rintro e w3 ⟨rfl, hb3⟩
    obtain ⟨k4, f4, l4⟩ := (B2.out.call hb3).facts
    obtain ⟨k5, f5, l5⟩ := (B3.out.call hb3).facts
    have hbb3 : Hid (Below w.heap.size w w3) := hbb.out.trans (hb3.mono hbb.out.size)
    clear hb3 k2 f2 k3 f3
    go_wp2
    refine bodyPost_ret (v := .tuple #[.agg #[.int .i64 mr, .int .i64 node], .int .i64 0]) (by simp [results, Tryd.results22, go_sem, k4, k5, l4, l5]) rfl ⟨by rw [hn.out], ?_⟩
    exact Below.setCell (Below.setCell hbb3.out (by simp) _) (by simp) _
  · rw [hl]
    have ew : wrap64 (mr + 1) = mr + 1 := by unfold wrap64; omega
    go_wp2_with fail
    refine (may_calls _ _ _).mono ?_
    rintro e w3 ⟨rfl, hb3⟩
    obtain ⟨k4, f4, l4⟩ := ((B2.out.set_ 0 (.int .i64 (mr + 1))).call hb3).facts
    obtain ⟨k5, f5, l5⟩ := ((B3.out.far (p := ⟨w1.heap.size, 0, none⟩) hne2 (.int .i64 (mr + 1))).call hb3).facts
    have hbb3 : Hid (Below w.heap.size w w3) := (Below.setCell (p := ⟨w1.heap.size, 0, none⟩) hbb.out (by show w.heap.size ≤ w1.heap.size; omega) _).trans (hb3.mono (by have := hbb.out.size; simpa using this))
    clear hb3 k2 f2 k3 f3
    go_wp2
    refine bodyPost_ret (v := .tuple #[.agg #[.int .i64 (mr + 1), .int .i64 node], .int .i64 0]) (by simp [results, Tryd.results22, go_sem, k4, k5, l4, l5]) rfl ⟨by rw [hn.out], ?_⟩
    exact Below.setCell (Below.setCell hbb3.out (by simp) _) (by simp) _

/-- there is none. -/
def nextNo (r n node : Int) : Prop := mayB r n = false ∨ (mayB r n = true ∧ (node < 1 ∨ 9 < node)) ∨ (mayB r n = true ∧ 1 ≤ node ∧ node ≤ 9 ∧ 4294967296 < nextR r n node)
theorem next_or (r n node : Int) : nextOk r n node ∨ nextNo r n node := by
  unfold nextOk nextNo
  cases h : mayB r n
  · exact .inr (.inl rfl)
  · by_cases h1 : 1 ≤ node
    · by_cases h2 : node ≤ 9
      · by_cases h3 : nextR r n node ≤ 4294967296
        · exact .inl ⟨rfl, h1, h2, h3⟩
        · exact .inr (.inr (.inr ⟨rfl, h1, h2, by omega⟩))
      · exact .inr (.inr (.inl ⟨rfl, .inr (by omega)⟩))
    · exact .inr (.inr (.inl ⟨rfl, .inl (by omega)⟩))

set_option maxHeartbeats 800000 in
theorem next_no (r n node : Int) (w : World) (h : nextNo r n node) :
    Calls Tryd.prog 22 #[.agg #[.int .i64 r, .int .i64 n], .int .i64 node] w fun e w' => e = .returned (.tuple #[.agg #[.int .i64 0, .int .i64 0], .int .i64 6]) ∧ Below w.heap.size w w' := by
  rcases h with hm | ⟨hm, hn⟩ | ⟨hm, h1, h2, h3⟩
  · go_enter Tryd.func22, Tryd.ntmps22
    go_wp2_with fail
    refine (may_calls _ _ _).mono ?_
    rintro e w1 ⟨rfl, hb1⟩
    obtain ⟨k1, f1, l1⟩ := (Blk.call (Blk.new' (w := w.alloc (.cells #[.int .i64 r, .int .i64 n] 33)) (g := w.heap.size + 1) 33 #[.int .i64 0, .int .i64 0] (by simp)) hb1).facts
    have hb : Hid (Below w.heap.size w w1) := Below.trans (by repeat (first | exact Below.refl _ _ | assumption | refine Below.drew ?_ | refine below_drewN ?_ _ | refine Below.alloc ?_ (by simp; try omega) _ | refine Below.setCell ?_ (by simp; try omega) _)) (hb1.mono (by simp; omega))
    clear hb1
    go_wp2
    refine bodyPost_ret (v := .tuple #[.agg #[.int .i64 0, .int .i64 0], .int .i64 6]) (by simp [results, Tryd.results22, go_sem, k1, l1]) rfl ⟨rfl, ?_⟩
    exact Below.setCell (Below.setCell hb.out (by simp) _) (by simp) _
  · have t1 : (decide (1 ≤ node) && decide (node ≤ 9)) = false := by
      rcases hn with h | h
      · simp; omega
      · simp; omega
    have hn2 : node < 1 ∨ (decide (node ≤ 9) = false ∧ 9 < node) := by
      rcases hn with h | h
      · exact .inl h
      · exact .inr ⟨by simp; omega, h⟩
    clear hn
    rcases hn2 with hn | ⟨t2, hn⟩
    all_goals
      go_enter Tryd.func22, Tryd.ntmps22
      go_wp2_with fail
      refine (may_calls _ _ _).mono ?_
      rintro e w1 ⟨rfl, hb1⟩
      obtain ⟨k1, f1, l1⟩ := (Blk.call (Blk.new' (w := w.alloc (.cells #[.int .i64 r, .int .i64 n] 33)) (g := w.heap.size + 1) 33 #[.int .i64 0, .int .i64 0] (by simp)) hb1).facts
      have hb : Hid (Below w.heap.size w w1) := Below.trans (by repeat (first | exact Below.refl _ _ | assumption | refine Below.drew ?_ | refine below_drewN ?_ _ | refine Below.alloc ?_ (by simp; try omega) _ | refine Below.setCell ?_ (by simp; try omega) _)) (hb1.mono (by simp; omega))
      clear hb1
      go_wp2
      refine bodyPost_ret (v := .tuple #[.agg #[.int .i64 0, .int .i64 0], .int .i64 6]) (by simp [results, Tryd.results22, go_sem, k1, l1]) rfl ⟨rfl, ?_⟩
      exact Below.setCell (Below.setCell hb.out (by simp) _) (by simp) _
  · have hg := mayB_get hm
    have hr : r = 4294967296 ∧ ¬ n < node := by
      unfold nextR at h3
      by_cases hr : r = 0
      · rw [if_pos hr] at h3; omega
      · rw [if_neg hr] at h3
        by_cases hn : n < node
        · rw [if_pos hn] at h3; omega
        · rw [if_neg hn] at h3; omega
    obtain ⟨rfl, hn⟩ := hr
    have e1 : lessB 4294967296 n 4294967296 node = false := by unfold lessB; rw [if_pos rfl]; simp; omega
    have e2 : mayB 4294967297 node = false := by
      cases h : mayB 4294967297 node
      · rfl
      · have := mayB_get h; omega
    have e3 : max (4294967296 : Int) 1 = 4294967296 := rfl
    clear h3 hg hn
    go_enter Tryd.func22, Tryd.ntmps22
    go_wp2_with fail
    refine (may_calls _ _ _).mono ?_
    rintro e w1 ⟨rfl, hb1⟩
    have B0 := Lib.hid (((Blk.new w 33 #[.int .i64 4294967296, .int .i64 n]).alloc (.cells #[.int .i64 0, .int .i64 0] 33)).call hb1)
    have B1 : Blk w1 (w.heap.size + 1) 33 #[.int .i64 0, .int .i64 0] := Blk.call (Blk.new' _ _ (by simp)) hb1
    obtain ⟨k0, f0, l0⟩ := B0.out.facts
    obtain ⟨k1, f1, l1⟩ := B1.facts
    have hb : Hid (Below w.heap.size w w1) := Below.trans (by repeat (first | exact Below.refl _ _ | assumption | refine Below.drew ?_ | refine below_drewN ?_ _ | refine Below.alloc ?_ (by simp; try omega) _ | refine Below.setCell ?_ (by simp; try omega) _)) (hb1.mono (by simp; omega))
    clear hb1
    have B1 := Lib.hid B1
    go_wp2_with (first | (go_at_call 30; go_in) | fail)
    refine (less_calls _ _ _ _ _).mono ?_
    rintro e w2 ⟨rfl, hb2⟩
    have B2 : Blk w2 w1.heap.size 33 #[.int .i64 4294967296, .int .i64 node] := Blk.call (Blk.new' _ _ rfl) hb2
    obtain ⟨k2, f2, l2⟩ := B2.facts
    have B2 := Lib.hid B2
    have B3 := Lib.hid ((B1.out.alloc (.cells #[.int .i64 4294967296, .int .i64 node] 33)).call hb2)
    have hbb : Hid (Below w.heap.size w w2) := hb.out.trans (((Below.refl _ _).alloc (Nat.le_refl _) _).trans (hb2.mono (by simp)) |>.mono hb.out.size)
    have hne2 : w.heap.size + 1 ≠ w1.heap.size := by omega
    clear hb2 k0 f0 k1 f1 B0 B1 hb
    rw [e1]
    go_wp2_with fail
    refine (may_calls _ _ _).mono ?_
    rintro e w3 ⟨rfl, hb3⟩
    obtain ⟨k5, f5, l5⟩ := ((B3.out.far (p := ⟨w1.heap.size, 0, none⟩) hne2 (.int .i64 4294967297)).call hb3).facts
    have hbb3 : Hid (Below w.heap.size w w3) := (Below.setCell (p := ⟨w1.heap.size, 0, none⟩) hbb.out (by show w.heap.size ≤ w1.heap.size; omega) _).trans (hb3.mono (by have := hbb.out.size; simpa using this))
    clear hb3 k2 f2
    go_wp2
    refine bodyPost_ret (v := .tuple #[.agg #[.int .i64 0, .int .i64 0], .int .i64 6]) (by simp [results, Tryd.results22, go_sem, k5, l5]) rfl ⟨rfl, ?_⟩
    exact Below.setCell (Below.setCell hbb3.out (by simp) _) (by simp) _

/-! ### the reference's next ballot -/
set_option maxHeartbeats 800000 in
theorem refnext_yes (r n node : Int) (w : World) (h : nextOk r n node) :
    Calls Tryd.prog 23 #[.agg #[.int .i64 r, .int .i64 n], .int .i64 node] w fun e w' => e = .returned (.tuple #[.agg #[.int .i64 (nextR r n node), .int .i64 node], .bool true]) ∧ Below w.heap.size w w' := by
  obtain ⟨hm, h1, h2, h3⟩ := h
  have hg := mayB_get hm
  obtain ⟨hr0, hcase⟩ : (0 ≤ r ∧ r ≤ 4294967296) ∧ (((r == 0) = true ∧ Hid (nextR r n node = r + 1) ∧ r + 1 ≤ 4294967296) ∨ ((r == 0) = false ∧ node ≤ n ∧ Hid (nextR r n node = r + 1) ∧ r + 1 ≤ 4294967296) ∨ ((r == 0) = false ∧ n < node ∧ Hid (nextR r n node = r))) := by
    refine ⟨by omega, ?_⟩
    unfold nextR at *
    by_cases hr : r = 0
    · rw [if_pos hr] at *
      exact .inl ⟨beq_iff_eq.2 hr, by show _ = _; omega, by omega⟩
    · rw [if_neg hr] at *
      by_cases hn : n < node
      · rw [if_pos hn] at *
        exact .inr (.inr ⟨beq_eq_false_iff_ne.2 hr, hn, rfl⟩)
      · rw [if_neg hn] at *
        exact .inr (.inl ⟨beq_eq_false_iff_ne.2 hr, by omega, rfl, by omega⟩)
  clear h3 hg
  go_enter Tryd.func23, Tryd.ntmps23
  go_wp2_with fail
  refine (refmay_calls _ _ _).mono ?_
  rintro e w1 ⟨rfl, hb1⟩
  obtain ⟨k0, f0, l0⟩ := Blk.facts (((Blk.new w 33 #[.int .i64 r, .int .i64 n]).alloc (.cells #[.int .i64 0, .int .i64 0] 33)).call hb1)
  have B1 : Blk w1 (w.heap.size + 1) 33 #[.int .i64 0, .int .i64 0] := Blk.call (Blk.new' _ _ (by simp)) hb1
  obtain ⟨k1, f1, l1⟩ := B1.facts
  have hb : Hid (Below w.heap.size w w1) := Below.trans (by repeat (first | exact Below.refl _ _ | assumption | refine Below.drew ?_ | refine below_drewN ?_ _ | refine Below.alloc ?_ (by simp; try omega) _ | refine Below.setCell ?_ (by simp; try omega) _)) (hb1.mono (by simp; omega))
  clear hb1 B1
  have hne : w1.heap.size ≠ w.heap.size + 1 := by omega
  have hne2 : w.heap.size + 1 ≠ w1.heap.size := by omega
  rcases hcase with ⟨t1, hn, hle⟩ | ⟨t1, hle0, hn, hle⟩ | ⟨t1, hlt, hn⟩
  · go_wp2
    refine bodyPost_ret (v := .tuple #[.agg #[.int .i64 (r + 1), .int .i64 node], .bool true]) (by simp [results, Tryd.results23, go_sem, k1, l1, hne, hne2]) rfl ⟨by rw [hn.out], ?_⟩
    have := hb.out.size
    repeat (first | exact hb.out | refine Below.setCell ?_ (by simp) _ | refine Below.alloc ?_ (by simp; try omega) _)
  · go_wp2
    refine bodyPost_ret (v := .tuple #[.agg #[.int .i64 (r + 1), .int .i64 node], .bool true]) (by simp [results, Tryd.results23, go_sem, k1, l1, hne, hne2]) rfl ⟨by rw [hn.out], ?_⟩
    have := hb.out.size
    repeat (first | exact hb.out | refine Below.setCell ?_ (by simp) _ | refine Below.alloc ?_ (by simp; try omega) _)
  · go_wp2
    refine bodyPost_ret (v := .tuple #[.agg #[.int .i64 r, .int .i64 node], .bool true]) (by simp [results, Tryd.results23, go_sem, k1, l1, hne, hne2]) rfl ⟨by rw [hn.out], ?_⟩
    have := hb.out.size
    repeat (first | exact hb.out | refine Below.setCell ?_ (by simp) _ | refine Below.alloc ?_ (by simp; try omega) _)

set_option maxHeartbeats 800000 in
theorem refnext_no (r n node : Int) (w : World) (h : nextNo r n node) :
    Calls Tryd.prog 23 #[.agg #[.int .i64 r, .int .i64 n], .int .i64 node] w fun e w' => e = .returned (.tuple #[.agg #[.int .i64 0, .int .i64 0], .bool false]) ∧ Below w.heap.size w w' := by
  have start : ∀ w1 : World, Below ((w.alloc (.cells #[.int .i64 r, .int .i64 n] 33)).alloc (.cells #[.int .i64 0, .int .i64 0] 33)).heap.size ((w.alloc (.cells #[.int .i64 r, .int .i64 n] 33)).alloc (.cells #[.int .i64 0, .int .i64 0] 33)) w1 →
      Hid (Blk w1 w.heap.size 33 #[.int .i64 r, .int .i64 n] ∧ Blk w1 (w.heap.size + 1) 33 #[.int .i64 0, .int .i64 0] ∧ Below w.heap.size w w1) := fun w1 hb1 =>
    ⟨((Blk.new w 33 #[.int .i64 r, .int .i64 n]).alloc _).call hb1, Blk.call (Blk.new' _ _ (by simp)) hb1, Below.trans (by repeat (first | exact Below.refl _ _ | assumption | refine Below.drew ?_ | refine below_drewN ?_ _ | refine Below.alloc ?_ (by simp; try omega) _ | refine Below.setCell ?_ (by simp; try omega) _)) (hb1.mono (by simp; omega))⟩
  have start := Lib.hid start
  rcases h with hm | ⟨hm, hn⟩ | ⟨hm, h1, h2, h3⟩
  · go_enter Tryd.func23, Tryd.ntmps23
    go_wp2_with fail
    refine (refmay_calls _ _ _).mono ?_
    rintro e w1 ⟨rfl, hb1⟩
    have S := start.out w1 hb1
    obtain ⟨k1, f1, l1⟩ := S.out.2.1.facts
    clear hb1
    go_wp2
    refine bodyPost_ret (v := .tuple #[.agg #[.int .i64 0, .int .i64 0], .bool false]) (by simp [results, Tryd.results23, go_sem, k1, l1]) rfl ⟨rfl, ?_⟩
    exact Below.setCell (Below.setCell S.out.2.2 (by simp) _) (by simp) _
  · rcases hn with hn | hn
    all_goals
      go_enter Tryd.func23, Tryd.ntmps23
      go_wp2_with fail
      refine (refmay_calls _ _ _).mono ?_
      rintro e w1 ⟨rfl, hb1⟩
      have S := start.out w1 hb1
      obtain ⟨k1, f1, l1⟩ := S.out.2.1.facts
      clear hb1
      go_wp2
      refine bodyPost_ret (v := .tuple #[.agg #[.int .i64 0, .int .i64 0], .bool false]) (by simp [results, Tryd.results23, go_sem, k1, l1]) rfl ⟨rfl, ?_⟩
      exact Below.setCell (Below.setCell S.out.2.2 (by simp) _) (by simp) _
  · have hg := mayB_get hm
    have hr : r = 4294967296 ∧ node ≤ n := by
      unfold nextR at h3
      by_cases hr : r = 0
      · rw [if_pos hr] at h3; omega
      · rw [if_neg hr] at h3
        by_cases hn : n < node
        · rw [if_pos hn] at h3; omega
        · rw [if_neg hn] at h3; omega
    obtain ⟨rfl, hn⟩ := hr
    clear h3 hg
    go_enter Tryd.func23, Tryd.ntmps23
    go_wp2_with fail
    refine (refmay_calls _ _ _).mono ?_
    rintro e w1 ⟨rfl, hb1⟩
    have S := start.out w1 hb1
    obtain ⟨k0, f0, l0⟩ := S.out.1.facts
    obtain ⟨k1, f1, l1⟩ := S.out.2.1.facts
    have hne : w1.heap.size ≠ w.heap.size + 1 := by omega
    have hne2 : w.heap.size + 1 ≠ w1.heap.size := by omega
    clear hb1
    go_wp2
    refine bodyPost_ret (v := .tuple #[.agg #[.int .i64 0, .int .i64 0], .bool false]) (by simp [results, Tryd.results23, go_sem, k1, l1, hne, hne2]) rfl ⟨rfl, ?_⟩
    have := S.out.2.2.size
    repeat (first | exact S.out.2.2 | refine Below.setCell ?_ (by simp) _ | refine Below.alloc ?_ (by simp; try omega) _)
end Go.Proofs.YtggimkndpmiimaaDoor
