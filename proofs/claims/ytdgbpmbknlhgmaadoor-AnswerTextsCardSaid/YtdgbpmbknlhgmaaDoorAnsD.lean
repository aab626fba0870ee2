/-
The walk through answer.Get.
-/
import Derived.Test.YtdgbpmbknlhgmaaDoorSt
set_option linter.unusedVariables false
set_option linter.unusedSimpArgs false
namespace Go.Proofs.YtdgbpmbknlhgmaaDoor
open Go.RowKit Qt Vm

/-- what Get has read. -/
def AnsGot (v : Int) (l : List UInt8) (st : Option Nat) (cl sq er : Nat) (fd : Bool) (vl : List UInt8) (rv : Nat) (st' : Option Nat) : Prop :=
  ∃ s1 s2 s3 s4 s5, cl = valN (numX l st) ∧ s1 = stOf (numX l st) ∧ sq = valN (numX l s1) ∧ s2 = stOf (numX l s1) ∧ er = valN (numX l s2) ∧ s3 = stOf (numX l s2) ∧
    fd = valF (flgX l s3) ∧ s4 = stOf (flgX l s3) ∧ vl = valT (txtX l s4) ∧ s5 = stOf (txtX l s4) ∧
    ((v = 1 ∧ rv = 0 ∧ st' = s5) ∨ (v ≠ 1 ∧ rv = valN (numX l s5) ∧ st' = stOf (numX l s5)))
def GetPost (g : Nat) (v : Int) (l : List UInt8) (st : Option Nat) (w : World) (e : Ending) (w' : World) : Prop :=
  ∃ (cl sq er : Nat) (fd : Bool) (vl : List UInt8) (rv : Nat) (st' : Option Nat), AnsGot v l st cl sq er fd vl rv st' ∧ e = .returned (.agg #[.int .i64 (cl : Int), .int .i64 (sq : Int), .int .i64 (er : Int), .bool fd, .string (str vl), .int .i64 (rv : Int)]) ∧
    RdSt w' g l st' ∧ w.grownBy w' (some g)

set_option maxHeartbeats 4000000 in
set_option maxRecDepth 100000 in
theorem ansget_calls (g : Nat) (v : Int) (l : List UInt8) (st : Option Nat) (w : World) (hl : l.length ≤ 1000000) (h : RdSt w g l st) :
    Calls Tryd.prog 35 #[.pointer (some ⟨g, 0, none⟩), .int .i64 v] w (GetPost g v l st w) := by
  have hg := h.lt
  obtain ⟨W, hW⟩ : ∃ W, W = (w.alloc (.cells #[.int .i64 0, .int .i64 0, .int .i64 0, .bool false, .string ⟨#[]⟩, .int .i64 0] 38)).alloc (.cells #[.int .i64 0, .int .i64 0, .int .i64 0, .bool false, .string ⟨#[]⟩, .int .i64 0] 38) := ⟨_, rfl⟩
  have B4 : Hid (Blk W w.heap.size 38 #[.int .i64 0, .int .i64 0, .int .i64 0, .bool false, .string ⟨#[]⟩, .int .i64 0]) := by subst hW; exact (Blk.new _ _ _).alloc _
  have B5 : Hid (Blk W (w.heap.size + 1) 38 #[.int .i64 0, .int .i64 0, .int .i64 0, .bool false, .string ⟨#[]⟩, .int .i64 0]) := by subst hW; exact Blk.new' _ _ (by simp)
  have hR : Hid (RdSt W g l st) := by subst hW; exact h.below (two_below w _ _)
  have hG : Hid (w.grownBy W (some g)) := by subst hW; exact only_of_below (two_below w _ _) _
  clear h
  go_enter Tryd.func35, Tryd.ntmps35
  go_wp2_with (fail)
  rw [← hW]
  refine (rnumber_st g l st _ hl hR.out).mono ?_
  rintro e x1 ⟨rfl, r1, g1⟩
  obtain ⟨cl, E1⟩ : ∃ c, Hid (c = valN (numX l st)) := ⟨_, rfl⟩
  rw [← E1.out]
  obtain ⟨s1, F1, r2⟩ : ∃ s, Hid (s = stOf (numX l st)) ∧ RdSt x1 g l s := ⟨_, rfl, r1⟩
  have C4 := B4.out.only g1 (by omega)
  have C5 := B5.out.only g1 (by omega)
  have D := only_trans hG.out g1
  obtain ⟨kc, kf, hlt⟩ := C5.facts
  obtain ⟨k4, f4, l4⟩ := C4.facts
  obtain ⟨W1, hW1⟩ : ∃ W', W' = x1.setCell ⟨w.heap.size + 1, 0, none⟩ (.int .i64 (cl : Int)) := ⟨_, rfl⟩
  have B41 : Hid (Blk W1 w.heap.size 38 #[.int .i64 0, .int .i64 0, .int .i64 0, .bool false, .string ⟨#[]⟩, .int .i64 0]) := by subst hW1; exact C4.far (by simp) _
  have B51 : Hid (Blk W1 (w.heap.size + 1) 38 #[.int .i64 (cl : Int), .int .i64 0, .int .i64 0, .bool false, .string ⟨#[]⟩, .int .i64 0]) := by subst hW1; exact C5.set_ 0 _
  have hR1 : Hid (RdSt W1 g l s1) := by subst hW1; exact r2.far (by simp; omega) _
  have hG1 : Hid (w.grownBy W1 (some g)) := by subst hW1; exact only_setCell D (.inr (by simp)) _
  clear r1 r2 g1 C4 C5 D B4 B5 hR hG hW
  go_wp2_with (fail)
  rw [← hW1]
  clear kc kf hlt k4 f4 l4
  refine (rnumber_st g l s1 _ hl hR1.out).mono ?_
  rintro e x2 ⟨rfl, r1, g1⟩
  obtain ⟨sq, E2⟩ : ∃ c, Hid (c = valN (numX l s1)) := ⟨_, rfl⟩
  rw [← E2.out]
  obtain ⟨s2, F2, r2⟩ : ∃ s, Hid (s = stOf (numX l s1)) ∧ RdSt x2 g l s := ⟨_, rfl, r1⟩
  have C4 := B41.out.only g1 (by omega)
  have C5 := B51.out.only g1 (by omega)
  have D := only_trans hG1.out g1
  obtain ⟨kc, kf, hlt⟩ := C5.facts
  obtain ⟨k4, f4, l4⟩ := C4.facts
  obtain ⟨W2, hW2⟩ : ∃ W', W' = x2.setCell ⟨w.heap.size + 1, 1, none⟩ (.int .i64 (sq : Int)) := ⟨_, rfl⟩
  have B42 : Hid (Blk W2 w.heap.size 38 #[.int .i64 0, .int .i64 0, .int .i64 0, .bool false, .string ⟨#[]⟩, .int .i64 0]) := by subst hW2; exact C4.far (by simp) _
  have B52 : Hid (Blk W2 (w.heap.size + 1) 38 #[.int .i64 (cl : Int), .int .i64 (sq : Int), .int .i64 0, .bool false, .string ⟨#[]⟩, .int .i64 0]) := by subst hW2; exact C5.set_ 1 _
  have hR2 : Hid (RdSt W2 g l s2) := by subst hW2; exact r2.far (by simp; omega) _
  have hG2 : Hid (w.grownBy W2 (some g)) := by subst hW2; exact only_setCell D (.inr (by simp)) _
  clear r1 r2 g1 C4 C5 D B41 B51 hR1 hG1 hW1
  go_wp2_with (fail)
  rw [← hW2]
  clear kc kf hlt k4 f4 l4
  refine (rnumber_st g l s2 _ hl hR2.out).mono ?_
  rintro e x3 ⟨rfl, r1, g1⟩
  obtain ⟨er, E3⟩ : ∃ c, Hid (c = valN (numX l s2)) := ⟨_, rfl⟩
  rw [← E3.out]
  obtain ⟨s3, F3, r2⟩ : ∃ s, Hid (s = stOf (numX l s2)) ∧ RdSt x3 g l s := ⟨_, rfl, r1⟩
  have C4 := B42.out.only g1 (by omega)
  have C5 := B52.out.only g1 (by omega)
  have D := only_trans hG2.out g1
  obtain ⟨kc, kf, hlt⟩ := C5.facts
  obtain ⟨k4, f4, l4⟩ := C4.facts
  obtain ⟨W3, hW3⟩ : ∃ W', W' = x3.setCell ⟨w.heap.size + 1, 2, none⟩ (.int .i64 (er : Int)) := ⟨_, rfl⟩
  have B43 : Hid (Blk W3 w.heap.size 38 #[.int .i64 0, .int .i64 0, .int .i64 0, .bool false, .string ⟨#[]⟩, .int .i64 0]) := by subst hW3; exact C4.far (by simp) _
  have B53 : Hid (Blk W3 (w.heap.size + 1) 38 #[.int .i64 (cl : Int), .int .i64 (sq : Int), .int .i64 (er : Int), .bool false, .string ⟨#[]⟩, .int .i64 0]) := by subst hW3; exact C5.set_ 2 _
  have hR3 : Hid (RdSt W3 g l s3) := by subst hW3; exact r2.far (by simp; omega) _
  have hG3 : Hid (w.grownBy W3 (some g)) := by subst hW3; exact only_setCell D (.inr (by simp)) _
  clear r1 r2 g1 C4 C5 D B42 B52 hR2 hG2 hW2
  go_wp2_with (fail)
  rw [← hW3]
  clear kc kf hlt k4 f4 l4
  refine (rflag_st g l s3 _ hl hR3.out).mono ?_
  rintro e x4 ⟨rfl, r1, g1⟩
  obtain ⟨fd, E4⟩ : ∃ c, Hid (c = valF (flgX l s3)) := ⟨_, rfl⟩
  rw [← E4.out]
  obtain ⟨s4, F4, r2⟩ : ∃ s, Hid (s = stOf (flgX l s3)) ∧ RdSt x4 g l s := ⟨_, rfl, r1⟩
  have C4 := B43.out.only g1 (by omega)
  have C5 := B53.out.only g1 (by omega)
  have D := only_trans hG3.out g1
  obtain ⟨kc, kf, hlt⟩ := C5.facts
  obtain ⟨k4, f4, l4⟩ := C4.facts
  obtain ⟨W4, hW4⟩ : ∃ W', W' = x4.setCell ⟨w.heap.size + 1, 3, none⟩ (.bool fd) := ⟨_, rfl⟩
  have B44 : Hid (Blk W4 w.heap.size 38 #[.int .i64 0, .int .i64 0, .int .i64 0, .bool false, .string ⟨#[]⟩, .int .i64 0]) := by subst hW4; exact C4.far (by simp) _
  have B54 : Hid (Blk W4 (w.heap.size + 1) 38 #[.int .i64 (cl : Int), .int .i64 (sq : Int), .int .i64 (er : Int), .bool fd, .string ⟨#[]⟩, .int .i64 0]) := by subst hW4; exact C5.set_ 3 _
  have hR4 : Hid (RdSt W4 g l s4) := by subst hW4; exact r2.far (by simp; omega) _
  have hG4 : Hid (w.grownBy W4 (some g)) := by subst hW4; exact only_setCell D (.inr (by simp)) _
  clear r1 r2 g1 C4 C5 D B43 B53 hR3 hG3 hW3
  go_wp2_with (fail)
  rw [← hW4]
  clear kc kf hlt k4 f4 l4
  refine (rtext_st g l s4 _ hl hR4.out).mono ?_
  rintro e x5 ⟨rfl, r1, g1⟩
  obtain ⟨vl, E5⟩ : ∃ c, Hid (c = valT (txtX l s4)) := ⟨_, rfl⟩
  rw [← E5.out]
  obtain ⟨s5, F5, r2⟩ : ∃ s, Hid (s = stOf (txtX l s4)) ∧ RdSt x5 g l s := ⟨_, rfl, r1⟩
  have C4 := B44.out.only g1 (by omega)
  have C5 := B54.out.only g1 (by omega)
  have D := only_trans hG4.out g1
  obtain ⟨kc, kf, hlt⟩ := C5.facts
  obtain ⟨k4, f4, l4⟩ := C4.facts
  obtain ⟨W5, hW5⟩ : ∃ W', W' = x5.setCell ⟨w.heap.size + 1, 4, none⟩ (.string (str vl)) := ⟨_, rfl⟩
  have B45 : Hid (Blk W5 w.heap.size 38 #[.int .i64 0, .int .i64 0, .int .i64 0, .bool false, .string ⟨#[]⟩, .int .i64 0]) := by subst hW5; exact C4.far (by simp) _
  have B55 : Hid (Blk W5 (w.heap.size + 1) 38 #[.int .i64 (cl : Int), .int .i64 (sq : Int), .int .i64 (er : Int), .bool fd, .string (str vl), .int .i64 0]) := by subst hW5; exact C5.set_ 4 _
  have hR5 : Hid (RdSt W5 g l s5) := by subst hW5; exact r2.far (by simp; omega) _
  have hG5 : Hid (w.grownBy W5 (some g)) := by subst hW5; exact only_setCell D (.inr (by simp)) _
  clear r1 r2 g1 C4 C5 D B44 B54 hR4 hG4 hW4
  by_cases hv : v = 1
  · subst hv
    go_wp2_with (fail)
    subst hW5
    refine bodyPost_ret (v := .agg #[.int .i64 (cl : Int), .int .i64 (sq : Int), .int .i64 (er : Int), .bool fd, .string (str vl), .int .i64 0]) (by simp [results, Tryd.results35, go_sem, k4, l4]) rfl ⟨cl, sq, er, fd, vl, 0, s5, ⟨s1, s2, s3, s4, s5, E1.out, F1.out, E2.out, F2.out, E3.out, F3.out, E4.out, F4.out, E5.out, F5.out, .inl ⟨rfl, rfl, rfl⟩⟩, rfl, ?_, ?_⟩
    · exact ((((((hR5.out).far (p := ⟨w.heap.size, 0, none⟩) hg _).far (p := ⟨w.heap.size, 1, none⟩) hg _).far (p := ⟨w.heap.size, 2, none⟩) hg _).far (p := ⟨w.heap.size, 3, none⟩) hg _).far (p := ⟨w.heap.size, 4, none⟩) hg _).far (p := ⟨w.heap.size, 5, none⟩) hg _
    · exact only_setCell (only_setCell (only_setCell (only_setCell (only_setCell (only_setCell (hG5.out) (.inr (Nat.le_refl _)) _) (.inr (Nat.le_refl _)) _) (.inr (Nat.le_refl _)) _) (.inr (Nat.le_refl _)) _) (.inr (Nat.le_refl _)) _) (.inr (Nat.le_refl _)) _
  · have hv1 : (v == 1) = false := beq_eq_false_iff_ne.2 hv
    have hv' := Lib.hid hv
    clear hv
    go_wp2_with (fail)
    rw [← hW5]
    clear kc kf hlt k4 f4 l4
    refine (rnumber_st g l s5 _ hl hR5.out).mono ?_
    rintro e x6 ⟨rfl, r1, g1⟩
    obtain ⟨rv, E6⟩ : ∃ c, Hid (c = valN (numX l s5)) := ⟨_, rfl⟩
    rw [← E6.out]
    obtain ⟨s6, F6, r2⟩ : ∃ s, Hid (s = stOf (numX l s5)) ∧ RdSt x6 g l s := ⟨_, rfl, r1⟩
    have C4 := B45.out.only g1 (by omega)
    have C5 := B55.out.only g1 (by omega)
    have D := Lib.hid (only_trans hG5.out g1)
    have r2' := Lib.hid r2
    obtain ⟨kc, kf, hlt⟩ := C5.facts
    obtain ⟨k4, f4, l4⟩ := C4.facts
    clear r1 r2 g1 C4 C5 B45 B55 hR5 hG5 hW5
    go_wp2_with (fail)
    refine bodyPost_ret (v := .agg #[.int .i64 (cl : Int), .int .i64 (sq : Int), .int .i64 (er : Int), .bool fd, .string (str vl), .int .i64 (rv : Int)]) (by simp [results, Tryd.results35, go_sem, k4, l4]) rfl ⟨cl, sq, er, fd, vl, rv, s6, ⟨s1, s2, s3, s4, s5, E1.out, F1.out, E2.out, F2.out, E3.out, F3.out, E4.out, F4.out, E5.out, F5.out, .inr ⟨hv'.out, E6.out, F6.out⟩⟩, rfl, ?_, ?_⟩
    · exact ((((((r2'.out.far (p := ⟨w.heap.size + 1, 5, none⟩) (Nat.lt_succ_of_lt hg) _).far (p := ⟨w.heap.size, 0, none⟩) hg _).far (p := ⟨w.heap.size, 1, none⟩) hg _).far (p := ⟨w.heap.size, 2, none⟩) hg _).far (p := ⟨w.heap.size, 3, none⟩) hg _).far (p := ⟨w.heap.size, 4, none⟩) hg _).far (p := ⟨w.heap.size, 5, none⟩) hg _
    · exact only_setCell (only_setCell (only_setCell (only_setCell (only_setCell (only_setCell (only_setCell (p := ⟨w.heap.size + 1, 5, none⟩) D.out (.inr (Nat.le_succ _)) _) (.inr (Nat.le_refl _)) _) (.inr (Nat.le_refl _)) _) (.inr (Nat.le_refl _)) _) (.inr (Nat.le_refl _)) _) (.inr (Nat.le_refl _)) _) (.inr (Nat.le_refl _)) _
end Go.Proofs.YtdgbpmbknlhgmaaDoor
