/-
The walks through pack.Reader: fail, left, limited, counted.
-/
import Derived.Test.YtdgbpmbknlhgmaaDoorVGet
set_option linter.unusedVariables false
set_option linter.unusedSimpArgs false
namespace Go.Proofs.YtdgbpmbknlhgmaaDoor
open Go.RowKit Qt Vm

/-- a reader's bytes lie elsewhere, and fit. -/
def Apart (A : Option Addr) (n c g : Nat) : Prop := n ≤ c ∧ ∀ ad, A = some ad → ad.block < g
/-- a reader at a block that has read up to a place, without a fault. -/
def RdOk (w : World) (g : Nat) (l : List UInt8) (q : Nat) : Prop := ∃ A n c, Blk w g 111 #[.slice A n c, .int .i64 (q : Int), .int .i64 0] ∧ BAt w A n l ∧ q ≤ l.length ∧ Apart A n c g
/-- a reader that has found a fault. -/
def RdNo (w : World) (g : Nat) : Prop := ∃ v p er, Blk w g 111 #[v, .int .i64 p, .int .i64 er] ∧ er ≠ 0
theorem RdOk.lt {w : World} {g : Nat} {l : List UInt8} {q : Nat} (h : RdOk w g l q) : g < w.heap.size := by obtain ⟨A, n, c, h, _⟩ := h; exact h.lt
theorem RdNo.lt {w : World} {g : Nat} (h : RdNo w g) : g < w.heap.size := by obtain ⟨v, p, er, h, _⟩ := h; exact h.lt
theorem RdOk.below {w w' : World} {g : Nat} {l : List UInt8} {q : Nat} (h : RdOk w g l q) (hb : Below w.heap.size w w') : RdOk w' g l q := by
  obtain ⟨A, n, c, h1, h2, h3, h4⟩ := h
  exact ⟨A, n, c, h1.call hb, h2.below hb, h3, h4⟩
theorem RdNo.below {w w' : World} {g : Nat} (h : RdNo w g) (hb : Below w.heap.size w w') : RdNo w' g := by
  obtain ⟨v, p, er, h1, h2⟩ := h
  exact ⟨v, p, er, h1.call hb, h2⟩
theorem bat_set {w : World} {A : Option Addr} {n c : Nat} {l : List UInt8} {g : Nat} (h : BAt w A n l) (hne : Apart A n c g) (i : Nat) (u : Value) : BAt (w.setCell ⟨g, i, none⟩ u) A n l := by
  refine ⟨h.1, fun hn => ?_⟩
  obtain ⟨ad, e, hb, hc⟩ := h.2 hn
  refine ⟨ad, e, by simpa [World.setCell] using hb, fun j v hj => ?_⟩
  rw [← hc j v hj]
  refine World.cell?_setCell_other w _ _ _ (fun e2 => Nat.ne_of_lt (hne.2 ad e) ?_)
  have := congrArg Addr.block e2
  rw [block_of_add] at this
  exact this.symm
/-- a store behind a reader's block. -/
theorem RdOk.far {w : World} {g : Nat} {l : List UInt8} {q : Nat} (h : RdOk w g l q) {p : Addr} (hp : g < p.block) (u : Value) : RdOk (w.setCell p u) g l q := by
  obtain ⟨A, n, c, h1, h2, h3, h4⟩ := h
  refine ⟨A, n, c, h1.far (by omega) u, ⟨h2.1, fun hn => ?_⟩, h3, h4⟩
  obtain ⟨ad, e, hb, hc⟩ := h2.2 hn
  have hlt := h4.2 ad e
  refine ⟨ad, e, by simpa [World.setCell] using hb, fun j v hj => ?_⟩
  rw [← hc j v hj]
  refine World.cell?_setCell_other w _ _ _ (fun e2 => ?_)
  have := congrArg Addr.block e2
  rw [block_of_add] at this
  omega
theorem RdNo.far {w : World} {g : Nat} (h : RdNo w g) {p : Addr} (hp : g < p.block) (u : Value) : RdNo (w.setCell p u) g := by
  obtain ⟨v, q, er, h1, h2⟩ := h
  exact ⟨v, q, er, h1.far (by omega) u, h2⟩
theorem only_trans {a b c : World} {row : Option Nat} (h : a.grownBy b row) (k : b.grownBy c row) : a.grownBy c row :=
  ⟨k.os.trans h.os, k.tape.trans h.tape, k.output.trans h.output, Nat.le_trans h.size k.size, fun i hi hne => (k.block i (Nat.lt_of_lt_of_le hi h.size) hne).trans (h.block i hi hne)⟩
theorem only_refl (a : World) (row : Option Nat) : a.grownBy a row := ⟨rfl, rfl, rfl, Nat.le_refl _, fun _ _ _ => rfl⟩
theorem below_of_only {B : Nat} {a w : World} {g : Nat} (h : a.grownBy w (some g)) (hB : B ≤ a.heap.size) (hg : B ≤ g) : Below B a w := ⟨h.os, h.tape, h.output, h.size, fun i hi => h.block i (by omega) (fun e => by cases e; omega)⟩

set_option maxHeartbeats 1000000 in
theorem fail_calls (g : Nat) (v : Value) (p er x : Int) (w : World) (hB : Blk w g 111 #[v, .int .i64 p, .int .i64 er]) :
    Calls Tryd.prog 129 #[.pointer (some ⟨g, 0, none⟩), .int .i64 x] w fun e w' => e = .returned (.tuple #[]) ∧ Blk w' g 111 #[v, .int .i64 p, .int .i64 x] ∧ w' = w.setCell ⟨g, 2, none⟩ (.int .i64 x) := by
  obtain ⟨kc, kf, hlt⟩ := hB.facts
  have hB' := Lib.hid (hB.set_ 2 (.int .i64 x))
  clear hB
  go_enter Tryd.func129, Tryd.ntmps129
  go_wp2
  go_end0
  exact ⟨rfl, hB'.out, rfl⟩

set_option maxHeartbeats 1000000 in
theorem left_calls (g : Nat) (A : Option Addr) (n c q : Nat) (er : Int) (w : World) (hn : n ≤ 1000000) (hq : q ≤ n) (hB : Blk w g 111 #[.slice A n c, .int .i64 (q : Int), .int .i64 er]) :
    Calls Tryd.prog 92 #[.pointer (some ⟨g, 0, none⟩)] w fun e w' => e = .returned (.int .i64 ((n - q : Nat) : Int)) ∧ Below w.heap.size w w' := by
  obtain ⟨kc, kf, hlt⟩ := hB.facts
  clear hB
  go_enter Tryd.func92, Tryd.ntmps92
  go_wp2
  go_quiet (fail)
  go_wp2
  go_ret
  exact ⟨ret_int (by omega), below_drewN (Below.refl _ _) _⟩

/-- a number that is not above another one, at a place; and the place behind it. -/
def numR (most : Nat) (l : List UInt8) (q : Nat) : Option (Nat × Nat) :=
  match vget (l.drop q) with
  | none => none
  | some (v, k) => if v ≤ most then some (v, q + k) else none
theorem numR_le {most : Nat} {l : List UInt8} {q v q' : Nat} (h : numR most l q = some (v, q')) (hq : q ≤ l.length) : q < q' ∧ q' ≤ l.length ∧ v ≤ most := by
  unfold numR at h
  rcases hv : vget (l.drop q) with _ | ⟨v', k⟩
  · rw [hv] at h; cases h
  · rw [hv] at h
    simp only at h
    split at h
    · cases h
      obtain ⟨h1, h2, _⟩ := vget_some hv
      rw [List.length_drop] at h2
      exact ⟨by omega, by omega, by assumption⟩
    · cases h
/-- how a reading of a number ends. -/
def EndsN (r : Option (Nat × Nat)) (g : Nat) (l : List UInt8) (w : World) (e : Ending) (w' : World) : Prop :=
  ((∃ v q', r = some (v, q') ∧ e = .returned (.int .i64 (v : Int)) ∧ RdOk w' g l q') ∨ (r = none ∧ (∃ x : Int, e = .returned (.int .i64 x)) ∧ RdNo w' g)) ∧ w.grownBy w' (some g)

set_option maxHeartbeats 4000000 in
set_option maxRecDepth 100000 in
theorem limited_calls (g : Nat) (l : List UInt8) (q most : Nat) (w : World) (hl : l.length ≤ 1000000) (hm : most < 9223372036854775808) (h : RdOk w g l q) :
    Calls Tryd.prog 112 #[.pointer (some ⟨g, 0, none⟩), .int .i64 (most : Int)] w (EndsN (numR most l q) g l w) := by
  obtain ⟨A, n, c, hB, hA, hq, hne⟩ := h
  have hln := hA.len
  have hB' := Lib.hid hB
  have hA' := Lib.hid hA
  have hne' := Lib.hid hne
  rcases hv : vget (l.drop q) with _ | ⟨v, k⟩
  · have hr : Hid (numR most l q = none) := by show _ = _; unfold numR; rw [hv]
    have her := vge_ne _ _ _ hv
    obtain ⟨kc, kf, hlt⟩ := hB.facts
    have H := fun nq => vget_no (A := A) (n := n) (c := c) (l := l) (p := q) (w := w.drewN nq) (by omega) (by omega) (hA.below (below_drewN (Below.refl _ _) _)) hv
    generalize vge (l.drop q) 0 = er at *
    clear hB hA hne hv
    go_enter Tryd.func112, Tryd.ntmps112
    go_wp2_with (fail)
    go_quiet ((go_at_call 128; exact quiet_left (H _)))
    go_wp2_with (fail)
    have hn0 : (er == 0) = false := by rw [beq_eq_false_iff_ne]; exact her
    have hB1 : Hid (Blk (w.drewN nq) g 111 #[.slice A n c, .int .i64 (q : Int), .int .i64 0]) := hB'.out.drewN nq
    have hg1 : Hid (w.grownBy (w.drewN nq) (some g)) := only_drewN (only_refl _ _) nq
    clear H kc kf
    have HF := fail_calls g (.slice A n c) (q : Int) 0 er (w.drewN nq) hB1.out
    generalize w.drewN nq = W at *
    refine HF.mono ?_
    rintro e w2 ⟨rfl, hB2, rfl⟩
    have hB2' := Lib.hid hB2
    obtain ⟨kc, kf, hlt2⟩ := hB2.facts
    clear hB2 HF
    go_wp2_with (fail)
    go_ret
    exact ⟨.inr ⟨hr.out, ⟨_, rfl⟩, ⟨_, _, er, hB2'.out.set_ 1 _, her⟩⟩, only_setCell (only_setCell hg1.out (.inl rfl) _) (.inl rfl) _⟩
  · obtain ⟨hk1, hk2, -, hv63, -⟩ := vget_some hv
    rw [List.length_drop] at hk2
    obtain ⟨kc, kf, hlt⟩ := hB.facts
    have H := fun nq => vget_ok (A := A) (n := n) (c := c) (l := l) (p := q) (w := w.drewN nq) (by omega) (by omega) (hA.below (below_drewN (Below.refl _ _) _)) hv
    by_cases hvm : v ≤ most
    · have hr : Hid (numR most l q = some (v, q + k)) := by show _ = _; unfold numR; rw [hv]; exact if_pos hvm
      clear hB hA hne hv
      go_enter Tryd.func112, Tryd.ntmps112
      go_wp2_with (fail)
      go_quiet ((go_at_call 128; exact quiet_left (H _)))
      have hB1 : Hid (Blk (w.drewN nq) g 111 #[.slice A n c, .int .i64 (q : Int), .int .i64 0]) := hB'.out.drewN nq
      have hg1 : Hid (w.grownBy (w.drewN nq) (some g)) := only_drewN (only_refl _ _) nq
      have hA1 : Hid (BAt (w.drewN nq) A n l) := hA'.out.below (below_drewN (Below.refl _ _) _)
      clear H kc kf
      generalize w.drewN nq = W at *
      obtain ⟨kc, kf, hlt2⟩ := hB1.out.facts
      go_wp2_with (fail)
      go_ret
      exact ⟨.inl ⟨v, q + k, hr.out, rfl, ⟨A, n, c, (by rw [show ((q + k : Nat) : Int) = (q : Int) + (k : Int) by omega]; exact hB1.out.set_ 1 _), bat_set hA1.out hne'.out _ _, by omega, hne'.out⟩⟩, only_setCell hg1.out (.inl rfl) _⟩
    · have hr : Hid (numR most l q = none) := by show _ = _; unfold numR; rw [hv]; exact if_neg hvm
      clear hB hA hne hv
      go_enter Tryd.func112, Tryd.ntmps112
      go_wp2_with (fail)
      go_quiet ((go_at_call 128; exact quiet_left (H _)))
      have hB1 : Hid (Blk (w.drewN nq) g 111 #[.slice A n c, .int .i64 (q : Int), .int .i64 0]) := hB'.out.drewN nq
      have hg1 : Hid (w.grownBy (w.drewN nq) (some g)) := only_drewN (only_refl _ _) nq
      clear H kc kf
      go_wp2_with (fail)
      have HF := fail_calls g (.slice A n c) (q : Int) 0 2 (w.drewN nq) hB1.out
      generalize w.drewN nq = W at *
      refine HF.mono ?_
      rintro e w2 ⟨rfl, hB2, rfl⟩
      have hB2' := Lib.hid hB2
      obtain ⟨kc, kf, hlt2⟩ := hB2.facts
      clear hB2 HF
      go_wp2_with (fail)
      go_ret
      exact ⟨.inr ⟨hr.out, ⟨_, rfl⟩, ⟨_, _, 2, hB2'.out.set_ 1 _, by omega⟩⟩, only_setCell (only_setCell hg1.out (.inl rfl) _) (.inl rfl) _⟩
end Go.Proofs.YtdgbpmbknlhgmaaDoor
