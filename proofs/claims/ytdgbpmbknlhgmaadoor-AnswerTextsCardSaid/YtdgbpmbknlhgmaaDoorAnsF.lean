/-
The walk through answer.Decode.
-/
import Derived.Test.YtdgbpmbknlhgmaaDoorAnsE
set_option linter.unusedVariables false
set_option linter.unusedSimpArgs false
namespace Go.Proofs.YtdgbpmbknlhgmaaDoor
open Go.RowKit Qt Vm

/-- what a call of Decode comes to, in a version that there is. -/
def DecPost (v : Int) (l : List UInt8) (w : World) (e : Ending) (w' : World) : Prop :=
  (∃ (cl sq er : Nat) (fd : Bool) (vl : List UInt8) (rv : Nat) (st : Option Nat), AnsGot v l (some 0) cl sq er fd vl rv st ∧
    ((st = some l.length ∧ ansE cl sq er vl rv = 0 ∧ e = .returned (.tuple #[.agg #[.int .i64 (cl : Int), .int .i64 (sq : Int), .int .i64 (er : Int), .bool fd, .string (str vl), .int .i64 (rv : Int)], .int .i64 0])) ∨
     (¬ (st = some l.length ∧ ansE cl sq er vl rv = 0) ∧ ∃ x : Int, x ≠ 0 ∧ e = .returned (.tuple #[.agg #[.int .i64 0, .int .i64 0, .int .i64 0, .bool false, .string ⟨#[]⟩, .int .i64 0], .int .i64 x])))) ∧ Below w.heap.size w w'

set_option maxHeartbeats 2000000 in
set_option maxRecDepth 100000 in
theorem decode_v (v : Int) (A : Option Addr) (n c : Nat) (w : World) (hv : ¬ (v = 1 ∨ v = 2)) :
    Calls Tryd.prog 22 #[.int .i64 v, .slice A n c] w fun e w' => e = .returned (.tuple #[.agg #[.int .i64 0, .int .i64 0, .int .i64 0, .bool false, .string ⟨#[]⟩, .int .i64 0], .int .i64 8]) ∧ Below w.heap.size w w' := by
  have HM : Hid (∀ w, Calls Tryd.prog 54 #[.int .i64 v] w fun e w' => e = .returned (.bool false) ∧ w = w') := by
    have := may_calls v
    rw [decide_eq_false hv] at this
    exact this
  obtain ⟨k4, f4, l4⟩ := (Blk.new w 38 #[.int .i64 0, .int .i64 0, .int .i64 0, .bool false, .string ⟨#[]⟩, .int .i64 0]).facts
  clear hv
  go_enter Tryd.func22, Tryd.ntmps22
  go_wp2_with (fail)
  refine (HM.out _).mono ?_
  rintro e w1 ⟨rfl, rfl⟩
  go_wp2_with (fail)
  refine bodyPost_ret (v := .tuple #[.agg #[.int .i64 0, .int .i64 0, .int .i64 0, .bool false, .string ⟨#[]⟩, .int .i64 0], .int .i64 8]) (by simp [results, Tryd.results22, go_sem]) rfl ⟨rfl, ?_⟩
  exact (Below.refl _ _).alloc (Nat.le_refl _) _

theorem below_six {w W : World} (h : Below w.heap.size w W) (a0 a1 a2 a3 a4 a5 : Value) : Below w.heap.size w ((((((W.setCell ⟨w.heap.size, 0, none⟩ a0).setCell ⟨w.heap.size, 1, none⟩ a1).setCell ⟨w.heap.size, 2, none⟩ a2).setCell ⟨w.heap.size, 3, none⟩ a3).setCell ⟨w.heap.size, 4, none⟩ a4).setCell ⟨w.heap.size, 5, none⟩ a5) :=
  (((((h.setCell (Nat.le_refl _) _).setCell (Nat.le_refl _) _).setCell (Nat.le_refl _) _).setCell (Nat.le_refl _) _).setCell (Nat.le_refl _) _).setCell (Nat.le_refl _) _
theorem got_len {v : Int} {l : List UInt8} {st : Option Nat} {cl sq er : Nat} {fd : Bool} {vl : List UInt8} {rv : Nat} {st' : Option Nat} (h : AnsGot v l st cl sq er fd vl rv st') : vl.length ≤ l.length := by
  obtain ⟨s1, s2, s3, s4, s5, _, _, _, _, _, _, _, _, h, _⟩ := h
  rw [h]; exact valT_len l s4

set_option maxHeartbeats 4000000 in
set_option maxRecDepth 100000 in
theorem decode_calls (v : Int) (A : Option Addr) (n c : Nat) (l : List UInt8) (w : World) (hv : v = 1 ∨ v = 2) (hn : n ≤ 90000) (h : BAt w A n l) (hq : QVars w) :
    Calls Tryd.prog 22 #[.int .i64 v, .slice A n c] w (DecPost v l w) := by
  have hln := h.len
  have HM : Hid (∀ w, Calls Tryd.prog 54 #[.int .i64 v] w fun e w' => e = .returned (.bool true) ∧ w = w') := by
    have := may_calls v
    rw [decide_eq_true hv] at this
    exact this
  obtain ⟨W, hW⟩ : ∃ W, W = w.alloc (.cells #[.int .i64 0, .int .i64 0, .int .i64 0, .bool false, .string ⟨#[]⟩, .int .i64 0] 38) := ⟨_, rfl⟩
  have hbW : Hid (Below w.heap.size w W) := by subst hW; exact (Below.refl _ _).alloc (Nat.le_refl _) _
  have B4 : Hid (Blk W w.heap.size 38 #[.int .i64 0, .int .i64 0, .int .i64 0, .bool false, .string ⟨#[]⟩, .int .i64 0]) := by subst hW; exact Blk.new _ _ _
  have HN := Lib.hid (newReader_calls A n c l W (by omega) (h.below hbW.out))
  have hq' := Lib.hid (hq.below hbW.out)
  have hW0 : w.heap.size < W.heap.size := B4.out.lt
  clear h hv hq
  go_enter Tryd.func22, Tryd.ntmps22
  go_wp2_with (fail)
  rw [← hW]
  refine (HM.out _).mono ?_
  rintro e w1 ⟨rfl, rfl⟩
  go_wp2_with (fail)
  rw [← hW]
  refine HN.out.mono ?_
  rintro e w2 ⟨g, rfl, hok, hg, hb2⟩
  have HG := ansget_calls g v l (some 0) w2 (by omega) hok
  have hb2' := Lib.hid hb2
  have hgl := hok.lt
  clear hok hb2 HN hW
  go_wp2_with (fail)
  refine HG.mono ?_
  rintro e w3 ⟨cl, sq, er, fd, vl, rv, st, hgot, rfl, hst, hg3⟩
  have hgot' := Lib.hid hgot
  have hb3 : Hid (Below W.heap.size W w3) := hb2'.out.trans (below_of_only hg3 hb2'.out.size hg)
  have hbw : Hid (Below w.heap.size w w3) := hbW.out.trans (hb3.out.mono hbW.out.size)
  obtain ⟨X, hX⟩ : ∃ X, X = w3.alloc (.cells #[.int .i64 (cl : Int), .int .i64 (sq : Int), .int .i64 (er : Int), .bool fd, .string (str vl), .int .i64 (rv : Int)] 38) := ⟨_, rfl⟩
  have hbX : Hid (Below w3.heap.size w3 X) := by subst hX; exact (Below.refl _ _).alloc (Nat.le_refl _) _
  have B7 : Hid (Blk X w3.heap.size 38 #[.int .i64 (cl : Int), .int .i64 (sq : Int), .int .i64 (er : Int), .bool fd, .string (str vl), .int .i64 (rv : Int)]) := by subst hX; exact Blk.new _ _ _
  have B4X : Hid (Blk X w.heap.size 38 #[.int .i64 0, .int .i64 0, .int .i64 0, .bool false, .string ⟨#[]⟩, .int .i64 0]) := (B4.out.below hb3.out hW0).call hbX.out
  have hstX : Hid (RdSt X g l st) := hst.below hbX.out
  have hqX : Hid (QVars X) := (hq'.out.below hb3.out).below hbX.out
  have hbwX : Hid (Below w.heap.size w X) := hbw.out.trans (hbX.out.mono hbw.out.size)
  have hw3 : W.heap.size ≤ w3.heap.size := hb3.out.size
  clear hgot hst hg3 HG B4 hq'
  go_wp2_with (fail)
  rw [← hX]
  have hvl := got_len hgot'.out
  clear hX
  rcases st with _ | q
  · refine (done_no g X hstX.out).mono ?_
    rintro e x1 ⟨er1, rfl, her, rfl⟩
    have t1 : (er1 == 0) = false := beq_eq_false_iff_ne.2 her
    have her' := Lib.hid her
    obtain ⟨k4, f4, l4⟩ := B4X.out.facts
    clear her
    go_wp2_with (fail)
    refine bodyPost_ret (v := .tuple #[.agg #[.int .i64 0, .int .i64 0, .int .i64 0, .bool false, .string ⟨#[]⟩, .int .i64 0], .int .i64 er1]) (by simp [results, Tryd.results22, go_sem, k4, l4]) rfl ⟨⟨cl, sq, er, fd, vl, rv, _, hgot'.out, .inr ⟨(fun h => by cases h.1), _, her'.out, rfl⟩⟩, ?_⟩
    exact below_six hbwX.out _ _ _ _ _ _
  · have HD := done_calls g l q X (by omega) hstX.out
    by_cases hql : q = l.length
    · have hd : dneE l q = 0 := if_pos hql
      rw [hd] at HD
      have hql' : Hid (some q = some l.length) := by show _ = _; rw [hql]
      clear hd hql
      refine HD.mono ?_
      rintro e x1 ⟨rfl, hx1⟩
      have HC := anscheck_calls cl sq er fd vl rv x1 (by omega) (hqX.out.below hx1)
      have hB7 := B7.out.call hx1
      obtain ⟨k7, f7, l7⟩ := hB7.facts
      have hbx1 := Lib.hid (hbwX.out.trans (hx1.mono hbwX.out.size))
      have B4x := Lib.hid (B4X.out.call hx1)
      have B7x := Lib.hid hB7
      clear hx1 HD hB7
      by_cases hE : ansE cl sq er vl rv = 0
      · have hE' := Lib.hid hE
        rw [hE] at HC
        clear hE
        go_wp2_with (fail)
        refine HC.mono ?_
        rintro e x2 ⟨rfl, hx2⟩
        have hB7 := B7x.out.call hx2
        have hB4 := B4x.out.call hx2
        have hbx2 := Lib.hid (hbx1.out.trans (hx2.mono hbx1.out.size))
        clear k7 f7 l7 hx2 HC
        obtain ⟨k7, f7, l7⟩ := hB7.facts
        obtain ⟨k4, f4, l4⟩ := hB4.facts
        clear hB7 hB4
        go_wp2_with (fail)
        refine bodyPost_ret (v := .tuple #[.agg #[.int .i64 (cl : Int), .int .i64 (sq : Int), .int .i64 (er : Int), .bool fd, .string (str vl), .int .i64 (rv : Int)], .int .i64 0]) (by simp [results, Tryd.results22, go_sem, k4, l4]) rfl ⟨⟨cl, sq, er, fd, vl, rv, _, hgot'.out, .inl ⟨hql'.out, hE'.out, rfl⟩⟩, ?_⟩
        exact below_six hbx2.out _ _ _ _ _ _
      · have hE' := Lib.hid hE
        have t1 : (ansE cl sq er vl rv == 0) = false := beq_eq_false_iff_ne.2 hE
        clear hE
        obtain ⟨ae, hae⟩ : ∃ ae, Hid (ansE cl sq er vl rv = ae) := ⟨_, rfl⟩
        rw [hae.out] at HC t1
        go_wp2_with (fail)
        refine HC.mono ?_
        rintro e x2 ⟨rfl, hx2⟩
        have hB4 := B4x.out.call hx2
        have hbx2 := Lib.hid (hbx1.out.trans (hx2.mono hbx1.out.size))
        clear k7 f7 l7 hx2 HC
        obtain ⟨k4, f4, l4⟩ := hB4.facts
        clear hB4
        go_wp2_with (fail)
        refine bodyPost_ret (v := .tuple #[.agg #[.int .i64 0, .int .i64 0, .int .i64 0, .bool false, .string ⟨#[]⟩, .int .i64 0], .int .i64 ae]) (by simp [results, Tryd.results22, go_sem, k4, l4]) rfl ⟨⟨cl, sq, er, fd, vl, rv, _, hgot'.out, .inr ⟨(fun h => hE'.out h.2), _, (by rw [← hae.out]; exact hE'.out), rfl⟩⟩, ?_⟩
        exact below_six hbx2.out _ _ _ _ _ _
    · have hd : dneE l q = 3 := if_neg hql
      rw [hd] at HD
      have hql' : Hid (¬ some q = some l.length) := by show ¬ _; intro h; injection h with h; exact hql h
      clear hd hql
      refine HD.mono ?_
      rintro e x1 ⟨rfl, hx1⟩
      have hbx1 := Lib.hid (hbwX.out.trans (hx1.mono hbwX.out.size))
      have hB4 := B4X.out.call hx1
      clear hx1 HD
      obtain ⟨k4, f4, l4⟩ := hB4.facts
      clear hB4
      go_wp2_with (fail)
      refine bodyPost_ret (v := .tuple #[.agg #[.int .i64 0, .int .i64 0, .int .i64 0, .bool false, .string ⟨#[]⟩, .int .i64 0], .int .i64 3]) (by simp [results, Tryd.results22, go_sem, k4, l4]) rfl ⟨⟨cl, sq, er, fd, vl, rv, _, hgot'.out, .inr ⟨(fun h => hql'.out h.1), _, by omega, rfl⟩⟩, ?_⟩
      exact below_six hbx1.out _ _ _ _ _ _
end Go.Proofs.YtdgbpmbknlhgmaaDoor
