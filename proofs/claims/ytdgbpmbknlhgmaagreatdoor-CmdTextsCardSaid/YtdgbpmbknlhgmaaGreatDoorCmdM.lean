/-
The walks through cmd.Decode, changeoverref07.Has.
-/
import Derived.Test.YtdgbpmbknlhgmaaGreatDoorCmdL
set_option linter.unusedVariables false
set_option linter.unusedSimpArgs false
namespace Go.Proofs.YtdgbpmbknlhgmaaGreatDoor
open Go.RowKit Qt Vm

set_option maxHeartbeats 1000000 in
theorem refhas_calls (v k : Int) (w : World) :
    Calls Tryz.prog 36 #[.int .i64 v, .int .i64 k] w fun e w' => e = .returned (.bool (vhasB v k)) ∧ w = w' := by
  have hc : k < 1 ∨ (1 ≤ k ∧ 8 < k) ∨ (1 ≤ k ∧ k ≤ 8 ∧ v = 2) ∨ (1 ≤ k ∧ k ≤ 8 ∧ v = 1) ∨ (1 ≤ k ∧ k ≤ 8 ∧ v ≠ 1 ∧ v ≠ 2) := by omega
  rcases hc with h | ⟨h, h2⟩ | ⟨h, h2, rfl⟩ | ⟨h, h2, rfl⟩ | ⟨h, h2, h3, h4⟩
  · have d1 := decide_eq_true h
    have hq : Hid (vhasB v k = false) := by show _ = _; unfold vhasB; rw [kindOk_no (.inl h), Bool.false_and, Bool.and_false]
    clear h
    go_enter Tryz.func36, Tryz.ntmps36
    go_wp2_with (fail)
    go_ret
    exact ⟨ret_bool hq.out.symm, rfl⟩
  · have d1 : decide (k < 1) = false := decide_eq_false (by omega)
    have d2 : decide (8 < k) = true := decide_eq_true h2
    have hq : Hid (vhasB v k = false) := by show _ = _; unfold vhasB; rw [kindOk_no (.inr h2), Bool.false_and, Bool.and_false]
    clear h h2
    go_enter Tryz.func36, Tryz.ntmps36
    go_wp2_with (fail)
    go_ret
    exact ⟨ret_bool hq.out.symm, rfl⟩
  · have d1 : decide (k < 1) = false := decide_eq_false (by omega)
    have d2 : decide (8 < k) = false := decide_eq_false (by omega)
    have hq : Hid (vhasB 2 k = true) := by
      show _ = _; unfold vhasB; rw [(kindOk_iff k).2 ⟨h, h2⟩]; simp
    clear h h2
    go_enter Tryz.func36, Tryz.ntmps36
    go_wp2_with (fail)
    go_ret
    exact ⟨ret_bool hq.out.symm, rfl⟩
  · have d1 : decide (k < 1) = false := decide_eq_false (by omega)
    have d2 : decide (8 < k) = false := decide_eq_false (by omega)
    have hq : Hid (vhasB 1 k = (k != 5)) := by
      show _ = _; unfold vhasB; rw [(kindOk_iff k).2 ⟨h, h2⟩]; simp
    clear h h2
    go_enter Tryz.func36, Tryz.ntmps36
    go_wp2_with (fail)
    go_ret
    exact ⟨ret_bool hq.out.symm, rfl⟩
  · have d1 : decide (k < 1) = false := decide_eq_false (by omega)
    have d2 : decide (8 < k) = false := decide_eq_false (by omega)
    have d3 : (v == 2) = false := beq_eq_false_iff_ne.2 h4
    have d4 : (v == 1) = false := beq_eq_false_iff_ne.2 h3
    have hq : Hid (vhasB v k = false) := by
      show _ = _; unfold vhasB; rw [decide_eq_false (by omega), Bool.false_and]
    clear h h2 h3 h4
    go_enter Tryz.func36, Tryz.ntmps36
    go_wp2_with (fail)
    go_ret
    exact ⟨ret_bool hq.out.symm, rfl⟩

/-- the command that bytes hold, and where its end lies. -/
def getC (v : Int) (l : List UInt8) : CX × Option Nat := getX v l (some 0) 6
/-- what a call of Decode comes to, in a version that there is. -/
def DecC (v : Int) (l : List UInt8) (e : Ending) : Prop :=
  ((getC v l).2 = some l.length ∧ hasE v (getC v l).1 = 0 ∧ e = .returned (.tuple #[(getC v l).1.value, .int .i64 0])) ∨
  (¬ ((getC v l).2 = some l.length ∧ hasE v (getC v l).1 = 0) ∧ ∃ y : Int, y ≠ 0 ∧ ((getC v l).2 = some l.length → y = hasE v (getC v l).1) ∧ e = .returned (.tuple #[.agg #[.int .i64 0, .int .i64 0, .int .i64 0, .string ⟨#[]⟩, .string ⟨#[]⟩, .string ⟨#[]⟩, .int .i64 0], .int .i64 y]))

set_option maxHeartbeats 2000000 in
set_option maxRecDepth 100000 in
theorem cmddec_v (v : Int) (A : Option Addr) (n c : Nat) (w : World) (hv : ¬ (v = 1 ∨ v = 2)) :
    Calls Tryz.prog 13 #[.int .i64 v, .slice A n c] w fun e w' => e = .returned (.tuple #[.agg #[.int .i64 0, .int .i64 0, .int .i64 0, .string ⟨#[]⟩, .string ⟨#[]⟩, .string ⟨#[]⟩, .int .i64 0], .int .i64 8]) ∧ Below w.heap.size w w' := by
  have HM : Hid (∀ w, Calls Tryz.prog 34 #[.int .i64 v] w fun e w' => e = .returned (.bool false) ∧ w = w') := by
    have := may_calls v
    rw [decide_eq_false hv] at this
    exact this
  obtain ⟨k4, f4, l4⟩ := (Blk.new w 23 #[.int .i64 0, .int .i64 0, .int .i64 0, .string ⟨#[]⟩, .string ⟨#[]⟩, .string ⟨#[]⟩, .int .i64 0]).facts
  clear hv
  go_enter Tryz.func13, Tryz.ntmps13
  go_wp2_with (fail)
  refine (HM.out _).mono ?_
  rintro e w1 ⟨rfl, rfl⟩
  go_wp2_with (fail)
  refine bodyPost_ret (v := .tuple #[.agg #[.int .i64 0, .int .i64 0, .int .i64 0, .string ⟨#[]⟩, .string ⟨#[]⟩, .string ⟨#[]⟩, .int .i64 0], .int .i64 8]) (by simp [results, Tryz.results13, go_sem]) rfl ⟨rfl, ?_⟩
  exact (Below.refl _ _).alloc (Nat.le_refl _) _
theorem below_seven {w W : World} (h : Below w.heap.size w W) (a0 a1 a2 a3 a4 a5 a6 : Value) : Below w.heap.size w (((((((W.setCell ⟨w.heap.size, 0, none⟩ a0).setCell ⟨w.heap.size, 1, none⟩ a1).setCell ⟨w.heap.size, 2, none⟩ a2).setCell ⟨w.heap.size, 3, none⟩ a3).setCell ⟨w.heap.size, 4, none⟩ a4).setCell ⟨w.heap.size, 5, none⟩ a5).setCell ⟨w.heap.size, 6, none⟩ a6) :=
  ((((((h.setCell (Nat.le_refl _) _).setCell (Nat.le_refl _) _).setCell (Nat.le_refl _) _).setCell (Nat.le_refl _) _).setCell (Nat.le_refl _) _).setCell (Nat.le_refl _) _).setCell (Nat.le_refl _) _
/-- the texts that are read are no longer than the bytes. -/
def CX.within (x : CX) (n : Nat) : Prop := x.key.length ≤ n ∧ x.val.length ≤ n ∧ x.old.length ≤ n
theorem put_within {x : CX} {n : Nat} (h : x.within n) (i m : Nat) {t : List UInt8} (ht : t.length ≤ n) : (x.put i m t).within n := by
  obtain ⟨h1, h2, h3⟩ := h
  match i with
  | 0 | 1 => exact ⟨h1, h2, h3⟩
  | 2 => exact ⟨ht, h2, h3⟩
  | 3 => exact ⟨h1, h2, ht⟩
  | 4 => exact ⟨h1, ht, h3⟩
  | i + 5 => exact ⟨h1, h2, h3⟩
theorem getX_within (v : Int) (l : List UInt8) (st : Option Nat) : ∀ k, (getX v l st k).1.within l.length
  | 0 => ⟨Nat.zero_le _, Nat.zero_le _, Nat.zero_le _⟩
  | k + 1 => by
    rw [getX]
    split
    · unfold rdX
      split
      · exact put_within (getX_within v l st k) _ _ (Nat.zero_le _)
      · exact put_within (getX_within v l st k) _ _ (valT_len l _)
    · exact getX_within v l st k

set_option maxHeartbeats 4000000 in
set_option maxRecDepth 100000 in
theorem cmddec_calls (v : Int) (A : Option Addr) (n c : Nat) (l : List UInt8) (w : World) (hv : v = 1 ∨ v = 2) (hn : n ≤ 90000) (h : BAt w A n l) (hq : QVars w) :
    Calls Tryz.prog 13 #[.int .i64 v, .slice A n c] w fun e w' => DecC v l e ∧ Below w.heap.size w w' := by
  have hln := h.len
  have HM : Hid (∀ w, Calls Tryz.prog 34 #[.int .i64 v] w fun e w' => e = .returned (.bool true) ∧ w = w') := by
    have := may_calls v
    rw [decide_eq_true hv] at this
    exact this
  obtain ⟨W, hW⟩ : ∃ W, W = w.alloc (.cells #[.int .i64 0, .int .i64 0, .int .i64 0, .string ⟨#[]⟩, .string ⟨#[]⟩, .string ⟨#[]⟩, .int .i64 0] 23) := ⟨_, rfl⟩
  have hbW : Hid (Below w.heap.size w W) := by subst hW; exact (Below.refl _ _).alloc (Nat.le_refl _) _
  have B4 : Hid (Blk W w.heap.size 23 #[.int .i64 0, .int .i64 0, .int .i64 0, .string ⟨#[]⟩, .string ⟨#[]⟩, .string ⟨#[]⟩, .int .i64 0]) := by subst hW; exact Blk.new _ _ _
  have HN := Lib.hid (newReader_calls A n c l W (by omega) (h.below hbW.out))
  have hq' := Lib.hid (hq.below hbW.out)
  have hW0 : w.heap.size < W.heap.size := B4.out.lt
  have hwi := getX_within v l (some 0) 6
  have hD : Hid (∀ e, (((getX v l (some 0) 6).2 = some l.length ∧ hasE v (getX v l (some 0) 6).1 = 0 ∧ e = .returned (.tuple #[(getX v l (some 0) 6).1.value, .int .i64 0])) ∨
    (¬ ((getX v l (some 0) 6).2 = some l.length ∧ hasE v (getX v l (some 0) 6).1 = 0) ∧ ∃ y : Int, y ≠ 0 ∧ ((getX v l (some 0) 6).2 = some l.length → y = hasE v (getX v l (some 0) 6).1) ∧ e = .returned (.tuple #[.agg #[.int .i64 0, .int .i64 0, .int .i64 0, .string ⟨#[]⟩, .string ⟨#[]⟩, .string ⟨#[]⟩, .int .i64 0], .int .i64 y]))) → DecC v l e) := fun e h => h
  clear h hv hq
  go_enter Tryz.func13, Tryz.ntmps13
  go_wp2_with (fail)
  rw [← hW]
  refine (HM.out _).mono ?_
  rintro e w1 ⟨rfl, rfl⟩
  go_wp2_with (fail)
  rw [← hW]
  refine HN.out.mono ?_
  rintro e w2 ⟨g, rfl, hok, hg, hb2⟩
  have HG := cmdget_calls g v l (some 0) w2 (by omega) hok
  have hb2' := Lib.hid hb2
  have hgl := hok.lt
  generalize getX v l (some 0) 6 = L at *
  obtain ⟨⟨f0, f1, f2, f3, f4, f5, f6⟩, st⟩ := L
  have hsx : (⟨f0, f1, f2, f3, f4, f5, f6⟩ : CX).short := ⟨Nat.le_trans hwi.1 (by omega), Nat.le_trans hwi.2.1 (by omega), Nat.le_trans hwi.2.2 (by omega)⟩
  clear hok hb2 HN hW hwi
  go_wp2_with (fail)
  refine HG.mono ?_
  rintro e w3 ⟨rfl, hst, hg3⟩
  have hb3 : Hid (Below W.heap.size W w3) := hb2'.out.trans (below_of_only hg3 hb2'.out.size hg)
  have hbw : Hid (Below w.heap.size w w3) := hbW.out.trans (hb3.out.mono hbW.out.size)
  obtain ⟨X, hX⟩ : ∃ X, X = w3.alloc (.cells #[.int .i64 f0, .int .i64 f1, .int .i64 f2, .string (str f3), .string (str f4), .string (str f5), .int .i64 f6] 23) := ⟨_, rfl⟩
  have hbX : Hid (Below w3.heap.size w3 X) := by subst hX; exact (Below.refl _ _).alloc (Nat.le_refl _) _
  have B7 : Hid (Blk X w3.heap.size 23 #[.int .i64 f0, .int .i64 f1, .int .i64 f2, .string (str f3), .string (str f4), .string (str f5), .int .i64 f6]) := by subst hX; exact Blk.new _ _ _
  have B4X : Hid (Blk X w.heap.size 23 #[.int .i64 0, .int .i64 0, .int .i64 0, .string ⟨#[]⟩, .string ⟨#[]⟩, .string ⟨#[]⟩, .int .i64 0]) := (B4.out.below hb3.out hW0).call hbX.out
  have hstX : Hid (RdSt X g l st) := hst.below hbX.out
  have hqX : Hid (QVars X) := (hq'.out.below hb3.out).below hbX.out
  have hbwX : Hid (Below w.heap.size w X) := hbw.out.trans (hbX.out.mono hbw.out.size)
  have hw3 : W.heap.size ≤ w3.heap.size := hb3.out.size
  clear hst hg3 HG B4 hq'
  go_wp2_with (fail)
  rw [← hX]
  clear hX
  rcases st with _ | q
  · refine (done_no g X hstX.out).mono ?_
    rintro e x1 ⟨er1, rfl, her, rfl⟩
    have t1 : (er1 == 0) = false := beq_eq_false_iff_ne.2 her
    have her' := Lib.hid her
    obtain ⟨k4, f4', l4⟩ := B4X.out.facts
    clear her
    go_wp2_with (fail)
    refine bodyPost_ret (v := .tuple #[.agg #[.int .i64 0, .int .i64 0, .int .i64 0, .string ⟨#[]⟩, .string ⟨#[]⟩, .string ⟨#[]⟩, .int .i64 0], .int .i64 er1]) (by simp [results, Tryz.results13, go_sem, k4, l4]) rfl ⟨hD.out _ (.inr ⟨(fun h => by cases h.1), _, her'.out, (fun h => by cases h), rfl⟩), ?_⟩
    exact below_seven hbwX.out _ _ _ _ _ _ _
  · have HD := done_calls g l q X (by omega) hstX.out
    by_cases hql : q = l.length
    · have hd : dneE l q = 0 := if_pos hql
      rw [hd] at HD
      have hql' : Hid (some q = some l.length) := by show _ = _; rw [hql]
      clear hd hql
      refine HD.mono ?_
      rintro e x1 ⟨rfl, hx1⟩
      have HC := has_calls v ⟨f0, f1, f2, f3, f4, f5, f6⟩ x1 hsx (hqX.out.below hx1).tab
      have hB7 := B7.out.call hx1
      obtain ⟨k7, f7, l7⟩ := hB7.facts
      have hbx1 := Lib.hid (hbwX.out.trans (hx1.mono hbwX.out.size))
      have B4x := Lib.hid (B4X.out.call hx1)
      have B7x := Lib.hid hB7
      clear hx1 HD hB7
      by_cases hE : hasE v ⟨f0, f1, f2, f3, f4, f5, f6⟩ = 0
      · have hE' := Lib.hid hE
        rw [hE] at HC
        clear hE
        go_wp2_with (fail)
        refine HC.mono ?_
        rintro e x2 ⟨rfl, hx2⟩
        have hB7 := B7x.out.call hx2
        have hB4 := B4x.out.call hx2
        have hbx2 := Lib.hid (hbx1.out.trans (hx2.mono hbx1.out.size))
        clear k7 f7 l7 hx2 HC
        obtain ⟨k7, f7, l7⟩ := hB7.facts
        obtain ⟨k4, f4', l4⟩ := hB4.facts
        clear hB7 hB4
        go_wp2_with (fail)
        refine bodyPost_ret (v := .tuple #[.agg #[.int .i64 f0, .int .i64 f1, .int .i64 f2, .string (str f3), .string (str f4), .string (str f5), .int .i64 f6], .int .i64 0]) (by simp [results, Tryz.results13, go_sem, k4, l4]) rfl ⟨hD.out _ (.inl ⟨hql'.out, hE'.out, rfl⟩), ?_⟩
        exact below_seven hbx2.out _ _ _ _ _ _ _
      · have hE' := Lib.hid hE
        have t1 : (hasE v ⟨f0, f1, f2, f3, f4, f5, f6⟩ == 0) = false := beq_eq_false_iff_ne.2 hE
        clear hE
        obtain ⟨ae, hae⟩ : ∃ ae, Hid (hasE v ⟨f0, f1, f2, f3, f4, f5, f6⟩ = ae) := ⟨_, rfl⟩
        rw [hae.out] at HC t1
        go_wp2_with (fail)
        refine HC.mono ?_
        rintro e x2 ⟨rfl, hx2⟩
        have hB4 := B4x.out.call hx2
        have hbx2 := Lib.hid (hbx1.out.trans (hx2.mono hbx1.out.size))
        clear k7 f7 l7 hx2 HC
        obtain ⟨k4, f4', l4⟩ := hB4.facts
        clear hB4
        go_wp2_with (fail)
        refine bodyPost_ret (v := .tuple #[.agg #[.int .i64 0, .int .i64 0, .int .i64 0, .string ⟨#[]⟩, .string ⟨#[]⟩, .string ⟨#[]⟩, .int .i64 0], .int .i64 ae]) (by simp [results, Tryz.results13, go_sem, k4, l4]) rfl ⟨hD.out _ (.inr ⟨(fun h => hE'.out h.2), _, (by rw [← hae.out]; exact hE'.out), (fun _ => hae.out.symm), rfl⟩), ?_⟩
        exact below_seven hbx2.out _ _ _ _ _ _ _
    · have hd : dneE l q = 3 := if_neg hql
      rw [hd] at HD
      have hql' : Hid (¬ some q = some l.length) := by show ¬ _; intro h; injection h with h; exact hql h
      clear hd hql
      refine HD.mono ?_
      rintro e x1 ⟨rfl, hx1⟩
      have hbx1 := Lib.hid (hbwX.out.trans (hx1.mono hbwX.out.size))
      have hB4 := B4X.out.call hx1
      clear hx1 HD
      obtain ⟨k4, f4', l4⟩ := hB4.facts
      clear hB4
      go_wp2_with (fail)
      refine bodyPost_ret (v := .tuple #[.agg #[.int .i64 0, .int .i64 0, .int .i64 0, .string ⟨#[]⟩, .string ⟨#[]⟩, .string ⟨#[]⟩, .int .i64 0], .int .i64 3]) (by simp [results, Tryz.results13, go_sem, k4, l4]) rfl ⟨hD.out _ (.inr ⟨(fun h => hql'.out h.1), _, by omega, (fun h => absurd h hql'.out), rfl⟩), ?_⟩
      exact below_seven hbx1.out _ _ _ _ _ _ _
end Go.Proofs.YtdgbpmbknlhgmaaGreatDoor
