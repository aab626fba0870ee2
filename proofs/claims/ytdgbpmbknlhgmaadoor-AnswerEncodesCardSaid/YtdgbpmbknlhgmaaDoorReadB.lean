/-
The walks through pack.Reader: counted, raw, flag.
-/
import Derived.Test.YtdgbpmbknlhgmaaDoorRead
set_option linter.unusedVariables false
set_option linter.unusedSimpArgs false
namespace Go.Proofs.YtdgbpmbknlhgmaaDoor
open Go.RowKit Qt Vm

/-- a number of which there are as many bytes left. -/
def cntR (most : Nat) (l : List UInt8) (q : Nat) : Option (Nat × Nat) :=
  match numR most l q with
  | none => none
  | some (v, q') => if v ≤ l.length - q' then some (v, q') else none
theorem cntR_le {most : Nat} {l : List UInt8} {q v q' : Nat} (h : cntR most l q = some (v, q')) (hq : q ≤ l.length) : q < q' ∧ q' + v ≤ l.length := by
  unfold cntR at h
  rcases hv : numR most l q with _ | ⟨v', k⟩
  · rw [hv] at h; cases h
  · rw [hv] at h
    simp only at h
    split at h
    · cases h
      obtain ⟨h1, h2, _⟩ := numR_le hv hq
      exact ⟨h1, by omega⟩
    · cases h

set_option maxHeartbeats 4000000 in
set_option maxRecDepth 100000 in
theorem counted_calls (g : Nat) (l : List UInt8) (q most : Nat) (w : World) (hl : l.length ≤ 1000000) (hm : most < 9223372036854775808) (h : RdOk w g l q) :
    Calls Tryd.prog 142 #[.pointer (some ⟨g, 0, none⟩), .int .i64 (most : Int)] w (EndsN (cntR most l q) g l w) := by
  have hq : q ≤ l.length := by obtain ⟨A, n, c, _, _, h3, _⟩ := h; exact h3
  have hlt := h.lt
  have H := Lib.hid (limited_calls g l q most w hl hm h)
  clear h
  go_enter Tryd.func142, Tryd.ntmps142
  go_wp2_with (fail)
  refine H.out.mono ?_
  rintro e w1 ⟨h1, hg1⟩
  have hg1' := Lib.hid hg1
  clear hg1 H
  rcases h1 with ⟨v, q', hr, rfl, hok⟩ | ⟨hr, ⟨x, rfl⟩, hno⟩
  · obtain ⟨hq1, hq2, hv⟩ := numR_le hr hq
    obtain ⟨A, n, c, hB, hA, h3, hne⟩ := hok
    have hln := hA.len
    have HL := left_calls g A n c q' 0 w1 (by omega) (by omega) hB
    obtain ⟨kc, kf, hlt1⟩ := hB.facts
    have hB' := Lib.hid hB
    have hA' := Lib.hid hA
    have hne' := Lib.hid hne
    have hnn : Hid (n = l.length) := hln.symm
    by_cases hvl : v ≤ n - q'
    · have hr2 : Hid (cntR most l q = some (v, q')) := by show _ = _; unfold cntR; rw [hr]; exact if_pos (by rw [hln]; exact hvl)
      clear hB hA hne hr hln
      go_wp2_with (fail)
      refine HL.mono ?_
      rintro e w2 ⟨rfl, hb2⟩
      have hB2 := Lib.hid (hB'.out.call hb2)
      have hA2 := Lib.hid (hA'.out.below hb2)
      have hg2 : Hid (w.grownBy w2 (some g)) := only_trans hg1'.out (only_of_below hb2 _)
      clear kc kf HL hb2
      obtain ⟨kc, kf, hlt2⟩ := hB2.out.facts
      go_wp2_with (fail)
      go_ret
      exact ⟨.inl ⟨v, q', hr2.out, rfl, ⟨A, n, c, hB2.out, hA2.out, by omega, hne'.out⟩⟩, hg2.out⟩
    · have hr2 : Hid (cntR most l q = none) := by show _ = _; unfold cntR; rw [hr]; exact if_neg (by rw [hln]; exact hvl)
      clear hB hA hne hr hln
      go_wp2_with (fail)
      refine HL.mono ?_
      rintro e w2 ⟨rfl, hb2⟩
      have hB2 := Lib.hid (hB'.out.call hb2)
      have hg2 : Hid (w.grownBy w2 (some g)) := only_trans hg1'.out (only_of_below hb2 _)
      clear kc kf HL hb2
      obtain ⟨kc, kf, hlt2⟩ := hB2.out.facts
      have HF := fail_calls g (.slice A n c) (q' : Int) 0 1 w2 hB2.out
      go_wp2_with (fail)
      refine HF.mono ?_
      rintro e w3 ⟨rfl, hB3, rfl⟩
      have hB3' := Lib.hid hB3
      clear HF hB3 kc kf
      go_wp2_with (fail)
      go_ret
      exact ⟨.inr ⟨hr2.out, ⟨_, rfl⟩, ⟨_, _, 1, hB3'.out, by omega⟩⟩, only_setCell hg2.out (.inl rfl) _⟩
  · have hr2 : Hid (cntR most l q = none) := by show _ = _; unfold cntR; rw [hr]
    obtain ⟨v, p, er, hB, her⟩ := hno
    obtain ⟨kc, kf, hlt1⟩ := hB.facts
    have hB' := Lib.hid hB
    have hn0 : (er == 0) = false := by rw [beq_eq_false_iff_ne]; exact her
    clear hB hr
    go_wp2_with (fail)
    go_ret
    exact ⟨.inr ⟨hr2.out, ⟨_, rfl⟩, ⟨_, _, er, hB'.out, her⟩⟩, hg1'.out⟩

theorem bat_sub {w : World} {A : Option Addr} {n v q : Nat} {l : List UInt8} (h : BAt w A n l) (hv : q + v ≤ n) : BAt w (A.map fun x => x.add q) v ((l.drop q).take v) := by
  have hln := h.len
  refine ⟨by rw [Lib.byteCells_length, List.length_take, List.length_drop]; omega, fun h0 => ?_⟩
  obtain ⟨ad, rfl, hb, hc⟩ := h.2 (by omega)
  refine ⟨ad.add q, rfl, by rw [block_of_add]; exact hb, fun j u hj => ?_⟩
  rw [add_of_add]
  refine hc (q + j) u ?_
  unfold Lib.byteCells at hj ⊢
  rw [List.map_take, List.map_drop, List.getElem?_take] at hj
  split at hj
  · rw [List.getElem?_drop] at hj; exact hj
  · cases hj
theorem bat_zero {w : World} (A : Option Addr) (l : List UInt8) (q : Nat) {v : Nat} (hv : v = 0) : BAt w A v ((l.drop q).take v) := by
  subst hv
  exact ⟨rfl, fun h => absurd h (by omega)⟩
/-- how a reading of bytes ends. -/
def EndsB (r : Option (Nat × Nat)) (g : Nat) (l : List UInt8) (w : World) (e : Ending) (w' : World) : Prop :=
  ((∃ v q' A d, r = some (v, q') ∧ e = .returned (.slice A v d) ∧ BAt w' A v ((l.drop q').take v) ∧ RdOk w' g l (q' + v)) ∨ (r = none ∧ (∃ A n d, e = .returned (.slice A n d)) ∧ RdNo w' g)) ∧ w.grownBy w' (some g)

set_option maxHeartbeats 1000000 in
set_option maxRecDepth 100000 in
theorem raw_calls (g : Nat) (l : List UInt8) (q most : Nat) (w : World) (hl : l.length ≤ 1000000) (hm : most < 9223372036854775808) (h : RdOk w g l q) :
    Calls Tryd.prog 132 #[.pointer (some ⟨g, 0, none⟩), .int .i64 (most : Int)] w (EndsB (cntR most l q) g l w) := by
  have hq : q ≤ l.length := by obtain ⟨A, n, c, _, _, h3, _⟩ := h; exact h3
  have hlt := h.lt
  have H := Lib.hid (counted_calls g l q most w hl hm h)
  clear h
  go_enter Tryd.func132, Tryd.ntmps132
  go_wp2_with (fail)
  refine H.out.mono ?_
  rintro e w1 ⟨h1, hg1⟩
  have hg1' := Lib.hid hg1
  clear hg1 H
  rcases h1 with ⟨v, q', hr, rfl, hok⟩ | ⟨hr, ⟨x, rfl⟩, hno⟩
  · obtain ⟨hq1, hq2⟩ := cntR_le hr hq
    have hr' := Lib.hid hr
    obtain ⟨A, n, c, hB, hA, h3, hne⟩ := hok
    have hln := hA.len
    obtain ⟨kc, kf, hlt1⟩ := hB.facts
    have hB' := Lib.hid (hB.set_ 1 (.int .i64 ((q' : Int) + (v : Int))))
    have hA' := Lib.hid (bat_set hA hne 1 (.int .i64 ((q' : Int) + (v : Int))))
    have hne' := Lib.hid hne
    have hg2 : Hid (w.grownBy (w1.setCell ⟨g, 1, none⟩ (.int .i64 ((q' : Int) + (v : Int)))) (some g)) := only_setCell hg1'.out (.inl rfl) _
    have hnn : Hid (n = l.length) := hln.symm
    have hnc := hne.1
    have hqn : q' + v ≤ n := by omega
    clear hB hA hne hr hln
    go_wp2_with (fail)
    have hw1 : IntKind.i64.wrap (q' : Int) = (q' : Int) := by rw [IntKind.wrap_i64]; omega
    have hw2 : (0 : Int) ≤ (q' : Int) := by omega
    have hw3 : (q' : Int) ≤ (q' : Int) + (v : Int) := by omega
    have hw4 : (q' : Int) + (v : Int) ≤ (c : Int) := by omega
    have hw5 : ((q' : Int) + (v : Int)).toNat = q' + v := by omega
    clear kc kf
    refine wp_region_tail 15 (by kernel_rfl) (by kernel_rfl) ?_
    intro W hW
    have hB2 : Blk W g 111 #[.slice A n c, .int .i64 ((q' : Int) + (v : Int)), .int .i64 0] := by subst hW; exact hB'.out.drew
    have hA2 : Hid (BAt W A n l) := by subst hW; exact hA'.out.below (Below.drew (Below.refl _ _))
    have hg3 : Hid (w.grownBy W (some g)) := by subst hW; exact only_drew hg2.out
    obtain ⟨kc, kf, hlt2⟩ := hB2.facts
    have hB2' := Lib.hid hB2
    clear hW hB2 hB' hA' hg2 hg1'
    simp only [List.take_succ_cons, List.take_zero, List.drop_succ_cons, List.drop_zero]
    repeat (first | still_step)
    refine wpStill_nil ?_
    go_wp2_with (fail)
    · clear hw1 hw2 hw3 hw4 hw5
      refine (clone_calls _ v _ _ W (by omega) (bat_zero A l q' (by omega))).mono ?_
      rintro e w2 ⟨B, d, rfl, hown, hb2⟩
      have hown' := Lib.hid hown
      clear hown kc kf
      go_wp2_with (fail)
      go_ret
      exact ⟨.inl ⟨v, q', B, d, hr'.out, rfl, BAt.own hown'.out, ⟨A, n, _, hB2'.out.call hb2, hA2.out.below hb2, by omega, hne'.out⟩⟩, only_trans hg3.out (only_of_below hb2 _)⟩
    · clear hw1 hw2 hw3 hw4 hw5
      refine (clone_calls _ v _ _ W (by omega) (bat_sub hA2.out (by omega))).mono ?_
      rintro e w2 ⟨B, d, rfl, hown, hb2⟩
      have hown' := Lib.hid hown
      clear hown kc kf
      go_wp2_with (fail)
      go_ret
      exact ⟨.inl ⟨v, q', B, d, hr'.out, rfl, BAt.own hown'.out, ⟨A, n, c, hB2'.out.call hb2, hA2.out.below hb2, by omega, hne'.out⟩⟩, only_trans hg3.out (only_of_below hb2 _)⟩
  · have hr2 := Lib.hid hr
    obtain ⟨v, p, er, hB, her⟩ := hno
    obtain ⟨kc, kf, hlt1⟩ := hB.facts
    have hB' := Lib.hid hB
    have hn0 : (er == 0) = false := by rw [beq_eq_false_iff_ne]; exact her
    clear hB hr
    go_wp2_with (fail)
    go_ret
    exact ⟨.inr ⟨hr2.out, ⟨_, _, _, rfl⟩, ⟨_, _, er, hB'.out, her⟩⟩, hg1'.out⟩
end Go.Proofs.YtdgbpmbknlhgmaaDoor
