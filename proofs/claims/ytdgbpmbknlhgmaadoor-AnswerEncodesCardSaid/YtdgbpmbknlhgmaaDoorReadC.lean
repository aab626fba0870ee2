/-
The walks through pack.Reader: Number, Raw, Text, flag, Flag, Err, Done, NewReader.
-/
import Derived.Test.YtdgbpmbknlhgmaaDoorReadB
set_option linter.unusedVariables false
set_option linter.unusedSimpArgs false
namespace Go.Proofs.YtdgbpmbknlhgmaaDoor
open Go.RowKit Qt Vm

/-- what a closure of Number's or Raw's has captured. -/
def Caught (w : World) (b2 b3 g : Nat) (most : Int) : Prop := Blk w b2 57 #[.pointer (some ⟨g, 0, none⟩)] ∧ Blk w b3 3 #[.int .i64 most] ∧ b2 ≠ g ∧ b3 ≠ g

set_option maxHeartbeats 1000000 in
theorem numclo_calls (g : Nat) (l : List UInt8) (q most b2 b3 : Nat) (w : World) (hl : l.length ≤ 1000000) (hm : most < 9223372036854775808) (h : RdOk w g l q) (hc : Caught w b2 b3 g most) :
    Calls Tryd.prog 111 #[.pointer (some ⟨b2, 0, none⟩), .pointer (some ⟨b3, 0, none⟩)] w (EndsN (numR most l q) g l w) := by
  have H := Lib.hid (limited_calls g l q most w hl hm h)
  obtain ⟨h2, h3, _, _⟩ := hc
  obtain ⟨k2, f2, l2⟩ := h2.facts
  obtain ⟨k3, f3, l3⟩ := h3.facts
  clear h h2 h3
  go_enter Tryd.func111, Tryd.ntmps111
  go_wp2_with (fail)
  refine H.out.mono ?_
  rintro e w1 ⟨h1, hg1⟩
  have hg1' := Lib.hid hg1
  clear hg1 H k2 f2 k3 f3
  rcases h1 with ⟨v, q', hr, rfl, hok⟩ | ⟨hr, ⟨x, rfl⟩, hno⟩
  · have hr' := Lib.hid hr
    have hok' := Lib.hid hok
    clear hr hok
    go_wp2_with (fail)
    go_ret
    exact ⟨.inl ⟨v, q', hr'.out, rfl, hok'.out⟩, hg1'.out⟩
  · have hr' := Lib.hid hr
    have hno' := Lib.hid hno
    clear hr hno
    go_wp2_with (fail)
    go_ret
    exact ⟨.inr ⟨hr'.out, ⟨_, rfl⟩, hno'.out⟩, hg1'.out⟩

/-- how a reading of a number ends at last. -/
def EndsN0 (r : Option (Nat × Nat)) (g : Nat) (l : List UInt8) (w : World) (e : Ending) (w' : World) : Prop :=
  ((∃ v q', r = some (v, q') ∧ e = .returned (.int .i64 (v : Int)) ∧ RdOk w' g l q') ∨ (r = none ∧ e = .returned (.int .i64 0) ∧ RdNo w' g)) ∧ w.grownBy w' (some g)

set_option maxHeartbeats 1000000 in
set_option maxRecDepth 100000 in
theorem readInt_calls (g : Nat) (l : List UInt8) (q most b2 b3 : Nat) (w : World) (hl : l.length ≤ 1000000) (hm : most < 9223372036854775808) (h : RdOk w g l q) (hc : Caught w b2 b3 g most) :
    Calls Tryd.prog 110 #[.pointer (some ⟨g, 0, none⟩), .func (.func 111) #[] #[.pointer (some ⟨b2, 0, none⟩), .pointer (some ⟨b3, 0, none⟩)]] w (EndsN0 (numR most l q) g l w) := by
  have H := Lib.hid (numclo_calls g l q most b2 b3 w hl hm h hc)
  obtain ⟨A, n, c, hB, hA, hq, hne⟩ := h
  obtain ⟨kc, kf, hlt⟩ := hB.facts
  clear hB hA hc
  go_enter Tryd.func110, Tryd.ntmps110
  go_wp2_with (fail)
  refine H.out.mono ?_
  rintro e w1 ⟨h1, hg1⟩
  have hg1' := Lib.hid hg1
  clear hg1 H kc kf
  rcases h1 with ⟨v, q', hr, rfl, ⟨A, n, c, hB, hA, hq, hne⟩⟩ | ⟨hr, ⟨x, rfl⟩, ⟨v, p, er, hB, her⟩⟩
  · have hr' := Lib.hid hr
    have hok' : Hid (RdOk w1 g l q') := ⟨A, n, c, hB, hA, hq, hne⟩
    obtain ⟨kc, kf, hlt⟩ := hB.facts
    clear hr hB hA hq hne
    go_wp2_with (fail)
    go_ret
    exact ⟨.inl ⟨v, q', hr'.out, rfl, hok'.out⟩, hg1'.out⟩
  · have hr' := Lib.hid hr
    have hno' : Hid (RdNo w1 g) := ⟨v, p, er, hB, her⟩
    obtain ⟨kc, kf, hlt⟩ := hB.facts
    have hn0 : (er == 0) = false := by rw [beq_eq_false_iff_ne]; exact her
    clear hr hB
    go_wp2_with (fail)
    go_ret
    exact ⟨.inr ⟨hr'.out, rfl, hno'.out⟩, hg1'.out⟩

set_option maxHeartbeats 1000000 in
set_option maxRecDepth 100000 in
theorem readInt_no (g b2 b3 : Nat) (w : World) (h : RdNo w g) :
    Calls Tryd.prog 110 #[.pointer (some ⟨g, 0, none⟩), .func (.func 111) #[] #[.pointer (some ⟨b2, 0, none⟩), .pointer (some ⟨b3, 0, none⟩)]] w fun e w' => e = .returned (.int .i64 0) ∧ w = w' := by
  obtain ⟨v, p, er, hB, her⟩ := h
  obtain ⟨kc, kf, hlt⟩ := hB.facts
  have hn0 : (er == 0) = false := by rw [beq_eq_false_iff_ne]; exact her
  clear hB
  go_enter Tryd.func110, Tryd.ntmps110
  go_wp2_with (fail)
  go_ret
  exact ⟨rfl, rfl⟩

theorem caught_new (w : World) (g : Nat) (most : Int) (hg : g < w.heap.size) : Caught ((w.alloc (.cells #[.pointer (some ⟨g, 0, none⟩)] 57)).alloc (.cells #[.int .i64 most] 3)) w.heap.size (w.heap.size + 1) g most :=
  ⟨(Blk.new _ _ _).alloc _, Blk.new' _ _ (by simp), by omega, by omega⟩
theorem two_below (w : World) (o1 o2 : Obj) : Below w.heap.size w ((w.alloc o1).alloc o2) := ((Below.refl _ _).alloc (Nat.le_refl _) _).alloc (by simp) _
theorem RdOk.two {w : World} {g : Nat} {l : List UInt8} {q : Nat} (h : RdOk w g l q) (o1 o2 : Obj) : RdOk ((w.alloc o1).alloc o2) g l q := h.below (two_below w o1 o2)
theorem only_two {w w' : World} {row : Option Nat} {o1 o2 : Obj} (h : ((w.alloc o1).alloc o2).grownBy w' row) : w.grownBy w' row := only_trans (only_of_below (two_below w o1 o2) row) h

set_option maxHeartbeats 1000000 in
set_option maxRecDepth 100000 in
theorem rnumber_calls (g : Nat) (l : List UInt8) (q most : Nat) (w : World) (hl : l.length ≤ 1000000) (hm : most < 9223372036854775808) (h : RdOk w g l q) :
    Calls Tryd.prog 73 #[.pointer (some ⟨g, 0, none⟩), .int .i64 (most : Int)] w (EndsN0 (numR most l q) g l w) := by
  have H := Lib.hid (readInt_calls g l q most w.heap.size (w.heap.size + 1) _ hl hm (h.two (.cells #[.pointer (some ⟨g, 0, none⟩)] 57) (.cells #[.int .i64 (most : Int)] 3)) (caught_new w g most h.lt))
  clear h
  go_enter Tryd.func73, Tryd.ntmps73
  go_wp2_with (fail)
  refine H.out.mono ?_
  rintro e w1 ⟨h1, hg1⟩
  have hg1' := Lib.hid (only_two hg1)
  clear hg1 H
  rcases h1 with ⟨v, q', hr, rfl, hok⟩ | ⟨hr, rfl, hno⟩
  · have hr' := Lib.hid hr
    have hok' := Lib.hid hok
    clear hr hok
    go_wp2_with (fail)
    go_ret
    exact ⟨.inl ⟨v, q', hr'.out, rfl, hok'.out⟩, hg1'.out⟩
  · have hr' := Lib.hid hr
    have hno' := Lib.hid hno
    clear hr hno
    go_wp2_with (fail)
    go_ret
    exact ⟨.inr ⟨hr'.out, rfl, hno'.out⟩, hg1'.out⟩

set_option maxHeartbeats 1000000 in
set_option maxRecDepth 100000 in
theorem rnumber_no (g : Nat) (most : Int) (w : World) (h : RdNo w g) :
    Calls Tryd.prog 73 #[.pointer (some ⟨g, 0, none⟩), .int .i64 most] w fun e w' => e = .returned (.int .i64 0) ∧ RdNo w' g ∧ Below w.heap.size w w' := by
  have hn := h.below (two_below w (.cells #[.pointer (some ⟨g, 0, none⟩)] 57) (.cells #[.int .i64 most] 3))
  have hn' := Lib.hid hn
  have H := Lib.hid (readInt_no g w.heap.size (w.heap.size + 1) _ hn)
  clear h hn
  go_enter Tryd.func73, Tryd.ntmps73
  go_wp2_with (fail)
  refine H.out.mono ?_
  rintro e w1 ⟨rfl, rfl⟩
  go_wp2_with (fail)
  go_ret
  exact ⟨rfl, hn'.out, two_below w _ _⟩
end Go.Proofs.YtdgbpmbknlhgmaaDoor
