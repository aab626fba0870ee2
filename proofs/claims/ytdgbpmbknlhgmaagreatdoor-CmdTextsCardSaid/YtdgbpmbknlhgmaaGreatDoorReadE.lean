/-
The walks through pack.Reader: Number, Raw, Text, flag, Flag, Err, Done, NewReader.
The walks through pack.Reader: Raw, Text.
The walks through pack.Reader: flag, Flag, Err, Done, NewReader; vers.May.
-/
import Derived.Test.YtdgbpmbknlhgmaaGreatDoorRead
set_option linter.unusedVariables false
set_option linter.unusedSimpArgs false
namespace Go.Proofs.YtdgbpmbknlhgmaaGreatDoor
open Go.RowKit Qt Vm

/-- what a closure of Number's or Raw's has captured. -/
def Caught (w : World) (b2 b3 g : Nat) (most : Int) : Prop := Blk w b2 42 #[.pointer (some ⟨g, 0, none⟩)] ∧ Blk w b3 3 #[.int .i64 most] ∧ b2 ≠ g ∧ b3 ≠ g

set_option maxHeartbeats 1000000 in
theorem numclo_calls (g : Nat) (l : List UInt8) (q most b2 b3 : Nat) (w : World) (hl : l.length ≤ 1000000) (hm : most < 9223372036854775808) (h : RdOk w g l q) (hc : Caught w b2 b3 g most) :
    Calls Tryz.prog 93 #[.pointer (some ⟨b2, 0, none⟩), .pointer (some ⟨b3, 0, none⟩)] w (EndsN (numR most l q) g l w) := by
  have H := Lib.hid (limited_calls g l q most w hl hm h)
  obtain ⟨h2, h3, _, _⟩ := hc
  obtain ⟨k2, f2, l2⟩ := h2.facts
  obtain ⟨k3, f3, l3⟩ := h3.facts
  clear h h2 h3
  go_enter Tryz.func93, Tryz.ntmps93
  go_wp2_with (fail)
  refine H.out.mono ?_
  rintro e w1 ⟨h1, hg1⟩
  have hg1' := Lib.hid hg1
  clear hg1 H k2 f2 k3 f3
  rcases h1 with ⟨v, q', hr, rfl, hok⟩ | ⟨hr, ⟨x, rfl⟩, hno⟩
  · have hr' := Lib.hid hr
    have hok' := Lib.hid hok
    clear hr hok
    go_wp2_with (fail)
    go_ret
    exact ⟨.inl ⟨v, q', hr'.out, rfl, hok'.out⟩, hg1'.out⟩
  · have hr' := Lib.hid hr
    have hno' := Lib.hid hno
    clear hr hno
    go_wp2_with (fail)
    go_ret
    exact ⟨.inr ⟨hr'.out, ⟨_, rfl⟩, hno'.out⟩, hg1'.out⟩

/-- how a reading of a number ends at last. -/
def EndsN0 (r : Option (Nat × Nat)) (g : Nat) (l : List UInt8) (w : World) (e : Ending) (w' : World) : Prop :=
  ((∃ v q', r = some (v, q') ∧ e = .returned (.int .i64 (v : Int)) ∧ RdOk w' g l q') ∨ (r = none ∧ e = .returned (.int .i64 0) ∧ RdNo w' g)) ∧ w.grownBy w' (some g)

set_option maxHeartbeats 1000000 in
set_option maxRecDepth 100000 in
theorem readInt_calls (g : Nat) (l : List UInt8) (q most b2 b3 : Nat) (w : World) (hl : l.length ≤ 1000000) (hm : most < 9223372036854775808) (h : RdOk w g l q) (hc : Caught w b2 b3 g most) :
    Calls Tryz.prog 92 #[.pointer (some ⟨g, 0, none⟩), .func (.func 93) #[] #[.pointer (some ⟨b2, 0, none⟩), .pointer (some ⟨b3, 0, none⟩)]] w (EndsN0 (numR most l q) g l w) := by
  have H := Lib.hid (numclo_calls g l q most b2 b3 w hl hm h hc)
  obtain ⟨A, n, c, hB, hA, hq, hne⟩ := h
  obtain ⟨kc, kf, hlt⟩ := hB.facts
  clear hB hA hc
  go_enter Tryz.func92, Tryz.ntmps92
  go_wp2_with (fail)
  refine H.out.mono ?_
  rintro e w1 ⟨h1, hg1⟩
  have hg1' := Lib.hid hg1
  clear hg1 H kc kf
  rcases h1 with ⟨v, q', hr, rfl, ⟨A, n, c, hB, hA, hq, hne⟩⟩ | ⟨hr, ⟨x, rfl⟩, ⟨v, p, er, hB, her⟩⟩
  · have hr' := Lib.hid hr
    have hok' : Hid (RdOk w1 g l q') := ⟨A, n, c, hB, hA, hq, hne⟩
    obtain ⟨kc, kf, hlt⟩ := hB.facts
    clear hr hB hA hq hne
    go_wp2_with (fail)
    go_ret
    exact ⟨.inl ⟨v, q', hr'.out, rfl, hok'.out⟩, hg1'.out⟩
  · have hr' := Lib.hid hr
    have hno' : Hid (RdNo w1 g) := ⟨v, p, er, hB, her⟩
    obtain ⟨kc, kf, hlt⟩ := hB.facts
    have hn0 : (er == 0) = false := by rw [beq_eq_false_iff_ne]; exact her
    clear hr hB
    go_wp2_with (fail)
    go_ret
    exact ⟨.inr ⟨hr'.out, rfl, hno'.out⟩, hg1'.out⟩

set_option maxHeartbeats 1000000 in
set_option maxRecDepth 100000 in
theorem readInt_no (g b2 b3 : Nat) (w : World) (h : RdNo w g) :
    Calls Tryz.prog 92 #[.pointer (some ⟨g, 0, none⟩), .func (.func 93) #[] #[.pointer (some ⟨b2, 0, none⟩), .pointer (some ⟨b3, 0, none⟩)]] w fun e w' => e = .returned (.int .i64 0) ∧ w = w' := by
  obtain ⟨v, p, er, hB, her⟩ := h
  obtain ⟨kc, kf, hlt⟩ := hB.facts
  have hn0 : (er == 0) = false := by rw [beq_eq_false_iff_ne]; exact her
  clear hB
  go_enter Tryz.func92, Tryz.ntmps92
  go_wp2_with (fail)
  go_ret
  exact ⟨rfl, rfl⟩

theorem caught_new (w : World) (g : Nat) (most : Int) (hg : g < w.heap.size) : Caught ((w.alloc (.cells #[.pointer (some ⟨g, 0, none⟩)] 42)).alloc (.cells #[.int .i64 most] 3)) w.heap.size (w.heap.size + 1) g most :=
  ⟨(Blk.new _ _ _).alloc _, Blk.new' _ _ (by simp), by omega, by omega⟩
theorem two_below (w : World) (o1 o2 : Obj) : Below w.heap.size w ((w.alloc o1).alloc o2) := ((Below.refl _ _).alloc (Nat.le_refl _) _).alloc (by simp) _
theorem RdOk.two {w : World} {g : Nat} {l : List UInt8} {q : Nat} (h : RdOk w g l q) (o1 o2 : Obj) : RdOk ((w.alloc o1).alloc o2) g l q := h.below (two_below w o1 o2)
theorem only_two {w w' : World} {row : Option Nat} {o1 o2 : Obj} (h : ((w.alloc o1).alloc o2).grownBy w' row) : w.grownBy w' row := only_trans (only_of_below (two_below w o1 o2) row) h

set_option maxHeartbeats 1000000 in
set_option maxRecDepth 100000 in
theorem rnumber_calls (g : Nat) (l : List UInt8) (q most : Nat) (w : World) (hl : l.length ≤ 1000000) (hm : most < 9223372036854775808) (h : RdOk w g l q) :
    Calls Tryz.prog 48 #[.pointer (some ⟨g, 0, none⟩), .int .i64 (most : Int)] w (EndsN0 (numR most l q) g l w) := by
  have H := Lib.hid (readInt_calls g l q most w.heap.size (w.heap.size + 1) _ hl hm (h.two (.cells #[.pointer (some ⟨g, 0, none⟩)] 42) (.cells #[.int .i64 (most : Int)] 3)) (caught_new w g most h.lt))
  clear h
  go_enter Tryz.func48, Tryz.ntmps48
  go_wp2_with (fail)
  refine H.out.mono ?_
  rintro e w1 ⟨h1, hg1⟩
  have hg1' := Lib.hid (only_two hg1)
  clear hg1 H
  rcases h1 with ⟨v, q', hr, rfl, hok⟩ | ⟨hr, rfl, hno⟩
  · have hr' := Lib.hid hr
    have hok' := Lib.hid hok
    clear hr hok
    go_wp2_with (fail)
    go_ret
    exact ⟨.inl ⟨v, q', hr'.out, rfl, hok'.out⟩, hg1'.out⟩
  · have hr' := Lib.hid hr
    have hno' := Lib.hid hno
    clear hr hno
    go_wp2_with (fail)
    go_ret
    exact ⟨.inr ⟨hr'.out, rfl, hno'.out⟩, hg1'.out⟩

set_option maxHeartbeats 1000000 in
set_option maxRecDepth 100000 in
theorem rnumber_no (g : Nat) (most : Int) (w : World) (h : RdNo w g) :
    Calls Tryz.prog 48 #[.pointer (some ⟨g, 0, none⟩), .int .i64 most] w fun e w' => e = .returned (.int .i64 0) ∧ RdNo w' g ∧ Below w.heap.size w w' := by
  have hn := h.below (two_below w (.cells #[.pointer (some ⟨g, 0, none⟩)] 42) (.cells #[.int .i64 most] 3))
  have hn' := Lib.hid hn
  have H := Lib.hid (readInt_no g w.heap.size (w.heap.size + 1) _ hn)
  clear h hn
  go_enter Tryz.func48, Tryz.ntmps48
  go_wp2_with (fail)
  refine H.out.mono ?_
  rintro e w1 ⟨rfl, rfl⟩
  go_wp2_with (fail)
  go_ret
  exact ⟨rfl, hn'.out, two_below w _ _⟩
end Go.Proofs.YtdgbpmbknlhgmaaGreatDoor
set_option linter.unusedVariables false
set_option linter.unusedSimpArgs false
namespace Go.Proofs.YtdgbpmbknlhgmaaGreatDoor
open Go.RowKit Qt Vm

set_option maxHeartbeats 1000000 in
theorem rawclo_calls (g : Nat) (l : List UInt8) (q most b2 b3 : Nat) (w : World) (hl : l.length ≤ 1000000) (hm : most < 9223372036854775808) (h : RdOk w g l q) (hc : Caught w b2 b3 g most) :
    Calls Tryz.prog 134 #[.pointer (some ⟨b2, 0, none⟩), .pointer (some ⟨b3, 0, none⟩)] w (EndsB (cntR most l q) g l w) := by
  have H := Lib.hid (raw_calls g l q most w hl hm h)
  obtain ⟨h2, h3, _, _⟩ := hc
  obtain ⟨k2, f2, l2⟩ := h2.facts
  obtain ⟨k3, f3, l3⟩ := h3.facts
  clear h h2 h3
  go_enter Tryz.func134, Tryz.ntmps134
  go_wp2_with (fail)
  refine H.out.mono ?_
  rintro e w1 ⟨h1, hg1⟩
  have hg1' := Lib.hid hg1
  clear hg1 H k2 f2 k3 f3
  rcases h1 with ⟨v, q', A, d, hr, rfl, hat, hok⟩ | ⟨hr, ⟨A, n, d, rfl⟩, hno⟩
  · have hr' := Lib.hid hr
    have hok' := Lib.hid hok
    have hat' := Lib.hid hat
    clear hr hok hat
    go_wp2_with (fail)
    go_ret
    exact ⟨.inl ⟨v, q', A, d, hr'.out, rfl, hat'.out, hok'.out⟩, hg1'.out⟩
  · have hr' := Lib.hid hr
    have hno' := Lib.hid hno
    clear hr hno
    go_wp2_with (fail)
    go_ret
    exact ⟨.inr ⟨hr'.out, ⟨_, _, _, rfl⟩, hno'.out⟩, hg1'.out⟩

/-- how a reading of bytes ends at last. -/
def EndsB0 (r : Option (Nat × Nat)) (g : Nat) (l : List UInt8) (w : World) (e : Ending) (w' : World) : Prop :=
  ((∃ v q' A d, r = some (v, q') ∧ e = .returned (.slice A v d) ∧ BAt w' A v ((l.drop q').take v) ∧ RdOk w' g l (q' + v)) ∨ (r = none ∧ e = .returned (.slice none 0 0) ∧ RdNo w' g)) ∧ w.grownBy w' (some g)

set_option maxHeartbeats 1000000 in
set_option maxRecDepth 100000 in
theorem readRaw_calls (g : Nat) (l : List UInt8) (q most b2 b3 : Nat) (w : World) (hl : l.length ≤ 1000000) (hm : most < 9223372036854775808) (h : RdOk w g l q) (hc : Caught w b2 b3 g most) :
    Calls Tryz.prog 133 #[.pointer (some ⟨g, 0, none⟩), .func (.func 134) #[] #[.pointer (some ⟨b2, 0, none⟩), .pointer (some ⟨b3, 0, none⟩)]] w (EndsB0 (cntR most l q) g l w) := by
  have H := Lib.hid (rawclo_calls g l q most b2 b3 w hl hm h hc)
  obtain ⟨A, n, c, hB, hA, hq, hne⟩ := h
  obtain ⟨kc, kf, hlt⟩ := hB.facts
  clear hB hA hc
  go_enter Tryz.func133, Tryz.ntmps133
  go_wp2_with (fail)
  refine H.out.mono ?_
  rintro e w1 ⟨h1, hg1⟩
  have hg1' := Lib.hid hg1
  clear hg1 H kc kf
  rcases h1 with ⟨v, q', B, d, hr, rfl, hat, ⟨A, n, c, hB, hA, hq, hne⟩⟩ | ⟨hr, ⟨B, k, d, rfl⟩, ⟨v, p, er, hB, her⟩⟩
  · have hr' := Lib.hid hr
    have hat' := Lib.hid hat
    have hok' : Hid (RdOk w1 g l (q' + v)) := ⟨A, n, c, hB, hA, hq, hne⟩
    obtain ⟨kc, kf, hlt⟩ := hB.facts
    clear hr hB hA hq hne hat
    go_wp2_with (fail)
    go_ret
    exact ⟨.inl ⟨v, q', B, d, hr'.out, rfl, hat'.out, hok'.out⟩, hg1'.out⟩
  · have hr' := Lib.hid hr
    have hno' : Hid (RdNo w1 g) := ⟨v, p, er, hB, her⟩
    obtain ⟨kc, kf, hlt⟩ := hB.facts
    have hn0 : (er == 0) = false := by rw [beq_eq_false_iff_ne]; exact her
    clear hr hB
    go_wp2_with (fail)
    go_ret
    exact ⟨.inr ⟨hr'.out, rfl, hno'.out⟩, hg1'.out⟩

set_option maxHeartbeats 1000000 in
set_option maxRecDepth 100000 in
theorem readRaw_no (g b2 b3 : Nat) (w : World) (h : RdNo w g) :
    Calls Tryz.prog 133 #[.pointer (some ⟨g, 0, none⟩), .func (.func 134) #[] #[.pointer (some ⟨b2, 0, none⟩), .pointer (some ⟨b3, 0, none⟩)]] w fun e w' => e = .returned (.slice none 0 0) ∧ w = w' := by
  obtain ⟨v, p, er, hB, her⟩ := h
  obtain ⟨kc, kf, hlt⟩ := hB.facts
  have hn0 : (er == 0) = false := by rw [beq_eq_false_iff_ne]; exact her
  clear hB
  go_enter Tryz.func133, Tryz.ntmps133
  go_wp2_with (fail)
  go_ret
  exact ⟨rfl, rfl⟩

set_option maxHeartbeats 1000000 in
set_option maxRecDepth 100000 in
theorem rraw_calls (g : Nat) (l : List UInt8) (q most : Nat) (w : World) (hl : l.length ≤ 1000000) (hm : most < 9223372036854775808) (h : RdOk w g l q) :
    Calls Tryz.prog 119 #[.pointer (some ⟨g, 0, none⟩), .int .i64 (most : Int)] w (EndsB0 (cntR most l q) g l w) := by
  have H := Lib.hid (readRaw_calls g l q most w.heap.size (w.heap.size + 1) _ hl hm (h.two (.cells #[.pointer (some ⟨g, 0, none⟩)] 42) (.cells #[.int .i64 (most : Int)] 3)) (caught_new w g most h.lt))
  clear h
  go_enter Tryz.func119, Tryz.ntmps119
  go_wp2_with (fail)
  refine H.out.mono ?_
  rintro e w1 ⟨h1, hg1⟩
  have hg1' := Lib.hid (only_two hg1)
  clear hg1 H
  rcases h1 with ⟨v, q', A, d, hr, rfl, hat, hok⟩ | ⟨hr, rfl, hno⟩
  · have hr' := Lib.hid hr
    have hok' := Lib.hid hok
    have hat' := Lib.hid hat
    clear hr hok hat
    go_wp2_with (fail)
    go_ret
    exact ⟨.inl ⟨v, q', A, d, hr'.out, rfl, hat'.out, hok'.out⟩, hg1'.out⟩
  · have hr' := Lib.hid hr
    have hno' := Lib.hid hno
    clear hr hno
    go_wp2_with (fail)
    go_ret
    exact ⟨.inr ⟨hr'.out, rfl, hno'.out⟩, hg1'.out⟩

set_option maxHeartbeats 1000000 in
set_option maxRecDepth 100000 in
theorem rraw_no (g : Nat) (most : Int) (w : World) (h : RdNo w g) :
    Calls Tryz.prog 119 #[.pointer (some ⟨g, 0, none⟩), .int .i64 most] w fun e w' => e = .returned (.slice none 0 0) ∧ RdNo w' g ∧ Below w.heap.size w w' := by
  have hn := h.below (two_below w (.cells #[.pointer (some ⟨g, 0, none⟩)] 42) (.cells #[.int .i64 most] 3))
  have hn' := Lib.hid hn
  have H := Lib.hid (readRaw_no g w.heap.size (w.heap.size + 1) _ hn)
  clear h hn
  go_enter Tryz.func119, Tryz.ntmps119
  go_wp2_with (fail)
  refine H.out.mono ?_
  rintro e w1 ⟨rfl, rfl⟩
  go_wp2_with (fail)
  go_ret
  exact ⟨rfl, hn'.out, two_below w _ _⟩

/-- how a reading of a text ends. -/
def EndsT (r : Option (List UInt8 × Nat)) (g : Nat) (l : List UInt8) (w : World) (e : Ending) (w' : World) : Prop :=
  ((∃ s q', r = some (s, q') ∧ e = .returned (.string (str s)) ∧ RdOk w' g l q') ∨ (r = none ∧ e = .returned (.string (str [])) ∧ RdNo w' g)) ∧ w.grownBy w' (some g)
def txtR (most : Nat) (l : List UInt8) (q : Nat) : Option (List UInt8 × Nat) := (cntR most l q).map fun p => ((l.drop p.2).take p.1, p.2 + p.1)

theorem convert_at {w : World} {A : Option Addr} {n c : Nat} {l : List UInt8} (h : BAt w A n l) : (convert 26 9 (.slice A n c)).run Tryz.prog w = .ok (.string (str l)) w := by
  have hn := h.len
  subst hn
  cases A with
  | none =>
    have h0 : l = [] := by
      rcases Nat.eq_zero_or_pos l.length with h0 | h0
      · exact List.eq_nil_of_length_eq_zero h0
      · obtain ⟨ad, h1, _⟩ := h.2 h0; cases h1
    subst h0
    have := Lib.run_convert_nil_bytes (P := Tryz.prog) w 26 9 5 c (by kernel_rfl) (by kernel_rfl) (by kernel_rfl)
    exact this
  | some a =>
    refine run_convert_bytes_back (P := Tryz.prog) w 26 9 5 a c l (by kernel_rfl) (by kernel_rfl) (by kernel_rfl) fun j hj => ?_
    obtain ⟨ad, e, _, hc⟩ := h.2 (by omega)
    injection e with e
    subst e
    refine hc j _ ?_
    rw [Lib.byteCells, List.getElem?_map, List.getElem?_eq_getElem hj]
    rfl

set_option maxHeartbeats 1000000 in
set_option maxRecDepth 100000 in
theorem rtext_calls (g : Nat) (l : List UInt8) (q most : Nat) (w : World) (hl : l.length ≤ 1000000) (hm : most < 9223372036854775808) (h : RdOk w g l q) :
    Calls Tryz.prog 95 #[.pointer (some ⟨g, 0, none⟩), .int .i64 (most : Int)] w (EndsT (txtR most l q) g l w) := by
  have H := Lib.hid (rraw_calls g l q most w hl hm h)
  clear h
  go_enter Tryz.func95, Tryz.ntmps95
  go_wp2_with (fail)
  refine H.out.mono ?_
  rintro e w1 ⟨h1, hg1⟩
  have hg1' := Lib.hid hg1
  clear hg1 H
  rcases h1 with ⟨v, q', A, d, hr, rfl, hat, hok⟩ | ⟨hr, rfl, hno⟩
  · have hr' : Hid (txtR most l q = some ((l.drop q').take v, q' + v)) := by show _ = _; unfold txtR; rw [hr]; rfl
    have hok' := Lib.hid hok
    have hcv := convert_at (c := d) hat
    clear hr hok hat
    go_wp2_with (fail)
    go_ret
    exact ⟨.inl ⟨_, _, hr'.out, rfl, hok'.out⟩, hg1'.out⟩
  · have hr' : Hid (txtR most l q = none) := by show _ = _; unfold txtR; rw [hr]; rfl
    have hno' := Lib.hid hno
    have hcv := convert_at (w := w1) (A := none) (n := 0) (c := 0) (l := []) Reads.none_
    clear hr hno
    go_wp2_with (fail)
    go_ret
    exact ⟨.inr ⟨hr'.out, rfl, hno'.out⟩, hg1'.out⟩

set_option maxHeartbeats 1000000 in
set_option maxRecDepth 100000 in
theorem rtext_no (g : Nat) (most : Int) (w : World) (h : RdNo w g) :
    Calls Tryz.prog 95 #[.pointer (some ⟨g, 0, none⟩), .int .i64 most] w fun e w' => e = .returned (.string (str [])) ∧ RdNo w' g ∧ Below w.heap.size w w' := by
  have H := Lib.hid (rraw_no g most w h)
  clear h
  go_enter Tryz.func95, Tryz.ntmps95
  go_wp2_with (fail)
  refine H.out.mono ?_
  rintro e w1 ⟨rfl, hno, hb⟩
  have hno' := Lib.hid hno
  have hcv := convert_at (w := w1) (A := none) (n := 0) (c := 0) (l := []) Reads.none_
  clear hno H
  go_wp2_with (fail)
  go_ret
  exact ⟨rfl, hno'.out, hb⟩
end Go.Proofs.YtdgbpmbknlhgmaaGreatDoor
set_option linter.unusedVariables false
set_option linter.unusedSimpArgs false
namespace Go.Proofs.YtdgbpmbknlhgmaaGreatDoor
open Go.RowKit Qt Vm

def flgR (l : List UInt8) (q : Nat) : Option (Bool × Nat) :=
  match l.drop q with
  | [] => none
  | c :: _ => if c.toNat ≤ 1 then some (c == 1, q + 1) else none
/-- how a reading of a flag ends. -/
def EndsF (r : Option (Bool × Nat)) (g : Nat) (l : List UInt8) (w : World) (e : Ending) (w' : World) : Prop :=
  ((∃ b q', r = some (b, q') ∧ e = .returned (.bool b) ∧ RdOk w' g l q') ∨ (r = none ∧ (∃ x, e = .returned (.bool x)) ∧ RdNo w' g)) ∧ w.grownBy w' (some g)
def EndsF0 (r : Option (Bool × Nat)) (g : Nat) (l : List UInt8) (w : World) (e : Ending) (w' : World) : Prop :=
  ((∃ b q', r = some (b, q') ∧ e = .returned (.bool b) ∧ RdOk w' g l q') ∨ (r = none ∧ e = .returned (.bool false) ∧ RdNo w' g)) ∧ w.grownBy w' (some g)

set_option maxHeartbeats 1000000 in
theorem err_calls (g : Nat) (v : Value) (p er : Int) (w : World) (hB : Blk w g 82 #[v, .int .i64 p, .int .i64 er]) :
    Calls Tryz.prog 76 #[.pointer (some ⟨g, 0, none⟩)] w fun e w' => e = .returned (.int .i64 er) ∧ w = w' := by
  obtain ⟨kc, kf, hlt⟩ := hB.facts
  clear hB
  go_enter Tryz.func76, Tryz.ntmps76
  go_wp2_with (fail)
  go_ret
  exact ⟨rfl, rfl⟩
/-- what Done says of a reader without a fault. -/
def dneE (l : List UInt8) (q : Nat) : Int := if q = l.length then 0 else 3
set_option maxHeartbeats 1000000 in
theorem done_calls (g : Nat) (l : List UInt8) (q : Nat) (w : World) (hl : l.length ≤ 1000000) (h : RdOk w g l q) :
    Calls Tryz.prog 37 #[.pointer (some ⟨g, 0, none⟩)] w fun e w' => e = .returned (.int .i64 (dneE l q)) ∧ Below w.heap.size w w' := by
  obtain ⟨A, n, c, hB, hA, hq, hne⟩ := h
  have hln := hA.len
  have HL := Lib.hid (left_calls g A n c q 0 w (by omega) (by omega) hB)
  have HE := Lib.hid (err_calls g _ _ _ w hB)
  clear hB hA hne
  by_cases h0 : q = n
  · have hf : Hid (dneE l q = 0) := if_pos (by omega)
    have hz : ((n - q : Nat) : Int) = 0 := by omega
    rw [hz] at HL
    clear hz h0 hln
    go_enter Tryz.func37, Tryz.ntmps37
    go_wp2_with (fail)
    refine HE.out.mono ?_
    rintro e w1 ⟨rfl, rfl⟩
    go_wp2_with (fail)
    refine HL.out.mono ?_
    rintro e w1 ⟨rfl, hb1⟩
    go_wp2_with (fail)
    go_ret
    exact ⟨ret_int hf.out.symm, hb1⟩
  · have hf : Hid (dneE l q = 3) := if_neg (by omega)
    have hz : 0 < n - q := by omega
    clear h0 hln
    generalize n - q = m at *
    go_enter Tryz.func37, Tryz.ntmps37
    go_wp2_with (fail)
    refine HE.out.mono ?_
    rintro e w1 ⟨rfl, rfl⟩
    go_wp2_with (fail)
    refine HL.out.mono ?_
    rintro e w1 ⟨rfl, hb1⟩
    go_wp2_with (fail)
    go_ret
    exact ⟨ret_int hf.out.symm, hb1⟩
set_option maxHeartbeats 1000000 in
theorem done_no (g : Nat) (w : World) (h : RdNo w g) :
    Calls Tryz.prog 37 #[.pointer (some ⟨g, 0, none⟩)] w fun e w' => ∃ er : Int, e = .returned (.int .i64 er) ∧ er ≠ 0 ∧ w = w' := by
  obtain ⟨v, p, er, hB, her⟩ := h
  have HE := Lib.hid (err_calls g _ _ _ w hB)
  have hn0 : (er == 0) = false := by rw [beq_eq_false_iff_ne]; exact her
  have her' := Lib.hid her
  clear hB her
  go_enter Tryz.func37, Tryz.ntmps37
  go_wp2_with (fail)
  refine HE.out.mono ?_
  rintro e w1 ⟨rfl, rfl⟩
  go_wp2_with (fail)
  go_ret
  exact ⟨er, rfl, her'.out, rfl⟩

set_option maxHeartbeats 1000000 in
set_option maxRecDepth 100000 in
theorem newReader_calls (A : Option Addr) (n c : Nat) (l : List UInt8) (w : World) (hn : n ≤ 1000000) (h : BAt w A n l) :
    Calls Tryz.prog 19 #[.slice A n c] w fun e w' => ∃ g, e = .returned (.pointer (some ⟨g, 0, none⟩)) ∧ RdOk w' g l 0 ∧ w.heap.size ≤ g ∧ Below w.heap.size w w' := by
  have H := Lib.hid (clone_calls A n c l w (by omega) h)
  clear h
  go_enter Tryz.func19, Tryz.ntmps19
  go_wp2_with (fail)
  refine H.out.mono ?_
  rintro e w1 ⟨B, d, rfl, hown, hb1⟩
  have hown' := Lib.hid hown
  have hb1' := Lib.hid hb1
  clear hown hb1 H
  go_wp2_with (fail)
  go_ret
  refine ⟨w1.heap.size, rfl, ⟨B, n, d, Blk.new _ _ _, (BAt.own hown'.out).alloc _, Nat.zero_le _, own_cap hown'.out, fun ad e => ?_⟩, hb1'.out.size, hb1'.out.alloc hb1'.out.size _⟩
  subst e
  exact (hown'.out.lt ad.block rfl).2

set_option maxHeartbeats 1000000 in
theorem may_calls (v : Int) (w : World) :
    Calls Tryz.prog 34 #[.int .i64 v] w fun e w' => e = .returned (.bool (decide (v = 1 ∨ v = 2))) ∧ w = w' := by
  by_cases h1 : v = 1
  · subst h1
    go_enter Tryz.func34, Tryz.ntmps34
    go_wp2_with (fail)
    go_ret
    exact ⟨ret_bool (by decide), rfl⟩
  · by_cases h2 : v = 2
    · subst h2
      go_enter Tryz.func34, Tryz.ntmps34
      go_wp2_with (fail)
      go_ret
      exact ⟨ret_bool (by decide), rfl⟩
    · have hf : Hid (decide (v = 1 ∨ v = 2) = false) := by show _ = _; rw [decide_eq_false_iff_not]; omega
      have e1 : (v == 1) = false := beq_eq_false_iff_ne.2 h1
      have e2 : (v == 2) = false := beq_eq_false_iff_ne.2 h2
      clear h1 h2
      go_enter Tryz.func34, Tryz.ntmps34
      go_wp2_with (fail)
      go_ret
      exact ⟨ret_bool hf.out.symm, rfl⟩
end Go.Proofs.YtdgbpmbknlhgmaaGreatDoor
