/-
The walks through pack.Reader: Raw, Text.
-/
import Derived.Test.YtdgbpmbknlhgmaaDoorReadC
set_option linter.unusedVariables false
set_option linter.unusedSimpArgs false
namespace Go.Proofs.YtdgbpmbknlhgmaaDoor
open Go.RowKit Qt Vm

set_option maxHeartbeats 1000000 in
theorem rawclo_calls (g : Nat) (l : List UInt8) (q most b2 b3 : Nat) (w : World) (hl : l.length ≤ 1000000) (hm : most < 9223372036854775808) (h : RdOk w g l q) (hc : Caught w b2 b3 g most) :
    Calls Tryd.prog 131 #[.pointer (some ⟨b2, 0, none⟩), .pointer (some ⟨b3, 0, none⟩)] w (EndsB (cntR most l q) g l w) := by
  have H := Lib.hid (raw_calls g l q most w hl hm h)
  obtain ⟨h2, h3, _, _⟩ := hc
  obtain ⟨k2, f2, l2⟩ := h2.facts
  obtain ⟨k3, f3, l3⟩ := h3.facts
  clear h h2 h3
  go_enter Tryd.func131, Tryd.ntmps131
  go_wp2_with (fail)
  refine H.out.mono ?_
  rintro e w1 ⟨h1, hg1⟩
  have hg1' := Lib.hid hg1
  clear hg1 H k2 f2 k3 f3
  rcases h1 with ⟨v, q', A, d, hr, rfl, hat, hok⟩ | ⟨hr, ⟨A, n, d, rfl⟩, hno⟩
  · have hr' := Lib.hid hr
    have hok' := Lib.hid hok
    have hat' := Lib.hid hat
    clear hr hok hat
    go_wp2_with (fail)
    go_ret
    exact ⟨.inl ⟨v, q', A, d, hr'.out, rfl, hat'.out, hok'.out⟩, hg1'.out⟩
  · have hr' := Lib.hid hr
    have hno' := Lib.hid hno
    clear hr hno
    go_wp2_with (fail)
    go_ret
    exact ⟨.inr ⟨hr'.out, ⟨_, _, _, rfl⟩, hno'.out⟩, hg1'.out⟩

/-- how a reading of bytes ends at last. -/
def EndsB0 (r : Option (Nat × Nat)) (g : Nat) (l : List UInt8) (w : World) (e : Ending) (w' : World) : Prop :=
  ((∃ v q' A d, r = some (v, q') ∧ e = .returned (.slice A v d) ∧ BAt w' A v ((l.drop q').take v) ∧ RdOk w' g l (q' + v)) ∨ (r = none ∧ e = .returned (.slice none 0 0) ∧ RdNo w' g)) ∧ w.grownBy w' (some g)

set_option maxHeartbeats 1000000 in
set_option maxRecDepth 100000 in
theorem readRaw_calls (g : Nat) (l : List UInt8) (q most b2 b3 : Nat) (w : World) (hl : l.length ≤ 1000000) (hm : most < 9223372036854775808) (h : RdOk w g l q) (hc : Caught w b2 b3 g most) :
    Calls Tryd.prog 130 #[.pointer (some ⟨g, 0, none⟩), .func (.func 131) #[] #[.pointer (some ⟨b2, 0, none⟩), .pointer (some ⟨b3, 0, none⟩)]] w (EndsB0 (cntR most l q) g l w) := by
  have H := Lib.hid (rawclo_calls g l q most b2 b3 w hl hm h hc)
  obtain ⟨A, n, c, hB, hA, hq, hne⟩ := h
  obtain ⟨kc, kf, hlt⟩ := hB.facts
  clear hB hA hc
  go_enter Tryd.func130, Tryd.ntmps130
  go_wp2_with (fail)
  refine H.out.mono ?_
  rintro e w1 ⟨h1, hg1⟩
  have hg1' := Lib.hid hg1
  clear hg1 H kc kf
  rcases h1 with ⟨v, q', B, d, hr, rfl, hat, ⟨A, n, c, hB, hA, hq, hne⟩⟩ | ⟨hr, ⟨B, k, d, rfl⟩, ⟨v, p, er, hB, her⟩⟩
  · have hr' := Lib.hid hr
    have hat' := Lib.hid hat
    have hok' : Hid (RdOk w1 g l (q' + v)) := ⟨A, n, c, hB, hA, hq, hne⟩
    obtain ⟨kc, kf, hlt⟩ := hB.facts
    clear hr hB hA hq hne hat
    go_wp2_with (fail)
    go_ret
    exact ⟨.inl ⟨v, q', B, d, hr'.out, rfl, hat'.out, hok'.out⟩, hg1'.out⟩
  · have hr' := Lib.hid hr
    have hno' : Hid (RdNo w1 g) := ⟨v, p, er, hB, her⟩
    obtain ⟨kc, kf, hlt⟩ := hB.facts
    have hn0 : (er == 0) = false := by rw [beq_eq_false_iff_ne]; exact her
    clear hr hB
    go_wp2_with (fail)
    go_ret
    exact ⟨.inr ⟨hr'.out, rfl, hno'.out⟩, hg1'.out⟩

set_option maxHeartbeats 1000000 in
set_option maxRecDepth 100000 in
theorem readRaw_no (g b2 b3 : Nat) (w : World) (h : RdNo w g) :
    Calls Tryd.prog 130 #[.pointer (some ⟨g, 0, none⟩), .func (.func 131) #[] #[.pointer (some ⟨b2, 0, none⟩), .pointer (some ⟨b3, 0, none⟩)]] w fun e w' => e = .returned (.slice none 0 0) ∧ w = w' := by
  obtain ⟨v, p, er, hB, her⟩ := h
  obtain ⟨kc, kf, hlt⟩ := hB.facts
  have hn0 : (er == 0) = false := by rw [beq_eq_false_iff_ne]; exact her
  clear hB
  go_enter Tryd.func130, Tryd.ntmps130
  go_wp2_with (fail)
  go_ret
  exact ⟨rfl, rfl⟩

set_option maxHeartbeats 1000000 in
set_option maxRecDepth 100000 in
theorem rraw_calls (g : Nat) (l : List UInt8) (q most : Nat) (w : World) (hl : l.length ≤ 1000000) (hm : most < 9223372036854775808) (h : RdOk w g l q) :
    Calls Tryd.prog 115 #[.pointer (some ⟨g, 0, none⟩), .int .i64 (most : Int)] w (EndsB0 (cntR most l q) g l w) := by
  have H := Lib.hid (readRaw_calls g l q most w.heap.size (w.heap.size + 1) _ hl hm (h.two (.cells #[.pointer (some ⟨g, 0, none⟩)] 57) (.cells #[.int .i64 (most : Int)] 3)) (caught_new w g most h.lt))
  clear h
  go_enter Tryd.func115, Tryd.ntmps115
  go_wp2_with (fail)
  refine H.out.mono ?_
  rintro e w1 ⟨h1, hg1⟩
  have hg1' := Lib.hid (only_two hg1)
  clear hg1 H
  rcases h1 with ⟨v, q', A, d, hr, rfl, hat, hok⟩ | ⟨hr, rfl, hno⟩
  · have hr' := Lib.hid hr
    have hok' := Lib.hid hok
    have hat' := Lib.hid hat
    clear hr hok hat
    go_wp2_with (fail)
    go_ret
    exact ⟨.inl ⟨v, q', A, d, hr'.out, rfl, hat'.out, hok'.out⟩, hg1'.out⟩
  · have hr' := Lib.hid hr
    have hno' := Lib.hid hno
    clear hr hno
    go_wp2_with (fail)
    go_ret
    exact ⟨.inr ⟨hr'.out, rfl, hno'.out⟩, hg1'.out⟩

set_option maxHeartbeats 1000000 in
set_option maxRecDepth 100000 in
theorem rraw_no (g : Nat) (most : Int) (w : World) (h : RdNo w g) :
    Calls Tryd.prog 115 #[.pointer (some ⟨g, 0, none⟩), .int .i64 most] w fun e w' => e = .returned (.slice none 0 0) ∧ RdNo w' g ∧ Below w.heap.size w w' := by
  have hn := h.below (two_below w (.cells #[.pointer (some ⟨g, 0, none⟩)] 57) (.cells #[.int .i64 most] 3))
  have hn' := Lib.hid hn
  have H := Lib.hid (readRaw_no g w.heap.size (w.heap.size + 1) _ hn)
  clear h hn
  go_enter Tryd.func115, Tryd.ntmps115
  go_wp2_with (fail)
  refine H.out.mono ?_
  rintro e w1 ⟨rfl, rfl⟩
  go_wp2_with (fail)
  go_ret
  exact ⟨rfl, hn'.out, two_below w _ _⟩

/-- how a reading of a text ends. -/
def EndsT (r : Option (List UInt8 × Nat)) (g : Nat) (l : List UInt8) (w : World) (e : Ending) (w' : World) : Prop :=
  ((∃ s q', r = some (s, q') ∧ e = .returned (.string (str s)) ∧ RdOk w' g l q') ∨ (r = none ∧ e = .returned (.string (str [])) ∧ RdNo w' g)) ∧ w.grownBy w' (some g)
def txtR (most : Nat) (l : List UInt8) (q : Nat) : Option (List UInt8 × Nat) := (cntR most l q).map fun p => ((l.drop p.2).take p.1, p.2 + p.1)

theorem convert_at {w : World} {A : Option Addr} {n c : Nat} {l : List UInt8} (h : BAt w A n l) : (convert 36 9 (.slice A n c)).run Tryd.prog w = .ok (.string (str l)) w := by
  have hn := h.len
  subst hn
  cases A with
  | none =>
    have h0 : l = [] := by
      rcases Nat.eq_zero_or_pos l.length with h0 | h0
      · exact List.eq_nil_of_length_eq_zero h0
      · obtain ⟨ad, h1, _⟩ := h.2 h0; cases h1
    subst h0
    have := Lib.run_convert_nil_bytes (P := Tryd.prog) w 36 9 5 c (by kernel_rfl) (by kernel_rfl) (by kernel_rfl)
    exact this
  | some a =>
    refine run_convert_bytes_back (P := Tryd.prog) w 36 9 5 a c l (by kernel_rfl) (by kernel_rfl) (by kernel_rfl) fun j hj => ?_
    obtain ⟨ad, e, _, hc⟩ := h.2 (by omega)
    injection e with e
    subst e
    refine hc j _ ?_
    rw [Lib.byteCells, List.getElem?_map, List.getElem?_eq_getElem hj]
    rfl

set_option maxHeartbeats 1000000 in
set_option maxRecDepth 100000 in
theorem rtext_calls (g : Nat) (l : List UInt8) (q most : Nat) (w : World) (hl : l.length ≤ 1000000) (hm : most < 9223372036854775808) (h : RdOk w g l q) :
    Calls Tryd.prog 75 #[.pointer (some ⟨g, 0, none⟩), .int .i64 (most : Int)] w (EndsT (txtR most l q) g l w) := by
  have H := Lib.hid (rraw_calls g l q most w hl hm h)
  clear h
  go_enter Tryd.func75, Tryd.ntmps75
  go_wp2_with (fail)
  refine H.out.mono ?_
  rintro e w1 ⟨h1, hg1⟩
  have hg1' := Lib.hid hg1
  clear hg1 H
  rcases h1 with ⟨v, q', A, d, hr, rfl, hat, hok⟩ | ⟨hr, rfl, hno⟩
  · have hr' : Hid (txtR most l q = some ((l.drop q').take v, q' + v)) := by show _ = _; unfold txtR; rw [hr]; rfl
    have hok' := Lib.hid hok
    have hcv := convert_at (c := d) hat
    clear hr hok hat
    go_wp2_with (fail)
    go_ret
    exact ⟨.inl ⟨_, _, hr'.out, rfl, hok'.out⟩, hg1'.out⟩
  · have hr' : Hid (txtR most l q = none) := by show _ = _; unfold txtR; rw [hr]; rfl
    have hno' := Lib.hid hno
    have hcv := convert_at (w := w1) (A := none) (n := 0) (c := 0) (l := []) Reads.none_
    clear hr hno
    go_wp2_with (fail)
    go_ret
    exact ⟨.inr ⟨hr'.out, rfl, hno'.out⟩, hg1'.out⟩

set_option maxHeartbeats 1000000 in
set_option maxRecDepth 100000 in
theorem rtext_no (g : Nat) (most : Int) (w : World) (h : RdNo w g) :
    Calls Tryd.prog 75 #[.pointer (some ⟨g, 0, none⟩), .int .i64 most] w fun e w' => e = .returned (.string (str [])) ∧ RdNo w' g ∧ Below w.heap.size w w' := by
  have H := Lib.hid (rraw_no g most w h)
  clear h
  go_enter Tryd.func75, Tryd.ntmps75
  go_wp2_with (fail)
  refine H.out.mono ?_
  rintro e w1 ⟨rfl, hno, hb⟩
  have hno' := Lib.hid hno
  have hcv := convert_at (w := w1) (A := none) (n := 0) (c := 0) (l := []) Reads.none_
  clear hno H
  go_wp2_with (fail)
  go_ret
  exact ⟨rfl, hno'.out, hb⟩
end Go.Proofs.YtdgbpmbknlhgmaaDoor
