/-
The walks through cmd.part.fill. (Printed by gen_cmdp.py.)
-/
import Derived.Test.YtdgbpmbknlhgmaaGreatDoorCmdJ
import Derived.Test.YtdgbpmbknlhgmaaGreatDoorAtoi
set_option linter.unusedVariables false
set_option linter.unusedSimpArgs false
namespace Go.Proofs.YtdgbpmbknlhgmaaGreatDoor
open Go.RowKit Qt

/-- a command with a field that was read off a word. -/
def CX.fill (x : CX) (i : Nat) (t : List UInt8) : CX :=
  match i with
  | 0 => { x with client := atoiZ t }
  | 1 => { x with seq := atoiZ t }
  | 2 => { x with key := uqT t }
  | 3 => { x with old := uqT t }
  | 4 => { x with val := uqT t }
  | _ => { x with node := atoiZ t }

set_option maxHeartbeats 2000000 in
set_option maxRecDepth 100000 in
theorem fill0 (x : CX) (w : World) (g : Nat) (t : List UInt8) (hl : t.length ≤ 1000000) (hv : EVars w) (hB : Blk w g 23 x.cells) :
    Calls Tryz.prog 55 #[.agg #[.int .i64 1, .int .i64 8, .nilFunc, .func (.func 82) #[] #[]], .pointer (some ⟨g, 0, none⟩), .string (str t)] w fun e w' => e = .returned (.tuple #[]) ∧ Blk w' g 23 (x.fill 0 t).cells ∧ ∃ w1 u, Below w.heap.size w w1 ∧ w' = w1.setCell ⟨g, 1, none⟩ u := by
  have hc : Hid ((x.fill 0 t).cells = x.cells.setIfInBounds 1 (.int .i64 (atoiZ t))) := rfl
  have T1 := ta_ii
  obtain ⟨W, hW⟩ : ∃ W, W = w.alloc (.cells #[.int .i64 1, .int .i64 8, .nilFunc, .func (.func 82) #[] #[]] 75) := ⟨_, rfl⟩
  have hbW : Hid (Below w.heap.size w W) := by subst hW; exact (Below.refl _ _).alloc (Nat.le_refl _) _
  have hPB : Hid (Blk W w.heap.size 75 #[.int .i64 1, .int .i64 8, .nilFunc, .func (.func 82) #[] #[]]) := by subst hW; exact Blk.new _ _ _
  have hB1 := Lib.hid (hB.call hbW.out)
  have hgl := hB.lt
  clear hB
  obtain ⟨kc, kf, hlt⟩ := hB1.out.facts
  obtain ⟨kd, kg, hlu⟩ := hPB.out.facts
  have c1 := kc 1
  have d3 := kd 3
  simp only [List.getElem?_toArray, List.getElem?_cons_zero, List.getElem?_cons_succ] at c1 d3
  clear kc kd
  have H := atoi_calls (str t) W (by rw [str_size]; exact hl) (hv.below hbW.out)
  rw [toL_str] at H
  have H := Lib.hid H
  go_enter Tryz.func55, Tryz.ntmps55
  go_wp2_with (fail)
  rw [← hW]
  clear hW
  refine (at0_calls _ _).mono ?_
  rintro e w1 ⟨rfl, rfl⟩
  go_wp2_with (fail)
  refine H.out.mono ?_
  rintro e x2 ⟨ev, rfl, hb⟩
  have hB2 := hB1.out.call hb
  have hb2 := Lib.hid (hbW.out.trans (hb.mono hbW.out.size))
  have hB3 := Lib.hid hB2
  clear kf hlt kg hlu c1 d3 hB1 hb hbW hPB H
  obtain ⟨kc, kf, hlt⟩ := hB2.facts
  clear hB2
  go_wp2_with (fail)
  first
    | (go_end0; exact ⟨rfl, by rw [hc.out]; exact hB3.out.set_ _ _, _, _, hb2.out, rfl⟩)
    | (refine bodyPost_ret (results_none rfl _ _ _) rfl ?_; exact ⟨rfl, by rw [hc.out]; exact hB3.out.set_ _ _, _, _, hb2.out, rfl⟩)
set_option maxHeartbeats 2000000 in
set_option maxRecDepth 100000 in
theorem fill1 (x : CX) (w : World) (g : Nat) (t : List UInt8) (hl : t.length ≤ 1000000) (hv : EVars w) (hB : Blk w g 23 x.cells) :
    Calls Tryz.prog 55 #[.agg #[.int .i64 1, .int .i64 4294967296, .nilFunc, .func (.func 83) #[] #[]], .pointer (some ⟨g, 0, none⟩), .string (str t)] w fun e w' => e = .returned (.tuple #[]) ∧ Blk w' g 23 (x.fill 1 t).cells ∧ ∃ w1 u, Below w.heap.size w w1 ∧ w' = w1.setCell ⟨g, 2, none⟩ u := by
  have hc : Hid ((x.fill 1 t).cells = x.cells.setIfInBounds 2 (.int .i64 (atoiZ t))) := rfl
  have T1 := ta_ii
  obtain ⟨W, hW⟩ : ∃ W, W = w.alloc (.cells #[.int .i64 1, .int .i64 4294967296, .nilFunc, .func (.func 83) #[] #[]] 75) := ⟨_, rfl⟩
  have hbW : Hid (Below w.heap.size w W) := by subst hW; exact (Below.refl _ _).alloc (Nat.le_refl _) _
  have hPB : Hid (Blk W w.heap.size 75 #[.int .i64 1, .int .i64 4294967296, .nilFunc, .func (.func 83) #[] #[]]) := by subst hW; exact Blk.new _ _ _
  have hB1 := Lib.hid (hB.call hbW.out)
  have hgl := hB.lt
  clear hB
  obtain ⟨kc, kf, hlt⟩ := hB1.out.facts
  obtain ⟨kd, kg, hlu⟩ := hPB.out.facts
  have c1 := kc 2
  have d3 := kd 3
  simp only [List.getElem?_toArray, List.getElem?_cons_zero, List.getElem?_cons_succ] at c1 d3
  clear kc kd
  have H := atoi_calls (str t) W (by rw [str_size]; exact hl) (hv.below hbW.out)
  rw [toL_str] at H
  have H := Lib.hid H
  go_enter Tryz.func55, Tryz.ntmps55
  go_wp2_with (fail)
  rw [← hW]
  clear hW
  refine (at1_calls _ _).mono ?_
  rintro e w1 ⟨rfl, rfl⟩
  go_wp2_with (fail)
  refine H.out.mono ?_
  rintro e x2 ⟨ev, rfl, hb⟩
  have hB2 := hB1.out.call hb
  have hb2 := Lib.hid (hbW.out.trans (hb.mono hbW.out.size))
  have hB3 := Lib.hid hB2
  clear kf hlt kg hlu c1 d3 hB1 hb hbW hPB H
  obtain ⟨kc, kf, hlt⟩ := hB2.facts
  clear hB2
  go_wp2_with (fail)
  first
    | (go_end0; exact ⟨rfl, by rw [hc.out]; exact hB3.out.set_ _ _, _, _, hb2.out, rfl⟩)
    | (refine bodyPost_ret (results_none rfl _ _ _) rfl ?_; exact ⟨rfl, by rw [hc.out]; exact hB3.out.set_ _ _, _, _, hb2.out, rfl⟩)
set_option maxHeartbeats 2000000 in
set_option maxRecDepth 100000 in
theorem fill2 (x : CX) (w : World) (g : Nat) (t : List UInt8) (hl : t.length ≤ 1000000) (hv : EVars w) (hB : Blk w g 23 x.cells) :
    Calls Tryz.prog 55 #[.agg #[.int .i64 2, .int .i64 0, .func (.func 84) #[] #[], .func (.func 85) #[] #[]], .pointer (some ⟨g, 0, none⟩), .string (str t)] w fun e w' => e = .returned (.tuple #[]) ∧ Blk w' g 23 (x.fill 2 t).cells ∧ ∃ w1 u, Below w.heap.size w w1 ∧ w' = w1.setCell ⟨g, 3, none⟩ u := by
  have hc : Hid ((x.fill 2 t).cells = x.cells.setIfInBounds 3 (.string (str (uqT t)))) := rfl
  have T1 := ta_si
  have T2 := ta_ss
  obtain ⟨W, hW⟩ : ∃ W, W = w.alloc (.cells #[.int .i64 2, .int .i64 0, .func (.func 84) #[] #[], .func (.func 85) #[] #[]] 75) := ⟨_, rfl⟩
  have hbW : Hid (Below w.heap.size w W) := by subst hW; exact (Below.refl _ _).alloc (Nat.le_refl _) _
  have hPB : Hid (Blk W w.heap.size 75 #[.int .i64 2, .int .i64 0, .func (.func 84) #[] #[], .func (.func 85) #[] #[]]) := by subst hW; exact Blk.new _ _ _
  have hB1 := Lib.hid (hB.call hbW.out)
  have hgl := hB.lt
  clear hB
  obtain ⟨kc, kf, hlt⟩ := hB1.out.facts
  obtain ⟨kd, kg, hlu⟩ := hPB.out.facts
  have c1 := kc 3
  have d3 := kd 3
  simp only [List.getElem?_toArray, List.getElem?_cons_zero, List.getElem?_cons_succ] at c1 d3
  clear kc kd
  have H := unquote_calls (str t) W (by rw [str_size]; exact hl) (hv.below hbW.out).a.q.tab
  rw [toL_str] at H
  have H := Lib.hid H
  go_enter Tryz.func55, Tryz.ntmps55
  go_wp2_with (fail)
  rw [← hW]
  clear hW
  refine (at2_calls _ _).mono ?_
  rintro e w1 ⟨rfl, rfl⟩
  go_wp2_with (fail)
  refine H.out.mono ?_
  rintro e x2 ⟨rfl, hb⟩
  have hB2 := hB1.out.call hb
  have hb2 := Lib.hid (hbW.out.trans (hb.mono hbW.out.size))
  have hB3 := Lib.hid hB2
  clear kf hlt kg hlu c1 d3 hB1 hb hbW hPB H
  obtain ⟨kc, kf, hlt⟩ := hB2.facts
  clear hB2
  go_wp2_with (fail)
  first
    | (go_end0; exact ⟨rfl, by rw [hc.out]; exact hB3.out.set_ _ _, _, _, hb2.out, rfl⟩)
    | (refine bodyPost_ret (results_none rfl _ _ _) rfl ?_; exact ⟨rfl, by rw [hc.out]; exact hB3.out.set_ _ _, _, _, hb2.out, rfl⟩)
set_option maxHeartbeats 2000000 in
set_option maxRecDepth 100000 in
theorem fill3 (x : CX) (w : World) (g : Nat) (t : List UInt8) (hl : t.length ≤ 1000000) (hv : EVars w) (hB : Blk w g 23 x.cells) :
    Calls Tryz.prog 55 #[.agg #[.int .i64 4, .int .i64 0, .func (.func 86) #[] #[], .func (.func 87) #[] #[]], .pointer (some ⟨g, 0, none⟩), .string (str t)] w fun e w' => e = .returned (.tuple #[]) ∧ Blk w' g 23 (x.fill 3 t).cells ∧ ∃ w1 u, Below w.heap.size w w1 ∧ w' = w1.setCell ⟨g, 5, none⟩ u := by
  have hc : Hid ((x.fill 3 t).cells = x.cells.setIfInBounds 5 (.string (str (uqT t)))) := rfl
  have T1 := ta_si
  have T2 := ta_ss
  obtain ⟨W, hW⟩ : ∃ W, W = w.alloc (.cells #[.int .i64 4, .int .i64 0, .func (.func 86) #[] #[], .func (.func 87) #[] #[]] 75) := ⟨_, rfl⟩
  have hbW : Hid (Below w.heap.size w W) := by subst hW; exact (Below.refl _ _).alloc (Nat.le_refl _) _
  have hPB : Hid (Blk W w.heap.size 75 #[.int .i64 4, .int .i64 0, .func (.func 86) #[] #[], .func (.func 87) #[] #[]]) := by subst hW; exact Blk.new _ _ _
  have hB1 := Lib.hid (hB.call hbW.out)
  have hgl := hB.lt
  clear hB
  obtain ⟨kc, kf, hlt⟩ := hB1.out.facts
  obtain ⟨kd, kg, hlu⟩ := hPB.out.facts
  have c1 := kc 5
  have d3 := kd 3
  simp only [List.getElem?_toArray, List.getElem?_cons_zero, List.getElem?_cons_succ] at c1 d3
  clear kc kd
  have H := unquote_calls (str t) W (by rw [str_size]; exact hl) (hv.below hbW.out).a.q.tab
  rw [toL_str] at H
  have H := Lib.hid H
  go_enter Tryz.func55, Tryz.ntmps55
  go_wp2_with (fail)
  rw [← hW]
  clear hW
  refine (at3_calls _ _).mono ?_
  rintro e w1 ⟨rfl, rfl⟩
  go_wp2_with (fail)
  refine H.out.mono ?_
  rintro e x2 ⟨rfl, hb⟩
  have hB2 := hB1.out.call hb
  have hb2 := Lib.hid (hbW.out.trans (hb.mono hbW.out.size))
  have hB3 := Lib.hid hB2
  clear kf hlt kg hlu c1 d3 hB1 hb hbW hPB H
  obtain ⟨kc, kf, hlt⟩ := hB2.facts
  clear hB2
  go_wp2_with (fail)
  first
    | (go_end0; exact ⟨rfl, by rw [hc.out]; exact hB3.out.set_ _ _, _, _, hb2.out, rfl⟩)
    | (refine bodyPost_ret (results_none rfl _ _ _) rfl ?_; exact ⟨rfl, by rw [hc.out]; exact hB3.out.set_ _ _, _, _, hb2.out, rfl⟩)
set_option maxHeartbeats 2000000 in
set_option maxRecDepth 100000 in
theorem fill4 (x : CX) (w : World) (g : Nat) (t : List UInt8) (hl : t.length ≤ 1000000) (hv : EVars w) (hB : Blk w g 23 x.cells) :
    Calls Tryz.prog 55 #[.agg #[.int .i64 8, .int .i64 0, .func (.func 86) #[] #[], .func (.func 88) #[] #[]], .pointer (some ⟨g, 0, none⟩), .string (str t)] w fun e w' => e = .returned (.tuple #[]) ∧ Blk w' g 23 (x.fill 4 t).cells ∧ ∃ w1 u, Below w.heap.size w w1 ∧ w' = w1.setCell ⟨g, 4, none⟩ u := by
  have hc : Hid ((x.fill 4 t).cells = x.cells.setIfInBounds 4 (.string (str (uqT t)))) := rfl
  have T1 := ta_si
  have T2 := ta_ss
  obtain ⟨W, hW⟩ : ∃ W, W = w.alloc (.cells #[.int .i64 8, .int .i64 0, .func (.func 86) #[] #[], .func (.func 88) #[] #[]] 75) := ⟨_, rfl⟩
  have hbW : Hid (Below w.heap.size w W) := by subst hW; exact (Below.refl _ _).alloc (Nat.le_refl _) _
  have hPB : Hid (Blk W w.heap.size 75 #[.int .i64 8, .int .i64 0, .func (.func 86) #[] #[], .func (.func 88) #[] #[]]) := by subst hW; exact Blk.new _ _ _
  have hB1 := Lib.hid (hB.call hbW.out)
  have hgl := hB.lt
  clear hB
  obtain ⟨kc, kf, hlt⟩ := hB1.out.facts
  obtain ⟨kd, kg, hlu⟩ := hPB.out.facts
  have c1 := kc 4
  have d3 := kd 3
  simp only [List.getElem?_toArray, List.getElem?_cons_zero, List.getElem?_cons_succ] at c1 d3
  clear kc kd
  have H := unquote_calls (str t) W (by rw [str_size]; exact hl) (hv.below hbW.out).a.q.tab
  rw [toL_str] at H
  have H := Lib.hid H
  go_enter Tryz.func55, Tryz.ntmps55
  go_wp2_with (fail)
  rw [← hW]
  clear hW
  refine (at4_calls _ _).mono ?_
  rintro e w1 ⟨rfl, rfl⟩
  go_wp2_with (fail)
  refine H.out.mono ?_
  rintro e x2 ⟨rfl, hb⟩
  have hB2 := hB1.out.call hb
  have hb2 := Lib.hid (hbW.out.trans (hb.mono hbW.out.size))
  have hB3 := Lib.hid hB2
  clear kf hlt kg hlu c1 d3 hB1 hb hbW hPB H
  obtain ⟨kc, kf, hlt⟩ := hB2.facts
  clear hB2
  go_wp2_with (fail)
  first
    | (go_end0; exact ⟨rfl, by rw [hc.out]; exact hB3.out.set_ _ _, _, _, hb2.out, rfl⟩)
    | (refine bodyPost_ret (results_none rfl _ _ _) rfl ?_; exact ⟨rfl, by rw [hc.out]; exact hB3.out.set_ _ _, _, _, hb2.out, rfl⟩)
set_option maxHeartbeats 2000000 in
set_option maxRecDepth 100000 in
theorem fill5 (x : CX) (w : World) (g : Nat) (t : List UInt8) (hl : t.length ≤ 1000000) (hv : EVars w) (hB : Blk w g 23 x.cells) :
    Calls Tryz.prog 55 #[.agg #[.int .i64 16, .int .i64 9, .nilFunc, .func (.func 89) #[] #[]], .pointer (some ⟨g, 0, none⟩), .string (str t)] w fun e w' => e = .returned (.tuple #[]) ∧ Blk w' g 23 (x.fill 5 t).cells ∧ ∃ w1 u, Below w.heap.size w w1 ∧ w' = w1.setCell ⟨g, 6, none⟩ u := by
  have hc : Hid ((x.fill 5 t).cells = x.cells.setIfInBounds 6 (.int .i64 (atoiZ t))) := rfl
  have T1 := ta_ii
  obtain ⟨W, hW⟩ : ∃ W, W = w.alloc (.cells #[.int .i64 16, .int .i64 9, .nilFunc, .func (.func 89) #[] #[]] 75) := ⟨_, rfl⟩
  have hbW : Hid (Below w.heap.size w W) := by subst hW; exact (Below.refl _ _).alloc (Nat.le_refl _) _
  have hPB : Hid (Blk W w.heap.size 75 #[.int .i64 16, .int .i64 9, .nilFunc, .func (.func 89) #[] #[]]) := by subst hW; exact Blk.new _ _ _
  have hB1 := Lib.hid (hB.call hbW.out)
  have hgl := hB.lt
  clear hB
  obtain ⟨kc, kf, hlt⟩ := hB1.out.facts
  obtain ⟨kd, kg, hlu⟩ := hPB.out.facts
  have c1 := kc 6
  have d3 := kd 3
  simp only [List.getElem?_toArray, List.getElem?_cons_zero, List.getElem?_cons_succ] at c1 d3
  clear kc kd
  have H := atoi_calls (str t) W (by rw [str_size]; exact hl) (hv.below hbW.out)
  rw [toL_str] at H
  have H := Lib.hid H
  go_enter Tryz.func55, Tryz.ntmps55
  go_wp2_with (fail)
  rw [← hW]
  clear hW
  refine (at5_calls _ _).mono ?_
  rintro e w1 ⟨rfl, rfl⟩
  go_wp2_with (fail)
  refine H.out.mono ?_
  rintro e x2 ⟨ev, rfl, hb⟩
  have hB2 := hB1.out.call hb
  have hb2 := Lib.hid (hbW.out.trans (hb.mono hbW.out.size))
  have hB3 := Lib.hid hB2
  clear kf hlt kg hlu c1 d3 hB1 hb hbW hPB H
  obtain ⟨kc, kf, hlt⟩ := hB2.facts
  clear hB2
  go_wp2_with (fail)
  first
    | (go_end0; exact ⟨rfl, by rw [hc.out]; exact hB3.out.set_ _ _, _, _, hb2.out, rfl⟩)
    | (refine bodyPost_ret (results_none rfl _ _ _) rfl ?_; exact ⟨rfl, by rw [hc.out]; exact hB3.out.set_ _ _, _, _, hb2.out, rfl⟩)
theorem fill_calls (i : Nat) (hi : i < 6) (x : CX) (w : World) (g : Nat) (t : List UInt8) (hl : t.length ≤ 1000000) (hv : EVars w) (hB : Blk w g 23 x.cells) :
    Calls Tryz.prog 55 #[partA i, .pointer (some ⟨g, 0, none⟩), .string (str t)] w fun e w' => e = .returned (.tuple #[]) ∧ Blk w' g 23 (x.fill i t).cells ∧ ∃ w1 u o, Below w.heap.size w w1 ∧ w' = w1.setCell ⟨g, o, none⟩ u := by
  match i, hi with
  | 0, _ => exact (fill0 x w g t hl hv hB).mono fun e w' ⟨h1, h2, w1, u, h4, h5⟩ => ⟨h1, h2, w1, u, _, h4, h5⟩
  | 1, _ => exact (fill1 x w g t hl hv hB).mono fun e w' ⟨h1, h2, w1, u, h4, h5⟩ => ⟨h1, h2, w1, u, _, h4, h5⟩
  | 2, _ => exact (fill2 x w g t hl hv hB).mono fun e w' ⟨h1, h2, w1, u, h4, h5⟩ => ⟨h1, h2, w1, u, _, h4, h5⟩
  | 3, _ => exact (fill3 x w g t hl hv hB).mono fun e w' ⟨h1, h2, w1, u, h4, h5⟩ => ⟨h1, h2, w1, u, _, h4, h5⟩
  | 4, _ => exact (fill4 x w g t hl hv hB).mono fun e w' ⟨h1, h2, w1, u, h4, h5⟩ => ⟨h1, h2, w1, u, _, h4, h5⟩
  | 5, _ => exact (fill5 x w g t hl hv hB).mono fun e w' ⟨h1, h2, w1, u, h4, h5⟩ => ⟨h1, h2, w1, u, _, h4, h5⟩
end Go.Proofs.YtdgbpmbknlhgmaaGreatDoor
