/-
The walks through cmd.part.read, cmd.Get. (Printed by gen_cmdl.py.)
-/
import Derived.Test.YtdgbpmbknlhgmaaGreatDoorCmdJ
import Derived.Test.YtdgbpmbknlhgmaaGreatDoorSt
import Derived.Deep.RegionHeld3
set_option linter.unusedVariables false
set_option linter.unusedSimpArgs false
namespace Go.Proofs.YtdgbpmbknlhgmaaGreatDoor
open Go.RowKit Qt Vm

/-- a command with a field that was read. -/
def CX.put (x : CX) (i n : Nat) (t : List UInt8) : CX :=
  match i with
  | 0 => { x with client := (n : Int) }
  | 1 => { x with seq := (n : Int) }
  | 2 => { x with key := t }
  | 3 => { x with old := t }
  | 4 => { x with val := t }
  | _ => { x with node := (n : Int) }
def isNumP : Nat → Bool
  | 0 => true
  | 1 => true
  | 2 => false
  | 3 => false
  | 4 => false
  | _ => true
/-- a field is read. -/
def rdX (l : List UInt8) (i : Nat) (s : CX × Option Nat) : CX × Option Nat :=
  if isNumP i = true then (s.1.put i (valN (numX l s.2)) [], stOf (numX l s.2)) else (s.1.put i 0 (valT (txtX l s.2)), stOf (txtX l s.2))

set_option maxHeartbeats 2000000 in
set_option maxRecDepth 100000 in
theorem read0 (x : CX) (w : World) (g gr : Nat) (l : List UInt8) (st : Option Nat) (hl : l.length ≤ 1000000) (hB : Blk w g 23 x.cells) (hr : RdSt w gr l st) (hg : gr < g) :
    Calls Tryz.prog 49 #[.agg #[.int .i64 1, .int .i64 8, .nilFunc, .func (.func 82) #[] #[]], .pointer (some ⟨gr, 0, none⟩), .pointer (some ⟨g, 0, none⟩)] w fun e w' => e = .returned (.tuple #[]) ∧ Blk w' g 23 (rdX l 0 (x, st)).1.cells ∧ RdSt w' gr l (rdX l 0 (x, st)).2 ∧ ∃ w1 u, w.grownBy w1 (some gr) ∧ w' = w1.setCell ⟨g, 1, none⟩ u := by
  obtain ⟨n, hn⟩ : ∃ n, Hid (valN (numX l st) = n) := ⟨_, rfl⟩
  have hc : Hid ((rdX l 0 (x, st)).1.cells = x.cells.setIfInBounds 1 (.int .i64 (n : Int))) := by show _ = _; rw [← hn.out]; rfl
  have hst : Hid ((rdX l 0 (x, st)).2 = stOf (numX l st)) := rfl
  have T1 := ta_ii
  obtain ⟨W, hW⟩ : ∃ W, W = w.alloc (.cells #[.int .i64 1, .int .i64 8, .nilFunc, .func (.func 82) #[] #[]] 75) := ⟨_, rfl⟩
  have hbW : Hid (Below w.heap.size w W) := by subst hW; exact (Below.refl _ _).alloc (Nat.le_refl _) _
  have hPB : Hid (Blk W w.heap.size 75 #[.int .i64 1, .int .i64 8, .nilFunc, .func (.func 82) #[] #[]]) := by subst hW; exact Blk.new _ _ _
  have hB1 := Lib.hid (hB.call hbW.out)
  have hr1 := Lib.hid (hr.below hbW.out)
  have hgl := hB.lt
  have hgr := Lib.hid hr.lt
  clear hB hr
  obtain ⟨kc, kf, hlt⟩ := hB1.out.facts
  obtain ⟨kd, kg, hlu⟩ := hPB.out.facts
  have c1 := kc 1
  have d3 := kd 3
  simp only [List.getElem?_toArray, List.getElem?_cons_zero, List.getElem?_cons_succ] at c1 d3
  clear kc kd
  go_enter Tryz.func49, Tryz.ntmps49
  go_wp2_with (fail)
  rw [← hW]
  clear hW
  refine (at0_calls _ _).mono ?_
  rintro e w1 ⟨rfl, rfl⟩
  go_wp2_with (fail)
  refine (rnumber_st gr l st _ hl hr1.out).mono ?_
  rw [hn.out]
  rintro e x2 ⟨rfl, r1, g1⟩
  have hB2 := hB1.out.only g1 (by omega)
  have hr2 := Lib.hid r1
  have hG := Lib.hid (only_trans (only_of_below hbW.out (some gr)) g1)
  have hB3 := Lib.hid hB2
  clear kf hlt kg hlu c1 d3 hB1 hr1 r1 g1
  obtain ⟨kc, kf, hlt⟩ := hB2.facts
  clear hB2
  go_wp2_with (fail)
  refine bodyPost_ret (results_none rfl _ _ _) rfl ?_
  exact ⟨rfl, by rw [hc.out]; exact hB3.out.set_ _ _, by rw [hst.out]; exact hr2.out.far (by simp; omega) _, _, _, hG.out, rfl⟩
set_option maxHeartbeats 2000000 in
set_option maxRecDepth 100000 in
theorem read1 (x : CX) (w : World) (g gr : Nat) (l : List UInt8) (st : Option Nat) (hl : l.length ≤ 1000000) (hB : Blk w g 23 x.cells) (hr : RdSt w gr l st) (hg : gr < g) :
    Calls Tryz.prog 49 #[.agg #[.int .i64 1, .int .i64 4294967296, .nilFunc, .func (.func 83) #[] #[]], .pointer (some ⟨gr, 0, none⟩), .pointer (some ⟨g, 0, none⟩)] w fun e w' => e = .returned (.tuple #[]) ∧ Blk w' g 23 (rdX l 1 (x, st)).1.cells ∧ RdSt w' gr l (rdX l 1 (x, st)).2 ∧ ∃ w1 u, w.grownBy w1 (some gr) ∧ w' = w1.setCell ⟨g, 2, none⟩ u := by
  obtain ⟨n, hn⟩ : ∃ n, Hid (valN (numX l st) = n) := ⟨_, rfl⟩
  have hc : Hid ((rdX l 1 (x, st)).1.cells = x.cells.setIfInBounds 2 (.int .i64 (n : Int))) := by show _ = _; rw [← hn.out]; rfl
  have hst : Hid ((rdX l 1 (x, st)).2 = stOf (numX l st)) := rfl
  have T1 := ta_ii
  obtain ⟨W, hW⟩ : ∃ W, W = w.alloc (.cells #[.int .i64 1, .int .i64 4294967296, .nilFunc, .func (.func 83) #[] #[]] 75) := ⟨_, rfl⟩
  have hbW : Hid (Below w.heap.size w W) := by subst hW; exact (Below.refl _ _).alloc (Nat.le_refl _) _
  have hPB : Hid (Blk W w.heap.size 75 #[.int .i64 1, .int .i64 4294967296, .nilFunc, .func (.func 83) #[] #[]]) := by subst hW; exact Blk.new _ _ _
  have hB1 := Lib.hid (hB.call hbW.out)
  have hr1 := Lib.hid (hr.below hbW.out)
  have hgl := hB.lt
  have hgr := Lib.hid hr.lt
  clear hB hr
  obtain ⟨kc, kf, hlt⟩ := hB1.out.facts
  obtain ⟨kd, kg, hlu⟩ := hPB.out.facts
  have c1 := kc 2
  have d3 := kd 3
  simp only [List.getElem?_toArray, List.getElem?_cons_zero, List.getElem?_cons_succ] at c1 d3
  clear kc kd
  go_enter Tryz.func49, Tryz.ntmps49
  go_wp2_with (fail)
  rw [← hW]
  clear hW
  refine (at1_calls _ _).mono ?_
  rintro e w1 ⟨rfl, rfl⟩
  go_wp2_with (fail)
  refine (rnumber_st gr l st _ hl hr1.out).mono ?_
  rw [hn.out]
  rintro e x2 ⟨rfl, r1, g1⟩
  have hB2 := hB1.out.only g1 (by omega)
  have hr2 := Lib.hid r1
  have hG := Lib.hid (only_trans (only_of_below hbW.out (some gr)) g1)
  have hB3 := Lib.hid hB2
  clear kf hlt kg hlu c1 d3 hB1 hr1 r1 g1
  obtain ⟨kc, kf, hlt⟩ := hB2.facts
  clear hB2
  go_wp2_with (fail)
  refine bodyPost_ret (results_none rfl _ _ _) rfl ?_
  exact ⟨rfl, by rw [hc.out]; exact hB3.out.set_ _ _, by rw [hst.out]; exact hr2.out.far (by simp; omega) _, _, _, hG.out, rfl⟩
set_option maxHeartbeats 2000000 in
set_option maxRecDepth 100000 in
theorem read2 (x : CX) (w : World) (g gr : Nat) (l : List UInt8) (st : Option Nat) (hl : l.length ≤ 1000000) (hB : Blk w g 23 x.cells) (hr : RdSt w gr l st) (hg : gr < g) :
    Calls Tryz.prog 49 #[.agg #[.int .i64 2, .int .i64 0, .func (.func 84) #[] #[], .func (.func 85) #[] #[]], .pointer (some ⟨gr, 0, none⟩), .pointer (some ⟨g, 0, none⟩)] w fun e w' => e = .returned (.tuple #[]) ∧ Blk w' g 23 (rdX l 2 (x, st)).1.cells ∧ RdSt w' gr l (rdX l 2 (x, st)).2 ∧ ∃ w1 u, w.grownBy w1 (some gr) ∧ w' = w1.setCell ⟨g, 3, none⟩ u := by
  obtain ⟨n, hn⟩ : ∃ n, Hid (valT (txtX l st) = n) := ⟨_, rfl⟩
  have hc : Hid ((rdX l 2 (x, st)).1.cells = x.cells.setIfInBounds 3 (.string (str n))) := by show _ = _; rw [← hn.out]; rfl
  have hst : Hid ((rdX l 2 (x, st)).2 = stOf (txtX l st)) := rfl
  have T1 := ta_si
  have T2 := tb_ss
  obtain ⟨W, hW⟩ : ∃ W, W = w.alloc (.cells #[.int .i64 2, .int .i64 0, .func (.func 84) #[] #[], .func (.func 85) #[] #[]] 75) := ⟨_, rfl⟩
  have hbW : Hid (Below w.heap.size w W) := by subst hW; exact (Below.refl _ _).alloc (Nat.le_refl _) _
  have hPB : Hid (Blk W w.heap.size 75 #[.int .i64 2, .int .i64 0, .func (.func 84) #[] #[], .func (.func 85) #[] #[]]) := by subst hW; exact Blk.new _ _ _
  have hB1 := Lib.hid (hB.call hbW.out)
  have hr1 := Lib.hid (hr.below hbW.out)
  have hgl := hB.lt
  have hgr := Lib.hid hr.lt
  clear hB hr
  obtain ⟨kc, kf, hlt⟩ := hB1.out.facts
  obtain ⟨kd, kg, hlu⟩ := hPB.out.facts
  have c1 := kc 3
  have d3 := kd 3
  simp only [List.getElem?_toArray, List.getElem?_cons_zero, List.getElem?_cons_succ] at c1 d3
  clear kc kd
  go_enter Tryz.func49, Tryz.ntmps49
  go_wp2_with (fail)
  rw [← hW]
  clear hW
  refine (at2_calls _ _).mono ?_
  rintro e w1 ⟨rfl, rfl⟩
  go_wp2_with (fail)
  have hbD : Below W.heap.size W W.drew := Below.drew (Below.refl _ _)
  have fP : ∀ x2 : World, W.drew.grownBy x2 (some gr) → x2.cell? ⟨w.heap.size, 3, none⟩ = some (.func (.func 85) #[] #[]) := fun x2 h => (hPB.out.drew.only h (by have := hgr.out; omega)).cell 3
  have fB : ∀ x2 : World, W.drew.grownBy x2 (some gr) → Blk x2 g 23 x.cells := fun x2 h => hB1.out.drew.only h (by omega)
  have fP := Lib.hid fP
  have fB := Lib.hid fB
  have hn0 := hn.out
  go_region_held3 (fun w' => w'.cell? ⟨w.heap.size, 3, none⟩ = some (.func (.func 85) #[] #[]))
    (first | exact d3 | exact fP.out _ g1 | exact (World.cell?_setCell_other _ ⟨g, _, none⟩ ⟨w.heap.size, 3, none⟩ _ (fun e => by have := congrArg Addr.block e; simp at this; omega)).trans (fP.out _ g1))
    (first
      | (go_at_call 85; refine (at2_calls _ _).mono ?_; rintro e x1 ⟨rfl, rfl⟩)
      | (go_at_call 95; refine (rtext_st gr l st _ hl (hr1.out.below hbD)).mono ?_; rw [hn0]; rintro e x2 ⟨rfl, r1, g1⟩; obtain ⟨kc, kf, hlt⟩ := (fB.out _ g1).facts))
  all_goals
    have hG := Lib.hid (only_trans (only_of_below hbW.out (some gr)) (only_trans (only_of_below hbD (some gr)) g1))
    go_wp2_with (fail)
    go_end0
    exact ⟨rfl, by rw [hc.out]; exact (fB.out _ g1).set_ _ _, by rw [hst.out]; exact r1.far (by simp; omega) _, _, _, hG.out, rfl⟩
set_option maxHeartbeats 2000000 in
set_option maxRecDepth 100000 in
theorem read3 (x : CX) (w : World) (g gr : Nat) (l : List UInt8) (st : Option Nat) (hl : l.length ≤ 1000000) (hB : Blk w g 23 x.cells) (hr : RdSt w gr l st) (hg : gr < g) :
    Calls Tryz.prog 49 #[.agg #[.int .i64 4, .int .i64 0, .func (.func 86) #[] #[], .func (.func 87) #[] #[]], .pointer (some ⟨gr, 0, none⟩), .pointer (some ⟨g, 0, none⟩)] w fun e w' => e = .returned (.tuple #[]) ∧ Blk w' g 23 (rdX l 3 (x, st)).1.cells ∧ RdSt w' gr l (rdX l 3 (x, st)).2 ∧ ∃ w1 u, w.grownBy w1 (some gr) ∧ w' = w1.setCell ⟨g, 5, none⟩ u := by
  obtain ⟨n, hn⟩ : ∃ n, Hid (valT (txtX l st) = n) := ⟨_, rfl⟩
  have hc : Hid ((rdX l 3 (x, st)).1.cells = x.cells.setIfInBounds 5 (.string (str n))) := by show _ = _; rw [← hn.out]; rfl
  have hst : Hid ((rdX l 3 (x, st)).2 = stOf (txtX l st)) := rfl
  have T1 := ta_si
  have T2 := tb_ss
  obtain ⟨W, hW⟩ : ∃ W, W = w.alloc (.cells #[.int .i64 4, .int .i64 0, .func (.func 86) #[] #[], .func (.func 87) #[] #[]] 75) := ⟨_, rfl⟩
  have hbW : Hid (Below w.heap.size w W) := by subst hW; exact (Below.refl _ _).alloc (Nat.le_refl _) _
  have hPB : Hid (Blk W w.heap.size 75 #[.int .i64 4, .int .i64 0, .func (.func 86) #[] #[], .func (.func 87) #[] #[]]) := by subst hW; exact Blk.new _ _ _
  have hB1 := Lib.hid (hB.call hbW.out)
  have hr1 := Lib.hid (hr.below hbW.out)
  have hgl := hB.lt
  have hgr := Lib.hid hr.lt
  clear hB hr
  obtain ⟨kc, kf, hlt⟩ := hB1.out.facts
  obtain ⟨kd, kg, hlu⟩ := hPB.out.facts
  have c1 := kc 5
  have d3 := kd 3
  simp only [List.getElem?_toArray, List.getElem?_cons_zero, List.getElem?_cons_succ] at c1 d3
  clear kc kd
  go_enter Tryz.func49, Tryz.ntmps49
  go_wp2_with (fail)
  rw [← hW]
  clear hW
  refine (at3_calls _ _).mono ?_
  rintro e w1 ⟨rfl, rfl⟩
  go_wp2_with (fail)
  have hbD : Below W.heap.size W W.drew := Below.drew (Below.refl _ _)
  have fP : ∀ x2 : World, W.drew.grownBy x2 (some gr) → x2.cell? ⟨w.heap.size, 3, none⟩ = some (.func (.func 87) #[] #[]) := fun x2 h => (hPB.out.drew.only h (by have := hgr.out; omega)).cell 3
  have fB : ∀ x2 : World, W.drew.grownBy x2 (some gr) → Blk x2 g 23 x.cells := fun x2 h => hB1.out.drew.only h (by omega)
  have fP := Lib.hid fP
  have fB := Lib.hid fB
  have hn0 := hn.out
  go_region_held3 (fun w' => w'.cell? ⟨w.heap.size, 3, none⟩ = some (.func (.func 87) #[] #[]))
    (first | exact d3 | exact fP.out _ g1 | exact (World.cell?_setCell_other _ ⟨g, _, none⟩ ⟨w.heap.size, 3, none⟩ _ (fun e => by have := congrArg Addr.block e; simp at this; omega)).trans (fP.out _ g1))
    (first
      | (go_at_call 87; refine (at3_calls _ _).mono ?_; rintro e x1 ⟨rfl, rfl⟩)
      | (go_at_call 95; refine (rtext_st gr l st _ hl (hr1.out.below hbD)).mono ?_; rw [hn0]; rintro e x2 ⟨rfl, r1, g1⟩; obtain ⟨kc, kf, hlt⟩ := (fB.out _ g1).facts))
  all_goals
    have hG := Lib.hid (only_trans (only_of_below hbW.out (some gr)) (only_trans (only_of_below hbD (some gr)) g1))
    go_wp2_with (fail)
    go_end0
    exact ⟨rfl, by rw [hc.out]; exact (fB.out _ g1).set_ _ _, by rw [hst.out]; exact r1.far (by simp; omega) _, _, _, hG.out, rfl⟩
set_option maxHeartbeats 2000000 in
set_option maxRecDepth 100000 in
theorem read4 (x : CX) (w : World) (g gr : Nat) (l : List UInt8) (st : Option Nat) (hl : l.length ≤ 1000000) (hB : Blk w g 23 x.cells) (hr : RdSt w gr l st) (hg : gr < g) :
    Calls Tryz.prog 49 #[.agg #[.int .i64 8, .int .i64 0, .func (.func 86) #[] #[], .func (.func 88) #[] #[]], .pointer (some ⟨gr, 0, none⟩), .pointer (some ⟨g, 0, none⟩)] w fun e w' => e = .returned (.tuple #[]) ∧ Blk w' g 23 (rdX l 4 (x, st)).1.cells ∧ RdSt w' gr l (rdX l 4 (x, st)).2 ∧ ∃ w1 u, w.grownBy w1 (some gr) ∧ w' = w1.setCell ⟨g, 4, none⟩ u := by
  obtain ⟨n, hn⟩ : ∃ n, Hid (valT (txtX l st) = n) := ⟨_, rfl⟩
  have hc : Hid ((rdX l 4 (x, st)).1.cells = x.cells.setIfInBounds 4 (.string (str n))) := by show _ = _; rw [← hn.out]; rfl
  have hst : Hid ((rdX l 4 (x, st)).2 = stOf (txtX l st)) := rfl
  have T1 := ta_si
  have T2 := tb_ss
  obtain ⟨W, hW⟩ : ∃ W, W = w.alloc (.cells #[.int .i64 8, .int .i64 0, .func (.func 86) #[] #[], .func (.func 88) #[] #[]] 75) := ⟨_, rfl⟩
  have hbW : Hid (Below w.heap.size w W) := by subst hW; exact (Below.refl _ _).alloc (Nat.le_refl _) _
  have hPB : Hid (Blk W w.heap.size 75 #[.int .i64 8, .int .i64 0, .func (.func 86) #[] #[], .func (.func 88) #[] #[]]) := by subst hW; exact Blk.new _ _ _
  have hB1 := Lib.hid (hB.call hbW.out)
  have hr1 := Lib.hid (hr.below hbW.out)
  have hgl := hB.lt
  have hgr := Lib.hid hr.lt
  clear hB hr
  obtain ⟨kc, kf, hlt⟩ := hB1.out.facts
  obtain ⟨kd, kg, hlu⟩ := hPB.out.facts
  have c1 := kc 4
  have d3 := kd 3
  simp only [List.getElem?_toArray, List.getElem?_cons_zero, List.getElem?_cons_succ] at c1 d3
  clear kc kd
  go_enter Tryz.func49, Tryz.ntmps49
  go_wp2_with (fail)
  rw [← hW]
  clear hW
  refine (at4_calls _ _).mono ?_
  rintro e w1 ⟨rfl, rfl⟩
  go_wp2_with (fail)
  have hbD : Below W.heap.size W W.drew := Below.drew (Below.refl _ _)
  have fP : ∀ x2 : World, W.drew.grownBy x2 (some gr) → x2.cell? ⟨w.heap.size, 3, none⟩ = some (.func (.func 88) #[] #[]) := fun x2 h => (hPB.out.drew.only h (by have := hgr.out; omega)).cell 3
  have fB : ∀ x2 : World, W.drew.grownBy x2 (some gr) → Blk x2 g 23 x.cells := fun x2 h => hB1.out.drew.only h (by omega)
  have fP := Lib.hid fP
  have fB := Lib.hid fB
  have hn0 := hn.out
  go_region_held3 (fun w' => w'.cell? ⟨w.heap.size, 3, none⟩ = some (.func (.func 88) #[] #[]))
    (first | exact d3 | exact fP.out _ g1 | exact (World.cell?_setCell_other _ ⟨g, _, none⟩ ⟨w.heap.size, 3, none⟩ _ (fun e => by have := congrArg Addr.block e; simp at this; omega)).trans (fP.out _ g1))
    (first
      | (go_at_call 88; refine (at4_calls _ _).mono ?_; rintro e x1 ⟨rfl, rfl⟩)
      | (go_at_call 95; refine (rtext_st gr l st _ hl (hr1.out.below hbD)).mono ?_; rw [hn0]; rintro e x2 ⟨rfl, r1, g1⟩; obtain ⟨kc, kf, hlt⟩ := (fB.out _ g1).facts))
  all_goals
    have hG := Lib.hid (only_trans (only_of_below hbW.out (some gr)) (only_trans (only_of_below hbD (some gr)) g1))
    go_wp2_with (fail)
    go_end0
    exact ⟨rfl, by rw [hc.out]; exact (fB.out _ g1).set_ _ _, by rw [hst.out]; exact r1.far (by simp; omega) _, _, _, hG.out, rfl⟩
set_option maxHeartbeats 2000000 in
set_option maxRecDepth 100000 in
theorem read5 (x : CX) (w : World) (g gr : Nat) (l : List UInt8) (st : Option Nat) (hl : l.length ≤ 1000000) (hB : Blk w g 23 x.cells) (hr : RdSt w gr l st) (hg : gr < g) :
    Calls Tryz.prog 49 #[.agg #[.int .i64 16, .int .i64 9, .nilFunc, .func (.func 89) #[] #[]], .pointer (some ⟨gr, 0, none⟩), .pointer (some ⟨g, 0, none⟩)] w fun e w' => e = .returned (.tuple #[]) ∧ Blk w' g 23 (rdX l 5 (x, st)).1.cells ∧ RdSt w' gr l (rdX l 5 (x, st)).2 ∧ ∃ w1 u, w.grownBy w1 (some gr) ∧ w' = w1.setCell ⟨g, 6, none⟩ u := by
  obtain ⟨n, hn⟩ : ∃ n, Hid (valN (numX l st) = n) := ⟨_, rfl⟩
  have hc : Hid ((rdX l 5 (x, st)).1.cells = x.cells.setIfInBounds 6 (.int .i64 (n : Int))) := by show _ = _; rw [← hn.out]; rfl
  have hst : Hid ((rdX l 5 (x, st)).2 = stOf (numX l st)) := rfl
  have T1 := ta_ii
  obtain ⟨W, hW⟩ : ∃ W, W = w.alloc (.cells #[.int .i64 16, .int .i64 9, .nilFunc, .func (.func 89) #[] #[]] 75) := ⟨_, rfl⟩
  have hbW : Hid (Below w.heap.size w W) := by subst hW; exact (Below.refl _ _).alloc (Nat.le_refl _) _
  have hPB : Hid (Blk W w.heap.size 75 #[.int .i64 16, .int .i64 9, .nilFunc, .func (.func 89) #[] #[]]) := by subst hW; exact Blk.new _ _ _
  have hB1 := Lib.hid (hB.call hbW.out)
  have hr1 := Lib.hid (hr.below hbW.out)
  have hgl := hB.lt
  have hgr := Lib.hid hr.lt
  clear hB hr
  obtain ⟨kc, kf, hlt⟩ := hB1.out.facts
  obtain ⟨kd, kg, hlu⟩ := hPB.out.facts
  have c1 := kc 6
  have d3 := kd 3
  simp only [List.getElem?_toArray, List.getElem?_cons_zero, List.getElem?_cons_succ] at c1 d3
  clear kc kd
  go_enter Tryz.func49, Tryz.ntmps49
  go_wp2_with (fail)
  rw [← hW]
  clear hW
  refine (at5_calls _ _).mono ?_
  rintro e w1 ⟨rfl, rfl⟩
  go_wp2_with (fail)
  refine (rnumber_st gr l st _ hl hr1.out).mono ?_
  rw [hn.out]
  rintro e x2 ⟨rfl, r1, g1⟩
  have hB2 := hB1.out.only g1 (by omega)
  have hr2 := Lib.hid r1
  have hG := Lib.hid (only_trans (only_of_below hbW.out (some gr)) g1)
  have hB3 := Lib.hid hB2
  clear kf hlt kg hlu c1 d3 hB1 hr1 r1 g1
  obtain ⟨kc, kf, hlt⟩ := hB2.facts
  clear hB2
  go_wp2_with (fail)
  refine bodyPost_ret (results_none rfl _ _ _) rfl ?_
  exact ⟨rfl, by rw [hc.out]; exact hB3.out.set_ _ _, by rw [hst.out]; exact hr2.out.far (by simp; omega) _, _, _, hG.out, rfl⟩
theorem read_calls (i : Nat) (hi : i < 6) (x : CX) (w : World) (g gr : Nat) (l : List UInt8) (st : Option Nat) (hl : l.length ≤ 1000000) (hB : Blk w g 23 x.cells) (hr : RdSt w gr l st) (hg : gr < g) :
    Calls Tryz.prog 49 #[partA i, .pointer (some ⟨gr, 0, none⟩), .pointer (some ⟨g, 0, none⟩)] w fun e w' => e = .returned (.tuple #[]) ∧ Blk w' g 23 (rdX l i (x, st)).1.cells ∧ RdSt w' gr l (rdX l i (x, st)).2 ∧ ∃ w1 u o, w.grownBy w1 (some gr) ∧ w' = w1.setCell ⟨g, o, none⟩ u := by
  match i, hi with
  | 0, _ => exact (read0 x w g gr l st hl hB hr hg).mono fun e w' ⟨h1, h2, h3, w1, u, h4, h5⟩ => ⟨h1, h2, h3, w1, u, _, h4, h5⟩
  | 1, _ => exact (read1 x w g gr l st hl hB hr hg).mono fun e w' ⟨h1, h2, h3, w1, u, h4, h5⟩ => ⟨h1, h2, h3, w1, u, _, h4, h5⟩
  | 2, _ => exact (read2 x w g gr l st hl hB hr hg).mono fun e w' ⟨h1, h2, h3, w1, u, h4, h5⟩ => ⟨h1, h2, h3, w1, u, _, h4, h5⟩
  | 3, _ => exact (read3 x w g gr l st hl hB hr hg).mono fun e w' ⟨h1, h2, h3, w1, u, h4, h5⟩ => ⟨h1, h2, h3, w1, u, _, h4, h5⟩
  | 4, _ => exact (read4 x w g gr l st hl hB hr hg).mono fun e w' ⟨h1, h2, h3, w1, u, h4, h5⟩ => ⟨h1, h2, h3, w1, u, _, h4, h5⟩
  | 5, _ => exact (read5 x w g gr l st hl hB hr hg).mono fun e w' ⟨h1, h2, h3, w1, u, h4, h5⟩ => ⟨h1, h2, h3, w1, u, _, h4, h5⟩

/-- what is read, so far. -/
def getX (v : Int) (l : List UInt8) (st : Option Nat) : Nat → CX × Option Nat
  | 0 => (⟨(valN (numX l st) : Int), 0, 0, [], [], [], 0⟩, stOf (numX l st))
  | k + 1 => if wantB k v (valN (numX l st) : Int) = true then rdX l k (getX v l st k) else getX v l st k
theorem put_kind (x : CX) (i n : Nat) (t : List UInt8) : (x.put i n t).kind = x.kind := by
  match i with
  | 0 | 1 | 2 | 3 | 4 => rfl
  | i + 5 => rfl
theorem getX_kind (v : Int) (l : List UInt8) (st : Option Nat) : ∀ k, (getX v l st k).1.kind = (valN (numX l st) : Int)
  | 0 => rfl
  | k + 1 => by
    rw [getX]
    split
    · unfold rdX
      split
      · rw [put_kind]; exact getX_kind v l st k
      · rw [put_kind]; exact getX_kind v l st k
    · exact getX_kind v l st k
set_option maxHeartbeats 4000000 in
set_option maxRecDepth 100000 in
theorem cmdget_calls (gr : Nat) (v : Int) (l : List UInt8) (st : Option Nat) (w : World) (hl : l.length ≤ 1000000) (hr : RdSt w gr l st) :
    Calls Tryz.prog 18 #[.pointer (some ⟨gr, 0, none⟩), .int .i64 v] w fun e w' => e = .returned (getX v l st 6).1.value ∧ RdSt w' gr l (getX v l st 6).2 ∧ w.grownBy w' (some gr) := by
  have hg := hr.lt
  obtain ⟨W, hW⟩ : ∃ W, W = w.alloc (.cells #[.int .i64 0, .int .i64 0, .int .i64 0, .string ⟨#[]⟩, .string ⟨#[]⟩, .string ⟨#[]⟩, .int .i64 0] 23) := ⟨_, rfl⟩
  have hbW : Hid (Below w.heap.size w W) := by subst hW; exact (Below.refl _ _).alloc (Nat.le_refl _) _
  have hZ : Hid (Blk W w.heap.size 23 #[.int .i64 0, .int .i64 0, .int .i64 0, .string ⟨#[]⟩, .string ⟨#[]⟩, .string ⟨#[]⟩, .int .i64 0]) := by subst hW; exact Blk.new _ _ _
  have hWs : W.heap.size = w.heap.size + 1 := by subst hW; simp
  have HR := Lib.hid (fun i hi x (w1 : World) g s hB hr hg => read_calls i hi x w1 g gr l s hl hB hr hg)
  have H0 := Lib.hid (rnumber_st gr l st W hl (hr.below hbW.out))
  clear hr
  go_enter Tryz.func18, Tryz.ntmps18
  go_wp2_with (fail)
  rw [← hW]
  clear hW
  refine H0.out.mono ?_
  rintro e w1 ⟨rfl, hr1, hg1⟩
  have hZ1 := hZ.out.only hg1 (by omega)
  have hG1 := only_trans (only_of_below hbW.out (some gr)) hg1
  have hs1 := hg1.size
  obtain ⟨kd, hkd⟩ : ∃ kd, Hid ((valN (numX l st) : Int) = kd) := ⟨_, rfl⟩
  obtain ⟨W2, hW2⟩ : ∃ W2, W2 = w1.alloc (.cells #[.int .i64 (valN (numX l st) : Int), .int .i64 0, .int .i64 0, .string ⟨#[]⟩, .string ⟨#[]⟩, .string ⟨#[]⟩, .int .i64 0] 23) := ⟨_, rfl⟩
  obtain ⟨g, hgd⟩ : ∃ g, g = w1.heap.size := ⟨_, rfl⟩
  have hgg : gr < g := by omega
  have hgw : w.heap.size < g := by omega
  have hb2 : Below w1.heap.size w1 W2 := by subst hW2; exact (Below.refl _ _).alloc (Nat.le_refl _) _
  have hB2 : Hid (Blk W2 g 23 (getX v l st 0).1.cells) := by subst hW2 hgd; exact Blk.new _ _ _
  have hZ2 := Lib.hid (hZ1.call hb2)
  have hr2 : Hid (RdSt W2 gr l (getX v l st 0).2) := hr1.below hb2
  have hG2 := Lib.hid (only_trans hG1 (only_of_below hb2 (some gr)))
  clear H0 hZ hg1 hZ1 hG1 hr1 hb2 hs1 hbW hWs
  go_wp2_with (fail)
  rw [← hW2, ← hgd]
  clear hW2 hgd
  refine (parts_blk _).mono ?_
  rintro e w3 ⟨rfl, hP, hb⟩
  have hlt2 := hB2.out.lt
  obtain ⟨pb, hpb⟩ : ∃ pb, pb = W2.heap.size := ⟨_, rfl⟩
  rw [← hpb] at hP ⊢
  have hpg : pb ≠ g := by omega
  have hpr : pb ≠ gr := by omega
  have hP3 := Lib.hid hP
  have hB3 := Lib.hid (hB2.out.call hb)
  have hZ3 := Lib.hid (hZ2.out.call hb)
  have hr3 := Lib.hid (hr2.out.below hb)
  have hG3 : Hid (w.grownBy w3 (some gr)) := only_trans hG2.out (only_of_below hb _)
  clear hP hb hB2 hZ2 hr2 hG2 hpb hlt2
  go_wp2_with (fail)
  go_loopw [13] (fun i wr => ∃ k : Nat, k ≤ 6 ∧ i = .int .i64 (k : Int) ∧ Hid (Blk wr pb 75 partsC) ∧ Hid (Blk wr g 23 (getX v l st k).1.cells) ∧ Hid (Blk wr w.heap.size 23 #[.int .i64 0, .int .i64 0, .int .i64 0, .string ⟨#[]⟩, .string ⟨#[]⟩, .string ⟨#[]⟩, .int .i64 0]) ∧ Hid (RdSt wr gr l (getX v l st k).2) ∧ Hid (w.grownBy wr (some gr))) (fun i _ => 6 - (intOf i).toNat)
  case atStart => exact ⟨0, by omega, rfl, hP3, hB3, hZ3, hr3, hG3⟩
  case round =>
    obtain ⟨k, hk, rfl, hP, hB, hZ, hr, hG⟩ := hrel
    clear hP3 hB3 hZ3 hr3 hG3
    by_cases hk6 : k < 6
    · obtain ⟨p0, p1, p2, p3⟩ := (PartsAt.of hP.out).1 k hk6
      have plt := hP.out.lt
      have hWa := wanted_calls k v (valN (numX l st) : Int)
      have hkk := getX_kind v l st k
      have e1 : Hid (getX v l st (k + 1) = if wantB k v (valN (numX l st) : Int) = true then rdX l k (getX v l st k) else getX v l st k) := rfl
      have hRk := fun x (w1 : World) s => HR.out k hk6 x w1 g s
      rw [hkd.out] at e1 hWa hkk
      generalize getX v l st k = L at *
      generalize wantB k v kd = wt at *
      simp only [partA] at hWa hRk
      obtain ⟨kc, kf, hlt⟩ := hB.out.facts
      have c0 := kc 0
      simp only [List.getElem?_toArray, List.getElem?_cons_zero, List.getElem?_cons_succ] at c0
      rw [hkk] at c0
      have hgr : w.heap.size ≤ wr.heap.size := hG.out.size
      clear kc hkk
      rcases pIs_cases k with hpi | ⟨fn, hpi⟩
      · rw [hpi] at p2 hWa hRk
        have hWa := Lib.hid hWa
        have hRk := Lib.hid hRk
        clear hpi
        go_wp2_with (fail)
        clear p0 p1 p2 p3 plt c0 kf hlt
        obtain ⟨WA, hWA⟩ : ∃ WA, WA = wr.alloc (.cells #[.int .i64 (pHas k), .int .i64 (pMost k), .nilFunc, .func (.func (pFn k)) #[] #[]] 75) := ⟨_, rfl⟩
        rw [← hWA]
        have hbA : Hid (Below wr.heap.size wr WA) := by subst hWA; exact (Below.refl _ _).alloc (Nat.le_refl _) _
        have hAP : Hid (Blk WA wr.heap.size 75 #[.int .i64 (pHas k), .int .i64 (pMost k), .nilFunc, .func (.func (pFn k)) #[] #[]]) := by subst hWA; exact Blk.new _ _ _
        clear hWA
        refine (hWa.out WA).mono ?_
        rintro e wa ⟨rfl, hb9⟩
        have hba : Below wr.heap.size wr wa := hbA.out.trans (hb9.mono hbA.out.size)
        have hAP2 := Lib.hid (hAP.out.call hb9)
        have hPA2 := Lib.hid (hP.out.call hba)
        have hAB2 := Lib.hid (hB.out.call hba)
        have hZA2 := Lib.hid (hZ.out.call hba)
        have hrA2 := Lib.hid (hr.out.below hba)
        have hAG2 := Lib.hid (only_trans hG.out (only_of_below hba (some gr)))
        clear hb9 hbA hba hAP hB hP hZ hr hG hWa
        cases wt
        · have e2 : Hid (getX v l st (k + 1) = L) := e1
          clear e1 hRk
          go_wp2_with (fail)
          go_roundw
          case rel => exact ⟨k + 1, by omega, by go_num, hPA2, by rw [e2.out]; exact hAB2, hZA2, by rw [e2.out]; exact hrA2, hAG2⟩
          case measure => simp [intOf]; omega
        · have e2 : Hid (getX v l st (k + 1) = rdX l k L) := e1
          obtain ⟨kq, kg, hlu⟩ := hAP2.out.facts
          clear e1
          go_wp2_with (fail)
          refine (hRk.out L.1 wa L.2 hAB2.out hrA2.out hgg).mono ?_
          rintro e wb ⟨rfl, hBb, hrb, wm, u, o, hgb, rfl⟩
          have hPA3 : Hid (Blk (wm.setCell ⟨g, o, none⟩ u) pb 75 partsC) := (hPA2.out.only hgb hpr).far (by simpa using hpg) u
          have hZA3 : Hid (Blk (wm.setCell ⟨g, o, none⟩ u) w.heap.size 23 #[.int .i64 0, .int .i64 0, .int .i64 0, .string ⟨#[]⟩, .string ⟨#[]⟩, .string ⟨#[]⟩, .int .i64 0]) := (hZA2.out.only hgb (by omega)).far (by simp; omega) u
          have hAG3 : Hid (w.grownBy (wm.setCell ⟨g, o, none⟩ u) (some gr)) := only_setCell (only_trans hAG2.out hgb) (.inr (by simp; omega)) u
          have hAB3 : Hid (Blk (wm.setCell ⟨g, o, none⟩ u) g 23 (getX v l st (k + 1)).1.cells) := by rw [e2.out]; exact hBb
          have hrA3 : Hid (RdSt (wm.setCell ⟨g, o, none⟩ u) gr l (getX v l st (k + 1)).2) := by rw [e2.out]; exact hrb
          generalize wm.setCell ⟨g, o, none⟩ u = wb at *
          clear hBb hrb hgb hPA2 hAB2 hZA2 hrA2 hAG2 hAP2 kq kg hlu hRk e2
          go_wp2_with (fail)
          go_roundw
          case rel => exact ⟨k + 1, by omega, by go_num, hPA3, hAB3, hZA3, hrA3, hAG3⟩
          case measure => simp [intOf]; omega
      · rw [hpi] at p2 hWa hRk
        have hWa := Lib.hid hWa
        have hRk := Lib.hid hRk
        clear hpi
        go_wp2_with (fail)
        clear p0 p1 p2 p3 plt c0 kf hlt
        obtain ⟨WA, hWA⟩ : ∃ WA, WA = wr.alloc (.cells #[.int .i64 (pHas k), .int .i64 (pMost k), .func (.func fn) #[] #[], .func (.func (pFn k)) #[] #[]] 75) := ⟨_, rfl⟩
        rw [← hWA]
        have hbA : Hid (Below wr.heap.size wr WA) := by subst hWA; exact (Below.refl _ _).alloc (Nat.le_refl _) _
        have hAP : Hid (Blk WA wr.heap.size 75 #[.int .i64 (pHas k), .int .i64 (pMost k), .func (.func fn) #[] #[], .func (.func (pFn k)) #[] #[]]) := by subst hWA; exact Blk.new _ _ _
        clear hWA
        refine (hWa.out WA).mono ?_
        rintro e wa ⟨rfl, hb9⟩
        have hba : Below wr.heap.size wr wa := hbA.out.trans (hb9.mono hbA.out.size)
        have hAP2 := Lib.hid (hAP.out.call hb9)
        have hPA2 := Lib.hid (hP.out.call hba)
        have hAB2 := Lib.hid (hB.out.call hba)
        have hZA2 := Lib.hid (hZ.out.call hba)
        have hrA2 := Lib.hid (hr.out.below hba)
        have hAG2 := Lib.hid (only_trans hG.out (only_of_below hba (some gr)))
        clear hb9 hbA hba hAP hB hP hZ hr hG hWa
        cases wt
        · have e2 : Hid (getX v l st (k + 1) = L) := e1
          clear e1 hRk
          go_wp2_with (fail)
          go_roundw
          case rel => exact ⟨k + 1, by omega, by go_num, hPA2, by rw [e2.out]; exact hAB2, hZA2, by rw [e2.out]; exact hrA2, hAG2⟩
          case measure => simp [intOf]; omega
        · have e2 : Hid (getX v l st (k + 1) = rdX l k L) := e1
          obtain ⟨kq, kg, hlu⟩ := hAP2.out.facts
          clear e1
          go_wp2_with (fail)
          refine (hRk.out L.1 wa L.2 hAB2.out hrA2.out hgg).mono ?_
          rintro e wb ⟨rfl, hBb, hrb, wm, u, o, hgb, rfl⟩
          have hPA3 : Hid (Blk (wm.setCell ⟨g, o, none⟩ u) pb 75 partsC) := (hPA2.out.only hgb hpr).far (by simpa using hpg) u
          have hZA3 : Hid (Blk (wm.setCell ⟨g, o, none⟩ u) w.heap.size 23 #[.int .i64 0, .int .i64 0, .int .i64 0, .string ⟨#[]⟩, .string ⟨#[]⟩, .string ⟨#[]⟩, .int .i64 0]) := (hZA2.out.only hgb (by omega)).far (by simp; omega) u
          have hAG3 : Hid (w.grownBy (wm.setCell ⟨g, o, none⟩ u) (some gr)) := only_setCell (only_trans hAG2.out hgb) (.inr (by simp; omega)) u
          have hAB3 : Hid (Blk (wm.setCell ⟨g, o, none⟩ u) g 23 (getX v l st (k + 1)).1.cells) := by rw [e2.out]; exact hBb
          have hrA3 : Hid (RdSt (wm.setCell ⟨g, o, none⟩ u) gr l (getX v l st (k + 1)).2) := by rw [e2.out]; exact hrb
          generalize wm.setCell ⟨g, o, none⟩ u = wb at *
          clear hBb hrb hgb hPA2 hAB2 hZA2 hrA2 hAG2 hAP2 kq kg hlu hRk e2
          go_wp2_with (fail)
          go_roundw
          case rel => exact ⟨k + 1, by omega, by go_num, hPA3, hAB3, hZA3, hrA3, hAG3⟩
          case measure => simp [intOf]; omega
    · have hk6' : k = 6 := by omega
      subst hk6'
      clear hP HR
      obtain ⟨L, hL⟩ : ∃ L, Hid (getX v l st 6 = L) := ⟨_, rfl⟩
      rw [hL.out] at hB hr
      obtain ⟨⟨f0, f1, f2, f3, f4, f5, f6⟩, s⟩ := L
      obtain ⟨kc, kf, hlt⟩ := hB.out.facts
      obtain ⟨k4, f4', l4⟩ := hZ.out.facts
      go_wp2_with (fail)
      refine bodyPost_ret (v := .agg #[.int .i64 f0, .int .i64 f1, .int .i64 f2, .string (str f3), .string (str f4), .string (str f5), .int .i64 f6]) (by simp [results, Tryz.results18, go_sem, k4, l4]) rfl ⟨by rw [hL.out], ?_, ?_⟩
      · rw [hL.out]
        exact (((((((hr.out).far (p := ⟨w.heap.size, 0, none⟩) hg _).far (p := ⟨w.heap.size, 1, none⟩) hg _).far (p := ⟨w.heap.size, 2, none⟩) hg _).far (p := ⟨w.heap.size, 3, none⟩) hg _).far (p := ⟨w.heap.size, 4, none⟩) hg _).far (p := ⟨w.heap.size, 5, none⟩) hg _).far (p := ⟨w.heap.size, 6, none⟩) hg _
      · exact only_setCell (only_setCell (only_setCell (only_setCell (only_setCell (only_setCell (only_setCell hG.out (.inr (Nat.le_refl _)) _) (.inr (Nat.le_refl _)) _) (.inr (Nat.le_refl _)) _) (.inr (Nat.le_refl _)) _) (.inr (Nat.le_refl _)) _) (.inr (Nat.le_refl _)) _) (.inr (Nat.le_refl _)) _
end Go.Proofs.YtdgbpmbknlhgmaaGreatDoor
