/-
The walks through package cmd: the parts of a command. (Printed by gen_cmd.py.)
-/
import Derived.Test.YtdgbpmbknlhgmaaGreatDoorKeys
set_option linter.unusedVariables false
set_option linter.unusedSimpArgs false
namespace Go.Proofs.YtdgbpmbknlhgmaaGreatDoor
open Go.RowKit Qt

/-- a command's fields. -/
structure CX where
  kind : Int
  client : Int
  seq : Int
  key : List UInt8
  val : List UInt8
  old : List UInt8
  node : Int
abbrev CX.cells (x : CX) : Array Value := #[.int .i64 x.kind, .int .i64 x.client, .int .i64 x.seq, .string (str x.key), .string (str x.val), .string (str x.old), .int .i64 x.node]
abbrev CX.value (x : CX) : Value := .agg x.cells
/-- the parts, in their order. -/
def partV : Nat → Value
  | 0 => .agg #[.int .i64 1, .int .i64 8, .nilFunc, .func (.func 82) #[] #[]]
  | 1 => .agg #[.int .i64 1, .int .i64 4294967296, .nilFunc, .func (.func 83) #[] #[]]
  | 2 => .agg #[.int .i64 2, .int .i64 0, .func (.func 84) #[] #[], .func (.func 85) #[] #[]]
  | 3 => .agg #[.int .i64 4, .int .i64 0, .func (.func 86) #[] #[], .func (.func 87) #[] #[]]
  | 4 => .agg #[.int .i64 8, .int .i64 0, .func (.func 86) #[] #[], .func (.func 88) #[] #[]]
  | _ => .agg #[.int .i64 16, .int .i64 9, .nilFunc, .func (.func 89) #[] #[]]
/-- is a field that is a number right? -/
def numOk (has most n f : Int) : Bool := if (bits .and .i64 f has == 0) = true then true else decide (1 ≤ n) && decide (n ≤ most)
def numF (has n f : Int) : Bool := if (bits .and .i64 f has == 0) = true then n == 0 else true
/-- is a field that is a text right? -/
def txtOk (has : Int) (is : List UInt8 → Bool) (l : List UInt8) (f : Int) : Bool := if (bits .and .i64 f has == 0) = true then true else is l
def txtF (has : Int) (l : List UInt8) (f : Int) : Bool := if (bits .and .i64 f has == 0) = true then l.isEmpty else true

theorem ta_ii (W : World) (v : Value) : (Instr.typeAssert (.iface 89 v) 20 89 true).run Tryz.prog W = .ok (.tuple #[v, .bool true]) W := by kernel_rfl
theorem ta_ss (W : World) (v : Value) : (Instr.typeAssert (.iface 90 v) 20 90 true).run Tryz.prog W = .ok (.tuple #[v, .bool true]) W := by kernel_rfl
theorem ta_is (W : World) (v : Value) : (Instr.typeAssert (.iface 89 v) 20 90 true).run Tryz.prog W = .ok (.tuple #[.pointer none, .bool false]) W := by kernel_rfl
theorem ta_si (W : World) (v : Value) : (Instr.typeAssert (.iface 90 v) 20 89 true).run Tryz.prog W = .ok (.tuple #[.pointer none, .bool false]) W := by kernel_rfl
theorem ret_bb {a b c d : Bool} (h : a = b) (h2 : c = d) : Ending.returned (Value.tuple #[.bool a, .bool c]) = Ending.returned (Value.tuple #[.bool b, .bool d]) := by rw [h, h2]
theorem str_nil_iff (l : List UInt8) : (str l).toList = [] ↔ l = [] := by rw [str_toList]

theorem at0_calls (g : Nat) (w : World) : Calls Tryz.prog 82 #[.pointer (some ⟨g, 0, none⟩)] w fun e w' => e = .returned (.iface 89 (.pointer (some ⟨g, 1, none⟩))) ∧ w = w' := by
  go_enter Tryz.func82, Tryz.ntmps82
  go_wp2
  go_ret
  exact ⟨rfl, rfl⟩
theorem at1_calls (g : Nat) (w : World) : Calls Tryz.prog 83 #[.pointer (some ⟨g, 0, none⟩)] w fun e w' => e = .returned (.iface 89 (.pointer (some ⟨g, 2, none⟩))) ∧ w = w' := by
  go_enter Tryz.func83, Tryz.ntmps83
  go_wp2
  go_ret
  exact ⟨rfl, rfl⟩
theorem at2_calls (g : Nat) (w : World) : Calls Tryz.prog 85 #[.pointer (some ⟨g, 0, none⟩)] w fun e w' => e = .returned (.iface 90 (.pointer (some ⟨g, 3, none⟩))) ∧ w = w' := by
  go_enter Tryz.func85, Tryz.ntmps85
  go_wp2
  go_ret
  exact ⟨rfl, rfl⟩
theorem at3_calls (g : Nat) (w : World) : Calls Tryz.prog 87 #[.pointer (some ⟨g, 0, none⟩)] w fun e w' => e = .returned (.iface 90 (.pointer (some ⟨g, 5, none⟩))) ∧ w = w' := by
  go_enter Tryz.func87, Tryz.ntmps87
  go_wp2
  go_ret
  exact ⟨rfl, rfl⟩
theorem at4_calls (g : Nat) (w : World) : Calls Tryz.prog 88 #[.pointer (some ⟨g, 0, none⟩)] w fun e w' => e = .returned (.iface 90 (.pointer (some ⟨g, 4, none⟩))) ∧ w = w' := by
  go_enter Tryz.func88, Tryz.ntmps88
  go_wp2
  go_ret
  exact ⟨rfl, rfl⟩
theorem at5_calls (g : Nat) (w : World) : Calls Tryz.prog 89 #[.pointer (some ⟨g, 0, none⟩)] w fun e w' => e = .returned (.iface 89 (.pointer (some ⟨g, 6, none⟩))) ∧ w = w' := by
  go_enter Tryz.func89, Tryz.ntmps89
  go_wp2
  go_ret
  exact ⟨rfl, rfl⟩
set_option maxHeartbeats 1000000 in
set_option maxRecDepth 100000 in
theorem number0 (x : CX) (w : World) (g : Nat) (f : Int) (hB : Blk w g 23 x.cells) :
    Calls Tryz.prog 99 #[.agg #[.int .i64 1, .int .i64 8, .nilFunc, .func (.func 82) #[] #[]], .pointer (some ⟨g, 0, none⟩), .int .i64 f] w fun e w' => e = .returned (.tuple #[.bool (numOk 1 8 x.client f), .bool (numF 1 x.client f)]) ∧ Below w.heap.size w w' := by
  have T1 := ta_ii
  have hp : Hid (numOk 1 8 x.client f = if (bits .and .i64 f 1 == 0) = true then true else decide (1 ≤ x.client) && decide (x.client ≤ 8)) := rfl
  have hp2 : Hid (numF 1 x.client f = if (bits .and .i64 f 1 == 0) = true then x.client == 0 else true) := rfl
  obtain ⟨z, hz⟩ : ∃ z, (bits .and .i64 f 1 == 0) = z := ⟨_, rfl⟩
  rw [hz] at hp hp2
  obtain ⟨W, hW⟩ : ∃ W, W = w.alloc (.cells #[.int .i64 1, .int .i64 8, .nilFunc, .func (.func 82) #[] #[]] 75) := ⟨_, rfl⟩
  have hbW : Hid (Below w.heap.size w W) := by subst hW; exact (Below.refl _ _).alloc (Nat.le_refl _) _
  have hPB : Hid (Blk W w.heap.size 75 #[.int .i64 1, .int .i64 8, .nilFunc, .func (.func 82) #[] #[]]) := by subst hW; exact Blk.new _ _ _
  have hB1 := Lib.hid (hB.call hbW.out)
  clear hB
  obtain ⟨kc, kf, hlt⟩ := hB1.out.facts
  obtain ⟨kd, kg, hlu⟩ := hPB.out.facts
  have c1 := kc 1
  have d0 := kd 0
  have d1 := kd 1
  have d3 := kd 3
  simp only [List.getElem?_toArray, List.getElem?_cons_zero, List.getElem?_cons_succ] at c1 d0 d1 d3
  clear kc kd
  cases z
  · by_cases h1 : 1 ≤ x.client
    · have hq : Hid (numOk 1 8 x.client f = decide (x.client ≤ 8)) := by show _ = _; rw [hp.out, decide_eq_true h1]; rfl
      have hq2 : Hid (numF 1 x.client f = true) := hp2
      clear hp hp2
      go_enter Tryz.func99, Tryz.ntmps99
      go_wp2_with (fail)
      rw [← hW]
      clear hW
      refine (at0_calls _ _).mono ?_
      rintro e w1 ⟨rfl, rfl⟩
      go_wp2_with (fail)
      go_quiet (fail)
      go_wp2_with (fail)
      go_ret2
      exact ⟨ret_bb hq.out.symm hq2.out.symm, below_drewN hbW.out _⟩
    · have hq : Hid (numOk 1 8 x.client f = false) := by show _ = _; rw [hp.out, decide_eq_false h1]; rfl
      have e1 := decide_eq_false h1
      have hq2 : Hid (numF 1 x.client f = true) := hp2
      clear hp hp2
      go_enter Tryz.func99, Tryz.ntmps99
      go_wp2_with (fail)
      rw [← hW]
      clear hW
      refine (at0_calls _ _).mono ?_
      rintro e w1 ⟨rfl, rfl⟩
      go_wp2_with (fail)
      go_quiet (fail)
      go_wp2_with (fail)
      go_ret2
      exact ⟨ret_bb hq.out.symm hq2.out.symm, below_drewN hbW.out _⟩
  · have hq : Hid (numOk 1 8 x.client f = true) := hp
    have hq2 : Hid (numF 1 x.client f = (x.client == 0)) := hp2
    clear hp hp2
    go_enter Tryz.func99, Tryz.ntmps99
    go_wp2_with (fail)
    rw [← hW]
    clear hW
    refine (at0_calls _ _).mono ?_
    rintro e w1 ⟨rfl, rfl⟩
    go_wp2_with (fail)
    go_quiet (fail)
    go_wp2_with (fail)
    go_ret2
    exact ⟨ret_bb hq.out.symm hq2.out.symm, below_drewN hbW.out _⟩
set_option maxHeartbeats 1000000 in
set_option maxRecDepth 100000 in
theorem number1 (x : CX) (w : World) (g : Nat) (f : Int) (hB : Blk w g 23 x.cells) :
    Calls Tryz.prog 99 #[.agg #[.int .i64 1, .int .i64 4294967296, .nilFunc, .func (.func 83) #[] #[]], .pointer (some ⟨g, 0, none⟩), .int .i64 f] w fun e w' => e = .returned (.tuple #[.bool (numOk 1 4294967296 x.seq f), .bool (numF 1 x.seq f)]) ∧ Below w.heap.size w w' := by
  have T1 := ta_ii
  have hp : Hid (numOk 1 4294967296 x.seq f = if (bits .and .i64 f 1 == 0) = true then true else decide (1 ≤ x.seq) && decide (x.seq ≤ 4294967296)) := rfl
  have hp2 : Hid (numF 1 x.seq f = if (bits .and .i64 f 1 == 0) = true then x.seq == 0 else true) := rfl
  obtain ⟨z, hz⟩ : ∃ z, (bits .and .i64 f 1 == 0) = z := ⟨_, rfl⟩
  rw [hz] at hp hp2
  obtain ⟨W, hW⟩ : ∃ W, W = w.alloc (.cells #[.int .i64 1, .int .i64 4294967296, .nilFunc, .func (.func 83) #[] #[]] 75) := ⟨_, rfl⟩
  have hbW : Hid (Below w.heap.size w W) := by subst hW; exact (Below.refl _ _).alloc (Nat.le_refl _) _
  have hPB : Hid (Blk W w.heap.size 75 #[.int .i64 1, .int .i64 4294967296, .nilFunc, .func (.func 83) #[] #[]]) := by subst hW; exact Blk.new _ _ _
  have hB1 := Lib.hid (hB.call hbW.out)
  clear hB
  obtain ⟨kc, kf, hlt⟩ := hB1.out.facts
  obtain ⟨kd, kg, hlu⟩ := hPB.out.facts
  have c1 := kc 2
  have d0 := kd 0
  have d1 := kd 1
  have d3 := kd 3
  simp only [List.getElem?_toArray, List.getElem?_cons_zero, List.getElem?_cons_succ] at c1 d0 d1 d3
  clear kc kd
  cases z
  · by_cases h1 : 1 ≤ x.seq
    · have hq : Hid (numOk 1 4294967296 x.seq f = decide (x.seq ≤ 4294967296)) := by show _ = _; rw [hp.out, decide_eq_true h1]; rfl
      have hq2 : Hid (numF 1 x.seq f = true) := hp2
      clear hp hp2
      go_enter Tryz.func99, Tryz.ntmps99
      go_wp2_with (fail)
      rw [← hW]
      clear hW
      refine (at1_calls _ _).mono ?_
      rintro e w1 ⟨rfl, rfl⟩
      go_wp2_with (fail)
      go_quiet (fail)
      go_wp2_with (fail)
      go_ret2
      exact ⟨ret_bb hq.out.symm hq2.out.symm, below_drewN hbW.out _⟩
    · have hq : Hid (numOk 1 4294967296 x.seq f = false) := by show _ = _; rw [hp.out, decide_eq_false h1]; rfl
      have e1 := decide_eq_false h1
      have hq2 : Hid (numF 1 x.seq f = true) := hp2
      clear hp hp2
      go_enter Tryz.func99, Tryz.ntmps99
      go_wp2_with (fail)
      rw [← hW]
      clear hW
      refine (at1_calls _ _).mono ?_
      rintro e w1 ⟨rfl, rfl⟩
      go_wp2_with (fail)
      go_quiet (fail)
      go_wp2_with (fail)
      go_ret2
      exact ⟨ret_bb hq.out.symm hq2.out.symm, below_drewN hbW.out _⟩
  · have hq : Hid (numOk 1 4294967296 x.seq f = true) := hp
    have hq2 : Hid (numF 1 x.seq f = (x.seq == 0)) := hp2
    clear hp hp2
    go_enter Tryz.func99, Tryz.ntmps99
    go_wp2_with (fail)
    rw [← hW]
    clear hW
    refine (at1_calls _ _).mono ?_
    rintro e w1 ⟨rfl, rfl⟩
    go_wp2_with (fail)
    go_quiet (fail)
    go_wp2_with (fail)
    go_ret2
    exact ⟨ret_bb hq.out.symm hq2.out.symm, below_drewN hbW.out _⟩
set_option maxHeartbeats 1000000 in
set_option maxRecDepth 100000 in
theorem number2 (x : CX) (w : World) (g : Nat) (f : Int) :
    Calls Tryz.prog 99 #[.agg #[.int .i64 2, .int .i64 0, .func (.func 84) #[] #[], .func (.func 85) #[] #[]], .pointer (some ⟨g, 0, none⟩), .int .i64 f] w fun e w' => e = .returned (.tuple #[.bool true, .bool true]) ∧ Below w.heap.size w w' := by
  have T1 := ta_si
  go_enter Tryz.func99, Tryz.ntmps99
  go_wp2_with (fail)
  refine (at2_calls _ _).mono ?_
  rintro e w1 ⟨rfl, rfl⟩
  go_wp2_with (fail)
  go_ret2
  exact ⟨rfl, (Below.refl _ _).alloc (Nat.le_refl _) _⟩
set_option maxHeartbeats 1000000 in
set_option maxRecDepth 100000 in
theorem number3 (x : CX) (w : World) (g : Nat) (f : Int) :
    Calls Tryz.prog 99 #[.agg #[.int .i64 4, .int .i64 0, .func (.func 86) #[] #[], .func (.func 87) #[] #[]], .pointer (some ⟨g, 0, none⟩), .int .i64 f] w fun e w' => e = .returned (.tuple #[.bool true, .bool true]) ∧ Below w.heap.size w w' := by
  have T1 := ta_si
  go_enter Tryz.func99, Tryz.ntmps99
  go_wp2_with (fail)
  refine (at3_calls _ _).mono ?_
  rintro e w1 ⟨rfl, rfl⟩
  go_wp2_with (fail)
  go_ret2
  exact ⟨rfl, (Below.refl _ _).alloc (Nat.le_refl _) _⟩
set_option maxHeartbeats 1000000 in
set_option maxRecDepth 100000 in
theorem number4 (x : CX) (w : World) (g : Nat) (f : Int) :
    Calls Tryz.prog 99 #[.agg #[.int .i64 8, .int .i64 0, .func (.func 86) #[] #[], .func (.func 88) #[] #[]], .pointer (some ⟨g, 0, none⟩), .int .i64 f] w fun e w' => e = .returned (.tuple #[.bool true, .bool true]) ∧ Below w.heap.size w w' := by
  have T1 := ta_si
  go_enter Tryz.func99, Tryz.ntmps99
  go_wp2_with (fail)
  refine (at4_calls _ _).mono ?_
  rintro e w1 ⟨rfl, rfl⟩
  go_wp2_with (fail)
  go_ret2
  exact ⟨rfl, (Below.refl _ _).alloc (Nat.le_refl _) _⟩
set_option maxHeartbeats 1000000 in
set_option maxRecDepth 100000 in
theorem number5 (x : CX) (w : World) (g : Nat) (f : Int) (hB : Blk w g 23 x.cells) :
    Calls Tryz.prog 99 #[.agg #[.int .i64 16, .int .i64 9, .nilFunc, .func (.func 89) #[] #[]], .pointer (some ⟨g, 0, none⟩), .int .i64 f] w fun e w' => e = .returned (.tuple #[.bool (numOk 16 9 x.node f), .bool (numF 16 x.node f)]) ∧ Below w.heap.size w w' := by
  have T1 := ta_ii
  have hp : Hid (numOk 16 9 x.node f = if (bits .and .i64 f 16 == 0) = true then true else decide (1 ≤ x.node) && decide (x.node ≤ 9)) := rfl
  have hp2 : Hid (numF 16 x.node f = if (bits .and .i64 f 16 == 0) = true then x.node == 0 else true) := rfl
  obtain ⟨z, hz⟩ : ∃ z, (bits .and .i64 f 16 == 0) = z := ⟨_, rfl⟩
  rw [hz] at hp hp2
  obtain ⟨W, hW⟩ : ∃ W, W = w.alloc (.cells #[.int .i64 16, .int .i64 9, .nilFunc, .func (.func 89) #[] #[]] 75) := ⟨_, rfl⟩
  have hbW : Hid (Below w.heap.size w W) := by subst hW; exact (Below.refl _ _).alloc (Nat.le_refl _) _
  have hPB : Hid (Blk W w.heap.size 75 #[.int .i64 16, .int .i64 9, .nilFunc, .func (.func 89) #[] #[]]) := by subst hW; exact Blk.new _ _ _
  have hB1 := Lib.hid (hB.call hbW.out)
  clear hB
  obtain ⟨kc, kf, hlt⟩ := hB1.out.facts
  obtain ⟨kd, kg, hlu⟩ := hPB.out.facts
  have c1 := kc 6
  have d0 := kd 0
  have d1 := kd 1
  have d3 := kd 3
  simp only [List.getElem?_toArray, List.getElem?_cons_zero, List.getElem?_cons_succ] at c1 d0 d1 d3
  clear kc kd
  cases z
  · by_cases h1 : 1 ≤ x.node
    · have hq : Hid (numOk 16 9 x.node f = decide (x.node ≤ 9)) := by show _ = _; rw [hp.out, decide_eq_true h1]; rfl
      have hq2 : Hid (numF 16 x.node f = true) := hp2
      clear hp hp2
      go_enter Tryz.func99, Tryz.ntmps99
      go_wp2_with (fail)
      rw [← hW]
      clear hW
      refine (at5_calls _ _).mono ?_
      rintro e w1 ⟨rfl, rfl⟩
      go_wp2_with (fail)
      go_quiet (fail)
      go_wp2_with (fail)
      go_ret2
      exact ⟨ret_bb hq.out.symm hq2.out.symm, below_drewN hbW.out _⟩
    · have hq : Hid (numOk 16 9 x.node f = false) := by show _ = _; rw [hp.out, decide_eq_false h1]; rfl
      have e1 := decide_eq_false h1
      have hq2 : Hid (numF 16 x.node f = true) := hp2
      clear hp hp2
      go_enter Tryz.func99, Tryz.ntmps99
      go_wp2_with (fail)
      rw [← hW]
      clear hW
      refine (at5_calls _ _).mono ?_
      rintro e w1 ⟨rfl, rfl⟩
      go_wp2_with (fail)
      go_quiet (fail)
      go_wp2_with (fail)
      go_ret2
      exact ⟨ret_bb hq.out.symm hq2.out.symm, below_drewN hbW.out _⟩
  · have hq : Hid (numOk 16 9 x.node f = true) := hp
    have hq2 : Hid (numF 16 x.node f = (x.node == 0)) := hp2
    clear hp hp2
    go_enter Tryz.func99, Tryz.ntmps99
    go_wp2_with (fail)
    rw [← hW]
    clear hW
    refine (at5_calls _ _).mono ?_
    rintro e w1 ⟨rfl, rfl⟩
    go_wp2_with (fail)
    go_quiet (fail)
    go_wp2_with (fail)
    go_ret2
    exact ⟨ret_bb hq.out.symm hq2.out.symm, below_drewN hbW.out _⟩
set_option maxHeartbeats 1000000 in
set_option maxRecDepth 100000 in
theorem text0 (x : CX) (w : World) (g : Nat) (f : Int) :
    Calls Tryz.prog 100 #[.agg #[.int .i64 1, .int .i64 8, .nilFunc, .func (.func 82) #[] #[]], .pointer (some ⟨g, 0, none⟩), .int .i64 f] w fun e w' => e = .returned (.tuple #[.bool true, .bool true]) ∧ Below w.heap.size w w' := by
  have T1 := ta_is
  go_enter Tryz.func100, Tryz.ntmps100
  go_wp2_with (fail)
  refine (at0_calls _ _).mono ?_
  rintro e w1 ⟨rfl, rfl⟩
  go_wp2_with (fail)
  go_ret2
  exact ⟨rfl, (Below.refl _ _).alloc (Nat.le_refl _) _⟩
set_option maxHeartbeats 1000000 in
set_option maxRecDepth 100000 in
theorem text1 (x : CX) (w : World) (g : Nat) (f : Int) :
    Calls Tryz.prog 100 #[.agg #[.int .i64 1, .int .i64 4294967296, .nilFunc, .func (.func 83) #[] #[]], .pointer (some ⟨g, 0, none⟩), .int .i64 f] w fun e w' => e = .returned (.tuple #[.bool true, .bool true]) ∧ Below w.heap.size w w' := by
  have T1 := ta_is
  go_enter Tryz.func100, Tryz.ntmps100
  go_wp2_with (fail)
  refine (at1_calls _ _).mono ?_
  rintro e w1 ⟨rfl, rfl⟩
  go_wp2_with (fail)
  go_ret2
  exact ⟨rfl, (Below.refl _ _).alloc (Nat.le_refl _) _⟩
set_option maxHeartbeats 1000000 in
set_option maxRecDepth 100000 in
theorem text2 (x : CX) (w : World) (g : Nat) (f : Int) (hT : Lib.Utf8Tabs 0 1 w) (hs : x.key.length ≤ 1000000) (hB : Blk w g 23 x.cells) :
    Calls Tryz.prog 100 #[.agg #[.int .i64 2, .int .i64 0, .func (.func 84) #[] #[], .func (.func 85) #[] #[]], .pointer (some ⟨g, 0, none⟩), .int .i64 f] w fun e w' => e = .returned (.tuple #[.bool (txtOk 2 isKey x.key f), .bool (txtF 2 x.key f)]) ∧ Below w.heap.size w w' := by
  have T1 := ta_ss
  have hp : Hid (txtOk 2 isKey x.key f = if (bits .and .i64 f 2 == 0) = true then true else isKey x.key) := rfl
  have hp2 : Hid (txtF 2 x.key f = if (bits .and .i64 f 2 == 0) = true then x.key.isEmpty else true) := rfl
  obtain ⟨z, hz⟩ : ∃ z, (bits .and .i64 f 2 == 0) = z := ⟨_, rfl⟩
  rw [hz] at hp hp2
  have hC := Lib.hid (fun w1 (hT : Lib.Utf8Tabs 0 1 w1) => key_calls (str x.key) w1 (by rw [str_size]; exact hs) hT)
  rw [toL_str] at hC
  have hem := str_nil_iff x.key
  obtain ⟨W, hW⟩ : ∃ W, W = w.alloc (.cells #[.int .i64 2, .int .i64 0, .func (.func 84) #[] #[], .func (.func 85) #[] #[]] 75) := ⟨_, rfl⟩
  have hbW : Hid (Below w.heap.size w W) := by subst hW; exact (Below.refl _ _).alloc (Nat.le_refl _) _
  have hTW : Hid (Lib.Utf8Tabs 0 1 W) := Utf8Tabs_below hT hbW.out
  have hPB : Hid (Blk W w.heap.size 75 #[.int .i64 2, .int .i64 0, .func (.func 84) #[] #[], .func (.func 85) #[] #[]]) := by subst hW; exact Blk.new _ _ _
  have hB1 := Lib.hid (hB.call hbW.out)
  clear hB hT hs
  obtain ⟨kc, kf, hlt⟩ := hB1.out.facts
  obtain ⟨kd, kg, hlu⟩ := hPB.out.facts
  have c1 := kc 3
  have d0 := kd 0
  have d2 := kd 2
  have d3 := kd 3
  simp only [List.getElem?_toArray, List.getElem?_cons_zero, List.getElem?_cons_succ] at c1 d0 d2 d3
  clear kc kd
  obtain ⟨l, hl⟩ : ∃ l, x.key = l := ⟨_, rfl⟩
  rw [hl] at hem hp hp2 hC c1 ⊢
  cases z
  · have hq : Hid (txtOk 2 isKey l f = isKey l) := hp
    have hq2 : Hid (txtF 2 l f = true) := hp2
    clear hp hp2 hem
    have e2 : ∀ d os, (Sort.grow (redrawn W d) os).cell? ⟨w.heap.size, 2, none⟩ = some (.func (.func 84) #[] #[]) := cell_regrown (hPB.out.cell 2)
    have e4 : ∀ d os, (Sort.grow (redrawn W d) os).cell? ⟨g, 3, none⟩ = some (.string (str l)) := cell_regrown c1
    have hU : ∀ d os, Lib.Utf8Tabs 0 1 (Sort.grow (redrawn W d) os) := fun d os => Utf8Tabs_below hTW.out (below_regrown W d os)
    go_enter Tryz.func100, Tryz.ntmps100
    go_wp2_with (fail)
    rw [← hW]
    clear hW
    refine (at2_calls _ _).mono ?_
    rintro e w1 ⟨rfl, rfl⟩
    go_wp2_with (fail)
    refine wp_region_quiet_below (by kernel_rfl) (by kernel_rfl) ?_
    repeat (go_big_quiet_step ((exact Calls.regrown_of (hC.out _ (hU _ _)))))
    refine wpQuiet_nil ?_
    intro _ hw'
    obtain ⟨⟨dq, osq⟩, hw''⟩ := hw'
    subst hw''
    clear e2 e4 hU
    go_wp2_with (fail)
    go_ret2
    exact ⟨ret_bb hq.out.symm hq2.out.symm, hbW.out.trans ((below_regrown W dq osq).mono hbW.out.size)⟩
  · have hq : Hid (txtOk 2 isKey l f = true) := hp
    have hq2 : Hid (txtF 2 l f = l.isEmpty) := hp2
    clear hp hp2
    go_enter Tryz.func100, Tryz.ntmps100
    go_wp2_with (fail)
    rw [← hW]
    clear hW
    refine (at2_calls _ _).mono ?_
    rintro e w1 ⟨rfl, rfl⟩
    go_wp2_with (fail)
    go_quiet (fail)
    go_wp2_with (fail)
    go_ret2
    exact ⟨ret_bb hq.out.symm (by rw [hq2.out, str_toList]), below_drewN hbW.out _⟩
set_option maxHeartbeats 1000000 in
set_option maxRecDepth 100000 in
theorem text3 (x : CX) (w : World) (g : Nat) (f : Int) (hT : Lib.Utf8Tabs 0 1 w) (hs : x.old.length ≤ 1000000) (hB : Blk w g 23 x.cells) :
    Calls Tryz.prog 100 #[.agg #[.int .i64 4, .int .i64 0, .func (.func 86) #[] #[], .func (.func 87) #[] #[]], .pointer (some ⟨g, 0, none⟩), .int .i64 f] w fun e w' => e = .returned (.tuple #[.bool (txtOk 4 isVal x.old f), .bool (txtF 4 x.old f)]) ∧ Below w.heap.size w w' := by
  have T1 := ta_ss
  have hp : Hid (txtOk 4 isVal x.old f = if (bits .and .i64 f 4 == 0) = true then true else isVal x.old) := rfl
  have hp2 : Hid (txtF 4 x.old f = if (bits .and .i64 f 4 == 0) = true then x.old.isEmpty else true) := rfl
  obtain ⟨z, hz⟩ : ∃ z, (bits .and .i64 f 4 == 0) = z := ⟨_, rfl⟩
  rw [hz] at hp hp2
  have hC := Lib.hid (fun w1 (hT : Lib.Utf8Tabs 0 1 w1) => val_calls (str x.old) w1 (by rw [str_size]; exact hs) hT)
  rw [toL_str] at hC
  have hem := str_nil_iff x.old
  obtain ⟨W, hW⟩ : ∃ W, W = w.alloc (.cells #[.int .i64 4, .int .i64 0, .func (.func 86) #[] #[], .func (.func 87) #[] #[]] 75) := ⟨_, rfl⟩
  have hbW : Hid (Below w.heap.size w W) := by subst hW; exact (Below.refl _ _).alloc (Nat.le_refl _) _
  have hTW : Hid (Lib.Utf8Tabs 0 1 W) := Utf8Tabs_below hT hbW.out
  have hPB : Hid (Blk W w.heap.size 75 #[.int .i64 4, .int .i64 0, .func (.func 86) #[] #[], .func (.func 87) #[] #[]]) := by subst hW; exact Blk.new _ _ _
  have hB1 := Lib.hid (hB.call hbW.out)
  clear hB hT hs
  obtain ⟨kc, kf, hlt⟩ := hB1.out.facts
  obtain ⟨kd, kg, hlu⟩ := hPB.out.facts
  have c1 := kc 5
  have d0 := kd 0
  have d2 := kd 2
  have d3 := kd 3
  simp only [List.getElem?_toArray, List.getElem?_cons_zero, List.getElem?_cons_succ] at c1 d0 d2 d3
  clear kc kd
  obtain ⟨l, hl⟩ : ∃ l, x.old = l := ⟨_, rfl⟩
  rw [hl] at hem hp hp2 hC c1 ⊢
  cases z
  · have hq : Hid (txtOk 4 isVal l f = isVal l) := hp
    have hq2 : Hid (txtF 4 l f = true) := hp2
    clear hp hp2 hem
    have e2 : ∀ d os, (Sort.grow (redrawn W d) os).cell? ⟨w.heap.size, 2, none⟩ = some (.func (.func 86) #[] #[]) := cell_regrown (hPB.out.cell 2)
    have e4 : ∀ d os, (Sort.grow (redrawn W d) os).cell? ⟨g, 5, none⟩ = some (.string (str l)) := cell_regrown c1
    have hU : ∀ d os, Lib.Utf8Tabs 0 1 (Sort.grow (redrawn W d) os) := fun d os => Utf8Tabs_below hTW.out (below_regrown W d os)
    go_enter Tryz.func100, Tryz.ntmps100
    go_wp2_with (fail)
    rw [← hW]
    clear hW
    refine (at3_calls _ _).mono ?_
    rintro e w1 ⟨rfl, rfl⟩
    go_wp2_with (fail)
    refine wp_region_quiet_below (by kernel_rfl) (by kernel_rfl) ?_
    repeat (go_big_quiet_step ((exact Calls.regrown_of (hC.out _ (hU _ _)))))
    refine wpQuiet_nil ?_
    intro _ hw'
    obtain ⟨⟨dq, osq⟩, hw''⟩ := hw'
    subst hw''
    clear e2 e4 hU
    go_wp2_with (fail)
    go_ret2
    exact ⟨ret_bb hq.out.symm hq2.out.symm, hbW.out.trans ((below_regrown W dq osq).mono hbW.out.size)⟩
  · have hq : Hid (txtOk 4 isVal l f = true) := hp
    have hq2 : Hid (txtF 4 l f = l.isEmpty) := hp2
    clear hp hp2
    go_enter Tryz.func100, Tryz.ntmps100
    go_wp2_with (fail)
    rw [← hW]
    clear hW
    refine (at3_calls _ _).mono ?_
    rintro e w1 ⟨rfl, rfl⟩
    go_wp2_with (fail)
    go_quiet (fail)
    go_wp2_with (fail)
    go_ret2
    exact ⟨ret_bb hq.out.symm (by rw [hq2.out, str_toList]), below_drewN hbW.out _⟩
set_option maxHeartbeats 1000000 in
set_option maxRecDepth 100000 in
theorem text4 (x : CX) (w : World) (g : Nat) (f : Int) (hT : Lib.Utf8Tabs 0 1 w) (hs : x.val.length ≤ 1000000) (hB : Blk w g 23 x.cells) :
    Calls Tryz.prog 100 #[.agg #[.int .i64 8, .int .i64 0, .func (.func 86) #[] #[], .func (.func 88) #[] #[]], .pointer (some ⟨g, 0, none⟩), .int .i64 f] w fun e w' => e = .returned (.tuple #[.bool (txtOk 8 isVal x.val f), .bool (txtF 8 x.val f)]) ∧ Below w.heap.size w w' := by
  have T1 := ta_ss
  have hp : Hid (txtOk 8 isVal x.val f = if (bits .and .i64 f 8 == 0) = true then true else isVal x.val) := rfl
  have hp2 : Hid (txtF 8 x.val f = if (bits .and .i64 f 8 == 0) = true then x.val.isEmpty else true) := rfl
  obtain ⟨z, hz⟩ : ∃ z, (bits .and .i64 f 8 == 0) = z := ⟨_, rfl⟩
  rw [hz] at hp hp2
  have hC := Lib.hid (fun w1 (hT : Lib.Utf8Tabs 0 1 w1) => val_calls (str x.val) w1 (by rw [str_size]; exact hs) hT)
  rw [toL_str] at hC
  have hem := str_nil_iff x.val
  obtain ⟨W, hW⟩ : ∃ W, W = w.alloc (.cells #[.int .i64 8, .int .i64 0, .func (.func 86) #[] #[], .func (.func 88) #[] #[]] 75) := ⟨_, rfl⟩
  have hbW : Hid (Below w.heap.size w W) := by subst hW; exact (Below.refl _ _).alloc (Nat.le_refl _) _
  have hTW : Hid (Lib.Utf8Tabs 0 1 W) := Utf8Tabs_below hT hbW.out
  have hPB : Hid (Blk W w.heap.size 75 #[.int .i64 8, .int .i64 0, .func (.func 86) #[] #[], .func (.func 88) #[] #[]]) := by subst hW; exact Blk.new _ _ _
  have hB1 := Lib.hid (hB.call hbW.out)
  clear hB hT hs
  obtain ⟨kc, kf, hlt⟩ := hB1.out.facts
  obtain ⟨kd, kg, hlu⟩ := hPB.out.facts
  have c1 := kc 4
  have d0 := kd 0
  have d2 := kd 2
  have d3 := kd 3
  simp only [List.getElem?_toArray, List.getElem?_cons_zero, List.getElem?_cons_succ] at c1 d0 d2 d3
  clear kc kd
  obtain ⟨l, hl⟩ : ∃ l, x.val = l := ⟨_, rfl⟩
  rw [hl] at hem hp hp2 hC c1 ⊢
  cases z
  · have hq : Hid (txtOk 8 isVal l f = isVal l) := hp
    have hq2 : Hid (txtF 8 l f = true) := hp2
    clear hp hp2 hem
    have e2 : ∀ d os, (Sort.grow (redrawn W d) os).cell? ⟨w.heap.size, 2, none⟩ = some (.func (.func 86) #[] #[]) := cell_regrown (hPB.out.cell 2)
    have e4 : ∀ d os, (Sort.grow (redrawn W d) os).cell? ⟨g, 4, none⟩ = some (.string (str l)) := cell_regrown c1
    have hU : ∀ d os, Lib.Utf8Tabs 0 1 (Sort.grow (redrawn W d) os) := fun d os => Utf8Tabs_below hTW.out (below_regrown W d os)
    go_enter Tryz.func100, Tryz.ntmps100
    go_wp2_with (fail)
    rw [← hW]
    clear hW
    refine (at4_calls _ _).mono ?_
    rintro e w1 ⟨rfl, rfl⟩
    go_wp2_with (fail)
    refine wp_region_quiet_below (by kernel_rfl) (by kernel_rfl) ?_
    repeat (go_big_quiet_step ((exact Calls.regrown_of (hC.out _ (hU _ _)))))
    refine wpQuiet_nil ?_
    intro _ hw'
    obtain ⟨⟨dq, osq⟩, hw''⟩ := hw'
    subst hw''
    clear e2 e4 hU
    go_wp2_with (fail)
    go_ret2
    exact ⟨ret_bb hq.out.symm hq2.out.symm, hbW.out.trans ((below_regrown W dq osq).mono hbW.out.size)⟩
  · have hq : Hid (txtOk 8 isVal l f = true) := hp
    have hq2 : Hid (txtF 8 l f = l.isEmpty) := hp2
    clear hp hp2
    go_enter Tryz.func100, Tryz.ntmps100
    go_wp2_with (fail)
    rw [← hW]
    clear hW
    refine (at4_calls _ _).mono ?_
    rintro e w1 ⟨rfl, rfl⟩
    go_wp2_with (fail)
    go_quiet (fail)
    go_wp2_with (fail)
    go_ret2
    exact ⟨ret_bb hq.out.symm (by rw [hq2.out, str_toList]), below_drewN hbW.out _⟩
set_option maxHeartbeats 1000000 in
set_option maxRecDepth 100000 in
theorem text5 (x : CX) (w : World) (g : Nat) (f : Int) :
    Calls Tryz.prog 100 #[.agg #[.int .i64 16, .int .i64 9, .nilFunc, .func (.func 89) #[] #[]], .pointer (some ⟨g, 0, none⟩), .int .i64 f] w fun e w' => e = .returned (.tuple #[.bool true, .bool true]) ∧ Below w.heap.size w w' := by
  have T1 := ta_is
  go_enter Tryz.func100, Tryz.ntmps100
  go_wp2_with (fail)
  refine (at5_calls _ _).mono ?_
  rintro e w1 ⟨rfl, rfl⟩
  go_wp2_with (fail)
  go_ret2
  exact ⟨rfl, (Below.refl _ _).alloc (Nat.le_refl _) _⟩
end Go.Proofs.YtdgbpmbknlhgmaaGreatDoor
