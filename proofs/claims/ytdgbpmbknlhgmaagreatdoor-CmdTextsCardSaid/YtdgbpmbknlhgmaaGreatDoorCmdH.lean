/-
The walks through cmd.part.write. (Printed by gen_cmdh.py.)
-/
import Derived.Test.YtdgbpmbknlhgmaaGreatDoorCmdG
import Derived.Test.YtdgbpmbknlhgmaaGreatDoorPack
import Derived.Test.YtdgbpmbknlhgmaaGreatDoorAnsB
set_option linter.unusedVariables false
set_option linter.unusedSimpArgs false
namespace Go.Proofs.YtdgbpmbknlhgmaaGreatDoor
open Go.RowKit Qt Vm

/-- a command's field, as it is written. -/
def pFv (x : CX) : Nat → Fv
  | 0 => .num x.client.toNat
  | 1 => .num x.seq.toNat
  | 2 => .txt x.key
  | 3 => .txt x.old
  | 4 => .txt x.val
  | _ => .num x.node.toNat
/-- are the numbers none below 0? -/
def CX.nat (x : CX) : Prop := (0 ≤ x.kind ∧ x.kind < 9223372036854775808) ∧ (0 ≤ x.client ∧ x.client < 9223372036854775808) ∧ (0 ≤ x.seq ∧ x.seq < 9223372036854775808) ∧ (0 ≤ x.node ∧ x.node < 9223372036854775808)
def CX.tiny (x : CX) : Prop := x.key.length ≤ 90000 ∧ x.val.length ≤ 90000 ∧ x.old.length ≤ 90000
theorem CX.tiny.short {x : CX} (h : x.tiny) : x.short := ⟨Nat.le_trans h.1 (by decide), Nat.le_trans h.2.1 (by decide), Nat.le_trans h.2.2 (by decide)⟩
theorem tb_ss (W : World) (v : Value) : (Instr.typeAssert (.iface 90 v) 20 90 false).run Tryz.prog W = .ok v W := by kernel_rfl

set_option maxHeartbeats 1000000 in
set_option maxRecDepth 100000 in
theorem write0 (x : CX) (w : World) (g gw : Nat) (l : List UInt8) (hn : 0 ≤ x.client ∧ x.client < 9223372036854775808) (hl : l.length ≤ 900000) (hB : Blk w g 23 x.cells) (hw : WrAt w gw l) :
    Calls Tryz.prog 47 #[.agg #[.int .i64 1, .int .i64 8, .nilFunc, .func (.func 82) #[] #[]], .pointer (some ⟨gw, 0, none⟩), .pointer (some ⟨g, 0, none⟩)] w fun e w' => e = .returned (.tuple #[]) ∧ WrAt w' gw (l ++ vb x.client.toNat) ∧ w.grownBy w' (some gw) := by
  have T1 := ta_ii
  obtain ⟨W, hW⟩ : ∃ W, W = w.alloc (.cells #[.int .i64 1, .int .i64 8, .nilFunc, .func (.func 82) #[] #[]] 75) := ⟨_, rfl⟩
  have hbW : Hid (Below w.heap.size w W) := by subst hW; exact (Below.refl _ _).alloc (Nat.le_refl _) _
  have hPB : Hid (Blk W w.heap.size 75 #[.int .i64 1, .int .i64 8, .nilFunc, .func (.func 82) #[] #[]]) := by subst hW; exact Blk.new _ _ _
  have hB1 := Lib.hid (hB.call hbW.out)
  have hw1 := Lib.hid (hw.below hbW.out)
  clear hB hw
  obtain ⟨kc, kf, hlt⟩ := hB1.out.facts
  obtain ⟨kd, kg, hlu⟩ := hPB.out.facts
  have c1 := kc 1
  have d3 := kd 3
  simp only [List.getElem?_toArray, List.getElem?_cons_zero, List.getElem?_cons_succ] at c1 d3
  clear kc kd
  have HN := Lib.hid (number_calls gw l x.client W hn.1 hn.2 (by omega) hw1.out)
  go_enter Tryz.func47, Tryz.ntmps47
  go_wp2_with (fail)
  rw [← hW]
  clear hW
  refine (at0_calls _ _).mono ?_
  rintro e w1 ⟨rfl, rfl⟩
  go_wp2_with (fail)
  refine HN.out.mono ?_
  rintro e w2 ⟨rfl, h1, h2⟩
  have h1' := Lib.hid h1
  have h2' := Lib.hid (only_trans (only_of_below hbW.out (some gw)) h2)
  clear h1 h2 HN
  go_wp2_with (fail)
  refine bodyPost_ret (results_none rfl _ _ _) rfl ?_
  exact ⟨rfl, h1'.out, h2'.out⟩
set_option maxHeartbeats 1000000 in
set_option maxRecDepth 100000 in
theorem write1 (x : CX) (w : World) (g gw : Nat) (l : List UInt8) (hn : 0 ≤ x.seq ∧ x.seq < 9223372036854775808) (hl : l.length ≤ 900000) (hB : Blk w g 23 x.cells) (hw : WrAt w gw l) :
    Calls Tryz.prog 47 #[.agg #[.int .i64 1, .int .i64 4294967296, .nilFunc, .func (.func 83) #[] #[]], .pointer (some ⟨gw, 0, none⟩), .pointer (some ⟨g, 0, none⟩)] w fun e w' => e = .returned (.tuple #[]) ∧ WrAt w' gw (l ++ vb x.seq.toNat) ∧ w.grownBy w' (some gw) := by
  have T1 := ta_ii
  obtain ⟨W, hW⟩ : ∃ W, W = w.alloc (.cells #[.int .i64 1, .int .i64 4294967296, .nilFunc, .func (.func 83) #[] #[]] 75) := ⟨_, rfl⟩
  have hbW : Hid (Below w.heap.size w W) := by subst hW; exact (Below.refl _ _).alloc (Nat.le_refl _) _
  have hPB : Hid (Blk W w.heap.size 75 #[.int .i64 1, .int .i64 4294967296, .nilFunc, .func (.func 83) #[] #[]]) := by subst hW; exact Blk.new _ _ _
  have hB1 := Lib.hid (hB.call hbW.out)
  have hw1 := Lib.hid (hw.below hbW.out)
  clear hB hw
  obtain ⟨kc, kf, hlt⟩ := hB1.out.facts
  obtain ⟨kd, kg, hlu⟩ := hPB.out.facts
  have c1 := kc 2
  have d3 := kd 3
  simp only [List.getElem?_toArray, List.getElem?_cons_zero, List.getElem?_cons_succ] at c1 d3
  clear kc kd
  have HN := Lib.hid (number_calls gw l x.seq W hn.1 hn.2 (by omega) hw1.out)
  go_enter Tryz.func47, Tryz.ntmps47
  go_wp2_with (fail)
  rw [← hW]
  clear hW
  refine (at1_calls _ _).mono ?_
  rintro e w1 ⟨rfl, rfl⟩
  go_wp2_with (fail)
  refine HN.out.mono ?_
  rintro e w2 ⟨rfl, h1, h2⟩
  have h1' := Lib.hid h1
  have h2' := Lib.hid (only_trans (only_of_below hbW.out (some gw)) h2)
  clear h1 h2 HN
  go_wp2_with (fail)
  refine bodyPost_ret (results_none rfl _ _ _) rfl ?_
  exact ⟨rfl, h1'.out, h2'.out⟩
set_option maxHeartbeats 1000000 in
set_option maxRecDepth 100000 in
theorem write2 (x : CX) (w : World) (g gw : Nat) (l : List UInt8) (hn : x.key.length ≤ 90000) (hl : l.length ≤ 900000) (hB : Blk w g 23 x.cells) (hw : WrAt w gw l) :
    Calls Tryz.prog 47 #[.agg #[.int .i64 2, .int .i64 0, .func (.func 84) #[] #[], .func (.func 85) #[] #[]], .pointer (some ⟨gw, 0, none⟩), .pointer (some ⟨g, 0, none⟩)] w fun e w' => e = .returned (.tuple #[]) ∧ WrAt w' gw (l ++ (Fv.txt x.key).bytes) ∧ w.grownBy w' (some gw) := by
  have T1 := ta_si
  have T2 := tb_ss
  obtain ⟨W, hW⟩ : ∃ W, W = w.alloc (.cells #[.int .i64 2, .int .i64 0, .func (.func 84) #[] #[], .func (.func 85) #[] #[]] 75) := ⟨_, rfl⟩
  have hbW : Hid (Below w.heap.size w W) := by subst hW; exact (Below.refl _ _).alloc (Nat.le_refl _) _
  have hPB : Hid (Blk W w.heap.size 75 #[.int .i64 2, .int .i64 0, .func (.func 84) #[] #[], .func (.func 85) #[] #[]]) := by subst hW; exact Blk.new _ _ _
  have hB1 := Lib.hid (hB.call hbW.out)
  have hw1 := Lib.hid (hw.below hbW.out)
  clear hB hw
  obtain ⟨kc, kf, hlt⟩ := hB1.out.facts
  obtain ⟨kd, kg, hlu⟩ := hPB.out.facts
  have c1 := kc 3
  have d3 := kd 3
  simp only [List.getElem?_toArray, List.getElem?_cons_zero, List.getElem?_cons_succ] at c1 d3
  clear kc kd
  have HN := wtext_calls gw l (str x.key) W hl (by rw [str_size]; exact hn) hw1.out
  rw [toL_str] at HN
  have HN := Lib.hid HN
  go_enter Tryz.func47, Tryz.ntmps47
  go_wp2_with (fail)
  rw [← hW]
  clear hW
  refine (at2_calls _ _).mono ?_
  rintro e w1 ⟨rfl, rfl⟩
  go_wp2_with (fail)
  refine (at2_calls _ _).mono ?_
  rintro e w1 ⟨rfl, rfl⟩
  go_wp2_with (fail)
  refine HN.out.mono ?_
  rintro e w2 ⟨rfl, h1, h2⟩
  have h1' := Lib.hid h1
  have h2' := Lib.hid (only_trans (only_of_below hbW.out (some gw)) h2)
  clear h1 h2 HN
  go_wp2_with (fail)
  go_end0
  exact ⟨rfl, h1'.out, h2'.out⟩
set_option maxHeartbeats 1000000 in
set_option maxRecDepth 100000 in
theorem write3 (x : CX) (w : World) (g gw : Nat) (l : List UInt8) (hn : x.old.length ≤ 90000) (hl : l.length ≤ 900000) (hB : Blk w g 23 x.cells) (hw : WrAt w gw l) :
    Calls Tryz.prog 47 #[.agg #[.int .i64 4, .int .i64 0, .func (.func 86) #[] #[], .func (.func 87) #[] #[]], .pointer (some ⟨gw, 0, none⟩), .pointer (some ⟨g, 0, none⟩)] w fun e w' => e = .returned (.tuple #[]) ∧ WrAt w' gw (l ++ (Fv.txt x.old).bytes) ∧ w.grownBy w' (some gw) := by
  have T1 := ta_si
  have T2 := tb_ss
  obtain ⟨W, hW⟩ : ∃ W, W = w.alloc (.cells #[.int .i64 4, .int .i64 0, .func (.func 86) #[] #[], .func (.func 87) #[] #[]] 75) := ⟨_, rfl⟩
  have hbW : Hid (Below w.heap.size w W) := by subst hW; exact (Below.refl _ _).alloc (Nat.le_refl _) _
  have hPB : Hid (Blk W w.heap.size 75 #[.int .i64 4, .int .i64 0, .func (.func 86) #[] #[], .func (.func 87) #[] #[]]) := by subst hW; exact Blk.new _ _ _
  have hB1 := Lib.hid (hB.call hbW.out)
  have hw1 := Lib.hid (hw.below hbW.out)
  clear hB hw
  obtain ⟨kc, kf, hlt⟩ := hB1.out.facts
  obtain ⟨kd, kg, hlu⟩ := hPB.out.facts
  have c1 := kc 5
  have d3 := kd 3
  simp only [List.getElem?_toArray, List.getElem?_cons_zero, List.getElem?_cons_succ] at c1 d3
  clear kc kd
  have HN := wtext_calls gw l (str x.old) W hl (by rw [str_size]; exact hn) hw1.out
  rw [toL_str] at HN
  have HN := Lib.hid HN
  go_enter Tryz.func47, Tryz.ntmps47
  go_wp2_with (fail)
  rw [← hW]
  clear hW
  refine (at3_calls _ _).mono ?_
  rintro e w1 ⟨rfl, rfl⟩
  go_wp2_with (fail)
  refine (at3_calls _ _).mono ?_
  rintro e w1 ⟨rfl, rfl⟩
  go_wp2_with (fail)
  refine HN.out.mono ?_
  rintro e w2 ⟨rfl, h1, h2⟩
  have h1' := Lib.hid h1
  have h2' := Lib.hid (only_trans (only_of_below hbW.out (some gw)) h2)
  clear h1 h2 HN
  go_wp2_with (fail)
  go_end0
  exact ⟨rfl, h1'.out, h2'.out⟩
set_option maxHeartbeats 1000000 in
set_option maxRecDepth 100000 in
theorem write4 (x : CX) (w : World) (g gw : Nat) (l : List UInt8) (hn : x.val.length ≤ 90000) (hl : l.length ≤ 900000) (hB : Blk w g 23 x.cells) (hw : WrAt w gw l) :
    Calls Tryz.prog 47 #[.agg #[.int .i64 8, .int .i64 0, .func (.func 86) #[] #[], .func (.func 88) #[] #[]], .pointer (some ⟨gw, 0, none⟩), .pointer (some ⟨g, 0, none⟩)] w fun e w' => e = .returned (.tuple #[]) ∧ WrAt w' gw (l ++ (Fv.txt x.val).bytes) ∧ w.grownBy w' (some gw) := by
  have T1 := ta_si
  have T2 := tb_ss
  obtain ⟨W, hW⟩ : ∃ W, W = w.alloc (.cells #[.int .i64 8, .int .i64 0, .func (.func 86) #[] #[], .func (.func 88) #[] #[]] 75) := ⟨_, rfl⟩
  have hbW : Hid (Below w.heap.size w W) := by subst hW; exact (Below.refl _ _).alloc (Nat.le_refl _) _
  have hPB : Hid (Blk W w.heap.size 75 #[.int .i64 8, .int .i64 0, .func (.func 86) #[] #[], .func (.func 88) #[] #[]]) := by subst hW; exact Blk.new _ _ _
  have hB1 := Lib.hid (hB.call hbW.out)
  have hw1 := Lib.hid (hw.below hbW.out)
  clear hB hw
  obtain ⟨kc, kf, hlt⟩ := hB1.out.facts
  obtain ⟨kd, kg, hlu⟩ := hPB.out.facts
  have c1 := kc 4
  have d3 := kd 3
  simp only [List.getElem?_toArray, List.getElem?_cons_zero, List.getElem?_cons_succ] at c1 d3
  clear kc kd
  have HN := wtext_calls gw l (str x.val) W hl (by rw [str_size]; exact hn) hw1.out
  rw [toL_str] at HN
  have HN := Lib.hid HN
  go_enter Tryz.func47, Tryz.ntmps47
  go_wp2_with (fail)
  rw [← hW]
  clear hW
  refine (at4_calls _ _).mono ?_
  rintro e w1 ⟨rfl, rfl⟩
  go_wp2_with (fail)
  refine (at4_calls _ _).mono ?_
  rintro e w1 ⟨rfl, rfl⟩
  go_wp2_with (fail)
  refine HN.out.mono ?_
  rintro e w2 ⟨rfl, h1, h2⟩
  have h1' := Lib.hid h1
  have h2' := Lib.hid (only_trans (only_of_below hbW.out (some gw)) h2)
  clear h1 h2 HN
  go_wp2_with (fail)
  go_end0
  exact ⟨rfl, h1'.out, h2'.out⟩
set_option maxHeartbeats 1000000 in
set_option maxRecDepth 100000 in
theorem write5 (x : CX) (w : World) (g gw : Nat) (l : List UInt8) (hn : 0 ≤ x.node ∧ x.node < 9223372036854775808) (hl : l.length ≤ 900000) (hB : Blk w g 23 x.cells) (hw : WrAt w gw l) :
    Calls Tryz.prog 47 #[.agg #[.int .i64 16, .int .i64 9, .nilFunc, .func (.func 89) #[] #[]], .pointer (some ⟨gw, 0, none⟩), .pointer (some ⟨g, 0, none⟩)] w fun e w' => e = .returned (.tuple #[]) ∧ WrAt w' gw (l ++ vb x.node.toNat) ∧ w.grownBy w' (some gw) := by
  have T1 := ta_ii
  obtain ⟨W, hW⟩ : ∃ W, W = w.alloc (.cells #[.int .i64 16, .int .i64 9, .nilFunc, .func (.func 89) #[] #[]] 75) := ⟨_, rfl⟩
  have hbW : Hid (Below w.heap.size w W) := by subst hW; exact (Below.refl _ _).alloc (Nat.le_refl _) _
  have hPB : Hid (Blk W w.heap.size 75 #[.int .i64 16, .int .i64 9, .nilFunc, .func (.func 89) #[] #[]]) := by subst hW; exact Blk.new _ _ _
  have hB1 := Lib.hid (hB.call hbW.out)
  have hw1 := Lib.hid (hw.below hbW.out)
  clear hB hw
  obtain ⟨kc, kf, hlt⟩ := hB1.out.facts
  obtain ⟨kd, kg, hlu⟩ := hPB.out.facts
  have c1 := kc 6
  have d3 := kd 3
  simp only [List.getElem?_toArray, List.getElem?_cons_zero, List.getElem?_cons_succ] at c1 d3
  clear kc kd
  have HN := Lib.hid (number_calls gw l x.node W hn.1 hn.2 (by omega) hw1.out)
  go_enter Tryz.func47, Tryz.ntmps47
  go_wp2_with (fail)
  rw [← hW]
  clear hW
  refine (at5_calls _ _).mono ?_
  rintro e w1 ⟨rfl, rfl⟩
  go_wp2_with (fail)
  refine HN.out.mono ?_
  rintro e w2 ⟨rfl, h1, h2⟩
  have h1' := Lib.hid h1
  have h2' := Lib.hid (only_trans (only_of_below hbW.out (some gw)) h2)
  clear h1 h2 HN
  go_wp2_with (fail)
  refine bodyPost_ret (results_none rfl _ _ _) rfl ?_
  exact ⟨rfl, h1'.out, h2'.out⟩

theorem write_calls (i : Nat) (hi : i < 6) (x : CX) (w : World) (g gw : Nat) (l : List UInt8) (hn : x.nat) (ht : x.tiny) (hl : l.length ≤ 900000) (hB : Blk w g 23 x.cells) (hw : WrAt w gw l) :
    Calls Tryz.prog 47 #[partA i, .pointer (some ⟨gw, 0, none⟩), .pointer (some ⟨g, 0, none⟩)] w fun e w' => e = .returned (.tuple #[]) ∧ WrAt w' gw (l ++ (pFv x i).bytes) ∧ w.grownBy w' (some gw) := by
  match i, hi with
  | 0, _ => exact write0 x w g gw l hn.2.1 hl hB hw
  | 1, _ => exact write1 x w g gw l hn.2.2.1 hl hB hw
  | 2, _ => exact write2 x w g gw l ht.1 hl hB hw
  | 3, _ => exact write3 x w g gw l ht.2.2 hl hB hw
  | 4, _ => exact write4 x w g gw l ht.2.1 hl hB hw
  | 5, _ => exact write5 x w g gw l hn.2.2.2 hl hB hw
end Go.Proofs.YtdgbpmbknlhgmaaGreatDoor
