/-
The walks through answer.Put, answer.Get, answer.Encode, answer.Decode, changeoverref09.Bytes.
-/
import Derived.Test.YtdgbpmbknlhgmaaDoorAnsA
import Derived.Test.YtdgbpmbknlhgmaaDoorReadE
import Derived.Test.YtdgbpmbknlhgmaaDoorTail
set_option linter.unusedVariables false
set_option linter.unusedSimpArgs false
namespace Go.Proofs.YtdgbpmbknlhgmaaDoor
open Go.RowKit Qt Vm

/-- an answer's fields. -/
def ansF (v : Int) (cl sq er : Int) (fd : Bool) (vl : List UInt8) (rv : Int) : List Fv :=
  [.num cl.toNat, .num sq.toNat, .num er.toNat, .flag fd, .txt vl] ++ (if v = 1 then [] else [.num rv.toNat])
theorem ansF_one (cl sq er : Int) (fd : Bool) (vl : List UInt8) (rv : Int) : bytesOf (ansF 1 cl sq er fd vl rv) = ((((vb cl.toNat ++ vb sq.toNat) ++ vb er.toNat) ++ (Fv.flag fd).bytes) ++ (Fv.txt vl).bytes) := by
  simp [ansF, bytesOf, Fv.bytes]
theorem ansF_two {v : Int} (h : v ≠ 1) (cl sq er : Int) (fd : Bool) (vl : List UInt8) (rv : Int) : bytesOf (ansF v cl sq er fd vl rv) = (((((vb cl.toNat ++ vb sq.toNat) ++ vb er.toNat) ++ (Fv.flag fd).bytes) ++ (Fv.txt vl).bytes) ++ vb rv.toNat) := by
  simp [ansF, bytesOf, Fv.bytes, h]
theorem only_alloc' {w w' : World} {row : Option Nat} {o : Obj} (h : (w.alloc o).grownBy w' row) : w.grownBy w' row := only_trans (only_of_below ((Below.refl _ _).alloc (Nat.le_refl _) o) row) h
/-- a block that stands where a writer's does not. -/
theorem Blk.only {w w' : World} {b g : Nat} {t : TypeId} {cs : Array Value} (h : Blk w b t cs) (hg : w.grownBy w' (some g)) (hne : b ≠ g) : Blk w' b t cs := h.grown hg (fun e => hne (by cases e; rfl))

def accP (cl sq er : Int) : Nat → List UInt8
  | 0 => []
  | 1 => vb cl.toNat
  | 2 => vb cl.toNat ++ vb sq.toNat
  | _ => (vb cl.toNat ++ vb sq.toNat) ++ vb er.toNat
theorem accP_len (cl sq er : Int) (k : Nat) (h1 : (vb cl.toNat).length ≤ 9) (h2 : (vb sq.toNat).length ≤ 9) (h3 : (vb er.toNat).length ≤ 9) : (accP cl sq er k).length ≤ 27 := by
  match k with
  | 0 => exact Nat.zero_le _
  | 1 => show (vb cl.toNat).length ≤ 27; omega
  | 2 => show (vb cl.toNat ++ vb sq.toNat).length ≤ 27; rw [List.length_append]; omega
  | k + 3 => show ((vb cl.toNat ++ vb sq.toNat) ++ vb er.toNat).length ≤ 27; rw [List.length_append, List.length_append]; omega
set_option maxHeartbeats 4000000 in
set_option maxRecDepth 100000 in
theorem ansput_calls (g : Nat) (v : Int) (cl sq er : Int) (fd : Bool) (vl : List UInt8) (rv : Int) (w : World) (h : WrAt w g []) (hs : vl.length ≤ 90000) (hc : 0 ≤ cl ∧ cl < 9223372036854775808) (hq : 0 ≤ sq ∧ sq < 9223372036854775808) (he : 0 ≤ er ∧ er < 9223372036854775808) (hr : 0 ≤ rv ∧ rv < 9223372036854775808) :
    Calls Tryd.prog 34 #[.pointer (some ⟨g, 0, none⟩), .int .i64 v, .agg #[.int .i64 cl, .int .i64 sq, .int .i64 er, .bool fd, .string (str vl), .int .i64 rv]] w fun e w' => e = .returned (.tuple #[]) ∧ WrAt w' g (bytesOf (ansF v cl sq er fd vl rv)) ∧ w.grownBy w' (some g) := by
  have hg := h.lt
  have h0 := Lib.hid (h.alloc (.cells #[.int .i64 cl, .int .i64 sq, .int .i64 er, .bool fd, .string (str vl), .int .i64 rv] 38))
  have hB := Blk.new w 38 #[.int .i64 cl, .int .i64 sq, .int .i64 er, .bool fd, .string (str vl), .int .i64 rv]
  have hB0 := Lib.hid hB
  clear h hB
  have hl1 := vb_len9 (n := cl.toNat) (by omega)
  have hl2 := vb_len9 (n := sq.toNat) (by omega)
  have hl3 := vb_len9 (n := er.toNat) (by omega)
  go_enter Tryd.func34, Tryd.ntmps34
  go_wp2_with (fail)
  have i0 : ∀ w, (Instr.index 103 (.agg #[.int .i64 cl, .int .i64 sq, .int .i64 er]) (.int .i64 0)).run Tryd.prog w = .ok (.int .i64 cl) w := fun _ => by kernel_rfl
  have i1 : ∀ w, (Instr.index 103 (.agg #[.int .i64 cl, .int .i64 sq, .int .i64 er]) (.int .i64 1)).run Tryd.prog w = .ok (.int .i64 sq) w := fun _ => by kernel_rfl
  have i2 : ∀ w, (Instr.index 103 (.agg #[.int .i64 cl, .int .i64 sq, .int .i64 er]) (.int .i64 2)).run Tryd.prog w = .ok (.int .i64 er) w := fun _ => by kernel_rfl
  have hal := Lib.hid (fun k => accP_len cl sq er k hl1 hl2 hl3)
  go_loopw [15] (fun i wr => ∃ k : Nat, k ≤ 3 ∧ i = .int .i64 (k : Int) ∧ Hid (WrAt wr g (accP cl sq er k)) ∧ Hid (Blk wr w.heap.size 38 #[.int .i64 cl, .int .i64 sq, .int .i64 er, .bool fd, .string (str vl), .int .i64 rv]) ∧ Hid (w.grownBy wr (some g))) (fun i _ => 3 - (intOf i).toNat)
  case atStart => exact ⟨0, by omega, rfl, h0.out, hB0.out, only_alloc (only_refl _ _) _⟩
  case round =>
    obtain ⟨k, hk, rfl, hw, hB, hgr⟩ := hrel
    clear h0 hB0
    have hne : w.heap.size ≠ g := by omega
    have hcase : k = 0 ∨ k = 1 ∨ k = 2 ∨ k = 3 := by omega
    rcases hcase with rfl | rfl | rfl | rfl
    · have H := Lib.hid (number_calls g _ cl wr hc.1 hc.2 (by have := hal.out 0; omega) hw.out)
      go_wp2_with (fail)
      refine H.out.mono ?_
      rintro e w1 ⟨rfl, h1, hg1⟩
      have h1' : Hid (WrAt w1 g (accP cl sq er 1)) := h1
      have hg1' := Lib.hid hg1
      clear h1 hg1 H
      go_wp2_with (fail)
      go_roundw
      case rel => exact ⟨1, by omega, rfl, h1'.out, hB.out.only hg1'.out hne, only_trans hgr.out hg1'.out⟩
      case measure => simp [intOf]
    · have H := Lib.hid (number_calls g _ sq wr hq.1 hq.2 (by have := hal.out 1; omega) hw.out)
      go_wp2_with (fail)
      refine H.out.mono ?_
      rintro e w1 ⟨rfl, h1, hg1⟩
      have h1' : Hid (WrAt w1 g (accP cl sq er 2)) := h1
      have hg1' := Lib.hid hg1
      clear h1 hg1 H
      go_wp2_with (fail)
      go_roundw
      case rel => exact ⟨2, by omega, rfl, h1'.out, hB.out.only hg1'.out hne, only_trans hgr.out hg1'.out⟩
      case measure => simp [intOf]
    · have H := Lib.hid (number_calls g _ er wr he.1 he.2 (by have := hal.out 2; omega) hw.out)
      go_wp2_with (fail)
      refine H.out.mono ?_
      rintro e w1 ⟨rfl, h1, hg1⟩
      have h1' : Hid (WrAt w1 g (accP cl sq er 3)) := h1
      have hg1' := Lib.hid hg1
      clear h1 hg1 H
      go_wp2_with (fail)
      go_roundw
      case rel => exact ⟨3, by omega, rfl, h1'.out, hB.out.only hg1'.out hne, only_trans hgr.out hg1'.out⟩
      case measure => simp [intOf]
    · obtain ⟨kc, kf, hlt⟩ := hB.out.facts
      have hl27 := hal.out 3
      have H := Lib.hid (wflag_calls g _ fd wr (by omega) hw.out)
      go_wp2_with (fail)
      refine H.out.mono ?_
      rintro e w1 ⟨rfl, h1, hg1⟩
      have hB1 := Lib.hid (hB.out.only hg1 hne)
      have hg1' := Lib.hid (only_trans hgr.out hg1)
      have H2 := Lib.hid (wtext_calls g _ (str vl) w1 (by rw [List.length_append]; show _ + 1 ≤ _; omega) (by rw [str_size]; exact hs) h1)
      clear h1 hg1 H kc kf hlt
      obtain ⟨kc, kf, hlt⟩ := hB1.out.facts
      go_wp2_with (fail)
      refine H2.out.mono ?_
      rintro e w2 ⟨rfl, h2, hg2⟩
      rw [toL_str] at h2
      have hB2 := Lib.hid (hB1.out.only hg2 hne)
      have hg2' := Lib.hid (only_trans hg1'.out hg2)
      clear hg2 H2 kc kf hlt
      by_cases hv1 : v = 1
      · subst hv1
        have hfin := ansF_one cl sq er fd vl rv
        have h2' : Hid (WrAt w2 g (bytesOf (ansF 1 cl sq er fd vl rv))) := by show WrAt _ _ _; rw [hfin]; exact h2
        clear h2 hfin
        go_wp2_with (fail)
        go_end0
        exact ⟨rfl, h2'.out, hg2'.out⟩
      · have hfin := ansF_two hv1 cl sq er fd vl rv
        have t1 : (v == 1) = false := beq_eq_false_iff_ne.2 hv1
        have hvl9 := vb_len9 (n := vl.length) (by omega)
        obtain ⟨kc, kf, hlt⟩ := hB2.out.facts
        have H3 := number_calls g _ rv w2 hr.1 hr.2 (by
          rw [List.length_append, List.length_append]
          have e1 : (Fv.flag fd).bytes.length = 1 := rfl
          have e2 : (Fv.txt vl).bytes.length = (vb vl.length).length + vl.length := by simp [Fv.bytes]
          omega) h2
        have H3 := Lib.hid H3
        clear h2 hv1
        go_wp2_with (fail)
        refine H3.out.mono ?_
        rintro e w3 ⟨rfl, h3, hg3⟩
        have h3' : Hid (WrAt w3 g (bytesOf (ansF v cl sq er fd vl rv))) := by show WrAt _ _ _; rw [hfin]; exact h3
        have hg3' := Lib.hid (only_trans hg2'.out hg3)
        clear h3 hg3 hfin H3
        go_wp2_with (fail)
        go_end0
        exact ⟨rfl, h3'.out, hg3'.out⟩
end Go.Proofs.YtdgbpmbknlhgmaaDoor
