/-
The walks through answer.Put, answer.Get, answer.Encode, answer.Decode, changeoverref09.Bytes.
The walks through changeoverref09.Bytes, answer.Get.
-/
import Derived.Test.YtdgbpmbknlhgmaaDoorAnsA
import Derived.Test.YtdgbpmbknlhgmaaDoorReadE
import Derived.Test.YtdgbpmbknlhgmaaDoorTail
set_option linter.unusedVariables false
set_option linter.unusedSimpArgs false
namespace Go.Proofs.YtdgbpmbknlhgmaaDoor
open Go.RowKit Qt Vm

/-- an answer's fields. -/
def ansF (v : Int) (cl sq er : Int) (fd : Bool) (vl : List UInt8) (rv : Int) : List Fv :=
  [.num cl.toNat, .num sq.toNat, .num er.toNat, .flag fd, .txt vl] ++ (if v = 1 then [] else [.num rv.toNat])
theorem ansF_one (cl sq er : Int) (fd : Bool) (vl : List UInt8) (rv : Int) : bytesOf (ansF 1 cl sq er fd vl rv) = ((((vb cl.toNat ++ vb sq.toNat) ++ vb er.toNat) ++ (Fv.flag fd).bytes) ++ (Fv.txt vl).bytes) := by
  simp [ansF, bytesOf, Fv.bytes]
theorem ansF_two {v : Int} (h : v ≠ 1) (cl sq er : Int) (fd : Bool) (vl : List UInt8) (rv : Int) : bytesOf (ansF v cl sq er fd vl rv) = (((((vb cl.toNat ++ vb sq.toNat) ++ vb er.toNat) ++ (Fv.flag fd).bytes) ++ (Fv.txt vl).bytes) ++ vb rv.toNat) := by
  simp [ansF, bytesOf, Fv.bytes, h]
theorem only_alloc' {w w' : World} {row : Option Nat} {o : Obj} (h : (w.alloc o).grownBy w' row) : w.grownBy w' row := only_trans (only_of_below ((Below.refl _ _).alloc (Nat.le_refl _) o) row) h
/-- a block that stands where a writer's does not. -/
theorem Blk.only {w w' : World} {b g : Nat} {t : TypeId} {cs : Array Value} (h : Blk w b t cs) (hg : w.grownBy w' (some g)) (hne : b ≠ g) : Blk w' b t cs := h.grown hg (fun e => hne (by cases e; rfl))

def accP (cl sq er : Int) : Nat → List UInt8
  | 0 => []
  | 1 => vb cl.toNat
  | 2 => vb cl.toNat ++ vb sq.toNat
  | _ => (vb cl.toNat ++ vb sq.toNat) ++ vb er.toNat
theorem accP_len (cl sq er : Int) (k : Nat) (h1 : (vb cl.toNat).length ≤ 9) (h2 : (vb sq.toNat).length ≤ 9) (h3 : (vb er.toNat).length ≤ 9) : (accP cl sq er k).length ≤ 27 := by
  match k with
  | 0 => exact Nat.zero_le _
  | 1 => show (vb cl.toNat).length ≤ 27; omega
  | 2 => show (vb cl.toNat ++ vb sq.toNat).length ≤ 27; rw [List.length_append]; omega
  | k + 3 => show ((vb cl.toNat ++ vb sq.toNat) ++ vb er.toNat).length ≤ 27; rw [List.length_append, List.length_append]; omega
set_option maxHeartbeats 4000000 in
set_option maxRecDepth 100000 in
theorem ansput_calls (g : Nat) (v : Int) (cl sq er : Int) (fd : Bool) (vl : List UInt8) (rv : Int) (w : World) (h : WrAt w g []) (hs : vl.length ≤ 90000) (hc : 0 ≤ cl ∧ cl < 9223372036854775808) (hq : 0 ≤ sq ∧ sq < 9223372036854775808) (he : 0 ≤ er ∧ er < 9223372036854775808) (hr : 0 ≤ rv ∧ rv < 9223372036854775808) :
    Calls Tryd.prog 34 #[.pointer (some ⟨g, 0, none⟩), .int .i64 v, .agg #[.int .i64 cl, .int .i64 sq, .int .i64 er, .bool fd, .string (str vl), .int .i64 rv]] w fun e w' => e = .returned (.tuple #[]) ∧ WrAt w' g (bytesOf (ansF v cl sq er fd vl rv)) ∧ w.grownBy w' (some g) := by
  have hg := h.lt
  have h0 := Lib.hid (h.alloc (.cells #[.int .i64 cl, .int .i64 sq, .int .i64 er, .bool fd, .string (str vl), .int .i64 rv] 38))
  have hB := Blk.new w 38 #[.int .i64 cl, .int .i64 sq, .int .i64 er, .bool fd, .string (str vl), .int .i64 rv]
  have hB0 := Lib.hid hB
  clear h hB
  have hl1 := vb_len9 (n := cl.toNat) (by omega)
  have hl2 := vb_len9 (n := sq.toNat) (by omega)
  have hl3 := vb_len9 (n := er.toNat) (by omega)
  go_enter Tryd.func34, Tryd.ntmps34
  go_wp2_with (fail)
  have i0 : ∀ w, (Instr.index 103 (.agg #[.int .i64 cl, .int .i64 sq, .int .i64 er]) (.int .i64 0)).run Tryd.prog w = .ok (.int .i64 cl) w := fun _ => by kernel_rfl
  have i1 : ∀ w, (Instr.index 103 (.agg #[.int .i64 cl, .int .i64 sq, .int .i64 er]) (.int .i64 1)).run Tryd.prog w = .ok (.int .i64 sq) w := fun _ => by kernel_rfl
  have i2 : ∀ w, (Instr.index 103 (.agg #[.int .i64 cl, .int .i64 sq, .int .i64 er]) (.int .i64 2)).run Tryd.prog w = .ok (.int .i64 er) w := fun _ => by kernel_rfl
  have hal := Lib.hid (fun k => accP_len cl sq er k hl1 hl2 hl3)
  go_loopw [15] (fun i wr => ∃ k : Nat, k ≤ 3 ∧ i = .int .i64 (k : Int) ∧ Hid (WrAt wr g (accP cl sq er k)) ∧ Hid (Blk wr w.heap.size 38 #[.int .i64 cl, .int .i64 sq, .int .i64 er, .bool fd, .string (str vl), .int .i64 rv]) ∧ Hid (w.grownBy wr (some g))) (fun i _ => 3 - (intOf i).toNat)
  case atStart => exact ⟨0, by omega, rfl, h0.out, hB0.out, only_alloc (only_refl _ _) _⟩
  case round =>
    obtain ⟨k, hk, rfl, hw, hB, hgr⟩ := hrel
    clear h0 hB0
    have hne : w.heap.size ≠ g := by omega
    have hcase : k = 0 ∨ k = 1 ∨ k = 2 ∨ k = 3 := by omega
    rcases hcase with rfl | rfl | rfl | rfl
    · have H := Lib.hid (number_calls g _ cl wr hc.1 hc.2 (by have := hal.out 0; omega) hw.out)
      go_wp2_with (fail)
      refine H.out.mono ?_
      rintro e w1 ⟨rfl, h1, hg1⟩
      have h1' : Hid (WrAt w1 g (accP cl sq er 1)) := h1
      have hg1' := Lib.hid hg1
      clear h1 hg1 H
      go_wp2_with (fail)
      go_roundw
      case rel => exact ⟨1, by omega, rfl, h1'.out, hB.out.only hg1'.out hne, only_trans hgr.out hg1'.out⟩
      case measure => simp [intOf]
    · have H := Lib.hid (number_calls g _ sq wr hq.1 hq.2 (by have := hal.out 1; omega) hw.out)
      go_wp2_with (fail)
      refine H.out.mono ?_
      rintro e w1 ⟨rfl, h1, hg1⟩
      have h1' : Hid (WrAt w1 g (accP cl sq er 2)) := h1
      have hg1' := Lib.hid hg1
      clear h1 hg1 H
      go_wp2_with (fail)
      go_roundw
      case rel => exact ⟨2, by omega, rfl, h1'.out, hB.out.only hg1'.out hne, only_trans hgr.out hg1'.out⟩
      case measure => simp [intOf]
    · have H := Lib.hid (number_calls g _ er wr he.1 he.2 (by have := hal.out 2; omega) hw.out)
      go_wp2_with (fail)
      refine H.out.mono ?_
      rintro e w1 ⟨rfl, h1, hg1⟩
      have h1' : Hid (WrAt w1 g (accP cl sq er 3)) := h1
      have hg1' := Lib.hid hg1
      clear h1 hg1 H
      go_wp2_with (fail)
      go_roundw
      case rel => exact ⟨3, by omega, rfl, h1'.out, hB.out.only hg1'.out hne, only_trans hgr.out hg1'.out⟩
      case measure => simp [intOf]
    · obtain ⟨kc, kf, hlt⟩ := hB.out.facts
      have hl27 := hal.out 3
      have H := Lib.hid (wflag_calls g _ fd wr (by omega) hw.out)
      go_wp2_with (fail)
      refine H.out.mono ?_
      rintro e w1 ⟨rfl, h1, hg1⟩
      have hB1 := Lib.hid (hB.out.only hg1 hne)
      have hg1' := Lib.hid (only_trans hgr.out hg1)
      have H2 := Lib.hid (wtext_calls g _ (str vl) w1 (by rw [List.length_append]; show _ + 1 ≤ _; omega) (by rw [str_size]; exact hs) h1)
      clear h1 hg1 H kc kf hlt
      obtain ⟨kc, kf, hlt⟩ := hB1.out.facts
      go_wp2_with (fail)
      refine H2.out.mono ?_
      rintro e w2 ⟨rfl, h2, hg2⟩
      rw [toL_str] at h2
      have hB2 := Lib.hid (hB1.out.only hg2 hne)
      have hg2' := Lib.hid (only_trans hg1'.out hg2)
      clear hg2 H2 kc kf hlt
      by_cases hv1 : v = 1
      · subst hv1
        have hfin := ansF_one cl sq er fd vl rv
        have h2' : Hid (WrAt w2 g (bytesOf (ansF 1 cl sq er fd vl rv))) := by show WrAt _ _ _; rw [hfin]; exact h2
        clear h2 hfin
        go_wp2_with (fail)
        go_end0
        exact ⟨rfl, h2'.out, hg2'.out⟩
      · have hfin := ansF_two hv1 cl sq er fd vl rv
        have t1 : (v == 1) = false := beq_eq_false_iff_ne.2 hv1
        have hvl9 := vb_len9 (n := vl.length) (by omega)
        obtain ⟨kc, kf, hlt⟩ := hB2.out.facts
        have H3 := number_calls g _ rv w2 hr.1 hr.2 (by
          rw [List.length_append, List.length_append]
          have e1 : (Fv.flag fd).bytes.length = 1 := rfl
          have e2 : (Fv.txt vl).bytes.length = (vb vl.length).length + vl.length := by simp [Fv.bytes]
          omega) h2
        have H3 := Lib.hid H3
        clear h2 hv1
        go_wp2_with (fail)
        refine H3.out.mono ?_
        rintro e w3 ⟨rfl, h3, hg3⟩
        have h3' : Hid (WrAt w3 g (bytesOf (ansF v cl sq er fd vl rv))) := by show WrAt _ _ _; rw [hfin]; exact h3
        have hg3' := Lib.hid (only_trans hg2'.out hg3)
        clear h3 hg3 hfin H3
        go_wp2_with (fail)
        go_end0
        exact ⟨rfl, h3'.out, hg3'.out⟩
end Go.Proofs.YtdgbpmbknlhgmaaDoor
set_option linter.unusedVariables false
set_option linter.unusedSimpArgs false
namespace Go.Proofs.YtdgbpmbknlhgmaaDoor
open Go.RowKit Qt Vm

theorem own_mono {w : World} {base base' : Nat} {e : TypeId} {size n : Nat} {v : Value} {xs : List Value} (h : w.ownsRow base e size v n xs) (hb : base' ≤ base) : w.ownsRow base' e size v n xs :=
  ⟨h.1, h.2.imp id fun ⟨g, cap, cur, h1, h2, h3⟩ => ⟨g, cap, cur, h1, Nat.le_trans hb h2, h3⟩⟩
/-- bytes of the call's own, so far. -/
def Sofar (w w' : World) (A : Option Addr) (n c : Nat) (l : List UInt8) : Prop := w'.ownsRow w.heap.size 5 1 (.slice A n c) n (Lib.byteCells l) ∧ Below w.heap.size w w'
theorem Sofar.call {w w1 w2 : World} {A : Option Addr} {n c : Nat} {l : List UInt8} (h : Sofar w w1 A n c l) (hb : Below w1.heap.size w1 w2) : Sofar w w2 A n c l := ⟨own_below h.1 hb, h.2.trans (hb.mono h.2.size)⟩
theorem Sofar.len {w w1 : World} {A : Option Addr} {n c : Nat} {l : List UInt8} (h : Sofar w w1 A n c l) : l.length = n := (BAt.own h.1).len

theorem Sofar.append {w w2 w3 : World} {A : Option Addr} {n c k : Nat} {l x : List UInt8} {v' : Value} (S : Sofar w w2 A n c l) (ho : w3.ownsRow w.heap.size 5 1 v' (n + k) (Lib.byteCells l ++ Lib.byteCells x)) (hg : w2.grownBy w3 (Value.slice A n c).ownBlock) :
    ∃ A' c', v' = .slice A' (n + k) c' ∧ Sofar w w3 A' (n + k) c' (l ++ x) := by
  obtain ⟨A', c', rfl⟩ := own_form ho
  exact ⟨A', c', rfl, by rw [Lib.byteCells_append]; exact ho, S.2.grown hg S.2.size (fun k hk => (S.1.lt k hk).1)⟩
theorem Sofar.done {w W w' : World} {A : Option Addr} {n c : Nat} {l : List UInt8} (S : Sofar W w' A n c l) (h : Below w.heap.size w W) : w'.ownsRow w.heap.size 5 1 (.slice A n c) n (Lib.byteCells l) ∧ Below w.heap.size w w' := ⟨own_mono S.1 h.size, h.trans (S.2.mono h.size)⟩

set_option maxHeartbeats 4000000 in
set_option maxRecDepth 100000 in
theorem refansbytes_calls (v : Int) (cl sq er : Nat) (fd : Bool) (vl : List UInt8) (rv : Nat) (w : World) (hv : v = 1 ∨ v = 2) (hs : vl.length ≤ 90000) (hc : cl < 9223372036854775808) (hq : sq < 9223372036854775808) (he : er < 9223372036854775808) (hr : rv < 9223372036854775808) :
    Calls Tryd.prog 25 #[.int .i64 v, .agg #[.int .i64 (cl : Int), .int .i64 (sq : Int), .int .i64 (er : Int), .bool fd, .string (str vl), .int .i64 (rv : Int)]] w fun e w' => ∃ B k d, e = .returned (.slice B k d) ∧ w'.ownsRow w.heap.size 5 1 (.slice B k d) k (Lib.byteCells (bytesOf (ansF v cl sq er fd vl rv))) ∧ Below w.heap.size w w' := by
  obtain ⟨i0, hi, hz0, hz1, hz2⟩ := info_parts bByte
  have hl1 := vb_len9 hc
  have hl2 := vb_len9 hq
  have hl3 := vb_len9 he
  have hl4 := vb_len9 (n := vl.length) (by omega)
  have hl5 := vb_len9 hr
  have lf : (Fv.flag fd).bytes.length = 1 := rfl
  have lt : (Fv.txt vl).bytes.length = (vb vl.length).length + vl.length := by simp [Fv.bytes]
  have hf1 : Hid (bytesOf (ansF 1 cl sq er fd vl rv) = ((((vb cl ++ vb sq) ++ vb er) ++ (Fv.flag fd).bytes) ++ (Fv.txt vl).bytes)) := by show _ = _; rw [ansF_one]; rfl
  have hf2 : Hid (bytesOf (ansF 2 cl sq er fd vl rv) = (((((vb cl ++ vb sq) ++ vb er) ++ (Fv.flag fd).bytes) ++ (Fv.txt vl).bytes) ++ vb rv)) := by show _ = _; rw [ansF_two (by omega)]; rfl
  have lt2 : (Fv.txt vl).bytes.length ≤ 90009 := by omega
  have H1 := fun w1 => refBytes_calls cl w1 hc
  have H2 := fun w1 => refBytes_calls sq w1 hq
  have H3 := fun w1 => refBytes_calls er w1 he
  have H4 := fun w1 => refFlag_calls fd w1
  have H5 := fun w1 => refText_calls (str vl) w1 (by rw [str_size]; omega)
  have H6 := fun w1 => refBytes_calls rv w1 hr
  rw [toL_str] at H5
  have H1 := Lib.hid H1
  have H2 := Lib.hid H2
  have H3 := Lib.hid H3
  have H4 := Lib.hid H4
  have H5 := Lib.hid H5
  have H6 := Lib.hid H6
  obtain ⟨W, hW⟩ : ∃ W, W = w.alloc (.cells #[.int .i64 (cl : Int), .int .i64 (sq : Int), .int .i64 (er : Int), .bool fd, .string (str vl), .int .i64 (rv : Int)] 38) := ⟨_, rfl⟩
  have hB : Hid (Blk W w.heap.size 38 #[.int .i64 (cl : Int), .int .i64 (sq : Int), .int .i64 (er : Int), .bool fd, .string (str vl), .int .i64 (rv : Int)]) := by subst hW; exact Blk.new _ _ _
  have hbW : Hid (Below w.heap.size w W) := by subst hW; exact (Below.refl _ _).alloc (Nat.le_refl _) _
  generalize (Fv.flag fd).bytes = bf at *
  generalize (Fv.txt vl).bytes = bt at *
  go_enter Tryd.func25, Tryd.ntmps25
  go_wp2_with (fail)
  rw [← hW]
  refine (H1.out _).mono ?_
  rintro e w1 ⟨A1, n1, c1, rfl, ho, hb⟩
  have S1 : Hid (Sofar W w1 A1 n1 c1 (vb cl)) := ⟨ho, hb⟩
  have hn1 : n1 ≤ 9 := by have := S1.out.len; omega
  obtain ⟨kc, kf, hlt⟩ := (hB.out.call hb).facts
  clear ho hb hW
  go_wp2_with (fail)
  refine (H2.out _).mono ?_
  rintro e w2 ⟨B, k, d, rfl, ho, hb⟩
  have hk : k ≤ 9 := by have := (BAt.own ho).len; omega
  have S0 := S1.out.call hb
  have hz := S0.2.size
  clear kc kf hlt hb S1
  go_wp2_with (at_builtin; refine wpList_append_any _ rfl _ _ 36 rfl W.heap.size 5 i0 _ 1 1 Tryd.underlying36 hi hz0 hz1 hz2 rfl (by omega) (.slice A1 n1 c1) n1 _ rfl S0.1 w2.heap.size B k d _ rfl (BAt.own ho) (bytes_one _) (by simp only [maxLen]; omega) (by omega) hz ?_)
  intro v' x2 ho3 hg3 _
  obtain ⟨A2, c2, rfl, Sx⟩ := S0.append ho3 hg3
  obtain ⟨kc, kf, hlt⟩ := (hB.out.call Sx.2).facts
  obtain ⟨L2, E2, S2⟩ : ∃ L, Hid (L = vb cl ++ vb sq) ∧ Hid (Sofar W x2 A2 (n1 + k) c2 L) := ⟨_, rfl, Sx⟩
  have hn2 : n1 + k ≤ 18 := by omega
  clear S0 Sx ho ho3 hg3 hz hk hn1
  generalize n1 + k = n2 at *
  go_wp2_with (fail)
  refine (H3.out _).mono ?_
  rintro e w3 ⟨B, k, d, rfl, ho, hb⟩
  have hk : k ≤ 9 := by have := (BAt.own ho).len; omega
  have S0 := S2.out.call hb
  have hz := S0.2.size
  clear kc kf hlt hb S2
  go_wp2_with (at_builtin; refine wpList_append_any _ rfl _ _ 36 rfl W.heap.size 5 i0 _ 1 1 Tryd.underlying36 hi hz0 hz1 hz2 rfl (by omega) (.slice A2 n2 c2) n2 _ rfl S0.1 w3.heap.size B k d _ rfl (BAt.own ho) (bytes_one _) (by simp only [maxLen]; omega) (by omega) hz ?_)
  intro v' x3 ho3 hg3 _
  obtain ⟨A3, c3, rfl, Sx⟩ := S0.append ho3 hg3
  obtain ⟨kc, kf, hlt⟩ := (hB.out.call Sx.2).facts
  obtain ⟨L3, E3, S3⟩ : ∃ L, Hid (L = L2 ++ vb er) ∧ Hid (Sofar W x3 A3 (n2 + k) c3 L) := ⟨_, rfl, Sx⟩
  have hn3 : n2 + k ≤ 27 := by omega
  clear S0 Sx ho ho3 hg3 hz hk hn2
  generalize n2 + k = n3 at *
  go_wp2_with (fail)
  refine (H4.out _).mono ?_
  rintro e w4 ⟨B, k, d, rfl, ho, hb⟩
  have hk : k ≤ 1 := by have := (BAt.own ho).len; omega
  have S0 := S3.out.call hb
  have hz := S0.2.size
  clear kc kf hlt hb S3
  go_wp2_with (at_builtin; refine wpList_append_any _ rfl _ _ 36 rfl W.heap.size 5 i0 _ 1 1 Tryd.underlying36 hi hz0 hz1 hz2 rfl (by omega) (.slice A3 n3 c3) n3 _ rfl S0.1 w4.heap.size B k d _ rfl (BAt.own ho) (bytes_one _) (by simp only [maxLen]; omega) (by omega) hz ?_)
  intro v' x4 ho3 hg3 _
  obtain ⟨A4, c4, rfl, Sx⟩ := S0.append ho3 hg3
  obtain ⟨kc, kf, hlt⟩ := (hB.out.call Sx.2).facts
  obtain ⟨L4, E4, S4⟩ : ∃ L, Hid (L = L3 ++ bf) ∧ Hid (Sofar W x4 A4 (n3 + k) c4 L) := ⟨_, rfl, Sx⟩
  have hn4 : n3 + k ≤ 28 := by omega
  clear S0 Sx ho ho3 hg3 hz hk hn3
  generalize n3 + k = n4 at *
  go_wp2_with (fail)
  refine (H5.out _).mono ?_
  rintro e w5 ⟨B, k, d, rfl, ho, hb⟩
  have hk : k ≤ 90009 := by have := (BAt.own ho).len; omega
  have S0 := S4.out.call hb
  have hz := S0.2.size
  clear kc kf hlt hb S4
  go_wp2_with (at_builtin; refine wpList_append_any _ rfl _ _ 36 rfl W.heap.size 5 i0 _ 1 1 Tryd.underlying36 hi hz0 hz1 hz2 rfl (by omega) (.slice A4 n4 c4) n4 _ rfl S0.1 w5.heap.size B k d _ rfl (BAt.own ho) (bytes_one _) (by simp only [maxLen]; omega) (by omega) hz ?_)
  intro v' x5 ho3 hg3 _
  obtain ⟨A5, c5, rfl, Sx⟩ := S0.append ho3 hg3
  obtain ⟨kc, kf, hlt⟩ := (hB.out.call Sx.2).facts
  obtain ⟨L5, E5, S5⟩ : ∃ L, Hid (L = L4 ++ bt) ∧ Hid (Sofar W x5 A5 (n4 + k) c5 L) := ⟨_, rfl, Sx⟩
  have hn5 : n4 + k ≤ 90037 := by omega
  clear S0 Sx ho ho3 hg3 hz hk hn4
  generalize n4 + k = n5 at *
  rcases hv with rfl | rfl
  · go_wp2_with (fail)
    go_ret
    exact ⟨A5, n5, c5, rfl, by rw [hf1.out, ← E2.out, ← E3.out, ← E4.out, ← E5.out]; exact (S5.out.done hbW.out).1, (S5.out.done hbW.out).2⟩
  · go_wp2_with (fail)
    refine (H6.out _).mono ?_
    rintro e w6 ⟨B, k, d, rfl, ho, hb⟩
    have hk : k ≤ 9 := by have := (BAt.own ho).len; omega
    have S0 := S5.out.call hb
    have hz := S0.2.size
    clear kc kf hlt hb S5
    go_wp2_with (at_builtin; refine wpList_append_any _ rfl _ _ 36 rfl W.heap.size 5 i0 _ 1 1 Tryd.underlying36 hi hz0 hz1 hz2 rfl (by omega) (.slice A5 n5 c5) n5 _ rfl S0.1 w6.heap.size B k d _ rfl (BAt.own ho) (bytes_one _) (by simp only [maxLen]; omega) (by omega) hz ?_)
    intro v' x6 ho3 hg3 _
    obtain ⟨A6, c6, rfl, Sx⟩ := S0.append ho3 hg3
    obtain ⟨kc, kf, hlt⟩ := (hB.out.call Sx.2).facts
    obtain ⟨L6, E6, S6⟩ : ∃ L, Hid (L = L5 ++ vb rv) ∧ Hid (Sofar W x6 A6 (n5 + k) c6 L) := ⟨_, rfl, Sx⟩
    have hn6 : n5 + k ≤ 90046 := by omega
    clear S0 Sx ho ho3 hg3 hz hk hn5
    generalize n5 + k = n6 at *
    go_wp2_with (fail)
    go_ret
    exact ⟨A6, n6, c6, rfl, by rw [hf2.out, ← E2.out, ← E3.out, ← E4.out, ← E5.out, ← E6.out]; exact (S6.out.done hbW.out).1, (S6.out.done hbW.out).2⟩
end Go.Proofs.YtdgbpmbknlhgmaaDoor
