/-
The walks through answer.Text, changeoverref09.Text.
-/
import Derived.Test.YtdgbpmbknlhgmaaDoorDig
import Derived.Test.YtdgbpmbknlhgmaaDoorAnsF
set_option linter.unusedVariables false
set_option linter.unusedSimpArgs false
namespace Go.Proofs.YtdgbpmbknlhgmaaDoor
open Go.RowKit Qt Vm

theorem TxAt.made (w : World) (ws : List (List UInt8)) : TxAt (w.alloc (.cells (sc ws).toArray 9)) (some ⟨w.heap.size, 0, none⟩) ws.length ws := by
  refine ⟨by rw [sc_len]; omega, fun _ => ⟨_, rfl, by simp, fun j u hj => ?_⟩⟩
  have ha : Addr.add ⟨w.heap.size, 0, none⟩ j = ⟨w.heap.size, j, none⟩ := by unfold Addr.add; split <;> simp_all
  rw [ha, World.cell?_alloc_new, ← hj]; exact List.getElem?_toArray
def yn (b : Bool) : List UInt8 := if b then [121, 101, 115] else [110, 111]
theorem yn_true : yn true = [121, 101, 115] := rfl
theorem yn_false : yn false = [110, 111] := rfl
theorem yn_len (b : Bool) : (yn b).length ≤ 3 := by cases b <;> decide
theorem yn_word (b : Bool) : isWord (yn b) = true := by cases b <;> decide
/-- the words of an answer's text. -/
def ansW (cl sq er : Nat) (fd : Bool) (vl : List UInt8) (rv : Nat) : List (List UInt8) := [Lib.decDigits cl, Lib.decDigits sq, Lib.decDigits er, Lib.decDigits rv, yn fd, quote vl]
def ansT (cl sq er : Nat) (fd : Bool) (vl : List UInt8) (rv : Nat) : List UInt8 := Lib.join (ansW cl sq er fd vl rv) [32]
theorem ansT_len {cl sq er : Nat} {fd : Bool} {vl : List UInt8} {rv : Nat} (h1 : cl ≤ 9223372036854775807) (h2 : sq ≤ 9223372036854775807) (h3 : er ≤ 9223372036854775807) (h4 : rv ≤ 9223372036854775807) : (ansT cl sq er fd vl rv).length ≤ 4 * vl.length + 100 := by
  have := join_len (ansW cl sq er fd vl rv)
  have a1 := dec_len20 cl (by omega)
  have a2 := dec_len20 sq (by omega)
  have a3 := dec_len20 er (by omega)
  have a4 := dec_len20 rv (by omega)
  have a5 := yn_len fd
  have a6 := quote_len vl
  have e : (ansW cl sq er fd vl rv).flatten.length = (Lib.decDigits cl).length + (Lib.decDigits sq).length + (Lib.decDigits er).length + (Lib.decDigits rv).length + (yn fd).length + (quote vl).length := by
    simp [ansW]; omega
  have e2 : (ansW cl sq er fd vl rv).length = 6 := rfl
  unfold ansT
  omega
set_option maxHeartbeats 1000000 in
theorem found_calls (b : Bool) (w : World) :
    Calls Tryd.prog 83 #[.bool b] w fun e w' => e = .returned (.string (str (yn b))) ∧ Below w.heap.size w w' := by
  cases b
  · go_enter Tryd.func83, Tryd.ntmps83
    go_wp2
    go_ret
    exact ⟨rfl, Below.refl _ _⟩
  · go_enter Tryd.func83, Tryd.ntmps83
    go_wp2
    go_ret
    exact ⟨rfl, Below.refl _ _⟩

set_option maxHeartbeats 4000000 in
set_option maxRecDepth 100000 in
theorem anstext_ok (cl sq er : Nat) (fd : Bool) (vl : List UInt8) (rv : Nat) (w : World) (hv : AVars w) (h : ansE cl sq er vl rv = 0) :
    Calls Tryd.prog 43 #[.agg #[.int .i64 (cl : Int), .int .i64 (sq : Int), .int .i64 (er : Int), .bool fd, .string (str vl), .int .i64 (rv : Int)]] w fun e w' => e = .returned (.string (str (ansT cl sq er fd vl rv))) ∧ Below w.heap.size w w' := by
  obtain ⟨hn, hvl⟩ := ansE_zero h
  obtain ⟨b1, b2, b3, b4, b5, b6, b7, b8⟩ := numsB_bounds hn
  have hlen := isVal_len hvl
  have i1 : cl ≤ 9223372036854775807 := by omega
  have i2 : sq ≤ 9223372036854775807 := by omega
  have i3 : er ≤ 9223372036854775807 := by omega
  have i4 : rv ≤ 9223372036854775807 := by omega
  have i5 : (str vl).size ≤ 1000000 := by rw [str_size]; omega
  have HC := anscheck_calls cl sq er fd vl rv (w.alloc (.cells #[.int .i64 (cl : Int), .int .i64 (sq : Int), .int .i64 (er : Int), .bool fd, .string (str vl), .int .i64 (rv : Int)] 38)) (by omega) (hv.alloc _).q
  rw [h] at HC
  have HC := Lib.hid HC
  have hT : Hid (str (Lib.join [Lib.decDigits cl, Lib.decDigits sq, Lib.decDigits er, Lib.decDigits rv, yn fd, quote vl] [32]) = str (ansT cl sq er fd vl rv)) := rfl
  have hTl := ansT_len (fd := fd) (vl := vl) i1 i2 i3 i4
  have hTl : Hid ((Lib.join [Lib.decDigits cl, Lib.decDigits sq, Lib.decDigits er, Lib.decDigits rv, yn fd, quote vl] [32]).length ≤ 1000000) := by show _ ≤ _; unfold ansT ansW at hTl; omega
  have hv' := Lib.hid hv
  have hq : ∀ w1 : World, Lib.Utf8Tabs 0 1 w1 → Calls Tryd.prog 13 #[.string (str vl)] w1 fun e w' => e = .returned (.string (str (quote vl))) ∧ Below w1.heap.size w1 w' := fun w1 hT => by
    have := quote_calls (str vl) w1 i5 hT
    rwa [toL_str] at this
  have hq' := Lib.hid hq
  clear hv h hn hvl b1 b2 b3 b4 b5 b6 b7 b8 hq
  go_enter Tryd.func43, Tryd.ntmps43
  go_wp2_with (fail)
  refine HC.out.mono ?_
  rintro e w1 ⟨rfl, hb⟩
  have hB1 := (Blk.new w 38 #[.int .i64 (cl : Int), .int .i64 (sq : Int), .int .i64 (er : Int), .bool fd, .string (str vl), .int .i64 (rv : Int)]).call hb
  have hbw : Hid (Below w.heap.size w w1) := ((Below.refl _ _).alloc (Nat.le_refl _) _).trans (hb.mono (by simp))
  have hA : ∀ d os, Hid (AVars (Sort.grow (redrawn w1 d) os)) := fun d os => (hv'.out.below hbw.out).below (below_regrown w1 d os)
  have c0 : ∀ d os, (Sort.grow (redrawn w1 d) os).cell? ⟨w.heap.size, 0, none⟩ = some (.int .i64 (cl : Int)) := cell_regrown (hB1.cell 0)
  have c1 : ∀ d os, (Sort.grow (redrawn w1 d) os).cell? ⟨w.heap.size, 1, none⟩ = some (.int .i64 (sq : Int)) := cell_regrown (hB1.cell 1)
  have c2 : ∀ d os, (Sort.grow (redrawn w1 d) os).cell? ⟨w.heap.size, 2, none⟩ = some (.int .i64 (er : Int)) := cell_regrown (hB1.cell 2)
  have c3 : ∀ d os, (Sort.grow (redrawn w1 d) os).cell? ⟨w.heap.size, 3, none⟩ = some (.bool fd) := cell_regrown (hB1.cell 3)
  have c4 : ∀ d os, (Sort.grow (redrawn w1 d) os).cell? ⟨w.heap.size, 4, none⟩ = some (.string (str vl)) := cell_regrown (hB1.cell 4)
  have c5 : ∀ d os, (Sort.grow (redrawn w1 d) os).cell? ⟨w.heap.size, 5, none⟩ = some (.int .i64 (rv : Int)) := cell_regrown (hB1.cell 5)
  clear hb hB1 HC
  go_wp2_with (fail)
  refine wp_region_below_tail 22 (by kernel_rfl) (by kernel_rfl) ?_
  simp only [List.take_succ_cons, List.take_zero, List.drop_succ_cons, List.drop_zero]
  repeat (go_big_quiet_step ((first | (go_at_call 82; exact Calls.regrown_of (itoa_calls _ _ (by assumption) (hA _ _).out.t)) | (go_at_call 83; exact Calls.regrown_of (found_calls _ _)) | (go_at_call 13; exact Calls.regrown_of (hq'.out _ (hA _ _).out.q.tab)))))
  refine wpQuiet_nil ?_
  intro W2 hW2
  have hbw2 : Hid (Below w.heap.size w W2) := hbw.out.trans (hW2.mono hbw.out.size)
  clear c0 c1 c2 c3 c4 c5 hA
  go_wp2_with (fail)
  have hL := line_calls (some ⟨W2.heap.size, 0, none⟩) 6 6 [Lib.decDigits cl, Lib.decDigits sq, Lib.decDigits er, Lib.decDigits rv, yn fd, quote vl] _ (Nat.le_refl _) hTl.out (by omega) (TxAt.made W2 [Lib.decDigits cl, Lib.decDigits sq, Lib.decDigits er, Lib.decDigits rv, yn fd, quote vl])
  rw [hT.out] at hL
  refine hL.mono ?_
  rintro e w3 ⟨rfl, hb3⟩
  have hb3' : Hid (Below w.heap.size w w3) := (hbw2.out.alloc hbw2.out.size _).trans (hb3.mono (by simp; exact Nat.le_succ_of_le hbw2.out.size))
  clear hb3 hL
  go_wp2_with (fail)
  go_ret
  exact ⟨rfl, hb3'.out⟩

set_option maxHeartbeats 2000000 in
set_option maxRecDepth 100000 in
theorem anstext_no (cl sq er : Int) (fd : Bool) (vl : List UInt8) (rv : Int) (w : World) (hs : vl.length ≤ 1000000) (hv : AVars w) (h : ansE cl sq er vl rv ≠ 0) :
    Calls Tryd.prog 43 #[.agg #[.int .i64 cl, .int .i64 sq, .int .i64 er, .bool fd, .string (str vl), .int .i64 rv]] w fun e w' => e = .returned (.string ⟨#[]⟩) ∧ Below w.heap.size w w' := by
  have HC := Lib.hid (anscheck_calls cl sq er fd vl rv (w.alloc (.cells #[.int .i64 cl, .int .i64 sq, .int .i64 er, .bool fd, .string (str vl), .int .i64 rv] 38)) hs (hv.alloc _).q)
  have t1 : (ansE cl sq er vl rv == 0) = false := beq_eq_false_iff_ne.2 h
  clear hv h
  generalize ansE cl sq er vl rv = ae at *
  go_enter Tryd.func43, Tryd.ntmps43
  go_wp2_with (fail)
  refine HC.out.mono ?_
  rintro e w1 ⟨rfl, hb⟩
  have hbw : Hid (Below w.heap.size w w1) := ((Below.refl _ _).alloc (Nat.le_refl _) _).trans (hb.mono (by simp))
  clear hb HC
  go_wp2_with (fail)
  go_ret
  exact ⟨rfl, hbw.out⟩

theorem ansT_cat (cl sq er : Nat) (fd : Bool) (vl : List UInt8) (rv : Nat) :
    (((((((((str (Lib.decDigits cl) ++ (⟨#[32]⟩ : ByteArray)) ++ str (Lib.decDigits sq)) ++ (⟨#[32]⟩ : ByteArray)) ++ str (Lib.decDigits er)) ++ (⟨#[32]⟩ : ByteArray)) ++ str (Lib.decDigits rv)) ++ (⟨#[32]⟩ : ByteArray)) ++ str (yn fd)) ++ (⟨#[32]⟩ : ByteArray)) ++ str (quote vl) = str (ansT cl sq er fd vl rv) := by
  rw [show (⟨#[32]⟩ : ByteArray) = str [32] from rfl]
  simp only [str_append]
  congr 1
  simp [ansT, ansW, join_two, Lib.join_one]
set_option maxHeartbeats 4000000 in
set_option maxRecDepth 100000 in
theorem refanstext_calls (cl sq er : Nat) (fd : Bool) (vl : List UInt8) (rv : Nat) (w : World) (i1 : cl ≤ 9223372036854775807) (i2 : sq ≤ 9223372036854775807) (i3 : er ≤ 9223372036854775807) (i4 : rv ≤ 9223372036854775807) (hs : vl.length ≤ 1000000) :
    Calls Tryd.prog 41 #[.agg #[.int .i64 (cl : Int), .int .i64 (sq : Int), .int .i64 (er : Int), .bool fd, .string (str vl), .int .i64 (rv : Int)]] w fun e w' => e = .returned (.string (str (ansT cl sq er fd vl rv))) ∧ Below w.heap.size w w' := by
  have hcat := Lib.hid (ansT_cat cl sq er fd vl rv)
  have i5 : (str vl).size ≤ 1000000 := by rw [str_size]; omega
  have a1 : (str (Lib.decDigits cl)).size ≤ 20 := by rw [str_size]; exact dec_len20 cl (by omega)
  have a2 : (str (Lib.decDigits sq)).size ≤ 20 := by rw [str_size]; exact dec_len20 sq (by omega)
  have a3 : (str (Lib.decDigits er)).size ≤ 20 := by rw [str_size]; exact dec_len20 er (by omega)
  have a4 : (str (Lib.decDigits rv)).size ≤ 20 := by rw [str_size]; exact dec_len20 rv (by omega)
  have a6 : (str (quote vl)).size ≤ 4000002 := by rw [str_size]; have := quote_len vl; omega
  have z2 : (str (Lib.decDigits cl) ++ (⟨#[32]⟩ : ByteArray)).size ≤ 21 := by rw [ByteArray.size_append]; exact Nat.add_le_add a1 (Nat.le_refl 1)
  have z3 : ((str (Lib.decDigits cl) ++ (⟨#[32]⟩ : ByteArray)) ++ str (Lib.decDigits sq)).size ≤ 41 := by rw [ByteArray.size_append]; exact Nat.add_le_add z2 a2
  have z4 : (((str (Lib.decDigits cl) ++ (⟨#[32]⟩ : ByteArray)) ++ str (Lib.decDigits sq)) ++ (⟨#[32]⟩ : ByteArray)).size ≤ 42 := by rw [ByteArray.size_append]; exact Nat.add_le_add z3 (Nat.le_refl 1)
  have z5 : ((((str (Lib.decDigits cl) ++ (⟨#[32]⟩ : ByteArray)) ++ str (Lib.decDigits sq)) ++ (⟨#[32]⟩ : ByteArray)) ++ str (Lib.decDigits er)).size ≤ 62 := by rw [ByteArray.size_append]; exact Nat.add_le_add z4 a3
  have z6 : (((((str (Lib.decDigits cl) ++ (⟨#[32]⟩ : ByteArray)) ++ str (Lib.decDigits sq)) ++ (⟨#[32]⟩ : ByteArray)) ++ str (Lib.decDigits er)) ++ (⟨#[32]⟩ : ByteArray)).size ≤ 63 := by rw [ByteArray.size_append]; exact Nat.add_le_add z5 (Nat.le_refl 1)
  have z7 : ((((((str (Lib.decDigits cl) ++ (⟨#[32]⟩ : ByteArray)) ++ str (Lib.decDigits sq)) ++ (⟨#[32]⟩ : ByteArray)) ++ str (Lib.decDigits er)) ++ (⟨#[32]⟩ : ByteArray)) ++ str (Lib.decDigits rv)).size ≤ 83 := by rw [ByteArray.size_append]; exact Nat.add_le_add z6 a4
  have z8 : (((((((str (Lib.decDigits cl) ++ (⟨#[32]⟩ : ByteArray)) ++ str (Lib.decDigits sq)) ++ (⟨#[32]⟩ : ByteArray)) ++ str (Lib.decDigits er)) ++ (⟨#[32]⟩ : ByteArray)) ++ str (Lib.decDigits rv)) ++ (⟨#[32]⟩ : ByteArray)).size ≤ 84 := by rw [ByteArray.size_append]; exact Nat.add_le_add z7 (Nat.le_refl 1)
  have hq : ∀ w1 : World, Calls Tryd.prog 15 #[.string (str vl)] w1 fun e w' => e = .returned (.string (str (quote vl))) ∧ Below w1.heap.size w1 w' := fun w1 => by
    have := refQuote_calls (str vl) w1 i5
    rwa [toL_str] at this
  have hq' := Lib.hid hq
  obtain ⟨W, hW⟩ : ∃ W, W = w.alloc (.cells #[.int .i64 (cl : Int), .int .i64 (sq : Int), .int .i64 (er : Int), .bool fd, .string (str vl), .int .i64 (rv : Int)] 38) := ⟨_, rfl⟩
  have hbW : Hid (Below w.heap.size w W) := by subst hW; exact (Below.refl _ _).alloc (Nat.le_refl _) _
  have hB : Blk W w.heap.size 38 #[.int .i64 (cl : Int), .int .i64 (sq : Int), .int .i64 (er : Int), .bool fd, .string (str vl), .int .i64 (rv : Int)] := by subst hW; exact Blk.new _ _ _
  have c0 : ∀ d os, (Sort.grow (redrawn W d) os).cell? ⟨w.heap.size, 0, none⟩ = some (.int .i64 (cl : Int)) := cell_regrown (hB.cell 0)
  have c1 : ∀ d os, (Sort.grow (redrawn W d) os).cell? ⟨w.heap.size, 1, none⟩ = some (.int .i64 (sq : Int)) := cell_regrown (hB.cell 1)
  have c2 : ∀ d os, (Sort.grow (redrawn W d) os).cell? ⟨w.heap.size, 2, none⟩ = some (.int .i64 (er : Int)) := cell_regrown (hB.cell 2)
  have c4 : ∀ d os, (Sort.grow (redrawn W d) os).cell? ⟨w.heap.size, 4, none⟩ = some (.string (str vl)) := cell_regrown (hB.cell 4)
  have c5 : ∀ d os, (Sort.grow (redrawn W d) os).cell? ⟨w.heap.size, 5, none⟩ = some (.int .i64 (rv : Int)) := cell_regrown (hB.cell 5)
  clear hq hB
  cases fd
  · have z9 : ((((((((str (Lib.decDigits cl) ++ (⟨#[32]⟩ : ByteArray)) ++ str (Lib.decDigits sq)) ++ (⟨#[32]⟩ : ByteArray)) ++ str (Lib.decDigits er)) ++ (⟨#[32]⟩ : ByteArray)) ++ str (Lib.decDigits rv)) ++ (⟨#[32]⟩ : ByteArray)) ++ (⟨#[110, 111]⟩ : ByteArray)).size ≤ 86 := by rw [ByteArray.size_append]; exact Nat.add_le_add z8 (Nat.le_refl 2)
    have z10 : (((((((((str (Lib.decDigits cl) ++ (⟨#[32]⟩ : ByteArray)) ++ str (Lib.decDigits sq)) ++ (⟨#[32]⟩ : ByteArray)) ++ str (Lib.decDigits er)) ++ (⟨#[32]⟩ : ByteArray)) ++ str (Lib.decDigits rv)) ++ (⟨#[32]⟩ : ByteArray)) ++ (⟨#[110, 111]⟩ : ByteArray)) ++ (⟨#[32]⟩ : ByteArray)).size ≤ 87 := by rw [ByteArray.size_append]; exact Nat.add_le_add z9 (Nat.le_refl 1)
    go_enter Tryd.func41, Tryd.ntmps41
    go_wp2_with (fail)
    rw [← hW]
    clear hW
    refine wp_region_quiet_below (by kernel_rfl) (by kernel_rfl) ?_
    repeat (go_big_quiet_step ((first | (go_at_call 79; exact Calls.regrown_of (digits_below _ _ (by assumption))) | (go_at_call 15; exact Calls.regrown_of (hq'.out _)))))
    refine wpQuiet_nil ?_
    intro _ hw'
    obtain ⟨⟨dq, osq⟩, hw''⟩ := hw'
    subst hw''
    clear c0 c1 c2 c4 c5
    go_wp2_with (fail)
    go_ret
    exact ⟨ret_str (by rw [← hcat.out]; rfl), hbW.out.trans ((below_regrown W dq osq).mono hbW.out.size)⟩
  · have z9 : ((((((((str (Lib.decDigits cl) ++ (⟨#[32]⟩ : ByteArray)) ++ str (Lib.decDigits sq)) ++ (⟨#[32]⟩ : ByteArray)) ++ str (Lib.decDigits er)) ++ (⟨#[32]⟩ : ByteArray)) ++ str (Lib.decDigits rv)) ++ (⟨#[32]⟩ : ByteArray)) ++ (⟨#[121, 101, 115]⟩ : ByteArray)).size ≤ 87 := by rw [ByteArray.size_append]; exact Nat.add_le_add z8 (Nat.le_refl 3)
    have z10 : (((((((((str (Lib.decDigits cl) ++ (⟨#[32]⟩ : ByteArray)) ++ str (Lib.decDigits sq)) ++ (⟨#[32]⟩ : ByteArray)) ++ str (Lib.decDigits er)) ++ (⟨#[32]⟩ : ByteArray)) ++ str (Lib.decDigits rv)) ++ (⟨#[32]⟩ : ByteArray)) ++ (⟨#[121, 101, 115]⟩ : ByteArray)) ++ (⟨#[32]⟩ : ByteArray)).size ≤ 88 := by rw [ByteArray.size_append]; exact Nat.add_le_add z9 (Nat.le_refl 1)
    go_enter Tryd.func41, Tryd.ntmps41
    go_wp2_with (fail)
    rw [← hW]
    clear hW
    refine wp_region_quiet_below (by kernel_rfl) (by kernel_rfl) ?_
    repeat (go_big_quiet_step ((first | (go_at_call 79; exact Calls.regrown_of (digits_below _ _ (by assumption))) | (go_at_call 15; exact Calls.regrown_of (hq'.out _)))))
    refine wpQuiet_nil ?_
    intro _ hw'
    obtain ⟨⟨dq, osq⟩, hw''⟩ := hw'
    subst hw''
    clear c0 c1 c2 c4 c5
    go_wp2_with (fail)
    go_ret
    exact ⟨ret_str (by rw [← hcat.out]; rfl), hbW.out.trans ((below_regrown W dq osq).mono hbW.out.size)⟩
end Go.Proofs.YtdgbpmbknlhgmaaDoor
